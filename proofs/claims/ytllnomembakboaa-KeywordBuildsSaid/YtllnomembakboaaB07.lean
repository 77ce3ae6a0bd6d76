/- Joined: Kj Nh Ni Kk Kl Om. -/
import Derived.Test.YtllnomembakboaaB05
import Derived.Test.YtllnomembakboaaB06
namespace Go.Proofs.Ytllnomembakboaa
open Go.RowKit

theorem own_max {w : World} {base e size n : Nat} {v : Value} {xs : List Value} (h : w.ownsRow base e size v n xs) : n ≤ 9223372036854775807 := by
  rcases h.2 with ⟨rfl, rfl⟩ | ⟨g, cap, cur, rfl, _, _, h1, h2, _⟩
  · omega
  · unfold maxLen at h2; omega
theorem IN.cells {base GI S N B : Nat} {ls : List (List Int)} {vs : List Value} {w : World} (h : IN base GI S N B ls vs w) {b : Nat} (hb : b < vs.length) : w.cell? ⟨GI, b, none⟩ = some vs[b] ∧ w.frozen? ⟨GI, b, none⟩ = false := by
  refine ⟨?_, frozen_of_row w GI b _ _ h.hdr⟩
  rw [cell_of_row w GI b _ _ _ h.hdr]
  simp [hb]
theorem SN.cells {S : Nat} {sn : List Bool} {w : World} (h : SN S sn w) {b : Nat} (hb : b < sn.length) : w.cell? ⟨S, b, none⟩ = some (.bool sn[b]) ∧ w.frozen? ⟨S, b, none⟩ = false := by
  refine ⟨?_, frozen_of_row w S b _ _ h⟩
  rw [cell_of_row w S b _ _ _ h]
  simp [hb]
theorem IN.drewN {base GI S N B : Nat} {ls : List (List Int)} {vs : List Value} {w : World} (h : IN base GI S N B ls vs w) (n : Nat) : IN base GI S N B ls vs (w.drewN n) := ⟨h.hdr, h.lv, h.ll, h.row, h.apart, h.nos, h.its, h.gi⟩
theorem IN.alloc {base GI S N B : Nat} {ls : List (List Int)} {vs : List Value} {w : World} (h : IN base GI S N B ls vs w) (o : Obj) : IN base GI S N B ls vs (w.alloc o) :=
  ⟨(Below.heap_alloc _ _ _ (heap_of_cells h.hdr)).trans h.hdr, h.lv, h.ll, fun b h1 h2 => (h.row b h1 h2).alloc o, h.apart, h.nos, h.its, h.gi⟩
/-- what a call of place answers -/
def RetP (cap : Nat → Nat) (mv : Int → Prop) (hfs : Int → List Int) (homes : List Int) (item : Int) (sn : List Bool) (ls : List (List Int)) (r : Bool) (sn' : List Bool) (ls' : List (List Int)) : Prop :=
  (r = false → ls' = ls ∧ PutF cap mv hfs ls sn sn' ∧ ∀ x ∈ homes, sn'[x.toNat]? = some true) ∧ (r = true → PutT cap mv hfs ls ls' item homes)
/-- how much room is left -/
def capU (room : Nat) (used : List Int) (b : Nat) : Nat := room - (used.getD b 0).toNat
/-- what a call of place leaves -/
def PlR (base GI S N B : Nat) (cap : Nat → Nat) (mv : Int → Prop) (hfs : Int → List Int) (homes : List Int) (item : Int) (sn : List Bool) (ls : List (List Int)) (vs : List Value) (w : World) (e : Ending) (w' : World) : Prop :=
  ∃ r ls' vs' sn', e = .returned (.bool r) ∧ IN base GI S N B ls' vs' w' ∧ SN S sn' w' ∧ KP sn ls vs sn' ls' vs' ∧ Below base w w' ∧ RetP cap mv hfs homes item sn ls r sn' ls'
def PlL (base GI S N B : Nat) (cap : Nat → Nat) (mv : Int → Prop) (hfs : Int → List Int) (P : Nat → List Bool → Prop) (sn : List Bool) (ls : List (List Int)) (vs : List Value) (w : World) (len : Nat) (iv : Value) (wr : World) : Prop :=
  ∃ k vs' sn', k ≤ len ∧ iv = .int .i64 (k : Nat) ∧ IN base GI S N B ls vs' wr ∧ SN S sn' wr ∧ KP sn ls vs sn' ls vs' ∧ Below base w wr ∧ PutF cap mv hfs ls sn sn' ∧ P k sn'
/-- the homes that were tried -/
def triedH (row : List Int) (k : Nat) (sn' : List Bool) : Prop := ∀ x ∈ row.take k, sn'[x.toNat]? = some true
/-- the items of a bucket that were tried -/
def triedO (mv : Int → Prop) (hfs : Int → List Int) (lb : List Int) (m : Nat) (sn' : List Bool) : Prop := ∀ o ∈ lb.take m, mv o → ∀ x ∈ hfs o, sn'[x.toNat]? = some true
theorem triedH.step {row : List Int} {k : Nat} {sn sn' : List Bool} {cap : Nat → Nat} {mv : Int → Prop} {hfs : Int → List Int} {ls : List (List Int)} (h : triedH row k sn) (hf : PutF cap mv hfs ls sn sn') (hk : k < row.length) {b : Nat} (hb : row[k] = (b : Int)) (hm : sn'[b]? = some true) : triedH row (k + 1) sn' := by
  intro x hx
  rw [List.take_succ_eq_append_getElem hk] at hx
  rcases List.mem_append.1 hx with h1 | h1
  · exact hf.up _ (h x h1)
  · obtain rfl := List.mem_singleton.1 h1
    rw [hb, Int.toNat_natCast]; exact hm
theorem triedO.step {mv : Int → Prop} {hfs : Int → List Int} {lb : List Int} {m : Nat} {sn sn' : List Bool} {cap : Nat → Nat} {ls : List (List Int)} (h : triedO mv hfs lb m sn) (hf : PutF cap mv hfs ls sn sn') (hk : m < lb.length) (hm : mv lb[m] → ∀ x ∈ hfs lb[m], sn'[x.toNat]? = some true) : triedO mv hfs lb (m + 1) sn' := by
  intro o ho hmv x hx
  rw [List.take_succ_eq_append_getElem hk] at ho
  rcases List.mem_append.1 ho with h1 | h1
  · exact hf.up _ (h o h1 hmv x hx)
  · obtain rfl := List.mem_singleton.1 h1
    exact hm hmv x hx
set_option maxRecDepth 100000 in
set_option maxHeartbeats 16000000 in
theorem place_any (base N B room : Nat) (hs : List (List Int)) (used : List Int) (hr : ∀ l ∈ hs, ∀ x ∈ l, 0 ≤ x ∧ x < (B : Int)) (hN : hs.length = N) (hN2 : N ≤ 1000000) (hu : ∀ x ∈ used, 0 ≤ x ∧ x ≤ 1000) (hul : used.length = B) (hB : B ≤ 1000000) (hroom : room ≤ 8) :
    ∀ (fuel item : Nat) (ls : List (List Int)) (vs : List Value) (sn : List Bool) (w : World) (vh vu : Value) (S GI cg cs : Nat), item < N → cf sn ≤ fuel → SLb base w vh hs → SB base w vu used → IN base GI S N B ls vs w → SN S sn w → sn.length = B → base ≤ S →
    Calls Try.prog 92 #[vh, .slice (some ⟨GI, 0, none⟩) B cg, vu, .int .i64 room, .int .i64 item, .slice (some ⟨S, 0, none⟩) B cs] w (PlR base GI S N B (capU room used) (fun _ => True) (hf hs) (hf hs item) item sn ls vs w) := by
  subst hN hul
  intro fuel
  induction fuel using Nat.strongRecOn with
  | _ fuel ih =>
    intro item ls vs sn w vh vu S GI cg cs hi hcf hh hvu hin hsn hsl hbS
    have IH := Lib.hid ih
    obtain ⟨Ah, ch, rfl⟩ := hh.form
    obtain ⟨Au, cu, eu, _⟩ := id hvu
    subst eu
    obtain ⟨bh, oh, Ar, cr, rfl, hbh, hrow, hrb⟩ := hh.row item (by omega)
    have HH := Lib.hid hh
    have HU := Lib.hid hvu
    have HIN := Lib.hid hin
    have HSN := Lib.hid hsn
    have HR : Hid (∀ x ∈ hs[item], 0 ≤ x ∧ x < (used.length : Int)) := (show Hid _ from hr _ (List.getElem_mem (by omega)))
    have HRB := Lib.hid hrb
    have hgi := hin.gi
    have hGS : GI ≠ S := by
      rintro rfl
      have h1 := hin.hdr
      have h2 := hsn
      unfold SN at h2
      rw [h1] at h2
      injection h2 with h2
      injection h2 with h3 h4
      exact absurd h4 (by decide)
    have HUB := Lib.hid hu
    obtain ⟨row, erow⟩ : ∃ row, row = hs[item] := ⟨_, rfl⟩
    rw [← erow] at HR HRB hrow
    have EROW : Hid (hf hs item = row) := (show Hid _ from by rw [erow]; exact hf_at (by omega))
    have hrl : row.length ≤ 9223372036854775807 := by
      obtain ⟨_, _, e, h1, h2, _⟩ := HRB.out
      omega
    have hi' : (item : Int) < (hs.length : Int) := by omega
    have hi'' : item < hs.length := by omega
    clear hh hvu hin hsn hrb hr hu erow ih
    go_enter Try.func92, Try.ntmps92
    go_wp2_with fail
    clear hrow
    go_loopw [22] (fun iv wr => PlL base GI S hs.length used.length (capU room used) (fun _ => True) (hf hs) (triedH row) sn ls vs w row.length iv wr) (fun iv _ => row.length - (intOf iv).toNat)
    case atStart => exact ⟨0, vs, sn, Nat.zero_le _, rfl, HIN.out, HSN.out, KP.refl _ _ _, ⟨rfl, rfl, rfl, Nat.le_refl _, fun _ _ => rfl⟩, PutF.refl _ _ _ _ _, fun x hx => by simp at hx⟩
    case round =>
      obtain ⟨k, vs2, sn2, hk, rfl, hin2, hsn2, hkp, hbel, hpf, htr⟩ := hrel
      have HPF := Lib.hid hpf
      have HTR := Lib.hid htr
      clear hpf htr
      have HIN2 := Lib.hid hin2
      have HSN2 := Lib.hid hsn2
      have HKP := Lib.hid hkp
      have HBL := Lib.hid hbel
      clear hin2 hsn2 hkp hbel
      by_cases hlt : k < row.length
      · obtain ⟨_, _, e, _, _, _, ha⟩ := HRB.out
        injection e with e1 e2 e3
        subst e1 e3
        obtain ⟨b, off, rfl, hb, hcell⟩ := ha (by omega)
        have c0 : wr.cell? ⟨b, off + k, none⟩ = some (.int .i64 row[k]) := (HBL.out.cell (p := ⟨b, off + k, none⟩) hb).trans (hcell k hlt)
        have hx := HR.out row[k] (List.getElem_mem hlt)
        obtain ⟨x, ex⟩ : ∃ x, x = row[k] := ⟨_, rfl⟩
        rw [← ex] at c0 hx
        obtain ⟨bn, rfl⟩ : ∃ bn : Nat, x = bn := ⟨x.toNat, by omega⟩
        have hbn : bn < used.length := by omega
        have hs2 : sn2.length = used.length := by have := HKP.out.1; omega
        have hv2 : vs2.length = used.length := HIN2.out.lv
        have hl2 : ls.length = used.length := HIN2.out.ll
        have wk : IntKind.i64.wrap ((k : Int) + 1) = (k : Int) + 1 := by exact IntWalk.i64_in _ (by omega)
        have z0 : 0 ≤ (bn : Int) := by omega
        have z1 : (bn : Int) < (used.length : Int) := by omega
        have hbs : bn < sn2.length := by omega
        obtain ⟨s0, s1⟩ := HSN2.out.cells hbs
        have HEX : Hid (row[k] = (bn : Int)) := (show Hid _ from ex.symm)
        have HMEM : Hid ((bn : Int) ∈ hf hs item) := (show Hid _ from by rw [EROW.out, ex]; exact List.getElem_mem _)
        clear ha hcell ex
        cases hsb : sn2[bn]
        · rw [hsb] at s0
          have HM := Lib.hid (KP.mark (ls := ls) (vs := vs2) hbs hsb)
          have HCF := Lib.hid (cf_set hbs hsb)
          have HSB := Lib.hid hsb
          obtain ⟨w1, ew1⟩ : ∃ w1 : World, w1 = wr.setCell ⟨S, bn, none⟩ (.bool true) := ⟨_, rfl⟩
          have HW1 : Hid (wr.setCell ⟨S, bn, none⟩ (.bool true) = w1) := ew1.symm
          have hgm : wr.grownBy w1 (some S) := by rw [ew1]; exact grownBy_setCell (g := S) (p := ⟨S, bn, none⟩) (grownBy_refl _ _) (.inl rfl) _
          have hrs : ∀ c (h1 : c < vs2.length), vs2[c].ownBlock ≠ some S := fun c h1 e => (HIN2.out.nos c h1 S e).2 rfl
          have HIN1 : Hid (IN base GI S hs.length used.length ls vs2 w1) := (show Hid _ from HIN2.out.same S hgm (by rintro rfl; exact hGS rfl) hrs)
          have HSN1 : Hid (SN S (sn2.set bn true) w1) := (show Hid _ from by rw [ew1]; exact HSN2.out.mark bn)
          have HB1 : Hid (Below base w w1) := (show Hid _ from HBL.out.trans (below_of_grownBy hgm hbS (Nat.le_trans hbS (Nat.le_of_lt (heap_of_cells HSN2.out)))))
          have hbv : bn < vs2.length := by omega
          have hbl : bn < ls.length := by omega
          have hrow1 := HIN1.out.row bn hbv hbl
          obtain ⟨Ab, cb, eb⟩ := own_sl hrow1
          obtain ⟨lb, elb⟩ : ∃ lb, lb = ls[bn] := ⟨_, rfl⟩
          rw [← elb] at eb hrow1
          have HEB := Lib.hid eb
          have HLB := Lib.hid elb
          obtain ⟨h0, _⟩ := HIN1.out.cells hbv
          rw [eb] at h0 hrow1
          have HROW := Lib.hid hrow1
          have hlm := (HIN1.out.its _ (List.getElem_mem hbl)).2
          rw [← HLB.out] at hlm
          obtain ⟨_, _, e, _, _, hur, hua⟩ := HU.out
          injection e with e1 e2 e3
          subst e1 e3
          obtain ⟨bu, ou, rfl, hbu, hucell⟩ := hua (by omega)
          have u0 : w1.cell? ⟨bu, ou + bn, none⟩ = some (.int .i64 (used[bn]'(by omega))) := (HB1.out.cell (p := ⟨bu, ou + bn, none⟩) hbu).trans (hucell bn (by omega))
          obtain ⟨ub, eub⟩ : ∃ ub, ub = used[bn]'(by omega) := ⟨_, rfl⟩
          have hub : 0 ≤ ub ∧ ub ≤ 1000 := by rw [eub]; exact HUB.out _ (List.getElem_mem _)
          rw [← eub] at u0
          have ww : IntKind.i64.wrap ((lb.length : Int) + ub) = (lb.length : Int) + ub := by exact IntWalk.i64_in _ (by omega)
          have z2 : (bn : Int) < (used.length : Int) := by omega
          have HEUB : Hid (capU room used bn = room - ub.toNat) := (show Hid _ from by show capU room used bn = room - ub.toNat; unfold capU; rw [eub]; simp [show bn < used.length by omega])
          clear hgm hrs ew1 hrow1 eb elb hua hucell hur eub hsb
          go_upto_region 6 with fail
          rw [HW1.out]
          clear s0 s1
          by_cases hroom1 : (lb.length : Int) + ub < (room : Int)
          · have d1 : decide ((lb.length : Int) + ub < (room : Int)) = true := decide_eq_true hroom1
            go_quiet (fail)
            have hgsz : base ≤ w1.heap.size := Nat.le_trans hgi (Nat.le_of_lt (heap_of_cells HIN1.out.hdr))
            have hSl : S < w1.heap.size := heap_of_cells HSN1.out
            have hl7 : lb.length + 1 ≤ 8 := by omega
            have HAPP : Hid (∀ (n g4 cap4 : Nat) (w4 : World), w4.ownsRow base 3 1 (.slice (some ⟨g4, 0, none⟩) (lb.length + 1) cap4) (lb.length + 1) (lb.map (Value.int .i64) ++ [.int .i64 item]) → ((w1.drewN n).alloc (.cells #[.int .i64 item] 3)).grownBy w4 (Value.slice Ab lb.length cb).ownBlock → ((Value.slice Ab lb.length cb).ownBlock = some g4 ∨ g4 = w1.heap.size + 1) →
                w4.cell? ⟨GI, bn, none⟩ = some (.slice Ab lb.length cb) ∧ w4.frozen? ⟨GI, bn, none⟩ = false ∧ PlR base GI S hs.length used.length (capU room used) (fun _ => True) (hf hs) (hf hs item) item sn ls vs w (.returned (.bool true)) (w4.setCell ⟨GI, bn, none⟩ (.slice (some ⟨g4, 0, none⟩) (lb.length + 1) cap4))) := (show Hid _ from fun n g4 cap4 w4 ho4 hg4 hat4 => by
              have hin := HIN1.out.drewN n
              rw [← HEB.out] at hg4 hat4
              have hne : some GI ≠ vs2[bn].ownBlock := fun e => (hin.nos bn hbv GI e.symm).1 rfl
              have hneS : vs2[bn].ownBlock ≠ some S := fun e => (hin.nos bn hbv S e).2 rfl
              have hGl : GI < w1.heap.size := heap_of_cells HIN1.out.hdr
              have hh4 : w4.heap[GI]? = some (.cells vs2.toArray 22 (0, 0)) := (hg4.block GI (by simp; omega) hne).trans ((Below.heap_alloc _ _ _ hGl).trans hin.hdr)
              have hfin := hin.app hbv (o := .cells #[.int .i64 item] 3) (g := g4) (u := .slice (some ⟨g4, 0, none⟩) (lb.length + 1) cap4) (l := lb ++ [(item : Int)]) hSl hg4 (by simpa using ho4) rfl hat4 ⟨fun x hx => by
                rcases List.mem_append.1 hx with hx | hx
                · rw [HLB.out] at hx
                  exact (hin.its _ (List.getElem_mem hbl)).1 x hx
                · simp at hx; subst hx; omega, by simp; omega⟩
              have hm : w4.grownBy (w4.setCell ⟨GI, bn, none⟩ (.slice (some ⟨g4, 0, none⟩) (lb.length + 1) cap4)) (some GI) := grownBy_setCell (g := GI) (p := ⟨GI, bn, none⟩) (grownBy_refl _ _) (.inl rfl) _
              have hsn4 : SN S (sn2.set bn true) w4 := SN.keep (w := (w1.drewN n).alloc (.cells #[.int .i64 item] 3)) ((Below.heap_alloc _ _ _ hSl).trans HSN1.out) hg4 hneS
              have hb4 : Below base w w4 := ((Below.drewN HB1.out n).alloc hgsz _).grown hg4 (by simp; omega) (fun q hq => (hin.lt hbv hq).1)
              refine ⟨?_, frozen_of_row w4 GI bn _ _ hh4, true, _, _, _, rfl, hfin, hsn4.keep hm (by simp; omega), HKP.out.trans (KP.turn hbs HSB.out (KP.refl _ _ _) _ _), hb4.trans (below_of_grownBy hm hgi (by have := heap_of_cells hh4; omega)), fun h => (by cases h), fun _ => by
                have h := PutT.app (cap := capU room used) (mv := fun _ => True) (hf := hf hs) (item := (item : Int)) hbl (by rw [← HLB.out, HEUB.out]; omega) HMEM.out
                rwa [← HLB.out] at h⟩
              rw [cell_of_row w4 GI bn _ _ _ hh4]
              simp [hbv, HEB.out])
            go_wp2_with (at_builtin; refine wpList_append_int1_at _ rfl _ _ 22 rfl base 3 Try.underlying22 iinfo (.slice Ab lb.length cb) lb (by rfl) (by exact HROW.out) (item : Int) (by rfl) (by omega) (by exact hgsz) ?_)
            intro g4 cap4 w4 ho4 hg4 hat4
            obtain ⟨y0, y1, hpl⟩ := HAPP.out nq g4 cap4 w4 ho4 hg4 hat4
            have HPL := Lib.hid hpl
            clear ho4 hg4 hat4 hpl h0
            go_wp2_with fail
            refine bodyPost_ret (v := .bool true) (by simp [results, Try.results92, go_sem]) rfl ?_
            exact HPL.out
          · have d1 : decide ((lb.length : Int) + ub < (room : Int)) = false := decide_eq_false hroom1
            have hlm2 := hlm
            go_quiet (fail)
            go_wp2_with fail
            clear h0 u0
            obtain ⟨wo, rfl⟩ : ∃ wo : World, wo = wr := ⟨_, rfl⟩
            go_loopw [60] (fun iv wq => PlL base GI S hs.length used.length (capU room used) (fun _ => True) (hf hs) (triedO (fun _ => True) (hf hs) lb) (sn2.set bn true) ls vs2 w lb.length iv wq) (fun iv _ => lb.length - (intOf iv).toNat)
            case atStart => exact ⟨0, vs2, _, Nat.zero_le _, rfl, HIN1.out.drewN nq, HSN1.out, KP.refl _ _ _, Below.drewN HB1.out nq, PutF.refl _ _ _ _ _, fun x hx => by simp at hx⟩
            case round =>
              obtain ⟨m, vs3, sn3, hm, rfl, hin3, hsn3, hkp3, hbel3, hpf3, htr3⟩ := hrel
              have HPF3 := Lib.hid hpf3
              have HTR3 := Lib.hid htr3
              clear hpf3 htr3
              have HIN3 := Lib.hid hin3
              have HSN3 := Lib.hid hsn3
              have HKP3 := Lib.hid hkp3
              have HBL3 := Lib.hid hbel3
              clear hin3 hsn3 hkp3 hbel3
              have wm : IntKind.i64.wrap ((m : Int) + 1) = (m : Int) + 1 := by exact IntWalk.i64_in _ (by omega)
              by_cases hmt : m < lb.length
              · have hbt : (sn2.set bn true)[bn]? = some true := by simp [hbs]
                obtain ⟨g1, g2, g3⟩ := HKP3.out.2.2.2.2 bn hbt
                have hv3 : vs3.length = used.length := HIN3.out.lv
                have hl3 : ls.length = used.length := HIN3.out.ll
                have hbv3 : bn < vs3.length := by omega
                have hbl3 : bn < ls.length := by omega
                have e3 : vs3[bn] = .slice Ab lb.length cb := by
                  rw [List.getElem?_eq_getElem hbv3, List.getElem?_eq_getElem hbv] at g3
                  injection g3 with g3
                  rw [g3, HEB.out]
                have e4 : ls[bn] = lb := HLB.out.symm
                have hrow3 := HIN3.out.row bn hbv3 hbl3
                rw [e3, e4] at hrow3
                obtain ⟨q, cap, e5, hq1, hq2⟩ := own_form hrow3 (by omega)
                injection e5 with e6 e7 e8
                subst e6
                have x0 : wr.cell? ⟨q, m, none⟩ = some (.int .i64 lb[m]) := own_int hrow3 m hmt
                have hxm := (HIN3.out.its _ (List.getElem_mem hbl3)).1 lb[m] (by rw [e4]; exact List.getElem_mem hmt)
                obtain ⟨x, ex⟩ : ∃ x, x = lb[m] := ⟨_, rfl⟩
                rw [← ex] at x0 hxm
                obtain ⟨it, rfl⟩ : ∃ it : Nat, x = it := ⟨x.toNat, by omega⟩
                have HIT : Hid (lb[m] = (it : Int)) := (show Hid _ from ex.symm)
                have y0 : 0 ≤ (m : Int) := by omega
                have y1 : (m : Int) < (lb.length : Int) := by omega
                have hcf3 : cf sn3 < fuel := by
                  have h1 := HKP3.out.2.2.2.1
                  have h2 := HCF.out
                  have h3 := HKP.out.2.2.2.1
                  omega
                have hcall := IH.out (cf sn3) hcf3 it ls vs3 sn3 wr (.slice (some ⟨bh, oh, none⟩) hs.length ch) (.slice (some ⟨bu, ou, none⟩) used.length cu) S GI cg cs (by omega) (Nat.le_refl _) (HH.out.below HBL3.out) (HU.out.below HBL3.out) HIN3.out HSN3.out (by have := HKP3.out.1; simp at this; omega) hbS
                have HCALL := Lib.hid hcall
                have G1 := Lib.hid g1
                have E3 := Lib.hid e3
                have E4 := Lib.hid e4
                clear hcall g1 g2 g3 hrow3 ex e7 e8 e3 e4
                go_wp2_with fail
                (with_reducible refine HCALL.out.mono ?_)
                rintro e w5 ⟨r, ls4, vs4, sn4, rfl, hin4, hsn4, hkp4, hbel4, hret⟩
                have HIN4 := Lib.hid hin4
                have HSN4 := Lib.hid hsn4
                have HKP4 := Lib.hid hkp4
                have HBL4 : Hid (Below base w w5) := (show Hid _ from HBL3.out.trans hbel4)
                have HRET := Lib.hid hret
                clear hin4 hsn4 hkp4 hbel4 hret
                cases r
                · obtain ⟨rfl, hpf4, hit4⟩ := HRET.out.1 rfl
                  have HP4 := Lib.hid hpf4
                  have HI4 := Lib.hid hit4
                  clear hpf4 hit4
                  go_wp2_with fail
                  go_roundw
                  case rel => exact ⟨m + 1, vs4, sn4, by omega, by go_num, HIN4.out, HSN4.out, HKP3.out.trans HKP4.out, HBL4.out, HPF3.out.trans HP4.out, HTR3.out.step HP4.out hmt (fun _ => by rw [HIT.out]; exact HI4.out)⟩
                  case measure => simp [intOf]; omega
                · obtain ⟨_, k2, k3⟩ := HKP4.out.2.2.2.2 bn G1.out
                  have hbv4 : bn < vs4.length := by have := HIN4.out.lv; omega
                  have hbl4 : bn < ls4.length := by have := HIN4.out.ll; omega
                  have f3 : vs4[bn] = .slice (some ⟨q, 0, none⟩) lb.length cb := by
                    rw [List.getElem?_eq_getElem hbv4, List.getElem?_eq_getElem hbv3] at k3
                    injection k3 with k3
                    rw [k3, E3.out]
                  have f4 : ls4[bn] = lb := by
                    rw [List.getElem?_eq_getElem hbl4, List.getElem?_eq_getElem hbl3] at k2
                    injection k2 with k2
                    rw [k2, E4.out]
                  obtain ⟨c4, _⟩ := HIN4.out.cells hbv4
                  rw [f3] at c4
                  have hrow4 := HIN4.out.row bn hbv4 hbl4
                  rw [f3, f4] at hrow4
                  have c5 : w5.cell? ⟨q, m, none⟩ = some (.int .i64 lb[m]) := own_int hrow4 m hmt
                  have c6 : w5.frozen? ⟨q, m, none⟩ = false := hrow4.frozenAt m
                  have hq5 : base ≤ q ∧ q < w5.heap.size := hrow4.lt q rfl
                  have hgm : w5.grownBy (w5.setCell ⟨q, m, none⟩ (.int .i64 item)) (some q) := (hrow4.stored m (.int .i64 item)).2
                  have hfin : PlR base GI S hs.length used.length (capU room used) (fun _ => True) (hf hs) (hf hs item) item sn ls vs w (.returned (.bool true)) (w5.setCell ⟨q, m, none⟩ (.int .i64 item)) := by
                    refine ⟨true, _, _, sn4, rfl, HIN4.out.put hbv4 hbl4 (by rw [f3, f4]) m item ⟨by omega, by omega⟩, HSN4.out.keep hgm (by have := (HIN4.out.nos bn hbv4 q (by rw [f3]; rfl)).2; simp; exact this), ?_, HBL4.out.trans (below_of_grownBy hgm hq5.1 (by omega)), fun h => by (cases h), fun _ => (HRET.out.2 rfl).put hbl4 (by rw [bk_eq hbl, ← HLB.out, f4]) (by rw [f4]; exact hmt) (by rw [List.getElem_of_eq f4]; exact HIT.out) trivial HMEM.out⟩
                    have hk := HKP.out.trans (KP.turn hbs HSB.out (HKP3.out.trans HKP4.out) (ls4[bn].set m item) vs4[bn])
                    rwa [List.set_getElem_self] at hk
                  have HF := Lib.hid hfin
                  clear k2 k3 f3 f4 hrow4 hgm hfin
                  go_wp2_with fail
                  refine bodyPost_ret (v := .bool true) (by simp [results, Try.results92, go_sem]) rfl ?_
                  exact HF.out
              · go_wp2_with fail
                go_roundw
                case rel =>
                  have hml : m = lb.length := by omega
                  have hmk := PutF.mark hbs HPF3.out (by rw [bk_eq hbl, ← HLB.out, HEUB.out]; omega) (fun o ho => by
                    rw [bk_eq hbl, ← HLB.out] at ho
                    exact HTR3.out o (by rw [hml, List.take_length]; exact ho))
                  exact ⟨k + 1, vs3, sn3, by omega, by go_num, HIN3.out, HSN3.out, HKP.out.trans ((HM.out).trans HKP3.out), HBL3.out, HPF.out.trans hmk, HTR.out.step hmk hlt HEX.out (HPF3.out.up bn (by simp [hbs]))⟩
                case measure => simp [intOf]; omega
        · rw [hsb] at s0
          have HSB := Lib.hid hsb
          clear hsb
          go_wp2_with fail
          go_roundw
          case rel => exact ⟨k + 1, vs2, sn2, by omega, by go_num, HIN2.out, HSN2.out, HKP.out, HBL.out, HPF.out, HTR.out.step (PutF.refl (capU room used) (fun _ => True) (hf hs) ls _) hlt HEX.out (by rw [List.getElem?_eq_getElem hbs, HSB.out])⟩
          case measure => simp [intOf]; omega
      · have hkl : k = row.length := by omega
        go_wp2_with fail
        refine bodyPost_ret (v := .bool false) (by simp [results, Try.results92, go_sem]) rfl ?_
        exact ⟨false, ls, vs2, sn2, rfl, HIN2.out, HSN2.out, HKP.out, HBL.out, fun _ => ⟨rfl, HPF.out, fun x hx => HTR.out x (by rw [EROW.out] at hx; rw [hkl, List.take_length]; exact hx)⟩, fun h => (by cases h)⟩
end Go.Proofs.Ytllnomembakboaa

namespace Go.Proofs.Ytllnomembakboaa
open Go.RowKit

/-- a row lies in block q -/
def inV (vs : List Value) (q : Nat) : Prop := ∃ b, ∃ h : b < vs.length, vs[b].ownBlock = some q
theorem inV_set {vs : List Value} {b : Nat} {v : Value} {q : Nat} (h : inV (vs.set b v) q) : inV vs q ∨ v.ownBlock = some q := by
  obtain ⟨c, hc, e⟩ := h
  by_cases hbc : b = c
  · subst hbc; rw [List.getElem_set_self] at e; exact .inr e
  · rw [List.getElem_set_ne hbc] at e; exact .inl ⟨c, by simpa using hc, e⟩
/-- nothing but the marks, the headers and the rows has turned -/
structure FW (S GI : Nat) (vs : List Value) (w : World) (vs' : List Value) (W : World) : Prop where
  os : W.os = w.os
  tape : W.tape = w.tape
  output : W.output = w.output
  size : w.heap.size ≤ W.heap.size
  block : ∀ k, k < w.heap.size → k ≠ S → k ≠ GI → ¬ inV vs k → W.heap[k]? = w.heap[k]?
  inn : ∀ q, inV vs' q → inV vs q ∨ w.heap.size ≤ q
section
variable {S GI : Nat} {vs vs1 vs2 : List Value} {w w1 w2 : World}
theorem FW.refl (S GI : Nat) (vs : List Value) (w : World) : FW S GI vs w vs w := ⟨rfl, rfl, rfl, Nat.le_refl _, fun _ _ _ _ _ => rfl, fun _ h => .inl h⟩
theorem FW.trans (h : FW S GI vs w vs1 w1) (k : FW S GI vs1 w1 vs2 w2) : FW S GI vs w vs2 w2 :=
  ⟨k.os.trans h.os, k.tape.trans h.tape, k.output.trans h.output, Nat.le_trans h.size k.size, fun q h1 h2 h3 h4 => (k.block q (Nat.lt_of_lt_of_le h1 h.size) h2 h3 (fun e => by
    rcases h.inn q e with e | e
    · exact h4 e
    · omega)).trans (h.block q h1 h2 h3 h4), fun q hq => by
    rcases k.inn q hq with e | e
    · exact h.inn q e
    · exact .inr (Nat.le_trans h.size e)⟩
theorem FW.step {X : Nat} (h : FW S GI vs w vs1 w1) (hg : w1.grownBy w2 (some X)) (hX : X = S ∨ X = GI ∨ inV vs1 X) : FW S GI vs w vs1 w2 :=
  h.trans ⟨hg.os, hg.tape, hg.output, hg.size, fun k h1 h2 h3 h4 => hg.block k h1 (fun e => by
    injection e with e
    subst e
    rcases hX with e | e | e
    · exact h2 e
    · exact h3 e
    · exact h4 e), fun _ h => .inl h⟩
theorem FW.drewN (h : FW S GI vs w vs1 w1) (n : Nat) : FW S GI vs w vs1 (w1.drewN n) := ⟨h.os, h.tape, h.output, h.size, h.block, h.inn⟩
theorem FW.on (h : FW S GI vs w vs1 w1) (hb : Below w1.heap.size w1 w2) : FW S GI vs w vs1 w2 := h.trans ⟨hb.os, hb.tape, hb.output, hb.size, fun k h1 _ _ _ => hb.block k h1, fun _ h => .inl h⟩
theorem FW.app {b g : Nat} {o : Obj} {u : Value} (h : FW S GI vs w vs1 w1) (hb : b < vs1.length) (hg : (w1.alloc o).grownBy w2 vs1[b].ownBlock) (hu : u.ownBlock = some g) (hat : vs1[b].ownBlock = some g ∨ g = w1.heap.size + 1) :
    FW S GI vs w (vs1.set b u) (w2.setCell ⟨GI, b, none⟩ u) := by
  refine h.trans ⟨hg.os, hg.tape, hg.output, ?_, fun k h1 h2 h3 h4 => ?_, fun q hq => ?_⟩
  · have := hg.size; simp at this ⊢; omega
  · rw [Below.heap_setCell _ _ _ _ (by simpa using h3), hg.block k (by simp; omega) (fun e => h4 ⟨b, hb, e.symm⟩), Below.heap_alloc _ _ _ h1]
  · rcases inV_set hq with e | e
    · exact .inl e
    · rw [hu] at e
      injection e with e
      subst e
      rcases hat with e | e
      · exact .inl ⟨b, hb, e⟩
      · exact .inr (by omega)
theorem FW.cell (h : FW S GI vs w vs1 w1) {p : Addr} (h1 : p.block < w.heap.size) (h2 : p.block ≠ S) (h3 : p.block ≠ GI) (h4 : ¬ inV vs p.block) : w1.cell? p = w.cell? p := World.cell?_of_block (h.block _ h1 h2 h3 h4)
theorem FW.below {base : Nat} (h : FW S GI vs w vs1 w1) (hb : base ≤ w.heap.size) (hS : base ≤ S) (hG : base ≤ GI) (hv : ∀ q, inV vs q → base ≤ q) : Below base w w1 :=
  ⟨h.os, h.tape, h.output, h.size, fun k hk => h.block k (by omega) (by omega) (by omega) (fun e => by have := hv k e; omega)⟩
end
/-- a list of numbers, a list of such lists, that lie in blocks of D -/
def SBD (D : Nat → Prop) (w : World) (v : Value) (l : List Int) : Prop :=
  ∃ A c, v = .slice A l.length c ∧ l.length ≤ c ∧ c ≤ 9223372036854775807 ∧ (0 < l.length → ∃ b off, A = some ⟨b, off, none⟩ ∧ D b ∧ ∀ j (h : j < l.length), w.cell? ⟨b, off + j, none⟩ = some (.int .i64 l[j]))
def SLD (D : Nat → Prop) (w : World) (v : Value) (ls : List (List Int)) : Prop :=
  ∃ A c, v = .slice A ls.length c ∧ ls.length ≤ c ∧ c ≤ 9223372036854775807 ∧ (0 < ls.length → ∃ b off, A = some ⟨b, off, none⟩ ∧ D b ∧ ∀ j (h : j < ls.length), ∃ u, w.cell? ⟨b, off + j, none⟩ = some u ∧ SBD D w u ls[j])
section
variable {D D' : Nat → Prop} {w w' : World} {v : Value} {l : List Int} {ls : List (List Int)}
theorem SBD.keep (h : SBD D w v l) (hk : ∀ p : Addr, D p.block → w'.cell? p = w.cell? p) : SBD D w' v l := by
  obtain ⟨A, c, e, h1, h2, h3⟩ := h
  refine ⟨A, c, e, h1, h2, fun h0 => ?_⟩
  obtain ⟨b, off, e, hb, hc⟩ := h3 h0
  exact ⟨b, off, e, hb, fun j hj => (hk _ hb).trans (hc j hj)⟩
theorem SBD.imp (h : SBD D w v l) (hd : ∀ k, D k → D' k) : SBD D' w v l := by
  obtain ⟨A, c, e, h1, h2, h3⟩ := h
  refine ⟨A, c, e, h1, h2, fun h0 => ?_⟩
  obtain ⟨b, off, e, hb, hc⟩ := h3 h0
  exact ⟨b, off, e, hd _ hb, hc⟩
theorem SBD.form (h : SBD D w v l) : ∃ A c, v = .slice A l.length c := by obtain ⟨A, c, e, _⟩ := h; exact ⟨A, c, e⟩
theorem SLD.keep (h : SLD D w v ls) (hk : ∀ p : Addr, D p.block → w'.cell? p = w.cell? p) : SLD D w' v ls := by
  obtain ⟨A, c, e, h1, h2, h3⟩ := h
  refine ⟨A, c, e, h1, h2, fun h0 => ?_⟩
  obtain ⟨b, off, e, hb, hc⟩ := h3 h0
  refine ⟨b, off, e, hb, fun j hj => ?_⟩
  obtain ⟨u, hu, hs⟩ := hc j hj
  exact ⟨u, (hk _ hb).trans hu, hs.keep hk⟩
theorem SLD.imp (h : SLD D w v ls) (hd : ∀ k, D k → D' k) : SLD D' w v ls := by
  obtain ⟨A, c, e, h1, h2, h3⟩ := h
  refine ⟨A, c, e, h1, h2, fun h0 => ?_⟩
  obtain ⟨b, off, e, hb, hc⟩ := h3 h0
  refine ⟨b, off, e, hd _ hb, fun j hj => ?_⟩
  obtain ⟨u, hu, hs⟩ := hc j hj
  exact ⟨u, hu, hs.imp hd⟩
theorem SLD.form (h : SLD D w v ls) : ∃ A c, v = .slice A ls.length c := by obtain ⟨A, c, e, _⟩ := h; exact ⟨A, c, e⟩
theorem SLD.row {n c : Nat} {A : Option Addr} (h : SLD D w (.slice A n c) ls) (j : Nat) (hj : j < ls.length) :
    ∃ b off A' c', A = some ⟨b, off, none⟩ ∧ D b ∧ w.cell? ⟨b, off + j, none⟩ = some (.slice A' ls[j].length c') ∧ SBD D w (.slice A' ls[j].length c') ls[j] := by
  obtain ⟨A0, c0, e, _, _, ha⟩ := h
  injection e with e1 e2 e3
  subst e1
  obtain ⟨b, off, rfl, hb, hc⟩ := ha (by omega)
  obtain ⟨u, hu, hs⟩ := hc j hj
  obtain ⟨A', c', rfl⟩ := hs.form
  exact ⟨b, off, A', c', rfl, hb, hu, hs⟩
end
/-- blocks that placing does not touch -/
def Apart (S GI : Nat) (vs : List Value) (w : World) (D : Nat → Prop) : Prop := ∀ k, D k → k < w.heap.size ∧ k ≠ S ∧ k ≠ GI ∧ ¬ inV vs k
section
variable {S GI : Nat} {vs vs1 : List Value} {w w1 : World} {D : Nat → Prop}
theorem Apart.on (h : Apart S GI vs w D) (k : FW S GI vs w vs1 w1) : Apart S GI vs1 w1 D := fun q hq => by
  obtain ⟨h1, h2, h3, h4⟩ := h q hq
  exact ⟨Nat.lt_of_lt_of_le h1 k.size, h2, h3, fun e => by
    rcases k.inn q e with e | e
    · exact h4 e
    · omega⟩
theorem Apart.cell (h : Apart S GI vs w D) (k : FW S GI vs w vs1 w1) : ∀ p : Addr, D p.block → w1.cell? p = w.cell? p := fun p hp => by
  obtain ⟨h1, h2, h3, h4⟩ := h _ hp
  exact k.cell h1 h2 h3 h4
end
/-- the record of a placing, its buckets under construction -/
structure PI (base Pb GI S N B slots F : Nat) (vh : Value) (cg : Nat) (ls : List (List Int)) (vs : List Value) (w : World) : Prop where
  inn : IN base GI S N B ls vs w
  blk : w.heap[Pb]? = some (.cells #[.int .i64 slots, vh, .slice (some ⟨GI, 0, none⟩) B cg, .int .i64 F] 90 (0, 0))
  ne : ¬ inV vs Pb
  nS : Pb ≠ S
  nG : Pb ≠ GI
section
variable {base Pb GI S N B slots F cg : Nat} {vh : Value} {ls : List (List Int)} {vs : List Value} {w w' : World}
theorem PI.lo (h : PI base Pb GI S N B slots F vh cg ls vs w) : ∀ q, inV vs q → base ≤ q := fun _ ⟨_, h1, e⟩ => (h.inn.lt h1 e).1
theorem PI.lt (h : PI base Pb GI S N B slots F vh cg ls vs w) {q : Nat} (hq : inV vs q) : q < w.heap.size := by obtain ⟨_, h1, e⟩ := hq; exact (h.inn.lt h1 e).2
theorem PI.cells (h : PI base Pb GI S N B slots F vh cg ls vs w) : w.cell? ⟨Pb, 0, none⟩ = some (.int .i64 slots) ∧ w.cell? ⟨Pb, 1, none⟩ = some vh ∧ w.cell? ⟨Pb, 2, none⟩ = some (.slice (some ⟨GI, 0, none⟩) B cg) ∧ w.cell? ⟨Pb, 3, none⟩ = some (.int .i64 F) :=
  ⟨cell_of_row w Pb 0 _ _ _ h.blk, cell_of_row w Pb 1 _ _ _ h.blk, cell_of_row w Pb 2 _ _ _ h.blk, cell_of_row w Pb 3 _ _ _ h.blk⟩
theorem PI.same (h : PI base Pb GI S N B slots F vh cg ls vs w) (hg : w.grownBy w' (some S)) (hS : S ≠ GI) : PI base Pb GI S N B slots F vh cg ls vs w' :=
  ⟨h.inn.same S hg hS (fun _ h1 e => (h.inn.nos _ h1 S e).2 rfl), (hg.block Pb (heap_of_cells h.blk) (by have := h.nS; simp; exact this)).trans h.blk, h.ne, h.nS, h.nG⟩
theorem PI.drewN (h : PI base Pb GI S N B slots F vh cg ls vs w) (n : Nat) : PI base Pb GI S N B slots F vh cg ls vs (w.drewN n) := ⟨h.inn.drewN n, h.blk, h.ne, h.nS, h.nG⟩
theorem PI.alloc (h : PI base Pb GI S N B slots F vh cg ls vs w) (o : Obj) : PI base Pb GI S N B slots F vh cg ls vs (w.alloc o) := ⟨h.inn.alloc o, (Below.heap_alloc _ _ _ (heap_of_cells h.blk)).trans h.blk, h.ne, h.nS, h.nG⟩
theorem PI.re (h : PI base Pb GI S N B slots F vh cg ls vs w) {S' : Nat} (hS : ¬ inV vs S') (hP : Pb ≠ S') : PI base Pb GI S' N B slots F vh cg ls vs w :=
  ⟨⟨h.inn.hdr, h.inn.lv, h.inn.ll, h.inn.row, h.inn.apart, fun b h1 q hq => ⟨(h.inn.nos b h1 q hq).1, fun e => hS (e ▸ ⟨b, h1, hq⟩)⟩, h.inn.its, h.inn.gi⟩, h.blk, h.ne, hP, h.nG⟩
theorem PI.app (h : PI base Pb GI S N B slots F vh cg ls vs w) {b : Nat} (hb : b < vs.length) {o : Obj} {g : Nat} {u : Value} {l : List Int} {w1 : World} (hlS : S < w.heap.size)
    (hg : (w.alloc o).grownBy w1 vs[b].ownBlock) (ho : w1.ownsRow base 3 1 u l.length (l.map (Value.int .i64))) (hu : u.ownBlock = some g) (hat : vs[b].ownBlock = some g ∨ g = w.heap.size + 1) (hl : (∀ x ∈ l, 0 ≤ x ∧ x < (N : Int)) ∧ l.length ≤ 8) :
    PI base Pb GI S N B slots F vh cg (ls.set b l) (vs.set b u) (w1.setCell ⟨GI, b, none⟩ u) := by
  have hP := heap_of_cells h.blk
  refine ⟨h.inn.app hb hlS hg ho hu hat hl, ?_, fun hq => ?_, h.nS, h.nG⟩
  · rw [Below.heap_setCell _ _ _ _ (by have := h.nG; simpa using this), hg.block Pb (by simp; omega) (fun e => h.ne ⟨b, hb, e.symm⟩), Below.heap_alloc _ _ _ hP]
    exact h.blk
  · rcases inV_set hq with e | e
    · exact h.ne e
    · rw [hu] at e
      injection e with e
      subst e
      rcases hat with e | e
      · exact h.ne ⟨b, hb, e⟩
      · omega
theorem PI.put (h : PI base Pb GI S N B slots F vh cg ls vs w) {b : Nat} (hb : b < vs.length) (hb2 : b < ls.length) {q cap : Nat} (hv : vs[b] = .slice (some ⟨q, 0, none⟩) ls[b].length cap) (k : Nat) (x : Int) (hx : 0 ≤ x ∧ x < (N : Int)) :
    PI base Pb GI S N B slots F vh cg (ls.set b (ls[b].set k x)) vs (w.setCell ⟨q, k, none⟩ (.int .i64 x)) := by
  refine ⟨h.inn.put hb hb2 hv k x hx, ?_, h.ne, h.nS, h.nG⟩
  rw [Below.heap_setCell _ _ _ _ (fun e => by have e : Pb = q := e; subst e; exact h.ne ⟨b, hb, by rw [hv]; rfl⟩)]
  exact h.blk
end
end Go.Proofs.Ytllnomembakboaa

namespace Go.Proofs.Ytllnomembakboaa
open Go.RowKit

/-- what a call of put leaves -/
def PuR (base Pb GI S N B slots F : Nat) (vh : Value) (cg : Nat) (hs : List (List Int)) (row : List Int) (item : Int) (sn : List Bool) (ls : List (List Int)) (vs : List Value) (w : World) (e : Ending) (w' : World) : Prop :=
  ∃ r ls' vs' sn', e = .returned (.bool r) ∧ PI base Pb GI S N B slots F vh cg ls' vs' w' ∧ SN S sn' w' ∧ KP sn ls vs sn' ls' vs' ∧ FW S GI vs w vs' w' ∧ RetP (fun _ => slots) (fun x => (F : Int) ≤ x) (hf hs) row item sn ls r sn' ls'
def PuL (base Pb GI S N B slots F : Nat) (vh : Value) (cg : Nat) (hs : List (List Int)) (P : Nat → List Bool → Prop) (sn : List Bool) (ls : List (List Int)) (vs : List Value) (w : World) (len : Nat) (iv : Value) (wr : World) : Prop :=
  ∃ k vs' sn', k ≤ len ∧ iv = .int .i64 (k : Nat) ∧ PI base Pb GI S N B slots F vh cg ls vs' wr ∧ SN S sn' wr ∧ KP sn ls vs sn' ls vs' ∧ FW S GI vs w vs' wr ∧ PutF (fun _ => slots) (fun x => (F : Int) ≤ x) (hf hs) ls sn sn' ∧ P k sn'
set_option maxRecDepth 100000 in
set_option maxHeartbeats 16000000 in
theorem put_any (base Pb N B slots F : Nat) (D : Nat → Prop) (hs : List (List Int)) (hr : ∀ l ∈ hs, ∀ x ∈ l, 0 ≤ x ∧ x < (B : Int)) (hN : hs.length = N) (hN2 : N ≤ 1000000) (_hB : B ≤ 1000000) (hslots : slots ≤ 8) :
    ∀ (fuel item : Nat) (row : List Int) (ls : List (List Int)) (vs : List Value) (sn : List Bool) (w : World) (vh rowv : Value) (S GI cg cs : Nat), item < N → (∀ x ∈ row, 0 ≤ x ∧ x < (B : Int)) → cf sn ≤ fuel → SLD D w vh hs → Apart S GI vs w D → PI base Pb GI S N B slots F vh cg ls vs w → SN S sn w → sn.length = B → SBD D w rowv row →
    Calls Try.prog 53 #[.pointer (some ⟨Pb, 0, none⟩), .int .i64 item, rowv, .slice (some ⟨S, 0, none⟩) B cs] w (PuR base Pb GI S N B slots F vh cg hs row item sn ls vs w) := by
  subst hN
  intro fuel
  induction fuel using Nat.strongRecOn with
  | _ fuel ih =>
    intro item row ls vs sn w vh rowv S GI cg cs hi hrow hcf hh hap hpi hsn hsl hrb
    have IH := Lib.hid ih
    obtain ⟨Ah, ch, rfl⟩ := hh.form
    obtain ⟨Ar, cr, er, _⟩ := id hrb
    subst er
    have HH := Lib.hid hh
    have HPI := Lib.hid hpi
    have HSN := Lib.hid hsn
    have HR := Lib.hid hrow
    have HRB := Lib.hid hrb
    have HAP := Lib.hid hap
    have HRH := Lib.hid hr
    have hgi := hpi.inn.gi
    have hGS : GI ≠ S := by
      rintro rfl
      have h1 := hpi.inn.hdr
      have h2 := hsn
      unfold SN at h2
      rw [h1] at h2
      injection h2 with h2
      injection h2 with h3 h4
      exact absurd h4 (by decide)
    have hrl : row.length ≤ 9223372036854775807 := by
      obtain ⟨_, _, e, h1, h2, _⟩ := HRB.out
      omega
    have hi' : (item : Int) < (hs.length : Int) := by omega
    clear hh hpi hsn hrb hrow hap hr ih
    go_enter Try.func53, Try.ntmps53
    go_wp2_with fail
    go_loopw [15] (fun iv wr => PuL base Pb GI S hs.length B slots F (.slice Ah hs.length ch) cg hs (triedH row) sn ls vs w row.length iv wr) (fun iv _ => row.length - (intOf iv).toNat)
    case atStart => exact ⟨0, vs, sn, Nat.zero_le _, rfl, HPI.out, HSN.out, KP.refl _ _ _, FW.refl _ _ _ _, PutF.refl _ _ _ _ _, fun x hx => by simp at hx⟩
    case round =>
      obtain ⟨k, vs2, sn2, hk, rfl, hpi2, hsn2, hkp, hfw, hpf, htr⟩ := hrel
      have HPF := Lib.hid hpf
      have HTR := Lib.hid htr
      have HPI2 := Lib.hid hpi2
      have HSN2 := Lib.hid hsn2
      have HKP := Lib.hid hkp
      have HFW := Lib.hid hfw
      clear hpi2 hsn2 hkp hfw hpf htr
      by_cases hlt : k < row.length
      · obtain ⟨_, _, e, _, _, ha⟩ := HRB.out
        injection e with e1 e2 e3
        subst e1 e3
        obtain ⟨b, off, rfl, hb, hcell⟩ := ha (by omega)
        have c0 : wr.cell? ⟨b, off + k, none⟩ = some (.int .i64 row[k]) := (HAP.out.cell HFW.out ⟨b, off + k, none⟩ hb).trans (hcell k hlt)
        have hx := HR.out row[k] (List.getElem_mem hlt)
        obtain ⟨x, ex⟩ : ∃ x, x = row[k] := ⟨_, rfl⟩
        rw [← ex] at c0 hx
        obtain ⟨bn, rfl⟩ : ∃ bn : Nat, x = bn := ⟨x.toNat, by omega⟩
        have hbn : bn < B := by omega
        have hs2 : sn2.length = B := by have := HKP.out.1; omega
        have hv2 : vs2.length = B := HPI2.out.inn.lv
        have hl2 : ls.length = B := HPI2.out.inn.ll
        have wk : IntKind.i64.wrap ((k : Int) + 1) = (k : Int) + 1 := by exact IntWalk.i64_in _ (by omega)
        have z0 : 0 ≤ (bn : Int) := by omega
        have z1 : (bn : Int) < (B : Int) := by omega
        have hbs : bn < sn2.length := by omega
        obtain ⟨s0, s1⟩ := HSN2.out.cells hbs
        have HEX : Hid (row[k] = (bn : Int)) := (show Hid _ from ex.symm)
        have HMEM : Hid ((bn : Int) ∈ row) := (show Hid _ from by rw [ex]; exact List.getElem_mem _)
        clear ha hcell ex
        cases hsb : sn2[bn]
        · rw [hsb] at s0
          have HM := Lib.hid (KP.mark (ls := ls) (vs := vs2) hbs hsb)
          have HCF := Lib.hid (cf_set hbs hsb)
          have HSB := Lib.hid hsb
          obtain ⟨w1, ew1⟩ : ∃ w1 : World, w1 = wr.setCell ⟨S, bn, none⟩ (.bool true) := ⟨_, rfl⟩
          have HW1 : Hid (wr.setCell ⟨S, bn, none⟩ (.bool true) = w1) := ew1.symm
          have hgm : wr.grownBy w1 (some S) := by rw [ew1]; exact grownBy_setCell (g := S) (p := ⟨S, bn, none⟩) (grownBy_refl _ _) (.inl rfl) _
          have HPI1 : Hid (PI base Pb GI S hs.length B slots F (.slice Ah hs.length ch) cg ls vs2 w1) := (show Hid _ from HPI2.out.same hgm (fun e => hGS e.symm))
          have HSN1 : Hid (SN S (sn2.set bn true) w1) := (show Hid _ from by rw [ew1]; exact HSN2.out.mark bn)
          have HFW1 : Hid (FW S GI vs w vs2 w1) := (show Hid _ from HFW.out.step hgm (.inl rfl))
          have hbv : bn < vs2.length := by omega
          have hbl : bn < ls.length := by omega
          have hrow1 := HPI1.out.inn.row bn hbv hbl
          obtain ⟨Ab, cb, eb⟩ := own_sl hrow1
          obtain ⟨lb, elb⟩ : ∃ lb, lb = ls[bn] := ⟨_, rfl⟩
          rw [← elb] at eb hrow1
          have HEB := Lib.hid eb
          have HLB := Lib.hid elb
          obtain ⟨h0, h0f⟩ := HPI1.out.inn.cells hbv
          rw [eb] at h0 hrow1
          have HROW := Lib.hid hrow1
          have hlm := (HPI1.out.inn.its _ (List.getElem_mem hbl)).2
          rw [← HLB.out] at hlm
          obtain ⟨p0, p1, p2, p3⟩ := HPI1.out.cells
          clear hgm ew1 hrow1 eb elb hsb
          go_upto_region 6 with fail
          rw [HW1.out]
          clear s0 s1
          by_cases hroom1 : lb.length < slots
          · have d1 : decide ((lb.length : Int) < (slots : Int)) = true := decide_eq_true (by omega)
            have d1n : decide (lb.length < slots) = true := decide_eq_true hroom1
            go_quiet (fail)
            obtain ⟨w2, ew2⟩ : ∃ w2 : World, w2 = w1.drewN nq := ⟨_, rfl⟩
            have HPI3 : Hid (PI base Pb GI S hs.length B slots F (.slice Ah hs.length ch) cg ls vs2 w2) := (show Hid _ from by rw [ew2]; exact HPI1.out.drewN nq)
            have HSN3 : Hid (SN S (sn2.set bn true) w2) := (show Hid _ from by rw [ew2]; exact HSN1.out)
            have HFW3 : Hid (FW S GI vs w vs2 w2) := (show Hid _ from by rw [ew2]; exact HFW1.out.drewN nq)
            have HROW3 : Hid (w2.ownsRow base 3 1 (.slice Ab lb.length cb) lb.length (lb.map (Value.int .i64))) := (show Hid _ from by rw [ew2]; exact HROW.out)
            obtain ⟨q0, q1, q2, q3⟩ := HPI3.out.cells
            obtain ⟨g0, g1⟩ := HPI3.out.inn.cells hbv
            rw [HEB.out] at g0
            rw [← ew2]
            have hSl : S < w2.heap.size := heap_of_cells HSN3.out
            have hGl : GI < w2.heap.size := heap_of_cells HPI3.out.inn.hdr
            have hl7 : lb.length + 1 ≤ 8 := by omega
            have hPG : Pb ≠ GI := HPI3.out.nG
            have hPl : Pb < w2.heap.size := heap_of_cells HPI3.out.blk
            have hGP : GI ≠ Pb := Ne.symm hPG
            have hlq : lb.length ≤ 9223372036854775807 := by omega
            have HNG : Hid (∀ W : World, ∀ o : Obj, (w2.alloc o).grownBy W (Value.slice Ab lb.length cb).ownBlock → W.heap[GI]? = some (.cells vs2.toArray 22 (0, 0)) ∧ W.cell? ⟨Pb, 2, none⟩ = some (.slice (some ⟨GI, 0, none⟩) B cg)) := (show Hid _ from fun W o hg => by
              rw [← HEB.out] at hg
              have hne : some GI ≠ vs2[bn].ownBlock := fun e => (HPI3.out.inn.nos bn hbv GI e.symm).1 rfl
              have h1 := (hg.block GI (by simp; omega) hne).trans ((Below.heap_alloc _ _ _ hGl).trans HPI3.out.inn.hdr)
              have h2 := (hg.block Pb (by have := heap_of_cells HPI3.out.blk; simp; omega) (fun e => HPI3.out.ne ⟨bn, hbv, e.symm⟩)).trans ((Below.heap_alloc _ _ _ (heap_of_cells HPI3.out.blk)).trans HPI3.out.blk)
              exact ⟨h1, cell_of_row W Pb 2 _ _ _ h2⟩)
            have HFIN : Hid (∀ (g4 cap4 : Nat) (w4 : World), w4.ownsRow base 3 1 (.slice (some ⟨g4, 0, none⟩) (lb.length + 1) cap4) (lb.length + 1) (lb.map (Value.int .i64) ++ [.int .i64 item]) → (w2.alloc (.cells #[.int .i64 item] 3)).grownBy w4 (Value.slice Ab lb.length cb).ownBlock → ((Value.slice Ab lb.length cb).ownBlock = some g4 ∨ g4 = w2.heap.size + 1) →
                PuR base Pb GI S hs.length B slots F (.slice Ah hs.length ch) cg hs row item sn ls vs w (.returned (.bool true)) (w4.setCell ⟨GI, bn, none⟩ (.slice (some ⟨g4, 0, none⟩) (lb.length + 1) cap4))) := (show Hid _ from fun g4 cap4 w4 ho4 hg4 hat4 => by
              have hin := HPI3.out
              rw [← HEB.out] at hg4 hat4
              have hneS : vs2[bn].ownBlock ≠ some S := fun e => (hin.inn.nos bn hbv S e).2 rfl
              have hfin := hin.app hbv (o := .cells #[.int .i64 item] 3) (g := g4) (u := .slice (some ⟨g4, 0, none⟩) (lb.length + 1) cap4) (l := lb ++ [(item : Int)]) hSl hg4 (by simpa using ho4) rfl hat4 ⟨fun x hx => by
                rcases List.mem_append.1 hx with hx | hx
                · rw [HLB.out] at hx
                  exact (hin.inn.its _ (List.getElem_mem hbl)).1 x hx
                · simp at hx; subst hx; omega, by simp; omega⟩
              have hm : w4.grownBy (w4.setCell ⟨GI, bn, none⟩ (.slice (some ⟨g4, 0, none⟩) (lb.length + 1) cap4)) (some GI) := grownBy_setCell (g := GI) (p := ⟨GI, bn, none⟩) (grownBy_refl _ _) (.inl rfl) _
              have hsn4 : SN S (sn2.set bn true) w4 := SN.keep (w := w2.alloc (.cells #[.int .i64 item] 3)) ((Below.heap_alloc _ _ _ hSl).trans HSN3.out) hg4 hneS
              refine ⟨true, _, _, _, rfl, hfin, hsn4.keep hm (by simp; omega), HKP.out.trans (KP.turn hbs HSB.out (KP.refl _ _ _) _ _), HFW3.out.app hbv hg4 rfl hat4, fun h => (by cases h), fun _ => ?_⟩
              have h := PutT.app (cap := fun _ => slots) (mv := fun x => (F : Int) ≤ x) (hf := hf hs) (item := (item : Int)) hbl (by rw [← HLB.out]; exact hroom1) HMEM.out
              rwa [← HLB.out] at h)
            clear ew2 h0 h0f p0 p1 p2 p3
            go_upto_region 7 with fail
            go_region_law
              (first
                | (refine step_append_int1_at _ (by rfl) _ _ 22 (by rfl) base 3 Try.underlying22 iinfo (.slice Ab lb.length cb) lb (by rfl) (by first | exact HROW3.out.alloc _ | exact (HROW3.out.alloc _).drew) (item : Int) w2.heap.size (by rfl) (by exact cells_new w2 [.int .i64 item] 3 0 _ rfl) (by omega) (by simp; omega) ?_; intro g4 cap4 w4 ho4 hg4 hat4; have HG4 : Hid ((w2.alloc (.cells #[.int .i64 item] 3)).grownBy w4 (Value.slice Ab lb.length cb).ownBlock) := (show Hid _ from ⟨hg4.os, hg4.tape, hg4.output, hg4.size, hg4.block⟩); have HO4 := Lib.hid ho4; have HA4 := Lib.hid hat4; obtain ⟨hg9, q9⟩ := HNG.out w4 _ HG4.out; have c9 := (cell_of_row w4 GI bn _ _ _ hg9); have f9 := frozen_of_row w4 GI bn _ _ hg9; clear ho4 hg4 hat4 hg9))
            all_goals
              go_wp2_with fail
              refine bodyPost_ret (v := .bool true) (by simp [results, Try.results53, go_sem]) rfl ?_
              exact HFIN.out g4 cap4 w4 (by simpa using HO4.out) HG4.out (by simpa using HA4.out)
          · have d1 : decide ((lb.length : Int) < (slots : Int)) = false := decide_eq_false (by omega)
            have d1n : decide (lb.length < slots) = false := decide_eq_false hroom1
            have hlm2 := hlm
            go_quiet (fail)
            obtain ⟨w2, ew2⟩ : ∃ w2 : World, w2 = w1.drewN nq := ⟨_, rfl⟩
            have HPI3 : Hid (PI base Pb GI S hs.length B slots F (.slice Ah hs.length ch) cg ls vs2 w2) := (show Hid _ from by rw [ew2]; exact HPI1.out.drewN nq)
            have HSN3 : Hid (SN S (sn2.set bn true) w2) := (show Hid _ from by rw [ew2]; exact HSN1.out)
            have HFW3 : Hid (FW S GI vs w vs2 w2) := (show Hid _ from by rw [ew2]; exact HFW1.out.drewN nq)
            obtain ⟨q0, q1, q2, q3⟩ := HPI3.out.cells
            obtain ⟨g0, g1⟩ := HPI3.out.inn.cells hbv
            rw [HEB.out] at g0
            rw [← ew2]
            clear ew2 h0 h0f p0 p1 p2 p3
            go_wp2_with fail
            clear g0 g1 q0 q1 q2 q3
            go_loopw [63] (fun iv wq => PuL base Pb GI S hs.length B slots F (.slice Ah hs.length ch) cg hs (triedO (fun x => (F : Int) ≤ x) (hf hs) lb) (sn2.set bn true) ls vs2 w2 lb.length iv wq) (fun iv _ => lb.length - (intOf iv).toNat)
            case atStart => exact ⟨0, vs2, _, Nat.zero_le _, rfl, HPI3.out, HSN3.out, KP.refl _ _ _, FW.refl _ _ _ _, PutF.refl _ _ _ _ _, fun x hx => by simp at hx⟩
            case round =>
              obtain ⟨m, vs3, sn3, hm, rfl, hpi4, hsn4, hkp3, hfw4, hpf3, htr3⟩ := hrel
              have HPF3 := Lib.hid hpf3
              have HTR3 := Lib.hid htr3
              have HPI4 := Lib.hid hpi4
              have HSN4 := Lib.hid hsn4
              have HKP3 := Lib.hid hkp3
              have HFW4 : Hid (FW S GI vs w vs3 wr) := (show Hid _ from HFW3.out.trans hfw4)
              have HFI := Lib.hid hfw4
              clear hpf3 htr3 hpi4 hsn4 hkp3 hfw4
              have wm : IntKind.i64.wrap ((m : Int) + 1) = (m : Int) + 1 := by exact IntWalk.i64_in _ (by omega)
              by_cases hmt : m < lb.length
              · have hbt : (sn2.set bn true)[bn]? = some true := by simp [hbs]
                obtain ⟨g1, g2, g3⟩ := HKP3.out.2.2.2.2 bn hbt
                have hv3 : vs3.length = B := HPI4.out.inn.lv
                have hbv3 : bn < vs3.length := by omega
                have e3 : vs3[bn] = .slice Ab lb.length cb := by
                  rw [List.getElem?_eq_getElem hbv3, List.getElem?_eq_getElem hbv] at g3
                  injection g3 with g3
                  rw [g3, HEB.out]
                have e4 : ls[bn] = lb := HLB.out.symm
                have hrow3 := HPI4.out.inn.row bn hbv3 hbl
                rw [e3, e4] at hrow3
                obtain ⟨q, cap, e5, hq1, hq2⟩ := own_form hrow3 (by omega)
                injection e5 with e6 e7 e8
                subst e6
                have x0 : wr.cell? ⟨q, m, none⟩ = some (.int .i64 lb[m]) := own_int hrow3 m hmt
                have hxm := (HPI4.out.inn.its _ (List.getElem_mem hbl)).1 lb[m] (by rw [e4]; exact List.getElem_mem hmt)
                obtain ⟨x, ex⟩ : ∃ x, x = lb[m] := ⟨_, rfl⟩
                rw [← ex] at x0 hxm
                obtain ⟨it, rfl⟩ : ∃ it : Nat, x = it := ⟨x.toNat, by omega⟩
                have HIT : Hid (lb[m] = (it : Int)) := (show Hid _ from ex.symm)
                have hitl : it < hs.length := by omega
                have y0 : 0 ≤ (m : Int) := by omega
                have y1 : (m : Int) < (lb.length : Int) := by omega
                have y2 : 0 ≤ (it : Int) := by omega
                have y3 : (it : Int) < (hs.length : Int) := by omega
                obtain ⟨q0, q1, q2, q3⟩ := HPI4.out.cells
                have G1 := Lib.hid g1
                have E3 := Lib.hid e3
                clear g1 g2 g3 hrow3 ex e7 e8 e3 e4
                by_cases hF : (F : Int) ≤ (it : Int)
                · have dF : decide ((F : Int) ≤ (it : Int)) = true := decide_eq_true hF
                  have dFn : decide (F ≤ it) = true := decide_eq_true (by omega)
                  obtain ⟨bh, oh, Ao, co, eA, hbh, hco, hrb2⟩ := (HH.out.keep (HAP.out.cell HFW4.out)).row it hitl
                  subst eA
                  have EROW : Hid (hf hs it = hs[it]) := (show Hid _ from hf_at hitl)
                  have hro : ∀ x ∈ hs[it], 0 ≤ x ∧ x < (B : Int) := HRH.out _ (List.getElem_mem hitl)
                  obtain ⟨rowo, ero⟩ : ∃ r, r = hs[it] := ⟨_, rfl⟩
                  rw [← ero] at hco hrb2 hro EROW
                  have hcf3 : cf sn3 < fuel := by
                    have h1 := HKP3.out.2.2.2.1
                    have h2 := HCF.out
                    have h3 := HKP.out.2.2.2.1
                    omega
                  have hcall := IH.out (cf sn3) hcf3 it rowo ls vs3 sn3 wr (.slice (some ⟨bh, oh, none⟩) hs.length ch) (.slice Ao rowo.length co) S GI cg cs hitl hro (Nat.le_refl _) (HH.out.keep (HAP.out.cell HFW4.out)) (HAP.out.on HFW4.out) HPI4.out HSN4.out (by have := HKP3.out.1; simp at this; omega) hrb2
                  have HCALL := Lib.hid hcall
                  have hFI := Lib.hid hF
                  clear hcall ero hrb2 hro hF
                  go_wp2_with fail
                  (with_reducible refine HCALL.out.mono ?_)
                  rintro e w5 ⟨r, ls4, vs4, sn4, rfl, hpi5, hsn5, hkp5, hfw5, hret⟩
                  have HPI5 := Lib.hid hpi5
                  have HSN5 := Lib.hid hsn5
                  have HKP5 := Lib.hid hkp5
                  have HFW5 := Lib.hid hfw5
                  have HRET := Lib.hid hret
                  clear hpi5 hsn5 hkp5 hfw5 hret
                  cases r
                  · obtain ⟨rfl, hpf4, hit4⟩ := HRET.out.1 rfl
                    have HP4 := Lib.hid hpf4
                    have HI4 := Lib.hid hit4
                    clear hpf4 hit4
                    go_wp2_with fail
                    go_roundw
                    case rel => exact ⟨m + 1, vs4, sn4, by omega, by go_num, HPI5.out, HSN5.out, HKP3.out.trans HKP5.out, HFI.out.trans HFW5.out, HPF3.out.trans HP4.out, HTR3.out.step HP4.out hmt (fun _ => by rw [HIT.out, EROW.out]; exact HI4.out)⟩
                    case measure => simp [intOf]; omega
                  · obtain ⟨_, k2, k3⟩ := HKP5.out.2.2.2.2 bn G1.out
                    have hbv4 : bn < vs4.length := by have := HPI5.out.inn.lv; omega
                    have hbl4 : bn < ls4.length := by have := HPI5.out.inn.ll; omega
                    have f3 : vs4[bn] = .slice (some ⟨q, 0, none⟩) lb.length cb := by
                      rw [List.getElem?_eq_getElem hbv4, List.getElem?_eq_getElem hbv3] at k3
                      injection k3 with k3
                      rw [k3, E3.out]
                    have f4 : ls4[bn] = lb := by
                      rw [List.getElem?_eq_getElem hbl4, List.getElem?_eq_getElem hbl] at k2
                      injection k2 with k2
                      rw [k2, HLB.out]
                    obtain ⟨c4, _⟩ := HPI5.out.inn.cells hbv4
                    rw [f3] at c4
                    have hrow4 := HPI5.out.inn.row bn hbv4 hbl4
                    rw [f3, f4] at hrow4
                    have c5 : w5.cell? ⟨q, m, none⟩ = some (.int .i64 lb[m]) := own_int hrow4 m hmt
                    have c6 : w5.frozen? ⟨q, m, none⟩ = false := hrow4.frozenAt m
                    have hgm : w5.grownBy (w5.setCell ⟨q, m, none⟩ (.int .i64 item)) (some q) := (hrow4.stored m (.int .i64 item)).2
                    obtain ⟨r0, r1, r2, r3⟩ := HPI5.out.cells
                    have hfin : PuR base Pb GI S hs.length B slots F (.slice (some ⟨bh, oh, none⟩) hs.length ch) cg hs row item sn ls vs w (.returned (.bool true)) (w5.setCell ⟨q, m, none⟩ (.int .i64 item)) := by
                      refine ⟨true, _, _, sn4, rfl, HPI5.out.put hbv4 hbl4 (by rw [f3, f4]) m item ⟨by omega, by omega⟩, HSN5.out.keep hgm (by have := (HPI5.out.inn.nos bn hbv4 q (by rw [f3]; rfl)).2; simp; exact this), ?_, (HFW4.out.trans HFW5.out).step hgm (.inr (.inr ⟨bn, hbv4, by rw [f3]; rfl⟩)), fun h => (by cases h), fun _ => ?_⟩
                      · have hk := HKP.out.trans (KP.turn hbs HSB.out (HKP3.out.trans HKP5.out) (ls4[bn].set m item) vs4[bn])
                        rwa [List.set_getElem_self] at hk
                      · have h := HRET.out.2 rfl
                        rw [← EROW.out] at h
                        exact h.put hbl4 (by rw [bk_eq hbl, ← HLB.out, f4]) (by rw [f4]; exact hmt) (by rw [List.getElem_of_eq f4]; exact HIT.out) hFI.out HMEM.out
                    have HF := Lib.hid hfin
                    clear k2 k3 f3 f4 hrow4 hgm hfin
                    go_wp2_with fail
                    refine bodyPost_ret (v := .bool true) (by simp [results, Try.results53, go_sem]) rfl ?_
                    exact HF.out
                · have dF : decide ((F : Int) ≤ (it : Int)) = false := decide_eq_false hF
                  have dFn : decide (F ≤ it) = false := decide_eq_false (by omega)
                  have hFI := Lib.hid hF
                  clear hF
                  go_wp2_with fail
                  go_roundw
                  case rel => exact ⟨m + 1, vs3, sn3, by omega, by go_num, HPI4.out, HSN4.out, HKP3.out, HFI.out, HPF3.out, HTR3.out.step (PutF.refl (fun _ => slots) (fun x => (F : Int) ≤ x) (hf hs) ls _) hmt (fun h => absurd (by rw [HIT.out] at h; exact h) hFI.out)⟩
                  case measure => simp [intOf]; omega
              · go_wp2_with fail
                go_roundw
                case rel =>
                  have hml : m = lb.length := by omega
                  have hmk := PutF.mark hbs HPF3.out (by rw [bk_eq hbl, ← HLB.out]; show slots ≤ _; omega) (fun o ho => by
                    rw [bk_eq hbl, ← HLB.out] at ho
                    exact HTR3.out o (by rw [hml, List.take_length]; exact ho))
                  exact ⟨k + 1, vs3, sn3, by omega, by go_num, HPI4.out, HSN4.out, HKP.out.trans (HM.out.trans HKP3.out), HFW4.out, HPF.out.trans hmk, HTR.out.step hmk hlt HEX.out (HPF3.out.up bn (by simp [hbs]))⟩
                case measure => simp [intOf]; omega
        · rw [hsb] at s0
          have HSB := Lib.hid hsb
          clear hsb
          go_wp2_with fail
          go_roundw
          case rel => exact ⟨k + 1, vs2, sn2, by omega, by go_num, HPI2.out, HSN2.out, HKP.out, HFW.out, HPF.out, HTR.out.step (PutF.refl (fun _ => slots) (fun x => (F : Int) ≤ x) (hf hs) ls _) hlt HEX.out (by rw [List.getElem?_eq_getElem hbs, HSB.out])⟩
          case measure => simp [intOf]; omega
      · have hkl : k = row.length := by omega
        go_wp2_with fail
        refine bodyPost_ret (v := .bool false) (by simp [results, Try.results53, go_sem]) rfl ?_
        exact ⟨false, ls, vs2, sn2, rfl, HPI2.out, HSN2.out, HKP.out, HFW.out, fun _ => ⟨rfl, HPF.out, fun x hx => HTR.out x (by rw [hkl, List.take_length]; exact hx)⟩, fun h => (by cases h)⟩
end Go.Proofs.Ytllnomembakboaa

namespace Go.Proofs.Ytllnomembakboaa
open Go.RowKit

/-- make([]T, n), T of one cell -/
theorem wpList_make_one {P : Program} (w : World) {ops : Array Oper} {rest : List Oper} {o : Oper} {a : Act} {Q : Exit → Act → World → Prop}
    (hg : o.guard = none) (l c : Operand) (t : TypeId) (hop : o.op = Op.makeSlice t l c) (e : TypeId) (z : Value) (bytes : Nat) (ht : P.underlying t = some (.slice e)) (hinfo : (P.info? e).map (fun i => (i.zero, i.size, i.bytes)) = some (some z, 1, bytes)) (hz : z.cells = #[z]) (hby : bytes ≤ 64)
    (n : Nat) (hl : a.eval l = .int .i64 n) (hc : a.eval c = .int .i64 n) (hn : n ≤ 1000000)
    (hK : wpList P ops Q rest (a.put o.dst (.slice (some ⟨w.heap.size, 0, none⟩) n n)) (w.alloc (.cells (Array.replicate n z) e))) :
    wpList P ops Q (o :: rest) a w := by
  obtain ⟨i0, hi0, hz0, hz1, hz2⟩ := info_parts hinfo
  have hb : bytes * n ≤ 64 * 1000000 := Nat.mul_le_mul hby hn
  have hrun := run_makeSlice (P := P) w t e i0 _ ht hi0 hz0 .i64 .i64 n n (by omega) (Int.le_refl _) (by rw [hz1]; simp; omega) (by rw [hz2]; omega) (by omega)
  have hm : madeCells z.cells n = Array.replicate n z := by
    rw [hz]
    apply Array.toList_inj.1
    rw [toList_madeCells_one]
    simp
  simp only [Int.toNat_natCast] at hrun
  rw [hz1, Nat.mul_one, hm] at hrun
  refine wpList_plain hg fun K hK' => ?_
  unfold Oper.wp
  simp only [execOp, hop, hl, hc, hrun, Result.andThen, Sem.run_bind, Sem.run_pure]
  first
    | exact hK' _ _ hK
    | (simp [hrun, Result.andThen]; exact hK' _ _ hK)
theorem boinfo : (Try.prog.info? 4).map (fun i => (i.zero, i.size, i.bytes)) = some (some (.bool false), 1, 1) := by kernel_rfl
theorem slinfo : (Try.prog.info? 22).map (fun i => (i.zero, i.size, i.bytes)) = some (some (.slice none 0 0), 1, 24) := by kernel_rfl
/-- new buckets -/
theorem IN.made (w : World) (S N B : Nat) : IN w.heap.size w.heap.size S N B (List.replicate B []) (List.replicate B (.slice none 0 0)) (w.alloc (.cells (Array.replicate B (Value.slice none 0 0)) 22)) :=
  ⟨by rw [heap_alloc_new w _]; simp, by simp, by simp, fun b h1 h2 => by simp; exact World.ownsRow_nil _ _ _ _, fun b c h1 h2 q _ hq => by simp [Value.ownBlock] at hq, fun b h1 q hq => by simp [Value.ownBlock] at hq, fun l hl => by
    have := List.eq_of_mem_replicate hl
    subst this
    simp, Nat.le_refl _⟩
theorem IN.re {base GI S N B : Nat} {ls : List (List Int)} {vs : List Value} {w : World} (h : IN base GI S N B ls vs w) (S' : Nat) (hS : w.heap.size ≤ S') : IN base GI S' N B ls vs w :=
  ⟨h.hdr, h.lv, h.ll, h.row, h.apart, fun b h1 q hq => ⟨(h.nos b h1 q hq).1, by have := (h.lt h1 hq).2; omega⟩, h.its, h.gi⟩
theorem SN.made (w : World) (B : Nat) : SN w.heap.size (List.replicate B false) (w.alloc (.cells (Array.replicate B (Value.bool false)) 4)) := by
  unfold SN
  rw [heap_alloc_new w _]
  simp
def PoL (base GI N B : Nat) (hs : List (List Int)) (cap : Nat → Nat) (w : World) (iv : Value) (wr : World) : Prop :=
  ∃ (i : Nat) (ls : List (List Int)) (vs : List Value) (S : Nat), i ≤ N ∧ iv = .int .i64 (i : Nat) ∧ IN base GI S N B ls vs wr ∧ Below base w wr ∧ Stt hs cap (upto i) ls
set_option maxRecDepth 100000 in
set_option maxHeartbeats 16000000 in
theorem possible_any (_base room : Nat) (hs : List (List Int)) (used : List Int) (hr : ∀ l ∈ hs, ∀ x ∈ l, 0 ≤ x ∧ x < (used.length : Int)) (hN2 : hs.length ≤ 1000000) (hu : ∀ x ∈ used, 0 ≤ x ∧ x ≤ 1000) (hB : used.length ≤ 1000000) (hroom : room ≤ 8)
    (w : World) (vh vu : Value) (hh : SLb w.heap.size w vh hs) (hvu : SB w.heap.size w vu used) :
    Calls Try.prog 71 #[vh, .int .i64 used.length, .int .i64 room, vu] w fun e w' => ∃ r : Bool, e = .returned (.bool r) ∧ Below w.heap.size w w' ∧ (r = true ↔ ∃ out, Asg hs (capU room used) out) := by
  obtain ⟨Ah, ch, rfl⟩ := hh.form
  have HH := Lib.hid hh
  have HU := Lib.hid hvu
  have HR := Lib.hid hr
  have HUB := Lib.hid hu
  clear hh hvu hr hu
  go_enter Try.func71, Try.ntmps71
  go_wp2_with (first | (refine wpList_make_one _ rfl _ _ 88 rfl 22 _ 24 Try.underlying88 slinfo rfl (by omega) used.length (by rfl) (by rfl) hB ?_))
  go_loopw [16] (fun iv wr => PoL w.heap.size w.heap.size hs.length used.length hs (capU room used) w iv wr) (fun iv _ => hs.length - (intOf iv).toNat)
  case atStart => exact ⟨0, _, _, w.heap.size + 1, Nat.zero_le _, rfl, IN.made w _ _ _, (Below.refl _ _).alloc (Nat.le_refl _) _, Stt.nil _ _ _⟩
  case round =>
    obtain ⟨i, ls, vs, S, hi, rfl, hin, hbel, hst⟩ := hrel
    have HST := Lib.hid hst
    clear hst
    have HIN := Lib.hid hin
    have HBL := Lib.hid hbel
    clear hin hbel
    by_cases hlt : i < hs.length
    · have wk : IntKind.i64.wrap ((i : Int) + 1) = (i : Int) + 1 := by exact IntWalk.i64_in _ (by omega)
      obtain ⟨w1, ew1⟩ : ∃ w1 : World, w1 = wr.alloc (.cells (Array.replicate used.length (Value.bool false)) 4) := ⟨_, rfl⟩
      have hz := HBL.out.size
      have HIN1 : Hid (IN w.heap.size w.heap.size wr.heap.size hs.length used.length ls vs w1) := (show Hid _ from by rw [ew1]; exact (HIN.out.re wr.heap.size (Nat.le_refl _)).alloc _)
      have HSN1 : Hid (SN wr.heap.size (List.replicate used.length false) w1) := (show Hid _ from by rw [ew1]; exact SN.made _ _)
      have HB1 : Hid (Below w.heap.size w w1) := (show Hid _ from by rw [ew1]; exact HBL.out.alloc hz _)
      have hcall := place_any w.heap.size hs.length used.length room hs used HR.out rfl hN2 HUB.out rfl hB hroom (cf (List.replicate used.length false)) i ls vs _ w1 (.slice Ah hs.length ch) vu wr.heap.size w.heap.size used.length used.length hlt (Nat.le_refl _) (HH.out.below HB1.out) (HU.out.below HB1.out) HIN1.out HSN1.out (by simp) hz
      have HCALL := Lib.hid hcall
      have HW1 := Lib.hid ew1
      clear hcall ew1
      go_wp2_with (first | (refine wpList_make_one _ rfl _ _ 92 rfl 4 _ 1 Try.underlying92 boinfo rfl (by omega) used.length (by rfl) (by rfl) hB ?_))
      rw [← HW1.out]
      (with_reducible refine HCALL.out.mono ?_)
      rintro e w5 ⟨r, ls4, vs4, sn4, rfl, hin4, hsn4, hkp4, hbel4, hret⟩
      have HRET := Lib.hid hret
      have HSL4 : Hid (sn4.length = used.length) := (show Hid _ from by have := hkp4.1; rw [List.length_replicate] at this; exact this)
      have HLL : Hid (ls.length = used.length) := (show Hid _ from HIN.out.ll)
      clear hret
      have HIN4 := Lib.hid hin4
      have HBL4 : Hid (Below w.heap.size w w5) := (show Hid _ from HB1.out.trans hbel4)
      clear hin4 hsn4 hkp4 hbel4
      cases r
      · go_wp2_with fail
        refine bodyPost_ret (v := .bool false) (by simp [results, Try.results71, go_sem]) rfl ?_
        refine ⟨_, rfl, HBL4.out, fun h => (by cases h), fun ⟨out, ha⟩ => ?_⟩
        obtain ⟨_, hpf, hit⟩ := HRET.out.1 rfl
        refine (no_asg HST.out (upto_nodup _) (fun x hx => by have := upto_mem.1 hx; omega) hlt (fun hm => by have := upto_mem.1 hm; omega) HLL.out hpf HSL4.out hit (fun l hl x hx => (HR.out l hl x hx).1) out ha ?_ (fun b x _ hn => absurd trivial hn)).elim
        have hlo : i < out.length := by have := ha.len; omega
        exact ⟨out[i], by rw [hf_at hlt]; exact ha.mem i hlo hlt, List.getElem?_eq_getElem hlo⟩
      · go_wp2_with fail
        go_roundw
        case rel => exact ⟨i + 1, ls4, vs4, _, by omega, by go_num, HIN4.out, HBL4.out, (HST.out.put (HRET.out.2 rfl) (fun x hx => hx)).re (upto_succ i).symm⟩
        case measure => simp [intOf]; omega
    · go_wp2_with fail
      refine bodyPost_ret (v := .bool true) (by simp [results, Try.results71, go_sem]) rfl ?_
      refine ⟨_, rfl, HBL.out, fun _ => ?_, fun _ => rfl⟩
      have hie : i = hs.length := by omega
      have h := HST.out
      rw [hie] at h
      obtain ⟨out, ha, _⟩ := h.asg
      exact ⟨out, ha⟩
end Go.Proofs.Ytllnomembakboaa

namespace Go.Proofs.Ytllnomembakboaa
open Go.RowKit

/-- a block of numbers, known whole -/
def UB (U : Nat) (us : List Int) (w : World) : Prop := w.heap[U]? = some (.cells (us.map (Value.int .i64)).toArray 3 (0, 0))
theorem UB.keep {U : Nat} {us : List Int} {w w' : World} {r : Option Nat} (h : UB U us w) (hg : w.grownBy w' r) (hr : r ≠ some U) : UB U us w' := (hg.block U (heap_of_cells h) (fun e => hr e.symm)).trans h
theorem UB.below {U : Nat} {us : List Int} {w w' : World} (h : UB U us w) (hb : Below w.heap.size w w') : UB U us w' := (hb.block U (heap_of_cells h)).trans h
theorem UB.cells {U : Nat} {us : List Int} {w : World} (h : UB U us w) {b : Nat} (hb : b < us.length) : w.cell? ⟨U, b, none⟩ = some (.int .i64 us[b]) ∧ w.frozen? ⟨U, b, none⟩ = false := by
  refine ⟨?_, frozen_of_row w U b _ _ h⟩
  rw [cell_of_row w U b _ _ _ h]
  simp [hb]
theorem UB.set {U : Nat} {us : List Int} {w : World} (h : UB U us w) (b : Nat) (x : Int) : UB U (us.set b x) (w.setCell ⟨U, b, none⟩ (.int .i64 x)) := by
  have := heap_setCell_same w U b _ _ (.int .i64 x) h
  unfold UB
  rw [this, List.map_set]
  simp
theorem UB.sb {U c : Nat} {us : List Int} {w : World} (h : UB U us w) (hc : us.length ≤ c) (hc2 : c ≤ 9223372036854775807) (hr : ∀ x ∈ us, i64r x) : SB w.heap.size w (.slice (some ⟨U, 0, none⟩) us.length c) us :=
  ⟨_, c, rfl, hc, hc2, hr, fun _ => ⟨U, 0, rfl, heap_of_cells h, fun j hj => by rw [Nat.zero_add]; exact (h.cells hj).1⟩⟩
theorem SLb.cap {B n c : Nat} {A : Option Addr} {w : World} {ls : List (List Int)} (h : SLb B w (.slice A n c) ls) : ls.length ≤ c := by
  obtain ⟨vs, h1, ⟨A', c', e, hc, _⟩, _⟩ := h
  injection e with e1 e2 e3
  omega
theorem SLb.empty (B : Nat) (w : World) (A : Option Addr) (ls : List (List Int)) {i c n' : Nat} (hl : ls.length ≤ i) (hc : c ≤ 9223372036854775807) (hn : n' = 0) : SLb B w (.slice A n' c) (ls.drop i) := by
  rw [List.drop_of_length_le hl, hn]
  exact ⟨[], rfl, ⟨A, c, rfl, Nat.zero_le _, hc, fun h => by simp at h⟩, fun j h => by simp at h⟩
theorem UB.cnts0 {U B : Nat} {w : World} (h : w.heap[U]? = some (.cells (Array.replicate B (Value.int .i64 0)) 3 (0, 0))) : UB U (cnts B []) w := by
  unfold UB
  rw [h, cnts_nil]
  simp
theorem cnts_bd {room B : Nat} {out : List Int} (h : ∀ b : Nat, out.count (b : Int) ≤ room) : ∀ x ∈ cnts B out, 0 ≤ x ∧ x ≤ (room : Int) := by
  intro x hx
  obtain ⟨b, _, rfl⟩ := List.mem_map.1 hx
  have := h b
  omega
def FiL (base U N B room : Nat) (hs : List (List Int)) (w : World) (ov iv : Value) (wr : World) : Prop :=
  ∃ (i : Nat) (out : List Int), i ≤ N ∧ iv = .int .i64 (i : Nat) ∧ UB U (cnts B out) wr ∧ Lex hs (fun _ => room) out ∧ out.length = i ∧ wr.ownsRow base 3 1 ov out.length (out.map (Value.int .i64)) ∧ Below w.heap.size w wr ∧ base ≤ wr.heap.size
theorem poss_ext {hs : List (List Int)} {room B i bn : Nat} {out : List Int} (h : Lex hs (fun _ => room) out) (hol : out.length = i) (hi : i < hs.length) (hr : ∀ l ∈ hs, ∀ x ∈ l, 0 ≤ x ∧ x < (B : Int)) (hb : (bn : Int) ∈ hs[i]) (hc : out.count (bn : Int) < room) :
    (Ext hs (fun _ => room) (out ++ [(bn : Int)]) ↔ ∃ o, Asg (hs.drop (i + 1)) (capU room (cnts B (out ++ [(bn : Int)]))) o) ∧ ∀ b : Nat, (out ++ [(bn : Int)]).count (b : Int) ≤ room := by
  subst hol
  have hm : ∀ j (h1 : j < (out ++ [(bn : Int)]).length) (h2 : j < hs.length), (out ++ [(bn : Int)])[j] ∈ hs[j] := by
    intro j h1 h2
    rcases Nat.lt_or_ge j out.length with h3 | h3
    · rw [List.getElem_append_left h3]; exact h.ext.mem j h3 h2
    · have : j = out.length := by simp at h1; omega
      subst this
      simpa using hb
  have hcc : ∀ b : Nat, (out ++ [(bn : Int)]).count (b : Int) ≤ room := by
    intro b
    have := h.ext.cnt b
    rw [List.count_append, List.count_singleton]
    by_cases e : (bn : Int) = b
    · have e : bn = b := by omega
      subst e
      simp
      omega
    · simpa [e] using this
  refine ⟨?_, hcc⟩
  have hin : ∀ x ∈ out ++ [(bn : Int)], x < (B : Int) := by
    intro x hx
    obtain ⟨j, hj, rfl⟩ := List.getElem_of_mem hx
    have hj2 : j < hs.length := by simp at hj; omega
    exact (hr _ (List.getElem_mem hj2) _ (hm j hj hj2)).2
  have h1 := ext_iff (room := room) (hs := hs) (pre := out ++ [(bn : Int)]) (by simp; omega) hm hcc
  rw [h1, show capU room (cnts B (out ++ [(bn : Int)])) = _ from cnts_cap room B _ hin]
  simp
def FiI (U B room : Nat) (hs : List (List Int)) (row : List Int) (out : List Int) (w1 : World) (vo ov iv : Value) (wr : World) : Prop :=
  ∃ (k : Nat), vo = ov ∧ k ≤ row.length ∧ iv = .int .i64 (k : Nat) ∧ UB U (cnts B out) wr ∧ w1.grownBy wr (some U) ∧ ∀ x ∈ row.take k, ¬ Ext hs (fun _ => room) (out ++ [x])
set_option maxRecDepth 100000 in
set_option maxHeartbeats 16000000 in
theorem first_any (B room : Nat) (hs : List (List Int)) (hr : ∀ l ∈ hs, ∀ x ∈ l, 0 ≤ x ∧ x < (B : Int)) (hN2 : hs.length ≤ 100000) (hB : B ≤ 1000000) (hroom : room ≤ 8) (w : World) (vh : Value) (hh : SLb w.heap.size w vh hs) :
    Calls Try.prog 57 #[vh, .int .i64 B, .int .i64 room] w fun e w' => ∃ (r : Bool) (out : List Int) (v' : Value), e = .returned (.tuple #[v', .bool r]) ∧ w'.ownsRow w.heap.size 3 1 v' out.length (out.map (Value.int .i64)) ∧ Below w.heap.size w w' ∧ (r = true → LexF hs (fun _ => room) out) ∧ (r = false → ¬ ∃ out, Asg hs (fun _ => room) out) := by
  obtain ⟨Ah, ch, rfl⟩ := hh.form
  have HH := Lib.hid hh
  have HR := Lib.hid hr
  clear hh hr
  go_enter Try.func57, Try.ntmps57
  obtain ⟨w1, ew1⟩ : ∃ w1 : World, w1 = w.alloc (.cells (Array.replicate B (Value.int .i64 0)) 3) := ⟨_, rfl⟩
  have HA : Hid (Below w.heap.size w w1) := (show Hid _ from by rw [ew1]; exact (Below.refl _ _).alloc (Nat.le_refl _) _)
  have HUB : Hid (UB w.heap.size (cnts B []) w1) := (show Hid _ from UB.cnts0 (by rw [ew1]; exact heap_alloc_new w _))
  have hz1 : w1.heap.size = w.heap.size + 1 := by rw [ew1]; simp
  have HW1 := Lib.hid ew1
  have hlB : (cnts B []).length = B := cnts_len _ _
  have hcap : capU room (cnts B []) = fun _ => room := by rw [cnts_nil]; funext b; unfold capU; by_cases h : b < B <;> simp [h]
  have hcall := possible_any w1.heap.size room hs (cnts B []) (by rw [hlB]; exact HR.out) (by omega) (fun x hx => by have := cnts_bd (room := room) (out := []) (by simp) x hx; omega) (by omega) hroom w1 (.slice Ah hs.length ch) (.slice (some ⟨w.heap.size, 0, none⟩) B B) ((HH.out.below HA.out).more (by omega)) (by
    have := HUB.out.sb (c := B) (by omega) (by omega) (fun x hx => by have := cnts_bd (room := room) (out := []) (by simp) x hx; unfold i64r; omega)
    rwa [hlB] at this)
  rw [hlB, hcap] at hcall
  have HCALL := Lib.hid hcall
  clear hcall ew1 hlB hcap
  go_wp2_with (first | (refine wpList_make_one _ rfl _ _ 22 rfl 3 _ 8 Try.underlying22 iinfo rfl (by omega) B (by rfl) (by rfl) hB ?_))
  rw [← HW1.out]
  (with_reducible refine HCALL.out.mono ?_)
  rintro e w2 ⟨r, rfl, hb2, hiff⟩
  have HIFF := Lib.hid hiff
  have HB2 := Lib.hid hb2
  have HBA : Hid (Below w.heap.size w w2) := (show Hid _ from HA.out.trans (hb2.mono (by omega)))
  have hz2 := hb2.size
  clear hb2 hiff
  cases r
  · go_wp2_with fail
    refine bodyPost_ret (v := .tuple #[.slice none 0 0, .bool false]) (by simp [results, Try.results57, go_sem]) rfl ?_
    exact ⟨false, [], _, rfl, World.ownsRow_nil _ _ _ _, HBA.out, fun h => (by cases h), fun _ h => by cases HIFF.out.2 h⟩
  · go_wp2_with fail
    go_loopw [9, 24] (fun ov iv wr => FiL w2.heap.size w.heap.size hs.length B room hs w ov iv wr) (fun _ iv _ => hs.length - (intOf iv).toNat)
    case atStart => exact ⟨0, [], Nat.zero_le _, rfl, HUB.out.below HB2.out, Lex.nil (HIFF.out.1 (by first | exact rfl | exact trivial)), rfl, World.ownsRow_nil _ _ _ _, HBA.out, Nat.le_refl _⟩
    case round =>
      obtain ⟨i, out, hi, rfl, hub, hlx, hol, hown, hbel, hsz⟩ := hrel
      have HUr := Lib.hid hub
      have HLX := Lib.hid hlx
      have HOL := Lib.hid hol
      have HO := Lib.hid hown
      have HBL := Lib.hid hbel
      clear hub hlx hown hbel hol
      by_cases hlt : i < hs.length
      · obtain ⟨bh, oh, Ar, cr, rfl, hbh, hrow, hrb⟩ := (HH.out.below HBL.out).row i hlt
        have HRB := Lib.hid hrb
        have HRw : Hid (∀ x ∈ hs[i], 0 ≤ x ∧ x < (B : Int)) := (show Hid _ from HR.out _ (List.getElem_mem hlt))
        obtain ⟨row, erow⟩ : ∃ row, row = hs[i] := ⟨_, rfl⟩
        rw [← erow] at HRw HRB hrow
        have EROW := Lib.hid erow
        have wk : IntKind.i64.wrap ((i : Int) + 1) = (i : Int) + 1 := by exact IntWalk.i64_in _ (by omega)
        have hrl : row.length ≤ 9223372036854775807 := by
          obtain ⟨_, _, e, h1, h2, _⟩ := HRB.out
          omega
        clear hrb erow
        obtain ⟨wo, ewo⟩ : ∃ wo : World, wo = wr := ⟨_, rfl⟩
        rw [← ewo] at HUr HO HBL HRB hsz
        go_wp2_with fail
        clear hrow
        subst ewo
        obtain ⟨vo, hvo⟩ : ∃ vo : Value, vo = u9 := ⟨_, rfl⟩
        subst hvo
        go_loopw [9, 31] (fun ov iv wq => FiI w.heap.size B room hs row out wo vo ov iv wq) (fun _ iv _ => row.length - (intOf iv).toNat)
        case atStart => exact ⟨0, rfl, Nat.zero_le _, rfl, HUr.out, grownBy_refl _ _, fun x hx => by simp at hx⟩
        case round =>
          obtain ⟨k, rfl, hk, rfl, hub2, hg2, hno⟩ := hrel
          have HU2 := Lib.hid hub2
          have HG2 := Lib.hid hg2
          have HNO := Lib.hid hno
          have hzo := HBL.out.size
          have hz2' := hg2.size
          clear hub2 hg2 hno
          have HBw : Hid (Below w.heap.size w wr) := (show Hid _ from HBL.out.trans (below_of_grownBy HG2.out (Nat.le_refl _) hzo))
          have HOw : Hid (wr.ownsRow w2.heap.size 3 1 vo out.length (out.map (Value.int .i64))) := (show Hid _ from HO.out.kept HG2.out (.inr (fun e => by have := (HO.out.lt _ e).1; omega)))
          by_cases hkl : k < row.length
          · have wk2 : IntKind.i64.wrap ((k : Int) + 1) = (k : Int) + 1 := by exact IntWalk.i64_in _ (by omega)
            obtain ⟨_, _, e, _, _, _, ha⟩ := HRB.out
            injection e with e1 e2 e3
            subst e1 e3
            obtain ⟨b, off, rfl, hb, hcell⟩ := ha (by omega)
            have c0 : wr.cell? ⟨b, off + k, none⟩ = some (.int .i64 row[k]) := HG2.out.cell (hcell k hkl) (by simp; omega)
            have hx := HRw.out row[k] (List.getElem_mem hkl)
            obtain ⟨x, ex⟩ : ∃ x, x = row[k] := ⟨_, rfl⟩
            rw [← ex] at c0 hx
            obtain ⟨bn, rfl⟩ : ∃ bn : Nat, x = bn := ⟨x.toNat, by omega⟩
            have HEX : Hid (row[k] = (bn : Int)) := (show Hid _ from ex.symm)
            have hul := cnts_len B out
            have hbu : bn < (cnts B out).length := by omega
            obtain ⟨u0, u1⟩ := HU2.out.cells hbu
            have hub : out.count (bn : Int) ≤ room := HLX.out.ext.cnt bn
            rw [cnts_at hbu] at u0
            obtain ⟨c, ec⟩ : ∃ c, c = out.count (bn : Int) := ⟨_, rfl⟩
            rw [← ec] at u0 hub
            have HC := Lib.hid ec
            have HSTEP : Hid (∀ x ∈ row.take (k + 1), x = (bn : Int) ∨ ¬ Ext hs (fun _ => room) (out ++ [x])) := (show Hid _ from fun x hx => by
              rw [List.take_succ_eq_append_getElem hkl] at hx
              rcases List.mem_append.1 hx with h1 | h1
              · exact .inr (HNO.out x h1)
              · obtain rfl := List.mem_singleton.1 h1
                exact .inl HEX.out)
            have z0 : 0 ≤ (bn : Int) := by omega
            have z1 : (bn : Int) < (B : Int) := by omega
            clear ha hcell ex ec hul
            by_cases hym : c = room
            · have d1 : ((c : Int) == (room : Int)) = true := by rw [beq_iff_eq]; omega
              have d2 : (c == room) = true := by rw [beq_iff_eq]; omega
              have HNX : Hid (∀ x ∈ row.take (k + 1), ¬ Ext hs (fun _ => room) (out ++ [x])) := (show Hid _ from fun x hx he => by
                rcases HSTEP.out x hx with rfl | h
                · have h := he.cnt bn
                  rw [List.count_append, ← HC.out] at h
                  simp at h
                  omega
                · exact h he)
              have hym2 := Lib.hid hym
              clear hym
              go_wp2_with fail
              go_roundw
              case rel => exact ⟨k + 1, rfl, by omega, by go_num, HU2.out, HG2.out, HNX.out⟩
              case measure => simp [intOf]; omega
            · have d1 : ((c : Int) == (room : Int)) = false := by rw [beq_eq_false_iff_ne]; omega
              have d2 : (c == room) = false := by rw [beq_eq_false_iff_ne]; omega
              have wy : IntKind.i64.wrap ((c : Int) + 1) = (c : Int) + 1 := by exact IntWalk.i64_in _ (by omega)
              have wy2 : IntKind.i64.wrap ((c : Int) + 1 - 1) = (c : Int) := by
                have := IntWalk.i64_in ((c : Int) + 1 - 1) (by omega)
                omega
              have hmb : (bn : Int) ∈ hs[i] := by rw [← EROW.out, ← HEX.out]; exact List.getElem_mem _
              obtain ⟨hpx, hcc⟩ := poss_ext HLX.out HOL.out hlt HR.out hmb (by rw [← HC.out]; omega)
              obtain ⟨out2, eo2⟩ : ∃ o, o = out ++ [(bn : Int)] := ⟨_, rfl⟩
              obtain ⟨w3, ew3⟩ : ∃ w3 : World, w3 = wr.setCell ⟨w.heap.size, bn, none⟩ (.int .i64 ((c : Int) + 1)) := ⟨_, rfl⟩
              rw [← eo2] at hpx hcc
              have hup : (cnts B out).set bn ((c : Int) + 1) = cnts B out2 := by rw [eo2, HC.out]; exact cnts_up (by omega)
              have hdn : (cnts B out2).set bn (c : Int) = cnts B out := by
                rw [← hup, List.set_set]
                have h := @List.set_getElem_self _ (cnts B out) bn hbu
                rw [cnts_at hbu, ← HC.out] at h
                exact h
              have hU3 : UB w.heap.size (cnts B out2) w3 := by rw [← hup, ew3]; exact HU2.out.set bn _
              have HG3 : Hid (wo.grownBy w3 (some w.heap.size)) := (show Hid _ from by rw [ew3]; exact grownBy_setCell HG2.out (.inl rfl) _)
              have hz3 := HG3.out.size
              have HB3 : Hid (Below w.heap.size w w3) := (show Hid _ from HBL.out.trans (below_of_grownBy HG3.out (Nat.le_refl _) hzo))
              have HO3 : Hid (w3.ownsRow w2.heap.size 3 1 vo out.length (out.map (Value.int .i64))) := (show Hid _ from HO.out.kept HG3.out (.inr (fun e => by have := (HO.out.lt _ e).1; omega)))
              have hl3 := cnts_len B out2
              have hcall := fun (A' : Option Addr) (n' c' : Nat) (h : SLb w3.heap.size w3 (.slice A' n' c') (hs.drop (i + 1))) => possible_any w3.heap.size room (hs.drop (i + 1)) (cnts B out2) (fun l hl => by rw [hl3]; exact HR.out l (List.mem_of_mem_drop hl)) (by rw [List.length_drop]; omega) (fun x hx => by have := cnts_bd hcc x hx; omega) (by omega) hroom w3 (.slice A' n' c') (.slice (some ⟨w.heap.size, 0, none⟩) B B) h (by
                have := hU3.sb (c := B) (by omega) (by omega) (fun x hx => by have := cnts_bd hcc x hx; unfold i64r; omega)
                rwa [hl3] at this)
              have HSL3 : Hid (SLb w3.heap.size w3 (.slice (some ⟨bh, oh + (i + 1), none⟩) (hs.length - (i + 1)) (ch - (i + 1))) (hs.drop (i + 1))) := (show Hid _ from ((HH.out.below HB3.out).more (by omega)).drop (i + 1) (by omega) rfl)
              have hcl : hs.length ≤ ch := HH.out.cap
              rw [hl3] at hcall
              have HCALL3 := Lib.hid hcall
              have HU3 := Lib.hid hU3
              have HPX := Lib.hid hpx
              have HDN := Lib.hid hdn
              have HO2 := Lib.hid eo2
              have HW3 := Lib.hid ew3
              have HCT : Hid ((cnts B out2)[bn]? = some ((c : Int) + 1)) := (show Hid _ from (by rw [← hup]; simp [hbu] : (cnts B out2)[bn]? = some ((c : Int) + 1)))
              have hi1 : (i : Int) + 1 ≤ (hs.length : Int) := by omega
              have hi0 : 0 ≤ (i : Int) + 1 := by omega
              have hin : ((i : Int) + 1).toNat = i + 1 := by omega
              have hb3 : bn < (cnts B out2).length := by omega
              clear hcall hU3 hpx hcc hup hdn ew3 eo2 hl3 hmb
              go_wp2_with fail
              case' inl =>
                have hle : hs.length ≤ i + 1 := by omega
                rw [← h]
                clear h
              all_goals
                rw [← HW3.out]
                (with_reducible refine (HCALL3.out _ _ _ (by first | exact HSL3.out | exact SLb.empty _ _ _ _ hle (by omega) (by omega))).mono ?_)
                rintro e w4 ⟨r, rfl, hb4, hif4⟩
                have HIF4 := Lib.hid hif4
                have HB4 : Hid (Below w.heap.size w w4) := (show Hid _ from HB3.out.trans (hb4.mono HB3.out.size))
                have HG4 : Hid (wo.grownBy w4 (some w.heap.size)) := (show Hid _ from grownBy_trans HG3.out (grownBy_of_below hb4 _))
                have HO4 : Hid (w4.ownsRow w2.heap.size 3 1 vo out.length (out.map (Value.int .i64))) := (show Hid _ from HO3.out.kept (grownBy_of_below hb4 none) (by cases hq : vo.ownBlock with
                  | none => exact .inl rfl
                  | some q => exact .inr (by simp)))
                have HU4 : Hid (UB w.heap.size (cnts B out2) w4) := (show Hid _ from HU3.out.below hb4)
                have hz4 := HG4.out.size
                obtain ⟨u2, u3⟩ := HU4.out.cells hb3
                have h35 := HCT.out
                rw [List.getElem?_eq_getElem hb3] at h35
                injection h35 with h35
                rw [h35] at u2
                clear hb4 h35 c0 hif4
                cases r
                · have HNX : Hid (∀ x ∈ row.take (k + 1), ¬ Ext hs (fun _ => room) (out ++ [x])) := (show Hid _ from fun x hx he => by
                    rcases HSTEP.out x hx with rfl | h
                    · rw [← HO2.out] at he
                      cases HIF4.out.2 (HPX.out.1 he)
                    · exact h he)
                  go_wp2_with fail
                  go_roundw
                  case rel => exact ⟨k + 1, rfl, by omega, by go_num, by
                    have := HU4.out.set bn (c : Int)
                    rw [HDN.out] at this
                    exact this, grownBy_setCell HG4.out (.inl rfl) _, HNX.out⟩
                  case measure => simp [intOf]; omega
                · have HLX2 : Hid (Lex hs (fun _ => room) (out ++ [(bn : Int)])) := (show Hid _ from by
                    have he := HPX.out.2 (HIF4.out.1 (by first | exact rfl | exact trivial))
                    rw [HO2.out] at he
                    have hol := HOL.out
                    subst hol
                    have hk1 : hs[out.length][k]'(by rw [← EROW.out]; exact hkl) = (bn : Int) := by rw [← HEX.out]; exact (List.getElem_of_eq EROW.out _).symm
                    have h := HLX.out.snoc hlt (k := k) (by rw [← EROW.out]; exact hkl) (by rw [hk1]; exact he) (by rw [← EROW.out]; exact HNO.out)
                    rwa [hk1] at h)
                  go_wp2_with (at_builtin; refine wpList_append_int1 _ rfl _ _ 22 rfl w2.heap.size 3 Try.underlying22 iinfo _ out (by rfl) (by exact HO4.out) _ (by rfl) ?c1 ?c2 ?_)
                  case c1 => have := HOL.out; omega
                  case c2 => omega
                  intro v5 w5 ho5 hg5
                  have HO5 : Hid (w5.ownsRow w2.heap.size 3 1 v5 (out ++ [(bn : Int)]).length ((out ++ [(bn : Int)]).map (Value.int .i64))) := (show Hid _ from by show World.ownsRow _ _ _ _ _ _ _; simpa using ho5)
                  have hnb : ∀ q, vo.ownBlock = some q → w2.heap.size ≤ q := fun q hq => (HO4.out.lt q hq).1
                  have HU5 : Hid (UB w.heap.size (cnts B out2) w5) := (show Hid _ from UB.keep (w := w4.alloc (.cells #[.int .i64 bn] 3)) ((Below.heap_alloc _ _ _ (heap_of_cells HU4.out)).trans HU4.out) hg5 (fun e => by have := hnb _ e; omega))
                  have HB5 : Hid (Below w.heap.size w w5) := (show Hid _ from (HB4.out.alloc HB4.out.size _).grown hg5 (by simp; omega) (fun q hq => by have := hnb q hq; omega))
                  have hz5 : w2.heap.size ≤ w5.heap.size := by have := hg5.size; simp at this; omega
                  clear ho5 hg5 hnb u2 u3
                  go_wp2_with fail
                  go_roundw
                  case rel => exact ⟨i + 1, out ++ [(bn : Int)], by omega, by go_num, by rw [← HO2.out]; exact HU5.out, HLX2.out, by have := HOL.out; simp; omega, HO5.out, HB5.out, hz5⟩
                  case measure => simp [intOf]; omega
          · exfalso
            have hkr : k = row.length := by omega
            have hol := HOL.out
            subst hol
            exact HLX.out.all hlt (by rw [← EROW.out]; intro x hx; exact HNO.out x (by rw [hkr, List.take_length]; exact hx))
      · go_wp2_with fail
        refine bodyPost_ret (v := .tuple #[u9, .bool true]) (by simp [results, Try.results57, go_sem]) rfl ?_
        exact ⟨true, out, u9, rfl, own_lo HO.out (by have := HBA.out.size; omega), HBL.out, fun _ => HLX.out.full (by have := HOL.out; omega), fun h => (by cases h)⟩
end Go.Proofs.Ytllnomembakboaa

namespace Go.Proofs.Ytllnomembakboaa
open Go.RowKit

theorem made_bytes (n : Nat) (hn : n ≤ 1000000) (w : World) : (Instr.makeSlice 63 (.int .i64 n) (.int .i64 n)).run Try.prog w = .ok (.slice (some ⟨w.heap.size, 0, none⟩) n n) (w.alloc (.cells (Array.replicate n (Value.int .u8 0)) 5)) := by
  obtain ⟨i0, hi0, hz0, hz1, hz2⟩ := info_parts binfo
  have hrun := run_makeSlice (P := Try.prog) w 63 5 i0 _ Try.underlying63 hi0 hz0 .i64 .i64 n n (by omega) (Int.le_refl _) (by rw [hz1]; simp; omega) (by rw [hz2]; omega) (by omega)
  have hm : madeCells (Value.int .u8 0).cells n = Array.replicate n (Value.int .u8 0) := by
    apply Array.toList_inj.1
    rw [show (Value.int .u8 0).cells = #[Value.int .u8 0] from rfl, toList_madeCells_one]
    simp
  simp only [Int.toNat_natCast] at hrun
  rw [hz1, Nat.mul_one, hm] at hrun
  exact hrun
def zeros (n : Nat) : List UInt8 := List.replicate n 0
theorem own_zeros (w : World) (n : Nat) (hn : n ≤ 1000000) : (w.alloc (.cells (Array.replicate n (Value.int .u8 0)) 5)).ownsRow w.heap.size 5 1 (.slice (some ⟨w.heap.size, 0, none⟩) n n) (zeros n).length ((zeros n).flatMap bcs) := by
  have e : (zeros n).flatMap bcs = List.replicate n (Value.int .u8 0) := by
    unfold zeros
    induction n with
    | zero => rfl
    | succ n ih => rw [List.replicate_succ, List.replicate_succ, List.flatMap_cons, ih (by omega)]; rfl
  rw [e]
  refine ⟨by simp [zeros], .inr ⟨w.heap.size, n, _, by simp [zeros], Nat.le_refl _, heap_alloc_new w _, by simp [zeros], by unfold maxLen; omega, by simp, by simp [zeros]⟩⟩
end Go.Proofs.Ytllnomembakboaa
