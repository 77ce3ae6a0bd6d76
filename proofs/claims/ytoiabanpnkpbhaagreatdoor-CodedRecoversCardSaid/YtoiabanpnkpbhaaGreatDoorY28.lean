/- Joined: Kl Ge Gd Ew Kd Ac. -/
import Derived.Test.YtoiabanpnkpbhaaGreatDoorRows
import Derived.ProofKit
import Derived.LaidMore
import Derived.LaidLaws
import Derived.OpenShut
import Derived.ChangeSame
import Derived.ChangeMade
import Derived.Stop.Joined
import Derived.Deep.AppendSrc
import Derived.Deep.Upon
import Derived.Test.YtoiabanpnkpbhaaGreatDoorY24
import Derived.Test.YtoiabanpnkpbhaaGreatDoorY23
import Derived.Test.YtoiabanpnkpbhaaGreatDoorY17
import Derived.Test.YtoiabanpnkpbhaaGreatDoorY07
import Derived.Test.YtoiabanpnkpbhaaGreatDoorY19
import Derived.Test.YtoiabanpnkpbhaaGreatDoorY22
namespace Go.Proofs.YtoiabanpnkpbhaaGreatDoor
open Go.RowKit

def Lo1 (ps : List (List Int)) (G g : Nat) (w : World) (v iv : Value) (wr : World) : Prop :=
  ∃ (i : Nat) (pv : Value) (vs : List Value) (rows : List (List Int)), pv = v ∧ i ≤ G ∧ iv = .int .i64 i ∧ rows = ((List.range i).map fun i => ps.map fun p => gd p i) ∧ RW w.heap.size g wr pv vs rows ∧ Below w.heap.size w wr
def Lo2 (ps : List (List Int)) (i : Nat) (wq : World) (v iv : Value) (wr : World) : Prop :=
  ∃ (j : Nat) (pv : Value) (ns : List Int), pv = v ∧ j ≤ ps.length ∧ iv = .int .i64 j ∧ ns = ((ps.take j).map fun p => gd p i) ∧ wr.ownsRow wq.heap.size 3 1 pv ns.length (ns.map (Value.int .i64)) ∧ Below wq.heap.size wq wr
set_option maxRecDepth 100000 in
set_option maxHeartbeats 8000000 in
theorem lowest_ok (ps : List (List Int)) (G g : Nat) (v : Value) (w : World) (hg : g < w.heap.size) (h : SL w v ps) (hG : G ≤ 100) (hz : ps.length ≤ 10000) (hr : ∀ p ∈ ps, ∀ x ∈ p, i64r x) (hpl : ∀ p ∈ ps, p.length ≤ 1000000) :
    Calls Tryz.prog 67 #[v, .int .i64 G] w fun e w' => ∃ A c, e = .returned (.slice A G c) ∧ Below w.heap.size w w' ∧ SLE g w' (.slice A G c) ((List.range G).map fun i => ps.map fun p => gd p i) := by
  obtain ⟨A, c, rfl, hc, hm, ha⟩ := h
  have HA := Lib.hid ha
  have HR := Lib.hid hr
  have HPL := Lib.hid hpl
  clear hpl
  obtain ⟨n, en⟩ : ∃ n, n = ps.length := ⟨_, rfl⟩
  have HN := Lib.hid en
  rw [← en] at hc hz ⊢
  clear ha hr en
  go_enter Tryz.func67, Tryz.ntmps67
  go_wp2_with fail
  go_loopw [5, 11] (fun v iv wr => Lo1 ps G g w v iv wr) (fun _ iv _ => G - (intOf iv).toNat)
  case atStart => exact ⟨0, _, [], [], rfl, Nat.zero_le _, rfl, rfl, RW.nil _ _ _, Below.refl _ _⟩
  case round =>
    obtain ⟨i, pv, vs, rows, rfl, hi, rfl, hrows, hrw, hb⟩ := hrel
    have HRW := Lib.hid hrw
    have HB := Lib.hid hb
    have HRO := Lib.hid hrows
    have hvn : vs.length ≤ 100 := by have h1 := hrw.len; rw [hrows] at h1; simp at h1; omega
    clear hrw hb hrows
    by_cases hli : i < G
    · have di : decide (i < G) = true := decide_eq_true hli
      obtain ⟨wq, rfl⟩ : ∃ wq : World, wq = wr := ⟨_, rfl⟩
      have HZ : Hid (w.heap.size ≤ wq.heap.size) := HB.out.size
      go_wp2_with fail
      go_loopw [7, 16] (fun v iv wr => Lo2 ps i wq v iv wr) (fun _ iv _ => n - (intOf iv).toNat)
      case atStart => exact ⟨0, _, [], rfl, Nat.zero_le _, rfl, rfl, World.ownsRow_nil _ _ _ _, Below.refl _ _⟩
      case round =>
        obtain ⟨j, qv, ns, rfl, hj, rfl, hns, hown, hb2⟩ := hrel
        have HO := Lib.hid hown
        have HB2 := Lib.hid hb2
        have HNS := Lib.hid hns
        have hnl : ns.length = j := by rw [hns]; simp; omega
        have HNL := Lib.hid hnl
        have hnl' : ns.length ≤ 10000 := by have := HN.out; omega
        have hzr : wq.heap.size ≤ wr.heap.size := hb2.size
        have HBw : Hid (Below w.heap.size w wr) := HB.out.trans (hb2.mono HZ.out)
        clear hown hb2 hns hnl
        by_cases hlj : j < n
        · have dj : decide (j < n) = true := decide_eq_true hlj
          have hj' : j < ps.length := by rw [← HN.out]; exact hlj
          obtain ⟨b, off, rfl, hbw, hcell⟩ := HA.out (by omega)
          obtain ⟨B, d, c1, hs⟩ := hcell j hj'
          have HS : Hid (SI wr (.slice B ps[j].length d) ps[j]) := (show Hid _ from hs.below HBw.out)
          have c2 := (HBw.out.cell (p := ⟨b, off + j, none⟩) hbw).trans c1
          have HXI : Hid (i64r (gd ps[j] i)) := (show Hid _ from by
            show i64r _
            by_cases h : i < ps[j].length
            · rw [gd_lt h]; exact HR.out _ (List.getElem_mem hj') _ (List.getElem_mem h)
            · rw [gd_ge (Nat.le_of_not_lt h)]; unfold i64r; omega)
          have HLP : Hid (ps[j].length ≤ 1000000) := (show Hid _ from HPL.out _ (List.getElem_mem hj'))
          have HSN : Hid (((ps.take (j + 1)).map fun p => gd p i) = ns ++ [gd ps[j] i]) := (show Hid _ from by
            show _ = _
            rw [List.take_succ_eq_append_getElem hj', List.map_append, ← HNS.out]; rfl)
          generalize ps[j] = p at HS c2 HXI HSN HLP
          obtain ⟨x, ex⟩ : ∃ x, x = gd p i := ⟨_, rfl⟩
          have HX := Lib.hid ex
          rw [← ex] at HSN
          obtain ⟨lp, elp⟩ : ∃ l, l = p.length := ⟨_, rfl⟩
          rw [← elp] at HS c2
          have HELP := Lib.hid elp
          clear hcell c1 hs elp
          go_wp2_with fail
          (with_reducible refine (coef_any p i _ wr (by have h := HS.out; rw [HELP.out] at h; rw [HELP.out]; exact h) HLP.out).mono ?_)
          rintro e wz ⟨rfl, hwz⟩
          subst hwz
          rw [← ex]
          clear ex
          go_wp2_with (at_builtin; refine wpList_append_int1 _ rfl _ _ 22 rfl wq.heap.size 3 Tryz.underlying22 iinfo _ ns rfl HO.out x rfl (by omega) hzr ?_; intro v3 w3 hown3 hg3; have HO3 := Lib.hid hown3; have HG3 := Lib.hid hg3; clear hown3 hg3)
          go_roundw
          case rel => exact ⟨j + 1, _, ns ++ [x], rfl, by have := HN.out; omega, by go_num, HSN.out.symm, HO3.out, (HB2.out.alloc hzr _).grown HG3.out (by simp; omega) (fun q hq => (HO.out.lt q hq).1)⟩
          case measure => simp [intOf]; omega
        · have dj : decide (j < n) = false := decide_eq_false hlj
          have HNE : Hid (ns = ps.map fun p => gd p i) := (show Hid _ from by
            have e : ps.take j = ps := List.take_of_length_le (by have := HN.out; omega)
            show _ = _
            rw [HNS.out, e])
          obtain ⟨A1, c1, e1⟩ := own_sl' HO.out
          subst e1
          have HRWr : Hid (RW w.heap.size g wr pv vs rows) := (show Hid _ from HRW.out.below hg (HB2.out.mono (Nat.le_refl _)))
          have HSX : Hid (SX (wr.alloc (.cells #[.slice A1 ns.length c1] 22)) pv.ownBlock (some g) (.slice A1 ns.length c1) ns) := (show Hid _ from SX.of_own (HO.out.alloc _) (fun x hx => by
              rw [HNE.out] at hx
              obtain ⟨p, hp, rfl⟩ := List.mem_map.1 hx
              by_cases h : i < p.length
              · rw [gd_lt h]; exact HR.out p hp _ (List.getElem_mem h)
              · rw [gd_ge (Nat.le_of_not_lt h)]; unfold i64r; omega) (fun q hq => (HRW.out.hdr.lt q hq).2) (fun q hq => by injection hq with e; have := HZ.out; omega))
          have hwz : w.heap.size ≤ wr.heap.size := HBw.out.size
          obtain ⟨n1, en1⟩ : ∃ n1, n1 = ns.length := ⟨_, rfl⟩
          rw [← en1] at HSX ⊢
          clear en1
          go_wp2_with (at_builtin; refine wpList_append_one_at _ rfl _ _ 33 rfl w.heap.size 22 (.slice none 0 0) 24 Tryz.underlying33 ilinfo pv vs.length vs rfl (HRWr.out.hdr.alloc _) (.slice A1 n1 c1) rfl wr.heap.size rfl (cells_new wr [.slice A1 n1 c1] 22 0 _ rfl) (by omega) (by omega) rfl (by simp; omega) ?_; intro g9 cap9 w9 hown9 hg9 hat9; have HO9 := Lib.hid hown9; have HG9 := Lib.hid hg9; have HA9 := Lib.hid hat9; clear hown9 hg9 hat9)
          have HRW9 : Hid (RW w.heap.size g w9 (.slice (some ⟨g9, 0, none⟩) (vs.length + 1) cap9) (vs ++ [.slice A1 n1 c1]) (rows ++ [ns])) := (show Hid _ from
            (HRWr.out.below hg ((Below.refl _ wr).alloc (Nat.le_refl _) _)).app HSX.out HO9.out HG9.out (fun q hq => by
              have e : g9 = q := by simpa [Value.ownBlock] using hq
              subst e; exact HA9.out))
          go_roundw
          case rel =>
            refine ⟨i + 1, _, _, rows ++ [ns], rfl, by omega, by go_num, ?_, HRW9.out, ?_⟩
            · rw [HRO.out, HNE.out, List.range_succ, List.map_append]; rfl
            · exact (HBw.out.alloc hwz _).grown HG9.out (by simp; omega) (fun q hq => (HRWr.out.hdr.lt q hq).1)
          case measure => simp [intOf]; omega
    · have di : decide (i < G) = false := decide_eq_false hli
      have hiG : G = i := by omega
      subst hiG
      have HSL : Hid (SLE g wr pv rows) := (show Hid _ from HRW.out.sle hg)
      have hrl : rows.length = G := by rw [HRO.out]; simp
      obtain ⟨A5, c5, e5⟩ := HSL.out.form
      rw [hrl] at e5
      subst e5
      clear hrl
      go_wp2_with fail
      go_ret
      exact ⟨_, _, rfl, HB.out, by rw [← HRO.out]; exact HSL.out⟩
end Go.Proofs.YtoiabanpnkpbhaaGreatDoor

namespace Go.Proofs.YtoiabanpnkpbhaaGreatDoor
open Go.RowKit

theorem col_one {P : Int} {need c w : Nat} {R : List Int} {L : List (Bool × List Int)} (hp : prB P = true) (hn32 : L.length ≤ 32) (hnP : (L.length : Int) < P) (hk1 : 1 ≤ need) (hk : need ≤ knL L)
    (hv : ∀ j (h : j < L.length), L[j].1 = true → L[j].2.length = w ∧ els P L[j].2 = true) (hR : els P R = true ∧ R.length ≤ need ∧ trim R = R) (hf : (wrk P (kn (colC L c)) R).length ≤ (knL L - need) / 2) :
    UnR P (colC L c) (need : Int) R 0 := by
  have hP := prB_bd hp
  refine .inr ⟨fi_good hp (by rw [colC_length]; omega) (by rw [colC_length]; omega) (fun j hj h1 => ?_) (by omega) (by rw [knC_len]; omega), .inl ⟨rfl, ⟨?_, hR.1, hR.2.2, ?_⟩⟩⟩
  · have hj' : j < L.length := by rw [colC_length] at hj; exact hj
    rw [colC_get _ _ _ hj'] at h1 ⊢
    simp only at h1 ⊢
    rw [if_pos h1]
    exact el_t (els_gd hP.1 (hv j hj' h1).2 c)
  · rw [Int.toNat_natCast]; exact hR.2.1
  · rw [Int.toNat_natCast]; unfold radN; rw [knC_len]; exact hf
theorem cols_all {P : Int} {need w : Nat} {L : List (Bool × List Int)} {bad : List Int} {R S : Nat → List Int} (hp : prB P = true) (hn32 : L.length ≤ 32) (hnP : (L.length : Int) < P) (hk1 : 1 ≤ need) (hk : need ≤ knL L)
    (hv : ∀ j (h : j < L.length), L[j].1 = true → L[j].2.length = w ∧ els P L[j].2 = true) (hR : ∀ c, els P (R c) = true ∧ (R c).length ≤ need ∧ trim (R c) = R c) (hRv : ∀ j c, j < L.length → c < w → val P (R c) ((j : Int) + 1) = gd (S j) c) (hS : ∀ j, (S j).length = w)
    (hinc : inc bad) (hbad : ∀ x, x ∈ bad ↔ ∃ j, ∃ h : j < L.length, L[j].1 = true ∧ x = (j : Int) + 1 ∧ L[j].2 ≠ S j) (hb : bad.length ≤ (knL L - need) / 2) :
    (∀ c, c < w → UnR P (colC L c) (need : Int) (R c) 0) ∧ ∀ ps : List (List Int), ps.length = w → (∀ c (h : c < ps.length), UnR P (colC L c) (need : Int) ps[c] 0) → (∀ c (h : c < ps.length), ps[c] = R c) ∧ srt (wrA P L 0 ps) = bad := by
  have hun : ∀ c, c < w → UnR P (colC L c) (need : Int) (R c) 0 := fun c hc => by
    refine col_one hp hn32 hnP hk1 hk hv (hR c) (Nat.le_trans ?_ hb)
    have h1 : (wrg P (colC L c) (R c)).length = (wrk P (kn (colC L c)) (R c)).length := by unfold wrg; rw [List.length_map]
    rw [← h1]
    refine nodup_sub _ _ (wrk_nodup ..) fun x hx => ?_
    obtain ⟨j, hj, h2, rfl, h3⟩ := wrg_mem.1 hx
    refine (hbad _).2 ⟨j, hj, h2, rfl, fun e => h3 ?_⟩
    rw [hRv j c hj hc, e]
  refine ⟨hun, fun ps hl hps => ?_⟩
  have hpc : ∀ c (h : c < ps.length), ps[c] = R c := fun c h => (UnR.uniq (hps c h) (hun c (by omega))).1
  refine ⟨hpc, srt_inc hinc fun x => ?_⟩
  rw [wrA_mem]
  constructor
  · rintro ⟨c, hc, hx⟩
    rw [Nat.zero_add, hpc c hc] at hx
    obtain ⟨j, hj, h2, rfl, h3⟩ := wrg_mem.1 hx
    refine (hbad _).2 ⟨j, hj, h2, rfl, fun e => h3 ?_⟩
    rw [hRv j c hj (by omega), e]
  · intro hx
    obtain ⟨j, hj, h2, rfl, h3⟩ := (hbad _).1 hx
    have h4 : ∃ c, c < w ∧ gd L[j].2 c ≠ gd (S j) c := by
      refine Classical.byContradiction fun hn => h3 (list_ext_gd (by rw [hS, (hv j hj h2).1]) fun c hc => ?_)
      refine Classical.byContradiction fun h5 => hn ⟨c, by rw [(hv j hj h2).1] at hc; exact hc, h5⟩
    obtain ⟨c, hc, h5⟩ := h4
    refine ⟨c, by omega, ?_⟩
    rw [Nat.zero_add, hpc c (by omega)]
    exact wrg_mem.2 ⟨j, hj, h2, rfl, by rw [hRv j c hj hc]; exact fun e => h5 e.symm⟩
end Go.Proofs.YtoiabanpnkpbhaaGreatDoor

namespace Go.Proofs.YtoiabanpnkpbhaaGreatDoor
open Go.RowKit

/-- what Decode of a valid storage returns -/
def DgR (P : Int) (n t G : Nat) (width : Int) (l : List (Bool × List Int)) (rows : List (List Int)) (wr : List Int) (er : Int) : Prop :=
  (ckE P width n ((2 * G + t - 1 : Nat) : Int) l ≠ 0 ∧ er = ckE P width n ((2 * G + t - 1 : Nat) : Int) l ∧ rows = [] ∧ wr = []) ∨ (ckE P width n ((2 * G + t - 1 : Nat) : Int) l = 0 ∧
    ((AlN P ((2 * G + t - 1 : Nat) : Int) l width.toNat ∧ er = 12 ∧ rows = [] ∧ wr = []) ∨ (∃ ps, AlR P ((2 * G + t - 1 : Nat) : Int) l width.toNat ps wr ∧ rows = ((List.range G).map fun i => ps.map fun p => gd p i) ∧ er = 0)))
/-- the rows of a group, zeros behind the last one -/
def gOut (G w : Nat) (table : List (List Int)) (want : Nat) : List (List Int) := (List.range G).map fun i => (List.range w).map fun c => gd (gr table (want * G + i)) c
theorem gdec_all {P : Int} {n t G w ng want : Nat} {D : List Int} {table : List (List Int)} {L : List (Bool × List Int)} {bad wr : List Int} {rows : List (List Int)} {er : Int} (hp : prB P = true) (hn10 : n ≤ 10) (hnP : (n : Int) < P) (ht1 : 1 ≤ t) (hG1 : 1 ≤ G)
    (hwant : want < ng) (hng : ng * G < table.length + G) (hrw : ∀ r ∈ table, r.length = w ∧ els P r = true) (hw : w ≤ 64) (hL : L.length = n) (hk : 2 * G + t - 1 ≤ knL L) (hv : ∀ j (h : j < L.length), L[j].1 = true → L[j].2.length = w ∧ els P L[j].2 = true)
    (hinc : inc bad) (hbad : ∀ x, x ∈ bad ↔ ∃ j, ∃ h : j < L.length, L[j].1 = true ∧ x = (j : Int) + 1 ∧ L[j].2 ≠ cmb P (gRow P want D t G j ng) (hRows P table ((j : Int) + 1) w G ng) w) (hb : bad.length ≤ (knL L - (2 * G + t - 1)) / 2)
    (hD : DgR P n t G w L rows wr er) : er = 0 ∧ rows = gOut G w table want ∧ wr = bad := by
  have hP := prB_bd hp
  have hwd : wdB w L = true := by
    unfold wdB
    exact all_yes fun j hj => by
      cases h : L[j].1 with
      | false => rfl
      | true => have h2 := (hv j hj h).1; simp; omega
  have hel : elB P L = true := by
    unfold elB
    exact all_yes fun j hj => by
      cases h : L[j].1 with
      | false => rfl
      | true => simp; exact (hv j hj h).2
  have hck : ckE P w n ((2 * G + t - 1 : Nat) : Int) L = 0 := by
    unfold ckE
    rw [if_neg (by omega), if_neg (by omega), hwd, if_neg (by simp), hel, if_neg (by simp), if_neg (by omega)]
  obtain ⟨hun, hps⟩ := cols_all (P := P) (need := 2 * G + t - 1) (w := w) (L := L) (bad := bad) (R := fun c => Gc P want D t G table c ng) (S := fun j => cmb P (gRow P want D t G j ng) (hRows P table ((j : Int) + 1) w G ng) w) hp (by omega) (by omega) (by omega) hk hv
    (fun c => ⟨Gc_els hP.1 .., Gc_len _ _ _ _ _ _ ht1 hG1, trim_trim _⟩) (fun j c _ hc => Gc_val hP.1 (fun r hr => (hrw r hr).1) hc hng) (fun j => cmbT_len ..) hinc hbad hb
  rcases hD with ⟨h, _⟩ | ⟨_, h⟩
  · exact absurd hck h
  rcases h with ⟨⟨c, hc, o, e, h1, h2⟩, _⟩ | ⟨ps, hal, hrow, her⟩
  · rw [Int.toNat_natCast] at hc
    exact absurd (UnR.uniq h1 (hun c hc)).2 h2
  · rw [Int.toNat_natCast] at hal
    obtain ⟨hl, hpu, hws⟩ := hal
    obtain ⟨hpc, hsr⟩ := hps ps hl hpu
    refine ⟨her, ?_, by rw [hws, hsr]⟩
    rw [hrow]
    unfold gOut
    refine List.map_congr_left fun i hi => ?_
    have hi' : i < G := List.mem_range.1 hi
    refine list_ext_gd (by simp [hl]) fun c hc => ?_
    have hc' : c < ps.length := by simpa using hc
    have e : gd (ps.map fun p => gd p i) c = gd ps[c] i := by
      unfold gd; rw [List.getElem?_map, List.getElem?_eq_getElem hc']; rfl
    rw [e, hpc c hc']
    show gd (Gc P want D t G table c ng) i = _
    have e3 : gd ((List.range w).map fun q => gd (gr table (want * G + i)) q) c = gd (gr table (want * G + i)) c := by
      have hcw : c < w := by omega
      unfold gd
      rw [List.getElem?_map, List.getElem?_range hcw]; rfl
    rw [Gc_low hP.1 hi' hwant (fun r hr => (hrw r hr).2), e3]
end Go.Proofs.YtoiabanpnkpbhaaGreatDoor

namespace Go.Proofs.YtoiabanpnkpbhaaGreatDoor
open Go.ChangeShapes Go.WideShapes Go.RowKit

def laidE : List (String × DataW Unit) := [("privatefetch/unique.errWrong", Rows.laid_privatefetch_unique_errWrong)]
theorem gErr : Tryz.prog.globalNamed "privatefetch/unique.errWrong" = some 0 := by kernel_rfl
theorem tErr : (Tryz.prog.globals[0]?).map (·.type) = some 153 := by kernel_rfl
theorem uErr : ∃ ms, Tryz.prog.underlying 153 = some (.interface ms) := ⟨_, Tryz.underlying153⟩
theorem uFail : ∃ f, Tryz.prog.underlying 190 = some (.struct #[f]) ∧ f.type = 36 ∧ f.offset = 0 := ⟨_, Tryz.underlying190, rfl, rfl⟩
theorem oneFail : ((List.range Tryz.prog.types.size).filter fun t => Tryz.prog.typeName? 3 t == some "privatefetch/unique.failure") = [190] := by kernel_rfl
set_option maxRecDepth 100000 in
theorem nFail (u : TypeId) (h : Tryz.prog.typeName? 3 u = some "privatefetch/unique.failure") : u = 190 := by
  have hlt : u < Tryz.prog.types.size := by
    rcases Nat.lt_or_ge u Tryz.prog.types.size with hl | hl
    · exact hl
    · exfalso
      have hnl : ¬ u < Tryz.prog.types.size := Nat.not_lt.2 hl
      unfold Program.typeName? at h
      split at h
      · rename_i i hi
        have hto := Tables.info?_beyond hnl hi
        split at h
        · rename_i hd
          rw [hd] at hto
          cases hto
        · obtain ⟨a, _, e⟩ := Option.map_eq_some_iff.1 h
          have e2 := congrArg (fun s : String => s.toList.head?) e
          simp [String.toList_append] at e2
        · rename_i hd; rw [hd] at hto; cases hto
        · rename_i hd; rw [hd] at hto; cases hto
        · rename_i hd; rw [hd] at hto; cases hto
        · rename_i hd; rw [hd] at hto; cases hto
        · cases h
      · cases h
  have hm : u ∈ (List.range Tryz.prog.types.size).filter fun t => Tryz.prog.typeName? 3 t == some "privatefetch/unique.failure" := List.mem_filter.2 ⟨List.mem_range.2 hlt, by rw [h]; simp⟩
  rw [oneFail] at hm
  exact List.mem_singleton.1 hm
set_option maxRecDepth 100000 in
/-- WHAT THE CONDITION GIVES: the variable's one cell. -/
theorem ew_of_laid {W : World} (h : laidMetH Tryz.prog laidE W) : EW W := by
  rw [MakeChecks.laidMetH_plain _ _ _ (by kernel_rfl)] at h
  obtain ⟨ps, ⟨g, t, cs, fuel, p, q, hg, ht, hv, hd, _, hps⟩, _, hok⟩ := h
  obtain rfl := Option.some.inj (gErr.symm.trans hg)
  obtain rfl := Option.some.inj (tErr.symm.trans ht)
  obtain ⟨ms, hi⟩ := uErr
  obtain ⟨f, he, hft, hfo⟩ := uFail
  obtain ⟨f1, u, v, hcs, hn, h1⟩ := iface_of_trod hi hd
  obtain rfl := nFail u hn
  have hcell : W.cell? ⟨0, 0, none⟩ = some (.iface 190 v) := by
    have := World.var?_cell hg hv 0
    rw [Array.eq_one_of_toList hcs] at this
    simpa using this
  have hmem : MemPlace.cell 0 0 ∈ ps := by
    rw [hps, Array.eq_one_of_toList hcs]
    simp [MemPlace.row]
  obtain ⟨⟨c, t', hblk⟩, hokv⟩ := hok 0 0 hmem
  obtain ⟨xs, rfl, hsz⟩ := okWide_struct he (hokv _ _ hcell)
  obtain ⟨y0, n, hx, hl, hy⟩ := trod_struct1 he h1
  have c191 : Tryz.prog.cellsOf 190 = 1 := by kernel_rfl
  have c3 : Tryz.prog.cellsOf 36 = 1 := by kernel_rfl
  rw [hft, hfo, c3] at hy
  rw [c191] at hsz
  have hxs : ∃ z, xs = #[z] := by
    have := hsz
    obtain ⟨l⟩ := xs
    match l, this with
    | [z], _ => exact ⟨z, rfl⟩
  obtain ⟨z, rfl⟩ := hxs
  obtain ⟨k, e1, e2, _⟩ := DataW.trod_int Tryz.underlying36 hy
  simp only [Prod.mk.injEq, DataW.agg.injEq, List.cons.injEq, and_true] at hx
  have hk : k = 12 := by
    have := hx.1
    rw [e2] at this
    simpa using this.symm
  subst hk
  have hz : z = .int .i64 12 := by simpa [Value.cells] using e1
  subst hz
  exact ⟨hcell, heap_of_cells (g := 0) (cs := c) (t := t') hblk⟩
end Go.Proofs.YtoiabanpnkpbhaaGreatDoor

namespace Go.Proofs.YtoiabanpnkpbhaaGreatDoor
open Go.RowKit

theorem SLE.nil (g : Nat) (w : World) : SLE g w (.slice none 0 0) [] := ⟨none, 0, rfl, Nat.le_refl _, by omega, fun h => by simp at h⟩
theorem SE.nil (g : Nat) (w : World) : SE g w (.slice none 0 0) [] := ⟨none, 0, rfl, Nat.le_refl _, by omega, fun x h => by simp at h, fun h => by simp at h⟩
theorem SL.i64 {w : World} {v : Value} {ps : List (List Int)} (h : SL w v ps) : ∀ p ∈ ps, ∀ x ∈ p, i64r x := fun p hp x hx => by
  obtain ⟨A, c, _, _, _, ha⟩ := h
  obtain ⟨j, hj, rfl⟩ := List.mem_iff_getElem.1 hp
  obtain ⟨b, off, _, _, hc⟩ := ha (by omega)
  obtain ⟨B, d, _, hs⟩ := hc j hj
  obtain ⟨_, _, _, _, _, hr, _⟩ := hs
  exact hr x hx
theorem unr_len {P k : Int} {l : List (Int × Bool)} {out : List Int} {er : Int} (h : UnR P l k out er) (hk : k ≤ 1000) : out.length ≤ 1000 := by
  rcases h with ⟨_, _, rfl⟩ | ⟨_, ⟨_, hg⟩ | ⟨_, rfl, _⟩⟩
  · simp
  · have := hg.len; omega
  · simp
set_option maxRecDepth 100000 in
set_option maxHeartbeats 8000000 in
theorem gdecode_any (P : Int) (n t G wd g : Nat) (l : List (Bool × List Int)) (v : Value) (w : World) (hV : SV P n t G) (h : SAn w v l) (hz : l.length ≤ 1000000) (hE : EW w) (hg : g < w.heap.size) (hwd : wd ≤ 1000) :
    Calls Tryz.prog 40 #[.agg #[.int .i64 P], .agg #[.int .i64 n, .int .i64 t, .int .i64 G], .int .i64 wd, v] w fun e w' => ∃ rows wr er v1 v2, e = .returned (.tuple #[v1, v2, .int .i64 er]) ∧ Below w.heap.size w w' ∧ DgR P n t G wd l rows wr er ∧ SLE g w' v1 rows ∧ SE g w' v2 wr := by
  have HV := Lib.hid hV
  have hPb := hV.pb
  have hn := hV.n10
  have ht1 := hV.t1
  have hG1 := hV.G1
  have hsum := hV.sum
  have HE := Lib.hid hE
  have HS := Lib.hid h
  obtain ⟨A, c, rfl⟩ := h.form
  obtain ⟨k1, ek1⟩ : ∃ k1 : Nat, k1 = 2 * G + t - 1 := ⟨_, rfl⟩
  have m1 : IntKind.i64.wrap (2 * (G : Int)) = 2 * (G : Int) := by exact IntWalk.i64_in _ (by omega)
  have m2 : IntKind.i64.wrap (2 * (G : Int) + (t : Int)) = 2 * (G : Int) + (t : Int) := by exact IntWalk.i64_in _ (by omega)
  have m3 : IntKind.i64.wrap (2 * (G : Int) + (t : Int) - 1) = (k1 : Int) := by rw [IntWalk.i64_in _ (by omega)]; omega
  have hk1 : 1 ≤ k1 ∧ k1 ≤ 10 := by omega
  have HDG : Hid (∀ rows wr er, ((ckE P wd n (k1 : Int) l ≠ 0 ∧ er = ckE P wd n (k1 : Int) l ∧ rows = [] ∧ wr = []) ∨ (ckE P wd n (k1 : Int) l = 0 ∧ ((AlN P (k1 : Int) l wd ∧ er = 12 ∧ rows = [] ∧ wr = []) ∨ (∃ ps, AlR P (k1 : Int) l wd ps wr ∧ rows = ((List.range G).map fun i => ps.map fun p => gd p i) ∧ er = 0)))) → DgR P n t G wd l rows wr er) := (show Hid _ from fun rows wr er h => by
    unfold DgR
    rw [Int.toNat_natCast, ← ek1]
    exact h)
  clear h hE hV ek1
  go_enter Tryz.func40, Tryz.ntmps40
  obtain ⟨F, eF⟩ : ∃ F, F = w.heap.size := ⟨_, rfl⟩
  obtain ⟨wa, ew⟩ : ∃ wa : World, wa = (w.alloc (.cells #[.int .i64 P] 31)).alloc (.cells #[.int .i64 n, .int .i64 t, .int .i64 G] 29) := ⟨_, rfl⟩
  have HWa : Hid ((w.alloc (.cells #[.int .i64 P] 31)).alloc (.cells #[.int .i64 n, .int .i64 t, .int .i64 G] 29) = wa) := ew.symm
  have HBa : Hid (Below w.heap.size w wa) := (show Hid _ from by rw [ew]; exact ((Below.refl _ w).alloc (Nat.le_refl _) _).alloc (by simp) _)
  have HF : Hid (wa.heap[F]? = some (.cells #[.int .i64 P] 31 (0, 0))) := (show Hid _ from by show _ = _; rw [ew, eF, Below.heap_alloc _ _ _ (by simp)]; exact heap_alloc_new w _)
  have HT : Hid (wa.heap[F + 1]? = some (.cells #[.int .i64 n, .int .i64 t, .int .i64 G] 29 (0, 0))) := (show Hid _ from by show _ = _; rw [ew, eF]; have := heap_alloc_new (w.alloc (.cells #[.int .i64 P] 31)) (.cells #[.int .i64 n, .int .i64 t, .int .i64 G] 29); simpa using this)
  have HEF := Lib.hid eF
  go_upto_region 1 with fail
  rw [HWa.out, ← eF]
  clear ew eF
  have HC : Hid (∀ W, Below wa.heap.size wa W → W.cell? ⟨F, 0, none⟩ = some (.int .i64 P) ∧ W.cell? ⟨F + 1, 0, none⟩ = some (.int .i64 n) ∧ W.cell? ⟨F + 1, 1, none⟩ = some (.int .i64 t) ∧ W.cell? ⟨F + 1, 2, none⟩ = some (.int .i64 G)) := (show Hid _ from fun W hb => by
    have h1 := (hb.block F (heap_of_cells HF.out)).trans HF.out
    have h2 := (hb.block (F + 1) (heap_of_cells HT.out)).trans HT.out
    exact ⟨cell_of_row W F 0 _ _ _ h1, cell_of_row W (F + 1) 0 _ _ _ h2, cell_of_row W (F + 1) 1 _ _ _ h2, cell_of_row W (F + 1) 2 _ _ _ h2⟩)
  obtain ⟨cF0, cT0, cT1, cT2⟩ := HC.out wa (Below.refl _ _)
  go_wp2_with fail
  (with_reducible refine (gCheck_ok P n t G _ HV.out).mono ?_)
  rintro e w1 ⟨rfl, hb1⟩
  have HBw : Hid (Below w.heap.size w w1) := HBa.out.trans (hb1.mono HBa.out.size)
  have HB1 := Lib.hid hb1
  have HS1 := Lib.hid (HS.out.below HBw.out)
  clear cF0 cT0 cT1 cT2 hb1
  obtain ⟨cF0, cT0, cT1, cT2⟩ := HC.out w1 HB1.out
  go_wp2_with fail
  (with_reducible refine (ccheck2_any P wd n k1 l _ _ HS1.out hz).mono ?_)
  rintro e w2 ⟨rfl, hb2⟩
  have HBw2 : Hid (Below w.heap.size w w2) := HBw.out.trans (hb2.mono HBw.out.size)
  have HB2 : Hid (Below wa.heap.size wa w2) := HB1.out.trans (hb2.mono HB1.out.size)
  have HS2 := Lib.hid (HS1.out.below hb2)
  clear cF0 cT0 cT1 cT2 hb2
  obtain ⟨cF0, cT0, cT1, cT2⟩ := HC.out w2 HB2.out
  by_cases hk : ckE P wd n k1 l = 0
  · have HK := Lib.hid hk
    obtain ⟨_, w64, hln, hwdB, _, _⟩ := ckE_ok hk
    rw [hk]
    have HAT : Hid (∀ a ∈ l, a.1 = true → wd ≤ a.2.length) := (show Hid _ from fun a ha h1 => by have := wdB_at hwdB a ha h1; omega)
    have hl10 : l.length ≤ 400 := by omega
    have hwd64 : wd ≤ 2000 := by omega
    obtain ⟨C, eC⟩ : ∃ C, C = w2.heap.size := ⟨_, rfl⟩
    obtain ⟨w3, ew3⟩ : ∃ w3 : World, w3 = w2.alloc (.cells #[.int .i64 P, .int .i64 k1, .slice A l.length c] 105) := ⟨_, rfl⟩
    have HW3 : Hid (w2.alloc (.cells #[.int .i64 P, .int .i64 k1, .slice A l.length c] 105) = w3) := ew3.symm
    have HC3 : Hid (w3.heap[C]? = some (.cells #[.int .i64 P, .int .i64 k1, .slice A l.length c] 105 (0, 0))) := (show Hid _ from by show _ = _; rw [ew3, eC]; exact heap_alloc_new w2 _)
    have HB3 : Hid (Below w2.heap.size w2 w3) := (show Hid _ from by rw [ew3]; exact (Below.refl _ w2).alloc (Nat.le_refl _) _)
    have HBw3 : Hid (Below w.heap.size w w3) := HBw2.out.trans (HB3.out.mono HBw2.out.size)
    have HBa3 : Hid (Below wa.heap.size wa w3) := HB2.out.trans (HB3.out.mono HB2.out.size)
    have HS3 := Lib.hid (HS2.out.below HB3.out)
    have HE3 : Hid (EW w3) := HE.out.below HBw3.out
    have HEC := Lib.hid eC
    clear hk hwdB
    go_upto_region 9 with fail
    rw [HW3.out, ← eC]
    clear ew3 eC cF0 cT0 cT1 cT2 m1 m2 m3
    have c0 : w3.cell? ⟨C, 0, none⟩ = some (.int .i64 P) := cell_of_row w3 C 0 _ _ _ HC3.out
    have c1 : w3.cell? ⟨C, 1, none⟩ = some (.int .i64 k1) := cell_of_row w3 C 1 _ _ _ HC3.out
    have c2 : w3.cell? ⟨C, 2, none⟩ = some (.slice A l.length c) := cell_of_row w3 C 2 _ _ _ HC3.out
    go_wp2_with fail
    (with_reducible refine (call_any P k1 l wd _ _ (by unfold i64r; omega) HS3.out hl10 hwd64 HAT.out HE3.out).mono ?_)
    rintro e9 w9 ⟨pv, wv, er, rfl, hb9, hcs⟩
    have HB9 := Lib.hid hb9
    have HCS := Lib.hid hcs
    have HBw9 : Hid (Below w.heap.size w w9) := HBw3.out.trans (hb9.mono HBw3.out.size)
    have HBa9 : Hid (Below wa.heap.size wa w9) := HBa3.out.trans (hb9.mono HBa3.out.size)
    clear hb9 hcs c0 c1 c2
    rcases HCS.out with ⟨rfl, ps, ws, hAL, hSL, hWS⟩ | ⟨rfl, rfl, rfl, hN⟩
    · have hgw9 : g < w9.heap.size := Nat.lt_of_lt_of_le hg HBw9.out.size
      have HSL := Lib.hid hSL
      obtain ⟨Ap, cp, epv⟩ : ∃ A c, pv = .slice A ps.length c := by obtain ⟨A, c, e, _⟩ := hSL; exact ⟨A, c, e⟩
      subst epv
      obtain ⟨Aw, cw, ewv⟩ := own_sl' hWS
      subst ewv
      have HAL := Lib.hid hAL
      have HWX : Hid (SE g w9 (.slice Aw ws.length cw) ws) := (show Hid _ from SE.of_own hWS (fun x hx => by have := alR_wr hAL x hx; unfold i64r; omega) (Nat.lt_of_lt_of_le hg HBw3.out.size))
      have HPI : Hid (∀ p ∈ ps, p.length ≤ 1000000) := (show Hid _ from fun p hp => by
        obtain ⟨q, hq, rfl⟩ := List.mem_iff_getElem.1 hp
        exact Nat.le_trans (unr_len (hAL.2.1 q hq) (by omega)) (by omega))
      have hpl : ps.length ≤ 10000 := by have := hAL.1; omega
      clear hAL hSL hWS HCS
      obtain ⟨lp, elp⟩ : ∃ l, l = ps.length := ⟨_, rfl⟩
      obtain ⟨lw, elw⟩ : ∃ l, l = ws.length := ⟨_, rfl⟩
      rw [← elp] at HSL ⊢
      rw [← elw] at HWX ⊢
      have HELP := Lib.hid elp
      clear elp elw
      obtain ⟨cF0, cT0, cT1, cT2⟩ := HC.out w9 HBa9.out
      go_wp2_with fail
      (with_reducible refine (lowest_ok ps G g _ w9 hgw9 HSL.out (by omega) hpl HSL.out.i64 HPI.out).mono ?_)
      rintro e w10 ⟨Ar, cr, rfl, hb10, hsl⟩
      have HSR := Lib.hid hsl
      have HB10 : Hid (Below w.heap.size w w10) := HBw9.out.trans (hb10.mono HBw9.out.size)
      have HWX10 := Lib.hid (HWX.out.grown (grownBy_of_below hb10 _))
      clear hb10 hsl cF0 cT0 cT1 cT2
      go_wp2_with fail
      refine bodyPost_ret (v := .tuple #[.slice Ar G cr, .slice Aw lw cw, .int .i64 0]) (by simp [results, Tryz.results40, go_sem]) rfl ⟨_, ws, 0, _, _, rfl, HB10.out, HDG.out _ _ _ (.inr ⟨HK.out, .inr ⟨ps, HAL.out, rfl, rfl⟩⟩), HSR.out, HWX10.out⟩
    · have HNN := Lib.hid hN
      clear hN HCS
      go_wp2_with fail
      refine bodyPost_ret (v := .tuple #[.slice none 0 0, .slice none 0 0, .int .i64 12]) (by simp [results, Tryz.results40, go_sem]) rfl ⟨[], [], 12, _, _, rfl, HBw9.out, HDG.out _ _ _ (.inr ⟨HK.out, .inl ⟨HNN.out, rfl, rfl, rfl⟩⟩), SLE.nil .., SE.nil ..⟩
  · have HK := Lib.hid hk
    obtain ⟨er, her⟩ : ∃ er, ckE P wd n k1 l = er := ⟨_, rfl⟩
    rw [her]
    have d0 : (er != 0) = true := by rw [bne_iff_ne, ← her]; exact hk
    have HER := Lib.hid her
    clear her hk
    go_wp2_with fail
    refine bodyPost_ret (v := .tuple #[.slice none 0 0, .slice none 0 0, .int .i64 er]) (by simp [results, Tryz.results40, go_sem]) rfl ⟨[], [], er, _, _, rfl, HBw2.out, HDG.out _ _ _ (.inl ⟨HK.out, HER.out.symm, rfl, rfl⟩), SLE.nil .., SE.nil ..⟩
end Go.Proofs.YtoiabanpnkpbhaaGreatDoor

namespace Go.Proofs.YtoiabanpnkpbhaaGreatDoor
open Go.RowKit

theorem run_append_cut {P : Program} (W : World) (t ty e : TypeId) (ht : P.underlying t = some (.slice e)) (hinfo : (P.info? e).map (fun i => (i.zero, i.size, i.bytes)) = some (some (.int .i64 0), 1, 8))
    (X Y : Option Nat) (A : Option Addr) (k : Nat) (src : Value) (l1 l2 : List Int) (hk : l1.length = k) (h1 : SX W X Y (.slice A k k) l1) (h2 : SI W src l2) (hb : l1.length + l2.length ≤ 1000000)
    (hX : ∀ b, X = some b → b < W.heap.size) (hY : ∀ b, Y = some b → b < W.heap.size) :
    ∃ A' c' w', (Builtin.append_ #[t, t] ty #[.slice A k k, src]).run P W = .ok (.slice A' (l1 ++ l2).length c') w' ∧ Below W.heap.size W w' ∧ SX w' X Y (.slice A' (l1 ++ l2).length c') (l1 ++ l2) := by
  obtain ⟨i0, hi0, hz0, hz1, hz2⟩ := info_parts hinfo
  subst hk
  obtain ⟨As, cs, rfl, hcs, hms, hrs, has⟩ := h2
  have hsrc : Src P i0.size t (.slice As l2.length cs) l2.length (l2.map (Value.int .i64)) W := by
    rw [hz1]
    rcases Nat.eq_zero_or_pos l2.length with h0 | h0
    · have hl2 : l2 = [] := List.eq_nil_of_length_eq_zero h0
      subst hl2
      cases As with
      | none => exact Src.ofNil W ht cs
      | some a => exact Src.ofSlice W ht a 0 cs [] (by simp) (by simp) (by simp)
    · obtain ⟨b, off, rfl, hbl, hcell⟩ := has h0
      refine Src.ofSlice W ht ⟨b, off, none⟩ _ cs _ (by simp) (fun j u hu => ?_) (fun u hu => by obtain ⟨x, _, rfl⟩ := List.mem_map.1 hu; rfl)
      have hj : j < l2.length := by
        rcases Nat.lt_or_ge j l2.length with h | h
        · exact h
        · rw [List.getElem?_eq_none (by simpa using h)] at hu; cases hu
      have ha : (⟨b, off, none⟩ : Addr).add j = ⟨b, off + j, none⟩ := by unfold Addr.add; split <;> simp_all
      rw [ha, hcell j hj]
      simpa [hj] using hu
  rcases Nat.eq_zero_or_pos l2.length with h0 | h0
  · have hl2 : l2 = [] := List.eq_nil_of_length_eq_zero h0
    subst hl2
    refine ⟨A, l1.length, W, ?_, Below.refl _ _, by simpa using h1⟩
    have := run_append_nothing (P := P) W t t ty e i0 ht hi0 A l1.length l1.length (Nat.le_refl _) _ hsrc
    simpa using this
  · obtain ⟨A1, c1, e1, hc1, hm1, hr1, ha1⟩ := h1
    injection e1 with e1 e2 e3
    subst e1
    have hold : (Builtin.firstCells i0.size l1.length (.slice A l1.length l1.length)).run P W.drew = .ok (l1.map (Value.int .i64)).toArray W.drew := by
      rw [hz1]
      rcases Nat.eq_zero_or_pos l1.length with hz | hz
      · have hl1 : l1 = [] := List.eq_nil_of_length_eq_zero hz
        subst hl1
        cases A with
        | none => exact run_firstCells_none W.drew 1 0 0 0
        | some a => exact run_firstCells_some W.drew 1 0 a 0 0 [] (by simp) (by simp)
      · obtain ⟨b, off, rfl, hbl, _, _, hcell⟩ := ha1 hz
        refine run_firstCells_some W.drew 1 _ ⟨b, off, none⟩ _ _ _ (by simp) (fun j u hu => ?_)
        have hj : j < l1.length := by
          rcases Nat.lt_or_ge j l1.length with h | h
          · exact h
          · rw [List.getElem?_eq_none (by simpa using h)] at hu; cases hu
        have ha : (⟨b, off, none⟩ : Addr).add j = ⟨b, off + j, none⟩ := by unfold Addr.add; split <;> simp_all
        rw [ha]
        have h3 : W.cell? ⟨b, off + j, none⟩ = some (.int .i64 l1[j]) := hcell j hj
        have h4 : W.drew.cell? ⟨b, off + j, none⟩ = some (.int .i64 l1[j]) := h3
        rw [h4]
        simpa [hj] using hu
    have hfit : Builtin.nextslicecap (l1.length + l2.length) l1.length * i0.bytes ≤ 281474976710656 := by
      rw [hz2]
      have := nextslicecap_le (need := l1.length + l2.length) (old := l1.length) (by omega)
      omega
    have hrun := run_append_grow_src (P := P) W t t ty e i0 _ ht hi0 hz0 A l1.length l1.length _ hold _ _ _ hsrc (by omega) (by omega) hfit
    have hge := grownCap_ge W (l1.length + l2.length) l1.length e
    have hle := grownCap_le_maxLen W (l1.length + l2.length) l1.length e (by unfold maxLen; omega)
    have hlen : (l1 ++ l2).length = l1.length + l2.length := by simp
    refine ⟨some ⟨W.heap.size, 0, none⟩, _, _, by rw [hlen]; exact hrun, ?_, ?_⟩
    · exact ((Below.refl _ W).drew).alloc (Nat.le_refl _) _
    · refine ⟨_, _, rfl, by rw [hlen]; exact hge, by unfold maxLen at hle; omega, fun x hx => ?_, fun _ => ⟨W.heap.size, 0, rfl, by simp, fun e => by have := hX _ e.symm; omega, fun e => by have := hY _ e.symm; omega, fun j hj => ?_⟩⟩
      · rcases List.mem_append.1 hx with h | h
        · exact hr1 x h
        · exact hrs x h
      · have hn := heap_alloc_new W.drew (.cells ((l1.map (Value.int .i64) ++ l2.map (Value.int .i64)).toArray ++ Builtin.zeroCells (Value.int .i64 0).cells (grownCap W (l1.length + l2.length) l1.length e - (l1.length + l2.length))) e)
        rw [cell_of_row _ W.heap.size (0 + j) _ _ _ hn, Nat.zero_add]
        rw [Array.getElem?_append_left (by simp; omega)]
        rw [← List.map_append, List.getElem?_toArray, List.getElem?_map, List.getElem?_eq_getElem hj]
        rfl
/-- the same inside a region that draws its order -/
theorem step_append_cut {P : Program} (w : World) {ops : Array Oper} {o : Oper} {a : Act} {K : Act → World → Prop} {Q : Exit → Act → World → Prop} {E : Prop} (hgd : o.guard = none) (s x : Operand) (t : TypeId)
    (ho : o.op = .call { callee := .builtin .append, args := #[s, x], argTypes := #[t, t] })
    (e : TypeId) (ht : P.underlying t = some (.slice e)) (hinfo : (P.info? e).map (fun i => (i.zero, i.size, i.bytes)) = some (some (.int .i64 0), 1, 8))
    (X Y : Option Nat) (A : Option Addr) (k : Nat) (src : Value) (l1 l2 : List Int) (hs : a.eval s = .slice A k k) (hx : a.eval x = src) (hk : l1.length = k) (h1 : SX w X Y (.slice A k k) l1) (h2 : SI w src l2) (hb : l1.length + l2.length ≤ 1000000)
    (hX : ∀ b, X = some b → b < w.heap.size) (hY : ∀ b, Y = some b → b < w.heap.size)
    (h : ∀ A' c' w', Below w.heap.size w w' → SX w' X Y (.slice A' (l1 ++ l2).length c') (l1 ++ l2) → K (a.put o.dst (.slice A' (l1 ++ l2).length c')) w') :
    if Region.wanted o (yielded ops a.tmps) = true then Oper.wp P o a w K Q else E := by
  have hw : Region.wanted o (yielded ops a.tmps) = true := by simp [Region.wanted, hgd]
  rw [if_pos hw]
  obtain ⟨A', c', w', hrun, hbel, hsx⟩ := run_append_cut (P := P) w t o.type e ht hinfo X Y A k src l1 l2 hk h1 h2 hb hX hY
  unfold Oper.wp execOp
  simp only [ho, resolve, invoke, builtin, Sem.run_bind, Sem.run_pure, Result.andThen_ok, List.map_toArray, List.map_cons, List.map_nil, hs, hx, hrun]
  exact h A' c' w' hbel hsx
end Go.Proofs.YtoiabanpnkpbhaaGreatDoor
