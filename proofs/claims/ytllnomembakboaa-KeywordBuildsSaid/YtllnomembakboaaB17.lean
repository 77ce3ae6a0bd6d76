/- Joined: Nz. -/
import Derived.Test.YtllnomembakboaaB10
import Derived.Test.YtllnomembakboaaB12
import Derived.Test.YtllnomembakboaaB13
import Derived.Test.YtllnomembakboaaB16
namespace Go.Proofs.Ytllnomembakboaa
open Go.RowKit

/-- a directory is valid, but for its hashing -/
structure DirOK (B : Nat) (ps : List (Int × Int)) (slots : Int) (bs : List (List (ByteArray × Int))) : Prop where
  s1 : 1 ≤ slots
  s2 : slots ≤ 8
  len : bs.length = B
  row : ∀ b (h : b < bs.length), ((bs[b].length : Nat) : Int) ≤ slots ∧ ascB bs[b] = true
  home : ∀ b (h : b < bs.length), ∀ e ∈ bs[b], (hms B ps (dg e.1)).contains (b : Int) = true
  nd : (bs.flatten.map (·.1)).Nodup
def ChR (B : Nat) (ps : List (Int × Int)) (slots : Int) (bs : List (List (ByteArray × Int))) (w : World) (e : Ending) (w' : World) : Prop :=
  ∃ r : Bool, e = .returned (.int .i64 (if r = true then 0 else 2)) ∧ (r = true ↔ DirOK B ps slots bs) ∧ Below w.heap.size w w'
/-- where entry j of bucket b lies among all -/
def posE (bs : List (List (ByteArray × Int))) (b : Nat) : Nat := (bs.take b).flatten.length
theorem posE_succ {bs : List (List (ByteArray × Int))} {b : Nat} (h : b < bs.length) : posE bs (b + 1) = posE bs b + bs[b].length := by
  unfold posE
  rw [List.take_succ_eq_append_getElem h, List.flatten_append, List.length_append, List.flatten_cons, List.flatten_nil, List.append_nil]
theorem posE_at {bs : List (List (ByteArray × Int))} {b j : Nat} (h : b < bs.length) (hj : j < bs[b].length) : ∃ hp : posE bs b + j < bs.flatten.length, bs.flatten[posE bs b + j] = bs[b][j] := by
  have e : bs.flatten = (bs.take b).flatten ++ (bs[b] ++ (bs.drop (b + 1)).flatten) := by
    have e2 : bs = bs.take b ++ bs[b] :: bs.drop (b + 1) := by simp
    have e3 := congrArg List.flatten e2
    rw [List.flatten_append, List.flatten_cons] at e3
    exact e3
  have hp : posE bs b + j < bs.flatten.length := by
    rw [e]; unfold posE; rw [List.length_append, List.length_append]; omega
  refine ⟨hp, ?_⟩
  have h2 : bs.flatten[posE bs b + j]? = some bs[b][j] := by
    rw [e]
    unfold posE
    rw [List.getElem?_append_right (by omega), Nat.add_sub_cancel_left, List.getElem?_append_left hj]
    simp [hj]
  rw [List.getElem?_eq_getElem hp] at h2
  injection h2
theorem posE_all (bs : List (List (ByteArray × Int))) : posE bs bs.length = bs.flatten.length := by unfold posE; rw [List.take_length]
theorem nd_step {L : List (ByteArray × Int)} {p : Nat} (hp : p < L.length) (h : ((L.take p).map (·.1)).Nodup) (k : ∀ j (hj : j < p), L[j].1 ≠ L[p].1) : ((L.take (p + 1)).map (·.1)).Nodup := by
  rw [List.take_succ_eq_append_getElem hp, List.map_append, List.nodup_append]
  refine ⟨h, by simp, fun x hx y hy => ?_⟩
  simp at hy
  subst hy
  rw [List.mem_map] at hx
  obtain ⟨z, hz, rfl⟩ := hx
  obtain ⟨j, hj, rfl⟩ := List.getElem_of_mem hz
  rw [List.length_take] at hj
  rw [List.getElem_take]
  exact k j (by omega)
theorem nd_not {L : List (ByteArray × Int)} {p j : Nat} (hp : p < L.length) (hj : j < p) (e : L[j].1 = L[p].1) : ¬ (L.map (·.1)).Nodup := by
  intro h
  rw [List.nodup_iff_pairwise_ne, List.pairwise_map] at h
  exact List.pairwise_iff_getElem.1 h j p (by omega) hp hj e
def C1 (M : Nat) (B : Nat) (ps : List (Int × Int)) (slots : Int) (bs : List (List (ByteArray × Int))) (w2 : World) (iv : Value) (wr : World) : Prop :=
  ∃ b : Nat, b ≤ bs.length ∧ iv = .int .i64 (b : Nat) ∧ BS Try.prog 9 4 wr M (posE bs b) (kys bs.flatten (posE bs b)) ∧ w2.grownBy wr (some M) ∧ ((bs.flatten.take (posE bs b)).map (·.1)).Nodup ∧
    (∀ c (h : c < bs.length), c < b → ((bs[c].length : Nat) : Int) ≤ slots ∧ ascB bs[c] = true ∧ ∀ e ∈ bs[c], (hms B ps (dg e.1)).contains (c : Int) = true)
def C2 (M : Nat) (B b : Nat) (ps : List (Int × Int)) (bs : List (List (ByteArray × Int))) (row : List (ByteArray × Int)) (w2 : World) (iv : Value) (wr : World) : Prop :=
  ∃ j : Nat, j ≤ row.length ∧ iv = .int .i64 (j : Nat) ∧ BS Try.prog 9 4 wr M (posE bs b + j) (kys bs.flatten (posE bs b + j)) ∧ w2.grownBy wr (some M) ∧ ((bs.flatten.take (posE bs b + j)).map (·.1)).Nodup ∧ ∀ e ∈ row.take j, (hms B ps (dg e.1)).contains (b : Int) = true
set_option maxRecDepth 100000 in
set_option maxHeartbeats 4000000 in
theorem kcheck_ok (B : Nat) (ps : List (Int × Int)) (slots : Int) (bs : List (List (ByteArray × Int))) (pv ev : Value) (w : World) (hv : HV B ps) (hp : SG pcs 2 w.heap.size w pv ps) (he : SLe w.heap.size w ev bs) (hk : ∀ l ∈ bs, ∀ e ∈ l, e.1.size ≤ 9223372036854775807) (hn : bs.flatten.length ≤ 1000000) :
    Calls Try.prog 16 #[.agg #[.int .i64 B, pv, .int .i64 slots, ev]] w (ChR B ps slots bs w) := by
  obtain ⟨Ap, cp, rfl⟩ : ∃ A c, pv = .slice A ps.length c := by obtain ⟨A, c, e, _⟩ := hp; exact ⟨A, c, e⟩
  obtain ⟨vs, hvl, hsv, hrows⟩ := he
  obtain ⟨Ae, ce, rfl⟩ := hsv.form
  have hbl : bs.length ≤ 9223372036854775807 := by obtain ⟨_, _, _, h1, h2, _⟩ := hsv; omega
  have HSV := Lib.hid hsv
  have HROWS := Lib.hid hrows
  have HVL := Lib.hid hvl
  have HPS := Lib.hid hp
  have HV' := Lib.hid hv
  have HK := Lib.hid hk
  rw [hvl]
  clear hsv hrows hvl hp hv hk
  go_enter Try.func16, Try.ntmps16
  obtain ⟨F, eF⟩ : ∃ F, F = w.heap.size := ⟨_, rfl⟩
  obtain ⟨w1, ew1⟩ : ∃ w1 : World, w1 = w.alloc (.cells #[.int .i64 B, .slice Ap ps.length cp, .int .i64 slots, .slice Ae bs.length ce] 28) := ⟨_, rfl⟩
  have HWw1 : Hid (w.alloc (.cells #[.int .i64 B, .slice Ap ps.length cp, .int .i64 slots, .slice Ae bs.length ce] 28) = w1) := ew1.symm
  have HAw1 : Hid (Below w.heap.size w w1) := (show Hid _ from by rw [ew1]; exact (Below.refl _ w).alloc (Nat.le_refl _) _)
  have HF0w1 : Hid (w1.heap[F]? = some (.cells #[.int .i64 B, .slice Ap ps.length cp, .int .i64 slots, .slice Ae bs.length ce] 28 (0, 0))) := (show Hid _ from by show _ = _; rw [ew1, eF]; exact heap_alloc_new w _)
  have HX : Hid (∀ W, Below w1.heap.size w1 W → W.cell? ⟨F, 0, none⟩ = some (.int .i64 B) ∧ W.cell? ⟨F, 1, none⟩ = some (.slice Ap ps.length cp) ∧ W.cell? ⟨F, 2, none⟩ = some (.int .i64 slots) ∧ W.cell? ⟨F, 3, none⟩ = some (.slice Ae bs.length ce)) := (show Hid _ from fun W hg => by
    have hF0 := (hg.block F (heap_of_cells HF0w1.out)).trans HF0w1.out
    exact ⟨cell_of_row W F 0 _ _ _ hF0, cell_of_row W F 1 _ _ _ hF0, cell_of_row W F 2 _ _ _ hF0, cell_of_row W F 3 _ _ _ hF0⟩)
  have hFw : w.heap.size ≤ F := by omega
  go_upto_region 1 with fail
  rw [HWw1.out, ← eF]
  clear ew1 eF
  have HPS1 := Lib.hid ((HPS.out.below HAw1.out).more HAw1.out.size)
  obtain ⟨x0, x1, x2, x3⟩ := HX.out w1 (Below.refl _ _)
  go_wp2_with fail
  (with_reducible refine (hcheck_ok B ps _ w1 HV'.out HPS1.out).mono ?_)
  rintro e w2 ⟨rfl, hb2⟩
  have HX2 := Lib.hid hb2
  clear hb2 x0 x1 x2 x3
  obtain ⟨x0, x1, x2, x3⟩ := HX.out w2 HX2.out
  go_wp2_with fail
  (with_reducible refine (slotted_any slots w2).mono ?_)
  rintro e w3 ⟨rfl, hw3⟩
  subst hw3
  have HBW : Hid (Below w.heap.size w w2) := (show Hid _ from HAw1.out.trans (HX2.out.mono HAw1.out.size))
  obtain ⟨sb, esb⟩ : ∃ sb, sb = (decide (1 ≤ slots) && decide (slots ≤ 8)) := ⟨_, rfl⟩
  rw [← esb]
  have HSB := Lib.hid esb
  clear esb
  cases sb
  · go_wp2_with fail
    all_goals go_ret
    all_goals exact ⟨false, by rfl, ⟨fun h => by (cases h), fun h => by have h1 := HSB.out; rw [decide_eq_true h.s1, decide_eq_true h.s2] at h1; cases h1⟩, HBW.out⟩
  · by_cases hlen : bs.length = B
    · subst hlen
      have hsl : 1 ≤ slots ∧ slots ≤ 8 := by have h := HSB.out.symm; simpa using h
      have HSL := Lib.hid hsl
      have hmf : (Instr.makeMap 74 none).run Try.prog w2 = .ok (.map (some w2.heap.size)) (w2.alloc (.map #[] 0)) := run_makeMap _ w2
      obtain ⟨M, eM⟩ : ∃ M, M = w2.heap.size := ⟨_, rfl⟩
      obtain ⟨w3, ew3⟩ : ∃ w3 : World, w3 = w2.alloc (.map #[] 0) := ⟨_, rfl⟩
      have HBS3 : Hid (BS Try.prog 9 4 w3 M 0 []) := (show Hid _ from by rw [ew3, eM]; exact BS.made _ _ _ _)
      have HX3 : Hid (Below w1.heap.size w1 w3) := (show Hid _ from by rw [ew3]; exact HX2.out.alloc HX2.out.size _)
      have hMw : w1.heap.size ≤ M := by rw [eM]; exact HX2.out.size
      clear hsl
      go_upto_region 4 with fail
      rw [← eM, ← ew3]
      clear hmf ew3 eM x0 x1 x2 x3
      obtain ⟨x0, x1, x2, x3⟩ := HX.out w3 HX3.out
      go_wp2_with fail
      clear x0 x1 x2 x3
      go_loopw [31] (fun iv wr => C1 M bs.length ps slots bs w3 iv wr) (fun iv _ => bs.length - (intOf iv).toNat)
      case atStart => exact ⟨0, Nat.zero_le _, rfl, by simpa [posE, kys] using HBS3.out, grownBy_refl _ _, by simp [posE], fun c h hc => by omega⟩
      case round =>
        obtain ⟨b, hb, rfl, hbs, hgr, hnd, hgood⟩ := hrel
        have HBS := Lib.hid hbs
        have HGR := Lib.hid hgr
        have HND := Lib.hid hnd
        have HGOOD := Lib.hid hgood
        have HXr : Hid (Below w1.heap.size w1 wr) := (show Hid _ from HX3.out.grown hgr HX3.out.size (fun k hk => by injection hk with hk; omega))
        have HBWr : Hid (Below w.heap.size w wr) := (show Hid _ from HAw1.out.trans (HXr.out.mono HAw1.out.size))
        have hz1 := HXr.out.size
        clear hbs hgr hnd hgood
        by_cases hbt : b < bs.length
        · obtain ⟨_, hat⟩ := HSV.out.at
          have hiv : b < vs.length := by rw [HVL.out]; exact hbt
          obtain ⟨p, o, rfl, hpl, hc⟩ := hat b hiv
          have c0 : wr.cell? ⟨p, o + b, none⟩ = some vs[b] := by simpa [one] using hc wr HBWr.out 0 (by omega)
          have hrow := HROWS.out b hiv hbt
          obtain ⟨Ar, cr, er⟩ := hrow.form
          obtain ⟨row, erow⟩ : ∃ r, r = bs[b] := ⟨_, rfl⟩
          rw [er, ← erow] at c0
          rw [er, ← erow] at hrow
          have HROW := Lib.hid hrow
          have HER := Lib.hid erow
          have hrl : row.length ≤ 9223372036854775807 := by obtain ⟨_, _, e, h1, h2, _⟩ := hrow; omega
          have HROWr : Hid (SV ecs 2 wr.heap.size wr (.slice Ar row.length cr) row) := (show Hid _ from (hrow.below HBWr.out).more HBWr.out.size)
          have HKR : Hid (∀ e ∈ row, e.1.size ≤ 9223372036854775807) := (show Hid _ from by rw [erow]; exact HK.out _ (List.getElem_mem hbt))
          have z0 : 0 ≤ (b : Int) := by omega
          have z1 : (b : Int) < (bs.length : Int) := by omega
          have wb : IntKind.i64.wrap ((b : Int) + 1) = (b : Int) + 1 := by exact IntWalk.i64_in _ (by omega)
          obtain ⟨x0, x1, x2, x3⟩ := HX.out wr HXr.out
          clear hat hc hrow er erow
          by_cases hrs : ((row.length : Nat) : Int) ≤ slots
          · have d1 : decide (slots < ((row.length : Nat) : Int)) = false := decide_eq_false (by omega)
            have d2 : ¬ (slots < ((row.length : Nat) : Int)) := by omega
            have HRS := Lib.hid hrs
            go_wp2_with fail
            (with_reducible refine (ascends_any row _ wr HROWr.out HKR.out).mono ?_)
            rintro e w4 ⟨rfl, hb4⟩
            have HB4 := Lib.hid hb4
            have hz4 := hb4.size
            clear hb4
            cases hasc : ascB row
            · have HASC := Lib.hid hasc
              go_wp2_with fail
              all_goals go_ret
              all_goals exact ⟨false, by rfl, ⟨fun h => by (cases h), fun h => by have h1 := (h.row b hbt).2; rw [← HER.out, HASC.out] at h1; cases h1⟩, HBWr.out.trans (HB4.out.mono HBWr.out.size)⟩
            · have HASC := Lib.hid hasc
              clear hasc
              go_wp2_with fail
              clear c0 x0 x1 x2 x3 d1 d2
              go_loopw [48] (fun iv wq => C2 M bs.length b ps bs row w3 iv wq) (fun iv _ => row.length - (intOf iv).toNat)
              case atStart => exact ⟨0, Nat.zero_le _, rfl, HBS.out.kept (grownBy_of_below HB4.out none) (by simp), grownBy_trans HGR.out (grownBy_of_below HB4.out _), HND.out, fun e he => by simp at he⟩
              case round =>
                obtain ⟨j, hj, rfl, hbs, hgr, hnd, hgood⟩ := hrel
                have HBS2 := Lib.hid hbs
                have HGR2 := Lib.hid hgr
                have HND2 := Lib.hid hnd
                have HGOOD2 := Lib.hid hgood
                have HXq : Hid (Below w1.heap.size w1 wr) := (show Hid _ from HX3.out.grown hgr HX3.out.size (fun k hk => by injection hk with hk; omega))
                have HBWq : Hid (Below w.heap.size w wr) := (show Hid _ from HAw1.out.trans (HXq.out.mono HAw1.out.size))
                have hzq := HXq.out.size
                have hzq3 := hgr.size
                clear hbs hgr hnd hgood
                by_cases hjt : j < row.length
                · obtain ⟨_, hat⟩ := HROW.out.at
                  obtain ⟨p2, o2, rfl, hp2, hcell⟩ := hat j hjt
                  obtain ⟨key, ek⟩ : ∃ k, k = row[j].1 := ⟨_, rfl⟩
                  obtain ⟨x, ex⟩ : ∃ x, x = row[j].2 := ⟨_, rfl⟩
                  have c0 : wr.cell? ⟨p2, o2 + j * 2, none⟩ = some (.string key) := by rw [ek]; exact hcell wr HBWq.out 0 (by omega)
                  have c1 : wr.cell? ⟨p2, o2 + j * 2 + 1, none⟩ = some (.int .i64 x) := by rw [ex]; exact hcell wr HBWq.out 1 (by omega)
                  have hej : row[j] = (key, x) := by rw [ek, ex]
                  have hks : key.size ≤ 9223372036854775807 := by rw [ek]; exact HKR.out _ (List.getElem_mem hjt)
                  have hjb : j < bs[b].length := by rw [← HER.out]; exact hjt
                  obtain ⟨hpo, hpe⟩ := posE_at hbt hjb
                  have HEL : Hid (bs.flatten[posE bs b + j] = (key, x)) := (show Hid _ from by rw [hpe, ← hej]; exact (List.getElem_of_eq HER.out hjt).symm)
                  have HEJ := Lib.hid hej
                  obtain ⟨pos, epos⟩ : ∃ q, q = posE bs b + j := ⟨_, rfl⟩
                  rw [← epos] at HBS2 HND2
                  have HPOS := Lib.hid epos
                  have hpo2 : pos < bs.flatten.length := by rw [epos]; exact hpo
                  have HEL2 : Hid (bs.flatten[pos] = (key, x)) := (show Hid _ from by simp only [epos]; exact HEL.out)
                  have hnm : pos < maxLen := by unfold maxLen; omega
                  have hkm : key.size ≤ maxLen := by unfold maxLen; omega
                  have hpo3 : pos ≤ bs.flatten.length := by omega
                  have y0 : 0 ≤ (j : Int) := by omega
                  have y1 : (j : Int) < (row.length : Int) := by omega
                  have wj : IntKind.i64.wrap ((j : Int) + 1) = (j : Int) + 1 := by exact IntWalk.i64_in _ (by omega)
                  have hlp : (hms bs.length ps (dg key)).length ≤ 1000000 := by rw [hms_len]; have := HV'.out.l2; omega
                  clear hat hcell ek ex hej hpo hpe epos HEL
                  obtain ⟨X, eX⟩ : ∃ X, X = wr.heap.size := ⟨_, rfl⟩
                  obtain ⟨wx, ewx⟩ : ∃ wx : World, wx = wr.alloc (.cells #[.string key, .int .i64 x] 41) := ⟨_, rfl⟩
                  have HWwx : Hid (wr.alloc (.cells #[.string key, .int .i64 x] 41) = wx) := ewx.symm
                  have HAwx : Hid (Below wr.heap.size wr wx) := (show Hid _ from by rw [ewx]; exact (Below.refl _ wr).alloc (Nat.le_refl _) _)
                  have HX0wx : Hid (wx.heap[X]? = some (.cells #[.string key, .int .i64 x] 41 (0, 0))) := (show Hid _ from by show _ = _; rw [ewx, eX]; exact heap_alloc_new wr _)
                  have HXX : Hid (∀ W, Below wx.heap.size wx W → W.cell? ⟨X, 0, none⟩ = some (.string key) ∧ W.cell? ⟨X, 1, none⟩ = some (.int .i64 x)) := (show Hid _ from fun W hg => by
                    have hX0 := (hg.block X (heap_of_cells HX0wx.out)).trans HX0wx.out
                    exact ⟨cell_of_row W X 0 _ _ _ hX0, cell_of_row W X 1 _ _ _ hX0⟩)
                  have hXr : wr.heap.size ≤ X := by omega
                  go_upto_region 12 with fail
                  rw [HWwx.out, ← eX]
                  clear ewx eX
                  obtain ⟨k0, k1⟩ := HXX.out wx (Below.refl _ _)
                  have HXx : Hid (Below w1.heap.size w1 wx) := (show Hid _ from HXq.out.trans (HAwx.out.mono hzq))
                  have HBWx : Hid (Below w.heap.size w wx) := (show Hid _ from HAw1.out.trans (HXx.out.mono HAw1.out.size))
                  have HBSx : Hid (BS Try.prog 9 4 wx M pos (kys bs.flatten pos)) := (show Hid _ from HBS2.out.kept (grownBy_of_below HAwx.out none) (by simp))
                  obtain ⟨x0, x1, x2, x3⟩ := HX.out wx HXx.out
                  clear c0 c1
                  cases hkk : (kys bs.flatten pos).contains key.data.toList
                  · have HKK := Lib.hid hkk
                    clear hkk
                    have HNE : Hid (∀ j (hj : j < pos), (bs.flatten[j]'(by omega)).1 ≠ bs.flatten[pos].1) := (show Hid _ from fun j hj => by rw [HEL2.out]; exact kys_not hpo3 HKK.out j hj)
                    have HSGx : Hid (SG pcs 2 wx.heap.size wx (.slice Ap ps.length cp) ps) := (show Hid _ from (HPS.out.below HBWx.out).more HBWx.out.size)
                    go_wp2_with (at_lookup; refine wpList_lookup_BS _ rfl _ _ 74 rfl 9 4 Try.underlying74 Try.underlying9 Try.underlying4 (zeroB _) M pos _ rfl (by exact HBSx.out) key rfl hkm ?_; rw [HKK.out])
                    (with_reducible refine (khomes_ok bs.length ps key _ wx HV'.out hks HSGx.out).mono ?_)
                    rintro e w8 ⟨v8, rfl, ho8, hb8⟩
                    have HO8 := Lib.hid ho8
                    have HB8 := Lib.hid hb8
                    clear ho8 hb8
                    go_wp2_with fail
                    (with_reducible refine (contains_own (hms bs.length ps (dg key)) (b : Int) _ w8 hlp HO8.out).mono ?_)
                    rintro e w9 ⟨rfl, hw9⟩
                    subst hw9
                    cases hcon : (hms bs.length ps (dg key)).contains (b : Int)
                    · have HCON := Lib.hid hcon
                      go_wp2_with fail
                      all_goals go_ret
                      all_goals exact ⟨false, by rfl, ⟨fun h => by (cases h), fun h => by have h1 := h.home b hbt (key, x) (by rw [← HER.out, ← HEJ.out]; exact List.getElem_mem hjt); rw [HCON.out] at h1; cases h1⟩, HBWx.out.trans (HB8.out.mono HBWx.out.size)⟩
                    · have HCON := Lib.hid hcon
                      clear hcon k0 k1 x0 x1 x2 x3
                      obtain ⟨k0, k1⟩ := HXX.out w9 HB8.out
                      have HBS8 : Hid (BS Try.prog 9 4 w9 M pos (kys bs.flatten pos)) := (show Hid _ from HBSx.out.kept (grownBy_of_below HB8.out none) (by simp))
                      go_wp2_with (at_mapUpdate; refine wpList_update_BS _ rfl _ _ _ 74 rfl 9 4 Try.underlying74 Try.underlying9 Try.underlying4 M pos _ rfl (by exact HBS8.out) hnm key rfl hkm rfl ?_; intro w5 hb5 hg5; have HBS5 := Lib.hid hb5; have HG5 := Lib.hid hg5; clear hb5 hg5)
                      go_roundw
                      case rel => exact ⟨j + 1, hjt, by go_num, by rw [← Nat.add_assoc, ← HPOS.out, kys_succ hpo2, HEL2.out]; exact HBS5.out, grownBy_trans (grownBy_trans (grownBy_trans HGR2.out (grownBy_of_below HAwx.out _)) (grownBy_of_below HB8.out _)) HG5.out, by rw [← Nat.add_assoc, ← HPOS.out]; exact nd_step hpo2 HND2.out HNE.out, by
                        intro e he
                        rw [List.take_succ_eq_append_getElem hjt, List.mem_append, List.mem_singleton] at he
                        rcases he with he | he
                        · exact HGOOD2.out e he
                        · rw [he, HEJ.out]; exact HCON.out⟩
                      case measure => simp [intOf]; omega
                  · have HKK := Lib.hid hkk
                    clear hkk
                    go_wp2_with (at_lookup; refine wpList_lookup_BS _ rfl _ _ 74 rfl 9 4 Try.underlying74 Try.underlying9 Try.underlying4 (zeroB _) M pos _ rfl (by exact HBSx.out) key rfl hkm ?_; rw [HKK.out])
                    all_goals go_ret
                    all_goals exact ⟨false, by rfl, ⟨fun h => by (cases h), fun h => by
                      obtain ⟨j2, hj2, hji, e2⟩ := kys_has HKK.out
                      exact (nd_not hpo2 hji (by rw [HEL2.out]; exact e2) h.nd).elim⟩, HBWx.out⟩
                · have hje : j = row.length := by omega
                  have HPO : Hid (posE bs (b + 1) = posE bs b + j) := (show Hid _ from by rw [posE_succ hbt, hje, HER.out]; exact rfl)
                  have HG3 : Hid (∀ c (h : c < bs.length), c < b + 1 → ((bs[c].length : Nat) : Int) ≤ slots ∧ ascB bs[c] = true ∧ ∀ e ∈ bs[c], (hms bs.length ps (dg e.1)).contains (c : Int) = true) := (show Hid _ from fun c h hc => by
                    rcases Nat.lt_or_ge c b with h1 | h1
                    · exact HGOOD.out c h h1
                    · have : c = b := by omega
                      subst this
                      rw [← HER.out]
                      refine ⟨HRS.out, HASC.out, ?_⟩
                      have h2 := HGOOD2.out
                      rw [hje, List.take_length] at h2
                      exact h2)
                  clear hje
                  go_wp2_with fail
                  go_roundw
                  case rel => exact ⟨b + 1, hbt, by go_num, by rw [HPO.out]; exact HBS2.out, HGR2.out, by rw [HPO.out]; exact HND2.out, HG3.out⟩
                  case measure => simp [intOf]; omega
          · have d1 : decide (slots < ((row.length : Nat) : Int)) = true := decide_eq_true (by omega)
            have d2 : slots < ((row.length : Nat) : Int) := by omega
            have HRS := Lib.hid hrs
            go_wp2_with fail
            all_goals go_ret
            all_goals exact ⟨false, by rfl, ⟨fun h => by (cases h), fun h => by have h1 := (h.row b hbt).1; rw [← HER.out] at h1; have h2 := HRS.out; omega⟩, HBWr.out⟩
        · have hbe : b = bs.length := by omega
          have HOK : Hid (DirOK bs.length ps slots bs) := (show Hid _ from ⟨HSL.out.1, HSL.out.2, rfl, fun c h => ⟨(HGOOD.out c h (by omega)).1, (HGOOD.out c h (by omega)).2.1⟩, fun c h => (HGOOD.out c h (by omega)).2.2, by have h := HND.out; rw [hbe, posE_all, List.take_length] at h; exact h⟩)
          go_wp2_with fail
          all_goals go_ret
          all_goals exact ⟨true, by rfl, ⟨fun _ => HOK.out, fun _ => rfl⟩, HBWr.out⟩
    · have hne : ¬ ((bs.length : Int) = (B : Int)) := by omega
      have HNE := Lib.hid hlen
      go_wp2_with fail
      all_goals go_ret
      all_goals exact ⟨false, by rfl, ⟨fun h => by (cases h), fun h => (HNE.out h.len).elim⟩, HBW.out⟩
end Go.Proofs.Ytllnomembakboaa
