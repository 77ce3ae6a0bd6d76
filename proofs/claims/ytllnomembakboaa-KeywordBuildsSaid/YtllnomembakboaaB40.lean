/- Joined: Rk Rl Rm. -/
import Derived.Test.YtllnomembakboaaB17
import Derived.Test.YtllnomembakboaaB09
namespace Go.Proofs.Ytllnomembakboaa
open Go.RowKit

/-- is a hashing valid -/
def pOK (p : Int × Int) : Bool := decide (0 ≤ p.1) && decide (p.1 < 2147483647) && decide (0 ≤ p.2) && decide (p.2 < 2147483647)
theorem pOK_iff (p : Int × Int) : pOK p = true ↔ 0 ≤ p.1 ∧ p.1 < 2147483647 ∧ 0 ≤ p.2 ∧ p.2 < 2147483647 := by unfold pOK; simp; omega
def hvB (B : Int) (ps : List (Int × Int)) : Bool := decide (1 ≤ B) && decide (B ≤ 64) && decide (1 ≤ ps.length) && decide (ps.length ≤ 4) && ps.all pOK
theorem hvB_iff {B : Int} {ps : List (Int × Int)} : hvB B ps = true ↔ HV B ps := by
  unfold hvB
  constructor
  · intro h
    simp only [Bool.and_eq_true, decide_eq_true_eq, List.all_eq_true] at h
    exact ⟨by omega, by omega, by omega, by omega, fun p hp => (pOK_iff p).1 (h.2 p hp)⟩
  · intro h
    simp only [Bool.and_eq_true, decide_eq_true_eq, List.all_eq_true]
    exact ⟨⟨⟨⟨h.b1, h.b2⟩, h.l1⟩, h.l2⟩, fun p hp => (pOK_iff p).2 (h.in1 p hp)⟩
theorem hvB_no {B : Int} {ps : List (Int × Int)} (h : ¬ HV B ps) : hvB B ps = false := by
  rw [Bool.eq_false_iff]
  exact fun h2 => h (hvB_iff.1 h2)
def hcV (B : Int) (ps : List (Int × Int)) : Value := .int .i64 (if hvB B ps = true then 0 else 2)
theorem hcV_no {B : Int} {ps : List (Int × Int)} (h : ¬ HV B ps) : hcV B ps = .int .i64 2 := by unfold hcV; rw [hvB_no h]; rfl
theorem hcV_ok {B : Int} {ps : List (Int × Int)} (h : HV B ps) : hcV B ps = .int .i64 0 := by unfold hcV; rw [hvB_iff.2 h]; rfl
theorem all_step {ps : List (Int × Int)} {k : Nat} (h : (ps.take k).all pOK = true) (hk : k < ps.length) (hp : pOK ps[k] = true) : (ps.take (k + 1)).all pOK = true := by
  rw [List.take_succ_eq_append_getElem hk, List.all_append, h]
  simp [hp]
theorem all_not {B : Int} {ps : List (Int × Int)} {k : Nat} (hk : k < ps.length) (hp : pOK ps[k] = false) : ¬ HV B ps := by
  intro h
  have := (pOK_iff ps[k]).2 (h.in1 _ (List.getElem_mem hk))
  rw [hp] at this
  cases this
set_option maxHeartbeats 4000000 in
theorem hcheck_raw (B : Int) (ps : List (Int × Int)) (v : Value) (w : World) (h : SG pcs 2 w.heap.size w v ps) :
    Calls Try.prog 37 #[.agg #[.int .i64 B, v]] w fun e w' => e = .returned (hcV B ps) ∧ Below w.heap.size w w' := by
  have HS := Lib.hid h
  obtain ⟨A, c, rfl, _, hml, _, _⟩ := h
  go_enter Try.func37, Try.ntmps37
  obtain ⟨F, eF⟩ : ∃ F, F = w.heap.size := ⟨_, rfl⟩
  obtain ⟨w1, ew1⟩ : ∃ w1 : World, w1 = w.alloc (.cells #[.int .i64 B, .slice A ps.length c] 25) := ⟨_, rfl⟩
  have HWw1 : Hid (w.alloc (.cells #[.int .i64 B, .slice A ps.length c] 25) = w1) := ew1.symm
  have HAw1 : Hid (Below w.heap.size w w1) := (show Hid _ from by rw [ew1]; exact (Below.refl _ w).alloc (Nat.le_refl _) _)
  have HF0w1 : Hid (w1.heap[F]? = some (.cells #[.int .i64 B, .slice A ps.length c] 25 (0, 0))) := (show Hid _ from by show _ = _; rw [ew1, eF]; exact heap_alloc_new w _)
  have HX : Hid (∀ W, Below w1.heap.size w1 W → W.cell? ⟨F, 0, none⟩ = some (.int .i64 B) ∧ W.cell? ⟨F, 1, none⟩ = some (.slice A ps.length c)) := (show Hid _ from fun W hg => by
    have hF0 := (hg.block F (heap_of_cells HF0w1.out)).trans HF0w1.out
    exact ⟨cell_of_row W F 0 _ _ _ hF0, cell_of_row W F 1 _ _ _ hF0⟩)
  go_upto_region 1 with fail
  rw [HWw1.out, ← eF]
  clear ew1 eF
  obtain ⟨x0, x1⟩ := HX.out w1 (Below.refl _ _)
  by_cases h1 : B < 1
  · have HN := Lib.hid h1
    go_wp2_with fail
    all_goals go_ret
    all_goals exact ⟨by rw [hcV_no (fun h => by have := h.b1; have := HN.out; omega)]; exact rfl, HAw1.out⟩
  have d1 : decide (B < 1) = false := decide_eq_false h1
  by_cases h2 : 64 < B
  · have HN := Lib.hid h2
    go_wp2_with fail
    all_goals go_ret
    all_goals exact ⟨by rw [hcV_no (fun h => by have := h.b2; have := HN.out; omega)]; exact rfl, HAw1.out⟩
  have d2 : decide (64 < B) = false := decide_eq_false h2
  by_cases h3 : ps.length < 1
  · have d3 : decide ((ps.length : Int) < 1) = true := decide_eq_true (by omega)
    have HN := Lib.hid h3
    clear h3
    go_wp2_with fail
    all_goals go_ret
    all_goals exact ⟨by rw [hcV_no (fun h => by have := h.l1; have := HN.out; omega)]; exact rfl, HAw1.out⟩
  have d3 : decide ((ps.length : Int) < 1) = false := decide_eq_false (by omega)
  by_cases h4 : 4 < ps.length
  · have d4 : decide (4 < (ps.length : Int)) = true := decide_eq_true (by omega)
    have d3n : decide (ps.length < 1) = false := decide_eq_false (by omega)
    have d4n : decide (4 < ps.length) = true := decide_eq_true (by omega)
    have HN := Lib.hid h4
    clear h4
    go_wp2_with fail
    all_goals go_ret
    all_goals exact ⟨by rw [hcV_no (fun h => by have := h.l2; have := HN.out; omega)]; exact rfl, HAw1.out⟩
  have d4 : decide (4 < (ps.length : Int)) = false := decide_eq_false (by omega)
  have d3n : decide (ps.length < 1) = false := decide_eq_false (by omega)
  have d4n : decide (4 < ps.length) = false := decide_eq_false (by omega)
  have HB1 : Hid (1 ≤ B ∧ B ≤ 64 ∧ 1 ≤ ps.length ∧ ps.length ≤ 4) := Lib.hid (by omega)
  clear h1 h2 h3 h4
  go_wp2_with fail
  clear x0 x1
  go_loopw [28] (fun iv wr => ∃ k : Nat, k ≤ ps.length ∧ iv = .int .i64 k ∧ Below w.heap.size w wr ∧ (ps.take k).all pOK = true) (fun iv _ => ps.length - (intOf iv).toNat)
  case atStart => exact ⟨0, Nat.zero_le _, rfl, HAw1.out, by simp⟩
  case round =>
    obtain ⟨k, hk, rfl, hbel, hall⟩ := hrel
    have HB := Lib.hid hbel
    have HALL := Lib.hid hall
    clear hall
    by_cases hlt : k < ps.length
    · obtain ⟨_, _, e, _, _, _, ha⟩ := HS.out
      injection e with e1 e2 e3
      subst e1 e3
      obtain ⟨b, off, rfl, hb, hcell⟩ := ha (by omega)
      have c0 : wr.cell? ⟨b, off + k * 2, none⟩ = some (.int .i64 ps[k].1) := (hbel.cell (p := ⟨b, off + k * 2, none⟩) hb).trans (hcell k hlt 0 (by omega))
      have c1 : wr.cell? ⟨b, off + k * 2 + 1, none⟩ = some (.int .i64 ps[k].2) := (hbel.cell (p := ⟨b, off + k * 2 + 1, none⟩) hb).trans (hcell k hlt 1 (by omega))
      obtain ⟨x, hx⟩ : ∃ x, x = ps[k].1 := ⟨_, rfl⟩
      obtain ⟨y, hy⟩ : ∃ y, y = ps[k].2 := ⟨_, rfl⟩
      have HXY : Hid (ps[k] = (x, y)) := (show Hid _ from by rw [hx, hy]; exact rfl)
      rw [← hx] at c0
      rw [← hy] at c1
      have wk : IntKind.i64.wrap ((k : Int) + 1) = (k : Int) + 1 := by exact IntWalk.i64_in _ (by omega)
      clear hcell ha hx hy hbel
      by_cases g1 : x < 0
      · have e1 : decide (x < 0) = true := decide_eq_true g1
        go_wp2_with fail
        all_goals go_ret
        all_goals exact ⟨by rw [hcV_no (all_not hlt (by rw [HXY.out]; unfold pOK; simp; omega))]; exact rfl, HB.out.alloc HB.out.size _⟩
      have e1 : decide (x < 0) = false := decide_eq_false g1
      by_cases g2 : 2147483647 ≤ x
      · have e2 : decide (2147483647 ≤ x) = true := decide_eq_true g2
        go_wp2_with fail
        all_goals go_ret
        all_goals exact ⟨by rw [hcV_no (all_not hlt (by rw [HXY.out]; unfold pOK; simp; omega))]; exact rfl, HB.out.alloc HB.out.size _⟩
      have e2 : decide (2147483647 ≤ x) = false := decide_eq_false g2
      by_cases g3 : y < 0
      · have e3 : decide (y < 0) = true := decide_eq_true g3
        go_wp2_with fail
        all_goals go_ret
        all_goals exact ⟨by rw [hcV_no (all_not hlt (by rw [HXY.out]; unfold pOK; simp; omega))]; exact rfl, HB.out.alloc HB.out.size _⟩
      have e3 : decide (y < 0) = false := decide_eq_false g3
      by_cases g4 : 2147483647 ≤ y
      · have e4 : decide (2147483647 ≤ y) = true := decide_eq_true g4
        go_wp2_with fail
        all_goals go_ret
        all_goals exact ⟨by rw [hcV_no (all_not hlt (by rw [HXY.out]; unfold pOK; simp; omega))]; exact rfl, HB.out.alloc HB.out.size _⟩
      have e4 : decide (2147483647 ≤ y) = false := decide_eq_false g4
      have hpk : pOK ps[k] = true := by rw [HXY.out]; exact (pOK_iff (x, y)).2 ⟨by show 0 ≤ x; omega, by show x < _; omega, by show 0 ≤ y; omega, by show y < _; omega⟩
      have HALL2 := Lib.hid (all_step HALL.out hlt hpk)
      clear hpk
      go_wp2_with fail
      go_roundw
      case rel => exact ⟨k + 1, by omega, by go_num, HB.out.alloc HB.out.size _, HALL2.out⟩
      case measure => simp [intOf]; omega
    · have hke : k = ps.length := by omega
      have HVV : Hid (HV B ps) := (show Hid _ from hvB_iff.1 (by
        have h := HALL.out
        rw [hke, List.take_length] at h
        unfold hvB
        rw [h]
        have := HB1.out
        simp
        omega))
      go_wp2_with fail
      go_ret
      exact ⟨by rw [hcV_ok HVV.out]; exact rfl, HB.out⟩
set_option maxHeartbeats 4000000 in
theorem rcheck_raw (B : Int) (ps : List (Int × Int)) (v : Value) (w : World) (h : SG pcs 2 w.heap.size w v ps) :
    Calls Try.prog 42 #[.agg #[.int .i64 B, v]] w fun e w' => e = .returned (hcV B ps) ∧ Below w.heap.size w w' := by
  have HS := Lib.hid h
  obtain ⟨A, c, rfl, _, hml, _, _⟩ := h
  go_enter Try.func42, Try.ntmps42
  obtain ⟨F, eF⟩ : ∃ F, F = w.heap.size := ⟨_, rfl⟩
  obtain ⟨w1, ew1⟩ : ∃ w1 : World, w1 = w.alloc (.cells #[.int .i64 B, .slice A ps.length c] 25) := ⟨_, rfl⟩
  have HWw1 : Hid (w.alloc (.cells #[.int .i64 B, .slice A ps.length c] 25) = w1) := ew1.symm
  have HAw1 : Hid (Below w.heap.size w w1) := (show Hid _ from by rw [ew1]; exact (Below.refl _ w).alloc (Nat.le_refl _) _)
  have HF0w1 : Hid (w1.heap[F]? = some (.cells #[.int .i64 B, .slice A ps.length c] 25 (0, 0))) := (show Hid _ from by show _ = _; rw [ew1, eF]; exact heap_alloc_new w _)
  have HX : Hid (∀ W, Below w1.heap.size w1 W → W.cell? ⟨F, 0, none⟩ = some (.int .i64 B) ∧ W.cell? ⟨F, 1, none⟩ = some (.slice A ps.length c)) := (show Hid _ from fun W hg => by
    have hF0 := (hg.block F (heap_of_cells HF0w1.out)).trans HF0w1.out
    exact ⟨cell_of_row W F 0 _ _ _ hF0, cell_of_row W F 1 _ _ _ hF0⟩)
  go_upto_region 1 with fail
  rw [HWw1.out, ← eF]
  clear ew1 eF
  obtain ⟨x0, x1⟩ := HX.out w1 (Below.refl _ _)
  by_cases h1 : B < 1
  · have HN := Lib.hid h1
    go_wp2_with fail
    all_goals go_ret
    all_goals exact ⟨by rw [hcV_no (fun h => by have := h.b1; have := HN.out; omega)]; exact rfl, HAw1.out⟩
  have d1 : decide (B < 1) = false := decide_eq_false h1
  by_cases h2 : 64 < B
  · have HN := Lib.hid h2
    go_wp2_with fail
    all_goals go_ret
    all_goals exact ⟨by rw [hcV_no (fun h => by have := h.b2; have := HN.out; omega)]; exact rfl, HAw1.out⟩
  have d2 : decide (64 < B) = false := decide_eq_false h2
  by_cases h3 : ps.length < 1
  · have d3 : decide ((ps.length : Int) < 1) = true := decide_eq_true (by omega)
    have HN := Lib.hid h3
    clear h3
    go_wp2_with fail
    all_goals go_ret
    all_goals exact ⟨by rw [hcV_no (fun h => by have := h.l1; have := HN.out; omega)]; exact rfl, HAw1.out⟩
  have d3 : decide ((ps.length : Int) < 1) = false := decide_eq_false (by omega)
  by_cases h4 : 4 < ps.length
  · have d4 : decide (4 < (ps.length : Int)) = true := decide_eq_true (by omega)
    have d3n : decide (ps.length < 1) = false := decide_eq_false (by omega)
    have d4n : decide (4 < ps.length) = true := decide_eq_true (by omega)
    have HN := Lib.hid h4
    clear h4
    go_wp2_with fail
    all_goals go_ret
    all_goals exact ⟨by rw [hcV_no (fun h => by have := h.l2; have := HN.out; omega)]; exact rfl, HAw1.out⟩
  have d4 : decide (4 < (ps.length : Int)) = false := decide_eq_false (by omega)
  have d3n : decide (ps.length < 1) = false := decide_eq_false (by omega)
  have d4n : decide (4 < ps.length) = false := decide_eq_false (by omega)
  have HB1 : Hid (1 ≤ B ∧ B ≤ 64 ∧ 1 ≤ ps.length ∧ ps.length ≤ 4) := Lib.hid (by omega)
  clear h1 h2 h3 h4
  go_wp2_with fail
  clear x0 x1
  go_loopw [28] (fun iv wr => ∃ k : Nat, k ≤ ps.length ∧ iv = .int .i64 k ∧ Below w.heap.size w wr ∧ (ps.take k).all pOK = true) (fun iv _ => ps.length - (intOf iv).toNat)
  case atStart => exact ⟨0, Nat.zero_le _, rfl, HAw1.out, by simp⟩
  case round =>
    obtain ⟨k, hk, rfl, hbel, hall⟩ := hrel
    have HB := Lib.hid hbel
    have HALL := Lib.hid hall
    clear hall
    by_cases hlt : k < ps.length
    · obtain ⟨_, _, e, _, _, _, ha⟩ := HS.out
      injection e with e1 e2 e3
      subst e1 e3
      obtain ⟨b, off, rfl, hb, hcell⟩ := ha (by omega)
      have c0 : wr.cell? ⟨b, off + k * 2, none⟩ = some (.int .i64 ps[k].1) := (hbel.cell (p := ⟨b, off + k * 2, none⟩) hb).trans (hcell k hlt 0 (by omega))
      have c1 : wr.cell? ⟨b, off + k * 2 + 1, none⟩ = some (.int .i64 ps[k].2) := (hbel.cell (p := ⟨b, off + k * 2 + 1, none⟩) hb).trans (hcell k hlt 1 (by omega))
      obtain ⟨x, hx⟩ : ∃ x, x = ps[k].1 := ⟨_, rfl⟩
      obtain ⟨y, hy⟩ : ∃ y, y = ps[k].2 := ⟨_, rfl⟩
      have HXY : Hid (ps[k] = (x, y)) := (show Hid _ from by rw [hx, hy]; exact rfl)
      rw [← hx] at c0
      rw [← hy] at c1
      have wk : IntKind.i64.wrap ((k : Int) + 1) = (k : Int) + 1 := by exact IntWalk.i64_in _ (by omega)
      clear hcell ha hx hy hbel
      by_cases g1 : x < 0
      · have e1 : decide (x < 0) = true := decide_eq_true g1
        go_wp2_with fail
        all_goals go_ret
        all_goals exact ⟨by rw [hcV_no (all_not hlt (by rw [HXY.out]; unfold pOK; simp; omega))]; exact rfl, HB.out.alloc HB.out.size _⟩
      have e1 : decide (x < 0) = false := decide_eq_false g1
      by_cases g2 : 2147483647 ≤ x
      · have e2 : decide (2147483647 ≤ x) = true := decide_eq_true g2
        go_wp2_with fail
        all_goals go_ret
        all_goals exact ⟨by rw [hcV_no (all_not hlt (by rw [HXY.out]; unfold pOK; simp; omega))]; exact rfl, HB.out.alloc HB.out.size _⟩
      have e2 : decide (2147483647 ≤ x) = false := decide_eq_false g2
      by_cases g3 : y < 0
      · have e3 : decide (y < 0) = true := decide_eq_true g3
        go_wp2_with fail
        all_goals go_ret
        all_goals exact ⟨by rw [hcV_no (all_not hlt (by rw [HXY.out]; unfold pOK; simp; omega))]; exact rfl, HB.out.alloc HB.out.size _⟩
      have e3 : decide (y < 0) = false := decide_eq_false g3
      by_cases g4 : 2147483647 ≤ y
      · have e4 : decide (2147483647 ≤ y) = true := decide_eq_true g4
        go_wp2_with fail
        all_goals go_ret
        all_goals exact ⟨by rw [hcV_no (all_not hlt (by rw [HXY.out]; unfold pOK; simp; omega))]; exact rfl, HB.out.alloc HB.out.size _⟩
      have e4 : decide (2147483647 ≤ y) = false := decide_eq_false g4
      have hpk : pOK ps[k] = true := by rw [HXY.out]; exact (pOK_iff (x, y)).2 ⟨by show 0 ≤ x; omega, by show x < _; omega, by show 0 ≤ y; omega, by show y < _; omega⟩
      have HALL2 := Lib.hid (all_step HALL.out hlt hpk)
      clear hpk
      go_wp2_with fail
      go_roundw
      case rel => exact ⟨k + 1, by omega, by go_num, HB.out.alloc HB.out.size _, HALL2.out⟩
      case measure => simp [intOf]; omega
    · have hke : k = ps.length := by omega
      have HVV : Hid (HV B ps) := (show Hid _ from hvB_iff.1 (by
        have h := HALL.out
        rw [hke, List.take_length] at h
        unfold hvB
        rw [h]
        have := HB1.out
        simp
        omega))
      go_wp2_with fail
      go_ret
      exact ⟨by rw [hcV_ok HVV.out]; exact rfl, HB.out⟩
end Go.Proofs.Ytllnomembakboaa

namespace Go.Proofs.Ytllnomembakboaa
open Go.RowKit

def C1r (M : Nat) (B : Nat) (ps : List (Int × Int)) (slots : Int) (bs : List (List (ByteArray × Int))) (w2 : World) (iv : Value) (wr : World) : Prop :=
  ∃ b : Nat, b ≤ bs.length ∧ iv = .int .i64 (b : Nat) ∧ BS Try.prog 9 4 wr M (posE bs b) (kys bs.flatten (posE bs b)) ∧ w2.grownBy wr (some M) ∧ ((bs.flatten.take (posE bs b)).map (·.1)).Nodup ∧
    (∀ c (h : c < bs.length), c < b → ((bs[c].length : Nat) : Int) ≤ slots ∧ ascB bs[c] = true ∧ ∀ e ∈ bs[c], (hms B ps (dg e.1)).contains (c : Int) = true) ∧ posE bs b ≤ 8 * b
set_option maxRecDepth 100000 in
set_option maxHeartbeats 4000000 in
theorem kcheck_raw (B : Nat) (ps : List (Int × Int)) (slots : Int) (bs : List (List (ByteArray × Int))) (pv ev : Value) (w : World) (hv : HV B ps) (hp : SG pcs 2 w.heap.size w pv ps) (he : SLe w.heap.size w ev bs) (hk : ∀ l ∈ bs, ∀ e ∈ l, e.1.size ≤ 9223372036854775807) :
    Calls Try.prog 16 #[.agg #[.int .i64 B, pv, .int .i64 slots, ev]] w (ChR B ps slots bs w) := by
  obtain ⟨Ap, cp, rfl⟩ : ∃ A c, pv = .slice A ps.length c := by obtain ⟨A, c, e, _⟩ := hp; exact ⟨A, c, e⟩
  obtain ⟨vs, hvl, hsv, hrows⟩ := he
  obtain ⟨Ae, ce, rfl⟩ := hsv.form
  have hbl : bs.length ≤ 9223372036854775807 := by obtain ⟨_, _, _, h1, h2, _⟩ := hsv; omega
  have HSV := Lib.hid hsv
  have HROWS := Lib.hid hrows
  have HVL := Lib.hid hvl
  have HPS := Lib.hid hp
  have HV' := Lib.hid hv
  have HK := Lib.hid hk
  rw [hvl]
  clear hsv hrows hvl hp hv hk
  go_enter Try.func16, Try.ntmps16
  obtain ⟨F, eF⟩ : ∃ F, F = w.heap.size := ⟨_, rfl⟩
  obtain ⟨w1, ew1⟩ : ∃ w1 : World, w1 = w.alloc (.cells #[.int .i64 B, .slice Ap ps.length cp, .int .i64 slots, .slice Ae bs.length ce] 28) := ⟨_, rfl⟩
  have HWw1 : Hid (w.alloc (.cells #[.int .i64 B, .slice Ap ps.length cp, .int .i64 slots, .slice Ae bs.length ce] 28) = w1) := ew1.symm
  have HAw1 : Hid (Below w.heap.size w w1) := (show Hid _ from by rw [ew1]; exact (Below.refl _ w).alloc (Nat.le_refl _) _)
  have HF0w1 : Hid (w1.heap[F]? = some (.cells #[.int .i64 B, .slice Ap ps.length cp, .int .i64 slots, .slice Ae bs.length ce] 28 (0, 0))) := (show Hid _ from by show _ = _; rw [ew1, eF]; exact heap_alloc_new w _)
  have HX : Hid (∀ W, Below w1.heap.size w1 W → W.cell? ⟨F, 0, none⟩ = some (.int .i64 B) ∧ W.cell? ⟨F, 1, none⟩ = some (.slice Ap ps.length cp) ∧ W.cell? ⟨F, 2, none⟩ = some (.int .i64 slots) ∧ W.cell? ⟨F, 3, none⟩ = some (.slice Ae bs.length ce)) := (show Hid _ from fun W hg => by
    have hF0 := (hg.block F (heap_of_cells HF0w1.out)).trans HF0w1.out
    exact ⟨cell_of_row W F 0 _ _ _ hF0, cell_of_row W F 1 _ _ _ hF0, cell_of_row W F 2 _ _ _ hF0, cell_of_row W F 3 _ _ _ hF0⟩)
  have hFw : w.heap.size ≤ F := by omega
  go_upto_region 1 with fail
  rw [HWw1.out, ← eF]
  clear ew1 eF
  have HPS1 := Lib.hid ((HPS.out.below HAw1.out).more HAw1.out.size)
  obtain ⟨x0, x1, x2, x3⟩ := HX.out w1 (Below.refl _ _)
  go_wp2_with fail
  (with_reducible refine (hcheck_ok B ps _ w1 HV'.out HPS1.out).mono ?_)
  rintro e w2 ⟨rfl, hb2⟩
  have HX2 := Lib.hid hb2
  clear hb2 x0 x1 x2 x3
  obtain ⟨x0, x1, x2, x3⟩ := HX.out w2 HX2.out
  go_wp2_with fail
  (with_reducible refine (slotted_any slots w2).mono ?_)
  rintro e w3 ⟨rfl, hw3⟩
  subst hw3
  have HBW : Hid (Below w.heap.size w w2) := (show Hid _ from HAw1.out.trans (HX2.out.mono HAw1.out.size))
  obtain ⟨sb, esb⟩ : ∃ sb, sb = (decide (1 ≤ slots) && decide (slots ≤ 8)) := ⟨_, rfl⟩
  rw [← esb]
  have HSB := Lib.hid esb
  clear esb
  cases sb
  · go_wp2_with fail
    all_goals go_ret
    all_goals exact ⟨false, by rfl, ⟨fun h => by (cases h), fun h => by have h1 := HSB.out; rw [decide_eq_true h.s1, decide_eq_true h.s2] at h1; cases h1⟩, HBW.out⟩
  · by_cases hlen : bs.length = B
    · subst hlen
      have hsl : 1 ≤ slots ∧ slots ≤ 8 := by have h := HSB.out.symm; simpa using h
      have HSL := Lib.hid hsl
      have hmf : (Instr.makeMap 74 none).run Try.prog w2 = .ok (.map (some w2.heap.size)) (w2.alloc (.map #[] 0)) := run_makeMap _ w2
      obtain ⟨M, eM⟩ : ∃ M, M = w2.heap.size := ⟨_, rfl⟩
      obtain ⟨w3, ew3⟩ : ∃ w3 : World, w3 = w2.alloc (.map #[] 0) := ⟨_, rfl⟩
      have HBS3 : Hid (BS Try.prog 9 4 w3 M 0 []) := (show Hid _ from by rw [ew3, eM]; exact BS.made _ _ _ _)
      have HX3 : Hid (Below w1.heap.size w1 w3) := (show Hid _ from by rw [ew3]; exact HX2.out.alloc HX2.out.size _)
      have hMw : w1.heap.size ≤ M := by rw [eM]; exact HX2.out.size
      clear hsl
      go_upto_region 4 with fail
      rw [← eM, ← ew3]
      clear hmf ew3 eM x0 x1 x2 x3
      obtain ⟨x0, x1, x2, x3⟩ := HX.out w3 HX3.out
      go_wp2_with fail
      clear x0 x1 x2 x3
      go_loopw [31] (fun iv wr => C1r M bs.length ps slots bs w3 iv wr) (fun iv _ => bs.length - (intOf iv).toNat)
      case atStart => exact ⟨0, Nat.zero_le _, rfl, by simpa [posE, kys] using HBS3.out, grownBy_refl _ _, by simp [posE], fun c h hc => by omega, by simp [posE]⟩
      case round =>
        obtain ⟨b, hb, rfl, hbs, hgr, hnd, hgood, hpos8⟩ := hrel
        have HP8 := Lib.hid hpos8
        clear hpos8
        have HBS := Lib.hid hbs
        have HGR := Lib.hid hgr
        have HND := Lib.hid hnd
        have HGOOD := Lib.hid hgood
        have HXr : Hid (Below w1.heap.size w1 wr) := (show Hid _ from HX3.out.grown hgr HX3.out.size (fun k hk => by injection hk with hk; omega))
        have HBWr : Hid (Below w.heap.size w wr) := (show Hid _ from HAw1.out.trans (HXr.out.mono HAw1.out.size))
        have hz1 := HXr.out.size
        clear hbs hgr hnd hgood
        by_cases hbt : b < bs.length
        · obtain ⟨_, hat⟩ := HSV.out.at
          have hiv : b < vs.length := by rw [HVL.out]; exact hbt
          obtain ⟨p, o, rfl, hpl, hc⟩ := hat b hiv
          have c0 : wr.cell? ⟨p, o + b, none⟩ = some vs[b] := by simpa [one] using hc wr HBWr.out 0 (by omega)
          have hrow := HROWS.out b hiv hbt
          obtain ⟨Ar, cr, er⟩ := hrow.form
          obtain ⟨row, erow⟩ : ∃ r, r = bs[b] := ⟨_, rfl⟩
          rw [er, ← erow] at c0
          rw [er, ← erow] at hrow
          have HROW := Lib.hid hrow
          have HER := Lib.hid erow
          have hrl : row.length ≤ 9223372036854775807 := by obtain ⟨_, _, e, h1, h2, _⟩ := hrow; omega
          have HROWr : Hid (SV ecs 2 wr.heap.size wr (.slice Ar row.length cr) row) := (show Hid _ from (hrow.below HBWr.out).more HBWr.out.size)
          have HKR : Hid (∀ e ∈ row, e.1.size ≤ 9223372036854775807) := (show Hid _ from by rw [erow]; exact HK.out _ (List.getElem_mem hbt))
          have z0 : 0 ≤ (b : Int) := by omega
          have z1 : (b : Int) < (bs.length : Int) := by omega
          have wb : IntKind.i64.wrap ((b : Int) + 1) = (b : Int) + 1 := by exact IntWalk.i64_in _ (by omega)
          obtain ⟨x0, x1, x2, x3⟩ := HX.out wr HXr.out
          clear hat hc hrow er erow
          by_cases hrs : ((row.length : Nat) : Int) ≤ slots
          · have d1 : decide (slots < ((row.length : Nat) : Int)) = false := decide_eq_false (by omega)
            have d2 : ¬ (slots < ((row.length : Nat) : Int)) := by omega
            have HRS := Lib.hid hrs
            go_wp2_with fail
            (with_reducible refine (ascends_any row _ wr HROWr.out HKR.out).mono ?_)
            rintro e w4 ⟨rfl, hb4⟩
            have HB4 := Lib.hid hb4
            have hz4 := hb4.size
            clear hb4
            cases hasc : ascB row
            · have HASC := Lib.hid hasc
              go_wp2_with fail
              all_goals go_ret
              all_goals exact ⟨false, by rfl, ⟨fun h => by (cases h), fun h => by have h1 := (h.row b hbt).2; rw [← HER.out, HASC.out] at h1; cases h1⟩, HBWr.out.trans (HB4.out.mono HBWr.out.size)⟩
            · have HASC := Lib.hid hasc
              clear hasc
              go_wp2_with fail
              clear c0 x0 x1 x2 x3 d1 d2
              go_loopw [48] (fun iv wq => C2 M bs.length b ps bs row w3 iv wq) (fun iv _ => row.length - (intOf iv).toNat)
              case atStart => exact ⟨0, Nat.zero_le _, rfl, HBS.out.kept (grownBy_of_below HB4.out none) (by simp), grownBy_trans HGR.out (grownBy_of_below HB4.out _), HND.out, fun e he => by simp at he⟩
              case round =>
                obtain ⟨j, hj, rfl, hbs, hgr, hnd, hgood⟩ := hrel
                have HBS2 := Lib.hid hbs
                have HGR2 := Lib.hid hgr
                have HND2 := Lib.hid hnd
                have HGOOD2 := Lib.hid hgood
                have HXq : Hid (Below w1.heap.size w1 wr) := (show Hid _ from HX3.out.grown hgr HX3.out.size (fun k hk => by injection hk with hk; omega))
                have HBWq : Hid (Below w.heap.size w wr) := (show Hid _ from HAw1.out.trans (HXq.out.mono HAw1.out.size))
                have hzq := HXq.out.size
                have hzq3 := hgr.size
                clear hbs hgr hnd hgood
                by_cases hjt : j < row.length
                · obtain ⟨_, hat⟩ := HROW.out.at
                  obtain ⟨p2, o2, rfl, hp2, hcell⟩ := hat j hjt
                  obtain ⟨key, ek⟩ : ∃ k, k = row[j].1 := ⟨_, rfl⟩
                  obtain ⟨x, ex⟩ : ∃ x, x = row[j].2 := ⟨_, rfl⟩
                  have c0 : wr.cell? ⟨p2, o2 + j * 2, none⟩ = some (.string key) := by rw [ek]; exact hcell wr HBWq.out 0 (by omega)
                  have c1 : wr.cell? ⟨p2, o2 + j * 2 + 1, none⟩ = some (.int .i64 x) := by rw [ex]; exact hcell wr HBWq.out 1 (by omega)
                  have hej : row[j] = (key, x) := by rw [ek, ex]
                  have hks : key.size ≤ 9223372036854775807 := by rw [ek]; exact HKR.out _ (List.getElem_mem hjt)
                  have hjb : j < bs[b].length := by rw [← HER.out]; exact hjt
                  obtain ⟨hpo, hpe⟩ := posE_at hbt hjb
                  have HEL : Hid (bs.flatten[posE bs b + j] = (key, x)) := (show Hid _ from by rw [hpe, ← hej]; exact (List.getElem_of_eq HER.out hjt).symm)
                  have HEJ := Lib.hid hej
                  obtain ⟨pos, epos⟩ : ∃ q, q = posE bs b + j := ⟨_, rfl⟩
                  rw [← epos] at HBS2 HND2
                  have HPOS := Lib.hid epos
                  have hpo2 : pos < bs.flatten.length := by rw [epos]; exact hpo
                  have HEL2 : Hid (bs.flatten[pos] = (key, x)) := (show Hid _ from by simp only [epos]; exact HEL.out)
                  have hnm : pos < maxLen := by unfold maxLen; have h1 := HRS.out; have h2 := HSL.out; have h3 := HPOS.out; have h4 := HP8.out; have h5 := HV'.out.b2; omega
                  have hkm : key.size ≤ maxLen := by unfold maxLen; omega
                  have hpo3 : pos ≤ bs.flatten.length := by omega
                  have y0 : 0 ≤ (j : Int) := by omega
                  have y1 : (j : Int) < (row.length : Int) := by omega
                  have wj : IntKind.i64.wrap ((j : Int) + 1) = (j : Int) + 1 := by exact IntWalk.i64_in _ (by omega)
                  have hlp : (hms bs.length ps (dg key)).length ≤ 1000000 := by rw [hms_len]; have := HV'.out.l2; omega
                  clear hat hcell ek ex hej hpo hpe epos HEL
                  obtain ⟨X, eX⟩ : ∃ X, X = wr.heap.size := ⟨_, rfl⟩
                  obtain ⟨wx, ewx⟩ : ∃ wx : World, wx = wr.alloc (.cells #[.string key, .int .i64 x] 41) := ⟨_, rfl⟩
                  have HWwx : Hid (wr.alloc (.cells #[.string key, .int .i64 x] 41) = wx) := ewx.symm
                  have HAwx : Hid (Below wr.heap.size wr wx) := (show Hid _ from by rw [ewx]; exact (Below.refl _ wr).alloc (Nat.le_refl _) _)
                  have HX0wx : Hid (wx.heap[X]? = some (.cells #[.string key, .int .i64 x] 41 (0, 0))) := (show Hid _ from by show _ = _; rw [ewx, eX]; exact heap_alloc_new wr _)
                  have HXX : Hid (∀ W, Below wx.heap.size wx W → W.cell? ⟨X, 0, none⟩ = some (.string key) ∧ W.cell? ⟨X, 1, none⟩ = some (.int .i64 x)) := (show Hid _ from fun W hg => by
                    have hX0 := (hg.block X (heap_of_cells HX0wx.out)).trans HX0wx.out
                    exact ⟨cell_of_row W X 0 _ _ _ hX0, cell_of_row W X 1 _ _ _ hX0⟩)
                  have hXr : wr.heap.size ≤ X := by omega
                  go_upto_region 12 with fail
                  rw [HWwx.out, ← eX]
                  clear ewx eX
                  obtain ⟨k0, k1⟩ := HXX.out wx (Below.refl _ _)
                  have HXx : Hid (Below w1.heap.size w1 wx) := (show Hid _ from HXq.out.trans (HAwx.out.mono hzq))
                  have HBWx : Hid (Below w.heap.size w wx) := (show Hid _ from HAw1.out.trans (HXx.out.mono HAw1.out.size))
                  have HBSx : Hid (BS Try.prog 9 4 wx M pos (kys bs.flatten pos)) := (show Hid _ from HBS2.out.kept (grownBy_of_below HAwx.out none) (by simp))
                  obtain ⟨x0, x1, x2, x3⟩ := HX.out wx HXx.out
                  clear c0 c1
                  cases hkk : (kys bs.flatten pos).contains key.data.toList
                  · have HKK := Lib.hid hkk
                    clear hkk
                    have HNE : Hid (∀ j (hj : j < pos), (bs.flatten[j]'(by omega)).1 ≠ bs.flatten[pos].1) := (show Hid _ from fun j hj => by rw [HEL2.out]; exact kys_not hpo3 HKK.out j hj)
                    have HSGx : Hid (SG pcs 2 wx.heap.size wx (.slice Ap ps.length cp) ps) := (show Hid _ from (HPS.out.below HBWx.out).more HBWx.out.size)
                    go_wp2_with (at_lookup; refine wpList_lookup_BS _ rfl _ _ 74 rfl 9 4 Try.underlying74 Try.underlying9 Try.underlying4 (zeroB _) M pos _ rfl (by exact HBSx.out) key rfl hkm ?_; rw [HKK.out])
                    (with_reducible refine (khomes_ok bs.length ps key _ wx HV'.out hks HSGx.out).mono ?_)
                    rintro e w8 ⟨v8, rfl, ho8, hb8⟩
                    have HO8 := Lib.hid ho8
                    have HB8 := Lib.hid hb8
                    clear ho8 hb8
                    go_wp2_with fail
                    (with_reducible refine (contains_own (hms bs.length ps (dg key)) (b : Int) _ w8 hlp HO8.out).mono ?_)
                    rintro e w9 ⟨rfl, hw9⟩
                    subst hw9
                    cases hcon : (hms bs.length ps (dg key)).contains (b : Int)
                    · have HCON := Lib.hid hcon
                      go_wp2_with fail
                      all_goals go_ret
                      all_goals exact ⟨false, by rfl, ⟨fun h => by (cases h), fun h => by have h1 := h.home b hbt (key, x) (by rw [← HER.out, ← HEJ.out]; exact List.getElem_mem hjt); rw [HCON.out] at h1; cases h1⟩, HBWx.out.trans (HB8.out.mono HBWx.out.size)⟩
                    · have HCON := Lib.hid hcon
                      clear hcon k0 k1 x0 x1 x2 x3
                      obtain ⟨k0, k1⟩ := HXX.out w9 HB8.out
                      have HBS8 : Hid (BS Try.prog 9 4 w9 M pos (kys bs.flatten pos)) := (show Hid _ from HBSx.out.kept (grownBy_of_below HB8.out none) (by simp))
                      go_wp2_with (at_mapUpdate; refine wpList_update_BS _ rfl _ _ _ 74 rfl 9 4 Try.underlying74 Try.underlying9 Try.underlying4 M pos _ rfl (by exact HBS8.out) hnm key rfl hkm rfl ?_; intro w5 hb5 hg5; have HBS5 := Lib.hid hb5; have HG5 := Lib.hid hg5; clear hb5 hg5)
                      go_roundw
                      case rel => exact ⟨j + 1, hjt, by go_num, by rw [← Nat.add_assoc, ← HPOS.out, kys_succ hpo2, HEL2.out]; exact HBS5.out, grownBy_trans (grownBy_trans (grownBy_trans HGR2.out (grownBy_of_below HAwx.out _)) (grownBy_of_below HB8.out _)) HG5.out, by rw [← Nat.add_assoc, ← HPOS.out]; exact nd_step hpo2 HND2.out HNE.out, by
                        intro e he
                        rw [List.take_succ_eq_append_getElem hjt, List.mem_append, List.mem_singleton] at he
                        rcases he with he | he
                        · exact HGOOD2.out e he
                        · rw [he, HEJ.out]; exact HCON.out⟩
                      case measure => simp [intOf]; omega
                  · have HKK := Lib.hid hkk
                    clear hkk
                    go_wp2_with (at_lookup; refine wpList_lookup_BS _ rfl _ _ 74 rfl 9 4 Try.underlying74 Try.underlying9 Try.underlying4 (zeroB _) M pos _ rfl (by exact HBSx.out) key rfl hkm ?_; rw [HKK.out])
                    all_goals go_ret
                    all_goals exact ⟨false, by rfl, ⟨fun h => by (cases h), fun h => by
                      obtain ⟨j2, hj2, hji, e2⟩ := kys_has HKK.out
                      exact (nd_not hpo2 hji (by rw [HEL2.out]; exact e2) h.nd).elim⟩, HBWx.out⟩
                · have hje : j = row.length := by omega
                  have HPO : Hid (posE bs (b + 1) = posE bs b + j) := (show Hid _ from by rw [posE_succ hbt, hje, HER.out]; exact rfl)
                  have HG3 : Hid (∀ c (h : c < bs.length), c < b + 1 → ((bs[c].length : Nat) : Int) ≤ slots ∧ ascB bs[c] = true ∧ ∀ e ∈ bs[c], (hms bs.length ps (dg e.1)).contains (c : Int) = true) := (show Hid _ from fun c h hc => by
                    rcases Nat.lt_or_ge c b with h1 | h1
                    · exact HGOOD.out c h h1
                    · have : c = b := by omega
                      subst this
                      rw [← HER.out]
                      refine ⟨HRS.out, HASC.out, ?_⟩
                      have h2 := HGOOD2.out
                      rw [hje, List.take_length] at h2
                      exact h2)
                  clear hje
                  go_wp2_with fail
                  go_roundw
                  case rel => exact ⟨b + 1, hbt, by go_num, by rw [HPO.out]; exact HBS2.out, HGR2.out, by rw [HPO.out]; exact HND2.out, HG3.out, by rw [posE_succ hbt, ← HER.out]; have h1 := HRS.out; have h2 := HSL.out; have h3 := HP8.out; omega⟩
                  case measure => simp [intOf]; omega
          · have d1 : decide (slots < ((row.length : Nat) : Int)) = true := decide_eq_true (by omega)
            have d2 : slots < ((row.length : Nat) : Int) := by omega
            have HRS := Lib.hid hrs
            go_wp2_with fail
            all_goals go_ret
            all_goals exact ⟨false, by rfl, ⟨fun h => by (cases h), fun h => by have h1 := (h.row b hbt).1; rw [← HER.out] at h1; have h2 := HRS.out; omega⟩, HBWr.out⟩
        · have hbe : b = bs.length := by omega
          have HOK : Hid (DirOK bs.length ps slots bs) := (show Hid _ from ⟨HSL.out.1, HSL.out.2, rfl, fun c h => ⟨(HGOOD.out c h (by omega)).1, (HGOOD.out c h (by omega)).2.1⟩, fun c h => (HGOOD.out c h (by omega)).2.2, by have h := HND.out; rw [hbe, posE_all, List.take_length] at h; exact h⟩)
          go_wp2_with fail
          all_goals go_ret
          all_goals exact ⟨true, by rfl, ⟨fun _ => HOK.out, fun _ => rfl⟩, HBWr.out⟩
    · have hne : ¬ ((bs.length : Int) = (B : Int)) := by omega
      have HNE := Lib.hid hlen
      go_wp2_with fail
      all_goals go_ret
      all_goals exact ⟨false, by rfl, ⟨fun h => by (cases h), fun h => (HNE.out h.len).elim⟩, HBW.out⟩
set_option maxHeartbeats 2000000 in
theorem kcheck_bad (B : Int) (ps : List (Int × Int)) (slots : Int) (bs : List (List (ByteArray × Int))) (pv ev : Value) (w : World) (hv : ¬ HV B ps) (hp : SG pcs 2 w.heap.size w pv ps) (he : SLe w.heap.size w ev bs) :
    Calls Try.prog 16 #[.agg #[.int .i64 B, pv, .int .i64 slots, ev]] w fun e w' => e = .returned (.int .i64 2) ∧ Below w.heap.size w w' := by
  obtain ⟨Ap, cp, rfl⟩ : ∃ A c, pv = .slice A ps.length c := by obtain ⟨A, c, e, _⟩ := hp; exact ⟨A, c, e⟩
  obtain ⟨vs, hvl, hsv, hrows⟩ := he
  obtain ⟨Ae, ce, rfl⟩ := hsv.form
  have HPS := Lib.hid hp
  have HV' := Lib.hid hv
  clear hsv hrows hp hv hvl
  go_enter Try.func16, Try.ntmps16
  obtain ⟨F, eF⟩ : ∃ F, F = w.heap.size := ⟨_, rfl⟩
  obtain ⟨w1, ew1⟩ : ∃ w1 : World, w1 = w.alloc (.cells #[.int .i64 B, .slice Ap ps.length cp, .int .i64 slots, .slice Ae vs.length ce] 28) := ⟨_, rfl⟩
  have HWw1 : Hid (w.alloc (.cells #[.int .i64 B, .slice Ap ps.length cp, .int .i64 slots, .slice Ae vs.length ce] 28) = w1) := ew1.symm
  have HAw1 : Hid (Below w.heap.size w w1) := (show Hid _ from by rw [ew1]; exact (Below.refl _ w).alloc (Nat.le_refl _) _)
  have HF0w1 : Hid (w1.heap[F]? = some (.cells #[.int .i64 B, .slice Ap ps.length cp, .int .i64 slots, .slice Ae vs.length ce] 28 (0, 0))) := (show Hid _ from by show _ = _; rw [ew1, eF]; exact heap_alloc_new w _)
  have HX : Hid (∀ W, Below w1.heap.size w1 W → W.cell? ⟨F, 0, none⟩ = some (.int .i64 B) ∧ W.cell? ⟨F, 1, none⟩ = some (.slice Ap ps.length cp) ∧ W.cell? ⟨F, 2, none⟩ = some (.int .i64 slots) ∧ W.cell? ⟨F, 3, none⟩ = some (.slice Ae vs.length ce)) := (show Hid _ from fun W hg => by
    have hF0 := (hg.block F (heap_of_cells HF0w1.out)).trans HF0w1.out
    exact ⟨cell_of_row W F 0 _ _ _ hF0, cell_of_row W F 1 _ _ _ hF0, cell_of_row W F 2 _ _ _ hF0, cell_of_row W F 3 _ _ _ hF0⟩)
  go_upto_region 1 with fail
  rw [HWw1.out, ← eF]
  clear ew1 eF
  have HPS1 := Lib.hid ((HPS.out.below HAw1.out).more HAw1.out.size)
  obtain ⟨x0, x1, x2, x3⟩ := HX.out w1 (Below.refl _ _)
  go_wp2_with fail
  (with_reducible refine (hcheck_raw B ps _ w1 HPS1.out).mono ?_)
  rintro e w2 ⟨rfl, hb2⟩
  rw [hcV_no HV'.out]
  have HBW : Hid (Below w.heap.size w w2) := (show Hid _ from HAw1.out.trans (hb2.mono HAw1.out.size))
  clear hb2 x0 x1 x2 x3
  go_wp2_with fail
  all_goals go_ret
  all_goals exact ⟨rfl, HBW.out⟩
end Go.Proofs.Ytllnomembakboaa

namespace Go.Proofs.Ytllnomembakboaa
open Go.RowKit Go.Maps

theorem run_lookup_BS {P : Program} {w : World} {t k e : TypeId} (ht : P.underlying t = some (.map k e)) (hk : P.underlying k = some .string) (he : P.underlying e = some .bool) (hz : (zeroValue e).run P w = .ok (.bool false) w) {b n : Nat} {S : List (List UInt8)}
    (h : BS P k e w b n S) (key : ByteArray) (hkey : key.size ≤ maxLen) : (Instr.lookup t (.map (some b)) (.string key) false).run P w = .ok (.bool (S.contains key.data.toList)) w := by
  obtain ⟨D, h1, h2, h3⟩ := h
  obtain ⟨v, ps, hrun, hv⟩ := h1.lookup (string_keyed hk) ht hz (plainElem_bool he false) (WideMaps.keyOf_string_mk hk hkey)
  obtain ⟨c, rfl, hc⟩ := plainElem_bool_inv he hv
  simp only [Prod.mk.injEq] at hc
  rw [h3] at hc
  have hc := hc.1
  injection hc with hc
  injection hc with hc
  rw [hrun, hc]
theorem has_any (l : List Int) (x : Int) (v : Value) (w : World) (h : SBD (fun k => k < w.heap.size) w v l) (hl : l.length ≤ 1000000) :
    Calls Try.prog 44 #[v, .int .i64 x] w fun e w' => e = .returned (.bool (l.contains x)) ∧ w' = w := by
  obtain ⟨A, c, rfl⟩ := h.form
  have HA := Lib.hid h
  clear h
  go_enter Try.func44, Try.ntmps44
  go_wp2_with fail
  go_loopw [9] (fun iv wr => ∃ k : Nat, k ≤ l.length ∧ iv = .int .i64 k ∧ (l.take k).contains x = false ∧ w = wr) (fun iv _ => l.length - (intOf iv).toNat)
  case atStart => exact ⟨0, Nat.zero_le _, rfl, by simp, rfl⟩
  case round =>
    obtain ⟨k, hk, rfl, hno, rfl⟩ := hrel
    have HNO := Lib.hid hno
    clear hno
    by_cases hkt : k < l.length
    · obtain ⟨p, o, rfl, hp, c0⟩ := HA.out.cellAt hkt
      have hst := List.take_succ_eq_append_getElem hkt
      obtain ⟨y, ey⟩ : ∃ y, y = l[k] := ⟨_, rfl⟩
      rw [← ey] at c0 hst
      have HST := Lib.hid hst
      have HY : Hid (y ∈ l) := (show Hid _ from by rw [ey]; exact List.getElem_mem hkt)
      have z0 : 0 ≤ (k : Int) := by omega
      have z1 : (k : Int) < (l.length : Int) := by omega
      have wk : IntKind.i64.wrap ((k : Int) + 1) = (k : Int) + 1 := by exact IntWalk.i64_in _ (by omega)
      clear ey hst
      by_cases hxy : y = x
      · subst hxy
        have hc : l.contains y = true := List.contains_iff_mem.2 HY.out
        have HC := Lib.hid hc
        clear hc
        go_wp2_with fail
        go_ret
        exact ⟨by rw [HC.out]; rfl, rfl⟩
      · have hne : (y == x) = false := by rw [beq_eq_false_iff_ne]; exact hxy
        have hn2 : (l.take (k + 1)).contains x = false := by
          rw [HST.out, ← Bool.not_eq_true, List.contains_iff_mem]
          intro h
          rcases List.mem_append.1 h with h | h
          · have h2 := HNO.out
            rw [← Bool.not_eq_true, List.contains_iff_mem] at h2
            exact h2 h
          · exact hxy (List.mem_singleton.1 h).symm
        have HN2 := Lib.hid hn2
        clear hn2
        go_wp2_with fail
        go_roundw
        case rel => exact ⟨k + 1, hkt, by go_num, HN2.out, by first | rfl | trivial⟩
        case measure => simp [intOf]; omega
    · have hke : k = l.length := by omega
      have hc : l.contains x = false := by have h := HNO.out; rw [hke, List.take_length] at h; exact h
      have HC := Lib.hid hc
      clear hc
      go_wp2_with fail
      go_ret
      exact ⟨by rw [HC.out]; rfl, rfl⟩
theorem sbd_own2 {w : World} {base : Nat} {v : Value} {l : List Int} (h : w.ownsRow base 3 1 v l.length (l.map (Value.int .i64))) : SBD (fun k => k < w.heap.size) w v l := by
  rcases h.2 with ⟨e, hn⟩ | ⟨g, cap, cur, e, hb, hg, hnc, hcm, hcs, ht⟩
  · have : l = [] := List.eq_nil_of_length_eq_zero hn
    rw [e, this]
    exact ⟨none, 0, rfl, Nat.le_refl _, by omega, fun h => by simp at h⟩
  · rw [e] at h ⊢
    exact ⟨_, cap, rfl, hnc, by unfold maxLen at hcm; omega, fun _ => ⟨g, 0, rfl, heap_of_cells hg, fun i hi => by rw [Nat.zero_add]; exact own_int h i hi⟩⟩
def D1 (M : Nat) (B : Nat) (ps : List (Int × Int)) (slots : Int) (bs : List (List (ByteArray × Int))) (w2 : World) (iv : Value) (wr : World) : Prop :=
  ∃ b : Nat, b ≤ bs.length ∧ iv = .int .i64 (b : Nat) ∧ BS Try.prog 9 4 wr M (posE bs b) (kys bs.flatten (posE bs b)) ∧ w2.grownBy wr (some M) ∧ ((bs.flatten.take (posE bs b)).map (·.1)).Nodup ∧
    (∀ c (h : c < bs.length), c < b → ((bs[c].length : Nat) : Int) ≤ slots ∧ ascB bs[c] = true ∧ ∀ e ∈ bs[c], (hms B ps (dg e.1)).contains (c : Int) = true) ∧ posE bs b ≤ 8 * b
def D2 (M : Nat) (B b : Nat) (ps : List (Int × Int)) (bs : List (List (ByteArray × Int))) (row : List (ByteArray × Int)) (w2 : World) (iv : Value) (wr : World) : Prop :=
  ∃ j : Nat, j ≤ row.length ∧ iv = .int .i64 (j : Nat) ∧ BS Try.prog 9 4 wr M (posE bs b + j) (kys bs.flatten (posE bs b + j)) ∧ w2.grownBy wr (some M) ∧ ((bs.flatten.take (posE bs b + j)).map (·.1)).Nodup ∧ (∀ e ∈ row.take j, (hms B ps (dg e.1)).contains (b : Int) = true) ∧ ascB (row.take j) = true
set_option maxRecDepth 100000 in
set_option maxHeartbeats 4000000 in
theorem rcheck_dir (B : Nat) (ps : List (Int × Int)) (slots : Int) (bs : List (List (ByteArray × Int))) (pv ev : Value) (w : World) (hv : HV B ps) (hp : SG pcs 2 w.heap.size w pv ps) (he : SLe w.heap.size w ev bs) (hk : ∀ l ∈ bs, ∀ e ∈ l, e.1.size ≤ 9223372036854775807) :
    Calls Try.prog 17 #[.agg #[.int .i64 B, pv, .int .i64 slots, ev]] w (ChR B ps slots bs w) := by
  obtain ⟨Ap, cp, rfl⟩ : ∃ A c, pv = .slice A ps.length c := by obtain ⟨A, c, e, _⟩ := hp; exact ⟨A, c, e⟩
  obtain ⟨vs, hvl, hsv, hrows⟩ := he
  obtain ⟨Ae, ce, rfl⟩ := hsv.form
  have hbl : bs.length ≤ 9223372036854775807 := by obtain ⟨_, _, _, h1, h2, _⟩ := hsv; omega
  have HSV := Lib.hid hsv
  have HROWS := Lib.hid hrows
  have HVL := Lib.hid hvl
  have HPS := Lib.hid hp
  have HV' := Lib.hid hv
  have HK := Lib.hid hk
  rw [hvl]
  clear hsv hrows hvl hp hv hk
  go_enter Try.func17, Try.ntmps17
  obtain ⟨F, eF⟩ : ∃ F, F = w.heap.size := ⟨_, rfl⟩
  obtain ⟨w1, ew1⟩ : ∃ w1 : World, w1 = w.alloc (.cells #[.int .i64 B, .slice Ap ps.length cp, .int .i64 slots, .slice Ae bs.length ce] 28) := ⟨_, rfl⟩
  have HWw1 : Hid (w.alloc (.cells #[.int .i64 B, .slice Ap ps.length cp, .int .i64 slots, .slice Ae bs.length ce] 28) = w1) := ew1.symm
  have HAw1 : Hid (Below w.heap.size w w1) := (show Hid _ from by rw [ew1]; exact (Below.refl _ w).alloc (Nat.le_refl _) _)
  have HF0w1 : Hid (w1.heap[F]? = some (.cells #[.int .i64 B, .slice Ap ps.length cp, .int .i64 slots, .slice Ae bs.length ce] 28 (0, 0))) := (show Hid _ from by show _ = _; rw [ew1, eF]; exact heap_alloc_new w _)
  have HX : Hid (∀ W, Below w1.heap.size w1 W → W.cell? ⟨F, 0, none⟩ = some (.int .i64 B) ∧ W.cell? ⟨F, 1, none⟩ = some (.slice Ap ps.length cp) ∧ W.cell? ⟨F, 2, none⟩ = some (.int .i64 slots) ∧ W.cell? ⟨F, 3, none⟩ = some (.slice Ae bs.length ce)) := (show Hid _ from fun W hg => by
    have hF0 := (hg.block F (heap_of_cells HF0w1.out)).trans HF0w1.out
    exact ⟨cell_of_row W F 0 _ _ _ hF0, cell_of_row W F 1 _ _ _ hF0, cell_of_row W F 2 _ _ _ hF0, cell_of_row W F 3 _ _ _ hF0⟩)
  have hFw : w.heap.size ≤ F := by omega
  go_upto_region 1 with fail
  rw [HWw1.out, ← eF]
  clear ew1 eF
  have HPS1 := Lib.hid ((HPS.out.below HAw1.out).more HAw1.out.size)
  obtain ⟨x0, x1, x2, x3⟩ := HX.out w1 (Below.refl _ _)
  go_wp2_with fail
  (with_reducible refine (rcheck_ok B ps _ w1 HV'.out HPS1.out).mono ?_)
  rintro e w2 ⟨rfl, hb2⟩
  have HX2 := Lib.hid hb2
  clear hb2 x0 x1 x2 x3
  obtain ⟨x0, x1, x2, x3⟩ := HX.out w2 HX2.out
  have HBW : Hid (Below w.heap.size w w2) := (show Hid _ from HAw1.out.trans (HX2.out.mono HAw1.out.size))
  by_cases hsl0 : 1 ≤ slots ∧ slots ≤ 8
  case neg =>
    have HN := Lib.hid hsl0
    by_cases h1 : slots < 1
    · go_wp2_with fail
      all_goals go_ret
      all_goals exact ⟨false, by rfl, ⟨fun h => by (cases h), fun h => (HN.out ⟨h.s1, h.s2⟩).elim⟩, HBW.out⟩
    · have h2 : 8 < slots := by omega
      have d1 : decide (slots < 1) = false := decide_eq_false h1
      go_wp2_with fail
      all_goals go_ret
      all_goals exact ⟨false, by rfl, ⟨fun h => by (cases h), fun h => (HN.out ⟨h.s1, h.s2⟩).elim⟩, HBW.out⟩
  · have ds1 : decide (slots < 1) = false := decide_eq_false (by omega)
    have ds2 : decide (8 < slots) = false := decide_eq_false (by omega)
    by_cases hlen : bs.length = B
    · subst hlen
      have HSL := Lib.hid hsl0
      have hmf : (Instr.makeMap 74 none).run Try.prog w2 = .ok (.map (some w2.heap.size)) (w2.alloc (.map #[] 0)) := run_makeMap _ w2
      obtain ⟨M, eM⟩ : ∃ M, M = w2.heap.size := ⟨_, rfl⟩
      obtain ⟨w3, ew3⟩ : ∃ w3 : World, w3 = w2.alloc (.map #[] 0) := ⟨_, rfl⟩
      have HBS3 : Hid (BS Try.prog 9 4 w3 M 0 []) := (show Hid _ from by rw [ew3, eM]; exact BS.made _ _ _ _)
      have HX3 : Hid (Below w1.heap.size w1 w3) := (show Hid _ from by rw [ew3]; exact HX2.out.alloc HX2.out.size _)
      have hMw : w1.heap.size ≤ M := by rw [eM]; exact HX2.out.size
      go_upto_region 4 with fail
      rw [← eM, ← ew3]
      clear hsl0 ds1 ds2 hmf ew3 eM x0 x1 x2 x3
      obtain ⟨x0, x1, x2, x3⟩ := HX.out w3 HX3.out
      go_wp2_with fail
      clear x0 x1 x2 x3
      go_loopw [37] (fun iv wr => D1 M bs.length ps slots bs w3 iv wr) (fun iv _ => bs.length - (intOf iv).toNat)
      case atStart => exact ⟨0, Nat.zero_le _, rfl, by simpa [posE, kys] using HBS3.out, grownBy_refl _ _, by simp [posE], fun c h hc => by omega, by simp [posE]⟩
      case round =>
        obtain ⟨b, hb, rfl, hbs, hgr, hnd, hgood, hpos8⟩ := hrel
        have HP8 := Lib.hid hpos8
        clear hpos8
        have HBS := Lib.hid hbs
        have HGR := Lib.hid hgr
        have HND := Lib.hid hnd
        have HGOOD := Lib.hid hgood
        have HXr : Hid (Below w1.heap.size w1 wr) := (show Hid _ from HX3.out.grown hgr HX3.out.size (fun k hk => by injection hk with hk; omega))
        have HBWr : Hid (Below w.heap.size w wr) := (show Hid _ from HAw1.out.trans (HXr.out.mono HAw1.out.size))
        have hz1 := HXr.out.size
        clear hbs hgr hnd hgood
        by_cases hbt : b < bs.length
        · obtain ⟨_, hat⟩ := HSV.out.at
          have hiv : b < vs.length := by rw [HVL.out]; exact hbt
          obtain ⟨p, o, rfl, hpl, hc⟩ := hat b hiv
          have c0 : wr.cell? ⟨p, o + b, none⟩ = some vs[b] := by simpa [one] using hc wr HBWr.out 0 (by omega)
          have hrow := HROWS.out b hiv hbt
          obtain ⟨Ar, cr, er⟩ := hrow.form
          obtain ⟨row, erow⟩ : ∃ r, r = bs[b] := ⟨_, rfl⟩
          rw [er, ← erow] at c0
          rw [er, ← erow] at hrow
          have HROW := Lib.hid hrow
          have HER := Lib.hid erow
          have hrl : row.length ≤ 9223372036854775807 := by obtain ⟨_, _, e, h1, h2, _⟩ := hrow; omega
          have HROWr : Hid (SV ecs 2 wr.heap.size wr (.slice Ar row.length cr) row) := (show Hid _ from (hrow.below HBWr.out).more HBWr.out.size)
          have HKR : Hid (∀ e ∈ row, e.1.size ≤ 9223372036854775807) := (show Hid _ from by rw [erow]; exact HK.out _ (List.getElem_mem hbt))
          have z0 : 0 ≤ (b : Int) := by omega
          have z1 : (b : Int) < (bs.length : Int) := by omega
          have wb : IntKind.i64.wrap ((b : Int) + 1) = (b : Int) + 1 := by exact IntWalk.i64_in _ (by omega)
          obtain ⟨x0, x1, x2, x3⟩ := HX.out wr HXr.out
          clear hat hc hrow er erow
          by_cases hrs : ((row.length : Nat) : Int) ≤ slots
          · have d1 : decide (slots < ((row.length : Nat) : Int)) = false := decide_eq_false (by omega)
            have d2 : ¬ (slots < ((row.length : Nat) : Int)) := by omega
            have HRS := Lib.hid hrs
            go_wp2_with fail
            clear c0 x0 x1 x2 x3 d1 d2
            go_loopw [49] (fun iv wq => D2 M bs.length b ps bs row w3 iv wq) (fun iv _ => row.length - (intOf iv).toNat)
            case atStart => exact ⟨0, Nat.zero_le _, rfl, HBS.out, HGR.out, HND.out, fun e he => by simp at he, rfl⟩
            case round =>
              obtain ⟨j, hj, rfl, hbs, hgr, hnd, hgood, hasc⟩ := hrel
              have HASJ := Lib.hid hasc
              have HBS2 := Lib.hid hbs
              have HGR2 := Lib.hid hgr
              have HND2 := Lib.hid hnd
              have HGOOD2 := Lib.hid hgood
              have HXq : Hid (Below w1.heap.size w1 wr) := (show Hid _ from HX3.out.grown hgr HX3.out.size (fun k hk => by injection hk with hk; omega))
              have HBWq : Hid (Below w.heap.size w wr) := (show Hid _ from HAw1.out.trans (HXq.out.mono HAw1.out.size))
              have hzq := HXq.out.size
              have hzq3 := hgr.size
              clear hbs hgr hnd hgood hasc
              by_cases hjt : j < row.length
              · obtain ⟨_, hat⟩ := HROW.out.at
                obtain ⟨p2, o2, rfl, hp2, hcell⟩ := hat j hjt
                have HPRE : Hid (0 < j → ∃ key2, (row[j - 1]'(by omega)).1 = key2 ∧ ∀ W, Below w.heap.size w W → W.cell? ⟨p2, o2 + (j - 1) * 2, none⟩ = some (.string key2)) := (show Hid _ from fun h0 => by
                  obtain ⟨b', off', e, _, hcell2⟩ := hat (j - 1) (by omega)
                  injection e with e
                  injection e with e1 e2
                  subst e1 e2
                  exact ⟨_, rfl, fun W hW => hcell2 W hW 0 (by omega)⟩)
                obtain ⟨key, ek⟩ : ∃ k, k = row[j].1 := ⟨_, rfl⟩
                obtain ⟨x, ex⟩ : ∃ x, x = row[j].2 := ⟨_, rfl⟩
                have c0 : wr.cell? ⟨p2, o2 + j * 2, none⟩ = some (.string key) := by rw [ek]; exact hcell wr HBWq.out 0 (by omega)
                have c1 : wr.cell? ⟨p2, o2 + j * 2 + 1, none⟩ = some (.int .i64 x) := by rw [ex]; exact hcell wr HBWq.out 1 (by omega)
                have hej : row[j] = (key, x) := by rw [ek, ex]
                have hks : key.size ≤ 9223372036854775807 := by rw [ek]; exact HKR.out _ (List.getElem_mem hjt)
                have hjb : j < bs[b].length := by rw [← HER.out]; exact hjt
                obtain ⟨hpo, hpe⟩ := posE_at hbt hjb
                have HEL : Hid (bs.flatten[posE bs b + j] = (key, x)) := (show Hid _ from by rw [hpe, ← hej]; exact (List.getElem_of_eq HER.out hjt).symm)
                have HEJ := Lib.hid hej
                obtain ⟨pos, epos⟩ : ∃ q, q = posE bs b + j := ⟨_, rfl⟩
                rw [← epos] at HBS2 HND2
                have HPOS := Lib.hid epos
                have hpo2 : pos < bs.flatten.length := by rw [epos]; exact hpo
                have HEL2 : Hid (bs.flatten[pos] = (key, x)) := (show Hid _ from by simp only [epos]; exact HEL.out)
                have hnm : pos < maxLen := by unfold maxLen; have h1 := HRS.out; have h2 := HSL.out; have h3 := HPOS.out; have h4 := HP8.out; have h5 := HV'.out.b2; omega
                have hkm : key.size ≤ maxLen := by unfold maxLen; omega
                have hpo3 : pos ≤ bs.flatten.length := by omega
                have y0 : 0 ≤ (j : Int) := by omega
                have y1 : (j : Int) < (row.length : Int) := by omega
                have wj : IntKind.i64.wrap ((j : Int) + 1) = (j : Int) + 1 := by exact IntWalk.i64_in _ (by omega)
                have hlp : (hms bs.length ps (dg key)).length ≤ 1000000 := by rw [hms_len]; have := HV'.out.l2; omega
                clear hat hcell ek ex hej hpo hpe epos HEL
                obtain ⟨X, eX⟩ : ∃ X, X = wr.heap.size := ⟨_, rfl⟩
                obtain ⟨wx, ewx⟩ : ∃ wx : World, wx = wr.alloc (.cells #[.string key, .int .i64 x] 41) := ⟨_, rfl⟩
                have HWwx : Hid (wr.alloc (.cells #[.string key, .int .i64 x] 41) = wx) := ewx.symm
                have HAwx : Hid (Below wr.heap.size wr wx) := (show Hid _ from by rw [ewx]; exact (Below.refl _ wr).alloc (Nat.le_refl _) _)
                have HX0wx : Hid (wx.heap[X]? = some (.cells #[.string key, .int .i64 x] 41 (0, 0))) := (show Hid _ from by show _ = _; rw [ewx, eX]; exact heap_alloc_new wr _)
                have HXX : Hid (∀ W, Below wx.heap.size wx W → W.cell? ⟨X, 0, none⟩ = some (.string key) ∧ W.cell? ⟨X, 1, none⟩ = some (.int .i64 x)) := (show Hid _ from fun W hg => by
                  have hX0 := (hg.block X (heap_of_cells HX0wx.out)).trans HX0wx.out
                  exact ⟨cell_of_row W X 0 _ _ _ hX0, cell_of_row W X 1 _ _ _ hX0⟩)
                have hXr : wr.heap.size ≤ X := by omega
                go_upto_region 12 with fail
                rw [HWwx.out, ← eX]
                clear ewx eX
                obtain ⟨k0, k1⟩ := HXX.out wx (Below.refl _ _)
                have HXx : Hid (Below w1.heap.size w1 wx) := (show Hid _ from HXq.out.trans (HAwx.out.mono hzq))
                have HBWx : Hid (Below w.heap.size w wx) := (show Hid _ from HAw1.out.trans (HXx.out.mono HAw1.out.size))
                have HBSx : Hid (BS Try.prog 9 4 wx M pos (kys bs.flatten pos)) := (show Hid _ from HBS2.out.kept (grownBy_of_below HAwx.out none) (by simp))
                have HGx : Hid (w3.grownBy wx (some M)) := (show Hid _ from grownBy_trans HGR2.out (grownBy_of_below HAwx.out _))
                clear c0 c1 k0 k1
                have q0 : ∀ p : BW wx, p.on.cell? ⟨X, 0, none⟩ = some (.string key) := fun p => (HXX.out p.on p.ok).1
                have q1 : ∀ p : BW wx, p.on.cell? ⟨X, 1, none⟩ = some (.int .i64 x) := fun p => (HXX.out p.on p.ok).2
                cases hv : ven (key, x)
                · have HVV := Lib.hid hv
                  have HVC : Hid (∀ W, Calls Try.prog 43 #[.agg #[.string key, .int .i64 x]] W fun e w' => e = .returned (.bool false) ∧ Below W.heap.size W w') := (show Hid _ from fun W => by have h := rvalid_any key x W hks; rwa [hv] at h)
                  clear hv
                  refine wp_region_bw (by kernel_rfl) (by kernel_rfl) ?_
                  repeat (go_big_quiet_step (first | (go_at_call 43; exact Calls.bw_of (HVC.out _))))
                  refine wpQuiet_nil ?_
                  intro _ hw'
                  obtain ⟨pq, rfl⟩ := hw'
                  obtain ⟨wy, HBwy, hpq⟩ : ∃ (x : World) (_ : Hid (Below wx.heap.size wx x)), pq.on = x := ⟨_, pq.h, rfl⟩
                  rw [hpq]
                  clear hpq pq
                  go_wp2_with fail
                  all_goals go_ret
                  all_goals exact ⟨false, by rfl, ⟨fun h => by (cases h), fun h => by have h1 := (h.row b hbt).2; rw [← HER.out, ascB_val hjt (by rw [HEJ.out]; exact HVV.out)] at h1; cases h1⟩, HBWx.out.trans (HBwy.out.mono HBWx.out.size)⟩
                have HVV := Lib.hid hv
                have HVC : Hid (∀ W, Calls Try.prog 43 #[.agg #[.string key, .int .i64 x]] W fun e w' => e = .returned (.bool true) ∧ Below W.heap.size W w') := (show Hid _ from fun W => by have h := rvalid_any key x W hks; rwa [hv] at h)
                have HKY : Hid (ky key = true) := (show Hid _ from by have h := hv; simp [ven] at h; exact h.1.1)
                clear hv
                obtain ⟨lk, elk⟩ : ∃ lk, lk = (kys bs.flatten pos).contains key.data.toList := ⟨_, rfl⟩
                have HLK := Lib.hid elk
                have ql : ∀ p : BW wx, (Instr.lookup 74 (.map (some M)) (.string key) false).run Try.prog p.on = .ok (.bool lk) p.on := fun p => by
                  rw [elk]
                  exact run_lookup_BS Try.underlying74 Try.underlying9 Try.underlying4 (zeroB _) (HBSx.out.kept (grownBy_of_below p.ok none) (by simp)) key hkm
                clear elk
                by_cases h0 : 0 < j
                · obtain ⟨key2, hpe, hpc⟩ := HPRE.out h0
                  have HPE : Hid ((row[j - 1]'(by omega)).1 = key2 ∧ row[j].1 = key) := (show Hid _ from ⟨hpe, by rw [HEJ.out]⟩)
                  have q2 : ∀ p : BW wx, p.on.cell? ⟨p2, o2 + (j - 1) * 2, none⟩ = some (.string key2) := fun p => hpc p.on (HBWx.out.trans (p.ok.mono HBWx.out.size))
                  have d0 : decide (0 < (j : Int)) = true := decide_eq_true (by omega)
                  have d0n : decide (0 < j) = true := decide_eq_true h0
                  have y3 : 0 ≤ (j : Int) - 1 := by omega
                  have y4 : (j : Int) - 1 < (row.length : Int) := by omega
                  have y5 : IntKind.i64.wrap ((j : Int) - 1) = (j : Int) - 1 := by exact IntWalk.i64_in _ (by omega)
                  have y6 : ((j : Int) - 1).toNat = j - 1 := by omega
                  clear hpe hpc
                  cases hkk : klt key2 key
                  · have HKK := Lib.hid hkk
                    cases hkl : klt key key2
                    · have heq : key = key2 := by
                        by_cases e : key = key2
                        · exact e
                        · rcases klt_total e with h1 | h1
                          · rw [hkl] at h1; cases h1
                          · rw [hkk] at h1; cases h1
                      have d1 : Op.bytesLess key.toList key2.toList = false := hkl
                      have d2 : (key.toList == key2.toList) = true := by rw [heq]; exact beq_self_eq_true _
                      clear hkk hkl heq
                      refine wp_region_bw (by kernel_rfl) (by kernel_rfl) ?_
                      repeat (go_big_quiet_step (first | (go_at_call 43; exact Calls.bw_of (HVC.out _))))
                      refine wpQuiet_nil ?_
                      intro _ hw'
                      obtain ⟨pq, rfl⟩ := hw'
                      obtain ⟨wy, HBwy, hpq⟩ : ∃ (x : World) (_ : Hid (Below wx.heap.size wx x)), pq.on = x := ⟨_, pq.h, rfl⟩
                      rw [hpq]
                      clear hpq pq
                      go_wp2_with fail
                      all_goals go_ret
                      all_goals exact ⟨false, by rfl, ⟨fun h => by (cases h), fun h => by have h1 := (h.row b hbt).2; rw [← HER.out, ascB_lt hjt h0 (by rw [HPE.out.1, HPE.out.2]; exact HKK.out)] at h1; cases h1⟩, HBWx.out.trans (HBwy.out.mono HBWx.out.size)⟩
                    · have d1 : Op.bytesLess key.toList key2.toList = true := hkl
                      clear hkk hkl
                      refine wp_region_bw (by kernel_rfl) (by kernel_rfl) ?_
                      repeat (go_big_quiet_step (first | (go_at_call 43; exact Calls.bw_of (HVC.out _))))
                      refine wpQuiet_nil ?_
                      intro _ hw'
                      obtain ⟨pq, rfl⟩ := hw'
                      obtain ⟨wy, HBwy, hpq⟩ : ∃ (x : World) (_ : Hid (Below wx.heap.size wx x)), pq.on = x := ⟨_, pq.h, rfl⟩
                      rw [hpq]
                      clear hpq pq
                      go_wp2_with fail
                      all_goals go_ret
                      all_goals exact ⟨false, by rfl, ⟨fun h => by (cases h), fun h => by have h1 := (h.row b hbt).2; rw [← HER.out, ascB_lt hjt h0 (by rw [HPE.out.1, HPE.out.2]; exact HKK.out)] at h1; cases h1⟩, HBWx.out.trans (HBwy.out.mono HBWx.out.size)⟩
                  · have HKK := Lib.hid hkk
                    have d1 : Op.bytesLess key.toList key2.toList = false := klt_asymm hkk
                    have d2 : (key.toList == key2.toList) = false := by
                      rw [beq_eq_false_iff_ne]
                      intro e
                      obtain rfl := tl_inj e
                      rw [klt_irrefl] at hkk
                      cases hkk
                    have HSTEP : Hid (ascB (row.take (j + 1)) = true) := (show Hid _ from ascB_step HASJ.out hjt (by rw [HEJ.out]; exact HVV.out) (fun _ => by rw [HPE.out.1, HPE.out.2]; exact HKK.out))
                    clear hkk
                    refine wp_region_bw (by kernel_rfl) (by kernel_rfl) ?_
                    repeat (go_big_quiet_step (first | (go_at_call 43; exact Calls.bw_of (HVC.out _))))
                    refine wpQuiet_nil ?_
                    intro _ hw'
                    obtain ⟨pq, rfl⟩ := hw'
                    obtain ⟨wy, HBwy, hpq⟩ : ∃ (x : World) (_ : Hid (Below wx.heap.size wx x)), pq.on = x := ⟨_, pq.h, rfl⟩
                    rw [hpq]
                    clear hpq pq
                    have HXy : Hid (Below w1.heap.size w1 wy) := (show Hid _ from HXx.out.trans (HBwy.out.mono HXx.out.size))
                    have HBWy : Hid (Below w.heap.size w wy) := (show Hid _ from HBWx.out.trans (HBwy.out.mono HBWx.out.size))
                    obtain ⟨k0, k1⟩ := HXX.out wy HBwy.out
                    obtain ⟨x0, x1, x2, x3⟩ := HX.out wy HXy.out
                    clear q0 q1 ql
                    cases lk
                    case' true =>
                      go_wp2_with fail
                      all_goals go_ret
                      all_goals exact ⟨false, by rfl, ⟨fun h => by (cases h), fun h => by
                        obtain ⟨j2, hj2, hji, e2⟩ := kys_has HLK.out.symm
                        exact (nd_not hpo2 hji (by rw [HEL2.out]; exact e2) h.nd).elim⟩, HBWy.out⟩
                    have HNE : Hid (∀ j (hj : j < pos), (bs.flatten[j]'(by omega)).1 ≠ bs.flatten[pos].1) := (show Hid _ from fun j hj => by rw [HEL2.out]; exact kys_not hpo3 HLK.out.symm j hj)
                    have HSGy : Hid (SG pcs 2 wy.heap.size wy (.slice Ap ps.length cp) ps) := (show Hid _ from (HPS.out.below HBWy.out).more HBWy.out.size)
                    go_wp2_with fail
                    (with_reducible refine (r20Homes_ok bs.length ps key _ wy HV'.out hks HSGy.out).mono ?_)
                    rintro e w8 ⟨h8, _⟩
                    obtain ⟨v8, rfl, ho8, hb8⟩ := h8 HKY.out
                    have HO8 := Lib.hid ho8
                    have HB8 := Lib.hid hb8
                    clear ho8 hb8 h8
                    go_wp2_with fail
                    (with_reducible refine (has_any (hms bs.length ps (dg key)) (b : Int) _ w8 (sbd_own2 HO8.out) hlp).mono ?_)
                    rintro e w9 ⟨rfl, hw9⟩
                    subst hw9
                    cases hcon : (hms bs.length ps (dg key)).contains (b : Int)
                    case' false =>
                      have HCON := Lib.hid hcon
                      go_wp2_with fail
                      all_goals go_ret
                      all_goals exact ⟨false, by rfl, ⟨fun h => by (cases h), fun h => by have h1 := h.home b hbt (key, x) (by rw [← HER.out, ← HEJ.out]; exact List.getElem_mem hjt); rw [HCON.out] at h1; cases h1⟩, HBWy.out.trans (HB8.out.mono HBWy.out.size)⟩
                    have HCON := Lib.hid hcon
                    clear hcon k0 k1 x0 x1 x2 x3
                    obtain ⟨k0, k1⟩ := HXX.out w9 (HBwy.out.trans (HB8.out.mono HBwy.out.size))
                    have HBS8 : Hid (BS Try.prog 9 4 w9 M pos (kys bs.flatten pos)) := (show Hid _ from (HBSx.out.kept (grownBy_of_below HBwy.out none) (by simp)).kept (grownBy_of_below HB8.out none) (by simp))
                    go_wp2_with (at_mapUpdate; refine wpList_update_BS _ rfl _ _ _ 74 rfl 9 4 Try.underlying74 Try.underlying9 Try.underlying4 M pos _ rfl (by exact HBS8.out) hnm key rfl hkm rfl ?_; intro w5 hb5 hg5; have HBS5 := Lib.hid hb5; have HG5 := Lib.hid hg5; clear hb5 hg5)
                    go_roundw
                    case rel => exact ⟨j + 1, hjt, by go_num, by rw [← Nat.add_assoc, ← HPOS.out, kys_succ hpo2, HEL2.out]; exact HBS5.out, grownBy_trans (grownBy_trans (grownBy_trans HGx.out (grownBy_of_below HBwy.out _)) (grownBy_of_below HB8.out _)) HG5.out, by rw [← Nat.add_assoc, ← HPOS.out]; exact nd_step hpo2 HND2.out HNE.out, by
                      intro e he
                      rw [List.take_succ_eq_append_getElem hjt, List.mem_append, List.mem_singleton] at he
                      rcases he with he | he
                      · exact HGOOD2.out e he
                      · rw [he, HEJ.out]; exact HCON.out, HSTEP.out⟩
                    case measure => simp [intOf]; omega
                · have d0 : decide (0 < (j : Int)) = false := decide_eq_false (by omega)
                  have d0n : decide (0 < j) = false := decide_eq_false h0
                  have HSTEP : Hid (ascB (row.take (j + 1)) = true) := (show Hid _ from ascB_step HASJ.out hjt (by rw [HEJ.out]; exact HVV.out) (fun h => absurd h h0))
                  refine wp_region_bw (by kernel_rfl) (by kernel_rfl) ?_
                  repeat (go_big_quiet_step (first | (go_at_call 43; exact Calls.bw_of (HVC.out _))))
                  refine wpQuiet_nil ?_
                  intro _ hw'
                  obtain ⟨pq, rfl⟩ := hw'
                  obtain ⟨wy, HBwy, hpq⟩ : ∃ (x : World) (_ : Hid (Below wx.heap.size wx x)), pq.on = x := ⟨_, pq.h, rfl⟩
                  rw [hpq]
                  clear hpq pq
                  have HXy : Hid (Below w1.heap.size w1 wy) := (show Hid _ from HXx.out.trans (HBwy.out.mono HXx.out.size))
                  have HBWy : Hid (Below w.heap.size w wy) := (show Hid _ from HBWx.out.trans (HBwy.out.mono HBWx.out.size))
                  obtain ⟨k0, k1⟩ := HXX.out wy HBwy.out
                  obtain ⟨x0, x1, x2, x3⟩ := HX.out wy HXy.out
                  clear q0 q1 ql
                  cases lk
                  case' true =>
                    go_wp2_with fail
                    all_goals go_ret
                    all_goals exact ⟨false, by rfl, ⟨fun h => by (cases h), fun h => by
                      obtain ⟨j2, hj2, hji, e2⟩ := kys_has HLK.out.symm
                      exact (nd_not hpo2 hji (by rw [HEL2.out]; exact e2) h.nd).elim⟩, HBWy.out⟩
                  have HNE : Hid (∀ j (hj : j < pos), (bs.flatten[j]'(by omega)).1 ≠ bs.flatten[pos].1) := (show Hid _ from fun j hj => by rw [HEL2.out]; exact kys_not hpo3 HLK.out.symm j hj)
                  have HSGy : Hid (SG pcs 2 wy.heap.size wy (.slice Ap ps.length cp) ps) := (show Hid _ from (HPS.out.below HBWy.out).more HBWy.out.size)
                  go_wp2_with fail
                  (with_reducible refine (r20Homes_ok bs.length ps key _ wy HV'.out hks HSGy.out).mono ?_)
                  rintro e w8 ⟨h8, _⟩
                  obtain ⟨v8, rfl, ho8, hb8⟩ := h8 HKY.out
                  have HO8 := Lib.hid ho8
                  have HB8 := Lib.hid hb8
                  clear ho8 hb8 h8
                  go_wp2_with fail
                  (with_reducible refine (has_any (hms bs.length ps (dg key)) (b : Int) _ w8 (sbd_own2 HO8.out) hlp).mono ?_)
                  rintro e w9 ⟨rfl, hw9⟩
                  subst hw9
                  cases hcon : (hms bs.length ps (dg key)).contains (b : Int)
                  case' false =>
                    have HCON := Lib.hid hcon
                    go_wp2_with fail
                    all_goals go_ret
                    all_goals exact ⟨false, by rfl, ⟨fun h => by (cases h), fun h => by have h1 := h.home b hbt (key, x) (by rw [← HER.out, ← HEJ.out]; exact List.getElem_mem hjt); rw [HCON.out] at h1; cases h1⟩, HBWy.out.trans (HB8.out.mono HBWy.out.size)⟩
                  have HCON := Lib.hid hcon
                  clear hcon k0 k1 x0 x1 x2 x3
                  obtain ⟨k0, k1⟩ := HXX.out w9 (HBwy.out.trans (HB8.out.mono HBwy.out.size))
                  have HBS8 : Hid (BS Try.prog 9 4 w9 M pos (kys bs.flatten pos)) := (show Hid _ from (HBSx.out.kept (grownBy_of_below HBwy.out none) (by simp)).kept (grownBy_of_below HB8.out none) (by simp))
                  go_wp2_with (at_mapUpdate; refine wpList_update_BS _ rfl _ _ _ 74 rfl 9 4 Try.underlying74 Try.underlying9 Try.underlying4 M pos _ rfl (by exact HBS8.out) hnm key rfl hkm rfl ?_; intro w5 hb5 hg5; have HBS5 := Lib.hid hb5; have HG5 := Lib.hid hg5; clear hb5 hg5)
                  go_roundw
                  case rel => exact ⟨j + 1, hjt, by go_num, by rw [← Nat.add_assoc, ← HPOS.out, kys_succ hpo2, HEL2.out]; exact HBS5.out, grownBy_trans (grownBy_trans (grownBy_trans HGx.out (grownBy_of_below HBwy.out _)) (grownBy_of_below HB8.out _)) HG5.out, by rw [← Nat.add_assoc, ← HPOS.out]; exact nd_step hpo2 HND2.out HNE.out, by
                    intro e he
                    rw [List.take_succ_eq_append_getElem hjt, List.mem_append, List.mem_singleton] at he
                    rcases he with he | he
                    · exact HGOOD2.out e he
                    · rw [he, HEJ.out]; exact HCON.out, HSTEP.out⟩
                  case measure => simp [intOf]; omega
              · have hje : j = row.length := by omega
                have HPO : Hid (posE bs (b + 1) = posE bs b + j) := (show Hid _ from by rw [posE_succ hbt, hje, HER.out]; exact rfl)
                have HASC : Hid (ascB row = true) := (show Hid _ from by have h := HASJ.out; rw [hje, List.take_length] at h; exact h)
                have HG3 : Hid (∀ c (h : c < bs.length), c < b + 1 → ((bs[c].length : Nat) : Int) ≤ slots ∧ ascB bs[c] = true ∧ ∀ e ∈ bs[c], (hms bs.length ps (dg e.1)).contains (c : Int) = true) := (show Hid _ from fun c h hc => by
                  rcases Nat.lt_or_ge c b with h1 | h1
                  · exact HGOOD.out c h h1
                  · have : c = b := by omega
                    subst this
                    rw [← HER.out]
                    refine ⟨HRS.out, HASC.out, ?_⟩
                    have h2 := HGOOD2.out
                    rw [hje, List.take_length] at h2
                    exact h2)
                clear hje
                go_wp2_with fail
                go_roundw
                case rel => exact ⟨b + 1, hbt, by go_num, by rw [HPO.out]; exact HBS2.out, HGR2.out, by rw [HPO.out]; exact HND2.out, HG3.out, by rw [posE_succ hbt, ← HER.out]; have h1 := HRS.out; have h2 := HSL.out; have h3 := HP8.out; omega⟩
                case measure => simp [intOf]; omega
          · have d1 : decide (slots < ((row.length : Nat) : Int)) = true := decide_eq_true (by omega)
            have d2 : slots < ((row.length : Nat) : Int) := by omega
            have HRS := Lib.hid hrs
            go_wp2_with fail
            all_goals go_ret
            all_goals exact ⟨false, by rfl, ⟨fun h => by (cases h), fun h => by have h1 := (h.row b hbt).1; rw [← HER.out] at h1; have h2 := HRS.out; omega⟩, HBWr.out⟩
        · have hbe : b = bs.length := by omega
          have HOK : Hid (DirOK bs.length ps slots bs) := (show Hid _ from ⟨HSL.out.1, HSL.out.2, rfl, fun c h => ⟨(HGOOD.out c h (by omega)).1, (HGOOD.out c h (by omega)).2.1⟩, fun c h => (HGOOD.out c h (by omega)).2.2, by have h := HND.out; rw [hbe, posE_all, List.take_length] at h; exact h⟩)
          go_wp2_with fail
          all_goals go_ret
          all_goals exact ⟨true, by rfl, ⟨fun _ => HOK.out, fun _ => rfl⟩, HBWr.out⟩
    · have hne : ¬ ((bs.length : Int) = (B : Int)) := by omega
      have HNE := Lib.hid hlen
      go_wp2_with fail
      all_goals go_ret
      all_goals exact ⟨false, by rfl, ⟨fun h => by (cases h), fun h => (HNE.out h.len).elim⟩, HBW.out⟩
set_option maxHeartbeats 2000000 in
theorem rcheck_bad (B : Int) (ps : List (Int × Int)) (slots : Int) (bs : List (List (ByteArray × Int))) (pv ev : Value) (w : World) (hv : ¬ HV B ps) (hp : SG pcs 2 w.heap.size w pv ps) (he : SLe w.heap.size w ev bs) :
    Calls Try.prog 17 #[.agg #[.int .i64 B, pv, .int .i64 slots, ev]] w fun e w' => e = .returned (.int .i64 2) ∧ Below w.heap.size w w' := by
  obtain ⟨Ap, cp, rfl⟩ : ∃ A c, pv = .slice A ps.length c := by obtain ⟨A, c, e, _⟩ := hp; exact ⟨A, c, e⟩
  obtain ⟨vs, hvl, hsv, hrows⟩ := he
  obtain ⟨Ae, ce, rfl⟩ := hsv.form
  have HPS := Lib.hid hp
  have HV' := Lib.hid hv
  clear hsv hrows hp hv hvl
  go_enter Try.func17, Try.ntmps17
  obtain ⟨F, eF⟩ : ∃ F, F = w.heap.size := ⟨_, rfl⟩
  obtain ⟨w1, ew1⟩ : ∃ w1 : World, w1 = w.alloc (.cells #[.int .i64 B, .slice Ap ps.length cp, .int .i64 slots, .slice Ae vs.length ce] 28) := ⟨_, rfl⟩
  have HWw1 : Hid (w.alloc (.cells #[.int .i64 B, .slice Ap ps.length cp, .int .i64 slots, .slice Ae vs.length ce] 28) = w1) := ew1.symm
  have HAw1 : Hid (Below w.heap.size w w1) := (show Hid _ from by rw [ew1]; exact (Below.refl _ w).alloc (Nat.le_refl _) _)
  have HF0w1 : Hid (w1.heap[F]? = some (.cells #[.int .i64 B, .slice Ap ps.length cp, .int .i64 slots, .slice Ae vs.length ce] 28 (0, 0))) := (show Hid _ from by show _ = _; rw [ew1, eF]; exact heap_alloc_new w _)
  have HX : Hid (∀ W, Below w1.heap.size w1 W → W.cell? ⟨F, 0, none⟩ = some (.int .i64 B) ∧ W.cell? ⟨F, 1, none⟩ = some (.slice Ap ps.length cp) ∧ W.cell? ⟨F, 2, none⟩ = some (.int .i64 slots) ∧ W.cell? ⟨F, 3, none⟩ = some (.slice Ae vs.length ce)) := (show Hid _ from fun W hg => by
    have hF0 := (hg.block F (heap_of_cells HF0w1.out)).trans HF0w1.out
    exact ⟨cell_of_row W F 0 _ _ _ hF0, cell_of_row W F 1 _ _ _ hF0, cell_of_row W F 2 _ _ _ hF0, cell_of_row W F 3 _ _ _ hF0⟩)
  go_upto_region 1 with fail
  rw [HWw1.out, ← eF]
  clear ew1 eF
  have HPS1 := Lib.hid ((HPS.out.below HAw1.out).more HAw1.out.size)
  obtain ⟨x0, x1, x2, x3⟩ := HX.out w1 (Below.refl _ _)
  go_wp2_with fail
  (with_reducible refine (rcheck_raw B ps _ w1 HPS1.out).mono ?_)
  rintro e w2 ⟨rfl, hb2⟩
  rw [hcV_no HV'.out]
  have HBW : Hid (Below w.heap.size w w2) := (show Hid _ from HAw1.out.trans (hb2.mono HAw1.out.size))
  clear hb2 x0 x1 x2 x3
  go_wp2_with fail
  all_goals go_ret
  all_goals exact ⟨rfl, HBW.out⟩
end Go.Proofs.Ytllnomembakboaa
