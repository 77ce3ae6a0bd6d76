/- Joined: Ln. -/
import Derived.Test.YtbgabipngdillaaZ16
namespace Go.Proofs.Ytbgabipngdillaa
open Go.RowKit Go.Shelf

def sl0 : List (Int × Bool) := [(1, true), (2, true), (4, true)]
theorem asc_of {rs : List (List Int)} (h : ∀ i j : Fin rs.length, i < j → cmpV rs[i] rs[j] < 0) : Asc rs := by
  refine List.pairwise_iff_getElem.2 fun i j hi hj hij => ?_
  exact (cmpV_lt _ _).1 (h ⟨i, hi⟩ ⟨j, hj⟩ hij)
theorem sane_len {rs : List (List Int)} (ha : Asc rs) (hm : ∀ p, p ∈ rs ↔ True ∧ p ∈ [[0, 1], [3, 5], [5, 2]]) : rs.length = 3 := by
  have h := Asc.ext ha (b := [[0, 1], [3, 5], [5, 2]]) (asc_of (by decide +kernel)) (fun p => (hm p).trans ⟨fun h => h.2, fun h => ⟨trivial, h⟩⟩)
  rw [h]; rfl
set_option maxRecDepth 100000 in
set_option maxHeartbeats 4000000 in
theorem lsane_any (w : World) : Calls Try.prog 8 #[] w fun e w' => e = .returned (.bool true) ∧ Below w.heap.size w w' := by
  have d1 : Hid (deE 7 sl0 2 2 = 0) := by show _ = _; decide +kernel
  have d2 : Hid (runS 7 sl0 2 2 = ([[0, 1], [3, 5], [5, 2]], 2)) := by show _ = _; decide +kernel
  have d3 : Hid (neE 7 sl0 2 = 0) := by show _ = _; decide +kernel
  have d4 : Hid (neM 7 sl0 2 = 2) := by show _ = _; decide +kernel
  have d5 : Hid (runS 7 sl0 2 4 = ([], 2)) := by show _ = _; decide +kernel
  have d6 : Hid (cmpV [0, 1] [1] < 0) := by show _ < _; decide +kernel
  go_enter Try.func8, Try.ntmps8
  go_upto_region 3 with fail
  obtain ⟨wA, ew⟩ : ∃ wA : World, wA = (w.alloc (.cells #[.int .i64 7] 26)).alloc (.cells #[.int .i64 1, .bool true, .int .i64 2, .bool true, .int .i64 4, .bool true] 33) := ⟨_, rfl⟩
  have hBA : Below w.heap.size w wA := by rw [ew]; exact ((Below.refl _ w).alloc (Nat.le_refl _) _).alloc (by simp) _
  have hzA : wA.heap.size = w.heap.size + 2 := by rw [ew]; simp
  have c0 : wA.cell? ⟨w.heap.size, 0, none⟩ = some (.int .i64 7) := by rw [ew]; simp [go_sem]
  have hSA : SCl wA (.slice (some ⟨w.heap.size + 1, 0, none⟩) 3 3) sl0 := by
    refine ⟨_, 3, rfl, by simp [sl0], by omega, by simp [sl0, i64r], fun _ => ⟨w.heap.size + 1, 0, rfl, by omega, fun j hj => ?_⟩⟩
    have hj3 : j < 3 := by simpa [sl0] using hj
    rw [ew]
    rcases (by omega : j = 0 ∨ j = 1 ∨ j = 2) with rfl | rfl | rfl
    · exact ⟨by simp [go_sem, sl0], by simp [go_sem, sl0]⟩
    · exact ⟨by simp [go_sem, sl0], by simp [go_sem, sl0]⟩
    · exact ⟨by simp [go_sem, sl0], by simp [go_sem, sl0]⟩
  have HSA := Lib.hid hSA
  have HBA := Lib.hid hBA
  rw [← ew]
  clear ew hSA hBA
  go_wp2_with fail
  (with_reducible refine (decode_any 7 sl0 2 2 _ _ (by unfold i64r; omega) HSA.out (by simp [sl0]) (fun _ => by rw [show (2 : Int).toNat = 2 from rfl, d2.out]; simp)).mono ?_)
  rintro e w1 ⟨v1, rs1, rfl, hr1, ha1, hm1, hb1⟩
  have hl1 : rs1.length = 3 := sane_len ha1 fun p => (hm1 p).trans (by rw [d1.out, show (2 : Int).toNat = 2 from rfl, d2.out]; exact ⟨fun h => ⟨trivial, h.2⟩, fun h => ⟨rfl, h.2⟩⟩)
  obtain ⟨A1, k1, rfl⟩ := hr1.form
  rw [d1.out, hl1]
  have HS1 := Lib.hid (HSA.out.below hb1)
  have c1 := (hb1.cell (p := ⟨w.heap.size, 0, none⟩) (by show w.heap.size < _; omega)).trans c0
  have HB1 : Hid (Below w.heap.size w w1) := HBA.out.trans (hb1.mono (by omega))
  have hz1 := hb1.size
  clear c0 hr1 ha1 hm1 hl1 hb1
  go_wp2_with fail
  (with_reducible refine (nearest_any 7 sl0 2 _ _ (by unfold i64r; omega) HS1.out (by simp [sl0]) (fun _ => ⟨by rw [show (2 : Int).toNat = 2 from rfl, show ((sl0.length : Int) + 1) = 4 from rfl, d5.out]; simp, by rw [d4.out, show (2 : Int).toNat = 2 from rfl, d2.out]; simp⟩)).mono ?_)
  rintro e w2 ⟨v2, rs2, rfl, hr2, ha2, hm2, hb2⟩
  have hl2 : rs2.length = 3 := sane_len ha2 fun p => (hm2 p).trans (by rw [d3.out, d4.out, show (2 : Int).toNat = 2 from rfl, d2.out]; exact ⟨fun h => ⟨trivial, h.2⟩, fun h => ⟨rfl, h.2⟩⟩)
  obtain ⟨A2, k2, rfl⟩ := hr2.form
  rw [d3.out, d4.out, hl2]
  have HB2 : Hid (Below w.heap.size w w2) := HB1.out.trans (hb2.mono (by omega))
  have hz2 := hb2.size
  clear hr2 ha2 hm2 hl2 hb2
  have H01 : Hid (∀ W : World, SI ((W.alloc (.cells #[.int .i64 0, .int .i64 1] 3)).alloc (.cells #[.int .i64 1] 3)) (.slice (some ⟨W.heap.size, 0, none⟩) 2 2) [0, 1] ∧ SI ((W.alloc (.cells #[.int .i64 0, .int .i64 1] 3)).alloc (.cells #[.int .i64 1] 3)) (.slice (some ⟨W.heap.size + 1, 0, none⟩) 1 1) [1]) := by
    intro W
    have h1 := SI.of_own (l := [0, 1]) (by simpa using own_lit (base := 0) W 3 ([0, 1].map (Value.int .i64)) (Nat.zero_le _) (by simp [maxLen])) (by simp [i64r])
    have h2 := SI.of_own (l := [1]) (by simpa using own_lit (base := 0) (W.alloc (.cells #[.int .i64 0, .int .i64 1] 3)) 3 ([1].map (Value.int .i64)) (Nat.zero_le _) (by simp [maxLen])) (by simp [i64r])
    refine ⟨SI.below h1 ((Below.refl _ _).alloc (Nat.le_refl _) _), by simpa using h2⟩
  have d7 : decide (cmpV [0, 1] [1] < 0) = true := decide_eq_true d6.out
  go_wp2_with fail
  (with_reducible refine (less_any [0, 1] [1] _ _ _ (H01.out _).1 (H01.out _).2 (by simp) (by simp)).mono ?_)
  rintro e w3 ⟨rfl, rfl⟩
  go_wp2_with fail
  go_ret
  exact ⟨rfl, (HB2.out.alloc (by have := HB2.out.size; omega) _).alloc (by have := HB2.out.size; simp; omega) _⟩
end Go.Proofs.Ytbgabipngdillaa
