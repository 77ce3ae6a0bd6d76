/- The sanity check of the statements about roots and paths; Same of privatefetchref12. -/
import Derived.Test.YtmglcjdigpgjlaaMerC
import Derived.Test.YtmglcjdigpgjlaaMerQ
namespace Go.Proofs.Ytmglcjdigpgjlaa
open Go.RowKit

theorem SI_lits (w : World) (l : List Int) (b : Nat) (hb : b = w.heap.size) (hm : l.length ≤ 100) (hr : ∀ x ∈ l, i64r x) : SI (w.alloc (.cells (l.map (Value.int .i64)).toArray 3)) (.slice (some ⟨b, 0, none⟩) l.length l.length) l := by
  subst hb
  have h := own_lit (base := 0) w 3 (l.map (Value.int .i64)) (Nat.zero_le _) (by simp; unfold maxLen; omega)
  exact SI.of_own (by simpa using h) hr
theorem r5 : rtE [5] = 5 ∧ lsE [5] = 0 := by decide
theorem r007 : rtE [0, 0, 7] = node 3 7 ∧ lsE [0, 0, 7] = 0 := by decide
theorem f007 : fdE [0, 0, 7] 2 = 0 ∧ fdP [0, 0, 7] 2 = [3] := by decide
theorem c007 : ckE 3 2 [3] 7 (node 3 7) = 0 := by decide

set_option maxHeartbeats 1000000 in
theorem rsane_any (w : World) : Calls Try.prog 26 #[] w fun e w' => e = .returned (.bool true) ∧ Below w.heap.size w w' := by
  have hI5 : ∀ W : World, SI (W.alloc (.cells #[.int .i64 5] 3)) (.slice (some ⟨W.heap.size, 0, none⟩) 1 1) [5] := fun W => SI_lits W [5] _ rfl (by simp) (by unfold i64r; simp)
  have hI7 : ∀ W : World, SI (W.alloc (.cells #[.int .i64 0, .int .i64 0, .int .i64 7] 3)) (.slice (some ⟨W.heap.size, 0, none⟩) 3 3) [0, 0, 7] := fun W => SI_lits W [0, 0, 7] _ rfl (by simp) (by unfold i64r; simp)
  have hf : ∀ v, fdV [0, 0, 7] 2 v = .tuple #[.agg #[.int .i64 2, .int .i64 3, v], .int .i64 0] := fun v => by unfold fdV; rw [f007.1]; rfl
  have H5 := Lib.hid hI5
  have H7 := Lib.hid hI7
  have HF := Lib.hid hf
  clear hI5 hI7 hf
  go_enter Try.func26, Try.ntmps26
  go_wp2_with fail
  (with_reducible refine (proot_any [5] _ _ (H5.out _)).mono ?_); rintro e w1 ⟨rfl, hb1⟩
  rw [r5.1, r5.2]
  have hW1 : Below w.heap.size w w1 := ((Below.refl _ _).alloc (Nat.le_refl _) _).trans (hb1.mono (by simp))
  go_wp2_with fail
  (with_reducible refine (proot_any [0, 0, 7] _ _ (H7.out _)).mono ?_); rintro e w2 ⟨rfl, hb2⟩
  rw [r007.1, r007.2]
  have hW2 : Below w.heap.size w w2 := (hW1.alloc hW1.size _).trans (hb2.mono (by have := hW1.size; simp; omega))
  go_wp2_with fail
  (with_reducible refine (pfind_any [0, 0, 7] _ 2 _ (H7.out _) (by unfold i64r; omega)).mono ?_); rintro e w3 ⟨v3, rfl, hS3, hb3⟩
  rw [HF.out]
  rw [f007.2] at hS3
  have hW3 : Below w.heap.size w w3 := (hW2.alloc hW2.size _).trans (hb3.mono (by have := hW2.size; simp; omega))
  obtain ⟨A3, c3, rfl, hcc3, hcm3, _, _⟩ := id hS3
  have hS3' : SI w3 (.slice A3 1 c3) [3] := hS3
  have HS3 := Lib.hid hS3'
  clear hS3 hS3'
  go_wp2_with fail
  (with_reducible refine (rnode_any 3 7 _).mono ?_); rintro e w' ⟨rfl, rfl⟩
  have hbA : Below w3.heap.size w3 (w3.alloc (.cells #[.int .i64 2, .int .i64 3, .slice A3 1 c3] 46)) := (Below.refl _ _).alloc (Nat.le_refl _) _
  have hSA := SI.below HS3.out hbA
  have HSA := Lib.hid hSA
  clear hSA
  go_wp2_with fail
  (with_reducible refine (pckp_any 3 2 7 (node 3 7) [3] _ _ (by unfold i64r; omega) (by unfold i64r; omega) (by unfold i64r; omega) (by exact HSA.out) (by simp)).mono ?_); rintro e w4 ⟨rfl, hb4⟩
  rw [c007]
  go_wp2_with fail
  go_ret
  exact ⟨rfl, (hW3.alloc hW3.size _).trans (hb4.mono (by have := hW3.size; simp; omega))⟩
end Go.Proofs.Ytmglcjdigpgjlaa
