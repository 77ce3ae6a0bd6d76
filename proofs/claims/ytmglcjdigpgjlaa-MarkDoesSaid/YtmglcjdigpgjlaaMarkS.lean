/- The sanity check of the statements about marks. -/
import Derived.Test.YtmglcjdigpgjlaaMarkV
namespace Go.Proofs.Ytmglcjdigpgjlaa
open Go.RowKit Go.Maps

theorem SP_lit (w : World) (l : List (Int × Int)) (hm : l.length ≤ 100) (hr : ∀ x ∈ l, ∀ y ∈ pcs x, i64r y) :
    SP (w.heap.size + 1) (w.alloc (.cells ((l.flatMap pcs).map (Value.int .i64)).toArray 31)) (.slice (some ⟨w.heap.size, 0, none⟩) l.length l.length) l := by
  have hl : (l.flatMap pcs).length = l.length * 2 := by
    clear hm hr
    induction l with
    | nil => rfl
    | cons x l ih => simp only [List.flatMap_cons, List.length_append, ih, List.length_cons, pcs, List.length_nil]; omega
  have h := World.ownsRow_lit (base := 0) (e := 31) (size := 2) w ((l.flatMap pcs).map (Value.int .i64)).toArray l.length (Nat.zero_le _) (by unfold maxLen; omega) (by simpa using hl)
  have := SG.of_own (by simpa using h) hr (fun x _ => rfl)
  exact this.more (by simp)

theorem rowd_1 : rowd [1] = 2000008 := by decide
theorem sgn_1 : sgn 1 [] = 2000008 := by decide
theorem sgnE_1 : sgnE 1 [] = 0 := by decide
theorem chk_1 : chk [(4, 1)] = 0 := by decide
theorem vfy_1 : vfy [(4, 1)] 4 [] 2000008 = true := by decide
theorem vfy_2 : vfy [(4, 1)] 4 [] 2000009 = false := by decide
theorem vfy_3 : vfy [(4, 1)] 5 [] 2000008 = false := by decide

theorem SI_nil (w : World) : SI w (.slice none 0 0) [] := ⟨none, 0, rfl, Nat.le_refl _, by omega, by simp, fun h => by simp at h⟩
theorem SI_lit (w : World) (l : List Int) (hm : l.length ≤ 100) (hr : ∀ x ∈ l, i64r x) : SI (w.alloc (.cells (l.map (Value.int .i64)).toArray 3)) (.slice (some ⟨w.heap.size, 0, none⟩) l.length l.length) l := by
  have h := own_lit (base := 0) w 3 (l.map (Value.int .i64)) (Nat.zero_le _) (by simp; unfold maxLen; omega)
  exact SI.of_own (by simpa using h) hr

theorem SI_lit1 (w : World) (x : Int) (b : Nat) (hb : b = w.heap.size) (hx : i64r x) : SI (w.alloc (.cells #[.int .i64 x] 3)) (.slice (some ⟨b, 0, none⟩) 1 1) [x] := by
  subst hb
  exact SI_lit w [x] (by simp) (by intro y hy; simp at hy; subst hy; exact hx)
set_option maxHeartbeats 1000000 in
theorem msane_any (w : World) : Calls Try.prog 12 #[] w fun e w' => e = .returned (.bool true) ∧ Below w.heap.size w w' := by
  go_enter Try.func12, Try.ntmps12
  go_wp2_with fail
  (with_reducible refine (msign_any 1 [] _ _ (SI_nil _) (by unfold i64r; omega)).mono ?_); rintro e w1 ⟨rfl, hb1⟩
  rw [sgn_1, sgnE_1]
  have hz1 := hb1.size
  go_wp2_with fail
  (with_reducible refine (rrow_any [1] _ _ (SI_lit1 _ 1 _ (by simp) (by unfold i64r; omega))).mono ?_); rintro e w2 ⟨rfl, rfl⟩
  rw [rowd_1]
  have hP : SP (w1.heap.size + 1) (w1.alloc (.cells #[.int .i64 4, .int .i64 1] 31)) (.slice (some ⟨w1.heap.size, 0, none⟩) 1 1) [(4, 1)] := SP_lit w1 [(4, 1)] (by simp) (by unfold i64r; simp [pcs])
  have hW2 : Below w.heap.size w ((w1.alloc (.cells #[.int .i64 4, .int .i64 1] 31)).alloc (.cells #[.int .i64 1] 3)) := (hb1.alloc hz1 _).alloc (by simp; omega) _
  go_wp2_with fail
  have hP2 := (hP.below ((Below.refl _ _).alloc (by simp) (.cells #[.int .i64 1] 3)))
  (with_reducible refine (mcheck_any [(4, 1)] _ _ (hP2.more (by simp))).mono ?_); rintro e w3 ⟨rfl, hb3⟩
  rw [chk_1]
  have hz3 := hb3.size
  simp at hz3
  have hP3 := hP2.below (hb3.mono (by simp))
  have hW3 := hW2.trans (hb3.mono hW2.size)
  go_wp2_with fail
  (with_reducible refine (mverify_any [(4, 1)] _ 4 [] _ 2000008 _ (hP3.more (by omega)) (SI_nil _)).mono ?_); rintro e w4 ⟨rfl, hb4⟩
  rw [vfy_1]
  have hz4 := hb4.size
  have hP4 := hP3.below (hb4.mono (by omega))
  have hW4 := hW3.trans (hb4.mono hW3.size)
  go_wp2_with fail
  (with_reducible refine (mverify_any [(4, 1)] _ 4 [] _ 2000009 _ (hP4.more (by omega)) (SI_nil _)).mono ?_); rintro e w5 ⟨rfl, hb5⟩
  rw [vfy_2]
  have hz5 := hb5.size
  have hP5 := hP4.below (hb5.mono (by omega))
  have hW5 := hW4.trans (hb5.mono hW4.size)
  go_wp2_with fail
  (with_reducible refine (mverify_any [(4, 1)] _ 5 [] _ 2000008 _ (hP5.more (by omega)) (SI_nil _)).mono ?_); rintro e w6 ⟨rfl, hb6⟩
  rw [vfy_3]
  go_wp2_with fail
  go_ret
  exact ⟨rfl, hW5.trans (hb6.mono hW5.size)⟩
end Go.Proofs.Ytmglcjdigpgjlaa
