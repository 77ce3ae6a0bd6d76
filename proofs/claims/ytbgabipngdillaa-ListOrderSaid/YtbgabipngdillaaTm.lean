/- Go's remainder against Lean's. -/
import Derived.Test.YtbgabipngdillaaBase
namespace Go.Proofs.Ytbgabipngdillaa

theorem tmod_cases (n m : Int) (hm : 0 < m) : n.tmod m = n % m ∨ (n < 0 ∧ 0 < n % m ∧ n.tmod m = n % m - m) := by
  rw [Int.tmod_eq_emod]
  split
  · left; omega
  · rename_i h
    right
    have h1 : 0 ≤ n % m := Int.emod_nonneg n (by omega)
    have h2 : n % m ≠ 0 := fun e => h (.inr (Int.dvd_of_emod_eq_zero e))
    refine ⟨by omega, by omega, ?_⟩
    omega
theorem tmod_bd (n m : Int) (hm : 0 < m) : -m < n.tmod m ∧ n.tmod m < m := by
  have h1 : 0 ≤ n % m := Int.emod_nonneg n (by omega)
  have h2 : n % m < m := Int.emod_lt_of_pos n hm
  rcases tmod_cases n m hm with h | ⟨_, _, h⟩ <;> omega
theorem tmod_fix (n m : Int) (hm : 0 < m) : (n.tmod m + m).tmod m = n % m := by
  have h1 : 0 ≤ n % m := Int.emod_nonneg n (by omega)
  have h2 : n % m < m := Int.emod_lt_of_pos n hm
  rcases tmod_cases n m hm with h | ⟨_, _, h⟩
  · rw [h, Int.tmod_eq_emod_of_nonneg (by omega), Int.add_emod_right, Int.emod_emod_of_dvd _ (Int.dvd_refl m)]
  · rw [h, show n % m - m + m = n % m by omega, Int.tmod_eq_emod_of_nonneg h1, Int.emod_emod_of_dvd _ (Int.dvd_refl m)]

end Go.Proofs.Ytbgabipngdillaa
