/- Plain arithmetic modulo the digests' prime. -/
import Derived.Test.YtmglcjdigpgjlaaBase
namespace Go.Proofs.Ytmglcjdigpgjlaa
theorem zz (u z : Int) (hu : -2147483647 < u ∧ u < 2147483647) (h : u = 2147483647 * z) : u = 0 := by
  omega
theorem lin (u q : Int) (hq : u * 1000003 = 2147483647 * q) : u = 2147483647 * (q * 1523789695 - u * 709572) := by
  have e : u * (1000003 * 1523789695) = 2147483647 * (q * 1523789695) := by
    rw [← Int.mul_assoc, hq, Int.mul_assoc]
  have e2 : (1000003 * 1523789695 : Int) = 2147483647 * 709572 + 1 := by decide
  rw [e2, Int.mul_add, Int.mul_one] at e
  rw [Int.mul_sub, ← e, Int.mul_left_comm 2147483647 u]
  omega
theorem mul_z (u : Int) (hu : -2147483647 < u ∧ u < 2147483647) (h : (u * 1000003) % 2147483647 = 0) : u = 0 := by
  have h2 := Int.dvd_of_emod_eq_zero h
  obtain ⟨q, hq⟩ := h2
  exact zz u _ hu (lin u q hq)
theorem lin2 (u q : Int) (hq : u * 1000002 = 2147483647 * q) : u = 2147483647 * (q * 1434793232 - u * 668129) := by
  have e : u * (1000002 * 1434793232) = 2147483647 * (q * 1434793232) := by
    rw [← Int.mul_assoc, hq, Int.mul_assoc]
  have e2 : (1000002 * 1434793232 : Int) = 2147483647 * 668129 + 1 := by decide
  rw [e2, Int.mul_add, Int.mul_one] at e
  rw [Int.mul_sub, ← e, Int.mul_left_comm 2147483647 u]
  omega
theorem mul_z2 (u : Int) (hu : -2147483647 < u ∧ u < 2147483647) (h : (u * 1000002) % 2147483647 = 0) : u = 0 := by
  have h2 := Int.dvd_of_emod_eq_zero h
  obtain ⟨q, hq⟩ := h2
  exact zz u _ hu (lin2 u q hq)
theorem base_inj (a b c : Int) (ha : 0 ≤ a ∧ a < 2147483647) (hb : 0 ≤ b ∧ b < 2147483647) (h : (a * 1000003 + c) % 2147483647 = (b * 1000003 + c) % 2147483647) : a = b := by
  have h1 := Int.emod_eq_emod_iff_emod_sub_eq_zero.1 h
  have h2 : a * 1000003 + c - (b * 1000003 + c) = (a - b) * 1000003 := by rw [Int.sub_mul]; omega
  rw [h2] at h1
  have h3 := mul_z (a - b) (by clear h h1 h2; omega) h1
  clear h h1 h2
  omega
theorem last_inj (a x y : Int) (hx : 0 ≤ x ∧ x < 2147483647) (hy : 0 ≤ y ∧ y < 2147483647) (h : (a * 1000003 + x + 1) % 2147483647 = (a * 1000003 + y + 1) % 2147483647) : x = y := by
  generalize a * 1000003 = t at h
  omega
end Go.Proofs.Ytmglcjdigpgjlaa
