/- Plain: Euclid's algorithm finds inverses. -/
import Derived.Test.YtbgabipngdillaaFp
namespace Go.Proofs.Ytbgabipngdillaa

/-- a state of the loop -/
def IS (P a r s x y : Int) : Prop := 1 ≤ r ∧ r ≤ P ∧ 0 ≤ s ∧ s ≤ P ∧ (∃ X Y : Int, -X ≤ x ∧ x ≤ X ∧ -Y ≤ y ∧ y ≤ Y ∧ X * s + Y * r = P ∧ X ≤ P) ∧ P ∣ r - x * a ∧ P ∣ s - y * a ∧ ∀ d : Int, d ∣ r → d ∣ s → d ∣ P ∧ d ∣ a
theorem IS.start {P a : Int} (hP : 2 ≤ P) (ha : 0 ≤ a ∧ a < P) : IS P a P a 0 1 :=
  ⟨by omega, by omega, by omega, by omega, ⟨0, 1, by omega, by omega, by omega, by omega, by omega, by omega⟩, ⟨1, by omega⟩, ⟨0, by omega⟩, fun d h1 h2 => ⟨h1, h2⟩⟩
theorem IS.bx {P a r s x y : Int} (h : IS P a r s x y) : (-P ≤ x ∧ x ≤ P) ∧ -P ≤ y ∧ y ≤ P := by
  obtain ⟨h1, h2, h3, h4, ⟨X, Y, x1, x2, y1, y2, e, hX⟩, _⟩ := h
  have hx0 : 0 ≤ X := by omega
  have hy0 : 0 ≤ Y := by omega
  have a1 : 0 ≤ X * s := Int.mul_nonneg hx0 h3
  have a2 : Y * 1 ≤ Y * r := Int.mul_le_mul_of_nonneg_left h1 hy0
  rw [Int.mul_one] at a2
  omega
theorem IS.step {P a r s x y : Int} (h : IS P a r s x y) (hs : 0 < s) :
    IS P a s (r - r / s * s) y (x - r / s * y) ∧ (0 ≤ r / s ∧ r / s ≤ P) ∧ (0 ≤ r / s * s ∧ r / s * s ≤ P) ∧ (-P ≤ r / s * y ∧ r / s * y ≤ P) ∧ r - r / s * s < s := by
  have hbx := h.bx
  obtain ⟨h1, h2, h3, h4, ⟨X, Y, x1, x2, y1, y2, e, hX⟩, d1, d2, hd⟩ := h
  have hx0 : 0 ≤ X := by omega
  have hy0 : 0 ≤ Y := by omega
  have m1 : 0 ≤ r % s := Int.emod_nonneg _ (by omega)
  have m2 : r % s < s := Int.emod_lt_of_pos _ hs
  have m3 : r / s * s + r % s = r := by have := Int.mul_ediv_add_emod r s; rw [Int.mul_comm] at this; exact this
  have a3 : 0 ≤ X * s := Int.mul_nonneg hx0 h3
  have a4 : Y * 1 ≤ Y * r := Int.mul_le_mul_of_nonneg_left h1 hy0
  rw [Int.mul_one] at a4
  have hYP : Y ≤ P := by omega
  clear a3 a4
  generalize hq : r / s = q at *
  generalize hm : r % s = m at *
  have hq0 : 0 ≤ q := by rw [← hq]; exact Int.ediv_nonneg (by omega) (by omega)
  have hqs : 0 ≤ q * s := Int.mul_nonneg hq0 (by omega)
  have hqq : q * 1 ≤ q * s := Int.mul_le_mul_of_nonneg_left (by omega) hq0
  rw [Int.mul_one] at hqq
  have hqY : 0 ≤ q * Y := Int.mul_nonneg hq0 hy0
  have hy3 : q * y ≤ q * Y := Int.mul_le_mul_of_nonneg_left y2 hq0
  have hy4 : q * (-Y) ≤ q * y := Int.mul_le_mul_of_nonneg_left y1 hq0
  rw [Int.mul_neg] at hy4
  have e' : Y * (r - q * s) + (X + q * Y) * s = P := by
    rw [Int.mul_sub, Int.add_mul, ← e, Int.mul_assoc, Int.mul_left_comm Y q s]
    omega
  have a1 : 0 ≤ Y * (r - q * s) := Int.mul_nonneg hy0 (by omega)
  have a2 : (X + q * Y) * 1 ≤ (X + q * Y) * s := Int.mul_le_mul_of_nonneg_left (by omega) (by omega)
  rw [Int.mul_one] at a2
  refine ⟨⟨by omega, h4, by omega, by omega, ⟨Y, X + q * Y, y1, y2, by omega, by omega, e', by omega⟩, d2, ?_, fun d g1 g2 => ?_⟩, ⟨hq0, by omega⟩, ⟨hqs, by omega⟩, ⟨by omega, by omega⟩, by omega⟩
  · have : r - q * s - (x - q * y) * a = (r - x * a) - q * (s - y * a) := by
      rw [Int.sub_mul, Int.mul_sub, Int.mul_assoc]; omega
    rw [this]
    exact Int.dvd_sub d1 (Int.dvd_mul_of_dvd_right d2)
  · refine hd d ?_ g1
    have : r = (r - q * s) + q * s := by omega
    rw [this]
    exact Int.dvd_add g2 (Int.dvd_mul_of_dvd_right g1)
theorem IS.fin {P a r s x y : Int} (hp : prB P = true) (ha : 0 < a ∧ a < P) (h : IS P a r s x y) (hs : s = 0) : x % P = inv P a := by
  have hb := prB_bd hp
  obtain ⟨h1, h2, h3, h4, _, d1, d2, hd⟩ := h
  subst hs
  obtain ⟨g1, g2⟩ := hd r (Int.dvd_refl r) (Int.dvd_zero r)
  obtain ⟨n, rfl⟩ : ∃ n : Nat, r = n := ⟨r.toNat, by omega⟩
  have hn : (n : Int) = 1 := by
    rcases pr_div hp n g1 with e | e
    · rw [e]; rfl
    · rw [e] at g2
      have := Int.le_of_dvd ha.1 g2
      omega
  rw [hn] at d1
  have ha' : a % P ≠ 0 := by rw [Int.emod_eq_of_lt (by omega) (by omega)]; omega
  refine inv_uniq hp ha' ⟨Int.emod_nonneg _ (by omega), Int.emod_lt_of_pos _ (by omega)⟩ ?_
  rw [Int.mul_emod, Int.emod_emod_of_dvd _ (Int.dvd_refl P), ← Int.mul_emod]
  have := Int.emod_eq_emod_iff_emod_sub_eq_zero.2 (Int.emod_eq_zero_of_dvd d1)
  rw [← this]
  exact Int.emod_eq_of_lt (by omega) (by omega)
end Go.Proofs.Ytbgabipngdillaa
