/- What the functions of the package residue return. -/
import Derived.Test.YtbgabipngdillaaPo
import Derived.Test.YtbgabipngdillaaTm
import Derived.Test.YtbgabipngdillaaApp
namespace Go.Proofs.Ytbgabipngdillaa
open Go.RowKit

theorem wrapin {x : Int} (h : -9223372036854775808 ≤ x ∧ x ≤ 9223372036854775807) : i64r x := h
theorem mul_bd {a b P : Int} (ha : 0 ≤ a ∧ a < P) (hb : 0 ≤ b ∧ b < P) (hP : P ≤ 65521) : 0 ≤ a * b ∧ a * b ≤ 4293001441 := by
  have h1 := Int.mul_nonneg ha.1 hb.1
  have h2 : a * b ≤ 65521 * 65521 := Int.mul_le_mul (by omega) (by omega) hb.1 (by omega)
  omega

/-- the prime, or 0 -/
def ofP (P : Int) : Int := if prB P = true then P else 0
theorem ofP_t {P : Int} (h : prB P = true) : ofP P = P := if_pos h
theorem ofP_f {P : Int} (h : prB P = false) : ofP P = 0 := by unfold ofP; rw [h]; rfl
set_option maxHeartbeats 1000000 in
theorem of_any (P : Int) (w : World) (hP : i64r P) :
    Calls Try.prog 71 #[.agg #[.int .i64 P]] w fun e w' => e = .returned (.tuple #[.int .i64 (ofP P), .bool (prB P)]) ∧ Below w.heap.size w w' := by
  obtain ⟨hP1, hP2⟩ := hP
  by_cases h1 : P < 2
  · have HB := Lib.hid (prB_f (.inl h1))
    go_enter Try.func71, Try.ntmps71
    go_wp2
    go_ret2
    exact ⟨by first | (rw [HB.out, ofP_f HB.out]; rfl) | (rw [HB.out, ofP_t HB.out]; rfl), (Below.refl _ _).alloc (Nat.le_refl _) _⟩
  by_cases h2 : 65521 < P
  · have HB := Lib.hid (prB_f (.inr h2))
    go_enter Try.func71, Try.ntmps71
    go_wp2
    go_ret2
    exact ⟨by first | (rw [HB.out, ofP_f HB.out]; rfl) | (rw [HB.out, ofP_t HB.out]; rfl), (Below.refl _ _).alloc (Nat.le_refl _) _⟩
  have h3 : 2 ≤ P := by omega
  have h4 : P ≤ 65521 := by omega
  clear h1 h2
  go_enter Try.func71, Try.ntmps71
  go_wp2
  go_loop [4] (fun i => ∃ d : Nat, 2 ≤ d ∧ d ≤ 256 ∧ i = .int .i64 d ∧ ∀ e : Nat, 2 ≤ e → e < d → P % e ≠ 0) (fun i => 300 - (intOf i).toNat)
  case atStart => exact ⟨2, by omega, by omega, rfl, fun e h1 h2 => absurd h1 (by omega)⟩
  case round =>
    obtain ⟨d, hd1, hd2, rfl, hno⟩ := hrel
    have HN := Lib.hid hno
    clear hno
    have hdd : (d : Int) * d ≤ 65536 := by
      have : (d : Int) * d ≤ 256 * 256 := Int.mul_le_mul (by omega) (by omega) (by omega) (by omega)
      omega
    have hdn : 0 ≤ (d : Int) * d := Int.mul_nonneg (by omega) (by omega)
    by_cases hc : (d : Int) * d ≤ P
    · have hd3 : d < 256 := by
        rcases Nat.lt_or_ge d 256 with h | h
        · exact h
        · have h5 : (256 : Int) * 256 ≤ (d : Int) * d := Int.mul_le_mul (by omega) (by omega) (by omega) (by omega)
          omega
      by_cases hm : P % d = 0
      · have HB := Lib.hid (prB_div hd1 hc hm)
        have hb1 : (P % (d : Int) == 0) = true := by rw [beq_iff_eq]; exact hm
        go_wp2
        go_ret2
        exact ⟨by first | (rw [HB.out, ofP_f HB.out]; rfl) | (rw [HB.out, ofP_t HB.out]; rfl), (Below.refl _ _).alloc (Nat.le_refl _) _⟩
      · have hb1 : (P % (d : Int) == 0) = false := by rw [beq_eq_false_iff_ne]; exact hm
        have HM := Lib.hid hm
        clear hm
        go_wp2
        go_round
        case rel => exact ⟨d + 1, by omega, by omega, by go_num, fun e h1 h2 => by
          by_cases h : e = d
          · subst h; exact HM.out
          · exact HN.out e h1 (by omega)⟩
        case measure => simp [intOf]; omega
    · have HB : Hid (prB P = true) := prB_of h3 h4 (fun e h1 h2 => by
        refine HN.out e h1 ?_
        rcases Nat.lt_or_ge e d with h | h
        · exact h
        · have h5 : (d : Int) * d ≤ (e : Int) * e := Int.mul_le_mul (by omega) (by omega) (by omega) (by omega)
          omega)
      go_wp2
      go_ret2
      exact ⟨by first | (rw [HB.out, ofP_f HB.out]; rfl) | (rw [HB.out, ofP_t HB.out]; rfl), (Below.refl _ _).alloc (Nat.le_refl _) _⟩

theorem has_any (P a : Int) (w : World) :
    Calls Try.prog 72 #[.int .i64 P, .int .i64 a] w fun e w' => e = .returned (.bool (el P a)) ∧ w = w' := by
  by_cases h1 : 0 ≤ a
  · have HB := Lib.hid (show el P a = decide (a < P) by unfold el; simp [h1])
    go_enter Try.func72, Try.ntmps72
    go_wp2
    go_ret
    exact ⟨ret_bool HB.out.symm, rfl⟩
  · have HB := Lib.hid (show el P a = false by unfold el; simp [h1])
    go_enter Try.func72, Try.ntmps72
    go_wp2
    go_ret
    exact ⟨ret_bool HB.out.symm, rfl⟩
theorem mul_any (P a b : Int) (w : World) (hP : 2 ≤ P ∧ P ≤ 65521) (ha : 0 ≤ a ∧ a < P) (hb : 0 ≤ b ∧ b < P) :
    Calls Try.prog 73 #[.int .i64 P, .int .i64 a, .int .i64 b] w fun e w' => e = .returned (.int .i64 (a * b % P)) ∧ w = w' := by
  have hm := mul_bd ha hb hP.2
  have hne : (P == 0) = false := by simp; omega
  go_enter Try.func73, Try.ntmps73
  go_wp2
  go_ret
  exact ⟨rfl, rfl⟩
theorem add_any (P a b : Int) (w : World) (hP : 2 ≤ P ∧ P ≤ 65521) (ha : 0 ≤ a ∧ a < P) (hb : 0 ≤ b ∧ b < P) :
    Calls Try.prog 85 #[.int .i64 P, .int .i64 a, .int .i64 b] w fun e w' => e = .returned (.int .i64 ((a + b) % P)) ∧ w = w' := by
  have hne : (P == 0) = false := by simp; omega
  go_enter Try.func85, Try.ntmps85
  go_wp2
  go_ret
  exact ⟨rfl, rfl⟩
theorem sub_any (P a b : Int) (w : World) (hP : 2 ≤ P ∧ P ≤ 65521) (ha : 0 ≤ a ∧ a < P) (hb : 0 ≤ b ∧ b < P) :
    Calls Try.prog 74 #[.int .i64 P, .int .i64 a, .int .i64 b] w fun e w' => e = .returned (.int .i64 ((a - b + P) % P)) ∧ w = w' := by
  have hne : (P == 0) = false := by simp; omega
  go_enter Try.func74, Try.ntmps74
  go_wp2
  go_ret
  exact ⟨rfl, rfl⟩
end Go.Proofs.Ytbgabipngdillaa
