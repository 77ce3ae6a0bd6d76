/- compare and Less of the package list. -/
import Derived.Test.YtbgabipngdillaaFl
namespace Go.Proofs.Ytbgabipngdillaa
open Go.RowKit Go.Shelf

theorem coefficient_any (l : List Int) (k : Nat) (v : Value) (w : World) (h : SI w v l) (hl : l.length ≤ 1000000) :
    Calls Try.prog 65 #[v, .int .i64 k] w fun e w' => e = .returned (.int .i64 (gd l k)) ∧ w = w' := by
  obtain ⟨A, c, rfl, hcc, hm, hr, ha⟩ := h
  have HA := Lib.hid ha
  clear hr ha
  go_enter Try.func65, Try.ntmps65
  by_cases hlt : k < l.length
  · obtain ⟨b, off, rfl, hb, hcell⟩ := HA.out (by omega)
    have hck := hcell k hlt
    clear hcell
    have hd1 : decide ((k : Int) < (l.length : Int)) = true := decide_eq_true (by omega)
    have hd2 : decide (k < l.length) = true := decide_eq_true hlt
    go_wp2_with fail
    go_ret
    exact ⟨by simp [gd, hlt], rfl⟩
  · have hd1 : decide ((k : Int) < (l.length : Int)) = false := decide_eq_false (by omega)
    have hd2 : decide (k < l.length) = false := decide_eq_false hlt
    go_wp2_with fail
    go_ret
    exact ⟨by simp [gd, hlt], rfl⟩
def cmpI (a b : List Int) : Nat → Nat → Int
  | 0, _ => 0
  | n + 1, i => if gd a i < gd b i then -1 else if gd b i < gd a i then 1 else cmpI a b n (i + 1)
def cmpV (a b : List Int) : Int := cmpI a b (max a.length b.length) 0
theorem compare_any (a b : List Int) (va vb : Value) (w : World) (ha : SI w va a) (hb : SI w vb b) (hla : a.length ≤ 1000000) (hlb : b.length ≤ 1000000) :
    Calls Try.prog 41 #[va, vb] w fun e w' => e = .returned (.int .i64 (cmpV a b)) ∧ w = w' := by
  have HSA := Lib.hid ha
  have HSB := Lib.hid hb
  obtain ⟨A, ca, rfl⟩ := ha.form
  obtain ⟨B, cb, rfl⟩ := hb.form
  clear ha hb
  go_enter Try.func41, Try.ntmps41
  go_wp2_with fail
  case inl =>
    have HN : Hid (cmpV a b = cmpI a b b.length 0) := by show _ = _; unfold cmpV; rw [show max a.length b.length = b.length by omega]
    go_loop [13] (fun i => ∃ k : Nat, k ≤ b.length ∧ i = .int .i64 k ∧ cmpV a b = cmpI a b (b.length - k) k) (fun i => b.length - (intOf i).toNat)
    case atStart => exact ⟨0, Nat.zero_le _, rfl, HN.out⟩
    case round =>
      obtain ⟨k, hk, rfl, hr⟩ := hrel
      have HR := Lib.hid hr
      clear hr
      by_cases hlt : k < b.length
      · have hd1 : decide ((k : Int) < (b.length : Int)) = true := decide_eq_true (by omega)
        have hd2 : decide (k < b.length) = true := decide_eq_true hlt
        have HC : Hid (cmpV a b = if gd a k < gd b k then -1 else if gd b k < gd a k then 1 else cmpI a b (b.length - (k + 1)) (k + 1)) := by
          show _ = _
          rw [HR.out, show b.length - k = b.length - (k + 1) + 1 by omega]
          rfl
        go_wp2_with fail
        (with_reducible refine (coefficient_any a k _ _ HSA.out hla).mono ?_)
        rintro e w' ⟨rfl, rfl⟩
        go_wp2_with fail
        (with_reducible refine (coefficient_any b k _ _ HSB.out hlb).mono ?_)
        rintro e w' ⟨rfl, rfl⟩
        generalize gd a k = x at HC ⊢
        generalize gd b k = y at HC ⊢
        by_cases h1 : x < y
        · have HV : Hid (cmpV a b = -1) := by show _ = _; rw [HC.out, if_pos h1]
          have hx : decide (x < y) = true := decide_eq_true h1
          go_wp2_with fail
          go_ret
          exact ⟨by rw [HV.out] <;> rfl, rfl⟩
        · have hx : decide (x < y) = false := decide_eq_false h1
          by_cases h2 : y < x
          · have HV : Hid (cmpV a b = 1) := by show _ = _; rw [HC.out, if_neg h1, if_pos h2]
            have hy : decide (y < x) = true := decide_eq_true h2
            go_wp2_with fail
            go_ret
            exact ⟨by rw [HV.out] <;> rfl, rfl⟩
          · have HV := HC.out
            rw [if_neg h1, if_neg h2] at HV
            have HV2 := Lib.hid HV
            have hy : decide (y < x) = false := decide_eq_false h2
            clear HV
            go_wp2_with fail
            go_round
            case rel => exact ⟨k + 1, by omega, by go_num, HV2.out⟩
            case measure => simp [intOf]; omega
      · have hkk : k = b.length := by omega
        have HF : Hid (cmpV a b = 0) := by show _ = _; rw [HR.out, hkk, Nat.sub_self]; rfl
        have hd1 : decide ((k : Int) < (b.length : Int)) = false := decide_eq_false (by omega)
        have hd2 : decide (k < b.length) = false := decide_eq_false hlt
        clear hkk
        go_wp2_with fail
        go_ret
        exact ⟨by rw [HF.out] <;> rfl, rfl⟩
  case inr =>
    have HN : Hid (cmpV a b = cmpI a b a.length 0) := by show _ = _; unfold cmpV; rw [show max a.length b.length = a.length by omega]
    go_loop [13] (fun i => ∃ k : Nat, k ≤ a.length ∧ i = .int .i64 k ∧ cmpV a b = cmpI a b (a.length - k) k) (fun i => a.length - (intOf i).toNat)
    case atStart => exact ⟨0, Nat.zero_le _, rfl, HN.out⟩
    case round =>
      obtain ⟨k, hk, rfl, hr⟩ := hrel
      have HR := Lib.hid hr
      clear hr
      by_cases hlt : k < a.length
      · have hd1 : decide ((k : Int) < (a.length : Int)) = true := decide_eq_true (by omega)
        have hd2 : decide (k < a.length) = true := decide_eq_true hlt
        have HC : Hid (cmpV a b = if gd a k < gd b k then -1 else if gd b k < gd a k then 1 else cmpI a b (a.length - (k + 1)) (k + 1)) := by
          show _ = _
          rw [HR.out, show a.length - k = a.length - (k + 1) + 1 by omega]
          rfl
        go_wp2_with fail
        (with_reducible refine (coefficient_any a k _ _ HSA.out hla).mono ?_)
        rintro e w' ⟨rfl, rfl⟩
        go_wp2_with fail
        (with_reducible refine (coefficient_any b k _ _ HSB.out hlb).mono ?_)
        rintro e w' ⟨rfl, rfl⟩
        generalize gd a k = x at HC ⊢
        generalize gd b k = y at HC ⊢
        by_cases h1 : x < y
        · have HV : Hid (cmpV a b = -1) := by show _ = _; rw [HC.out, if_pos h1]
          have hx : decide (x < y) = true := decide_eq_true h1
          go_wp2_with fail
          go_ret
          exact ⟨by rw [HV.out] <;> rfl, rfl⟩
        · have hx : decide (x < y) = false := decide_eq_false h1
          by_cases h2 : y < x
          · have HV : Hid (cmpV a b = 1) := by show _ = _; rw [HC.out, if_neg h1, if_pos h2]
            have hy : decide (y < x) = true := decide_eq_true h2
            go_wp2_with fail
            go_ret
            exact ⟨by rw [HV.out] <;> rfl, rfl⟩
          · have HV := HC.out
            rw [if_neg h1, if_neg h2] at HV
            have HV2 := Lib.hid HV
            have hy : decide (y < x) = false := decide_eq_false h2
            clear HV
            go_wp2_with fail
            go_round
            case rel => exact ⟨k + 1, by omega, by go_num, HV2.out⟩
            case measure => simp [intOf]; omega
      · have hkk : k = a.length := by omega
        have HF : Hid (cmpV a b = 0) := by show _ = _; rw [HR.out, hkk, Nat.sub_self]; rfl
        have hd1 : decide ((k : Int) < (a.length : Int)) = false := decide_eq_false (by omega)
        have hd2 : decide (k < a.length) = false := decide_eq_false hlt
        clear hkk
        go_wp2_with fail
        go_ret
        exact ⟨by rw [HF.out] <;> rfl, rfl⟩
theorem less_any (a b : List Int) (va vb : Value) (w : World) (ha : SI w va a) (hb : SI w vb b) (hla : a.length ≤ 1000000) (hlb : b.length ≤ 1000000) :
    Calls Try.prog 20 #[va, vb] w fun e w' => e = .returned (.bool (decide (cmpV a b < 0))) ∧ w = w' := by
  go_enter Try.func20, Try.ntmps20
  go_wp2_with fail
  (with_reducible refine (compare_any a b _ _ _ ha hb hla hlb).mono ?_)
  rintro e w' ⟨rfl, rfl⟩
  go_wp2_with fail
  go_ret
  exact ⟨rfl, rfl⟩
theorem order_any (a b : List Int) (va vb vs : Value) (w : World) (ha : SI w va a) (hb : SI w vb b) (hla : a.length ≤ 1000000) (hlb : b.length ≤ 1000000) :
    Calls Try.prog 57 #[vs, va, vb] w fun e w' => e = .returned (.int .i64 (cmpV a b)) ∧ w = w' := by
  go_enter Try.func57, Try.ntmps57
  go_wp2_with fail
  (with_reducible refine (compare_any a b _ _ _ ha hb hla hlb).mono ?_)
  rintro e w' ⟨rfl, rfl⟩
  go_wp2_with fail
  go_ret
  exact ⟨rfl, rfl⟩
theorem run1_any (a b : List Int) (va vb : Value) (w : World) (ha : SI w va a) (hb : SI w vb b) (hla : a.length ≤ 1000000) (hlb : b.length ≤ 1000000) :
    Calls Try.prog 59 #[va, vb] w fun e w' => e = .returned (.bool (cmpV a b == 0)) ∧ w = w' := by
  go_enter Try.func59, Try.ntmps59
  go_wp2_with fail
  (with_reducible refine (compare_any a b _ _ _ ha hb hla hlb).mono ?_)
  rintro e w' ⟨rfl, rfl⟩
  go_wp2_with fail
  go_ret
  exact ⟨rfl, rfl⟩
end Go.Proofs.Ytbgabipngdillaa
