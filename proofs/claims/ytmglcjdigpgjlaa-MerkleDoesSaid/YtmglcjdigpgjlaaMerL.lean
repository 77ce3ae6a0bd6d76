/- What Length of merkle and of privatefetchref12 return. -/
import Derived.Test.YtmglcjdigpgjlaaMerR
import Derived.Laws.BitsAllLaws
import Derived.Laws.BitsLemmas
namespace Go.Proofs.Ytmglcjdigpgjlaa
open Go.RowKit

theorem ofInt_i64 (a : Nat) (ha : a < 9223372036854775808) : (BitVec.ofInt 64 (a : Int)).toNat = a := by
  rw [BitVec.ofInt_natCast, BitVec.toNat_ofNat]; exact Nat.mod_eq_of_lt (by omega)
theorem i64_xor_nat (a b : Nat) (ha : a < 9223372036854775808) (hb : b < 9223372036854775808) : bits .xor .i64 (a : Int) (b : Int) = ((a ^^^ b : Nat) : Int) := by
  have hx : a ^^^ b < 2 ^ 63 := Nat.xor_lt_two_pow (by omega) (by omega)
  show IntKind.i64.wrap ((BitVec.ofInt 64 (a : Int) ^^^ BitVec.ofInt 64 (b : Int)).toNat : Int) = _
  rw [BitVec.toNat_xor, ofInt_i64 a ha, ofInt_i64 b hb, IntKind.wrap_i64]
  omega
theorem xor1 (i : Nat) (h : i < 9223372036854775808) : bits .xor .i64 (i : Int) 1 = ((i ^^^ 1 : Nat) : Int) := i64_xor_nat i 1 h (by omega)

/-- how many digests a path has, and the error -/
def lnE (c i : Int) : Int := if c < 0 ∨ 1024 < c then 4 else if i < 0 ∨ c ≤ i then 6 else 0
def lnV (c i : Int) : Int := if lnE c i = 0 then (plen c.toNat i.toNat : Int) else 0
theorem lnE_4 {c i : Int} (h : c < 0 ∨ 1024 < c) : lnE c i = 4 ∧ lnV c i = 0 := by
  have h1 : lnE c i = 4 := by unfold lnE; rw [if_pos h]
  exact ⟨h1, by unfold lnV; rw [if_neg (by omega)]⟩
theorem lnE_6 {c i : Int} (h : 0 ≤ c ∧ c ≤ 1024) (h' : i < 0 ∨ c ≤ i) : lnE c i = 6 ∧ lnV c i = 0 := by
  have h1 : lnE c i = 6 := by unfold lnE; rw [if_neg (by omega), if_pos h']
  exact ⟨h1, by unfold lnV; rw [if_neg (by omega)]⟩
theorem lnE_0 {C I : Nat} (h : C ≤ 1024) (h' : I < C) : lnE C I = 0 ∧ lnV C I = plen C I := by
  have h1 : lnE C I = 0 := by unfold lnE; rw [if_neg (by omega), if_neg (by omega)]
  exact ⟨h1, by unfold lnV; rw [if_pos h1]; simp⟩

theorem plen_any (c i : Int) (w : World) (hc : i64r c) (hi : i64r i) :
    Calls Try.prog 37 #[.int .i64 c, .int .i64 i] w fun e w' => e = .returned (.tuple #[.int .i64 (lnV c i), .int .i64 (lnE c i)]) ∧ w = w' := by
  obtain ⟨hc1, hc2⟩ := hc
  obtain ⟨hi1, hi2⟩ := hi
  by_cases h1 : c < 0
  · have HE := Lib.hid (lnE_4 (i := i) (.inl h1))
    go_enter Try.func37, Try.ntmps37
    go_wp2_with fail
    go_ret2
    exact ⟨ret_two HE.out.2.symm HE.out.1.symm, rfl⟩
  by_cases h2 : 1024 < c
  · have HE := Lib.hid (lnE_4 (i := i) (.inr h2))
    go_enter Try.func37, Try.ntmps37
    go_wp2_with fail
    go_ret2
    exact ⟨ret_two HE.out.2.symm HE.out.1.symm, rfl⟩
  by_cases h3 : i < 0
  · have HE := Lib.hid (lnE_6 (c := c) (i := i) (by omega) (.inl h3))
    go_enter Try.func37, Try.ntmps37
    go_wp2_with fail
    go_ret2
    exact ⟨ret_two HE.out.2.symm HE.out.1.symm, rfl⟩
  by_cases h4 : c ≤ i
  · have HE := Lib.hid (lnE_6 (c := c) (i := i) (by omega) (.inr h4))
    go_enter Try.func37, Try.ntmps37
    go_wp2_with fail
    go_ret2
    exact ⟨ret_two HE.out.2.symm HE.out.1.symm, rfl⟩
  obtain ⟨C, rfl⟩ : ∃ n : Nat, c = n := ⟨c.toNat, by omega⟩
  obtain ⟨I, rfl⟩ : ∃ n : Nat, i = n := ⟨i.toNat, by omega⟩
  have HE := Lib.hid (lnE_0 (C := C) (I := I) (by omega) (by omega))
  have hC : C ≤ 1024 := by omega
  have hI : I < C := by omega
  clear h1 h2 h3 h4 hc1 hc2 hi1 hi2
  go_enter Try.func37, Try.ntmps37
  go_wp2_with fail
  go_loop [0, 1, 6] (fun c i n => ∃ c' i' n' : Nat, c = .int .i64 c' ∧ i = .int .i64 i' ∧ n = .int .i64 n' ∧ 1 ≤ c' ∧ c' ≤ 1024 ∧ i' < c' ∧ n' ≤ C ∧ n' + plen c' i' = plen C I) (fun c _ _ => (intOf c).toNat)
  case atStart => exact ⟨C, I, 0, rfl, rfl, rfl, by omega, hC, hI, by omega, by omega⟩
  case round =>
    obtain ⟨c, i, n, rfl, rfl, rfl, hc1, hc2, hi, hn, hp⟩ := hrel
    have HP := Lib.hid hp
    clear hp
    by_cases hlt : 1 < c
    · have hx := xor1 i (by omega)
      by_cases hk : i ^^^ 1 < c
      · have HU := Lib.hid (plen_up hlt i)
        have hle := plen_le C I
        have hn1 : n + 1 ≤ C := by
          have h1 := HP.out
          rw [HU.out, if_pos hk] at h1
          omega
        have hd : decide (((i ^^^ 1 : Nat) : Int) < (c : Int)) = true := by simp; omega
        clear hle
        go_wp2_with fail
        go_round
        case rel => exact ⟨(c + 1) / 2, i / 2, n + 1, by go_num, by go_num, by go_num, by omega, by omega, by omega, hn1, by have h1 := HP.out; rw [HU.out, if_pos hk] at h1; omega⟩
        case measure => simp [intOf]; omega
      · have HU := Lib.hid (plen_up hlt i)
        have hd : decide (((i ^^^ 1 : Nat) : Int) < (c : Int)) = false := by simp; omega
        go_wp2_with fail
        go_round
        case rel => exact ⟨(c + 1) / 2, i / 2, n, by go_num, by go_num, rfl, by omega, by omega, by omega, hn, by have h1 := HP.out; rw [HU.out, if_neg hk] at h1; omega⟩
        case measure => simp [intOf]; omega
    · have HU := Lib.hid (plen_small (show c ≤ 1 by omega) i)
      go_wp2_with fail
      go_ret2
      exact ⟨ret_two (by rw [HE.out.2]; have h1 := HP.out; rw [HU.out] at h1; omega) HE.out.1.symm, rfl⟩

theorem rlen_any (c i : Int) (w : World) (hc : i64r c) (hi : i64r i) :
    Calls Try.prog 38 #[.int .i64 c, .int .i64 i] w fun e w' => e = .returned (.tuple #[.int .i64 (lnV c i), .int .i64 (lnE c i)]) ∧ w = w' := by
  obtain ⟨hc1, hc2⟩ := hc
  obtain ⟨hi1, hi2⟩ := hi
  by_cases h1 : c < 0
  · have HE := Lib.hid (lnE_4 (i := i) (.inl h1))
    go_enter Try.func38, Try.ntmps38
    go_wp2_with fail
    go_ret2
    exact ⟨ret_two HE.out.2.symm HE.out.1.symm, rfl⟩
  by_cases h2 : 1024 < c
  · have HE := Lib.hid (lnE_4 (i := i) (.inr h2))
    go_enter Try.func38, Try.ntmps38
    go_wp2_with fail
    go_ret2
    exact ⟨ret_two HE.out.2.symm HE.out.1.symm, rfl⟩
  by_cases h3 : i < 0
  · have HE := Lib.hid (lnE_6 (c := c) (i := i) (by omega) (.inl h3))
    go_enter Try.func38, Try.ntmps38
    go_wp2_with fail
    go_ret2
    exact ⟨ret_two HE.out.2.symm HE.out.1.symm, rfl⟩
  by_cases h4 : c ≤ i
  · have HE := Lib.hid (lnE_6 (c := c) (i := i) (by omega) (.inr h4))
    go_enter Try.func38, Try.ntmps38
    go_wp2_with fail
    go_ret2
    exact ⟨ret_two HE.out.2.symm HE.out.1.symm, rfl⟩
  obtain ⟨C, rfl⟩ : ∃ n : Nat, c = n := ⟨c.toNat, by omega⟩
  obtain ⟨I, rfl⟩ : ∃ n : Nat, i = n := ⟨i.toNat, by omega⟩
  have HE := Lib.hid (lnE_0 (C := C) (I := I) (by omega) (by omega))
  have hC : C ≤ 1024 := by omega
  have hI : I < C := by omega
  clear h1 h2 h3 h4 hc1 hc2 hi1 hi2
  go_enter Try.func38, Try.ntmps38
  go_wp2_with fail
  go_loop [0, 1, 6] (fun c i n => ∃ c' i' n' : Nat, c = .int .i64 c' ∧ i = .int .i64 i' ∧ n = .int .i64 n' ∧ 1 ≤ c' ∧ c' ≤ 1024 ∧ i' < c' ∧ n' ≤ C ∧ n' + plen c' i' = plen C I) (fun c _ _ => (intOf c).toNat)
  case atStart => exact ⟨C, I, 0, rfl, rfl, rfl, by omega, hC, hI, by omega, by omega⟩
  case round =>
    obtain ⟨c, i, n, rfl, rfl, rfl, hc1, hc2, hi, hn, hp⟩ := hrel
    have HP := Lib.hid hp
    clear hp
    by_cases hlt : 1 < c
    · have hx := xor1 i (by omega)
      by_cases hk : i ^^^ 1 < c
      · have HU := Lib.hid (plen_up hlt i)
        have hle := plen_le C I
        have hn1 : n + 1 ≤ C := by
          have h1 := HP.out
          rw [HU.out, if_pos hk] at h1
          omega
        have hd : decide (((i ^^^ 1 : Nat) : Int) < (c : Int)) = true := by simp; omega
        clear hle
        go_wp2_with fail
        go_round
        case rel => exact ⟨(c + 1) / 2, i / 2, n + 1, by go_num, by go_num, by go_num, by omega, by omega, by omega, hn1, by have h1 := HP.out; rw [HU.out, if_pos hk] at h1; omega⟩
        case measure => simp [intOf]; omega
      · have HU := Lib.hid (plen_up hlt i)
        have hd : decide (((i ^^^ 1 : Nat) : Int) < (c : Int)) = false := by simp; omega
        go_wp2_with fail
        go_round
        case rel => exact ⟨(c + 1) / 2, i / 2, n, by go_num, by go_num, rfl, by omega, by omega, by omega, hn, by have h1 := HP.out; rw [HU.out, if_neg hk] at h1; omega⟩
        case measure => simp [intOf]; omega
    · have HU := Lib.hid (plen_small (show c ≤ 1 by omega) i)
      go_wp2_with fail
      go_ret2
      exact ⟨ret_two (by rw [HE.out.2]; have h1 := HP.out; rw [HU.out] at h1; omega) HE.out.1.symm, rfl⟩
end Go.Proofs.Ytmglcjdigpgjlaa
