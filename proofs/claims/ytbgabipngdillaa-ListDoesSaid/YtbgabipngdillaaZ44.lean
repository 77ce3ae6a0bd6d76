/- Joined: Pf. -/
import Derived.Sort.Walk7a
import Derived.Sort.LotD5
import Derived.Sort.LotD1
import Derived.Test.YtbgabipngdillaaZ37
import Derived.Test.YtbgabipngdillaaZ43
namespace Go.Proofs.Ytbgabipngdillaa
open Go.RowKit Go.Shelf Go.Sort Go.Lib

theorem setset (w : World) (r : Nat) (v v' : Value) : (w.setCell ⟨r, 0, none⟩ v).setCell ⟨r, 0, none⟩ v' = w.setCell ⟨r, 0, none⟩ v' := setCell_setCell w r 0 v v'

set_option maxHeartbeats 16000000 in
set_option maxRecDepth 1000000 in
theorem next64_any (r X : Nat) (hX : X < 18446744073709551616) (w : World) (hc : w.cell? ⟨r, 0, none⟩ = some (.int .u64 X)) (hf : w.frozen? ⟨r, 0, none⟩ = false) :
    Calls Try.prog 102 #[.pointer (some ⟨r, 0, none⟩)] w fun e w' => ∃ C n : Nat, e = .returned (.int .u64 C) ∧ C < 18446744073709551616 ∧ w' = (w.setCell ⟨r, 0, none⟩ (.int .u64 C)).drewN n := by
  have mixed : Try.prog.follows .mixedOrders = true := by kernel_rfl
  obtain ⟨A, hA⟩ : ∃ A : Nat, A = X ^^^ (X * 8192 % 18446744073709551616) := ⟨_, rfl⟩
  obtain ⟨B, hB⟩ : ∃ B : Nat, B = A ^^^ (A / 128) := ⟨_, rfl⟩
  obtain ⟨C, hC⟩ : ∃ C : Nat, C = B ^^^ (B * 131072 % 18446744073709551616) := ⟨_, rfl⟩
  have lA : A < 18446744073709551616 := by rw [hA]; exact Nat.xor_lt_two_pow (n := 64) (by omega) (by omega)
  have lB : B < 18446744073709551616 := by rw [hB]; exact Nat.xor_lt_two_pow (n := 64) (by omega) (by omega)
  have lC : C < 18446744073709551616 := by rw [hC]; exact Nat.xor_lt_two_pow (n := 64) (by omega) (by omega)
  have e1 : bits .xor .u64 (X : Int) (IntKind.u64.wrap ((X : Int) * 8192)) = (A : Int) := by
    rw [IntKind.wrap_u64, show ((X : Int) * 8192 % 18446744073709551616) = ((X * 8192 % 18446744073709551616 : Nat) : Int) by omega, bits_xor_u64_nat _ _ hX (by omega), hA]
  have e2 : bits .xor .u64 (A : Int) ((A : Int) / 128) = (B : Int) := by
    rw [show ((A : Int) / 128) = ((A / 128 : Nat) : Int) by omega, bits_xor_u64_nat _ _ lA (by omega), hB]
  have e3 : bits .xor .u64 (B : Int) (IntKind.u64.wrap ((B : Int) * 131072)) = (C : Int) := by
    rw [IntKind.wrap_u64, show ((B : Int) * 131072 % 18446744073709551616) = ((B * 131072 % 18446744073709551616 : Nat) : Int) by omega, bits_xor_u64_nat _ _ lB (by omega), hC]
  clear hA hB hC
  have hss := setset w r
  go_enter Try.func102, Try.ntmps102
  go_wp2
  go_big_region_o
  all_goals go_wp2
  all_goals go_big_region_o
  all_goals go_wp2
  all_goals go_big_region_o
  all_goals go_wp2
  go_ret
  exact ⟨C, 3, rfl, lC, rfl⟩

set_option maxHeartbeats 16000000 in
set_option maxRecDepth 1000000 in
theorem pow2_any (n : Nat) (w : World) (h0 : 1 ≤ n) (h : n ≤ 1000000) : Calls Try.prog 101 #[.int .i64 n] w fun e w' => ∃ M : Nat, e = .returned (.int .u64 M) ∧ 1 ≤ M ∧ M ≤ 2 * n ∧ w' = w := by
  have hLen : ∀ w, Calls Try.prog 81 #[.int .u64 (n : Int)] w fun e w' => e = .returned (.int .i64 (bitsLen n : Nat)) ∧ w' = w := fun w => by
    have h := Try.bits_Len (n : Int) w (by omega) (by omega)
    rwa [Int.toNat_natCast, bitLen_eq _ (by omega)] at h
  have hk : bitsLen n ≤ 62 := (bitsLen_le_iff n 62).2 (by omega)
  have hp := wrap_two_pow (bitsLen n) hk
  have wr : IntKind.u64.wrap (n : Int) = n := by simp [IntKind.wrap, IntKind.bits, IntKind.signed]; omega
  have h2 := two_pow_bitsLen_le (n := n) (by omega)
  have h3 : 1 ≤ 2 ^ bitsLen n := Nat.one_le_two_pow
  have e4 : 1 <<< bitsLen n = 2 ^ bitsLen n := Nat.one_shiftLeft _
  have HL := Lib.hid hLen
  clear hLen
  go_enter Try.func101, Try.ntmps101
  go_wp2_with fail
  (with_reducible refine (HL.out _).mono ?_)
  rintro e w' ⟨rfl, rfl⟩
  go_wp2_with fail
  go_ret
  exact ⟨_, rfl, by omega, by omega, rfl⟩
end Go.Proofs.Ytbgabipngdillaa
