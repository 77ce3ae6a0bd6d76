/- Joined: Pf Ph. -/
import Derived.Sort.Walk7a
import Derived.Sort.LotD5
import Derived.Sort.LotD1
import Derived.Test.YtbgabipngdillaaJ26
import Derived.Test.YtbgabipngdillaaJ28
namespace Go.Proofs.Ytbgabipngdillaa
open Go.RowKit Go.Shelf Go.Sort Go.Lib

theorem setset (w : World) (r : Nat) (v v' : Value) : (w.setCell ⟨r, 0, none⟩ v).setCell ⟨r, 0, none⟩ v' = w.setCell ⟨r, 0, none⟩ v' := setCell_setCell w r 0 v v'

set_option maxHeartbeats 16000000 in
set_option maxRecDepth 1000000 in
theorem next64_any (r X : Nat) (hX : X < 18446744073709551616) (w : World) (hc : w.cell? ⟨r, 0, none⟩ = some (.int .u64 X)) (hf : w.frozen? ⟨r, 0, none⟩ = false) :
    Calls Try.prog 102 #[.pointer (some ⟨r, 0, none⟩)] w fun e w' => ∃ C n : Nat, e = .returned (.int .u64 C) ∧ C < 18446744073709551616 ∧ w' = (w.setCell ⟨r, 0, none⟩ (.int .u64 C)).drewN n := by
  have mixed : Try.prog.follows .mixedOrders = true := by kernel_rfl
  obtain ⟨A, hA⟩ : ∃ A : Nat, A = X ^^^ (X * 8192 % 18446744073709551616) := ⟨_, rfl⟩
  obtain ⟨B, hB⟩ : ∃ B : Nat, B = A ^^^ (A / 128) := ⟨_, rfl⟩
  obtain ⟨C, hC⟩ : ∃ C : Nat, C = B ^^^ (B * 131072 % 18446744073709551616) := ⟨_, rfl⟩
  have lA : A < 18446744073709551616 := by rw [hA]; exact Nat.xor_lt_two_pow (n := 64) (by omega) (by omega)
  have lB : B < 18446744073709551616 := by rw [hB]; exact Nat.xor_lt_two_pow (n := 64) (by omega) (by omega)
  have lC : C < 18446744073709551616 := by rw [hC]; exact Nat.xor_lt_two_pow (n := 64) (by omega) (by omega)
  have e1 : bits .xor .u64 (X : Int) (IntKind.u64.wrap ((X : Int) * 8192)) = (A : Int) := by
    rw [IntKind.wrap_u64, show ((X : Int) * 8192 % 18446744073709551616) = ((X * 8192 % 18446744073709551616 : Nat) : Int) by omega, bits_xor_u64_nat _ _ hX (by omega), hA]
  have e2 : bits .xor .u64 (A : Int) ((A : Int) / 128) = (B : Int) := by
    rw [show ((A : Int) / 128) = ((A / 128 : Nat) : Int) by omega, bits_xor_u64_nat _ _ lA (by omega), hB]
  have e3 : bits .xor .u64 (B : Int) (IntKind.u64.wrap ((B : Int) * 131072)) = (C : Int) := by
    rw [IntKind.wrap_u64, show ((B : Int) * 131072 % 18446744073709551616) = ((B * 131072 % 18446744073709551616 : Nat) : Int) by omega, bits_xor_u64_nat _ _ lB (by omega), hC]
  clear hA hB hC
  have hss := setset w r
  go_enter Try.func102, Try.ntmps102
  go_wp2
  go_big_region_o
  all_goals go_wp2
  all_goals go_big_region_o
  all_goals go_wp2
  all_goals go_big_region_o
  all_goals go_wp2
  go_ret
  exact ⟨C, 3, rfl, lC, rfl⟩

set_option maxHeartbeats 16000000 in
set_option maxRecDepth 1000000 in
theorem pow2_any (n : Nat) (w : World) (h0 : 1 ≤ n) (h : n ≤ 1000000) : Calls Try.prog 101 #[.int .i64 n] w fun e w' => ∃ M : Nat, e = .returned (.int .u64 M) ∧ 1 ≤ M ∧ M ≤ 2 * n ∧ w' = w := by
  have hLen : ∀ w, Calls Try.prog 81 #[.int .u64 (n : Int)] w fun e w' => e = .returned (.int .i64 (bitsLen n : Nat)) ∧ w' = w := fun w => by
    have h := Try.bits_Len (n : Int) w (by omega) (by omega)
    rwa [Int.toNat_natCast, bitLen_eq _ (by omega)] at h
  have hk : bitsLen n ≤ 62 := (bitsLen_le_iff n 62).2 (by omega)
  have hp := wrap_two_pow (bitsLen n) hk
  have wr : IntKind.u64.wrap (n : Int) = n := by simp [IntKind.wrap, IntKind.bits, IntKind.signed]; omega
  have h2 := two_pow_bitsLen_le (n := n) (by omega)
  have h3 : 1 ≤ 2 ^ bitsLen n := Nat.one_le_two_pow
  have e4 : 1 <<< bitsLen n = 2 ^ bitsLen n := Nat.one_shiftLeft _
  have HL := Lib.hid hLen
  clear hLen
  go_enter Try.func101, Try.ntmps101
  go_wp2_with fail
  (with_reducible refine (HL.out _).mono ?_)
  rintro e w' ⟨rfl, rfl⟩
  go_wp2_with fail
  go_ret
  exact ⟨_, rfl, by omega, by omega, rfl⟩
end Go.Proofs.Ytbgabipngdillaa

namespace Go.Proofs.Ytbgabipngdillaa
open Go.RowKit Go.Shelf Go.Sort Go.Lib
variable {α : Type} [Inhabited α]

set_option maxHeartbeats 16000000 in
set_option maxRecDepth 1000000 in
theorem pivot_any (s : Nat) (enc : α → Value) (cf : α → α → Int) (blk cap a b : Nat) (d0 d : Array α) (w0 w : World) (hc : OrdW s enc cf blk d0.size w0) (R : Row1 enc w0 blk 0 d0) (hs : d0.size = d.size) (S : SW enc w0 blk 0 d w) (hab : a < b) (hb : b ≤ d.size) (hsz : d.size ≤ 1000000) :
    Calls Try.prog 90 #[.slice (some ⟨blk, 0, none⟩) d.size cap, .int .i64 a, .int .i64 b, .func (.func 57) #[.pointer (some ⟨s, 0, none⟩)] #[]] w fun e w' =>
      ∃ (p : Nat) (h : Int), e = .returned (.tuple #[.int .i64 p, .int .i64 h]) ∧ a ≤ p ∧ p < b ∧ (h = 0 ∨ h = 1 ∨ h = 2) ∧ SW enc w0 blk 0 d w' := by
  have HC := Lib.hid hc
  obtain ⟨c, ec⟩ : ∃ c, c = w.heap.size := ⟨_, rfl⟩
  obtain ⟨wa, ewa⟩ : ∃ wa : World, wa = w.alloc (.cells #[.int .i64 0] 3) := ⟨_, rfl⟩
  have C0 : Hid (CW enc w0 blk d c wa) := (show Hid _ from by rw [ec, ewa]; exact CW.start S _)
  have HWa : Hid (w.alloc (.cells #[.int .i64 0] 3) = wa) := (show Hid _ from ewa.symm)
  have HEc := Lib.hid ec
  clear ec ewa S hc
  obtain ⟨l, hl⟩ : ∃ l : Nat, l = b - a := ⟨_, rfl⟩
  obtain ⟨q, hq⟩ : ∃ q : Nat, q = l / 4 := ⟨_, rfl⟩
  have el : (b : Int) - (a : Int) = (l : Int) := by omega
  have eq4 : (l : Int) / 4 = (q : Int) := by omega
  have hq4 : 4 * q ≤ l := by omega
  have hq5 : l < 4 * q + 4 := by omega
  have hlb1 : l + a ≤ b := by omega
  have hlb2 : b ≤ l + a := by omega
  clear hl hq
  go_enter Try.func90, Try.ntmps90
  go_upto_region 3 with fail
  rw [HWa.out, ← HEc.out]
  by_cases h8 : 8 ≤ l
  · have h8z : decide ((8 : Int) ≤ (l : Int)) = true := decide_eq_true (by omega)
    have h8n : decide (8 ≤ l) = true := decide_eq_true h8
    by_cases h50 : 50 ≤ l
    · have h50z : decide ((50 : Int) ≤ (l : Int)) = true := decide_eq_true (by omega)
      have h50n : decide (50 ≤ l) = true := decide_eq_true h50
      have hm1 := fun W (h : CW enc w0 blk d c W) => medianAdj_any s enc cf blk cap (a + q) c d0 d w0 W HC.out R hs h (by omega) (by omega) hsz
      have hm2 := fun W (h : CW enc w0 blk d c W) => medianAdj_any s enc cf blk cap (a + q * 2) c d0 d w0 W HC.out R hs h (by omega) (by omega) hsz
      have hm3 := fun W (h : CW enc w0 blk d c W) => medianAdj_any s enc cf blk cap (a + q * 3) c d0 d w0 W HC.out R hs h (by omega) (by omega) hsz
      have c1 : ((a + q : Nat) : Int) = (a : Int) + (q : Int) := by omega
      have c2 : ((a + q * 2 : Nat) : Int) = (a : Int) + (q : Int) * 2 := by omega
      have c3 : ((a + q * 3 : Nat) : Int) = (a : Int) + (q : Int) * 3 := by omega
      rw [c1] at hm1
      rw [c2] at hm2
      rw [c3] at hm3
      have H1 := Lib.hid hm1
      have H2 := Lib.hid hm2
      have H3 := Lib.hid hm3
      clear hm1 hm2 hm3 c1 c2 c3
      go_wp2_with fail
      (with_reducible refine (H1.out _ C0.out).mono ?_)
      rintro e w1 ⟨x1, rfl, hx1a, hx1b, hC1⟩
      have C1 := Lib.hid hC1
      clear hC1
      go_wp2_with fail
      (with_reducible refine (H2.out _ C1.out).mono ?_)
      rintro e w2 ⟨x2, rfl, hx2a, hx2b, hC2⟩
      have C2 := Lib.hid hC2
      clear hC2
      go_wp2_with fail
      (with_reducible refine (H3.out _ C2.out).mono ?_)
      rintro e w3 ⟨x3, rfl, hx3a, hx3b, hC3⟩
      have C3 := Lib.hid hC3
      clear hC3
      go_wp2_with fail
      (with_reducible refine (median_any s enc cf blk cap x1 x2 x3 c d0 d w0 w3 HC.out R hs C3.out (by omega) (by omega) (by omega) hsz).mono ?_)
      rintro e w4 ⟨m, rfl, hm, hC4⟩
      have hma : a ≤ m := by omega
      have hmb : m < b := by omega
      have C4 := Lib.hid hC4
      clear hC4 H1 H2 H3
      obtain ⟨z, hz⟩ := C4.out.ce
      have S9 : Hid (SW enc w0 blk 0 d _) := (show Hid _ from C4.out.sw)
      clear C4
      by_cases z0 : z = 0
      · have z1 : (z == 0) = true := by rw [beq_iff_eq]; exact z0
        subst z0
        go_wp2_with fail
        refine bodyPost_ret (v := .tuple #[.int .i64 m, .int .i64 1]) (by simp [results, Try.results90, go_sem]) rfl ?_
        exact ⟨m, 1, rfl, hma, hmb, by omega, S9.out⟩
      · have z1 : (z == 0) = false := by rw [beq_eq_false_iff_ne]; exact z0
        by_cases z2 : z = 12
        · have z3 : (z == 12) = true := by rw [beq_iff_eq]; exact z2
          subst z2
          go_wp2_with fail
          refine bodyPost_ret (v := .tuple #[.int .i64 m, .int .i64 2]) (by simp [results, Try.results90, go_sem]) rfl ?_
          exact ⟨m, 2, rfl, hma, hmb, by omega, S9.out⟩
        · have z3 : (z == 12) = false := by rw [beq_eq_false_iff_ne]; exact z2
          go_wp2_with fail
          refine bodyPost_ret (v := .tuple #[.int .i64 m, .int .i64 0]) (by simp [results, Try.results90, go_sem]) rfl ?_
          exact ⟨m, 0, rfl, hma, hmb, by omega, S9.out⟩
    · have h50z : decide ((50 : Int) ≤ (l : Int)) = false := decide_eq_false (by omega)
      have h50n : decide (50 ≤ l) = false := decide_eq_false h50
      have hm1 := fun W (h : CW enc w0 blk d c W) => median_any s enc cf blk cap (a + q) (a + q * 2) (a + q * 3) c d0 d w0 W HC.out R hs h (by omega) (by omega) (by omega) hsz
      have c1 : ((a + q : Nat) : Int) = (a : Int) + (q : Int) := by omega
      have c2 : ((a + q * 2 : Nat) : Int) = (a : Int) + (q : Int) * 2 := by omega
      have c3 : ((a + q * 3 : Nat) : Int) = (a : Int) + (q : Int) * 3 := by omega
      rw [c1, c2, c3] at hm1
      have H1 := Lib.hid hm1
      clear hm1 c1 c2 c3
      go_wp2_with fail
      (with_reducible refine (H1.out _ C0.out).mono ?_)
      rintro e w4 ⟨m, rfl, hm, hC4⟩
      have hma : a ≤ m := by omega
      have hmb : m < b := by omega
      have C4 := Lib.hid hC4
      clear hC4 H1
      obtain ⟨z, hz⟩ := C4.out.ce
      have S9 : Hid (SW enc w0 blk 0 d _) := (show Hid _ from C4.out.sw)
      clear C4
      by_cases z0 : z = 0
      · have z1 : (z == 0) = true := by rw [beq_iff_eq]; exact z0
        subst z0
        go_wp2_with fail
        refine bodyPost_ret (v := .tuple #[.int .i64 m, .int .i64 1]) (by simp [results, Try.results90, go_sem]) rfl ?_
        exact ⟨m, 1, rfl, hma, hmb, by omega, S9.out⟩
      · have z1 : (z == 0) = false := by rw [beq_eq_false_iff_ne]; exact z0
        by_cases z2 : z = 12
        · have z3 : (z == 12) = true := by rw [beq_iff_eq]; exact z2
          subst z2
          go_wp2_with fail
          refine bodyPost_ret (v := .tuple #[.int .i64 m, .int .i64 2]) (by simp [results, Try.results90, go_sem]) rfl ?_
          exact ⟨m, 2, rfl, hma, hmb, by omega, S9.out⟩
        · have z3 : (z == 12) = false := by rw [beq_eq_false_iff_ne]; exact z2
          go_wp2_with fail
          refine bodyPost_ret (v := .tuple #[.int .i64 m, .int .i64 0]) (by simp [results, Try.results90, go_sem]) rfl ?_
          exact ⟨m, 0, rfl, hma, hmb, by omega, S9.out⟩
  · have h8z : decide ((8 : Int) ≤ (l : Int)) = false := decide_eq_false (by omega)
    have h8n : decide (8 ≤ l) = false := decide_eq_false h8
    obtain ⟨m, hm⟩ : ∃ m : Nat, m = a + q * 2 := ⟨_, rfl⟩
    have hma : a ≤ m := by omega
    have hmb : m < b := by omega
    have hmz : (a : Int) + (q : Int) * 2 = (m : Int) := by omega
    clear hm
    obtain ⟨z, hz⟩ := C0.out.ce
    have S9 : Hid (SW enc w0 blk 0 d _) := (show Hid _ from C0.out.sw)
    clear C0
    by_cases z0 : z = 0
    · have z1 : (z == 0) = true := by rw [beq_iff_eq]; exact z0
      subst z0
      go_wp2_with fail
      refine bodyPost_ret (v := .tuple #[.int .i64 m, .int .i64 1]) (by simp [results, Try.results90, go_sem]) rfl ?_
      exact ⟨m, 1, rfl, hma, hmb, by omega, S9.out⟩
    · have z1 : (z == 0) = false := by rw [beq_eq_false_iff_ne]; exact z0
      by_cases z2 : z = 12
      · have z3 : (z == 12) = true := by rw [beq_iff_eq]; exact z2
        subst z2
        go_wp2_with fail
        refine bodyPost_ret (v := .tuple #[.int .i64 m, .int .i64 2]) (by simp [results, Try.results90, go_sem]) rfl ?_
        exact ⟨m, 2, rfl, hma, hmb, by omega, S9.out⟩
      · have z3 : (z == 12) = false := by rw [beq_eq_false_iff_ne]; exact z2
        go_wp2_with fail
        refine bodyPost_ret (v := .tuple #[.int .i64 m, .int .i64 0]) (by simp [results, Try.results90, go_sem]) rfl ?_
        exact ⟨m, 0, rfl, hma, hmb, by omega, S9.out⟩
end Go.Proofs.Ytbgabipngdillaa
