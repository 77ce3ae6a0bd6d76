/- Joined: Ta. -/
import Derived.Test.YtbgabipngdillaaJ11
import Derived.Test.YtbgabipngdillaaJ15
namespace Go.Proofs.Ytbgabipngdillaa
open Go.RowKit Go.Shelf

theorem cmpI_anti (a b : List Int) : ∀ (n i : Nat), cmpI b a n i = - cmpI a b n i
  | 0, _ => rfl
  | n + 1, i => by
    have ih := cmpI_anti a b n (i + 1)
    unfold cmpI
    by_cases h1 : gd a i < gd b i
    · rw [if_neg (by omega), if_pos h1, if_pos h1]; omega
    · by_cases h2 : gd b i < gd a i
      · rw [if_pos h2, if_neg h1, if_pos h2]
      · rw [if_neg h2, if_neg h1, if_neg h1, if_neg h2]; exact ih
theorem cmpV_anti (a b : List Int) : cmpV b a = - cmpV a b := by
  unfold cmpV
  rw [Nat.max_comm]
  exact cmpI_anti a b _ _
theorem at10_any (l : List Int) (k : Nat) (v : Value) (w : World) (h : SI w v l) (hl : l.length ≤ 1000000) :
    Calls Try.prog 47 #[v, .int .i64 k] w fun e w' => e = .returned (.int .i64 (gd l k)) ∧ w = w' := by
  obtain ⟨A, c, rfl, hcc, hm, hr, ha⟩ := h
  have HA := Lib.hid ha
  clear hr ha
  go_enter Try.func47, Try.ntmps47
  by_cases hlt : k < l.length
  · obtain ⟨b, off, rfl, hb, hcell⟩ := HA.out (by omega)
    have hck := hcell k hlt
    clear hcell
    have hd1 : decide ((k : Int) < (l.length : Int)) = true := decide_eq_true (by omega)
    have hd2 : decide (k < l.length) = true := decide_eq_true hlt
    go_wp2_with fail
    go_ret
    exact ⟨by simp [gd, hlt], rfl⟩
  · have hd1 : decide ((k : Int) < (l.length : Int)) = false := decide_eq_false (by omega)
    have hd2 : decide (k < l.length) = false := decide_eq_false hlt
    go_wp2_with fail
    go_ret
    exact ⟨by simp [gd, hlt], rfl⟩

theorem less10_any (a b : List Int) (va vb : Value) (w : World) (ha : SI w va a) (hb : SI w vb b) (hla : a.length ≤ 1000000) (hlb : b.length ≤ 1000000) :
    Calls Try.prog 27 #[va, vb] w fun e w' => e = .returned (.bool (decide (cmpV a b < 0))) ∧ w = w' := by
  have HSA := Lib.hid ha
  have HSB := Lib.hid hb
  obtain ⟨A, ca, rfl⟩ := ha.form
  obtain ⟨B, cb, rfl⟩ := hb.form
  clear ha hb
  obtain ⟨m, hm⟩ : ∃ m, m = max a.length b.length := ⟨_, rfl⟩
  have HN : Hid (cmpV a b = cmpI a b m 0) := by show _ = _; unfold cmpV; rw [hm]
  have hma : a.length ≤ m ∧ b.length ≤ m ∧ (m ≤ a.length ∨ m ≤ b.length) := by omega
  clear hm
  obtain ⟨la, ela⟩ : ∃ la, la = a.length := ⟨_, rfl⟩
  obtain ⟨lb, elb⟩ : ∃ lb, lb = b.length := ⟨_, rfl⟩
  have HLA : Hid (la = a.length) := ela
  have HLB : Hid (lb = b.length) := elb
  rw [← ela] at HSA hla hma ⊢
  rw [← elb] at HSB hlb hma ⊢
  clear ela elb
  go_enter Try.func27, Try.ntmps27
  go_wp2_with fail
  go_loopw [5] (fun i wr => ∃ k : Nat, k ≤ m ∧ i = .int .i64 k ∧ Hid (cmpV a b = cmpI a b (m - k) k) ∧ wr = w) (fun i _ => m - (intOf i).toNat)
  case atStart => exact ⟨0, Nat.zero_le _, rfl, HN, rfl⟩
  case round =>
    obtain ⟨k, hk, rfl, HR, rfl⟩ := hrel
    by_cases hlt : k < m
    · have HC : Hid (cmpV a b = if gd a k < gd b k then -1 else if gd b k < gd a k then 1 else cmpI a b (m - (k + 1)) (k + 1)) := by
        show _ = _
        rw [HR.out, show m - k = m - (k + 1) + 1 by omega]
        rfl
      have body : ∀ x y : Bool, True := fun _ _ => trivial
      obtain ⟨x, ex⟩ : ∃ x, x = gd a k := ⟨_, rfl⟩
      obtain ⟨y, ey⟩ : ∃ y, y = gd b k := ⟨_, rfl⟩
      rw [← ex, ← ey] at HC
      have HX := Lib.hid ex
      have HY := Lib.hid ey
      clear ex ey body
      obtain ⟨d1, e1⟩ : ∃ d1, d1 = decide ((k : Int) < (la : Int)) := ⟨_, rfl⟩
      obtain ⟨d2, e2⟩ : ∃ d2, d2 = decide ((k : Int) < (lb : Int)) := ⟨_, rfl⟩
      have e3 : decide (k < la) = d1 := by rw [e1]; apply decide_eq_decide.2; omega
      have e4 : decide (k < lb) = d2 := by rw [e2]; apply decide_eq_decide.2; omega
      have hor : (d1 || d2) = true := by rw [← e3, ← e4, ← Bool.decide_or]; apply decide_eq_true; omega
      replace e1 := e1.symm
      replace e2 := e2.symm
      cases d1 <;> cases d2
      · cases hor
      all_goals
        go_wp2_with fail
        (with_reducible refine (at10_any a k _ _ HSA.out (by rw [← HLA.out]; omega)).mono ?_)
        rintro e w' ⟨rfl, hw⟩
        subst hw
        rw [← HX.out]
        go_wp2_with fail
        (with_reducible refine (at10_any b k _ _ HSB.out (by rw [← HLB.out]; omega)).mono ?_)
        rintro e w' ⟨rfl, hw⟩
        subst hw
        rw [← HY.out]
        by_cases hxy : x = y
        · have hn : (x != y) = false := by rw [bne_eq_false_iff_eq]; exact hxy
          have HV2 : Hid (cmpV a b = cmpI a b (m - (k + 1)) (k + 1)) := by
            show _ = _
            have := HC.out
            rw [if_neg (by omega), if_neg (by omega)] at this
            exact this
          clear hn
          subst hxy
          go_wp2_with fail
          go_roundw
          case rel => exact ⟨k + 1, by omega, by go_num, HV2, by first | trivial | rfl⟩
          case measure => simp [intOf]; omega
        · have hn : (x != y) = true := by rw [bne_iff_ne]; exact hxy
          have HV2 : Hid (decide (cmpV a b < 0) = decide (x < y)) := by
            show _ = _
            rw [HC.out]
            apply decide_eq_decide.2
            by_cases h1 : x < y
            · rw [if_pos h1]; omega
            · rw [if_neg h1, if_pos (by omega)]; omega
          clear hxy
          go_wp2_with fail
          (with_reducible refine (at10_any a k _ _ HSA.out (by rw [← HLA.out]; omega)).mono ?_)
          rintro e w' ⟨rfl, hw⟩
          subst hw
          rw [← HX.out]
          go_wp2_with fail
          (with_reducible refine (at10_any b k _ _ HSB.out (by rw [← HLB.out]; omega)).mono ?_)
          rintro e w' ⟨rfl, hw⟩
          subst hw
          rw [← HY.out]
          go_wp2_with fail
          go_ret
          exact ⟨by rw [HV2.out] <;> rfl, rfl⟩
    · have hkk : k = m := by omega
      have HF : Hid (decide (cmpV a b < 0) = false) := by show _ = _; rw [HR.out, hkk, Nat.sub_self]; rfl
      have e1 : decide ((k : Int) < (la : Int)) = false := decide_eq_false (by omega)
      have e2 : decide ((k : Int) < (lb : Int)) = false := decide_eq_false (by omega)
      have e3 : decide (k < la) = false := decide_eq_false (by omega)
      have e4 : decide (k < lb) = false := decide_eq_false (by omega)
      clear hkk
      go_wp2_with fail
      go_ret
      exact ⟨by rw [HF.out] <;> rfl, rfl⟩
theorem same10_any (a b : List Int) (va vb : Value) (w : World) (ha : SI w va a) (hb : SI w vb b) (hla : a.length ≤ 1000000) (hlb : b.length ≤ 1000000) :
    Calls Try.prog 82 #[va, vb] w fun e w' => e = .returned (.bool (decide (cmpV a b = 0))) ∧ w = w' := by
  have HSA := Lib.hid ha
  have HSB := Lib.hid hb
  obtain ⟨A, ca, rfl⟩ := ha.form
  obtain ⟨B, cb, rfl⟩ := hb.form
  clear ha hb
  have HAS : Hid (decide (cmpV a b = 0) = (!decide (cmpV a b < 0) && !decide (cmpV b a < 0))) := (show Hid _ from by
    show _ = _
    have h := cmpV_anti a b
    rw [h]
    by_cases h1 : cmpV a b < 0
    · rw [decide_eq_true h1, decide_eq_false (by omega)]; rfl
    · rw [decide_eq_false h1]
      by_cases h2 : -cmpV a b < 0
      · rw [decide_eq_true h2, decide_eq_false (by omega)]; rfl
      · rw [decide_eq_false h2, decide_eq_true (by omega)]; rfl)
  obtain ⟨la, ela⟩ : ∃ la, la = a.length := ⟨_, rfl⟩
  obtain ⟨lb, elb⟩ : ∃ lb, lb = b.length := ⟨_, rfl⟩
  have HLA : Hid (la = a.length) := ela
  have HLB : Hid (lb = b.length) := elb
  rw [← ela] at HSA hla ⊢
  rw [← elb] at HSB hlb ⊢
  clear ela elb
  go_enter Try.func82, Try.ntmps82
  go_wp2_with fail
  (with_reducible refine (less10_any a b _ _ _ HSA.out HSB.out (by rw [← HLA.out]; omega) (by rw [← HLB.out]; omega)).mono ?_)
  rintro e w' ⟨rfl, hw⟩
  subst hw
  obtain ⟨d1, e1⟩ : ∃ d1, d1 = decide (cmpV a b < 0) := ⟨_, rfl⟩
  rw [← e1] at HAS ⊢
  clear e1
  cases d1
  · go_wp2_with fail
    (with_reducible refine (less10_any b a _ _ _ HSB.out HSA.out (by rw [← HLB.out]; omega) (by rw [← HLA.out]; omega)).mono ?_)
    rintro e w' ⟨rfl, hw⟩
    subst hw
    obtain ⟨d2, e2⟩ : ∃ d2, d2 = decide (cmpV b a < 0) := ⟨_, rfl⟩
    rw [← e2] at HAS ⊢
    clear e2
    cases d2
    · go_wp2_with fail
      go_ret
      exact ⟨by rw [HAS.out] <;> rfl, rfl⟩
    · go_wp2_with fail
      go_ret
      exact ⟨by rw [HAS.out] <;> rfl, rfl⟩
  · go_wp2_with fail
    go_ret
    exact ⟨by rw [HAS.out] <;> rfl, rfl⟩
end Go.Proofs.Ytbgabipngdillaa
