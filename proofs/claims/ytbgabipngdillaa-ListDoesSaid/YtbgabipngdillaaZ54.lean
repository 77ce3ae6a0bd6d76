/- Joined: Ta Tb Td. -/
import Derived.Test.YtbgabipngdillaaZ07
import Derived.Test.YtbgabipngdillaaZ20
import Derived.Test.YtbgabipngdillaaZ36
import Derived.Test.YtbgabipngdillaaZ51
import Derived.Test.YtbgabipngdillaaZ52
namespace Go.Proofs.Ytbgabipngdillaa
open Go.RowKit Go.Shelf

theorem cmpI_anti (a b : List Int) : ∀ (n i : Nat), cmpI b a n i = - cmpI a b n i
  | 0, _ => rfl
  | n + 1, i => by
    have ih := cmpI_anti a b n (i + 1)
    unfold cmpI
    by_cases h1 : gd a i < gd b i
    · rw [if_neg (by omega), if_pos h1, if_pos h1]; omega
    · by_cases h2 : gd b i < gd a i
      · rw [if_pos h2, if_neg h1, if_pos h2]
      · rw [if_neg h2, if_neg h1, if_neg h1, if_neg h2]; exact ih
theorem cmpV_anti (a b : List Int) : cmpV b a = - cmpV a b := by
  unfold cmpV
  rw [Nat.max_comm]
  exact cmpI_anti a b _ _
theorem at10_any (l : List Int) (k : Nat) (v : Value) (w : World) (h : SI w v l) (hl : l.length ≤ 1000000) :
    Calls Try.prog 47 #[v, .int .i64 k] w fun e w' => e = .returned (.int .i64 (gd l k)) ∧ w = w' := by
  obtain ⟨A, c, rfl, hcc, hm, hr, ha⟩ := h
  have HA := Lib.hid ha
  clear hr ha
  go_enter Try.func47, Try.ntmps47
  by_cases hlt : k < l.length
  · obtain ⟨b, off, rfl, hb, hcell⟩ := HA.out (by omega)
    have hck := hcell k hlt
    clear hcell
    have hd1 : decide ((k : Int) < (l.length : Int)) = true := decide_eq_true (by omega)
    have hd2 : decide (k < l.length) = true := decide_eq_true hlt
    go_wp2_with fail
    go_ret
    exact ⟨by simp [gd, hlt], rfl⟩
  · have hd1 : decide ((k : Int) < (l.length : Int)) = false := decide_eq_false (by omega)
    have hd2 : decide (k < l.length) = false := decide_eq_false hlt
    go_wp2_with fail
    go_ret
    exact ⟨by simp [gd, hlt], rfl⟩

theorem less10_any (a b : List Int) (va vb : Value) (w : World) (ha : SI w va a) (hb : SI w vb b) (hla : a.length ≤ 1000000) (hlb : b.length ≤ 1000000) :
    Calls Try.prog 27 #[va, vb] w fun e w' => e = .returned (.bool (decide (cmpV a b < 0))) ∧ w = w' := by
  have HSA := Lib.hid ha
  have HSB := Lib.hid hb
  obtain ⟨A, ca, rfl⟩ := ha.form
  obtain ⟨B, cb, rfl⟩ := hb.form
  clear ha hb
  obtain ⟨m, hm⟩ : ∃ m, m = max a.length b.length := ⟨_, rfl⟩
  have HN : Hid (cmpV a b = cmpI a b m 0) := by show _ = _; unfold cmpV; rw [hm]
  have hma : a.length ≤ m ∧ b.length ≤ m ∧ (m ≤ a.length ∨ m ≤ b.length) := by omega
  clear hm
  obtain ⟨la, ela⟩ : ∃ la, la = a.length := ⟨_, rfl⟩
  obtain ⟨lb, elb⟩ : ∃ lb, lb = b.length := ⟨_, rfl⟩
  have HLA : Hid (la = a.length) := ela
  have HLB : Hid (lb = b.length) := elb
  rw [← ela] at HSA hla hma ⊢
  rw [← elb] at HSB hlb hma ⊢
  clear ela elb
  go_enter Try.func27, Try.ntmps27
  go_wp2_with fail
  go_loopw [5] (fun i wr => ∃ k : Nat, k ≤ m ∧ i = .int .i64 k ∧ Hid (cmpV a b = cmpI a b (m - k) k) ∧ wr = w) (fun i _ => m - (intOf i).toNat)
  case atStart => exact ⟨0, Nat.zero_le _, rfl, HN, rfl⟩
  case round =>
    obtain ⟨k, hk, rfl, HR, rfl⟩ := hrel
    by_cases hlt : k < m
    · have HC : Hid (cmpV a b = if gd a k < gd b k then -1 else if gd b k < gd a k then 1 else cmpI a b (m - (k + 1)) (k + 1)) := by
        show _ = _
        rw [HR.out, show m - k = m - (k + 1) + 1 by omega]
        rfl
      have body : ∀ x y : Bool, True := fun _ _ => trivial
      obtain ⟨x, ex⟩ : ∃ x, x = gd a k := ⟨_, rfl⟩
      obtain ⟨y, ey⟩ : ∃ y, y = gd b k := ⟨_, rfl⟩
      rw [← ex, ← ey] at HC
      have HX := Lib.hid ex
      have HY := Lib.hid ey
      clear ex ey body
      obtain ⟨d1, e1⟩ : ∃ d1, d1 = decide ((k : Int) < (la : Int)) := ⟨_, rfl⟩
      obtain ⟨d2, e2⟩ : ∃ d2, d2 = decide ((k : Int) < (lb : Int)) := ⟨_, rfl⟩
      have e3 : decide (k < la) = d1 := by rw [e1]; apply decide_eq_decide.2; omega
      have e4 : decide (k < lb) = d2 := by rw [e2]; apply decide_eq_decide.2; omega
      have hor : (d1 || d2) = true := by rw [← e3, ← e4, ← Bool.decide_or]; apply decide_eq_true; omega
      replace e1 := e1.symm
      replace e2 := e2.symm
      cases d1 <;> cases d2
      · cases hor
      all_goals
        go_wp2_with fail
        (with_reducible refine (at10_any a k _ _ HSA.out (by rw [← HLA.out]; omega)).mono ?_)
        rintro e w' ⟨rfl, hw⟩
        subst hw
        rw [← HX.out]
        go_wp2_with fail
        (with_reducible refine (at10_any b k _ _ HSB.out (by rw [← HLB.out]; omega)).mono ?_)
        rintro e w' ⟨rfl, hw⟩
        subst hw
        rw [← HY.out]
        by_cases hxy : x = y
        · have hn : (x != y) = false := by rw [bne_eq_false_iff_eq]; exact hxy
          have HV2 : Hid (cmpV a b = cmpI a b (m - (k + 1)) (k + 1)) := by
            show _ = _
            have := HC.out
            rw [if_neg (by omega), if_neg (by omega)] at this
            exact this
          clear hn
          subst hxy
          go_wp2_with fail
          go_roundw
          case rel => exact ⟨k + 1, by omega, by go_num, HV2, by first | trivial | rfl⟩
          case measure => simp [intOf]; omega
        · have hn : (x != y) = true := by rw [bne_iff_ne]; exact hxy
          have HV2 : Hid (decide (cmpV a b < 0) = decide (x < y)) := by
            show _ = _
            rw [HC.out]
            apply decide_eq_decide.2
            by_cases h1 : x < y
            · rw [if_pos h1]; omega
            · rw [if_neg h1, if_pos (by omega)]; omega
          clear hxy
          go_wp2_with fail
          (with_reducible refine (at10_any a k _ _ HSA.out (by rw [← HLA.out]; omega)).mono ?_)
          rintro e w' ⟨rfl, hw⟩
          subst hw
          rw [← HX.out]
          go_wp2_with fail
          (with_reducible refine (at10_any b k _ _ HSB.out (by rw [← HLB.out]; omega)).mono ?_)
          rintro e w' ⟨rfl, hw⟩
          subst hw
          rw [← HY.out]
          go_wp2_with fail
          go_ret
          exact ⟨by rw [HV2.out] <;> rfl, rfl⟩
    · have hkk : k = m := by omega
      have HF : Hid (decide (cmpV a b < 0) = false) := by show _ = _; rw [HR.out, hkk, Nat.sub_self]; rfl
      have e1 : decide ((k : Int) < (la : Int)) = false := decide_eq_false (by omega)
      have e2 : decide ((k : Int) < (lb : Int)) = false := decide_eq_false (by omega)
      have e3 : decide (k < la) = false := decide_eq_false (by omega)
      have e4 : decide (k < lb) = false := decide_eq_false (by omega)
      clear hkk
      go_wp2_with fail
      go_ret
      exact ⟨by rw [HF.out] <;> rfl, rfl⟩
theorem same10_any (a b : List Int) (va vb : Value) (w : World) (ha : SI w va a) (hb : SI w vb b) (hla : a.length ≤ 1000000) (hlb : b.length ≤ 1000000) :
    Calls Try.prog 82 #[va, vb] w fun e w' => e = .returned (.bool (decide (cmpV a b = 0))) ∧ w = w' := by
  have HSA := Lib.hid ha
  have HSB := Lib.hid hb
  obtain ⟨A, ca, rfl⟩ := ha.form
  obtain ⟨B, cb, rfl⟩ := hb.form
  clear ha hb
  have HAS : Hid (decide (cmpV a b = 0) = (!decide (cmpV a b < 0) && !decide (cmpV b a < 0))) := (show Hid _ from by
    show _ = _
    have h := cmpV_anti a b
    rw [h]
    by_cases h1 : cmpV a b < 0
    · rw [decide_eq_true h1, decide_eq_false (by omega)]; rfl
    · rw [decide_eq_false h1]
      by_cases h2 : -cmpV a b < 0
      · rw [decide_eq_true h2, decide_eq_false (by omega)]; rfl
      · rw [decide_eq_false h2, decide_eq_true (by omega)]; rfl)
  obtain ⟨la, ela⟩ : ∃ la, la = a.length := ⟨_, rfl⟩
  obtain ⟨lb, elb⟩ : ∃ lb, lb = b.length := ⟨_, rfl⟩
  have HLA : Hid (la = a.length) := ela
  have HLB : Hid (lb = b.length) := elb
  rw [← ela] at HSA hla ⊢
  rw [← elb] at HSB hlb ⊢
  clear ela elb
  go_enter Try.func82, Try.ntmps82
  go_wp2_with fail
  (with_reducible refine (less10_any a b _ _ _ HSA.out HSB.out (by rw [← HLA.out]; omega) (by rw [← HLB.out]; omega)).mono ?_)
  rintro e w' ⟨rfl, hw⟩
  subst hw
  obtain ⟨d1, e1⟩ : ∃ d1, d1 = decide (cmpV a b < 0) := ⟨_, rfl⟩
  rw [← e1] at HAS ⊢
  clear e1
  cases d1
  · go_wp2_with fail
    (with_reducible refine (less10_any b a _ _ _ HSB.out HSA.out (by rw [← HLB.out]; omega) (by rw [← HLA.out]; omega)).mono ?_)
    rintro e w' ⟨rfl, hw⟩
    subst hw
    obtain ⟨d2, e2⟩ : ∃ d2, d2 = decide (cmpV b a < 0) := ⟨_, rfl⟩
    rw [← e2] at HAS ⊢
    clear e2
    cases d2
    · go_wp2_with fail
      go_ret
      exact ⟨by rw [HAS.out] <;> rfl, rfl⟩
    · go_wp2_with fail
      go_ret
      exact ⟨by rw [HAS.out] <;> rfl, rfl⟩
  · go_wp2_with fail
    go_ret
    exact ⟨by rw [HAS.out] <;> rfl, rfl⟩
end Go.Proofs.Ytbgabipngdillaa

namespace Go.Proofs.Ytbgabipngdillaa
open Go.RowKit Go.Shelf

def putI : List (List Int) → List Int → Nat
  | [], _ => 0
  | q :: t, p => if cmpV q p < 0 then putI t p + 1 else 0
def putL : List (List Int) → List Int → List (List Int)
  | [], p => [p]
  | q :: t, p => if cmpV q p < 0 then q :: putL t p else if cmpV q p = 0 then q :: t else p :: q :: t
theorem putI_le (p : List Int) : ∀ ps : List (List Int), putI ps p ≤ ps.length
  | [] => Nat.le_refl _
  | q :: t => by
    have := putI_le p t
    unfold putI
    split <;> simp <;> omega
theorem putI_lt (p : List Int) : ∀ (ps : List (List Int)) (j : Nat) (h : j < ps.length), j < putI ps p → cmpV ps[j] p < 0
  | q :: t, j, h, hj => by
    unfold putI at hj
    by_cases hq : cmpV q p < 0
    · rw [if_pos hq] at hj
      cases j with
      | zero => exact hq
      | succ j => exact putI_lt p t j (by simp at h; omega) (by omega)
    · rw [if_neg hq] at hj; omega
theorem putI_ge (p : List Int) : ∀ (ps : List (List Int)) (h : putI ps p < ps.length), ¬ cmpV ps[putI ps p] p < 0
  | q :: t, h => by
    by_cases hq : cmpV q p < 0
    · have e : putI (q :: t) p = putI t p + 1 := by show (if cmpV q p < 0 then _ else _) = _; rw [if_pos hq]
      have h2 : putI t p < t.length := by rw [e] at h; simp at h; omega
      have := putI_ge p t h2
      simpa [e] using this
    · have e : putI (q :: t) p = 0 := by show (if cmpV q p < 0 then _ else _) = _; rw [if_neg hq]
      simpa [e] using hq
theorem putL_same (p : List Int) : ∀ (ps : List (List Int)) (h : putI ps p < ps.length), cmpV ps[putI ps p] p = 0 → putL ps p = ps
  | q :: t, h, e0 => by
    by_cases hq : cmpV q p < 0
    · have e : putI (q :: t) p = putI t p + 1 := by show (if cmpV q p < 0 then _ else _) = _; rw [if_pos hq]
      have h2 : putI t p < t.length := by rw [e] at h; simp at h; omega
      have := putL_same p t h2 (by simpa [e] using e0)
      show (if cmpV q p < 0 then _ else _) = _
      rw [if_pos hq, this]
    · have e : putI (q :: t) p = 0 := by show (if cmpV q p < 0 then _ else _) = _; rw [if_neg hq]
      have e1 : cmpV q p = 0 := by simpa [e] using e0
      show (if cmpV q p < 0 then _ else _) = _
      rw [if_neg hq, if_pos e1]
theorem putL_new (p : List Int) : ∀ (ps : List (List Int)), (∀ h : putI ps p < ps.length, cmpV ps[putI ps p] p ≠ 0) → putL ps p = ps.take (putI ps p) ++ p :: ps.drop (putI ps p)
  | [], _ => rfl
  | q :: t, h => by
    by_cases hq : cmpV q p < 0
    · have e : putI (q :: t) p = putI t p + 1 := by show (if cmpV q p < 0 then _ else _) = _; rw [if_pos hq]
      have := putL_new p t (fun h2 => by
        have := h (by rw [e]; simp; omega)
        simpa [e] using this)
      rw [e]
      show (if cmpV q p < 0 then _ else _) = _
      rw [if_pos hq, this]
      rfl
    · have e : putI (q :: t) p = 0 := by show (if cmpV q p < 0 then _ else _) = _; rw [if_neg hq]
      have e1 : cmpV q p ≠ 0 := by
        have := h (by rw [e]; simp)
        simpa [e] using this
      rw [e]
      show (if cmpV q p < 0 then _ else _) = _
      rw [if_neg hq, if_neg e1]
      rfl
theorem trim_cmp {p q : List Int} (hp : trim p = p) (hq : trim q = q) (h : cmpV q p = 0) : q = p := by
  have := eqz_trim ((cmpV_eq q p).1 h)
  rwa [hp, hq] at this
theorem putL_mem {p : List Int} (hp : trim p = p) (x : List Int) : ∀ ps : List (List Int), (∀ q ∈ ps, trim q = q) → (x ∈ putL ps p ↔ x ∈ ps ∨ x = p)
  | [], _ => by simp [putL]
  | q :: t, h => by
    have ih := putL_mem hp x t (fun r hr => h r (List.mem_cons_of_mem _ hr))
    unfold putL
    by_cases hq : cmpV q p < 0
    · rw [if_pos hq, List.mem_cons, ih, List.mem_cons, or_assoc]
    · rw [if_neg hq]
      by_cases h0 : cmpV q p = 0
      · rw [if_pos h0]
        have e := trim_cmp hp (h q (List.mem_cons_self ..)) h0
        constructor
        · exact fun h => .inl h
        · rintro (h | h)
          · exact h
          · rw [h, ← e]; exact List.mem_cons_self ..
      · rw [if_neg h0, List.mem_cons, or_comm]
theorem putL_trim {p : List Int} (hp : trim p = p) {ps : List (List Int)} (h : ∀ q ∈ ps, trim q = q) : ∀ q ∈ putL ps p, trim q = q := fun q hq => by
  rcases (putL_mem hp q ps h).1 hq with h1 | h1
  · exact h q h1
  · rw [h1, hp]
theorem putL_asc {p : List Int} (hp : trim p = p) : ∀ ps : List (List Int), (∀ q ∈ ps, trim q = q) → Asc ps → Asc (putL ps p)
  | [], _, _ => List.pairwise_singleton _ _
  | q :: t, h, ha => by
    have ht : ∀ r ∈ t, trim r = r := fun r hr => h r (List.mem_cons_of_mem _ hr)
    have ha2 := List.pairwise_cons.1 ha
    have ih := putL_asc hp t ht ha2.2
    unfold putL
    by_cases hq : cmpV q p < 0
    · rw [if_pos hq]
      refine List.pairwise_cons.2 ⟨fun r hr => ?_, ih⟩
      rcases (putL_mem hp r t ht).1 hr with h1 | h1
      · exact ha2.1 r h1
      · rw [h1]; exact (cmpV_lt q p).1 hq
    · rw [if_neg hq]
      by_cases h0 : cmpV q p = 0
      · rw [if_pos h0]; exact ha
      · rw [if_neg h0]
        have hpq : lexlt p q := (cmpV_lt p q).1 (by rw [cmpV_anti]; omega)
        refine List.pairwise_cons.2 ⟨fun r hr => ?_, ha⟩
        rcases List.mem_cons.1 hr with h1 | h1
        · rw [h1]; exact hpq
        · exact lex_trans hpq (ha2.1 r h1)

/-- the elements at a number's bits -/
def sel {α : Type} : Nat → List α → List α
  | _, [] => []
  | m, x :: t => (if m % 2 = 1 then [x] else []) ++ sel (m / 2) t
theorem sel_sub {α : Type} : ∀ (s : List α) (m : Nat), (sel m s).Sublist s
  | [], _ => List.Sublist.refl _
  | x :: t, m => by
    unfold sel
    split
    · exact (sel_sub t _).cons_cons x
    · exact (sel_sub t _).cons x
theorem sub_sel {α : Type} : ∀ (s c : List α), c.Sublist s → ∃ m, m < 2 ^ s.length ∧ c = sel m s
  | [], c, h => ⟨0, by simp, by simpa [sel] using h⟩
  | x :: t, c, h => by
    cases h with
    | cons _ h =>
      obtain ⟨m, hm, e⟩ := sub_sel t c h
      refine ⟨2 * m, by simp [Nat.pow_succ]; omega, ?_⟩
      unfold sel
      rw [if_neg (by omega), show 2 * m / 2 = m by omega, ← e]; rfl
    | cons_cons _ h =>
      obtain ⟨m, hm, e⟩ := sub_sel t _ h
      refine ⟨2 * m + 1, by simp [Nat.pow_succ]; omega, ?_⟩
      unfold sel
      rw [if_pos (by omega), show (2 * m + 1) / 2 = m by omega, ← e]; rfl
theorem sel_snoc {α : Type} : ∀ (s : List α) (m i : Nat) (h : i < s.length), sel m (s.take (i + 1)) = sel m (s.take i) ++ (if m / 2 ^ i % 2 = 1 then [s[i]] else [])
  | x :: t, m, 0, _ => by simp [sel]
  | x :: t, m, i + 1, h => by
    have ih := sel_snoc t (m / 2) i (by simp at h; omega)
    simp only [List.take_succ_cons, sel, List.getElem_cons_succ]
    rw [ih, List.append_assoc, Nat.div_div_eq_div_mul, show 2 * 2 ^ i = 2 ^ (i + 1) by rw [Nat.pow_succ]; omega]
/-- what all returns -/
def allR (P : Int) (s : List (Int × Int)) (k n : Nat) : List (List Int) := (List.range n).foldl (fun out m => if (sel m s).length = k then putL out (inP P (sel m s)) else out) []
theorem allR_succ (P : Int) (s : List (Int × Int)) (k n : Nat) : allR P s k (n + 1) = if (sel n s).length = k then putL (allR P s k n) (inP P (sel n s)) else allR P s k n := by
  unfold allR
  rw [List.range_succ, List.foldl_append]
  rfl
theorem allR_inv (P : Int) (s : List (Int × Int)) (k : Nat) : ∀ n, (∀ q ∈ allR P s k n, trim q = q) ∧ Asc (allR P s k n) ∧ ∀ x, x ∈ allR P s k n ↔ ∃ m, m < n ∧ (sel m s).length = k ∧ x = inP P (sel m s)
  | 0 => ⟨by simp [allR], List.Pairwise.nil, fun x => by simp [allR]⟩
  | n + 1 => by
    obtain ⟨h1, h2, h3⟩ := allR_inv P s k n
    rw [allR_succ]
    by_cases hk : (sel n s).length = k
    · rw [if_pos hk]
      refine ⟨putL_trim inP_trim h1, putL_asc inP_trim _ h1 h2, fun x => ?_⟩
      rw [putL_mem inP_trim x _ h1, h3 x]
      constructor
      · rintro (⟨m, hm, h4, h5⟩ | h4)
        · exact ⟨m, by omega, h4, h5⟩
        · exact ⟨n, by omega, hk, h4⟩
      · rintro ⟨m, hm, h4, h5⟩
        by_cases e : m = n
        · subst e; exact .inr h5
        · exact .inl ⟨m, by omega, h4, h5⟩
    · rw [if_neg hk]
      refine ⟨h1, h2, fun x => ?_⟩
      rw [h3 x]
      constructor
      · rintro ⟨m, hm, h4, h5⟩
        exact ⟨m, by omega, h4, h5⟩
      · rintro ⟨m, hm, h4, h5⟩
        by_cases e : m = n
        · subst e; exact absurd h4 hk
        · exact ⟨m, by omega, h4, h5⟩
/-- all: the interpolations of every k of the shares, each once, in order -/
theorem allR_mem {P : Int} {s : List (Int × Int)} {k : Nat} (x : List Int) : x ∈ allR P s k (2 ^ s.length) ↔ ∃ c, c.Sublist s ∧ c.length = k ∧ x = inP P c := by
  rw [(allR_inv P s k _).2.2 x]
  constructor
  · rintro ⟨m, _, h1, h2⟩; exact ⟨_, sel_sub s m, h1, h2⟩
  · rintro ⟨c, hc, h1, h2⟩
    obtain ⟨m, hm, e⟩ := sub_sel s c hc
    exact ⟨m, hm, by rw [← e]; exact h1, by rw [← e]; exact h2⟩
end Go.Proofs.Ytbgabipngdillaa

namespace Go.Proofs.Ytbgabipngdillaa

theorem ce_zero {P : Int} {l : List (Int × Bool)} (h : ceE P l = 0) : prB P = true ∧ l.length ≤ 32 ∧ (l.length : Int) < P ∧ ∀ t ∈ kn l, el P t.2 = true := by
  unfold ceE at h
  split at h
  · omega
  · rename_i h1
    split at h
    · omega
    · rename_i h2
      split at h
      · rename_i h3
        exact ⟨by simpa using h1, by omega, by omega, List.all_eq_true.1 h3⟩
      · omega
theorem fi_valid {P : Int} {l : List (Int × Bool)} {k : Int} (h : fiE P l k = 0 ∨ fiE P l k = 11) : ceE P l = 0 := by
  apply Classical.byContradiction
  intro hc
  rw [(fi_ce hc).1] at h
  unfold ceE at h hc
  split at h
  · omega
  · split at h
    · omega
    · split at h
      · rename_i h3
        simp_all
      · omega
theorem ce_ie {P : Int} {l : List (Int × Bool)} (h : ceE P l = 0) {c : List (Int × Int)} (hc : c.Sublist (kn l)) : inE P c = 0 := by
  obtain ⟨hpr, h32, hlP, hev⟩ := ce_zero h
  have hlen : c.length ≤ 32 := by have := hc.length_le; have := kn_len l 0; unfold kn at *; omega
  have ho : opE P [shX c, shY c] = 0 := by
    unfold opE
    rw [if_neg (by rw [hpr]; simp), if_neg, if_neg]
    · simp [longB, shX, shY]
      omega
    · simp only [List.all_cons, List.all_nil, Bool.and_true, Bool.and_eq_false_iff, not_or, Bool.not_eq_false]
      refine ⟨els_of fun x hx => ?_, els_of fun x hx => ?_⟩
      · obtain ⟨t, ht, rfl⟩ := List.mem_map.1 hx
        have := kn_at (hc.subset ht)
        exact el_mk (by omega)
      · obtain ⟨t, ht, rfl⟩ := List.mem_map.1 hx
        exact hev t (hc.subset ht)
  refine (inE_0 ho ?_).1
  have h1 : c.Pairwise fun a b => a.1 < b.1 := (knF_pw l 0).sublist hc
  unfold shX
  rw [List.nodup_iff_pairwise_ne, List.pairwise_map]
  exact h1.imp fun h => by omega
theorem VW.of {P : Int} {l : List (Int × Bool)} (h : ceE P l = 0) (h10 : l.length ≤ 10) : VW P l := by
  obtain ⟨h1, _, h3, h4⟩ := ce_zero h
  exact ⟨h1, h10, h3, h4⟩
/-- the first error of a field, cells and k, but that of few cells -/
def bgE (P : Int) (l : List (Int × Bool)) (k : Int) : Int := if ceE P l = 0 then (if k < 1 ∨ (l.length : Int) < k then 1 else 0) else ceE P l
theorem bg_zero {P : Int} {l : List (Int × Bool)} {k : Int} (h : bgE P l k = 0) : ceE P l = 0 ∧ 1 ≤ k ∧ k ≤ l.length := by
  unfold bgE at h
  split at h
  · rename_i h1
    split at h
    · omega
    · exact ⟨h1, by omega, by omega⟩
  · contradiction
theorem fi_bg {P : Int} {l : List (Int × Bool)} {k : Int} (h : bgE P l k ≠ 0) : fiE P l k = bgE P l k ∧ fiE P l k ≠ 0 ∧ fiE P l k ≠ 11 := by
  unfold bgE at h ⊢
  by_cases hc : ceE P l = 0
  · rw [if_pos hc] at h ⊢
    split at h
    · rename_i h1
      rw [if_pos h1, (fi_rng hc h1).1]
      omega
    · contradiction
  · rw [if_neg hc, (fi_ce hc).1]
    refine ⟨rfl, hc, fun h11 => hc (fi_valid (k := k) (.inr ?_))⟩
    rw [(fi_ce hc).1, h11]
/-- what the reference's Decode answers -/
def rdE (P : Int) (l : List (Int × Bool)) (k ag : Int) : Int := if bgE P l k ≠ 0 then bgE P l k else if 10 < l.length then 4 else if ag < k ∨ (l.length : Int) < ag then 1 else 0
def rAllL (P : Int) (l : List (Int × Bool)) (k : Int) : List (List Int) := allR P (kn l) k.toNat (2 ^ (kn l).length)
def rdL (P : Int) (l : List (Int × Bool)) (k ag : Int) : List (List Int) := if rdE P l k ag = 0 then (rAllL P l k).filter (fun p => decide (ag ≤ agN P l p)) else []
theorem rdE_eq (P : Int) (l : List (Int × Bool)) (k ag : Int) : rdE P l k ag = deE P l k ag := by
  unfold rdE deE
  by_cases h : bgE P l k = 0
  · rw [if_neg (by simpa using h)]
    obtain ⟨h1, h2, h3⟩ := bg_zero h
    by_cases h10 : 10 < l.length
    · rw [if_pos h10]
      by_cases hf : fiE P l k ≠ 0 ∧ fiE P l k ≠ 11
      · exfalso
        have hP := ce_zero h1
        by_cases h4 : ((kn l).length : Int) < k
        · exact hf.2 (fi_few h1 (by omega) h4).1
        · have := (fi_ok h1 (by omega) h4).1
          have h5 : inE P ((kn l).take k.toNat) = 0 := ce_ie h1 (List.take_sublist _ _)
          rw [this, h5] at hf
          exact hf.1 rfl
      · rw [if_neg hf]
    · have hv := VW.of h1 (by omega)
      obtain ⟨kn', rfl⟩ : ∃ kn' : Nat, k = kn' := ⟨k.toNat, by omega⟩
      have := hv.fi (k := kn') (by omega) (by omega)
      rw [this]
      rw [if_neg h10, if_neg (c := _ ∧ _) (by split <;> simp)]
  · obtain ⟨h1, h2, h3⟩ := fi_bg h
    rw [if_pos h, if_pos ⟨h2, h3⟩, h1]
theorem Asc.filter {rs : List (List Int)} (h : Asc rs) (f : List Int → Bool) : Asc (rs.filter f) := List.Pairwise.sublist List.filter_sublist h
theorem deE_zero {P : Int} {l : List (Int × Bool)} {k ag : Int} (h : deE P l k ag = 0) : VW P l ∧ 1 ≤ k ∧ k ≤ l.length ∧ k ≤ ag ∧ ag ≤ l.length := by
  rw [← rdE_eq] at h
  unfold rdE at h
  split at h
  · contradiction
  · rename_i h1
    have h2 := bg_zero (by simpa using h1)
    split at h
    · omega
    · split at h
      · omega
      · exact ⟨VW.of h2.1 (by omega), by omega, by omega, by omega, by omega⟩
theorem dec_same {P : Int} {l : List (Int × Bool)} {k ag : Int} {rs : List (List Int)} (ha : Asc rs) (hm : ∀ p, p ∈ rs ↔ deE P l k ag = 0 ∧ p ∈ (runS P l k.toNat ag).1) : rs = rdL P l k ag := by
  unfold rdL
  rw [rdE_eq]
  by_cases h : deE P l k ag = 0
  · rw [if_pos h]
    obtain ⟨hv, h1, h2, h3, h4⟩ := deE_zero h
    refine Asc.ext ha ((allR_inv P (kn l) k.toNat _).2.1.filter _) fun p => ?_
    rw [hm p, run_mem, List.mem_filter, decide_eq_true_iff]
    unfold rAllL
    rw [allR_mem]
    constructor
    · rintro ⟨_, c, hc, _, h6, rfl⟩
      obtain ⟨h7, h8⟩ := (chs_all l _ c).1 hc
      exact ⟨⟨c, h7, h8, rfl⟩, h6⟩
    · rintro ⟨⟨c, h7, h8, rfl⟩, h6⟩
      exact ⟨h, c, (chs_all l _ c).2 ⟨h7, h8⟩, hv.ie h7, h6, rfl⟩
  · rw [if_neg h]
    cases rs with
    | nil => rfl
    | cons a t => exact absurd ((hm a).1 (by simp)).1 h

/-- what the reference's Nearest keeps: the polynomials of the most places, and how many these are -/
def nrS (P : Int) (l : List (Int × Bool)) (st : List (List Int) × Int) (p : List Int) : List (List Int) × Int :=
  ((if st.2 < agN P l p then [] else st.1) ++ (if st.2 ≤ agN P l p then [p] else []), if st.2 < agN P l p then agN P l p else st.2)
def nrF (P : Int) (l : List (Int × Bool)) (ps : List (List Int)) : List (List Int) × Int := ps.foldl (nrS P l) ([], 0)
theorem nrF_snoc (P : Int) (l : List (Int × Bool)) (ps : List (List Int)) (p : List Int) : nrF P l (ps ++ [p]) = nrS P l (nrF P l ps) p := by
  unfold nrF
  rw [List.foldl_append]
  rfl
theorem nrF_take (P : Int) (l : List (Int × Bool)) (ps : List (List Int)) {k : Nat} (h : k < ps.length) : nrF P l (ps.take (k + 1)) = nrS P l (nrF P l (ps.take k)) ps[k] := by
  rw [List.take_succ_eq_append_getElem h, nrF_snoc]
theorem nrF_inv (P : Int) (l : List (Int × Bool)) : ∀ n, ∀ ps : List (List Int), ps.length = n → 0 ≤ (nrF P l ps).2 ∧ (∀ p ∈ ps, agN P l p ≤ (nrF P l ps).2) ∧ ((nrF P l ps).2 = 0 ∨ ∃ p ∈ ps, agN P l p = (nrF P l ps).2) ∧ (nrF P l ps).1 = ps.filter (fun p => decide (agN P l p = (nrF P l ps).2)) := by
  intro n
  induction n with
  | zero =>
    intro ps h
    obtain rfl := List.eq_nil_of_length_eq_zero h
    exact ⟨Int.le_refl _, by simp, .inl rfl, rfl⟩
  | succ n ih =>
    intro ps h
    have hne : ps ≠ [] := fun e => by subst e; simp at h
    obtain ⟨qs, p, rfl⟩ : ∃ qs p, ps = qs ++ [p] := ⟨_, _, (List.dropLast_concat_getLast hne).symm⟩
    obtain ⟨h0, h1, h2, h3⟩ := ih qs (by simpa using h)
    rw [nrF_snoc]
    unfold nrS
    by_cases hlt : (nrF P l qs).2 < agN P l p
    · simp only [if_pos hlt, if_pos (Int.le_of_lt hlt), List.nil_append]
      refine ⟨by omega, fun q hq => ?_, .inr ⟨p, by simp, rfl⟩, ?_⟩
      · rcases List.mem_append.1 hq with hq | hq
        · have := h1 q hq; omega
        · simp at hq; subst hq; omega
      · rw [List.filter_append, List.filter_eq_nil_iff.2 (fun q hq => by have := h1 q hq; simp; omega)]
        simp
    · simp only [if_neg hlt]
      refine ⟨h0, fun q hq => ?_, ?_, ?_⟩
      · rcases List.mem_append.1 hq with hq | hq
        · exact h1 q hq
        · simp at hq; subst hq; omega
      · rcases h2 with h2 | ⟨q, hq, h2⟩
        · exact .inl h2
        · exact .inr ⟨q, by simp [hq], h2⟩
      · rw [List.filter_append, ← h3]
        congr 1
        by_cases he : (nrF P l qs).2 ≤ agN P l p
        · rw [if_pos he]
          have : agN P l p = (nrF P l qs).2 := by omega
          simp [this]
        · rw [if_neg he]
          have : agN P l p ≠ (nrF P l qs).2 := by omega
          simp [this]
/-- what the reference's Nearest answers -/
def rnE (P : Int) (l : List (Int × Bool)) (k : Int) : Int := if bgE P l k ≠ 0 then bgE P l k else if ((kn l).length : Int) < k then 11 else if 10 < l.length then 4 else 0
def rnL (P : Int) (l : List (Int × Bool)) (k : Int) : List (List Int) := if rnE P l k = 0 then (nrF P l (rAllL P l k)).1 else []
def rnM (P : Int) (l : List (Int × Bool)) (k : Int) : Int := if rnE P l k = 0 then (nrF P l (rAllL P l k)).2 else 0
theorem rnE_eq (P : Int) (l : List (Int × Bool)) (k : Int) : rnE P l k = neE P l k := by
  unfold rnE neE
  by_cases h : bgE P l k = 0
  · rw [if_neg (by simpa using h)]
    obtain ⟨h1, h2, h3⟩ := bg_zero h
    by_cases h4 : ((kn l).length : Int) < k
    · rw [if_pos h4, (fi_few h1 (by omega) h4).1, if_pos (by omega)]
    · have h5 : inE P ((kn l).take k.toNat) = 0 := ce_ie h1 (List.take_sublist _ _)
      rw [if_neg h4, (fi_ok h1 (by omega) h4).1, h5]; simp
  · obtain ⟨h1, h2, h3⟩ := fi_bg h
    rw [if_pos h, if_pos h2, h1]
theorem near_same {P : Int} {l : List (Int × Bool)} {k : Int} {rs : List (List Int)} (ha : Asc rs) (hm : ∀ p, p ∈ rs ↔ neE P l k = 0 ∧ p ∈ (runS P l k.toNat (neM P l k)).1) : rs = rnL P l k ∧ neM P l k = rnM P l k := by
  unfold rnL rnM
  rw [rnE_eq]
  by_cases h : neE P l k = 0
  · rw [if_pos h, if_pos h]
    have h' := h
    rw [← rnE_eq] at h'
    unfold rnE at h'
    split at h'
    · contradiction
    rename_i hb
    obtain ⟨h1, h2, h3⟩ := bg_zero (by simpa using hb)
    split at h'
    · omega
    rename_i h4
    split at h'
    · omega
    have hv := VW.of h1 (by omega)
    obtain ⟨kk, rfl⟩ : ∃ kk : Nat, k = kk := ⟨k.toNat, by omega⟩
    have e0 : ((kk : Nat) : Int).toNat = kk := by omega
    rw [e0] at hm
    have eM : neM P l kk = (runS P l kk ((l.length : Int) + 1)).2 := by unfold neM; rw [if_pos h, e0]
    obtain ⟨m1, m2, m3, m4⟩ := hv.most (k := kk) (by omega) (by omega) ((l.length : Int) + 1)
    rw [← eM] at m1 m2 m3 m4
    obtain ⟨n0, n1, n2, n3⟩ := nrF_inv P l _ (rAllL P l kk) rfl
    have hmem : ∀ p, p ∈ rAllL P l kk ↔ ∃ c, c ∈ chs l kk l.length [] ∧ p = inP P c := fun p => by
      unfold rAllL
      rw [e0, allR_mem]
      constructor
      · rintro ⟨c, h7, h8, rfl⟩; exact ⟨c, (chs_all l _ c).2 ⟨h7, h8⟩, rfl⟩
      · rintro ⟨c, hc, rfl⟩
        obtain ⟨h7, h8⟩ := (chs_all l _ c).1 hc
        exact ⟨c, h7, h8, rfl⟩
    have eq : neM P l kk = (nrF P l (rAllL P l kk)).2 := by
      obtain ⟨c, hc, e⟩ := m2
      have h5 := n1 _ ((hmem _).2 ⟨c, hc, rfl⟩)
      rcases n2 with n2 | ⟨p, hp, n2⟩
      · omega
      · obtain ⟨c2, hc2, rfl⟩ := (hmem p).1 hp
        have := m1 c2 hc2
        omega
    refine ⟨?_, eq⟩
    rw [n3]
    refine Asc.ext ha ((allR_inv P (kn l) _ _).2.1.filter _) fun p => ?_
    rw [hm p, run_mem, List.mem_filter, decide_eq_true_iff, hmem p, ← eq]
    constructor
    · rintro ⟨_, c, hc, _, h6, rfl⟩
      have := m1 c hc
      exact ⟨⟨c, hc, rfl⟩, by omega⟩
    · rintro ⟨⟨c, hc, rfl⟩, h6⟩
      exact ⟨h, c, hc, hv.ie ((chs_all l _ c).1 hc).1, by omega, rfl⟩
  · rw [if_neg h, if_neg h]
    refine ⟨?_, by unfold neM; rw [if_neg h]⟩
    cases rs with
    | nil => rfl
    | cons a t => exact absurd ((hm a).1 (by simp)).1 h
end Go.Proofs.Ytbgabipngdillaa
