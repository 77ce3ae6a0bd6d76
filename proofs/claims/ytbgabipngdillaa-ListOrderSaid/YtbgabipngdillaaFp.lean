/- Plain: prime numbers, inverses modulo a prime, powers (Fermat's theorem). -/
namespace Go.Proofs.Ytbgabipngdillaa

/-- the primes that a field may have -/
def prB (P : Int) : Bool := decide (2 ≤ P ∧ P ≤ 65521) && (List.range 256).all fun d => !(decide (2 ≤ d) && decide ((d : Int) * d ≤ P) && decide (P % d = 0))
theorem prB_bd {P : Int} (h : prB P = true) : 2 ≤ P ∧ P ≤ 65521 := by
  simp only [prB, Bool.and_eq_true, decide_eq_true_eq] at h
  exact h.1
theorem prB_no {P : Int} (h : prB P = true) (d : Nat) (h2 : 2 ≤ d) (hd : (d : Int) * d ≤ P) : P % d ≠ 0 := by
  have hb := prB_bd h
  have h256 : d < 256 := by
    rcases Nat.lt_or_ge d 256 with h | h
    · exact h
    · have h3 : (256 : Int) * 256 ≤ (d : Int) * d := Int.mul_le_mul (by omega) (by omega) (by omega) (by omega)
      omega
  simp only [prB, Bool.and_eq_true, List.all_eq_true, List.mem_range, Bool.not_eq_true', Bool.and_eq_false_iff, decide_eq_false_iff_not] at h
  rcases h.2 d h256 with (h3 | h3) | h3
  · omega
  · omega
  · exact h3
theorem prB_of {P : Int} (h1 : 2 ≤ P) (h2 : P ≤ 65521) (h : ∀ d : Nat, 2 ≤ d → (d : Int) * d ≤ P → P % d ≠ 0) : prB P = true := by
  simp only [prB, Bool.and_eq_true, decide_eq_true_eq, List.all_eq_true, List.mem_range, Bool.not_eq_true', Bool.and_eq_false_iff, decide_eq_false_iff_not]
  refine ⟨⟨h1, h2⟩, fun d _ => ?_⟩
  by_cases a : 2 ≤ d
  · by_cases b : (d : Int) * d ≤ P
    · exact .inr (h d a b)
    · exact .inl (.inr b)
  · exact .inl (.inl a)
theorem prB_f {P : Int} (h : P < 2 ∨ 65521 < P) : prB P = false := by
  cases e : prB P with
  | false => rfl
  | true => have := prB_bd e; omega
theorem prB_div {P : Int} {d : Nat} (h2 : 2 ≤ d) (hd : (d : Int) * d ≤ P) (h : P % d = 0) : prB P = false := by
  cases e : prB P with
  | false => rfl
  | true => exact absurd h (prB_no e d h2 hd)

/-- a prime, as a natural number -/
theorem pr_div {P : Int} (h : prB P = true) (n : Nat) (hn : (n : Int) ∣ P) : n = 1 ∨ (n : Int) = P := by
  have hb := prB_bd h
  obtain ⟨m, hm⟩ := hn
  by_cases h1 : n = 1
  · exact .inl h1
  right
  have hn0 : n ≠ 0 := fun e => by subst e; simp at hm; omega
  have hm0 : 0 < m := by
    rcases Int.lt_or_le 0 m with a | a
    · exact a
    · have : (n : Int) * m ≤ 0 := Int.mul_nonpos_of_nonneg_of_nonpos (by omega) a
      omega
  obtain ⟨k, rfl⟩ : ∃ k : Nat, m = k := ⟨m.toNat, by omega⟩
  by_cases hk : k = 1
  · subst hk; rw [hm]; simp
  exfalso
  by_cases hc : n ≤ k
  · have h3 : (n : Int) * n ≤ P := by rw [hm]; exact Int.mul_le_mul_of_nonneg_left (by omega) (by omega)
    exact prB_no h n (by omega) h3 (by rw [hm]; exact Int.mul_emod_right _ _)
  · have h3 : (k : Int) * k ≤ P := by rw [hm]; exact Int.mul_le_mul_of_nonneg_right (by omega) (by omega)
    exact prB_no h k (by omega) h3 (by rw [hm]; exact Int.mul_emod_left _ _)
theorem pr_euclid {P : Int} (h : prB P = true) (a b : Int) (hd : P ∣ a * b) : P ∣ a ∨ P ∣ b := by
  have hb := prB_bd h
  have hg : ((Int.gcd P a : Nat) : Int) ∣ P := Int.gcd_dvd_left P a
  rcases pr_div h _ hg with e | e
  · right
    have e' : Nat.Coprime P.natAbs a.natAbs := e
    have hd' : P.natAbs ∣ a.natAbs * b.natAbs := by rw [← Int.natAbs_mul]; exact Int.natAbs_dvd_natAbs.2 hd
    exact Int.natAbs_dvd_natAbs.1 (e'.dvd_of_dvd_mul_left hd')
  · left
    rw [← e]
    exact Int.gcd_dvd_right P a
theorem pr_mul {P : Int} (h : prB P = true) {a b : Int} (hd : a * b % P = 0) : a % P = 0 ∨ b % P = 0 := by
  rcases pr_euclid h a b (Int.dvd_of_emod_eq_zero hd) with e | e
  · exact .inl (Int.emod_eq_zero_of_dvd e)
  · exact .inr (Int.emod_eq_zero_of_dvd e)
theorem pr_cancel {P : Int} (h : prB P = true) {a b c : Int} (hc : c % P ≠ 0) (e : a * c % P = b * c % P) : a % P = b % P := by
  have h1 := Int.emod_eq_emod_iff_emod_sub_eq_zero.1 e
  rw [← Int.sub_mul] at h1
  rcases pr_mul h h1 with h2 | h2
  · exact Int.emod_eq_emod_iff_emod_sub_eq_zero.2 h2
  · exact absurd h2 hc

/-- products -/
def prd (l : List Int) : Int := l.foldr (· * ·) 1
theorem prd_perm {l m : List Int} (h : l.Perm m) : prd l = prd m := by
  induction h with
  | nil => rfl
  | cons x _ ih => simp only [prd, List.foldr_cons] at *; rw [ih]
  | swap x y l => simp only [prd, List.foldr_cons]; rw [← Int.mul_assoc, ← Int.mul_assoc, Int.mul_comm y x]
  | trans _ _ h1 h2 => exact h1.trans h2
theorem prd_same (l : List Int) : ∀ S : List Int, l.Nodup → (∀ x ∈ l, x ∈ S) → l.length = S.length → prd l = prd S := by
  induction l with
  | nil => intro S _ _ hl; have : S = [] := List.eq_nil_of_length_eq_zero (by simpa using hl.symm); rw [this]
  | cons x l ih =>
    intro S hn hs hl
    have hx : x ∈ S := hs x (by simp)
    have hp := List.perm_cons_erase hx
    rw [prd_perm hp]
    have hn' := List.nodup_cons.1 hn
    have := ih (S.erase x) hn'.2 (fun y hy => (List.mem_erase_of_ne (fun e => by subst e; exact hn'.1 hy)).2 (hs y (by simp [hy]))) (by rw [List.length_erase_of_mem hx]; simp at hl; omega)
    simp only [prd, List.foldr_cons] at *
    rw [this]
def ones (n : Nat) : List Int := (List.range n).map fun i : Nat => (i : Int) + 1
theorem prd_map_mod (a P : Int) (l : List Int) : prd (l.map fun x => a * x % P) % P = a ^ l.length * prd l % P := by
  induction l with
  | nil => simp [prd]
  | cons x l ih =>
    simp only [List.map_cons, List.length_cons, Int.pow_succ]
    show (a * x % P) * prd (l.map fun x => a * x % P) % P = a ^ l.length * a * (x * prd l) % P
    rw [Int.mul_emod, ih, Int.emod_emod_of_dvd _ (Int.dvd_refl P), ← Int.mul_emod]
    congr 1
    simp only [Int.mul_assoc, Int.mul_left_comm, Int.mul_comm]
theorem prd_ones {P : Int} (h : prB P = true) (n : Nat) (hn : (n : Int) < P) : prd (ones n) % P ≠ 0 := by
  have hb := prB_bd h
  have key : ∀ l : List Int, (∀ x ∈ l, 0 < x ∧ x < P) → prd l % P ≠ 0 := by
    intro l
    induction l with
    | nil => intro _; simp only [prd, List.foldr_nil]; rw [Int.emod_eq_of_lt (by omega) (by omega)]; omega
    | cons x l ih =>
      intro hl e
      rcases pr_mul h (a := x) (b := prd l) e with e | e
      · have := hl x (by simp); rw [Int.emod_eq_of_lt (by omega) (by omega)] at e; omega
      · exact ih (fun y hy => hl y (by simp [hy])) e
  apply key
  intro x hx
  simp only [ones, List.mem_map, List.mem_range] at hx
  obtain ⟨i, hi, rfl⟩ := hx
  omega
theorem fermat {P : Int} (h : prB P = true) (a : Int) (ha : a % P ≠ 0) : a ^ (P.toNat - 1) % P = 1 := by
  have hb := prB_bd h
  have hlen : (ones (P.toNat - 1)).length = P.toNat - 1 := by simp [ones]
  have hprd : prd ((ones (P.toNat - 1)).map fun x => a * x % P) = prd (ones (P.toNat - 1)) := by
    refine prd_same _ _ ?_ ?_ (by simp)
    · simp only [ones, List.map_map]
      rw [List.nodup_iff_pairwise_ne, List.pairwise_iff_getElem]
      intro i j hi hj hij e
      simp only [List.length_map, List.length_range] at hi hj
      simp only [List.getElem_map, List.getElem_range, Function.comp] at e
      rw [Int.mul_comm a, Int.mul_comm a] at e
      have := pr_cancel h ha e
      rw [Int.emod_eq_of_lt (by omega) (by omega), Int.emod_eq_of_lt (by omega) (by omega)] at this
      omega
    · intro y hy
      simp only [ones, List.map_map, List.mem_map, List.mem_range, Function.comp] at hy
      obtain ⟨i, hi, rfl⟩ := hy
      have h1 : 0 ≤ a * ((i : Int) + 1) % P := Int.emod_nonneg _ (by omega)
      have h2 : a * ((i : Int) + 1) % P < P := Int.emod_lt_of_pos _ (by omega)
      have h3 : a * ((i : Int) + 1) % P ≠ 0 := fun e => by
        rcases pr_mul h e with e | e
        · exact ha e
        · rw [Int.emod_eq_of_lt (by omega) (by omega)] at e; omega
      simp only [ones, List.mem_map, List.mem_range]
      exact ⟨(a * ((i : Int) + 1) % P - 1).toNat, by omega, by omega⟩
  have h1 := prd_map_mod a P (ones (P.toNat - 1))
  rw [hprd, hlen] at h1
  have h2 : 1 * prd (ones (P.toNat - 1)) % P = a ^ (P.toNat - 1) * prd (ones (P.toNat - 1)) % P := by rw [Int.one_mul]; exact h1
  have h3 := pr_cancel h (prd_ones h (P.toNat - 1) (by omega)) h2
  rw [← h3]
  exact Int.emod_eq_of_lt (by omega) (by omega)

/-- the inverse; 0 of 0 -/
def inv (P a : Int) : Int := if a % P = 0 then 0 else a ^ (P.toNat - 2) % P
theorem inv_z {P a : Int} (h : a % P = 0) : inv P a = 0 := by unfold inv; rw [if_pos h]
theorem inv_bd {P : Int} (h : 2 ≤ P) (a : Int) : 0 ≤ inv P a ∧ inv P a < P := by
  unfold inv
  split
  · omega
  · exact ⟨Int.emod_nonneg _ (by omega), Int.emod_lt_of_pos _ (by omega)⟩
theorem inv_mul {P : Int} (h : prB P = true) (a : Int) (ha : a % P ≠ 0) : inv P a * a % P = 1 := by
  have hb := prB_bd h
  have hf := fermat h a ha
  unfold inv
  rw [if_neg ha, Int.mul_emod, Int.emod_emod_of_dvd _ (Int.dvd_refl P), ← Int.mul_emod, ← Int.pow_succ, show (P.toNat - 2).succ = P.toNat - 1 by omega]
  exact hf
theorem inv_uniq {P : Int} (h : prB P = true) {a v : Int} (ha : a % P ≠ 0) (hv : 0 ≤ v ∧ v < P) (e : v * a % P = 1) : v = inv P a := by
  have hb := prB_bd h
  have hi := inv_bd hb.1 a
  have := pr_cancel h ha (e.trans (inv_mul h a ha).symm)
  rw [Int.emod_eq_of_lt hv.1 hv.2, Int.emod_eq_of_lt hi.1 hi.2] at this
  exact this
end Go.Proofs.Ytbgabipngdillaa
