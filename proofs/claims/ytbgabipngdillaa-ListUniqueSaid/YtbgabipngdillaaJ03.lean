/- Joined: Fp Po Eu Rt Ga. -/
namespace Go.Proofs.Ytbgabipngdillaa

/-- the primes that a field may have -/
def prB (P : Int) : Bool := decide (2 ≤ P ∧ P ≤ 65521) && (List.range 256).all fun d => !(decide (2 ≤ d) && decide ((d : Int) * d ≤ P) && decide (P % d = 0))
theorem prB_bd {P : Int} (h : prB P = true) : 2 ≤ P ∧ P ≤ 65521 := by
  simp only [prB, Bool.and_eq_true, decide_eq_true_eq] at h
  exact h.1
theorem prB_no {P : Int} (h : prB P = true) (d : Nat) (h2 : 2 ≤ d) (hd : (d : Int) * d ≤ P) : P % d ≠ 0 := by
  have hb := prB_bd h
  have h256 : d < 256 := by
    rcases Nat.lt_or_ge d 256 with h | h
    · exact h
    · have h3 : (256 : Int) * 256 ≤ (d : Int) * d := Int.mul_le_mul (by omega) (by omega) (by omega) (by omega)
      omega
  simp only [prB, Bool.and_eq_true, List.all_eq_true, List.mem_range, Bool.not_eq_true', Bool.and_eq_false_iff, decide_eq_false_iff_not] at h
  rcases h.2 d h256 with (h3 | h3) | h3
  · omega
  · omega
  · exact h3
theorem prB_of {P : Int} (h1 : 2 ≤ P) (h2 : P ≤ 65521) (h : ∀ d : Nat, 2 ≤ d → (d : Int) * d ≤ P → P % d ≠ 0) : prB P = true := by
  simp only [prB, Bool.and_eq_true, decide_eq_true_eq, List.all_eq_true, List.mem_range, Bool.not_eq_true', Bool.and_eq_false_iff, decide_eq_false_iff_not]
  refine ⟨⟨h1, h2⟩, fun d _ => ?_⟩
  by_cases a : 2 ≤ d
  · by_cases b : (d : Int) * d ≤ P
    · exact .inr (h d a b)
    · exact .inl (.inr b)
  · exact .inl (.inl a)
theorem prB_f {P : Int} (h : P < 2 ∨ 65521 < P) : prB P = false := by
  cases e : prB P with
  | false => rfl
  | true => have := prB_bd e; omega
theorem prB_div {P : Int} {d : Nat} (h2 : 2 ≤ d) (hd : (d : Int) * d ≤ P) (h : P % d = 0) : prB P = false := by
  cases e : prB P with
  | false => rfl
  | true => exact absurd h (prB_no e d h2 hd)

/-- a prime, as a natural number -/
theorem pr_div {P : Int} (h : prB P = true) (n : Nat) (hn : (n : Int) ∣ P) : n = 1 ∨ (n : Int) = P := by
  have hb := prB_bd h
  obtain ⟨m, hm⟩ := hn
  by_cases h1 : n = 1
  · exact .inl h1
  right
  have hn0 : n ≠ 0 := fun e => by subst e; simp at hm; omega
  have hm0 : 0 < m := by
    rcases Int.lt_or_le 0 m with a | a
    · exact a
    · have : (n : Int) * m ≤ 0 := Int.mul_nonpos_of_nonneg_of_nonpos (by omega) a
      omega
  obtain ⟨k, rfl⟩ : ∃ k : Nat, m = k := ⟨m.toNat, by omega⟩
  by_cases hk : k = 1
  · subst hk; rw [hm]; simp
  exfalso
  by_cases hc : n ≤ k
  · have h3 : (n : Int) * n ≤ P := by rw [hm]; exact Int.mul_le_mul_of_nonneg_left (by omega) (by omega)
    exact prB_no h n (by omega) h3 (by rw [hm]; exact Int.mul_emod_right _ _)
  · have h3 : (k : Int) * k ≤ P := by rw [hm]; exact Int.mul_le_mul_of_nonneg_right (by omega) (by omega)
    exact prB_no h k (by omega) h3 (by rw [hm]; exact Int.mul_emod_left _ _)
theorem pr_euclid {P : Int} (h : prB P = true) (a b : Int) (hd : P ∣ a * b) : P ∣ a ∨ P ∣ b := by
  have hb := prB_bd h
  have hg : ((Int.gcd P a : Nat) : Int) ∣ P := Int.gcd_dvd_left P a
  rcases pr_div h _ hg with e | e
  · right
    have e' : Nat.Coprime P.natAbs a.natAbs := e
    have hd' : P.natAbs ∣ a.natAbs * b.natAbs := by rw [← Int.natAbs_mul]; exact Int.natAbs_dvd_natAbs.2 hd
    exact Int.natAbs_dvd_natAbs.1 (e'.dvd_of_dvd_mul_left hd')
  · left
    rw [← e]
    exact Int.gcd_dvd_right P a
theorem pr_mul {P : Int} (h : prB P = true) {a b : Int} (hd : a * b % P = 0) : a % P = 0 ∨ b % P = 0 := by
  rcases pr_euclid h a b (Int.dvd_of_emod_eq_zero hd) with e | e
  · exact .inl (Int.emod_eq_zero_of_dvd e)
  · exact .inr (Int.emod_eq_zero_of_dvd e)
theorem pr_cancel {P : Int} (h : prB P = true) {a b c : Int} (hc : c % P ≠ 0) (e : a * c % P = b * c % P) : a % P = b % P := by
  have h1 := Int.emod_eq_emod_iff_emod_sub_eq_zero.1 e
  rw [← Int.sub_mul] at h1
  rcases pr_mul h h1 with h2 | h2
  · exact Int.emod_eq_emod_iff_emod_sub_eq_zero.2 h2
  · exact absurd h2 hc

/-- products -/
def prd (l : List Int) : Int := l.foldr (· * ·) 1
theorem prd_perm {l m : List Int} (h : l.Perm m) : prd l = prd m := by
  induction h with
  | nil => rfl
  | cons x _ ih => simp only [prd, List.foldr_cons] at *; rw [ih]
  | swap x y l => simp only [prd, List.foldr_cons]; rw [← Int.mul_assoc, ← Int.mul_assoc, Int.mul_comm y x]
  | trans _ _ h1 h2 => exact h1.trans h2
theorem prd_same (l : List Int) : ∀ S : List Int, l.Nodup → (∀ x ∈ l, x ∈ S) → l.length = S.length → prd l = prd S := by
  induction l with
  | nil => intro S _ _ hl; have : S = [] := List.eq_nil_of_length_eq_zero (by simpa using hl.symm); rw [this]
  | cons x l ih =>
    intro S hn hs hl
    have hx : x ∈ S := hs x (by simp)
    have hp := List.perm_cons_erase hx
    rw [prd_perm hp]
    have hn' := List.nodup_cons.1 hn
    have := ih (S.erase x) hn'.2 (fun y hy => (List.mem_erase_of_ne (fun e => by subst e; exact hn'.1 hy)).2 (hs y (by simp [hy]))) (by rw [List.length_erase_of_mem hx]; simp at hl; omega)
    simp only [prd, List.foldr_cons] at *
    rw [this]
def ones (n : Nat) : List Int := (List.range n).map fun i : Nat => (i : Int) + 1
theorem prd_map_mod (a P : Int) (l : List Int) : prd (l.map fun x => a * x % P) % P = a ^ l.length * prd l % P := by
  induction l with
  | nil => simp [prd]
  | cons x l ih =>
    simp only [List.map_cons, List.length_cons, Int.pow_succ]
    show (a * x % P) * prd (l.map fun x => a * x % P) % P = a ^ l.length * a * (x * prd l) % P
    rw [Int.mul_emod, ih, Int.emod_emod_of_dvd _ (Int.dvd_refl P), ← Int.mul_emod]
    congr 1
    simp only [Int.mul_assoc, Int.mul_left_comm, Int.mul_comm]
theorem prd_ones {P : Int} (h : prB P = true) (n : Nat) (hn : (n : Int) < P) : prd (ones n) % P ≠ 0 := by
  have hb := prB_bd h
  have key : ∀ l : List Int, (∀ x ∈ l, 0 < x ∧ x < P) → prd l % P ≠ 0 := by
    intro l
    induction l with
    | nil => intro _; simp only [prd, List.foldr_nil]; rw [Int.emod_eq_of_lt (by omega) (by omega)]; omega
    | cons x l ih =>
      intro hl e
      rcases pr_mul h (a := x) (b := prd l) e with e | e
      · have := hl x (by simp); rw [Int.emod_eq_of_lt (by omega) (by omega)] at e; omega
      · exact ih (fun y hy => hl y (by simp [hy])) e
  apply key
  intro x hx
  simp only [ones, List.mem_map, List.mem_range] at hx
  obtain ⟨i, hi, rfl⟩ := hx
  omega
theorem fermat {P : Int} (h : prB P = true) (a : Int) (ha : a % P ≠ 0) : a ^ (P.toNat - 1) % P = 1 := by
  have hb := prB_bd h
  have hlen : (ones (P.toNat - 1)).length = P.toNat - 1 := by simp [ones]
  have hprd : prd ((ones (P.toNat - 1)).map fun x => a * x % P) = prd (ones (P.toNat - 1)) := by
    refine prd_same _ _ ?_ ?_ (by simp)
    · simp only [ones, List.map_map]
      rw [List.nodup_iff_pairwise_ne, List.pairwise_iff_getElem]
      intro i j hi hj hij e
      simp only [List.length_map, List.length_range] at hi hj
      simp only [List.getElem_map, List.getElem_range, Function.comp] at e
      rw [Int.mul_comm a, Int.mul_comm a] at e
      have := pr_cancel h ha e
      rw [Int.emod_eq_of_lt (by omega) (by omega), Int.emod_eq_of_lt (by omega) (by omega)] at this
      omega
    · intro y hy
      simp only [ones, List.map_map, List.mem_map, List.mem_range, Function.comp] at hy
      obtain ⟨i, hi, rfl⟩ := hy
      have h1 : 0 ≤ a * ((i : Int) + 1) % P := Int.emod_nonneg _ (by omega)
      have h2 : a * ((i : Int) + 1) % P < P := Int.emod_lt_of_pos _ (by omega)
      have h3 : a * ((i : Int) + 1) % P ≠ 0 := fun e => by
        rcases pr_mul h e with e | e
        · exact ha e
        · rw [Int.emod_eq_of_lt (by omega) (by omega)] at e; omega
      simp only [ones, List.mem_map, List.mem_range]
      exact ⟨(a * ((i : Int) + 1) % P - 1).toNat, by omega, by omega⟩
  have h1 := prd_map_mod a P (ones (P.toNat - 1))
  rw [hprd, hlen] at h1
  have h2 : 1 * prd (ones (P.toNat - 1)) % P = a ^ (P.toNat - 1) * prd (ones (P.toNat - 1)) % P := by rw [Int.one_mul]; exact h1
  have h3 := pr_cancel h (prd_ones h (P.toNat - 1) (by omega)) h2
  rw [← h3]
  exact Int.emod_eq_of_lt (by omega) (by omega)

/-- the inverse; 0 of 0 -/
def inv (P a : Int) : Int := if a % P = 0 then 0 else a ^ (P.toNat - 2) % P
theorem inv_z {P a : Int} (h : a % P = 0) : inv P a = 0 := by unfold inv; rw [if_pos h]
theorem inv_bd {P : Int} (h : 2 ≤ P) (a : Int) : 0 ≤ inv P a ∧ inv P a < P := by
  unfold inv
  split
  · omega
  · exact ⟨Int.emod_nonneg _ (by omega), Int.emod_lt_of_pos _ (by omega)⟩
theorem inv_mul {P : Int} (h : prB P = true) (a : Int) (ha : a % P ≠ 0) : inv P a * a % P = 1 := by
  have hb := prB_bd h
  have hf := fermat h a ha
  unfold inv
  rw [if_neg ha, Int.mul_emod, Int.emod_emod_of_dvd _ (Int.dvd_refl P), ← Int.mul_emod, ← Int.pow_succ, show (P.toNat - 2).succ = P.toNat - 1 by omega]
  exact hf
theorem inv_uniq {P : Int} (h : prB P = true) {a v : Int} (ha : a % P ≠ 0) (hv : 0 ≤ v ∧ v < P) (e : v * a % P = 1) : v = inv P a := by
  have hb := prB_bd h
  have hi := inv_bd hb.1 a
  have := pr_cancel h ha (e.trans (inv_mul h a ha).symm)
  rw [Int.emod_eq_of_lt hv.1 hv.2, Int.emod_eq_of_lt hi.1 hi.2] at this
  exact this
end Go.Proofs.Ytbgabipngdillaa

namespace Go.Proofs.Ytbgabipngdillaa

/-- a coefficient, 0 where there is none -/
def gd (l : List Int) (k : Nat) : Int := l[k]?.getD 0
theorem gd_lt {l : List Int} {k : Nat} (h : k < l.length) : gd l k = l[k] := by unfold gd; rw [List.getElem?_eq_getElem h]; rfl
theorem gd_ge {l : List Int} {k : Nat} (h : l.length ≤ k) : gd l k = 0 := by unfold gd; rw [List.getElem?_eq_none h]; rfl
/-- an element of the field -/
def el (P x : Int) : Bool := decide (0 ≤ x ∧ x < P)
theorem el_t {P x : Int} (h : el P x = true) : 0 ≤ x ∧ x < P := of_decide_eq_true h
theorem el_mk {P x : Int} (h : 0 ≤ x ∧ x < P) : el P x = true := decide_eq_true h
theorem el_mod {P : Int} (h : 2 ≤ P) (x : Int) : el P (x % P) = true := el_mk ⟨Int.emod_nonneg _ (by omega), Int.emod_lt_of_pos _ (by omega)⟩
def els (P : Int) (l : List Int) : Bool := l.all (el P)
theorem els_all {P : Int} {l : List Int} (h : els P l = true) : ∀ x ∈ l, el P x = true := by simpa [els] using h
theorem els_of {P : Int} {l : List Int} (h : ∀ x ∈ l, el P x = true) : els P l = true := by simpa [els] using h
theorem els_gd {P : Int} (hP : 2 ≤ P) {l : List Int} (h : els P l = true) (k : Nat) : el P (gd l k) = true := by
  by_cases hk : k < l.length
  · rw [gd_lt hk]; exact els_all h _ (List.getElem_mem hk)
  · rw [gd_ge (by omega)]; exact el_mk (by omega)

/-- the value at a point -/
def val (P : Int) (l : List Int) (x : Int) : Int := l.foldr (fun c s => (s * x + c) % P) 0
theorem val_bd {P : Int} (h : 2 ≤ P) (l : List Int) (x : Int) : 0 ≤ val P l x ∧ val P l x < P := by
  cases l with
  | nil => simp only [val, List.foldr_nil]; omega
  | cons c l => exact ⟨Int.emod_nonneg _ (by omega), Int.emod_lt_of_pos _ (by omega)⟩
theorem val_drop {P : Int} {l : List Int} {k : Nat} (h : k < l.length) (x : Int) : val P (l.drop k) x = (val P (l.drop (k + 1)) x * x + l[k]) % P := by
  rw [List.drop_eq_getElem_cons h]
  rfl

/-- without zeros at the end -/
def trim (l : List Int) : List Int := l.foldr (fun c t => if c = 0 ∧ t = [] then [] else c :: t) []
theorem trim_nil : trim [] = [] := rfl
theorem trim_cons (c : Int) (l : List Int) : trim (c :: l) = if c = 0 ∧ trim l = [] then [] else c :: trim l := rfl
theorem trim_zeros {l : List Int} (h : ∀ k, gd l k = 0) : trim l = [] := by
  induction l with
  | nil => rfl
  | cons c l ih =>
    have h0 : c = 0 := h 0
    have h1 : trim l = [] := ih fun k => h (k + 1)
    rw [trim_cons, if_pos ⟨h0, h1⟩]
theorem trim_take {n : Nat} : ∀ {l : List Int}, n ≤ l.length → (∀ k, n ≤ k → gd l k = 0) → (n = 0 ∨ gd l (n - 1) ≠ 0) → trim l = l.take n := by
  induction n with
  | zero => intro l _ h _; rw [List.take_zero]; exact trim_zeros fun k => h k (Nat.zero_le _)
  | succ n ih =>
    intro l hl h h1
    cases l with
    | nil => simp at hl
    | cons c l =>
      have h2 : gd (c :: l) n ≠ 0 := by
        rcases h1 with h1 | h1
        · omega
        · exact h1
      have hr : trim l = l.take n := by
        cases n with
        | zero => exact ih (by simp) (fun k hk => h (k + 1) (by omega)) (.inl rfl)
        | succ n => exact ih (by simpa using hl) (fun k hk => h (k + 1) (by omega)) (.inr (by simpa [gd] using h2))
      rw [trim_cons, if_neg, hr, List.take_succ_cons]
      rintro ⟨hc, ht⟩
      rw [hr] at ht
      cases n with
      | zero => exact h2 hc
      | succ n =>
        have : l = [] ∨ n + 1 = 0 := by
          have := congrArg List.length ht
          simp at this
          cases l with
          | nil => exact .inl rfl
          | cons => simp at this
        rcases this with e | e
        · subst e; simp at hl
        · omega
theorem trim_len (l : List Int) : (trim l).length ≤ l.length := by
  induction l with
  | nil => simp [trim]
  | cons c l ih => rw [trim_cons]; split <;> simp <;> omega
theorem trim_els {P : Int} {l : List Int} (h : els P l = true) : els P (trim l) = true := by
  induction l with
  | nil => exact h
  | cons c l ih =>
    rw [trim_cons]
    have h' := els_all h
    split
    · rfl
    · refine els_of fun x hx => ?_
      rcases List.mem_cons.1 hx with e | e
      · subst e; exact h' x (by simp)
      · exact els_all (ih (els_of fun y hy => h' y (by simp [hy]))) x e
theorem trim_gd (l : List Int) : ∀ k, gd (trim l) k = gd l k := by
  induction l with
  | nil => intro k; rfl
  | cons c l ih =>
    intro k
    rw [trim_cons]
    split
    · rename_i h
      cases k with
      | zero => simp [gd, h.1]
      | succ k =>
        have := ih k
        rw [h.2] at this
        simpa [gd] using this
    · cases k with
      | zero => rfl
      | succ k => simpa [gd] using ih k

/-- a list plus an element times another list, from a place on -/
def addT (P : Int) (to : List Int) (o : Nat) (x : Int) (l : List Int) : List Int :=
  (List.range to.length).map fun k => if o ≤ k ∧ k < o + l.length then (gd to k + x * gd l (k - o)) % P else gd to k
theorem addT_len (P : Int) (to : List Int) (o : Nat) (x : Int) (l : List Int) : (addT P to o x l).length = to.length := by simp [addT]
theorem addT_gd (P : Int) (to : List Int) (o : Nat) (x : Int) (l : List Int) (h : o + l.length ≤ to.length) (k : Nat) : gd (addT P to o x l) k = if o ≤ k ∧ k < o + l.length then (gd to k + x * gd l (k - o)) % P else gd to k := by
  by_cases hk : k < to.length
  · rw [gd_lt (by rw [addT_len]; exact hk)]
    simp [addT]
  · rw [gd_ge (by rw [addT_len]; omega), if_neg (by omega), gd_ge (by omega)]
theorem list_ext_gd {a b : List Int} (hl : a.length = b.length) (h : ∀ k, k < a.length → gd a k = gd b k) : a = b := by
  apply List.ext_getElem hl
  intro k h1 h2
  have := h k h1
  rwa [gd_lt h1, gd_lt h2] at this
theorem gd_set (l : List Int) (i : Nat) (v : Int) (k : Nat) (hi : i < l.length) : gd (l.set i v) k = if k = i then v else gd l k := by
  unfold gd
  rw [List.getElem?_set]
  by_cases e : i = k
  · subst e; simp [hi]
  · rw [if_neg e, if_neg (fun h => e h.symm)]
theorem gd_take (l : List Int) (n k : Nat) : gd (l.take n) k = if k < n then gd l k else 0 := by
  unfold gd
  rw [List.getElem?_take]
  split <;> rfl
theorem addT_zero (P : Int) (to : List Int) (o : Nat) (x : Int) : addT P to o x [] = to := by
  refine list_ext_gd (addT_len _ _ _ _ _) fun k hk => ?_
  rw [addT_len] at hk
  rw [gd_lt (by rw [addT_len]; exact hk)]
  simp [addT]
  omega
theorem addT_step (P : Int) (to : List Int) (o : Nat) (x : Int) (l : List Int) (k : Nat) (hk : k < l.length) (ho : o + l.length ≤ to.length) :
    addT P to o x (l.take (k + 1)) = (addT P to o x (l.take k)).set (o + k) ((gd (addT P to o x (l.take k)) (o + k) + x * l[k]) % P) := by
  refine list_ext_gd (by rw [List.length_set, addT_len, addT_len]) fun j hj => ?_
  rw [addT_len] at hj
  rw [gd_set _ _ _ _ (by rw [addT_len]; omega), addT_gd _ _ _ _ _ (by rw [List.length_take]; omega), addT_gd _ _ _ _ _ (by rw [List.length_take]; omega), addT_gd _ _ _ _ _ (by rw [List.length_take]; omega)]
  simp only [List.length_take]
  by_cases e : j = o + k
  · subst e
    rw [if_pos (by omega), if_pos rfl, if_neg (by omega), show o + k - o = k by omega, gd_take, if_pos (by omega), gd_lt hk]
  · rw [if_neg e]
    by_cases h1 : o ≤ j ∧ j < o + k
    · rw [if_pos (by omega), if_pos (by omega), gd_take, gd_take, if_pos (by omega), if_pos (by omega)]
    · rw [if_neg (by omega), if_neg (by omega)]
theorem addT_els {P : Int} (hP : 2 ≤ P) {to : List Int} (h : els P to = true) (o : Nat) (x : Int) (l : List Int) : els P (addT P to o x l) = true := by
  refine els_of fun y hy => ?_
  simp only [addT, List.mem_map, List.mem_range] at hy
  obtain ⟨k, hk, rfl⟩ := hy
  split
  · exact el_mod hP _
  · exact els_gd hP h k

def zeros (n : Nat) : List Int := List.replicate n 0
theorem zeros_els {P : Int} (hP : 2 ≤ P) (n : Nat) : els P (zeros n) = true := els_of fun x hx => by
  rw [zeros, List.mem_replicate] at hx
  exact el_mk (by omega)
/-- a product -/
def timesP (P : Int) (a b : List Int) : List Int := (List.range a.length).foldl (fun t i => addT P t i (gd a i) b) (zeros (a.length + b.length - 1))
def timesK (P : Int) (a b : List Int) (k : Nat) : List Int := (List.range k).foldl (fun t i => addT P t i (gd a i) b) (zeros (a.length + b.length - 1))
theorem timesK_len (P : Int) (a b : List Int) (k : Nat) : (timesK P a b k).length = a.length + b.length - 1 := by
  induction k with
  | zero => simp [timesK, zeros]
  | succ k ih => unfold timesK at *; rw [List.range_succ, List.foldl_append]; simp only [List.foldl_cons, List.foldl_nil]; rw [addT_len]; exact ih
theorem timesK_succ (P : Int) (a b : List Int) (k : Nat) : timesK P a b (k + 1) = addT P (timesK P a b k) k (gd a k) b := by
  unfold timesK; rw [List.range_succ, List.foldl_append]; rfl
theorem timesK_els {P : Int} (hP : 2 ≤ P) (a b : List Int) (k : Nat) : els P (timesK P a b k) = true := by
  induction k with
  | zero => exact zeros_els hP _
  | succ k ih => rw [timesK_succ]; exact addT_els hP ih _ _ _
/-- a step of Newton's interpolation: the polynomial so far, and the product of all x - at -/
def byN (P : Int) (s : List Int × List Int) (t : Int × Int) : Int := (t.2 - val P s.1 t.1 + P) % P * inv P (val P s.2 t.1) % P
def padd (a : List Int) (n : Nat) : List Int := a ++ zeros (n - a.length)
def stepN (P : Int) (s : List Int × List Int) (t : Int × Int) : List Int × List Int :=
  (addT P (padd s.1 s.2.length) 0 (byN P s t) s.2, timesP P s.2 [(0 - t.1 + P) % P, 1])
def newt (P : Int) (l : List (Int × Int)) : List Int × List Int := l.foldl (stepN P) ([], [1])
def interp (P : Int) (l : List (Int × Int)) : List Int := trim (newt P l).1
theorem newt_snoc (P : Int) (l : List (Int × Int)) (k : Nat) (h : k < l.length) : newt P (l.take (k + 1)) = stepN P (newt P (l.take k)) l[k] := by
  unfold newt
  rw [List.take_succ_eq_append_getElem h, List.foldl_append]
  rfl
theorem newt_len (P : Int) (l : List (Int × Int)) : (newt P l).1.length = (if l.length = 0 then 0 else l.length) ∧ (newt P l).2.length = l.length + 1 := by
  have key : ∀ (l : List (Int × Int)) (s : List Int × List Int) (n : Nat), s.1.length = n → s.2.length = n + 1 → (l.foldl (stepN P) s).1.length = n + l.length ∧ (l.foldl (stepN P) s).2.length = n + l.length + 1 := by
    intro l
    induction l with
    | nil => intro s n h1 h2; exact ⟨h1, h2⟩
    | cons t l ih =>
      intro s n h1 h2
      simp only [List.foldl_cons, List.length_cons]
      have := ih (stepN P s t) (n + 1) (by simp only [stepN]; rw [addT_len]; simp [padd, zeros]; omega) (by simp only [stepN]; have := timesK_len P s.2 [(0 - t.1 + P) % P, 1] s.2.length; unfold timesK at this; unfold timesP; rw [this]; simp; omega)
      omega
  have := key l ([], [1]) 0 rfl rfl
  unfold newt
  split <;> omega
theorem newt_els {P : Int} (hP : 2 ≤ P) (l : List (Int × Int)) : els P (newt P l).1 = true ∧ els P (newt P l).2 = true := by
  have key : ∀ (l : List (Int × Int)) (s : List Int × List Int), els P s.1 = true → els P s.2 = true → els P (l.foldl (stepN P) s).1 = true ∧ els P (l.foldl (stepN P) s).2 = true := by
    intro l
    induction l with
    | nil => intro s h1 h2; exact ⟨h1, h2⟩
    | cons t l ih =>
      intro s h1 h2
      refine ih _ (addT_els hP ?_ _ _ _) (timesK_els hP _ _ _)
      refine els_of fun x hx => ?_
      simp only [padd, List.mem_append] at hx
      rcases hx with hx | hx
      · exact els_all h1 x hx
      · exact els_all (zeros_els hP _) x hx
  refine key l _ rfl (els_of fun x hx => ?_)
  simp at hx
  subst hx
  exact el_mk (by omega)
end Go.Proofs.Ytbgabipngdillaa

namespace Go.Proofs.Ytbgabipngdillaa

/-- a state of the loop -/
def IS (P a r s x y : Int) : Prop := 1 ≤ r ∧ r ≤ P ∧ 0 ≤ s ∧ s ≤ P ∧ (∃ X Y : Int, -X ≤ x ∧ x ≤ X ∧ -Y ≤ y ∧ y ≤ Y ∧ X * s + Y * r = P ∧ X ≤ P) ∧ P ∣ r - x * a ∧ P ∣ s - y * a ∧ ∀ d : Int, d ∣ r → d ∣ s → d ∣ P ∧ d ∣ a
theorem IS.start {P a : Int} (hP : 2 ≤ P) (ha : 0 ≤ a ∧ a < P) : IS P a P a 0 1 :=
  ⟨by omega, by omega, by omega, by omega, ⟨0, 1, by omega, by omega, by omega, by omega, by omega, by omega⟩, ⟨1, by omega⟩, ⟨0, by omega⟩, fun d h1 h2 => ⟨h1, h2⟩⟩
theorem IS.bx {P a r s x y : Int} (h : IS P a r s x y) : (-P ≤ x ∧ x ≤ P) ∧ -P ≤ y ∧ y ≤ P := by
  obtain ⟨h1, h2, h3, h4, ⟨X, Y, x1, x2, y1, y2, e, hX⟩, _⟩ := h
  have hx0 : 0 ≤ X := by omega
  have hy0 : 0 ≤ Y := by omega
  have a1 : 0 ≤ X * s := Int.mul_nonneg hx0 h3
  have a2 : Y * 1 ≤ Y * r := Int.mul_le_mul_of_nonneg_left h1 hy0
  rw [Int.mul_one] at a2
  omega
theorem IS.step {P a r s x y : Int} (h : IS P a r s x y) (hs : 0 < s) :
    IS P a s (r - r / s * s) y (x - r / s * y) ∧ (0 ≤ r / s ∧ r / s ≤ P) ∧ (0 ≤ r / s * s ∧ r / s * s ≤ P) ∧ (-P ≤ r / s * y ∧ r / s * y ≤ P) ∧ r - r / s * s < s := by
  have hbx := h.bx
  obtain ⟨h1, h2, h3, h4, ⟨X, Y, x1, x2, y1, y2, e, hX⟩, d1, d2, hd⟩ := h
  have hx0 : 0 ≤ X := by omega
  have hy0 : 0 ≤ Y := by omega
  have m1 : 0 ≤ r % s := Int.emod_nonneg _ (by omega)
  have m2 : r % s < s := Int.emod_lt_of_pos _ hs
  have m3 : r / s * s + r % s = r := by have := Int.mul_ediv_add_emod r s; rw [Int.mul_comm] at this; exact this
  have a3 : 0 ≤ X * s := Int.mul_nonneg hx0 h3
  have a4 : Y * 1 ≤ Y * r := Int.mul_le_mul_of_nonneg_left h1 hy0
  rw [Int.mul_one] at a4
  have hYP : Y ≤ P := by omega
  clear a3 a4
  generalize hq : r / s = q at *
  generalize hm : r % s = m at *
  have hq0 : 0 ≤ q := by rw [← hq]; exact Int.ediv_nonneg (by omega) (by omega)
  have hqs : 0 ≤ q * s := Int.mul_nonneg hq0 (by omega)
  have hqq : q * 1 ≤ q * s := Int.mul_le_mul_of_nonneg_left (by omega) hq0
  rw [Int.mul_one] at hqq
  have hqY : 0 ≤ q * Y := Int.mul_nonneg hq0 hy0
  have hy3 : q * y ≤ q * Y := Int.mul_le_mul_of_nonneg_left y2 hq0
  have hy4 : q * (-Y) ≤ q * y := Int.mul_le_mul_of_nonneg_left y1 hq0
  rw [Int.mul_neg] at hy4
  have e' : Y * (r - q * s) + (X + q * Y) * s = P := by
    rw [Int.mul_sub, Int.add_mul, ← e, Int.mul_assoc, Int.mul_left_comm Y q s]
    omega
  have a1 : 0 ≤ Y * (r - q * s) := Int.mul_nonneg hy0 (by omega)
  have a2 : (X + q * Y) * 1 ≤ (X + q * Y) * s := Int.mul_le_mul_of_nonneg_left (by omega) (by omega)
  rw [Int.mul_one] at a2
  refine ⟨⟨by omega, h4, by omega, by omega, ⟨Y, X + q * Y, y1, y2, by omega, by omega, e', by omega⟩, d2, ?_, fun d g1 g2 => ?_⟩, ⟨hq0, by omega⟩, ⟨hqs, by omega⟩, ⟨by omega, by omega⟩, by omega⟩
  · have : r - q * s - (x - q * y) * a = (r - x * a) - q * (s - y * a) := by
      rw [Int.sub_mul, Int.mul_sub, Int.mul_assoc]; omega
    rw [this]
    exact Int.dvd_sub d1 (Int.dvd_mul_of_dvd_right d2)
  · refine hd d ?_ g1
    have : r = (r - q * s) + q * s := by omega
    rw [this]
    exact Int.dvd_add g2 (Int.dvd_mul_of_dvd_right g1)
theorem IS.fin {P a r s x y : Int} (hp : prB P = true) (ha : 0 < a ∧ a < P) (h : IS P a r s x y) (hs : s = 0) : x % P = inv P a := by
  have hb := prB_bd hp
  obtain ⟨h1, h2, h3, h4, _, d1, d2, hd⟩ := h
  subst hs
  obtain ⟨g1, g2⟩ := hd r (Int.dvd_refl r) (Int.dvd_zero r)
  obtain ⟨n, rfl⟩ : ∃ n : Nat, r = n := ⟨r.toNat, by omega⟩
  have hn : (n : Int) = 1 := by
    rcases pr_div hp n g1 with e | e
    · rw [e]; rfl
    · rw [e] at g2
      have := Int.le_of_dvd ha.1 g2
      omega
  rw [hn] at d1
  have ha' : a % P ≠ 0 := by rw [Int.emod_eq_of_lt (by omega) (by omega)]; omega
  refine inv_uniq hp ha' ⟨Int.emod_nonneg _ (by omega), Int.emod_lt_of_pos _ (by omega)⟩ ?_
  rw [Int.mul_emod, Int.emod_emod_of_dvd _ (Int.dvd_refl P), ← Int.mul_emod]
  have := Int.emod_eq_emod_iff_emod_sub_eq_zero.2 (Int.emod_eq_zero_of_dvd d1)
  rw [← this]
  exact Int.emod_eq_of_lt (by omega) (by omega)
end Go.Proofs.Ytbgabipngdillaa

namespace Go.Proofs.Ytbgabipngdillaa

/-- the value, in the integers -/
def ez (l : List Int) (x : Int) : Int := l.foldr (fun c s => c + x * s) 0
theorem ez_nil (x : Int) : ez [] x = 0 := rfl
theorem ez_cons (c : Int) (l : List Int) (x : Int) : ez (c :: l) x = c + x * ez l x := rfl
theorem val_ez {P : Int} (l : List Int) (x : Int) : val P l x = ez l x % P := by
  induction l with
  | nil => simp [val, ez]
  | cons c l ih =>
    show (val P l x * x + c) % P = _
    rw [ih, ez_cons, Int.add_emod, Int.mul_emod, Int.emod_emod, ← Int.mul_emod, ← Int.add_emod, Int.mul_comm, Int.add_comm]
/-- all coefficients are 0 modulo P -/
def az (P : Int) (l : List Int) : Prop := ∀ c ∈ l, P ∣ c
theorem az_cons {P c : Int} {l : List Int} : az P (c :: l) ↔ P ∣ c ∧ az P l := by simp [az]
/-- synthetic division by x - a -/
def sd : List Int → Int → List Int
  | [], _ => []
  | _ :: l, a => if l = [] then [] else ez l a :: sd l a
theorem sd_len (l : List Int) (a : Int) : (sd l a).length = l.length - 1 := by
  induction l with
  | nil => rfl
  | cons c l ih =>
    unfold sd
    split
    · rename_i h; subst h; rfl
    · rename_i h
      have : l.length ≠ 0 := fun e => h (List.eq_nil_of_length_eq_zero e)
      simp only [List.length_cons, ih]; omega
theorem sd_ez (l : List Int) (a x : Int) : ez l x = (x - a) * ez (sd l a) x + ez l a := by
  induction l with
  | nil => simp [ez, sd]
  | cons c l ih =>
    unfold sd
    split
    · rename_i h; subst h; simp [ez]
    · rw [ez_cons, ez_cons, ez_cons, ih]
      rw [Int.mul_add, Int.mul_add, Int.mul_left_comm (x - a) x]
      have : x * ez l a = (x - a) * ez l a + a * ez l a := by rw [← Int.add_mul]; congr 1; omega
      rw [this]
      omega
theorem sd_az {P a : Int} {l : List Int} (h : az P (sd l a)) (h0 : P ∣ ez l a) : az P l := by
  induction l with
  | nil => intro c hc; simp at hc
  | cons c l ih =>
    unfold sd at h
    split at h
    · rename_i e; subst e
      rw [az_cons]
      refine ⟨?_, fun c hc => by simp at hc⟩
      simpa [ez] using h0
    · obtain ⟨h1, h2⟩ := az_cons.1 h
      rw [az_cons]
      refine ⟨?_, ih h2 h1⟩
      rw [ez_cons] at h0
      have := Int.dvd_sub h0 (Int.dvd_mul_of_dvd_right h1 : P ∣ a * ez l a)
      have e : c + a * ez l a - a * ez l a = c := by omega
      rwa [e] at this
/-- a polynomial with as many different roots as its length is 0 -/
theorem roots {P : Int} (hp : prB P = true) : ∀ (X : List Int) (l : List Int), l.length ≤ X.length → X.Pairwise (fun a b => ¬ P ∣ a - b) → (∀ x ∈ X, P ∣ ez l x) → az P l := by
  intro X
  induction X with
  | nil =>
    intro l hl _ _
    have : l = [] := List.eq_nil_of_length_eq_zero (by simpa using hl)
    subst this
    intro c hc; simp at hc
  | cons a X ih =>
    intro l hl hX h
    rw [List.pairwise_cons] at hX
    have ha := h a (by simp)
    refine sd_az (a := a) (ih (sd l a) ?_ hX.2 ?_) ha
    · rw [sd_len]; simp at hl; omega
    · intro x hx
      have hx0 := h x (by simp [hx])
      rw [sd_ez l a x] at hx0
      have h1 := Int.dvd_sub hx0 ha
      have e : (x - a) * ez (sd l a) x + ez l a - ez l a = (x - a) * ez (sd l a) x := by omega
      rw [e] at h1
      rcases pr_euclid hp _ _ h1 with h2 | h2
      · exfalso
        apply hX.1 x hx
        have := Int.dvd_neg.2 h2
        have e2 : -(x - a) = a - x := by omega
        rwa [e2] at this
      · exact h2

/-- sums, multiples, products -/
def az_add : List Int → List Int → List Int
  | [], m => m
  | l, [] => l
  | c :: l, d :: m => (c + d) :: az_add l m
theorem add_len (l m : List Int) : (az_add l m).length = max l.length m.length := by
  induction l generalizing m with
  | nil => cases m <;> simp [az_add]
  | cons c l ih => cases m with
    | nil => simp [az_add]
    | cons d m => simp [az_add, ih]
theorem add_ez (l m : List Int) (x : Int) : ez (az_add l m) x = ez l x + ez m x := by
  induction l generalizing m with
  | nil => cases m <;> simp [az_add, ez]
  | cons c l ih => cases m with
    | nil => simp [az_add, ez]
    | cons d m =>
      simp only [az_add, ez_cons, ih, Int.mul_add]; omega
def zmul (a : Int) (l : List Int) : List Int := l.map (a * ·)
theorem zmul_len (a : Int) (l : List Int) : (zmul a l).length = l.length := by simp [zmul]
theorem zmul_ez (a : Int) (l : List Int) (x : Int) : ez (zmul a l) x = a * ez l x := by
  induction l with
  | nil => simp [zmul, ez]
  | cons c l ih =>
    have : zmul a (c :: l) = (a * c) :: zmul a l := rfl
    rw [this, ez_cons, ez_cons, ih, Int.mul_add, Int.mul_left_comm]
end Go.Proofs.Ytbgabipngdillaa

namespace Go.Proofs.Ytbgabipngdillaa

theorem dvl {P a k : Int} (h : P ∣ a) : P ∣ a * k := by obtain ⟨q, rfl⟩ := h; exact ⟨q * k, by rw [Int.mul_assoc]⟩
theorem dvr {P a k : Int} (h : P ∣ a) : P ∣ k * a := by rw [Int.mul_comm]; exact dvl h
theorem mod_dvd' (P a : Int) : P ∣ a - a % P := ⟨a / P, by have := Int.mul_ediv_add_emod a P; omega⟩
def sm : Nat → (Nat → Int) → Int
  | 0, _ => 0
  | n + 1, f => sm n f + f n
theorem sm_ext {n : Nat} {f g : Nat → Int} (h : ∀ k < n, f k = g k) : sm n f = sm n g := by
  induction n with
  | zero => rfl
  | succ n ih => simp only [sm]; rw [ih fun k hk => h k (by omega), h n (by omega)]
theorem sm_lin {P a : Int} {n : Nat} {f g h : Nat → Int} (e : ∀ k < n, P ∣ f k - (g k + a * h k)) : P ∣ sm n f - (sm n g + a * sm n h) := by
  induction n with
  | zero => exact ⟨0, by simp [sm]⟩
  | succ n ih =>
    have h1 := ih fun k hk => e k (by omega)
    have h2 := e n (by omega)
    have h3 := Int.dvd_add h1 h2
    simp only [sm]
    have e3 : sm n f - (sm n g + a * sm n h) + (f n - (g n + a * h n)) = sm n f + f n - (sm n g + g n + a * (sm n h + h n)) := by rw [Int.mul_add]; omega
    rwa [e3] at h3
end Go.Proofs.Ytbgabipngdillaa
