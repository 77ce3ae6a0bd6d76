/- Joined: Fp Po Base Tm. -/
import Derived.Test.YtbgabipngdillaaProg
import Derived.WalkKit
import Derived.Lib.Hide
import Derived.Deep.Draws
import Derived.Deep.QuietTactic
import Derived.BigQuiet
namespace Go.Proofs.Ytbgabipngdillaa

/-- the primes that a field may have -/
def prB (P : Int) : Bool := decide (2 ≤ P ∧ P ≤ 65521) && (List.range 256).all fun d => !(decide (2 ≤ d) && decide ((d : Int) * d ≤ P) && decide (P % d = 0))
theorem prB_bd {P : Int} (h : prB P = true) : 2 ≤ P ∧ P ≤ 65521 := by
  simp only [prB, Bool.and_eq_true, decide_eq_true_eq] at h
  exact h.1
theorem prB_no {P : Int} (h : prB P = true) (d : Nat) (h2 : 2 ≤ d) (hd : (d : Int) * d ≤ P) : P % d ≠ 0 := by
  have hb := prB_bd h
  have h256 : d < 256 := by
    rcases Nat.lt_or_ge d 256 with h | h
    · exact h
    · have h3 : (256 : Int) * 256 ≤ (d : Int) * d := Int.mul_le_mul (by omega) (by omega) (by omega) (by omega)
      omega
  simp only [prB, Bool.and_eq_true, List.all_eq_true, List.mem_range, Bool.not_eq_true', Bool.and_eq_false_iff, decide_eq_false_iff_not] at h
  rcases h.2 d h256 with (h3 | h3) | h3
  · omega
  · omega
  · exact h3
theorem prB_of {P : Int} (h1 : 2 ≤ P) (h2 : P ≤ 65521) (h : ∀ d : Nat, 2 ≤ d → (d : Int) * d ≤ P → P % d ≠ 0) : prB P = true := by
  simp only [prB, Bool.and_eq_true, decide_eq_true_eq, List.all_eq_true, List.mem_range, Bool.not_eq_true', Bool.and_eq_false_iff, decide_eq_false_iff_not]
  refine ⟨⟨h1, h2⟩, fun d _ => ?_⟩
  by_cases a : 2 ≤ d
  · by_cases b : (d : Int) * d ≤ P
    · exact .inr (h d a b)
    · exact .inl (.inr b)
  · exact .inl (.inl a)
theorem prB_f {P : Int} (h : P < 2 ∨ 65521 < P) : prB P = false := by
  cases e : prB P with
  | false => rfl
  | true => have := prB_bd e; omega
theorem prB_div {P : Int} {d : Nat} (h2 : 2 ≤ d) (hd : (d : Int) * d ≤ P) (h : P % d = 0) : prB P = false := by
  cases e : prB P with
  | false => rfl
  | true => exact absurd h (prB_no e d h2 hd)

/-- a prime, as a natural number -/
theorem pr_div {P : Int} (h : prB P = true) (n : Nat) (hn : (n : Int) ∣ P) : n = 1 ∨ (n : Int) = P := by
  have hb := prB_bd h
  obtain ⟨m, hm⟩ := hn
  by_cases h1 : n = 1
  · exact .inl h1
  right
  have hn0 : n ≠ 0 := fun e => by subst e; simp at hm; omega
  have hm0 : 0 < m := by
    rcases Int.lt_or_le 0 m with a | a
    · exact a
    · have : (n : Int) * m ≤ 0 := Int.mul_nonpos_of_nonneg_of_nonpos (by omega) a
      omega
  obtain ⟨k, rfl⟩ : ∃ k : Nat, m = k := ⟨m.toNat, by omega⟩
  by_cases hk : k = 1
  · subst hk; rw [hm]; simp
  exfalso
  by_cases hc : n ≤ k
  · have h3 : (n : Int) * n ≤ P := by rw [hm]; exact Int.mul_le_mul_of_nonneg_left (by omega) (by omega)
    exact prB_no h n (by omega) h3 (by rw [hm]; exact Int.mul_emod_right _ _)
  · have h3 : (k : Int) * k ≤ P := by rw [hm]; exact Int.mul_le_mul_of_nonneg_right (by omega) (by omega)
    exact prB_no h k (by omega) h3 (by rw [hm]; exact Int.mul_emod_left _ _)
theorem pr_euclid {P : Int} (h : prB P = true) (a b : Int) (hd : P ∣ a * b) : P ∣ a ∨ P ∣ b := by
  have hb := prB_bd h
  have hg : ((Int.gcd P a : Nat) : Int) ∣ P := Int.gcd_dvd_left P a
  rcases pr_div h _ hg with e | e
  · right
    have e' : Nat.Coprime P.natAbs a.natAbs := e
    have hd' : P.natAbs ∣ a.natAbs * b.natAbs := by rw [← Int.natAbs_mul]; exact Int.natAbs_dvd_natAbs.2 hd
    exact Int.natAbs_dvd_natAbs.1 (e'.dvd_of_dvd_mul_left hd')
  · left
    rw [← e]
    exact Int.gcd_dvd_right P a
theorem pr_mul {P : Int} (h : prB P = true) {a b : Int} (hd : a * b % P = 0) : a % P = 0 ∨ b % P = 0 := by
  rcases pr_euclid h a b (Int.dvd_of_emod_eq_zero hd) with e | e
  · exact .inl (Int.emod_eq_zero_of_dvd e)
  · exact .inr (Int.emod_eq_zero_of_dvd e)
theorem pr_cancel {P : Int} (h : prB P = true) {a b c : Int} (hc : c % P ≠ 0) (e : a * c % P = b * c % P) : a % P = b % P := by
  have h1 := Int.emod_eq_emod_iff_emod_sub_eq_zero.1 e
  rw [← Int.sub_mul] at h1
  rcases pr_mul h h1 with h2 | h2
  · exact Int.emod_eq_emod_iff_emod_sub_eq_zero.2 h2
  · exact absurd h2 hc

/-- products -/
def prd (l : List Int) : Int := l.foldr (· * ·) 1
theorem prd_perm {l m : List Int} (h : l.Perm m) : prd l = prd m := by
  induction h with
  | nil => rfl
  | cons x _ ih => simp only [prd, List.foldr_cons] at *; rw [ih]
  | swap x y l => simp only [prd, List.foldr_cons]; rw [← Int.mul_assoc, ← Int.mul_assoc, Int.mul_comm y x]
  | trans _ _ h1 h2 => exact h1.trans h2
theorem prd_same (l : List Int) : ∀ S : List Int, l.Nodup → (∀ x ∈ l, x ∈ S) → l.length = S.length → prd l = prd S := by
  induction l with
  | nil => intro S _ _ hl; have : S = [] := List.eq_nil_of_length_eq_zero (by simpa using hl.symm); rw [this]
  | cons x l ih =>
    intro S hn hs hl
    have hx : x ∈ S := hs x (by simp)
    have hp := List.perm_cons_erase hx
    rw [prd_perm hp]
    have hn' := List.nodup_cons.1 hn
    have := ih (S.erase x) hn'.2 (fun y hy => (List.mem_erase_of_ne (fun e => by subst e; exact hn'.1 hy)).2 (hs y (by simp [hy]))) (by rw [List.length_erase_of_mem hx]; simp at hl; omega)
    simp only [prd, List.foldr_cons] at *
    rw [this]
def ones (n : Nat) : List Int := (List.range n).map fun i : Nat => (i : Int) + 1
theorem prd_map_mod (a P : Int) (l : List Int) : prd (l.map fun x => a * x % P) % P = a ^ l.length * prd l % P := by
  induction l with
  | nil => simp [prd]
  | cons x l ih =>
    simp only [List.map_cons, List.length_cons, Int.pow_succ]
    show (a * x % P) * prd (l.map fun x => a * x % P) % P = a ^ l.length * a * (x * prd l) % P
    rw [Int.mul_emod, ih, Int.emod_emod_of_dvd _ (Int.dvd_refl P), ← Int.mul_emod]
    congr 1
    simp only [Int.mul_assoc, Int.mul_left_comm, Int.mul_comm]
theorem prd_ones {P : Int} (h : prB P = true) (n : Nat) (hn : (n : Int) < P) : prd (ones n) % P ≠ 0 := by
  have hb := prB_bd h
  have key : ∀ l : List Int, (∀ x ∈ l, 0 < x ∧ x < P) → prd l % P ≠ 0 := by
    intro l
    induction l with
    | nil => intro _; simp only [prd, List.foldr_nil]; rw [Int.emod_eq_of_lt (by omega) (by omega)]; omega
    | cons x l ih =>
      intro hl e
      rcases pr_mul h (a := x) (b := prd l) e with e | e
      · have := hl x (by simp); rw [Int.emod_eq_of_lt (by omega) (by omega)] at e; omega
      · exact ih (fun y hy => hl y (by simp [hy])) e
  apply key
  intro x hx
  simp only [ones, List.mem_map, List.mem_range] at hx
  obtain ⟨i, hi, rfl⟩ := hx
  omega
theorem fermat {P : Int} (h : prB P = true) (a : Int) (ha : a % P ≠ 0) : a ^ (P.toNat - 1) % P = 1 := by
  have hb := prB_bd h
  have hlen : (ones (P.toNat - 1)).length = P.toNat - 1 := by simp [ones]
  have hprd : prd ((ones (P.toNat - 1)).map fun x => a * x % P) = prd (ones (P.toNat - 1)) := by
    refine prd_same _ _ ?_ ?_ (by simp)
    · simp only [ones, List.map_map]
      rw [List.nodup_iff_pairwise_ne, List.pairwise_iff_getElem]
      intro i j hi hj hij e
      simp only [List.length_map, List.length_range] at hi hj
      simp only [List.getElem_map, List.getElem_range, Function.comp] at e
      rw [Int.mul_comm a, Int.mul_comm a] at e
      have := pr_cancel h ha e
      rw [Int.emod_eq_of_lt (by omega) (by omega), Int.emod_eq_of_lt (by omega) (by omega)] at this
      omega
    · intro y hy
      simp only [ones, List.map_map, List.mem_map, List.mem_range, Function.comp] at hy
      obtain ⟨i, hi, rfl⟩ := hy
      have h1 : 0 ≤ a * ((i : Int) + 1) % P := Int.emod_nonneg _ (by omega)
      have h2 : a * ((i : Int) + 1) % P < P := Int.emod_lt_of_pos _ (by omega)
      have h3 : a * ((i : Int) + 1) % P ≠ 0 := fun e => by
        rcases pr_mul h e with e | e
        · exact ha e
        · rw [Int.emod_eq_of_lt (by omega) (by omega)] at e; omega
      simp only [ones, List.mem_map, List.mem_range]
      exact ⟨(a * ((i : Int) + 1) % P - 1).toNat, by omega, by omega⟩
  have h1 := prd_map_mod a P (ones (P.toNat - 1))
  rw [hprd, hlen] at h1
  have h2 : 1 * prd (ones (P.toNat - 1)) % P = a ^ (P.toNat - 1) * prd (ones (P.toNat - 1)) % P := by rw [Int.one_mul]; exact h1
  have h3 := pr_cancel h (prd_ones h (P.toNat - 1) (by omega)) h2
  rw [← h3]
  exact Int.emod_eq_of_lt (by omega) (by omega)

/-- the inverse; 0 of 0 -/
def inv (P a : Int) : Int := if a % P = 0 then 0 else a ^ (P.toNat - 2) % P
theorem inv_z {P a : Int} (h : a % P = 0) : inv P a = 0 := by unfold inv; rw [if_pos h]
theorem inv_bd {P : Int} (h : 2 ≤ P) (a : Int) : 0 ≤ inv P a ∧ inv P a < P := by
  unfold inv
  split
  · omega
  · exact ⟨Int.emod_nonneg _ (by omega), Int.emod_lt_of_pos _ (by omega)⟩
theorem inv_mul {P : Int} (h : prB P = true) (a : Int) (ha : a % P ≠ 0) : inv P a * a % P = 1 := by
  have hb := prB_bd h
  have hf := fermat h a ha
  unfold inv
  rw [if_neg ha, Int.mul_emod, Int.emod_emod_of_dvd _ (Int.dvd_refl P), ← Int.mul_emod, ← Int.pow_succ, show (P.toNat - 2).succ = P.toNat - 1 by omega]
  exact hf
theorem inv_uniq {P : Int} (h : prB P = true) {a v : Int} (ha : a % P ≠ 0) (hv : 0 ≤ v ∧ v < P) (e : v * a % P = 1) : v = inv P a := by
  have hb := prB_bd h
  have hi := inv_bd hb.1 a
  have := pr_cancel h ha (e.trans (inv_mul h a ha).symm)
  rw [Int.emod_eq_of_lt hv.1 hv.2, Int.emod_eq_of_lt hi.1 hi.2] at this
  exact this
end Go.Proofs.Ytbgabipngdillaa

namespace Go.Proofs.Ytbgabipngdillaa

/-- a coefficient, 0 where there is none -/
def gd (l : List Int) (k : Nat) : Int := l[k]?.getD 0
theorem gd_lt {l : List Int} {k : Nat} (h : k < l.length) : gd l k = l[k] := by unfold gd; rw [List.getElem?_eq_getElem h]; rfl
theorem gd_ge {l : List Int} {k : Nat} (h : l.length ≤ k) : gd l k = 0 := by unfold gd; rw [List.getElem?_eq_none h]; rfl
/-- an element of the field -/
def el (P x : Int) : Bool := decide (0 ≤ x ∧ x < P)
theorem el_t {P x : Int} (h : el P x = true) : 0 ≤ x ∧ x < P := of_decide_eq_true h
theorem el_mk {P x : Int} (h : 0 ≤ x ∧ x < P) : el P x = true := decide_eq_true h
theorem el_mod {P : Int} (h : 2 ≤ P) (x : Int) : el P (x % P) = true := el_mk ⟨Int.emod_nonneg _ (by omega), Int.emod_lt_of_pos _ (by omega)⟩
def els (P : Int) (l : List Int) : Bool := l.all (el P)
theorem els_all {P : Int} {l : List Int} (h : els P l = true) : ∀ x ∈ l, el P x = true := by simpa [els] using h
theorem els_of {P : Int} {l : List Int} (h : ∀ x ∈ l, el P x = true) : els P l = true := by simpa [els] using h
theorem els_gd {P : Int} (hP : 2 ≤ P) {l : List Int} (h : els P l = true) (k : Nat) : el P (gd l k) = true := by
  by_cases hk : k < l.length
  · rw [gd_lt hk]; exact els_all h _ (List.getElem_mem hk)
  · rw [gd_ge (by omega)]; exact el_mk (by omega)

/-- the value at a point -/
def val (P : Int) (l : List Int) (x : Int) : Int := l.foldr (fun c s => (s * x + c) % P) 0
theorem val_bd {P : Int} (h : 2 ≤ P) (l : List Int) (x : Int) : 0 ≤ val P l x ∧ val P l x < P := by
  cases l with
  | nil => simp only [val, List.foldr_nil]; omega
  | cons c l => exact ⟨Int.emod_nonneg _ (by omega), Int.emod_lt_of_pos _ (by omega)⟩
theorem val_drop {P : Int} {l : List Int} {k : Nat} (h : k < l.length) (x : Int) : val P (l.drop k) x = (val P (l.drop (k + 1)) x * x + l[k]) % P := by
  rw [List.drop_eq_getElem_cons h]
  rfl

/-- without zeros at the end -/
def trim (l : List Int) : List Int := l.foldr (fun c t => if c = 0 ∧ t = [] then [] else c :: t) []
theorem trim_nil : trim [] = [] := rfl
theorem trim_cons (c : Int) (l : List Int) : trim (c :: l) = if c = 0 ∧ trim l = [] then [] else c :: trim l := rfl
theorem trim_zeros {l : List Int} (h : ∀ k, gd l k = 0) : trim l = [] := by
  induction l with
  | nil => rfl
  | cons c l ih =>
    have h0 : c = 0 := h 0
    have h1 : trim l = [] := ih fun k => h (k + 1)
    rw [trim_cons, if_pos ⟨h0, h1⟩]
theorem trim_take {n : Nat} : ∀ {l : List Int}, n ≤ l.length → (∀ k, n ≤ k → gd l k = 0) → (n = 0 ∨ gd l (n - 1) ≠ 0) → trim l = l.take n := by
  induction n with
  | zero => intro l _ h _; rw [List.take_zero]; exact trim_zeros fun k => h k (Nat.zero_le _)
  | succ n ih =>
    intro l hl h h1
    cases l with
    | nil => simp at hl
    | cons c l =>
      have h2 : gd (c :: l) n ≠ 0 := by
        rcases h1 with h1 | h1
        · omega
        · exact h1
      have hr : trim l = l.take n := by
        cases n with
        | zero => exact ih (by simp) (fun k hk => h (k + 1) (by omega)) (.inl rfl)
        | succ n => exact ih (by simpa using hl) (fun k hk => h (k + 1) (by omega)) (.inr (by simpa [gd] using h2))
      rw [trim_cons, if_neg, hr, List.take_succ_cons]
      rintro ⟨hc, ht⟩
      rw [hr] at ht
      cases n with
      | zero => exact h2 hc
      | succ n =>
        have : l = [] ∨ n + 1 = 0 := by
          have := congrArg List.length ht
          simp at this
          cases l with
          | nil => exact .inl rfl
          | cons => simp at this
        rcases this with e | e
        · subst e; simp at hl
        · omega
theorem trim_len (l : List Int) : (trim l).length ≤ l.length := by
  induction l with
  | nil => simp [trim]
  | cons c l ih => rw [trim_cons]; split <;> simp <;> omega
theorem trim_els {P : Int} {l : List Int} (h : els P l = true) : els P (trim l) = true := by
  induction l with
  | nil => exact h
  | cons c l ih =>
    rw [trim_cons]
    have h' := els_all h
    split
    · rfl
    · refine els_of fun x hx => ?_
      rcases List.mem_cons.1 hx with e | e
      · subst e; exact h' x (by simp)
      · exact els_all (ih (els_of fun y hy => h' y (by simp [hy]))) x e
theorem trim_gd (l : List Int) : ∀ k, gd (trim l) k = gd l k := by
  induction l with
  | nil => intro k; rfl
  | cons c l ih =>
    intro k
    rw [trim_cons]
    split
    · rename_i h
      cases k with
      | zero => simp [gd, h.1]
      | succ k =>
        have := ih k
        rw [h.2] at this
        simpa [gd] using this
    · cases k with
      | zero => rfl
      | succ k => simpa [gd] using ih k

/-- a list plus an element times another list, from a place on -/
def addT (P : Int) (to : List Int) (o : Nat) (x : Int) (l : List Int) : List Int :=
  (List.range to.length).map fun k => if o ≤ k ∧ k < o + l.length then (gd to k + x * gd l (k - o)) % P else gd to k
theorem addT_len (P : Int) (to : List Int) (o : Nat) (x : Int) (l : List Int) : (addT P to o x l).length = to.length := by simp [addT]
theorem addT_gd (P : Int) (to : List Int) (o : Nat) (x : Int) (l : List Int) (h : o + l.length ≤ to.length) (k : Nat) : gd (addT P to o x l) k = if o ≤ k ∧ k < o + l.length then (gd to k + x * gd l (k - o)) % P else gd to k := by
  by_cases hk : k < to.length
  · rw [gd_lt (by rw [addT_len]; exact hk)]
    simp [addT]
  · rw [gd_ge (by rw [addT_len]; omega), if_neg (by omega), gd_ge (by omega)]
theorem list_ext_gd {a b : List Int} (hl : a.length = b.length) (h : ∀ k, k < a.length → gd a k = gd b k) : a = b := by
  apply List.ext_getElem hl
  intro k h1 h2
  have := h k h1
  rwa [gd_lt h1, gd_lt h2] at this
theorem gd_set (l : List Int) (i : Nat) (v : Int) (k : Nat) (hi : i < l.length) : gd (l.set i v) k = if k = i then v else gd l k := by
  unfold gd
  rw [List.getElem?_set]
  by_cases e : i = k
  · subst e; simp [hi]
  · rw [if_neg e, if_neg (fun h => e h.symm)]
theorem gd_take (l : List Int) (n k : Nat) : gd (l.take n) k = if k < n then gd l k else 0 := by
  unfold gd
  rw [List.getElem?_take]
  split <;> rfl
theorem addT_zero (P : Int) (to : List Int) (o : Nat) (x : Int) : addT P to o x [] = to := by
  refine list_ext_gd (addT_len _ _ _ _ _) fun k hk => ?_
  rw [addT_len] at hk
  rw [gd_lt (by rw [addT_len]; exact hk)]
  simp [addT]
  omega
theorem addT_step (P : Int) (to : List Int) (o : Nat) (x : Int) (l : List Int) (k : Nat) (hk : k < l.length) (ho : o + l.length ≤ to.length) :
    addT P to o x (l.take (k + 1)) = (addT P to o x (l.take k)).set (o + k) ((gd (addT P to o x (l.take k)) (o + k) + x * l[k]) % P) := by
  refine list_ext_gd (by rw [List.length_set, addT_len, addT_len]) fun j hj => ?_
  rw [addT_len] at hj
  rw [gd_set _ _ _ _ (by rw [addT_len]; omega), addT_gd _ _ _ _ _ (by rw [List.length_take]; omega), addT_gd _ _ _ _ _ (by rw [List.length_take]; omega), addT_gd _ _ _ _ _ (by rw [List.length_take]; omega)]
  simp only [List.length_take]
  by_cases e : j = o + k
  · subst e
    rw [if_pos (by omega), if_pos rfl, if_neg (by omega), show o + k - o = k by omega, gd_take, if_pos (by omega), gd_lt hk]
  · rw [if_neg e]
    by_cases h1 : o ≤ j ∧ j < o + k
    · rw [if_pos (by omega), if_pos (by omega), gd_take, gd_take, if_pos (by omega), if_pos (by omega)]
    · rw [if_neg (by omega), if_neg (by omega)]
theorem addT_els {P : Int} (hP : 2 ≤ P) {to : List Int} (h : els P to = true) (o : Nat) (x : Int) (l : List Int) : els P (addT P to o x l) = true := by
  refine els_of fun y hy => ?_
  simp only [addT, List.mem_map, List.mem_range] at hy
  obtain ⟨k, hk, rfl⟩ := hy
  split
  · exact el_mod hP _
  · exact els_gd hP h k

def zeros (n : Nat) : List Int := List.replicate n 0
theorem zeros_els {P : Int} (hP : 2 ≤ P) (n : Nat) : els P (zeros n) = true := els_of fun x hx => by
  rw [zeros, List.mem_replicate] at hx
  exact el_mk (by omega)
/-- a product -/
def timesP (P : Int) (a b : List Int) : List Int := (List.range a.length).foldl (fun t i => addT P t i (gd a i) b) (zeros (a.length + b.length - 1))
def timesK (P : Int) (a b : List Int) (k : Nat) : List Int := (List.range k).foldl (fun t i => addT P t i (gd a i) b) (zeros (a.length + b.length - 1))
theorem timesK_len (P : Int) (a b : List Int) (k : Nat) : (timesK P a b k).length = a.length + b.length - 1 := by
  induction k with
  | zero => simp [timesK, zeros]
  | succ k ih => unfold timesK at *; rw [List.range_succ, List.foldl_append]; simp only [List.foldl_cons, List.foldl_nil]; rw [addT_len]; exact ih
theorem timesK_succ (P : Int) (a b : List Int) (k : Nat) : timesK P a b (k + 1) = addT P (timesK P a b k) k (gd a k) b := by
  unfold timesK; rw [List.range_succ, List.foldl_append]; rfl
theorem timesK_els {P : Int} (hP : 2 ≤ P) (a b : List Int) (k : Nat) : els P (timesK P a b k) = true := by
  induction k with
  | zero => exact zeros_els hP _
  | succ k ih => rw [timesK_succ]; exact addT_els hP ih _ _ _
/-- a step of Newton's interpolation: the polynomial so far, and the product of all x - at -/
def byN (P : Int) (s : List Int × List Int) (t : Int × Int) : Int := (t.2 - val P s.1 t.1 + P) % P * inv P (val P s.2 t.1) % P
def padd (a : List Int) (n : Nat) : List Int := a ++ zeros (n - a.length)
def stepN (P : Int) (s : List Int × List Int) (t : Int × Int) : List Int × List Int :=
  (addT P (padd s.1 s.2.length) 0 (byN P s t) s.2, timesP P s.2 [(0 - t.1 + P) % P, 1])
def newt (P : Int) (l : List (Int × Int)) : List Int × List Int := l.foldl (stepN P) ([], [1])
def interp (P : Int) (l : List (Int × Int)) : List Int := trim (newt P l).1
theorem newt_snoc (P : Int) (l : List (Int × Int)) (k : Nat) (h : k < l.length) : newt P (l.take (k + 1)) = stepN P (newt P (l.take k)) l[k] := by
  unfold newt
  rw [List.take_succ_eq_append_getElem h, List.foldl_append]
  rfl
theorem newt_len (P : Int) (l : List (Int × Int)) : (newt P l).1.length = (if l.length = 0 then 0 else l.length) ∧ (newt P l).2.length = l.length + 1 := by
  have key : ∀ (l : List (Int × Int)) (s : List Int × List Int) (n : Nat), s.1.length = n → s.2.length = n + 1 → (l.foldl (stepN P) s).1.length = n + l.length ∧ (l.foldl (stepN P) s).2.length = n + l.length + 1 := by
    intro l
    induction l with
    | nil => intro s n h1 h2; exact ⟨h1, h2⟩
    | cons t l ih =>
      intro s n h1 h2
      simp only [List.foldl_cons, List.length_cons]
      have := ih (stepN P s t) (n + 1) (by simp only [stepN]; rw [addT_len]; simp [padd, zeros]; omega) (by simp only [stepN]; have := timesK_len P s.2 [(0 - t.1 + P) % P, 1] s.2.length; unfold timesK at this; unfold timesP; rw [this]; simp; omega)
      omega
  have := key l ([], [1]) 0 rfl rfl
  unfold newt
  split <;> omega
theorem newt_els {P : Int} (hP : 2 ≤ P) (l : List (Int × Int)) : els P (newt P l).1 = true ∧ els P (newt P l).2 = true := by
  have key : ∀ (l : List (Int × Int)) (s : List Int × List Int), els P s.1 = true → els P s.2 = true → els P (l.foldl (stepN P) s).1 = true ∧ els P (l.foldl (stepN P) s).2 = true := by
    intro l
    induction l with
    | nil => intro s h1 h2; exact ⟨h1, h2⟩
    | cons t l ih =>
      intro s h1 h2
      refine ih _ (addT_els hP ?_ _ _ _) (timesK_els hP _ _ _)
      refine els_of fun x hx => ?_
      simp only [padd, List.mem_append] at hx
      rcases hx with hx | hx
      · exact els_all h1 x hx
      · exact els_all (zeros_els hP _) x hx
  refine key l _ rfl (els_of fun x hx => ?_)
  simp at hx
  subst hx
  exact el_mk (by omega)
end Go.Proofs.Ytbgabipngdillaa

namespace Go.Proofs.Ytbgabipngdillaa
open Go.RowKit

theorem ret_int {k : IntKind} {a b : Int} (h : a = b) : Ending.returned (.int k a) = .returned (.int k b) := by rw [h]
theorem ret_two {a b c d : Int} {k k' : IntKind} (h : a = b) (h' : c = d) : Ending.returned (.tuple #[.int k a, .int k' c]) = .returned (.tuple #[.int k b, .int k' d]) := by rw [h, h']
theorem ret_bool {a b : Bool} (h : a = b) : Ending.returned (.bool a) = .returned (.bool b) := by rw [h]

/-- the range of int -/
def i64r (x : Int) : Prop := -9223372036854775808 ≤ x ∧ x ≤ 9223372036854775807

/-- The value v is a slice of ints (nil too) below block B that reads as l. -/
def SB (B : Nat) (w : World) (v : Value) (l : List Int) : Prop :=
  ∃ A c, v = .slice A l.length c ∧ l.length ≤ c ∧ c ≤ 9223372036854775807 ∧ (∀ x ∈ l, i64r x) ∧
    (0 < l.length → ∃ b off, A = some ⟨b, off, none⟩ ∧ b < B ∧ ∀ j (h : j < l.length), w.cell? ⟨b, off + j, none⟩ = some (.int .i64 l[j]))
/-- The same, anywhere. -/
def SI (w : World) (v : Value) (l : List Int) : Prop := SB w.heap.size w v l

theorem SB.keep {B : Nat} {w w' : World} {v : Value} {l : List Int} (h : SB B w v l) (hk : ∀ p : Addr, p.block < B → w'.cell? p = w.cell? p) : SB B w' v l := by
  obtain ⟨A, c, rfl, hc, hm, hr, ha⟩ := h
  refine ⟨A, c, rfl, hc, hm, hr, fun h0 => ?_⟩
  obtain ⟨b, off, rfl, hb, hcell⟩ := ha h0
  exact ⟨b, off, rfl, hb, fun j hj => (hk _ hb).trans (hcell j hj)⟩
theorem SB.more {B B' : Nat} {w : World} {v : Value} {l : List Int} (h : SB B w v l) (hB : B ≤ B') : SB B' w v l := by
  obtain ⟨A, c, rfl, hc, hm, hr, ha⟩ := h
  refine ⟨A, c, rfl, hc, hm, hr, fun h0 => ?_⟩
  obtain ⟨b, off, rfl, hb, hcell⟩ := ha h0
  exact ⟨b, off, rfl, by omega, hcell⟩
theorem SB.below {B : Nat} {w w' : World} {v : Value} {l : List Int} (h : SB B w v l) (hb : Below B w w') : SB B w' v l := h.keep fun _ hp => hb.cell hp
theorem SI.below {w w' : World} {v : Value} {l : List Int} (h : SI w v l) (hb : Below w.heap.size w w') : SI w' v l := (SB.below h hb).more hb.size
theorem SB.si {B : Nat} {w : World} {v : Value} {l : List Int} (h : SB B w v l) (hB : B ≤ w.heap.size) : SI w v l := SB.more h hB
theorem SB.grown {B : Nat} {w w' : World} {v : Value} {l : List Int} {g : Nat} (h : SB B w v l) (hg : w.grownBy w' (some g)) (hB : B ≤ g) (hw : B ≤ w.heap.size) : SB B w' v l :=
  h.keep fun p hp => World.cell?_of_block (hg.block p.block (by omega) (by simp; omega))

theorem Below.drewN {B : Nat} {a w : World} (h : Below B a w) (n : Nat) : Below B a (w.drewN n) := ⟨h.os, h.tape, h.output, h.size, h.block⟩
theorem _root_.Go.RowKit.Below.drew_left {B : Nat} {a w : World} (h : Below B a.drew w) : Below B a w := ⟨h.os, h.tape, h.output, h.size, h.block⟩
theorem grownBy_refl (w : World) (r : Option Nat) : w.grownBy w r := ⟨rfl, rfl, rfl, Nat.le_refl _, fun _ _ _ => rfl⟩
theorem grownBy_trans {a b c : World} {r : Option Nat} (h : a.grownBy b r) (k : b.grownBy c r) : a.grownBy c r :=
  ⟨k.os.trans h.os, k.tape.trans h.tape, k.output.trans h.output, Nat.le_trans h.size k.size, fun i hi hn => (k.block i (Nat.lt_of_lt_of_le hi h.size) hn).trans (h.block i hi hn)⟩
theorem grownBy_drewN {a w : World} {r : Option Nat} (h : a.grownBy w r) (n : Nat) : a.grownBy (w.drewN n) r := ⟨h.os, h.tape, h.output, h.size, h.block⟩
theorem grownBy_setCell {a w : World} {g : Nat} (h : a.grownBy w (some g)) {p : Addr} (hp : p.block = g ∨ a.heap.size ≤ p.block) (u : Value) : a.grownBy (w.setCell p u) (some g) :=
  ⟨h.os, h.tape, h.output, by simpa [World.setCell] using h.size, fun i hi hne => (Below.heap_setCell w p u i (by
    rintro rfl
    rcases hp with hp | hp
    · exact hne (by rw [hp])
    · omega)).trans (h.block i hi hne)⟩
theorem grownBy_of_below {a w : World} (h : Below a.heap.size a w) (r : Option Nat) : a.grownBy w r := ⟨h.os, h.tape, h.output, h.size, fun i hi _ => h.block i hi⟩
theorem grownBy_alloc' {a w : World} {r : Option Nat} (h : a.grownBy w r) (o : Obj) : a.grownBy (w.alloc o) r :=
  grownBy_trans h (World.grownBy_alloc w o r)
/-- behind a step that wrote into a block of the call's own -/
theorem grownBy_own {a w w' : World} {r r' : Option Nat} (h : a.grownBy w r) (hg : w.grownBy w' r') (hr : ∀ k, r' = some k → a.heap.size ≤ k) : a.grownBy w' r :=
  ⟨hg.os.trans h.os, hg.tape.trans h.tape, hg.output.trans h.output, Nat.le_trans h.size hg.size, fun i hi hn => (hg.block i (Nat.lt_of_lt_of_le hi h.size) (fun e => by have := hr i e.symm; omega)).trans (h.block i hi hn)⟩
theorem below_of_grownBy {a w : World} {g : Nat} (h : a.grownBy w (some g)) {B : Nat} (hB : B ≤ g) (ha : B ≤ a.heap.size) : Below B a w :=
  ⟨h.os, h.tape, h.output, h.size, fun i hi => h.block i (by omega) (by simp; omega)⟩

theorem bcell {W w1 : World} (hb : Below W.heap.size W w1) : (∀ b o, b < W.heap.size → w1.cell? ⟨b, o, none⟩ = W.cell? ⟨b, o, none⟩) ∧ (∀ b o, b < W.heap.size → w1.frozen? ⟨b, o, none⟩ = W.frozen? ⟨b, o, none⟩) :=
  ⟨fun b o h => hb.cell (p := ⟨b, o, none⟩) h, fun b o h => hb.frozen (p := ⟨b, o, none⟩) h⟩

/-- a row of the call's own reads as its ints -/
theorem SI.of_own {w : World} {base : Nat} {e : TypeId} {v : Value} {l : List Int} (h : w.ownsRow base e 1 v l.length (l.map (Value.int .i64))) (hr : ∀ x ∈ l, i64r x) : SI w v l := by
  rcases h.2 with ⟨rfl, hn⟩ | ⟨g, cap, cur, rfl, hb, hg, hnc, hcm, hcs, htake⟩
  · have : l = [] := List.eq_nil_of_length_eq_zero hn
    subst this
    exact ⟨none, 0, rfl, Nat.le_refl _, by omega, hr, fun h => by simp at h⟩
  · refine ⟨_, cap, rfl, hnc, by simpa [maxLen] using hcm, hr, fun h0 => ⟨g, 0, rfl, (Array.getElem?_eq_some_iff.1 hg).1, fun j hj => ?_⟩⟩
    have := h.cellAt j (by omega)
    rw [Nat.zero_add, this]
    simp [hj]
theorem addr_add (g j : Nat) : (⟨g, 0, none⟩ : Addr).add j = ⟨g, j, none⟩ := by unfold Addr.add; split <;> simp_all
/-- the cells of a new block -/
theorem cells_new (w : World) (cs : List Value) (t : TypeId) : ∀ j u, cs[j]? = some u → (w.alloc (.cells cs.toArray t)).cell? ((⟨w.heap.size, 0, none⟩ : Addr).add j) = some u := by
  intro j u hu
  rw [addr_add, cell_of_row _ w.heap.size j cs.toArray t (0, 0) (heap_alloc_new w _)]
  simpa using hu
theorem heap_of_cells {w : World} {g : Nat} {cs : Array Value} {t : TypeId} (h : w.heap[g]? = some (.cells cs t (0, 0))) : g < w.heap.size := (Array.getElem?_eq_some_iff.1 h).1
end Go.Proofs.Ytbgabipngdillaa

namespace Go.Proofs.Ytbgabipngdillaa

theorem tmod_cases (n m : Int) (hm : 0 < m) : n.tmod m = n % m ∨ (n < 0 ∧ 0 < n % m ∧ n.tmod m = n % m - m) := by
  rw [Int.tmod_eq_emod]
  split
  · left; omega
  · rename_i h
    right
    have h1 : 0 ≤ n % m := Int.emod_nonneg n (by omega)
    have h2 : n % m ≠ 0 := fun e => h (.inr (Int.dvd_of_emod_eq_zero e))
    refine ⟨by omega, by omega, ?_⟩
    omega
theorem tmod_bd (n m : Int) (hm : 0 < m) : -m < n.tmod m ∧ n.tmod m < m := by
  have h1 : 0 ≤ n % m := Int.emod_nonneg n (by omega)
  have h2 : n % m < m := Int.emod_lt_of_pos n hm
  rcases tmod_cases n m hm with h | ⟨_, _, h⟩ <;> omega
theorem tmod_fix (n m : Int) (hm : 0 < m) : (n.tmod m + m).tmod m = n % m := by
  have h1 : 0 ≤ n % m := Int.emod_nonneg n (by omega)
  have h2 : n % m < m := Int.emod_lt_of_pos n hm
  rcases tmod_cases n m hm with h | ⟨_, _, h⟩
  · rw [h, Int.tmod_eq_emod_of_nonneg (by omega), Int.add_emod_right, Int.emod_emod_of_dvd _ (Int.dvd_refl m)]
  · rw [h, show n % m - m + m = n % m by omega, Int.tmod_eq_emod_of_nonneg h1, Int.emod_emod_of_dvd _ (Int.dvd_refl m)]

end Go.Proofs.Ytbgabipngdillaa
