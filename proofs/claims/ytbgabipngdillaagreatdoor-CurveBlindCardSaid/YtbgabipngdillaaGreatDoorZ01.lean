/- Joined: Fp Po Base Tm App Res Eu Re2. -/
import Derived.Test.YtbgabipngdillaaGreatDoorProg
import Derived.WalkKit
import Derived.Lib.Hide
import Derived.Deep.Draws
import Derived.Deep.QuietTactic
import Derived.BigQuiet
import Derived.Maps.AppendAt
import Derived.OwnWalk
namespace Go.Proofs.YtbgabipngdillaaGreatDoor

/-- the primes that a field may have -/
def prB (P : Int) : Bool := decide (2 ≤ P ∧ P ≤ 65521) && (List.range 256).all fun d => !(decide (2 ≤ d) && decide ((d : Int) * d ≤ P) && decide (P % d = 0))
theorem prB_bd {P : Int} (h : prB P = true) : 2 ≤ P ∧ P ≤ 65521 := by
  simp only [prB, Bool.and_eq_true, decide_eq_true_eq] at h
  exact h.1
theorem prB_no {P : Int} (h : prB P = true) (d : Nat) (h2 : 2 ≤ d) (hd : (d : Int) * d ≤ P) : P % d ≠ 0 := by
  have hb := prB_bd h
  have h256 : d < 256 := by
    rcases Nat.lt_or_ge d 256 with h | h
    · exact h
    · have h3 : (256 : Int) * 256 ≤ (d : Int) * d := Int.mul_le_mul (by omega) (by omega) (by omega) (by omega)
      omega
  simp only [prB, Bool.and_eq_true, List.all_eq_true, List.mem_range, Bool.not_eq_true', Bool.and_eq_false_iff, decide_eq_false_iff_not] at h
  rcases h.2 d h256 with (h3 | h3) | h3
  · omega
  · omega
  · exact h3
theorem prB_of {P : Int} (h1 : 2 ≤ P) (h2 : P ≤ 65521) (h : ∀ d : Nat, 2 ≤ d → (d : Int) * d ≤ P → P % d ≠ 0) : prB P = true := by
  simp only [prB, Bool.and_eq_true, decide_eq_true_eq, List.all_eq_true, List.mem_range, Bool.not_eq_true', Bool.and_eq_false_iff, decide_eq_false_iff_not]
  refine ⟨⟨h1, h2⟩, fun d _ => ?_⟩
  by_cases a : 2 ≤ d
  · by_cases b : (d : Int) * d ≤ P
    · exact .inr (h d a b)
    · exact .inl (.inr b)
  · exact .inl (.inl a)
theorem prB_f {P : Int} (h : P < 2 ∨ 65521 < P) : prB P = false := by
  cases e : prB P with
  | false => rfl
  | true => have := prB_bd e; omega
theorem prB_div {P : Int} {d : Nat} (h2 : 2 ≤ d) (hd : (d : Int) * d ≤ P) (h : P % d = 0) : prB P = false := by
  cases e : prB P with
  | false => rfl
  | true => exact absurd h (prB_no e d h2 hd)

/-- a prime, as a natural number -/
theorem pr_div {P : Int} (h : prB P = true) (n : Nat) (hn : (n : Int) ∣ P) : n = 1 ∨ (n : Int) = P := by
  have hb := prB_bd h
  obtain ⟨m, hm⟩ := hn
  by_cases h1 : n = 1
  · exact .inl h1
  right
  have hn0 : n ≠ 0 := fun e => by subst e; simp at hm; omega
  have hm0 : 0 < m := by
    rcases Int.lt_or_le 0 m with a | a
    · exact a
    · have : (n : Int) * m ≤ 0 := Int.mul_nonpos_of_nonneg_of_nonpos (by omega) a
      omega
  obtain ⟨k, rfl⟩ : ∃ k : Nat, m = k := ⟨m.toNat, by omega⟩
  by_cases hk : k = 1
  · subst hk; rw [hm]; simp
  exfalso
  by_cases hc : n ≤ k
  · have h3 : (n : Int) * n ≤ P := by rw [hm]; exact Int.mul_le_mul_of_nonneg_left (by omega) (by omega)
    exact prB_no h n (by omega) h3 (by rw [hm]; exact Int.mul_emod_right _ _)
  · have h3 : (k : Int) * k ≤ P := by rw [hm]; exact Int.mul_le_mul_of_nonneg_right (by omega) (by omega)
    exact prB_no h k (by omega) h3 (by rw [hm]; exact Int.mul_emod_left _ _)
theorem pr_euclid {P : Int} (h : prB P = true) (a b : Int) (hd : P ∣ a * b) : P ∣ a ∨ P ∣ b := by
  have hb := prB_bd h
  have hg : ((Int.gcd P a : Nat) : Int) ∣ P := Int.gcd_dvd_left P a
  rcases pr_div h _ hg with e | e
  · right
    have e' : Nat.Coprime P.natAbs a.natAbs := e
    have hd' : P.natAbs ∣ a.natAbs * b.natAbs := by rw [← Int.natAbs_mul]; exact Int.natAbs_dvd_natAbs.2 hd
    exact Int.natAbs_dvd_natAbs.1 (e'.dvd_of_dvd_mul_left hd')
  · left
    rw [← e]
    exact Int.gcd_dvd_right P a
theorem pr_mul {P : Int} (h : prB P = true) {a b : Int} (hd : a * b % P = 0) : a % P = 0 ∨ b % P = 0 := by
  rcases pr_euclid h a b (Int.dvd_of_emod_eq_zero hd) with e | e
  · exact .inl (Int.emod_eq_zero_of_dvd e)
  · exact .inr (Int.emod_eq_zero_of_dvd e)
theorem pr_cancel {P : Int} (h : prB P = true) {a b c : Int} (hc : c % P ≠ 0) (e : a * c % P = b * c % P) : a % P = b % P := by
  have h1 := Int.emod_eq_emod_iff_emod_sub_eq_zero.1 e
  rw [← Int.sub_mul] at h1
  rcases pr_mul h h1 with h2 | h2
  · exact Int.emod_eq_emod_iff_emod_sub_eq_zero.2 h2
  · exact absurd h2 hc

/-- products -/
def prd (l : List Int) : Int := l.foldr (· * ·) 1
theorem prd_perm {l m : List Int} (h : l.Perm m) : prd l = prd m := by
  induction h with
  | nil => rfl
  | cons x _ ih => simp only [prd, List.foldr_cons] at *; rw [ih]
  | swap x y l => simp only [prd, List.foldr_cons]; rw [← Int.mul_assoc, ← Int.mul_assoc, Int.mul_comm y x]
  | trans _ _ h1 h2 => exact h1.trans h2
theorem prd_same (l : List Int) : ∀ S : List Int, l.Nodup → (∀ x ∈ l, x ∈ S) → l.length = S.length → prd l = prd S := by
  induction l with
  | nil => intro S _ _ hl; have : S = [] := List.eq_nil_of_length_eq_zero (by simpa using hl.symm); rw [this]
  | cons x l ih =>
    intro S hn hs hl
    have hx : x ∈ S := hs x (by simp)
    have hp := List.perm_cons_erase hx
    rw [prd_perm hp]
    have hn' := List.nodup_cons.1 hn
    have := ih (S.erase x) hn'.2 (fun y hy => (List.mem_erase_of_ne (fun e => by subst e; exact hn'.1 hy)).2 (hs y (by simp [hy]))) (by rw [List.length_erase_of_mem hx]; simp at hl; omega)
    simp only [prd, List.foldr_cons] at *
    rw [this]
def ones (n : Nat) : List Int := (List.range n).map fun i : Nat => (i : Int) + 1
theorem prd_map_mod (a P : Int) (l : List Int) : prd (l.map fun x => a * x % P) % P = a ^ l.length * prd l % P := by
  induction l with
  | nil => simp [prd]
  | cons x l ih =>
    simp only [List.map_cons, List.length_cons, Int.pow_succ]
    show (a * x % P) * prd (l.map fun x => a * x % P) % P = a ^ l.length * a * (x * prd l) % P
    rw [Int.mul_emod, ih, Int.emod_emod_of_dvd _ (Int.dvd_refl P), ← Int.mul_emod]
    congr 1
    simp only [Int.mul_assoc, Int.mul_left_comm, Int.mul_comm]
theorem prd_ones {P : Int} (h : prB P = true) (n : Nat) (hn : (n : Int) < P) : prd (ones n) % P ≠ 0 := by
  have hb := prB_bd h
  have key : ∀ l : List Int, (∀ x ∈ l, 0 < x ∧ x < P) → prd l % P ≠ 0 := by
    intro l
    induction l with
    | nil => intro _; simp only [prd, List.foldr_nil]; rw [Int.emod_eq_of_lt (by omega) (by omega)]; omega
    | cons x l ih =>
      intro hl e
      rcases pr_mul h (a := x) (b := prd l) e with e | e
      · have := hl x (by simp); rw [Int.emod_eq_of_lt (by omega) (by omega)] at e; omega
      · exact ih (fun y hy => hl y (by simp [hy])) e
  apply key
  intro x hx
  simp only [ones, List.mem_map, List.mem_range] at hx
  obtain ⟨i, hi, rfl⟩ := hx
  omega
theorem fermat {P : Int} (h : prB P = true) (a : Int) (ha : a % P ≠ 0) : a ^ (P.toNat - 1) % P = 1 := by
  have hb := prB_bd h
  have hlen : (ones (P.toNat - 1)).length = P.toNat - 1 := by simp [ones]
  have hprd : prd ((ones (P.toNat - 1)).map fun x => a * x % P) = prd (ones (P.toNat - 1)) := by
    refine prd_same _ _ ?_ ?_ (by simp)
    · simp only [ones, List.map_map]
      rw [List.nodup_iff_pairwise_ne, List.pairwise_iff_getElem]
      intro i j hi hj hij e
      simp only [List.length_map, List.length_range] at hi hj
      simp only [List.getElem_map, List.getElem_range, Function.comp] at e
      rw [Int.mul_comm a, Int.mul_comm a] at e
      have := pr_cancel h ha e
      rw [Int.emod_eq_of_lt (by omega) (by omega), Int.emod_eq_of_lt (by omega) (by omega)] at this
      omega
    · intro y hy
      simp only [ones, List.map_map, List.mem_map, List.mem_range, Function.comp] at hy
      obtain ⟨i, hi, rfl⟩ := hy
      have h1 : 0 ≤ a * ((i : Int) + 1) % P := Int.emod_nonneg _ (by omega)
      have h2 : a * ((i : Int) + 1) % P < P := Int.emod_lt_of_pos _ (by omega)
      have h3 : a * ((i : Int) + 1) % P ≠ 0 := fun e => by
        rcases pr_mul h e with e | e
        · exact ha e
        · rw [Int.emod_eq_of_lt (by omega) (by omega)] at e; omega
      simp only [ones, List.mem_map, List.mem_range]
      exact ⟨(a * ((i : Int) + 1) % P - 1).toNat, by omega, by omega⟩
  have h1 := prd_map_mod a P (ones (P.toNat - 1))
  rw [hprd, hlen] at h1
  have h2 : 1 * prd (ones (P.toNat - 1)) % P = a ^ (P.toNat - 1) * prd (ones (P.toNat - 1)) % P := by rw [Int.one_mul]; exact h1
  have h3 := pr_cancel h (prd_ones h (P.toNat - 1) (by omega)) h2
  rw [← h3]
  exact Int.emod_eq_of_lt (by omega) (by omega)

/-- the inverse; 0 of 0 -/
def inv (P a : Int) : Int := if a % P = 0 then 0 else a ^ (P.toNat - 2) % P
theorem inv_z {P a : Int} (h : a % P = 0) : inv P a = 0 := by unfold inv; rw [if_pos h]
theorem inv_bd {P : Int} (h : 2 ≤ P) (a : Int) : 0 ≤ inv P a ∧ inv P a < P := by
  unfold inv
  split
  · omega
  · exact ⟨Int.emod_nonneg _ (by omega), Int.emod_lt_of_pos _ (by omega)⟩
theorem inv_mul {P : Int} (h : prB P = true) (a : Int) (ha : a % P ≠ 0) : inv P a * a % P = 1 := by
  have hb := prB_bd h
  have hf := fermat h a ha
  unfold inv
  rw [if_neg ha, Int.mul_emod, Int.emod_emod_of_dvd _ (Int.dvd_refl P), ← Int.mul_emod, ← Int.pow_succ, show (P.toNat - 2).succ = P.toNat - 1 by omega]
  exact hf
theorem inv_uniq {P : Int} (h : prB P = true) {a v : Int} (ha : a % P ≠ 0) (hv : 0 ≤ v ∧ v < P) (e : v * a % P = 1) : v = inv P a := by
  have hb := prB_bd h
  have hi := inv_bd hb.1 a
  have := pr_cancel h ha (e.trans (inv_mul h a ha).symm)
  rw [Int.emod_eq_of_lt hv.1 hv.2, Int.emod_eq_of_lt hi.1 hi.2] at this
  exact this
end Go.Proofs.YtbgabipngdillaaGreatDoor

namespace Go.Proofs.YtbgabipngdillaaGreatDoor

/-- a coefficient, 0 where there is none -/
def gd (l : List Int) (k : Nat) : Int := l[k]?.getD 0
theorem gd_lt {l : List Int} {k : Nat} (h : k < l.length) : gd l k = l[k] := by unfold gd; rw [List.getElem?_eq_getElem h]; rfl
theorem gd_ge {l : List Int} {k : Nat} (h : l.length ≤ k) : gd l k = 0 := by unfold gd; rw [List.getElem?_eq_none h]; rfl
/-- an element of the field -/
def el (P x : Int) : Bool := decide (0 ≤ x ∧ x < P)
theorem el_t {P x : Int} (h : el P x = true) : 0 ≤ x ∧ x < P := of_decide_eq_true h
theorem el_mk {P x : Int} (h : 0 ≤ x ∧ x < P) : el P x = true := decide_eq_true h
theorem el_mod {P : Int} (h : 2 ≤ P) (x : Int) : el P (x % P) = true := el_mk ⟨Int.emod_nonneg _ (by omega), Int.emod_lt_of_pos _ (by omega)⟩
def els (P : Int) (l : List Int) : Bool := l.all (el P)
theorem els_all {P : Int} {l : List Int} (h : els P l = true) : ∀ x ∈ l, el P x = true := by simpa [els] using h
theorem els_of {P : Int} {l : List Int} (h : ∀ x ∈ l, el P x = true) : els P l = true := by simpa [els] using h
theorem els_gd {P : Int} (hP : 2 ≤ P) {l : List Int} (h : els P l = true) (k : Nat) : el P (gd l k) = true := by
  by_cases hk : k < l.length
  · rw [gd_lt hk]; exact els_all h _ (List.getElem_mem hk)
  · rw [gd_ge (by omega)]; exact el_mk (by omega)

/-- the value at a point -/
def val (P : Int) (l : List Int) (x : Int) : Int := l.foldr (fun c s => (s * x + c) % P) 0
theorem val_bd {P : Int} (h : 2 ≤ P) (l : List Int) (x : Int) : 0 ≤ val P l x ∧ val P l x < P := by
  cases l with
  | nil => simp only [val, List.foldr_nil]; omega
  | cons c l => exact ⟨Int.emod_nonneg _ (by omega), Int.emod_lt_of_pos _ (by omega)⟩
theorem val_drop {P : Int} {l : List Int} {k : Nat} (h : k < l.length) (x : Int) : val P (l.drop k) x = (val P (l.drop (k + 1)) x * x + l[k]) % P := by
  rw [List.drop_eq_getElem_cons h]
  rfl

/-- without zeros at the end -/
def trim (l : List Int) : List Int := l.foldr (fun c t => if c = 0 ∧ t = [] then [] else c :: t) []
theorem trim_nil : trim [] = [] := rfl
theorem trim_cons (c : Int) (l : List Int) : trim (c :: l) = if c = 0 ∧ trim l = [] then [] else c :: trim l := rfl
theorem trim_zeros {l : List Int} (h : ∀ k, gd l k = 0) : trim l = [] := by
  induction l with
  | nil => rfl
  | cons c l ih =>
    have h0 : c = 0 := h 0
    have h1 : trim l = [] := ih fun k => h (k + 1)
    rw [trim_cons, if_pos ⟨h0, h1⟩]
theorem trim_take {n : Nat} : ∀ {l : List Int}, n ≤ l.length → (∀ k, n ≤ k → gd l k = 0) → (n = 0 ∨ gd l (n - 1) ≠ 0) → trim l = l.take n := by
  induction n with
  | zero => intro l _ h _; rw [List.take_zero]; exact trim_zeros fun k => h k (Nat.zero_le _)
  | succ n ih =>
    intro l hl h h1
    cases l with
    | nil => simp at hl
    | cons c l =>
      have h2 : gd (c :: l) n ≠ 0 := by
        rcases h1 with h1 | h1
        · omega
        · exact h1
      have hr : trim l = l.take n := by
        cases n with
        | zero => exact ih (by simp) (fun k hk => h (k + 1) (by omega)) (.inl rfl)
        | succ n => exact ih (by simpa using hl) (fun k hk => h (k + 1) (by omega)) (.inr (by simpa [gd] using h2))
      rw [trim_cons, if_neg, hr, List.take_succ_cons]
      rintro ⟨hc, ht⟩
      rw [hr] at ht
      cases n with
      | zero => exact h2 hc
      | succ n =>
        have : l = [] ∨ n + 1 = 0 := by
          have := congrArg List.length ht
          simp at this
          cases l with
          | nil => exact .inl rfl
          | cons => simp at this
        rcases this with e | e
        · subst e; simp at hl
        · omega
theorem trim_len (l : List Int) : (trim l).length ≤ l.length := by
  induction l with
  | nil => simp [trim]
  | cons c l ih => rw [trim_cons]; split <;> simp <;> omega
theorem trim_els {P : Int} {l : List Int} (h : els P l = true) : els P (trim l) = true := by
  induction l with
  | nil => exact h
  | cons c l ih =>
    rw [trim_cons]
    have h' := els_all h
    split
    · rfl
    · refine els_of fun x hx => ?_
      rcases List.mem_cons.1 hx with e | e
      · subst e; exact h' x (by simp)
      · exact els_all (ih (els_of fun y hy => h' y (by simp [hy]))) x e
theorem trim_gd (l : List Int) : ∀ k, gd (trim l) k = gd l k := by
  induction l with
  | nil => intro k; rfl
  | cons c l ih =>
    intro k
    rw [trim_cons]
    split
    · rename_i h
      cases k with
      | zero => simp [gd, h.1]
      | succ k =>
        have := ih k
        rw [h.2] at this
        simpa [gd] using this
    · cases k with
      | zero => rfl
      | succ k => simpa [gd] using ih k

/-- a list plus an element times another list, from a place on -/
def addT (P : Int) (to : List Int) (o : Nat) (x : Int) (l : List Int) : List Int :=
  (List.range to.length).map fun k => if o ≤ k ∧ k < o + l.length then (gd to k + x * gd l (k - o)) % P else gd to k
theorem addT_len (P : Int) (to : List Int) (o : Nat) (x : Int) (l : List Int) : (addT P to o x l).length = to.length := by simp [addT]
theorem addT_gd (P : Int) (to : List Int) (o : Nat) (x : Int) (l : List Int) (h : o + l.length ≤ to.length) (k : Nat) : gd (addT P to o x l) k = if o ≤ k ∧ k < o + l.length then (gd to k + x * gd l (k - o)) % P else gd to k := by
  by_cases hk : k < to.length
  · rw [gd_lt (by rw [addT_len]; exact hk)]
    simp [addT]
  · rw [gd_ge (by rw [addT_len]; omega), if_neg (by omega), gd_ge (by omega)]
theorem list_ext_gd {a b : List Int} (hl : a.length = b.length) (h : ∀ k, k < a.length → gd a k = gd b k) : a = b := by
  apply List.ext_getElem hl
  intro k h1 h2
  have := h k h1
  rwa [gd_lt h1, gd_lt h2] at this
theorem gd_set (l : List Int) (i : Nat) (v : Int) (k : Nat) (hi : i < l.length) : gd (l.set i v) k = if k = i then v else gd l k := by
  unfold gd
  rw [List.getElem?_set]
  by_cases e : i = k
  · subst e; simp [hi]
  · rw [if_neg e, if_neg (fun h => e h.symm)]
theorem gd_take (l : List Int) (n k : Nat) : gd (l.take n) k = if k < n then gd l k else 0 := by
  unfold gd
  rw [List.getElem?_take]
  split <;> rfl
theorem addT_zero (P : Int) (to : List Int) (o : Nat) (x : Int) : addT P to o x [] = to := by
  refine list_ext_gd (addT_len _ _ _ _ _) fun k hk => ?_
  rw [addT_len] at hk
  rw [gd_lt (by rw [addT_len]; exact hk)]
  simp [addT]
  omega
theorem addT_step (P : Int) (to : List Int) (o : Nat) (x : Int) (l : List Int) (k : Nat) (hk : k < l.length) (ho : o + l.length ≤ to.length) :
    addT P to o x (l.take (k + 1)) = (addT P to o x (l.take k)).set (o + k) ((gd (addT P to o x (l.take k)) (o + k) + x * l[k]) % P) := by
  refine list_ext_gd (by rw [List.length_set, addT_len, addT_len]) fun j hj => ?_
  rw [addT_len] at hj
  rw [gd_set _ _ _ _ (by rw [addT_len]; omega), addT_gd _ _ _ _ _ (by rw [List.length_take]; omega), addT_gd _ _ _ _ _ (by rw [List.length_take]; omega), addT_gd _ _ _ _ _ (by rw [List.length_take]; omega)]
  simp only [List.length_take]
  by_cases e : j = o + k
  · subst e
    rw [if_pos (by omega), if_pos rfl, if_neg (by omega), show o + k - o = k by omega, gd_take, if_pos (by omega), gd_lt hk]
  · rw [if_neg e]
    by_cases h1 : o ≤ j ∧ j < o + k
    · rw [if_pos (by omega), if_pos (by omega), gd_take, gd_take, if_pos (by omega), if_pos (by omega)]
    · rw [if_neg (by omega), if_neg (by omega)]
theorem addT_els {P : Int} (hP : 2 ≤ P) {to : List Int} (h : els P to = true) (o : Nat) (x : Int) (l : List Int) : els P (addT P to o x l) = true := by
  refine els_of fun y hy => ?_
  simp only [addT, List.mem_map, List.mem_range] at hy
  obtain ⟨k, hk, rfl⟩ := hy
  split
  · exact el_mod hP _
  · exact els_gd hP h k

def zeros (n : Nat) : List Int := List.replicate n 0
theorem zeros_els {P : Int} (hP : 2 ≤ P) (n : Nat) : els P (zeros n) = true := els_of fun x hx => by
  rw [zeros, List.mem_replicate] at hx
  exact el_mk (by omega)
/-- a product -/
def timesP (P : Int) (a b : List Int) : List Int := (List.range a.length).foldl (fun t i => addT P t i (gd a i) b) (zeros (a.length + b.length - 1))
def timesK (P : Int) (a b : List Int) (k : Nat) : List Int := (List.range k).foldl (fun t i => addT P t i (gd a i) b) (zeros (a.length + b.length - 1))
theorem timesK_len (P : Int) (a b : List Int) (k : Nat) : (timesK P a b k).length = a.length + b.length - 1 := by
  induction k with
  | zero => simp [timesK, zeros]
  | succ k ih => unfold timesK at *; rw [List.range_succ, List.foldl_append]; simp only [List.foldl_cons, List.foldl_nil]; rw [addT_len]; exact ih
theorem timesK_succ (P : Int) (a b : List Int) (k : Nat) : timesK P a b (k + 1) = addT P (timesK P a b k) k (gd a k) b := by
  unfold timesK; rw [List.range_succ, List.foldl_append]; rfl
theorem timesK_els {P : Int} (hP : 2 ≤ P) (a b : List Int) (k : Nat) : els P (timesK P a b k) = true := by
  induction k with
  | zero => exact zeros_els hP _
  | succ k ih => rw [timesK_succ]; exact addT_els hP ih _ _ _
/-- a step of Newton's interpolation: the polynomial so far, and the product of all x - at -/
def byN (P : Int) (s : List Int × List Int) (t : Int × Int) : Int := (t.2 - val P s.1 t.1 + P) % P * inv P (val P s.2 t.1) % P
def padd (a : List Int) (n : Nat) : List Int := a ++ zeros (n - a.length)
def stepN (P : Int) (s : List Int × List Int) (t : Int × Int) : List Int × List Int :=
  (addT P (padd s.1 s.2.length) 0 (byN P s t) s.2, timesP P s.2 [(0 - t.1 + P) % P, 1])
def newt (P : Int) (l : List (Int × Int)) : List Int × List Int := l.foldl (stepN P) ([], [1])
def interp (P : Int) (l : List (Int × Int)) : List Int := trim (newt P l).1
theorem newt_snoc (P : Int) (l : List (Int × Int)) (k : Nat) (h : k < l.length) : newt P (l.take (k + 1)) = stepN P (newt P (l.take k)) l[k] := by
  unfold newt
  rw [List.take_succ_eq_append_getElem h, List.foldl_append]
  rfl
theorem newt_len (P : Int) (l : List (Int × Int)) : (newt P l).1.length = (if l.length = 0 then 0 else l.length) ∧ (newt P l).2.length = l.length + 1 := by
  have key : ∀ (l : List (Int × Int)) (s : List Int × List Int) (n : Nat), s.1.length = n → s.2.length = n + 1 → (l.foldl (stepN P) s).1.length = n + l.length ∧ (l.foldl (stepN P) s).2.length = n + l.length + 1 := by
    intro l
    induction l with
    | nil => intro s n h1 h2; exact ⟨h1, h2⟩
    | cons t l ih =>
      intro s n h1 h2
      simp only [List.foldl_cons, List.length_cons]
      have := ih (stepN P s t) (n + 1) (by simp only [stepN]; rw [addT_len]; simp [padd, zeros]; omega) (by simp only [stepN]; have := timesK_len P s.2 [(0 - t.1 + P) % P, 1] s.2.length; unfold timesK at this; unfold timesP; rw [this]; simp; omega)
      omega
  have := key l ([], [1]) 0 rfl rfl
  unfold newt
  split <;> omega
theorem newt_els {P : Int} (hP : 2 ≤ P) (l : List (Int × Int)) : els P (newt P l).1 = true ∧ els P (newt P l).2 = true := by
  have key : ∀ (l : List (Int × Int)) (s : List Int × List Int), els P s.1 = true → els P s.2 = true → els P (l.foldl (stepN P) s).1 = true ∧ els P (l.foldl (stepN P) s).2 = true := by
    intro l
    induction l with
    | nil => intro s h1 h2; exact ⟨h1, h2⟩
    | cons t l ih =>
      intro s h1 h2
      refine ih _ (addT_els hP ?_ _ _ _) (timesK_els hP _ _ _)
      refine els_of fun x hx => ?_
      simp only [padd, List.mem_append] at hx
      rcases hx with hx | hx
      · exact els_all h1 x hx
      · exact els_all (zeros_els hP _) x hx
  refine key l _ rfl (els_of fun x hx => ?_)
  simp at hx
  subst hx
  exact el_mk (by omega)
end Go.Proofs.YtbgabipngdillaaGreatDoor

namespace Go.Proofs.YtbgabipngdillaaGreatDoor
open Go.RowKit

theorem ret_int {k : IntKind} {a b : Int} (h : a = b) : Ending.returned (.int k a) = .returned (.int k b) := by rw [h]
theorem ret_two {a b c d : Int} {k k' : IntKind} (h : a = b) (h' : c = d) : Ending.returned (.tuple #[.int k a, .int k' c]) = .returned (.tuple #[.int k b, .int k' d]) := by rw [h, h']
theorem ret_bool {a b : Bool} (h : a = b) : Ending.returned (.bool a) = .returned (.bool b) := by rw [h]

/-- the range of int -/
def i64r (x : Int) : Prop := -9223372036854775808 ≤ x ∧ x ≤ 9223372036854775807

/-- The value v is a slice of ints (nil too) below block B that reads as l. -/
def SB (B : Nat) (w : World) (v : Value) (l : List Int) : Prop :=
  ∃ A c, v = .slice A l.length c ∧ l.length ≤ c ∧ c ≤ 9223372036854775807 ∧ (∀ x ∈ l, i64r x) ∧
    (0 < l.length → ∃ b off, A = some ⟨b, off, none⟩ ∧ b < B ∧ ∀ j (h : j < l.length), w.cell? ⟨b, off + j, none⟩ = some (.int .i64 l[j]))
/-- The same, anywhere. -/
def SI (w : World) (v : Value) (l : List Int) : Prop := SB w.heap.size w v l

theorem SB.keep {B : Nat} {w w' : World} {v : Value} {l : List Int} (h : SB B w v l) (hk : ∀ p : Addr, p.block < B → w'.cell? p = w.cell? p) : SB B w' v l := by
  obtain ⟨A, c, rfl, hc, hm, hr, ha⟩ := h
  refine ⟨A, c, rfl, hc, hm, hr, fun h0 => ?_⟩
  obtain ⟨b, off, rfl, hb, hcell⟩ := ha h0
  exact ⟨b, off, rfl, hb, fun j hj => (hk _ hb).trans (hcell j hj)⟩
theorem SB.more {B B' : Nat} {w : World} {v : Value} {l : List Int} (h : SB B w v l) (hB : B ≤ B') : SB B' w v l := by
  obtain ⟨A, c, rfl, hc, hm, hr, ha⟩ := h
  refine ⟨A, c, rfl, hc, hm, hr, fun h0 => ?_⟩
  obtain ⟨b, off, rfl, hb, hcell⟩ := ha h0
  exact ⟨b, off, rfl, by omega, hcell⟩
theorem SB.below {B : Nat} {w w' : World} {v : Value} {l : List Int} (h : SB B w v l) (hb : Below B w w') : SB B w' v l := h.keep fun _ hp => hb.cell hp
theorem SI.below {w w' : World} {v : Value} {l : List Int} (h : SI w v l) (hb : Below w.heap.size w w') : SI w' v l := (SB.below h hb).more hb.size
theorem SB.si {B : Nat} {w : World} {v : Value} {l : List Int} (h : SB B w v l) (hB : B ≤ w.heap.size) : SI w v l := SB.more h hB
theorem SB.grown {B : Nat} {w w' : World} {v : Value} {l : List Int} {g : Nat} (h : SB B w v l) (hg : w.grownBy w' (some g)) (hB : B ≤ g) (hw : B ≤ w.heap.size) : SB B w' v l :=
  h.keep fun p hp => World.cell?_of_block (hg.block p.block (by omega) (by simp; omega))

theorem Below.drewN {B : Nat} {a w : World} (h : Below B a w) (n : Nat) : Below B a (w.drewN n) := ⟨h.os, h.tape, h.output, h.size, h.block⟩
theorem _root_.Go.RowKit.Below.drew_left {B : Nat} {a w : World} (h : Below B a.drew w) : Below B a w := ⟨h.os, h.tape, h.output, h.size, h.block⟩
theorem grownBy_refl (w : World) (r : Option Nat) : w.grownBy w r := ⟨rfl, rfl, rfl, Nat.le_refl _, fun _ _ _ => rfl⟩
theorem grownBy_trans {a b c : World} {r : Option Nat} (h : a.grownBy b r) (k : b.grownBy c r) : a.grownBy c r :=
  ⟨k.os.trans h.os, k.tape.trans h.tape, k.output.trans h.output, Nat.le_trans h.size k.size, fun i hi hn => (k.block i (Nat.lt_of_lt_of_le hi h.size) hn).trans (h.block i hi hn)⟩
theorem grownBy_drewN {a w : World} {r : Option Nat} (h : a.grownBy w r) (n : Nat) : a.grownBy (w.drewN n) r := ⟨h.os, h.tape, h.output, h.size, h.block⟩
theorem grownBy_setCell {a w : World} {g : Nat} (h : a.grownBy w (some g)) {p : Addr} (hp : p.block = g ∨ a.heap.size ≤ p.block) (u : Value) : a.grownBy (w.setCell p u) (some g) :=
  ⟨h.os, h.tape, h.output, by simpa [World.setCell] using h.size, fun i hi hne => (Below.heap_setCell w p u i (by
    rintro rfl
    rcases hp with hp | hp
    · exact hne (by rw [hp])
    · omega)).trans (h.block i hi hne)⟩
theorem grownBy_of_below {a w : World} (h : Below a.heap.size a w) (r : Option Nat) : a.grownBy w r := ⟨h.os, h.tape, h.output, h.size, fun i hi _ => h.block i hi⟩
theorem grownBy_alloc' {a w : World} {r : Option Nat} (h : a.grownBy w r) (o : Obj) : a.grownBy (w.alloc o) r :=
  grownBy_trans h (World.grownBy_alloc w o r)
/-- behind a step that wrote into a block of the call's own -/
theorem grownBy_own {a w w' : World} {r r' : Option Nat} (h : a.grownBy w r) (hg : w.grownBy w' r') (hr : ∀ k, r' = some k → a.heap.size ≤ k) : a.grownBy w' r :=
  ⟨hg.os.trans h.os, hg.tape.trans h.tape, hg.output.trans h.output, Nat.le_trans h.size hg.size, fun i hi hn => (hg.block i (Nat.lt_of_lt_of_le hi h.size) (fun e => by have := hr i e.symm; omega)).trans (h.block i hi hn)⟩
theorem below_of_grownBy {a w : World} {g : Nat} (h : a.grownBy w (some g)) {B : Nat} (hB : B ≤ g) (ha : B ≤ a.heap.size) : Below B a w :=
  ⟨h.os, h.tape, h.output, h.size, fun i hi => h.block i (by omega) (by simp; omega)⟩

theorem bcell {W w1 : World} (hb : Below W.heap.size W w1) : (∀ b o, b < W.heap.size → w1.cell? ⟨b, o, none⟩ = W.cell? ⟨b, o, none⟩) ∧ (∀ b o, b < W.heap.size → w1.frozen? ⟨b, o, none⟩ = W.frozen? ⟨b, o, none⟩) :=
  ⟨fun b o h => hb.cell (p := ⟨b, o, none⟩) h, fun b o h => hb.frozen (p := ⟨b, o, none⟩) h⟩

/-- a row of the call's own reads as its ints -/
theorem SI.of_own {w : World} {base : Nat} {e : TypeId} {v : Value} {l : List Int} (h : w.ownsRow base e 1 v l.length (l.map (Value.int .i64))) (hr : ∀ x ∈ l, i64r x) : SI w v l := by
  rcases h.2 with ⟨rfl, hn⟩ | ⟨g, cap, cur, rfl, hb, hg, hnc, hcm, hcs, htake⟩
  · have : l = [] := List.eq_nil_of_length_eq_zero hn
    subst this
    exact ⟨none, 0, rfl, Nat.le_refl _, by omega, hr, fun h => by simp at h⟩
  · refine ⟨_, cap, rfl, hnc, by simpa [maxLen] using hcm, hr, fun h0 => ⟨g, 0, rfl, (Array.getElem?_eq_some_iff.1 hg).1, fun j hj => ?_⟩⟩
    have := h.cellAt j (by omega)
    rw [Nat.zero_add, this]
    simp [hj]
theorem addr_add (g j : Nat) : (⟨g, 0, none⟩ : Addr).add j = ⟨g, j, none⟩ := by unfold Addr.add; split <;> simp_all
/-- the cells of a new block -/
theorem cells_new (w : World) (cs : List Value) (t : TypeId) : ∀ j u, cs[j]? = some u → (w.alloc (.cells cs.toArray t)).cell? ((⟨w.heap.size, 0, none⟩ : Addr).add j) = some u := by
  intro j u hu
  rw [addr_add, cell_of_row _ w.heap.size j cs.toArray t (0, 0) (heap_alloc_new w _)]
  simpa using hu
theorem heap_of_cells {w : World} {g : Nat} {cs : Array Value} {t : TypeId} (h : w.heap[g]? = some (.cells cs t (0, 0))) : g < w.heap.size := (Array.getElem?_eq_some_iff.1 h).1
end Go.Proofs.YtbgabipngdillaaGreatDoor

namespace Go.Proofs.YtbgabipngdillaaGreatDoor

theorem tmod_cases (n m : Int) (hm : 0 < m) : n.tmod m = n % m ∨ (n < 0 ∧ 0 < n % m ∧ n.tmod m = n % m - m) := by
  rw [Int.tmod_eq_emod]
  split
  · left; omega
  · rename_i h
    right
    have h1 : 0 ≤ n % m := Int.emod_nonneg n (by omega)
    have h2 : n % m ≠ 0 := fun e => h (.inr (Int.dvd_of_emod_eq_zero e))
    refine ⟨by omega, by omega, ?_⟩
    omega
theorem tmod_bd (n m : Int) (hm : 0 < m) : -m < n.tmod m ∧ n.tmod m < m := by
  have h1 : 0 ≤ n % m := Int.emod_nonneg n (by omega)
  have h2 : n % m < m := Int.emod_lt_of_pos n hm
  rcases tmod_cases n m hm with h | ⟨_, _, h⟩ <;> omega
theorem tmod_fix (n m : Int) (hm : 0 < m) : (n.tmod m + m).tmod m = n % m := by
  have h1 : 0 ≤ n % m := Int.emod_nonneg n (by omega)
  have h2 : n % m < m := Int.emod_lt_of_pos n hm
  rcases tmod_cases n m hm with h | ⟨_, _, h⟩
  · rw [h, Int.tmod_eq_emod_of_nonneg (by omega), Int.add_emod_right, Int.emod_emod_of_dvd _ (Int.dvd_refl m)]
  · rw [h, show n % m - m + m = n % m by omega, Int.tmod_eq_emod_of_nonneg h1, Int.emod_emod_of_dvd _ (Int.dvd_refl m)]

end Go.Proofs.YtbgabipngdillaaGreatDoor

namespace Go.Proofs.YtbgabipngdillaaGreatDoor
open Go.RowKit
section
variable {P : Program} (w : World)

theorem run_append_of_nil (base : Nat) (t ty e : TypeId) (i : TypeInfo) (size : Nat) (ht : P.underlying t = some (.slice e)) (hi : P.info? e = some i)
    (v : Value) (n : Nat) (xs : List Value) (hown : w.ownsRow base e size v n xs) (c : Nat) : (Builtin.append_ #[t, t] ty #[v, .slice none 0 c]).run P w = .ok v w := by
  rcases hown.2 with ⟨rfl, rfl⟩ | ⟨g, cap, cur, rfl, _, _, hnc, _⟩
  · simp [Builtin.append_, run_underlying ht, sizeOf, typeInfo, hi, Builtin.lenOf, Builtin.firstCells]
  · simp [Builtin.append_, run_underlying ht, sizeOf, typeInfo, hi, Builtin.lenOf, Builtin.firstCells, hnc, storeCells]

/-- A slice whose n elements of sz cells each are the cells cs. -/
def SC (B : Nat) (w : World) (v : Value) (n sz : Nat) (cs : List Value) : Prop :=
  ∃ A c, v = .slice A n c ∧ cs.length = n * sz ∧ (0 < n → ∃ b off, A = some ⟨b, off, none⟩ ∧ b < B ∧ ∀ j u, cs[j]? = some u → w.cell? ⟨b, off + j, none⟩ = some u)
theorem SB.sc {B : Nat} {w : World} {v : Value} {l : List Int} (h : SB B w v l) : SC B w v l.length 1 (l.map (Value.int .i64)) := by
  obtain ⟨A, c, rfl, hc, hm, hr, ha⟩ := h
  refine ⟨A, c, rfl, by simp, fun h0 => ?_⟩
  obtain ⟨b, off, rfl, hb, hcell⟩ := ha h0
  refine ⟨b, off, rfl, hb, fun j u hu => ?_⟩
  rw [List.getElem?_map] at hu
  obtain ⟨x, hx, rfl⟩ := Option.map_eq_some_iff.1 hu
  obtain ⟨hj, rfl⟩ := List.getElem?_eq_some_iff.1 hx
  exact hcell j hj

theorem run_append_sc (base : Nat) (t ty e : TypeId) (i : TypeInfo) (z : Value) (size bytes : Nat) (ht : P.underlying t = some (.slice e)) (hi : P.info? e = some i) (hz : i.zero = some z)
    (hsize : i.size = size) (hby : i.bytes = bytes) (hzs : z.cells.size = size) (hsz : 0 < size)
    (v : Value) (n : Nat) (xs : List Value) (hown : w.ownsRow base e size v n xs)
    (B : Nat) (src : Value) (m : Nat) (news : List Value) (hr : SC B w src m size news) (h1 : ∀ u ∈ news, u.oneCell' = true)
    (h63 : n + m ≤ maxLen) (hbytes : (n + m) * bytes ≤ 140737488355328) (hbase : base ≤ w.heap.size) :
    ∃ v' w', (Builtin.append_ #[t, t] ty #[v, src]).run P w = .ok v' w' ∧ w'.ownsRow base e size v' (n + m) (xs ++ news) ∧ w.grownBy w' v.ownBlock := by
  obtain ⟨A, c, rfl, hl, ha⟩ := hr
  rcases Nat.eq_zero_or_pos m with h0 | h0
  · subst h0
    have hn : news = [] := List.eq_nil_of_length_eq_zero (by simpa using hl)
    subst hn
    rcases A with _ | ad
    · exact ⟨v, w, run_append_of_nil w base t ty e i size ht hi v n xs hown c, by simpa using hown, grownBy_refl w _⟩
    · obtain ⟨v', w', hrun, h2, h3, _, h5⟩ := run_append_own_at (P := P) w base t ty e i z size bytes ht hi hz hsize hby hzs hsz v n xs hown ad 0 c [] hl (by simp) h1 h63 hbytes hbase
      exact ⟨v', w', hrun, h2, h3⟩
  · obtain ⟨b, off, rfl, hb, hc⟩ := ha h0
    obtain ⟨v', w', hrun, h2, h3, _, h5⟩ := run_append_own_at (P := P) w base t ty e i z size bytes ht hi hz hsize hby hzs hsz v n xs hown ⟨b, off, none⟩ m c news hl (fun j u hu => by
      have : (⟨b, off, none⟩ : Addr).add j = ⟨b, off + j, none⟩ := by unfold Addr.add; split <;> simp_all
      rw [this]; exact hc j u hu) h1 h63 hbytes hbase
    exact ⟨v', w', hrun, h2, h3⟩

theorem wp_append_sc {o : Oper} {a : Act} {K : Act → World → Prop} {Q : Exit → Act → World → Prop} (s x : Operand) (t : TypeId)
    (ho : o.op = .call { callee := .builtin .append, args := #[s, x], argTypes := #[t, t] })
    (base : Nat) (e : TypeId) (i : TypeInfo) (z : Value) (size bytes : Nat) (ht : P.underlying t = some (.slice e)) (hi : P.info? e = some i) (hz : i.zero = some z)
    (hsize : i.size = size) (hby : i.bytes = bytes) (hzs : z.cells.size = size) (hsz : 0 < size)
    (v : Value) (n : Nat) (xs : List Value) (hs : a.eval s = v) (hown : w.ownsRow base e size v n xs)
    (B : Nat) (src : Value) (m : Nat) (news : List Value) (hx : a.eval x = src) (hr : SC B w src m size news) (h1 : ∀ u ∈ news, u.oneCell' = true)
    (h63 : n + m ≤ maxLen) (hbytes : (n + m) * bytes ≤ 140737488355328) (hbase : base ≤ w.heap.size)
    (h : ∀ v' w', w'.ownsRow base e size v' (n + m) (xs ++ news) → w.grownBy w' v.ownBlock → K (a.put o.dst v') w') : o.wp P a w K Q := by
  obtain ⟨v', w', hrun, h2, h3⟩ := run_append_sc (P := P) w base t o.type e i z size bytes ht hi hz hsize hby hzs hsz v n xs hown B src m news hr h1 h63 hbytes hbase
  unfold Oper.wp execOp
  simp only [ho, resolve, invoke, builtin, Sem.run_bind, Sem.run_pure, Result.andThen_ok, List.map_toArray, List.map_cons, List.map_nil, hs, hx, hrun]
  exact h v' w' h2 h3

theorem wpList_append_sc {ops : Array Oper} {rest : List Oper} {o : Oper} {a : Act} {Q : Exit → Act → World → Prop} (hgd : o.guard = none) (s x : Operand) (t : TypeId)
    (ho : o.op = .call { callee := .builtin .append, args := #[s, x], argTypes := #[t, t] })
    (base : Nat) (e : TypeId) (i : TypeInfo) (z : Value) (size bytes : Nat) (ht : P.underlying t = some (.slice e)) (hi : P.info? e = some i) (hz : i.zero = some z)
    (hsize : i.size = size) (hby : i.bytes = bytes) (hzs : z.cells.size = size) (hsz : 0 < size)
    (v : Value) (n : Nat) (xs : List Value) (hs : a.eval s = v) (hown : w.ownsRow base e size v n xs)
    (B : Nat) (src : Value) (m : Nat) (news : List Value) (hx : a.eval x = src) (hr : SC B w src m size news) (h1 : ∀ u ∈ news, u.oneCell' = true)
    (h63 : n + m ≤ maxLen) (hbytes : (n + m) * bytes ≤ 140737488355328) (hbase : base ≤ w.heap.size)
    (h : ∀ v' w', w'.ownsRow base e size v' (n + m) (xs ++ news) → w.grownBy w' v.ownBlock → wpList P ops Q rest (a.put o.dst v') w') : wpList P ops Q (o :: rest) a w :=
  wpList_plain hgd fun _ hK => wp_append_sc w s x t ho base e i z size bytes ht hi hz hsize hby hzs hsz v n xs hs hown B src m news hx hr h1 h63 hbytes hbase fun v' w' h2 h3 => hK _ _ (h v' w' h2 h3)
end
theorem iinfo : (Tryz.prog.info? 3).map (fun i => (i.zero, i.size, i.bytes)) = some (some (.int .i64 0), 1, 8) := by kernel_rfl
theorem one_ints (l : List Int) : ∀ u ∈ l.map (Value.int .i64), u.oneCell' = true := by
  intro u hu
  obtain ⟨x, _, rfl⟩ := List.mem_map.1 hu
  rfl
/-- append(own, ints...) -/
theorem wpList_append_ints {P : Program} (w : World) {ops : Array Oper} {rest : List Oper} {o : Oper} {a : Act} {Q : Exit → Act → World → Prop} (hgd : o.guard = none) (s x : Operand) (t : TypeId)
    (ho : o.op = .call { callee := .builtin .append, args := #[s, x], argTypes := #[t, t] })
    (base : Nat) (e : TypeId) (ht : P.underlying t = some (.slice e)) (hinfo : (P.info? e).map (fun i => (i.zero, i.size, i.bytes)) = some (some (.int .i64 0), 1, 8))
    (v : Value) (xs : List Int) (hs : a.eval s = v) (hown : w.ownsRow base e 1 v xs.length (xs.map (Value.int .i64)))
    (B : Nat) (src : Value) (l : List Int) (hx : a.eval x = src) (hr : SB B w src l)
    (hbytes : xs.length + l.length ≤ 17592186044416) (hbase : base ≤ w.heap.size)
    (h : ∀ v' w', w'.ownsRow base e 1 v' (xs ++ l).length ((xs ++ l).map (Value.int .i64)) → w.grownBy w' v.ownBlock → wpList P ops Q rest (a.put o.dst v') w') : wpList P ops Q (o :: rest) a w := by
  obtain ⟨i0, hi0, hz0, hz1, hz2⟩ := info_parts hinfo
  refine wpList_append_sc w hgd s x t ho base e i0 _ 1 8 ht hi0 hz0 hz1 hz2 rfl (by omega) v _ _ hs hown B src _ _ hx hr.sc (one_ints l) (by unfold maxLen; omega) (by omega) hbase fun v' w' h1 h2 => h v' w' (by rw [List.length_append, List.map_append]; exact h1) h2
/-- append(own, x) -/
theorem wpList_append_int1 {P : Program} (w : World) {ops : Array Oper} {rest : List Oper} {o : Oper} {a : Act} {Q : Exit → Act → World → Prop} (hgd : o.guard = none) (s x : Operand) (t : TypeId)
    (ho : o.op = .call { callee := .builtin .append, args := #[s, x], argTypes := #[t, t] })
    (base : Nat) (e : TypeId) (ht : P.underlying t = some (.slice e)) (hinfo : (P.info? e).map (fun i => (i.zero, i.size, i.bytes)) = some (some (.int .i64 0), 1, 8))
    (v : Value) (xs : List Int) (hs : a.eval s = v) (hown : w.ownsRow base e 1 v xs.length (xs.map (Value.int .i64)))
    (y : Int) (hx : a.eval x = .slice (some ⟨w.heap.size, 0, none⟩) 1 1)
    (hbytes : xs.length + 1 ≤ 17592186044416) (hbase : base ≤ w.heap.size)
    (h : ∀ v' w', w'.ownsRow base e 1 v' (xs ++ [y]).length ((xs ++ [y]).map (Value.int .i64)) → (w.alloc (.cells #[.int .i64 y] e)).grownBy w' v.ownBlock → wpList P ops Q rest (a.put o.dst v') w') : wpList P ops Q (o :: rest) a (w.alloc (.cells #[.int .i64 y] e)) := by
  obtain ⟨i0, hi0, hz0, hz1, hz2⟩ := info_parts hinfo
  refine wpList_append_own _ hgd s x t ho base e i0 _ 1 8 ht hi0 hz0 hz1 hz2 rfl (by omega) v _ _ hs (hown.alloc _) ⟨w.heap.size, 0, none⟩ 1 1 [.int .i64 y] hx rfl (cells_new w [.int .i64 y] e) (by intro u hu; simp at hu; subst hu; rfl) (by unfold maxLen; omega) (by omega) (by simp; omega) fun v' w' h1 h2 _ => h v' w' (by rw [List.length_append, List.map_append]; exact h1) h2
/-- append(own, x) inside a region that draws its order -/
theorem step_append_int1 {P : Program} (w : World) {ops : Array Oper} {o : Oper} {a : Act} {K : Act → World → Prop} {Q : Exit → Act → World → Prop} {E : Prop} (hgd : o.guard = none) (s x : Operand) (t : TypeId)
    (ho : o.op = .call { callee := .builtin .append, args := #[s, x], argTypes := #[t, t] })
    (base : Nat) (e : TypeId) (ht : P.underlying t = some (.slice e)) (hinfo : (P.info? e).map (fun i => (i.zero, i.size, i.bytes)) = some (some (.int .i64 0), 1, 8))
    (v : Value) (xs : List Int) (hs : a.eval s = v) (hown : w.ownsRow base e 1 v xs.length (xs.map (Value.int .i64)))
    (y : Int) (b : Nat) (hx : a.eval x = .slice (some ⟨b, 0, none⟩) 1 1) (hc : w.cell? ⟨b, 0, none⟩ = some (.int .i64 y))
    (hbytes : xs.length + 1 ≤ 17592186044416) (hbase : base ≤ w.heap.size)
    (h : ∀ v' w', w'.ownsRow base e 1 v' (xs ++ [y]).length ((xs ++ [y]).map (Value.int .i64)) → w.grownBy w' v.ownBlock → K (a.put o.dst v') w') :
    if Region.wanted o (yielded ops a.tmps) = true then Oper.wp P o a w K Q else E := by
  obtain ⟨i0, hi0, hz0, hz1, hz2⟩ := info_parts hinfo
  have hw : Region.wanted o (yielded ops a.tmps) = true := by simp [Region.wanted, hgd]
  rw [if_pos hw]
  refine wp_append_sc w s x t ho base e i0 _ 1 8 ht hi0 hz0 hz1 hz2 rfl (by omega) v _ _ hs hown (b + 1) _ 1 [.int .i64 y] hx ⟨_, 1, rfl, rfl, fun _ => ⟨b, 0, rfl, by omega, fun j u hu => ?_⟩⟩ (by intro u hu; simp at hu; subst hu; rfl) (by unfold maxLen; omega) (by omega) hbase fun v' w' h1 h2 => h v' w' (by rw [List.length_append, List.map_append]; exact h1) h2
  cases j with
  | zero => simp at hu; subst hu; exact hc
  | succ j => simp at hu
theorem run_append_sc_at {P : Program} (w : World) (base : Nat) (t ty e : TypeId) (i : TypeInfo) (z : Value) (size bytes : Nat) (ht : P.underlying t = some (.slice e)) (hi : P.info? e = some i) (hz : i.zero = some z)
    (hsize : i.size = size) (hby : i.bytes = bytes) (hzs : z.cells.size = size) (hsz : 0 < size)
    (v : Value) (n : Nat) (xs : List Value) (hown : w.ownsRow base e size v n xs)
    (B : Nat) (src : Value) (m : Nat) (news : List Value) (hr : SC B w src m size news) (h1 : ∀ u ∈ news, u.oneCell' = true)
    (h63 : n + m ≤ maxLen) (hbytes : (n + m) * bytes ≤ 140737488355328) (hbase : base ≤ w.heap.size) :
    ∃ v' w', (Builtin.append_ #[t, t] ty #[v, src]).run P w = .ok v' w' ∧ w'.ownsRow base e size v' (n + m) (xs ++ news) ∧ w.grownBy w' v.ownBlock ∧ (v'.ownBlock = v.ownBlock ∨ v'.ownBlock = some w.heap.size) := by
  obtain ⟨A, c, rfl, hl, ha⟩ := hr
  rcases Nat.eq_zero_or_pos m with h0 | h0
  · subst h0
    have hn : news = [] := List.eq_nil_of_length_eq_zero (by simpa using hl)
    subst hn
    rcases A with _ | ad
    · exact ⟨v, w, run_append_of_nil w base t ty e i size ht hi v n xs hown c, by simpa using hown, grownBy_refl w _, .inl rfl⟩
    · obtain ⟨v', w', hrun, h2, h3, _, h5⟩ := run_append_own_at (P := P) w base t ty e i z size bytes ht hi hz hsize hby hzs hsz v n xs hown ad 0 c [] hl (by simp) h1 h63 hbytes hbase
      exact ⟨v', w', hrun, h2, h3, h5⟩
  · obtain ⟨b, off, rfl, hb, hc⟩ := ha h0
    obtain ⟨v', w', hrun, h2, h3, _, h5⟩ := run_append_own_at (P := P) w base t ty e i z size bytes ht hi hz hsize hby hzs hsz v n xs hown ⟨b, off, none⟩ m c news hl (fun j u hu => by
      have : (⟨b, off, none⟩ : Addr).add j = ⟨b, off + j, none⟩ := by unfold Addr.add; split <;> simp_all
      rw [this]; exact hc j u hu) h1 h63 hbytes hbase
    exact ⟨v', w', hrun, h2, h3, h5⟩
theorem step_append_int1_at {P : Program} (w : World) {ops : Array Oper} {o : Oper} {a : Act} {K : Act → World → Prop} {Q : Exit → Act → World → Prop} {E : Prop} (hgd : o.guard = none) (s x : Operand) (t : TypeId)
    (ho : o.op = .call { callee := .builtin .append, args := #[s, x], argTypes := #[t, t] })
    (base : Nat) (e : TypeId) (ht : P.underlying t = some (.slice e)) (hinfo : (P.info? e).map (fun i => (i.zero, i.size, i.bytes)) = some (some (.int .i64 0), 1, 8))
    (v : Value) (xs : List Int) (hs : a.eval s = v) (hown : w.ownsRow base e 1 v xs.length (xs.map (Value.int .i64)))
    (y : Int) (b : Nat) (hx : a.eval x = .slice (some ⟨b, 0, none⟩) 1 1) (hc : w.cell? ⟨b, 0, none⟩ = some (.int .i64 y))
    (hbytes : xs.length + 1 ≤ 17592186044416) (hbase : base ≤ w.heap.size)
    (h : ∀ g cap w', w'.ownsRow base e 1 (.slice (some ⟨g, 0, none⟩) (xs ++ [y]).length cap) (xs ++ [y]).length ((xs ++ [y]).map (Value.int .i64)) → w.grownBy w' v.ownBlock → (v.ownBlock = some g ∨ g = w.heap.size) → K (a.put o.dst (.slice (some ⟨g, 0, none⟩) (xs ++ [y]).length cap)) w') :
    if Region.wanted o (yielded ops a.tmps) = true then Oper.wp P o a w K Q else E := by
  obtain ⟨i0, hi0, hz0, hz1, hz2⟩ := info_parts hinfo
  have hw : Region.wanted o (yielded ops a.tmps) = true := by simp [Region.wanted, hgd]
  rw [if_pos hw]
  obtain ⟨v', w', hrun, h2, h3, h4⟩ := run_append_sc_at (P := P) w base t o.type e i0 _ 1 8 ht hi0 hz0 hz1 hz2 rfl (by omega) v _ _ hown (b + 1) (.slice (some ⟨b, 0, none⟩) 1 1) 1 [.int .i64 y] ⟨_, 1, rfl, rfl, fun _ => ⟨b, 0, rfl, by omega, fun j u hu => by
    cases j with
    | zero => simp at hu; subst hu; exact hc
    | succ j => simp at hu⟩⟩ (by intro u hu; simp at hu; subst hu; rfl) (by unfold maxLen; omega) (by omega) hbase
  have h2' : w'.ownsRow base e 1 v' (xs ++ [y]).length ((xs ++ [y]).map (Value.int .i64)) := by rw [List.length_append, List.map_append]; exact h2
  rcases h2'.2 with ⟨_, hn'⟩ | ⟨g, cap, cur, rfl, hb, hg, hnc, hcm, hcs, htake⟩
  · simp at hn'
  · unfold Oper.wp execOp
    simp only [ho, resolve, invoke, builtin, Sem.run_bind, Sem.run_pure, Result.andThen_ok, List.map_toArray, List.map_cons, List.map_nil, hs, hx, hrun]
    refine h g cap w' h2' h3 ?_
    rcases h4 with e4 | e4
    · exact .inl (by rw [← e4]; rfl)
    · exact .inr (by simpa [Value.ownBlock] using e4)
theorem own_form {w : World} {base e size n : Nat} {v : Value} {xs : List Value} (h : w.ownsRow base e size v n xs) (hn : 0 < n) : ∃ g cap, v = .slice (some ⟨g, 0, none⟩) n cap ∧ base ≤ g ∧ g < w.heap.size := by
  rcases h.2 with ⟨rfl, hn'⟩ | ⟨g, cap, cur, rfl, hb, hg, hnc, hcm, hcs, htake⟩
  · omega
  · exact ⟨g, cap, rfl, hb, heap_of_cells hg⟩
theorem own_int {w : World} {base e g cap : Nat} {l : List Int} (h : w.ownsRow base e 1 (.slice (some ⟨g, 0, none⟩) l.length cap) l.length (l.map (Value.int .i64))) (j : Nat) (hj : j < l.length) :
    w.cell? ⟨g, j, none⟩ = some (.int .i64 l[j]) := by
  have k0 := h.cellAt j (by omega)
  rw [List.getElem?_map, List.getElem?_eq_getElem hj] at k0
  exact k0
theorem own_cell {w w1 : World} {cs : Array Value} {T : TypeId} (h : Below (w.alloc (.cells cs T)).heap.size (w.alloc (.cells cs T)) w1) (i : Nat) : w1.cell? ⟨w.heap.size, i, none⟩ = cs[i]? := by
  rw [h.cell (by simp), cell_of_row _ w.heap.size i cs T (0, 0) (heap_alloc_new w _)]
theorem SB.cells {B c n : Nat} {A : Option Addr} {w : World} {l : List Int} (h : SB B w (.slice A n c) l) (h0 : 0 < l.length) :
    ∃ b off, A = some ⟨b, off, none⟩ ∧ b < B ∧ ∀ j (h : j < l.length), w.cell? ⟨b, off + j, none⟩ = some (.int .i64 l[j]) := by
  obtain ⟨A', c', e, _, _, _, ha⟩ := h
  injection e with e1 e2 e3
  subst e1
  exact ha h0
/-- a literal slice that the call made -/
theorem own_lit {base : Nat} (w : World) (e : TypeId) (l : List Value) (hb : base ≤ w.heap.size) (hm : l.length ≤ maxLen) :
    (w.alloc (.cells l.toArray e)).ownsRow base e 1 (.slice (some ⟨w.heap.size, 0, none⟩) l.length l.length) l.length l := by
  have := World.ownsRow_lit (e := e) (size := 1) w l.toArray l.length hb hm (by simp)
  simpa using this
end Go.Proofs.YtbgabipngdillaaGreatDoor

namespace Go.Proofs.YtbgabipngdillaaGreatDoor
open Go.RowKit

theorem wrapin {x : Int} (h : -9223372036854775808 ≤ x ∧ x ≤ 9223372036854775807) : i64r x := h
theorem mul_bd {a b P : Int} (ha : 0 ≤ a ∧ a < P) (hb : 0 ≤ b ∧ b < P) (hP : P ≤ 65521) : 0 ≤ a * b ∧ a * b ≤ 4293001441 := by
  have h1 := Int.mul_nonneg ha.1 hb.1
  have h2 : a * b ≤ 65521 * 65521 := Int.mul_le_mul (by omega) (by omega) hb.1 (by omega)
  omega

/-- the prime, or 0 -/
def ofP (P : Int) : Int := if prB P = true then P else 0
theorem ofP_t {P : Int} (h : prB P = true) : ofP P = P := if_pos h
theorem ofP_f {P : Int} (h : prB P = false) : ofP P = 0 := by unfold ofP; rw [h]; rfl
set_option maxHeartbeats 1000000 in
theorem of_any (P : Int) (w : World) (hP : i64r P) :
    Calls Tryz.prog 50 #[.agg #[.int .i64 P]] w fun e w' => e = .returned (.tuple #[.int .i64 (ofP P), .bool (prB P)]) ∧ Below w.heap.size w w' := by
  obtain ⟨hP1, hP2⟩ := hP
  by_cases h1 : P < 2
  · have HB := Lib.hid (prB_f (.inl h1))
    go_enter Tryz.func50, Tryz.ntmps50
    go_wp2
    go_ret2
    exact ⟨by first | (rw [HB.out, ofP_f HB.out]; rfl) | (rw [HB.out, ofP_t HB.out]; rfl), (Below.refl _ _).alloc (Nat.le_refl _) _⟩
  by_cases h2 : 65521 < P
  · have HB := Lib.hid (prB_f (.inr h2))
    go_enter Tryz.func50, Tryz.ntmps50
    go_wp2
    go_ret2
    exact ⟨by first | (rw [HB.out, ofP_f HB.out]; rfl) | (rw [HB.out, ofP_t HB.out]; rfl), (Below.refl _ _).alloc (Nat.le_refl _) _⟩
  have h3 : 2 ≤ P := by omega
  have h4 : P ≤ 65521 := by omega
  clear h1 h2
  go_enter Tryz.func50, Tryz.ntmps50
  go_wp2
  go_loop [4] (fun i => ∃ d : Nat, 2 ≤ d ∧ d ≤ 256 ∧ i = .int .i64 d ∧ ∀ e : Nat, 2 ≤ e → e < d → P % e ≠ 0) (fun i => 300 - (intOf i).toNat)
  case atStart => exact ⟨2, by omega, by omega, rfl, fun e h1 h2 => absurd h1 (by omega)⟩
  case round =>
    obtain ⟨d, hd1, hd2, rfl, hno⟩ := hrel
    have HN := Lib.hid hno
    clear hno
    have hdd : (d : Int) * d ≤ 65536 := by
      have : (d : Int) * d ≤ 256 * 256 := Int.mul_le_mul (by omega) (by omega) (by omega) (by omega)
      omega
    have hdn : 0 ≤ (d : Int) * d := Int.mul_nonneg (by omega) (by omega)
    by_cases hc : (d : Int) * d ≤ P
    · have hd3 : d < 256 := by
        rcases Nat.lt_or_ge d 256 with h | h
        · exact h
        · have h5 : (256 : Int) * 256 ≤ (d : Int) * d := Int.mul_le_mul (by omega) (by omega) (by omega) (by omega)
          omega
      by_cases hm : P % d = 0
      · have HB := Lib.hid (prB_div hd1 hc hm)
        have hb1 : (P % (d : Int) == 0) = true := by rw [beq_iff_eq]; exact hm
        go_wp2
        go_ret2
        exact ⟨by first | (rw [HB.out, ofP_f HB.out]; rfl) | (rw [HB.out, ofP_t HB.out]; rfl), (Below.refl _ _).alloc (Nat.le_refl _) _⟩
      · have hb1 : (P % (d : Int) == 0) = false := by rw [beq_eq_false_iff_ne]; exact hm
        have HM := Lib.hid hm
        clear hm
        go_wp2
        go_round
        case rel => exact ⟨d + 1, by omega, by omega, by go_num, fun e h1 h2 => by
          by_cases h : e = d
          · subst h; exact HM.out
          · exact HN.out e h1 (by omega)⟩
        case measure => simp [intOf]; omega
    · have HB : Hid (prB P = true) := prB_of h3 h4 (fun e h1 h2 => by
        refine HN.out e h1 ?_
        rcases Nat.lt_or_ge e d with h | h
        · exact h
        · have h5 : (d : Int) * d ≤ (e : Int) * e := Int.mul_le_mul (by omega) (by omega) (by omega) (by omega)
          omega)
      go_wp2
      go_ret2
      exact ⟨by first | (rw [HB.out, ofP_f HB.out]; rfl) | (rw [HB.out, ofP_t HB.out]; rfl), (Below.refl _ _).alloc (Nat.le_refl _) _⟩

theorem has_any (P a : Int) (w : World) :
    Calls Tryz.prog 69 #[.int .i64 P, .int .i64 a] w fun e w' => e = .returned (.bool (el P a)) ∧ w = w' := by
  by_cases h1 : 0 ≤ a
  · have HB := Lib.hid (show el P a = decide (a < P) by unfold el; simp [h1])
    go_enter Tryz.func69, Tryz.ntmps69
    go_wp2
    go_ret
    exact ⟨ret_bool HB.out.symm, rfl⟩
  · have HB := Lib.hid (show el P a = false by unfold el; simp [h1])
    go_enter Tryz.func69, Tryz.ntmps69
    go_wp2
    go_ret
    exact ⟨ret_bool HB.out.symm, rfl⟩
theorem mul_any (P a b : Int) (w : World) (hP : 2 ≤ P ∧ P ≤ 65521) (ha : 0 ≤ a ∧ a < P) (hb : 0 ≤ b ∧ b < P) :
    Calls Tryz.prog 107 #[.int .i64 P, .int .i64 a, .int .i64 b] w fun e w' => e = .returned (.int .i64 (a * b % P)) ∧ w = w' := by
  have hm := mul_bd ha hb hP.2
  have hne : (P == 0) = false := by simp; omega
  go_enter Tryz.func107, Tryz.ntmps107
  go_wp2
  go_ret
  exact ⟨rfl, rfl⟩
theorem add_any (P a b : Int) (w : World) (hP : 2 ≤ P ∧ P ≤ 65521) (ha : 0 ≤ a ∧ a < P) (hb : 0 ≤ b ∧ b < P) :
    Calls Tryz.prog 106 #[.int .i64 P, .int .i64 a, .int .i64 b] w fun e w' => e = .returned (.int .i64 ((a + b) % P)) ∧ w = w' := by
  have hne : (P == 0) = false := by simp; omega
  go_enter Tryz.func106, Tryz.ntmps106
  go_wp2
  go_ret
  exact ⟨rfl, rfl⟩
theorem sub_any (P a b : Int) (w : World) (hP : 2 ≤ P ∧ P ≤ 65521) (ha : 0 ≤ a ∧ a < P) (hb : 0 ≤ b ∧ b < P) :
    Calls Tryz.prog 140 #[.int .i64 P, .int .i64 a, .int .i64 b] w fun e w' => e = .returned (.int .i64 ((a - b + P) % P)) ∧ w = w' := by
  have hne : (P == 0) = false := by simp; omega
  go_enter Tryz.func140, Tryz.ntmps140
  go_wp2
  go_ret
  exact ⟨rfl, rfl⟩
end Go.Proofs.YtbgabipngdillaaGreatDoor

namespace Go.Proofs.YtbgabipngdillaaGreatDoor

/-- a state of the loop -/
def IS (P a r s x y : Int) : Prop := 1 ≤ r ∧ r ≤ P ∧ 0 ≤ s ∧ s ≤ P ∧ (∃ X Y : Int, -X ≤ x ∧ x ≤ X ∧ -Y ≤ y ∧ y ≤ Y ∧ X * s + Y * r = P ∧ X ≤ P) ∧ P ∣ r - x * a ∧ P ∣ s - y * a ∧ ∀ d : Int, d ∣ r → d ∣ s → d ∣ P ∧ d ∣ a
theorem IS.start {P a : Int} (hP : 2 ≤ P) (ha : 0 ≤ a ∧ a < P) : IS P a P a 0 1 :=
  ⟨by omega, by omega, by omega, by omega, ⟨0, 1, by omega, by omega, by omega, by omega, by omega, by omega⟩, ⟨1, by omega⟩, ⟨0, by omega⟩, fun d h1 h2 => ⟨h1, h2⟩⟩
theorem IS.bx {P a r s x y : Int} (h : IS P a r s x y) : (-P ≤ x ∧ x ≤ P) ∧ -P ≤ y ∧ y ≤ P := by
  obtain ⟨h1, h2, h3, h4, ⟨X, Y, x1, x2, y1, y2, e, hX⟩, _⟩ := h
  have hx0 : 0 ≤ X := by omega
  have hy0 : 0 ≤ Y := by omega
  have a1 : 0 ≤ X * s := Int.mul_nonneg hx0 h3
  have a2 : Y * 1 ≤ Y * r := Int.mul_le_mul_of_nonneg_left h1 hy0
  rw [Int.mul_one] at a2
  omega
theorem IS.step {P a r s x y : Int} (h : IS P a r s x y) (hs : 0 < s) :
    IS P a s (r - r / s * s) y (x - r / s * y) ∧ (0 ≤ r / s ∧ r / s ≤ P) ∧ (0 ≤ r / s * s ∧ r / s * s ≤ P) ∧ (-P ≤ r / s * y ∧ r / s * y ≤ P) ∧ r - r / s * s < s := by
  have hbx := h.bx
  obtain ⟨h1, h2, h3, h4, ⟨X, Y, x1, x2, y1, y2, e, hX⟩, d1, d2, hd⟩ := h
  have hx0 : 0 ≤ X := by omega
  have hy0 : 0 ≤ Y := by omega
  have m1 : 0 ≤ r % s := Int.emod_nonneg _ (by omega)
  have m2 : r % s < s := Int.emod_lt_of_pos _ hs
  have m3 : r / s * s + r % s = r := by have := Int.mul_ediv_add_emod r s; rw [Int.mul_comm] at this; exact this
  have a3 : 0 ≤ X * s := Int.mul_nonneg hx0 h3
  have a4 : Y * 1 ≤ Y * r := Int.mul_le_mul_of_nonneg_left h1 hy0
  rw [Int.mul_one] at a4
  have hYP : Y ≤ P := by omega
  clear a3 a4
  generalize hq : r / s = q at *
  generalize hm : r % s = m at *
  have hq0 : 0 ≤ q := by rw [← hq]; exact Int.ediv_nonneg (by omega) (by omega)
  have hqs : 0 ≤ q * s := Int.mul_nonneg hq0 (by omega)
  have hqq : q * 1 ≤ q * s := Int.mul_le_mul_of_nonneg_left (by omega) hq0
  rw [Int.mul_one] at hqq
  have hqY : 0 ≤ q * Y := Int.mul_nonneg hq0 hy0
  have hy3 : q * y ≤ q * Y := Int.mul_le_mul_of_nonneg_left y2 hq0
  have hy4 : q * (-Y) ≤ q * y := Int.mul_le_mul_of_nonneg_left y1 hq0
  rw [Int.mul_neg] at hy4
  have e' : Y * (r - q * s) + (X + q * Y) * s = P := by
    rw [Int.mul_sub, Int.add_mul, ← e, Int.mul_assoc, Int.mul_left_comm Y q s]
    omega
  have a1 : 0 ≤ Y * (r - q * s) := Int.mul_nonneg hy0 (by omega)
  have a2 : (X + q * Y) * 1 ≤ (X + q * Y) * s := Int.mul_le_mul_of_nonneg_left (by omega) (by omega)
  rw [Int.mul_one] at a2
  refine ⟨⟨by omega, h4, by omega, by omega, ⟨Y, X + q * Y, y1, y2, by omega, by omega, e', by omega⟩, d2, ?_, fun d g1 g2 => ?_⟩, ⟨hq0, by omega⟩, ⟨hqs, by omega⟩, ⟨by omega, by omega⟩, by omega⟩
  · have : r - q * s - (x - q * y) * a = (r - x * a) - q * (s - y * a) := by
      rw [Int.sub_mul, Int.mul_sub, Int.mul_assoc]; omega
    rw [this]
    exact Int.dvd_sub d1 (Int.dvd_mul_of_dvd_right d2)
  · refine hd d ?_ g1
    have : r = (r - q * s) + q * s := by omega
    rw [this]
    exact Int.dvd_add g2 (Int.dvd_mul_of_dvd_right g1)
theorem IS.fin {P a r s x y : Int} (hp : prB P = true) (ha : 0 < a ∧ a < P) (h : IS P a r s x y) (hs : s = 0) : x % P = inv P a := by
  have hb := prB_bd hp
  obtain ⟨h1, h2, h3, h4, _, d1, d2, hd⟩ := h
  subst hs
  obtain ⟨g1, g2⟩ := hd r (Int.dvd_refl r) (Int.dvd_zero r)
  obtain ⟨n, rfl⟩ : ∃ n : Nat, r = n := ⟨r.toNat, by omega⟩
  have hn : (n : Int) = 1 := by
    rcases pr_div hp n g1 with e | e
    · rw [e]; rfl
    · rw [e] at g2
      have := Int.le_of_dvd ha.1 g2
      omega
  rw [hn] at d1
  have ha' : a % P ≠ 0 := by rw [Int.emod_eq_of_lt (by omega) (by omega)]; omega
  refine inv_uniq hp ha' ⟨Int.emod_nonneg _ (by omega), Int.emod_lt_of_pos _ (by omega)⟩ ?_
  rw [Int.mul_emod, Int.emod_emod_of_dvd _ (Int.dvd_refl P), ← Int.mul_emod]
  have := Int.emod_eq_emod_iff_emod_sub_eq_zero.2 (Int.emod_eq_zero_of_dvd d1)
  rw [← this]
  exact Int.emod_eq_of_lt (by omega) (by omega)
end Go.Proofs.YtbgabipngdillaaGreatDoor

namespace Go.Proofs.YtbgabipngdillaaGreatDoor
open Go.RowKit

theorem tmod_emod (n m : Int) (hm : 0 < m) : n.tmod m % m = n % m := by
  rcases tmod_cases n m hm with h | ⟨_, _, h⟩
  · rw [h, Int.emod_emod_of_dvd _ (Int.dvd_refl m)]
  · rw [h, Int.sub_emod_right, Int.emod_emod_of_dvd _ (Int.dvd_refl m)]
set_option maxHeartbeats 1000000 in
theorem inverse_any (P a : Int) (w : World) (hp : prB P = true) (ha : 0 ≤ a ∧ a < P) :
    Calls Tryz.prog 147 #[.int .i64 P, .int .i64 a] w fun e w' => e = .returned (.int .i64 (inv P a)) ∧ w = w' := by
  obtain ⟨hP1, hP2⟩ := prB_bd hp
  have hne : (P == 0) = false := by simp; omega
  have HP := Lib.hid hp
  have HS := Lib.hid (IS.start hP1 ha)
  clear hp
  by_cases ha0 : 0 < a
  case neg =>
    obtain rfl : a = 0 := by omega
    have HI := Lib.hid (inv_z (P := P) (a := 0) (Int.zero_emod P))
    go_enter Tryz.func147, Tryz.ntmps147
    go_wp2_with fail
    go_loop [5, 6, 7, 8] (fun rv sv xv yv => rv = .int .i64 P ∧ sv = .int .i64 0 ∧ xv = .int .i64 0 ∧ yv = .int .i64 1) (fun _ _ _ _ => 0)
    case atStart => exact ⟨rfl, rfl, rfl, rfl⟩
    case round =>
      obtain ⟨rfl, rfl, rfl, rfl⟩ := hrel
      go_wp2_with fail
      go_ret
      exact ⟨ret_int (by rw [HI.out]), rfl⟩
  go_enter Tryz.func147, Tryz.ntmps147
  go_wp2_with fail
  go_loop [5, 6, 7, 8] (fun rv sv xv yv => ∃ r s x y : Int, rv = .int .i64 r ∧ sv = .int .i64 s ∧ xv = .int .i64 x ∧ yv = .int .i64 y ∧ IS P a r s x y) (fun _ sv _ _ => (intOf sv).toNat)
  case atStart => exact ⟨P, a, 0, 1, rfl, rfl, rfl, rfl, HS.out⟩
  case round =>
    obtain ⟨r, s, x, y, rfl, rfl, rfl, rfl, hI⟩ := hrel
    have hbx := hI.bx
    have hr := hI.1
    have hr2 := hI.2.1
    have hs := hI.2.2.1
    have hs2 := hI.2.2.2.1
    have HI := Lib.hid hI
    clear hI
    by_cases h0 : s = 0
    · have hb1 : (s != 0) = false := by simp [h0]
      have hfin : x % P = inv P a := IS.fin HP.out ⟨ha0, ha.2⟩ HI.out h0
      have HF := Lib.hid hfin
      have HT := Lib.hid (tmod_emod x P (by omega))
      have hb := tmod_bd x P (by omega)
      have H0 := Lib.hid h0
      clear h0 hfin
      go_wp2_with fail
      go_ret
      exact ⟨ret_int (by rw [← HF.out, ← HT.out]), rfl⟩
    · have hb1 : (s != 0) = true := by simp [h0]
      have hb2 : (s == 0) = false := by simp [h0]
      obtain ⟨g1, g2, g3, g4, g5⟩ := HI.out.step (by omega)
      have HG := Lib.hid g1
      clear g1
      go_wp2_with fail
      go_round
      case rel => exact ⟨_, _, _, _, rfl, rfl, rfl, rfl, HG.out⟩
      case measure => simp [intOf]; omega

theorem SI.take {w : World} {A : Option Addr} {n c : Nat} {l : List Int} (h : SI w (.slice A n c) l) {m : Nat} (hm : m ≤ l.length) : SI w (.slice A m c) (l.take m) := by
  obtain ⟨A', c', e, hc, hmx, hr, ha⟩ := h
  injection e with e1 e2 e3
  subst e1 e2 e3
  have hl : (l.take m).length = m := by rw [List.length_take]; omega
  refine ⟨A, c, by rw [hl], by omega, hmx, fun x hx => hr x (List.mem_of_mem_take hx), fun h0 => ?_⟩
  obtain ⟨b, off, rfl, hb, hcell⟩ := ha (by omega)
  refine ⟨b, off, rfl, hb, fun j hj => ?_⟩
  rw [hcell j (by omega)]
  simp
/-- from which place on all are 0 -/
def trRel (l : List Int) (v : Value) : Prop := ∃ n : Nat, n ≤ l.length ∧ v = .int .i64 n ∧ ∀ k, n ≤ k → gd l k = 0
set_option maxHeartbeats 1000000 in
theorem trim_any (l : List Int) (A : Option Addr) (c : Nat) (w : World) (h : SI w (.slice A l.length c) l) :
    Calls Tryz.prog 146 #[.slice A l.length c] w fun e w' => e = .returned (.slice A (trim l).length c) ∧ trim l = l.take (trim l).length ∧ w = w' := by
  have HS := Lib.hid h
  obtain ⟨A', c', e, hcc, hm, hr, ha⟩ := h
  injection e with e1 e2 e3
  subst e1 e3
  have HA := Lib.hid ha
  clear hr ha
  go_enter Tryz.func146, Tryz.ntmps146
  go_wp2_with fail
  go_loop [3] (fun v => trRel l v) (fun v => (intOf v).toNat)
  case atStart => exact ⟨l.length, Nat.le_refl _, rfl, fun k hk => gd_ge hk⟩
  case round =>
    obtain ⟨n, hn, rfl, hz⟩ := hrel
    have HZ := Lib.hid hz
    clear hz
    by_cases h0 : n = 0
    · subst h0
      have HT := Lib.hid (trim_take (l := l) (n := 0) (Nat.zero_le _) HZ.out (.inl rfl))
      go_wp2_with fail
      go_ret
      exact ⟨by rw [HT.out]; rfl, by rw [HT.out]; rfl, rfl⟩
    · obtain ⟨b, off, rfl, hb, hcell⟩ := HA.out (by omega)
      have hck := hcell (n - 1) (by omega)
      have hnl : n - 1 < l.length := by omega
      have hn1 : 0 < n := by omega
      have hd : decide ((0 : Int) < (n : Int)) = true := decide_eq_true (by omega)
      have hd' : decide (0 < n) = true := decide_eq_true (by omega)
      have z1 : (0 : Int) ≤ (n : Int) - 1 := by omega
      have z2 : (n : Int) - 1 < (l.length : Int) := by omega
      have z3 : ((n : Int) - 1).toNat = n - 1 := by omega
      clear hcell
      by_cases hl : l[n - 1]'hnl = 0
      · have hb1 : (l[n - 1]'hnl == 0) = true := by rw [beq_iff_eq]; exact hl
        have HL := Lib.hid hl
        clear hl
        go_wp2_with fail
        go_round
        case rel =>
          refine ⟨n - 1, by omega, by congr 1; omega, fun k hk => ?_⟩
          by_cases hkn : k = n - 1
          · subst hkn; rw [gd_lt (by omega)]; exact HL.out
          · exact HZ.out k (by omega)
        case measure => simp [intOf]; omega
      · have hb1 : (l[n - 1]'hnl == 0) = false := by rw [beq_eq_false_iff_ne]; exact hl
        have HT := Lib.hid (trim_take (l := l) (n := n) hn HZ.out (.inr (by rw [gd_lt (by omega)]; exact hl)))
        have HL : Hid ((trim l).length = n) := by show (trim l).length = n; rw [HT.out, List.length_take]; omega
        clear hl
        go_wp2_with fail
        go_ret
        exact ⟨by rw [HL.out]; rfl, by rw [HL.out]; exact HT.out, rfl⟩
end Go.Proofs.YtbgabipngdillaaGreatDoor
