/- Plain: polynomials over a prime field as lists of coefficients: values, sums, products, interpolation. -/
import Derived.Test.YtbgabipngdillaaFp
namespace Go.Proofs.Ytbgabipngdillaa

/-- a coefficient, 0 where there is none -/
def gd (l : List Int) (k : Nat) : Int := l[k]?.getD 0
theorem gd_lt {l : List Int} {k : Nat} (h : k < l.length) : gd l k = l[k] := by unfold gd; rw [List.getElem?_eq_getElem h]; rfl
theorem gd_ge {l : List Int} {k : Nat} (h : l.length ≤ k) : gd l k = 0 := by unfold gd; rw [List.getElem?_eq_none h]; rfl
/-- an element of the field -/
def el (P x : Int) : Bool := decide (0 ≤ x ∧ x < P)
theorem el_t {P x : Int} (h : el P x = true) : 0 ≤ x ∧ x < P := of_decide_eq_true h
theorem el_mk {P x : Int} (h : 0 ≤ x ∧ x < P) : el P x = true := decide_eq_true h
theorem el_mod {P : Int} (h : 2 ≤ P) (x : Int) : el P (x % P) = true := el_mk ⟨Int.emod_nonneg _ (by omega), Int.emod_lt_of_pos _ (by omega)⟩
def els (P : Int) (l : List Int) : Bool := l.all (el P)
theorem els_all {P : Int} {l : List Int} (h : els P l = true) : ∀ x ∈ l, el P x = true := by simpa [els] using h
theorem els_of {P : Int} {l : List Int} (h : ∀ x ∈ l, el P x = true) : els P l = true := by simpa [els] using h
theorem els_gd {P : Int} (hP : 2 ≤ P) {l : List Int} (h : els P l = true) (k : Nat) : el P (gd l k) = true := by
  by_cases hk : k < l.length
  · rw [gd_lt hk]; exact els_all h _ (List.getElem_mem hk)
  · rw [gd_ge (by omega)]; exact el_mk (by omega)

/-- the value at a point -/
def val (P : Int) (l : List Int) (x : Int) : Int := l.foldr (fun c s => (s * x + c) % P) 0
theorem val_bd {P : Int} (h : 2 ≤ P) (l : List Int) (x : Int) : 0 ≤ val P l x ∧ val P l x < P := by
  cases l with
  | nil => simp only [val, List.foldr_nil]; omega
  | cons c l => exact ⟨Int.emod_nonneg _ (by omega), Int.emod_lt_of_pos _ (by omega)⟩
theorem val_drop {P : Int} {l : List Int} {k : Nat} (h : k < l.length) (x : Int) : val P (l.drop k) x = (val P (l.drop (k + 1)) x * x + l[k]) % P := by
  rw [List.drop_eq_getElem_cons h]
  rfl

/-- without zeros at the end -/
def trim (l : List Int) : List Int := l.foldr (fun c t => if c = 0 ∧ t = [] then [] else c :: t) []
theorem trim_nil : trim [] = [] := rfl
theorem trim_cons (c : Int) (l : List Int) : trim (c :: l) = if c = 0 ∧ trim l = [] then [] else c :: trim l := rfl
theorem trim_zeros {l : List Int} (h : ∀ k, gd l k = 0) : trim l = [] := by
  induction l with
  | nil => rfl
  | cons c l ih =>
    have h0 : c = 0 := h 0
    have h1 : trim l = [] := ih fun k => h (k + 1)
    rw [trim_cons, if_pos ⟨h0, h1⟩]
theorem trim_take {n : Nat} : ∀ {l : List Int}, n ≤ l.length → (∀ k, n ≤ k → gd l k = 0) → (n = 0 ∨ gd l (n - 1) ≠ 0) → trim l = l.take n := by
  induction n with
  | zero => intro l _ h _; rw [List.take_zero]; exact trim_zeros fun k => h k (Nat.zero_le _)
  | succ n ih =>
    intro l hl h h1
    cases l with
    | nil => simp at hl
    | cons c l =>
      have h2 : gd (c :: l) n ≠ 0 := by
        rcases h1 with h1 | h1
        · omega
        · exact h1
      have hr : trim l = l.take n := by
        cases n with
        | zero => exact ih (by simp) (fun k hk => h (k + 1) (by omega)) (.inl rfl)
        | succ n => exact ih (by simpa using hl) (fun k hk => h (k + 1) (by omega)) (.inr (by simpa [gd] using h2))
      rw [trim_cons, if_neg, hr, List.take_succ_cons]
      rintro ⟨hc, ht⟩
      rw [hr] at ht
      cases n with
      | zero => exact h2 hc
      | succ n =>
        have : l = [] ∨ n + 1 = 0 := by
          have := congrArg List.length ht
          simp at this
          cases l with
          | nil => exact .inl rfl
          | cons => simp at this
        rcases this with e | e
        · subst e; simp at hl
        · omega
theorem trim_len (l : List Int) : (trim l).length ≤ l.length := by
  induction l with
  | nil => simp [trim]
  | cons c l ih => rw [trim_cons]; split <;> simp <;> omega
theorem trim_els {P : Int} {l : List Int} (h : els P l = true) : els P (trim l) = true := by
  induction l with
  | nil => exact h
  | cons c l ih =>
    rw [trim_cons]
    have h' := els_all h
    split
    · rfl
    · refine els_of fun x hx => ?_
      rcases List.mem_cons.1 hx with e | e
      · subst e; exact h' x (by simp)
      · exact els_all (ih (els_of fun y hy => h' y (by simp [hy]))) x e
theorem trim_gd (l : List Int) : ∀ k, gd (trim l) k = gd l k := by
  induction l with
  | nil => intro k; rfl
  | cons c l ih =>
    intro k
    rw [trim_cons]
    split
    · rename_i h
      cases k with
      | zero => simp [gd, h.1]
      | succ k =>
        have := ih k
        rw [h.2] at this
        simpa [gd] using this
    · cases k with
      | zero => rfl
      | succ k => simpa [gd] using ih k

/-- a list plus an element times another list, from a place on -/
def addT (P : Int) (to : List Int) (o : Nat) (x : Int) (l : List Int) : List Int :=
  (List.range to.length).map fun k => if o ≤ k ∧ k < o + l.length then (gd to k + x * gd l (k - o)) % P else gd to k
theorem addT_len (P : Int) (to : List Int) (o : Nat) (x : Int) (l : List Int) : (addT P to o x l).length = to.length := by simp [addT]
theorem addT_gd (P : Int) (to : List Int) (o : Nat) (x : Int) (l : List Int) (h : o + l.length ≤ to.length) (k : Nat) : gd (addT P to o x l) k = if o ≤ k ∧ k < o + l.length then (gd to k + x * gd l (k - o)) % P else gd to k := by
  by_cases hk : k < to.length
  · rw [gd_lt (by rw [addT_len]; exact hk)]
    simp [addT]
  · rw [gd_ge (by rw [addT_len]; omega), if_neg (by omega), gd_ge (by omega)]
theorem list_ext_gd {a b : List Int} (hl : a.length = b.length) (h : ∀ k, k < a.length → gd a k = gd b k) : a = b := by
  apply List.ext_getElem hl
  intro k h1 h2
  have := h k h1
  rwa [gd_lt h1, gd_lt h2] at this
theorem gd_set (l : List Int) (i : Nat) (v : Int) (k : Nat) (hi : i < l.length) : gd (l.set i v) k = if k = i then v else gd l k := by
  unfold gd
  rw [List.getElem?_set]
  by_cases e : i = k
  · subst e; simp [hi]
  · rw [if_neg e, if_neg (fun h => e h.symm)]
theorem gd_take (l : List Int) (n k : Nat) : gd (l.take n) k = if k < n then gd l k else 0 := by
  unfold gd
  rw [List.getElem?_take]
  split <;> rfl
theorem addT_zero (P : Int) (to : List Int) (o : Nat) (x : Int) : addT P to o x [] = to := by
  refine list_ext_gd (addT_len _ _ _ _ _) fun k hk => ?_
  rw [addT_len] at hk
  rw [gd_lt (by rw [addT_len]; exact hk)]
  simp [addT]
  omega
theorem addT_step (P : Int) (to : List Int) (o : Nat) (x : Int) (l : List Int) (k : Nat) (hk : k < l.length) (ho : o + l.length ≤ to.length) :
    addT P to o x (l.take (k + 1)) = (addT P to o x (l.take k)).set (o + k) ((gd (addT P to o x (l.take k)) (o + k) + x * l[k]) % P) := by
  refine list_ext_gd (by rw [List.length_set, addT_len, addT_len]) fun j hj => ?_
  rw [addT_len] at hj
  rw [gd_set _ _ _ _ (by rw [addT_len]; omega), addT_gd _ _ _ _ _ (by rw [List.length_take]; omega), addT_gd _ _ _ _ _ (by rw [List.length_take]; omega), addT_gd _ _ _ _ _ (by rw [List.length_take]; omega)]
  simp only [List.length_take]
  by_cases e : j = o + k
  · subst e
    rw [if_pos (by omega), if_pos rfl, if_neg (by omega), show o + k - o = k by omega, gd_take, if_pos (by omega), gd_lt hk]
  · rw [if_neg e]
    by_cases h1 : o ≤ j ∧ j < o + k
    · rw [if_pos (by omega), if_pos (by omega), gd_take, gd_take, if_pos (by omega), if_pos (by omega)]
    · rw [if_neg (by omega), if_neg (by omega)]
theorem addT_els {P : Int} (hP : 2 ≤ P) {to : List Int} (h : els P to = true) (o : Nat) (x : Int) (l : List Int) : els P (addT P to o x l) = true := by
  refine els_of fun y hy => ?_
  simp only [addT, List.mem_map, List.mem_range] at hy
  obtain ⟨k, hk, rfl⟩ := hy
  split
  · exact el_mod hP _
  · exact els_gd hP h k

def zeros (n : Nat) : List Int := List.replicate n 0
theorem zeros_els {P : Int} (hP : 2 ≤ P) (n : Nat) : els P (zeros n) = true := els_of fun x hx => by
  rw [zeros, List.mem_replicate] at hx
  exact el_mk (by omega)
/-- a product -/
def timesP (P : Int) (a b : List Int) : List Int := (List.range a.length).foldl (fun t i => addT P t i (gd a i) b) (zeros (a.length + b.length - 1))
def timesK (P : Int) (a b : List Int) (k : Nat) : List Int := (List.range k).foldl (fun t i => addT P t i (gd a i) b) (zeros (a.length + b.length - 1))
theorem timesK_len (P : Int) (a b : List Int) (k : Nat) : (timesK P a b k).length = a.length + b.length - 1 := by
  induction k with
  | zero => simp [timesK, zeros]
  | succ k ih => unfold timesK at *; rw [List.range_succ, List.foldl_append]; simp only [List.foldl_cons, List.foldl_nil]; rw [addT_len]; exact ih
theorem timesK_succ (P : Int) (a b : List Int) (k : Nat) : timesK P a b (k + 1) = addT P (timesK P a b k) k (gd a k) b := by
  unfold timesK; rw [List.range_succ, List.foldl_append]; rfl
theorem timesK_els {P : Int} (hP : 2 ≤ P) (a b : List Int) (k : Nat) : els P (timesK P a b k) = true := by
  induction k with
  | zero => exact zeros_els hP _
  | succ k ih => rw [timesK_succ]; exact addT_els hP ih _ _ _
/-- a step of Newton's interpolation: the polynomial so far, and the product of all x - at -/
def byN (P : Int) (s : List Int × List Int) (t : Int × Int) : Int := (t.2 - val P s.1 t.1 + P) % P * inv P (val P s.2 t.1) % P
def padd (a : List Int) (n : Nat) : List Int := a ++ zeros (n - a.length)
def stepN (P : Int) (s : List Int × List Int) (t : Int × Int) : List Int × List Int :=
  (addT P (padd s.1 s.2.length) 0 (byN P s t) s.2, timesP P s.2 [(0 - t.1 + P) % P, 1])
def newt (P : Int) (l : List (Int × Int)) : List Int × List Int := l.foldl (stepN P) ([], [1])
def interp (P : Int) (l : List (Int × Int)) : List Int := trim (newt P l).1
theorem newt_snoc (P : Int) (l : List (Int × Int)) (k : Nat) (h : k < l.length) : newt P (l.take (k + 1)) = stepN P (newt P (l.take k)) l[k] := by
  unfold newt
  rw [List.take_succ_eq_append_getElem h, List.foldl_append]
  rfl
theorem newt_len (P : Int) (l : List (Int × Int)) : (newt P l).1.length = (if l.length = 0 then 0 else l.length) ∧ (newt P l).2.length = l.length + 1 := by
  have key : ∀ (l : List (Int × Int)) (s : List Int × List Int) (n : Nat), s.1.length = n → s.2.length = n + 1 → (l.foldl (stepN P) s).1.length = n + l.length ∧ (l.foldl (stepN P) s).2.length = n + l.length + 1 := by
    intro l
    induction l with
    | nil => intro s n h1 h2; exact ⟨h1, h2⟩
    | cons t l ih =>
      intro s n h1 h2
      simp only [List.foldl_cons, List.length_cons]
      have := ih (stepN P s t) (n + 1) (by simp only [stepN]; rw [addT_len]; simp [padd, zeros]; omega) (by simp only [stepN]; have := timesK_len P s.2 [(0 - t.1 + P) % P, 1] s.2.length; unfold timesK at this; unfold timesP; rw [this]; simp; omega)
      omega
  have := key l ([], [1]) 0 rfl rfl
  unfold newt
  split <;> omega
theorem newt_els {P : Int} (hP : 2 ≤ P) (l : List (Int × Int)) : els P (newt P l).1 = true ∧ els P (newt P l).2 = true := by
  have key : ∀ (l : List (Int × Int)) (s : List Int × List Int), els P s.1 = true → els P s.2 = true → els P (l.foldl (stepN P) s).1 = true ∧ els P (l.foldl (stepN P) s).2 = true := by
    intro l
    induction l with
    | nil => intro s h1 h2; exact ⟨h1, h2⟩
    | cons t l ih =>
      intro s h1 h2
      refine ih _ (addT_els hP ?_ _ _ _) (timesK_els hP _ _ _)
      refine els_of fun x hx => ?_
      simp only [padd, List.mem_append] at hx
      rcases hx with hx | hx
      · exact els_all h1 x hx
      · exact els_all (zeros_els hP _) x hx
  refine key l _ rfl (els_of fun x hx => ?_)
  simp at hx
  subst hx
  exact el_mk (by omega)
end Go.Proofs.Ytbgabipngdillaa
