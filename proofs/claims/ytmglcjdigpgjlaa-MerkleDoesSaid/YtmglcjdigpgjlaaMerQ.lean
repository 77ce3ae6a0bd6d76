/- Plain: paths lead to the root, and nothing else does; what changes changes the root. -/
import Derived.Test.YtmglcjdigpgjlaaMerD
import Derived.Test.YtmglcjdigpgjlaaArith
namespace Go.Proofs.Ytmglcjdigpgjlaa

theorem xor_m (i : Nat) : (i ^^^ 1) % 2 = (i + 1) % 2 := by
  have h := Nat.xor_mod_two_pow (a := i) (b := 1) (n := 1)
  simp only [Nat.pow_one] at h
  rw [h]
  rcases Nat.mod_two_eq_zero_or_one i with e | e <;> rw [e] <;> simp <;> omega
theorem up_one (x : Int) : up [x] = [x] := by simp [up, nd, List.range_succ]
theorem up_two (x y : Int) : up [x, y] = [node x y] := by simp [up, nd, List.range_succ]
theorem root_one (x : Int) : root [x] = x := root_small (by simp)
theorem xor_even {i : Nat} (h : i % 2 = 0) : i ^^^ 1 = i + 1 := by
  have h1 : (i ^^^ 1) / 2 = i / 2 := by rw [Nat.xor_div_two]; simp
  have h2 : (i ^^^ 1) % 2 = (i + 1) % 2 := xor_m i
  omega
theorem xor_odd {i : Nat} (h : i % 2 = 1) : i ^^^ 1 = i - 1 := by
  have h1 : (i ^^^ 1) / 2 = i / 2 := by rw [Nat.xor_div_two]; simp
  have h2 : (i ^^^ 1) % 2 = (i + 1) % 2 := xor_m i
  omega
theorem xor_ne (i : Nat) : i ^^^ 1 ≠ i := by
  rcases Nat.mod_two_eq_zero_or_one i with h | h
  · rw [xor_even h]; omega
  · rw [xor_odd h]; omega

theorem node_inj1 {a a' b : Int} (ha : dg a = true) (ha' : dg a' = true) (h : node a b = node a' b) : a = a' := by
  have h1 := dg_t ha
  have h2 := dg_t ha'
  have e1 : md a = a := by unfold md; omega
  have e2 : md a' = a' := by unfold md; omega
  unfold node at h
  rw [e1, e2, Int.add_assoc, Int.add_assoc] at h
  exact base_inj a a' _ h1 h2 h
theorem node_inj2 {a b b' : Int} (hb : dg b = true) (hb' : dg b' = true) (h : node a b = node a b') : b = b' := by
  have h1 := dg_t hb
  have h2 := dg_t hb'
  have e1 : md b = b := by unfold md; omega
  have e2 : md b' = b' := by unfold md; omega
  unfold node at h
  rw [e1, e2] at h
  generalize md a * 1000003 = t at h
  omega
theorem up_get (l : List Int) (j : Nat) (h : j < (up l).length) : (up l)[j] = nd l j := by simp [up]
theorem up_getD {l : List Int} {i : Nat} (h : i < l.length) : (up l)[i / 2]'(by rw [up_len]; omega) = if i ^^^ 1 < l.length then (if i % 2 = 0 then node l[i] (l[i ^^^ 1]?.getD 0) else node (l[i ^^^ 1]?.getD 0) l[i]) else l[i] := by
  rw [up_get]
  rcases Nat.mod_two_eq_zero_or_one i with he | he
  · rw [xor_even he]
    by_cases hp : i + 1 < l.length
    · rw [if_pos hp, if_pos he, nd_pair hp he, List.getElem?_eq_getElem hp]; rfl
    · rw [if_neg hp, nd_last (by omega) he]
  · rw [xor_odd he, if_pos (by omega), if_neg (by omega)]
    have := nd_pair (l := l) (i := i - 1) (by omega) (by omega)
    rw [show (i - 1) / 2 = i / 2 by omega] at this
    rw [this, List.getElem?_eq_getElem (by omega)]
    simp [show i - 1 + 1 = i by omega]

theorem lead_path (n : Nat) : ∀ (l : List Int) (i : Nat) (h : i < l.length), l.length ≤ n → lead l.length i (path l i) l[i] = root l := by
  induction n with
  | zero => intro l i h hn; omega
  | succ n ih =>
    intro l i h hn
    by_cases h1 : l.length ≤ 1
    · rw [lead_small h1, root_small h1]
      have h0 : i = 0 := by omega
      subst h0
      rw [List.getElem?_eq_getElem h]; rfl
    · have hl : i / 2 < (up l).length := by rw [up_len]; omega
      have hI := ih (up l) (i / 2) hl (by rw [up_len]; omega)
      rw [up_getD h, up_len] at hI
      rw [root_up (by omega), ← hI, path_up (by omega)]
      by_cases hk : i ^^^ 1 < l.length
      · rw [lead_up (by omega) hk, if_pos hk, if_pos hk]
        rfl
      · rw [lead_skip (by omega) hk, if_neg hk, if_neg hk]
        rfl
theorem lead_root {l : List Int} {i : Nat} (h : i < l.length) : lead l.length i (path l i) l[i] = root l := lead_path _ l i h (Nat.le_refl _)

theorem lead_inj (n : Nat) : ∀ (c i : Nat) (r : List Int) (d d' : Int), c ≤ n → dg d = true → dg d' = true → lead c i r d = lead c i r d' → d = d' := by
  induction n with
  | zero => intro c i r d d' hc _ _ h; rw [lead_small (by omega), lead_small (by omega)] at h; exact h
  | succ n ih =>
    intro c i r d d' hc hd hd' h
    by_cases h1 : c ≤ 1
    · rw [lead_small h1, lead_small h1] at h; exact h
    · by_cases hk : i ^^^ 1 < c
      · rw [lead_up (by omega) hk, lead_up (by omega) hk] at h
        by_cases he : i % 2 = 0
        · rw [if_pos he, if_pos he] at h
          exact node_inj1 hd hd' (ih _ _ _ _ _ (by omega) (dg_node _ _) (dg_node _ _) h)
        · rw [if_neg he, if_neg he] at h
          exact node_inj2 hd hd' (ih _ _ _ _ _ (by omega) (dg_node _ _) (dg_node _ _) h)
      · rw [lead_skip (by omega) hk, lead_skip (by omega) hk] at h
        exact ih _ _ _ _ _ (by omega) hd hd' h

theorem path_dgs (n : Nat) : ∀ (l : List Int) (i : Nat), l.length ≤ n → dgs l = true → dgs (path l i) = true := by
  induction n with
  | zero => intro l i h _; rw [path_small (by omega)]; rfl
  | succ n ih =>
    intro l i h hd
    by_cases h1 : l.length ≤ 1
    · rw [path_small h1]; rfl
    · rw [path_up (by omega)]
      have h2 := ih (up l) (i / 2) (by rw [up_len]; omega) (up_dgs hd)
      by_cases hk : i ^^^ 1 < l.length
      · rw [if_pos hk, List.getElem?_eq_getElem hk]
        simp only [dgs, List.all_append, Bool.and_eq_true]
        exact ⟨by simpa using dgs_all hd _ (List.getElem_mem hk), h2⟩
      · rw [if_neg hk]; exact h2

theorem nd_set_other {l : List Int} {k j : Nat} (y : Int) (h : j ≠ k / 2) : nd (l.set k y) j = nd l j := by
  unfold nd
  rw [List.length_set, List.getElem?_set_ne (by omega), List.getElem?_set_ne (by omega)]
theorem up_set {l : List Int} {k : Nat} (_hk : k < l.length) (y : Int) : up (l.set k y) = (up l).set (k / 2) (nd (l.set k y) (k / 2)) := by
  apply List.ext_getElem
  · rw [List.length_set, up_len, up_len, List.length_set]
  · intro j h1 h2
    rw [up_get, List.getElem_set]
    split
    · rename_i e; rw [e]
    · rename_i e; rw [up_get]; exact nd_set_other y (fun e' => e e'.symm)
theorem path_set (n : Nat) : ∀ (l : List Int) (k : Nat) (y : Int), k < l.length → l.length ≤ n → path (l.set k y) k = path l k := by
  induction n with
  | zero => intro l k y hk h; omega
  | succ n ih =>
    intro l k y hk h
    by_cases h1 : l.length ≤ 1
    · rw [path_small h1, path_small (by rw [List.length_set]; exact h1)]
    · rw [path_up (l := l.set k y) (by rw [List.length_set]; omega), path_up (l := l) (by omega), up_set hk y, List.length_set, List.getElem?_set_ne (xor_ne k).symm]
      rw [ih (up l) (k / 2) _ (by rw [up_len]; omega) (by rw [up_len]; omega)]

theorem lead_set (n : Nat) : ∀ (c i : Nat) (r : List Int) (d : Int) (j : Nat) (y : Int) (_ : c ≤ n) (_ : r.length = plen c i) (hj : j < r.length), dg r[j] = true → dg y = true → (lead c i (r.set j y) d = lead c i r d ↔ r[j] = y) := by
  induction n with
  | zero =>
    intro c i r d j y hc hr hj
    rw [plen_small (by omega)] at hr; omega
  | succ n ih =>
    intro c i r d j y hc hr hj h1 h2
    by_cases hc1 : c ≤ 1
    · rw [plen_small hc1] at hr; omega
    · rw [plen_up (by omega)] at hr
      by_cases hk : i ^^^ 1 < c
      · rw [if_pos hk] at hr
        rw [lead_up (by omega) hk, lead_up (by omega) hk]
        cases j with
        | zero =>
          have e0 : (r.set 0 y)[0]?.getD 0 = y := by rw [List.getElem?_set_self hj]; rfl
          have e1 : r[0]?.getD 0 = r[0] := by rw [List.getElem?_eq_getElem hj]; rfl
          have e2 : (r.set 0 y).drop 1 = r.drop 1 := by cases r <;> rfl
          rw [e0, e1, e2]
          constructor
          · intro h
            by_cases he : i % 2 = 0
            · rw [if_pos he, if_pos he] at h
              exact (node_inj2 h2 h1 (lead_inj n _ _ _ _ _ (by omega) (dg_node _ _) (dg_node _ _) h)).symm
            · rw [if_neg he, if_neg he] at h
              exact (node_inj1 h2 h1 (lead_inj n _ _ _ _ _ (by omega) (dg_node _ _) (dg_node _ _) h)).symm
          · intro h; rw [h]
        | succ j =>
          have hr0 : 0 < r.length := by omega
          have e0 : (r.set (j + 1) y)[0]? = r[0]? := List.getElem?_set_ne (by omega)
          have e2 : (r.set (j + 1) y).drop 1 = (r.drop 1).set j y := by cases r <;> rfl
          rw [e0, e2]
          have := ih ((c + 1) / 2) (i / 2) (r.drop 1) (if i % 2 = 0 then node d (r[0]?.getD 0) else node (r[0]?.getD 0) d) j y (by omega) (by rw [List.length_drop]; omega) (by rw [List.length_drop]; omega) (by rw [List.getElem_drop]; simpa [Nat.add_comm] using h1) h2
          rw [this, List.getElem_drop]
          simp [Nat.add_comm]
      · rw [if_neg hk] at hr
        rw [lead_skip (by omega) hk, lead_skip (by omega) hk]
        exact ih _ _ r d j y (by omega) (by omega) hj h1 h2

theorem up_append {a b : List Int} (h : a.length % 2 = 0) : up (a ++ b) = up a ++ up b := by
  apply List.ext_getElem
  · rw [List.length_append, up_len, up_len, up_len, List.length_append]; omega
  · intro j h1 h2
    rw [up_get]
    rw [up_len] at h1
    rw [List.length_append] at h1
    by_cases hj : j < (up a).length
    · rw [List.getElem_append_left hj, up_get]
      rw [up_len] at hj
      unfold nd
      rw [List.length_append, List.getElem?_append_left (by omega)]
      rw [if_pos (by omega), if_pos (by omega), List.getElem?_append_left (by omega)]
    · rw [List.getElem_append_right (by omega), up_get]
      rw [up_len] at hj ⊢
      unfold nd
      rw [List.length_append, List.getElem?_append_right (by omega)]
      by_cases hp : 2 * j + 1 < a.length + b.length
      · rw [if_pos hp, if_pos (by omega), List.getElem?_append_right (by omega)]
        rw [show 2 * j - a.length = 2 * (j - (a.length + 1) / 2) by omega, show 2 * j + 1 - a.length = 2 * (j - (a.length + 1) / 2) + 1 by omega]
      · rw [if_neg hp, if_neg (by omega)]
        rw [show 2 * j - a.length = 2 * (j - (a.length + 1) / 2) by omega]
theorem root_upS {l : List Int} (h : 1 ≤ l.length) : root (up l) = root l := by
  by_cases h1 : 1 < l.length
  · exact (root_up h1).symm
  · have hl : l.length = 1 := by omega
    match l, hl with
    | [x], _ => rw [up_one]
theorem root_parts (k : Nat) : ∀ (a b : List Int), a.length = 2 ^ k → 1 ≤ b.length → b.length ≤ 2 ^ k → root (a ++ b) = node (root a) (root b) := by
  induction k with
  | zero =>
    intro a b ha hb hb2
    match a, b, ha, (show b.length = 1 by omega) with
    | [x], [y], _, _ => rw [root_one, root_one, List.singleton_append, root_up (by simp), up_two, root_one]
  | succ k ih =>
    intro a b ha hb hb2
    have hp : 1 ≤ 2 ^ k := Nat.one_le_two_pow
    rw [Nat.pow_succ] at ha hb2
    rw [root_up (by rw [List.length_append]; omega), up_append (by omega)]
    rw [ih (up a) (up b) (by rw [up_len]; omega) (by rw [up_len]; omega) (by rw [up_len]; omega)]
    rw [root_upS (by omega), root_upS hb]
theorem path_last (k : Nat) : ∀ (a : List Int) (x : Int), a.length = 2 ^ k → path (a ++ [x]) (2 ^ k) = [root a] := by
  induction k with
  | zero =>
    intro a x ha
    match a, ha with
    | [y], _ => rw [root_one, List.singleton_append, path_up (by simp), up_two, path_small (by simp)]; rfl
  | succ k ih =>
    intro a x ha
    have hp : 1 ≤ 2 ^ k := Nat.one_le_two_pow
    have h2 : 2 ^ (k + 1) = 2 ^ k * 2 := Nat.pow_succ 2 k
    rw [path_up (by rw [List.length_append]; omega), xor_even (by omega), if_neg (by rw [List.length_append]; simp; omega), List.nil_append, up_append (by omega)]
    rw [show 2 ^ (k + 1) / 2 = 2 ^ k by omega]
    have := ih (up a) x (by rw [up_len]; omega)
    rw [up_one x, this, root_upS (by omega)]
theorem node_swap {a b : Int} (ha : dg a = true) (hb : dg b = true) : node a b = node b a ↔ a = b := by
  constructor
  · intro h
    have h1 := dg_t ha
    have h2 := dg_t hb
    have e1 : md a = a := by unfold md; omega
    have e2 : md b = b := by unfold md; omega
    unfold node at h
    rw [e1, e2] at h
    have h3 := Int.emod_eq_emod_iff_emod_sub_eq_zero.1 h
    have h4 : a * 1000003 + b + 3 - (b * 1000003 + a + 3) = (a - b) * 1000002 := by rw [Int.sub_mul]; omega
    rw [h4] at h3
    have := mul_z2 (a - b) (by clear h h3 h4; omega) h3
    clear h h3 h4
    omega
  · intro h; rw [h]
theorem root_dg {l : List Int} (h : dgs l = true) : dg (root l) = true := by
  suffices H : ∀ (n : Nat) (l : List Int), l.length ≤ n → dgs l = true → dg (root l) = true from H _ l (Nat.le_refl _) h
  intro n
  induction n with
  | zero =>
    intro l hl _
    rw [root_small (by omega), List.getElem?_eq_none (by omega)]; rfl
  | succ n ih =>
    intro l hl hd
    by_cases h1 : l.length ≤ 1
    · rw [root_small h1]
      by_cases h0 : 0 < l.length
      · rw [List.getElem?_eq_getElem h0]; exact dgs_all hd _ (List.getElem_mem h0)
      · rw [List.getElem?_eq_none (by omega)]; rfl
    · rw [root_up (by omega)]
      exact ih _ (by rw [up_len]; omega) (up_dgs hd)
end Go.Proofs.Ytmglcjdigpgjlaa
