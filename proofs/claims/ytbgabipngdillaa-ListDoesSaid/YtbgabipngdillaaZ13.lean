/- Joined: Lo. -/
import Derived.Test.YtbgabipngdillaaZ07
namespace Go.Proofs.Ytbgabipngdillaa

/-- a comes before b -/
def lexlt (a b : List Int) : Prop := ∃ i, gd a i < gd b i ∧ ∀ j, j < i → gd a j = gd b j
/-- the same but for zeros at the end -/
def eqz (a b : List Int) : Prop := ∀ i, gd a i = gd b i
theorem cmpI_lt (a b : List Int) : ∀ (n i : Nat), cmpI a b n i < 0 ↔ ∃ k, k < n ∧ gd a (i + k) < gd b (i + k) ∧ ∀ j, j < k → gd a (i + j) = gd b (i + j) := by
  intro n
  induction n with
  | zero => intro i; constructor
            · intro h; simp [cmpI] at h
            · rintro ⟨k, h, _⟩; omega
  | succ n ih =>
    intro i
    unfold cmpI
    by_cases h1 : gd a i < gd b i
    · rw [if_pos h1]
      exact ⟨fun _ => ⟨0, by omega, h1, fun j hj => by omega⟩, fun _ => by omega⟩
    · rw [if_neg h1]
      by_cases h2 : gd b i < gd a i
      · rw [if_pos h2]
        refine ⟨fun h => by omega, ?_⟩
        rintro ⟨k, hk, hlt, he⟩
        rcases Nat.eq_zero_or_pos k with rfl | h0
        · exact absurd hlt h1
        · have := he 0 h0; simp at this; omega
      · rw [if_neg h2, ih (i + 1)]
        have he : gd a i = gd b i := by omega
        constructor
        · rintro ⟨k, hk, hlt, hj⟩
          refine ⟨k + 1, by omega, by rw [show i + (k + 1) = i + 1 + k by omega]; exact hlt, fun j h => ?_⟩
          cases j with
          | zero => exact he
          | succ j => rw [show i + (j + 1) = i + 1 + j by omega]; exact hj j (by omega)
        · rintro ⟨k, hk, hlt, hj⟩
          cases k with
          | zero => simp at hlt; omega
          | succ k =>
            refine ⟨k, by omega, by rw [show i + 1 + k = i + (k + 1) by omega]; exact hlt, fun j h => ?_⟩
            rw [show i + 1 + j = i + (j + 1) by omega]; exact hj (j + 1) (by omega)
theorem cmpI_eq (a b : List Int) : ∀ (n i : Nat), cmpI a b n i = 0 ↔ ∀ k, k < n → gd a (i + k) = gd b (i + k) := by
  intro n
  induction n with
  | zero => intro i; simp [cmpI]
  | succ n ih =>
    intro i
    unfold cmpI
    by_cases h1 : gd a i < gd b i
    · rw [if_pos h1]
      refine ⟨fun h => by omega, fun h => ?_⟩
      have := h 0 (by omega); simp at this; omega
    · rw [if_neg h1]
      by_cases h2 : gd b i < gd a i
      · rw [if_pos h2]
        refine ⟨fun h => by omega, fun h => ?_⟩
        have := h 0 (by omega); simp at this; omega
      · rw [if_neg h2, ih (i + 1)]
        have he : gd a i = gd b i := by omega
        constructor
        · intro h k hk
          cases k with
          | zero => exact he
          | succ k => rw [show i + (k + 1) = i + 1 + k by omega]; exact h k (by omega)
        · intro h k hk
          rw [show i + 1 + k = i + (k + 1) by omega]; exact h (k + 1) (by omega)
theorem cmpV_lt (a b : List Int) : cmpV a b < 0 ↔ lexlt a b := by
  unfold cmpV
  rw [cmpI_lt]
  constructor
  · rintro ⟨k, _, h, hj⟩
    simp only [Nat.zero_add] at h hj
    exact ⟨k, h, hj⟩
  · rintro ⟨k, h, hj⟩
    refine ⟨k, ?_, by simpa using h, by simpa using hj⟩
    rcases Nat.lt_or_ge k (max a.length b.length) with h0 | h0
    · exact h0
    · rw [gd_ge (by omega), gd_ge (by omega)] at h; omega
theorem cmpV_eq (a b : List Int) : cmpV a b = 0 ↔ eqz a b := by
  unfold cmpV
  rw [cmpI_eq]
  simp only [Nat.zero_add]
  refine ⟨fun h i => ?_, fun h k _ => h k⟩
  rcases Nat.lt_or_ge i (max a.length b.length) with h0 | h0
  · exact h i h0
  · rw [gd_ge (by omega), gd_ge (by omega)]
theorem lex_irr {a b : List Int} (h : eqz a b) : ¬ lexlt a b := by
  rintro ⟨i, h1, _⟩
  have := h i
  omega
theorem lex_asym {a b : List Int} (h : lexlt a b) : ¬ lexlt b a := by
  obtain ⟨i, h1, h2⟩ := h
  rintro ⟨j, h3, h4⟩
  rcases Nat.lt_trichotomy i j with hl | rfl | hl
  · have := h4 i hl; omega
  · omega
  · have := h2 j hl; omega
theorem lex_trans {a b c : List Int} (h : lexlt a b) (k : lexlt b c) : lexlt a c := by
  obtain ⟨i, h1, h2⟩ := h
  obtain ⟨j, h3, h4⟩ := k
  rcases Nat.lt_trichotomy i j with hl | rfl | hl
  · exact ⟨i, by have := h4 i hl; omega, fun m hm => (h2 m hm).trans (h4 m (by omega))⟩
  · exact ⟨i, by omega, fun m hm => (h2 m hm).trans (h4 m hm)⟩
  · exact ⟨j, by have := h2 j hl; omega, fun m hm => (h2 m (by omega)).trans (h4 m hm)⟩
theorem lex_or (a b : List Int) : eqz a b ∨ lexlt a b ∨ lexlt b a := by
  by_cases h : eqz a b
  · exact .inl h
  · right
    have h' : ∃ i, gd a i ≠ gd b i := by
      apply Classical.byContradiction
      intro hn
      exact h fun i => Classical.byContradiction fun hi => hn ⟨i, hi⟩
    obtain ⟨i, hi⟩ := h'
    have key : ∀ n i, i ≤ n → gd a i ≠ gd b i → ∃ m, gd a m ≠ gd b m ∧ ∀ j, j < m → gd a j = gd b j := by
      intro n
      induction n with
      | zero => intro i h0 hi; exact ⟨i, hi, fun j hj => by omega⟩
      | succ n ih =>
        intro i h0 hi
        by_cases hx : ∃ j, j < i ∧ gd a j ≠ gd b j
        · obtain ⟨j, hj, hne⟩ := hx
          exact ih j (by omega) hne
        · exact ⟨i, hi, fun j hj => Classical.byContradiction fun hne => hx ⟨j, hj, hne⟩⟩
    obtain ⟨m, hm, hj⟩ := key i i (Nat.le_refl _) hi
    rcases Int.lt_or_gt_of_ne hm with h1 | h1
    · exact .inl ⟨m, h1, hj⟩
    · exact .inr ⟨m, h1, fun j h => (hj j h).symm⟩
theorem eqz.symm {a b : List Int} (h : eqz a b) : eqz b a := fun i => (h i).symm
theorem eqz.trans {a b c : List Int} (h : eqz a b) (k : eqz b c) : eqz a c := fun i => (h i).trans (k i)
theorem lex_eqz {a b c d : List Int} (h : eqz a c) (k : eqz b d) : lexlt a b ↔ lexlt c d := by
  constructor
  · rintro ⟨i, h1, h2⟩
    exact ⟨i, by rw [← h i, ← k i]; exact h1, fun j hj => by rw [← h j, ← k j]; exact h2 j hj⟩
  · rintro ⟨i, h1, h2⟩
    exact ⟨i, by rw [h i, k i]; exact h1, fun j hj => by rw [h j, k j]; exact h2 j hj⟩
theorem gd_append (a b : List Int) (i : Nat) : gd (a ++ b) i = if i < a.length then gd a i else gd b (i - a.length) := by
  unfold gd
  by_cases h : i < a.length
  · rw [if_pos h, List.getElem?_append_left h]
  · rw [if_neg h, List.getElem?_append_right (by omega)]
theorem gd_zeros (n i : Nat) : gd (List.replicate n (0 : Int)) i = 0 := by
  unfold gd
  by_cases h : i < n
  · simp [h]
  · simp [h]
theorem eqz_zeros (a : List Int) (n : Nat) : eqz a (a ++ List.replicate n 0) := by
  intro i
  rw [gd_append]
  by_cases h : i < a.length
  · rw [if_pos h]
  · rw [if_neg h, gd_zeros, gd_ge (by omega)]
end Go.Proofs.Ytbgabipngdillaa
