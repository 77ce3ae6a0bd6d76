/- Plain: which directories are valid, and who is in them. -/
import Derived.Test.YtmglcjdigpgjlaaDig
namespace Go.Proofs.Ytmglcjdigpgjlaa
/-- an ID or a secret -/
def wi (n : Int) : Bool := decide (1 ≤ n ∧ n < 2147483647)
theorem wi_t {n : Int} (h : wi n = true) : 1 ≤ n ∧ n < 2147483647 := of_decide_eq_true h
theorem wi_f {n : Int} (h : wi n = false) : ¬ (1 ≤ n ∧ n < 2147483647) := of_decide_eq_false h

/-- the first number that is not 0, from k on -/
def fst (f : Nat → Int) : Nat → Nat → Int
  | _, 0 => 0
  | k, m + 1 => if f k = 0 then fst f (k + 1) m else f k
theorem fst_go (f : Nat → Int) (n k : Nat) (h : k < n) (h0 : f k = 0) : fst f k (n - k) = fst f (k + 1) (n - (k + 1)) := by
  rw [show n - k = (n - (k + 1)) + 1 by omega, fst, if_pos h0]
theorem fst_hit (f : Nat → Int) (n k : Nat) (h : k < n) (h0 : f k ≠ 0) : fst f k (n - k) = f k := by
  rw [show n - k = (n - (k + 1)) + 1 by omega, fst, if_neg h0]
theorem fst_zero (f : Nat → Int) (m : Nat) : ∀ k, (∀ j, k ≤ j → j < k + m → f j = 0) → fst f k m = 0 := by
  induction m with
  | zero => intro k _; rfl
  | succ m ih =>
    intro k h
    rw [fst, if_pos (h k (Nat.le_refl _) (by omega))]
    exact ih (k + 1) fun j h1 h2 => h j (by omega) (by omega)
theorem fst_zero_inv (f : Nat → Int) (m : Nat) : ∀ k, fst f k m = 0 → ∀ j, k ≤ j → j < k + m → f j = 0 := by
  induction m with
  | zero => intro k _ j h1 h2; omega
  | succ m ih =>
    intro k h j h1 h2
    rw [fst] at h
    split at h
    · rename_i h0
      by_cases hj : j = k
      · subst hj; exact h0
      · exact ih (k + 1) h j (by omega) (by omega)
    · rename_i h0
      exact absurd h h0

/-- what is wrong with the k-th person -/
def bad (l : List (Int × Int)) (k : Nat) : Int :=
  let p := l[k]?.getD (0, 0)
  if wi p.1 = false ∨ wi p.2 = false then 1
  else if 0 < k ∧ p.1 ≤ (l[k - 1]?.getD (0, 0)).1 then 5
  else if ((l.take k).map (·.2)).contains p.2 then 7
  else 0
def chk (l : List (Int × Int)) : Int := if 16 < l.length then 4 else fst (bad l) 0 l.length

theorem bad_1 {l : List (Int × Int)} {k : Nat} (hk : k < l.length) (h : wi l[k].1 = false) : bad l k = 1 := by
  unfold bad; simp [hk, h]
theorem bad_1' {l : List (Int × Int)} {k : Nat} (hk : k < l.length) (h : wi l[k].2 = false) : bad l k = 1 := by
  unfold bad; simp [hk, h]
theorem bad_5 {l : List (Int × Int)} {k : Nat} (hk : k < l.length) (h1 : wi l[k].1 = true) (h2 : wi l[k].2 = true) (h0 : 0 < k) (h : l[k].1 ≤ (l[k - 1]'(by omega)).1) : bad l k = 5 := by
  unfold bad; simp [hk, h1, h2, h0, show k - 1 < l.length by omega, h]
theorem bad_7 {l : List (Int × Int)} {k : Nat} (hk : k < l.length) (h1 : wi l[k].1 = true) (h2 : wi l[k].2 = true) (h0 : ¬ (0 < k ∧ l[k].1 ≤ (l[k - 1]?.getD (0, 0)).1)) (h : ((l.take k).map (·.2)).contains l[k].2 = true) : bad l k = 7 := by
  have h' := h0
  unfold bad
  simp only [hk, getElem?_pos, Option.getD_some, h1, h2]
  rw [if_neg (by simp), if_neg h', if_pos h]
theorem bad_0 {l : List (Int × Int)} {k : Nat} (hk : k < l.length) (h1 : wi l[k].1 = true) (h2 : wi l[k].2 = true) (h0 : ¬ (0 < k ∧ l[k].1 ≤ (l[k - 1]?.getD (0, 0)).1)) (h : ((l.take k).map (·.2)).contains l[k].2 = false) : bad l k = 0 := by
  have h' := h0
  unfold bad
  simp only [hk, getElem?_pos, Option.getD_some, h1, h2]
  rw [if_neg (by simp), if_neg h', if_neg (by rw [h]; exact Bool.false_ne_true)]
end Go.Proofs.Ytmglcjdigpgjlaa
