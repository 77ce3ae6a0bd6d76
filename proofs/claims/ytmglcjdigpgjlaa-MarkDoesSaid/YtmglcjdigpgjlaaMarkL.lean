/- Plain: what the laws about marks say of valid directories and of digests of rows. -/
import Derived.Test.YtmglcjdigpgjlaaMarkV
namespace Go.Proofs.Ytmglcjdigpgjlaa

theorem lin (u q : Int) (hq : u * 1000003 = 2147483647 * q) : u = 2147483647 * (q * 1523789695 - u * 709572) := by
  have e : u * (1000003 * 1523789695) = 2147483647 * (q * 1523789695) := by
    rw [← Int.mul_assoc, hq, Int.mul_assoc]
  have e2 : (1000003 * 1523789695 : Int) = 2147483647 * 709572 + 1 := by decide
  rw [e2, Int.mul_add, Int.mul_one] at e
  rw [Int.mul_sub, ← e, Int.mul_left_comm 2147483647 u]
  omega
theorem zz (u z : Int) (hu : -2147483647 < u ∧ u < 2147483647) (h : u = 2147483647 * z) : u = 0 := by
  omega
theorem mul_z (u : Int) (hu : -2147483647 < u ∧ u < 2147483647) (h : (u * 1000003) % 2147483647 = 0) : u = 0 := by
  have h2 := Int.dvd_of_emod_eq_zero h
  obtain ⟨q, hq⟩ := h2
  exact zz u _ hu (lin u q hq)
theorem base_inj (a b c : Int) (ha : 0 ≤ a ∧ a < 2147483647) (hb : 0 ≤ b ∧ b < 2147483647) (h : (a * 1000003 + c) % 2147483647 = (b * 1000003 + c) % 2147483647) : a = b := by
  have h1 := Int.emod_eq_emod_iff_emod_sub_eq_zero.1 h
  have h2 : a * 1000003 + c - (b * 1000003 + c) = (a - b) * 1000003 := by rw [Int.sub_mul]; omega
  rw [h2] at h1
  have h3 := mul_z (a - b) (by clear h h1 h2; omega) h1
  clear h h1 h2
  omega
theorem last_inj (a x y : Int) (hx : 0 ≤ x ∧ x < 2147483647) (hy : 0 ≤ y ∧ y < 2147483647) (h : (a * 1000003 + x + 1) % 2147483647 = (a * 1000003 + y + 1) % 2147483647) : x = y := by
  generalize a * 1000003 = t at h
  omega
def rstep (d x : Int) : Int := (d * 1000003 + md x + 1) % 2147483647
theorem rstep_bd (d x : Int) : 0 ≤ rstep d x ∧ rstep d x < 2147483647 := by unfold rstep; omega
theorem rstep_inj (a b x : Int) (ha : 0 ≤ a ∧ a < 2147483647) (hb : 0 ≤ b ∧ b < 2147483647) (h : rstep a x = rstep b x) : a = b := by
  unfold rstep at h
  rw [Int.add_assoc, Int.add_assoc] at h
  exact base_inj a b _ ha hb h
theorem fold_inj (l : List Int) : ∀ a b : Int, (0 ≤ a ∧ a < 2147483647) → (0 ≤ b ∧ b < 2147483647) → l.foldl rstep a = l.foldl rstep b → a = b := by
  induction l with
  | nil => intro a b _ _ h; exact h
  | cons x l ih => intro a b ha hb h; exact rstep_inj a b x ha hb (ih _ _ (rstep_bd a x) (rstep_bd b x) h)
theorem fold_set (l : List Int) : ∀ (k : Nat) (hk : k < l.length) (y a : Int), (0 ≤ a ∧ a < 2147483647) → (l.foldl rstep a = (l.set k y).foldl rstep a ↔ md l[k] = md y) := by
  induction l with
  | nil => intro k hk; simp at hk
  | cons x l ih =>
    intro k hk y a ha
    cases k with
    | zero =>
      simp only [List.set_cons_zero, List.foldl_cons, List.getElem_cons_zero]
      constructor
      · intro h
        have := fold_inj l _ _ (rstep_bd a x) (rstep_bd a y) h
        unfold rstep at this
        exact last_inj a _ _ (md_bd x) (md_bd y) this
      · intro h
        have : rstep a x = rstep a y := by unfold rstep; rw [h]
        rw [this]
    | succ k =>
      simp only [List.set_cons_succ, List.foldl_cons, List.getElem_cons_succ]
      exact ih k (by simpa using hk) y _ (rstep_bd a x)
theorem rowd_set (s : Int) (l : List Int) (k : Nat) (hk : k < l.length) (y : Int) : rowd (s :: l) = rowd (s :: l.set k y) ↔ md l[k] = md y :=
  fold_set l k hk y (rstep 2 s) (rstep_bd 2 s)
theorem rowd_sec (s t : Int) (l : List Int) (hs : 0 ≤ s ∧ s < 2147483647) (ht : 0 ≤ t ∧ t < 2147483647) (h : rowd (s :: l) = rowd (t :: l)) : s = t := by
  have h1 : rstep 2 s = rstep 2 t := fold_inj l _ _ (rstep_bd 2 s) (rstep_bd 2 t) h
  unfold rstep at h1
  have := last_inj 2 _ _ (md_bd s) (md_bd t) h1
  unfold md at this
  omega

theorem Ppl_chk {l : List (Int × Int)} (h : Ppl l) (hl : l.length ≤ 16) : chk l = 0 := by
  obtain ⟨h1, h2, h3⟩ := h
  unfold chk
  rw [if_neg (by omega)]
  refine fst_zero _ _ _ fun k _ hk => ?_
  have hk : k < l.length := by omega
  have a1 := h1 k hk
  have a2 := h2 k hk
  refine bad_0 hk (decide_eq_true (by omega)) (decide_eq_true (by omega)) ?_ ?_
  · rintro ⟨h0, h5⟩
    rw [List.getElem?_eq_getElem (by omega)] at h5
    simp only [Option.getD_some] at h5
    have := h1 (k - 1) (by omega)
    omega
  · simp only [List.contains_eq_mem, decide_eq_false_iff_not, List.mem_map, not_exists, not_and]
    intro x hx
    obtain ⟨q, hq, rfl⟩ := List.mem_take_iff_getElem.1 hx
    have := h3 q k (by omega) hk
    omega
theorem Ppl_fnd {l : List (Int × Int)} (h : Ppl l) (hl : l.length ≤ 16) {k : Nat} (hk : k < l.length) : fnd l l[k].1 = some l[k] := fnd_some (Ppl_chk h hl) hk rfl
theorem Ppl_out {l : List (Int × Int)} (h : Ppl l) (pid : Int) (hp : ¬ (1 ≤ pid ∧ pid ≤ l.length)) : fnd l pid = none := fnd_none fun k hk e => by have := h.1 k hk; omega
theorem Ppl_in {l : List (Int × Int)} (h : Ppl l) (hl : l.length ≤ 16) (pid : Int) (hp : 1 ≤ pid ∧ pid ≤ l.length) : ∃ p, fnd l pid = some p := by
  have hk : (pid - 1).toNat < l.length := by omega
  refine ⟨_, fnd_some (Ppl_chk h hl) hk ?_⟩
  rw [h.1]
  omega
theorem sgnE_0 {s : Int} {l : List Int} (hs : 1 ≤ s ∧ s < 2147483647) (hl : l.length ≤ 16384) : sgnE s l = 0 := by
  unfold sgnE
  have : wi s = true := decide_eq_true hs
  rw [if_neg (by simp [this]), if_neg (by omega)]
theorem sgn_0 {s : Int} {l : List Int} (hs : 1 ≤ s ∧ s < 2147483647) (hl : l.length ≤ 16384) : sgn s l = rowd (s :: l) := by
  unfold sgn
  rw [if_pos (sgnE_0 hs hl)]
theorem vfy_yes {l : List (Int × Int)} {k : Nat} {n : List Int} (h : Ppl l) (hl : l.length ≤ 16) (hk : k < l.length) (hn : n.length ≤ 16384) : vfy l l[k].1 n (sgn l[k].2 n) = true := by
  unfold vfy
  rw [Ppl_fnd h hl hk]
  have := h.2.1 k hk
  simp [sgnE_0 (s := l[k].2) (l := n) (by omega) hn]
theorem vfy_out {l : List (Int × Int)} (h : Ppl l) (pid : Int) (hp : ¬ (1 ≤ pid ∧ pid ≤ l.length)) (n : List Int) (m : Int) : vfy l pid n m = false := by
  unfold vfy; rw [Ppl_out h pid hp]
theorem vfy_nil (pid : Int) (n : List Int) (m : Int) : vfy [] pid n m = false := by
  unfold vfy fnd; simp
theorem vfy_set {l : List (Int × Int)} {k : Nat} {n : List Int} (h : Ppl l) (hl : l.length ≤ 16) (hk : k < l.length) (hn : n.length ≤ 16384) (j : Nat) (hj : j < n.length) (y : Int) :
    vfy l l[k].1 (n.set j y) (sgn l[k].2 n) = decide (md y = md n[j]) := by
  have h2 := h.2.1 k hk
  unfold vfy
  rw [Ppl_fnd h hl hk]
  simp only
  rw [sgnE_0 (by omega) (by simpa using hn), sgn_0 (by omega) hn, sgn_0 (by omega) (by simpa using hn)]
  have := rowd_set l[k].2 n j hj y
  rw [Bool.eq_iff_iff]
  simp only [true_and, decide_eq_true_eq]
  rw [this]
  exact ⟨fun e => e.symm, fun e => e.symm⟩
end Go.Proofs.Ytmglcjdigpgjlaa
