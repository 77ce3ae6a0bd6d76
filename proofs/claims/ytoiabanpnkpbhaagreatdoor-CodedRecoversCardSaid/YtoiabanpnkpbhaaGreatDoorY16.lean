/- Joined: Un. -/
import Derived.Test.YtoiabanpnkpbhaaGreatDoorY09
import Derived.Test.YtoiabanpnkpbhaaGreatDoorY13
import Derived.Test.YtoiabanpnkpbhaaGreatDoorY15
namespace Go.Proofs.YtoiabanpnkpbhaaGreatDoor
open Go.RowKit

theorem knF_pw (l : List (Int × Bool)) : ∀ i, (knF i l).Pairwise fun a b => a.1 < b.1 := by
  induction l with
  | nil => intro i; simp [knF]
  | cons c l ih =>
    intro i
    rw [knF, List.pairwise_append]
    refine ⟨?_, ih (i + 1), fun a ha b hb => ?_⟩
    · split <;> simp
    · have hb' := knF_at l (i + 1) b hb
      split at ha
      · simp at ha; subst ha; simp at hb' ⊢; omega
      · simp at ha
theorem kn_val (l : List (Int × Bool)) : ∀ t ∈ kn l, ∃ j, ∃ h : j < l.length, l[j].2 = true ∧ t = ((j : Int) + 1, l[j].1) := by
  have key : ∀ (l : List (Int × Bool)) i, ∀ t ∈ knF i l, ∃ j, ∃ h : j < l.length, l[j].2 = true ∧ t = (((i + j : Nat) : Int) + 1, l[j].1) := by
    intro l
    induction l with
    | nil => intro i t ht; simp [knF] at ht
    | cons c l ih =>
      intro i t ht
      rw [knF, List.mem_append] at ht
      rcases ht with ht | ht
      · split at ht
        · rename_i hc
          simp at ht; subst ht
          exact ⟨0, by simp, hc, by simp⟩
        · simp at ht
      · obtain ⟨j, hj, h1, h2⟩ := ih (i + 1) t ht
        refine ⟨j + 1, by simpa using hj, h1, ?_⟩
        rw [h2]
        have : i + 1 + j = i + (j + 1) := by omega
        rw [this]; rfl
  intro t ht
  obtain ⟨j, hj, h1, h2⟩ := key l 0 t ht
  exact ⟨j, hj, h1, by rw [h2]; simp⟩
theorem kn_pts {P : Int} {l : List (Int × Bool)} (hl : (l.length : Int) < P) (hv : ∀ j (h : j < l.length), l[j].2 = true → 0 ≤ l[j].1 ∧ l[j].1 < P) : Pts P (kn l) where
  dif := by
    have h1 := knF_pw l 0
    have h2 : ∀ t ∈ kn l, 1 ≤ t.1 ∧ t.1 ≤ (l.length : Int) := fun t ht => by have := knF_at l 0 t ht; simp at this; omega
    refine List.Pairwise.imp_of_mem (fun {a b} ha hb h => ?_) h1
    have b1 := h2 a ha
    have b2 := h2 b hb
    rintro ⟨q, hq⟩
    have hq0 : q < 0 := by
      by_cases h : q < 0
      · exact h
      · have := Int.mul_nonneg (by omega : (0 : Int) ≤ P) (by omega : 0 ≤ q); omega
    have := Int.mul_le_mul_of_nonneg_left (by omega : q ≤ -1) (by omega : (0 : Int) ≤ P)
    omega
  val := fun t ht => by
    obtain ⟨j, hj, h1, rfl⟩ := kn_val l t ht
    exact hv j hj h1
def radN (l : List (Int × Bool)) (k : Nat) : Nat := ((kn l).length - k) / 2
/-- what unique decoding returns: the polynomial, and the error -/
def UnR (P : Int) (l : List (Int × Bool)) (k : Int) (out : List Int) (er : Int) : Prop :=
  (fiE P l k ≠ 0 ∧ er = fiE P l k ∧ out = []) ∨ (fiE P l k = 0 ∧ ((er = 0 ∧ Good P (kn l) k.toNat (radN l k.toNat) out) ∨ (er = 12 ∧ out = [] ∧ ∀ p, ¬ Good P (kn l) k.toNat (radN l k.toNat) p)))
/-- where Fill finds no fault -/
theorem fi_zero {P : Int} {l : List (Int × Bool)} {k : Int} (h : fiE P l k = 0) : prB P = true ∧ l.length ≤ 32 ∧ (l.length : Int) < P ∧ (∀ j (h : j < l.length), l[j].2 = true → 0 ≤ l[j].1 ∧ l[j].1 < P) ∧ 1 ≤ k ∧ k ≤ ((kn l).length : Int) := by
  unfold fiE at h
  by_cases hc : ceE P l = 0
  · rw [if_pos hc] at h
    by_cases h1 : k < 1 ∨ (l.length : Int) < k
    · rw [if_pos h1] at h; cases h
    · rw [if_neg h1] at h
      by_cases h2 : ((kn l).length : Int) < k
      · rw [if_pos h2] at h; cases h
      · have hc' := hc
        unfold ceE at hc
        by_cases p0 : prB P = false
        · rw [if_pos p0] at hc; cases hc
        · rw [if_neg p0] at hc
          by_cases p1 : 32 < l.length ∨ P ≤ l.length
          · rw [if_pos p1] at hc; cases hc
          · rw [if_neg p1] at hc
            by_cases p2 : ((kn l).all fun p => el P p.2) = true
            · refine ⟨by simpa using p0, by omega, by omega, fun j hj hb => ?_, by omega, by omega⟩
              rw [List.all_eq_true] at p2
              have hm : ((j : Int) + 1, l[j].1) ∈ kn l := by
                have key : ∀ (l : List (Int × Bool)) i j (hj : j < l.length), l[j].2 = true → (((i + j : Nat) : Int) + 1, l[j].1) ∈ knF i l := by
                  intro l
                  induction l with
                  | nil => intro i j hj; simp at hj
                  | cons c l ih =>
                    intro i j hj hb
                    rw [knF, List.mem_append]
                    cases j with
                    | zero => left; simp at hb; simp [hb]
                    | succ j =>
                      right
                      have := ih (i + 1) j (by simpa using hj) (by simpa using hb)
                      have e : i + 1 + j = i + (j + 1) := by omega
                      rw [e] at this
                      simpa using this
                have := key l 0 j hj hb
                show _ ∈ knF 0 l
                simpa using this
              exact el_t (p2 _ hm)
            · rw [if_neg p2] at hc; cases hc
  · rw [if_neg hc] at h; exact absurd h hc
theorem UnR.uniq {P : Int} {l : List (Int × Bool)} {k : Int} {o1 o2 : List Int} {e1 e2 : Int} (h1 : UnR P l k o1 e1) (h2 : UnR P l k o2 e2) : o1 = o2 ∧ e1 = e2 := by
  rcases h1 with ⟨a1, a2, a3⟩ | ⟨a1, ha⟩
  · rcases h2 with ⟨b1, b2, b3⟩ | ⟨b1, _⟩
    · exact ⟨a3.trans b3.symm, a2.trans b2.symm⟩
    · exact absurd b1 a1
  · rcases h2 with ⟨b1, _, _⟩ | ⟨b1, hb⟩
    · exact absurd a1 b1
    · obtain ⟨f1, f2, f3, f4, f5, f6⟩ := fi_zero a1
      rcases ha with ⟨a2, a3⟩ | ⟨a2, a3, a4⟩
      · rcases hb with ⟨b2, b3⟩ | ⟨b2, b3, b4⟩
        · exact ⟨good_uniq f1 (kn_pts f3 f4) (by unfold radN; omega) a3 b3, a2.trans b2.symm⟩
        · exact absurd a3 (b4 _)
      · rcases hb with ⟨b2, b3⟩ | ⟨b2, b3, b4⟩
        · exact absurd b3 (a4 _)
        · exact ⟨a3.trans b3.symm, a2.trans b2.symm⟩
end Go.Proofs.YtoiabanpnkpbhaaGreatDoor
