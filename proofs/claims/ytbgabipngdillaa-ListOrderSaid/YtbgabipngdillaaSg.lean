/- Slices of structs of int fields. -/
import Derived.Test.YtbgabipngdillaaBase
namespace Go.Proofs.Ytbgabipngdillaa
open Go.RowKit

/-- A slice of structs of int fields: enc lists an element's cells. -/
def SG {α : Type} (enc : α → List Int) (sz : Nat) (B : Nat) (w : World) (v : Value) (l : List α) : Prop :=
  ∃ A c, v = .slice A l.length c ∧ l.length ≤ c ∧ c ≤ 9223372036854775807 ∧ (∀ x ∈ l, ∀ y ∈ enc x, i64r y) ∧
    (0 < l.length → ∃ b off, A = some ⟨b, off, none⟩ ∧ b < B ∧ ∀ j (h : j < l.length) i, i < sz → w.cell? ⟨b, off + (j * sz + i), none⟩ = (enc l[j])[i]?.map (Value.int .i64))
section
variable {α : Type} {enc : α → List Int} {sz : Nat}
theorem SG.keep {B : Nat} {w w' : World} {v : Value} {l : List α} (h : SG enc sz B w v l) (hk : ∀ p : Addr, p.block < B → w'.cell? p = w.cell? p) : SG enc sz B w' v l := by
  obtain ⟨A, c, rfl, hc, hm, hr, ha⟩ := h
  refine ⟨A, c, rfl, hc, hm, hr, fun h0 => ?_⟩
  obtain ⟨b, off, rfl, hb, hcell⟩ := ha h0
  exact ⟨b, off, rfl, hb, fun j hj i hi => (hk _ hb).trans (hcell j hj i hi)⟩
theorem SG.more {B B' : Nat} {w : World} {v : Value} {l : List α} (h : SG enc sz B w v l) (hB : B ≤ B') : SG enc sz B' w v l := by
  obtain ⟨A, c, rfl, hc, hm, hr, ha⟩ := h
  refine ⟨A, c, rfl, hc, hm, hr, fun h0 => ?_⟩
  obtain ⟨b, off, rfl, hb, hcell⟩ := ha h0
  exact ⟨b, off, rfl, by omega, hcell⟩
theorem SG.below {B : Nat} {w w' : World} {v : Value} {l : List α} (h : SG enc sz B w v l) (hb : Below B w w') : SG enc sz B w' v l := h.keep fun _ hp => hb.cell hp
end
theorem flatMap_get {α β : Type} (enc : α → List β) (sz : Nat) (l : List α) (hl : ∀ x ∈ l, (enc x).length = sz) (j : Nat) (hj : j < l.length) (i : Nat) (hi : i < sz) : (l.flatMap enc)[j * sz + i]? = (enc l[j])[i]? := by
  induction l generalizing j with
  | nil => simp at hj
  | cons x l ih =>
    simp only [List.flatMap_cons]
    have hx : (enc x).length = sz := hl x (by simp)
    cases j with
    | zero => simp only [Nat.zero_mul, Nat.zero_add, List.getElem_cons_zero]; rw [List.getElem?_append_left (by omega)]
    | succ j =>
      rw [List.getElem?_append_right (by rw [hx, Nat.add_mul]; omega)]
      rw [show (j + 1) * sz + i - (enc x).length = j * sz + i by rw [hx, Nat.add_mul]; omega]
      rw [ih (fun y hy => hl y (by simp [hy])) j (by simpa using hj)]
      simp
/-- a row of the call's own reads so -/
theorem SG.of_own {α : Type} {enc : α → List Int} {sz : Nat} {w : World} {base : Nat} {e : TypeId} {v : Value} {l : List α} (h : w.ownsRow base e sz v l.length ((l.flatMap enc).map (Value.int .i64)))
    (hr : ∀ x ∈ l, ∀ y ∈ enc x, i64r y) (hl : ∀ x ∈ l, (enc x).length = sz) : SG enc sz w.heap.size w v l := by
  rcases h.2 with ⟨rfl, hn⟩ | ⟨g, cap, cur, rfl, hb, hg, hnc, hcm, hcs, htake⟩
  · have : l = [] := List.eq_nil_of_length_eq_zero hn
    subst this
    exact ⟨none, 0, rfl, Nat.le_refl _, by omega, hr, fun h => by simp at h⟩
  · refine ⟨_, cap, rfl, hnc, by simpa [maxLen] using hcm, hr, fun h0 => ⟨g, 0, rfl, heap_of_cells hg, fun j hj i hi => ?_⟩⟩
    have := h.cellAt (j * sz + i) (by
      have : j * sz + sz ≤ l.length * sz := by rw [← Nat.succ_mul]; exact Nat.mul_le_mul_right _ hj
      omega)
    rw [Nat.zero_add, this, List.getElem?_map, flatMap_get enc sz l hl j hj i hi]

/-- the cells of a person -/
def pcs (p : Int × Int) : List Int := [p.1, p.2]
end Go.Proofs.Ytbgabipngdillaa
