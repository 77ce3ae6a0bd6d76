/- The row of what was found, as the sort and the compaction see it. -/
import Derived.Test.YtbgabipngdillaaRp
namespace Go.Proofs.Ytbgabipngdillaa
open Go.RowKit Go.Shelf Go.Sort Go.Lib

/-- A slice of slices of ints. -/
def RL (w : World) (v : Value) (rs : List (List Int)) : Prop :=
  ∃ A c, v = .slice A rs.length c ∧ rs.length ≤ c ∧ c ≤ 9223372036854775807 ∧
    (0 < rs.length → ∃ b off, A = some ⟨b, off, none⟩ ∧ b < w.heap.size ∧ ∀ j (h : j < rs.length), ∃ u, w.cell? ⟨b, off + j, none⟩ = some u ∧ SI w u rs[j])
theorem RL.below {w w' : World} {v : Value} {rs : List (List Int)} (h : RL w v rs) (hb : Below w.heap.size w w') : RL w' v rs := by
  obtain ⟨A, c, rfl, hc, hm, ha⟩ := h
  refine ⟨A, c, rfl, hc, hm, fun h0 => ?_⟩
  obtain ⟨b, off, rfl, hbl, hcell⟩ := ha h0
  refine ⟨b, off, rfl, by have := hb.size; omega, fun j hj => ?_⟩
  obtain ⟨u, hu, hs⟩ := hcell j hj
  exact ⟨u, (hb.cell hbl).trans hu, hs.below hb⟩
theorem RL.form {w : World} {v : Value} {rs : List (List Int)} (h : RL w v rs) : ∃ A c, v = .slice A rs.length c := by
  obtain ⟨A, c, rfl, _⟩ := h
  exact ⟨A, c, rfl⟩

/-- a slice of ints in w, with what it reads as -/
structure VP (s : Nat) (A : Value) (w : World) where
  a : Option Addr
  c : Nat
  p : List Int
  h1 : SA s A w (.slice a p.length c) p
  h2 : p.length ≤ 1000000
theorem SA.nil (s : Nat) (A : Value) (w : World) : SA s A w (.slice none 0 0) [] := ⟨none, 0, rfl, Nat.le_refl _, by omega, by simp, fun h => by simp at h⟩
instance (s : Nat) (A : Value) (w : World) : Inhabited (VP s A w) := ⟨⟨none, 0, [], SA.nil s A w, by simp⟩⟩
def venc {s : Nat} {A : Value} {w : World} (x : VP s A w) : Value := .slice x.a x.p.length x.c
def vkey {s : Nat} {A : Value} {w : World} (x : VP s A w) : List Int := x.p
def vcf {s : Nat} {A : Value} {w : World} (x y : VP s A w) : Int := cmpV (vkey x) (vkey y)
def veq {s : Nat} {A : Value} {w : World} (x y : VP s A w) : Bool := cmpV (vkey x) (vkey y) == 0
theorem venc_one {s : Nat} {A : Value} {w : World} : OneCell (venc (s := s) (A := A) (w := w)) := fun _ => rfl
theorem ltOf_iff {s : Nat} {A : Value} {w : World} (x y : VP s A w) : ltOf vcf x y = true ↔ lexlt (vkey x) (vkey y) := by
  unfold ltOf vcf
  rw [decide_eq_true_iff]
  exact cmpV_lt _ _
theorem ltOf_niff {s : Nat} {A : Value} {w : World} (x y : VP s A w) : ltOf vcf x y = false ↔ ¬ lexlt (vkey x) (vkey y) := by
  rw [← ltOf_iff]
  simp
theorem vswo {s : Nat} {A : Value} {w : World} : SWO (ltOf (vcf (s := s) (A := A) (w := w))) where
  irrefl x := (ltOf_niff x x).2 (lex_irr fun _ => rfl)
  trans x y z h1 h2 := (ltOf_iff x z).2 (lex_trans ((ltOf_iff x y).1 h1) ((ltOf_iff y z).1 h2))
  ntrans x y z h1 h2 := by
    rw [ltOf_niff] at *
    intro h
    rcases lex_or (vkey x) (vkey y) with e | e | e
    · exact h2 ((lex_eqz e fun _ => rfl).1 h)
    · exact h1 e
    · exact h2 (lex_trans e h)
theorem veq_iff {s : Nat} {A : Value} {w : World} (x y : VP s A w) : veq x y = true ↔ eqz (vkey x) (vkey y) := by
  unfold veq
  rw [beq_iff_eq]
  exact cmpV_eq _ _
theorem VP.sa {s : Nat} {A : Value} {w : World} (x : VP s A w) : SA s A w (venc x) (vkey x) := x.h1
theorem VP.len {s : Nat} {A : Value} {w : World} (x : VP s A w) : (vkey x).length ≤ 1000000 := x.h2
/-- the row laid anew turns no other block -/
theorem put_move {α : Type} [Inhabited α] {s : Nat} {A : Value} {w : World} (enc : α → Value) {blk n : Nat} (hA : A.ownBlock = some blk) (dk : Array α) : LMv s A w A ((putRow enc w blk 0 dk).drewN n) := by
  refine ⟨rfl, rfl, rfl, by simp [putRow, mapBlock, World.drewN], fun k hk _ hne => ?_, fun _ h => .inl h⟩
  have : ¬ blk = k := fun e => hne (by rw [hA, e])
  show (putRow enc w blk 0 dk).heap[k]? = _
  simp [putRow, mapBlock, Array.getElem?_modify, this]
theorem put_block {α : Type} [Inhabited α] {w : World} (enc : α → Value) {blk n k : Nat} (hne : ¬ blk = k) (dk : Array α) : ((putRow enc w blk 0 dk).drewN n).heap[k]? = w.heap[k]? := by
  show (putRow enc w blk 0 dk).heap[k]? = _
  simp [putRow, mapBlock, Array.getElem?_modify, hne]
/-- the elements of what was found -/
theorem vps {s : Nat} {A : Value} {w : World} : ∀ (vs : List Value) (ps : List (List Int)), vs.length = ps.length → (∀ j (h : j < vs.length) (h2 : j < ps.length), SA s A w vs[j] ps[j]) → (∀ p ∈ ps, p.length ≤ 1000000) → ∃ xs : List (VP s A w), xs.map venc = vs ∧ xs.map vkey = ps := by
  intro vs
  induction vs with
  | nil => intro ps hl _ _; cases ps with
           | nil => exact ⟨[], rfl, rfl⟩
           | cons p ps => simp at hl
  | cons v vs ih =>
    intro ps hl h hb
    cases ps with
    | nil => simp at hl
    | cons p ps =>
      obtain ⟨xs, h1, h2⟩ := ih ps (by simpa using hl) (fun j hj hj2 => by have := h (j + 1) (by simp; omega) (by simp; omega); simpa using this) (fun q hq => hb q (by simp [hq]))
      have h0 := h 0 (by simp) (by simp)
      simp only [List.getElem_cons_zero] at h0
      have h0' := h0
      obtain ⟨P, c, rfl, _⟩ := h0
      exact ⟨⟨P, c, p, h0', hb p (by simp)⟩ :: xs, by simp [venc, h1], by simp [vkey, h2]⟩
theorem holds_own {α : Type} [Inhabited α] {enc : α → Value} {w : World} {base e blk cap n : Nat} {xs : List α} (h : w.ownsRow base e 1 (.slice (some ⟨blk, 0, none⟩) n cap) n (xs.map enc)) : Holds enc w blk 0 xs.toArray ∧ xs.length = n ∧ n ≤ cap ∧ cap ≤ maxLen ∧ blk < w.heap.size := by
  have hl : xs.length = n := by have := h.1; simpa using this
  rcases h.2 with ⟨h0, _⟩ | ⟨g', cap', cur, h0, hb, hg, hnc, hcm, hcs, htake⟩
  · cases h0
  · injection h0 with h1 h2 h3
    injection h1 with h1
    injection h1 with h1
    subst h1
    subst h3
    refine ⟨fun j hj => ?_, hl, hnc, hcm, heap_of_cells hg⟩
    have hj' : j < xs.length := by simpa using hj
    refine ⟨?_, frozen_of_row w blk (0 + j) cur e hg⟩
    have := h.cellAt j (by omega)
    rw [Nat.zero_add]
    rw [this, List.getElem?_map, List.getElem?_eq_getElem hj', getElem!_pos _ j (by simpa using hj')]
    simp
end Go.Proofs.Ytbgabipngdillaa
