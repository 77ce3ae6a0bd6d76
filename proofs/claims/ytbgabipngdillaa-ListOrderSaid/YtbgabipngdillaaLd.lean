/- What a search of the package list holds in memory, and what stays while it goes on. -/
import Derived.Test.YtbgabipngdillaaLs
namespace Go.Proofs.Ytbgabipngdillaa
open Go.RowKit Go.Shelf

/-- all blocks but s and the one of the slice A stay -/
structure LMv (s : Nat) (A : Value) (w : World) (A' : Value) (w' : World) : Prop where
  os : w'.os = w.os
  tape : w'.tape = w.tape
  output : w'.output = w.output
  size : w.heap.size ≤ w'.heap.size
  block : ∀ k, k < w.heap.size → k ≠ s → A.ownBlock ≠ some k → w'.heap[k]? = w.heap[k]?
  own : ∀ g, A'.ownBlock = some g → A.ownBlock = some g ∨ w.heap.size ≤ g
theorem LMv.refl (s : Nat) (A : Value) (w : World) : LMv s A w A w := ⟨rfl, rfl, rfl, Nat.le_refl _, fun _ _ _ _ => rfl, fun _ h => .inl h⟩
theorem LMv.trans {s : Nat} {A B C : Value} {w w' w'' : World} (h : LMv s A w B w') (k : LMv s B w' C w'') : LMv s A w C w'' := by
  refine ⟨k.os.trans h.os, k.tape.trans h.tape, k.output.trans h.output, Nat.le_trans h.size k.size, fun i hi hs hA => ?_, fun g hg => ?_⟩
  · refine (k.block i (Nat.lt_of_lt_of_le hi h.size) hs fun e => ?_).trans (h.block i hi hs hA)
    rcases h.own i e with e | e
    · exact hA e
    · omega
  · rcases k.own g hg with e | e
    · exact h.own g e
    · have := h.size; exact .inr (by omega)
theorem LMv.below {s : Nat} {A A' : Value} {w w' : World} (h : LMv s A w A' w') (hA : ∀ g, A.ownBlock = some g → s < g) {B : Nat} (hB : B ≤ s) (hs : s ≤ w.heap.size) : Below B w w' :=
  ⟨h.os, h.tape, h.output, h.size, fun k hk => h.block k (by omega) (by omega) fun e => by have := hA k e; omega⟩
theorem LMv.of_below {s : Nat} {A : Value} {w w' : World} (h : Below w.heap.size w w') : LMv s A w A w' :=
  ⟨h.os, h.tape, h.output, h.size, fun k hk _ _ => h.block k hk, fun _ h => .inl h⟩

/-- A slice of ints in blocks behind s, none of which is A's own. -/
def SA (s : Nat) (A : Value) (w : World) (v : Value) (l : List Int) : Prop :=
  ∃ P c, v = .slice P l.length c ∧ l.length ≤ c ∧ c ≤ 9223372036854775807 ∧ (∀ x ∈ l, i64r x) ∧
    (0 < l.length → ∃ b off, P = some ⟨b, off, none⟩ ∧ s < b ∧ b < w.heap.size ∧ A.ownBlock ≠ some b ∧ ∀ j (h : j < l.length), w.cell? ⟨b, off + j, none⟩ = some (.int .i64 l[j]))
theorem SA.si {s : Nat} {A : Value} {w : World} {v : Value} {l : List Int} (h : SA s A w v l) : SI w v l := by
  obtain ⟨P, c, rfl, hc, hm, hr, ha⟩ := h
  refine ⟨P, c, rfl, hc, hm, hr, fun h0 => ?_⟩
  obtain ⟨b, off, rfl, _, hb, _, hcell⟩ := ha h0
  exact ⟨b, off, rfl, hb, hcell⟩
theorem SA.keep {s : Nat} {A A' : Value} {w w' : World} {v : Value} {l : List Int} (h : SA s A w v l) (hm : LMv s A w A' w') : SA s A' w' v l := by
  obtain ⟨P, c, rfl, hc, hmx, hr, ha⟩ := h
  refine ⟨P, c, rfl, hc, hmx, hr, fun h0 => ?_⟩
  obtain ⟨b, off, rfl, hsb, hb, hA, hcell⟩ := ha h0
  refine ⟨b, off, rfl, hsb, Nat.lt_of_lt_of_le hb hm.size, fun e => ?_, fun j hj => (World.cell?_of_block (hm.block b hb (by omega) hA)).trans (hcell j hj)⟩
  rcases hm.own b e with e | e
  · exact hA e
  · omega
/-- a new row of the call's own -/
theorem SA.of_own {s : Nat} {A : Value} {w : World} {base : Nat} {e : TypeId} {v : Value} {l : List Int} (h : w.ownsRow base e 1 v l.length (l.map (Value.int .i64))) (hr : ∀ x ∈ l, i64r x) (hs : s < base) (hA : ∀ g, A.ownBlock = some g → g < base) : SA s A w v l := by
  rcases h.2 with ⟨rfl, hn⟩ | ⟨g, cap, cur, rfl, hb, hg, hnc, hcm, hcs, htake⟩
  · have : l = [] := List.eq_nil_of_length_eq_zero hn
    subst this
    exact ⟨none, 0, rfl, Nat.le_refl _, by omega, hr, fun h => by simp at h⟩
  · refine ⟨_, cap, rfl, hnc, by simpa [maxLen] using hcm, hr, fun h0 => ⟨g, 0, rfl, by omega, (Array.getElem?_eq_some_iff.1 hg).1, fun e => by have := hA g e; omega, fun j hj => ?_⟩⟩
    have := h.cellAt j (by omega)
    rw [Nat.zero_add, this]
    simp [hj]

/-- The state of a search at s: what was found so far, and the most places. -/
structure LSt (s : Nat) (P : Int) (vl : Value) (k ag : Int) (w : World) (A : Value) (ps : List (List Int)) (most : Int) : Prop where
  cells : w.heap[s]? = some (.cells #[.int .i64 P, vl, .int .i64 k, .int .i64 ag, A, .int .i64 most] 101 (0, 0))
  own : ∃ vs, w.ownsRow (s + 1) 22 1 A ps.length vs ∧ ∀ j (h : j < vs.length) (h2 : j < ps.length), SA s A w vs[j] ps[j]
theorem LSt.lt {s : Nat} {P : Int} {vl : Value} {k ag : Int} {w : World} {A : Value} {ps : List (List Int)} {most : Int} (h : LSt s P vl k ag w A ps most) : s < w.heap.size ∧ ∀ g, A.ownBlock = some g → s < g ∧ g < w.heap.size := by
  refine ⟨heap_of_cells h.cells, fun g hg => ?_⟩
  obtain ⟨vs, ho, _⟩ := h.own
  have := ho.lt g hg
  omega
/-- new memory alone -/
theorem LSt.below {s : Nat} {P : Int} {vl : Value} {k ag : Int} {w w' : World} {A : Value} {ps : List (List Int)} {most : Int} (h : LSt s P vl k ag w A ps most) (hb : Below w.heap.size w w') : LSt s P vl k ag w' A ps most := by
  refine ⟨(hb.block s h.lt.1).trans h.cells, ?_⟩
  obtain ⟨vs, ho, hv⟩ := h.own
  refine ⟨vs, ⟨ho.1, ?_⟩, fun j h1 h2 => (hv j h1 h2).keep (LMv.of_below hb)⟩
  rcases ho.2 with h0 | ⟨g, cap, cur, rfl, hbg, hg, hnc, hcm, hcs, htake⟩
  · exact .inl h0
  · exact .inr ⟨g, cap, cur, rfl, hbg, (hb.block g (heap_of_cells hg)).trans hg, hnc, hcm, hcs, htake⟩
theorem own_setCell' {w : World} {base e size n : Nat} {v u : Value} {xs : List Value} {p : Addr} (h : w.ownsRow base e size v n xs) (hp : p.block < base) : (w.setCell p u).ownsRow base e size v n xs := by
  refine ⟨h.1, ?_⟩
  rcases h.2 with hn | ⟨g, cap, cur, rfl, hb, hgg, rest⟩
  · exact .inl hn
  · exact .inr ⟨g, cap, cur, rfl, hb, (heap_setCell_other w p g u (by omega)).trans hgg, rest⟩
theorem LMv.setCell (s : Nat) (A A' : Value) (w : World) (i : Nat) (u : Value) (hA : ∀ g, A'.ownBlock = some g → A.ownBlock = some g ∨ w.heap.size ≤ g) : LMv s A w A' (w.setCell ⟨s, i, none⟩ u) :=
  ⟨rfl, rfl, rfl, by simp [World.setCell], fun k _ hs _ => heap_setCell_other w ⟨s, i, none⟩ k u hs, hA⟩
/-- the most places, laid anew -/
theorem LSt.setMost {s : Nat} {P : Int} {vl : Value} {k ag : Int} {w : World} {A : Value} {ps : List (List Int)} {most : Int} (h : LSt s P vl k ag w A ps most) (m : Int) :
    LSt s P vl k ag (w.setCell ⟨s, 5, none⟩ (.int .i64 m)) A ps m ∧ LMv s A w A (w.setCell ⟨s, 5, none⟩ (.int .i64 m)) := by
  have hm := LMv.setCell s A A w 5 (.int .i64 m) (fun g hg => .inl hg)
  refine ⟨⟨?_, ?_⟩, hm⟩
  · have := heap_setCell_same w s 5 _ _ (.int .i64 m) h.cells
    simpa using this
  · obtain ⟨vs, ho, hv⟩ := h.own
    exact ⟨vs, own_setCell' ho (by show s < s + 1; omega), fun j h1 h2 => (hv j h1 h2).keep hm⟩
/-- one more was found -/
theorem LSt.push {s : Nat} {P : Int} {vl : Value} {k ag : Int} {w : World} {A : Value} {ps : List (List Int)} {most : Int} (h : LSt s P vl k ag w A ps most) {vs : List Value} (hv : ∀ j (h : j < vs.length) (h2 : j < ps.length), SA s A w vs[j] ps[j])
    (hvl : vs.length = ps.length) {v : Value} {p : List Int} (hp : SA s A w v p) {w3 : World} {A' : Value} (h3 : w3.ownsRow (s + 1) 22 1 A' (ps.length + 1) (vs ++ [v])) (hg : w.grownBy w3 A.ownBlock)
    (hat : ∀ g, A'.ownBlock = some g → A.ownBlock = some g ∨ w.heap.size ≤ g) :
    LSt s P vl k ag (w3.setCell ⟨s, 4, none⟩ A') A' (ps ++ [p]) most ∧ LMv s A w A' (w3.setCell ⟨s, 4, none⟩ A') := by
  have hlt := h.lt
  have hAs : A.ownBlock ≠ some s := fun e => by have := hlt.2 s e; omega
  have hm1 : LMv s A w A' w3 := ⟨hg.os, hg.tape, hg.output, hg.size, fun k hk _ hA => hg.block k hk fun e => hA e.symm, hat⟩
  have hm2 := LMv.setCell s A' A' w3 4 A' (fun g hg => .inl hg)
  have hm := hm1.trans hm2
  refine ⟨⟨?_, vs ++ [v], ?_, ?_⟩, hm⟩
  · have hc : w3.heap[s]? = some (.cells #[.int .i64 P, vl, .int .i64 k, .int .i64 ag, A, .int .i64 most] 101 (0, 0)) := (hg.block s hlt.1 fun e => hAs e.symm).trans h.cells
    have := heap_setCell_same w3 s 4 _ _ A' hc
    simpa using this
  · have := own_setCell' (u := A') (p := ⟨s, 4, none⟩) h3 (by show s < s + 1; omega)
    simpa using this
  · intro j h1 h2
    by_cases hj : j < ps.length
    · have h5 := (hv j (by omega) hj).keep hm
      rw [List.getElem_append_left (by omega), List.getElem_append_left hj]
      exact h5
    · have hjj : j = ps.length := by simp at h2; omega
      subst hjj
      have h5 := hp.keep hm
      rw [List.getElem_append_right (by omega), List.getElem_append_right (by omega)]
      simpa [hvl] using h5
/-- what look does -/
def lookS (P : Int) (l : List (Int × Bool)) (ag : Int) (st : List (List Int) × Int) (ch : List (Int × Int)) : List (List Int) × Int :=
  if inE P ch = 0 then (if ag ≤ agN P l (inP P ch) then st.1 ++ [inP P ch] else st.1, if st.2 < agN P l (inP P ch) then agN P l (inP P ch) else st.2) else st
end Go.Proofs.Ytbgabipngdillaa
