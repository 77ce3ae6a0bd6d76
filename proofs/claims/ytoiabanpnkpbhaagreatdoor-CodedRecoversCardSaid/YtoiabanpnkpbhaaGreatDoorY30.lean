/- Joined: Md Ra. -/
import Derived.Test.YtoiabanpnkpbhaaGreatDoorY29
import Derived.Test.YtoiabanpnkpbhaaGreatDoorY24
namespace Go.Proofs.YtoiabanpnkpbhaaGreatDoor
open Go.RowKit

/-- the state behind i servers of the order -/
structure AQ (n : Nat) (P : Int) (rows : List (List Int)) (wrong silent i : Nat) (Oi : List Int) (BL SL : List Nat) (Cn : Nat → List Int) : Prop where
  bnd : BL.Nodup
  snd : SL.Nodup
  bo : ∀ j ∈ BL, j < n ∧ (j : Int) ∈ Oi
  so : ∀ j ∈ SL, j < n ∧ (j : Int) ∈ Oi
  dis : ∀ j ∈ BL, j ∉ SL
  chg : ∀ j ∈ BL, Cn j ≠ gr rows j
  un : ∀ j, j ∉ BL → Cn j = gr rows j
  ln : ∀ j, (Cn j).length = (gr rows j).length ∧ els P (Cn j) = true
  cb : BL.length ≤ min i wrong
  cs : SL.length ≤ min i (wrong + silent) - wrong
theorem AQ.start {n : Nat} {P : Int} {rows : List (List Int)} {wrong silent : Nat} (h : ∀ j, els P (gr rows j) = true) : AQ n P rows wrong silent 0 [] [] [] (gr rows) where
  bnd := List.nodup_nil
  snd := List.nodup_nil
  bo := fun j hj => by simp at hj
  so := fun j hj => by simp at hj
  dis := fun j hj => by simp at hj
  chg := fun j hj => by simp at hj
  un := fun _ _ => rfl
  ln := fun j => ⟨rfl, h j⟩
  cb := by simp
  cs := by simp
theorem AQ.skip {n : Nat} {P : Int} {rows : List (List Int)} {wrong silent i : Nat} {Oi : List Int} {BL SL : List Nat} {Cn : Nat → List Int} (h : AQ n P rows wrong silent i Oi BL SL Cn) (x : Int) : AQ n P rows wrong silent (i + 1) (Oi ++ [x]) BL SL Cn where
  bnd := h.bnd
  snd := h.snd
  bo := fun j hj => ⟨(h.bo j hj).1, List.mem_append_left _ (h.bo j hj).2⟩
  so := fun j hj => ⟨(h.so j hj).1, List.mem_append_left _ (h.so j hj).2⟩
  dis := h.dis
  chg := h.chg
  un := h.un
  ln := h.ln
  cb := by have := h.cb; omega
  cs := by have := h.cs; omega
theorem AQ.wrg {n : Nat} {P : Int} {rows : List (List Int)} {wrong silent i : Nat} {Oi : List Int} {BL SL : List Nat} {Cn : Nat → List Int} (h : AQ n P rows wrong silent i Oi BL SL Cn) (hi : i < wrong) {j : Nat} (hj : j < n) (hjO : (j : Int) ∉ Oi) {l : List Int}
    (hl : l.length = (gr rows j).length ∧ els P l = true) (hne : l ≠ gr rows j) : AQ n P rows wrong silent (i + 1) (Oi ++ [(j : Int)]) (j :: BL) SL (fun a => if a = j then l else Cn a) where
  bnd := List.nodup_cons.2 ⟨fun hm => hjO (h.bo j hm).2, h.bnd⟩
  snd := h.snd
  bo := fun a ha => by
    rcases List.mem_cons.1 ha with rfl | ha
    · exact ⟨hj, by simp⟩
    · exact ⟨(h.bo a ha).1, List.mem_append_left _ (h.bo a ha).2⟩
  so := fun a ha => ⟨(h.so a ha).1, List.mem_append_left _ (h.so a ha).2⟩
  dis := fun a ha hs => by
    rcases List.mem_cons.1 ha with rfl | ha
    · exact hjO (h.so a hs).2
    · exact h.dis a ha hs
  chg := fun a ha => by
    by_cases e : a = j
    · rw [if_pos e, e]; exact hne
    · rw [if_neg e]
      rcases List.mem_cons.1 ha with rfl | ha
      · exact absurd rfl e
      · exact h.chg a ha
  un := fun a ha => by
    have e : a ≠ j := fun e => ha (by simp [e])
    rw [if_neg e]; exact h.un a fun hm => ha (by simp [hm])
  ln := fun a => by
    by_cases e : a = j
    · rw [if_pos e, e]; exact hl
    · rw [if_neg e]; exact h.ln a
  cb := by have := h.cb; simp; omega
  cs := by have := h.cs; omega
theorem filter_parts {α : Type} (p : α → Bool) : ∀ l : List α, l.length = (l.filter p).length + (l.filter fun a => !p a).length
  | [] => rfl
  | x :: t => by
    have := filter_parts p t
    cases h : p x <;> simp [h] <;> omega
/-- the answers as a list -/
def maL (n : Nat) (SL : List Nat) (Cn : Nat → List Int) : List (Bool × List Int) := (List.range n).map fun (j : Nat) => if j ∈ SL then (false, []) else (true, Cn j)
def maB (n : Nat) (BL : List Nat) : List Int := ((List.range n).filter fun (j : Nat) => decide (j ∈ BL)).map fun (j : Nat) => (j : Int) + 1
theorem maL_len (n : Nat) (SL : List Nat) (Cn : Nat → List Int) : (maL n SL Cn).length = n := by simp [maL]
theorem maL_get (n : Nat) (SL : List Nat) (Cn : Nat → List Int) (j : Nat) (h : j < (maL n SL Cn).length) : (maL n SL Cn)[j] = if j ∈ SL then (false, []) else (true, Cn j) := by simp [maL]
theorem AQ.fin {n : Nat} {P : Int} {rows : List (List Int)} {wrong silent i : Nat} {Oi : List Int} {BL SL : List Nat} {Cn : Nat → List Int} (h : AQ n P rows wrong silent i Oi BL SL Cn) (hn : n = rows.length) : AnR P rows wrong silent (maL n SL Cn) (maB n BL) := by
  refine ⟨by rw [maL_len, hn], fun j hj h1 => ?_, ?_, fun x => ?_, ?_, ?_⟩
  · rw [maL_get] at h1 ⊢
    by_cases hs : j ∈ SL
    · rw [if_pos hs] at h1; cases h1
    · rw [if_neg hs]; exact h.ln j
  · unfold maB inc
    rw [List.pairwise_map]
    exact List.Pairwise.imp (fun {a b} e => by omega) (List.pairwise_lt_range.sublist List.filter_sublist)
  · constructor
    · intro hx
      obtain ⟨j, hj, rfl⟩ := List.mem_map.1 hx
      obtain ⟨h1, h2⟩ := List.mem_filter.1 hj
      have hb : j ∈ BL := by simpa using h2
      have hjn := (h.bo j hb).1
      refine ⟨j, by rw [maL_len]; exact hjn, ?_, rfl, ?_⟩
      · rw [maL_get, if_neg (h.dis j hb)]
      · rw [maL_get, if_neg (h.dis j hb)]; exact h.chg j hb
    · rintro ⟨j, hj, h1, rfl, h2⟩
      rw [maL_get] at h1 h2
      by_cases hs : j ∈ SL
      · rw [if_pos hs] at h1; cases h1
      · rw [if_neg hs] at h2
        refine List.mem_map.2 ⟨j, List.mem_filter.2 ⟨List.mem_range.2 (by rw [maL_len] at hj; exact hj), ?_⟩, rfl⟩
        by_cases hb : j ∈ BL
        · simpa using hb
        · exact absurd (h.un j hb) h2
  · have h1 : (maB n BL).length = ((List.range n).filter fun (j : Nat) => decide (j ∈ BL)).length := by unfold maB; rw [List.length_map]
    have h2 : ((List.range n).filter fun (j : Nat) => decide (j ∈ BL)).length ≤ BL.length := nodup_sub _ _ (List.nodup_range.sublist List.filter_sublist) fun x hx => by simpa using (List.mem_filter.1 hx).2
    have := h.cb
    omega
  · have h1 : knL (maL n SL Cn) = ((List.range n).filter fun (j : Nat) => !decide (j ∈ SL)).length := by
      unfold knL maL
      rw [List.filter_map, List.length_map]
      congr 1
      refine List.filter_congr fun j _ => ?_
      by_cases h : j ∈ SL <;> simp [h]
    have h2 : ((List.range n).filter fun (j : Nat) => decide (j ∈ SL)).length ≤ SL.length := nodup_sub _ _ (List.nodup_range.sublist List.filter_sublist) fun x hx => by simpa using (List.mem_filter.1 hx).2
    have h3 := filter_parts (fun (j : Nat) => decide (j ∈ SL)) (List.range n)
    have := h.cs
    rw [List.length_range] at h3
    rw [h1, ← hn]
    omega
theorem fl2_get {n : Nat} (f : Nat → Value × Value) : ∀ j, j < n → ((List.range n).flatMap fun j => [(f j).1, (f j).2])[j * 2]? = some (f j).1 ∧ ((List.range n).flatMap fun j => [(f j).1, (f j).2])[j * 2 + 1]? = some (f j).2 := by
  have key : ∀ (l : List Nat) (j : Nat) (h : j < l.length), (l.flatMap fun j => [(f j).1, (f j).2])[j * 2]? = some (f l[j]).1 ∧ (l.flatMap fun j => [(f j).1, (f j).2])[j * 2 + 1]? = some (f l[j]).2 := by
    intro l
    induction l with
    | nil => intro j h; simp at h
    | cons x t ih =>
      intro j h
      cases j with
      | zero => simp
      | succ j =>
        have := ih j (by simpa using h)
        have e1 : (j + 1) * 2 = j * 2 + 1 + 1 := by omega
        have e2 : (j + 1) * 2 + 1 = j * 2 + 1 + 1 + 1 := by omega
        refine ⟨?_, ?_⟩
        · rw [e1]; simpa using this.1
        · rw [e2]; simpa using this.2
  intro j hj
  have := key (List.range n) j (by simpa using hj)
  simpa using this
theorem AM.fl {C : Nat} {w : World} {pv : Value} {n : Nat} {V : Nat → Value} {K : Nat → Bool} {Cn : Nat → List Int} (h : AM C w pv n V K Cn) : w.ownsRow C 61 2 pv n ((List.range n).flatMap fun j => [(Value.bool (K j), if K j then V j else .slice none 0 0).1, (Value.bool (K j), if K j then V j else .slice none 0 0).2]) := h.ans
/-- an element of an answer changed -/
theorem AM.chg {C : Nat} {w : World} {pv : Value} {n : Nat} {V : Nat → Value} {K : Nat → Bool} {Cn : Nat → List Int} (h : AM C w pv n V K Cn) {j : Nat} (hj : j < n) {q l cap : Nat} (hV : V j = .slice (some ⟨q, 0, none⟩) l cap) (c : Nat) (y : Int) :
    AM C (w.setCell ⟨q, c, none⟩ (.int .i64 y)) pv n V K (fun a => if a = j then (Cn j).set c y else Cn a) := by
  have hq : (V j).ownBlock = some q := by rw [hV]; rfl
  refine ⟨own_upd_other h.ans (h.apl j hj q hq) _, fun a ha => ?_, h.apl, h.apart⟩
  by_cases e : a = j
  · subst e
    have h1 := h.row a ha
    have hl : l = (Cn a).length := by
      rw [hV] at h1
      rcases h1.2 with ⟨e1, _⟩ | ⟨g', cap', cur, e1, _⟩
      · cases e1
      · injection e1
    rw [hV] at h1 ⊢
    subst hl
    have h2 := own_upd h1 c (.int .i64 y)
    rw [if_pos rfl, List.length_set, List.map_set]
    exact h2
  · rw [if_neg e]
    exact own_upd_other (h.row a ha) (h.apart j a hj ha (fun e2 => e e2.symm) q hq) _
theorem AM.oth {C : Nat} {w : World} {pv : Value} {n : Nat} {V : Nat → Value} {K : Nat → Bool} {Cn : Nat → List Int} (h : AM C w pv n V K Cn) {p : Addr} (hp : pv.ownBlock ≠ some p.block) (hv : ∀ j, j < n → (V j).ownBlock ≠ some p.block) (u : Value) : AM C (w.setCell p u) pv n V K Cn :=
  ⟨own_upd_other h.ans hp u, fun j hj => own_upd_other (h.row j hj) (hv j hj) u, h.apl, h.apart⟩
theorem AM.cells {C : Nat} {w : World} {n : Nat} {V : Nat → Value} {K : Nat → Bool} {Cn : Nat → List Int} {L cap : Nat} (h : AM C w (.slice (some ⟨L, 0, none⟩) n cap) n V K Cn) {j : Nat} (hj : j < n) :
    w.cell? ⟨L, j * 2, none⟩ = some (.bool (K j)) ∧ w.cell? ⟨L, j * 2 + 1, none⟩ = some (if K j then V j else .slice none 0 0) := by
  have h1 := fl2_get (n := n) (fun j => (Value.bool (K j), if K j then V j else .slice none 0 0)) j hj
  have hl : ((List.range n).flatMap fun j => [(Value.bool (K j), if K j then V j else Value.slice none 0 0).1, (Value.bool (K j), if K j then V j else Value.slice none 0 0).2]).length = n * 2 := h.fl.1
  have h2 := h.fl.cellAt (j * 2) (by omega)
  have h3 := h.fl.cellAt (j * 2 + 1) (by omega)
  exact ⟨h2.trans h1.1, h3.trans h1.2⟩
theorem AM.sae {C g : Nat} {w : World} {pv : Value} {n : Nat} {V : Nat → Value} {SL : List Nat} {Cn : Nat → List Int} (h : AM C w pv n V (fun a => !decide (a ∈ SL)) Cn) (hg : g < C) (hr : ∀ j, ∀ x ∈ Cn j, i64r x) (hn : 1 ≤ n) : SAE g w pv (maL n SL Cn) := by
  rcases h.ans.2 with ⟨_, e⟩ | ⟨L, cap, cur, rfl, hb, hgg, hnc, hcm, _⟩
  · omega
  · refine ⟨some ⟨L, 0, none⟩, cap, by rw [maL_len], by rw [maL_len]; exact hnc, by simpa [maxLen] using hcm, fun _ => ⟨L, 0, rfl, (Array.getElem?_eq_some_iff.1 hgg).1, by omega, fun j hj => ?_⟩⟩
    have hj' : j < n := by rw [maL_len] at hj; exact hj
    obtain ⟨h1, h2⟩ := h.cells hj'
    rw [Nat.zero_add]
    by_cases hs : j ∈ SL
    · have e : (maL n SL Cn)[j] = (false, []) := by rw [maL_get, if_pos hs]
      rw [e]
      simp only [hs, decide_true, Bool.not_true, Bool.false_eq_true, if_false] at h1 h2
      exact ⟨h1, _, h2, ⟨none, 0, rfl, Nat.le_refl _, by omega, fun x hx => by simp at hx, fun h => by simp at h⟩⟩
    · have e : (maL n SL Cn)[j] = (true, Cn j) := by rw [maL_get, if_neg hs]
      rw [e]
      simp only [hs, decide_false, Bool.not_false, if_true] at h1 h2
      exact ⟨h1, _, h2, SE.of_own (h.row j hj') (hr j) hg⟩
/-- a block of marks, known whole -/
def BBk (w : World) (B n : Nat) (BL : List Nat) : Prop := w.heap[B]? = some (.cells ((List.range n).map fun (j : Nat) => Value.bool (decide (j ∈ BL))).toArray 4 (0, 0))
theorem BBk.lt {w : World} {B n : Nat} {BL : List Nat} (h : BBk w B n BL) : B < w.heap.size := heap_of_cells h
theorem BBk.cell {w : World} {B n : Nat} {BL : List Nat} (h : BBk w B n BL) {j : Nat} (hj : j < n) : w.cell? ⟨B, j, none⟩ = some (.bool (decide (j ∈ BL))) := by
  rw [cell_of_row w B j _ _ _ h]; simp [hj]
theorem BBk.frozen {w : World} {B n : Nat} {BL : List Nat} (h : BBk w B n BL) (j : Nat) : w.frozen? ⟨B, j, none⟩ = false := frozen_of_row w B j _ _ h
theorem BBk.set {w : World} {B n : Nat} {BL : List Nat} (h : BBk w B n BL) (j : Nat) : BBk (w.setCell ⟨B, j, none⟩ (.bool true)) B n (j :: BL) := by
  unfold BBk
  rw [heap_setCell_same w B j _ _ _ h]
  congr 2
  apply Array.toList_inj.1
  refine List.ext_getElem (by simp) fun q h1 h2 => ?_
  simp
  by_cases e : j = q
  · simp [e]
  · have e2 : ¬ q = j := fun h => e h.symm
    simp [e, e2]
theorem BBk.oth {w : World} {B n : Nat} {BL : List Nat} (h : BBk w B n BL) {p : Addr} (hp : p.block ≠ B) (u : Value) : BBk (w.setCell p u) B n BL := (heap_setCell_other w p B u (by omega)).trans h
theorem BBk.grown {w w' : World} {B n g : Nat} {BL : List Nat} (h : BBk w B n BL) (hg : w.grownBy w' (some g)) (hne : B ≠ g) : BBk w' B n BL := (hg.block B h.lt (by simp; exact hne)).trans h
end Go.Proofs.YtoiabanpnkpbhaaGreatDoor

namespace Go.Proofs.YtoiabanpnkpbhaaGreatDoor
open Go.RowKit
set_option linter.unusedSimpArgs false

end Go.Proofs.YtoiabanpnkpbhaaGreatDoor
