/- Joined: Mc Bl. -/
import Derived.Test.YtoiabanpnkpbhaaGreatDoorY30
import Derived.Test.YtoiabanpnkpbhaaGreatDoorY29
namespace Go.Proofs.YtoiabanpnkpbhaaGreatDoor
open Go.RowKit

end Go.Proofs.YtoiabanpnkpbhaaGreatDoor

namespace Go.Proofs.YtoiabanpnkpbhaaGreatDoor
open Go.RowKit

/-- a slice of ints at block C or behind, outside the blocks X and Y -/
def SY (C : Nat) (W : World) (X Y : Option Nat) (v : Value) (l : List Int) : Prop :=
  ∃ A c, v = .slice A l.length c ∧ l.length ≤ c ∧ c ≤ 9223372036854775807 ∧ (∀ x ∈ l, i64r x) ∧
    (0 < l.length → ∃ b off, A = some ⟨b, off, none⟩ ∧ C ≤ b ∧ b < W.heap.size ∧ some b ≠ X ∧ some b ≠ Y ∧ ∀ j (h : j < l.length), W.cell? ⟨b, off + j, none⟩ = some (.int .i64 l[j]))
theorem SY.keep {C : Nat} {W W' : World} {X Y X' Y' : Option Nat} {v : Value} {l : List Int} (h : SY C W X Y v l) (hs : W.heap.size ≤ W'.heap.size)
    (hb : ∀ b, C ≤ b → b < W.heap.size → some b ≠ X → some b ≠ Y → W'.heap[b]? = W.heap[b]? ∧ some b ≠ X' ∧ some b ≠ Y') : SY C W' X' Y' v l := by
  obtain ⟨A, c, rfl, hc, hm, hr, ha⟩ := h
  refine ⟨A, c, rfl, hc, hm, hr, fun h0 => ?_⟩
  obtain ⟨b, off, rfl, hC, hbl, hx, hy, hcell⟩ := ha h0
  obtain ⟨e, hx', hy'⟩ := hb b hC hbl hx hy
  exact ⟨b, off, rfl, hC, by omega, hx', hy', fun j hj => (World.cell?_of_block e).trans (hcell j hj)⟩
theorem SY.nil (C : Nat) (W : World) (X Y : Option Nat) : SY C W X Y (.slice none 0 0) [] := ⟨none, 0, rfl, Nat.le_refl _, by omega, fun x h => by simp at h, fun h => by simp at h⟩
theorem SY.se {C g : Nat} {W : World} {X Y : Option Nat} {v : Value} {l : List Int} (h : SY C W X Y v l) (hg : g < C) : SE g W v l := by
  obtain ⟨A, c, rfl, hc, hm, hr, ha⟩ := h
  refine ⟨A, c, rfl, hc, hm, hr, fun h0 => ?_⟩
  obtain ⟨b, off, rfl, hC, hbl, _, _, hcell⟩ := ha h0
  exact ⟨b, off, rfl, hbl, by omega, hcell⟩
theorem SY.of_own {W : World} {X Y : Option Nat} {C base : Nat} {e : TypeId} {v : Value} {l : List Int} (h : W.ownsRow base e 1 v l.length (l.map (Value.int .i64))) (hr : ∀ x ∈ l, i64r x) (hC : C ≤ base) (hX : ∀ k, X = some k → k < base) (hY : ∀ k, Y = some k → k < base) : SY C W X Y v l := by
  rcases h.2 with ⟨rfl, hn⟩ | ⟨b, cap, cur, rfl, hb, hgg, hnc, hcm, hcs, htake⟩
  · have : l = [] := List.eq_nil_of_length_eq_zero hn
    subst this
    exact SY.nil ..
  · refine ⟨_, cap, rfl, hnc, by simpa [maxLen] using hcm, hr, fun h0 => ⟨b, 0, rfl, by omega, (Array.getElem?_eq_some_iff.1 hgg).1, fun e => by have := hX b e.symm; omega, fun e => by have := hY b e.symm; omega, fun j hj => ?_⟩⟩
    have := h.cellAt j (by omega)
    rw [Nat.zero_add, this]
    simp [hj]
theorem SY.below {C : Nat} {W W' : World} {X Y : Option Nat} {v : Value} {l : List Int} (h : SY C W X Y v l) (hb : Below W.heap.size W W') : SY C W' X Y v l :=
  h.keep hb.size fun b _ hbl hx hy => ⟨hb.block b hbl, hx, hy⟩
def anc (x : Bool × Value) : List Value := [.bool x.1, x.2]
theorem anc_get (xs : List (Bool × Value)) (j : Nat) (h : j < xs.length) : (xs.flatMap anc)[j * 2]? = some (.bool xs[j].1) ∧ (xs.flatMap anc)[j * 2 + 1]? = some xs[j].2 := fm2_get xs j h
/-- a list of answers under construction; X is the block of another one -/
structure LM (C : Nat) (w : World) (pv : Value) (X : Option Nat) (xs : List (Bool × Value)) (L : List (Bool × List Int)) : Prop where
  ans : w.ownsRow C 61 2 pv xs.length (xs.flatMap anc)
  len : xs.length = L.length
  row : ∀ j (h1 : j < xs.length) (h2 : j < L.length), xs[j].1 = L[j].1 ∧ SY C w pv.ownBlock X xs[j].2 L[j].2
  apl : ∀ b, pv.ownBlock = some b → X ≠ some b
theorem LM.nil (C : Nat) (w : World) (X : Option Nat) : LM C w (.slice none 0 0) X [] [] :=
  ⟨World.ownsRow_nil _ _ _ _, rfl, fun j h => by simp at h, fun b h => by simp [Value.ownBlock] at h⟩
theorem LM.keep {C : Nat} {w w' : World} {pv : Value} {X : Option Nat} {xs : List (Bool × Value)} {L : List (Bool × List Int)} (h : LM C w pv X xs L) (hs : w.heap.size ≤ w'.heap.size) (hk : ∀ b, C ≤ b → b < w.heap.size → w'.heap[b]? = w.heap[b]?) : LM C w' pv X xs L :=
  ⟨own_blk h.ans fun b hb => hk b (h.ans.lt b hb).1 (h.ans.lt b hb).2, h.len, fun j h1 h2 => ⟨(h.row j h1 h2).1, (h.row j h1 h2).2.keep hs fun b hC hb hx hy => ⟨hk b hC hb, hx, hy⟩⟩, h.apl⟩
theorem LM.below {C : Nat} {w w' : World} {pv : Value} {X : Option Nat} {xs : List (Bool × Value)} {L : List (Bool × List Int)} (h : LM C w pv X xs L) (hb : Below w.heap.size w w') : LM C w' pv X xs L := h.keep hb.size fun b _ h2 => hb.block b h2
theorem LM.grown {C g : Nat} {w w' : World} {pv : Value} {X : Option Nat} {xs : List (Bool × Value)} {L : List (Bool × List Int)} (h : LM C w pv X xs L) (hg : w.grownBy w' (some g)) (hgC : g < C) : LM C w' pv X xs L := h.keep hg.size fun b hC h2 => hg.block b h2 (by simp; omega)
/-- one answer more -/
theorem LM.app {C g9 : Nat} {w w' : World} {pv pv' : Value} {X : Option Nat} {xs : List (Bool × Value)} {L : List (Bool × List Int)} {k : Bool} {v : Value} {l : List Int} (h : LM C w pv X xs L) (hX : ∀ b, X = some b → b < w.heap.size)
    (hv : SY C w pv.ownBlock X v l) (ho : w'.ownsRow C 61 2 pv' (xs.length + 1) (xs.flatMap anc ++ [.bool k, v])) (hg : w.grownBy w' pv.ownBlock) (hpv : pv'.ownBlock = some g9) (hat : pv.ownBlock = some g9 ∨ w.heap.size ≤ g9) : LM C w' pv' X (xs ++ [(k, v)]) (L ++ [(k, l)]) := by
  have hk : ∀ b, C ≤ b → b < w.heap.size → some b ≠ pv.ownBlock → some b ≠ X → w'.heap[b]? = w.heap[b]? ∧ some b ≠ pv'.ownBlock ∧ some b ≠ X := fun b _ hb h1 h2 =>
    ⟨hg.block b hb h1, fun e => by rw [hpv] at e; injection e with e; subst e; rcases hat with h3 | h3; exact h1 h3.symm; omega, h2⟩
  refine ⟨by simpa [anc] using ho, by simp [h.len], fun j h1 h2 => ?_, fun b hb e => ?_⟩
  · by_cases hj : j < xs.length
    · have hj' : j < L.length := by rw [← h.len]; exact hj
      rw [List.getElem_append_left hj, List.getElem_append_left hj']
      exact ⟨(h.row j hj hj').1, (h.row j hj hj').2.keep hg.size hk⟩
    · have e1 : j = xs.length := by simp at h1; omega
      subst e1
      have e2 : (xs ++ [(k, v)])[xs.length]'h1 = (k, v) := by simp
      have e3 : (L ++ [(k, l)])[xs.length]'h2 = (k, l) := by simp [h.len]
      rw [e2, e3]
      exact ⟨rfl, hv.keep hg.size hk⟩
  · rw [hpv] at hb
    injection hb with hb
    subst hb
    rcases hat with h3 | h3
    · exact h.apl _ h3 e
    · have := hX _ e; omega
/-- the other list, while this one grows -/
theorem LM.oth {C g9 : Nat} {w w' : World} {pv qv : Value} {ys : List (Bool × Value)} {M : List (Bool × List Int)} (h : LM C w qv pv.ownBlock ys M)
    (hg : w.grownBy w' pv.ownBlock) (hat : pv.ownBlock = some g9 ∨ w.heap.size ≤ g9) : LM C w' qv (some g9) ys M := by
  refine ⟨own_blk h.ans fun b hb => hg.block b (h.ans.lt b hb).2 fun e => h.apl b hb e.symm, h.len, fun j h1 h2 => ⟨(h.row j h1 h2).1, (h.row j h1 h2).2.keep hg.size fun b hC hb h3 h4 => ⟨hg.block b hb h4, h3, fun e => ?_⟩⟩, fun b hb e => ?_⟩
  · injection e with e
    subst e
    rcases hat with h5 | h5
    · exact h4 h5.symm
    · omega
  · injection e with e
    subst e
    rcases hat with h5 | h5
    · exact h.apl _ hb h5
    · have := (h.ans.lt _ hb).2; omega
theorem SY.oth {C g9 : Nat} {w w' : World} {pv qv v : Value} {l : List Int} (h : SY C w qv.ownBlock pv.ownBlock v l) (hg : w.grownBy w' pv.ownBlock) (hat : pv.ownBlock = some g9 ∨ w.heap.size ≤ g9) : SY C w' qv.ownBlock (some g9) v l :=
  h.keep hg.size fun b hC hb h3 h4 => ⟨hg.block b hb h4, h3, fun e => by
    injection e with e
    subst e
    rcases hat with h5 | h5
    · exact h4 h5.symm
    · omega⟩
theorem LM.sae {C g : Nat} {w : World} {pv : Value} {X : Option Nat} {xs : List (Bool × Value)} {L : List (Bool × List Int)} (h : LM C w pv X xs L) (hg : g < C) : SAE g w pv L := by
  have hl := h.len
  rcases h.ans.2 with ⟨e, hn⟩ | ⟨b, cap, cur, e, hb, hgg, hnc, hcm, hcs, htake⟩
  · have : L = [] := List.eq_nil_of_length_eq_zero (by omega)
    subst this
    rw [e]
    exact ⟨none, 0, rfl, Nat.le_refl _, by omega, fun h => by simp at h⟩
  · have ho := h.ans
    rw [e] at ho ⊢
    rw [hl]
    refine ⟨_, cap, rfl, by omega, by simpa [maxLen] using hcm, fun h0 => ⟨b, 0, rfl, (Array.getElem?_eq_some_iff.1 hgg).1, by omega, fun j hj => ?_⟩⟩
    have hj' : j < xs.length := by omega
    obtain ⟨h1, h2⟩ := h.row j hj' hj
    obtain ⟨g1, g2⟩ := anc_get xs j hj'
    have c1 := ho.cellAt (j * 2) (by omega)
    have c2 := ho.cellAt (j * 2 + 1) (by omega)
    rw [g1] at c1
    rw [g2] at c2
    rw [Nat.zero_add]
    exact ⟨by rw [c1, h1], xs[j].2, c2, h2.se hg⟩
/-- two lists -/
structure LM2 (C : Nat) (w : World) (pv qv : Value) (xs ys : List (Bool × Value)) (L M : List (Bool × List Int)) : Prop where
  p : LM C w pv qv.ownBlock xs L
  q : LM C w qv pv.ownBlock ys M
theorem LM2.swap {C : Nat} {w : World} {pv qv : Value} {xs ys : List (Bool × Value)} {L M : List (Bool × List Int)} (h : LM2 C w pv qv xs ys L M) : LM2 C w qv pv ys xs M L := ⟨h.q, h.p⟩
theorem LM2.below {C : Nat} {w w' : World} {pv qv : Value} {xs ys : List (Bool × Value)} {L M : List (Bool × List Int)} (h : LM2 C w pv qv xs ys L M) (hb : Below w.heap.size w w') : LM2 C w' pv qv xs ys L M := ⟨h.p.below hb, h.q.below hb⟩
theorem LM2.grown {C g : Nat} {w w' : World} {pv qv : Value} {xs ys : List (Bool × Value)} {L M : List (Bool × List Int)} (h : LM2 C w pv qv xs ys L M) (hg : w.grownBy w' (some g)) (hgC : g < C) : LM2 C w' pv qv xs ys L M := ⟨h.p.grown hg hgC, h.q.grown hg hgC⟩
/-- the first one grows -/
theorem LM2.app {C g9 n cap : Nat} {w w' : World} {pv qv : Value} {xs ys : List (Bool × Value)} {L M : List (Bool × List Int)} {k : Bool} {v : Value} {l : List Int} (h : LM2 C w pv qv xs ys L M)
    (hv : SY C w pv.ownBlock qv.ownBlock v l) (ho : w'.ownsRow C 61 2 (.slice (some ⟨g9, 0, none⟩) n cap) (xs.length + 1) (xs.flatMap anc ++ [.bool k, v])) (hg : w.grownBy w' pv.ownBlock) (hat : pv.ownBlock = some g9 ∨ w.heap.size ≤ g9) : LM2 C w' (.slice (some ⟨g9, 0, none⟩) n cap) qv (xs ++ [(k, v)]) ys (L ++ [(k, l)]) M :=
  ⟨h.p.app (fun b hb => (h.q.ans.lt b hb).2) hv ho hg rfl hat, h.q.oth hg hat⟩
end Go.Proofs.YtoiabanpnkpbhaaGreatDoor
