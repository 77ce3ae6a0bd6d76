/- Joined: Ma Mb Md. -/
import Derived.Test.YtbgabipngdillaaGreatDoorZ23
import Derived.Test.YtbgabipngdillaaGreatDoorZ17
namespace Go.Proofs.YtbgabipngdillaaGreatDoor
open Go.RowKit

/-- a slice of answers outside block g -/
def SAE (g : Nat) (w : World) (v : Value) (l : List (Bool × List Int)) : Prop :=
  ∃ A c, v = .slice A l.length c ∧ l.length ≤ c ∧ c ≤ 9223372036854775807 ∧
    (0 < l.length → ∃ b off, A = some ⟨b, off, none⟩ ∧ b < w.heap.size ∧ b ≠ g ∧ ∀ j (h : j < l.length), w.cell? ⟨b, off + j * 2, none⟩ = some (.bool l[j].1) ∧ ∃ vr, w.cell? ⟨b, off + j * 2 + 1, none⟩ = some vr ∧ SE g w vr l[j].2)
theorem SAE.grown {g : Nat} {w w' : World} {v : Value} {l : List (Bool × List Int)} (h : SAE g w v l) (hg : w.grownBy w' (some g)) : SAE g w' v l := by
  obtain ⟨A, c, rfl, hc, hm, ha⟩ := h
  refine ⟨A, c, rfl, hc, hm, fun h0 => ?_⟩
  obtain ⟨b, off, rfl, hb, hbg, hcell⟩ := ha h0
  have hk : w'.heap[b]? = w.heap[b]? := hg.block b hb (by simp; exact hbg)
  refine ⟨b, off, rfl, by have := hg.size; omega, hbg, fun j hj => ?_⟩
  obtain ⟨h1, vr, h2, h3⟩ := hcell j hj
  exact ⟨(World.cell?_of_block hk).trans h1, vr, (World.cell?_of_block hk).trans h2, h3.grown hg⟩
theorem SAE.below {g : Nat} {w w' : World} {v : Value} {l : List (Bool × List Int)} (h : SAE g w v l) (hb : Below w.heap.size w w') : SAE g w' v l := h.grown (grownBy_of_below hb _)
theorem SAE.san {g : Nat} {w : World} {v : Value} {l : List (Bool × List Int)} (h : SAE g w v l) : SAn w v l := by
  obtain ⟨A, c, rfl, hc, hm, ha⟩ := h
  refine ⟨A, c, rfl, hc, hm, fun h0 => ?_⟩
  obtain ⟨b, off, rfl, hb, hbg, hcell⟩ := ha h0
  refine ⟨b, off, rfl, hb, fun j hj => ?_⟩
  obtain ⟨h1, vr, h2, h3⟩ := hcell j hj
  exact ⟨h1, vr, h2, h3.si⟩
theorem SAE.form {g : Nat} {w : World} {v : Value} {l : List (Bool × List Int)} (h : SAE g w v l) : ∃ A c, v = .slice A l.length c := by
  obtain ⟨A, c, rfl, _⟩ := h; exact ⟨A, c, rfl⟩
/-- one cell of an owned row laid anew -/
theorem own_upd {w : World} {base e size n b cap : Nat} {xs : List Value} (h : w.ownsRow base e size (.slice (some ⟨b, 0, none⟩) n cap) n xs) (i : Nat) (u : Value) :
    (w.setCell ⟨b, i, none⟩ u).ownsRow base e size (.slice (some ⟨b, 0, none⟩) n cap) n (xs.set i u) := by
  obtain ⟨hl, h⟩ := h
  refine ⟨by simp [hl], .inr ?_⟩
  rcases h with ⟨e1, _⟩ | ⟨g', cap', cur, e1, hb, hg, hnc, hcm, hcs, ht⟩
  · cases e1
  · injection e1 with e1 e2 e3
    injection e1 with e1
    injection e1 with e1
    subst e1 e3
    have h1 := heap_setCell_same w b i _ _ u hg
    refine ⟨b, cap, _, rfl, hb, h1, hnc, hcm, by simp [hcs], ?_⟩
    rw [← ht]
    simp [List.take_set]
theorem own_upd_other {w : World} {base e size n : Nat} {v : Value} {xs : List Value} (h : w.ownsRow base e size v n xs) {p : Addr} (hp : v.ownBlock ≠ some p.block) (u : Value) : (w.setCell p u).ownsRow base e size v n xs :=
  own_blk h fun b hb => heap_setCell_other w p b u (fun e => hp (by rw [hb, e]))
/-- append(own, one literal of several cells) where it lies is told -/
theorem wpList_append_lit_at {P : Program} (w : World) {ops : Array Oper} {rest : List Oper} {o : Oper} {a : Act} {Q : Exit → Act → World → Prop} (hgd : o.guard = none) (s x : Operand) (t : TypeId)
    (ho : o.op = .call { callee := .builtin .append, args := #[s, x], argTypes := #[t, t] })
    (base : Nat) (e : TypeId) (z : Value) (size by' : Nat) (ht : P.underlying t = some (.slice e)) (hinfo : (P.info? e).map (fun i => (i.zero, i.size, i.bytes)) = some (some z, size, by'))
    (v : Value) (n : Nat) (xs : List Value) (hs : a.eval s = v) (hown : w.ownsRow base e size v n xs)
    (news : List Value) (hnl : news.length = size) (h1 : ∀ u ∈ news, u.oneCell' = true) (b : Nat) (hx : a.eval x = .slice (some ⟨b, 0, none⟩) 1 1) (hc : ∀ j u, news[j]? = some u → w.cell? ⟨b, j, none⟩ = some u)
    (hbytes : (n + 1) * by' ≤ 140737488355328) (hn : n ≤ 1000000) (hzs : z.cells.size = size) (hsz : 0 < size) (hbase : base ≤ w.heap.size)
    (h : ∀ g cap w', w'.ownsRow base e size (.slice (some ⟨g, 0, none⟩) (n + 1) cap) (n + 1) (xs ++ news) → w.grownBy w' v.ownBlock → (v.ownBlock = some g ∨ g = w.heap.size) → wpList P ops Q rest (a.put o.dst (.slice (some ⟨g, 0, none⟩) (n + 1) cap)) w') :
    wpList P ops Q (o :: rest) a w := by
  obtain ⟨i0, hi0, hz0, hz1, hz2⟩ := info_parts hinfo
  obtain ⟨v', w', hrun, h2, h3, h4⟩ := run_append_sc_at (P := P) w base t o.type e i0 _ size by' ht hi0 hz0 hz1 hz2 hzs hsz v _ _ hown (b + 1) (.slice (some ⟨b, 0, none⟩) 1 1) 1 news ⟨_, 1, rfl, by omega, fun _ => ⟨b, 0, rfl, by omega, fun j u hu => by rw [Nat.zero_add]; exact hc j u hu⟩⟩ h1 (by unfold maxLen; omega) hbytes hbase
  rcases h2.2 with ⟨_, hn'⟩ | ⟨g, cap, cur, rfl, hb, hg, hnc, hcm, hcs, htake⟩
  · omega
  · refine Lib.wpList_append_run w hgd s x t t ho _ _ hs hx _ w' hrun (h g cap w' h2 h3 ?_)
    rcases h4 with h4 | h4
    · exact .inl h4.symm
    · exact .inr (by simpa [Value.ownBlock] using h4)
/-- the answers, their rows, each in memory of its own -/
structure AM (C : Nat) (w : World) (pv : Value) (n : Nat) (V : Nat → Value) (K : Nat → Bool) (Cn : Nat → List Int) : Prop where
  ans : w.ownsRow C 52 2 pv n ((List.range n).flatMap fun j => [.bool (K j), if K j then V j else .slice none 0 0])
  row : ∀ j, j < n → w.ownsRow C 3 1 (V j) (Cn j).length ((Cn j).map (Value.int .i64))
  apl : ∀ j, j < n → ∀ q, (V j).ownBlock = some q → pv.ownBlock ≠ some q
  apart : ∀ i j, i < n → j < n → i ≠ j → ∀ q, (V i).ownBlock = some q → (V j).ownBlock ≠ some q
theorem AM.keep {C : Nat} {w w' : World} {pv : Value} {n : Nat} {V : Nat → Value} {K : Nat → Bool} {Cn : Nat → List Int} (h : AM C w pv n V K Cn) (hk : ∀ b, C ≤ b → b < w.heap.size → (pv.ownBlock = some b ∨ ∃ j, j < n ∧ (V j).ownBlock = some b) → w'.heap[b]? = w.heap[b]?) : AM C w' pv n V K Cn :=
  ⟨own_blk h.ans fun b hb => hk b (h.ans.lt b hb).1 (h.ans.lt b hb).2 (.inl hb), fun j hj => own_blk (h.row j hj) fun b hb => hk b ((h.row j hj).lt b hb).1 ((h.row j hj).lt b hb).2 (.inr ⟨j, hj, hb⟩), h.apl, h.apart⟩
theorem AM.grown {C g : Nat} {w w' : World} {pv : Value} {n : Nat} {V : Nat → Value} {K : Nat → Bool} {Cn : Nat → List Int} (h : AM C w pv n V K Cn) (hg : w.grownBy w' (some g)) (hgC : g < C) : AM C w' pv n V K Cn :=
  h.keep fun b h1 h2 _ => hg.block b h2 (by simp; omega)
end Go.Proofs.YtbgabipngdillaaGreatDoor

namespace Go.Proofs.YtbgabipngdillaaGreatDoor
open Go.RowKit

/-- what Answers makes of right answers -/
def AnR (P : Int) (rows : List (List Int)) (wrong silent : Nat) (L : List (Bool × List Int)) (bad : List Int) : Prop :=
  L.length = rows.length ∧ (∀ j (h : j < L.length), L[j].1 = true → L[j].2.length = (gr rows j).length ∧ els P L[j].2 = true) ∧ inc bad ∧
    (∀ x, x ∈ bad ↔ ∃ j, ∃ h : j < L.length, L[j].1 = true ∧ x = (j : Int) + 1 ∧ L[j].2 ≠ gr rows j) ∧ bad.length ≤ wrong ∧ rows.length ≤ knL L + silent
def MaP (g : Nat) (P : Int) (rows : List (List Int)) (wrong silent : Nat) (w : World) (e : Ending) (w' : World) : Prop :=
  ∃ v1 v2 L bad, e = .returned (.tuple #[v1, v2]) ∧ SAE g w' v1 L ∧ SE g w' v2 bad ∧ Dk w' g ∧ w.grownBy w' (some g) ∧ AnR P rows wrong silent L bad
/-- the copies under construction -/
def Am1 (rows : List (List Int)) (w1 : World) (sv iv : Value) (wr : World) : Prop :=
  ∃ (k : Nat) (pv : Value) (xs : List Value), pv = sv ∧ k ≤ rows.length ∧ iv = .int .i64 k ∧ xs.length = k ∧ wr.ownsRow w1.heap.size 52 2 pv xs.length (xs.flatMap apc) ∧
    (∀ j (h : j < xs.length), wr.ownsRow w1.heap.size 3 1 xs[j] (gr rows j).length ((gr rows j).map (Value.int .i64))) ∧ (∀ j (h : j < xs.length) q, xs[j].ownBlock = some q → pv.ownBlock ≠ some q) ∧
    (∀ i j (hi : i < xs.length) (hj : j < xs.length), i ≠ j → ∀ q, xs[i].ownBlock = some q → xs[j].ownBlock ≠ some q) ∧ Below w1.heap.size w1 wr
theorem am1_step {rows : List (List Int)} {w1 wr w2 w9 : World} {k : Nat} {pv v2 pv' : Value} {xs : List Value} (hk : k < rows.length) (hxk : xs.length = k)
    (hown : wr.ownsRow w1.heap.size 52 2 pv xs.length (xs.flatMap apc)) (hrow : ∀ j (h : j < xs.length), wr.ownsRow w1.heap.size 3 1 xs[j] (gr rows j).length ((gr rows j).map (Value.int .i64)))
    (hapl : ∀ j (h : j < xs.length) q, xs[j].ownBlock = some q → pv.ownBlock ≠ some q) (hap : ∀ i j (hi : i < xs.length) (hj : j < xs.length), i ≠ j → ∀ q, xs[i].ownBlock = some q → xs[j].ownBlock ≠ some q) (hb : Below w1.heap.size w1 wr)
    (h2 : w2.ownsRow wr.heap.size 3 1 v2 (gr rows k).length ((gr rows k).map (Value.int .i64))) (hb2 : Below wr.heap.size wr w2)
    (hg : (w2.alloc (.cells #[.bool true, v2] 52)).grownBy w9 pv.ownBlock) (ho : w9.ownsRow w1.heap.size 52 2 pv' (xs.length + 1) (xs.flatMap apc ++ [.bool true, v2]))
    (hat : ∀ q, pv'.ownBlock = some q → pv.ownBlock = some q ∨ q = (w2.alloc (.cells #[.bool true, v2] 52)).heap.size) :
    Am1 rows w1 pv' (.int .i64 ((k : Int) + 1)) w9 := by
  have hz := hb.size
  have hz2 := hb2.size
  have hpv : ∀ q, pv.ownBlock = some q → w1.heap.size ≤ q ∧ q < wr.heap.size := fun q hq => hown.lt q hq
  have hkeep : ∀ q, q < w2.heap.size → pv.ownBlock ≠ some q → w9.heap[q]? = w2.heap[q]? := fun q hq hne => (hg.block q (by simp; omega) (fun e => hne e.symm)).trans (Below.heap_alloc w2 _ q hq)
  have hlt : ∀ j (h : j < xs.length) q, xs[j].ownBlock = some q → w1.heap.size ≤ q ∧ q < wr.heap.size := fun j h q hq => (hrow j h).lt q hq
  have h2lt : ∀ q, v2.ownBlock = some q → wr.heap.size ≤ q ∧ q < w2.heap.size := fun q hq => h2.lt q hq
  have hnew : ∀ q, q < w2.heap.size → pv.ownBlock ≠ some q → pv'.ownBlock ≠ some q := fun q hq hne e => by
    rcases hat q e with h | h
    · exact hne h
    · simp at h; omega
  have gx : ∀ j (h : j < (xs ++ [v2]).length), (∃ h' : j < xs.length, (xs ++ [v2])[j] = xs[j]) ∨ (j = xs.length ∧ (xs ++ [v2])[j] = v2) := fun j h => by
    by_cases hj : j < xs.length
    · exact .inl ⟨hj, List.getElem_append_left hj⟩
    · have : j = xs.length := by simp at h; omega
      subst this
      exact .inr ⟨rfl, by simp⟩
  refine ⟨k + 1, pv', xs ++ [v2], rfl, by omega, by go_num, by simp [hxk], ?_, fun j h => ?_, fun j h q hq => ?_, fun i j hi hj hne q hqi hqj => ?_, ?_⟩
  · have e : (xs ++ [v2]).flatMap apc = xs.flatMap apc ++ [.bool true, v2] := by simp [apc]
    rw [e, List.length_append]; exact ho
  · rcases gx j h with ⟨h', e⟩ | ⟨h', e⟩
    · rw [e]
      have h3 := own_bel (hrow j h') hb2
      exact own_blk h3 fun q hq => hkeep q (h3.lt q hq).2 (hapl j h' q hq)
    · rw [e]
      have e2 : j = k := by omega
      subst e2
      exact own_lo (own_blk h2 fun q hq => hkeep q (h2lt q hq).2 (fun e3 => by have := hpv q e3; have := h2lt q hq; omega)) hz
  · rcases gx j h with ⟨h', e⟩ | ⟨h', e⟩
    · rw [e] at hq
      exact hnew q (by have := hlt j h' q hq; omega) (hapl j h' q hq)
    · rw [e] at hq
      exact hnew q (h2lt q hq).2 (fun e3 => by have := hpv q e3; have := h2lt q hq; omega)
  · rcases gx i hi with ⟨h', e⟩ | ⟨h', e⟩
    · rcases gx j hj with ⟨h'', e'⟩ | ⟨h'', e'⟩
      · rw [e] at hqi; rw [e'] at hqj
        exact hap i j h' h'' hne q hqi hqj
      · rw [e] at hqi; rw [e'] at hqj
        have := hlt i h' q hqi; have := h2lt q hqj; omega
    · rcases gx j hj with ⟨h'', e'⟩ | ⟨h'', e'⟩
      · rw [e] at hqi; rw [e'] at hqj
        have := hlt j h'' q hqj; have := h2lt q hqi; omega
      · omega
  · have h5 : Below w1.heap.size w1 w2 := hb.trans (hb2.mono hz)
    exact (h5.alloc (by omega) _).grown hg (by simp; omega) (fun q hq => (hpv q hq).1)
end Go.Proofs.YtbgabipngdillaaGreatDoor

namespace Go.Proofs.YtbgabipngdillaaGreatDoor
open Go.RowKit

/-- the state behind i servers of the order -/
structure AQ (n : Nat) (P : Int) (rows : List (List Int)) (wrong silent i : Nat) (Oi : List Int) (BL SL : List Nat) (Cn : Nat → List Int) : Prop where
  bnd : BL.Nodup
  snd : SL.Nodup
  bo : ∀ j ∈ BL, j < n ∧ (j : Int) ∈ Oi
  so : ∀ j ∈ SL, j < n ∧ (j : Int) ∈ Oi
  dis : ∀ j ∈ BL, j ∉ SL
  chg : ∀ j ∈ BL, Cn j ≠ gr rows j
  un : ∀ j, j ∉ BL → Cn j = gr rows j
  ln : ∀ j, (Cn j).length = (gr rows j).length ∧ els P (Cn j) = true
  cb : BL.length ≤ min i wrong
  cs : SL.length ≤ min i (wrong + silent) - wrong
theorem AQ.start {n : Nat} {P : Int} {rows : List (List Int)} {wrong silent : Nat} (h : ∀ j, els P (gr rows j) = true) : AQ n P rows wrong silent 0 [] [] [] (gr rows) where
  bnd := List.nodup_nil
  snd := List.nodup_nil
  bo := fun j hj => by simp at hj
  so := fun j hj => by simp at hj
  dis := fun j hj => by simp at hj
  chg := fun j hj => by simp at hj
  un := fun _ _ => rfl
  ln := fun j => ⟨rfl, h j⟩
  cb := by simp
  cs := by simp
theorem AQ.skip {n : Nat} {P : Int} {rows : List (List Int)} {wrong silent i : Nat} {Oi : List Int} {BL SL : List Nat} {Cn : Nat → List Int} (h : AQ n P rows wrong silent i Oi BL SL Cn) (x : Int) : AQ n P rows wrong silent (i + 1) (Oi ++ [x]) BL SL Cn where
  bnd := h.bnd
  snd := h.snd
  bo := fun j hj => ⟨(h.bo j hj).1, List.mem_append_left _ (h.bo j hj).2⟩
  so := fun j hj => ⟨(h.so j hj).1, List.mem_append_left _ (h.so j hj).2⟩
  dis := h.dis
  chg := h.chg
  un := h.un
  ln := h.ln
  cb := by have := h.cb; omega
  cs := by have := h.cs; omega
theorem AQ.wrg {n : Nat} {P : Int} {rows : List (List Int)} {wrong silent i : Nat} {Oi : List Int} {BL SL : List Nat} {Cn : Nat → List Int} (h : AQ n P rows wrong silent i Oi BL SL Cn) (hi : i < wrong) {j : Nat} (hj : j < n) (hjO : (j : Int) ∉ Oi) {l : List Int}
    (hl : l.length = (gr rows j).length ∧ els P l = true) (hne : l ≠ gr rows j) : AQ n P rows wrong silent (i + 1) (Oi ++ [(j : Int)]) (j :: BL) SL (fun a => if a = j then l else Cn a) where
  bnd := List.nodup_cons.2 ⟨fun hm => hjO (h.bo j hm).2, h.bnd⟩
  snd := h.snd
  bo := fun a ha => by
    rcases List.mem_cons.1 ha with rfl | ha
    · exact ⟨hj, by simp⟩
    · exact ⟨(h.bo a ha).1, List.mem_append_left _ (h.bo a ha).2⟩
  so := fun a ha => ⟨(h.so a ha).1, List.mem_append_left _ (h.so a ha).2⟩
  dis := fun a ha hs => by
    rcases List.mem_cons.1 ha with rfl | ha
    · exact hjO (h.so a hs).2
    · exact h.dis a ha hs
  chg := fun a ha => by
    by_cases e : a = j
    · rw [if_pos e, e]; exact hne
    · rw [if_neg e]
      rcases List.mem_cons.1 ha with rfl | ha
      · exact absurd rfl e
      · exact h.chg a ha
  un := fun a ha => by
    have e : a ≠ j := fun e => ha (by simp [e])
    rw [if_neg e]; exact h.un a fun hm => ha (by simp [hm])
  ln := fun a => by
    by_cases e : a = j
    · rw [if_pos e, e]; exact hl
    · rw [if_neg e]; exact h.ln a
  cb := by have := h.cb; simp; omega
  cs := by have := h.cs; omega
theorem AQ.sil {n : Nat} {P : Int} {rows : List (List Int)} {wrong silent i : Nat} {Oi : List Int} {BL SL : List Nat} {Cn : Nat → List Int} (h : AQ n P rows wrong silent i Oi BL SL Cn) (hi : wrong ≤ i ∧ i < wrong + silent) {j : Nat} (hj : j < n) (hjO : (j : Int) ∉ Oi) :
    AQ n P rows wrong silent (i + 1) (Oi ++ [(j : Int)]) BL (j :: SL) Cn where
  bnd := h.bnd
  snd := List.nodup_cons.2 ⟨fun hm => hjO (h.so j hm).2, h.snd⟩
  bo := fun a ha => ⟨(h.bo a ha).1, List.mem_append_left _ (h.bo a ha).2⟩
  so := fun a ha => by
    rcases List.mem_cons.1 ha with rfl | ha
    · exact ⟨hj, by simp⟩
    · exact ⟨(h.so a ha).1, List.mem_append_left _ (h.so a ha).2⟩
  dis := fun a ha hs => by
    rcases List.mem_cons.1 hs with rfl | hs
    · exact hjO (h.bo a ha).2
    · exact h.dis a ha hs
  chg := h.chg
  un := h.un
  ln := h.ln
  cb := by have := h.cb; omega
  cs := by have := h.cs; simp; omega
theorem filter_parts {α : Type} (p : α → Bool) : ∀ l : List α, l.length = (l.filter p).length + (l.filter fun a => !p a).length
  | [] => rfl
  | x :: t => by
    have := filter_parts p t
    cases h : p x <;> simp [h] <;> omega
/-- the answers as a list -/
def maL (n : Nat) (SL : List Nat) (Cn : Nat → List Int) : List (Bool × List Int) := (List.range n).map fun (j : Nat) => if j ∈ SL then (false, []) else (true, Cn j)
def maB (n : Nat) (BL : List Nat) : List Int := ((List.range n).filter fun (j : Nat) => decide (j ∈ BL)).map fun (j : Nat) => (j : Int) + 1
theorem maL_len (n : Nat) (SL : List Nat) (Cn : Nat → List Int) : (maL n SL Cn).length = n := by simp [maL]
theorem maL_get (n : Nat) (SL : List Nat) (Cn : Nat → List Int) (j : Nat) (h : j < (maL n SL Cn).length) : (maL n SL Cn)[j] = if j ∈ SL then (false, []) else (true, Cn j) := by simp [maL]
theorem AQ.fin {n : Nat} {P : Int} {rows : List (List Int)} {wrong silent i : Nat} {Oi : List Int} {BL SL : List Nat} {Cn : Nat → List Int} (h : AQ n P rows wrong silent i Oi BL SL Cn) (hn : n = rows.length) : AnR P rows wrong silent (maL n SL Cn) (maB n BL) := by
  refine ⟨by rw [maL_len, hn], fun j hj h1 => ?_, ?_, fun x => ?_, ?_, ?_⟩
  · rw [maL_get] at h1 ⊢
    by_cases hs : j ∈ SL
    · rw [if_pos hs] at h1; cases h1
    · rw [if_neg hs]; exact h.ln j
  · unfold maB inc
    rw [List.pairwise_map]
    exact List.Pairwise.imp (fun {a b} e => by omega) (List.pairwise_lt_range.sublist List.filter_sublist)
  · constructor
    · intro hx
      obtain ⟨j, hj, rfl⟩ := List.mem_map.1 hx
      obtain ⟨h1, h2⟩ := List.mem_filter.1 hj
      have hb : j ∈ BL := by simpa using h2
      have hjn := (h.bo j hb).1
      refine ⟨j, by rw [maL_len]; exact hjn, ?_, rfl, ?_⟩
      · rw [maL_get, if_neg (h.dis j hb)]
      · rw [maL_get, if_neg (h.dis j hb)]; exact h.chg j hb
    · rintro ⟨j, hj, h1, rfl, h2⟩
      rw [maL_get] at h1 h2
      by_cases hs : j ∈ SL
      · rw [if_pos hs] at h1; cases h1
      · rw [if_neg hs] at h2
        refine List.mem_map.2 ⟨j, List.mem_filter.2 ⟨List.mem_range.2 (by rw [maL_len] at hj; exact hj), ?_⟩, rfl⟩
        by_cases hb : j ∈ BL
        · simpa using hb
        · exact absurd (h.un j hb) h2
  · have h1 : (maB n BL).length = ((List.range n).filter fun (j : Nat) => decide (j ∈ BL)).length := by unfold maB; rw [List.length_map]
    have h2 : ((List.range n).filter fun (j : Nat) => decide (j ∈ BL)).length ≤ BL.length := nodup_sub _ _ (List.nodup_range.sublist List.filter_sublist) fun x hx => by simpa using (List.mem_filter.1 hx).2
    have := h.cb
    omega
  · have h1 : knL (maL n SL Cn) = ((List.range n).filter fun (j : Nat) => !decide (j ∈ SL)).length := by
      unfold knL maL
      rw [List.filter_map, List.length_map]
      congr 1
      refine List.filter_congr fun j _ => ?_
      by_cases h : j ∈ SL <;> simp [h]
    have h2 : ((List.range n).filter fun (j : Nat) => decide (j ∈ SL)).length ≤ SL.length := nodup_sub _ _ (List.nodup_range.sublist List.filter_sublist) fun x hx => by simpa using (List.mem_filter.1 hx).2
    have h3 := filter_parts (fun (j : Nat) => decide (j ∈ SL)) (List.range n)
    have := h.cs
    rw [List.length_range] at h3
    rw [h1, ← hn]
    omega
theorem fl2_get {n : Nat} (f : Nat → Value × Value) : ∀ j, j < n → ((List.range n).flatMap fun j => [(f j).1, (f j).2])[j * 2]? = some (f j).1 ∧ ((List.range n).flatMap fun j => [(f j).1, (f j).2])[j * 2 + 1]? = some (f j).2 := by
  have key : ∀ (l : List Nat) (j : Nat) (h : j < l.length), (l.flatMap fun j => [(f j).1, (f j).2])[j * 2]? = some (f l[j]).1 ∧ (l.flatMap fun j => [(f j).1, (f j).2])[j * 2 + 1]? = some (f l[j]).2 := by
    intro l
    induction l with
    | nil => intro j h; simp at h
    | cons x t ih =>
      intro j h
      cases j with
      | zero => simp
      | succ j =>
        have := ih j (by simpa using h)
        have e1 : (j + 1) * 2 = j * 2 + 1 + 1 := by omega
        have e2 : (j + 1) * 2 + 1 = j * 2 + 1 + 1 + 1 := by omega
        refine ⟨?_, ?_⟩
        · rw [e1]; simpa using this.1
        · rw [e2]; simpa using this.2
  intro j hj
  have := key (List.range n) j (by simpa using hj)
  simpa using this
theorem fl2_set {n : Nat} (f : Nat → Value × Value) (j : Nat) (hj : j < n) (a b : Value) : (((List.range n).flatMap fun j => [(f j).1, (f j).2]).set (j * 2) a).set (j * 2 + 1) b = (List.range n).flatMap fun q => [(if q = j then (a, b) else f q).1, (if q = j then (a, b) else f q).2] := by
  have hlen : ∀ (F : Nat → Value × Value) (l : List Nat), (l.flatMap fun j => [(F j).1, (F j).2]).length = l.length * 2 := fun F l => by
    induction l with
    | nil => rfl
    | cons x t ih => simp [ih]; omega
  refine List.ext_getElem? fun p => ?_
  by_cases hp : p / 2 < n
  · have h1 := fl2_get f (p / 2) hp
    have h2 := fl2_get (fun q => if q = j then (a, b) else f q) (p / 2) hp
    rcases Nat.mod_two_eq_zero_or_one p with h0 | h0
    · have e : p = p / 2 * 2 := by omega
      rw [← e] at h1 h2
      rw [h2.1, List.getElem?_set]
      by_cases hq : p / 2 = j
      · rw [if_neg (by omega), List.getElem?_set, if_pos (by omega), if_pos (by rw [hlen]; simp; omega), if_pos hq]
      · rw [if_neg (by omega), List.getElem?_set, if_neg (by omega), h1.1, if_neg hq]
    · have e : p = p / 2 * 2 + 1 := by omega
      rw [← e] at h1 h2
      rw [h2.2, List.getElem?_set]
      by_cases hq : p / 2 = j
      · rw [if_pos (by omega), if_pos (by rw [List.length_set, hlen]; simp; omega), if_pos hq]
      · rw [if_neg (by omega), List.getElem?_set, if_neg (by omega), h1.2, if_neg hq]
  · rw [List.getElem?_eq_none (by rw [List.length_set, List.length_set, hlen]; simp; omega), List.getElem?_eq_none (by rw [hlen (fun q => if q = j then (a, b) else f q)]; simp; omega)]
theorem AM.fl {C : Nat} {w : World} {pv : Value} {n : Nat} {V : Nat → Value} {K : Nat → Bool} {Cn : Nat → List Int} (h : AM C w pv n V K Cn) : w.ownsRow C 52 2 pv n ((List.range n).flatMap fun j => [(Value.bool (K j), if K j then V j else .slice none 0 0).1, (Value.bool (K j), if K j then V j else .slice none 0 0).2]) := h.ans
/-- an element of an answer changed -/
theorem AM.chg {C : Nat} {w : World} {pv : Value} {n : Nat} {V : Nat → Value} {K : Nat → Bool} {Cn : Nat → List Int} (h : AM C w pv n V K Cn) {j : Nat} (hj : j < n) {q l cap : Nat} (hV : V j = .slice (some ⟨q, 0, none⟩) l cap) (c : Nat) (y : Int) :
    AM C (w.setCell ⟨q, c, none⟩ (.int .i64 y)) pv n V K (fun a => if a = j then (Cn j).set c y else Cn a) := by
  have hq : (V j).ownBlock = some q := by rw [hV]; rfl
  refine ⟨own_upd_other h.ans (h.apl j hj q hq) _, fun a ha => ?_, h.apl, h.apart⟩
  by_cases e : a = j
  · subst e
    have h1 := h.row a ha
    have hl : l = (Cn a).length := by
      rw [hV] at h1
      rcases h1.2 with ⟨e1, _⟩ | ⟨g', cap', cur, e1, _⟩
      · cases e1
      · injection e1
    rw [hV] at h1 ⊢
    subst hl
    have h2 := own_upd h1 c (.int .i64 y)
    rw [if_pos rfl, List.length_set, List.map_set]
    exact h2
  · rw [if_neg e]
    exact own_upd_other (h.row a ha) (h.apart j a hj ha (fun e2 => e e2.symm) q hq) _
/-- an answer taken away -/
theorem AM.sil {C : Nat} {w : World} {n : Nat} {V : Nat → Value} {K : Nat → Bool} {Cn : Nat → List Int} {L cap : Nat} (h : AM C w (.slice (some ⟨L, 0, none⟩) n cap) n V K Cn) {j : Nat} (hj : j < n) :
    AM C ((w.setCell ⟨L, j * 2, none⟩ (.bool false)).setCell ⟨L, j * 2 + 1, none⟩ (.slice none 0 0)) (.slice (some ⟨L, 0, none⟩) n cap) n V (fun a => if a = j then false else K a) Cn := by
  refine ⟨?_, fun a ha => own_upd_other (own_upd_other (h.row a ha) (fun e => h.apl a ha L e rfl) _) (fun e => h.apl a ha L e rfl) _, h.apl, h.apart⟩
  have h1 := own_upd (own_upd h.fl (j * 2) (.bool false)) (j * 2 + 1) (.slice none 0 0)
  rw [fl2_set (fun j => (Value.bool (K j), if K j then V j else .slice none 0 0)) j hj] at h1
  have e : ((List.range n).flatMap fun q => [(if q = j then (Value.bool false, Value.slice none 0 0) else (Value.bool (K q), if K q then V q else .slice none 0 0)).1, (if q = j then (Value.bool false, Value.slice none 0 0) else (Value.bool (K q), if K q then V q else .slice none 0 0)).2]) =
      (List.range n).flatMap fun a => [Value.bool (if a = j then false else K a), if (if a = j then false else K a) then V a else .slice none 0 0] := by
    congr 1
    funext a
    by_cases e : a = j <;> simp [e]
  rw [e] at h1
  exact h1
theorem AM.oth {C : Nat} {w : World} {pv : Value} {n : Nat} {V : Nat → Value} {K : Nat → Bool} {Cn : Nat → List Int} (h : AM C w pv n V K Cn) {p : Addr} (hp : pv.ownBlock ≠ some p.block) (hv : ∀ j, j < n → (V j).ownBlock ≠ some p.block) (u : Value) : AM C (w.setCell p u) pv n V K Cn :=
  ⟨own_upd_other h.ans hp u, fun j hj => own_upd_other (h.row j hj) (hv j hj) u, h.apl, h.apart⟩
theorem AM.cells {C : Nat} {w : World} {n : Nat} {V : Nat → Value} {K : Nat → Bool} {Cn : Nat → List Int} {L cap : Nat} (h : AM C w (.slice (some ⟨L, 0, none⟩) n cap) n V K Cn) {j : Nat} (hj : j < n) :
    w.cell? ⟨L, j * 2, none⟩ = some (.bool (K j)) ∧ w.cell? ⟨L, j * 2 + 1, none⟩ = some (if K j then V j else .slice none 0 0) := by
  have h1 := fl2_get (n := n) (fun j => (Value.bool (K j), if K j then V j else .slice none 0 0)) j hj
  have hl : ((List.range n).flatMap fun j => [(Value.bool (K j), if K j then V j else Value.slice none 0 0).1, (Value.bool (K j), if K j then V j else Value.slice none 0 0).2]).length = n * 2 := h.fl.1
  have h2 := h.fl.cellAt (j * 2) (by omega)
  have h3 := h.fl.cellAt (j * 2 + 1) (by omega)
  exact ⟨h2.trans h1.1, h3.trans h1.2⟩
theorem own_frozen {w : World} {base e size n b cap : Nat} {xs : List Value} (h : w.ownsRow base e size (.slice (some ⟨b, 0, none⟩) n cap) n xs) (i : Nat) : w.frozen? ⟨b, i, none⟩ = false := by
  rcases h.2 with ⟨e1, _⟩ | ⟨g', cap', cur, e1, hb, hg, _⟩
  · cases e1
  · injection e1 with e1 e2 e3
    injection e1 with e1
    injection e1 with e1
    subst e1
    exact frozen_of_row w b i _ _ hg
theorem AM.sae {C g : Nat} {w : World} {pv : Value} {n : Nat} {V : Nat → Value} {SL : List Nat} {Cn : Nat → List Int} (h : AM C w pv n V (fun a => !decide (a ∈ SL)) Cn) (hg : g < C) (hr : ∀ j, ∀ x ∈ Cn j, i64r x) (hn : 1 ≤ n) : SAE g w pv (maL n SL Cn) := by
  rcases h.ans.2 with ⟨_, e⟩ | ⟨L, cap, cur, rfl, hb, hgg, hnc, hcm, _⟩
  · omega
  · refine ⟨some ⟨L, 0, none⟩, cap, by rw [maL_len], by rw [maL_len]; exact hnc, by simpa [maxLen] using hcm, fun _ => ⟨L, 0, rfl, (Array.getElem?_eq_some_iff.1 hgg).1, by omega, fun j hj => ?_⟩⟩
    have hj' : j < n := by rw [maL_len] at hj; exact hj
    obtain ⟨h1, h2⟩ := h.cells hj'
    rw [Nat.zero_add]
    by_cases hs : j ∈ SL
    · have e : (maL n SL Cn)[j] = (false, []) := by rw [maL_get, if_pos hs]
      rw [e]
      simp only [hs, decide_true, Bool.not_true, Bool.false_eq_true, if_false] at h1 h2
      exact ⟨h1, _, h2, ⟨none, 0, rfl, Nat.le_refl _, by omega, fun x hx => by simp at hx, fun h => by simp at h⟩⟩
    · have e : (maL n SL Cn)[j] = (true, Cn j) := by rw [maL_get, if_neg hs]
      rw [e]
      simp only [hs, decide_false, Bool.not_false, if_true] at h1 h2
      exact ⟨h1, _, h2, SE.of_own (h.row j hj') (hr j) hg⟩
theorem binfo : (Tryz.prog.info? 4).map (fun i => (i.zero, i.size, i.bytes)) = some (some (.bool false), 1, 1) := by kernel_rfl
theorem madeBools (n : Nat) : madeCells (Value.bool false).cells n = ((List.range n).map fun (j : Nat) => Value.bool (decide (j ∈ ([] : List Nat)))).toArray := by
  apply Array.toList_inj.1
  show (madeCells #[Value.bool false] n).toList = _
  rw [toList_madeCells_one]
  refine List.ext_getElem (by simp) fun j h1 h2 => by simp
/-- make([]bool, n) -/
theorem wpList_make_bools {P : Program} (w : World) {ops : Array Oper} {rest : List Oper} {o : Oper} {a : Act} {Q : Exit → Act → World → Prop}
    (hg : o.guard = none) (l c : Operand) (t : TypeId) (hop : o.op = Op.makeSlice t l c) (e : TypeId) (ht : P.underlying t = some (.slice e)) (hinfo : (P.info? e).map (fun i => (i.zero, i.size, i.bytes)) = some (some (.bool false), 1, 1))
    (L : Int) (n : Nat) (hl : a.eval l = .int .i64 L) (hc : a.eval c = .int .i64 L) (hL : L = (n : Int)) (hn : n ≤ 10000000)
    (hK : wpList P ops Q rest (a.put o.dst (.slice (some ⟨w.heap.size, 0, none⟩) n n)) (w.alloc (.cells ((List.range n).map fun (j : Nat) => Value.bool (decide (j ∈ ([] : List Nat)))).toArray e))) :
    wpList P ops Q (o :: rest) a w := by
  obtain ⟨i0, hi0, hz0, hz1, hz2⟩ := info_parts hinfo
  subst hL
  have hrun := run_makeSlice (P := P) w t e i0 _ ht hi0 hz0 .i64 .i64 n n (by omega) (Int.le_refl _) (by rw [hz1]; simp; omega) (by rw [hz2]; omega) (by omega)
  simp only [Int.toNat_natCast] at hrun
  rw [hz1, Nat.mul_one, madeBools n] at hrun
  refine wpList_plain hg fun K hK' => ?_
  unfold Oper.wp
  simp only [execOp, hop, hl, hc, hrun, Result.andThen, Sem.run_bind, Sem.run_pure]
  first
    | exact hK' _ _ hK
    | (simp [hrun, Result.andThen]; exact hK' _ _ hK)
/-- a block of marks, known whole -/
def BBk (w : World) (B n : Nat) (BL : List Nat) : Prop := w.heap[B]? = some (.cells ((List.range n).map fun (j : Nat) => Value.bool (decide (j ∈ BL))).toArray 4 (0, 0))
theorem BBk.lt {w : World} {B n : Nat} {BL : List Nat} (h : BBk w B n BL) : B < w.heap.size := heap_of_cells h
theorem BBk.cell {w : World} {B n : Nat} {BL : List Nat} (h : BBk w B n BL) {j : Nat} (hj : j < n) : w.cell? ⟨B, j, none⟩ = some (.bool (decide (j ∈ BL))) := by
  rw [cell_of_row w B j _ _ _ h]; simp [hj]
theorem BBk.frozen {w : World} {B n : Nat} {BL : List Nat} (h : BBk w B n BL) (j : Nat) : w.frozen? ⟨B, j, none⟩ = false := frozen_of_row w B j _ _ h
theorem BBk.set {w : World} {B n : Nat} {BL : List Nat} (h : BBk w B n BL) (j : Nat) : BBk (w.setCell ⟨B, j, none⟩ (.bool true)) B n (j :: BL) := by
  unfold BBk
  rw [heap_setCell_same w B j _ _ _ h]
  congr 2
  apply Array.toList_inj.1
  refine List.ext_getElem (by simp) fun q h1 h2 => ?_
  simp
  by_cases e : j = q
  · simp [e]
  · have e2 : ¬ q = j := fun h => e h.symm
    simp [e, e2]
theorem BBk.oth {w : World} {B n : Nat} {BL : List Nat} (h : BBk w B n BL) {p : Addr} (hp : p.block ≠ B) (u : Value) : BBk (w.setCell p u) B n BL := (heap_setCell_other w p B u (by omega)).trans h
theorem BBk.grown {w w' : World} {B n g : Nat} {BL : List Nat} (h : BBk w B n BL) (hg : w.grownBy w' (some g)) (hne : B ≠ g) : BBk w' B n BL := (hg.block B h.lt (by simp; exact hne)).trans h
theorem am_of {rows : List (List Int)} {C : Nat} {wr : World} {pv : Value} {xs : List Value} {n : Nat} (hl : xs.length = n) (hown : wr.ownsRow C 52 2 pv xs.length (xs.flatMap apc)) (hrow : ∀ j (h : j < xs.length), wr.ownsRow C 3 1 xs[j] (gr rows j).length ((gr rows j).map (Value.int .i64)))
    (hapl : ∀ j (h : j < xs.length) q, xs[j].ownBlock = some q → pv.ownBlock ≠ some q) (hap : ∀ i j (hi : i < xs.length) (hj : j < xs.length), i ≠ j → ∀ q, xs[i].ownBlock = some q → xs[j].ownBlock ≠ some q) :
    AM C wr pv n (fun j => (xs[j]?).getD undef) (fun a => !decide (a ∈ ([] : List Nat))) (gr rows) := by
  have e : ∀ j (h : j < n), (xs[j]?).getD undef = xs[j]'(by omega) := fun j h => by rw [List.getElem?_eq_getElem (by omega)]; rfl
  refine ⟨?_, fun j hj => ?_, fun j hj q hq => ?_, fun i j hi hj hne q hqi hqj => ?_⟩
  · rw [hl] at hown
    have e2 : xs.flatMap apc = (List.range n).flatMap fun j => [Value.bool (!decide (j ∈ ([] : List Nat))), if (!decide (j ∈ ([] : List Nat))) = true then (xs[j]?).getD undef else .slice none 0 0] := by
      have e3 : xs = (List.range n).map fun j => (xs[j]?).getD undef := by
        refine List.ext_getElem (by simp [hl]) fun j h1 h2 => ?_
        simp [List.getElem?_eq_getElem h1]
      have e4 : ∀ l : List Nat, (l.map fun j => (xs[j]?).getD undef).flatMap apc = l.flatMap fun j => [Value.bool (!decide (j ∈ ([] : List Nat))), if (!decide (j ∈ ([] : List Nat))) = true then (xs[j]?).getD undef else .slice none 0 0] := fun l => by
        induction l with
        | nil => rfl
        | cons x t ih => rw [List.map_cons, List.flatMap_cons, List.flatMap_cons, ih]; simp [apc]
      calc xs.flatMap apc = ((List.range n).map fun j => (xs[j]?).getD undef).flatMap apc := by rw [← e3]
        _ = _ := e4 _
    rw [e2] at hown
    exact hown
  · rw [e j hj]; exact hrow j (by omega)
  · rw [e j hj] at hq; exact hapl j (by omega) q hq
  · rw [e i hi] at hqi; rw [e j hj] at hqj
    exact hap i j (by omega) (by omega) hne q hqi hqj
theorem maB_yes {k : Nat} {BL : List Nat} (h : k ∈ BL) : maB (k + 1) BL = maB k BL ++ [(k : Int) + 1] := by
  unfold maB
  rw [List.range_succ, List.filter_append, List.map_append]
  simp [h]
theorem maB_no {k : Nat} {BL : List Nat} (h : k ∉ BL) : maB (k + 1) BL = maB k BL := by
  unfold maB
  rw [List.range_succ, List.filter_append, List.map_append]
  simp [h]
theorem maB_bd (n : Nat) (BL : List Nat) : (maB n BL).length ≤ n ∧ ∀ x ∈ maB n BL, 1 ≤ x ∧ x ≤ (n : Int) := by
  unfold maB
  refine ⟨?_, fun x hx => ?_⟩
  · rw [List.length_map]
    exact Nat.le_trans (List.length_filter_le _ _) (by simp)
  · obtain ⟨j, hj, rfl⟩ := List.mem_map.1 hx
    have := List.mem_range.1 (List.mem_filter.1 hj).1
    omega
def Am3 (n : Nat) (BL : List Nat) (wy : World) (v iv : Value) (wz : World) : Prop :=
  ∃ k : Nat, k ≤ n ∧ iv = .int .i64 k ∧ wz.ownsRow wy.heap.size 3 1 v (maB k BL).length ((maB k BL).map (Value.int .i64)) ∧ Below wy.heap.size wy wz
end Go.Proofs.YtbgabipngdillaaGreatDoor
