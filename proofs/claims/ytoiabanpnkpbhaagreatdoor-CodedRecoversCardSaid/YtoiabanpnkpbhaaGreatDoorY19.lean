/- Joined: Srt SoC St Cl Wa Wn. -/
import Derived.Lib.SlicesCompact
import Derived.Sort.OwnSortedInts
import Derived.Test.YtoiabanpnkpbhaaGreatDoorY18
import Derived.Test.YtoiabanpnkpbhaaGreatDoorY06
import Derived.Test.YtoiabanpnkpbhaaGreatDoorY10
namespace Go.Proofs.YtoiabanpnkpbhaaGreatDoor
open Go.Lib

def srt (zs : List Int) : List Int := compact (zs.mergeSort fun x y => decide (x ≤ y))
def inc (l : List Int) : Prop := l.Pairwise (· < ·)
theorem inc_ext : ∀ {a b : List Int}, inc a → inc b → (∀ x, x ∈ a ↔ x ∈ b) → a = b
  | [], b, _, _, h => by
    cases b with
    | nil => rfl
    | cons y b => exact absurd ((h y).2 (by simp)) (by simp)
  | x :: a, [], _, _, h => absurd ((h x).1 (by simp)) (by simp)
  | x :: a, y :: b, ha, hb, h => by
    obtain ⟨ha1, ha2⟩ := List.pairwise_cons.1 ha
    obtain ⟨hb1, hb2⟩ := List.pairwise_cons.1 hb
    have hxy : x = y := by
      have h1 := (h x).1 (by simp)
      have h2 := (h y).2 (by simp)
      simp only [List.mem_cons] at h1 h2
      rcases h1 with h1 | h1
      · exact h1
      · rcases h2 with h2 | h2
        · exact h2.symm
        · have := hb1 x h1; have := ha1 y h2; omega
    subst hxy
    rw [inc_ext (a := a) (b := b) ha2 hb2 fun z => ?_]
    have h3 := h z
    simp only [List.mem_cons] at h3
    constructor
    · intro hz
      have := ha1 z hz
      rcases h3.1 (.inr hz) with h4 | h4
      · omega
      · exact h4
    · intro hz
      have := hb1 z hz
      rcases h3.2 (.inr hz) with h4 | h4
      · omega
      · exact h4
theorem cut_inc (d : Array Int) (hs : ∀ i j, i ≤ j → j < d.size → d[i]! ≤ d[j]!) : ∀ m, m ≤ d.size → inc (compactUpTo d m) ∧ ∀ x, x ∈ compactUpTo d m ↔ ∃ j, j < m ∧ d[j]! = x := by
  intro m
  induction m with
  | zero => intro _; exact ⟨by simp [compactUpTo, inc], by simp [compactUpTo]⟩
  | succ m ih =>
    intro hm
    obtain ⟨h1, h2⟩ := ih (by omega)
    rw [compactUpTo_succ]
    by_cases hk : keeps d m = true
    · rw [if_pos hk]
      refine ⟨?_, fun x => ?_⟩
      · refine List.pairwise_append.2 ⟨h1, by simp, fun a ha b hb => ?_⟩
        simp only [List.mem_singleton] at hb
        subst hb
        obtain ⟨j, hj, rfl⟩ := (h2 a).1 ha
        have hne : d[m]! ≠ d[m - 1]! := by
          simp only [keeps, decide_eq_true_eq] at hk
          rcases hk with hk | hk
          · omega
          · exact hk
        have a1 := hs j (m - 1) (by omega) (by omega)
        have a2 := hs (m - 1) m (by omega) (by omega)
        omega
      · rw [List.mem_append, h2 x, List.mem_singleton]
        constructor
        · rintro (⟨j, hj, e⟩ | e)
          · exact ⟨j, by omega, e⟩
          · exact ⟨m, by omega, e.symm⟩
        · rintro ⟨j, hj, e⟩
          by_cases hjm : j = m
          · subst hjm; exact .inr e.symm
          · exact .inl ⟨j, by omega, e⟩
    · rw [if_neg hk, List.append_nil]
      refine ⟨h1, fun x => ?_⟩
      rw [h2 x]
      have hk' : m ≠ 0 ∧ d[m]! = d[m - 1]! := by
        simp only [keeps, decide_eq_true_eq] at hk
        by_cases h0 : m = 0
        · exact absurd (.inl h0) hk
        · refine ⟨h0, ?_⟩
          by_cases h3 : d[m]! = d[m - 1]!
          · exact h3
          · exact absurd (.inr h3) hk
      constructor
      · rintro ⟨j, hj, e⟩
        exact ⟨j, by omega, e⟩
      · rintro ⟨j, hj, e⟩
        by_cases hjm : j = m
        · subst hjm; exact ⟨j - 1, by omega, by rw [← hk'.2]; exact e⟩
        · exact ⟨j, by omega, e⟩
theorem srt_spec (zs : List Int) : inc (srt zs) ∧ ∀ x, x ∈ srt zs ↔ x ∈ zs := by
  have hp := List.mergeSort_perm zs (fun x y : Int => decide (x ≤ y))
  have hs := List.pairwise_mergeSort (le := fun x y : Int => decide (x ≤ y)) (fun a b c h1 h2 => by simp at *; omega) (fun a b => by simp; omega) zs
  unfold srt compact
  generalize zs.mergeSort (fun x y => decide (x ≤ y)) = l at hp hs
  have hg : ∀ i (h : i < l.length), l.toArray[i]! = l[i] := fun i h => by simp [h]
  obtain ⟨h1, h2⟩ := cut_inc l.toArray (fun i j hij hj => by
    have hj' : j < l.length := by simpa using hj
    rw [hg i (by omega), hg j hj']
    by_cases e : i = j
    · subst e; omega
    · have := List.pairwise_iff_getElem.1 hs i j (by omega) hj' (by omega)
      simpa using this) l.length (by simp)
  refine ⟨h1, fun x => ?_⟩
  rw [h2 x, ← hp.mem_iff, List.mem_iff_getElem]
  constructor
  · rintro ⟨j, hj, e⟩
    rw [hg j hj] at e
    exact ⟨j, hj, e⟩
  · rintro ⟨j, hj, e⟩
    exact ⟨j, hj, by rw [hg j hj]; exact e⟩
theorem srt_inc {l : List Int} (h : inc l) {zs : List Int} (hm : ∀ x, x ∈ zs ↔ x ∈ l) : srt zs = l := inc_ext (srt_spec zs).1 h fun x => ((srt_spec zs).2 x).trans (hm x)
end Go.Proofs.YtoiabanpnkpbhaaGreatDoor

namespace Go.Proofs.YtoiabanpnkpbhaaGreatDoor
open Go.RowKit Go.Sort

theorem sort_own {base : Nat} {e : TypeId} (zs : List Int) (v : Value) (w : World) (hz : zs.length ≤ 1000000) (hown : w.ownsRow base e 1 v zs.length (zs.map (Value.int .i64))) :
    Calls Tryz.prog 86 #[v] w fun en w' => en = .returned (.tuple #[]) ∧ w'.ownsRow base e 1 v zs.length ((zs.mergeSort fun x y => decide (x ≤ y)).map (Value.int .i64)) ∧ w.grownBy w' v.ownBlock := by
  rcases hown.2 with ⟨rfl, hn⟩ | ⟨g, cap, cur, rfl, hb, hg, hnc, hcm, hcs, htake⟩
  · have : zs = [] := List.eq_nil_of_length_eq_zero hn
    subst this
    refine (Tryz.slices_Sort_int_none none 0 w).mono ?_
    rintro en w' ⟨rfl, rfl⟩
    exact ⟨rfl, by simpa using World.ownsRow_nil _ _ _ _, grownBy_refl _ _⟩
  · have hgw : g < w.heap.size := heap_of_cells hg
    refine (Tryz.slices_Sort_int g 0 cap zs w (holds_of_blockI hg (by simpa using htake)) hgw (by omega)).mono ?_
    rintro en w' ⟨rfl, n, os, rfl⟩
    refine ⟨rfl, ?_, grownBy_sortedI _⟩
    exact ownsRow_sortedI (ss := zs) (List.length_mergeSort _) hb hg hnc hcm hcs
theorem compact_own {base : Nat} {e : TypeId} (zs : List Int) (v : Value) (w : World) (hz : zs.length ≤ 1000000) (hr : ∀ x ∈ zs, i64r x) (hown : w.ownsRow base e 1 v zs.length (zs.map (Value.int .i64))) :
    Calls Tryz.prog 87 #[v] w fun en w' => ∃ v', en = .returned v' ∧ SI w' v' (Lib.compact zs) ∧ w.grownBy w' v.ownBlock := by
  rcases hown.2 with ⟨rfl, hn⟩ | ⟨g, cap, cur, rfl, hb, hg, hnc, hcm, hcs, htake⟩
  · have : zs = [] := List.eq_nil_of_length_eq_zero hn
    subst this
    refine (Tryz.slices_Compact_int_empty none 0 w).mono ?_
    rintro en w' ⟨rfl, rfl⟩
    refine ⟨_, rfl, ?_, grownBy_refl _ _⟩
    have : Lib.compact ([] : List Int) = [] := rfl
    rw [this]
    exact ⟨none, 0, rfl, Nat.le_refl _, by omega, by simp, fun h => by simp at h⟩
  · have hgw : g < w.heap.size := heap_of_cells hg
    have hcl : (Lib.compact zs).length ≤ zs.length := by
      show (Lib.compactUpTo zs.toArray zs.length).length ≤ _
      unfold Lib.compactUpTo
      rw [List.length_map]
      exact Nat.le_trans (List.length_filter_le _ _) (by simp)
    have hmem : ∀ x ∈ Lib.compact zs, x ∈ zs := by
      intro x hx
      have hx' : x ∈ Lib.compactUpTo zs.toArray zs.length := hx
      unfold Lib.compactUpTo at hx'
      obtain ⟨j, hj, rfl⟩ := List.mem_map.1 hx'
      have hj2 := List.mem_range.1 (List.mem_filter.1 hj).1
      simp [hj2]
    refine (Tryz.slices_Compact_int g 0 cap zs w (holds_of_blockI hg (by simpa using htake)) (by omega) hnc).mono ?_
    rintro en w' ⟨rfl, q, rfl⟩
    have hw : putRow (Value.int .i64) (Go.Sort.ahead w q) g 0 (Lib.compact zs ++ List.replicate (zs.length - (Lib.compact zs).length) 0).toArray = grow (putRow (Value.int .i64) (Go.Sort.ahead w q) g 0 (Lib.compact zs ++ List.replicate (zs.length - (Lib.compact zs).length) 0).toArray) #[] := (grow_empty _).symm
    have hlen : (Lib.compact zs ++ List.replicate (zs.length - (Lib.compact zs).length) (0 : Int)).length = zs.length := by simp; omega
    have ho := ownsRow_sortedI (n := q) (os := #[]) (ss := zs) (ts := Lib.compact zs ++ List.replicate (zs.length - (Lib.compact zs).length) 0) hlen hb hg hnc hcm hcs
    rw [← hw] at ho
    refine ⟨_, rfl, ⟨_, cap, rfl, by omega, by unfold maxLen at hcm; omega, fun x hx => hr x (hmem x hx), fun h0 => ⟨g, 0, rfl, by simpa using hgw, fun j hj => ?_⟩⟩, ?_⟩
    · have h1 := ho.cellAt j (by omega)
      rw [Nat.zero_add, h1]
      rw [List.map_append, List.getElem?_append_left (by simpa using hj)]
      simp [hj]
    · rw [hw]; exact grownBy_sortedI _
end Go.Proofs.YtoiabanpnkpbhaaGreatDoor

namespace Go.Proofs.YtoiabanpnkpbhaaGreatDoor
open Go.RowKit

/-- append(own, ints...) inside a region that draws its order: which block it lies in -/
theorem step_append_ints_blk {P : Program} (w : World) {ops : Array Oper} {o : Oper} {a : Act} {K : Act → World → Prop} {Q : Exit → Act → World → Prop} {E : Prop} (hgd : o.guard = none) (s x : Operand) (t : TypeId)
    (ho : o.op = .call { callee := .builtin .append, args := #[s, x], argTypes := #[t, t] })
    (base : Nat) (e : TypeId) (ht : P.underlying t = some (.slice e)) (hinfo : (P.info? e).map (fun i => (i.zero, i.size, i.bytes)) = some (some (.int .i64 0), 1, 8))
    (v : Value) (xs : List Int) (hs : a.eval s = v) (hown : w.ownsRow base e 1 v xs.length (xs.map (Value.int .i64)))
    (B : Nat) (src : Value) (l : List Int) (hx : a.eval x = src) (hr : SB B w src l)
    (hbytes : xs.length + l.length ≤ 17592186044416) (hbase : base ≤ w.heap.size)
    (h : ∀ A c w', w'.ownsRow base e 1 (.slice A (xs ++ l).length c) (xs ++ l).length ((xs ++ l).map (Value.int .i64)) → w.grownBy w' v.ownBlock → ((Value.slice A (xs ++ l).length c).ownBlock = v.ownBlock ∨ (Value.slice A (xs ++ l).length c).ownBlock = some w.heap.size) → K (a.put o.dst (.slice A (xs ++ l).length c)) w') :
    if Region.wanted o (yielded ops a.tmps) = true then Oper.wp P o a w K Q else E := by
  obtain ⟨i0, hi0, hz0, hz1, hz2⟩ := info_parts hinfo
  have hw : Region.wanted o (yielded ops a.tmps) = true := by simp [Region.wanted, hgd]
  rw [if_pos hw]
  obtain ⟨v', w', hrun, h2, h3, h4⟩ := run_append_sc_at (P := P) w base t o.type e i0 _ 1 8 ht hi0 hz0 hz1 hz2 rfl (by omega) v _ _ hown B src _ _ hr.sc (one_ints l) (by unfold maxLen; omega) (by omega) hbase
  have h2' : w'.ownsRow base e 1 v' (xs ++ l).length ((xs ++ l).map (Value.int .i64)) := by rw [List.length_append, List.map_append]; exact h2
  obtain ⟨A, c, rfl⟩ := own_sl h2'
  unfold Oper.wp execOp
  simp only [ho, resolve, invoke, builtin, Sem.run_bind, Sem.run_pure, Result.andThen_ok, List.map_toArray, List.map_cons, List.map_nil, hs, hx, hrun]
  exact h A c w' h2' h3 h4

/-- a slice of ints outside the blocks X and Y -/
def SX (W : World) (X Y : Option Nat) (v : Value) (l : List Int) : Prop :=
  ∃ A c, v = .slice A l.length c ∧ l.length ≤ c ∧ c ≤ 9223372036854775807 ∧ (∀ x ∈ l, i64r x) ∧
    (0 < l.length → ∃ b off, A = some ⟨b, off, none⟩ ∧ b < W.heap.size ∧ some b ≠ X ∧ some b ≠ Y ∧ ∀ j (h : j < l.length), W.cell? ⟨b, off + j, none⟩ = some (.int .i64 l[j]))
theorem SX.keep {W W' : World} {X Y X' Y' : Option Nat} {v : Value} {l : List Int} (h : SX W X Y v l) (hs : W.heap.size ≤ W'.heap.size)
    (hb : ∀ b, b < W.heap.size → some b ≠ X → some b ≠ Y → W'.heap[b]? = W.heap[b]? ∧ some b ≠ X' ∧ some b ≠ Y') : SX W' X' Y' v l := by
  obtain ⟨A, c, rfl, hc, hm, hr, ha⟩ := h
  refine ⟨A, c, rfl, hc, hm, hr, fun h0 => ?_⟩
  obtain ⟨b, off, rfl, hbl, hx, hy, hcell⟩ := ha h0
  obtain ⟨e, hx', hy'⟩ := hb b hbl hx hy
  exact ⟨b, off, rfl, by omega, hx', hy', fun j hj => (World.cell?_of_block e).trans (hcell j hj)⟩
theorem SX.si {W : World} {X Y : Option Nat} {v : Value} {l : List Int} (h : SX W X Y v l) : SI W v l := by
  obtain ⟨A, c, rfl, hc, hm, hr, ha⟩ := h
  refine ⟨A, c, rfl, hc, hm, hr, fun h0 => ?_⟩
  obtain ⟨b, off, rfl, hbl, _, _, hcell⟩ := ha h0
  exact ⟨b, off, rfl, hbl, hcell⟩
theorem SX.of_own {W : World} {X Y : Option Nat} {base : Nat} {e : TypeId} {v : Value} {l : List Int} (h : W.ownsRow base e 1 v l.length (l.map (Value.int .i64))) (hr : ∀ x ∈ l, i64r x) (hX : ∀ k, X = some k → k < base) (hY : ∀ k, Y = some k → k < base) : SX W X Y v l := by
  rcases h.2 with ⟨rfl, hn⟩ | ⟨b, cap, cur, rfl, hb, hgg, hnc, hcm, hcs, htake⟩
  · have : l = [] := List.eq_nil_of_length_eq_zero hn
    subst this
    exact ⟨none, 0, rfl, Nat.le_refl _, by omega, hr, fun h => by simp at h⟩
  · refine ⟨_, cap, rfl, hnc, by simpa [maxLen] using hcm, hr, fun h0 => ⟨b, 0, rfl, (Array.getElem?_eq_some_iff.1 hgg).1, fun e => by have := hX b e.symm; omega, fun e => by have := hY b e.symm; omega, fun j hj => ?_⟩⟩
    have := h.cellAt j (by omega)
    rw [Nat.zero_add, this]
    simp [hj]
structure St (G : Nat) (w0 W : World) (pv wv : Value) (vs : List Value) (ps : List (List Int)) (ws : List Int) : Prop where
  len : vs.length = ps.length
  hdr : W.ownsRow G 22 1 pv vs.length vs
  row : ∀ j (h : j < vs.length) (h' : j < ps.length), SX W pv.ownBlock wv.ownBlock vs[j] ps[j]
  own : W.ownsRow G 3 1 wv ws.length (ws.map (Value.int .i64))
  apart : ∀ b, pv.ownBlock = some b → wv.ownBlock ≠ some b
  bel : Below G w0 W
theorem St.nil (w0 : World) (G : Nat) : St G w0 w0 (.slice none 0 0) (.slice none 0 0) [] [] [] :=
  ⟨rfl, World.ownsRow_nil _ _ _ _, fun j h => by simp at h, World.ownsRow_nil _ _ _ _, fun b h => by simp [Value.ownBlock] at h, Below.refl _ _⟩
theorem own_blk {w w' : World} {base e size n : Nat} {v : Value} {xs : List Value} (h : w.ownsRow base e size v n xs) (hk : ∀ b, v.ownBlock = some b → w'.heap[b]? = w.heap[b]?) : w'.ownsRow base e size v n xs := by
  refine ⟨h.1, ?_⟩
  rcases h.2 with hn | ⟨b, cap, cur, rfl, hb, hg, rest⟩
  · exact .inl hn
  · exact .inr ⟨b, cap, cur, rfl, hb, (hk b rfl).trans hg, rest⟩
theorem St.below {G : Nat} {w0 W W' : World} {pv wv : Value} {vs : List Value} {ps : List (List Int)} {ws : List Int} (h : St G w0 W pv wv vs ps ws) (hb : Below W.heap.size W W') (hG : G ≤ W.heap.size) : St G w0 W' pv wv vs ps ws :=
  ⟨h.len, own_bel h.hdr hb, fun j h1 h2 => (h.row j h1 h2).keep hb.size fun b hbl hx hy => ⟨hb.block b hbl, hx, hy⟩, own_bel h.own hb, h.apart, h.bel.trans (hb.mono hG)⟩
/-- one header more -/
theorem St.appP {G : Nat} {w0 W W' : World} {pv wv pv' : Value} {vs : List Value} {ps : List (List Int)} {ws : List Int} {v : Value} {l : List Int} (h : St G w0 W pv wv vs ps ws) (hG : G ≤ W.heap.size)
    (hx : SX W pv.ownBlock wv.ownBlock v l) (ho : W'.ownsRow G 22 1 pv' (vs.length + 1) (vs ++ [v])) (hg : W.grownBy W' pv.ownBlock) (hat : ∀ g, pv'.ownBlock = some g → pv.ownBlock = some g ∨ g = W.heap.size) : St G w0 W' pv' wv (vs ++ [v]) (ps ++ [l]) ws := by
  have hp : ∀ b, pv.ownBlock = some b → G ≤ b := fun b hb => (h.hdr.lt b hb).1
  have hw : ∀ b, wv.ownBlock = some b → b < W.heap.size := fun b hb => (h.own.lt b hb).2
  have hk : ∀ b, b < W.heap.size → some b ≠ pv.ownBlock → some b ≠ wv.ownBlock → W'.heap[b]? = W.heap[b]? ∧ some b ≠ pv'.ownBlock ∧ some b ≠ wv.ownBlock := fun b hb h1 h2 =>
    ⟨hg.block b hb h1, fun e => by rcases hat b e.symm with h3 | h3; exact h1 h3.symm; omega, h2⟩
  refine ⟨by simp [h.len], by simpa using ho, fun j h1 h2 => ?_, own_blk h.own fun b hb => hg.block b (hw b hb) fun e => h.apart b e.symm hb, fun b hb => ?_, ⟨hg.os.trans h.bel.os, hg.tape.trans h.bel.tape, hg.output.trans h.bel.output, Nat.le_trans h.bel.size hg.size, fun i hi => (hg.block i (by omega) fun e => by have := hp i e.symm; omega).trans (h.bel.block i hi)⟩⟩
  · by_cases hj : j < vs.length
    · have hj' : j < ps.length := by rw [← h.len]; exact hj
      rw [List.getElem_append_left hj, List.getElem_append_left hj']
      exact (h.row j hj hj').keep hg.size hk
    · have e1 : j = vs.length := by simp at h1; omega
      subst e1
      have e2 : (vs ++ [v])[vs.length]'h1 = v := by simp
      have e3 : (ps ++ [l])[vs.length]'h2 = l := by simp [h.len]
      rw [e2, e3]
      exact hx.keep hg.size hk
  · rcases hat b hb with h3 | h3
    · exact h.apart b h3
    · intro e; have := hw b e; omega
/-- ints more -/
theorem St.appW {G : Nat} {w0 W W' : World} {pv wv wv' : Value} {vs : List Value} {ps : List (List Int)} {ws ws' : List Int} (h : St G w0 W pv wv vs ps ws) (hG : G ≤ W.heap.size)
    (ho : W'.ownsRow G 3 1 wv' ws'.length (ws'.map (Value.int .i64))) (hg : W.grownBy W' wv.ownBlock) (hat : wv'.ownBlock = wv.ownBlock ∨ wv'.ownBlock = some W.heap.size) : St G w0 W' pv wv' vs ps ws' := by
  have hw : ∀ b, wv.ownBlock = some b → G ≤ b := fun b hb => (h.own.lt b hb).1
  have hp : ∀ b, pv.ownBlock = some b → b < W.heap.size := fun b hb => (h.hdr.lt b hb).2
  refine ⟨h.len, own_blk h.hdr fun b hb => hg.block b (hp b hb) fun e => h.apart b hb e.symm, fun j h1 h2 => (h.row j h1 h2).keep hg.size fun b hb h3 h4 => ⟨hg.block b hb h4, h3, fun e => ?_⟩, ho, fun b hb e => ?_, ⟨hg.os.trans h.bel.os, hg.tape.trans h.bel.tape, hg.output.trans h.bel.output, Nat.le_trans h.bel.size hg.size, fun i hi => (hg.block i (by omega) fun e => by have := hw i e.symm; omega).trans (h.bel.block i hi)⟩⟩
  · rcases hat with h5 | h5
    · exact h4 (by rw [← h5]; exact e)
    · rw [h5] at e; injection e with e; omega
  · rcases hat with h5 | h5
    · exact h.apart b hb (by rw [← h5]; exact e)
    · rw [h5] at e; injection e with e; have := hp b hb; omega
/-- the headers read, whatever is written into the ints' block -/
theorem St.sl {G : Nat} {w0 W W' : World} {pv wv : Value} {vs : List Value} {ps : List (List Int)} {ws : List Int} (h : St G w0 W pv wv vs ps ws) (hg : W.grownBy W' wv.ownBlock) : SL W' pv ps := by
  have hp : ∀ b, pv.ownBlock = some b → b < W.heap.size := fun b hb => (h.hdr.lt b hb).2
  have ho := own_blk (w' := W') h.hdr fun b hb => hg.block b (hp b hb) fun e => h.apart b hb e.symm
  have hl := h.len
  rcases ho.2 with ⟨e, hn⟩ | ⟨b, cap, cur, e, hb, hgg, hnc, hcm, hcs, htake⟩
  · have : ps = [] := List.eq_nil_of_length_eq_zero (by omega)
    subst this
    rw [e]
    exact ⟨none, 0, rfl, Nat.le_refl _, by omega, fun h => by simp at h⟩
  · rw [e, hl]
    refine ⟨_, cap, rfl, by omega, by simpa [maxLen] using hcm, fun h0 => ⟨b, 0, rfl, (Array.getElem?_eq_some_iff.1 hgg).1, fun j hj => ?_⟩⟩
    have hj' : j < vs.length := by omega
    have hs : SI W' vs[j] ps[j] := ((h.row j hj' hj).keep (X' := none) (Y' := none) hg.size fun b hb h3 h4 => ⟨hg.block b hb h4, by simp, by simp⟩).si
    obtain ⟨B, d, hv⟩ := hs.form
    refine ⟨B, d, ?_, by rw [← hv]; exact hs⟩
    rw [e] at ho
    have := ho.cellAt j (by omega)
    rw [Nat.zero_add, this, ← hv]
    simp [hj']
/-- all servers that a decoding of the columns from i on names as wrong -/
def wrA (P : Int) (l : List (Bool × List Int)) : Nat → List (List Int) → List Int
  | _, [] => []
  | i, p :: ps => wrg P (colC l i) p ++ wrA P l (i + 1) ps
theorem wrA_snoc (P : Int) (l : List (Bool × List Int)) (p : List Int) : ∀ (ps : List (List Int)) (i : Nat), wrA P l i (ps ++ [p]) = wrA P l i ps ++ wrg P (colC l (i + ps.length)) p
  | [], i => by simp [wrA]
  | q :: ps, i => by
    show wrg P (colC l i) q ++ wrA P l (i + 1) (ps ++ [p]) = wrg P (colC l i) q ++ wrA P l (i + 1) ps ++ _
    rw [wrA_snoc P l p ps (i + 1), ← List.append_assoc]
    have e : i + 1 + ps.length = i + (q :: ps).length := by simp; omega
    rw [e]
theorem wrA_len (P : Int) (l : List (Bool × List Int)) : ∀ (ps : List (List Int)) (i : Nat), (wrA P l i ps).length ≤ ps.length * l.length
  | [], i => by simp [wrA]
  | p :: ps, i => by
    have h1 := wrg_len P (colC l i) p
    rw [colC_length] at h1
    have h2 := wrA_len P l ps (i + 1)
    show (wrg P (colC l i) p ++ wrA P l (i + 1) ps).length ≤ (ps.length + 1) * l.length
    rw [List.length_append, Nat.add_mul]
    omega
theorem wrA_mem (P : Int) (l : List (Bool × List Int)) (x : Int) : ∀ (ps : List (List Int)) (i : Nat), x ∈ wrA P l i ps ↔ ∃ j, ∃ h : j < ps.length, x ∈ wrg P (colC l (i + j)) ps[j]
  | [], i => by simp [wrA]
  | p :: ps, i => by
    show x ∈ wrg P (colC l i) p ++ wrA P l (i + 1) ps ↔ _
    rw [List.mem_append, wrA_mem P l x ps (i + 1)]
    constructor
    · rintro (h | ⟨j, hj, h⟩)
      · exact ⟨0, by simp, by simpa using h⟩
      · exact ⟨j + 1, by simpa using hj, by have e : i + (j + 1) = i + 1 + j := by omega
                                            rw [e]; simpa using h⟩
    · rintro ⟨j, hj, h⟩
      cases j with
      | zero => exact .inl (by simpa using h)
      | succ j => exact .inr ⟨j, by simpa using hj, by have e : i + (j + 1) = i + 1 + j := by omega
                                                       rw [e] at h; simpa using h⟩
/-- what All returns -/
def AlR (P k : Int) (l : List (Bool × List Int)) (n : Nat) (ps : List (List Int)) (ws : List Int) : Prop := ps.length = n ∧ (∀ i (h : i < ps.length), UnR P (colC l i) k ps[i] 0) ∧ ws = srt (wrA P l 0 ps)
def AlN (P k : Int) (l : List (Bool × List Int)) (n : Nat) : Prop := ∃ i, i < n ∧ ∃ o er, UnR P (colC l i) k o er ∧ er ≠ 0
end Go.Proofs.YtoiabanpnkpbhaaGreatDoor

namespace Go.Proofs.YtoiabanpnkpbhaaGreatDoor
open Go.RowKit

theorem wrg_bd (P : Int) (l : List (Int × Bool)) (p : List Int) : ∀ x ∈ wrg P l p, 1 ≤ x ∧ x ≤ (l.length : Int) := by
  intro x hx
  unfold wrg wrk at hx
  obtain ⟨t, ht, rfl⟩ := List.mem_map.1 hx
  have := knF_at l 0 t (List.mem_filter.1 ht).1
  simp at this
  omega
theorem wrA_bd (P : Int) (l : List (Bool × List Int)) (ps : List (List Int)) : ∀ x ∈ wrA P l 0 ps, 1 ≤ x ∧ x ≤ (l.length : Int) := by
  intro x hx
  obtain ⟨j, hj, h⟩ := (wrA_mem P l x ps 0).1 hx
  have := wrg_bd _ _ _ x h
  rwa [colC_length] at this
theorem udP_els {P k : Int} {l : List (Int × Bool)} {out : List Int} {er : Int} (h : UnR P l k out er) : ∀ x ∈ out, i64r x := by
  rcases h with ⟨_, _, rfl⟩ | ⟨h0, ⟨_, hg⟩ | ⟨_, rfl, _⟩⟩
  · simp
  · exact els_r (prB_bd (fi_zero h0).1).2 hg.els
  · simp
def ClR (P k : Int) (l : List (Bool × List Int)) (n G : Nat) (w0 : World) (p q iv : Value) (wr : World) : Prop :=
  ∃ (pv wv : Value) (i : Nat) (vs : List Value) (ps : List (List Int)), pv = p ∧ wv = q ∧ i ≤ n ∧ iv = .int .i64 i ∧ ps.length = i ∧ (∀ j (h : j < ps.length), UnR P (colC l j) k ps[j] 0) ∧ St G w0 wr pv wv vs ps (wrA P l 0 ps)
def AlP (P k : Int) (l : List (Bool × List Int)) (n : Nat) (w : World) (e : Ending) (w' : World) : Prop :=
  ∃ pv wv er, e = .returned (.tuple #[pv, wv, .int .i64 er]) ∧ Below w.heap.size w w' ∧
    ((er = 0 ∧ ∃ ps ws, AlR P k l n ps ws ∧ SL w' pv ps ∧ w'.ownsRow w.heap.size 3 1 wv ws.length (ws.map (Value.int .i64))) ∨ (er = 12 ∧ pv = .slice none 0 0 ∧ wv = .slice none 0 0 ∧ AlN P k l n))
set_option maxRecDepth 100000 in
set_option maxHeartbeats 8000000 in
theorem call_any (P k : Int) (l : List (Bool × List Int)) (n : Nat) (v : Value) (w : World) (hPi : i64r P) (h : SAn w v l) (hz : l.length ≤ 400) (hn : n ≤ 2000) (hw : ∀ a ∈ l, a.1 = true → n ≤ a.2.length) (hE : EW w) :
    Calls Tryz.prog 65 #[.agg #[.int .i64 P, .int .i64 k, v], .int .i64 n, .func (.func 66) #[] #[]] w (AlP P k l n w) := by
  have HS := Lib.hid h
  have HE := Lib.hid hE
  have HW := Lib.hid hw
  obtain ⟨A, c, rfl⟩ := h.form
  clear h hE hw
  go_enter Tryz.func65, Tryz.ntmps65
  obtain ⟨F, eF⟩ : ∃ F, F = w.heap.size := ⟨_, rfl⟩
  obtain ⟨w0, ew⟩ : ∃ w0 : World, w0 = w.alloc (.cells #[.int .i64 P, .int .i64 k, .slice A l.length c] 105) := ⟨_, rfl⟩
  have HW0 : Hid (w.alloc (.cells #[.int .i64 P, .int .i64 k, .slice A l.length c] 105) = w0) := ew.symm
  have HB0 : Hid (Below w.heap.size w w0) := (show Hid _ from by rw [ew]; exact (Below.refl _ w).alloc (Nat.le_refl _) _)
  have HF0 : Hid (w0.heap[F]? = some (.cells #[.int .i64 P, .int .i64 k, .slice A l.length c] 105 (0, 0))) := (show Hid _ from by show _ = _; rw [ew, eF]; exact heap_alloc_new w _)
  have HZ0 : Hid (w0.heap.size = F + 1) := (show Hid _ from by show _ = _; rw [ew, eF]; simp)
  have HEF := Lib.hid eF
  obtain ⟨G, eG⟩ : ∃ G, G = w0.heap.size := ⟨_, rfl⟩
  have hGF : F < G := by rw [eG, HZ0.out]; omega
  have HGw : Hid (w.heap.size ≤ G) := (show Hid _ from by rw [eG]; exact HB0.out.size)
  have HGe := Lib.hid eG
  go_upto_region 4 with fail
  rw [HW0.out, ← eF]
  clear ew eF eG
  go_loopw [9, 10, 15] (fun pv wv iv wr => ClR P k l n G w0 pv wv iv wr) (fun _ _ iv _ => n - (intOf iv).toNat)
  case atStart => exact ⟨_, _, 0, [], [], rfl, rfl, Nat.zero_le _, rfl, rfl, fun j h => by simp at h, St.nil w0 G⟩
  case round =>
    obtain ⟨pv, wv, i, vs, ps, rfl, rfl, hi, rfl, hpl, hun, hst⟩ := hrel
    have HST := Lib.hid hst
    have HUN := Lib.hid hun
    have HPL := Lib.hid hpl
    have HBr : Hid (Below G w0 wr) := hst.bel
    have hGr : G ≤ wr.heap.size := by have := HBr.out.size; have := HGe.out; omega
    have HBw : Hid (Below w.heap.size w wr) := (show Hid _ from HB0.out.trans (HBr.out.mono HGw.out))
    clear hst hun hpl
    have HFr : Hid (wr.heap[F]? = some (.cells #[.int .i64 P, .int .i64 k, .slice A l.length c] 105 (0, 0))) := (show Hid _ from (HBr.out.block F hGF).trans HF0.out)
    by_cases hlt : i < n
    · have hd : decide (i < n) = true := decide_eq_true hlt
      have a0 : wr.cell? ⟨F, 0, none⟩ = some (.int .i64 P) := cell_of_row wr F 0 _ _ _ HFr.out
      have a1 : wr.cell? ⟨F, 1, none⟩ = some (.int .i64 k) := cell_of_row wr F 1 _ _ _ HFr.out
      have a2 : wr.cell? ⟨F, 2, none⟩ = some (.slice A l.length c) := cell_of_row wr F 2 _ _ _ HFr.out
      have HCD := Lib.hid (cdec_any P k l i (.slice A l.length c) wr hPi (HS.out.below HBw.out) (by omega) (by omega) (fun a ha hk => by have := HW.out a ha hk; omega) (HE.out.below HBw.out))
      go_wp2_with fail
      (with_reducible refine HCD.out.mono ?_)
      rintro e w1 ⟨out, er, v1, v2, rfl, hb1, hur, ho1, ho2⟩
      have HUR := Lib.hid hur
      have HB1 := Lib.hid hb1
      have HO1 := Lib.hid ho1
      have HO2 := Lib.hid ho2
      have hsz1 : wr.heap.size ≤ w1.heap.size := hb1.size
      clear hb1 hur ho1 ho2 a0 a1 a2 HCD
      by_cases h0 : er = 0
      · subst h0
        obtain ⟨Q, eQ⟩ : ∃ Q, Q = w1.heap.size := ⟨_, rfl⟩
        obtain ⟨wq, ewq⟩ : ∃ wq : World, wq = w1.alloc (.cells #[v1, v2] 135) := ⟨_, rfl⟩
        have HWQ : Hid (w1.alloc (.cells #[v1, v2] 135) = wq) := ewq.symm
        have HQ : Hid (wq.heap[Q]? = some (.cells #[v1, v2] 135 (0, 0))) := (show Hid _ from by show _ = _; rw [ewq, eQ]; exact heap_alloc_new w1 _)
        have HBq : Hid (Below wr.heap.size wr wq) := (show Hid _ from by rw [ewq]; exact HB1.out.alloc hsz1 _)
        have HB1q : Hid (Below w1.heap.size w1 wq) := (show Hid _ from by rw [ewq]; exact (Below.refl _ w1).alloc (Nat.le_refl _) _)
        have hGq : G ≤ wq.heap.size := by have := HBq.out.size; omega
        have HSTq : Hid (St G w0 wq pv wv vs ps (wrA P l 0 ps)) := (show Hid _ from HST.out.below HBq.out hGr)
        have hpb : ∀ b, pv.ownBlock = some b → b < wr.heap.size := fun b hb => (HST.out.hdr.lt b hb).2
        have hwb : ∀ b, wv.ownBlock = some b → b < wr.heap.size := fun b hb => (HST.out.own.lt b hb).2
        have HSX : Hid (SX wq pv.ownBlock wv.ownBlock v1 out) := (show Hid _ from SX.of_own (own_bel HO1.out HB1q.out) (udP_els HUR.out) hpb hwb)
        obtain ⟨WR, eWR⟩ : ∃ WR, WR = wrg P (colC l i) out := ⟨_, rfl⟩
        have HWR := Lib.hid eWR
        have hWb : ∀ x ∈ WR, i64r x := fun x hx => by rw [eWR] at hx; have := wrg_bd _ _ _ x hx; rw [colC_length] at this; unfold i64r; omega
        have hWl : WR.length ≤ 400 := by rw [eWR]; have := wrg_len P (colC l i) out; rw [colC_length] at this; omega
        have hO2q : wq.ownsRow wr.heap.size 3 1 v2 WR.length (WR.map (Value.int .i64)) := by
          have := own_bel HO2.out HB1q.out
          rw [if_pos rfl, ← eWR] at this
          exact this
        have HSXW : Hid (SX wq pv.ownBlock wv.ownBlock v2 WR) := (show Hid _ from SX.of_own hO2q hWb hpb hwb)
        obtain ⟨A1, c1, ev1⟩ := HSX.out.si.form
        obtain ⟨A2, c2, ev2⟩ := HSXW.out.si.form
        subst ev1 ev2
        obtain ⟨no, eno⟩ : ∃ no, no = out.length := ⟨_, rfl⟩
        obtain ⟨nw, enw⟩ : ∃ nw, nw = WR.length := ⟨_, rfl⟩
        have HNO := Lib.hid eno
        have HNW := Lib.hid enw
        rw [← eno, ← enw] at HQ HWQ
        rw [← eno] at HSX
        rw [← enw] at HSXW
        rw [← eno, ← enw]
        obtain ⟨WS, eWS⟩ : ∃ WS, WS = wrA P l 0 ps := ⟨_, rfl⟩
        rw [← eWS] at HSTq
        have HWS := Lib.hid eWS
        have hWSl : WS.length ≤ 800000 := by
          rw [eWS]
          have h1 := wrA_len P l ps 0
          have h2 : ps.length * l.length ≤ 2000 * 400 := Nat.mul_le_mul (by have := HPL.out; omega) hz
          omega
        have hvs : vs.length ≤ 2000 := by have h1 := HST.out.len; have := HPL.out; omega
        obtain ⟨nv, env⟩ : ∃ nv, nv = vs.length := ⟨_, rfl⟩
        have HNV := Lib.hid env
        clear hO2q ewq eWR eno enw eWS env hpb hwb
        have d0 : ((0 : Int) != 0) = false := rfl
        go_upto_region 9 with fail
        rw [HWQ.out, ← eQ]
        have HQQ := Lib.hid eQ
        clear eQ
        have y0 : wq.cell? ⟨Q, 0, none⟩ = some (.slice A1 no c1) := cell_of_row wq Q 0 _ _ _ HQ.out
        have y1 : wq.cell? ⟨Q, 1, none⟩ = some (.slice A2 nw c2) := cell_of_row wq Q 1 _ _ _ HQ.out
        have hQq : Q < wq.heap.size := heap_of_cells HQ.out
        have hQr : wr.heap.size ≤ Q := by have := HQQ.out; omega
        have HPV : Hid (wq.ownsRow G 22 1 pv nv vs) := (show Hid _ from by rw [HNV.out]; exact HSTq.out.hdr)
        have HAR : Hid (∀ (g9 cap9 : Nat) (w9 : World), (wq.alloc (.cells #[.slice A1 no c1] 22)).grownBy w9 pv.ownBlock → w9.ownsRow G 22 1 (.slice (some ⟨g9, 0, none⟩) (nv + 1) cap9) (nv + 1) (vs ++ [.slice A1 no c1]) → (pv.ownBlock = some g9 ∨ g9 = (wq.alloc (.cells #[.slice A1 no c1] 22)).heap.size) →
            Hid (St G w0 w9 (.slice (some ⟨g9, 0, none⟩) (nv + 1) cap9) wv (vs ++ [.slice A1 no c1]) (ps ++ [out]) WS) ∧ Hid (SB w9.heap.size w9 (.slice A2 nw c2) WR) ∧ w9.cell? ⟨Q, 1, none⟩ = some (.slice A2 nw c2) ∧ G ≤ w9.heap.size) := (show Hid _ from fun g9 cap9 w9 hg ho ha => by
          have hal : Below wq.heap.size wq (wq.alloc (.cells #[.slice A1 no c1] 22)) := (Below.refl _ wq).alloc (Nat.le_refl _) _
          have hS := HSTq.out.below hal hGq
          have hX := HSX.out.keep (X' := pv.ownBlock) (Y' := wv.ownBlock) hal.size (fun b hb h1 h2 => ⟨hal.block b hb, h1, h2⟩)
          have hY := HSXW.out.keep (X' := pv.ownBlock) (Y' := wv.ownBlock) hal.size (fun b hb h1 h2 => ⟨hal.block b hb, h1, h2⟩)
          have hsz : (wq.alloc (.cells #[.slice A1 no c1] 22)).heap.size = wq.heap.size + 1 := by simp
          have hG9 : G ≤ (wq.alloc (.cells #[.slice A1 no c1] 22)).heap.size := by omega
          refine ⟨hS.appP hG9 hX (by rw [HNV.out] at ho; rw [HNV.out]; exact ho) hg (fun g hb => by injection hb with e; subst e; exact ha), ?_, ?_, by have := hg.size; omega⟩
          · exact (hY.keep (X' := none) (Y' := none) hg.size (fun b hb h1 h2 => ⟨hg.block b hb h1, by simp, by simp⟩)).si
          · have hQ : w9.heap[Q]? = some (.cells #[.slice A1 no c1, .slice A2 nw c2] 135 (0, 0)) := (hg.block Q (by omega) (fun e => by have := (HST.out.hdr.lt Q e.symm).2; omega)).trans ((hal.block Q hQq).trans HQ.out)
            exact cell_of_row w9 Q 1 _ _ _ hQ)
        have HEND : Hid (∀ (pv' wv' : Value) (w9 w10 : World), St G w0 w9 pv' wv (vs ++ [.slice A1 no c1]) (ps ++ [out]) WS → G ≤ w9.heap.size → w10.ownsRow G 3 1 wv' (WS ++ WR).length ((WS ++ WR).map (Value.int .i64)) → w9.grownBy w10 wv.ownBlock → (wv'.ownBlock = wv.ownBlock ∨ wv'.ownBlock = some w9.heap.size) → ClR P k l n G w0 pv' wv' (.int .i64 ((i : Int) + 1)) w10) := (show Hid _ from fun pv' wv' w9 w10 hs hG ho hg ha => by
          have e1 : wrA P l 0 (ps ++ [out]) = WS ++ WR := by rw [wrA_snoc, ← HWS.out, HWR.out, Nat.zero_add, HPL.out]
          refine ⟨pv', wv', i + 1, vs ++ [.slice A1 no c1], ps ++ [out], rfl, rfl, by omega, by simp, by simp [HPL.out], fun j hj => ?_, ?_⟩
          · by_cases hji : j < ps.length
            · rw [List.getElem_append_left hji]; exact HUN.out j hji
            · have ej : j = ps.length := by simp at hj; omega
              subst ej
              have e2 : (ps ++ [out])[ps.length]'hj = out := by simp
              rw [e2, HPL.out]; exact HUR.out
          · rw [e1]; exact hs.appW hG ho hg ha)
        clear hd d0 hGF hGr hsz1
        go_region_law (first
          | (refine step_append_one_at _ (by rfl) (.tmp 27) _ 33 (by rfl) G 22 (.slice none 0 0) 24 Tryz.underlying33 ilinfo pv nv vs (by rfl) (by first | exact HPV.out.alloc (.cells #[.slice A1 no c1] 22) | exact (HPV.out.alloc (.cells #[.slice A1 no c1] 22)).drew) (.slice A1 no c1) (by rfl) wq.heap.size (by rfl) (by exact cells_new wq [.slice A1 no c1] 22 0 _ rfl) (by have := HNV.out; omega) (by have := HNV.out; omega) (by rfl) (by simp; omega) ?_; intro g9 cap9 w9 hown9 hg9 hat9; have HG9 : Hid ((wq.alloc (.cells #[.slice A1 no c1] 22)).grownBy w9 pv.ownBlock) := (show Hid _ from ⟨hg9.os, hg9.tape, hg9.output, hg9.size, hg9.block⟩); obtain ⟨HST9, HSW9, y1, hG9⟩ := HAR.out g9 cap9 w9 HG9.out hown9 hat9; clear hg9 hown9 hat9)
          | (refine step_append_ints_blk _ (by rfl) (.tmp 32) _ 22 (by rfl) G 3 Tryz.underlying22 iinfo wv WS (by rfl) (by first | exact HST9.out.own | exact HST9.out.own.drew) w9.heap.size _ WR (by rfl) (by exact HSW9.out) (by omega) (by exact hG9) ?_; intro A10 c10 w10 hown10 hg10 hat10; have HG10 : Hid (w9.grownBy w10 wv.ownBlock) := (show Hid _ from ⟨hg10.os, hg10.tape, hg10.output, hg10.size, hg10.block⟩); have HO10 := Lib.hid hown10; have HA10 := Lib.hid hat10; clear hg10 hown10 hat10))
        all_goals
          go_wp2_with fail
          go_roundw
          case rel =>
            have h := HEND.out _ _ _ _ HST9.out hG9 HO10.out HG10.out HA10.out
            rw [List.length_append] at h
            exact h
          case measure => simp [intOf]; omega
      · have d0 : (er != 0) = true := by rw [bne_iff_ne]; exact h0
        have HN : Hid (AlN P k l n) := ⟨i, hlt, out, er, HUR.out, h0⟩
        obtain ⟨A1, c1, ev1⟩ := own_sl' HO1.out
        obtain ⟨A2, c2, ev2⟩ := own_sl' HO2.out
        subst ev1 ev2
        generalize out.length = n1
        generalize (if er = 0 then wrg P (colC l i) out else []).length = n2
        clear h0
        go_wp2_with fail
        go_ret3
        refine ⟨_, _, 12, rfl, ?_, .inr ⟨rfl, rfl, rfl, HN.out⟩⟩
        exact (HBw.out.trans (HB1.out.mono HBw.out.size)).alloc (by have := HBw.out.size; omega) _
    · have hd : decide (i < n) = false := decide_eq_false hlt
      have hin : i = n := by omega
      have HPS : Hid (∀ i (h : i < ps.length), UnR P (colC l i) k ps[i] 0) := HUN.out
      obtain ⟨WS, eWS⟩ : ∃ WS, WS = wrA P l 0 ps := ⟨_, rfl⟩
      have hWSl : WS.length ≤ 800000 := by
        rw [eWS]
        have h1 := wrA_len P l ps 0
        have h2 : ps.length * l.length ≤ 2000 * 400 := Nat.mul_le_mul (by have := HPL.out; omega) hz
        omega
      have hWb : ∀ x ∈ WS, i64r x := fun x hx => by rw [eWS] at hx; have := wrA_bd P l ps x hx; unfold i64r; omega
      have HWB := Lib.hid hWb
      rw [← eWS] at HST
      have HWS := Lib.hid eWS
      clear hWb eWS
      go_wp2_with fail
      (with_reducible refine (sort_own WS wv wr (by omega) HST.out.own).mono ?_)
      rintro e w1 ⟨rfl, ho1, hg1⟩
      obtain ⟨WT, eWT⟩ : ∃ WT, WT = WS.mergeSort fun x y => decide (x ≤ y) := ⟨_, rfl⟩
      have hWTl : WT.length = WS.length := by rw [eWT]; exact List.length_mergeSort _
      have hWTm : ∀ x ∈ WT, i64r x := fun x hx => HWB.out x ((List.mergeSort_perm WS _).mem_iff.1 (by rw [eWT] at hx; exact hx))
      have hST1 : St G w0 w1 pv wv vs ps WT := HST.out.appW (by exact hGr) (by rw [hWTl]; rw [← eWT] at ho1; exact ho1) hg1 (.inl rfl)
      have HST1 := Lib.hid hST1
      have HWT := Lib.hid eWT
      have HWTM := Lib.hid hWTm
      have hG1 : G ≤ w1.heap.size := by have := hg1.size; omega
      have HG1 := Lib.hid hg1
      clear ho1 hg1 eWT hWTm hST1
      go_wp2_with fail
      (with_reducible refine (compact_own WT wv w1 (by omega) HWTM.out HST1.out.own).mono ?_)
      rintro e w2 ⟨vc, rfl, hs2, hg2⟩
      have HSL2 := Lib.hid (HST1.out.sl hg2)
      have hB2 : Below G w0 w2 := by
        have h := HST1.out.bel
        have hw : ∀ b, wv.ownBlock = some b → G ≤ b := fun b hb => (HST1.out.own.lt b hb).1
        exact ⟨hg2.os.trans h.os, hg2.tape.trans h.tape, hg2.output.trans h.output, Nat.le_trans h.size hg2.size, fun i hi => (hg2.block i (by omega) fun e => by have := hw i e.symm; omega).trans (h.block i hi)⟩
      have HB2 := Lib.hid hB2
      have HS2 := Lib.hid hs2
      have hcl : (Lib.compact WT).length ≤ WT.length := by
        show (Lib.compactUpTo WT.toArray WT.length).length ≤ _
        unfold Lib.compactUpTo
        rw [List.length_map]
        exact Nat.le_trans (List.length_filter_le _ _) (by simp)
      clear hg2 hB2 hs2
      go_wp2_with fail
      (with_reducible refine (clone_any (Lib.compact WT) vc w2 HS2.out (by omega)).mono ?_)
      rintro e w3 ⟨v3, rfl, ho3, hb3⟩
      have HO3 := Lib.hid ho3
      have HB3 := Lib.hid hb3
      clear ho3 hb3
      go_wp2_with fail
      go_ret3
      have hB2w : Below w.heap.size w w2 := HB0.out.trans (HB2.out.mono HGw.out)
      refine ⟨pv, v3, 0, rfl, hB2w.trans (HB3.out.mono hB2w.size), .inl ⟨rfl, ps, Lib.compact WT, ⟨by have := HPL.out; omega, HPS.out, ?_⟩, HSL2.out.below HB3.out, own_lo HO3.out hB2w.size⟩⟩
      rw [HWT.out, HWS.out]; rfl
end Go.Proofs.YtoiabanpnkpbhaaGreatDoor

namespace Go.Proofs.YtoiabanpnkpbhaaGreatDoor
open Go.RowKit

/-- the headers of a slice of slices -/
theorem SL.heads {w : World} {v : Value} {rows : List (List Int)} (h : SL w v rows) : ∃ A c, v = .slice A rows.length c ∧ rows.length ≤ c ∧ c ≤ 9223372036854775807 ∧ ∃ hs : List Value, hs.length = rows.length ∧ (∀ j (h1 : j < hs.length) (h2 : j < rows.length), ∃ B d, hs[j] = .slice B rows[j].length d ∧ SI w hs[j] rows[j]) ∧
    (0 < rows.length → ∃ b off, A = some ⟨b, off, none⟩ ∧ b < w.heap.size ∧ ∀ j (h : j < hs.length), w.cell? ⟨b, off + j, none⟩ = some hs[j]) := by
  obtain ⟨A, c, rfl, hc, hm, ha⟩ := h
  refine ⟨A, c, rfl, hc, hm, ?_⟩
  rcases Nat.eq_zero_or_pos rows.length with h0 | h0
  · exact ⟨[], by simp [h0], fun j h => by simp at h, fun h => by omega⟩
  · obtain ⟨b, off, rfl, hb, hcell⟩ := ha h0
    have key : ∀ j (h1 : j < ((List.range rows.length).map fun j => (w.cell? ⟨b, off + j, none⟩).getD undef).length) (h2 : j < rows.length), ∃ B d, ((List.range rows.length).map fun j => (w.cell? ⟨b, off + j, none⟩).getD undef)[j] = .slice B rows[j].length d ∧ SI w (.slice B rows[j].length d) rows[j] ∧ w.cell? ⟨b, off + j, none⟩ = some (.slice B rows[j].length d) := by
      intro j h1 h2
      obtain ⟨B, d, h3, h4⟩ := hcell j h2
      exact ⟨B, d, by simp [h3], h4, h3⟩
    refine ⟨(List.range rows.length).map fun j => (w.cell? ⟨b, off + j, none⟩).getD undef, by simp, fun j h1 h2 => ?_, fun _ => ⟨b, off, rfl, hb, fun j h1 => ?_⟩⟩
    · obtain ⟨B, d, h3, h4, _⟩ := key j h1 h2
      exact ⟨B, d, h3, by rw [h3]; exact h4⟩
    · obtain ⟨B, d, h3, _, h5⟩ := key j h1 (by simpa using h1)
      rw [h3, h5]
/-- a known answer's memory -/
def apc (v : Value) : List Value := [.bool true, v]
def ans (rows : List (List Int)) : List (Bool × List Int) := rows.map fun r => (true, r)
/-- block C holds the columns under construction -/
def CAc (C : Nat) (P k : Int) (sv : Value) (hs : List Value) (w : World) : Prop := w.heap[C]? = some (.cells #[.int .i64 P, .int .i64 k, sv] 105 (0, 0)) ∧ w.ownsRow (C + 1) 61 2 sv hs.length (hs.flatMap apc)
theorem CAc.lt {C : Nat} {P k : Int} {sv : Value} {hs : List Value} {w : World} (h : CAc C P k sv hs w) : C < w.heap.size := heap_of_cells h.1
theorem CAc.ne {C : Nat} {P k : Int} {sv : Value} {hs : List Value} {w : World} (h : CAc C P k sv hs w) : some C ≠ sv.ownBlock := fun e => by have := (h.2.lt C e.symm).1; omega
theorem CAc.below {C : Nat} {P k : Int} {sv : Value} {hs : List Value} {w w' : World} (h : CAc C P k sv hs w) (hb : Below w.heap.size w w') : CAc C P k sv hs w' := ⟨(hb.block C h.lt).trans h.1, own_bel h.2 hb⟩
theorem CAc.grown {C : Nat} {P k : Int} {sv : Value} {hs : List Value} {w w9 : World} (h : CAc C P k sv hs w) (o : Obj) (hg : (w.alloc o).grownBy w9 sv.ownBlock) : w9.heap[C]? = some (.cells #[.int .i64 P, .int .i64 k, sv] 105 (0, 0)) :=
  (hg.block C (by have := h.lt; simp; omega) h.ne).trans ((Below.heap_alloc w _ C h.lt).trans h.1)
theorem CAc.step {C : Nat} {P k : Int} {sv sv' u : Value} {hs : List Value} {w0 w w9 : World} (h : CAc C P k sv hs w) (hB : Below C w0 w) (o : Obj)
    (hg : (w.alloc o).grownBy w9 sv.ownBlock) (ho : w9.ownsRow (C + 1) 61 2 sv' (hs.length + 1) (hs.flatMap apc ++ [.bool true, u])) :
    CAc C P k sv' (hs ++ [u]) (w9.setCell ⟨C, 2, none⟩ sv') ∧ Below C w0 (w9.setCell ⟨C, 2, none⟩ sv') := by
  have hlt := h.lt
  have hv : ∀ q, sv.ownBlock = some q → C + 1 ≤ q := fun q hq => (h.2.lt q hq).1
  refine ⟨⟨?_, ?_⟩, ?_⟩
  · have := heap_setCell_same w9 C 2 _ _ sv' (h.grown o hg)
    simpa using this
  · have e : (hs ++ [u]).flatMap apc = hs.flatMap apc ++ [.bool true, u] := by simp [apc]
    rw [e, List.length_append]
    exact own_set3 ho (by show C < C + 1; omega) _
  · exact (((hB.alloc (Nat.le_of_lt hlt) _)).grown hg (by simp; omega) (fun k hk => by have := hv k hk; omega)).setCell (Nat.le_refl _) _
end Go.Proofs.YtoiabanpnkpbhaaGreatDoor

namespace Go.Proofs.YtoiabanpnkpbhaaGreatDoor
open Go.RowKit

theorem aninfo : (Tryz.prog.info? 61).map (fun i => (i.zero, i.size, i.bytes)) = some (some (.agg #[.bool false, .slice none 0 0]), 2, 32) := by kernel_rfl
end Go.Proofs.YtoiabanpnkpbhaaGreatDoor
