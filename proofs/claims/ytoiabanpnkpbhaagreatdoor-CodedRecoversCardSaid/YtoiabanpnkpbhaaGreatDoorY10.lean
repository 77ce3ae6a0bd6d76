/- Joined: Re0. -/
import Derived.Deep.RegionLaw
import Derived.Test.YtoiabanpnkpbhaaGreatDoorY09
import Derived.Test.YtoiabanpnkpbhaaGreatDoorY04
namespace Go.Proofs.YtoiabanpnkpbhaaGreatDoor
open Go.RowKit

theorem SI.part {w : World} {b off c : Nat} {l : List Int} (h : SI w (.slice (some ⟨b, off, none⟩) l.length c) l) {lo k : Nat} (h1 : lo + k ≤ l.length) :
    SI w (.slice (some ⟨b, off + lo, none⟩) k (c - lo)) ((l.drop lo).take k) := by
  have hk : ((l.drop lo).take k).length = k := by simp; omega
  obtain ⟨A', c', e, hc, hm, hr, ha⟩ := h
  injection e with e1 e2 e3
  subst e3
  refine ⟨_, c - lo, by rw [hk], by rw [hk]; omega, by omega, fun x hx => hr x (List.mem_of_mem_drop (List.mem_of_mem_take hx)), fun h0 => ?_⟩
  obtain ⟨b', off', hA, hb, hcell⟩ := ha (by rw [hk] at h0; omega)
  rw [← e1] at hA
  injection hA with hA
  injection hA with hb1 ho1
  subst hb1 ho1
  refine ⟨b, off + lo, rfl, hb, fun j hj => ?_⟩
  have hj' : lo + j < l.length := by rw [hk] at hj; omega
  have := hcell (lo + j) hj'
  rw [Nat.add_assoc, this]
  simp
theorem ilinfo : (Tryz.prog.info? 22).map (fun i => (i.zero, i.size, i.bytes)) = some (some (.slice none 0 0), 1, 24) := by kernel_rfl
/-- append(own, u) of a value of one cell -/
theorem step_append_one_at {P : Program} (w : World) {ops : Array Oper} {o : Oper} {a : Act} {K : Act → World → Prop} {Q : Exit → Act → World → Prop} {E : Prop} (hgd : o.guard = none) (s x : Operand) (t : TypeId)
    (ho : o.op = .call { callee := .builtin .append, args := #[s, x], argTypes := #[t, t] })
    (base : Nat) (e : TypeId) (z : Value) (by' : Nat) (ht : P.underlying t = some (.slice e)) (hinfo : (P.info? e).map (fun i => (i.zero, i.size, i.bytes)) = some (some z, 1, by'))
    (v : Value) (n : Nat) (xs : List Value) (hs : a.eval s = v) (hown : w.ownsRow base e 1 v n xs)
    (y : Value) (hy : y.oneCell' = true) (b : Nat) (hx : a.eval x = .slice (some ⟨b, 0, none⟩) 1 1) (hc : w.cell? ⟨b, 0, none⟩ = some y)
    (hbytes : (n + 1) * by' ≤ 140737488355328) (hn : n ≤ 1000000) (hzs : z.cells.size = 1) (hbase : base ≤ w.heap.size)
    (h : ∀ g cap w', w'.ownsRow base e 1 (.slice (some ⟨g, 0, none⟩) (n + 1) cap) (n + 1) (xs ++ [y]) → w.grownBy w' v.ownBlock → (v.ownBlock = some g ∨ g = w.heap.size) → K (a.put o.dst (.slice (some ⟨g, 0, none⟩) (n + 1) cap)) w') :
    if Region.wanted o (yielded ops a.tmps) = true then Oper.wp P o a w K Q else E := by
  obtain ⟨i0, hi0, hz0, hz1, hz2⟩ := info_parts hinfo
  have hw : Region.wanted o (yielded ops a.tmps) = true := by simp [Region.wanted, hgd]
  rw [if_pos hw]
  obtain ⟨v', w', hrun, h2, h3, h4⟩ := run_append_sc_at (P := P) w base t o.type e i0 _ 1 by' ht hi0 hz0 hz1 hz2 hzs (by omega) v _ _ hown (b + 1) (.slice (some ⟨b, 0, none⟩) 1 1) 1 [y] ⟨_, 1, rfl, rfl, fun _ => ⟨b, 0, rfl, by omega, fun j u hu => by
    cases j with
    | zero => simp at hu; subst hu; exact hc
    | succ j => simp at hu⟩⟩ (by intro u hu; simp at hu; subst hu; exact hy) (by unfold maxLen; omega) hbytes hbase
  rcases h2.2 with ⟨_, hn'⟩ | ⟨g, cap, cur, rfl, hb, hg, hnc, hcm, hcs, htake⟩
  · simp at hn'
  · unfold Oper.wp execOp
    simp only [ho, resolve, invoke, builtin, Sem.run_bind, Sem.run_pure, Result.andThen_ok, List.map_toArray, List.map_cons, List.map_nil, hs, hx, hrun]
    refine h g cap w' h2 h3 ?_
    rcases h4 with e4 | e4
    · exact .inl (by rw [← e4]; rfl)
    · exact .inr (by simpa [Value.ownBlock] using e4)
/-- hv is a header row of one's own, of k rows, each in a block of its own -/
structure BR (base : Nat) (w : World) (hv : Value) (n k : Nat) (bs cs : Nat → Nat) (M : List (List Int)) : Prop where
  own : w.ownsRow base 22 1 hv k ((List.range k).map (hd n bs cs))
  len : M.length = k
  row : ∀ i, i < k → RB w (bs i) (gr M i) ∧ (gr M i).length = n ∧ n ≤ cs i ∧ cs i ≤ 9223372036854775807 ∧ base ≤ bs i ∧ hv.ownBlock ≠ some (bs i)
  apart : ∀ i j, i < k → j < k → bs i = bs j → i = j
def upd (f : Nat → Nat) (k b : Nat) (i : Nat) : Nat := if i = k then b else f i
theorem BR.nil (base : Nat) (w : World) (n : Nat) (bs cs : Nat → Nat) : BR base w (.slice none 0 0) n 0 bs cs [] :=
  ⟨World.ownsRow_nil _ _ _ _, rfl, fun i hi => by omega, fun i j hi => by omega⟩
theorem BR.keep {base : Nat} {w w' : World} {hv : Value} {n k : Nat} {bs cs : Nat → Nat} {M : List (List Int)} (h : BR base w hv n k bs cs M) (hk : ∀ b, base ≤ b → b < w.heap.size → w'.heap[b]? = w.heap[b]?) : BR base w' hv n k bs cs M := by
  refine ⟨⟨h.own.1, ?_⟩, h.len, fun i hi => ?_, h.apart⟩
  · rcases h.own.2 with hn | ⟨g, cap, cur, e, hb, hg, rest⟩
    · exact .inl hn
    · exact .inr ⟨g, cap, cur, e, hb, (hk g hb (heap_of_cells hg)).trans hg, rest⟩
  · obtain ⟨⟨tl, r1⟩, r2, r3, r4, r5, r6⟩ := h.row i hi
    exact ⟨⟨tl, (hk _ r5 (heap_of_cells r1)).trans r1⟩, r2, r3, r4, r5, r6⟩
theorem BR.push {base : Nat} {w w0 w1 w2 : World} {hv v : Value} {n k : Nat} {bs cs : Nat → Nat} {M : List (List Int)} (h : BR base w hv n k bs cs M) {row : List Int} {y : Int} {g1 cap1 g2 cap2 : Nat} {o1 o2 : Obj}
    (hw : ∀ b, b < w.heap.size → w0.heap[b]? = w.heap[b]?) (hws : w.heap.size ≤ w0.heap.size) (hvo : ∀ b, v.ownBlock = some b → w.heap.size ≤ b ∧ b < w0.heap.size) (hn : row.length + 1 = n)
    (hg1 : (w0.alloc o1).grownBy w1 v.ownBlock) (ho1 : w1.ownsRow base 3 1 (.slice (some ⟨g1, 0, none⟩) (row ++ [y]).length cap1) (row ++ [y]).length ((row ++ [y]).map (Value.int .i64))) (ha1 : v.ownBlock = some g1 ∨ g1 = (w0.alloc o1).heap.size)
    (hg2 : (w1.alloc o2).grownBy w2 hv.ownBlock) (ho2 : w2.ownsRow base 22 1 (.slice (some ⟨g2, 0, none⟩) (k + 1) cap2) (k + 1) ((List.range k).map (hd n bs cs) ++ [.slice (some ⟨g1, 0, none⟩) (row ++ [y]).length cap1])) (ha2 : hv.ownBlock = some g2 ∨ g2 = (w1.alloc o2).heap.size) :
    BR base w2 (.slice (some ⟨g2, 0, none⟩) (k + 1) cap2) n (k + 1) (upd bs k g1) (upd cs k cap1) (M ++ [row ++ [y]]) := by
  have hl : (row ++ [y]).length = n := by simp; omega
  rw [hl] at ho1 ho2
  obtain ⟨r1, r2, r3, r4⟩ := RB.of_own ho1 rfl
  have hlM := h.len
  have hs1 := hg1.size
  have hs2 := hg2.size
  simp at hs1 hs2
  have hvl := h.own.lt
  have hg1lo : w.heap.size ≤ g1 := by
    rcases ha1 with e | e
    · exact (hvo g1 e).1
    · rw [e]; simp; omega
  have hg1hi : g1 < w1.heap.size := r1.lt
  -- old blocks through both growths
  have old : ∀ b, b < w.heap.size → hv.ownBlock ≠ some b → w2.heap[b]? = w.heap[b]? := by
    intro b hb hne
    rw [hg2.block b (by simp; omega) (fun e => hne e.symm), Below.heap_alloc w1 o2 b (by omega), hg1.block b (by simp; omega) (fun e => by have := (hvo b e.symm).1; omega), Below.heap_alloc w0 o1 b (by omega)]
    exact hw b hb
  have hrow : ∀ i, i < k → bs i < w.heap.size := fun i hi => (h.row i hi).1.lt
  have hhv2 : ∀ b, (Value.slice (some ⟨g2, 0, none⟩) (k + 1) cap2).ownBlock = some b → hv.ownBlock = some b ∨ w1.heap.size ≤ b := by
    intro b hb
    have e : g2 = b := by injection hb
    subst e
    rcases ha2 with e2 | e2
    · exact .inl e2
    · right; rw [e2]; simp
  refine ⟨?_, by simp [hlM], fun i hi => ?_, fun i j hi hj hij => ?_⟩
  · have : (List.range (k + 1)).map (hd n (upd bs k g1) (upd cs k cap1)) = (List.range k).map (hd n bs cs) ++ [.slice (some ⟨g1, 0, none⟩) n cap1] := by
      rw [List.range_succ, List.map_append]
      congr 1
      · apply List.map_congr_left
        intro i hi
        have : i ≠ k := by have := List.mem_range.1 hi; omega
        simp [hd, upd, this]
      · simp [hd, upd]
    rw [this]; exact ho2
  · by_cases e : i = k
    · subst e
      have hgr : gr (M ++ [row ++ [y]]) i = row ++ [y] := by rw [gr_lt (by simp; omega)]; simp [hlM.symm]
      rw [hgr]
      simp only [upd, ↓reduceIte]
      refine ⟨?_, hl, r3, by simpa [maxLen] using r4, r2, fun e2 => ?_⟩
      · obtain ⟨tl, r1⟩ := r1
        refine ⟨tl, ?_⟩
        rw [hg2.block g1 (by simp; omega) (fun e2 => by have := (hvl g1 e2.symm).2; omega), Below.heap_alloc w1 o2 g1 hg1hi]
        exact r1
      · rcases hhv2 g1 e2 with e3 | e3
        · have := (hvl g1 e3).2; omega
        · omega
    · have hik : i < k := by omega
      obtain ⟨⟨tl, q1⟩, q2, q3, q4, q5, q6⟩ := h.row i hik
      have hgr : gr (M ++ [row ++ [y]]) i = gr M i := by
        unfold gr; rw [List.getElem?_append_left (by omega)]
      rw [hgr]
      simp only [upd]
      rw [if_neg e, if_neg e]
      refine ⟨⟨tl, (old _ (hrow i hik) q6).trans q1⟩, q2, q3, q4, q5, fun e2 => ?_⟩
      rcases hhv2 _ e2 with e3 | e3
      · exact q6 e3
      · have := hrow i hik; omega
  · simp only [upd] at hij
    by_cases ei : i = k
    · by_cases ej : j = k
      · omega
      · rw [if_pos ei, if_neg ej] at hij
        have := hrow j (by omega); omega
    · by_cases ej : j = k
      · rw [if_neg ei, if_pos ej] at hij
        have := hrow i (by omega); omega
      · rw [if_neg ei, if_neg ej] at hij
        exact h.apart i j (by omega) (by omega) hij
/-- the finished header row -/
theorem BR.rm {base : Nat} {w : World} {hv : Value} {n k : Nat} {bs cs : Nat → Nat} {M : List (List Int)} (h : BR base w hv n k bs cs M) (hk : 0 < k) : ∃ G c, hv = .slice (some ⟨G, 0, none⟩) k c ∧ k ≤ c ∧ RM base w G n k bs cs M := by
  rcases h.own.2 with ⟨_, hn⟩ | ⟨g, cap, cur, rfl, hb, hg, hnc, hcm, hcs, htake⟩
  · omega
  · refine ⟨g, cap, rfl, hnc, ⟨cur.toList, by rw [hg], fun i hi => ?_⟩, h.len, hb, fun i hi => ?_, h.apart⟩
    · have h1 : (cur.toList.take (k * 1))[i]? = ((List.range k).map (hd n bs cs))[i]? := by rw [htake]
      rw [List.getElem?_take, if_pos (by omega)] at h1
      rw [h1]; simp [hi]
    · obtain ⟨q1, q2, q3, q4, q5, q6⟩ := h.row i hi
      exact ⟨q1, q2, q3, q4, q5, fun e => q6 (by rw [e]; rfl)⟩
end Go.Proofs.YtoiabanpnkpbhaaGreatDoor
