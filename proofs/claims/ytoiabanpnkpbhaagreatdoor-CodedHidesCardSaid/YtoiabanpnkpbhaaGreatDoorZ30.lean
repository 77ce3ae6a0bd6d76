/- Joined: Md Ra. -/
import Derived.Test.YtoiabanpnkpbhaaGreatDoorZ29
import Derived.Test.YtoiabanpnkpbhaaGreatDoorZ24
namespace Go.Proofs.YtoiabanpnkpbhaaGreatDoor
open Go.RowKit

/-- the state behind i servers of the order -/
structure AQ (n : Nat) (P : Int) (rows : List (List Int)) (wrong silent i : Nat) (Oi : List Int) (BL SL : List Nat) (Cn : Nat → List Int) : Prop where
  bnd : BL.Nodup
  snd : SL.Nodup
  bo : ∀ j ∈ BL, j < n ∧ (j : Int) ∈ Oi
  so : ∀ j ∈ SL, j < n ∧ (j : Int) ∈ Oi
  dis : ∀ j ∈ BL, j ∉ SL
  chg : ∀ j ∈ BL, Cn j ≠ gr rows j
  un : ∀ j, j ∉ BL → Cn j = gr rows j
  ln : ∀ j, (Cn j).length = (gr rows j).length ∧ els P (Cn j) = true
  cb : BL.length ≤ min i wrong
  cs : SL.length ≤ min i (wrong + silent) - wrong
theorem AQ.start {n : Nat} {P : Int} {rows : List (List Int)} {wrong silent : Nat} (h : ∀ j, els P (gr rows j) = true) : AQ n P rows wrong silent 0 [] [] [] (gr rows) where
  bnd := List.nodup_nil
  snd := List.nodup_nil
  bo := fun j hj => by simp at hj
  so := fun j hj => by simp at hj
  dis := fun j hj => by simp at hj
  chg := fun j hj => by simp at hj
  un := fun _ _ => rfl
  ln := fun j => ⟨rfl, h j⟩
  cb := by simp
  cs := by simp
theorem AQ.skip {n : Nat} {P : Int} {rows : List (List Int)} {wrong silent i : Nat} {Oi : List Int} {BL SL : List Nat} {Cn : Nat → List Int} (h : AQ n P rows wrong silent i Oi BL SL Cn) (x : Int) : AQ n P rows wrong silent (i + 1) (Oi ++ [x]) BL SL Cn where
  bnd := h.bnd
  snd := h.snd
  bo := fun j hj => ⟨(h.bo j hj).1, List.mem_append_left _ (h.bo j hj).2⟩
  so := fun j hj => ⟨(h.so j hj).1, List.mem_append_left _ (h.so j hj).2⟩
  dis := h.dis
  chg := h.chg
  un := h.un
  ln := h.ln
  cb := by have := h.cb; omega
  cs := by have := h.cs; omega
theorem AQ.wrg {n : Nat} {P : Int} {rows : List (List Int)} {wrong silent i : Nat} {Oi : List Int} {BL SL : List Nat} {Cn : Nat → List Int} (h : AQ n P rows wrong silent i Oi BL SL Cn) (hi : i < wrong) {j : Nat} (hj : j < n) (hjO : (j : Int) ∉ Oi) {l : List Int}
    (hl : l.length = (gr rows j).length ∧ els P l = true) (hne : l ≠ gr rows j) : AQ n P rows wrong silent (i + 1) (Oi ++ [(j : Int)]) (j :: BL) SL (fun a => if a = j then l else Cn a) where
  bnd := List.nodup_cons.2 ⟨fun hm => hjO (h.bo j hm).2, h.bnd⟩
  snd := h.snd
  bo := fun a ha => by
    rcases List.mem_cons.1 ha with rfl | ha
    · exact ⟨hj, by simp⟩
    · exact ⟨(h.bo a ha).1, List.mem_append_left _ (h.bo a ha).2⟩
  so := fun a ha => ⟨(h.so a ha).1, List.mem_append_left _ (h.so a ha).2⟩
  dis := fun a ha hs => by
    rcases List.mem_cons.1 ha with rfl | ha
    · exact hjO (h.so a hs).2
    · exact h.dis a ha hs
  chg := fun a ha => by
    by_cases e : a = j
    · rw [if_pos e, e]; exact hne
    · rw [if_neg e]
      rcases List.mem_cons.1 ha with rfl | ha
      · exact absurd rfl e
      · exact h.chg a ha
  un := fun a ha => by
    have e : a ≠ j := fun e => ha (by simp [e])
    rw [if_neg e]; exact h.un a fun hm => ha (by simp [hm])
  ln := fun a => by
    by_cases e : a = j
    · rw [if_pos e, e]; exact hl
    · rw [if_neg e]; exact h.ln a
  cb := by have := h.cb; simp; omega
  cs := by have := h.cs; omega
theorem AQ.sil {n : Nat} {P : Int} {rows : List (List Int)} {wrong silent i : Nat} {Oi : List Int} {BL SL : List Nat} {Cn : Nat → List Int} (h : AQ n P rows wrong silent i Oi BL SL Cn) (hi : wrong ≤ i ∧ i < wrong + silent) {j : Nat} (hj : j < n) (hjO : (j : Int) ∉ Oi) :
    AQ n P rows wrong silent (i + 1) (Oi ++ [(j : Int)]) BL (j :: SL) Cn where
  bnd := h.bnd
  snd := List.nodup_cons.2 ⟨fun hm => hjO (h.so j hm).2, h.snd⟩
  bo := fun a ha => ⟨(h.bo a ha).1, List.mem_append_left _ (h.bo a ha).2⟩
  so := fun a ha => by
    rcases List.mem_cons.1 ha with rfl | ha
    · exact ⟨hj, by simp⟩
    · exact ⟨(h.so a ha).1, List.mem_append_left _ (h.so a ha).2⟩
  dis := fun a ha hs => by
    rcases List.mem_cons.1 hs with rfl | hs
    · exact hjO (h.bo a ha).2
    · exact h.dis a ha hs
  chg := h.chg
  un := h.un
  ln := h.ln
  cb := by have := h.cb; omega
  cs := by have := h.cs; simp; omega
theorem filter_parts {α : Type} (p : α → Bool) : ∀ l : List α, l.length = (l.filter p).length + (l.filter fun a => !p a).length
  | [] => rfl
  | x :: t => by
    have := filter_parts p t
    cases h : p x <;> simp [h] <;> omega
/-- the answers as a list -/
def maL (n : Nat) (SL : List Nat) (Cn : Nat → List Int) : List (Bool × List Int) := (List.range n).map fun (j : Nat) => if j ∈ SL then (false, []) else (true, Cn j)
def maB (n : Nat) (BL : List Nat) : List Int := ((List.range n).filter fun (j : Nat) => decide (j ∈ BL)).map fun (j : Nat) => (j : Int) + 1
theorem maL_len (n : Nat) (SL : List Nat) (Cn : Nat → List Int) : (maL n SL Cn).length = n := by simp [maL]
theorem maL_get (n : Nat) (SL : List Nat) (Cn : Nat → List Int) (j : Nat) (h : j < (maL n SL Cn).length) : (maL n SL Cn)[j] = if j ∈ SL then (false, []) else (true, Cn j) := by simp [maL]
theorem AQ.fin {n : Nat} {P : Int} {rows : List (List Int)} {wrong silent i : Nat} {Oi : List Int} {BL SL : List Nat} {Cn : Nat → List Int} (h : AQ n P rows wrong silent i Oi BL SL Cn) (hn : n = rows.length) : AnR P rows wrong silent (maL n SL Cn) (maB n BL) := by
  refine ⟨by rw [maL_len, hn], fun j hj h1 => ?_, ?_, fun x => ?_, ?_, ?_⟩
  · rw [maL_get] at h1 ⊢
    by_cases hs : j ∈ SL
    · rw [if_pos hs] at h1; cases h1
    · rw [if_neg hs]; exact h.ln j
  · unfold maB inc
    rw [List.pairwise_map]
    exact List.Pairwise.imp (fun {a b} e => by omega) (List.pairwise_lt_range.sublist List.filter_sublist)
  · constructor
    · intro hx
      obtain ⟨j, hj, rfl⟩ := List.mem_map.1 hx
      obtain ⟨h1, h2⟩ := List.mem_filter.1 hj
      have hb : j ∈ BL := by simpa using h2
      have hjn := (h.bo j hb).1
      refine ⟨j, by rw [maL_len]; exact hjn, ?_, rfl, ?_⟩
      · rw [maL_get, if_neg (h.dis j hb)]
      · rw [maL_get, if_neg (h.dis j hb)]; exact h.chg j hb
    · rintro ⟨j, hj, h1, rfl, h2⟩
      rw [maL_get] at h1 h2
      by_cases hs : j ∈ SL
      · rw [if_pos hs] at h1; cases h1
      · rw [if_neg hs] at h2
        refine List.mem_map.2 ⟨j, List.mem_filter.2 ⟨List.mem_range.2 (by rw [maL_len] at hj; exact hj), ?_⟩, rfl⟩
        by_cases hb : j ∈ BL
        · simpa using hb
        · exact absurd (h.un j hb) h2
  · have h1 : (maB n BL).length = ((List.range n).filter fun (j : Nat) => decide (j ∈ BL)).length := by unfold maB; rw [List.length_map]
    have h2 : ((List.range n).filter fun (j : Nat) => decide (j ∈ BL)).length ≤ BL.length := nodup_sub _ _ (List.nodup_range.sublist List.filter_sublist) fun x hx => by simpa using (List.mem_filter.1 hx).2
    have := h.cb
    omega
  · have h1 : knL (maL n SL Cn) = ((List.range n).filter fun (j : Nat) => !decide (j ∈ SL)).length := by
      unfold knL maL
      rw [List.filter_map, List.length_map]
      congr 1
      refine List.filter_congr fun j _ => ?_
      by_cases h : j ∈ SL <;> simp [h]
    have h2 : ((List.range n).filter fun (j : Nat) => decide (j ∈ SL)).length ≤ SL.length := nodup_sub _ _ (List.nodup_range.sublist List.filter_sublist) fun x hx => by simpa using (List.mem_filter.1 hx).2
    have h3 := filter_parts (fun (j : Nat) => decide (j ∈ SL)) (List.range n)
    have := h.cs
    rw [List.length_range] at h3
    rw [h1, ← hn]
    omega
theorem fl2_get {n : Nat} (f : Nat → Value × Value) : ∀ j, j < n → ((List.range n).flatMap fun j => [(f j).1, (f j).2])[j * 2]? = some (f j).1 ∧ ((List.range n).flatMap fun j => [(f j).1, (f j).2])[j * 2 + 1]? = some (f j).2 := by
  have key : ∀ (l : List Nat) (j : Nat) (h : j < l.length), (l.flatMap fun j => [(f j).1, (f j).2])[j * 2]? = some (f l[j]).1 ∧ (l.flatMap fun j => [(f j).1, (f j).2])[j * 2 + 1]? = some (f l[j]).2 := by
    intro l
    induction l with
    | nil => intro j h; simp at h
    | cons x t ih =>
      intro j h
      cases j with
      | zero => simp
      | succ j =>
        have := ih j (by simpa using h)
        have e1 : (j + 1) * 2 = j * 2 + 1 + 1 := by omega
        have e2 : (j + 1) * 2 + 1 = j * 2 + 1 + 1 + 1 := by omega
        refine ⟨?_, ?_⟩
        · rw [e1]; simpa using this.1
        · rw [e2]; simpa using this.2
  intro j hj
  have := key (List.range n) j (by simpa using hj)
  simpa using this
theorem fl2_set {n : Nat} (f : Nat → Value × Value) (j : Nat) (hj : j < n) (a b : Value) : (((List.range n).flatMap fun j => [(f j).1, (f j).2]).set (j * 2) a).set (j * 2 + 1) b = (List.range n).flatMap fun q => [(if q = j then (a, b) else f q).1, (if q = j then (a, b) else f q).2] := by
  have hlen : ∀ (F : Nat → Value × Value) (l : List Nat), (l.flatMap fun j => [(F j).1, (F j).2]).length = l.length * 2 := fun F l => by
    induction l with
    | nil => rfl
    | cons x t ih => simp [ih]; omega
  refine List.ext_getElem? fun p => ?_
  by_cases hp : p / 2 < n
  · have h1 := fl2_get f (p / 2) hp
    have h2 := fl2_get (fun q => if q = j then (a, b) else f q) (p / 2) hp
    rcases Nat.mod_two_eq_zero_or_one p with h0 | h0
    · have e : p = p / 2 * 2 := by omega
      rw [← e] at h1 h2
      rw [h2.1, List.getElem?_set]
      by_cases hq : p / 2 = j
      · rw [if_neg (by omega), List.getElem?_set, if_pos (by omega), if_pos (by rw [hlen]; simp; omega), if_pos hq]
      · rw [if_neg (by omega), List.getElem?_set, if_neg (by omega), h1.1, if_neg hq]
    · have e : p = p / 2 * 2 + 1 := by omega
      rw [← e] at h1 h2
      rw [h2.2, List.getElem?_set]
      by_cases hq : p / 2 = j
      · rw [if_pos (by omega), if_pos (by rw [List.length_set, hlen]; simp; omega), if_pos hq]
      · rw [if_neg (by omega), List.getElem?_set, if_neg (by omega), h1.2, if_neg hq]
  · rw [List.getElem?_eq_none (by rw [List.length_set, List.length_set, hlen]; simp; omega), List.getElem?_eq_none (by rw [hlen (fun q => if q = j then (a, b) else f q)]; simp; omega)]
theorem AM.fl {C : Nat} {w : World} {pv : Value} {n : Nat} {V : Nat → Value} {K : Nat → Bool} {Cn : Nat → List Int} (h : AM C w pv n V K Cn) : w.ownsRow C 61 2 pv n ((List.range n).flatMap fun j => [(Value.bool (K j), if K j then V j else .slice none 0 0).1, (Value.bool (K j), if K j then V j else .slice none 0 0).2]) := h.ans
/-- an element of an answer changed -/
theorem AM.chg {C : Nat} {w : World} {pv : Value} {n : Nat} {V : Nat → Value} {K : Nat → Bool} {Cn : Nat → List Int} (h : AM C w pv n V K Cn) {j : Nat} (hj : j < n) {q l cap : Nat} (hV : V j = .slice (some ⟨q, 0, none⟩) l cap) (c : Nat) (y : Int) :
    AM C (w.setCell ⟨q, c, none⟩ (.int .i64 y)) pv n V K (fun a => if a = j then (Cn j).set c y else Cn a) := by
  have hq : (V j).ownBlock = some q := by rw [hV]; rfl
  refine ⟨own_upd_other h.ans (h.apl j hj q hq) _, fun a ha => ?_, h.apl, h.apart⟩
  by_cases e : a = j
  · subst e
    have h1 := h.row a ha
    have hl : l = (Cn a).length := by
      rw [hV] at h1
      rcases h1.2 with ⟨e1, _⟩ | ⟨g', cap', cur, e1, _⟩
      · cases e1
      · injection e1
    rw [hV] at h1 ⊢
    subst hl
    have h2 := own_upd h1 c (.int .i64 y)
    rw [if_pos rfl, List.length_set, List.map_set]
    exact h2
  · rw [if_neg e]
    exact own_upd_other (h.row a ha) (h.apart j a hj ha (fun e2 => e e2.symm) q hq) _
/-- an answer taken away -/
theorem AM.sil {C : Nat} {w : World} {n : Nat} {V : Nat → Value} {K : Nat → Bool} {Cn : Nat → List Int} {L cap : Nat} (h : AM C w (.slice (some ⟨L, 0, none⟩) n cap) n V K Cn) {j : Nat} (hj : j < n) :
    AM C ((w.setCell ⟨L, j * 2, none⟩ (.bool false)).setCell ⟨L, j * 2 + 1, none⟩ (.slice none 0 0)) (.slice (some ⟨L, 0, none⟩) n cap) n V (fun a => if a = j then false else K a) Cn := by
  refine ⟨?_, fun a ha => own_upd_other (own_upd_other (h.row a ha) (fun e => h.apl a ha L e rfl) _) (fun e => h.apl a ha L e rfl) _, h.apl, h.apart⟩
  have h1 := own_upd (own_upd h.fl (j * 2) (.bool false)) (j * 2 + 1) (.slice none 0 0)
  rw [fl2_set (fun j => (Value.bool (K j), if K j then V j else .slice none 0 0)) j hj] at h1
  have e : ((List.range n).flatMap fun q => [(if q = j then (Value.bool false, Value.slice none 0 0) else (Value.bool (K q), if K q then V q else .slice none 0 0)).1, (if q = j then (Value.bool false, Value.slice none 0 0) else (Value.bool (K q), if K q then V q else .slice none 0 0)).2]) =
      (List.range n).flatMap fun a => [Value.bool (if a = j then false else K a), if (if a = j then false else K a) then V a else .slice none 0 0] := by
    congr 1
    funext a
    by_cases e : a = j <;> simp [e]
  rw [e] at h1
  exact h1
theorem AM.oth {C : Nat} {w : World} {pv : Value} {n : Nat} {V : Nat → Value} {K : Nat → Bool} {Cn : Nat → List Int} (h : AM C w pv n V K Cn) {p : Addr} (hp : pv.ownBlock ≠ some p.block) (hv : ∀ j, j < n → (V j).ownBlock ≠ some p.block) (u : Value) : AM C (w.setCell p u) pv n V K Cn :=
  ⟨own_upd_other h.ans hp u, fun j hj => own_upd_other (h.row j hj) (hv j hj) u, h.apl, h.apart⟩
theorem AM.cells {C : Nat} {w : World} {n : Nat} {V : Nat → Value} {K : Nat → Bool} {Cn : Nat → List Int} {L cap : Nat} (h : AM C w (.slice (some ⟨L, 0, none⟩) n cap) n V K Cn) {j : Nat} (hj : j < n) :
    w.cell? ⟨L, j * 2, none⟩ = some (.bool (K j)) ∧ w.cell? ⟨L, j * 2 + 1, none⟩ = some (if K j then V j else .slice none 0 0) := by
  have h1 := fl2_get (n := n) (fun j => (Value.bool (K j), if K j then V j else .slice none 0 0)) j hj
  have hl : ((List.range n).flatMap fun j => [(Value.bool (K j), if K j then V j else Value.slice none 0 0).1, (Value.bool (K j), if K j then V j else Value.slice none 0 0).2]).length = n * 2 := h.fl.1
  have h2 := h.fl.cellAt (j * 2) (by omega)
  have h3 := h.fl.cellAt (j * 2 + 1) (by omega)
  exact ⟨h2.trans h1.1, h3.trans h1.2⟩
theorem own_frozen {w : World} {base e size n b cap : Nat} {xs : List Value} (h : w.ownsRow base e size (.slice (some ⟨b, 0, none⟩) n cap) n xs) (i : Nat) : w.frozen? ⟨b, i, none⟩ = false := by
  rcases h.2 with ⟨e1, _⟩ | ⟨g', cap', cur, e1, hb, hg, _⟩
  · cases e1
  · injection e1 with e1 e2 e3
    injection e1 with e1
    injection e1 with e1
    subst e1
    exact frozen_of_row w b i _ _ hg
theorem AM.sae {C g : Nat} {w : World} {pv : Value} {n : Nat} {V : Nat → Value} {SL : List Nat} {Cn : Nat → List Int} (h : AM C w pv n V (fun a => !decide (a ∈ SL)) Cn) (hg : g < C) (hr : ∀ j, ∀ x ∈ Cn j, i64r x) (hn : 1 ≤ n) : SAE g w pv (maL n SL Cn) := by
  rcases h.ans.2 with ⟨_, e⟩ | ⟨L, cap, cur, rfl, hb, hgg, hnc, hcm, _⟩
  · omega
  · refine ⟨some ⟨L, 0, none⟩, cap, by rw [maL_len], by rw [maL_len]; exact hnc, by simpa [maxLen] using hcm, fun _ => ⟨L, 0, rfl, (Array.getElem?_eq_some_iff.1 hgg).1, by omega, fun j hj => ?_⟩⟩
    have hj' : j < n := by rw [maL_len] at hj; exact hj
    obtain ⟨h1, h2⟩ := h.cells hj'
    rw [Nat.zero_add]
    by_cases hs : j ∈ SL
    · have e : (maL n SL Cn)[j] = (false, []) := by rw [maL_get, if_pos hs]
      rw [e]
      simp only [hs, decide_true, Bool.not_true, Bool.false_eq_true, if_false] at h1 h2
      exact ⟨h1, _, h2, ⟨none, 0, rfl, Nat.le_refl _, by omega, fun x hx => by simp at hx, fun h => by simp at h⟩⟩
    · have e : (maL n SL Cn)[j] = (true, Cn j) := by rw [maL_get, if_neg hs]
      rw [e]
      simp only [hs, decide_false, Bool.not_false, if_true] at h1 h2
      exact ⟨h1, _, h2, SE.of_own (h.row j hj') (hr j) hg⟩
theorem binfo : (Tryz.prog.info? 4).map (fun i => (i.zero, i.size, i.bytes)) = some (some (.bool false), 1, 1) := by kernel_rfl
theorem madeBools (n : Nat) : madeCells (Value.bool false).cells n = ((List.range n).map fun (j : Nat) => Value.bool (decide (j ∈ ([] : List Nat)))).toArray := by
  apply Array.toList_inj.1
  show (madeCells #[Value.bool false] n).toList = _
  rw [toList_madeCells_one]
  refine List.ext_getElem (by simp) fun j h1 h2 => by simp
/-- make([]bool, n) -/
theorem wpList_make_bools {P : Program} (w : World) {ops : Array Oper} {rest : List Oper} {o : Oper} {a : Act} {Q : Exit → Act → World → Prop}
    (hg : o.guard = none) (l c : Operand) (t : TypeId) (hop : o.op = Op.makeSlice t l c) (e : TypeId) (ht : P.underlying t = some (.slice e)) (hinfo : (P.info? e).map (fun i => (i.zero, i.size, i.bytes)) = some (some (.bool false), 1, 1))
    (L : Int) (n : Nat) (hl : a.eval l = .int .i64 L) (hc : a.eval c = .int .i64 L) (hL : L = (n : Int)) (hn : n ≤ 10000000)
    (hK : wpList P ops Q rest (a.put o.dst (.slice (some ⟨w.heap.size, 0, none⟩) n n)) (w.alloc (.cells ((List.range n).map fun (j : Nat) => Value.bool (decide (j ∈ ([] : List Nat)))).toArray e))) :
    wpList P ops Q (o :: rest) a w := by
  obtain ⟨i0, hi0, hz0, hz1, hz2⟩ := info_parts hinfo
  subst hL
  have hrun := run_makeSlice (P := P) w t e i0 _ ht hi0 hz0 .i64 .i64 n n (by omega) (Int.le_refl _) (by rw [hz1]; simp; omega) (by rw [hz2]; omega) (by omega)
  simp only [Int.toNat_natCast] at hrun
  rw [hz1, Nat.mul_one, madeBools n] at hrun
  refine wpList_plain hg fun K hK' => ?_
  unfold Oper.wp
  simp only [execOp, hop, hl, hc, hrun, Result.andThen, Sem.run_bind, Sem.run_pure]
  first
    | exact hK' _ _ hK
    | (simp [hrun, Result.andThen]; exact hK' _ _ hK)
/-- a block of marks, known whole -/
def BBk (w : World) (B n : Nat) (BL : List Nat) : Prop := w.heap[B]? = some (.cells ((List.range n).map fun (j : Nat) => Value.bool (decide (j ∈ BL))).toArray 4 (0, 0))
theorem BBk.lt {w : World} {B n : Nat} {BL : List Nat} (h : BBk w B n BL) : B < w.heap.size := heap_of_cells h
theorem BBk.cell {w : World} {B n : Nat} {BL : List Nat} (h : BBk w B n BL) {j : Nat} (hj : j < n) : w.cell? ⟨B, j, none⟩ = some (.bool (decide (j ∈ BL))) := by
  rw [cell_of_row w B j _ _ _ h]; simp [hj]
theorem BBk.frozen {w : World} {B n : Nat} {BL : List Nat} (h : BBk w B n BL) (j : Nat) : w.frozen? ⟨B, j, none⟩ = false := frozen_of_row w B j _ _ h
theorem BBk.set {w : World} {B n : Nat} {BL : List Nat} (h : BBk w B n BL) (j : Nat) : BBk (w.setCell ⟨B, j, none⟩ (.bool true)) B n (j :: BL) := by
  unfold BBk
  rw [heap_setCell_same w B j _ _ _ h]
  congr 2
  apply Array.toList_inj.1
  refine List.ext_getElem (by simp) fun q h1 h2 => ?_
  simp
  by_cases e : j = q
  · simp [e]
  · have e2 : ¬ q = j := fun h => e h.symm
    simp [e, e2]
theorem BBk.oth {w : World} {B n : Nat} {BL : List Nat} (h : BBk w B n BL) {p : Addr} (hp : p.block ≠ B) (u : Value) : BBk (w.setCell p u) B n BL := (heap_setCell_other w p B u (by omega)).trans h
theorem BBk.grown {w w' : World} {B n g : Nat} {BL : List Nat} (h : BBk w B n BL) (hg : w.grownBy w' (some g)) (hne : B ≠ g) : BBk w' B n BL := (hg.block B h.lt (by simp; exact hne)).trans h
theorem am_of {rows : List (List Int)} {C : Nat} {wr : World} {pv : Value} {xs : List Value} {n : Nat} (hl : xs.length = n) (hown : wr.ownsRow C 61 2 pv xs.length (xs.flatMap apc)) (hrow : ∀ j (h : j < xs.length), wr.ownsRow C 3 1 xs[j] (gr rows j).length ((gr rows j).map (Value.int .i64)))
    (hapl : ∀ j (h : j < xs.length) q, xs[j].ownBlock = some q → pv.ownBlock ≠ some q) (hap : ∀ i j (hi : i < xs.length) (hj : j < xs.length), i ≠ j → ∀ q, xs[i].ownBlock = some q → xs[j].ownBlock ≠ some q) :
    AM C wr pv n (fun j => (xs[j]?).getD undef) (fun a => !decide (a ∈ ([] : List Nat))) (gr rows) := by
  have e : ∀ j (h : j < n), (xs[j]?).getD undef = xs[j]'(by omega) := fun j h => by rw [List.getElem?_eq_getElem (by omega)]; rfl
  refine ⟨?_, fun j hj => ?_, fun j hj q hq => ?_, fun i j hi hj hne q hqi hqj => ?_⟩
  · rw [hl] at hown
    have e2 : xs.flatMap apc = (List.range n).flatMap fun j => [Value.bool (!decide (j ∈ ([] : List Nat))), if (!decide (j ∈ ([] : List Nat))) = true then (xs[j]?).getD undef else .slice none 0 0] := by
      have e3 : xs = (List.range n).map fun j => (xs[j]?).getD undef := by
        refine List.ext_getElem (by simp [hl]) fun j h1 h2 => ?_
        simp [List.getElem?_eq_getElem h1]
      have e4 : ∀ l : List Nat, (l.map fun j => (xs[j]?).getD undef).flatMap apc = l.flatMap fun j => [Value.bool (!decide (j ∈ ([] : List Nat))), if (!decide (j ∈ ([] : List Nat))) = true then (xs[j]?).getD undef else .slice none 0 0] := fun l => by
        induction l with
        | nil => rfl
        | cons x t ih => rw [List.map_cons, List.flatMap_cons, List.flatMap_cons, ih]; simp [apc]
      calc xs.flatMap apc = ((List.range n).map fun j => (xs[j]?).getD undef).flatMap apc := by rw [← e3]
        _ = _ := e4 _
    rw [e2] at hown
    exact hown
  · rw [e j hj]; exact hrow j (by omega)
  · rw [e j hj] at hq; exact hapl j (by omega) q hq
  · rw [e i hi] at hqi; rw [e j hj] at hqj
    exact hap i j (by omega) (by omega) hne q hqi hqj
theorem maB_yes {k : Nat} {BL : List Nat} (h : k ∈ BL) : maB (k + 1) BL = maB k BL ++ [(k : Int) + 1] := by
  unfold maB
  rw [List.range_succ, List.filter_append, List.map_append]
  simp [h]
theorem maB_no {k : Nat} {BL : List Nat} (h : k ∉ BL) : maB (k + 1) BL = maB k BL := by
  unfold maB
  rw [List.range_succ, List.filter_append, List.map_append]
  simp [h]
theorem maB_bd (n : Nat) (BL : List Nat) : (maB n BL).length ≤ n ∧ ∀ x ∈ maB n BL, 1 ≤ x ∧ x ≤ (n : Int) := by
  unfold maB
  refine ⟨?_, fun x hx => ?_⟩
  · rw [List.length_map]
    exact Nat.le_trans (List.length_filter_le _ _) (by simp)
  · obtain ⟨j, hj, rfl⟩ := List.mem_map.1 hx
    have := List.mem_range.1 (List.mem_filter.1 hj).1
    omega
def Am3 (n : Nat) (BL : List Nat) (wy : World) (v iv : Value) (wz : World) : Prop :=
  ∃ k : Nat, k ≤ n ∧ iv = .int .i64 k ∧ wz.ownsRow wy.heap.size 3 1 v (maB k BL).length ((maB k BL).map (Value.int .i64)) ∧ Below wy.heap.size wy wz
end Go.Proofs.YtoiabanpnkpbhaaGreatDoor

namespace Go.Proofs.YtoiabanpnkpbhaaGreatDoor
open Go.RowKit
set_option linter.unusedSimpArgs false

noncomputable def regA13C : Code := ((Tryz.f35.body.bind (regionOf 13)).getD .skip)
set_option maxRecDepth 1000000 in
set_option maxHeartbeats 4000000 in
theorem regA13 (g F L n cap k c q len cap' : Nat) (P x : Int) (w : World) (hqL : q ≠ L) (hqF : q ≠ F) (hP : 2 ≤ P ∧ P ≤ 65521) (hx : 0 ≤ x ∧ x < P) (hk1 : k < n) (hc1 : c < len) (hX : ∀ W, w.grownBy W (some g) → W.cell? ⟨L, k * 2 + 1, none⟩ = some (.slice (some ⟨q, 0, none⟩) len cap') ∧ W.cell? ⟨q, c, none⟩ = some (.int .i64 x) ∧ W.frozen? ⟨q, c, none⟩ = false ∧ W.cell? ⟨F, 0, none⟩ = some (.int .i64 P)) (hD : Dk w g)
    (s1 s2 s3 s4 s5 s7 s8 s9 s10 s11 s13 s14 s15 s16 s19 s20 s21 s22 s23 s24 s25 s26 s27 s28 s29 s30 s31 s32 s33 s34 s35 s36 s37 s38 s39 s40 s41 s42 s43 s44 s45 s46 s47 s48 s49 s50 s51 s52 s53 s54 s55 s56 s57 s58 s59 s60 s61 s62 s63 s64 s65 s66 s67 s68 s69 s70 s71 s72 s73 s74 s75 s76 s77 s78 s79 s80 s81 s82 s83 s84 s85 s86 s87 s88 s89 s90 s91 s92 s93 s94 s95 s96 s97 s98 s99 s100 s101 s102 s103 s104 s105 s106 s107 s108 s109 s110 s111 s112 s113 s114 s115 s116 s117 s118 s119 s120 s121 s122 s123 s124 : Value) (Q : Exit → Act → World → Prop)
    (hK : ∀ (u66 u67 u68 u69 u70 u71 u72 u73 u74 u75 u76 u77 u78 u79 u80 u81 u82 u83 u84 u85 u86 u87 u88 u89 u90 : Value) (y : Int) (wN : World) (w' : World), w.grownBy wN (some g) ∧ Dk wN g ∧ 0 ≤ y ∧ y < P ∧ y ≠ x ∧ w' = wN.setCell ⟨q, c, none⟩ (.int .i64 y) → Q .normal ⟨List.toArray ((Value.pointer (some ⟨g, 0, none⟩)) :: s1 :: s2 :: s3 :: s4 :: s5 :: (Value.pointer (some ⟨F, 0, none⟩)) :: s7 :: s8 :: s9 :: s10 :: s11 :: (Value.slice (some ⟨L, 0, none⟩) n cap) :: s13 :: s14 :: s15 :: s16 :: (Value.int .i64 (k : Int)) :: (Value.int .i64 (c : Int)) :: s19 :: s20 :: s21 :: s22 :: s23 :: s24 :: s25 :: s26 :: s27 :: s28 :: s29 :: s30 :: s31 :: s32 :: s33 :: s34 :: s35 :: s36 :: s37 :: s38 :: s39 :: s40 :: s41 :: s42 :: s43 :: s44 :: s45 :: s46 :: s47 :: s48 :: s49 :: s50 :: s51 :: s52 :: s53 :: s54 :: s55 :: s56 :: s57 :: s58 :: s59 :: s60 :: s61 :: s62 :: s63 :: s64 :: s65 :: u66 :: u67 :: u68 :: u69 :: u70 :: u71 :: u72 :: u73 :: u74 :: u75 :: u76 :: u77 :: u78 :: u79 :: u80 :: u81 :: u82 :: u83 :: u84 :: u85 :: u86 :: u87 :: u88 :: u89 :: u90 :: s91 :: s92 :: s93 :: s94 :: s95 :: s96 :: s97 :: s98 :: s99 :: s100 :: s101 :: s102 :: s103 :: s104 :: s105 :: s106 :: s107 :: s108 :: s109 :: s110 :: s111 :: s112 :: s113 :: s114 :: s115 :: s116 :: s117 :: s118 :: s119 :: s120 :: s121 :: s122 :: s123 :: s124 :: []), []⟩ w') :
    Code.wp Tryz.prog regA13C Q ⟨List.toArray ((Value.pointer (some ⟨g, 0, none⟩)) :: s1 :: s2 :: s3 :: s4 :: s5 :: (Value.pointer (some ⟨F, 0, none⟩)) :: s7 :: s8 :: s9 :: s10 :: s11 :: (Value.slice (some ⟨L, 0, none⟩) n cap) :: s13 :: s14 :: s15 :: s16 :: (Value.int .i64 (k : Int)) :: (Value.int .i64 (c : Int)) :: s19 :: s20 :: s21 :: s22 :: s23 :: s24 :: s25 :: s26 :: s27 :: s28 :: s29 :: s30 :: s31 :: s32 :: s33 :: s34 :: s35 :: s36 :: s37 :: s38 :: s39 :: s40 :: s41 :: s42 :: s43 :: s44 :: s45 :: s46 :: s47 :: s48 :: s49 :: s50 :: s51 :: s52 :: s53 :: s54 :: s55 :: s56 :: s57 :: s58 :: s59 :: s60 :: s61 :: s62 :: s63 :: s64 :: s65 :: s66 :: s67 :: s68 :: s69 :: s70 :: s71 :: s72 :: s73 :: s74 :: s75 :: s76 :: s77 :: s78 :: s79 :: s80 :: s81 :: s82 :: s83 :: s84 :: s85 :: s86 :: s87 :: s88 :: s89 :: s90 :: s91 :: s92 :: s93 :: s94 :: s95 :: s96 :: s97 :: s98 :: s99 :: s100 :: s101 :: s102 :: s103 :: s104 :: s105 :: s106 :: s107 :: s108 :: s109 :: s110 :: s111 :: s112 :: s113 :: s114 :: s115 :: s116 :: s117 :: s118 :: s119 :: s120 :: s121 :: s122 :: s123 :: s124 :: []), []⟩ w := by
  have HK := Lib.hid hK
  have HX := Lib.hid hX
  have HD := Lib.hid hD
  obtain ⟨l0, q0, q1, f0⟩ := hX w (grownBy_refl _ _)
  have HNX : Hid (∀ W, w.grownBy W (some g) → Dk W g → Calls Tryz.prog 13 #[.pointer (some ⟨g, 0, none⟩), .int .i64 (P - 1)] W fun e w' => ∃ z : Int, e = .returned (.int .i64 z) ∧ 0 ≤ z ∧ z < P - 1 ∧ Dk w' g ∧ W.grownBy w' (some g)) := (show Hid _ from fun W _ hd => (next_any (P - 1) g W hd (by unfold i64r; omega) (by omega)).mono fun e w' ⟨z, h1, _, h3, h4, h5⟩ => by
    obtain ⟨h6, h7⟩ := h3 (by omega)
    exact ⟨z, h1, h6, h7, h4, h5⟩)
  have HG0 : Hid (w.grownBy w (some g)) := (show Hid _ from grownBy_refl _ _)
  have HG0d : Hid (w.grownBy w.drew (some g)) := (show Hid _ from grownBy_of_below (Below.refl _ w).drew _)
  have z1 : (0 : Int) ≤ (k : Int) := by omega
  have z2 : (k : Int) < (n : Int) := by omega
  have z3 : (0 : Int) ≤ (c : Int) := by omega
  have z4 : (c : Int) < (len : Int) := by omega
  have w1_ : IntKind.i64.wrap (x + 1) = x + 1 := by exact IntWalk.i64_in _ (by omega)
  have w2_ : IntKind.i64.wrap (P - 1) = P - 1 := by exact IntWalk.i64_in _ (by omega)
  have hP0 : ¬ P = 0 := by omega
  have HW3 : Hid (∀ z : Int, 0 ≤ z → z < P - 1 → IntKind.i64.wrap (x + 1 + z) = x + 1 + z ∧ (x + 1 + z).tmod P = (x + 1 + z) % P ∧ IntKind.i64.wrap ((x + 1 + z) % P) = (x + 1 + z) % P ∧ 0 ≤ (x + 1 + z) % P ∧ (x + 1 + z) % P < P ∧ (x + 1 + z) % P ≠ x) := (show Hid _ from fun z h1 h2 => by
    have h3 := Int.emod_nonneg (x + 1 + z) hP0
    have h4 := Int.emod_lt_of_pos (x + 1 + z) (show 0 < P by omega)
    refine ⟨by exact IntWalk.i64_in _ (by omega), Int.tmod_eq_emod_of_nonneg (by omega), by exact IntWalk.i64_in _ (by omega), h3, h4, fun e => ?_⟩
    by_cases hb : x + 1 + z < P
    · rw [Int.emod_eq_of_lt (by omega) hb] at e; omega
    · have e2 : (x + 1 + z) % P = x + 1 + z - P := by
        rw [← Int.sub_emod_right, Int.emod_eq_of_lt (by omega) (by omega)]
      omega)
  have HXS : Hid (∀ (W : World) (u : Value), w.grownBy W (some g) → (W.setCell ⟨q, c, none⟩ u).cell? ⟨L, k * 2 + 1, none⟩ = some (.slice (some ⟨q, 0, none⟩) len cap') ∧ (W.setCell ⟨q, c, none⟩ u).cell? ⟨F, 0, none⟩ = some (.int .i64 P)) := (show Hid _ from fun W u hg => by
    obtain ⟨h1, _, _, h2⟩ := HX.out W hg
    exact ⟨(World.cell?_of_block (heap_setCell_other W ⟨q, c, none⟩ L u (by show L ≠ q; omega))).trans h1, (World.cell?_of_block (heap_setCell_other W ⟨q, c, none⟩ F u (by show F ≠ q; omega))).trans h2⟩)
  clear hK hX hD
  conv => arg 2; whnf
  refine wp_region_noPanic ?_
  refine wp_region_held_drew (S := fun w' => w'.cell? ⟨L, k * 2 + 1, none⟩ = some (.slice (some ⟨q, 0, none⟩) len cap') ∧ w'.cell? ⟨F, 0, none⟩ = some (.int .i64 P)) (by kernel_rfl) ?_ (fun hHeld => ?_)
  · exact ⟨l0, f0⟩
  refine wpAnyH_take (i := 0) (v := ?_) rfl (by kernel_rfl) (by kernel_rfl) (by kernel_rfl) (fun _ _ _ h => h) (Or.inl ⟨by rfl, ?_⟩) (by assumption) ?_
  rotate_left 1
  · intro w' hSw
    try dsimp only at hSw
    go_simp <;> with_reducible rfl
  try simp only [Act.put, List.setIfInBounds_toArray, List.set_cons_zero, List.set_cons_succ]
  refine wpAnyH_take (i := 1) (v := ?_) rfl (by kernel_rfl) (by kernel_rfl) (by kernel_rfl) (fun _ _ _ h => h) (Or.inl ⟨by rfl, ?_⟩) (by assumption) ?_
  rotate_left 1
  · intro w' hSw
    try dsimp only at hSw
    go_simp <;> with_reducible rfl
  try simp only [Act.put, List.setIfInBounds_toArray, List.set_cons_zero, List.set_cons_succ]
  refine wpAnyH_take (i := 2) (v := ?_) rfl (by kernel_rfl) (by kernel_rfl) (by kernel_rfl) (fun _ _ _ h => h) (Or.inl ⟨by rfl, ?_⟩) (by assumption) ?_
  rotate_left 1
  · intro w' hSw
    try dsimp only at hSw
    go_simp <;> with_reducible rfl
  try simp only [Act.put, List.setIfInBounds_toArray, List.set_cons_zero, List.set_cons_succ]
  refine wpAnyH_take (i := 3) (v := ?_) rfl (by kernel_rfl) (by kernel_rfl) (by kernel_rfl) (fun _ _ _ h => h) (Or.inl ⟨by rfl, ?_⟩) (by assumption) ?_
  rotate_left 1
  · intro w' hSw
    try dsimp only at hSw
    go_simp <;> with_reducible rfl
  try simp only [Act.put, List.setIfInBounds_toArray, List.set_cons_zero, List.set_cons_succ]
  refine wpAnyH_take (i := 4) (v := ?_) rfl (by kernel_rfl) (by kernel_rfl) (by kernel_rfl) (fun _ _ _ h => h) (Or.inl ⟨by rfl, ?_⟩) (by assumption) ?_
  rotate_left 1
  · intro w' hSw
    try dsimp only at hSw
    go_simp <;> with_reducible rfl
  try simp only [Act.put, List.setIfInBounds_toArray, List.set_cons_zero, List.set_cons_succ]
  refine wpAnyH_take (i := 5) (v := ?_) rfl (by kernel_rfl) (by kernel_rfl) (by kernel_rfl) (fun _ _ _ h => h) (Or.inl ⟨by rfl, ?_⟩) (by assumption) ?_
  rotate_left 1
  · intro w' hSw
    try dsimp only at hSw
    go_simp <;> with_reducible rfl
  try simp only [Act.put, List.setIfInBounds_toArray, List.set_cons_zero, List.set_cons_succ]
  refine wpAnyH_take (i := 6) (v := ?_) rfl (by kernel_rfl) (by kernel_rfl) (by kernel_rfl) (fun _ _ _ h => h) (Or.inl ⟨by rfl, ?_⟩) (by assumption) ?_
  rotate_left 1
  · intro w' hSw
    try dsimp only at hSw
    go_simp <;> with_reducible rfl
  try simp only [Act.put, List.setIfInBounds_toArray, List.set_cons_zero, List.set_cons_succ]
  refine wpAnyH_take (i := 7) (v := ?_) rfl (by kernel_rfl) (by kernel_rfl) (by kernel_rfl) (fun _ _ _ h => h) (Or.inl ⟨by rfl, ?_⟩) (by assumption) ?_
  rotate_left 1
  · intro w' hSw
    try dsimp only at hSw
    go_simp <;> with_reducible rfl
  try simp only [Act.put, List.setIfInBounds_toArray, List.set_cons_zero, List.set_cons_succ]
  refine wpAnyH_take (i := 8) (v := ?_) rfl (by kernel_rfl) (by kernel_rfl) (by kernel_rfl) (fun _ _ _ h => h) (Or.inl ⟨by rfl, ?_⟩) (by assumption) ?_
  rotate_left 1
  · intro w' hSw
    try dsimp only at hSw
    go_simp <;> with_reducible rfl
  try simp only [Act.put, List.setIfInBounds_toArray, List.set_cons_zero, List.set_cons_succ]
  refine wpAnyH_take (i := 9) (v := ?_) rfl (by kernel_rfl) (by kernel_rfl) (by kernel_rfl) (fun _ _ _ h => h) (Or.inl ⟨by rfl, ?_⟩) (by assumption) ?_
  rotate_left 1
  · intro w' hSw
    try dsimp only at hSw
    go_simp <;> with_reducible rfl
  try simp only [Act.put, List.setIfInBounds_toArray, List.set_cons_zero, List.set_cons_succ]
  refine wpAnyH_take (i := 10) (v := ?_) rfl (by kernel_rfl) (by kernel_rfl) (by kernel_rfl) (fun _ _ _ h => h) (Or.inl ⟨by rfl, ?_⟩) (by assumption) ?_
  rotate_left 1
  · intro w' hSw
    try dsimp only at hSw
    go_simp <;> with_reducible rfl
  try simp only [Act.put, List.setIfInBounds_toArray, List.set_cons_zero, List.set_cons_succ]
  refine wpAnyH_take (i := 11) (v := ?_) rfl (by kernel_rfl) (by kernel_rfl) (by kernel_rfl) (fun _ _ _ h => h) (Or.inl ⟨by rfl, ?_⟩) (by assumption) ?_
  rotate_left 1
  · intro w' hSw
    try dsimp only at hSw
    go_simp <;> with_reducible rfl
  try simp only [Act.put, List.setIfInBounds_toArray, List.set_cons_zero, List.set_cons_succ]
  refine wpAnyH_take (i := 12) (v := ?_) rfl (by kernel_rfl) (by kernel_rfl) (by kernel_rfl) (fun _ _ _ h => h) (Or.inl ⟨by rfl, ?_⟩) (by assumption) ?_
  rotate_left 1
  · intro w' hSw
    try dsimp only at hSw
    go_simp <;> with_reducible rfl
  try simp only [Act.put, List.setIfInBounds_toArray, List.set_cons_zero, List.set_cons_succ]
  refine wpAnyH_take (i := 15) (v := ?_) rfl (by kernel_rfl) (by kernel_rfl) (by kernel_rfl) (fun _ _ _ h => h) (Or.inl ⟨by rfl, ?_⟩) (by assumption) ?_
  rotate_left 1
  · intro w' hSw
    try dsimp only at hSw
    go_simp <;> with_reducible rfl
  try simp only [Act.put, List.setIfInBounds_toArray, List.set_cons_zero, List.set_cons_succ]
  refine wpAnyH_take (i := 16) (v := ?_) rfl (by kernel_rfl) (by kernel_rfl) (by kernel_rfl) (fun _ _ _ h => h) (Or.inl ⟨by rfl, ?_⟩) (by assumption) ?_
  rotate_left 1
  · intro w' hSw
    try dsimp only at hSw
    go_simp <;> with_reducible rfl
  try simp only [Act.put, List.setIfInBounds_toArray, List.set_cons_zero, List.set_cons_succ]
  refine wpAnyH_take (i := 17) (v := ?_) rfl (by kernel_rfl) (by kernel_rfl) (by kernel_rfl) (fun _ _ _ h => h) (Or.inl ⟨by rfl, ?_⟩) (by assumption) ?_
  rotate_left 1
  · intro w' hSw
    try dsimp only at hSw
    go_simp <;> with_reducible rfl
  try simp only [Act.put, List.setIfInBounds_toArray, List.set_cons_zero, List.set_cons_succ]
  refine wpAnyH_take (i := 18) (v := ?_) rfl (by kernel_rfl) (by kernel_rfl) (by kernel_rfl) (fun _ _ _ h => h) (Or.inl ⟨by rfl, ?_⟩) (by assumption) ?_
  rotate_left 1
  · intro w' hSw
    try dsimp only at hSw
    go_simp <;> with_reducible rfl
  try simp only [Act.put, List.setIfInBounds_toArray, List.set_cons_zero, List.set_cons_succ]
  refine wpAnyH_take (i := 21) (v := ?_) rfl (by kernel_rfl) (by kernel_rfl) (by kernel_rfl) (fun _ _ _ h => h) (Or.inl ⟨by rfl, ?_⟩) (by assumption) ?_
  rotate_left 1
  · intro w' hSw
    try dsimp only at hSw
    go_simp <;> with_reducible rfl
  try simp only [Act.put, List.setIfInBounds_toArray, List.set_cons_zero, List.set_cons_succ]
  refine wpAnyH_take (i := 22) (v := ?_) rfl (by kernel_rfl) (by kernel_rfl) (by kernel_rfl) (fun _ _ _ h => h) (Or.inl ⟨by rfl, ?_⟩) (by assumption) ?_
  rotate_left 1
  · intro w' hSw
    try dsimp only at hSw
    go_simp <;> with_reducible rfl
  try simp only [Act.put, List.setIfInBounds_toArray, List.set_cons_zero, List.set_cons_succ]
  refine wpAnyH_ready (rs := [13, 19]) (by kernel_rfl) (by simp) ?_
  refine AllReadyH.cons (o := _) rfl (fun K hK => ?_) ?_
  · go_simp
    refine hK.out _ _ ?_ (fun hHeld => ?_)
    · exact ⟨l0, f0⟩
    clear hK K
    try simp only [Act.put, List.setIfInBounds_toArray, List.set_cons_zero, List.set_cons_succ]
    refine wpAnyH_take (i := 14) (v := ?_) rfl (by kernel_rfl) (by kernel_rfl) (by kernel_rfl) (fun _ _ _ h => h) (Or.inl ⟨by rfl, ?_⟩) (by assumption) ?_
    rotate_left 1
    · intro w' hSw
      try dsimp only at hSw
      go_simp <;> with_reducible rfl
    try simp only [Act.put, List.setIfInBounds_toArray, List.set_cons_zero, List.set_cons_succ]
    refine wpAnyH_ready (rs := [19]) (by kernel_rfl) (by simp) ?_
    refine AllReadyH.cons (o := _) rfl (fun K hK => ?_) ?_
    · go_simp
      go_at_call 13; refine (HNX.out _ (by first | exact HG0.out | exact HG0d.out) (by exact HD.out)).mono ?_; rintro e9 w9 ⟨z, rfl, hz1, hz2, hd9, hg9⟩; have HG9 : Hid (w.grownBy w9 (some g)) := (show Hid _ from ⟨hg9.os, hg9.tape, hg9.output, hg9.size, hg9.block⟩); have HD9 := Lib.hid hd9; obtain ⟨l0, q0, q1, f0⟩ := HX.out w9 HG9.out; obtain ⟨y1, y2, y3, y4, y5, y6⟩ := HW3.out z hz1 hz2; have HY6 := Lib.hid y6; clear hd9 hg9 y6
      refine hK.out _ _ ?_ (fun hHeld => ?_)
      · exact ⟨l0, f0⟩
      clear hK K
      try simp only [Act.put, List.setIfInBounds_toArray, List.set_cons_zero, List.set_cons_succ]
      refine wpAnyH_take (i := 20) (v := ?_) rfl (by kernel_rfl) (by kernel_rfl) (by kernel_rfl) (fun _ _ _ h => h) (Or.inl ⟨by rfl, ?_⟩) (by assumption) ?_
      rotate_left 1
      · intro w' hSw
        try dsimp only at hSw
        go_simp <;> with_reducible rfl
      try simp only [Act.put, List.setIfInBounds_toArray, List.set_cons_zero, List.set_cons_succ]
      refine wpAnyH_take (i := 23) (v := ?_) rfl (by kernel_rfl) (by kernel_rfl) (by kernel_rfl) (fun _ _ _ h => h) (Or.inl ⟨by rfl, ?_⟩) (by assumption) ?_
      rotate_left 1
      · intro w' hSw
        try dsimp only at hSw
        go_simp <;> with_reducible rfl
      try simp only [Act.put, List.setIfInBounds_toArray, List.set_cons_zero, List.set_cons_succ]
      refine wpAnyH_take (i := 24) (v := ?_) rfl (by kernel_rfl) (by kernel_rfl) (by kernel_rfl) (fun _ _ _ h => h) (Or.inl ⟨by rfl, ?_⟩) (by assumption) ?_
      rotate_left 1
      · intro w' hSw
        try dsimp only at hSw
        go_simp <;> with_reducible rfl
      try simp only [Act.put, List.setIfInBounds_toArray, List.set_cons_zero, List.set_cons_succ]
      refine wpAnyH_ready (rs := [25]) (by kernel_rfl) (by simp) ?_
      refine AllReadyH.cons (o := _) rfl (fun K hK => ?_) ?_
      · go_simp
        refine hK.out _ _ ?_ (fun hHeld => ?_)
        · exact HXS.out _ _ HG9.out
        clear hK K
        try simp only [Act.put, List.setIfInBounds_toArray, List.set_cons_zero, List.set_cons_succ]
        refine wpAnyH_done (by kernel_rfl) ?_ _
        refine NoPanic.normal ?_
        have hk := HK.out
        first
          | exact hk _ _ _ _ _ _ _ _ _ _ _ _ _ _ _ _ _ _ _ _ _ _ _ _ _ ((x + 1 + z) % P) w9 _ ⟨HG9.out, HD9.out, y4, y5, HY6.out, rfl⟩
          | exact hk _ _ _ _ _ _ _ _ _ _ _ _ _ _ _ _ _ _ _ _ _ _ _ _ _ ((x + 1 + z) % P) w9.drew _ ⟨grownBy_trans HG9.out (grownBy_of_below (Below.refl _ w9).drew _), HD9.out, y4, y5, HY6.out, rfl⟩
      exact AllReadyH.nil
    exact AllReadyH.nil
  refine AllReadyH.cons (o := _) rfl (fun K hK => ?_) ?_
  · go_simp
    go_at_call 13; refine (HNX.out _ (by first | exact HG0.out | exact HG0d.out) (by exact HD.out)).mono ?_; rintro e9 w9 ⟨z, rfl, hz1, hz2, hd9, hg9⟩; have HG9 : Hid (w.grownBy w9 (some g)) := (show Hid _ from ⟨hg9.os, hg9.tape, hg9.output, hg9.size, hg9.block⟩); have HD9 := Lib.hid hd9; obtain ⟨l0, q0, q1, f0⟩ := HX.out w9 HG9.out; obtain ⟨y1, y2, y3, y4, y5, y6⟩ := HW3.out z hz1 hz2; have HY6 := Lib.hid y6; clear hd9 hg9 y6
    refine hK.out _ _ ?_ (fun hHeld => ?_)
    · exact ⟨l0, f0⟩
    clear hK K
    try simp only [Act.put, List.setIfInBounds_toArray, List.set_cons_zero, List.set_cons_succ]
    refine wpAnyH_ready (rs := [13]) (by kernel_rfl) (by simp) ?_
    refine AllReadyH.cons (o := _) rfl (fun K hK => ?_) ?_
    · go_simp
      refine hK.out _ _ ?_ (fun hHeld => ?_)
      · exact ⟨l0, f0⟩
      clear hK K
      try simp only [Act.put, List.setIfInBounds_toArray, List.set_cons_zero, List.set_cons_succ]
      refine wpAnyH_take (i := 14) (v := ?_) rfl (by kernel_rfl) (by kernel_rfl) (by kernel_rfl) (fun _ _ _ h => h) (Or.inl ⟨by rfl, ?_⟩) (by assumption) ?_
      rotate_left 1
      · intro w' hSw
        try dsimp only at hSw
        go_simp <;> with_reducible rfl
      try simp only [Act.put, List.setIfInBounds_toArray, List.set_cons_zero, List.set_cons_succ]
      refine wpAnyH_take (i := 20) (v := ?_) rfl (by kernel_rfl) (by kernel_rfl) (by kernel_rfl) (fun _ _ _ h => h) (Or.inl ⟨by rfl, ?_⟩) (by assumption) ?_
      rotate_left 1
      · intro w' hSw
        try dsimp only at hSw
        go_simp <;> with_reducible rfl
      try simp only [Act.put, List.setIfInBounds_toArray, List.set_cons_zero, List.set_cons_succ]
      refine wpAnyH_take (i := 23) (v := ?_) rfl (by kernel_rfl) (by kernel_rfl) (by kernel_rfl) (fun _ _ _ h => h) (Or.inl ⟨by rfl, ?_⟩) (by assumption) ?_
      rotate_left 1
      · intro w' hSw
        try dsimp only at hSw
        go_simp <;> with_reducible rfl
      try simp only [Act.put, List.setIfInBounds_toArray, List.set_cons_zero, List.set_cons_succ]
      refine wpAnyH_take (i := 24) (v := ?_) rfl (by kernel_rfl) (by kernel_rfl) (by kernel_rfl) (fun _ _ _ h => h) (Or.inl ⟨by rfl, ?_⟩) (by assumption) ?_
      rotate_left 1
      · intro w' hSw
        try dsimp only at hSw
        go_simp <;> with_reducible rfl
      try simp only [Act.put, List.setIfInBounds_toArray, List.set_cons_zero, List.set_cons_succ]
      refine wpAnyH_ready (rs := [25]) (by kernel_rfl) (by simp) ?_
      refine AllReadyH.cons (o := _) rfl (fun K hK => ?_) ?_
      · go_simp
        refine hK.out _ _ ?_ (fun hHeld => ?_)
        · exact HXS.out _ _ HG9.out
        clear hK K
        try simp only [Act.put, List.setIfInBounds_toArray, List.set_cons_zero, List.set_cons_succ]
        refine wpAnyH_done (by kernel_rfl) ?_ _
        refine NoPanic.normal ?_
        have hk := HK.out
        first
          | exact hk _ _ _ _ _ _ _ _ _ _ _ _ _ _ _ _ _ _ _ _ _ _ _ _ _ ((x + 1 + z) % P) w9 _ ⟨HG9.out, HD9.out, y4, y5, HY6.out, rfl⟩
          | exact hk _ _ _ _ _ _ _ _ _ _ _ _ _ _ _ _ _ _ _ _ _ _ _ _ _ ((x + 1 + z) % P) w9.drew _ ⟨grownBy_trans HG9.out (grownBy_of_below (Below.refl _ w9).drew _), HD9.out, y4, y5, HY6.out, rfl⟩
      exact AllReadyH.nil
    exact AllReadyH.nil
  exact AllReadyH.nil


end Go.Proofs.YtoiabanpnkpbhaaGreatDoor
