/- Joined: Km. -/
import Derived.Laws.CopyOwn
import Derived.Laws.Cover1
import Derived.Sort.Walk0
import Derived.Test.YtllnomembakboaaB05
namespace Go.Proofs.Ytllnomembakboaa
open Go.RowKit

/-- the order of keys -/
def klt (x y : ByteArray) : Bool := Op.bytesLess x.toList y.toList
theorem tl_inj {x y : ByteArray} (h : x.toList = y.toList) : x = y := by
  rw [Lib.toList_data, Lib.toList_data] at h
  cases x; cases y
  simp at h
  rw [ByteArray.mk.injEq]
  exact h
theorem klt_iff (x y : ByteArray) : klt x y = true ↔ x.toList < y.toList := by unfold klt; rw [bytesLess_eq]; simp
theorem klt_irrefl (x : ByteArray) : klt x x = false := by
  rw [Bool.eq_false_iff]; intro h; exact List.lt_irrefl _ ((klt_iff _ _).1 h)
theorem klt_trans {x y z : ByteArray} (h : klt x y = true) (k : klt y z = true) : klt x z = true := (klt_iff _ _).2 (List.lt_trans ((klt_iff _ _).1 h) ((klt_iff _ _).1 k))
theorem klt_total {x y : ByteArray} (h : x ≠ y) : klt x y = true ∨ klt y x = true := by
  rw [klt_iff, klt_iff]
  by_cases h1 : x.toList < y.toList
  · exact .inl h1
  · by_cases h2 : y.toList < x.toList
    · exact .inr h2
    · exact absurd (tl_inj (List.le_antisymm h2 h1)) h
theorem klt_asymm {x y : ByteArray} (h : klt x y = true) : klt y x = false := by
  rw [Bool.eq_false_iff]; intro k
  have := klt_trans h k
  rw [klt_irrefl] at this
  cases this
theorem kgt_eq (x y : ByteArray) : (!(Op.bytesLess x.toList y.toList || x.toList == y.toList)) = klt y x := by
  by_cases h : x = y
  · subst h; rw [klt_irrefl]; simp
  · have hne : (x.toList == y.toList) = false := by rw [beq_eq_false_iff_ne]; exact fun e => h (tl_inj e)
    rw [hne, Bool.or_false]
    rcases klt_total h with h1 | h1
    · rw [klt_asymm h1]; unfold klt at h1; rw [h1]; rfl
    · rw [h1]; have := klt_asymm h1; unfold klt at this; rw [this]; rfl
/-- entries in order -/
def Asc (l : List (ByteArray × Int)) : Prop := l.Pairwise fun a b => klt a.1 b.1 = true
theorem Asc.nil : Asc [] := List.Pairwise.nil
/-- an entry among sorted ones, behind those before k -/
theorem Asc.ins {l : List (ByteArray × Int)} (h : Asc l) {k : Nat} {e : ByteArray × Int} (hk : k ≤ l.length) (h1 : ∀ x ∈ l.drop k, klt e.1 x.1 = true) (h2 : 0 < k → ∃ x, l[k - 1]? = some x ∧ klt x.1 e.1 = true) : Asc (l.take k ++ e :: l.drop k) := by
  have hp : (l.take k ++ l.drop k).Pairwise fun a b => klt a.1 b.1 = true := by rw [List.take_append_drop]; exact h
  rw [List.pairwise_append] at hp
  unfold Asc
  rw [List.pairwise_append, List.pairwise_cons]
  refine ⟨hp.1, ⟨h1, hp.2.1⟩, fun a ha b hb => ?_⟩
  have hae : klt a.1 e.1 = true := by
    have hk0 : 0 < k := by
      rcases Nat.eq_zero_or_pos k with h0 | h0
      · subst h0; simp at ha
      · exact h0
    obtain ⟨x, hx, hxe⟩ := h2 hk0
    obtain ⟨j, hj, rfl⟩ := List.getElem_of_mem ha
    rw [List.getElem_take]
    have hjk : j < k := by simp at hj; omega
    have hjl : j < l.length := by omega
    obtain ⟨hkl, rfl⟩ := List.getElem?_eq_some_iff.1 hx
    by_cases hje : j = k - 1
    · subst hje; exact hxe
    · exact klt_trans (List.pairwise_iff_getElem.1 h j (k - 1) hjl hkl (by omega)) hxe
  rcases List.mem_cons.1 hb with rfl | hb
  · exact hae
  · exact klt_trans hae (h1 b hb)

theorem wpList_append_el_at {α : Type} {P : Program} (enc : α → List Value) (w : World) {ops : Array Oper} {rest : List Oper} {o : Oper} {a : Act} {Q : Exit → Act → World → Prop} (hgd : o.guard = none) (s x : Operand) (t : TypeId)
    (ho : o.op = .call { callee := .builtin .append, args := #[s, x], argTypes := #[t, t] })
    (base : Nat) (e : TypeId) (z : Value) (sz bytes : Nat) (ht : P.underlying t = some (.slice e)) (hinfo : (P.info? e).map (fun i => (i.zero, i.size, i.bytes)) = some (some z, sz, bytes)) (hzs : z.cells.size = sz) (hsz : 0 < sz) (hby : bytes ≤ 64)
    (v : Value) (l : List α) (hs : a.eval s = v) (hown : w.ownsRow base e sz v l.length (l.flatMap enc))
    (y : α) (hl : (enc y).length = sz) (h1 : ∀ u ∈ enc y, u.oneCell' = true) (hx : a.eval x = .slice (some ⟨w.heap.size, 0, none⟩) 1 1)
    (hlen : l.length + 1 ≤ 1000000) (hbase : base ≤ w.heap.size)
    (h : ∀ g cap w', w'.ownsRow base e sz (.slice (some ⟨g, 0, none⟩) (l ++ [y]).length cap) (l ++ [y]).length ((l ++ [y]).flatMap enc) → (w.alloc (.cells (enc y).toArray e)).grownBy w' v.ownBlock → (v.ownBlock = some g ∨ g = w.heap.size + 1) → wpList P ops Q rest (a.put o.dst (.slice (some ⟨g, 0, none⟩) (l ++ [y]).length cap)) w') :
    wpList P ops Q (o :: rest) a (w.alloc (.cells (enc y).toArray e)) := by
  obtain ⟨i0, hi0, hz0, hz1, hz2⟩ := info_parts hinfo
  refine wpList_plain hgd fun K hK => ?_
  have hbb : (l.length + 1) * bytes ≤ 1000000 * 64 := Nat.mul_le_mul hlen hby
  obtain ⟨v', w', hrun, h2, h3, h4⟩ := run_append_sc_at (P := P) (w.alloc (.cells (enc y).toArray e)) base t o.type e i0 z sz bytes ht hi0 hz0 hz1 hz2 hzs hsz v _ _ (hown.alloc _) (w.heap.size + 1) (.slice (some ⟨w.heap.size, 0, none⟩) 1 1) 1 (enc y) ⟨_, 1, rfl, by omega, fun _ => ⟨w.heap.size, 0, rfl, by omega, fun j u hu => by
    rw [Nat.zero_add]; exact cells_at w (enc y) e j u hu⟩⟩ h1 (by unfold maxLen; omega) (by omega) (by simp; omega)
  have h2' : w'.ownsRow base e sz v' (l ++ [y]).length ((l ++ [y]).flatMap enc) := by rw [List.length_append, List.flatMap_append]; simpa using h2
  rcases h2'.2 with ⟨_, hn'⟩ | ⟨g, cap, cur, rfl, hb, hg, hnc, hcm, hcs, htake⟩
  · simp at hn'
  · unfold Oper.wp execOp
    simp only [ho, resolve, invoke, builtin, Sem.run_bind, Sem.run_pure, Result.andThen_ok, List.map_toArray, List.map_cons, List.map_nil, hs, hx, hrun]
    refine hK _ _ (h g cap w' h2' h3 ?_)
    rcases h4 with e4 | e4
    · exact .inl (by rw [← e4]; rfl)
    · exact .inr (by simpa [Value.ownBlock] using e4)
theorem run_copy_rows {P : Program} (w : World) (dT sT ty elem : TypeId) (sz g o dLen dCap : Nat) (a : Addr) (sLen sCap : Nat) (cur : Array Value) (t : TypeId) (cs : List Value)
    (hu : P.underlying dT = some (.slice elem)) (hs : (P.info? elem).map (·.size) = some sz)
    (hg : w.heap[g]? = some (.cells cur t (0, 0))) (hn : cs.length = Nat.min sLen dLen * sz)
    (hsrc : ∀ j v, cs[j]? = some v → w.cell? (a.add j) = some v) (hfit : o + cs.length ≤ cur.size) (h1 : ∀ v ∈ cs, v.oneCell' = true) :
    (Builtin.copy_ #[dT, sT] ty #[.slice (some ⟨g, o, none⟩) dLen dCap, .slice (some a) sLen sCap]).run P w =
      .ok (goInt (Nat.min sLen dLen : Nat)) (w.setRow g (cur.toList.take o ++ cs ++ cur.toList.drop (o + cs.length)).toArray) := by
  have hl := run_loadCells_list (P := P) w a cs hsrc
  have hst := run_storeCells_at P g o t cs 0 cur w hg (by simpa using hfit) h1
  cases hq : P.info? elem with
  | none => simp [hq] at hs
  | some i =>
    have hi : i.size = sz := by simpa [hq] using hs
    simp [Builtin.copy_, run_underlying hu, Builtin.lenOf, Builtin.firstCells, sizeOf, typeInfo, hq, hi, ← hn, hl, hst]
theorem run_copy_zero {P : Program} (w : World) (dT sT ty elem : TypeId) (sz : Nat) (dp sp : Option Addr) (dLen dCap sLen sCap : Nat)
    (hu : P.underlying dT = some (.slice elem)) (hs : (P.info? elem).map (·.size) = some sz) (hn : Nat.min sLen dLen = 0) :
    (Builtin.copy_ #[dT, sT] ty #[.slice dp dLen dCap, .slice sp sLen sCap]).run P w = .ok (goInt 0) w := by
  cases hq : P.info? elem with
  | none => simp [hq] at hs
  | some i =>
    have hl : ∀ a : Addr, (loadCells a 0).run P w = .ok #[] w := fun a => run_loadCells_list (P := P) w a [] (fun j v h => by simp at h)
    cases dp <;> cases sp <;> simp [Builtin.copy_, run_underlying hu, Builtin.lenOf, Builtin.firstCells, sizeOf, typeInfo, hq, hn, storeCells, hl]
/-- copy of elements into a row, as a step of a region -/
theorem step_copy_el {P : Program} {ops : Array Oper} {o : Oper} {a : Act} {w : World} {K : Act → World → Prop} {Q : Exit → Act → World → Prop} {E : Prop} (hgd : o.guard = none) (d s : Operand) (dT sT : TypeId)
    (ho : o.op = .call { callee := .builtin .copy, args := #[d, s], argTypes := #[dT, sT] }) (elem : TypeId) (sz : Nat) (hu : P.underlying dT = some (.slice elem)) (hsz : (P.info? elem).map (·.size) = some sz)
    (dp sp : Option Addr) (dLen dCap sLen sCap : Nat) (hd : a.eval d = .slice dp dLen dCap) (hs : a.eval s = .slice sp sLen sCap)
    (g off : Nat) (cur : Array Value) (t : TypeId) (hg : w.heap[g]? = some (.cells cur t (0, 0))) (cs : List Value) (hn : cs.length = Nat.min sLen dLen * sz)
    (hpos : 0 < Nat.min sLen dLen → dp = some ⟨g, off, none⟩ ∧ ∃ ad, sp = some ad ∧ ∀ j v, cs[j]? = some v → w.cell? (ad.add j) = some v)
    (hfit : off + cs.length ≤ cur.size) (h1 : ∀ v ∈ cs, v.oneCell' = true)
    (h : ∀ w', w'.heap[g]? = some (.cells (cur.toList.take off ++ cs ++ cur.toList.drop (off + cs.length)).toArray t (0, 0)) → w.grownBy w' (some g) → K (a.put o.dst (goInt (Nat.min sLen dLen : Nat))) w') :
    if Region.wanted o (yielded ops a.tmps) = true then Oper.wp P o a w K Q else E := by
  have hw : Region.wanted o (yielded ops a.tmps) = true := by simp [Region.wanted, hgd]
  rw [if_pos hw]
  by_cases h0 : Nat.min sLen dLen = 0
  · have hcs : cs = [] := List.eq_nil_of_length_eq_zero (by rw [hn, h0]; simp)
    subst hcs
    have hrun := run_copy_zero (P := P) w dT sT o.type elem sz dp sp dLen dCap sLen sCap hu hsz h0
    unfold Oper.wp
    simp [execOp, ho, resolve, invoke, builtin, hd, hs, hrun, Result.andThen]
    have := h w (by simpa using hg) (grownBy_refl _ _)
    rw [h0] at this
    exact this
  · obtain ⟨rfl, ad, rfl, hsrc⟩ := hpos (by omega)
    have hrun := run_copy_rows (P := P) w dT sT o.type elem sz g off dLen dCap ad sLen sCap cur t cs hu hsz hg hn hsrc hfit h1
    unfold Oper.wp
    simp [execOp, ho, resolve, invoke, builtin, hd, hs, hrun, Result.andThen]
    have := h (w.setRow g (cur.toList.take off ++ cs ++ cur.toList.drop (off + cs.length)).toArray) (by rw [setRow_heap w g cur _ t _ hg]) ⟨rfl, rfl, rfl, by simp, fun k _ hk => by
      have hne : k ≠ g := fun e => hk (by rw [e])
      simp [World.setRow, Array.getElem?_modify, Ne.symm hne]⟩
    rw [List.append_assoc] at this
    exact this
theorem own_cur {w : World} {M g cap n size : Nat} {e : TypeId} {xs : List Value} (ho : w.ownsRow M e size (.slice (some ⟨g, 0, none⟩) n cap) n xs) : ∃ cur : Array Value, w.heap[g]? = some (.cells cur e (0, 0)) ∧ cur.size = cap * size ∧ n ≤ cap ∧ cap ≤ 9223372036854775807 ∧ M ≤ g := by
  rcases ho.2 with ⟨h', _⟩ | ⟨g', cap', cur, h', hb, hg, hnc, hcm, hcs, htake⟩
  · simp at h'
  · simp only [Value.slice.injEq, Option.some.injEq, Addr.mk.injEq, and_true, true_and] at h'
    obtain ⟨rfl, rfl⟩ := h'
    exact ⟨cur, hg, hcs, hnc, by simpa [maxLen] using hcm, hb⟩
theorem fm_len (l : List (ByteArray × Int)) : (l.flatMap ecs).length = l.length * 2 := by
  induction l with
  | nil => rfl
  | cons a l ih => rw [List.flatMap_cons, List.length_append, ih, ecs_len]; simp; omega
/-- a row into which an entry was put at m: what stood from there on was copied one place on -/
theorem ins_own {w7 w8 : World} {M g cap m : Nat} {S : List (ByteArray × Int)} {z e : ByteArray × Int}
    (ho : w7.ownsRow M 41 2 (.slice (some ⟨g, 0, none⟩) (S.length + 1) cap) (S.length + 1) ((S ++ [z]).flatMap ecs)) (hm : m ≤ S.length) {cur : Array Value} (hc : w7.heap[g]? = some (.cells cur 41 (0, 0)))
    (h8 : w8.heap[g]? = some (.cells (cur.toList.take ((m + 1) * 2) ++ (S.drop m).flatMap ecs ++ cur.toList.drop ((m + 1) * 2 + ((S.drop m).flatMap ecs).length)).toArray 41 (0, 0))) :
    ((w8.setCell ⟨g, m * 2, none⟩ (.string e.1)).setCell ⟨g, m * 2 + 1, none⟩ (.int .i64 e.2)).ownsRow M 41 2 (.slice (some ⟨g, 0, none⟩) (S.length + 1) cap) (S.length + 1) ((S.take m ++ e :: S.drop m).flatMap ecs) := by
  rcases ho.2 with ⟨h', _⟩ | ⟨g', cap', cur', h', hb, hg, hnc, hcm, hcs, htake⟩
  · simp at h'
  simp only [Value.slice.injEq, Option.some.injEq, Addr.mk.injEq, and_true, true_and] at h'
  obtain ⟨rfl, rfl⟩ := h'
  rw [hc] at hg
  injection hg with hg
  injection hg with hg _ _
  subst hg
  obtain ⟨P, eP⟩ : ∃ P, P = (S.take m).flatMap ecs := ⟨_, rfl⟩
  obtain ⟨Q, eQ⟩ : ∃ Q, Q = (S.drop m).flatMap ecs := ⟨_, rfl⟩
  have hPl : P.length = m * 2 := by rw [eP, fm_len, List.length_take]; omega
  have hQl : Q.length = (S.length - m) * 2 := by rw [eQ, fm_len, List.length_drop]
  have hPQ : S.flatMap ecs = P ++ Q := by rw [eP, eQ, ← List.flatMap_append, List.take_append_drop]
  obtain ⟨R, eR⟩ : ∃ R, R = cur.toList.drop ((S.length + 1) * 2) := ⟨_, rfl⟩
  have hL : cur.toList = P ++ (Q ++ (ecs z ++ R)) := by
    rw [← List.take_append_drop ((S.length + 1) * 2) cur.toList, htake, ← eR, List.flatMap_append, hPQ]
    simp
  obtain ⟨a, b, T, hT⟩ : ∃ a b T, Q ++ (ecs z ++ R) = a :: b :: T := by
    cases hq : Q ++ (ecs z ++ R) with
    | nil => have := congrArg List.length hq; simp [ecs] at this
    | cons a t =>
      cases t with
      | nil => have := congrArg List.length hq; simp [ecs] at this; omega
      | cons b t => exact ⟨a, b, t, rfl⟩
  have h1 : cur.toList.take ((m + 1) * 2) = P ++ [a, b] := by
    rw [hL, hT, List.take_append, List.take_of_length_le (by omega), show (m + 1) * 2 - P.length = 2 by omega]
    rfl
  have h2 : cur.toList.drop ((m + 1) * 2 + Q.length) = R := by
    rw [eR]
    congr 1
    omega
  rw [← eQ, h1, h2] at h8
  have h9 := heap_setCell_same _ g (m * 2 + 1) _ _ (.int .i64 e.2) (heap_setCell_same w8 g (m * 2) _ _ (.string e.1) h8)
  have hfin : (P ++ [a, b] ++ Q ++ R).set (m * 2) (.string e.1) = P ++ [.string e.1, b] ++ Q ++ R := by
    simp [hPl]
  have hfin2 : (P ++ [Value.string e.1, b] ++ Q ++ R).set (m * 2 + 1) (.int .i64 e.2) = P ++ ecs e ++ Q ++ R := by
    simp [hPl, ecs]
  refine ⟨?_, .inr ⟨g, cap, (P ++ ecs e ++ Q ++ R).toArray, rfl, hb, ?_, hnc, hcm, ?_, ?_⟩⟩
  · rw [fm_len, List.length_append, List.length_take, List.length_cons, List.length_drop]
    omega
  · rw [h9]
    simp only [List.setIfInBounds_toArray]
    rw [hfin, hfin2]
  · have := congrArg List.length hL
    simp [ecs] at this ⊢
    rw [hcs] at this
    omega
  · rw [List.flatMap_append, List.flatMap_cons, ← eP, ← eQ]
    dsimp only
    rw [List.append_assoc, List.append_assoc, List.take_append, List.take_of_length_le (by omega)]
    congr 1
    rw [List.take_append, List.take_of_length_le (by rw [ecs_len]; omega)]
    congr 1
    rw [ecs_len, List.take_append, List.take_of_length_le (by omega), show (S.length + 1) * 2 - P.length - 2 - Q.length = 0 by omega]
    simp
end Go.Proofs.Ytllnomembakboaa
