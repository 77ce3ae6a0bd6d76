/- Joined: App Res Re2. -/
import Derived.Maps.AppendAt
import Derived.OwnWalk
import Derived.Test.YtbgabipngdillaaJ01
import Derived.Test.YtbgabipngdillaaJ03
namespace Go.Proofs.Ytbgabipngdillaa
open Go.RowKit
section
variable {P : Program} (w : World)

theorem run_append_of_nil (base : Nat) (t ty e : TypeId) (i : TypeInfo) (size : Nat) (ht : P.underlying t = some (.slice e)) (hi : P.info? e = some i)
    (v : Value) (n : Nat) (xs : List Value) (hown : w.ownsRow base e size v n xs) (c : Nat) : (Builtin.append_ #[t, t] ty #[v, .slice none 0 c]).run P w = .ok v w := by
  rcases hown.2 with ⟨rfl, rfl⟩ | ⟨g, cap, cur, rfl, _, _, hnc, _⟩
  · simp [Builtin.append_, run_underlying ht, sizeOf, typeInfo, hi, Builtin.lenOf, Builtin.firstCells]
  · simp [Builtin.append_, run_underlying ht, sizeOf, typeInfo, hi, Builtin.lenOf, Builtin.firstCells, hnc, storeCells]

/-- A slice whose n elements of sz cells each are the cells cs. -/
def SC (B : Nat) (w : World) (v : Value) (n sz : Nat) (cs : List Value) : Prop :=
  ∃ A c, v = .slice A n c ∧ cs.length = n * sz ∧ (0 < n → ∃ b off, A = some ⟨b, off, none⟩ ∧ b < B ∧ ∀ j u, cs[j]? = some u → w.cell? ⟨b, off + j, none⟩ = some u)
theorem SB.sc {B : Nat} {w : World} {v : Value} {l : List Int} (h : SB B w v l) : SC B w v l.length 1 (l.map (Value.int .i64)) := by
  obtain ⟨A, c, rfl, hc, hm, hr, ha⟩ := h
  refine ⟨A, c, rfl, by simp, fun h0 => ?_⟩
  obtain ⟨b, off, rfl, hb, hcell⟩ := ha h0
  refine ⟨b, off, rfl, hb, fun j u hu => ?_⟩
  rw [List.getElem?_map] at hu
  obtain ⟨x, hx, rfl⟩ := Option.map_eq_some_iff.1 hu
  obtain ⟨hj, rfl⟩ := List.getElem?_eq_some_iff.1 hx
  exact hcell j hj

theorem run_append_sc (base : Nat) (t ty e : TypeId) (i : TypeInfo) (z : Value) (size bytes : Nat) (ht : P.underlying t = some (.slice e)) (hi : P.info? e = some i) (hz : i.zero = some z)
    (hsize : i.size = size) (hby : i.bytes = bytes) (hzs : z.cells.size = size) (hsz : 0 < size)
    (v : Value) (n : Nat) (xs : List Value) (hown : w.ownsRow base e size v n xs)
    (B : Nat) (src : Value) (m : Nat) (news : List Value) (hr : SC B w src m size news) (h1 : ∀ u ∈ news, u.oneCell' = true)
    (h63 : n + m ≤ maxLen) (hbytes : (n + m) * bytes ≤ 140737488355328) (hbase : base ≤ w.heap.size) :
    ∃ v' w', (Builtin.append_ #[t, t] ty #[v, src]).run P w = .ok v' w' ∧ w'.ownsRow base e size v' (n + m) (xs ++ news) ∧ w.grownBy w' v.ownBlock := by
  obtain ⟨A, c, rfl, hl, ha⟩ := hr
  rcases Nat.eq_zero_or_pos m with h0 | h0
  · subst h0
    have hn : news = [] := List.eq_nil_of_length_eq_zero (by simpa using hl)
    subst hn
    rcases A with _ | ad
    · exact ⟨v, w, run_append_of_nil w base t ty e i size ht hi v n xs hown c, by simpa using hown, grownBy_refl w _⟩
    · obtain ⟨v', w', hrun, h2, h3, _, h5⟩ := run_append_own_at (P := P) w base t ty e i z size bytes ht hi hz hsize hby hzs hsz v n xs hown ad 0 c [] hl (by simp) h1 h63 hbytes hbase
      exact ⟨v', w', hrun, h2, h3⟩
  · obtain ⟨b, off, rfl, hb, hc⟩ := ha h0
    obtain ⟨v', w', hrun, h2, h3, _, h5⟩ := run_append_own_at (P := P) w base t ty e i z size bytes ht hi hz hsize hby hzs hsz v n xs hown ⟨b, off, none⟩ m c news hl (fun j u hu => by
      have : (⟨b, off, none⟩ : Addr).add j = ⟨b, off + j, none⟩ := by unfold Addr.add; split <;> simp_all
      rw [this]; exact hc j u hu) h1 h63 hbytes hbase
    exact ⟨v', w', hrun, h2, h3⟩

theorem wp_append_sc {o : Oper} {a : Act} {K : Act → World → Prop} {Q : Exit → Act → World → Prop} (s x : Operand) (t : TypeId)
    (ho : o.op = .call { callee := .builtin .append, args := #[s, x], argTypes := #[t, t] })
    (base : Nat) (e : TypeId) (i : TypeInfo) (z : Value) (size bytes : Nat) (ht : P.underlying t = some (.slice e)) (hi : P.info? e = some i) (hz : i.zero = some z)
    (hsize : i.size = size) (hby : i.bytes = bytes) (hzs : z.cells.size = size) (hsz : 0 < size)
    (v : Value) (n : Nat) (xs : List Value) (hs : a.eval s = v) (hown : w.ownsRow base e size v n xs)
    (B : Nat) (src : Value) (m : Nat) (news : List Value) (hx : a.eval x = src) (hr : SC B w src m size news) (h1 : ∀ u ∈ news, u.oneCell' = true)
    (h63 : n + m ≤ maxLen) (hbytes : (n + m) * bytes ≤ 140737488355328) (hbase : base ≤ w.heap.size)
    (h : ∀ v' w', w'.ownsRow base e size v' (n + m) (xs ++ news) → w.grownBy w' v.ownBlock → K (a.put o.dst v') w') : o.wp P a w K Q := by
  obtain ⟨v', w', hrun, h2, h3⟩ := run_append_sc (P := P) w base t o.type e i z size bytes ht hi hz hsize hby hzs hsz v n xs hown B src m news hr h1 h63 hbytes hbase
  unfold Oper.wp execOp
  simp only [ho, resolve, invoke, builtin, Sem.run_bind, Sem.run_pure, Result.andThen_ok, List.map_toArray, List.map_cons, List.map_nil, hs, hx, hrun]
  exact h v' w' h2 h3

theorem wpList_append_sc {ops : Array Oper} {rest : List Oper} {o : Oper} {a : Act} {Q : Exit → Act → World → Prop} (hgd : o.guard = none) (s x : Operand) (t : TypeId)
    (ho : o.op = .call { callee := .builtin .append, args := #[s, x], argTypes := #[t, t] })
    (base : Nat) (e : TypeId) (i : TypeInfo) (z : Value) (size bytes : Nat) (ht : P.underlying t = some (.slice e)) (hi : P.info? e = some i) (hz : i.zero = some z)
    (hsize : i.size = size) (hby : i.bytes = bytes) (hzs : z.cells.size = size) (hsz : 0 < size)
    (v : Value) (n : Nat) (xs : List Value) (hs : a.eval s = v) (hown : w.ownsRow base e size v n xs)
    (B : Nat) (src : Value) (m : Nat) (news : List Value) (hx : a.eval x = src) (hr : SC B w src m size news) (h1 : ∀ u ∈ news, u.oneCell' = true)
    (h63 : n + m ≤ maxLen) (hbytes : (n + m) * bytes ≤ 140737488355328) (hbase : base ≤ w.heap.size)
    (h : ∀ v' w', w'.ownsRow base e size v' (n + m) (xs ++ news) → w.grownBy w' v.ownBlock → wpList P ops Q rest (a.put o.dst v') w') : wpList P ops Q (o :: rest) a w :=
  wpList_plain hgd fun _ hK => wp_append_sc w s x t ho base e i z size bytes ht hi hz hsize hby hzs hsz v n xs hs hown B src m news hx hr h1 h63 hbytes hbase fun v' w' h2 h3 => hK _ _ (h v' w' h2 h3)
end
theorem iinfo : (Try.prog.info? 3).map (fun i => (i.zero, i.size, i.bytes)) = some (some (.int .i64 0), 1, 8) := by kernel_rfl
theorem one_ints (l : List Int) : ∀ u ∈ l.map (Value.int .i64), u.oneCell' = true := by
  intro u hu
  obtain ⟨x, _, rfl⟩ := List.mem_map.1 hu
  rfl
/-- append(own, ints...) -/
theorem wpList_append_ints {P : Program} (w : World) {ops : Array Oper} {rest : List Oper} {o : Oper} {a : Act} {Q : Exit → Act → World → Prop} (hgd : o.guard = none) (s x : Operand) (t : TypeId)
    (ho : o.op = .call { callee := .builtin .append, args := #[s, x], argTypes := #[t, t] })
    (base : Nat) (e : TypeId) (ht : P.underlying t = some (.slice e)) (hinfo : (P.info? e).map (fun i => (i.zero, i.size, i.bytes)) = some (some (.int .i64 0), 1, 8))
    (v : Value) (xs : List Int) (hs : a.eval s = v) (hown : w.ownsRow base e 1 v xs.length (xs.map (Value.int .i64)))
    (B : Nat) (src : Value) (l : List Int) (hx : a.eval x = src) (hr : SB B w src l)
    (hbytes : xs.length + l.length ≤ 17592186044416) (hbase : base ≤ w.heap.size)
    (h : ∀ v' w', w'.ownsRow base e 1 v' (xs ++ l).length ((xs ++ l).map (Value.int .i64)) → w.grownBy w' v.ownBlock → wpList P ops Q rest (a.put o.dst v') w') : wpList P ops Q (o :: rest) a w := by
  obtain ⟨i0, hi0, hz0, hz1, hz2⟩ := info_parts hinfo
  refine wpList_append_sc w hgd s x t ho base e i0 _ 1 8 ht hi0 hz0 hz1 hz2 rfl (by omega) v _ _ hs hown B src _ _ hx hr.sc (one_ints l) (by unfold maxLen; omega) (by omega) hbase fun v' w' h1 h2 => h v' w' (by rw [List.length_append, List.map_append]; exact h1) h2
/-- append(own, x) -/
theorem wpList_append_int1 {P : Program} (w : World) {ops : Array Oper} {rest : List Oper} {o : Oper} {a : Act} {Q : Exit → Act → World → Prop} (hgd : o.guard = none) (s x : Operand) (t : TypeId)
    (ho : o.op = .call { callee := .builtin .append, args := #[s, x], argTypes := #[t, t] })
    (base : Nat) (e : TypeId) (ht : P.underlying t = some (.slice e)) (hinfo : (P.info? e).map (fun i => (i.zero, i.size, i.bytes)) = some (some (.int .i64 0), 1, 8))
    (v : Value) (xs : List Int) (hs : a.eval s = v) (hown : w.ownsRow base e 1 v xs.length (xs.map (Value.int .i64)))
    (y : Int) (hx : a.eval x = .slice (some ⟨w.heap.size, 0, none⟩) 1 1)
    (hbytes : xs.length + 1 ≤ 17592186044416) (hbase : base ≤ w.heap.size)
    (h : ∀ v' w', w'.ownsRow base e 1 v' (xs ++ [y]).length ((xs ++ [y]).map (Value.int .i64)) → (w.alloc (.cells #[.int .i64 y] e)).grownBy w' v.ownBlock → wpList P ops Q rest (a.put o.dst v') w') : wpList P ops Q (o :: rest) a (w.alloc (.cells #[.int .i64 y] e)) := by
  obtain ⟨i0, hi0, hz0, hz1, hz2⟩ := info_parts hinfo
  refine wpList_append_own _ hgd s x t ho base e i0 _ 1 8 ht hi0 hz0 hz1 hz2 rfl (by omega) v _ _ hs (hown.alloc _) ⟨w.heap.size, 0, none⟩ 1 1 [.int .i64 y] hx rfl (cells_new w [.int .i64 y] e) (by intro u hu; simp at hu; subst hu; rfl) (by unfold maxLen; omega) (by omega) (by simp; omega) fun v' w' h1 h2 _ => h v' w' (by rw [List.length_append, List.map_append]; exact h1) h2
/-- append(own, x) inside a region that draws its order -/
theorem step_append_int1 {P : Program} (w : World) {ops : Array Oper} {o : Oper} {a : Act} {K : Act → World → Prop} {Q : Exit → Act → World → Prop} {E : Prop} (hgd : o.guard = none) (s x : Operand) (t : TypeId)
    (ho : o.op = .call { callee := .builtin .append, args := #[s, x], argTypes := #[t, t] })
    (base : Nat) (e : TypeId) (ht : P.underlying t = some (.slice e)) (hinfo : (P.info? e).map (fun i => (i.zero, i.size, i.bytes)) = some (some (.int .i64 0), 1, 8))
    (v : Value) (xs : List Int) (hs : a.eval s = v) (hown : w.ownsRow base e 1 v xs.length (xs.map (Value.int .i64)))
    (y : Int) (b : Nat) (hx : a.eval x = .slice (some ⟨b, 0, none⟩) 1 1) (hc : w.cell? ⟨b, 0, none⟩ = some (.int .i64 y))
    (hbytes : xs.length + 1 ≤ 17592186044416) (hbase : base ≤ w.heap.size)
    (h : ∀ v' w', w'.ownsRow base e 1 v' (xs ++ [y]).length ((xs ++ [y]).map (Value.int .i64)) → w.grownBy w' v.ownBlock → K (a.put o.dst v') w') :
    if Region.wanted o (yielded ops a.tmps) = true then Oper.wp P o a w K Q else E := by
  obtain ⟨i0, hi0, hz0, hz1, hz2⟩ := info_parts hinfo
  have hw : Region.wanted o (yielded ops a.tmps) = true := by simp [Region.wanted, hgd]
  rw [if_pos hw]
  refine wp_append_sc w s x t ho base e i0 _ 1 8 ht hi0 hz0 hz1 hz2 rfl (by omega) v _ _ hs hown (b + 1) _ 1 [.int .i64 y] hx ⟨_, 1, rfl, rfl, fun _ => ⟨b, 0, rfl, by omega, fun j u hu => ?_⟩⟩ (by intro u hu; simp at hu; subst hu; rfl) (by unfold maxLen; omega) (by omega) hbase fun v' w' h1 h2 => h v' w' (by rw [List.length_append, List.map_append]; exact h1) h2
  cases j with
  | zero => simp at hu; subst hu; exact hc
  | succ j => simp at hu
theorem run_append_sc_at {P : Program} (w : World) (base : Nat) (t ty e : TypeId) (i : TypeInfo) (z : Value) (size bytes : Nat) (ht : P.underlying t = some (.slice e)) (hi : P.info? e = some i) (hz : i.zero = some z)
    (hsize : i.size = size) (hby : i.bytes = bytes) (hzs : z.cells.size = size) (hsz : 0 < size)
    (v : Value) (n : Nat) (xs : List Value) (hown : w.ownsRow base e size v n xs)
    (B : Nat) (src : Value) (m : Nat) (news : List Value) (hr : SC B w src m size news) (h1 : ∀ u ∈ news, u.oneCell' = true)
    (h63 : n + m ≤ maxLen) (hbytes : (n + m) * bytes ≤ 140737488355328) (hbase : base ≤ w.heap.size) :
    ∃ v' w', (Builtin.append_ #[t, t] ty #[v, src]).run P w = .ok v' w' ∧ w'.ownsRow base e size v' (n + m) (xs ++ news) ∧ w.grownBy w' v.ownBlock ∧ (v'.ownBlock = v.ownBlock ∨ v'.ownBlock = some w.heap.size) := by
  obtain ⟨A, c, rfl, hl, ha⟩ := hr
  rcases Nat.eq_zero_or_pos m with h0 | h0
  · subst h0
    have hn : news = [] := List.eq_nil_of_length_eq_zero (by simpa using hl)
    subst hn
    rcases A with _ | ad
    · exact ⟨v, w, run_append_of_nil w base t ty e i size ht hi v n xs hown c, by simpa using hown, grownBy_refl w _, .inl rfl⟩
    · obtain ⟨v', w', hrun, h2, h3, _, h5⟩ := run_append_own_at (P := P) w base t ty e i z size bytes ht hi hz hsize hby hzs hsz v n xs hown ad 0 c [] hl (by simp) h1 h63 hbytes hbase
      exact ⟨v', w', hrun, h2, h3, h5⟩
  · obtain ⟨b, off, rfl, hb, hc⟩ := ha h0
    obtain ⟨v', w', hrun, h2, h3, _, h5⟩ := run_append_own_at (P := P) w base t ty e i z size bytes ht hi hz hsize hby hzs hsz v n xs hown ⟨b, off, none⟩ m c news hl (fun j u hu => by
      have : (⟨b, off, none⟩ : Addr).add j = ⟨b, off + j, none⟩ := by unfold Addr.add; split <;> simp_all
      rw [this]; exact hc j u hu) h1 h63 hbytes hbase
    exact ⟨v', w', hrun, h2, h3, h5⟩
theorem step_append_int1_at {P : Program} (w : World) {ops : Array Oper} {o : Oper} {a : Act} {K : Act → World → Prop} {Q : Exit → Act → World → Prop} {E : Prop} (hgd : o.guard = none) (s x : Operand) (t : TypeId)
    (ho : o.op = .call { callee := .builtin .append, args := #[s, x], argTypes := #[t, t] })
    (base : Nat) (e : TypeId) (ht : P.underlying t = some (.slice e)) (hinfo : (P.info? e).map (fun i => (i.zero, i.size, i.bytes)) = some (some (.int .i64 0), 1, 8))
    (v : Value) (xs : List Int) (hs : a.eval s = v) (hown : w.ownsRow base e 1 v xs.length (xs.map (Value.int .i64)))
    (y : Int) (b : Nat) (hx : a.eval x = .slice (some ⟨b, 0, none⟩) 1 1) (hc : w.cell? ⟨b, 0, none⟩ = some (.int .i64 y))
    (hbytes : xs.length + 1 ≤ 17592186044416) (hbase : base ≤ w.heap.size)
    (h : ∀ g cap w', w'.ownsRow base e 1 (.slice (some ⟨g, 0, none⟩) (xs ++ [y]).length cap) (xs ++ [y]).length ((xs ++ [y]).map (Value.int .i64)) → w.grownBy w' v.ownBlock → (v.ownBlock = some g ∨ g = w.heap.size) → K (a.put o.dst (.slice (some ⟨g, 0, none⟩) (xs ++ [y]).length cap)) w') :
    if Region.wanted o (yielded ops a.tmps) = true then Oper.wp P o a w K Q else E := by
  obtain ⟨i0, hi0, hz0, hz1, hz2⟩ := info_parts hinfo
  have hw : Region.wanted o (yielded ops a.tmps) = true := by simp [Region.wanted, hgd]
  rw [if_pos hw]
  obtain ⟨v', w', hrun, h2, h3, h4⟩ := run_append_sc_at (P := P) w base t o.type e i0 _ 1 8 ht hi0 hz0 hz1 hz2 rfl (by omega) v _ _ hown (b + 1) (.slice (some ⟨b, 0, none⟩) 1 1) 1 [.int .i64 y] ⟨_, 1, rfl, rfl, fun _ => ⟨b, 0, rfl, by omega, fun j u hu => by
    cases j with
    | zero => simp at hu; subst hu; exact hc
    | succ j => simp at hu⟩⟩ (by intro u hu; simp at hu; subst hu; rfl) (by unfold maxLen; omega) (by omega) hbase
  have h2' : w'.ownsRow base e 1 v' (xs ++ [y]).length ((xs ++ [y]).map (Value.int .i64)) := by rw [List.length_append, List.map_append]; exact h2
  rcases h2'.2 with ⟨_, hn'⟩ | ⟨g, cap, cur, rfl, hb, hg, hnc, hcm, hcs, htake⟩
  · simp at hn'
  · unfold Oper.wp execOp
    simp only [ho, resolve, invoke, builtin, Sem.run_bind, Sem.run_pure, Result.andThen_ok, List.map_toArray, List.map_cons, List.map_nil, hs, hx, hrun]
    refine h g cap w' h2' h3 ?_
    rcases h4 with e4 | e4
    · exact .inl (by rw [← e4]; rfl)
    · exact .inr (by simpa [Value.ownBlock] using e4)
theorem own_form {w : World} {base e size n : Nat} {v : Value} {xs : List Value} (h : w.ownsRow base e size v n xs) (hn : 0 < n) : ∃ g cap, v = .slice (some ⟨g, 0, none⟩) n cap ∧ base ≤ g ∧ g < w.heap.size := by
  rcases h.2 with ⟨rfl, hn'⟩ | ⟨g, cap, cur, rfl, hb, hg, hnc, hcm, hcs, htake⟩
  · omega
  · exact ⟨g, cap, rfl, hb, heap_of_cells hg⟩
theorem own_int {w : World} {base e g cap : Nat} {l : List Int} (h : w.ownsRow base e 1 (.slice (some ⟨g, 0, none⟩) l.length cap) l.length (l.map (Value.int .i64))) (j : Nat) (hj : j < l.length) :
    w.cell? ⟨g, j, none⟩ = some (.int .i64 l[j]) := by
  have k0 := h.cellAt j (by omega)
  rw [List.getElem?_map, List.getElem?_eq_getElem hj] at k0
  exact k0
theorem own_cell {w w1 : World} {cs : Array Value} {T : TypeId} (h : Below (w.alloc (.cells cs T)).heap.size (w.alloc (.cells cs T)) w1) (i : Nat) : w1.cell? ⟨w.heap.size, i, none⟩ = cs[i]? := by
  rw [h.cell (by simp), cell_of_row _ w.heap.size i cs T (0, 0) (heap_alloc_new w _)]
theorem SB.cells {B c n : Nat} {A : Option Addr} {w : World} {l : List Int} (h : SB B w (.slice A n c) l) (h0 : 0 < l.length) :
    ∃ b off, A = some ⟨b, off, none⟩ ∧ b < B ∧ ∀ j (h : j < l.length), w.cell? ⟨b, off + j, none⟩ = some (.int .i64 l[j]) := by
  obtain ⟨A', c', e, _, _, _, ha⟩ := h
  injection e with e1 e2 e3
  subst e1
  exact ha h0
/-- a literal slice that the call made -/
theorem own_lit {base : Nat} (w : World) (e : TypeId) (l : List Value) (hb : base ≤ w.heap.size) (hm : l.length ≤ maxLen) :
    (w.alloc (.cells l.toArray e)).ownsRow base e 1 (.slice (some ⟨w.heap.size, 0, none⟩) l.length l.length) l.length l := by
  have := World.ownsRow_lit (e := e) (size := 1) w l.toArray l.length hb hm (by simp)
  simpa using this
end Go.Proofs.Ytbgabipngdillaa

namespace Go.Proofs.Ytbgabipngdillaa
open Go.RowKit

theorem wrapin {x : Int} (h : -9223372036854775808 ≤ x ∧ x ≤ 9223372036854775807) : i64r x := h
theorem mul_bd {a b P : Int} (ha : 0 ≤ a ∧ a < P) (hb : 0 ≤ b ∧ b < P) (hP : P ≤ 65521) : 0 ≤ a * b ∧ a * b ≤ 4293001441 := by
  have h1 := Int.mul_nonneg ha.1 hb.1
  have h2 : a * b ≤ 65521 * 65521 := Int.mul_le_mul (by omega) (by omega) hb.1 (by omega)
  omega

/-- the prime, or 0 -/
def ofP (P : Int) : Int := if prB P = true then P else 0
theorem ofP_t {P : Int} (h : prB P = true) : ofP P = P := if_pos h
theorem ofP_f {P : Int} (h : prB P = false) : ofP P = 0 := by unfold ofP; rw [h]; rfl
set_option maxHeartbeats 1000000 in
theorem of_any (P : Int) (w : World) (hP : i64r P) :
    Calls Try.prog 71 #[.agg #[.int .i64 P]] w fun e w' => e = .returned (.tuple #[.int .i64 (ofP P), .bool (prB P)]) ∧ Below w.heap.size w w' := by
  obtain ⟨hP1, hP2⟩ := hP
  by_cases h1 : P < 2
  · have HB := Lib.hid (prB_f (.inl h1))
    go_enter Try.func71, Try.ntmps71
    go_wp2
    go_ret2
    exact ⟨by first | (rw [HB.out, ofP_f HB.out]; rfl) | (rw [HB.out, ofP_t HB.out]; rfl), (Below.refl _ _).alloc (Nat.le_refl _) _⟩
  by_cases h2 : 65521 < P
  · have HB := Lib.hid (prB_f (.inr h2))
    go_enter Try.func71, Try.ntmps71
    go_wp2
    go_ret2
    exact ⟨by first | (rw [HB.out, ofP_f HB.out]; rfl) | (rw [HB.out, ofP_t HB.out]; rfl), (Below.refl _ _).alloc (Nat.le_refl _) _⟩
  have h3 : 2 ≤ P := by omega
  have h4 : P ≤ 65521 := by omega
  clear h1 h2
  go_enter Try.func71, Try.ntmps71
  go_wp2
  go_loop [4] (fun i => ∃ d : Nat, 2 ≤ d ∧ d ≤ 256 ∧ i = .int .i64 d ∧ ∀ e : Nat, 2 ≤ e → e < d → P % e ≠ 0) (fun i => 300 - (intOf i).toNat)
  case atStart => exact ⟨2, by omega, by omega, rfl, fun e h1 h2 => absurd h1 (by omega)⟩
  case round =>
    obtain ⟨d, hd1, hd2, rfl, hno⟩ := hrel
    have HN := Lib.hid hno
    clear hno
    have hdd : (d : Int) * d ≤ 65536 := by
      have : (d : Int) * d ≤ 256 * 256 := Int.mul_le_mul (by omega) (by omega) (by omega) (by omega)
      omega
    have hdn : 0 ≤ (d : Int) * d := Int.mul_nonneg (by omega) (by omega)
    by_cases hc : (d : Int) * d ≤ P
    · have hd3 : d < 256 := by
        rcases Nat.lt_or_ge d 256 with h | h
        · exact h
        · have h5 : (256 : Int) * 256 ≤ (d : Int) * d := Int.mul_le_mul (by omega) (by omega) (by omega) (by omega)
          omega
      by_cases hm : P % d = 0
      · have HB := Lib.hid (prB_div hd1 hc hm)
        have hb1 : (P % (d : Int) == 0) = true := by rw [beq_iff_eq]; exact hm
        go_wp2
        go_ret2
        exact ⟨by first | (rw [HB.out, ofP_f HB.out]; rfl) | (rw [HB.out, ofP_t HB.out]; rfl), (Below.refl _ _).alloc (Nat.le_refl _) _⟩
      · have hb1 : (P % (d : Int) == 0) = false := by rw [beq_eq_false_iff_ne]; exact hm
        have HM := Lib.hid hm
        clear hm
        go_wp2
        go_round
        case rel => exact ⟨d + 1, by omega, by omega, by go_num, fun e h1 h2 => by
          by_cases h : e = d
          · subst h; exact HM.out
          · exact HN.out e h1 (by omega)⟩
        case measure => simp [intOf]; omega
    · have HB : Hid (prB P = true) := prB_of h3 h4 (fun e h1 h2 => by
        refine HN.out e h1 ?_
        rcases Nat.lt_or_ge e d with h | h
        · exact h
        · have h5 : (d : Int) * d ≤ (e : Int) * e := Int.mul_le_mul (by omega) (by omega) (by omega) (by omega)
          omega)
      go_wp2
      go_ret2
      exact ⟨by first | (rw [HB.out, ofP_f HB.out]; rfl) | (rw [HB.out, ofP_t HB.out]; rfl), (Below.refl _ _).alloc (Nat.le_refl _) _⟩

theorem has_any (P a : Int) (w : World) :
    Calls Try.prog 72 #[.int .i64 P, .int .i64 a] w fun e w' => e = .returned (.bool (el P a)) ∧ w = w' := by
  by_cases h1 : 0 ≤ a
  · have HB := Lib.hid (show el P a = decide (a < P) by unfold el; simp [h1])
    go_enter Try.func72, Try.ntmps72
    go_wp2
    go_ret
    exact ⟨ret_bool HB.out.symm, rfl⟩
  · have HB := Lib.hid (show el P a = false by unfold el; simp [h1])
    go_enter Try.func72, Try.ntmps72
    go_wp2
    go_ret
    exact ⟨ret_bool HB.out.symm, rfl⟩
theorem mul_any (P a b : Int) (w : World) (hP : 2 ≤ P ∧ P ≤ 65521) (ha : 0 ≤ a ∧ a < P) (hb : 0 ≤ b ∧ b < P) :
    Calls Try.prog 73 #[.int .i64 P, .int .i64 a, .int .i64 b] w fun e w' => e = .returned (.int .i64 (a * b % P)) ∧ w = w' := by
  have hm := mul_bd ha hb hP.2
  have hne : (P == 0) = false := by simp; omega
  go_enter Try.func73, Try.ntmps73
  go_wp2
  go_ret
  exact ⟨rfl, rfl⟩
theorem add_any (P a b : Int) (w : World) (hP : 2 ≤ P ∧ P ≤ 65521) (ha : 0 ≤ a ∧ a < P) (hb : 0 ≤ b ∧ b < P) :
    Calls Try.prog 85 #[.int .i64 P, .int .i64 a, .int .i64 b] w fun e w' => e = .returned (.int .i64 ((a + b) % P)) ∧ w = w' := by
  have hne : (P == 0) = false := by simp; omega
  go_enter Try.func85, Try.ntmps85
  go_wp2
  go_ret
  exact ⟨rfl, rfl⟩
theorem sub_any (P a b : Int) (w : World) (hP : 2 ≤ P ∧ P ≤ 65521) (ha : 0 ≤ a ∧ a < P) (hb : 0 ≤ b ∧ b < P) :
    Calls Try.prog 74 #[.int .i64 P, .int .i64 a, .int .i64 b] w fun e w' => e = .returned (.int .i64 ((a - b + P) % P)) ∧ w = w' := by
  have hne : (P == 0) = false := by simp; omega
  go_enter Try.func74, Try.ntmps74
  go_wp2
  go_ret
  exact ⟨rfl, rfl⟩
end Go.Proofs.Ytbgabipngdillaa

namespace Go.Proofs.Ytbgabipngdillaa
open Go.RowKit

theorem tmod_emod (n m : Int) (hm : 0 < m) : n.tmod m % m = n % m := by
  rcases tmod_cases n m hm with h | ⟨_, _, h⟩
  · rw [h, Int.emod_emod_of_dvd _ (Int.dvd_refl m)]
  · rw [h, Int.sub_emod_right, Int.emod_emod_of_dvd _ (Int.dvd_refl m)]
set_option maxHeartbeats 1000000 in
theorem inverse_any (P a : Int) (w : World) (hp : prB P = true) (ha : 0 ≤ a ∧ a < P) :
    Calls Try.prog 75 #[.int .i64 P, .int .i64 a] w fun e w' => e = .returned (.int .i64 (inv P a)) ∧ w = w' := by
  obtain ⟨hP1, hP2⟩ := prB_bd hp
  have hne : (P == 0) = false := by simp; omega
  have HP := Lib.hid hp
  have HS := Lib.hid (IS.start hP1 ha)
  clear hp
  by_cases ha0 : 0 < a
  case neg =>
    obtain rfl : a = 0 := by omega
    have HI := Lib.hid (inv_z (P := P) (a := 0) (Int.zero_emod P))
    go_enter Try.func75, Try.ntmps75
    go_wp2_with fail
    go_loop [5, 6, 7, 8] (fun rv sv xv yv => rv = .int .i64 P ∧ sv = .int .i64 0 ∧ xv = .int .i64 0 ∧ yv = .int .i64 1) (fun _ _ _ _ => 0)
    case atStart => exact ⟨rfl, rfl, rfl, rfl⟩
    case round =>
      obtain ⟨rfl, rfl, rfl, rfl⟩ := hrel
      go_wp2_with fail
      go_ret
      exact ⟨ret_int (by rw [HI.out]), rfl⟩
  go_enter Try.func75, Try.ntmps75
  go_wp2_with fail
  go_loop [5, 6, 7, 8] (fun rv sv xv yv => ∃ r s x y : Int, rv = .int .i64 r ∧ sv = .int .i64 s ∧ xv = .int .i64 x ∧ yv = .int .i64 y ∧ IS P a r s x y) (fun _ sv _ _ => (intOf sv).toNat)
  case atStart => exact ⟨P, a, 0, 1, rfl, rfl, rfl, rfl, HS.out⟩
  case round =>
    obtain ⟨r, s, x, y, rfl, rfl, rfl, rfl, hI⟩ := hrel
    have hbx := hI.bx
    have hr := hI.1
    have hr2 := hI.2.1
    have hs := hI.2.2.1
    have hs2 := hI.2.2.2.1
    have HI := Lib.hid hI
    clear hI
    by_cases h0 : s = 0
    · have hb1 : (s != 0) = false := by simp [h0]
      have hfin : x % P = inv P a := IS.fin HP.out ⟨ha0, ha.2⟩ HI.out h0
      have HF := Lib.hid hfin
      have HT := Lib.hid (tmod_emod x P (by omega))
      have hb := tmod_bd x P (by omega)
      have H0 := Lib.hid h0
      clear h0 hfin
      go_wp2_with fail
      go_ret
      exact ⟨ret_int (by rw [← HF.out, ← HT.out]), rfl⟩
    · have hb1 : (s != 0) = true := by simp [h0]
      have hb2 : (s == 0) = false := by simp [h0]
      obtain ⟨g1, g2, g3, g4, g5⟩ := HI.out.step (by omega)
      have HG := Lib.hid g1
      clear g1
      go_wp2_with fail
      go_round
      case rel => exact ⟨_, _, _, _, rfl, rfl, rfl, rfl, HG.out⟩
      case measure => simp [intOf]; omega

theorem SI.take {w : World} {A : Option Addr} {n c : Nat} {l : List Int} (h : SI w (.slice A n c) l) {m : Nat} (hm : m ≤ l.length) : SI w (.slice A m c) (l.take m) := by
  obtain ⟨A', c', e, hc, hmx, hr, ha⟩ := h
  injection e with e1 e2 e3
  subst e1 e2 e3
  have hl : (l.take m).length = m := by rw [List.length_take]; omega
  refine ⟨A, c, by rw [hl], by omega, hmx, fun x hx => hr x (List.mem_of_mem_take hx), fun h0 => ?_⟩
  obtain ⟨b, off, rfl, hb, hcell⟩ := ha (by omega)
  refine ⟨b, off, rfl, hb, fun j hj => ?_⟩
  rw [hcell j (by omega)]
  simp
/-- from which place on all are 0 -/
def trRel (l : List Int) (v : Value) : Prop := ∃ n : Nat, n ≤ l.length ∧ v = .int .i64 n ∧ ∀ k, n ≤ k → gd l k = 0
set_option maxHeartbeats 1000000 in
theorem trim_any (l : List Int) (A : Option Addr) (c : Nat) (w : World) (h : SI w (.slice A l.length c) l) :
    Calls Try.prog 70 #[.slice A l.length c] w fun e w' => e = .returned (.slice A (trim l).length c) ∧ trim l = l.take (trim l).length ∧ w = w' := by
  have HS := Lib.hid h
  obtain ⟨A', c', e, hcc, hm, hr, ha⟩ := h
  injection e with e1 e2 e3
  subst e1 e3
  have HA := Lib.hid ha
  clear hr ha
  go_enter Try.func70, Try.ntmps70
  go_wp2_with fail
  go_loop [3] (fun v => trRel l v) (fun v => (intOf v).toNat)
  case atStart => exact ⟨l.length, Nat.le_refl _, rfl, fun k hk => gd_ge hk⟩
  case round =>
    obtain ⟨n, hn, rfl, hz⟩ := hrel
    have HZ := Lib.hid hz
    clear hz
    by_cases h0 : n = 0
    · subst h0
      have HT := Lib.hid (trim_take (l := l) (n := 0) (Nat.zero_le _) HZ.out (.inl rfl))
      go_wp2_with fail
      go_ret
      exact ⟨by rw [HT.out]; rfl, by rw [HT.out]; rfl, rfl⟩
    · obtain ⟨b, off, rfl, hb, hcell⟩ := HA.out (by omega)
      have hck := hcell (n - 1) (by omega)
      have hnl : n - 1 < l.length := by omega
      have hn1 : 0 < n := by omega
      have hd : decide ((0 : Int) < (n : Int)) = true := decide_eq_true (by omega)
      have hd' : decide (0 < n) = true := decide_eq_true (by omega)
      have z1 : (0 : Int) ≤ (n : Int) - 1 := by omega
      have z2 : (n : Int) - 1 < (l.length : Int) := by omega
      have z3 : ((n : Int) - 1).toNat = n - 1 := by omega
      clear hcell
      by_cases hl : l[n - 1]'hnl = 0
      · have hb1 : (l[n - 1]'hnl == 0) = true := by rw [beq_iff_eq]; exact hl
        have HL := Lib.hid hl
        clear hl
        go_wp2_with fail
        go_round
        case rel =>
          refine ⟨n - 1, by omega, by congr 1; omega, fun k hk => ?_⟩
          by_cases hkn : k = n - 1
          · subst hkn; rw [gd_lt (by omega)]; exact HL.out
          · exact HZ.out k (by omega)
        case measure => simp [intOf]; omega
      · have hb1 : (l[n - 1]'hnl == 0) = false := by rw [beq_eq_false_iff_ne]; exact hl
        have HT := Lib.hid (trim_take (l := l) (n := n) hn HZ.out (.inr (by rw [gd_lt (by omega)]; exact hl)))
        have HL : Hid ((trim l).length = n) := by show (trim l).length = n; rw [HT.out, List.length_take]; omega
        clear hl
        go_wp2_with fail
        go_ret
        exact ⟨by rw [HL.out]; rfl, by rw [HL.out]; exact HT.out, rfl⟩
end Go.Proofs.Ytbgabipngdillaa
