/- Joined: App Res Eu Re2 All. -/
import Derived.Maps.AppendAt
import Derived.OwnWalk
import Derived.Deep.RegionWith
import Derived.Deep.RegionHeld3
import Derived.Test.YtbgabipngdillaaZ01
namespace Go.Proofs.Ytbgabipngdillaa
open Go.RowKit
section
variable {P : Program} (w : World)

theorem run_append_of_nil (base : Nat) (t ty e : TypeId) (i : TypeInfo) (size : Nat) (ht : P.underlying t = some (.slice e)) (hi : P.info? e = some i)
    (v : Value) (n : Nat) (xs : List Value) (hown : w.ownsRow base e size v n xs) (c : Nat) : (Builtin.append_ #[t, t] ty #[v, .slice none 0 c]).run P w = .ok v w := by
  rcases hown.2 with ⟨rfl, rfl⟩ | ⟨g, cap, cur, rfl, _, _, hnc, _⟩
  · simp [Builtin.append_, run_underlying ht, sizeOf, typeInfo, hi, Builtin.lenOf, Builtin.firstCells]
  · simp [Builtin.append_, run_underlying ht, sizeOf, typeInfo, hi, Builtin.lenOf, Builtin.firstCells, hnc, storeCells]

/-- A slice whose n elements of sz cells each are the cells cs. -/
def SC (B : Nat) (w : World) (v : Value) (n sz : Nat) (cs : List Value) : Prop :=
  ∃ A c, v = .slice A n c ∧ cs.length = n * sz ∧ (0 < n → ∃ b off, A = some ⟨b, off, none⟩ ∧ b < B ∧ ∀ j u, cs[j]? = some u → w.cell? ⟨b, off + j, none⟩ = some u)
theorem SB.sc {B : Nat} {w : World} {v : Value} {l : List Int} (h : SB B w v l) : SC B w v l.length 1 (l.map (Value.int .i64)) := by
  obtain ⟨A, c, rfl, hc, hm, hr, ha⟩ := h
  refine ⟨A, c, rfl, by simp, fun h0 => ?_⟩
  obtain ⟨b, off, rfl, hb, hcell⟩ := ha h0
  refine ⟨b, off, rfl, hb, fun j u hu => ?_⟩
  rw [List.getElem?_map] at hu
  obtain ⟨x, hx, rfl⟩ := Option.map_eq_some_iff.1 hu
  obtain ⟨hj, rfl⟩ := List.getElem?_eq_some_iff.1 hx
  exact hcell j hj

theorem run_append_sc (base : Nat) (t ty e : TypeId) (i : TypeInfo) (z : Value) (size bytes : Nat) (ht : P.underlying t = some (.slice e)) (hi : P.info? e = some i) (hz : i.zero = some z)
    (hsize : i.size = size) (hby : i.bytes = bytes) (hzs : z.cells.size = size) (hsz : 0 < size)
    (v : Value) (n : Nat) (xs : List Value) (hown : w.ownsRow base e size v n xs)
    (B : Nat) (src : Value) (m : Nat) (news : List Value) (hr : SC B w src m size news) (h1 : ∀ u ∈ news, u.oneCell' = true)
    (h63 : n + m ≤ maxLen) (hbytes : (n + m) * bytes ≤ 140737488355328) (hbase : base ≤ w.heap.size) :
    ∃ v' w', (Builtin.append_ #[t, t] ty #[v, src]).run P w = .ok v' w' ∧ w'.ownsRow base e size v' (n + m) (xs ++ news) ∧ w.grownBy w' v.ownBlock := by
  obtain ⟨A, c, rfl, hl, ha⟩ := hr
  rcases Nat.eq_zero_or_pos m with h0 | h0
  · subst h0
    have hn : news = [] := List.eq_nil_of_length_eq_zero (by simpa using hl)
    subst hn
    rcases A with _ | ad
    · exact ⟨v, w, run_append_of_nil w base t ty e i size ht hi v n xs hown c, by simpa using hown, grownBy_refl w _⟩
    · obtain ⟨v', w', hrun, h2, h3, _, h5⟩ := run_append_own_at (P := P) w base t ty e i z size bytes ht hi hz hsize hby hzs hsz v n xs hown ad 0 c [] hl (by simp) h1 h63 hbytes hbase
      exact ⟨v', w', hrun, h2, h3⟩
  · obtain ⟨b, off, rfl, hb, hc⟩ := ha h0
    obtain ⟨v', w', hrun, h2, h3, _, h5⟩ := run_append_own_at (P := P) w base t ty e i z size bytes ht hi hz hsize hby hzs hsz v n xs hown ⟨b, off, none⟩ m c news hl (fun j u hu => by
      have : (⟨b, off, none⟩ : Addr).add j = ⟨b, off + j, none⟩ := by unfold Addr.add; split <;> simp_all
      rw [this]; exact hc j u hu) h1 h63 hbytes hbase
    exact ⟨v', w', hrun, h2, h3⟩

theorem wp_append_sc {o : Oper} {a : Act} {K : Act → World → Prop} {Q : Exit → Act → World → Prop} (s x : Operand) (t : TypeId)
    (ho : o.op = .call { callee := .builtin .append, args := #[s, x], argTypes := #[t, t] })
    (base : Nat) (e : TypeId) (i : TypeInfo) (z : Value) (size bytes : Nat) (ht : P.underlying t = some (.slice e)) (hi : P.info? e = some i) (hz : i.zero = some z)
    (hsize : i.size = size) (hby : i.bytes = bytes) (hzs : z.cells.size = size) (hsz : 0 < size)
    (v : Value) (n : Nat) (xs : List Value) (hs : a.eval s = v) (hown : w.ownsRow base e size v n xs)
    (B : Nat) (src : Value) (m : Nat) (news : List Value) (hx : a.eval x = src) (hr : SC B w src m size news) (h1 : ∀ u ∈ news, u.oneCell' = true)
    (h63 : n + m ≤ maxLen) (hbytes : (n + m) * bytes ≤ 140737488355328) (hbase : base ≤ w.heap.size)
    (h : ∀ v' w', w'.ownsRow base e size v' (n + m) (xs ++ news) → w.grownBy w' v.ownBlock → K (a.put o.dst v') w') : o.wp P a w K Q := by
  obtain ⟨v', w', hrun, h2, h3⟩ := run_append_sc (P := P) w base t o.type e i z size bytes ht hi hz hsize hby hzs hsz v n xs hown B src m news hr h1 h63 hbytes hbase
  unfold Oper.wp execOp
  simp only [ho, resolve, invoke, builtin, Sem.run_bind, Sem.run_pure, Result.andThen_ok, List.map_toArray, List.map_cons, List.map_nil, hs, hx, hrun]
  exact h v' w' h2 h3

theorem wpList_append_sc {ops : Array Oper} {rest : List Oper} {o : Oper} {a : Act} {Q : Exit → Act → World → Prop} (hgd : o.guard = none) (s x : Operand) (t : TypeId)
    (ho : o.op = .call { callee := .builtin .append, args := #[s, x], argTypes := #[t, t] })
    (base : Nat) (e : TypeId) (i : TypeInfo) (z : Value) (size bytes : Nat) (ht : P.underlying t = some (.slice e)) (hi : P.info? e = some i) (hz : i.zero = some z)
    (hsize : i.size = size) (hby : i.bytes = bytes) (hzs : z.cells.size = size) (hsz : 0 < size)
    (v : Value) (n : Nat) (xs : List Value) (hs : a.eval s = v) (hown : w.ownsRow base e size v n xs)
    (B : Nat) (src : Value) (m : Nat) (news : List Value) (hx : a.eval x = src) (hr : SC B w src m size news) (h1 : ∀ u ∈ news, u.oneCell' = true)
    (h63 : n + m ≤ maxLen) (hbytes : (n + m) * bytes ≤ 140737488355328) (hbase : base ≤ w.heap.size)
    (h : ∀ v' w', w'.ownsRow base e size v' (n + m) (xs ++ news) → w.grownBy w' v.ownBlock → wpList P ops Q rest (a.put o.dst v') w') : wpList P ops Q (o :: rest) a w :=
  wpList_plain hgd fun _ hK => wp_append_sc w s x t ho base e i z size bytes ht hi hz hsize hby hzs hsz v n xs hs hown B src m news hx hr h1 h63 hbytes hbase fun v' w' h2 h3 => hK _ _ (h v' w' h2 h3)
end
theorem iinfo : (Try.prog.info? 3).map (fun i => (i.zero, i.size, i.bytes)) = some (some (.int .i64 0), 1, 8) := by kernel_rfl
theorem one_ints (l : List Int) : ∀ u ∈ l.map (Value.int .i64), u.oneCell' = true := by
  intro u hu
  obtain ⟨x, _, rfl⟩ := List.mem_map.1 hu
  rfl
/-- append(own, ints...) -/
theorem wpList_append_ints {P : Program} (w : World) {ops : Array Oper} {rest : List Oper} {o : Oper} {a : Act} {Q : Exit → Act → World → Prop} (hgd : o.guard = none) (s x : Operand) (t : TypeId)
    (ho : o.op = .call { callee := .builtin .append, args := #[s, x], argTypes := #[t, t] })
    (base : Nat) (e : TypeId) (ht : P.underlying t = some (.slice e)) (hinfo : (P.info? e).map (fun i => (i.zero, i.size, i.bytes)) = some (some (.int .i64 0), 1, 8))
    (v : Value) (xs : List Int) (hs : a.eval s = v) (hown : w.ownsRow base e 1 v xs.length (xs.map (Value.int .i64)))
    (B : Nat) (src : Value) (l : List Int) (hx : a.eval x = src) (hr : SB B w src l)
    (hbytes : xs.length + l.length ≤ 17592186044416) (hbase : base ≤ w.heap.size)
    (h : ∀ v' w', w'.ownsRow base e 1 v' (xs ++ l).length ((xs ++ l).map (Value.int .i64)) → w.grownBy w' v.ownBlock → wpList P ops Q rest (a.put o.dst v') w') : wpList P ops Q (o :: rest) a w := by
  obtain ⟨i0, hi0, hz0, hz1, hz2⟩ := info_parts hinfo
  refine wpList_append_sc w hgd s x t ho base e i0 _ 1 8 ht hi0 hz0 hz1 hz2 rfl (by omega) v _ _ hs hown B src _ _ hx hr.sc (one_ints l) (by unfold maxLen; omega) (by omega) hbase fun v' w' h1 h2 => h v' w' (by rw [List.length_append, List.map_append]; exact h1) h2
/-- append(own, x) -/
theorem wpList_append_int1 {P : Program} (w : World) {ops : Array Oper} {rest : List Oper} {o : Oper} {a : Act} {Q : Exit → Act → World → Prop} (hgd : o.guard = none) (s x : Operand) (t : TypeId)
    (ho : o.op = .call { callee := .builtin .append, args := #[s, x], argTypes := #[t, t] })
    (base : Nat) (e : TypeId) (ht : P.underlying t = some (.slice e)) (hinfo : (P.info? e).map (fun i => (i.zero, i.size, i.bytes)) = some (some (.int .i64 0), 1, 8))
    (v : Value) (xs : List Int) (hs : a.eval s = v) (hown : w.ownsRow base e 1 v xs.length (xs.map (Value.int .i64)))
    (y : Int) (hx : a.eval x = .slice (some ⟨w.heap.size, 0, none⟩) 1 1)
    (hbytes : xs.length + 1 ≤ 17592186044416) (hbase : base ≤ w.heap.size)
    (h : ∀ v' w', w'.ownsRow base e 1 v' (xs ++ [y]).length ((xs ++ [y]).map (Value.int .i64)) → (w.alloc (.cells #[.int .i64 y] e)).grownBy w' v.ownBlock → wpList P ops Q rest (a.put o.dst v') w') : wpList P ops Q (o :: rest) a (w.alloc (.cells #[.int .i64 y] e)) := by
  obtain ⟨i0, hi0, hz0, hz1, hz2⟩ := info_parts hinfo
  refine wpList_append_own _ hgd s x t ho base e i0 _ 1 8 ht hi0 hz0 hz1 hz2 rfl (by omega) v _ _ hs (hown.alloc _) ⟨w.heap.size, 0, none⟩ 1 1 [.int .i64 y] hx rfl (cells_new w [.int .i64 y] e) (by intro u hu; simp at hu; subst hu; rfl) (by unfold maxLen; omega) (by omega) (by simp; omega) fun v' w' h1 h2 _ => h v' w' (by rw [List.length_append, List.map_append]; exact h1) h2
/-- append(own, x) inside a region that draws its order -/
theorem step_append_int1 {P : Program} (w : World) {ops : Array Oper} {o : Oper} {a : Act} {K : Act → World → Prop} {Q : Exit → Act → World → Prop} {E : Prop} (hgd : o.guard = none) (s x : Operand) (t : TypeId)
    (ho : o.op = .call { callee := .builtin .append, args := #[s, x], argTypes := #[t, t] })
    (base : Nat) (e : TypeId) (ht : P.underlying t = some (.slice e)) (hinfo : (P.info? e).map (fun i => (i.zero, i.size, i.bytes)) = some (some (.int .i64 0), 1, 8))
    (v : Value) (xs : List Int) (hs : a.eval s = v) (hown : w.ownsRow base e 1 v xs.length (xs.map (Value.int .i64)))
    (y : Int) (b : Nat) (hx : a.eval x = .slice (some ⟨b, 0, none⟩) 1 1) (hc : w.cell? ⟨b, 0, none⟩ = some (.int .i64 y))
    (hbytes : xs.length + 1 ≤ 17592186044416) (hbase : base ≤ w.heap.size)
    (h : ∀ v' w', w'.ownsRow base e 1 v' (xs ++ [y]).length ((xs ++ [y]).map (Value.int .i64)) → w.grownBy w' v.ownBlock → K (a.put o.dst v') w') :
    if Region.wanted o (yielded ops a.tmps) = true then Oper.wp P o a w K Q else E := by
  obtain ⟨i0, hi0, hz0, hz1, hz2⟩ := info_parts hinfo
  have hw : Region.wanted o (yielded ops a.tmps) = true := by simp [Region.wanted, hgd]
  rw [if_pos hw]
  refine wp_append_sc w s x t ho base e i0 _ 1 8 ht hi0 hz0 hz1 hz2 rfl (by omega) v _ _ hs hown (b + 1) _ 1 [.int .i64 y] hx ⟨_, 1, rfl, rfl, fun _ => ⟨b, 0, rfl, by omega, fun j u hu => ?_⟩⟩ (by intro u hu; simp at hu; subst hu; rfl) (by unfold maxLen; omega) (by omega) hbase fun v' w' h1 h2 => h v' w' (by rw [List.length_append, List.map_append]; exact h1) h2
  cases j with
  | zero => simp at hu; subst hu; exact hc
  | succ j => simp at hu
theorem run_append_sc_at {P : Program} (w : World) (base : Nat) (t ty e : TypeId) (i : TypeInfo) (z : Value) (size bytes : Nat) (ht : P.underlying t = some (.slice e)) (hi : P.info? e = some i) (hz : i.zero = some z)
    (hsize : i.size = size) (hby : i.bytes = bytes) (hzs : z.cells.size = size) (hsz : 0 < size)
    (v : Value) (n : Nat) (xs : List Value) (hown : w.ownsRow base e size v n xs)
    (B : Nat) (src : Value) (m : Nat) (news : List Value) (hr : SC B w src m size news) (h1 : ∀ u ∈ news, u.oneCell' = true)
    (h63 : n + m ≤ maxLen) (hbytes : (n + m) * bytes ≤ 140737488355328) (hbase : base ≤ w.heap.size) :
    ∃ v' w', (Builtin.append_ #[t, t] ty #[v, src]).run P w = .ok v' w' ∧ w'.ownsRow base e size v' (n + m) (xs ++ news) ∧ w.grownBy w' v.ownBlock ∧ (v'.ownBlock = v.ownBlock ∨ v'.ownBlock = some w.heap.size) := by
  obtain ⟨A, c, rfl, hl, ha⟩ := hr
  rcases Nat.eq_zero_or_pos m with h0 | h0
  · subst h0
    have hn : news = [] := List.eq_nil_of_length_eq_zero (by simpa using hl)
    subst hn
    rcases A with _ | ad
    · exact ⟨v, w, run_append_of_nil w base t ty e i size ht hi v n xs hown c, by simpa using hown, grownBy_refl w _, .inl rfl⟩
    · obtain ⟨v', w', hrun, h2, h3, _, h5⟩ := run_append_own_at (P := P) w base t ty e i z size bytes ht hi hz hsize hby hzs hsz v n xs hown ad 0 c [] hl (by simp) h1 h63 hbytes hbase
      exact ⟨v', w', hrun, h2, h3, h5⟩
  · obtain ⟨b, off, rfl, hb, hc⟩ := ha h0
    obtain ⟨v', w', hrun, h2, h3, _, h5⟩ := run_append_own_at (P := P) w base t ty e i z size bytes ht hi hz hsize hby hzs hsz v n xs hown ⟨b, off, none⟩ m c news hl (fun j u hu => by
      have : (⟨b, off, none⟩ : Addr).add j = ⟨b, off + j, none⟩ := by unfold Addr.add; split <;> simp_all
      rw [this]; exact hc j u hu) h1 h63 hbytes hbase
    exact ⟨v', w', hrun, h2, h3, h5⟩
theorem step_append_int1_at {P : Program} (w : World) {ops : Array Oper} {o : Oper} {a : Act} {K : Act → World → Prop} {Q : Exit → Act → World → Prop} {E : Prop} (hgd : o.guard = none) (s x : Operand) (t : TypeId)
    (ho : o.op = .call { callee := .builtin .append, args := #[s, x], argTypes := #[t, t] })
    (base : Nat) (e : TypeId) (ht : P.underlying t = some (.slice e)) (hinfo : (P.info? e).map (fun i => (i.zero, i.size, i.bytes)) = some (some (.int .i64 0), 1, 8))
    (v : Value) (xs : List Int) (hs : a.eval s = v) (hown : w.ownsRow base e 1 v xs.length (xs.map (Value.int .i64)))
    (y : Int) (b : Nat) (hx : a.eval x = .slice (some ⟨b, 0, none⟩) 1 1) (hc : w.cell? ⟨b, 0, none⟩ = some (.int .i64 y))
    (hbytes : xs.length + 1 ≤ 17592186044416) (hbase : base ≤ w.heap.size)
    (h : ∀ g cap w', w'.ownsRow base e 1 (.slice (some ⟨g, 0, none⟩) (xs ++ [y]).length cap) (xs ++ [y]).length ((xs ++ [y]).map (Value.int .i64)) → w.grownBy w' v.ownBlock → (v.ownBlock = some g ∨ g = w.heap.size) → K (a.put o.dst (.slice (some ⟨g, 0, none⟩) (xs ++ [y]).length cap)) w') :
    if Region.wanted o (yielded ops a.tmps) = true then Oper.wp P o a w K Q else E := by
  obtain ⟨i0, hi0, hz0, hz1, hz2⟩ := info_parts hinfo
  have hw : Region.wanted o (yielded ops a.tmps) = true := by simp [Region.wanted, hgd]
  rw [if_pos hw]
  obtain ⟨v', w', hrun, h2, h3, h4⟩ := run_append_sc_at (P := P) w base t o.type e i0 _ 1 8 ht hi0 hz0 hz1 hz2 rfl (by omega) v _ _ hown (b + 1) (.slice (some ⟨b, 0, none⟩) 1 1) 1 [.int .i64 y] ⟨_, 1, rfl, rfl, fun _ => ⟨b, 0, rfl, by omega, fun j u hu => by
    cases j with
    | zero => simp at hu; subst hu; exact hc
    | succ j => simp at hu⟩⟩ (by intro u hu; simp at hu; subst hu; rfl) (by unfold maxLen; omega) (by omega) hbase
  have h2' : w'.ownsRow base e 1 v' (xs ++ [y]).length ((xs ++ [y]).map (Value.int .i64)) := by rw [List.length_append, List.map_append]; exact h2
  rcases h2'.2 with ⟨_, hn'⟩ | ⟨g, cap, cur, rfl, hb, hg, hnc, hcm, hcs, htake⟩
  · simp at hn'
  · unfold Oper.wp execOp
    simp only [ho, resolve, invoke, builtin, Sem.run_bind, Sem.run_pure, Result.andThen_ok, List.map_toArray, List.map_cons, List.map_nil, hs, hx, hrun]
    refine h g cap w' h2' h3 ?_
    rcases h4 with e4 | e4
    · exact .inl (by rw [← e4]; rfl)
    · exact .inr (by simpa [Value.ownBlock] using e4)
theorem own_form {w : World} {base e size n : Nat} {v : Value} {xs : List Value} (h : w.ownsRow base e size v n xs) (hn : 0 < n) : ∃ g cap, v = .slice (some ⟨g, 0, none⟩) n cap ∧ base ≤ g ∧ g < w.heap.size := by
  rcases h.2 with ⟨rfl, hn'⟩ | ⟨g, cap, cur, rfl, hb, hg, hnc, hcm, hcs, htake⟩
  · omega
  · exact ⟨g, cap, rfl, hb, heap_of_cells hg⟩
theorem own_int {w : World} {base e g cap : Nat} {l : List Int} (h : w.ownsRow base e 1 (.slice (some ⟨g, 0, none⟩) l.length cap) l.length (l.map (Value.int .i64))) (j : Nat) (hj : j < l.length) :
    w.cell? ⟨g, j, none⟩ = some (.int .i64 l[j]) := by
  have k0 := h.cellAt j (by omega)
  rw [List.getElem?_map, List.getElem?_eq_getElem hj] at k0
  exact k0
theorem own_cell {w w1 : World} {cs : Array Value} {T : TypeId} (h : Below (w.alloc (.cells cs T)).heap.size (w.alloc (.cells cs T)) w1) (i : Nat) : w1.cell? ⟨w.heap.size, i, none⟩ = cs[i]? := by
  rw [h.cell (by simp), cell_of_row _ w.heap.size i cs T (0, 0) (heap_alloc_new w _)]
theorem SB.cells {B c n : Nat} {A : Option Addr} {w : World} {l : List Int} (h : SB B w (.slice A n c) l) (h0 : 0 < l.length) :
    ∃ b off, A = some ⟨b, off, none⟩ ∧ b < B ∧ ∀ j (h : j < l.length), w.cell? ⟨b, off + j, none⟩ = some (.int .i64 l[j]) := by
  obtain ⟨A', c', e, _, _, _, ha⟩ := h
  injection e with e1 e2 e3
  subst e1
  exact ha h0
/-- a literal slice that the call made -/
theorem own_lit {base : Nat} (w : World) (e : TypeId) (l : List Value) (hb : base ≤ w.heap.size) (hm : l.length ≤ maxLen) :
    (w.alloc (.cells l.toArray e)).ownsRow base e 1 (.slice (some ⟨w.heap.size, 0, none⟩) l.length l.length) l.length l := by
  have := World.ownsRow_lit (e := e) (size := 1) w l.toArray l.length hb hm (by simp)
  simpa using this
end Go.Proofs.Ytbgabipngdillaa

namespace Go.Proofs.Ytbgabipngdillaa
open Go.RowKit

theorem wrapin {x : Int} (h : -9223372036854775808 ≤ x ∧ x ≤ 9223372036854775807) : i64r x := h
theorem mul_bd {a b P : Int} (ha : 0 ≤ a ∧ a < P) (hb : 0 ≤ b ∧ b < P) (hP : P ≤ 65521) : 0 ≤ a * b ∧ a * b ≤ 4293001441 := by
  have h1 := Int.mul_nonneg ha.1 hb.1
  have h2 : a * b ≤ 65521 * 65521 := Int.mul_le_mul (by omega) (by omega) hb.1 (by omega)
  omega

/-- the prime, or 0 -/
def ofP (P : Int) : Int := if prB P = true then P else 0
theorem ofP_t {P : Int} (h : prB P = true) : ofP P = P := if_pos h
theorem ofP_f {P : Int} (h : prB P = false) : ofP P = 0 := by unfold ofP; rw [h]; rfl
set_option maxHeartbeats 1000000 in
theorem of_any (P : Int) (w : World) (hP : i64r P) :
    Calls Try.prog 71 #[.agg #[.int .i64 P]] w fun e w' => e = .returned (.tuple #[.int .i64 (ofP P), .bool (prB P)]) ∧ Below w.heap.size w w' := by
  obtain ⟨hP1, hP2⟩ := hP
  by_cases h1 : P < 2
  · have HB := Lib.hid (prB_f (.inl h1))
    go_enter Try.func71, Try.ntmps71
    go_wp2
    go_ret2
    exact ⟨by first | (rw [HB.out, ofP_f HB.out]; rfl) | (rw [HB.out, ofP_t HB.out]; rfl), (Below.refl _ _).alloc (Nat.le_refl _) _⟩
  by_cases h2 : 65521 < P
  · have HB := Lib.hid (prB_f (.inr h2))
    go_enter Try.func71, Try.ntmps71
    go_wp2
    go_ret2
    exact ⟨by first | (rw [HB.out, ofP_f HB.out]; rfl) | (rw [HB.out, ofP_t HB.out]; rfl), (Below.refl _ _).alloc (Nat.le_refl _) _⟩
  have h3 : 2 ≤ P := by omega
  have h4 : P ≤ 65521 := by omega
  clear h1 h2
  go_enter Try.func71, Try.ntmps71
  go_wp2
  go_loop [4] (fun i => ∃ d : Nat, 2 ≤ d ∧ d ≤ 256 ∧ i = .int .i64 d ∧ ∀ e : Nat, 2 ≤ e → e < d → P % e ≠ 0) (fun i => 300 - (intOf i).toNat)
  case atStart => exact ⟨2, by omega, by omega, rfl, fun e h1 h2 => absurd h1 (by omega)⟩
  case round =>
    obtain ⟨d, hd1, hd2, rfl, hno⟩ := hrel
    have HN := Lib.hid hno
    clear hno
    have hdd : (d : Int) * d ≤ 65536 := by
      have : (d : Int) * d ≤ 256 * 256 := Int.mul_le_mul (by omega) (by omega) (by omega) (by omega)
      omega
    have hdn : 0 ≤ (d : Int) * d := Int.mul_nonneg (by omega) (by omega)
    by_cases hc : (d : Int) * d ≤ P
    · have hd3 : d < 256 := by
        rcases Nat.lt_or_ge d 256 with h | h
        · exact h
        · have h5 : (256 : Int) * 256 ≤ (d : Int) * d := Int.mul_le_mul (by omega) (by omega) (by omega) (by omega)
          omega
      by_cases hm : P % d = 0
      · have HB := Lib.hid (prB_div hd1 hc hm)
        have hb1 : (P % (d : Int) == 0) = true := by rw [beq_iff_eq]; exact hm
        go_wp2
        go_ret2
        exact ⟨by first | (rw [HB.out, ofP_f HB.out]; rfl) | (rw [HB.out, ofP_t HB.out]; rfl), (Below.refl _ _).alloc (Nat.le_refl _) _⟩
      · have hb1 : (P % (d : Int) == 0) = false := by rw [beq_eq_false_iff_ne]; exact hm
        have HM := Lib.hid hm
        clear hm
        go_wp2
        go_round
        case rel => exact ⟨d + 1, by omega, by omega, by go_num, fun e h1 h2 => by
          by_cases h : e = d
          · subst h; exact HM.out
          · exact HN.out e h1 (by omega)⟩
        case measure => simp [intOf]; omega
    · have HB : Hid (prB P = true) := prB_of h3 h4 (fun e h1 h2 => by
        refine HN.out e h1 ?_
        rcases Nat.lt_or_ge e d with h | h
        · exact h
        · have h5 : (d : Int) * d ≤ (e : Int) * e := Int.mul_le_mul (by omega) (by omega) (by omega) (by omega)
          omega)
      go_wp2
      go_ret2
      exact ⟨by first | (rw [HB.out, ofP_f HB.out]; rfl) | (rw [HB.out, ofP_t HB.out]; rfl), (Below.refl _ _).alloc (Nat.le_refl _) _⟩

theorem has_any (P a : Int) (w : World) :
    Calls Try.prog 72 #[.int .i64 P, .int .i64 a] w fun e w' => e = .returned (.bool (el P a)) ∧ w = w' := by
  by_cases h1 : 0 ≤ a
  · have HB := Lib.hid (show el P a = decide (a < P) by unfold el; simp [h1])
    go_enter Try.func72, Try.ntmps72
    go_wp2
    go_ret
    exact ⟨ret_bool HB.out.symm, rfl⟩
  · have HB := Lib.hid (show el P a = false by unfold el; simp [h1])
    go_enter Try.func72, Try.ntmps72
    go_wp2
    go_ret
    exact ⟨ret_bool HB.out.symm, rfl⟩
theorem mul_any (P a b : Int) (w : World) (hP : 2 ≤ P ∧ P ≤ 65521) (ha : 0 ≤ a ∧ a < P) (hb : 0 ≤ b ∧ b < P) :
    Calls Try.prog 73 #[.int .i64 P, .int .i64 a, .int .i64 b] w fun e w' => e = .returned (.int .i64 (a * b % P)) ∧ w = w' := by
  have hm := mul_bd ha hb hP.2
  have hne : (P == 0) = false := by simp; omega
  go_enter Try.func73, Try.ntmps73
  go_wp2
  go_ret
  exact ⟨rfl, rfl⟩
theorem add_any (P a b : Int) (w : World) (hP : 2 ≤ P ∧ P ≤ 65521) (ha : 0 ≤ a ∧ a < P) (hb : 0 ≤ b ∧ b < P) :
    Calls Try.prog 85 #[.int .i64 P, .int .i64 a, .int .i64 b] w fun e w' => e = .returned (.int .i64 ((a + b) % P)) ∧ w = w' := by
  have hne : (P == 0) = false := by simp; omega
  go_enter Try.func85, Try.ntmps85
  go_wp2
  go_ret
  exact ⟨rfl, rfl⟩
theorem sub_any (P a b : Int) (w : World) (hP : 2 ≤ P ∧ P ≤ 65521) (ha : 0 ≤ a ∧ a < P) (hb : 0 ≤ b ∧ b < P) :
    Calls Try.prog 74 #[.int .i64 P, .int .i64 a, .int .i64 b] w fun e w' => e = .returned (.int .i64 ((a - b + P) % P)) ∧ w = w' := by
  have hne : (P == 0) = false := by simp; omega
  go_enter Try.func74, Try.ntmps74
  go_wp2
  go_ret
  exact ⟨rfl, rfl⟩
end Go.Proofs.Ytbgabipngdillaa

namespace Go.Proofs.Ytbgabipngdillaa

/-- a state of the loop -/
def IS (P a r s x y : Int) : Prop := 1 ≤ r ∧ r ≤ P ∧ 0 ≤ s ∧ s ≤ P ∧ (∃ X Y : Int, -X ≤ x ∧ x ≤ X ∧ -Y ≤ y ∧ y ≤ Y ∧ X * s + Y * r = P ∧ X ≤ P) ∧ P ∣ r - x * a ∧ P ∣ s - y * a ∧ ∀ d : Int, d ∣ r → d ∣ s → d ∣ P ∧ d ∣ a
theorem IS.start {P a : Int} (hP : 2 ≤ P) (ha : 0 ≤ a ∧ a < P) : IS P a P a 0 1 :=
  ⟨by omega, by omega, by omega, by omega, ⟨0, 1, by omega, by omega, by omega, by omega, by omega, by omega⟩, ⟨1, by omega⟩, ⟨0, by omega⟩, fun d h1 h2 => ⟨h1, h2⟩⟩
theorem IS.bx {P a r s x y : Int} (h : IS P a r s x y) : (-P ≤ x ∧ x ≤ P) ∧ -P ≤ y ∧ y ≤ P := by
  obtain ⟨h1, h2, h3, h4, ⟨X, Y, x1, x2, y1, y2, e, hX⟩, _⟩ := h
  have hx0 : 0 ≤ X := by omega
  have hy0 : 0 ≤ Y := by omega
  have a1 : 0 ≤ X * s := Int.mul_nonneg hx0 h3
  have a2 : Y * 1 ≤ Y * r := Int.mul_le_mul_of_nonneg_left h1 hy0
  rw [Int.mul_one] at a2
  omega
theorem IS.step {P a r s x y : Int} (h : IS P a r s x y) (hs : 0 < s) :
    IS P a s (r - r / s * s) y (x - r / s * y) ∧ (0 ≤ r / s ∧ r / s ≤ P) ∧ (0 ≤ r / s * s ∧ r / s * s ≤ P) ∧ (-P ≤ r / s * y ∧ r / s * y ≤ P) ∧ r - r / s * s < s := by
  have hbx := h.bx
  obtain ⟨h1, h2, h3, h4, ⟨X, Y, x1, x2, y1, y2, e, hX⟩, d1, d2, hd⟩ := h
  have hx0 : 0 ≤ X := by omega
  have hy0 : 0 ≤ Y := by omega
  have m1 : 0 ≤ r % s := Int.emod_nonneg _ (by omega)
  have m2 : r % s < s := Int.emod_lt_of_pos _ hs
  have m3 : r / s * s + r % s = r := by have := Int.mul_ediv_add_emod r s; rw [Int.mul_comm] at this; exact this
  have a3 : 0 ≤ X * s := Int.mul_nonneg hx0 h3
  have a4 : Y * 1 ≤ Y * r := Int.mul_le_mul_of_nonneg_left h1 hy0
  rw [Int.mul_one] at a4
  have hYP : Y ≤ P := by omega
  clear a3 a4
  generalize hq : r / s = q at *
  generalize hm : r % s = m at *
  have hq0 : 0 ≤ q := by rw [← hq]; exact Int.ediv_nonneg (by omega) (by omega)
  have hqs : 0 ≤ q * s := Int.mul_nonneg hq0 (by omega)
  have hqq : q * 1 ≤ q * s := Int.mul_le_mul_of_nonneg_left (by omega) hq0
  rw [Int.mul_one] at hqq
  have hqY : 0 ≤ q * Y := Int.mul_nonneg hq0 hy0
  have hy3 : q * y ≤ q * Y := Int.mul_le_mul_of_nonneg_left y2 hq0
  have hy4 : q * (-Y) ≤ q * y := Int.mul_le_mul_of_nonneg_left y1 hq0
  rw [Int.mul_neg] at hy4
  have e' : Y * (r - q * s) + (X + q * Y) * s = P := by
    rw [Int.mul_sub, Int.add_mul, ← e, Int.mul_assoc, Int.mul_left_comm Y q s]
    omega
  have a1 : 0 ≤ Y * (r - q * s) := Int.mul_nonneg hy0 (by omega)
  have a2 : (X + q * Y) * 1 ≤ (X + q * Y) * s := Int.mul_le_mul_of_nonneg_left (by omega) (by omega)
  rw [Int.mul_one] at a2
  refine ⟨⟨by omega, h4, by omega, by omega, ⟨Y, X + q * Y, y1, y2, by omega, by omega, e', by omega⟩, d2, ?_, fun d g1 g2 => ?_⟩, ⟨hq0, by omega⟩, ⟨hqs, by omega⟩, ⟨by omega, by omega⟩, by omega⟩
  · have : r - q * s - (x - q * y) * a = (r - x * a) - q * (s - y * a) := by
      rw [Int.sub_mul, Int.mul_sub, Int.mul_assoc]; omega
    rw [this]
    exact Int.dvd_sub d1 (Int.dvd_mul_of_dvd_right d2)
  · refine hd d ?_ g1
    have : r = (r - q * s) + q * s := by omega
    rw [this]
    exact Int.dvd_add g2 (Int.dvd_mul_of_dvd_right g1)
theorem IS.fin {P a r s x y : Int} (hp : prB P = true) (ha : 0 < a ∧ a < P) (h : IS P a r s x y) (hs : s = 0) : x % P = inv P a := by
  have hb := prB_bd hp
  obtain ⟨h1, h2, h3, h4, _, d1, d2, hd⟩ := h
  subst hs
  obtain ⟨g1, g2⟩ := hd r (Int.dvd_refl r) (Int.dvd_zero r)
  obtain ⟨n, rfl⟩ : ∃ n : Nat, r = n := ⟨r.toNat, by omega⟩
  have hn : (n : Int) = 1 := by
    rcases pr_div hp n g1 with e | e
    · rw [e]; rfl
    · rw [e] at g2
      have := Int.le_of_dvd ha.1 g2
      omega
  rw [hn] at d1
  have ha' : a % P ≠ 0 := by rw [Int.emod_eq_of_lt (by omega) (by omega)]; omega
  refine inv_uniq hp ha' ⟨Int.emod_nonneg _ (by omega), Int.emod_lt_of_pos _ (by omega)⟩ ?_
  rw [Int.mul_emod, Int.emod_emod_of_dvd _ (Int.dvd_refl P), ← Int.mul_emod]
  have := Int.emod_eq_emod_iff_emod_sub_eq_zero.2 (Int.emod_eq_zero_of_dvd d1)
  rw [← this]
  exact Int.emod_eq_of_lt (by omega) (by omega)
end Go.Proofs.Ytbgabipngdillaa

namespace Go.Proofs.Ytbgabipngdillaa
open Go.RowKit

theorem tmod_emod (n m : Int) (hm : 0 < m) : n.tmod m % m = n % m := by
  rcases tmod_cases n m hm with h | ⟨_, _, h⟩
  · rw [h, Int.emod_emod_of_dvd _ (Int.dvd_refl m)]
  · rw [h, Int.sub_emod_right, Int.emod_emod_of_dvd _ (Int.dvd_refl m)]
set_option maxHeartbeats 1000000 in
theorem inverse_any (P a : Int) (w : World) (hp : prB P = true) (ha : 0 ≤ a ∧ a < P) :
    Calls Try.prog 75 #[.int .i64 P, .int .i64 a] w fun e w' => e = .returned (.int .i64 (inv P a)) ∧ w = w' := by
  obtain ⟨hP1, hP2⟩ := prB_bd hp
  have hne : (P == 0) = false := by simp; omega
  have HP := Lib.hid hp
  have HS := Lib.hid (IS.start hP1 ha)
  clear hp
  by_cases ha0 : 0 < a
  case neg =>
    obtain rfl : a = 0 := by omega
    have HI := Lib.hid (inv_z (P := P) (a := 0) (Int.zero_emod P))
    go_enter Try.func75, Try.ntmps75
    go_wp2_with fail
    go_loop [5, 6, 7, 8] (fun rv sv xv yv => rv = .int .i64 P ∧ sv = .int .i64 0 ∧ xv = .int .i64 0 ∧ yv = .int .i64 1) (fun _ _ _ _ => 0)
    case atStart => exact ⟨rfl, rfl, rfl, rfl⟩
    case round =>
      obtain ⟨rfl, rfl, rfl, rfl⟩ := hrel
      go_wp2_with fail
      go_ret
      exact ⟨ret_int (by rw [HI.out]), rfl⟩
  go_enter Try.func75, Try.ntmps75
  go_wp2_with fail
  go_loop [5, 6, 7, 8] (fun rv sv xv yv => ∃ r s x y : Int, rv = .int .i64 r ∧ sv = .int .i64 s ∧ xv = .int .i64 x ∧ yv = .int .i64 y ∧ IS P a r s x y) (fun _ sv _ _ => (intOf sv).toNat)
  case atStart => exact ⟨P, a, 0, 1, rfl, rfl, rfl, rfl, HS.out⟩
  case round =>
    obtain ⟨r, s, x, y, rfl, rfl, rfl, rfl, hI⟩ := hrel
    have hbx := hI.bx
    have hr := hI.1
    have hr2 := hI.2.1
    have hs := hI.2.2.1
    have hs2 := hI.2.2.2.1
    have HI := Lib.hid hI
    clear hI
    by_cases h0 : s = 0
    · have hb1 : (s != 0) = false := by simp [h0]
      have hfin : x % P = inv P a := IS.fin HP.out ⟨ha0, ha.2⟩ HI.out h0
      have HF := Lib.hid hfin
      have HT := Lib.hid (tmod_emod x P (by omega))
      have hb := tmod_bd x P (by omega)
      have H0 := Lib.hid h0
      clear h0 hfin
      go_wp2_with fail
      go_ret
      exact ⟨ret_int (by rw [← HF.out, ← HT.out]), rfl⟩
    · have hb1 : (s != 0) = true := by simp [h0]
      have hb2 : (s == 0) = false := by simp [h0]
      obtain ⟨g1, g2, g3, g4, g5⟩ := HI.out.step (by omega)
      have HG := Lib.hid g1
      clear g1
      go_wp2_with fail
      go_round
      case rel => exact ⟨_, _, _, _, rfl, rfl, rfl, rfl, HG.out⟩
      case measure => simp [intOf]; omega

theorem SI.take {w : World} {A : Option Addr} {n c : Nat} {l : List Int} (h : SI w (.slice A n c) l) {m : Nat} (hm : m ≤ l.length) : SI w (.slice A m c) (l.take m) := by
  obtain ⟨A', c', e, hc, hmx, hr, ha⟩ := h
  injection e with e1 e2 e3
  subst e1 e2 e3
  have hl : (l.take m).length = m := by rw [List.length_take]; omega
  refine ⟨A, c, by rw [hl], by omega, hmx, fun x hx => hr x (List.mem_of_mem_take hx), fun h0 => ?_⟩
  obtain ⟨b, off, rfl, hb, hcell⟩ := ha (by omega)
  refine ⟨b, off, rfl, hb, fun j hj => ?_⟩
  rw [hcell j (by omega)]
  simp
/-- from which place on all are 0 -/
def trRel (l : List Int) (v : Value) : Prop := ∃ n : Nat, n ≤ l.length ∧ v = .int .i64 n ∧ ∀ k, n ≤ k → gd l k = 0
set_option maxHeartbeats 1000000 in
theorem trim_any (l : List Int) (A : Option Addr) (c : Nat) (w : World) (h : SI w (.slice A l.length c) l) :
    Calls Try.prog 70 #[.slice A l.length c] w fun e w' => e = .returned (.slice A (trim l).length c) ∧ trim l = l.take (trim l).length ∧ w = w' := by
  have HS := Lib.hid h
  obtain ⟨A', c', e, hcc, hm, hr, ha⟩ := h
  injection e with e1 e2 e3
  subst e1 e3
  have HA := Lib.hid ha
  clear hr ha
  go_enter Try.func70, Try.ntmps70
  go_wp2_with fail
  go_loop [3] (fun v => trRel l v) (fun v => (intOf v).toNat)
  case atStart => exact ⟨l.length, Nat.le_refl _, rfl, fun k hk => gd_ge hk⟩
  case round =>
    obtain ⟨n, hn, rfl, hz⟩ := hrel
    have HZ := Lib.hid hz
    clear hz
    by_cases h0 : n = 0
    · subst h0
      have HT := Lib.hid (trim_take (l := l) (n := 0) (Nat.zero_le _) HZ.out (.inl rfl))
      go_wp2_with fail
      go_ret
      exact ⟨by rw [HT.out]; rfl, by rw [HT.out]; rfl, rfl⟩
    · obtain ⟨b, off, rfl, hb, hcell⟩ := HA.out (by omega)
      have hck := hcell (n - 1) (by omega)
      have hnl : n - 1 < l.length := by omega
      have hn1 : 0 < n := by omega
      have hd : decide ((0 : Int) < (n : Int)) = true := decide_eq_true (by omega)
      have hd' : decide (0 < n) = true := decide_eq_true (by omega)
      have z1 : (0 : Int) ≤ (n : Int) - 1 := by omega
      have z2 : (n : Int) - 1 < (l.length : Int) := by omega
      have z3 : ((n : Int) - 1).toNat = n - 1 := by omega
      clear hcell
      by_cases hl : l[n - 1]'hnl = 0
      · have hb1 : (l[n - 1]'hnl == 0) = true := by rw [beq_iff_eq]; exact hl
        have HL := Lib.hid hl
        clear hl
        go_wp2_with fail
        go_round
        case rel =>
          refine ⟨n - 1, by omega, by congr 1; omega, fun k hk => ?_⟩
          by_cases hkn : k = n - 1
          · subst hkn; rw [gd_lt (by omega)]; exact HL.out
          · exact HZ.out k (by omega)
        case measure => simp [intOf]; omega
      · have hb1 : (l[n - 1]'hnl == 0) = false := by rw [beq_eq_false_iff_ne]; exact hl
        have HT := Lib.hid (trim_take (l := l) (n := n) hn HZ.out (.inr (by rw [gd_lt (by omega)]; exact hl)))
        have HL : Hid ((trim l).length = n) := by show (trim l).length = n; rw [HT.out, List.length_take]; omega
        clear hl
        go_wp2_with fail
        go_ret
        exact ⟨by rw [HL.out]; rfl, by rw [HL.out]; exact HT.out, rfl⟩
end Go.Proofs.Ytbgabipngdillaa

namespace Go.Proofs.Ytbgabipngdillaa
open Go.RowKit

theorem all1_any (P a : Int) (b : Nat) (w : World) (hc : w.cell? ⟨b, 0, none⟩ = some (.int .i64 P)) :
    Calls Try.prog 99 #[.int .i64 a, .pointer (some ⟨b, 0, none⟩)] w fun e w' => e = .returned (.bool (!el P a)) ∧ w = w' := by
  go_enter Try.func99, Try.ntmps99
  go_wp2_with fail
  (with_reducible refine (has_any _ _ _).mono ?_); rintro e w' ⟨rfl, rfl⟩
  go_wp2_with fail
  go_ret
  exact ⟨rfl, rfl⟩
/-- the place of the first number that is no element, or -1 -/
def IdxP (P : Int) (l : List Int) (w : World) (e : Ending) (w' : World) : Prop := ∃ k : Int, e = .returned (.int .i64 k) ∧ (decide (0 ≤ k) = !els P l) ∧ w = w'
def okTo (P : Int) (l : List Int) (k : Nat) : Prop := ∀ j (_ : j < k) (h : j < l.length), el P l[j] = true
theorem okTo_all {P : Int} {l : List Int} {k : Nat} (h : okTo P l k) (hk : l.length ≤ k) : els P l = true := els_of fun x hx => by
  obtain ⟨j, hj, rfl⟩ := List.mem_iff_getElem.1 hx
  exact h j (by omega) hj
theorem els_no {P : Int} {l : List Int} {k : Nat} (hk : k < l.length) (h : el P l[k] = false) : els P l = false := by
  cases e : els P l with
  | false => rfl
  | true => have := els_all e _ (List.getElem_mem hk); rw [h] at this; cases this
theorem idx_any (P : Int) (l : List Int) (v : Value) (b : Nat) (w : World) (hc : w.cell? ⟨b, 0, none⟩ = some (.int .i64 P)) (h : SI w v l) :
    Calls Try.prog 105 #[v, .func (.func 99) #[] #[.pointer (some ⟨b, 0, none⟩)]] w (IdxP P l w) := by
  obtain ⟨A, c, rfl, hcc, hm, hr, ha⟩ := h
  have HA := Lib.hid ha
  clear hr ha
  go_enter Try.func105, Try.ntmps105
  go_wp2_with fail
  go_loop [8] (fun i => ∃ k : Nat, k ≤ l.length ∧ i = .int .i64 k ∧ okTo P l k) (fun i => l.length - (intOf i).toNat)
  case atStart => exact ⟨0, Nat.zero_le _, rfl, fun j h => absurd h (by omega)⟩
  case round =>
    obtain ⟨k, hk, rfl, hok⟩ := hrel
    have HO := Lib.hid hok
    clear hok
    by_cases hlt : k < l.length
    · obtain ⟨b2, off, rfl, hb2, hcell⟩ := HA.out (by omega)
      have hck := hcell k hlt
      clear hcell
      have hd1 : decide ((k : Int) < (l.length : Int)) = true := decide_eq_true (by omega)
      have hd2 : decide (k < l.length) = true := decide_eq_true hlt
      go_wp2_with fail
      (with_reducible refine (all1_any P l[k] b _ hc).mono ?_); rintro e w' ⟨rfl, rfl⟩
      cases he : el P l[k] with
      | true =>
        have HE := Lib.hid he
        clear he
        go_wp2_with fail
        go_round
        case rel => exact ⟨k + 1, by omega, by go_num, fun j h1 h2 => by
          by_cases e : j = k
          · subst e; exact HE.out
          · exact HO.out j (by omega) h2⟩
        case measure => simp [intOf]; omega
      | false =>
        have HE := Lib.hid (els_no hlt he)
        clear he
        go_wp2_with fail
        go_ret
        exact ⟨k, rfl, by rw [HE.out]; simp, rfl⟩
    · have HE := Lib.hid (okTo_all HO.out (by omega))
      have hd1 : decide ((k : Int) < (l.length : Int)) = false := decide_eq_false (by omega)
      have hd2 : decide (k < l.length) = false := decide_eq_false hlt
      go_wp2_with fail
      go_ret
      exact ⟨-1, rfl, by rw [HE.out]; rfl, rfl⟩
theorem cont_any (P : Int) (l : List Int) (v : Value) (b : Nat) (w : World) (hc : w.cell? ⟨b, 0, none⟩ = some (.int .i64 P)) (h : SI w v l) :
    Calls Try.prog 98 #[v, .func (.func 99) #[] #[.pointer (some ⟨b, 0, none⟩)]] w fun e w' => e = .returned (.bool (!els P l)) ∧ w = w' := by
  go_enter Try.func98, Try.ntmps98
  go_wp2_with fail
  (with_reducible refine (idx_any P l _ b _ hc h).mono ?_); rintro e w' ⟨k, rfl, hk, rfl⟩
  have HK := Lib.hid hk
  clear hk
  go_wp2_with fail
  go_ret
  exact ⟨ret_bool HK.out, rfl⟩
theorem all_any (P : Int) (l : List Int) (v : Value) (w : World) (h : SI w v l) :
    Calls Try.prog 86 #[.int .i64 P, v] w fun e w' => e = .returned (.bool (els P l)) ∧ Below w.heap.size w w' := by
  have hb : Below w.heap.size w (w.alloc (.cells #[.int .i64 P] 95)) := (Below.refl _ _).alloc (Nat.le_refl _) _
  have h' := SI.below h hb
  go_enter Try.func86, Try.ntmps86
  go_wp2_with fail
  (with_reducible refine (cont_any P l _ _ _ (by simp [go_sem]) h').mono ?_); rintro e w' ⟨rfl, rfl⟩
  go_wp2_with fail
  go_ret
  exact ⟨ret_bool (by simp), hb⟩

/-- Block b is a list of ints, and nothing more. -/
def BK (w : World) (b : Nat) (l : List Int) : Prop := w.heap[b]? = some (.cells (l.map (Value.int .i64)).toArray 3 (0, 0))
theorem BK.lt {w : World} {b : Nat} {l : List Int} (h : BK w b l) : b < w.heap.size := heap_of_cells h
theorem BK.cell {w : World} {b : Nat} {l : List Int} (h : BK w b l) {j : Nat} (hj : j < l.length) : w.cell? ⟨b, j, none⟩ = some (.int .i64 l[j]) := by
  rw [cell_of_row w b j _ _ (0, 0) h]
  simp [hj]
theorem BK.frozen {w : World} {b : Nat} {l : List Int} (h : BK w b l) (j : Nat) : w.frozen? ⟨b, j, none⟩ = false := frozen_of_row w b j _ _ h
theorem BK.kept {w w' : World} {b : Nat} {l : List Int} {r : Option Nat} (h : BK w b l) (hg : w.grownBy w' r) (hne : some b ≠ r) : BK w' b l := (hg.block b h.lt hne).trans h
theorem BK.below {w w' : World} {b B : Nat} {l : List Int} (h : BK w b l) (hb : Below B w w') (hB : b < B) : BK w' b l := (hb.block b hB).trans h
theorem BK.set {w : World} {b : Nat} {l : List Int} (h : BK w b l) (j : Nat) (x : Int) : BK (w.setCell ⟨b, j, none⟩ (.int .i64 x)) b (l.set j x) := by
  unfold BK
  rw [heap_setCell_same w b j _ _ _ h]
  simp [List.map_set]
theorem BK.si {w : World} {b o : Nat} {l : List Int} (h : BK w b l) (hr : ∀ x ∈ l, i64r x) (hl : l.length ≤ 1000000) (ho : o ≤ l.length) : SI w (.slice (some ⟨b, o, none⟩) (l.length - o) (l.length - o)) (l.drop o) := by
  refine ⟨some ⟨b, o, none⟩, l.length - o, by rw [List.length_drop], by rw [List.length_drop]; omega, by omega, fun x hx => hr x (List.mem_of_mem_drop hx), fun h0 => ⟨b, o, rfl, h.lt, fun j hj => ?_⟩⟩
  rw [List.length_drop] at hj
  rw [h.cell (by omega)]
  simp
theorem el_r {P x : Int} (hP : P ≤ 65521) (h : el P x = true) : i64r x := by have := el_t h; unfold i64r; omega
theorem els_r {P : Int} (hP : P ≤ 65521) {l : List Int} (h : els P l = true) : ∀ x ∈ l, i64r x := fun x hx => el_r hP (els_all h x hx)

/-- rounds of AddTimes -/
def AtRel (P : Int) (w : World) (b o : Nat) (to : List Int) (x : Int) (l : List Int) (i : Value) (wr : World) : Prop :=
  ∃ k : Nat, k ≤ l.length ∧ i = .int .i64 k ∧ BK wr b (addT P to o x (l.take k)) ∧ w.grownBy wr (some b)
set_option maxHeartbeats 2000000 in
theorem addTimes_any (P : Int) (b o n c : Nat) (to : List Int) (x : Int) (l : List Int) (v : Value) (w : World) (hP : 2 ≤ P ∧ P ≤ 65521) (hx : 0 ≤ x ∧ x < P) (hto : els P to = true) (hl : els P l = true)
    (hb : BK w b to) (h : SI w v l) (hne : ∀ k, v.ownBlock = some k → k ≠ b) (hn : l.length ≤ n) (ho : o + l.length ≤ to.length) :
    Calls Try.prog 76 #[.int .i64 P, .slice (some ⟨b, o, none⟩) n c, .int .i64 x, v] w fun e w' => (∃ v, e = .returned v) ∧ BK w' b (addT P to o x l) ∧ w.grownBy w' (some b) := by
  obtain ⟨A, c', rfl, hcc, hm, hr, ha⟩ := h
  have HA := Lib.hid ha
  have HB := Lib.hid hb
  have HL := Lib.hid hl
  have HTO := Lib.hid hto
  clear hr ha hb hl hto
  go_enter Try.func76, Try.ntmps76
  go_wp2_with fail
  go_loopw [12] (fun i wr => AtRel P w b o to x l i wr) (fun i _ => l.length - (intOf i).toNat)
  case atStart => exact ⟨0, Nat.zero_le _, rfl, by rw [List.take_zero, addT_zero]; exact HB.out, grownBy_refl _ _⟩
  case round =>
    obtain ⟨k, hk, rfl, hbk, hg⟩ := hrel
    have HBK := Lib.hid hbk
    have HG := Lib.hid hg
    have hz := hg.size
    clear hbk hg
    by_cases hlt : k < l.length
    · obtain ⟨b2, off, rfl, hb2, hcell⟩ := HA.out (by omega)
      have hck := HG.out.cell (hcell k hlt) (fun e => hne b2 rfl (by injection e))
      have hlen2 : (addT P to o x (l.take k)).length = to.length := addT_len _ _ _ _ _
      have htk := HBK.out.cell (j := o + k) (by rw [hlen2]; omega)
      have hfk := HBK.out.frozen (o + k)
      have hel := el_t (els_gd hP.1 (addT_els hP.1 HTO.out o x (l.take k)) (o + k))
      have hel2 := el_t (els_all HL.out _ (List.getElem_mem hlt))
      rw [← gd_lt] at htk
      obtain ⟨t, ht⟩ : ∃ t, t = gd (addT P to o x (l.take k)) (o + k) := ⟨_, rfl⟩
      rw [← ht] at htk hel
      obtain ⟨a, ha⟩ : ∃ a, a = l[k] := ⟨_, rfl⟩
      rw [← ha] at hck hel2
      have HST : Hid (addT P to o x (l.take (k + 1)) = (addT P to o x (l.take k)).set (o + k) ((t + x * a) % P)) := by
        show _ = _
        rw [ht, ha]; exact addT_step P to o x l k hlt ho
      have hm1 : 0 ≤ x * a % P := Int.emod_nonneg _ (by omega)
      have hm2 : x * a % P < P := Int.emod_lt_of_pos _ (by omega)
      have HE : Hid ((t + x * a % P) % P = (t + x * a) % P) := by show _ = _; rw [Int.add_emod, Int.emod_emod_of_dvd _ (Int.dvd_refl P), ← Int.add_emod]
      have hd1 : decide ((k : Int) < (l.length : Int)) = true := decide_eq_true (by omega)
      have hd2 : decide (k < l.length) = true := decide_eq_true hlt
      have z1 : (0 : Int) ≤ (k : Int) := by omega
      have z2 : (k : Int) < (n : Int) := by omega
      clear hcell ht ha hlen2
      go_wp2_with fail
      go_region_with (first | (go_at_call 73; refine (mul_any _ _ _ _ hP hx hel2).mono ?_; rintro e w' ⟨rfl, rfl⟩) | (go_at_call 85; refine (add_any _ _ _ _ hP hel ⟨hm1, hm2⟩).mono ?_; rintro e w' ⟨rfl, rfl⟩))
      all_goals
        go_wp2_with fail
        go_roundw
        case rel =>
          have hs := grownBy_setCell (p := ⟨b, o + k, none⟩) HG.out (.inl rfl) (.int .i64 ((t + x * a) % P))
          exact ⟨k + 1, by omega, by go_num, by rw [HST.out]; exact HBK.out.set _ _, ⟨hs.os, hs.tape, hs.output, hs.size, hs.block⟩⟩
        case measure => simp [intOf]; omega
    · have hkk : k = l.length := by omega
      have hd1 : decide ((k : Int) < (l.length : Int)) = false := decide_eq_false (by omega)
      have hd2 : decide (k < l.length) = false := decide_eq_false hlt
      have HFIN : Hid (BK wr b (addT P to o x l)) := by show BK _ _ _; have := HBK.out; rwa [hkk, List.take_length] at this
      clear hkk
      go_wp2_with fail
      go_end0
      exact ⟨⟨_, rfl⟩, HFIN.out, HG.out⟩
end Go.Proofs.Ytbgabipngdillaa
