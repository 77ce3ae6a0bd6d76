/- Joined: Nt. -/
import Derived.StringKeys
import Derived.Test.YtllnomembakboaaB11
import Derived.Test.YtllnomembakboaaB10
namespace Go.Proofs.Ytllnomembakboaa
open Go.RowKit Go.Maps

/-- Block b is a map that says true at the texts of S alone. -/
def BS (P : Program) (k e : TypeId) (w : World) (b n : Nat) (S : List (List UInt8)) : Prop :=
  ∃ D : DataW Unit, w.ownsMap P k (plainElem P e) b n D ∧ IsMap D ∧ ∀ x, D.atKey (.string x) (.lit (.bool false)) = .lit (.bool (S.contains x))
theorem BS.made (P : Program) (k e : TypeId) (w : World) : BS P k e (w.alloc (.map #[] 0)) w.heap.size 0 [] :=
  ⟨.map [], World.ownsMap_made w P k _, ⟨_, rfl⟩, fun x => by simp [DataW.atKey]⟩
theorem BS.kept {P : Program} {k e : TypeId} {w w' : World} {b n : Nat} {S : List (List UInt8)} {row : Option Nat} (h : BS P k e w b n S) (hg : w.grownBy w' row) (hne : some b ≠ row) : BS P k e w' b n S := by
  obtain ⟨D, h1, h2, h3⟩ := h
  exact ⟨D, h1.kept hg hne, h2, h3⟩
theorem BS.lt {P : Program} {k e : TypeId} {w : World} {b n : Nat} {S : List (List UInt8)} (h : BS P k e w b n S) : b < w.heap.size := by
  obtain ⟨D, h1, h2, h3⟩ := h
  exact h1.lt
theorem wpList_lookup_BS {P : Program} (w : World) {ops : Array Oper} {rest : List Oper} {o : Oper} {a : Act} {Q : Exit → Act → World → Prop}
    (hg : o.guard = none) (m x : Operand) (t : TypeId) (hop : o.op = Op.lookup t m x false)
    (k e : TypeId) (ht : P.underlying t = some (.map k e)) (hk : P.underlying k = some .string) (he : P.underlying e = some .bool) (hz : (zeroValue e).run P w = .ok (.bool false) w) (b n : Nat) (S : List (List UInt8))
    (hm : a.eval m = .map (some b)) (h : BS P k e w b n S) (key : ByteArray) (hx : a.eval x = .string key) (hkey : key.size ≤ maxLen)
    (hK : wpList P ops Q rest (a.put o.dst (.bool (S.contains key.data.toList))) w) :
    wpList P ops Q (o :: rest) a w := by
  obtain ⟨D, h1, h2, h3⟩ := h
  refine wpList_lookup_own_bool w hg m x t hop k e (string_keyed hk) ht he hz b n D hm h1 _ _ hx (WideMaps.keyOf_string_mk hk hkey) fun c hc => ?_
  rw [h3] at hc
  injection hc with hc
  injection hc with hc
  rw [← hc]
  exact hK
theorem wpList_update_BS {P : Program} (w : World) {ops : Array Oper} {rest : List Oper} {o : Oper} {a : Act} {Q : Exit → Act → World → Prop}
    (hg : o.guard = none) (m x v : Operand) (t : TypeId) (hop : o.op = Op.mapUpdate t m x v)
    (k e : TypeId) (ht : P.underlying t = some (.map k e)) (hk : P.underlying k = some .string) (he : P.underlying e = some .bool) (b n : Nat) (S : List (List UInt8))
    (hm : a.eval m = .map (some b)) (h : BS P k e w b n S) (hn : n < maxLen) (key : ByteArray) (hx : a.eval x = .string key) (hkey : key.size ≤ maxLen) (hv : a.eval v = .bool true)
    (hK : ∀ w', BS P k e w' b (n + 1) (key.data.toList :: S) → w.grownBy w' (some b) → wpList P ops Q rest (a.put o.dst undef) w') :
    wpList P ops Q (o :: rest) a w := by
  obtain ⟨D, h1, h2, h3⟩ := h
  refine wpList_mapUpdate_own w hg m x v t hop k e (string_keyed hk) ht _ b n D hm h1 hn _ _ _ hx hv (WideMaps.keyOf_string_mk hk hkey) _ [] (plainElem_bool he true) fun w' o1 o2 => ?_
  refine hK w' ⟨_, o1, ?_, fun y => ?_⟩ o2
  · obtain ⟨es, rfl⟩ := h2
    exact ⟨_, rfl⟩
  · by_cases hy : y = key.data.toList
    · subst hy
      rw [atKey_put_same h2 (by simp [WideAt.IsKeyLit])]
      simp
    · rw [atKey_put_other (by simpa using hy), h3]
      simp [hy]
theorem zeroB (w : World) : (zeroValue 4).run Try.prog w = .ok (.bool false) w := Try.zeroValue4 w
/-- the keys that have come -/
def kys (es : List (ByteArray × Int)) (i : Nat) : List (List UInt8) := ((es.take i).map fun e => e.1.data.toList).reverse
theorem kys_zero (es : List (ByteArray × Int)) : kys es 0 = [] := by simp [kys]
theorem kys_succ {es : List (ByteArray × Int)} {i : Nat} (h : i < es.length) : kys es (i + 1) = es[i].1.data.toList :: kys es i := by
  unfold kys
  rw [List.take_succ_eq_append_getElem h, List.map_append, List.reverse_append]
  rfl
theorem dt_inj {x y : ByteArray} (h : x.data.toList = y.data.toList) : x = y := by
  cases x; cases y
  simp only [ByteArray.mk.injEq]
  exact Array.toList_inj.1 h
theorem kys_has {es : List (ByteArray × Int)} {i : Nat} {key : ByteArray} (h : (kys es i).contains key.data.toList = true) : ∃ j, ∃ hj : j < es.length, j < i ∧ es[j].1 = key := by
  rw [List.contains_iff_mem] at h
  unfold kys at h
  rw [List.mem_reverse] at h
  obtain ⟨e, he, h2⟩ := List.mem_map.1 h
  obtain ⟨j, hj, rfl⟩ := List.mem_take_iff_getElem.1 he
  exact ⟨j, by omega, by omega, dt_inj h2⟩
theorem kys_not {es : List (ByteArray × Int)} {i : Nat} {key : ByteArray} (hi : i ≤ es.length) (h : (kys es i).contains key.data.toList = false) : ∀ j (_ : j < i), (es[j]'(by omega)).1 ≠ key := by
  intro j hj e
  rw [← Bool.not_eq_true, List.contains_iff_mem] at h
  apply h
  unfold kys
  rw [List.mem_reverse]
  exact List.mem_map.2 ⟨_, List.mem_take_iff_getElem.2 ⟨j, by omega, rfl⟩, by rw [e]⟩
end Go.Proofs.Ytllnomembakboaa
