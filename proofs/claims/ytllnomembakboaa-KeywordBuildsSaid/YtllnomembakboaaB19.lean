/- Joined: No Nr. -/
import Derived.Shelf.SlSortCmp.NoneTotal
import Derived.Test.YtllnomembakboaaB18
import Derived.Test.YtllnomembakboaaB16
namespace Go.Proofs.Ytllnomembakboaa
open Go.RowKit Go.Sort Go.Shelf

theorem flatK_list (l : List (ByteArray × Int)) : flatK ecs 2 l.toArray = (l.flatMap ecs).toArray := by
  apply Array.ext
  · rw [size_flatK, List.size_toArray, List.size_toArray, fm_len]
  · intro t h1 h2
    have ht : t < l.length * 2 := by simpa using h1
    have h3 := get_flatK ecs 2 l.toArray t (by simpa using ht)
    rw [getElem!_pos _ t h1] at h3
    rw [h3]
    have h4 := flatMap_get ecs 2 l (fun x _ => ecs_len x) (t / 2) (by omega) (t % 2) (by omega)
    have hd : t / 2 * 2 + t % 2 = t := by omega
    rw [hd] at h4
    have h5 : t < (l.flatMap ecs).length := by simpa using h2
    rw [List.getElem?_eq_getElem h5] at h4
    have h6 : (l.toArray)[t / 2]! = l[t / 2]'(by omega) := by simp [show t / 2 < l.length by omega]
    rw [h6]
    have h7 : t % 2 < (ecs (l[t / 2]'(by omega))).length := by rw [ecs_len]; omega
    rw [List.getElem?_eq_getElem h7] at h4
    injection h4 with h4
    rw [getElem!_pos (ecs (l[t / 2]'(by omega))) (t % 2) h7]
    simpa using h4.symm
theorem heap_sortedV {w : World} {g n : Nat} {os : Array Obj} {cur : Array Value} {e : TypeId} {fr : Nat × Nat} (d : Array Value) (hb : w.heap[g]? = some (.cells cur e fr)) :
    (grow (putRow id (Sort.ahead w n) g 0 d) os).heap[g]? = some (.cells (putCells id 0 d cur) e fr) := by
  have hg : g < w.heap.size := (Array.getElem?_eq_some_iff.1 hb).1
  rw [heap_grow_old _ _ (by simpa using hg)]
  simp [putRow, mapBlock, Sort.ahead, Array.getElem?_modify, hb, onCells]
theorem grownBy_sortedV {w : World} {g n : Nat} {os : Array Obj} (d : Array Value) : w.grownBy (grow (putRow id (Sort.ahead w n) g 0 d) os) (some g) := by
  refine ⟨rfl, rfl, rfl, by simp, fun k hk hne => ?_⟩
  rw [heap_grow_old _ _ (by simpa using hk)]
  have : g ≠ k := fun e => hne (by rw [e])
  simp [putRow, mapBlock, Sort.ahead, Array.getElem?_modify, this]
theorem take_putCellsV (cur : Array Value) (ts : List Value) (h : ts.length ≤ cur.size) : (putCells id 0 ts.toArray cur).toList.take ts.length = ts := by
  apply List.ext_getElem?
  intro j
  by_cases hj : j < ts.length
  · rw [List.getElem?_take_of_lt hj, Array.getElem?_toList]
    simp [putCells, hj, show j < cur.size by omega]
  · rw [List.getElem?_take_eq_none (by omega), List.getElem?_eq_none (by omega)]
theorem ownsRow_sortedV {w : World} {base g cap n m sz : Nat} {e : TypeId} {os : Array Obj} {cur : Array Value} {ts : List Value} (hl : ts.length = m * sz) (hbase : base ≤ g) (hb : w.heap[g]? = some (.cells cur e (0, 0)))
    (h1 : m ≤ cap) (h2 : cap ≤ maxLen) (h3 : cur.size = cap * sz) :
    (grow (putRow id (Sort.ahead w n) g 0 ts.toArray) os).ownsRow base e sz (.slice (some ⟨g, 0, none⟩) m cap) m ts :=
  ⟨hl, .inr ⟨g, cap, _, rfl, hbase, heap_sortedV _ hb, h1, h2, by simp [putCells, h3], by rw [← hl]; exact take_putCellsV cur ts (by rw [hl, h3]; exact Nat.mul_le_mul_right _ h1)⟩⟩
theorem holdsV {w : World} {g : Nat} {cur : Array Value} {e : TypeId} {ts : List Value} (hb : w.heap[g]? = some (.cells cur e (0, 0))) (ht : cur.toList.take ts.length = ts) : Holds id w g 0 ts.toArray := by
  intro j hj
  have hj : j < ts.length := by simpa using hj
  rw [Nat.zero_add]
  refine ⟨?_, frozen_of_row w g j _ _ hb⟩
  rw [cell_of_row w g j _ _ _ hb]
  have h1 : (cur.toList.take ts.length)[j]? = ts[j]? := by rw [ht]
  rw [List.getElem?_take_of_lt hj, Array.getElem?_toList] at h1
  rw [h1]
  simp [hj]
/-- keys compared -/
def cfE (x y : ByteArray × Int) : Int := cmpS x.1 y.1
theorem ltE (x y : ByteArray × Int) : ltOf cfE x y = klt x.1 y.1 := cmpS_neg x.1 y.1
theorem swoE : SWO (ltOf cfE) where
  irrefl x := by rw [ltE]; exact klt_irrefl _
  trans x y z h1 h2 := by rw [ltE] at *; exact klt_trans h1 h2
  ntrans x y z h1 h2 := by
    rw [ltE] at *
    rw [Bool.eq_false_iff] at *
    intro h3
    by_cases e : y.1 = z.1
    · rw [← e] at h3; exact h1 h3
    · rcases klt_total e with h | h
      · exact h2 h
      · exact h1 (klt_trans h3 h)
/-- sorted by keys, equals beside one another -/
def SrtE (l : List (ByteArray × Int)) : Prop := l.Pairwise fun a b => klt b.1 a.1 = false
theorem SrtE.asc {l : List (ByteArray × Int)} (h : SrtE l) (hn : (l.map (·.1)).Nodup) : Asc l := by
  refine List.pairwise_iff_getElem.2 fun i j hi hj hij => ?_
  have h1 := List.pairwise_iff_getElem.1 h i j hi hj hij
  have hne : l[i].1 ≠ l[j].1 := by
    rw [List.nodup_iff_pairwise_ne, List.pairwise_iff_getElem] at hn
    have := hn i j (by simpa using hi) (by simpa using hj) hij
    simpa using this
  rcases klt_total hne with h2 | h2
  · exact h2
  · rw [h1] at h2; cases h2
set_option maxRecDepth 100000 in
theorem sortE_any {base : Nat} (es : List (ByteArray × Int)) (v : Value) (w : World) (hz : es.length ≤ 1000000) (hown : w.ownsRow base 41 2 v es.length (es.flatMap ecs)) :
    Calls Try.prog 63 #[v, .func (.func 52) #[] #[]] w fun en w' => en = .returned (.tuple #[]) ∧ ∃ S : List (ByteArray × Int), S.Perm es ∧ SrtE S ∧ w'.ownsRow base 41 2 v S.length (S.flatMap ecs) ∧ w.grownBy w' v.ownBlock := by
  rcases hown.2 with ⟨rfl, hn⟩ | ⟨g, cap, cur, rfl, hb, hg, hnc, hcm, hcs, htake⟩
  · have : es = [] := List.eq_nil_of_length_eq_zero hn
    subst this
    have h := AnyF.slices_SortFunc_none Try.sortE none 0 (.func (.func 52) #[] #[]) w
    change Calls Try.prog 63 _ _ _ at h
    refine h.mono ?_
    rintro en w' ⟨rfl, rfl⟩
    exact ⟨rfl, [], List.Perm.nil, List.Pairwise.nil, World.ownsRow_nil _ _ _ _, grownBy_refl _ _⟩
  · have hgw : g < w.heap.size := heap_of_cells hg
    have eg : ∀ args w, (callFunc 52 args).run Try.prog w = .ok (.enter 52 args) w := enters_of Try.func52 (by kernel_rfl) rfl
    have hH : HoldsK ecs 2 w g 0 es.toArray := by
      unfold HoldsK
      rw [flatK_list]
      exact holdsV hg (by rw [fm_len]; exact htake)
    have hcmp : CmpLays Try.prog 52 #[] ecs 2 cfE g 0 es.toArray.size w := fun m os dk hs x y => by
      have h := order_grw x.1 y.1 x.2 y.2 (sortWorldK ecs 2 w g 0 m dk os)
      exact h
    have hcon := AnyQ.slices_SortFunc Try.sortE 2 Try.isAgg41 Try.sizeOf41 ecs ecs_len ecs_one cfE swoE 52 #[] g 0 cap es.toArray w eg hcmp hH hgw (by simp; omega)
    change Calls Try.prog 63 _ _ _ at hcon
    refine hcon.mono ?_
    rintro en w' ⟨rfl, d', n, os, hp, hs, rfl⟩
    have hsz : d'.size = es.length := by rw [hp.1]; simp
    have hperm : d'.toList.Perm es := by
      have h := hp.2.2
      simp only [Array.toList_extract, List.extract_eq_take_drop, List.size_toArray, List.drop_zero, Nat.sub_zero] at h
      rw [List.take_of_length_le (by simp; omega), List.take_of_length_le (Nat.le_refl _)] at h
      exact h
    refine ⟨rfl, d'.toList, hperm, ?_, ?_, ?_⟩
    · refine List.pairwise_iff_getElem.2 fun i j hi hj hij => ?_
      have hi' : i < d'.size := by simpa using hi
      have hj' : j < d'.size := by simpa using hj
      have h := hs i j (Nat.zero_le _) hij (by simp; omega)
      rw [ltE] at h
      simpa [getElem!_pos, hi', hj'] using h
    · have e : flatK ecs 2 d' = (d'.toList.flatMap ecs).toArray := by
        have := flatK_list d'.toList
        simpa using this
      have hl : d'.toList.length = es.length := by simpa using hsz
      show (grow (putRow id (Sort.ahead w n) g 0 (flatK ecs 2 d')) os).ownsRow _ _ _ _ _ _
      rw [e, ← hl]
      exact ownsRow_sortedV (fm_len _) hb hg (by omega) hcm hcs
    · exact grownBy_sortedV _
end Go.Proofs.Ytllnomembakboaa

namespace Go.Proofs.Ytllnomembakboaa
open Go.RowKit

theorem values_any (A : Option Addr) (n c : Nat) (w : World) : Calls Try.prog 51 #[.slice A n c] w fun e w' => e = .returned (.func (.func 64) #[] #[.pointer (some ⟨w.heap.size, 0, none⟩)]) ∧ w' = w.alloc (.cells #[.slice A n c] 29) := by
  go_enter Try.func51, Try.ntmps51
  go_wp2
  go_ret
  exact ⟨rfl, rfl⟩
/-- what the iterator's box leads to -/
def BoxE (w : World) (Bs : Nat) (l : List (ByteArray × Int)) : Prop :=
  ∃ A c, Bs < w.heap.size ∧ w.cell? ⟨Bs, 0, none⟩ = some (.slice A l.length c) ∧ (0 < l.length → ∃ b off, A = some ⟨b, off, none⟩ ∧ b < w.heap.size ∧ ∀ j (h : j < l.length), w.cell? ⟨b, off + j * 2, none⟩ = some (.string l[j].1) ∧ w.cell? ⟨b, off + j * 2 + 1, none⟩ = some (.int .i64 l[j].2))
theorem collect_any (l : List (ByteArray × Int)) (Bs : Nat) (hz : l.length ≤ 1000000) (w : World) (h : BoxE w Bs l) :
    Calls Try.prog 62 #[.func (.func 64) #[] #[.pointer (some ⟨Bs, 0, none⟩)]] w fun e w' => ∃ v', e = .returned v' ∧ w'.ownsRow w.heap.size 41 2 v' l.length (l.flatMap ecs) ∧ Below w.heap.size w w' := by
  obtain ⟨A, c, hBl, hBs, hc⟩ := h
  have happ := callsIn_wide.1 (append_in l Bs A c hz w hBl hBs hc)
  have HA := Lib.hid happ
  clear happ hc
  go_enter Try.func62, Try.ntmps62
  go_wp2_with fail
  (with_reducible refine HA.out.mono ?_)
  rintro e w1 ⟨v', rfl, ho, hb⟩
  have HO := Lib.hid ho
  have HB := Lib.hid hb
  clear ho hb
  go_wp2_with fail
  go_ret
  exact ⟨v', rfl, HO.out, HB.out⟩
theorem sorted_any (l : List (ByteArray × Int)) (Bs : Nat) (hz : l.length ≤ 1000000) (w : World) (h : BoxE w Bs l) :
    Calls Try.prog 50 #[.func (.func 64) #[] #[.pointer (some ⟨Bs, 0, none⟩)], .func (.func 52) #[] #[]] w fun e w' => ∃ S v', e = .returned v' ∧ S.Perm l ∧ SrtE S ∧ w'.ownsRow w.heap.size 41 2 v' S.length (S.flatMap ecs) ∧ Below w.heap.size w w' := by
  have hcol := collect_any l Bs hz w h
  have HC := Lib.hid hcol
  clear h hcol
  go_enter Try.func50, Try.ntmps50
  go_wp2_with fail
  (with_reducible refine HC.out.mono ?_)
  rintro e w1 ⟨v', rfl, ho, hb⟩
  have HO := Lib.hid ho
  have HB := Lib.hid hb
  clear ho hb
  go_wp2_with fail
  (with_reducible refine (sortE_any l v' w1 hz HO.out).mono ?_)
  rintro e w2 ⟨rfl, S, hp, hs, ho2, hg2⟩
  have HP := Lib.hid hp
  have HS := Lib.hid hs
  have HO2 := Lib.hid ho2
  have HB2 : Hid (Below w.heap.size w w2) := (show Hid _ from HB.out.grown hg2 HB.out.size (fun k hk => (HO.out.lt k hk).1))
  clear hp hs ho2 hg2
  go_wp2_with fail
  go_ret
  exact ⟨S, v', rfl, HP.out, HS.out, HO2.out, HB2.out⟩
end Go.Proofs.Ytllnomembakboaa
