/- Joined: Nk. -/
import Derived.RangeFuncNested
import Derived.RangeFuncBound
import Derived.RangeFuncCalls
import Derived.RangeFuncLeaves
import Derived.RangeFuncBox
import Derived.Shelf.Abstract
import Derived.Shelf.RegionOpen
import Derived.OwnWalkIn
import Derived.TacticsInMore
import Derived.LoopNIn
import Derived.LoopIn
import Derived.Maps.OwnIn
import Derived.Test.YtllnomembakboaaB13
namespace Go.Proofs.Ytllnomembakboaa
open Go.RowKit Go.Shelf
attribute [local go_sem] Oper.semAt_some

/-- the blocks of K read as before -/
def KB (K : Nat → Prop) (A B : World) : Prop := A.heap.size ≤ B.heap.size ∧ ∀ p : Addr, K p.block → B.cell? p = A.cell? p
theorem KB.refl (K : Nat → Prop) (A : World) : KB K A A := ⟨Nat.le_refl _, fun _ _ => rfl⟩
theorem KB_t {K : Nat → Prop} {A B C : World} (h : KB K A B) (k : KB K B C) : KB K A C := ⟨Nat.le_trans h.1 k.1, fun p hp => (k.2 p hp).trans (h.2 p hp)⟩
theorem KB_b {K : Nat → Prop} {w : World} (hn : ∀ k, K k → k < w.heap.size) (W : World) (l : Nat) (o o' : Obj) (hl : w.heap.size ≤ l) (h : W.heap[l]? = some o) (h1 : o.isCells = false) (h2 : o.isWalk = false) : KB K W (W.putObj l o') := by
  have hb := belowK_b (w := w) (Nat.le_refl _) W l o o' hl h h1 h2
  exact ⟨hb.size, fun _ hp => hb.cell (hn _ hp)⟩
theorem KB.of {K : Nat → Prop} {n : Nat} {A B : World} (h : Below n A B) (hn : ∀ k, K k → k < n) : KB K A B := ⟨h.size, fun _ hp => h.cell (hn _ hp)⟩
theorem KB.grown {K : Nat → Prop} {A B : World} {r : Option Nat} (h : A.grownBy B r) (hn : ∀ k, K k → k < A.heap.size ∧ some k ≠ r) : KB K A B :=
  ⟨h.size, fun p hp => World.cell?_of_block (h.block p.block (hn _ hp).1 (hn _ hp).2)⟩
/-- the first k places -/
def upA (n k : Nat) : List (Fin n) := (List.range k).filterMap fun i => if h : i < n then some ⟨i, h⟩ else none
theorem upA_succ {n k : Nat} (h : k < n) : upA n (k + 1) = upA n k ++ [⟨k, h⟩] := by
  unfold upA
  rw [List.range_succ, List.filterMap_append]
  simp [h]
theorem upA_length {n k : Nat} (h : k ≤ n) : (upA n k).length = k := by
  induction k with
  | zero => rfl
  | succ k ih => rw [upA_succ (by omega), List.length_append, ih (by omega)]; rfl
set_option maxRecDepth 100000 in
set_option maxHeartbeats 4000000 in
theorem val1_in (n : Nat) (hn : 1 ≤ n) (lr Bs : Nat) (A : Option Addr) (c : Nat) (K : Nat → Prop) (l : List (ByteArray × Int)) (hz : l.length ≤ 1000000) (J Jx : List (Fin l.length) → World → Prop)
    (W : World) (hK : ∀ k, K k → k < W.heap.size) (hJ : AbidesFrom W.heap.size J)
    (hY : ∀ pre x W, J pre W → pre.length < l.length → YieldAt Fence.wide (n - 1) Try.prog lr #[.agg #[.string l[x].1, .int .i64 l[x].2]] W fun e W' =>
      (e = .returned (.bool true) ∧ J (pre ++ [x]) W' ∧ KB K W W') ∨ (e = .returned (.bool false) ∧ Jx (pre ++ [x]) W'))
    (hBs : W.cell? ⟨Bs, 0, none⟩ = some (.slice A l.length c)) (hc : 0 < l.length → ∃ b off, A = some ⟨b, off, none⟩ ∧ K b ∧ ∀ j (h : j < l.length), W.cell? ⟨b, off + j * 2, none⟩ = some (.string l[j].1) ∧ W.cell? ⟨b, off + j * 2 + 1, none⟩ = some (.int .i64 l[j].2)) (h0 : J [] W) :
    CallsIn Fence.wide n Try.prog 64 #[.func (.yield lr) #[] #[], .pointer (some ⟨Bs, 0, none⟩)] W fun e W' => (∃ v, e = .returned v) ∧
      ((∃ ys, ys = upA l.length l.length ∧ J ys W') ∨ (∃ pre, (∃ k, k ≤ l.length ∧ pre = upA l.length k) ∧ Jx pre W')) := by
  refine callsIn_of_wp Try.func64 rfl trivial ?_ rfl
  simp only [Try.ntmps64, List.size_toArray, List.length_cons, List.length_nil, Nat.reduceAdd, Nat.reduceSub, Array.replicate_succ, Array.replicate_zero, List.push_toArray, List.append_toArray, List.nil_append, List.cons_append]
  have HC := Lib.hid hc
  have HY := Lib.hid hY
  have HJ := Lib.hid hJ
  clear hc hY hJ
  gi_wp2_with fail
  gi_loopw [7] (fun i wr => ∃ k : Nat, k ≤ l.length ∧ i = .int .i64 k ∧ J (upA l.length k) wr ∧ KB K W wr) (fun i _ => l.length - (intOf i).toNat)
  case atStart => exact ⟨0, Nat.zero_le _, rfl, h0, KB.refl _ _⟩
  case round =>
    obtain ⟨k, hk, rfl, hJs, hnx⟩ := hrel
    have HN := Lib.hid hnx
    have hzr := hnx.1
    by_cases hlt : k < l.length
    · obtain ⟨b, off, rfl, hb, hcell⟩ := HC.out (by omega)
      obtain ⟨key, ek⟩ : ∃ key, key = l[k].1 := ⟨_, rfl⟩
      obtain ⟨x, ex⟩ : ∃ x, x = l[k].2 := ⟨_, rfl⟩
      have e0 : wr.cell? ⟨b, off + k * 2, none⟩ = some (.string key) := by rw [ek]; exact (hnx.2 ⟨b, off + k * 2, none⟩ hb).trans (hcell k hlt).1
      have e1 : wr.cell? ⟨b, off + k * 2 + 1, none⟩ = some (.int .i64 x) := by rw [ex]; exact (hnx.2 ⟨b, off + k * 2 + 1, none⟩ hb).trans (hcell k hlt).2
      have hd1 : decide ((k : Int) < (l.length : Int)) = true := decide_eq_true (by omega)
      have hd2 : decide (k < l.length) = true := decide_eq_true hlt
      have hJA : J (upA l.length k) (wr.alloc (.cells #[.string key, .int .i64 x] 41)) := HJ.out _ _ _ none hJs (World.grownBy_alloc wr _ none) (by simp)
      have hkA : KB K wr (wr.alloc (.cells #[.string key, .int .i64 x] 41)) := KB.of ((Below.refl wr.heap.size wr).alloc (Nat.le_refl _) _) (fun q hq => by have := hK q hq; omega)
      have HKA := Lib.hid hkA
      have HS2 : Hid (upA l.length (k + 1) = upA l.length k ++ [⟨k, hlt⟩]) := (show Hid _ from upA_succ hlt)
      obtain ⟨fn, tmps, assign, body, hy, hR⟩ := HY.out _ ⟨k, hlt⟩ _ hJA (by rw [upA_length (Nat.le_of_lt hlt)]; exact hlt)
      simp only [Fin.getElem_fin, ← ek, ← ex] at hy
      have z0 : 0 ≤ (k : Int) := by omega
      clear hnx hkA hcell ek ex
      gi_wp2
      refine hR.mono ?_
      rintro e W3 (⟨rfl, hJ3, hk3⟩ | ⟨rfl, hJx3⟩)
      · gi_wp2
        go_roundw
        case rel => exact ⟨k + 1, by omega, by go_num, by rw [HS2.out]; exact hJ3, KB_t (KB_t HN.out HKA.out) hk3⟩
        case measure => simp [intOf]; omega
      · gi_wp2
        refine bodyPost_ret (results_none rfl _ _ _) rfl ?_
        exact ⟨⟨_, rfl⟩, .inr ⟨_, ⟨k + 1, hlt, HS2.out.symm⟩, hJx3⟩⟩
    · obtain rfl : k = l.length := by omega
      have HT := Lib.hid hJs
      have hd1 : decide (((l.length : Nat) : Int) < (l.length : Int)) = false := decide_eq_false (by omega)
      clear hnx hJs
      gi_wp2
      go_end0
      exact ⟨⟨_, rfl⟩, .inl ⟨_, rfl, HT.out⟩⟩
theorem val_stops (n : Nat) (hn : 1 ≤ n) (Bs : Nat) (A : Option Addr) (c : Nat) (K : Nat → Prop) (l : List (ByteArray × Int)) (hz : l.length ≤ 1000000) (w : World) (hK : ∀ k, K k → k < w.heap.size) (hBl : Bs < w.heap.size)
    (hBs : w.cell? ⟨Bs, 0, none⟩ = some (.slice A l.length c)) (hc : 0 < l.length → ∃ b off, A = some ⟨b, off, none⟩ ∧ K b ∧ ∀ j (h : j < l.length), w.cell? ⟨b, off + j * 2, none⟩ = some (.string l[j].1) ∧ w.cell? ⟨b, off + j * 2 + 1, none⟩ = some (.int .i64 l[j].2)) :
    SeqStopsK Fence.wide n Try.prog 64 #[.pointer (some ⟨Bs, 0, none⟩)] (fun x : Fin l.length => #[.agg #[.string l[x].1, .int .i64 l[x].2]]) (KB K) (fun ys => ys = upA l.length l.length) (fun pre => ∃ k, k ≤ l.length ∧ pre = upA l.length k) l.length w := fun lr J Jx W hW hJ _ hY h0 => by
  refine val1_in n hn lr Bs A c K l hz J Jx W (fun k hk => by have := hK k hk; have := hW.size; omega) hJ hY ((hW.cell (p := ⟨Bs, 0, none⟩) hBl).trans hBs) (fun h0 => ?_) h0
  obtain ⟨b, off, e, hb, hcell⟩ := hc h0
  exact ⟨b, off, e, hb, fun j hj => ⟨(hW.cell (p := ⟨b, off + j * 2, none⟩) (hK _ hb)).trans (hcell j hj).1, (hW.cell (p := ⟨b, off + j * 2 + 1, none⟩) (hK _ hb)).trans (hcell j hj).2⟩⟩
/-- the entries at some places -/
def ats (l : List (ByteArray × Int)) (pre : List (Fin l.length)) : List (ByteArray × Int) := pre.map fun j => l[j]
theorem ats_len (l : List (ByteArray × Int)) (pre : List (Fin l.length)) : (ats l pre).length = pre.length := List.length_map _
theorem ats_snoc (l : List (ByteArray × Int)) (pre : List (Fin l.length)) (j : Fin l.length) : ats l (pre ++ [j]) = ats l pre ++ [l[j]] := by simp [ats]
theorem ats_upA (l : List (ByteArray × Int)) (k : Nat) (h : k ≤ l.length) : ats l (upA l.length k) = l.take k := by
  induction k with
  | zero => simp [ats, upA]
  | succ k ih => rw [upA_succ (by omega), ats_snoc, ih (by omega), List.take_succ_eq_append_getElem (by omega)]; rfl
theorem own_keptR {w w' : World} {base e size n : Nat} {v : Value} {xs : List Value} {row : Option Nat} (h : w.ownsRow base e size v n xs) (hg : w.grownBy w' row) (hr : ∀ r, row = some r → ∃ o : Obj, w.heap[r]? = some o ∧ o.isCells = false) : w'.ownsRow base e size v n xs := by
  refine h.kept hg ?_
  rcases h.2 with ⟨rfl, _⟩ | ⟨g, cap, cur, rfl, hb, hgg, _⟩
  · exact .inl rfl
  · refine .inr fun e => ?_
    obtain ⟨o, ho, hc⟩ := hr g e.symm
    rw [hgg] at ho
    cases ho
    cases hc
/-- the slice under construction, in its box -/
def APX (X : Nat) (l : List (ByteArray × Int)) (pre : List (Fin l.length)) (W : World) : Prop := ∃ v, Boxed W X 29 v ∧ W.ownsRow X 41 2 v pre.length ((ats l pre).flatMap ecs) ∧ True
set_option maxRecDepth 100000 in
set_option maxHeartbeats 4000000 in
theorem append_in (l : List (ByteArray × Int)) (Bs : Nat) (A : Option Addr) (c : Nat) (hz : l.length ≤ 1000000) (w : World) (hBl : Bs < w.heap.size)
    (hBs : w.cell? ⟨Bs, 0, none⟩ = some (.slice A l.length c)) (hc : 0 < l.length → ∃ b off, A = some ⟨b, off, none⟩ ∧ b < w.heap.size ∧ ∀ j (h : j < l.length), w.cell? ⟨b, off + j * 2, none⟩ = some (.string l[j].1) ∧ w.cell? ⟨b, off + j * 2 + 1, none⟩ = some (.int .i64 l[j].2)) :
    CallsIn Fence.wide 8 Try.prog 75 #[.slice none 0 0, .func (.func 64) #[] #[.pointer (some ⟨Bs, 0, none⟩)]] w fun e w' => ∃ v', e = .returned v' ∧ w'.ownsRow w.heap.size 41 2 v' l.length (l.flatMap ecs) ∧ Below w.heap.size w w' := by
  have HC := Lib.hid hc
  clear hc
  obtain ⟨i0, hi0, hi1, hi2, hi3⟩ := info_parts einfo
  refine callsIn_of_wp_marks Try.func75 rfl trivial ?_ rfl
  simp only [Try.ntmps75, List.size_toArray, List.length_cons, List.length_nil, Nat.reduceAdd, Nat.reduceSub, Array.replicate_succ, Array.replicate_zero, List.push_toArray, List.append_toArray, List.nil_append, List.cons_append]
  obtain ⟨X, eX⟩ : ∃ X, X = w.heap.size := ⟨_, rfl⟩
  obtain ⟨W0, eW⟩ : ∃ W0 : World, W0 = w.alloc (.cells #[.slice none 0 0] 29) := ⟨_, rfl⟩
  have hbW : Below w.heap.size w W0 := by rw [eW]; exact (Below.refl _ _).alloc (Nat.le_refl _) _
  have hzW : w.heap.size < W0.heap.size := by rw [eW]; simp
  have hbox : Boxed W0 X 29 (.slice none 0 0) := by rw [eW, eX]; exact Boxed.new _ _ _
  have hI0 : APX X l [] W0 := ⟨_, hbox, World.ownsRow_nil _ _ _ _, trivial⟩
  have HI0 := Lib.hid hI0
  clear hI0 hbox
  gi_wp2_with fail
  rw [← eW]
  have hXw : X = w.heap.size := eX
  clear eW eX
  have hcS : W0.cell? ⟨Bs, 0, none⟩ = some (.slice A l.length c) := (hbW.cell (p := ⟨Bs, 0, none⟩) hBl).trans hBs
  refine wpIn_rangeFunc_ownH rfl (by omega) (gf := 64) (lb := #[.pointer (some ⟨Bs, 0, none⟩)]) rfl trivial (enters_of Try.func64 (by kernel_rfl) rfl)
    (val_stops 7 (by omega) Bs A c (fun b => b < w.heap.size) l hz W0 (fun k hk => by omega) (by omega) hcS (fun h0 => by
      obtain ⟨b, off, e, hb, hcell⟩ := HC.out h0
      exact ⟨b, off, e, hb, fun j hj => ⟨(hbW.cell (p := ⟨b, off + j * 2, none⟩) hb).trans (hcell j hj).1, (hbW.cell (p := ⟨b, off + j * 2 + 1, none⟩) hb).trans (hcell j hj).2⟩⟩))
    KB_t (KB_b (fun k hk => by omega)) (Below.refl _ _) (fun _ => rfl)
    (fun pre W => APX w.heap.size l pre W ∧ Below w.heap.size w W)
    (fun _ _ _ => False)
    (OwnFrom.and (Own.from (holdsRow_own (β := List (Fin l.length)) w.heap.size w.heap.size 29 41 2 (fun pre => pre.length) (fun pre => (ats l pre).flatMap ecs) (fun _ _ => True)) _) (ownFrom_below (Nat.le_refl _) (by omega)))
    (fun c s A B row hs hg hr => hs)
    ⟨by rw [← hXw]; exact HI0.out, hbW⟩
    (fun j a' W => ∃ E, a' = { tmps := #[.slice none 0 0, .func (.func 64) #[] #[.pointer (some ⟨Bs, 0, none⟩)], .pointer (some ⟨w.heap.size, 0, none⟩), undef, .slice none 0 0, .pointer (some ⟨E, 0, none⟩), .func (.func 64) #[] #[.pointer (some ⟨Bs, 0, none⟩)], .agg #[.string l[j].1, .int .i64 l[j].2], undef, undef, undef, undef, undef], defers := [] } ∧ W.cell? ⟨E, 0, none⟩ = some (.string l[j].1) ∧ W.cell? ⟨E, 1, none⟩ = some (.int .i64 l[j].2))
    (fun j a' => Own.from (fun s A B row hs hg hr => by
      obtain ⟨E, h1, h2, h3⟩ := hs
      exact ⟨E, h1, cell_kept h2 hg hr, cell_kept h3 hg hr⟩) _)
    ?assign ?body ?done ?stop
  case assign =>
    intro lr pre j W K hI hK
    have HKK := Lib.hid hK
    have HII := Lib.hid hI
    clear hK hI
    gi_wp2
    refine HKK.out _ _ ((KeepsOthers.alloc W _).from _) (KB.of ((Below.refl W.heap.size W).alloc (Nat.le_refl _) _) (fun b hb => by have := HII.out.2.size; have : b < w.heap.size := hb; omega)) ⟨?_, HII.out.2.alloc HII.out.2.size _⟩ ⟨W.heap.size, rfl, cell_of_row _ W.heap.size 0 _ _ _ (heap_alloc_new W _), cell_of_row _ W.heap.size 1 _ _ _ (heap_alloc_new W _)⟩
    obtain ⟨v, h1, h2, _⟩ := HII.out.1
    exact ⟨v, h1.alloc _, h2.alloc _, trivial⟩
  case body =>
    rintro lr pre j a' W hl hlr ⟨⟨v, hbox, hown, _⟩, hB⟩ ⟨E, rfl, e0, e1⟩ hpl
    obtain ⟨Av, cv, rfl⟩ := own_sl hown
    have hx0 := hbox.cell
    have hx1 := hbox.frozen
    have HBX := Lib.hid hbox
    have HO := Lib.hid hown
    have HBL := Lib.hid hB
    have HS1 := Lib.hid (ats_snoc l pre j)
    have hzB := hB.size
    obtain ⟨key, ek⟩ : ∃ key, key = l[j].1 := ⟨_, rfl⟩
    obtain ⟨x, ex⟩ : ∃ x, x = l[j].2 := ⟨_, rfl⟩
    have hlj : l[j] = (key, x) := by rw [ek, ex]
    rw [hlj] at HS1
    rw [← ek] at e0
    rw [← ex] at e1
    clear hbox hown hB hcS hbW hlj ek ex
    gi_wp2_with (gi_at_builtin; refine wpListIn_append_own_at _ rfl _ _ 29 rfl w.heap.size 41 i0 _ 2 24 Try.underlying29 hi0 hi1 hi2 hi3 rfl (by omega) _ _ _ rfl (HO.out.alloc _) ⟨W.heap.size, 0, none⟩ 1 1 (ecs (key, x)) rfl rfl ?c1 ?c2 ?c3 ?c4 ?c5 ?_)
    case c1 => exact cells_new W (ecs (key, x)) _
    case c2 => exact ecs_one _
    case c3 => unfold maxLen; omega
    case c4 => omega
    case c5 => simp; omega
    intro v3 w3 hown3 hg3 _ _
    obtain ⟨A3, c3, rfl⟩ := own_sl hown3
    obtain ⟨k1, k2, k3, k4, k5⟩ := HBX.out.appended (by decide) HO.out hzB (Nat.le_refl _) hown3 hg3
    have y0 := k1.cell
    have y1 := k1.frozen
    have K2 := Lib.hid k2
    have K3 := Lib.hid k3
    have K4 := Lib.hid k4
    have K5 := Lib.hid k5
    clear hown3 hg3 k1 k2 k3 k4 k5
    gi_wp2_with fail
    refine ⟨K4.out.from _, KB.of K5.out (fun b hb => hb), ⟨_, K2.out, ?_, trivial⟩, HBL.out.trans K5.out⟩
    rw [HS1.out, List.flatMap_append, List.length_append]
    simpa using K3.out
  case done =>
    rintro D ys W hD rfl ⟨⟨v, hbox, hown, _⟩, hB⟩ hK
    rw [upA_length (Nat.le_refl _), ats_upA l _ (Nat.le_refl _), List.take_length] at hown
    obtain ⟨Av, cv, rfl⟩ := own_sl hown
    have hx0 := hbox.cell
    have HO := Lib.hid hown
    have HBL := Lib.hid hB
    have HK := Lib.hid hK
    clear hbox hown hB hcS hbW hK
    gi_wp2_with fail
    refine ⟨by simp, .inl ⟨_, _, rfl, run_takeDeferred HK.out, ?_⟩⟩
    exact ⟨_, results_tmp rfl _ _ _, _, rfl, own_keptR HO.out (grownBy_putObj' W D (.deferred none)) (fun r e => by cases e; exact ⟨_, HK.out, rfl⟩), HBL.out.trans (belowK_b (w := w) (Nat.le_refl _) W D _ _ (by omega) HK.out rfl rfl)⟩
  case stop =>
    rintro D c pre W hD _ h
    exact h.elim
end Go.Proofs.Ytllnomembakboaa
