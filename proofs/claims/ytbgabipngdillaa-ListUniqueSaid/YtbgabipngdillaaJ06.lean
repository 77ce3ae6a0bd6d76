/- Joined: It Pl Dg. -/
import Derived.RangeFuncNested
import Derived.RangeFuncBound
import Derived.RangeFuncCalls
import Derived.RangeFuncLeaves
import Derived.RangeFuncBox
import Derived.Shelf.Abstract
import Derived.Shelf.RegionOpen
import Derived.OwnWalkIn
import Derived.TacticsInMore
import Derived.LoopNIn
import Derived.LoopIn
import Derived.Maps.AppendAt
import Derived.Test.YtbgabipngdillaaJ05
namespace Go.Proofs.Ytbgabipngdillaa
open Go.RowKit Go.Shelf
attribute [local go_sem] Oper.semAt_some

/-- the blocks of K read as before -/
def KB (K : Nat → Prop) (A B : World) : Prop := A.heap.size ≤ B.heap.size ∧ ∀ p : Addr, K p.block → B.cell? p = A.cell? p
theorem KB.refl (K : Nat → Prop) (A : World) : KB K A A := ⟨Nat.le_refl _, fun _ _ => rfl⟩
theorem KB_t {K : Nat → Prop} {A B C : World} (h : KB K A B) (k : KB K B C) : KB K A C := ⟨Nat.le_trans h.1 k.1, fun p hp => (k.2 p hp).trans (h.2 p hp)⟩
theorem KB_b {K : Nat → Prop} {w : World} (hn : ∀ k, K k → k < w.heap.size) (W : World) (l : Nat) (o o' : Obj) (hl : w.heap.size ≤ l) (h : W.heap[l]? = some o) (h1 : o.isCells = false) (h2 : o.isWalk = false) : KB K W (W.putObj l o') := by
  have hb := belowK_b (w := w) (Nat.le_refl _) W l o o' hl h h1 h2
  exact ⟨hb.size, fun _ hp => hb.cell (hn _ hp)⟩
theorem KB.of {K : Nat → Prop} {n : Nat} {A B : World} (h : Below n A B) (hn : ∀ k, K k → k < n) : KB K A B := ⟨h.size, fun _ hp => h.cell (hn _ hp)⟩
theorem KB.grown {K : Nat → Prop} {A B : World} {r : Option Nat} (h : A.grownBy B r) (hn : ∀ k, K k → k < A.heap.size ∧ some k ≠ r) : KB K A B :=
  ⟨h.size, fun p hp => World.cell?_of_block (h.block p.block (hn _ hp).1 (hn _ hp).2)⟩

/-- the places of a list, from the last on -/
def upf (n k : Nat) : List (Fin n) := (List.range k).filterMap fun i => if h : n - 1 - i < n then some ⟨n - 1 - i, h⟩ else none
theorem upf_succ {n k : Nat} (h : k < n) : upf n (k + 1) = upf n k ++ [⟨n - 1 - k, by omega⟩] := by
  unfold upf
  rw [List.range_succ, List.filterMap_append]
  have : n - 1 - k < n := by omega
  simp [this]
theorem upf_length {n k : Nat} (h : k ≤ n) : (upf n k).length = k := by
  induction k with
  | zero => rfl
  | succ k ih => rw [upf_succ (by omega), List.length_append, ih (by omega)]; rfl
def fv (P x : Int) (l : List Int) (ys : List (Fin l.length)) : Int := ys.foldl (fun s j => (s * x + l[j]) % P) 0
theorem fv_snoc (P x : Int) (l : List Int) (ys : List (Fin l.length)) (j : Fin l.length) : fv P x l (ys ++ [j]) = (fv P x l ys * x + l[j]) % P := by simp [fv]
theorem fv_upf (P x : Int) (l : List Int) (k : Nat) (h : k ≤ l.length) : fv P x l (upf l.length k) = val P (l.drop (l.length - k)) x := by
  induction k with
  | zero => simp [upf, fv, val]
  | succ k ih =>
    rw [upf_succ (by omega), fv_snoc, ih (by omega), show l.length - k = l.length - (k + 1) + 1 by omega]
    rw [val_drop (k := l.length - (k + 1)) (by omega)]
    have e : l.length - 1 - k = l.length - (k + 1) := by omega
    simp only [Fin.getElem_fin, e]
theorem fv_bd {P : Int} (hP : 2 ≤ P) (x : Int) (l : List Int) (ys : List (Fin l.length)) : 0 ≤ fv P x l ys ∧ fv P x l ys < P := by
  rw [← List.reverse_reverse ys]
  generalize ys.reverse = m
  cases m with
  | nil => simp only [List.reverse_nil, fv, List.foldl_nil]; omega
  | cons a m => rw [List.reverse_cons, fv_snoc]; exact ⟨Int.emod_nonneg _ (by omega), Int.emod_lt_of_pos _ (by omega)⟩

set_option maxRecDepth 100000 in
set_option maxHeartbeats 2000000 in
theorem bwd1_in (n : Nat) (hn : 1 ≤ n) (l Bs b off c : Nat) (K : Nat → Prop) (zs : List Int) (hb : K b) (hBsK : K Bs) (hz : zs.length ≤ 1152921504606846976) (J Jx : List (Fin zs.length) → World → Prop)
    (hY : ∀ pre x W, J pre W → pre.length < zs.length → YieldAt Fence.wide (n - 1) Try.prog l #[.int .i64 (x.1 : Int), .int .i64 zs[x]] W fun e W' =>
      (e = .returned (.bool true) ∧ J (pre ++ [x]) W' ∧ KB K W W') ∨ (e = .returned (.bool false) ∧ Jx (pre ++ [x]) W'))
    (W : World) (hBs : W.cell? ⟨Bs, 0, none⟩ = some (.slice (some ⟨b, off, none⟩) zs.length c)) (hc : ∀ j (h : j < zs.length), W.cell? ⟨b, off + j, none⟩ = some (.int .i64 zs[j])) (h0 : J [] W) :
    CallsIn Fence.wide n Try.prog 97 #[.func (.yield l) #[] #[], .pointer (some ⟨Bs, 0, none⟩)] W fun e W' => (∃ v, e = .returned v) ∧
      ((∃ ys, ys = upf zs.length zs.length ∧ J ys W') ∨ (∃ pre, (∃ k, k ≤ zs.length ∧ pre = upf zs.length k) ∧ Jx pre W')) := by
  refine callsIn_of_wp Try.func97 rfl trivial ?_ rfl
  simp only [Try.ntmps97, List.size_toArray, List.length_cons, List.length_nil, Nat.reduceAdd, Nat.reduceSub, Array.replicate_succ, Array.replicate_zero, List.push_toArray, List.append_toArray, List.nil_append, List.cons_append]
  have HC := Lib.hid hc
  have HY := Lib.hid hY
  clear hc hY
  gi_wp2_with fail
  gi_loopw [3] (fun i wr => ∃ (k : Nat) (m : Int), k ≤ zs.length ∧ i = .int .i64 m ∧ m + 1 + (k : Int) ≤ (zs.length : Int) ∧ (zs.length : Int) ≤ m + 1 + (k : Int) ∧ J (upf zs.length k) wr ∧ KB K W wr)
    (fun i _ => (intOf i + 1).toNat)
  case atStart => exact ⟨0, (zs.length : Int) - 1, Nat.zero_le _, rfl, by omega, by omega, h0, KB.refl _ _⟩
  case round =>
    obtain ⟨k, m, hk, rfl, hm1, hm2, hJs, hnx⟩ := hrel
    have hBs' := (hnx.2 ⟨Bs, 0, none⟩ hBsK).trans hBs
    have HN := Lib.hid hnx
    by_cases hlt : k < zs.length
    · obtain ⟨m, rfl⟩ : ∃ q : Nat, m = q := ⟨m.toNat, by omega⟩
      have hmk : m = zs.length - 1 - k := by omega
      have hmz : m < zs.length := by omega
      have hcx := (hnx.2 ⟨b, off + m, none⟩ hb).trans (HC.out m hmz)
      obtain ⟨fn, tmps, assign, body, hy, hR⟩ := HY.out _ ⟨m, hmz⟩ wr hJs (by rw [upf_length hk]; exact hlt)
      dsimp only [Fin.getElem_fin] at hy
      have HU : Hid (upf zs.length (k + 1) = upf zs.length k ++ [⟨m, hmz⟩]) := by subst hmk; exact upf_succ hlt
      have hd1 : decide ((0 : Int) ≤ (m : Int)) = true := decide_eq_true (by omega)
      clear hnx hmk
      gi_wp2
      refine hR.mono ?_
      rintro e W3 (⟨rfl, hJ3, hk3⟩ | ⟨rfl, hJx3⟩)
      · gi_wp2
        go_roundw
        case rel => exact ⟨k + 1, (m : Int) - 1, by omega, rfl, by omega, by omega, by rw [HU.out]; exact hJ3, KB_t HN.out hk3⟩
        case measure => simp [intOf]
      · gi_wp2
        refine bodyPost_ret (results_none rfl _ _ _) rfl ?_
        exact ⟨⟨_, rfl⟩, .inr ⟨_, ⟨k + 1, by omega, HU.out.symm⟩, hJx3⟩⟩
    · obtain rfl : k = zs.length := by omega
      obtain rfl : m = -1 := by omega
      clear hnx
      gi_wp2
      go_end0
      exact ⟨⟨_, rfl⟩, .inl ⟨_, rfl, hJs⟩⟩

set_option maxRecDepth 100000 in
set_option maxHeartbeats 2000000 in
theorem bwd1_nil (n l Bs c : Nat) (A : Option Addr) (J : World → Prop) (W : World) (hBs : W.cell? ⟨Bs, 0, none⟩ = some (.slice A 0 c)) (h0 : J W) :
    CallsIn Fence.wide n Try.prog 97 #[.func (.yield l) #[] #[], .pointer (some ⟨Bs, 0, none⟩)] W fun e W' => (∃ v, e = .returned v) ∧ J W' := by
  refine callsIn_of_wp Try.func97 rfl trivial ?_ rfl
  simp only [Try.ntmps97, List.size_toArray, List.length_cons, List.length_nil, Nat.reduceAdd, Nat.reduceSub, Array.replicate_succ, Array.replicate_zero, List.push_toArray, List.append_toArray, List.nil_append, List.cons_append]
  gi_wp2_with fail
  gi_loopw [3] (fun i wr => i = .int .i64 (-1) ∧ J wr) (fun _ _ => 0)
  case atStart => exact ⟨rfl, h0⟩
  case round =>
    obtain ⟨rfl, hJs⟩ := hrel
    gi_wp2
    go_end0
    exact ⟨⟨_, rfl⟩, hJs⟩
theorem bwd_stops (n : Nat) (hn : 1 ≤ n) (Bs : Nat) (K : Nat → Prop) (zs : List Int) (A : Option Addr) (c : Nat) (hBsK : K Bs) (hz : zs.length ≤ 1152921504606846976) (w : World) (hK : ∀ k, K k → k < w.heap.size)
    (hBs : w.cell? ⟨Bs, 0, none⟩ = some (.slice A zs.length c)) (h : 0 < zs.length → ∃ b off, A = some ⟨b, off, none⟩ ∧ K b ∧ ∀ j (h : j < zs.length), w.cell? ⟨b, off + j, none⟩ = some (.int .i64 zs[j])) :
    SeqStopsK Fence.wide n Try.prog 97 #[.pointer (some ⟨Bs, 0, none⟩)] (fun x : Fin zs.length => #[.int .i64 (x.1 : Int), .int .i64 zs[x]]) (KB K) (fun ys => ys = upf zs.length zs.length) (fun pre => ∃ k, k ≤ zs.length ∧ pre = upf zs.length k) zs.length w := fun l J Jx W hW _ _ hY h0 => by
  have hBs' := (hW.cell (p := ⟨Bs, 0, none⟩) (hK _ hBsK)).trans hBs
  by_cases hl : zs.length = 0
  · rw [hl] at hBs'
    refine (bwd1_nil n l Bs c A (J []) W hBs' h0).mono fun e W' ⟨he, hj⟩ => ⟨he, .inl ⟨[], ?_, hj⟩⟩
    rw [hl]
    rfl
  · obtain ⟨b, off, rfl, hKb, hc⟩ := h (by omega)
    exact bwd1_in n hn l Bs b off c K zs hKb hBsK hz J Jx hY W hBs' (fun j hj => (hW.cell (p := ⟨b, off + j, none⟩) (hK _ hKb)).trans (hc j hj)) h0
theorem bwd_any (A : Option Addr) (n c : Nat) (w : World) :
    Calls Try.prog 84 #[.slice A n c] w fun e w' => e = .returned (.func (.func 97) #[] #[.pointer (some ⟨w.heap.size, 0, none⟩)]) ∧ w' = w.alloc (.cells #[.slice A n c] 22) := by
  go_enter Try.func84, Try.ntmps84
  go_wp2
  go_ret
  exact ⟨rfl, rfl⟩

/-- what a round of Value keeps -/
theorem VEnd {P x y s : Int} {l : List Int} {pre : List (Fin l.length)} {j : Fin l.length} {w W0 W : World} (HF : fv P x l (pre ++ [j]) = y)
    (d0 : W.cell? ⟨w.heap.size, 0, none⟩ = some (.int .i64 P)) (d1 : W.cell? ⟨w.heap.size + 1, 0, none⟩ = some (.int .i64 x)) (d2 : W.cell? ⟨w.heap.size + 2, 0, none⟩ = some (.int .i64 s)) (g2 : W.frozen? ⟨w.heap.size + 2, 0, none⟩ = false) (hB : Below w.heap.size w W) :
    KeepsFrom W0.heap.size W (W.setCell ⟨w.heap.size + 2, 0, none⟩ (.int .i64 y)).drew ∧ KB (fun b => b < w.heap.size + 4 ∧ b ≠ w.heap.size + 2) W (W.setCell ⟨w.heap.size + 2, 0, none⟩ (.int .i64 y)).drew ∧
      ((W.setCell ⟨w.heap.size + 2, 0, none⟩ (.int .i64 y)).drew.cell? ⟨w.heap.size, 0, none⟩ = some (.int .i64 P) ∧ (W.setCell ⟨w.heap.size + 2, 0, none⟩ (.int .i64 y)).drew.cell? ⟨w.heap.size + 1, 0, none⟩ = some (.int .i64 x) ∧
        (W.setCell ⟨w.heap.size + 2, 0, none⟩ (.int .i64 y)).drew.cell? ⟨w.heap.size + 2, 0, none⟩ = some (.int .i64 (fv P x l (pre ++ [j]))) ∧ (W.setCell ⟨w.heap.size + 2, 0, none⟩ (.int .i64 y)).drew.frozen? ⟨w.heap.size + 2, 0, none⟩ = false) ∧ Below w.heap.size w (W.setCell ⟨w.heap.size + 2, 0, none⟩ (.int .i64 y)).drew := by
  have hs := (hB.setCell (p := ⟨w.heap.size + 2, 0, none⟩) (by show _ ≤ w.heap.size + 2; omega) (.int .i64 y)).drew
  refine ⟨((KeepsOthers.setCell _ _ _).trans (KeepsOthers.drew _)).from _, ⟨by simp [World.setCell], fun p hp => ?_⟩, ⟨?_, ?_, ?_, ?_⟩, hs⟩
  · show (W.setCell _ _).cell? p = _
    exact World.cell?_setCell_other _ _ _ _ (fun e => hp.2 (by rw [← e]))
  · exact (World.cell?_setCell_other _ _ _ _ (by simp)).trans d0
  · exact (World.cell?_setCell_other _ _ _ _ (by simp)).trans d1
  · rw [HF]; exact World.cell?_setCell_same _ _ _ d2
  · show (W.setCell _ _).frozen? _ = _
    rw [World.frozen?_setCell]; exact g2

set_option maxRecDepth 100000 in
set_option maxHeartbeats 4000000 in
theorem value_in (P x : Int) (l : List Int) (v : Value) (w : World) (hP : 2 ≤ P ∧ P ≤ 65521) (hx : 0 ≤ x ∧ x < P) (hl : els P l = true) (hlen : l.length ≤ 1000000) (h : SI w v l) :
    CallsIn Fence.wide 5 Try.prog 68 #[.int .i64 P, v, .int .i64 x] w fun e w' => e = .returned (.int .i64 (val P l x)) ∧ Below w.heap.size w w' := by
  obtain ⟨A, c, rfl, hcc, hm, hr, ha⟩ := h
  have HA := Lib.hid ha
  have HL := Lib.hid hl
  clear hr ha hl
  refine callsIn_of_wp_marks Try.func68 rfl trivial ?_ rfl
  simp only [Try.ntmps68, List.size_toArray, List.length_cons, List.length_nil, Nat.reduceAdd, Nat.reduceSub, Array.replicate_succ, Array.replicate_zero, List.push_toArray, List.append_toArray, List.nil_append, List.cons_append]
  gi_wp2_with fail
  refine ⟨trivial, (callsIn_wide.2 (bwd_any _ _ _ _)).mono ?_⟩
  rintro e w' ⟨rfl, rfl⟩
  obtain ⟨W0, eW⟩ : ∃ W0 : World, W0 = (((w.alloc (.cells #[.int .i64 P] 95)).alloc (.cells #[.int .i64 x] 3)).alloc (.cells #[.int .i64 0] 3)).alloc (.cells #[.slice A l.length c] 22) := ⟨_, rfl⟩
  have hB0 : Below w.heap.size w W0 := by rw [eW]; exact ((((Below.refl _ _).alloc (Nat.le_refl _) _).alloc (by simp) _).alloc (by simp; omega) _).alloc (by simp; omega) _
  have hz0 : W0.heap.size = w.heap.size + 4 := by rw [eW]; simp
  have c0 : W0.cell? ⟨w.heap.size, 0, none⟩ = some (.int .i64 P) := by rw [eW]; simp [go_sem]
  have c1 : W0.cell? ⟨w.heap.size + 1, 0, none⟩ = some (.int .i64 x) := by rw [eW]; simp [go_sem]
  have c2 : W0.cell? ⟨w.heap.size + 2, 0, none⟩ = some (.int .i64 0) := by rw [eW]; simp [go_sem]
  have c3 : W0.cell? ⟨w.heap.size + 3, 0, none⟩ = some (.slice A l.length c) := by rw [eW]; simp [go_sem]
  have f2 : W0.frozen? ⟨w.heap.size + 2, 0, none⟩ = false := by rw [eW]; simp [go_sem]
  have HZ0 := Lib.hid hz0
  have hz0' : w.heap.size + 3 < W0.heap.size := by omega
  clear hz0
  gi_wp2_with fail
  rw [show w.heap.size + 1 + 1 + 1 = w.heap.size + 3 from rfl, show w.heap.size + 1 + 1 = w.heap.size + 2 from rfl]
  rw [← eW]
  clear eW
  refine wpIn_rangeFunc_ownG rfl (by omega) (gf := 97) (lb := #[.pointer (some ⟨w.heap.size + 3, 0, none⟩)]) rfl trivial (enters_of Try.func97 (by kernel_rfl) rfl)
    (bwd_stops 4 (by omega) (w.heap.size + 3) (fun b => b < w.heap.size + 4 ∧ b ≠ w.heap.size + 2) l A c ⟨by omega, by omega⟩ (by omega) W0 (fun k hk => by have := HZ0.out; omega) c3
      (fun h0 => by
        obtain ⟨b, off, e, hb, hc⟩ := HA.out h0
        exact ⟨b, off, e, ⟨by omega, by omega⟩, fun j hj => (hB0.cell (p := ⟨b, off + j, none⟩) hb).trans (hc j hj)⟩))
    KB_t (KB_b (fun k hk => by have := HZ0.out; omega)) (Below.refl _ _) (fun _ => rfl)
    (fun pre W => (W.cell? ⟨w.heap.size, 0, none⟩ = some (.int .i64 P) ∧ W.cell? ⟨w.heap.size + 1, 0, none⟩ = some (.int .i64 x) ∧ W.cell? ⟨w.heap.size + 2, 0, none⟩ = some (.int .i64 (fv P x l pre)) ∧ W.frozen? ⟨w.heap.size + 2, 0, none⟩ = false) ∧ Below w.heap.size w W)
    (fun _ _ _ => False)
    (OwnFrom.and (Own.from (fun s A B row hs hg hr => ⟨cell_kept hs.1 hg hr, cell_kept hs.2.1 hg hr, cell_kept hs.2.2.1 hg hr, (frozen_kept hs.2.2.1 hg hr).trans hs.2.2.2⟩) _) (ownFrom_below (Nat.le_refl _) (by omega)))
    (fun _ _ _ _ _ hs _ _ => hs)
    ⟨⟨c0, c1, c2, f2⟩, hB0⟩
    (fun j => { tmps := #[.int .i64 P, .slice A l.length c, .int .i64 x, .pointer (some ⟨w.heap.size, 0, none⟩), undef, .pointer (some ⟨w.heap.size + 1, 0, none⟩), .int .i64 0, .pointer (some ⟨w.heap.size + 2, 0, none⟩), undef, .int .i64 l[j], .slice A l.length c, .func (.func 97) #[] #[.pointer (some ⟨w.heap.size + 3, 0, none⟩)], .int .i64 (j.1 : Int), .int .i64 l[j], undef, undef, undef, undef, undef, undef, undef, undef], defers := [] }) ?assign ?body ?done ?stop
  case assign =>
    intro l x W K hK
    gi_wp2
    exact hK
  case body =>
    rintro lr pre j W ⟨⟨d0, d1, d2, g2⟩, hB⟩ _
    have hfb := fv_bd hP.1 x l pre
    have hlj := el_t (els_all HL.out _ (List.getElem_mem j.2))
    have HF : Hid (fv P x l (pre ++ [j]) = (fv P x l pre * x + l[j]) % P) := fv_snoc _ _ _ _ _
    generalize fv P x l pre = s at d2 hfb HF
    simp only [Fin.getElem_fin] at HF hlj ⊢
    obtain ⟨a, ea⟩ : ∃ a, a = l[j.1] := ⟨_, rfl⟩
    rw [← ea] at HF hlj ⊢
    clear ea
    have hm1 : 0 ≤ s * x % P := Int.emod_nonneg _ (by omega)
    have hm2 : s * x % P < P := Int.emod_lt_of_pos _ (by omega)
    have hfo : Try.prog.follows .mixedOrders = true := by kernel_rfl
    clear HA HL c0 c1 c2 c3 f2 hcc hm hlen hz0'
    gi_wp2_with fail
    gi_region_with_o (first | (refine ⟨trivial, ?_⟩; gi_at_call 73; refine (CallsIn.inRound lr (callsIn_wide.2 (mul_any _ _ _ _ hP hfb hx))).mono ?_; rintro e w' ⟨rfl, rfl⟩) | (refine ⟨trivial, ?_⟩; gi_at_call 85; refine (CallsIn.inRound lr (callsIn_wide.2 (add_any _ _ _ _ hP ⟨hm1, hm2⟩ hlj))).mono ?_; rintro e w' ⟨rfl, rfl⟩))
    all_goals
      gi_wp2_with fail
      exact VEnd HF.out d0 d1 d2 g2 hB
  case done =>
    rintro D ys W hD rfl ⟨⟨d0, d1, d2, g2⟩, hB⟩ hK
    have hfin := fv_upf P x l l.length (Nat.le_refl _)
    rw [Nat.sub_self, List.drop_zero] at hfin
    rw [hfin] at d2
    clear hfin
    gi_wp2
    refine ⟨by simp, .inl ⟨_, _, rfl, run_takeDeferred hK, ?_⟩⟩
    exact ⟨_, results_tmp rfl _ _ _, rfl, hB.trans (belowK_b (w := w) (Nat.le_refl _) W D _ _ (by omega) hK rfl rfl)⟩
  case stop =>
    rintro D c pre W _ _ h _
    exact h.elim
theorem value_any (P x : Int) (l : List Int) (v : Value) (w : World) (hP : 2 ≤ P ∧ P ≤ 65521) (hx : 0 ≤ x ∧ x < P) (hl : els P l = true) (hlen : l.length ≤ 1000000) (h : SI w v l) :
    Calls Try.prog 68 #[.int .i64 P, v, .int .i64 x] w fun e w' => e = .returned (.int .i64 (val P l x)) ∧ Below w.heap.size w w' :=
  callsIn_wide.1 (value_in P x l v w hP hx hl hlen h)
end Go.Proofs.Ytbgabipngdillaa

namespace Go.Proofs.Ytbgabipngdillaa
open Go.RowKit

/-- A slice of slices of ints. -/
def SL (w : World) (v : Value) (ls : List (List Int)) : Prop :=
  ∃ A c, v = .slice A ls.length c ∧ ls.length ≤ c ∧ c ≤ 9223372036854775807 ∧
    (0 < ls.length → ∃ b off, A = some ⟨b, off, none⟩ ∧ b < w.heap.size ∧ ∀ j (h : j < ls.length), ∃ B d, w.cell? ⟨b, off + j, none⟩ = some (.slice B ls[j].length d) ∧ SI w (.slice B ls[j].length d) ls[j])
theorem SL.below {w w' : World} {v : Value} {ls : List (List Int)} (h : SL w v ls) (hb : Below w.heap.size w w') : SL w' v ls := by
  obtain ⟨A, c, rfl, hc, hm, ha⟩ := h
  refine ⟨A, c, rfl, hc, hm, fun h0 => ?_⟩
  obtain ⟨b, off, rfl, hbl, hcell⟩ := ha h0
  refine ⟨b, off, rfl, by have := hb.size; omega, fun j hj => ?_⟩
  obtain ⟨B, d, h1, h2⟩ := hcell j hj
  exact ⟨B, d, (hb.cell hbl).trans h1, SI.below h2 hb⟩
theorem SI.form {w : World} {v : Value} {l : List Int} (h : SI w v l) : ∃ A c, v = .slice A l.length c := by
  obtain ⟨A, c, rfl, _⟩ := h
  exact ⟨A, c, rfl⟩
/-- a literal slice of one slice, of two -/
theorem SL.one {w : World} {A : Option Addr} {c : Nat} {l : List Int} (h : SI w (.slice A l.length c) l) (t : TypeId) : SL (w.alloc (.cells #[.slice A l.length c] t)) (.slice (some ⟨w.heap.size, 0, none⟩) 1 1) [l] := by
  refine ⟨_, 1, rfl, Nat.le_refl _, by omega, fun _ => ⟨w.heap.size, 0, rfl, by simp, fun j hj => ?_⟩⟩
  have hj0 : j = 0 := by simp at hj; omega
  subst hj0
  exact ⟨A, c, cell_of_row _ _ 0 _ _ (0, 0) (heap_alloc_new w _), SI.below h ((Below.refl _ _).alloc (Nat.le_refl _) _)⟩
theorem SL.two {w : World} {A B : Option Addr} {c d : Nat} {l m : List Int} (h : SI w (.slice A l.length c) l) (h' : SI w (.slice B m.length d) m) (t : TypeId) : SL (w.alloc (.cells #[.slice A l.length c, .slice B m.length d] t)) (.slice (some ⟨w.heap.size, 0, none⟩) 2 2) [l, m] := by
  refine ⟨_, 2, rfl, Nat.le_refl _, by omega, fun _ => ⟨w.heap.size, 0, rfl, by simp, fun j hj => ?_⟩⟩
  have hj0 : j = 0 ∨ j = 1 := by simp at hj; omega
  rcases hj0 with rfl | rfl
  · exact ⟨A, c, cell_of_row _ _ 0 _ _ (0, 0) (heap_alloc_new w _), SI.below h ((Below.refl _ _).alloc (Nat.le_refl _) _)⟩
  · exact ⟨B, d, cell_of_row _ _ 1 _ _ (0, 0) (heap_alloc_new w _), SI.below h' ((Below.refl _ _).alloc (Nat.le_refl _) _)⟩

def longB (ls : List (List Int)) : Bool := ls.any fun l => decide (512 < l.length)
def opE (P : Int) (ls : List (List Int)) : Int := if prB P = false then 9 else if (ls.all (els P)) = false then 9 else if longB ls = true then 4 else 0
def opV (P : Int) (ls : List (List Int)) : Int := if opE P ls = 0 then P else 0
theorem opE_p {P : Int} {ls : List (List Int)} (h : prB P = false) : opE P ls = 9 ∧ opV P ls = 0 := by unfold opV opE; rw [if_pos h]; exact ⟨rfl, rfl⟩
theorem opE_n {P : Int} {ls : List (List Int)} (h0 : prB P = true) {k : Nat} (hk : k < ls.length) (h : els P ls[k] = false) : opE P ls = 9 ∧ opV P ls = 0 := by
  have : ls.all (els P) = false := by
    cases e : ls.all (els P) with
    | false => rfl
    | true => rw [List.all_eq_true] at e; have := e _ (List.getElem_mem hk); rw [h] at this; cases this
  unfold opV opE; rw [h0, this]; exact ⟨rfl, rfl⟩
theorem opE_end {P : Int} {ls : List (List Int)} (h0 : prB P = true) (h : ∀ j (h : j < ls.length), els P ls[j] = true) : (longB ls = true → opE P ls = 4 ∧ opV P ls = 0) ∧ (longB ls = false → opE P ls = 0 ∧ opV P ls = P) := by
  have : ls.all (els P) = true := by
    rw [List.all_eq_true]; intro x hx; obtain ⟨j, hj, rfl⟩ := List.mem_iff_getElem.1 hx; exact h j hj
  constructor
  · intro hl; unfold opV opE; rw [h0, this, hl]; exact ⟨rfl, rfl⟩
  · intro hl; unfold opV opE; rw [h0, this, hl]; exact ⟨rfl, rfl⟩
theorem longB_snoc (ls : List (List Int)) (k : Nat) (h : k < ls.length) : longB (ls.take (k + 1)) = (longB (ls.take k) || decide (512 < ls[k].length)) := by
  unfold longB
  rw [List.take_succ_eq_append_getElem h, List.any_append]
  simp

def OpRel (P : Int) (ls : List (List Int)) (w : World) (i lg : Value) (wr : World) : Prop :=
  ∃ k : Nat, k ≤ ls.length ∧ i = .int .i64 k ∧ lg = .bool (longB (ls.take k)) ∧ (∀ j (_ : j < k) (h : j < ls.length), els P ls[j] = true) ∧ Below w.heap.size w wr
set_option maxHeartbeats 2000000 in
theorem open_any (P : Int) (ls : List (List Int)) (v : Value) (w : World) (hP : i64r P) (h : SL w v ls) :
    Calls Try.prog 69 #[.agg #[.int .i64 P], v] w fun e w' => e = .returned (.tuple #[.int .i64 (opV P ls), .int .i64 (opE P ls)]) ∧ Below w.heap.size w w' := by
  have hbP : Below w.heap.size w (w.alloc (.cells #[.int .i64 P] 26)) := (Below.refl _ _).alloc (Nat.le_refl _) _
  obtain ⟨A, c, rfl, hc, hm, ha⟩ := h
  have HA := Lib.hid ha
  clear ha
  cases hp : prB P with
  | false =>
    have HE := Lib.hid (opE_p (ls := ls) hp)
    have HP := Lib.hid hp
    clear hp
    go_enter Try.func69, Try.ntmps69
    go_wp2_with fail
    (with_reducible refine (of_any P _ hP).mono ?_); rintro e w1 ⟨rfl, hb1⟩
    rw [HP.out]
    go_wp2_with fail
    go_ret2
    exact ⟨by rw [HE.out.1, HE.out.2]; rfl, hbP.trans (hb1.mono (by simp))⟩
  | true =>
    have HP := Lib.hid hp
    have hPb := prB_bd hp
    clear hp
    go_enter Try.func69, Try.ntmps69
    go_wp2_with fail
    (with_reducible refine (of_any P _ hP).mono ?_); rintro e w1 ⟨rfl, hb1⟩
    rw [HP.out, ofP_t HP.out]
    have hB1 := hbP.trans (hb1.mono (by simp))
    go_wp2_with fail
    go_loopw [20, 8] (fun i lg wr => OpRel P ls w i lg wr) (fun i _ _ => ls.length - (intOf i).toNat)
    case atStart => exact ⟨0, Nat.zero_le _, rfl, rfl, fun j h => absurd h (by omega), hB1⟩
    case round =>
      obtain ⟨k, hk, rfl, rfl, hall, hB⟩ := hrel
      have HALL := Lib.hid hall
      clear hall
      by_cases hlt : k < ls.length
      · obtain ⟨b, off, rfl, hb, hcell⟩ := HA.out (by omega)
        obtain ⟨B, d, hck, hS⟩ := hcell k hlt
        have hck' := (hB.cell (p := ⟨b, off + k, none⟩) hb).trans hck
        have HS := Lib.hid (SI.below hS hB)
        have HL := Lib.hid (longB_snoc ls k hlt)
        have hd1 : decide ((k : Int) < (ls.length : Int)) = true := decide_eq_true (by omega)
        have hd2 : decide (k < ls.length) = true := decide_eq_true hlt
        clear hcell hck hS
        go_wp2_with fail
        (with_reducible refine (all_any P ls[k] _ _ HS.out).mono ?_); rintro e w2 ⟨rfl, hb2⟩
        cases he : els P ls[k] with
        | false =>
          have HE := Lib.hid (opE_n HP.out hlt he)
          clear he
          go_wp2_with fail
          go_ret2
          exact ⟨by rw [HE.out.1, HE.out.2]; rfl, hB.trans (hb2.mono hB.size)⟩
        | true =>
          have HE := Lib.hid he
          clear he
          have hB2 := hB.trans (hb2.mono hB.size)
          have HALL2 : Hid (∀ j (_ : j < k + 1) (h : j < ls.length), els P ls[j] = true) := fun j h1 h2 => by
            by_cases e : j = k
            · subst e; exact HE.out
            · exact HALL.out j (by omega) h2
          generalize longB (ls.take k) = lb at HL ⊢
          by_cases h5 : 512 < ls[k].length
          · have hd3 : decide ((512 : Int) < (ls[k].length : Int)) = true := decide_eq_true (by omega)
            have hd4 : decide (512 < ls[k].length) = true := decide_eq_true h5
            cases lb
            all_goals
              go_wp2_with fail
              go_roundw
              case rel => exact ⟨k + 1, by omega, by go_num, by rw [HL.out, decide_eq_true h5]; rfl, HALL2.out, hB2⟩
              case measure => simp [intOf]; omega
          · have hd3 : decide ((512 : Int) < (ls[k].length : Int)) = false := decide_eq_false (by omega)
            have hd4 : decide (512 < ls[k].length) = false := decide_eq_false h5
            cases lb
            all_goals
              go_wp2_with fail
              go_roundw
              case rel => exact ⟨k + 1, by omega, by go_num, by rw [HL.out, decide_eq_false h5]; rfl, HALL2.out, hB2⟩
              case measure => simp [intOf]; omega
      · have hkk : k = ls.length := by omega
        have HE := Lib.hid (opE_end HP.out (fun j hj => HALL.out j (by omega) hj))
        have HT : Hid (longB (ls.take k) = longB ls) := by show _ = _; rw [hkk, List.take_length]
        rw [HT.out]
        have hd1 : decide ((k : Int) < (ls.length : Int)) = false := decide_eq_false (by omega)
        have hd2 : decide (k < ls.length) = false := decide_eq_false hlt
        clear hkk
        cases hl : longB ls
        · have HE2 := Lib.hid (HE.out.2 hl)
          clear hl
          go_wp2_with fail
          go_ret2
          exact ⟨by rw [HE2.out.1, HE2.out.2]; rfl, hB⟩
        · have HE2 := Lib.hid (HE.out.1 hl)
          clear hl
          go_wp2_with fail
          go_ret2
          exact ⟨by rw [HE2.out.1, HE2.out.2]; rfl, hB⟩

theorem own_any (l : List Int) (v : Value) (w : World) (h : SI w v l) (hlen : l.length ≤ 1000000) :
    Calls Try.prog 78 #[v] w fun e w' => ∃ v', e = .returned v' ∧ w'.ownsRow w.heap.size 3 1 v' (trim l).length ((trim l).map (Value.int .i64)) ∧ Below w.heap.size w w' := by
  have HS := Lib.hid h
  obtain ⟨A, c, rfl⟩ := h.form
  clear h
  have hlen2 : (trim l).length ≤ 1000000 := by have := trim_len l; omega
  go_enter Try.func78, Try.ntmps78
  go_wp2_with fail
  (with_reducible refine (trim_any l A c _ HS.out).mono ?_); rintro e w' ⟨rfl, ht, rfl⟩
  have hT : SI w (.slice A (trim l).length c) (trim l) := by
    have := SI.take HS.out (trim_len l)
    rwa [← ht] at this
  have HT := Lib.hid hT
  clear ht hT
  go_wp2_with (at_builtin; refine wpList_append_ints _ rfl _ _ 22 rfl w.heap.size 3 Try.underlying22 iinfo (.slice none 0 0) [] rfl (World.ownsRow_nil _ _ _ _) _ _ (trim l) rfl HT.out (by simp; omega) (Nat.le_refl _) ?_; intro v2 w2 hown2 hg2)
  simp only [List.nil_append] at hown2
  go_ret
  exact ⟨_, rfl, hown2, ⟨hg2.os, hg2.tape, hg2.output, hg2.size, fun i hi => hg2.block i hi (by simp [Value.ownBlock])⟩⟩

/-- a number of the degree, 0 where there is an error -/

theorem madeInts (n : Nat) : madeCells #[Value.int .i64 0] n = ((zeros n).map (Value.int .i64)).toArray := by
  apply Array.toList_inj.1
  rw [toList_madeCells_one]
  simp [zeros]
/-- make([]int, n) -/
theorem wpList_make_ints {P : Program} (w : World) {ops : Array Oper} {rest : List Oper} {o : Oper} {a : Act} {Q : Exit → Act → World → Prop}
    (hg : o.guard = none) (l c : Operand) (t : TypeId) (hop : o.op = Op.makeSlice t l c) (e : TypeId) (ht : P.underlying t = some (.slice e)) (hinfo : (P.info? e).map (fun i => (i.zero, i.size, i.bytes)) = some (some (.int .i64 0), 1, 8))
    (L : Int) (n : Nat) (hl : a.eval l = .int .i64 L) (hc : a.eval c = .int .i64 L) (hL : L = (n : Int)) (hn : n ≤ 10000000)
    (hK : wpList P ops Q rest (a.put o.dst (.slice (some ⟨w.heap.size, 0, none⟩) n n)) (w.alloc (.cells ((zeros n).map (Value.int .i64)).toArray e))) :
    wpList P ops Q (o :: rest) a w := by
  obtain ⟨i0, hi0, hz0, hz1, hz2⟩ := info_parts hinfo
  subst hL
  have hrun := run_makeSlice (P := P) w t e i0 _ ht hi0 hz0 .i64 .i64 n n (by omega) (Int.le_refl _) (by rw [hz1]; simp; omega) (by rw [hz2]; omega) (by omega)
  simp only [Int.toNat_natCast] at hrun
  rw [hz1, Nat.mul_one] at hrun
  have hm : madeCells (Value.int .i64 0).cells n = ((zeros n).map (Value.int .i64)).toArray := madeInts n
  rw [hm] at hrun
  refine wpList_plain hg fun K hK' => ?_
  unfold Oper.wp
  simp [execOp, hop, hl, hc, hrun, Result.andThen]
  exact hK' _ _ hK
def TmRel (P : Int) (a b : List Int) (w : World) (g : Nat) (i : Value) (wr : World) : Prop :=
  ∃ k : Nat, k ≤ a.length ∧ i = .int .i64 k ∧ BK wr g (timesK P a b k) ∧ Below w.heap.size w wr
set_option maxRecDepth 100000 in
set_option maxHeartbeats 2000000 in
theorem times_any (P : Int) (a b : List Int) (va vb : Value) (w : World) (hP : 2 ≤ P ∧ P ≤ 65521) (ha : SI w va a) (hb : SI w vb b) (hea : els P a = true) (heb : els P b = true) (h1 : 1 ≤ a.length) (h2 : 1 ≤ b.length) (h3 : a.length ≤ 1000000) (h4 : b.length ≤ 1000000) :
    Calls Try.prog 77 #[.int .i64 P, va, vb] w fun e w' => ∃ g, e = .returned (.slice (some ⟨g, 0, none⟩) (timesP P a b).length (timesP P a b).length) ∧ BK w' g (timesP P a b) ∧ w.heap.size ≤ g ∧ Below w.heap.size w w' := by
  obtain ⟨A1, c1, rfl, hc1, hm1, hr1, ha1⟩ := id ha
  obtain ⟨A2, c2, rfl⟩ := hb.form
  have HA := Lib.hid ha1
  have HSB := Lib.hid hb
  have HEA := Lib.hid hea
  have HEB := Lib.hid heb
  clear hr1 ha1 ha hb hea heb
  have hn : ((a.length : Int) + (b.length : Int) - 1).toNat = a.length + b.length - 1 := by omega
  have hx1 : ((a.length : Int) + (b.length : Int) - 1) = ((a.length + b.length - 1 : Nat) : Int) := by omega
  have HX := Lib.hid hx1
  have HTL := Lib.hid (timesK_len P a b)
  clear hx1 hn
  go_enter Try.func77, Try.ntmps77
  go_wp2_with (at_make; refine wpList_make_ints _ rfl _ _ 22 rfl 3 Try.underlying22 iinfo _ (a.length + b.length - 1) rfl rfl HX.out (by omega) ?_)
  obtain ⟨w0, ew⟩ : ∃ w0 : World, w0 = w.alloc (.cells ((zeros (a.length + b.length - 1)).map (Value.int .i64)).toArray 3) := ⟨_, rfl⟩
  have hB0 : Below w.heap.size w w0 := by rw [ew]; exact (Below.refl _ _).alloc (Nat.le_refl _) _
  have hz0 : w.heap.size < w0.heap.size := by rw [ew]; simp
  have hK0 : BK w0 w.heap.size (timesK P a b 0) := by rw [ew]; exact heap_alloc_new w _
  have HK0 := Lib.hid hK0
  rw [← ew]
  clear ew hK0
  go_loopw [19] (fun i wr => TmRel P a b w w.heap.size i wr) (fun i _ => a.length - (intOf i).toNat)
  case atStart => exact ⟨0, Nat.zero_le _, rfl, HK0.out, hB0⟩
  case round =>
    obtain ⟨k, hk, rfl, hbk, hB⟩ := hrel
    have HBK := Lib.hid hbk
    have hzr : w.heap.size < wr.heap.size := hbk.lt
    clear hbk
    by_cases hlt : k < a.length
    · obtain ⟨b2, off, rfl, hb2, hcell⟩ := HA.out (by omega)
      have hck := (hB.cell (p := ⟨b2, off + k, none⟩) hb2).trans (hcell k hlt)
      have hel := el_t (els_all HEA.out _ (List.getElem_mem hlt))
      have HST : Hid (timesK P a b (k + 1) = addT P (timesK P a b k) k a[k] b) := by show _ = _; rw [timesK_succ, gd_lt hlt]
      have HSr := Lib.hid (SI.below HSB.out hB)
      have hd1 : decide ((k : Int) < (a.length : Int)) = true := decide_eq_true (by omega)
      have hd2 : decide (k < a.length) = true := decide_eq_true hlt
      have HNE : Hid (∀ q, (Value.slice A2 b.length c2).ownBlock = some q → q ≠ w.heap.size) := fun q hq => by
        obtain ⟨A', c', e, _, _, _, hx⟩ := HSB.out
        injection e with e1 e2 e3
        subst e1
        obtain ⟨b', off', e4, hb', _⟩ := hx (by omega)
        subst e4
        simp [Value.ownBlock] at hq
        omega
      have HTE := Lib.hid (timesK_els (P := P) hP.1 a b k)
      have z1 : (k : Int) ≤ ((a.length + b.length - 1 : Nat) : Int) := by omega
      have z2 : k ≤ a.length + b.length - 1 := by omega
      clear hcell
      go_wp2_with fail
      (with_reducible refine (addTimes_any P w.heap.size k _ _ (timesK P a b k) a[k] b _ _ hP hel HTE.out HEB.out HBK.out HSr.out HNE.out (by omega) (by rw [HTL.out]; omega)).mono ?_); rintro e w2 ⟨⟨v2, rfl⟩, hb2, hg2⟩
      have HB2 := Lib.hid hb2
      clear hb2
      go_wp2_with fail
      go_roundw
      case rel => exact ⟨k + 1, by omega, by go_num, by rw [HST.out]; exact HB2.out, Below.grown hB hg2 hB.size (fun q e => by cases e; exact Nat.le_refl _)⟩
      case measure => simp [intOf]; omega
    · have hkk : k = a.length := by omega
      have HF : Hid (BK wr w.heap.size (timesP P a b)) := by show BK _ _ _; have := HBK.out; rwa [hkk] at this
      have HL : Hid ((timesP P a b).length = a.length + b.length - 1) := HTL.out a.length
      have hd1 : decide ((k : Int) < (a.length : Int)) = false := decide_eq_false (by omega)
      have hd2 : decide (k < a.length) = false := decide_eq_false hlt
      clear hkk
      go_wp2_with fail
      go_ret
      exact ⟨w.heap.size, by rw [HL.out]; rfl, HF.out, Nat.le_refl _, hB⟩
end Go.Proofs.Ytbgabipngdillaa

namespace Go.Proofs.Ytbgabipngdillaa
open Go.RowKit
def dgV (P : Int) (l : List Int) : Int := if opE P [l] = 0 then ((trim l).length : Int) - 1 else 0
set_option maxRecDepth 100000 in
theorem degree_any (P : Int) (l : List Int) (v : Value) (w : World) (hP : i64r P) (h : SI w v l) :
    Calls Try.prog 46 #[.agg #[.int .i64 P], v] w fun e w' => e = .returned (.tuple #[.int .i64 (dgV P l), .int .i64 (opE P [l])]) ∧ Below w.heap.size w w' := by
  have hbP : Below w.heap.size w (w.alloc (.cells #[.int .i64 P] 26)) := (Below.refl _ _).alloc (Nat.le_refl _) _
  have HS := Lib.hid (SI.below h hbP)
  have HS0 := Lib.hid h
  obtain ⟨A, c, rfl⟩ := h.form
  have hSL := SL.one HS.out 22
  rw [World.size_alloc] at hSL
  have HSL := Lib.hid hSL
  clear h hSL
  go_enter Try.func46, Try.ntmps46
  go_wp2_with fail
  (with_reducible refine (open_any P [l] _ _ hP HSL.out).mono ?_); rintro e w1 ⟨rfl, hb1⟩
  generalize hoe : opE P [l] = oe at *
  generalize opV P [l] = ov
  have HOE := Lib.hid hoe
  clear hoe
  have hB1 := (hbP.alloc (by simp) (.cells #[.slice A l.length c] 22)).trans (hb1.mono (by simp; omega))
  by_cases he : oe = 0
  · subst he
    have HD : Hid (dgV P l = ((trim l).length : Int) - 1) := if_pos HOE.out
    have HS1 := Lib.hid (SI.below HS0.out hB1)
    go_wp2_with fail
    (with_reducible refine (trim_any l A c _ HS1.out).mono ?_); rintro e w' ⟨rfl, ht, rfl⟩; clear ht
    have hbd : (trim l).length ≤ 9223372036854775807 := by
      obtain ⟨_, _, e, h1, h2, _⟩ := HS0.out
      injection e with e1 e2 e3
      have := trim_len l
      omega
    go_wp2_with fail
    go_ret2
    exact ⟨by rw [HD.out, HOE.out]; rfl, hB1⟩
  · have HD : Hid (dgV P l = 0) := if_neg (by rw [HOE.out]; exact he)
    have hb : (oe != 0) = true := by rw [bne_iff_ne]; exact he
    have HE := Lib.hid he
    clear he
    go_wp2_with fail
    go_ret2
    exact ⟨by rw [HD.out, HOE.out]; rfl, hB1⟩
end Go.Proofs.Ytbgabipngdillaa
