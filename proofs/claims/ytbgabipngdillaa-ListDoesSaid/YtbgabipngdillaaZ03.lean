/- Joined: It. -/
import Derived.RangeFuncNested
import Derived.RangeFuncBound
import Derived.RangeFuncCalls
import Derived.RangeFuncLeaves
import Derived.RangeFuncBox
import Derived.Shelf.Abstract
import Derived.Shelf.RegionOpen
import Derived.OwnWalkIn
import Derived.TacticsInMore
import Derived.LoopNIn
import Derived.LoopIn
import Derived.Test.YtbgabipngdillaaZ02
namespace Go.Proofs.Ytbgabipngdillaa
open Go.RowKit Go.Shelf
attribute [local go_sem] Oper.semAt_some

/-- the blocks of K read as before -/
def KB (K : Nat → Prop) (A B : World) : Prop := A.heap.size ≤ B.heap.size ∧ ∀ p : Addr, K p.block → B.cell? p = A.cell? p
theorem KB.refl (K : Nat → Prop) (A : World) : KB K A A := ⟨Nat.le_refl _, fun _ _ => rfl⟩
theorem KB_t {K : Nat → Prop} {A B C : World} (h : KB K A B) (k : KB K B C) : KB K A C := ⟨Nat.le_trans h.1 k.1, fun p hp => (k.2 p hp).trans (h.2 p hp)⟩
theorem KB_b {K : Nat → Prop} {w : World} (hn : ∀ k, K k → k < w.heap.size) (W : World) (l : Nat) (o o' : Obj) (hl : w.heap.size ≤ l) (h : W.heap[l]? = some o) (h1 : o.isCells = false) (h2 : o.isWalk = false) : KB K W (W.putObj l o') := by
  have hb := belowK_b (w := w) (Nat.le_refl _) W l o o' hl h h1 h2
  exact ⟨hb.size, fun _ hp => hb.cell (hn _ hp)⟩
theorem KB.of {K : Nat → Prop} {n : Nat} {A B : World} (h : Below n A B) (hn : ∀ k, K k → k < n) : KB K A B := ⟨h.size, fun _ hp => h.cell (hn _ hp)⟩
theorem KB.grown {K : Nat → Prop} {A B : World} {r : Option Nat} (h : A.grownBy B r) (hn : ∀ k, K k → k < A.heap.size ∧ some k ≠ r) : KB K A B :=
  ⟨h.size, fun p hp => World.cell?_of_block (h.block p.block (hn _ hp).1 (hn _ hp).2)⟩

/-- the places of a list, from the last on -/
def upf (n k : Nat) : List (Fin n) := (List.range k).filterMap fun i => if h : n - 1 - i < n then some ⟨n - 1 - i, h⟩ else none
theorem upf_succ {n k : Nat} (h : k < n) : upf n (k + 1) = upf n k ++ [⟨n - 1 - k, by omega⟩] := by
  unfold upf
  rw [List.range_succ, List.filterMap_append]
  have : n - 1 - k < n := by omega
  simp [this]
theorem upf_length {n k : Nat} (h : k ≤ n) : (upf n k).length = k := by
  induction k with
  | zero => rfl
  | succ k ih => rw [upf_succ (by omega), List.length_append, ih (by omega)]; rfl
def fv (P x : Int) (l : List Int) (ys : List (Fin l.length)) : Int := ys.foldl (fun s j => (s * x + l[j]) % P) 0
theorem fv_snoc (P x : Int) (l : List Int) (ys : List (Fin l.length)) (j : Fin l.length) : fv P x l (ys ++ [j]) = (fv P x l ys * x + l[j]) % P := by simp [fv]
theorem fv_upf (P x : Int) (l : List Int) (k : Nat) (h : k ≤ l.length) : fv P x l (upf l.length k) = val P (l.drop (l.length - k)) x := by
  induction k with
  | zero => simp [upf, fv, val]
  | succ k ih =>
    rw [upf_succ (by omega), fv_snoc, ih (by omega), show l.length - k = l.length - (k + 1) + 1 by omega]
    rw [val_drop (k := l.length - (k + 1)) (by omega)]
    have e : l.length - 1 - k = l.length - (k + 1) := by omega
    simp only [Fin.getElem_fin, e]
theorem fv_bd {P : Int} (hP : 2 ≤ P) (x : Int) (l : List Int) (ys : List (Fin l.length)) : 0 ≤ fv P x l ys ∧ fv P x l ys < P := by
  rw [← List.reverse_reverse ys]
  generalize ys.reverse = m
  cases m with
  | nil => simp only [List.reverse_nil, fv, List.foldl_nil]; omega
  | cons a m => rw [List.reverse_cons, fv_snoc]; exact ⟨Int.emod_nonneg _ (by omega), Int.emod_lt_of_pos _ (by omega)⟩

set_option maxRecDepth 100000 in
set_option maxHeartbeats 2000000 in
theorem bwd1_in (n : Nat) (hn : 1 ≤ n) (l Bs b off c : Nat) (K : Nat → Prop) (zs : List Int) (hb : K b) (hBsK : K Bs) (hz : zs.length ≤ 1152921504606846976) (J Jx : List (Fin zs.length) → World → Prop)
    (hY : ∀ pre x W, J pre W → pre.length < zs.length → YieldAt Fence.wide (n - 1) Try.prog l #[.int .i64 (x.1 : Int), .int .i64 zs[x]] W fun e W' =>
      (e = .returned (.bool true) ∧ J (pre ++ [x]) W' ∧ KB K W W') ∨ (e = .returned (.bool false) ∧ Jx (pre ++ [x]) W'))
    (W : World) (hBs : W.cell? ⟨Bs, 0, none⟩ = some (.slice (some ⟨b, off, none⟩) zs.length c)) (hc : ∀ j (h : j < zs.length), W.cell? ⟨b, off + j, none⟩ = some (.int .i64 zs[j])) (h0 : J [] W) :
    CallsIn Fence.wide n Try.prog 97 #[.func (.yield l) #[] #[], .pointer (some ⟨Bs, 0, none⟩)] W fun e W' => (∃ v, e = .returned v) ∧
      ((∃ ys, ys = upf zs.length zs.length ∧ J ys W') ∨ (∃ pre, (∃ k, k ≤ zs.length ∧ pre = upf zs.length k) ∧ Jx pre W')) := by
  refine callsIn_of_wp Try.func97 rfl trivial ?_ rfl
  simp only [Try.ntmps97, List.size_toArray, List.length_cons, List.length_nil, Nat.reduceAdd, Nat.reduceSub, Array.replicate_succ, Array.replicate_zero, List.push_toArray, List.append_toArray, List.nil_append, List.cons_append]
  have HC := Lib.hid hc
  have HY := Lib.hid hY
  clear hc hY
  gi_wp2_with fail
  gi_loopw [3] (fun i wr => ∃ (k : Nat) (m : Int), k ≤ zs.length ∧ i = .int .i64 m ∧ m + 1 + (k : Int) ≤ (zs.length : Int) ∧ (zs.length : Int) ≤ m + 1 + (k : Int) ∧ J (upf zs.length k) wr ∧ KB K W wr)
    (fun i _ => (intOf i + 1).toNat)
  case atStart => exact ⟨0, (zs.length : Int) - 1, Nat.zero_le _, rfl, by omega, by omega, h0, KB.refl _ _⟩
  case round =>
    obtain ⟨k, m, hk, rfl, hm1, hm2, hJs, hnx⟩ := hrel
    have hBs' := (hnx.2 ⟨Bs, 0, none⟩ hBsK).trans hBs
    have HN := Lib.hid hnx
    by_cases hlt : k < zs.length
    · obtain ⟨m, rfl⟩ : ∃ q : Nat, m = q := ⟨m.toNat, by omega⟩
      have hmk : m = zs.length - 1 - k := by omega
      have hmz : m < zs.length := by omega
      have hcx := (hnx.2 ⟨b, off + m, none⟩ hb).trans (HC.out m hmz)
      obtain ⟨fn, tmps, assign, body, hy, hR⟩ := HY.out _ ⟨m, hmz⟩ wr hJs (by rw [upf_length hk]; exact hlt)
      dsimp only [Fin.getElem_fin] at hy
      have HU : Hid (upf zs.length (k + 1) = upf zs.length k ++ [⟨m, hmz⟩]) := by subst hmk; exact upf_succ hlt
      have hd1 : decide ((0 : Int) ≤ (m : Int)) = true := decide_eq_true (by omega)
      clear hnx hmk
      gi_wp2
      refine hR.mono ?_
      rintro e W3 (⟨rfl, hJ3, hk3⟩ | ⟨rfl, hJx3⟩)
      · gi_wp2
        go_roundw
        case rel => exact ⟨k + 1, (m : Int) - 1, by omega, rfl, by omega, by omega, by rw [HU.out]; exact hJ3, KB_t HN.out hk3⟩
        case measure => simp [intOf]
      · gi_wp2
        refine bodyPost_ret (results_none rfl _ _ _) rfl ?_
        exact ⟨⟨_, rfl⟩, .inr ⟨_, ⟨k + 1, by omega, HU.out.symm⟩, hJx3⟩⟩
    · obtain rfl : k = zs.length := by omega
      obtain rfl : m = -1 := by omega
      clear hnx
      gi_wp2
      go_end0
      exact ⟨⟨_, rfl⟩, .inl ⟨_, rfl, hJs⟩⟩

set_option maxRecDepth 100000 in
set_option maxHeartbeats 2000000 in
theorem bwd1_nil (n l Bs c : Nat) (A : Option Addr) (J : World → Prop) (W : World) (hBs : W.cell? ⟨Bs, 0, none⟩ = some (.slice A 0 c)) (h0 : J W) :
    CallsIn Fence.wide n Try.prog 97 #[.func (.yield l) #[] #[], .pointer (some ⟨Bs, 0, none⟩)] W fun e W' => (∃ v, e = .returned v) ∧ J W' := by
  refine callsIn_of_wp Try.func97 rfl trivial ?_ rfl
  simp only [Try.ntmps97, List.size_toArray, List.length_cons, List.length_nil, Nat.reduceAdd, Nat.reduceSub, Array.replicate_succ, Array.replicate_zero, List.push_toArray, List.append_toArray, List.nil_append, List.cons_append]
  gi_wp2_with fail
  gi_loopw [3] (fun i wr => i = .int .i64 (-1) ∧ J wr) (fun _ _ => 0)
  case atStart => exact ⟨rfl, h0⟩
  case round =>
    obtain ⟨rfl, hJs⟩ := hrel
    gi_wp2
    go_end0
    exact ⟨⟨_, rfl⟩, hJs⟩
theorem bwd_stops (n : Nat) (hn : 1 ≤ n) (Bs : Nat) (K : Nat → Prop) (zs : List Int) (A : Option Addr) (c : Nat) (hBsK : K Bs) (hz : zs.length ≤ 1152921504606846976) (w : World) (hK : ∀ k, K k → k < w.heap.size)
    (hBs : w.cell? ⟨Bs, 0, none⟩ = some (.slice A zs.length c)) (h : 0 < zs.length → ∃ b off, A = some ⟨b, off, none⟩ ∧ K b ∧ ∀ j (h : j < zs.length), w.cell? ⟨b, off + j, none⟩ = some (.int .i64 zs[j])) :
    SeqStopsK Fence.wide n Try.prog 97 #[.pointer (some ⟨Bs, 0, none⟩)] (fun x : Fin zs.length => #[.int .i64 (x.1 : Int), .int .i64 zs[x]]) (KB K) (fun ys => ys = upf zs.length zs.length) (fun pre => ∃ k, k ≤ zs.length ∧ pre = upf zs.length k) zs.length w := fun l J Jx W hW _ _ hY h0 => by
  have hBs' := (hW.cell (p := ⟨Bs, 0, none⟩) (hK _ hBsK)).trans hBs
  by_cases hl : zs.length = 0
  · rw [hl] at hBs'
    refine (bwd1_nil n l Bs c A (J []) W hBs' h0).mono fun e W' ⟨he, hj⟩ => ⟨he, .inl ⟨[], ?_, hj⟩⟩
    rw [hl]
    rfl
  · obtain ⟨b, off, rfl, hKb, hc⟩ := h (by omega)
    exact bwd1_in n hn l Bs b off c K zs hKb hBsK hz J Jx hY W hBs' (fun j hj => (hW.cell (p := ⟨b, off + j, none⟩) (hK _ hKb)).trans (hc j hj)) h0
theorem bwd_any (A : Option Addr) (n c : Nat) (w : World) :
    Calls Try.prog 84 #[.slice A n c] w fun e w' => e = .returned (.func (.func 97) #[] #[.pointer (some ⟨w.heap.size, 0, none⟩)]) ∧ w' = w.alloc (.cells #[.slice A n c] 22) := by
  go_enter Try.func84, Try.ntmps84
  go_wp2
  go_ret
  exact ⟨rfl, rfl⟩

/-- what a round of Value keeps -/
theorem VEnd {P x y s : Int} {l : List Int} {pre : List (Fin l.length)} {j : Fin l.length} {w W0 W : World} (HF : fv P x l (pre ++ [j]) = y)
    (d0 : W.cell? ⟨w.heap.size, 0, none⟩ = some (.int .i64 P)) (d1 : W.cell? ⟨w.heap.size + 1, 0, none⟩ = some (.int .i64 x)) (d2 : W.cell? ⟨w.heap.size + 2, 0, none⟩ = some (.int .i64 s)) (g2 : W.frozen? ⟨w.heap.size + 2, 0, none⟩ = false) (hB : Below w.heap.size w W) :
    KeepsFrom W0.heap.size W (W.setCell ⟨w.heap.size + 2, 0, none⟩ (.int .i64 y)).drew ∧ KB (fun b => b < w.heap.size + 4 ∧ b ≠ w.heap.size + 2) W (W.setCell ⟨w.heap.size + 2, 0, none⟩ (.int .i64 y)).drew ∧
      ((W.setCell ⟨w.heap.size + 2, 0, none⟩ (.int .i64 y)).drew.cell? ⟨w.heap.size, 0, none⟩ = some (.int .i64 P) ∧ (W.setCell ⟨w.heap.size + 2, 0, none⟩ (.int .i64 y)).drew.cell? ⟨w.heap.size + 1, 0, none⟩ = some (.int .i64 x) ∧
        (W.setCell ⟨w.heap.size + 2, 0, none⟩ (.int .i64 y)).drew.cell? ⟨w.heap.size + 2, 0, none⟩ = some (.int .i64 (fv P x l (pre ++ [j]))) ∧ (W.setCell ⟨w.heap.size + 2, 0, none⟩ (.int .i64 y)).drew.frozen? ⟨w.heap.size + 2, 0, none⟩ = false) ∧ Below w.heap.size w (W.setCell ⟨w.heap.size + 2, 0, none⟩ (.int .i64 y)).drew := by
  have hs := (hB.setCell (p := ⟨w.heap.size + 2, 0, none⟩) (by show _ ≤ w.heap.size + 2; omega) (.int .i64 y)).drew
  refine ⟨((KeepsOthers.setCell _ _ _).trans (KeepsOthers.drew _)).from _, ⟨by simp [World.setCell], fun p hp => ?_⟩, ⟨?_, ?_, ?_, ?_⟩, hs⟩
  · show (W.setCell _ _).cell? p = _
    exact World.cell?_setCell_other _ _ _ _ (fun e => hp.2 (by rw [← e]))
  · exact (World.cell?_setCell_other _ _ _ _ (by simp)).trans d0
  · exact (World.cell?_setCell_other _ _ _ _ (by simp)).trans d1
  · rw [HF]; exact World.cell?_setCell_same _ _ _ d2
  · show (W.setCell _ _).frozen? _ = _
    rw [World.frozen?_setCell]; exact g2

set_option maxRecDepth 100000 in
set_option maxHeartbeats 4000000 in
theorem value_in (P x : Int) (l : List Int) (v : Value) (w : World) (hP : 2 ≤ P ∧ P ≤ 65521) (hx : 0 ≤ x ∧ x < P) (hl : els P l = true) (hlen : l.length ≤ 1000000) (h : SI w v l) :
    CallsIn Fence.wide 5 Try.prog 68 #[.int .i64 P, v, .int .i64 x] w fun e w' => e = .returned (.int .i64 (val P l x)) ∧ Below w.heap.size w w' := by
  obtain ⟨A, c, rfl, hcc, hm, hr, ha⟩ := h
  have HA := Lib.hid ha
  have HL := Lib.hid hl
  clear hr ha hl
  refine callsIn_of_wp_marks Try.func68 rfl trivial ?_ rfl
  simp only [Try.ntmps68, List.size_toArray, List.length_cons, List.length_nil, Nat.reduceAdd, Nat.reduceSub, Array.replicate_succ, Array.replicate_zero, List.push_toArray, List.append_toArray, List.nil_append, List.cons_append]
  gi_wp2_with fail
  refine ⟨trivial, (callsIn_wide.2 (bwd_any _ _ _ _)).mono ?_⟩
  rintro e w' ⟨rfl, rfl⟩
  obtain ⟨W0, eW⟩ : ∃ W0 : World, W0 = (((w.alloc (.cells #[.int .i64 P] 95)).alloc (.cells #[.int .i64 x] 3)).alloc (.cells #[.int .i64 0] 3)).alloc (.cells #[.slice A l.length c] 22) := ⟨_, rfl⟩
  have hB0 : Below w.heap.size w W0 := by rw [eW]; exact ((((Below.refl _ _).alloc (Nat.le_refl _) _).alloc (by simp) _).alloc (by simp; omega) _).alloc (by simp; omega) _
  have hz0 : W0.heap.size = w.heap.size + 4 := by rw [eW]; simp
  have c0 : W0.cell? ⟨w.heap.size, 0, none⟩ = some (.int .i64 P) := by rw [eW]; simp [go_sem]
  have c1 : W0.cell? ⟨w.heap.size + 1, 0, none⟩ = some (.int .i64 x) := by rw [eW]; simp [go_sem]
  have c2 : W0.cell? ⟨w.heap.size + 2, 0, none⟩ = some (.int .i64 0) := by rw [eW]; simp [go_sem]
  have c3 : W0.cell? ⟨w.heap.size + 3, 0, none⟩ = some (.slice A l.length c) := by rw [eW]; simp [go_sem]
  have f2 : W0.frozen? ⟨w.heap.size + 2, 0, none⟩ = false := by rw [eW]; simp [go_sem]
  have HZ0 := Lib.hid hz0
  have hz0' : w.heap.size + 3 < W0.heap.size := by omega
  clear hz0
  gi_wp2_with fail
  rw [show w.heap.size + 1 + 1 + 1 = w.heap.size + 3 from rfl, show w.heap.size + 1 + 1 = w.heap.size + 2 from rfl]
  rw [← eW]
  clear eW
  refine wpIn_rangeFunc_ownG rfl (by omega) (gf := 97) (lb := #[.pointer (some ⟨w.heap.size + 3, 0, none⟩)]) rfl trivial (enters_of Try.func97 (by kernel_rfl) rfl)
    (bwd_stops 4 (by omega) (w.heap.size + 3) (fun b => b < w.heap.size + 4 ∧ b ≠ w.heap.size + 2) l A c ⟨by omega, by omega⟩ (by omega) W0 (fun k hk => by have := HZ0.out; omega) c3
      (fun h0 => by
        obtain ⟨b, off, e, hb, hc⟩ := HA.out h0
        exact ⟨b, off, e, ⟨by omega, by omega⟩, fun j hj => (hB0.cell (p := ⟨b, off + j, none⟩) hb).trans (hc j hj)⟩))
    KB_t (KB_b (fun k hk => by have := HZ0.out; omega)) (Below.refl _ _) (fun _ => rfl)
    (fun pre W => (W.cell? ⟨w.heap.size, 0, none⟩ = some (.int .i64 P) ∧ W.cell? ⟨w.heap.size + 1, 0, none⟩ = some (.int .i64 x) ∧ W.cell? ⟨w.heap.size + 2, 0, none⟩ = some (.int .i64 (fv P x l pre)) ∧ W.frozen? ⟨w.heap.size + 2, 0, none⟩ = false) ∧ Below w.heap.size w W)
    (fun _ _ _ => False)
    (OwnFrom.and (Own.from (fun s A B row hs hg hr => ⟨cell_kept hs.1 hg hr, cell_kept hs.2.1 hg hr, cell_kept hs.2.2.1 hg hr, (frozen_kept hs.2.2.1 hg hr).trans hs.2.2.2⟩) _) (ownFrom_below (Nat.le_refl _) (by omega)))
    (fun _ _ _ _ _ hs _ _ => hs)
    ⟨⟨c0, c1, c2, f2⟩, hB0⟩
    (fun j => { tmps := #[.int .i64 P, .slice A l.length c, .int .i64 x, .pointer (some ⟨w.heap.size, 0, none⟩), undef, .pointer (some ⟨w.heap.size + 1, 0, none⟩), .int .i64 0, .pointer (some ⟨w.heap.size + 2, 0, none⟩), undef, .int .i64 l[j], .slice A l.length c, .func (.func 97) #[] #[.pointer (some ⟨w.heap.size + 3, 0, none⟩)], .int .i64 (j.1 : Int), .int .i64 l[j], undef, undef, undef, undef, undef, undef, undef, undef], defers := [] }) ?assign ?body ?done ?stop
  case assign =>
    intro l x W K hK
    gi_wp2
    exact hK
  case body =>
    rintro lr pre j W ⟨⟨d0, d1, d2, g2⟩, hB⟩ _
    have hfb := fv_bd hP.1 x l pre
    have hlj := el_t (els_all HL.out _ (List.getElem_mem j.2))
    have HF : Hid (fv P x l (pre ++ [j]) = (fv P x l pre * x + l[j]) % P) := fv_snoc _ _ _ _ _
    generalize fv P x l pre = s at d2 hfb HF
    simp only [Fin.getElem_fin] at HF hlj ⊢
    obtain ⟨a, ea⟩ : ∃ a, a = l[j.1] := ⟨_, rfl⟩
    rw [← ea] at HF hlj ⊢
    clear ea
    have hm1 : 0 ≤ s * x % P := Int.emod_nonneg _ (by omega)
    have hm2 : s * x % P < P := Int.emod_lt_of_pos _ (by omega)
    have hfo : Try.prog.follows .mixedOrders = true := by kernel_rfl
    clear HA HL c0 c1 c2 c3 f2 hcc hm hlen hz0'
    gi_wp2_with fail
    gi_region_with_o (first | (refine ⟨trivial, ?_⟩; gi_at_call 73; refine (CallsIn.inRound lr (callsIn_wide.2 (mul_any _ _ _ _ hP hfb hx))).mono ?_; rintro e w' ⟨rfl, rfl⟩) | (refine ⟨trivial, ?_⟩; gi_at_call 85; refine (CallsIn.inRound lr (callsIn_wide.2 (add_any _ _ _ _ hP ⟨hm1, hm2⟩ hlj))).mono ?_; rintro e w' ⟨rfl, rfl⟩))
    all_goals
      gi_wp2_with fail
      exact VEnd HF.out d0 d1 d2 g2 hB
  case done =>
    rintro D ys W hD rfl ⟨⟨d0, d1, d2, g2⟩, hB⟩ hK
    have hfin := fv_upf P x l l.length (Nat.le_refl _)
    rw [Nat.sub_self, List.drop_zero] at hfin
    rw [hfin] at d2
    clear hfin
    gi_wp2
    refine ⟨by simp, .inl ⟨_, _, rfl, run_takeDeferred hK, ?_⟩⟩
    exact ⟨_, results_tmp rfl _ _ _, rfl, hB.trans (belowK_b (w := w) (Nat.le_refl _) W D _ _ (by omega) hK rfl rfl)⟩
  case stop =>
    rintro D c pre W _ _ h _
    exact h.elim
theorem value_any (P x : Int) (l : List Int) (v : Value) (w : World) (hP : 2 ≤ P ∧ P ≤ 65521) (hx : 0 ≤ x ∧ x < P) (hl : els P l = true) (hlen : l.length ≤ 1000000) (h : SI w v l) :
    Calls Try.prog 68 #[.int .i64 P, v, .int .i64 x] w fun e w' => e = .returned (.int .i64 (val P l x)) ∧ Below w.heap.size w w' :=
  callsIn_wide.1 (value_in P x l v w hP hx hl hlen h)
end Go.Proofs.Ytbgabipngdillaa
