/- Joined: So Sp. -/
import Derived.Shelf.SlSortCmp.Small
import Derived.Test.YtbgabipngdillaaJ11
namespace Go.Proofs.Ytbgabipngdillaa
open Go.RowKit Go.Shelf Go.Sort Go.Lib
variable {α : Type} [Inhabited α]

/-- what the sort asks of the order -/
def OrdAt (s : Nat) (enc : α → Value) (cf : α → α → Int) (blk size : Nat) (w : World) : Prop :=
  ∀ (dk : Array α) (x y : α) (n : Nat), dk.size = size → Calls Try.prog 57 #[.pointer (some ⟨s, 0, none⟩), enc x, enc y] ((putRow enc w blk 0 dk).drewN n) fun e w' => e = .returned (.int .i64 (cf x y)) ∧ ((putRow enc w blk 0 dk).drewN n) = w'

set_option maxHeartbeats 4000000 in
set_option maxRecDepth 1000000 in
theorem insort_any (s : Nat) (enc : α → Value) (h1 : OneCell enc) (cf : α → α → Int) (blk cap : Nat) (d : Array α) (w : World) (hc : OrdAt s enc cf blk d.size w) (hH : Holds enc w blk 0 d) (hsz : d.size ≤ 1000000) :
    Calls Try.prog 87 #[.slice (some ⟨blk, 0, none⟩) d.size cap, .int .i64 0, .int .i64 d.size, .func (.func 57) #[.pointer (some ⟨s, 0, none⟩)] #[]] w fun e w' =>
      e = .returned (.tuple #[]) ∧ ∃ n, w' = (putRow enc w blk 0 (Sort.insertionSort (ltOf cf) d 0 d.size)).drewN n := by
  have hcl0 := h1.cells
  simp only [Value.cells] at hcl0
  have hst := h1.store Try.prog
  have mixed : Try.prog.follows .mixedOrders = true := by kernel_rfl
  have HC := Lib.hid hc
  have HST : Hid (w = (putRow enc w blk 0 d).drewN 0) := (putRow_self enc w blk 0 d hH).symm
  have HH : Hid (Holds enc w blk 0 d) := hH
  clear hc hH
  go_enter Try.func87, Try.ntmps87
  go_wp2
  go_loopg [8] d.size (fun g1 vi wr => ∃ (i n : Nat) (dk : Array α), vi = .int .i64 i ∧ 0 < i ∧ i ≤ d.size + 1 ∧ d.size + 1 - i ≤ g1 + 1 ∧ dk.size = d.size ∧ wr = (putRow enc w blk 0 dk).drewN n ∧ Hid (insOuter (ltOf cf) 0 d.size i dk = insOuter (ltOf cf) 0 d.size (0 + 1) d))
  case atStart => exact ⟨1, 0, d, by go_num, by omega, by omega, by omega, rfl, HST.out, rfl⟩
  case round =>
    obtain ⟨i, n, dk, rfl, hai, hib, hg1, hsk, rfl, HO⟩ := hrel
    by_cases hlt : i < d.size
    · have hltz : (i : Int) < (d.size : Int) := by omega
      go_wp2
      go_loopg [9] i (fun g2 vj wr2 => ∃ (j m : Nat) (dj : Array α), vj = .int .i64 j ∧ j ≤ i ∧ j ≤ g2 ∧ dj.size = d.size ∧ wr2 = (putRow enc w blk 0 dj).drewN m ∧ Hid (insInner (ltOf cf) 0 j dj = insInner (ltOf cf) 0 i dk))
      case atStart => exact ⟨i, n, dk, rfl, Nat.le_refl _, Nat.le_refl _, hsk, rfl, rfl⟩
      case round =>
        obtain ⟨j, m, dj, rfl, hji, hg2, hsj, rfl, HI⟩ := hrel
        have OUT : Aside ((j ≤ 0 ∨ ltOf cf dj[j]! dj[j - 1]! = false) → Hid (insOuter (ltOf cf) 0 d.size (i + 1) dj = insOuter (ltOf cf) 0 d.size (0 + 1) d)) := fun hs => by
          show _ = _
          rw [← HO.out, insOuter_go _ _ _ _ _ hlt, ← HI.out, insInner_stop _ _ _ _ hs]
        by_cases hja : 0 < j
        · have hHj := holds_putRow enc w blk 0 d dj HH.out hsj
          obtain ⟨xj, hxj⟩ : ∃ x, dj[j]! = x := ⟨_, rfl⟩
          obtain ⟨xp, hxp⟩ : ∃ x, dj[j - 1]! = x := ⟨_, rfl⟩
          obtain ⟨cj, fj⟩ := hHj j (by omega)
          obtain ⟨cp, fp⟩ := hHj (j - 1) (by omega)
          rw [hxj] at cj
          rw [hxp] at cp
          simp only [Nat.zero_add] at cj fj cp fp
          obtain ⟨jp, rfl⟩ : ∃ jp, j = jp + 1 := ⟨j - 1, by omega⟩
          simp only [Nat.add_sub_cancel] at cp fp hxp
          have hwp : IntKind.i64.wrap (jp : Int) = (jp : Int) := IntWalk.i64_in _ (by omega)
          have jz : (jp : Int) + 1 < (d.size : Int) := by omega
          have jz1 : (jp : Int) < (d.size : Int) := by omega
          have hjaz' : (0 : Int) < (jp : Int) + 1 := by omega
          have p0 : (0 : Int) ≤ (jp : Int) + 1 := by omega
          have e0 : ((jp : Int) + 1).toNat = jp + 1 := by omega
          have hcc := HC.out dj xj xp
          clear hHj
          have cj' : ((putRow enc w blk 0 dj).drewN m).cell? ⟨blk, jp + 1, none⟩ = some (enc xj) := cj
          have cp' : ((putRow enc w blk 0 dj).drewN m).cell? ⟨blk, jp, none⟩ = some (enc xp) := cp
          have fj' : ((putRow enc w blk 0 dj).drewN m).frozen? ⟨blk, jp + 1, none⟩ = false := fj
          have fp' : ((putRow enc w blk 0 dj).drewN m).frozen? ⟨blk, jp, none⟩ = false := fp
          have hcw : ∀ n, Calls Try.prog 57 #[.pointer (some ⟨s, 0, none⟩), enc xj, enc xp] (((putRow enc w blk 0 dj).drewN m).drewN n) fun e w' => e = .returned (.int .i64 (cf xj xp)) ∧ (((putRow enc w blk 0 dj).drewN m).drewN n) = w' := fun n => by
            have := hcc (m + n) hsj
            rw [← World.drewN_drewN] at this
            exact this
          clear cj cp fj fp hcc
          generalize hwq : (putRow enc w blk 0 dj).drewN m = wq at cj' cp' fj' fp' hcw ⊢
          have HCW := Lib.hid hcw
          clear hcw
          by_cases hlv : cf xj xp < 0
          · go_wp2_with fail
            go_quiet_o (first | (go_at_call 57; refine Calls.quiet_of_same ((HCW.out _).mono fun e w1 h => ⟨h.1, h.2.symm⟩)))
            go_wp2_with fail
            have hw2 : wq.drewN nq = (putRow enc w blk 0 dj).drewN (m + nq) := by rw [← hwq, World.drewN_drewN]
            have cj2 : (wq.drewN nq).cell? ⟨blk, jp + 1, none⟩ = some (enc xj) := cj'
            have cp2 : (wq.drewN nq).cell? ⟨blk, jp, none⟩ = some (enc xp) := cp'
            have fj2 : (wq.drewN nq).frozen? ⟨blk, jp + 1, none⟩ = false := fj'
            have fp2 : (wq.drewN nq).frozen? ⟨blk, jp, none⟩ = false := fp'
            clear cj' cp' fj' fp'
            generalize wq.drewN nq = wq2 at hw2 cj2 cp2 fj2 fp2 ⊢
            obtain ⟨j1, hj1⟩ : ∃ j1, j1 = jp + 1 := ⟨_, rfl⟩
            rw [← hj1] at cj2 fj2 e0
            have J1 : Hid (j1 = jp + 1) := hj1
            have HW2 : Hid (wq2 = (putRow enc w blk 0 dj).drewN (m + nq)) := hw2
            have HXP : Hid (dj[jp]! = xp) := hxp
            have HXJ : Hid (dj[jp + 1]! = xj) := hxj
            clear hj1 hw2 hwq hxp hxj
            go_big_region_o
            all_goals go_wp2
            go_roundg jp
            case measure => omega
            case rel =>
              refine ⟨jp, m + nq + 1, swp dj (jp + 1) jp, by first | rfl | go_num | (congr 1; omega), by omega, Nat.le_refl _, by rw [size_swp]; exact hsj, ?_, (show Hid _ from ?_)⟩
              · rw [J1.out, HW2.out, ← HXP.out, ← HXJ.out]
                have := swap_worldC enc w blk 0 dj (m + nq) (jp + 1) jp (by omega) (by omega)
                simp only [Nat.zero_add] at this
                exact this
              · show _ = _
                have := insInner_go (ltOf cf) 0 (jp + 1) dj hja (by simp only [Nat.add_sub_cancel]; rw [HXJ.out, HXP.out]; exact decide_eq_true hlv)
                simp only [Nat.add_sub_cancel] at this
                rw [← HI.out, this]
          · go_wp2_with fail
            go_quiet_o (first | (go_at_call 57; refine Calls.quiet_of_same ((HCW.out _).mono fun e w1 h => ⟨h.1, h.2.symm⟩)))
            go_wp2
            go_roundg (d.size - (i + 1))
            case measure => omega
            case rel => exact ⟨i + 1, _, dj, by go_num, by omega, by omega, by omega, hsj, by rw [← hwq, World.drewN_drewN], OUT.out (Or.inr (by simp only [Nat.add_sub_cancel]; rw [hxj, hxp]; exact decide_eq_false (by omega)))⟩
        · have hj0 : j = 0 := by omega
          subst hj0
          generalize hwq : (putRow enc w blk 0 dj).drewN m = wq
          go_wp2_with fail
          go_big_region_o
          all_goals go_wp2
          go_roundg (d.size - (i + 1))
          case measure => omega
          case rel => exact ⟨i + 1, _, dj, by go_num, by omega, by omega, by omega, hsj, (show _ = (putRow enc w blk 0 dj).drewN (m + 1) from by first | rfl | (rw [← hwq]; rfl)), OUT.out (Or.inl (by omega))⟩
    · have hltz : ¬ (i : Int) < (d.size : Int) := by omega
      go_wp2
      go_end0
      exact ⟨rfl, n, by unfold Sort.insertionSort; rw [← HO.out, insOuter_stop _ _ _ _ _ hlt]⟩
end Go.Proofs.Ytbgabipngdillaa

namespace Go.Proofs.Ytbgabipngdillaa
open Go.RowKit Go.Shelf Go.Sort Go.Lib

set_option maxHeartbeats 4000000 in
set_option maxRecDepth 1000000 in
theorem len64_any (n : Nat) (w : World) (h : n ≤ 12) : Calls Try.prog 96 #[.int .u64 n] w fun e w' => (∃ l : Int, e = .returned (.int .i64 l)) ∧ w = w' := by
  go_enter Try.func96, Try.ntmps96
  have h1 : ¬ ((4294967296 : Int) ≤ (n : Int)) := by omega
  have h2 : ¬ ((65536 : Int) ≤ (n : Int)) := by omega
  have h3 : ¬ ((256 : Int) ≤ (n : Int)) := by omega
  rcases (by omega : n = 0 ∨ n = 1 ∨ n = 2 ∨ n = 3 ∨ n = 4 ∨ n = 5 ∨ n = 6 ∨ n = 7 ∨ n = 8 ∨ n = 9 ∨ n = 10 ∨ n = 11 ∨ n = 12) with rfl | rfl | rfl | rfl | rfl | rfl | rfl | rfl | rfl | rfl | rfl | rfl | rfl
  all_goals
    clear h1 h2 h3 h
    go_wp2_with fail
    go_ret
    exact ⟨⟨_, rfl⟩, rfl⟩
set_option maxHeartbeats 4000000 in
set_option maxRecDepth 1000000 in
theorem len_any (n : Nat) (w : World) (h : n ≤ 12) : Calls Try.prog 81 #[.int .u64 n] w fun e w' => (∃ l : Int, e = .returned (.int .i64 l)) ∧ w = w' := by
  go_enter Try.func81, Try.ntmps81
  go_wp2_with fail
  (with_reducible refine (len64_any n _ h).mono ?_)
  rintro e w' ⟨⟨l, rfl⟩, rfl⟩
  go_wp2_with fail
  go_ret
  exact ⟨⟨_, rfl⟩, rfl⟩
variable {α : Type} [Inhabited α]
set_option maxHeartbeats 4000000 in
set_option maxRecDepth 1000000 in
theorem pdq_any (s : Nat) (enc : α → Value) (h1 : OneCell enc) (cf : α → α → Int) (blk cap : Nat) (d : Array α) (lim : Int) (w : World) (hc : OrdAt s enc cf blk d.size w) (hH : Holds enc w blk 0 d) (hsz : d.size ≤ 12) :
    Calls Try.prog 80 #[.slice (some ⟨blk, 0, none⟩) d.size cap, .int .i64 0, .int .i64 d.size, .int .i64 lim, .func (.func 57) #[.pointer (some ⟨s, 0, none⟩)] #[]] w fun e w' =>
      e = .returned (.tuple #[]) ∧ ∃ n, w' = (putRow enc w blk 0 (Sort.insertionSort (ltOf cf) d 0 d.size)).drewN n := by
  have HC := Lib.hid hc
  have HH := Lib.hid hH
  clear hc hH
  go_enter Try.func80, Try.ntmps80
  have hz1 : IntKind.i64.wrap ((d.size : Int) - 0) = (d.size : Int) := IntWalk.i64_in _ (by omega)
  have hz2 : ((d.size : Int) ≤ 12) := by omega
  have hz3 : decide ((d.size : Int) ≤ 12) = true := decide_eq_true hz2
  go_wp2
  refine wp_loop_rounds 1 ?_
  rw [rounds_succ]
  go_wp2_with fail
  (with_reducible refine (insort_any s enc h1 cf blk cap d _ HC.out HH.out (by omega)).mono ?_)
  rintro e w' ⟨rfl, n, rfl⟩
  go_wp2_with fail
  (try simp only [Exit.inBlock, Exit.then]); refine bodyPost_ret (results_none rfl _ _ _) rfl ?_
  exact ⟨rfl, n, rfl⟩
set_option maxHeartbeats 4000000 in
set_option maxRecDepth 1000000 in
theorem sort_any (s : Nat) (enc : α → Value) (h1 : OneCell enc) (cf : α → α → Int) (blk cap : Nat) (d : Array α) (w : World) (hc : OrdAt s enc cf blk d.size w) (hH : Holds enc w blk 0 d) (hsz : d.size ≤ 12) :
    Calls Try.prog 56 #[.slice (some ⟨blk, 0, none⟩) d.size cap, .func (.func 57) #[.pointer (some ⟨s, 0, none⟩)] #[]] w fun e w' =>
      e = .returned (.tuple #[]) ∧ ∃ n, w' = (putRow enc w blk 0 (Sort.insertionSort (ltOf cf) d 0 d.size)).drewN n := by
  have HC := Lib.hid hc
  have HH := Lib.hid hH
  clear hc hH
  go_enter Try.func56, Try.ntmps56
  have hz1 : IntKind.u64.wrap (d.size : Int) = (d.size : Int) := by simp [IntKind.wrap, IntKind.bits, IntKind.signed]; omega
  go_wp2_with fail
  (with_reducible refine (len_any d.size _ hsz).mono ?_)
  rintro e w' ⟨⟨lim, rfl⟩, rfl⟩
  go_wp2_with fail
  (with_reducible refine (pdq_any s enc h1 cf blk cap d lim _ HC.out HH.out hsz).mono ?_)
  rintro e w' ⟨rfl, n, rfl⟩
  go_wp2_with fail
  go_end0
  exact ⟨rfl, n, rfl⟩
/-- the same of nothing -/
theorem insort_nil (g : Nat) (cb : Array Value) (w : World) : Calls Try.prog 87 #[.slice none 0 0, .int .i64 0, .int .i64 0, .func (.func g) cb #[]] w fun e w' => e = .returned (.tuple #[]) ∧ w = w' := by
  go_enter Try.func87, Try.ntmps87
  go_wp2
  refine wp_loop_rounds 1 ?_
  rw [rounds_succ]
  go_wp2_with fail
  go_end0
  exact ⟨rfl, rfl⟩
set_option maxHeartbeats 4000000 in
set_option maxRecDepth 1000000 in
theorem pdq_nil (g : Nat) (cb : Array Value) (lim : Int) (w : World) : Calls Try.prog 80 #[.slice none 0 0, .int .i64 0, .int .i64 0, .int .i64 lim, .func (.func g) cb #[]] w fun e w' => e = .returned (.tuple #[]) ∧ w = w' := by
  go_enter Try.func80, Try.ntmps80
  go_wp2
  refine wp_loop_rounds 1 ?_
  rw [rounds_succ]
  go_wp2_with fail
  (with_reducible refine (insort_nil g cb _).mono ?_)
  rintro e w' ⟨rfl, rfl⟩
  go_wp2_with fail
  (try simp only [Exit.inBlock, Exit.then]); refine bodyPost_ret (results_none rfl _ _ _) rfl ?_
  exact ⟨rfl, rfl⟩
set_option maxHeartbeats 4000000 in
set_option maxRecDepth 1000000 in
theorem sort_nil (g : Nat) (cb : Array Value) (w : World) : Calls Try.prog 56 #[.slice none 0 0, .func (.func g) cb #[]] w fun e w' => e = .returned (.tuple #[]) ∧ w = w' := by
  go_enter Try.func56, Try.ntmps56
  have hl := len_any 0 w (by omega)
  rw [show ((0 : Nat) : Int) = 0 from rfl] at hl
  go_wp2_with fail
  (with_reducible refine hl.mono ?_)
  rintro e w' ⟨⟨lim, rfl⟩, rfl⟩
  go_wp2_with fail
  (with_reducible refine (pdq_nil g cb lim _).mono ?_)
  rintro e w' ⟨rfl, rfl⟩
  go_wp2_with fail
  go_end0
  exact ⟨rfl, rfl⟩
theorem compact_nil (g : Nat) (w : World) : Calls Try.prog 58 #[.slice none 0 0, .func (.func g) #[] #[]] w fun e w' => e = .returned (.slice none 0 0) ∧ w = w' := by
  go_enter Try.func58, Try.ntmps58
  go_wp2_with fail
  go_ret
  exact ⟨rfl, rfl⟩
end Go.Proofs.Ytbgabipngdillaa
