/- Joined: Sp. -/
import Derived.Test.YtbgabipngdillaaZ10
namespace Go.Proofs.Ytbgabipngdillaa
open Go.RowKit Go.Shelf Go.Sort Go.Lib

set_option maxHeartbeats 4000000 in
set_option maxRecDepth 1000000 in
theorem len64_any (n : Nat) (w : World) (h : n ≤ 12) : Calls Try.prog 96 #[.int .u64 n] w fun e w' => (∃ l : Int, e = .returned (.int .i64 l)) ∧ w = w' := by
  go_enter Try.func96, Try.ntmps96
  have h1 : ¬ ((4294967296 : Int) ≤ (n : Int)) := by omega
  have h2 : ¬ ((65536 : Int) ≤ (n : Int)) := by omega
  have h3 : ¬ ((256 : Int) ≤ (n : Int)) := by omega
  rcases (by omega : n = 0 ∨ n = 1 ∨ n = 2 ∨ n = 3 ∨ n = 4 ∨ n = 5 ∨ n = 6 ∨ n = 7 ∨ n = 8 ∨ n = 9 ∨ n = 10 ∨ n = 11 ∨ n = 12) with rfl | rfl | rfl | rfl | rfl | rfl | rfl | rfl | rfl | rfl | rfl | rfl | rfl
  all_goals
    clear h1 h2 h3 h
    go_wp2_with fail
    go_ret
    exact ⟨⟨_, rfl⟩, rfl⟩
set_option maxHeartbeats 4000000 in
set_option maxRecDepth 1000000 in
theorem len_any (n : Nat) (w : World) (h : n ≤ 12) : Calls Try.prog 81 #[.int .u64 n] w fun e w' => (∃ l : Int, e = .returned (.int .i64 l)) ∧ w = w' := by
  go_enter Try.func81, Try.ntmps81
  go_wp2_with fail
  (with_reducible refine (len64_any n _ h).mono ?_)
  rintro e w' ⟨⟨l, rfl⟩, rfl⟩
  go_wp2_with fail
  go_ret
  exact ⟨⟨_, rfl⟩, rfl⟩
variable {α : Type} [Inhabited α]
set_option maxHeartbeats 4000000 in
set_option maxRecDepth 1000000 in
theorem pdq_any (s : Nat) (enc : α → Value) (h1 : OneCell enc) (cf : α → α → Int) (blk cap : Nat) (d : Array α) (lim : Int) (w : World) (hc : OrdAt s enc cf blk d.size w) (hH : Holds enc w blk 0 d) (hsz : d.size ≤ 12) :
    Calls Try.prog 80 #[.slice (some ⟨blk, 0, none⟩) d.size cap, .int .i64 0, .int .i64 d.size, .int .i64 lim, .func (.func 57) #[.pointer (some ⟨s, 0, none⟩)] #[]] w fun e w' =>
      e = .returned (.tuple #[]) ∧ ∃ n, w' = (putRow enc w blk 0 (Sort.insertionSort (ltOf cf) d 0 d.size)).drewN n := by
  have HC := Lib.hid hc
  have HH := Lib.hid hH
  clear hc hH
  go_enter Try.func80, Try.ntmps80
  have hz1 : IntKind.i64.wrap ((d.size : Int) - 0) = (d.size : Int) := IntWalk.i64_in _ (by omega)
  have hz2 : ((d.size : Int) ≤ 12) := by omega
  have hz3 : decide ((d.size : Int) ≤ 12) = true := decide_eq_true hz2
  go_wp2
  refine wp_loop_rounds 1 ?_
  rw [rounds_succ]
  go_wp2_with fail
  (with_reducible refine (insort_any s enc h1 cf blk cap d _ HC.out HH.out (by omega)).mono ?_)
  rintro e w' ⟨rfl, n, rfl⟩
  go_wp2_with fail
  (try simp only [Exit.inBlock, Exit.then]); refine bodyPost_ret (results_none rfl _ _ _) rfl ?_
  exact ⟨rfl, n, rfl⟩
set_option maxHeartbeats 4000000 in
set_option maxRecDepth 1000000 in
theorem sort_any (s : Nat) (enc : α → Value) (h1 : OneCell enc) (cf : α → α → Int) (blk cap : Nat) (d : Array α) (w : World) (hc : OrdAt s enc cf blk d.size w) (hH : Holds enc w blk 0 d) (hsz : d.size ≤ 12) :
    Calls Try.prog 56 #[.slice (some ⟨blk, 0, none⟩) d.size cap, .func (.func 57) #[.pointer (some ⟨s, 0, none⟩)] #[]] w fun e w' =>
      e = .returned (.tuple #[]) ∧ ∃ n, w' = (putRow enc w blk 0 (Sort.insertionSort (ltOf cf) d 0 d.size)).drewN n := by
  have HC := Lib.hid hc
  have HH := Lib.hid hH
  clear hc hH
  go_enter Try.func56, Try.ntmps56
  have hz1 : IntKind.u64.wrap (d.size : Int) = (d.size : Int) := by simp [IntKind.wrap, IntKind.bits, IntKind.signed]; omega
  go_wp2_with fail
  (with_reducible refine (len_any d.size _ hsz).mono ?_)
  rintro e w' ⟨⟨lim, rfl⟩, rfl⟩
  go_wp2_with fail
  (with_reducible refine (pdq_any s enc h1 cf blk cap d lim _ HC.out HH.out hsz).mono ?_)
  rintro e w' ⟨rfl, n, rfl⟩
  go_wp2_with fail
  go_end0
  exact ⟨rfl, n, rfl⟩
/-- the same of nothing -/
theorem insort_nil (g : Nat) (cb : Array Value) (w : World) : Calls Try.prog 87 #[.slice none 0 0, .int .i64 0, .int .i64 0, .func (.func g) cb #[]] w fun e w' => e = .returned (.tuple #[]) ∧ w = w' := by
  go_enter Try.func87, Try.ntmps87
  go_wp2
  refine wp_loop_rounds 1 ?_
  rw [rounds_succ]
  go_wp2_with fail
  go_end0
  exact ⟨rfl, rfl⟩
set_option maxHeartbeats 4000000 in
set_option maxRecDepth 1000000 in
theorem pdq_nil (g : Nat) (cb : Array Value) (lim : Int) (w : World) : Calls Try.prog 80 #[.slice none 0 0, .int .i64 0, .int .i64 0, .int .i64 lim, .func (.func g) cb #[]] w fun e w' => e = .returned (.tuple #[]) ∧ w = w' := by
  go_enter Try.func80, Try.ntmps80
  go_wp2
  refine wp_loop_rounds 1 ?_
  rw [rounds_succ]
  go_wp2_with fail
  (with_reducible refine (insort_nil g cb _).mono ?_)
  rintro e w' ⟨rfl, rfl⟩
  go_wp2_with fail
  (try simp only [Exit.inBlock, Exit.then]); refine bodyPost_ret (results_none rfl _ _ _) rfl ?_
  exact ⟨rfl, rfl⟩
set_option maxHeartbeats 4000000 in
set_option maxRecDepth 1000000 in
theorem sort_nil (g : Nat) (cb : Array Value) (w : World) : Calls Try.prog 56 #[.slice none 0 0, .func (.func g) cb #[]] w fun e w' => e = .returned (.tuple #[]) ∧ w = w' := by
  go_enter Try.func56, Try.ntmps56
  have hl := len_any 0 w (by omega)
  rw [show ((0 : Nat) : Int) = 0 from rfl] at hl
  go_wp2_with fail
  (with_reducible refine hl.mono ?_)
  rintro e w' ⟨⟨lim, rfl⟩, rfl⟩
  go_wp2_with fail
  (with_reducible refine (pdq_nil g cb lim _).mono ?_)
  rintro e w' ⟨rfl, rfl⟩
  go_wp2_with fail
  go_end0
  exact ⟨rfl, rfl⟩
theorem compact_nil (g : Nat) (w : World) : Calls Try.prog 58 #[.slice none 0 0, .func (.func g) #[] #[]] w fun e w' => e = .returned (.slice none 0 0) ∧ w = w' := by
  go_enter Try.func58, Try.ntmps58
  go_wp2_with fail
  go_ret
  exact ⟨rfl, rfl⟩
end Go.Proofs.Ytbgabipngdillaa
