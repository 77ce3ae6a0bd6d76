/- The digests of rows and nodes: what the functions of the packages digest and privatefetchref11 return. -/
import Derived.Test.YtmglcjdigpgjlaaBase
namespace Go.Proofs.Ytmglcjdigpgjlaa
open Go.RowKit

theorem tmod_cases (n m : Int) (hm : 0 < m) : n.tmod m = n % m ∨ (n < 0 ∧ 0 < n % m ∧ n.tmod m = n % m - m) := by
  rw [Int.tmod_eq_emod]
  split
  · left; omega
  · rename_i h
    right
    have h1 : 0 ≤ n % m := Int.emod_nonneg n (by omega)
    have h2 : n % m ≠ 0 := fun e => h (.inr (Int.dvd_of_emod_eq_zero e))
    refine ⟨by omega, by omega, ?_⟩
    omega
theorem tmod_bd (n m : Int) (hm : 0 < m) : -m < n.tmod m ∧ n.tmod m < m := by
  have h1 : 0 ≤ n % m := Int.emod_nonneg n (by omega)
  have h2 : n % m < m := Int.emod_lt_of_pos n hm
  rcases tmod_cases n m hm with h | ⟨_, _, h⟩ <;> omega
theorem tmod_fix (n m : Int) (hm : 0 < m) : (n.tmod m + m).tmod m = n % m := by
  have h1 : 0 ≤ n % m := Int.emod_nonneg n (by omega)
  have h2 : n % m < m := Int.emod_lt_of_pos n hm
  rcases tmod_cases n m hm with h | ⟨_, _, h⟩
  · rw [h, Int.tmod_eq_emod_of_nonneg (by omega), Int.add_emod_right, Int.emod_emod_of_dvd _ (Int.dvd_refl m)]
  · rw [h, show n % m - m + m = n % m by omega, Int.tmod_eq_emod_of_nonneg h1, Int.emod_emod_of_dvd _ (Int.dvd_refl m)]

/-- modulo the digests' prime -/
def md (n : Int) : Int := n % 2147483647
theorem md_bd (n : Int) : 0 ≤ md n ∧ md n < 2147483647 := by unfold md; omega

theorem rmod_any (n : Int) (w : World) :
    Calls Try.prog 54 #[.int .i64 n] w fun e w' => e = .returned (.int .i64 (md n)) ∧ w = w' := by
  have hb := tmod_bd n 2147483647 (by omega)
  go_enter Try.func54, Try.ntmps54
  go_wp2
  go_ret
  exact ⟨ret_int (by
    show _ = md n
    unfold md
    have := tmod_fix n 2147483647 (by omega)
    rw [Int.tmod_eq_emod_of_nonneg (by omega)] at this
    exact this), rfl⟩
theorem pmod_any (n : Int) (w : World) :
    Calls Try.prog 55 #[.int .i64 n] w fun e w' => e = .returned (.int .i64 (md n)) ∧ w = w' := by
  have hb := tmod_bd n 2147483647 (by omega)
  have hc := tmod_cases n 2147483647 (by omega)
  go_enter Try.func55, Try.ntmps55
  go_wp2
  all_goals go_ret
  all_goals exact ⟨ret_int (by show _ = md n; unfold md; omega), rfl⟩

def node (a b : Int) : Int := (md a * 1000003 + md b + 3) % 2147483647
theorem node_bd (a b : Int) : 0 ≤ node a b ∧ node a b < 2147483647 := by unfold node; omega

theorem rnode_any (a b : Int) (w : World) :
    Calls Try.prog 39 #[.int .i64 a, .int .i64 b] w fun e w' => e = .returned (.int .i64 (node a b)) ∧ w = w' := by
  have h1 := md_bd a
  have h2 := md_bd b
  go_enter Try.func39, Try.ntmps39
  go_wp2_with fail
  refine (rmod_any a _).mono ?_; rintro e w' ⟨rfl, rfl⟩
  go_wp2_with fail
  refine (rmod_any b _).mono ?_; rintro e w' ⟨rfl, rfl⟩
  go_wp2_with fail
  go_ret
  exact ⟨ret_int rfl, rfl⟩
theorem pnode_any (a b : Int) (w : World) :
    Calls Try.prog 53 #[.int .i64 a, .int .i64 b] w fun e w' => e = .returned (.int .i64 (node a b)) ∧ w = w' := by
  have h1 := md_bd a
  have h2 := md_bd b
  go_enter Try.func53, Try.ntmps53
  go_wp2_with fail
  refine (pmod_any a _).mono ?_; rintro e w' ⟨rfl, rfl⟩
  go_wp2_with fail
  refine (pmod_any b _).mono ?_; rintro e w' ⟨rfl, rfl⟩
  go_wp2_with fail
  go_ret
  exact ⟨ret_int rfl, rfl⟩

def rowd (l : List Int) : Int := l.foldl (fun d x => (d * 1000003 + md x + 1) % 2147483647) 2
theorem rowd_bd (l : List Int) : 0 ≤ rowd l ∧ rowd l < 2147483647 := by
  unfold rowd
  rw [← List.reverse_reverse l]
  generalize l.reverse = m
  cases m with
  | nil => simp
  | cons a m => simp only [List.reverse_cons, List.foldl_append, List.foldl_cons, List.foldl_nil]; omega
theorem rowd_snoc (l : List Int) (k : Nat) (h : k < l.length) : rowd (l.take (k + 1)) = (rowd (l.take k) * 1000003 + md l[k] + 1) % 2147483647 := by
  unfold rowd
  rw [List.take_succ_eq_append_getElem h, List.foldl_append]
  rfl

theorem rrow_any (l : List Int) (v : Value) (w : World) (h : SI w v l) :
    Calls Try.prog 40 #[v] w fun e w' => e = .returned (.int .i64 (rowd l)) ∧ w = w' := by
  obtain ⟨A, c, rfl, hc, hm, hr, ha⟩ := h
  go_enter Try.func40, Try.ntmps40
  go_wp2
  go_loop [3, 8] (fun d i => ∃ k : Nat, k ≤ l.length ∧ i = .int .i64 k ∧ d = .int .i64 (rowd (l.take k))) (fun _ i => l.length - (intOf i).toNat)
  case atStart => exact ⟨0, Nat.zero_le _, rfl, rfl⟩
  case round =>
    obtain ⟨k, hk, rfl, rfl⟩ := hrel
    have hd := rowd_bd (l.take k)
    by_cases hlt : k < l.length
    · obtain ⟨b, off, rfl, hb, hcell⟩ := ha (by omega)
      have hck := hcell k hlt
      have hs := md_bd l[k]
      have HS := Lib.hid (rowd_snoc l k hlt)
      clear hcell ha hr
      go_wp2_with fail
      refine (rmod_any _ _).mono ?_; rintro e w' ⟨rfl, rfl⟩
      go_wp2
      go_round
      case rel => exact ⟨k + 1, by omega, by go_num, by rw [HS.out]⟩
      case measure => simp [intOf]; omega
    · go_wp2
      go_ret
      exact ⟨ret_int (by rw [List.take_of_length_le (by omega)]), rfl⟩

theorem prow_any (l : List Int) (v : Value) (w : World) (h : SI w v l) :
    Calls Try.prog 46 #[v] w fun e w' => e = .returned (.int .i64 (rowd l)) ∧ w = w' := by
  obtain ⟨A, c, rfl, hc, hm, hr, ha⟩ := h
  go_enter Try.func46, Try.ntmps46
  go_wp2
  go_loop [3, 8] (fun d i => ∃ k : Nat, k ≤ l.length ∧ i = .int .i64 k ∧ d = .int .i64 (rowd (l.take k))) (fun _ i => l.length - (intOf i).toNat)
  case atStart => exact ⟨0, Nat.zero_le _, rfl, rfl⟩
  case round =>
    obtain ⟨k, hk, rfl, rfl⟩ := hrel
    have hd := rowd_bd (l.take k)
    by_cases hlt : k < l.length
    · obtain ⟨b, off, rfl, hb, hcell⟩ := ha (by omega)
      have hck := hcell k hlt
      have hs := md_bd l[k]
      have HS := Lib.hid (rowd_snoc l k hlt)
      clear hcell ha hr
      go_wp2_with fail
      refine (pmod_any _ _).mono ?_; rintro e w' ⟨rfl, rfl⟩
      go_wp2
      go_round
      case rel => exact ⟨k + 1, by omega, by go_num, by rw [HS.out]⟩
      case measure => simp [intOf]; omega
    · go_wp2
      go_ret
      exact ⟨ret_int (by rw [List.take_of_length_le (by omega)]), rfl⟩
end Go.Proofs.Ytmglcjdigpgjlaa
