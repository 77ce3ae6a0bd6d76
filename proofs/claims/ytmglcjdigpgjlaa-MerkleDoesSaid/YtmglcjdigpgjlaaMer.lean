/- What check, above of merkle and list, up of privatefetchref12 return. -/
import Derived.Test.YtmglcjdigpgjlaaMerP
import Derived.Test.YtmglcjdigpgjlaaApp
import Derived.Deep.RegionHeld3
import Derived.Deep.RegionLaw
namespace Go.Proofs.Ytmglcjdigpgjlaa
open Go.RowKit

theorem proper_t (n : Int) (w : World) (h : dg n = true) :
    Calls Try.prog 52 #[.int .i64 n] w fun e w' => e = .returned (.bool true) ∧ w = w' := by
  obtain ⟨h1, h2⟩ := dg_t h
  clear h
  go_enter Try.func52, Try.ntmps52
  go_wp2
  go_ret
  exact ⟨rfl, rfl⟩
theorem proper_f (n : Int) (w : World) (h : dg n = false) :
    Calls Try.prog 52 #[.int .i64 n] w fun e w' => e = .returned (.bool false) ∧ w = w' := by
  have h1 := dg_f h
  clear h
  by_cases h2 : 0 ≤ n
  · have h3 : 2147483647 ≤ n := by omega
    go_enter Try.func52, Try.ntmps52
    go_wp2
    go_ret
    exact ⟨ret_bool (by simp; omega), rfl⟩
  · go_enter Try.func52, Try.ntmps52
    go_wp2
    go_ret
    exact ⟨rfl, rfl⟩
theorem lsE_1 {l : List Int} (h : l.length ≤ 1024) {k : Nat} (hk : k < l.length) (hd : dg l[k] = false) : lsE l = 1 := by
  unfold lsE
  rw [if_neg (by omega), if_neg]
  intro e
  have := dgs_all e _ (List.getElem_mem hk)
  rw [hd] at this
  cases this
theorem lsE_0 {l : List Int} (h : l.length ≤ 1024) {k : Nat} (hk : k = l.length) (hd : ∀ j (_ : j < k) (_ : k ≤ l.length), dg (l[j]'(by omega)) = true) : lsE l = 0 := by
  unfold lsE
  rw [if_neg (by omega), if_pos]
  simp only [dgs, List.all_eq_true]
  intro x hx
  obtain ⟨j, hj, rfl⟩ := List.mem_iff_getElem.1 hx
  exact hd j (by omega) (by omega)
theorem all_snoc {l : List Int} {k : Nat} (h : ∀ j (_ : j < k) (_ : k ≤ l.length), dg (l[j]'(by omega)) = true) (hk : k < l.length) (hd : dg l[k] = true) :
    ∀ j (_ : j < k + 1) (_ : k + 1 ≤ l.length), dg (l[j]'(by omega)) = true := by
  intro j h1 h2
  by_cases e : j = k
  · subst e; exact hd
  · exact h j (by omega) (by omega)

theorem pchk_any (l : List Int) (v : Value) (w : World) (h : SI w v l) :
    Calls Try.prog 47 #[v] w fun e w' => e = .returned (.int .i64 (lsE l)) ∧ w = w' := by
  obtain ⟨A, c, rfl, hc, hm, hr, ha⟩ := h
  by_cases hlen : 1024 < l.length
  · have HC := Lib.hid (show lsE l = 4 by unfold lsE; rw [if_pos hlen])
    go_enter Try.func47, Try.ntmps47
    go_wp2
    go_ret
    exact ⟨ret_int HC.out.symm, rfl⟩
  · go_enter Try.func47, Try.ntmps47
    go_wp2
    go_loop [10] (fun i => ∃ k : Nat, k ≤ l.length ∧ i = .int .i64 k ∧ ∀ j (h : j < k) (h' : k ≤ l.length), dg (l[j]'(by omega)) = true) (fun i => l.length - (intOf i).toNat)
    case atStart => exact ⟨0, Nat.zero_le _, rfl, fun j h => absurd h (by omega)⟩
    case round =>
      obtain ⟨k, hk, rfl, hall⟩ := hrel
      have hall := Lib.hid hall
      by_cases hlt : k < l.length
      · obtain ⟨b, off, rfl, hb, hcell⟩ := ha (by omega)
        have hck := hcell k hlt
        clear hcell ha hr
        by_cases h1 : dg l[k] = true
        · have HA2 := Lib.hid (all_snoc hall.out hlt h1)
          go_wp2_with ((with_reducible refine (proper_t _ _ h1).mono ?_); rintro e w' ⟨rfl, rfl⟩)
          go_round
          case rel => exact ⟨k + 1, by omega, by go_num, HA2.out⟩
          case measure => simp [intOf]; omega
        · have h1f : dg l[k] = false := by simpa using h1
          have HE := Lib.hid (lsE_1 (by omega) hlt h1f)
          go_wp2_with ((with_reducible refine (proper_f _ _ h1f).mono ?_); rintro e w' ⟨rfl, rfl⟩)
          go_ret
          exact ⟨ret_int HE.out.symm, rfl⟩
      · have HE := Lib.hid (lsE_0 (show l.length ≤ 1024 by omega) (show k = l.length by omega) hall.out)
        go_wp2
        go_ret
        exact ⟨ret_int HE.out.symm, rfl⟩

theorem rchk_any (l : List Int) (v : Value) (w : World) (h : SI w v l) :
    Calls Try.prog 50 #[v] w fun e w' => e = .returned (.int .i64 (lsE l)) ∧ w = w' := by
  obtain ⟨A, c, rfl, hc, hm, hr, ha⟩ := h
  by_cases hlen : 1024 < l.length
  · have HC := Lib.hid (show lsE l = 4 by unfold lsE; rw [if_pos hlen])
    go_enter Try.func50, Try.ntmps50
    go_wp2
    go_ret
    exact ⟨ret_int HC.out.symm, rfl⟩
  · go_enter Try.func50, Try.ntmps50
    go_wp2
    go_loop [10] (fun i => ∃ k : Nat, k ≤ l.length ∧ i = .int .i64 k ∧ ∀ j (h : j < k) (h' : k ≤ l.length), dg (l[j]'(by omega)) = true) (fun i => l.length - (intOf i).toNat)
    case atStart => exact ⟨0, Nat.zero_le _, rfl, fun j h => absurd h (by omega)⟩
    case round =>
      obtain ⟨k, hk, rfl, hall⟩ := hrel
      have hall := Lib.hid hall
      by_cases hlt : k < l.length
      · obtain ⟨b, off, rfl, hb, hcell⟩ := ha (by omega)
        have hck := hcell k hlt
        clear hcell ha hr
        by_cases h1 : dg l[k] = true
        · have HA2 := Lib.hid (all_snoc hall.out hlt h1)
          obtain ⟨h2, h3⟩ := dg_t h1
          clear h1
          go_wp2
          go_round
          case rel => exact ⟨k + 1, by omega, by go_num, HA2.out⟩
          case measure => simp [intOf]; omega
        · have h1f : dg l[k] = false := by simpa using h1
          have HE := Lib.hid (lsE_1 (by omega) hlt h1f)
          have h2 := dg_f h1f
          clear h1 h1f
          by_cases h3 : l[k] < 0
          · go_wp2
            go_ret
            exact ⟨ret_int HE.out.symm, rfl⟩
          · have h4 : 2147483647 ≤ l[k] := by omega
            go_wp2
            go_ret
            exact ⟨ret_int HE.out.symm, rfl⟩
      · have HE := Lib.hid (lsE_0 (show l.length ≤ 1024 by omega) (show k = l.length by omega) hall.out)
        go_wp2
        go_ret
        exact ⟨ret_int HE.out.symm, rfl⟩
end Go.Proofs.Ytmglcjdigpgjlaa
