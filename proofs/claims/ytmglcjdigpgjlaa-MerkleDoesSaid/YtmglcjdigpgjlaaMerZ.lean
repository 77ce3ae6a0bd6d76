/- A list in which one element changed; a path in which one digest was changed. -/
import Derived.Test.YtmglcjdigpgjlaaMerY
namespace Go.Proofs.Ytmglcjdigpgjlaa
open Go.RowKit

def smB (a b c d : Int) (x y : List Int) : Bool := decide (a = c ∧ b = d ∧ x = y)
def neAt (x y : List Int) (k : Nat) : Prop := ∀ j (_ : j < k) (hx : j < x.length) (hy : j < y.length), x[j] = y[j]

set_option maxHeartbeats 1000000 in
theorem same_any (a b c d : Int) (x y : List Int) (vx vy : Value) (w : World) (hx : SI w vx x) (hy : SI w vy y) :
    Calls Try.prog 32 #[.agg #[.int .i64 a, .int .i64 b, vx], .agg #[.int .i64 c, .int .i64 d, vy]] w fun e w' => e = .returned (.bool (smB a b c d x y)) ∧ Below w.heap.size w w' := by
  have HX := Lib.hid hx
  have HY := Lib.hid hy
  obtain ⟨A1, c1, rfl, hc1, hm1, hr1, ha1⟩ := hx
  obtain ⟨A2, c2, rfl, hc2, hm2, hr2, ha2⟩ := hy
  have HA1 := Lib.hid ha1
  have HA2 := Lib.hid ha2
  have hbb : Below w.heap.size w ((w.alloc (.cells #[.int .i64 a, .int .i64 b, .slice A1 x.length c1] 46)).alloc (.cells #[.int .i64 c, .int .i64 d, .slice A2 y.length c2] 46)) := ((Below.refl _ _).alloc (Nat.le_refl _) _).alloc (by simp) _
  clear ha1 ha2 hr1 hr2
  by_cases h1 : a = c
  · have hd1 : (a != c) = false := by simpa using h1
    by_cases h2 : b = d
    · have hd2 : (b != d) = false := by simpa using h2
      by_cases h3 : x.length = y.length
      · have hd3 : ((x.length : Int) != (y.length : Int)) = false := by rw [bne_eq_false_iff_eq]; omega
        have HS := Lib.hid (show smB a b c d x y = decide (x = y) by unfold smB; simp [h1, h2])
        have H3 := Lib.hid h3
        clear h1 h2 h3
        go_enter Try.func32, Try.ntmps32
        go_wp2_with fail
        have q0 : ((w.alloc (.cells #[.int .i64 a, .int .i64 b, .slice A1 x.length c1] 46)).alloc (.cells #[.int .i64 c, .int .i64 d, .slice A2 y.length c2] 46)).cell? ⟨w.heap.size, 2, none⟩ = some (.slice A1 x.length c1) := by simp [go_sem]
        have q1 : ((w.alloc (.cells #[.int .i64 a, .int .i64 b, .slice A1 x.length c1] 46)).alloc (.cells #[.int .i64 c, .int .i64 d, .slice A2 y.length c2] 46)).cell? ⟨w.heap.size + 1, 2, none⟩ = some (.slice A2 y.length c2) := by simp [go_sem]
        obtain ⟨wx, ewx⟩ : ∃ wx : World, wx = (w.alloc (.cells #[.int .i64 a, .int .i64 b, .slice A1 x.length c1] 46)).alloc (.cells #[.int .i64 c, .int .i64 d, .slice A2 y.length c2] 46) := ⟨_, rfl⟩
        have hzx : w.heap.size + 2 = wx.heap.size := by rw [ewx]; simp
        rw [← ewx] at hbb q0 q1 ⊢
        clear ewx
        go_loopw [30] (fun i wr => ∃ k n : Nat, k ≤ x.length ∧ i = .int .i64 k ∧ neAt x y k ∧ wr = wx.drewN n) (fun i _ => x.length - (intOf i).toNat)
        case atStart => exact ⟨0, 0, Nat.zero_le _, rfl, fun j h => absurd h (by omega), rfl⟩
        case round =>
          obtain ⟨k, n, hk, rfl, hne, rfl⟩ := hrel
          have HN := Lib.hid hne
          clear hne
          by_cases hlt : k < x.length
          · have hlt2 : k < y.length := by have := H3.out; omega
            obtain ⟨bx, ox, rfl, hbx, hcx⟩ := HA1.out (by omega)
            obtain ⟨by_, oy, rfl, hby, hcy⟩ := HA2.out (by omega)
            have cx := (hbb.cell (p := ⟨bx, ox + k, none⟩) hbx).trans (hcx k hlt)
            have cy := (hbb.cell (p := ⟨by_, oy + k, none⟩) hby).trans (hcy k hlt2)
            have z1 : (0 : Int) ≤ (k : Int) := by omega
            have z2 : (k : Int) < (x.length : Int) := by omega
            have z3 : (k : Int) < (y.length : Int) := by omega
            clear hcx hcy
            by_cases he : x[k] = y[k]
            · have hd4 : (x[k] != y[k]) = false := by simpa using he
              have HN2 : Hid (neAt x y (k + 1)) := fun j h1 h2 h3 => by
                by_cases e : j = k
                · subst e; exact he
                · exact HN.out j (by omega) h2 h3
              clear he
              go_wp2_with fail
              go_quiet (fail)
              go_wp2_with fail
              go_goals
              go_roundw
              case rel => exact ⟨k + 1, n + nq, by omega, by go_num, HN2.out, rfl⟩
              case measure => simp [intOf]; omega
            · have hd4 : (x[k] != y[k]) = true := by simpa using he
              have HF := Lib.hid (show smB a b c d x y = false by rw [HS.out]; exact decide_eq_false (fun e => he (by subst e; rfl)))
              clear he
              go_wp2_with fail
              go_quiet (fail)
              go_wp2_with fail
              go_ret
              exact ⟨ret_bool HF.out.symm, Below.drewN (Below.drewN hbb _) _⟩
          · have HF := Lib.hid (show smB a b c d x y = true by
              rw [HS.out]
              exact decide_eq_true (List.ext_getElem H3.out fun j h1 h2 => HN.out j (by omega) h1 h2))
            go_wp2_with fail
            go_ret
            exact ⟨ret_bool HF.out.symm, Below.drewN hbb _⟩
      · have hd3 : ((x.length : Int) != (y.length : Int)) = true := by rw [bne_iff_ne]; omega
        have HF := Lib.hid (show smB a b c d x y = false from decide_eq_false (fun e => h3 (by rw [e.2.2])))
        clear h1 h2 h3
        go_enter Try.func32, Try.ntmps32
        go_wp2_with fail
        go_ret
        exact ⟨ret_bool HF.out.symm, hbb⟩
    · have hd2 : (b != d) = true := by simpa using h2
      have HF := Lib.hid (show smB a b c d x y = false from decide_eq_false (fun e => h2 e.2.1))
      clear h1 h2
      go_enter Try.func32, Try.ntmps32
      go_wp2_with fail
      go_ret
      exact ⟨ret_bool HF.out.symm, hbb⟩
  · have hd1 : (a != c) = true := by simpa using h1
    have HF := Lib.hid (show smB a b c d x y = false from decide_eq_false (fun e => h1 e.1))
    clear h1
    go_enter Try.func32, Try.ntmps32
    go_wp2_with fail
    go_ret
    exact ⟨ret_bool HF.out.symm, hbb⟩
end Go.Proofs.Ytmglcjdigpgjlaa
