/- Joined: Sm. -/
import Derived.Test.YtbgabipngdillaaJ14
import Derived.Test.YtbgabipngdillaaJ06
import Derived.Test.YtbgabipngdillaaJ05
import Derived.Test.YtbgabipngdillaaJ04
import Derived.Test.YtbgabipngdillaaJ03
import Derived.Test.YtbgabipngdillaaJ01
namespace Go.Proofs.Ytbgabipngdillaa
open Go.RowKit

def nA4 (x y : List Int) (k : Nat) : Prop := ∀ j (_ : j < k) (hx : j < x.length) (hy : j < y.length), x[j] = y[j]
theorem nA4_step {x y : List Int} {k : Nat} (h : nA4 x y k) (hx : k < x.length) (hy : k < y.length) (e : x[k] = y[k]) : nA4 x y (k + 1) := fun j h1 h2 h3 => by
  by_cases ej : j = k
  · subst ej; exact e
  · exact h j (by omega) h2 h3
theorem nA4_eq {x y : List Int} (hl : x.length = y.length) (h : nA4 x y x.length) : x = y := List.ext_getElem hl fun j h1 h2 => h j h1 h1 h2

set_option maxHeartbeats 1000000 in
theorem same4_any (x y : List Int) (vx vy : Value) (w : World) (hx : SI w vx x) (hy : SI w vy y) :
    Calls Try.prog 15 #[vx, vy] w fun e w' => e = .returned (.bool (decide (x = y))) ∧ Below w.heap.size w w' := by
  obtain ⟨A1, c1, rfl, hc1, hm1, hr1, ha1⟩ := hx
  obtain ⟨A2, c2, rfl, hc2, hm2, hr2, ha2⟩ := hy
  have HA1 := Lib.hid ha1
  have HA2 := Lib.hid ha2
  clear ha1 ha2 hr1 hr2
  by_cases h3 : x.length = y.length
  · have hd3 : ((x.length : Int) != (y.length : Int)) = false := by rw [bne_eq_false_iff_eq]; omega
    have H3 := Lib.hid h3
    clear h3
    go_enter Try.func15, Try.ntmps15
    go_wp2_with fail
    go_loopw [13] (fun i wr => ∃ k n : Nat, k ≤ x.length ∧ i = .int .i64 k ∧ nA4 x y k ∧ wr = w.drewN n) (fun i _ => x.length - (intOf i).toNat)
    case atStart => exact ⟨0, 0, Nat.zero_le _, rfl, fun j h => absurd h (by omega), rfl⟩
    case round =>
      obtain ⟨k, n, hk, rfl, hne, rfl⟩ := hrel
      have HN := Lib.hid hne
      clear hne
      by_cases hlt : k < x.length
      · have hlt2 : k < y.length := by have := H3.out; omega
        obtain ⟨bx, ox, rfl, hbx, hcx⟩ := HA1.out (by omega)
        obtain ⟨by_, oy, rfl, hby, hcy⟩ := HA2.out (by omega)
        have cx := hcx k hlt
        have cy := hcy k hlt2
        have z1 : (0 : Int) ≤ (k : Int) := by omega
        have z2 : (k : Int) < (x.length : Int) := by omega
        have z3 : (k : Int) < (y.length : Int) := by omega
        clear hcx hcy
        by_cases he : x[k] = y[k]
        · have hd4 : (x[k] != y[k]) = false := by simpa using he
          have HN2 : Hid (nA4 x y (k + 1)) := nA4_step HN.out hlt hlt2 he
          clear he
          go_wp2_with fail
          go_quiet (fail)
          go_wp2_with fail
          go_goals
          go_roundw
          case rel => exact ⟨k + 1, n + nq, by omega, by go_num, HN2.out, rfl⟩
          case measure => simp [intOf]; omega
        · have hd4 : (x[k] != y[k]) = true := by simpa using he
          have HF : Hid (decide (x = y) = false) := decide_eq_false (fun e => he (by subst e; rfl))
          clear he
          go_wp2_with fail
          go_quiet (fail)
          go_wp2_with fail
          go_ret
          exact ⟨ret_bool HF.out.symm, Below.drewN (Below.drewN (Below.refl _ w) _) _⟩
      · have HF : Hid (decide (x = y) = true) := by
          have hkx : k = x.length := by omega
          subst hkx
          exact decide_eq_true (nA4_eq H3.out HN.out)
        go_wp2_with fail
        go_ret
        exact ⟨ret_bool HF.out.symm, Below.drewN (Below.refl _ w) _⟩
  · have hd3 : ((x.length : Int) != (y.length : Int)) = true := by rw [bne_iff_ne]; omega
    have HF : Hid (decide (x = y) = false) := decide_eq_false (fun e => h3 (by rw [e]))
    clear h3
    go_enter Try.func15, Try.ntmps15
    go_wp2_with fail
    go_ret
    exact ⟨ret_bool HF.out.symm, Below.refl _ _⟩

def nA5 (x y : List (List Int)) (k : Nat) : Prop := ∀ j (_ : j < k) (hx : j < x.length) (hy : j < y.length), x[j] = y[j]
theorem nA5_step {x y : List (List Int)} {k : Nat} (h : nA5 x y k) (hx : k < x.length) (hy : k < y.length) (e : x[k] = y[k]) : nA5 x y (k + 1) := fun j h1 h2 h3 => by
  by_cases ej : j = k
  · subst ej; exact e
  · exact h j (by omega) h2 h3
theorem nA5_eq {x y : List (List Int)} (hl : x.length = y.length) (h : nA5 x y x.length) : x = y := List.ext_getElem hl fun j h1 h2 => h j h1 h1 h2
set_option maxRecDepth 100000 in
set_option maxHeartbeats 1000000 in
theorem sameRows_any (x y : List (List Int)) (vx vy : Value) (w : World) (hx : SL w vx x) (hy : SL w vy y) :
    Calls Try.prog 19 #[vx, vy] w fun e w' => e = .returned (.bool (decide (x = y))) ∧ Below w.heap.size w w' := by
  obtain ⟨A1, c1, rfl, hc1, hm1, ha1⟩ := hx
  obtain ⟨A2, c2, rfl, hc2, hm2, ha2⟩ := hy
  have HA1 := Lib.hid ha1
  have HA2 := Lib.hid ha2
  clear ha1 ha2
  by_cases h3 : x.length = y.length
  · have hd3 : ((x.length : Int) != (y.length : Int)) = false := by rw [bne_eq_false_iff_eq]; omega
    have H3 := Lib.hid h3
    clear h3
    go_enter Try.func19, Try.ntmps19
    go_wp2_with fail
    go_loopw [13] (fun i wr => ∃ k : Nat, k ≤ x.length ∧ i = .int .i64 k ∧ nA5 x y k ∧ Below w.heap.size w wr) (fun i _ => x.length - (intOf i).toNat)
    case atStart => exact ⟨0, Nat.zero_le _, rfl, fun j h => absurd h (by omega), Below.refl _ _⟩
    case round =>
      obtain ⟨k, hk, rfl, hne, hbr⟩ := hrel
      have HN := Lib.hid hne
      have HB := Lib.hid hbr
      clear hne hbr
      by_cases hlt : k < x.length
      · have hlt2 : k < y.length := by have := H3.out; omega
        obtain ⟨bx, ox, rfl, hbx, hcx⟩ := HA1.out (by omega)
        obtain ⟨by_, oy, rfl, hby, hcy⟩ := HA2.out (by omega)
        obtain ⟨Bx, dx, cx, sx⟩ := hcx k hlt
        obtain ⟨By, dy, cy, sy⟩ := hcy k hlt2
        have cx := (HB.out.cell (p := ⟨bx, ox + k, none⟩) hbx).trans cx
        have cy := (HB.out.cell (p := ⟨by_, oy + k, none⟩) hby).trans cy
        have HSX := Lib.hid (sx.below HB.out)
        have HSY := Lib.hid (sy.below HB.out)
        have hbx2 : bx < wr.heap.size := by have := HB.out.size; omega
        have hby2 : by_ < wr.heap.size := by have := HB.out.size; omega
        have z1 : (0 : Int) ≤ (k : Int) := by omega
        have z2 : (k : Int) < (x.length : Int) := by omega
        have z3 : (k : Int) < (y.length : Int) := by omega
        obtain ⟨xr, exr⟩ : ∃ xr, xr = x[k] := ⟨_, rfl⟩
        obtain ⟨yr, eyr⟩ : ∃ yr, yr = y[k] := ⟨_, rfl⟩
        rw [← exr] at cx HSX
        rw [← eyr] at cy HSY
        have HX := Lib.hid exr
        have HY := Lib.hid eyr
        clear hcx hcy sx sy exr eyr
        by_cases he : xr = yr
        · have hd4 : decide (xr = yr) = true := decide_eq_true he
          have HN2 : Hid (nA5 x y (k + 1)) := nA5_step HN.out hlt hlt2 (by rw [← HX.out, ← HY.out]; exact he)
          have HDD := Lib.hid hd4
          clear he hd4
          go_wp2_with fail
          go_region_held3 (fun w' => w'.cell? ⟨bx, ox + k, none⟩ = some (.slice Bx xr.length dx) ∧ w'.cell? ⟨by_, oy + k, none⟩ = some (.slice By yr.length dy)) (first | exact ⟨cx, cy⟩ | exact ⟨t0, t1⟩ | go_keep)
            (first | (go_at_call 15; refine (same4_any xr yr _ _ _ (by exact HSX.out) (by exact HSY.out)).mono ?_; rintro e w2 ⟨rfl, hb2⟩; rw [HDD.out]; have HB2 : Hid (Below wr.heap.size wr w2) := (show Hid _ from ⟨hb2.os, hb2.tape, hb2.output, hb2.size, hb2.block⟩); have t0 := (HB2.out.cell (p := ⟨bx, ox + k, none⟩) (by exact hbx2)).trans cx; have t1 := (HB2.out.cell (p := ⟨by_, oy + k, none⟩) (by exact hby2)).trans cy; clear hb2))
          all_goals
            go_wp2_with fail
            go_goals
            go_roundw
            case rel => exact ⟨k + 1, by omega, by go_num, HN2.out, by first | exact HB.out.trans (HB2.out.mono HB.out.size) | exact (HB.out.trans (HB2.out.mono HB.out.size)).drewN _⟩
            case measure => simp [intOf]; omega
        · have hd4 : decide (xr = yr) = false := decide_eq_false he
          have HF : Hid (decide (x = y) = false) := decide_eq_false (fun e => he (by rw [HX.out, HY.out]; subst e; rfl))
          have HDD := Lib.hid hd4
          clear he hd4
          go_wp2_with fail
          go_region_held3 (fun w' => w'.cell? ⟨bx, ox + k, none⟩ = some (.slice Bx xr.length dx) ∧ w'.cell? ⟨by_, oy + k, none⟩ = some (.slice By yr.length dy)) (first | exact ⟨cx, cy⟩ | exact ⟨t0, t1⟩ | go_keep)
            (first | (go_at_call 15; refine (same4_any xr yr _ _ _ (by exact HSX.out) (by exact HSY.out)).mono ?_; rintro e w2 ⟨rfl, hb2⟩; rw [HDD.out]; have HB2 : Hid (Below wr.heap.size wr w2) := (show Hid _ from ⟨hb2.os, hb2.tape, hb2.output, hb2.size, hb2.block⟩); have t0 := (HB2.out.cell (p := ⟨bx, ox + k, none⟩) (by exact hbx2)).trans cx; have t1 := (HB2.out.cell (p := ⟨by_, oy + k, none⟩) (by exact hby2)).trans cy; clear hb2))
          all_goals
            go_wp2_with fail
            go_ret
            first
              | exact ⟨ret_bool HF.out.symm, HB.out.trans (HB2.out.mono HB.out.size)⟩
              | exact ⟨ret_bool HF.out.symm, (HB.out.trans (HB2.out.mono HB.out.size)).drewN _⟩
      · have HF : Hid (decide (x = y) = true) := by
          have hkx : k = x.length := by omega
          subst hkx
          exact decide_eq_true (nA5_eq H3.out HN.out)
        go_wp2_with fail
        go_ret
        exact ⟨ret_bool HF.out.symm, HB.out⟩
  · have hd3 : ((x.length : Int) != (y.length : Int)) = true := by rw [bne_iff_ne]; omega
    have HF : Hid (decide (x = y) = false) := decide_eq_false (fun e => h3 (by rw [e]))
    clear h3
    go_enter Try.func19, Try.ntmps19
    go_wp2_with fail
    go_ret
    exact ⟨ret_bool HF.out.symm, Below.refl _ _⟩
end Go.Proofs.Ytbgabipngdillaa
