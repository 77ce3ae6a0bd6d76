/- Joined: Sm Sa7 Se Make Bg Sd Ts Row Ew. -/
import Derived.OpenShut
import Derived.Test.YtbgabipngdillaaGreatDoorRows
import Derived.ProofKit
import Derived.LaidMore
import Derived.LaidLaws
import Derived.ChangeSame
import Derived.ChangeMade
import Derived.Stop.Joined
import Derived.Test.YtbgabipngdillaaGreatDoorZ03
import Derived.Test.YtbgabipngdillaaGreatDoorZ05
import Derived.Test.YtbgabipngdillaaGreatDoorZ13
import Derived.Test.YtbgabipngdillaaGreatDoorZ14
import Derived.Test.YtbgabipngdillaaGreatDoorZ01
import Derived.Test.YtbgabipngdillaaGreatDoorZ04
import Derived.Test.YtbgabipngdillaaGreatDoorZ10
namespace Go.Proofs.YtbgabipngdillaaGreatDoor
open Go.RowKit

def nA4 (x y : List Int) (k : Nat) : Prop := ∀ j (_ : j < k) (hx : j < x.length) (hy : j < y.length), x[j] = y[j]
theorem nA4_step {x y : List Int} {k : Nat} (h : nA4 x y k) (hx : k < x.length) (hy : k < y.length) (e : x[k] = y[k]) : nA4 x y (k + 1) := fun j h1 h2 h3 => by
  by_cases ej : j = k
  · subst ej; exact e
  · exact h j (by omega) h2 h3
theorem nA4_eq {x y : List Int} (hl : x.length = y.length) (h : nA4 x y x.length) : x = y := List.ext_getElem hl fun j h1 h2 => h j h1 h1 h2

set_option maxHeartbeats 1000000 in
theorem same4_any (x y : List Int) (vx vy : Value) (w : World) (hx : SI w vx x) (hy : SI w vy y) :
    Calls Tryz.prog 32 #[vx, vy] w fun e w' => e = .returned (.bool (decide (x = y))) ∧ Below w.heap.size w w' := by
  obtain ⟨A1, c1, rfl, hc1, hm1, hr1, ha1⟩ := hx
  obtain ⟨A2, c2, rfl, hc2, hm2, hr2, ha2⟩ := hy
  have HA1 := Lib.hid ha1
  have HA2 := Lib.hid ha2
  clear ha1 ha2 hr1 hr2
  by_cases h3 : x.length = y.length
  · have hd3 : ((x.length : Int) != (y.length : Int)) = false := by rw [bne_eq_false_iff_eq]; omega
    have H3 := Lib.hid h3
    clear h3
    go_enter Tryz.func32, Tryz.ntmps32
    go_wp2_with fail
    go_loopw [13] (fun i wr => ∃ k n : Nat, k ≤ x.length ∧ i = .int .i64 k ∧ nA4 x y k ∧ wr = w.drewN n) (fun i _ => x.length - (intOf i).toNat)
    case atStart => exact ⟨0, 0, Nat.zero_le _, rfl, fun j h => absurd h (by omega), rfl⟩
    case round =>
      obtain ⟨k, n, hk, rfl, hne, rfl⟩ := hrel
      have HN := Lib.hid hne
      clear hne
      by_cases hlt : k < x.length
      · have hlt2 : k < y.length := by have := H3.out; omega
        obtain ⟨bx, ox, rfl, hbx, hcx⟩ := HA1.out (by omega)
        obtain ⟨by_, oy, rfl, hby, hcy⟩ := HA2.out (by omega)
        have cx := hcx k hlt
        have cy := hcy k hlt2
        have z1 : (0 : Int) ≤ (k : Int) := by omega
        have z2 : (k : Int) < (x.length : Int) := by omega
        have z3 : (k : Int) < (y.length : Int) := by omega
        clear hcx hcy
        by_cases he : x[k] = y[k]
        · have hd4 : (x[k] != y[k]) = false := by simpa using he
          have HN2 : Hid (nA4 x y (k + 1)) := nA4_step HN.out hlt hlt2 he
          clear he
          go_wp2_with fail
          go_quiet (fail)
          go_wp2_with fail
          go_goals
          go_roundw
          case rel => exact ⟨k + 1, n + nq, by omega, by go_num, HN2.out, rfl⟩
          case measure => simp [intOf]; omega
        · have hd4 : (x[k] != y[k]) = true := by simpa using he
          have HF : Hid (decide (x = y) = false) := decide_eq_false (fun e => he (by subst e; rfl))
          clear he
          go_wp2_with fail
          go_quiet (fail)
          go_wp2_with fail
          go_ret
          exact ⟨ret_bool HF.out.symm, Below.drewN (Below.drewN (Below.refl _ w) _) _⟩
      · have HF : Hid (decide (x = y) = true) := by
          have hkx : k = x.length := by omega
          subst hkx
          exact decide_eq_true (nA4_eq H3.out HN.out)
        go_wp2_with fail
        go_ret
        exact ⟨ret_bool HF.out.symm, Below.drewN (Below.refl _ w) _⟩
  · have hd3 : ((x.length : Int) != (y.length : Int)) = true := by rw [bne_iff_ne]; omega
    have HF : Hid (decide (x = y) = false) := decide_eq_false (fun e => h3 (by rw [e]))
    clear h3
    go_enter Tryz.func32, Tryz.ntmps32
    go_wp2_with fail
    go_ret
    exact ⟨ret_bool HF.out.symm, Below.refl _ _⟩

def nA5 (x y : List (List Int)) (k : Nat) : Prop := ∀ j (_ : j < k) (hx : j < x.length) (hy : j < y.length), x[j] = y[j]
theorem nA5_step {x y : List (List Int)} {k : Nat} (h : nA5 x y k) (hx : k < x.length) (hy : k < y.length) (e : x[k] = y[k]) : nA5 x y (k + 1) := fun j h1 h2 h3 => by
  by_cases ej : j = k
  · subst ej; exact e
  · exact h j (by omega) h2 h3
theorem nA5_eq {x y : List (List Int)} (hl : x.length = y.length) (h : nA5 x y x.length) : x = y := List.ext_getElem hl fun j h1 h2 => h j h1 h1 h2
set_option maxRecDepth 100000 in
set_option maxHeartbeats 1000000 in
theorem sameRows_any (x y : List (List Int)) (vx vy : Value) (w : World) (hx : SL w vx x) (hy : SL w vy y) :
    Calls Tryz.prog 33 #[vx, vy] w fun e w' => e = .returned (.bool (decide (x = y))) ∧ Below w.heap.size w w' := by
  obtain ⟨A1, c1, rfl, hc1, hm1, ha1⟩ := hx
  obtain ⟨A2, c2, rfl, hc2, hm2, ha2⟩ := hy
  have HA1 := Lib.hid ha1
  have HA2 := Lib.hid ha2
  clear ha1 ha2
  by_cases h3 : x.length = y.length
  · have hd3 : ((x.length : Int) != (y.length : Int)) = false := by rw [bne_eq_false_iff_eq]; omega
    have H3 := Lib.hid h3
    clear h3
    go_enter Tryz.func33, Tryz.ntmps33
    go_wp2_with fail
    go_loopw [13] (fun i wr => ∃ k : Nat, k ≤ x.length ∧ i = .int .i64 k ∧ nA5 x y k ∧ Below w.heap.size w wr) (fun i _ => x.length - (intOf i).toNat)
    case atStart => exact ⟨0, Nat.zero_le _, rfl, fun j h => absurd h (by omega), Below.refl _ _⟩
    case round =>
      obtain ⟨k, hk, rfl, hne, hbr⟩ := hrel
      have HN := Lib.hid hne
      have HB := Lib.hid hbr
      clear hne hbr
      by_cases hlt : k < x.length
      · have hlt2 : k < y.length := by have := H3.out; omega
        obtain ⟨bx, ox, rfl, hbx, hcx⟩ := HA1.out (by omega)
        obtain ⟨by_, oy, rfl, hby, hcy⟩ := HA2.out (by omega)
        obtain ⟨Bx, dx, cx, sx⟩ := hcx k hlt
        obtain ⟨By, dy, cy, sy⟩ := hcy k hlt2
        have cx := (HB.out.cell (p := ⟨bx, ox + k, none⟩) hbx).trans cx
        have cy := (HB.out.cell (p := ⟨by_, oy + k, none⟩) hby).trans cy
        have HSX := Lib.hid (sx.below HB.out)
        have HSY := Lib.hid (sy.below HB.out)
        have hbx2 : bx < wr.heap.size := by have := HB.out.size; omega
        have hby2 : by_ < wr.heap.size := by have := HB.out.size; omega
        have z1 : (0 : Int) ≤ (k : Int) := by omega
        have z2 : (k : Int) < (x.length : Int) := by omega
        have z3 : (k : Int) < (y.length : Int) := by omega
        obtain ⟨xr, exr⟩ : ∃ xr, xr = x[k] := ⟨_, rfl⟩
        obtain ⟨yr, eyr⟩ : ∃ yr, yr = y[k] := ⟨_, rfl⟩
        rw [← exr] at cx HSX
        rw [← eyr] at cy HSY
        have HX := Lib.hid exr
        have HY := Lib.hid eyr
        clear hcx hcy sx sy exr eyr
        by_cases he : xr = yr
        · have hd4 : decide (xr = yr) = true := decide_eq_true he
          have HN2 : Hid (nA5 x y (k + 1)) := nA5_step HN.out hlt hlt2 (by rw [← HX.out, ← HY.out]; exact he)
          have HDD := Lib.hid hd4
          clear he hd4
          go_wp2_with fail
          go_region_held3 (fun w' => w'.cell? ⟨bx, ox + k, none⟩ = some (.slice Bx xr.length dx) ∧ w'.cell? ⟨by_, oy + k, none⟩ = some (.slice By yr.length dy)) (first | exact ⟨cx, cy⟩ | exact ⟨t0, t1⟩ | go_keep)
            (first | (go_at_call 32; refine (same4_any xr yr _ _ _ (by exact HSX.out) (by exact HSY.out)).mono ?_; rintro e w2 ⟨rfl, hb2⟩; rw [HDD.out]; have HB2 : Hid (Below wr.heap.size wr w2) := (show Hid _ from ⟨hb2.os, hb2.tape, hb2.output, hb2.size, hb2.block⟩); have t0 := (HB2.out.cell (p := ⟨bx, ox + k, none⟩) (by exact hbx2)).trans cx; have t1 := (HB2.out.cell (p := ⟨by_, oy + k, none⟩) (by exact hby2)).trans cy; clear hb2))
          all_goals
            go_wp2_with fail
            go_goals
            go_roundw
            case rel => exact ⟨k + 1, by omega, by go_num, HN2.out, by first | exact HB.out.trans (HB2.out.mono HB.out.size) | exact (HB.out.trans (HB2.out.mono HB.out.size)).drewN _⟩
            case measure => simp [intOf]; omega
        · have hd4 : decide (xr = yr) = false := decide_eq_false he
          have HF : Hid (decide (x = y) = false) := decide_eq_false (fun e => he (by rw [HX.out, HY.out]; subst e; rfl))
          have HDD := Lib.hid hd4
          clear he hd4
          go_wp2_with fail
          go_region_held3 (fun w' => w'.cell? ⟨bx, ox + k, none⟩ = some (.slice Bx xr.length dx) ∧ w'.cell? ⟨by_, oy + k, none⟩ = some (.slice By yr.length dy)) (first | exact ⟨cx, cy⟩ | exact ⟨t0, t1⟩ | go_keep)
            (first | (go_at_call 32; refine (same4_any xr yr _ _ _ (by exact HSX.out) (by exact HSY.out)).mono ?_; rintro e w2 ⟨rfl, hb2⟩; rw [HDD.out]; have HB2 : Hid (Below wr.heap.size wr w2) := (show Hid _ from ⟨hb2.os, hb2.tape, hb2.output, hb2.size, hb2.block⟩); have t0 := (HB2.out.cell (p := ⟨bx, ox + k, none⟩) (by exact hbx2)).trans cx; have t1 := (HB2.out.cell (p := ⟨by_, oy + k, none⟩) (by exact hby2)).trans cy; clear hb2))
          all_goals
            go_wp2_with fail
            go_ret
            first
              | exact ⟨ret_bool HF.out.symm, HB.out.trans (HB2.out.mono HB.out.size)⟩
              | exact ⟨ret_bool HF.out.symm, (HB.out.trans (HB2.out.mono HB.out.size)).drewN _⟩
      · have HF : Hid (decide (x = y) = true) := by
          have hkx : k = x.length := by omega
          subst hkx
          exact decide_eq_true (nA5_eq H3.out HN.out)
        go_wp2_with fail
        go_ret
        exact ⟨ret_bool HF.out.symm, HB.out⟩
  · have hd3 : ((x.length : Int) != (y.length : Int)) = true := by rw [bne_iff_ne]; omega
    have HF : Hid (decide (x = y) = false) := decide_eq_false (fun e => h3 (by rw [e]))
    clear h3
    go_enter Tryz.func33, Tryz.ntmps33
    go_wp2_with fail
    go_ret
    exact ⟨ret_bool HF.out.symm, Below.refl _ _⟩
end Go.Proofs.YtbgabipngdillaaGreatDoor

namespace Go.Proofs.YtbgabipngdillaaGreatDoor
open Go.RowKit

theorem sane_cells : colC (ans [[3], [5], [0], [2]]) 0 = [(3, true), (5, true), (0, true), (2, true)] := by decide
theorem sane_unr : UnR 7 (colC (ans [[3], [5], [0], [2]]) 0) 2 [1, 2] 0 := by
  rw [sane_cells]
  refine .inr ⟨by kernel_rfl, .inl ⟨rfl, by decide, by kernel_rfl, by kernel_rfl, ?_⟩⟩
  have : (wrk 7 (kn [(3, true), (5, true), (0, true), (2, true)]) [1, 2]).length = 0 := by kernel_rfl
  rw [this]; exact Nat.zero_le _
theorem sane_wan {at_ : Nat} {ok : Bool} {er : Int} (h : WaR 7 4 1 [[3], [5], [0], [2]] at_ ok er) : at_ = 0 ∧ ok = true ∧ er = 0 := by
  have c0 : cuE 7 4 1 = 0 := by kernel_rfl
  have c1 : wfB 4 [[3], [5], [0], [2]] = true := by kernel_rfl
  have c2 : ([[3], [5], [0], [2]] : List (List Int)).all (els 7) = true := by kernel_rfl
  rcases h with ⟨h, _⟩ | ⟨_, ⟨h, _⟩ | ⟨_, ⟨h, _⟩ | ⟨_, he, h⟩⟩⟩
  · exact absurd c0 h
  · rw [c1] at h; cases h
  · rw [c2] at h; cases h
  · rcases h with ⟨⟨i, hi, o, er', hu, hne⟩, _⟩ | ⟨ps, ws, ⟨hl, hu, _⟩, h1⟩
    · have hi0 : i = 0 := by
        have hi' : i < 1 := hi
        omega
      subst hi0
      exact absurd (UnR.uniq hu sane_unr).2 hne
    · have hl' : ps.length = 1 := hl
      match ps, hl' with
      | [p], _ =>
        have h2 := hu 0 (by simp)
        have h3 := (UnR.uniq h2 sane_unr).1
        have h4 : p = [1, 2] := h3
        subst h4
        have h5 : oneV ([[1, 2]].map fun p => gd p 0) = (0, true) := by kernel_rfl
        rw [h5] at h1
        injection h1 with h6 h7
        exact ⟨h6, h7, he⟩
theorem sane_quE : quE 7 4 1 1 0 [2] 0 = 0 := by kernel_rfl
theorem sane_rows : qRows 7 0 (([2] : List Int).take ((1 : Int) * 1).toNat) ((1 : Int)).toNat ((4 : Int)).toNat ((1 : Int)).toNat = [[3], [5], [0], [2]] := by kernel_rfl
theorem lit1 (W : World) (x : Int) (hx : i64r x) : SI (W.alloc (.cells #[.int .i64 x] 3)) (.slice (some ⟨W.heap.size, 0, none⟩) 1 1) [x] := by
  have h := own_lit (base := 0) W 3 [.int .i64 x] (Nat.zero_le _) (by simp [maxLen])
  exact SI.of_own (l := [x]) (by simpa using h) (by simpa using hx)
theorem lit4 (W : World) (a b c d : Int) (ha : i64r a) (hb : i64r b) (hc : i64r c) (hd : i64r d) :
    SL (((((W.alloc (.cells #[.int .i64 a] 3)).alloc (.cells #[.int .i64 b] 3)).alloc (.cells #[.int .i64 c] 3)).alloc (.cells #[.int .i64 d] 3)).alloc (.cells #[.slice (some ⟨W.heap.size, 0, none⟩) 1 1, .slice (some ⟨W.heap.size + 1, 0, none⟩) 1 1, .slice (some ⟨W.heap.size + 2, 0, none⟩) 1 1, .slice (some ⟨W.heap.size + 3, 0, none⟩) 1 1] 22)) (.slice (some ⟨W.heap.size + 4, 0, none⟩) 4 4) [[a], [b], [c], [d]] := by
  have al : ∀ (V : World) (o : Obj), Below V.heap.size V (V.alloc o) := fun V o => (Below.refl _ V).alloc (Nat.le_refl _) o
  have sz : ∀ (V : World) (o : Obj), (V.alloc o).heap.size = V.heap.size + 1 := fun V o => by simp
  obtain ⟨w1, e1⟩ : ∃ w1, w1 = W.alloc (.cells #[.int .i64 a] 3) := ⟨_, rfl⟩
  obtain ⟨w2, e2⟩ : ∃ w2, w2 = w1.alloc (.cells #[.int .i64 b] 3) := ⟨_, rfl⟩
  obtain ⟨w3, e3⟩ : ∃ w3, w3 = w2.alloc (.cells #[.int .i64 c] 3) := ⟨_, rfl⟩
  obtain ⟨w4, e4⟩ : ∃ w4, w4 = w3.alloc (.cells #[.int .i64 d] 3) := ⟨_, rfl⟩
  have s1 : w1.heap.size = W.heap.size + 1 := by rw [e1]; exact sz _ _
  have s2 : w2.heap.size = W.heap.size + 2 := by rw [e2, sz, s1]
  have s3 : w3.heap.size = W.heap.size + 3 := by rw [e3, sz, s2]
  have s4 : w4.heap.size = W.heap.size + 4 := by rw [e4, sz, s3]
  have t1 : SI w1 (.slice (some ⟨W.heap.size, 0, none⟩) 1 1) [a] := by rw [e1]; exact lit1 W a ha
  have t2 : SI w2 (.slice (some ⟨W.heap.size + 1, 0, none⟩) 1 1) [b] := by rw [e2, ← s1]; exact lit1 w1 b hb
  have t3 : SI w3 (.slice (some ⟨W.heap.size + 2, 0, none⟩) 1 1) [c] := by rw [e3, ← s2]; exact lit1 w2 c hc
  have t4 : SI w4 (.slice (some ⟨W.heap.size + 3, 0, none⟩) 1 1) [d] := by rw [e4, ← s3]; exact lit1 w3 d hd
  have b2 : Below w1.heap.size w1 w2 := by rw [e2]; exact al _ _
  have b3 : Below w2.heap.size w2 w3 := by rw [e3]; exact al _ _
  have b4 : Below w3.heap.size w3 w4 := by rw [e4]; exact al _ _
  rw [← e1, ← e2, ← e3, ← e4, ← s4]
  have b5 := al w4 (.cells #[.slice (some ⟨W.heap.size, 0, none⟩) 1 1, .slice (some ⟨W.heap.size + 1, 0, none⟩) 1 1, .slice (some ⟨W.heap.size + 2, 0, none⟩) 1 1, .slice (some ⟨W.heap.size + 3, 0, none⟩) 1 1] 22)
  have hc5 := heap_alloc_new w4 (.cells #[.slice (some ⟨W.heap.size, 0, none⟩) 1 1, .slice (some ⟨W.heap.size + 1, 0, none⟩) 1 1, .slice (some ⟨W.heap.size + 2, 0, none⟩) 1 1, .slice (some ⟨W.heap.size + 3, 0, none⟩) 1 1] 22)
  refine ⟨_, 4, rfl, Nat.le_refl _, by omega, fun _ => ⟨w4.heap.size, 0, rfl, by simp, fun j hj => ?_⟩⟩
  have hj4 : j < 4 := hj
  match j, hj4 with
  | 0, _ => exact ⟨_, 1, cell_of_row _ _ 0 _ _ _ hc5, (((t1.below b2).below b3).below b4).below b5⟩
  | 1, _ => exact ⟨_, 1, cell_of_row _ _ 1 _ _ _ hc5, ((t2.below b3).below b4).below b5⟩
  | 2, _ => exact ⟨_, 1, cell_of_row _ _ 2 _ _ _ hc5, (t3.below b4).below b5⟩
  | 3, _ => exact ⟨_, 1, cell_of_row _ _ 3 _ _ _ hc5, t4.below b5⟩
theorem i64_s {x : Int} (h : -9 ≤ x ∧ x ≤ 9) : i64r x := by unfold i64r; omega
theorem queries0_any (P n t m want : Int) (l : List Int) (v : Value) (w : World) (hP : i64r P) (hm : i64r m) (h : SI w v l) :
    Calls Tryz.prog 17 #[.agg #[.int .i64 P], .agg #[.int .i64 n, .int .i64 t], .int .i64 m, .int .i64 want, .agg #[v, .int .i64 0]] w fun e w' => ∃ vq v1 a1, e = .returned (.tuple #[vq, .agg #[v1, .int .i64 a1], .int .i64 (quE P n t m want l 0)]) ∧ Below w.heap.size w w' ∧
      (quE P n t m want l 0 = 0 → a1 = m * t ∧ SI w' v1 l ∧ SL w' vq (qRows P want (l.take (m * t).toNat) t.toNat n.toNat m.toNat)) :=
  (queries_any P n t m want l 0 v w hP hm h).mono fun _ _ ⟨vq, v1, a1, h1, h2, h3, _⟩ => ⟨vq, v1, a1, h1, h2, fun h0 => by
    obtain ⟨h4, h5, h6⟩ := h3 h0
    exact ⟨by simpa using h4, h5, h6⟩⟩
set_option maxRecDepth 100000 in
set_option maxHeartbeats 8000000 in
theorem sane_any (w : World) (hE : EW w) : Calls Tryz.prog 9 #[] w fun e w' => e = .returned (.bool true) ∧ Below w.heap.size w w' := by
  have HE := Lib.hid hE
  clear hE
  go_enter Tryz.func9, Tryz.ntmps9
  obtain ⟨F, eF⟩ : ∃ F, F = w.heap.size := ⟨_, rfl⟩
  obtain ⟨wa, ew⟩ : ∃ wa : World, wa = (w.alloc (.cells #[.int .i64 4, .int .i64 1] 29)).alloc (.cells #[.int .i64 7] 31) := ⟨_, rfl⟩
  have HWa : Hid ((w.alloc (.cells #[.int .i64 4, .int .i64 1] 29)).alloc (.cells #[.int .i64 7] 31) = wa) := ew.symm
  have HBa : Hid (Below w.heap.size w wa) := (show Hid _ from by rw [ew]; exact ((Below.refl _ w).alloc (Nat.le_refl _) _).alloc (by simp) _)
  have HPa : Hid (wa.heap[F]? = some (.cells #[.int .i64 4, .int .i64 1] 29 (0, 0))) := (show Hid _ from by show _ = _; rw [ew, eF, Below.heap_alloc _ _ _ (by simp)]; exact heap_alloc_new w _)
  have HFa : Hid (wa.heap[F + 1]? = some (.cells #[.int .i64 7] 31 (0, 0))) := (show Hid _ from by show _ = _; rw [ew, eF]; have := heap_alloc_new (w.alloc (.cells #[.int .i64 4, .int .i64 1] 29)) (.cells #[.int .i64 7] 31); simpa using this)
  have HEF := Lib.hid eF
  go_upto_region 3 with fail
  rw [HWa.out, ← eF]
  clear ew eF
  have p0 : wa.cell? ⟨F, 0, none⟩ = some (.int .i64 4) := cell_of_row wa F 0 _ _ _ HPa.out
  have p1 : wa.cell? ⟨F, 1, none⟩ = some (.int .i64 1) := cell_of_row wa F 1 _ _ _ HPa.out
  have f0 : wa.cell? ⟨F + 1, 0, none⟩ = some (.int .i64 7) := cell_of_row wa (F + 1) 0 _ _ _ HFa.out
  have HL : Hid (SI (wa.alloc (.cells #[.int .i64 2] 3)) (.slice (some ⟨wa.heap.size, 0, none⟩) 1 1) [2]) := lit1 wa 2 (i64_s (by omega))
  have HBl : Hid (Below wa.heap.size wa (wa.alloc (.cells #[.int .i64 2] 3))) := (Below.refl _ wa).alloc (Nat.le_refl _) _
  have HQU := Lib.hid (queries0_any 7 4 1 1 0 [2] (.slice (some ⟨wa.heap.size, 0, none⟩) 1 1) (wa.alloc (.cells #[.int .i64 2] 3)) (i64_s (by omega)) (i64_s (by omega)) HL.out)
  go_wp2_with fail
  (with_reducible refine HQU.out.mono ?_)
  rintro e w1 ⟨vq, v1, a1, rfl, hb1, hok⟩
  rw [sane_quE]
  obtain ⟨ha1, hs1, hq1⟩ := hok sane_quE
  clear ha1
  rw [sane_rows] at hq1
  obtain ⟨A1, c1, ev1⟩ := hs1.form'
  subst ev1
  have hq1' := hq1
  obtain ⟨Aq, cq, evq, _⟩ := hq1'
  subst evq
  have HB1 : Hid (Below wa.heap.size wa w1) := (show Hid _ from HBl.out.trans (hb1.mono (by simp)))
  have HQ1 := Lib.hid hq1
  clear hb1 hok hs1 hq1 p0 p1 f0 HQU
  obtain ⟨wb, ewb⟩ : ∃ wb : World, wb = w1.alloc (.cells #[.slice A1 1 c1, .int .i64 a1] 39) := ⟨_, rfl⟩
  have HWb : Hid (w1.alloc (.cells #[.slice A1 1 c1, .int .i64 a1] 39) = wb) := ewb.symm
  have HBb : Hid (Below w1.heap.size w1 wb) := (show Hid _ from by rw [ewb]; exact (Below.refl _ w1).alloc (Nat.le_refl _) _)
  have HBab : Hid (Below wa.heap.size wa wb) := (show Hid _ from HB1.out.trans (HBb.out.mono HB1.out.size))
  have HBw : Hid (Below w.heap.size w wb) := (show Hid _ from HBa.out.trans (HBab.out.mono HBa.out.size))
  have HPb : Hid (wb.heap[F]? = some (.cells #[.int .i64 4, .int .i64 1] 29 (0, 0))) := (show Hid _ from (HBab.out.block F (heap_of_cells HPa.out)).trans HPa.out)
  have HFb : Hid (wb.heap[F + 1]? = some (.cells #[.int .i64 7] 31 (0, 0))) := (show Hid _ from (HBab.out.block (F + 1) (heap_of_cells HFa.out)).trans HFa.out)
  have HQb : Hid (SL wb (.slice Aq 4 cq) [[3], [5], [0], [2]]) := (show Hid _ from HQ1.out.below HBb.out)
  have HWN := Lib.hid (wanted_any 7 4 1 [[3], [5], [0], [2]] (.slice Aq 4 cq) wb (i64_s (by omega)) HQb.out (HE.out.below HBw.out))
  clear ewb
  have p0 : wb.cell? ⟨F, 0, none⟩ = some (.int .i64 4) := cell_of_row wb F 0 _ _ _ HPb.out
  have p1 : wb.cell? ⟨F, 1, none⟩ = some (.int .i64 1) := cell_of_row wb F 1 _ _ _ HPb.out
  have f0 : wb.cell? ⟨F + 1, 0, none⟩ = some (.int .i64 7) := cell_of_row wb (F + 1) 0 _ _ _ HFb.out
  go_upto_region 4 with fail
  rw [HWb.out]
  go_wp2_with fail
  (with_reducible refine HWN.out.mono ?_)
  rintro e w2 ⟨at2, ok2, er2, rfl, hb2, hwr⟩
  obtain ⟨rfl, rfl, rfl⟩ := sane_wan hwr
  have HB2 := Lib.hid hb2
  have HB2w : Hid (Below w.heap.size w w2) := (show Hid _ from HBw.out.trans (hb2.mono HBw.out.size))
  have HP2 : Hid (w2.heap[F]? = some (.cells #[.int .i64 4, .int .i64 1] 29 (0, 0))) := (show Hid _ from (hb2.block F (heap_of_cells HPb.out)).trans HPb.out)
  have HQ2 : Hid (SL w2 (.slice Aq 4 cq) [[3], [5], [0], [2]]) := (show Hid _ from HQb.out.below hb2)
  clear hb2 hwr p0 p1 f0 HWN
  obtain ⟨wc, ewc⟩ : ∃ wc : World, wc = ((((w2.alloc (.cells #[.int .i64 3] 3)).alloc (.cells #[.int .i64 5] 3)).alloc (.cells #[.int .i64 0] 3)).alloc (.cells #[.int .i64 2] 3)).alloc (.cells #[.slice (some ⟨w2.heap.size, 0, none⟩) 1 1, .slice (some ⟨w2.heap.size + 1, 0, none⟩) 1 1, .slice (some ⟨w2.heap.size + 1 + 1, 0, none⟩) 1 1, .slice (some ⟨w2.heap.size + 1 + 1 + 1, 0, none⟩) 1 1] 22) := ⟨_, rfl⟩
  have HWc : Hid (((((w2.alloc (.cells #[.int .i64 3] 3)).alloc (.cells #[.int .i64 5] 3)).alloc (.cells #[.int .i64 0] 3)).alloc (.cells #[.int .i64 2] 3)).alloc (.cells #[.slice (some ⟨w2.heap.size, 0, none⟩) 1 1, .slice (some ⟨w2.heap.size + 1, 0, none⟩) 1 1, .slice (some ⟨w2.heap.size + 1 + 1, 0, none⟩) 1 1, .slice (some ⟨w2.heap.size + 1 + 1 + 1, 0, none⟩) 1 1] 22) = wc) := ewc.symm
  have HLc : Hid (SL wc (.slice (some ⟨w2.heap.size + 1 + 1 + 1 + 1, 0, none⟩) 4 4) [[3], [5], [0], [2]]) := (show Hid _ from by rw [ewc]; exact lit4 w2 3 5 0 2 (i64_s (by omega)) (i64_s (by omega)) (i64_s (by omega)) (i64_s (by omega)))
  have HBc : Hid (Below w2.heap.size w2 wc) := (show Hid _ from by rw [ewc]; exact (((((Below.refl _ w2).alloc (Nat.le_refl _) _).alloc (by simp) _).alloc (by simp; omega) _).alloc (by simp; omega) _).alloc (by simp; omega) _)
  have HPc : Hid (wc.heap[F]? = some (.cells #[.int .i64 4, .int .i64 1] 29 (0, 0))) := (show Hid _ from (HBc.out.block F (heap_of_cells HP2.out)).trans HP2.out)
  have HBcw : Hid (Below w.heap.size w wc) := (show Hid _ from HB2w.out.trans (HBc.out.mono HB2w.out.size))
  have HSR := Lib.hid ((sameRows_any [[3], [5], [0], [2]] [[3], [5], [0], [2]] (.slice Aq 4 cq) (.slice (some ⟨w2.heap.size + 1 + 1 + 1 + 1, 0, none⟩) 4 4) wc (HQ2.out.below HBc.out) HLc.out).mono (R' := fun e w' => e = .returned (.bool true) ∧ Below wc.heap.size wc w') fun e w' ⟨h1, h2⟩ => ⟨h1.trans (by rw [decide_eq_true rfl]), h2⟩)
  clear ewc
  go_upto_region 5 with fail
  have p0 : w2.cell? ⟨F, 0, none⟩ = some (.int .i64 4) := cell_of_row w2 F 0 _ _ _ HP2.out
  have p1 : w2.cell? ⟨F, 1, none⟩ = some (.int .i64 1) := cell_of_row w2 F 1 _ _ _ HP2.out
  go_wp2_with fail
  rw [HWc.out]
  (with_reducible refine HSR.out.mono ?_)
  rintro e w3 ⟨rfl, hb3⟩
  have HB3 : Hid (Below w.heap.size w w3) := (show Hid _ from HBcw.out.trans (hb3.mono HBcw.out.size))
  have HP3 : Hid (w3.heap[F]? = some (.cells #[.int .i64 4, .int .i64 1] 29 (0, 0))) := (show Hid _ from (hb3.block F (heap_of_cells HPc.out)).trans HPc.out)
  clear hb3 p0 p1 HSR
  have p0 : w3.cell? ⟨F, 0, none⟩ = some (.int .i64 4) := cell_of_row w3 F 0 _ _ _ HP3.out
  have p1 : w3.cell? ⟨F, 1, none⟩ = some (.int .i64 1) := cell_of_row w3 F 1 _ _ _ HP3.out
  go_wp2_with fail
  (with_reducible refine (bears_any 4 1 0 1 _).mono ?_)
  rintro e w4 ⟨rfl, hb4⟩
  have hbe : beB 4 1 0 1 = true := by decide
  rw [hbe]
  have HB4 : Hid (Below w.heap.size w w4) := (show Hid _ from HB3.out.trans (hb4.mono HB3.out.size))
  have HP4 : Hid (w4.heap[F]? = some (.cells #[.int .i64 4, .int .i64 1] 29 (0, 0))) := (show Hid _ from (hb4.block F (heap_of_cells HP3.out)).trans HP3.out)
  clear hb4 hbe p0 p1
  have p0 : w4.cell? ⟨F, 0, none⟩ = some (.int .i64 4) := cell_of_row w4 F 0 _ _ _ HP4.out
  have p1 : w4.cell? ⟨F, 1, none⟩ = some (.int .i64 1) := cell_of_row w4 F 1 _ _ _ HP4.out
  go_wp2_with fail
  (with_reducible refine (bears_any 4 1 2 0 _).mono ?_)
  rintro e w5 ⟨rfl, hb5⟩
  have hbe : beB 4 1 2 0 = true := by decide
  rw [hbe]
  have HB5 : Hid (Below w.heap.size w w5) := (show Hid _ from HB4.out.trans (hb5.mono HB4.out.size))
  have HP5 : Hid (w5.heap[F]? = some (.cells #[.int .i64 4, .int .i64 1] 29 (0, 0))) := (show Hid _ from (hb5.block F (heap_of_cells HP4.out)).trans HP4.out)
  clear hb5 hbe p0 p1
  have p0 : w5.cell? ⟨F, 0, none⟩ = some (.int .i64 4) := cell_of_row w5 F 0 _ _ _ HP5.out
  have p1 : w5.cell? ⟨F, 1, none⟩ = some (.int .i64 1) := cell_of_row w5 F 1 _ _ _ HP5.out
  go_wp2_with fail
  (with_reducible refine (bears_any 4 1 1 1 _).mono ?_)
  rintro e w6 ⟨rfl, hb6⟩
  have hbe : beB 4 1 1 1 = false := by decide
  rw [hbe]
  have HB6 : Hid (Below w.heap.size w w6) := (show Hid _ from HB5.out.trans (hb6.mono HB5.out.size))
  clear hb6 hbe p0 p1
  go_wp2_with fail
  go_ret
  exact ⟨rfl, HB6.out⟩
end Go.Proofs.YtbgabipngdillaaGreatDoor

namespace Go.Proofs.YtbgabipngdillaaGreatDoor
open Go.RowKit

/-- The value v is a slice of ints outside block g that reads as l. -/
def SE (g : Nat) (w : World) (v : Value) (l : List Int) : Prop :=
  ∃ A c, v = .slice A l.length c ∧ l.length ≤ c ∧ c ≤ 9223372036854775807 ∧ (∀ x ∈ l, i64r x) ∧
    (0 < l.length → ∃ b off, A = some ⟨b, off, none⟩ ∧ b < w.heap.size ∧ b ≠ g ∧ ∀ j (h : j < l.length), w.cell? ⟨b, off + j, none⟩ = some (.int .i64 l[j]))
theorem SE.grown {g : Nat} {w w' : World} {v : Value} {l : List Int} (h : SE g w v l) (hg : w.grownBy w' (some g)) : SE g w' v l := by
  obtain ⟨A, c, rfl, hc, hm, hr, ha⟩ := h
  refine ⟨A, c, rfl, hc, hm, hr, fun h0 => ?_⟩
  obtain ⟨b, off, rfl, hb, hbg, hcell⟩ := ha h0
  exact ⟨b, off, rfl, Nat.lt_of_lt_of_le hb hg.size, hbg, fun j hj => (World.cell?_of_block (hg.block b hb (by simpa using hbg))).trans (hcell j hj)⟩
theorem SE.below {g : Nat} {w w' : World} {v : Value} {l : List Int} (h : SE g w v l) (hb : Below w.heap.size w w') : SE g w' v l := h.grown (grownBy_of_below hb _)
theorem SE.si {g : Nat} {w : World} {v : Value} {l : List Int} (h : SE g w v l) : SI w v l := by
  obtain ⟨A, c, rfl, hc, hm, hr, ha⟩ := h
  refine ⟨A, c, rfl, hc, hm, hr, fun h0 => ?_⟩
  obtain ⟨b, off, rfl, hb, _, hcell⟩ := ha h0
  exact ⟨b, off, rfl, hb, hcell⟩
theorem SE.form {g : Nat} {w : World} {v : Value} {l : List Int} (h : SE g w v l) : ∃ A c, v = .slice A l.length c := by
  obtain ⟨A, c, rfl, _⟩ := h
  exact ⟨A, c, rfl⟩
theorem SE.of_own {g : Nat} {w : World} {base : Nat} {e : TypeId} {v : Value} {l : List Int} (h : w.ownsRow base e 1 v l.length (l.map (Value.int .i64))) (hr : ∀ x ∈ l, i64r x) (hg : g < base) : SE g w v l := by
  rcases h.2 with ⟨rfl, hn⟩ | ⟨b, cap, cur, rfl, hb, hgg, hnc, hcm, hcs, htake⟩
  · have : l = [] := List.eq_nil_of_length_eq_zero hn
    subst this
    exact ⟨none, 0, rfl, Nat.le_refl _, by omega, hr, fun h => by simp at h⟩
  · refine ⟨_, cap, rfl, hnc, by simpa [maxLen] using hcm, hr, fun h0 => ⟨b, 0, rfl, (Array.getElem?_eq_some_iff.1 hgg).1, by omega, fun j hj => ?_⟩⟩
    have := h.cellAt j (by omega)
    rw [Nat.zero_add, this]
    simp [hj]
theorem grownBy_lt {a w : World} {g : Nat} (h : Below a.heap.size a w) {w' : World} (hg : w.grownBy w' (some g)) (hag : a.heap.size ≤ g) : Below a.heap.size a w' := h.grown hg h.size (fun k hk => by injection hk with e; omega)

/-- block O holds a tape under construction: its numbers, owned behind O -/
def TAc (O : Nat) (v : Value) (ns : List Int) (w : World) : Prop := w.heap[O]? = some (.cells #[v, .int .i64 0] 39 (0, 0)) ∧ w.ownsRow (O + 1) 3 1 v ns.length (ns.map (Value.int .i64))
theorem TAc.lt {O : Nat} {v : Value} {ns : List Int} {w : World} (h : TAc O v ns w) : O < w.heap.size := heap_of_cells h.1
theorem TAc.step {O g9 cap9 : Nat} {v : Value} {ns : List Int} {y : Int} {w0 w w9 : World} (h : TAc O v ns w) (hB : Below O w0 w)
    (hg : (w.alloc (.cells #[.int .i64 y] 3)).grownBy w9 v.ownBlock) (ho : w9.ownsRow (O + 1) 3 1 (.slice (some ⟨g9, 0, none⟩) (ns ++ [y]).length cap9) (ns ++ [y]).length ((ns ++ [y]).map (Value.int .i64))) :
    TAc O (.slice (some ⟨g9, 0, none⟩) (ns.length + 1) cap9) (ns ++ [y]) (w9.setCell ⟨O, 0, none⟩ (.slice (some ⟨g9, 0, none⟩) (ns.length + 1) cap9)) ∧ Below O w0 (w9.setCell ⟨O, 0, none⟩ (.slice (some ⟨g9, 0, none⟩) (ns.length + 1) cap9)) := by
  have hlt := h.lt
  have hv : ∀ q, v.ownBlock = some q → O + 1 ≤ q := fun q hq => (h.2.lt q hq).1
  have hO : w9.heap[O]? = some (.cells #[v, .int .i64 0] 39 (0, 0)) := (hg.block O (by simp; omega) (fun e => by have := hv O e.symm; omega)).trans ((Below.heap_alloc w _ O hlt).trans h.1)
  have hl : (ns ++ [y]).length = ns.length + 1 := by simp
  rw [hl] at ho
  refine ⟨⟨?_, ?_⟩, ?_⟩
  · have := heap_setCell_same w9 O 0 _ _ (.slice (some ⟨g9, 0, none⟩) (ns.length + 1) cap9) hO
    simpa using this
  · rw [hl]
    exact own_set3 ho (by show O < O + 1; omega) _
  · exact (((hB.alloc (Nat.le_of_lt hlt) _)).grown hg (by simp; omega) (fun k hk => by have := hv k hk; omega)).setCell (Nat.le_refl _) _
theorem TAc.frozen {O : Nat} {v : Value} {ns : List Int} {w w9 : World} {y : Int} (h : TAc O v ns w) (hg : (w.alloc (.cells #[.int .i64 y] 3)).grownBy w9 v.ownBlock) : w9.frozen? ⟨O, 0, none⟩ = false := by
  have hv : ∀ q, v.ownBlock = some q → O + 1 ≤ q := fun q hq => (h.2.lt q hq).1
  exact frozen_of_row w9 O 0 _ _ ((hg.block O (by have := h.lt; simp; omega) (fun e => by have := hv O e.symm; omega)).trans ((Below.heap_alloc w _ O h.lt).trans h.1))
theorem TAc.ne {O : Nat} {v : Value} {ns : List Int} {w : World} (h : TAc O v ns w) : some O ≠ v.ownBlock := fun e => by have := (h.2.lt O e.symm).1; omega
end Go.Proofs.YtbgabipngdillaaGreatDoor

namespace Go.Proofs.YtbgabipngdillaaGreatDoor
open Go.RowKit

def Mod (n k : Int) : Int := n % k

theorem mod_any (n k : Int) (w : World) (hk : 0 < k) (hk2 : k ≤ 4611686018427387904) :
    Calls Tryz.prog 26 #[.int .i64 n, .int .i64 k] w fun e w' => e = .returned (.int .i64 (n % k)) ∧ w = w' := by
  have hb := tmod_bd n k hk
  have hne : (k == 0) = false := by simp; omega
  go_enter Tryz.func26, Tryz.ntmps26
  go_wp2
  go_ret
  refine ⟨ret_int ?_, rfl⟩
  have := tmod_fix n k hk
  rw [Int.tmod_eq_emod_of_nonneg (by omega)] at this
  exact this

theorem few_any (l : List Int) (v : Value) (w : World) (h : SI w v l) :
    Calls Tryz.prog 10 #[v] w fun e w' => e = .returned (.bool (decide (l.length ≤ 500))) ∧ w = w' := by
  obtain ⟨A, c, rfl, hc, hm, hr, ha⟩ := h
  go_enter Tryz.func10, Tryz.ntmps10
  go_wp2
  go_ret
  exact ⟨ret_bool (by simp; omega), rfl⟩

/-- Block g is a deck. -/
def Dk (w : World) (g : Nat) : Prop :=
  ∃ L lv, ∃ k : Nat, w.heap[g]? = some (.cells #[lv, .int .i64 k] 83 (0, 0)) ∧ k ≤ L.length ∧ SB g w lv L

theorem Dk.lt {w : World} {g : Nat} (h : Dk w g) : g < w.heap.size := by obtain ⟨L, lv, k, hg, _⟩ := h; exact heap_of_cells hg
theorem Dk.of {w w' : World} {g : Nat} (h : Dk w g) (hb : ∀ i, i ≤ g → w'.heap[i]? = w.heap[i]?) : Dk w' g := by
  obtain ⟨L, lv, k, hg, hk, hl⟩ := h
  exact ⟨L, lv, k, (hb g (Nat.le_refl _)).trans hg, hk, hl.keep fun p hp => World.cell?_of_block (hb p.block (by omega))⟩
theorem Dk.below {w w' : World} {g : Nat} (h : Dk w g) (hb : Below w.heap.size w w') : Dk w' g := h.of fun i hi => hb.block i (by have := h.lt; omega)
theorem Dk.grown {w w' : World} {g : Nat} {r : Option Nat} (h : Dk w g) (hb : w.grownBy w' r) (hr : ∀ k, r = some k → g < k) : Dk w' g :=
  h.of fun i hi => hb.block i (by have := h.lt; omega) (fun e => by have := hr i e.symm; omega)
theorem Dk.alloc {w : World} {g : Nat} (h : Dk w g) (o : Obj) : Dk (w.alloc o) g := h.below ((Below.refl _ _).alloc (Nat.le_refl _) o)

theorem new_any (l : List Int) (v : Value) (w : World) (h : SI w v l) :
    Calls Tryz.prog 11 #[v] w fun e w' => e = .returned (.pointer (some ⟨w.heap.size, 0, none⟩)) ∧ Dk w' w.heap.size ∧ Below w.heap.size w w' ∧ w'.heap.size = w.heap.size + 1 := by
  have h' := h
  obtain ⟨A, c, rfl, hc, hm, hr, ha⟩ := h
  go_enter Tryz.func11, Tryz.ntmps11
  go_wp2
  go_ret
  exact ⟨rfl, ⟨l, _, 0, heap_alloc_new w _, Nat.zero_le _, SB.below h' ((Below.refl _ _).alloc (Nat.le_refl _) _)⟩, (Below.refl _ _).alloc (Nat.le_refl _) _, by simp⟩

theorem next_any (n : Int) (g : Nat) (w : World) (h : Dk w g) (hn : i64r n) (hn2 : n ≤ 4611686018427387904) :
    Calls Tryz.prog 12 #[.pointer (some ⟨g, 0, none⟩), .int .i64 n] w fun e w' => ∃ x : Int, e = .returned (.int .i64 x) ∧ (n < 1 → x = 0) ∧ (1 ≤ n → 0 ≤ x ∧ x < n) ∧ Dk w' g ∧ w.grownBy w' (some g) := by
  obtain ⟨L, lv, k, hg, hk, hl⟩ := h
  obtain ⟨A, c, rfl, hc, hm, hr, ha⟩ := id hl
  have h0 : w.cell? ⟨g, 0, none⟩ = some (.slice A L.length c) := by rw [cell_of_row w g 0 _ _ _ hg]; rfl
  have h1 : w.cell? ⟨g, 1, none⟩ = some (.int .i64 k) := by rw [cell_of_row w g 1 _ _ _ hg]; rfl
  have hf : w.frozen? ⟨g, 1, none⟩ = false := frozen_of_row w g 1 _ _ hg
  obtain ⟨hn0, hn1⟩ := hn
  by_cases hlo : n < 1
  · go_enter Tryz.func12, Tryz.ntmps12
    go_wp2
    go_quiet (fail)
    go_wp2
    go_ret
    exact ⟨0, rfl, fun _ => rfl, fun h => by omega, ⟨L, _, k, hg, hk, hl⟩, grownBy_drewN (grownBy_refl _ _) _⟩
  · by_cases hlt : k < L.length
    · obtain ⟨b, off, rfl, hb, hcell⟩ := ha (by omega)
      have hck := hcell k hlt
      have hgw := heap_of_cells hg
      have hd : decide ((L.length : Int) ≤ (k : Int)) = false := by simp; omega
      have HL := Lib.hid hl
      have HG := Lib.hid hg
      clear hcell ha hr hl hg
      go_enter Tryz.func12, Tryz.ntmps12
      go_wp2
      go_quiet (fail)
      go_wp2
      go_quiet (fail)
      go_wp2_with (refine (mod_any _ _ _ (by omega) (by omega)).mono ?_; rintro e w' ⟨rfl, rfl⟩)
      go_ret
      have hm1 : 0 ≤ L[k] % n := Int.emod_nonneg _ (by omega)
      have hm2 : L[k] % n < n := Int.emod_lt_of_pos _ (by omega)
      refine ⟨L[k] % n, rfl, fun h => by omega, fun _ => ⟨hm1, hm2⟩, ⟨L, _, k + 1, heap_setCell_same (w.drewN _) g 1 _ _ _ HG.out, by omega, ?_⟩, grownBy_setCell (grownBy_drewN (grownBy_refl _ _) _) (.inl rfl) _⟩
      exact SB.grown HL.out (grownBy_setCell (grownBy_drewN (grownBy_refl _ _) _) (.inl rfl) _) (Nat.le_refl _) (by omega)
    · have hd : decide ((L.length : Int) ≤ (k : Int)) = true := by simp; omega
      go_enter Tryz.func12, Tryz.ntmps12
      go_wp2
      go_quiet (fail)
      go_wp2
      go_ret
      exact ⟨0, rfl, fun _ => rfl, fun h => by omega, ⟨L, _, k, hg, hk, hl⟩, grownBy_drewN (grownBy_refl _ _) _⟩
end Go.Proofs.YtbgabipngdillaaGreatDoor

namespace Go.Proofs.YtbgabipngdillaaGreatDoor
open Go.RowKit

def pms : List Int := [2, 3, 5, 7, 11, 13, 17, 257, 65521]
theorem pms_pr : ∀ j (h : j < 9), prB (pms[j]'h) = true
  | 0, _ => by kernel_rfl | 1, _ => by kernel_rfl | 2, _ => by kernel_rfl | 3, _ => by kernel_rfl | 4, _ => by kernel_rfl | 5, _ => by kernel_rfl | 6, _ => by kernel_rfl | 7, _ => by kernel_rfl | 8, _ => by kernel_rfl
theorem pms_mono : ∀ j (hj : j < 9), ∀ i (hi : i ≤ j), pms[i]'(Nat.lt_of_le_of_lt hi hj) ≤ pms[j]'hj := by decide
def lnOf : Value → Nat | .slice _ n _ => n | _ => 0
set_option maxRecDepth 100000 in
set_option maxHeartbeats 4000000 in
theorem big_any (g : Nat) (least : Int) (w : World) (hD : Dk w g) (h0 : 0 ≤ least) (h1 : least ≤ 16) :
    Calls Tryz.prog 46 #[.pointer (some ⟨g, 0, none⟩), .int .i64 least] w fun e w' => ∃ P, e = .returned (.agg #[.int .i64 P]) ∧ Dk w' g ∧ w.grownBy w' (some g) ∧ prB P = true ∧ least < P := by
  have HD := Lib.hid hD
  have hgw : g < w.heap.size := hD.lt
  clear hD
  go_enter Tryz.func46, Tryz.ntmps46
  obtain ⟨R, eR⟩ : ∃ R, R = w.heap.size := ⟨_, rfl⟩
  obtain ⟨w1, ew1⟩ : ∃ w1 : World, w1 = w.alloc (.cells #[.int .i64 0] 31) := ⟨_, rfl⟩
  have HW1 : Hid (w.alloc (.cells #[.int .i64 0] 31) = w1) := ew1.symm
  have HR1 : Hid (w1.heap[R]? = some (.cells #[.int .i64 0] 31 (0, 0))) := (show Hid _ from by show _ = _; rw [ew1, eR]; exact heap_alloc_new w _)
  have HB1 : Hid (Below w.heap.size w w1) := (show Hid _ from by rw [ew1]; exact (Below.refl _ w).alloc (Nat.le_refl _) _)
  have hz1 : w1.heap.size = R + 1 := by rw [ew1, eR]; simp
  have HD1 := Lib.hid (HD.out.below HB1.out)
  have hgR : g < R := by omega
  have HER := Lib.hid eR
  have HZ1 := Lib.hid hz1
  clear ew1 hz1
  go_upto_region 1 with fail
  rw [HW1.out, ← eR]
  clear eR
  obtain ⟨b, eb⟩ : ∃ b, b = w1.heap.size := ⟨_, rfl⟩
  obtain ⟨w2, ew2⟩ : ∃ w2 : World, w2 = w1.alloc (.cells #[.int .i64 2, .int .i64 3, .int .i64 5, .int .i64 7, .int .i64 11, .int .i64 13, .int .i64 17, .int .i64 257, .int .i64 65521] 3) := ⟨_, rfl⟩
  have HW2 : Hid (w1.alloc (.cells #[.int .i64 2, .int .i64 3, .int .i64 5, .int .i64 7, .int .i64 11, .int .i64 13, .int .i64 17, .int .i64 257, .int .i64 65521] 3) = w2) := ew2.symm
  have Hb2 : Hid (w2.heap[b]? = some (.cells (pms.map (Value.int .i64)).toArray 3 (0, 0))) := (show Hid _ from by show _ = _; rw [ew2, eb]; exact heap_alloc_new w1 _)
  have HB2 : Hid (Below w1.heap.size w1 w2) := (show Hid _ from by rw [ew2]; exact (Below.refl _ w1).alloc (Nat.le_refl _) _)
  have HR2 : Hid (w2.heap[R]? = some (.cells #[.int .i64 0] 31 (0, 0))) := (show Hid _ from (HB2.out.block R (heap_of_cells HR1.out)).trans HR1.out)
  have HD2 := Lib.hid (HD1.out.below HB2.out)
  have hbR : R < b := by rw [eb]; exact heap_of_cells HR1.out
  have HG2 : Hid (w.grownBy w2 (some g)) := grownBy_trans (grownBy_of_below HB1.out _) (grownBy_of_below HB2.out _)
  have HC : Hid (∀ j (h : j < 9), w2.cell? ⟨b, j, none⟩ = some (.int .i64 (pms[j]'h))) := (show Hid _ from fun j h => by
    rw [cell_of_row w2 b j _ _ _ Hb2.out]
    have hj : j < pms.length := h
    simp [hj]
    rfl)
  have hb2 : b < w2.heap.size := heap_of_cells Hb2.out
  have HEB := Lib.hid eb
  go_upto_region 2 with fail
  rw [HW2.out, ← eb]
  clear ew2 eb
  go_loopw [5] (fun v wr => ∃ (k m : Nat), k + m = 9 ∧ 1 ≤ m ∧ v = .slice (some ⟨b, k, none⟩) m m ∧ w2 = wr) (fun v _ => lnOf v)
  case atStart => exact ⟨0, 9, rfl, by omega, rfl, rfl⟩
  case round =>
    obtain ⟨k, m, hkm, hm, rfl, rfl⟩ := hrel
    obtain ⟨m, rfl⟩ : ∃ m', m = m' + 1 := ⟨m - 1, by omega⟩
    have c0 := HC.out k (by omega)
    have hkl : k < 9 := by omega
    have hm8 : m ≤ 8 := by omega
    have HLT : Hid (least < pms[k] ∨ (pms[k] ≤ least ∧ 1 ≤ m)) := (show Hid _ from by
      by_cases h : pms[k] ≤ least
      · refine .inr ⟨h, ?_⟩
        by_cases hk : k ≤ 7
        · omega
        · have : pms[7] ≤ pms[k] := pms_mono k hkl 7 (by omega)
          have h7 : pms[7] = 257 := rfl
          omega
      · exact .inl (by omega))
    obtain ⟨x, ex⟩ : ∃ x, x = pms[k] := ⟨_, rfl⟩
    rw [← ex] at c0 HLT
    have HX := Lib.hid ex
    have HKM := Lib.hid hkm
    clear ex hkm
    rcases HLT.out with hlt | ⟨hlt, hm1⟩
    · have z0 : decide (x ≤ least) = false := decide_eq_false (by omega)
      have mi : i64r ((m : Int) + 1) := by unfold i64r; omega
      have mi2 : (m : Int) + 1 ≤ 4611686018427387904 := by omega
      go_wp2_with fail
      (with_reducible refine (next_any ((m : Int) + 1) g w2 HD2.out mi mi2).mono ?_)
      rintro e w3 ⟨y, rfl, _, hy, hd3, hg3⟩
      obtain ⟨hy1, hy2⟩ := hy (by omega)
      obtain ⟨yn, rfl⟩ : ∃ yn : Nat, y = yn := ⟨y.toNat, by omega⟩
      have hyn : yn < m + 1 := by omega
      have hyn2 : (yn : Int) < (m : Int) + 1 := by omega
      have hk2 : k + yn < 9 := by have := HKM.out; omega
      have c1 : w3.cell? ⟨b, k + yn, none⟩ = some (.int .i64 (pms[k + yn]'hk2)) := (World.cell?_of_block (hg3.block b hb2 (by simp; omega))).trans (HC.out _ hk2)
      have HPR : Hid (prB (pms[k + yn]'hk2) = true) := pms_pr _ _
      have HPL : Hid (least < pms[k + yn]'hk2) := (show Hid _ from by
        have h5 := pms_mono (k + yn) hk2 k (by omega)
        have h6 := HX.out
        show _ < _
        omega)
      obtain ⟨P, eP⟩ : ∃ P, P = pms[k + yn]'hk2 := ⟨_, rfl⟩
      rw [← eP] at c1 HPR HPL
      have HD3 := Lib.hid hd3
      have HG3 := Lib.hid hg3
      have HR3 : Hid (w3.heap[R]? = some (.cells #[.int .i64 0] 31 (0, 0))) := (show Hid _ from (HG3.out.block R (heap_of_cells HR2.out) (by simp; omega)).trans HR2.out)
      have cR0 : w3.cell? ⟨R, 0, none⟩ = some (.int .i64 0) := cell_of_row w3 R 0 _ _ _ HR3.out
      have fR0 : w3.frozen? ⟨R, 0, none⟩ = false := frozen_of_row w3 R 0 _ _ HR3.out
      clear eP hd3 hg3 hy hy1 hy2
      go_wp2_with fail
      have HW : (w3.setCell ⟨R, 0, none⟩ (.int .i64 P)).heap[R]? = some (.cells #[.int .i64 P] 31 (0, 0)) := by
        have := heap_setCell_same w3 R 0 _ _ (.int .i64 P) HR3.out
        simpa using this
      have q0 := cell_of_row _ R 0 _ _ _ HW
      simp only [List.getElem?_toArray, List.getElem?_cons_zero] at q0
      have hG5 : w3.grownBy (w3.setCell ⟨R, 0, none⟩ (.int .i64 P)) (some R) := grownBy_setCell (g := R) (p := ⟨R, 0, none⟩) (grownBy_refl _ _) (.inl rfl) _
      refine bodyPost_ret (v := .agg #[.int .i64 P]) (by simp [results, Tryz.results46, go_sem, q0]) rfl ⟨P, rfl, HD3.out.grown hG5 (fun k hk => by injection hk with e; omega), ?_, HPR.out, HPL.out⟩
      exact grownBy_own (grownBy_trans HG2.out HG3.out) hG5 (fun k hk => by injection hk with e; have := HER.out; omega)
    · have z0 : decide (x ≤ least) = true := decide_eq_true hlt
      go_wp2_with fail
      go_roundw
      case rel => exact ⟨k + 1, m, by have := HKM.out; omega, hm1, by simp, by simp⟩
      case measure => simp [lnOf]
theorem i64_6 : i64r 6 := by unfold i64r; omega
set_option maxRecDepth 100000 in
set_option maxHeartbeats 4000000 in
theorem plan_any (g : Nat) (w : World) (hD : Dk w g) :
    Calls Tryz.prog 18 #[.pointer (some ⟨g, 0, none⟩)] w fun e w' => ∃ P n t, e = .returned (.tuple #[.agg #[.int .i64 P], .agg #[.int .i64 n, .int .i64 t]]) ∧ Dk w' g ∧ w.grownBy w' (some g) ∧ prB P = true ∧ n < P ∧ 2 ≤ n ∧ n ≤ 7 ∧ 1 ≤ t ∧ t < n := by
  have HD := Lib.hid hD
  have hgw : g < w.heap.size := hD.lt
  clear hD
  go_enter Tryz.func18, Tryz.ntmps18
  obtain ⟨R, eR⟩ : ∃ R, R = w.heap.size := ⟨_, rfl⟩
  obtain ⟨S, eS⟩ : ∃ S, S = w.heap.size + 1 := ⟨_, rfl⟩
  obtain ⟨w1, ew1⟩ : ∃ w1 : World, w1 = (w.alloc (.cells #[.int .i64 0] 31)).alloc (.cells #[.int .i64 0, .int .i64 0] 29) := ⟨_, rfl⟩
  have HW1 : Hid ((w.alloc (.cells #[.int .i64 0] 31)).alloc (.cells #[.int .i64 0, .int .i64 0] 29) = w1) := ew1.symm
  have HR1 : Hid (w1.heap[R]? = some (.cells #[.int .i64 0] 31 (0, 0))) := (show Hid _ from by show _ = _; rw [ew1, eR, Below.heap_alloc _ _ _ (by simp)]; exact heap_alloc_new w _)
  have HS1 : Hid (w1.heap[S]? = some (.cells #[.int .i64 0, .int .i64 0] 29 (0, 0))) := (show Hid _ from by show _ = _; rw [ew1, eS]; have := heap_alloc_new (w.alloc (.cells #[.int .i64 0] 31)) (.cells #[.int .i64 0, .int .i64 0] 29); simpa using this)
  have HB1 : Hid (Below w.heap.size w w1) := (show Hid _ from by rw [ew1]; exact ((Below.refl _ w).alloc (Nat.le_refl _) _).alloc (by simp) _)
  have HD1 := Lib.hid (HD.out.below HB1.out)
  have hgR : g < R := by omega
  have hRS : R < S := by omega
  have HER := Lib.hid eR
  go_upto_region 1 with fail
  rw [HW1.out, ← eS, ← eR]
  clear eR eS ew1
  go_wp2_with fail
  (with_reducible refine (next_any 6 g w1 HD1.out i64_6 (by omega)).mono ?_)
  rintro e w2 ⟨x, rfl, _, hx, hd2, hg2⟩
  obtain ⟨hx1, hx2⟩ := hx (by omega)
  have HD2 := Lib.hid hd2
  have HG2 := Lib.hid hg2
  have m1 : IntKind.i64.wrap (2 + x) = 2 + x := by exact IntWalk.i64_in _ (by omega)
  have HR2 : Hid (w2.heap[R]? = some (.cells #[.int .i64 0] 31 (0, 0))) := (show Hid _ from (HG2.out.block R (heap_of_cells HR1.out) (by simp; omega)).trans HR1.out)
  have HS2 : Hid (w2.heap[S]? = some (.cells #[.int .i64 0, .int .i64 0] 29 (0, 0))) := (show Hid _ from (HG2.out.block S (heap_of_cells HS1.out) (by simp; omega)).trans HS1.out)
  clear hx hd2 hg2
  obtain ⟨n, en⟩ : ∃ n, n = 2 + x := ⟨_, rfl⟩
  have hn : 2 ≤ n ∧ n ≤ 7 := by omega
  rw [← en] at m1
  obtain ⟨q, eq⟩ : ∃ q, q = w2.heap.size := ⟨_, rfl⟩
  obtain ⟨w3, ew3⟩ : ∃ w3 : World, w3 = w2.alloc (.cells #[.int .i64 n, .int .i64 0] 29) := ⟨_, rfl⟩
  have HW3 : Hid (w2.alloc (.cells #[.int .i64 n, .int .i64 0] 29) = w3) := ew3.symm
  have Hq3 : Hid (w3.heap[q]? = some (.cells #[.int .i64 n, .int .i64 0] 29 (0, 0))) := (show Hid _ from by show _ = _; rw [ew3, eq]; exact heap_alloc_new w2 _)
  have HB3 : Hid (Below w2.heap.size w2 w3) := (show Hid _ from by rw [ew3]; exact (Below.refl _ w2).alloc (Nat.le_refl _) _)
  have HD3 := Lib.hid (HD2.out.below HB3.out)
  have HR3 : Hid (w3.heap[R]? = some (.cells #[.int .i64 0] 31 (0, 0))) := (show Hid _ from (HB3.out.block R (heap_of_cells HR2.out)).trans HR2.out)
  have HS3 : Hid (w3.heap[S]? = some (.cells #[.int .i64 0, .int .i64 0] 29 (0, 0))) := (show Hid _ from (HB3.out.block S (heap_of_cells HS2.out)).trans HS2.out)
  have hSq : S < q := by rw [eq]; exact heap_of_cells HS2.out
  have HEN : Hid (2 + x = n) := en.symm
  have HEQ := Lib.hid eq
  go_upto_region 2 with fail
  rw [HEN.out, HW3.out, ← eq]
  clear en eq ew3 m1 hx1 hx2
  have c0 : w3.cell? ⟨q, 0, none⟩ = some (.int .i64 n) := cell_of_row w3 q 0 _ _ _ Hq3.out
  have m2 : IntKind.i64.wrap (n - 1) = n - 1 := by exact IntWalk.i64_in _ (by omega)
  go_wp2_with fail
  (with_reducible refine (next_any (n - 1) g w3 HD3.out (by unfold i64r; omega) (by omega)).mono ?_)
  rintro e w4 ⟨y, rfl, _, hy, hd4, hg4⟩
  obtain ⟨hy1, hy2⟩ := hy (by omega)
  obtain ⟨t, et⟩ : ∃ t, t = 1 + y := ⟨_, rfl⟩
  have ht : 1 ≤ t ∧ t < n := by omega
  have m3 : IntKind.i64.wrap (1 + y) = t := by rw [et]; exact IntWalk.i64_in _ (by omega)
  have HD4 := Lib.hid hd4
  have HG4 := Lib.hid hg4
  have Hq4 : Hid (w4.heap[q]? = some (.cells #[.int .i64 n, .int .i64 0] 29 (0, 0))) := (show Hid _ from (HG4.out.block q (heap_of_cells Hq3.out) (by simp; omega)).trans Hq3.out)
  have HR4 : Hid (w4.heap[R]? = some (.cells #[.int .i64 0] 31 (0, 0))) := (show Hid _ from (HG4.out.block R (heap_of_cells HR3.out) (by simp; omega)).trans HR3.out)
  have HS4 : Hid (w4.heap[S]? = some (.cells #[.int .i64 0, .int .i64 0] 29 (0, 0))) := (show Hid _ from (HG4.out.block S (heap_of_cells HS3.out) (by simp; omega)).trans HS3.out)
  clear c0 hy hy1 hy2 hd4 hg4 et
  have c1 : w4.cell? ⟨q, 1, none⟩ = some (.int .i64 0) := cell_of_row w4 q 1 _ _ _ Hq4.out
  have f1 : w4.frozen? ⟨q, 1, none⟩ = false := frozen_of_row w4 q 1 _ _ Hq4.out
  go_upto_region 3 with fail
  clear c1 f1
  obtain ⟨w5, ew5⟩ : ∃ w5 : World, w5 = w4.setCell ⟨q, 1, none⟩ (.int .i64 t) := ⟨_, rfl⟩
  have hG5 : w4.grownBy w5 (some q) := by rw [ew5]; exact grownBy_setCell (g := q) (p := ⟨q, 1, none⟩) (grownBy_refl _ _) (.inl rfl) _
  have Hq5 : Hid (w5.heap[q]? = some (.cells #[.int .i64 n, .int .i64 t] 29 (0, 0))) := (show Hid _ from by
    show _ = _
    rw [ew5]
    have := heap_setCell_same w4 q 1 _ _ (.int .i64 t) Hq4.out
    simpa using this)
  have HD5 : Hid (Dk w5 g) := HD4.out.grown hG5 (fun k hk => by injection hk with e; omega)
  have HR5 : Hid (w5.heap[R]? = some (.cells #[.int .i64 0] 31 (0, 0))) := (show Hid _ from (hG5.block R (heap_of_cells HR4.out) (by simp; omega)).trans HR4.out)
  have HS5 : Hid (w5.heap[S]? = some (.cells #[.int .i64 0, .int .i64 0] 29 (0, 0))) := (show Hid _ from (hG5.block S (heap_of_cells HS4.out) (by simp; omega)).trans HS4.out)
  have HGw5 : Hid (w.grownBy w5 (some g)) := grownBy_own (grownBy_trans (grownBy_trans (grownBy_trans (grownBy_of_below HB1.out _) HG2.out) (grownBy_of_below HB3.out _)) HG4.out) hG5 (fun k hk => by injection hk with e; have := HER.out; omega)
  have HW5 : Hid (w4.setCell ⟨q, 1, none⟩ (.int .i64 t) = w5) := ew5.symm
  rw [HW5.out]
  clear ew5 hG5 m3
  have c0 : w5.cell? ⟨q, 0, none⟩ = some (.int .i64 n) := cell_of_row w5 q 0 _ _ _ Hq5.out
  have c1 : w5.cell? ⟨q, 1, none⟩ = some (.int .i64 t) := cell_of_row w5 q 1 _ _ _ Hq5.out
  have r0 : w5.cell? ⟨R, 0, none⟩ = some (.int .i64 0) := cell_of_row w5 R 0 _ _ _ HR5.out
  have s0 : w5.cell? ⟨S, 0, none⟩ = some (.int .i64 0) := cell_of_row w5 S 0 _ _ _ HS5.out
  have s1 : w5.cell? ⟨S, 1, none⟩ = some (.int .i64 0) := cell_of_row w5 S 1 _ _ _ HS5.out
  have g0 : w5.frozen? ⟨R, 0, none⟩ = false := frozen_of_row w5 R 0 _ _ HR5.out
  have g1 : w5.frozen? ⟨S, 0, none⟩ = false := frozen_of_row w5 S 0 _ _ HS5.out
  have g2 : w5.frozen? ⟨S, 1, none⟩ = false := frozen_of_row w5 S 1 _ _ HS5.out
  have HBIG : Hid (∀ W : World, Dk W g → Calls Tryz.prog 46 #[.pointer (some ⟨g, 0, none⟩), .int .i64 n] W fun e w' => ∃ P, e = .returned (.agg #[.int .i64 P]) ∧ Dk w' g ∧ W.grownBy w' (some g) ∧ prB P = true ∧ n < P) := (show Hid _ from fun W h => big_any g n W h (by omega) (by omega))
  have nRS : ¬ R = S := by omega
  have nRq : ¬ R = q := by omega
  have nSq : ¬ S = q := by omega
  have HDd : Hid (Dk w5.drew g) := HD5.out
  have HLT : Hid (g < R ∧ g < S ∧ g < q) := ⟨by omega, by omega, by omega⟩
  have HX6 : Hid (∀ w6 : World, w5.grownBy w6 (some g) → (w6.cell? ⟨q, 0, none⟩ = some (.int .i64 n) ∧ w6.cell? ⟨q, 1, none⟩ = some (.int .i64 t)) ∧ (w6.cell? ⟨R, 0, none⟩ = some (.int .i64 0) ∧ w6.cell? ⟨S, 0, none⟩ = some (.int .i64 0) ∧ w6.cell? ⟨S, 1, none⟩ = some (.int .i64 0)) ∧ w6.frozen? ⟨R, 0, none⟩ = false ∧ w6.frozen? ⟨S, 0, none⟩ = false ∧ w6.frozen? ⟨S, 1, none⟩ = false ∧ w6.heap[R]? = some (.cells #[.int .i64 0] 31 (0, 0)) ∧ w6.heap[S]? = some (.cells #[.int .i64 0, .int .i64 0] 29 (0, 0))) := (show Hid _ from fun w6 hg => by
    have a1 := (hg.block q (heap_of_cells Hq5.out) (by simp; omega)).trans Hq5.out
    have a2 := (hg.block R (heap_of_cells HR5.out) (by simp; omega)).trans HR5.out
    have a3 := (hg.block S (heap_of_cells HS5.out) (by simp; omega)).trans HS5.out
    exact ⟨⟨cell_of_row w6 q 0 _ _ _ a1, cell_of_row w6 q 1 _ _ _ a1⟩, ⟨cell_of_row w6 R 0 _ _ _ a2, cell_of_row w6 S 0 _ _ _ a3, cell_of_row w6 S 1 _ _ _ a3⟩, frozen_of_row w6 R 0 _ _ a2, frozen_of_row w6 S 0 _ _ a3, frozen_of_row w6 S 1 _ _ a3, a2, a3⟩)
  go_region_held3 (fun w' => w'.cell? ⟨q, 0, none⟩ = some (.int .i64 n) ∧ w'.cell? ⟨q, 1, none⟩ = some (.int .i64 t)) (first | exact ⟨c0, c1⟩ | exact k1 | go_keep)
    (first | (go_at_call 46; refine (HBIG.out _ (by first | exact HD5.out | exact HDd.out)).mono ?_; rintro e9 w6 ⟨P, rfl, hd6, hg6, hpr, hlt⟩; have HD6 : Hid (Dk w6 g) := (show Hid _ from hd6); have HG6 : Hid (w5.grownBy w6 (some g)) := (show Hid _ from ⟨hg6.os, hg6.tape, hg6.output, hg6.size, hg6.block⟩); have HPR := Lib.hid hpr; have HLTP := Lib.hid hlt; obtain ⟨k1, ⟨r0, s0, s1⟩, g0, g1, g2, hr6, hs6⟩ := HX6.out w6 HG6.out; have HR6 := Lib.hid hr6; have HS6 := Lib.hid hs6; clear hd6 hg6 hpr hlt hr6 hs6))
  all_goals
    go_wp2_with fail
    have hne : R ≠ S := nRS
    have x1 : (w6.setCell ⟨R, 0, none⟩ (.int .i64 P)).heap[R]? = some (.cells #[.int .i64 P] 31 (0, 0)) := by
      have := heap_setCell_same w6 R 0 _ _ (.int .i64 P) HR6.out
      simpa using this
    have x2 : (w6.setCell ⟨R, 0, none⟩ (.int .i64 P)).heap[S]? = some (.cells #[.int .i64 0, .int .i64 0] 29 (0, 0)) := (heap_setCell_other w6 _ S _ (Ne.symm hne)).trans HS6.out
    have x3 := store2 (.int .i64 n) (.int .i64 t) x2
    have x4 : (((w6.setCell ⟨R, 0, none⟩ (.int .i64 P)).setCell ⟨S, 0, none⟩ (.int .i64 n)).setCell ⟨S, 1, none⟩ (.int .i64 t)).heap[R]? = some (.cells #[.int .i64 P] 31 (0, 0)) := (heap_setCell_other _ _ R _ hne).trans ((heap_setCell_other _ _ R _ hne).trans x1)
    have q0 := cell_of_row _ R 0 _ _ _ x4
    have q1 := cell_of_row _ S 0 _ _ _ x3
    have q2 := cell_of_row _ S 1 _ _ _ x3
    simp only [List.getElem?_toArray, List.getElem?_cons_zero, List.getElem?_cons_succ] at q0 q1 q2
    obtain ⟨l1, l2, l3⟩ := HLT.out
    have hwR : w.heap.size ≤ R := by have := HER.out; omega
    have hGw6 : w.grownBy w6 (some g) := grownBy_trans HGw5.out HG6.out
    have hGf : w.grownBy (((w6.setCell ⟨R, 0, none⟩ (.int .i64 P)).setCell ⟨S, 0, none⟩ (.int .i64 n)).setCell ⟨S, 1, none⟩ (.int .i64 t)) (some g) :=
      grownBy_setCell (g := g) (p := ⟨S, 1, none⟩) (grownBy_setCell (g := g) (p := ⟨S, 0, none⟩) (grownBy_setCell (g := g) (p := ⟨R, 0, none⟩) hGw6 (.inr hwR) _) (.inr (by show _ ≤ S; omega)) _) (.inr (by show _ ≤ S; omega)) _
    have hDf : Dk (((w6.setCell ⟨R, 0, none⟩ (.int .i64 P)).setCell ⟨S, 0, none⟩ (.int .i64 n)).setCell ⟨S, 1, none⟩ (.int .i64 t)) g :=
      HD6.out.of fun i hi => (heap_setCell_other _ _ i _ (by show i ≠ S; omega)).trans ((heap_setCell_other _ _ i _ (by show i ≠ S; omega)).trans (heap_setCell_other _ _ i _ (by show i ≠ R; omega)))
    exact bodyPost_ret (v := .tuple #[.agg #[.int .i64 P], .agg #[.int .i64 n, .int .i64 t]]) (by simp [results, Tryz.results18, go_sem, q0, q1, q2]) rfl ⟨P, n, t, rfl, hDf, hGf, HPR.out, HLTP.out, hn.1, hn.2, ht.1, ht.2⟩
end Go.Proofs.YtbgabipngdillaaGreatDoor

namespace Go.Proofs.YtbgabipngdillaaGreatDoor
open Go.RowKit

def inL (l ns : List Int) : Prop := ns.length ≤ l.length ∧ ∀ j (h : j < ns.length) (h' : j < l.length), 0 ≤ ns[j] ∧ ns[j] < l[j]
theorem inL_snoc {l ns : List Int} {y : Int} (h : inL l ns) (hk : ns.length < l.length) (hy : 0 ≤ y ∧ y < l[ns.length]) : inL l (ns ++ [y]) := by
  refine ⟨by simp; omega, fun j h1 h2 => ?_⟩
  by_cases e : j = ns.length
  · subst e; simpa using hy
  · have h3 : j < ns.length := by simp at h1; omega
    rw [List.getElem_append_left h3]
    exact h.2 j h3 h2
theorem inL_r {l ns : List Int} (h : inL l ns) (hl : ∀ x ∈ l, x ≤ 2147483647) : ∀ x ∈ ns, i64r x := by
  intro x hx
  obtain ⟨j, hj, rfl⟩ := List.mem_iff_getElem.1 hx
  have h1 := h.2 j hj (by have := h.1; omega)
  have h2 := hl _ (List.getElem_mem (by have := h.1; omega : j < l.length))
  unfold i64r; omega
def SdR (l : List Int) (O : Nat) (w2 : World) (sv iv : Value) (wr : World) : Prop :=
  ∃ (sd : Int) (v : Value) (ns : List Int), iv = .int .i64 ns.length ∧ sv = .int .i64 sd ∧ 0 ≤ sd ∧ sd < 2147483647 ∧ inL l ns ∧ TAc O v ns wr ∧ Below O w2 wr
def limsOk (l : List Int) : Prop := ∀ x ∈ l, 1 ≤ x ∧ x ≤ 2147483647
set_option maxRecDepth 100000 in
set_option maxHeartbeats 4000000 in
theorem seeded_any (sd : Int) (l : List Int) (v : Value) (w : World) (h1 : 1 ≤ sd) (h2 : sd < 2147483647) (h : SI w v l) (hz : l.length ≤ 16384) (hl : limsOk l) :
    Calls Tryz.prog 47 #[.int .i64 sd, v] w fun e w' => ∃ v1 ns, e = .returned (.tuple #[.agg #[v1, .int .i64 0], .int .i64 0]) ∧ Below w.heap.size w w' ∧ inL l ns ∧ ns.length = l.length ∧ w'.ownsRow w.heap.size 3 1 v1 ns.length (ns.map (Value.int .i64)) := by
  have HS := Lib.hid h
  have HL : Hid (limsOk l) := hl
  obtain ⟨A, c, rfl⟩ := h.form'
  clear h hl
  have d1 : decide (sd < 1) = false := decide_eq_false (by omega)
  have d2 : decide (2147483647 ≤ sd) = false := decide_eq_false (by omega)
  have d3 : decide (16384 < (l.length : Int)) = false := decide_eq_false (by omega)
  have d4 : decide (16384 < l.length) = false := decide_eq_false (by omega)
  go_enter Tryz.func47, Tryz.ntmps47
  obtain ⟨R, eR⟩ : ∃ R, R = w.heap.size := ⟨_, rfl⟩
  obtain ⟨w1, ew1⟩ : ∃ w1 : World, w1 = w.alloc (.cells #[.slice none 0 0, .int .i64 0] 39) := ⟨_, rfl⟩
  have HW1 : Hid (w.alloc (.cells #[.slice none 0 0, .int .i64 0] 39) = w1) := ew1.symm
  have HR1 : Hid (w1.heap[R]? = some (.cells #[.slice none 0 0, .int .i64 0] 39 (0, 0))) := (show Hid _ from by show _ = _; rw [ew1, eR]; exact heap_alloc_new w _)
  have HB1 : Hid (Below w.heap.size w w1) := (show Hid _ from by rw [ew1]; exact (Below.refl _ w).alloc (Nat.le_refl _) _)
  have hz1 : w1.heap.size = R + 1 := by rw [ew1, eR]; simp
  have HS1 := Lib.hid (HS.out.below HB1.out)
  have HER := Lib.hid eR
  have HZ1 := Lib.hid hz1
  clear ew1 hz1
  go_upto_region 1 with fail
  rw [HW1.out, ← eR]
  clear eR
  go_wp2_with fail
  go_loopw [24] (fun i wr => ∃ k : Nat, k ≤ l.length ∧ i = .int .i64 k ∧ w1 = wr) (fun i _ => l.length - (intOf i).toNat)
  case atStart => exact ⟨0, Nat.zero_le _, rfl, rfl⟩
  case round =>
    obtain ⟨k, hk, rfl, rfl⟩ := hrel
    by_cases hlt : k < l.length
    · obtain ⟨A', c', e, _, _, _, ha⟩ := HS1.out
      injection e with e1 e2 e3
      subst e1
      obtain ⟨b, off, rfl, hb, hcell⟩ := ha (by omega)
      have c1 := hcell k hlt
      have hx := HL.out l[k] (List.getElem_mem hlt)
      generalize l[k] = x at c1 hx
      have z1 : decide (x < 1) = false := decide_eq_false (by omega)
      have z2 : decide (2147483647 < x) = false := decide_eq_false (by omega)
      have z3 : decide (k < l.length) = true := decide_eq_true (by omega)
      clear ha hcell e2 e3
      go_wp2_with fail
      go_roundw
      case rel => exact ⟨k + 1, by omega, by go_num, by simp⟩
      case measure => simp [intOf]; omega
    · have z3 : decide (k < l.length) = false := decide_eq_false (by omega)
      go_wp2_with fail
      obtain ⟨O, eO⟩ : ∃ O, O = w1.heap.size := ⟨_, rfl⟩
      obtain ⟨w2, ew2⟩ : ∃ w2 : World, w2 = w1.alloc (.cells #[.slice none 0 0, .int .i64 0] 39) := ⟨_, rfl⟩
      have HW2 : Hid (w1.alloc (.cells #[.slice none 0 0, .int .i64 0] 39) = w2) := ew2.symm
      have HK2 : Hid (TAc O (.slice none 0 0) [] w2) := (show Hid _ from by
        rw [ew2, eO]
        exact ⟨heap_alloc_new w1 _, World.ownsRow_nil _ _ _ _⟩)
      have HB2 : Hid (Below w1.heap.size w1 w2) := (show Hid _ from by rw [ew2]; exact (Below.refl _ w1).alloc (Nat.le_refl _) _)
      have hz2 : w2.heap.size = O + 1 := by rw [ew2, eO]; simp
      have hOR : O = R + 1 := by rw [eO]; exact HZ1.out
      have HOR := Lib.hid hOR
      have hRO : R < O := by omega
      clear hOR
      rw [HW2.out, ← eO]
      have HEO := Lib.hid eO
      clear ew2 eO z3
      go_loopw [0, 38] (fun s i wr => SdR l O w2 s i wr) (fun _ i _ => l.length - (intOf i).toNat)
      case atStart => exact ⟨sd, .slice none 0 0, [], rfl, rfl, by omega, h2, ⟨by simp, fun j h => by simp at h⟩, HK2.out, Below.refl _ _⟩
      case round =>
        obtain ⟨s, va, ns, rfl, rfl, hs1, hs2, hin, hTA, hBel⟩ := hrel
        have HIN := Lib.hid hin
        have HTA := Lib.hid hTA
        have HBel := Lib.hid hBel
        have hnl := hin.1
        clear hin hTA hBel
        by_cases hlt : ns.length < l.length
        · obtain ⟨A', c', e, _, _, _, ha⟩ := HS1.out
          injection e with e1 e2 e3
          subst e1
          obtain ⟨b, off, rfl, hb, hcell⟩ := ha (by omega)
          have k1 := hcell ns.length hlt
          have HB2r : Hid (Below w1.heap.size w1 wr) := (show Hid _ from HB2.out.trans (HBel.out.mono (by rw [← HEO.out]; exact Nat.le_refl _)))
          have c1 := (HB2r.out.cell (p := ⟨b, off + ns.length, none⟩) hb).trans k1
          have hx := HL.out l[ns.length] (List.getElem_mem hlt)
          have HSN : Hid (∀ y, 0 ≤ y ∧ y < l[ns.length] → inL l (ns ++ [y])) := (show Hid _ from fun y hy => inL_snoc HIN.out hlt hy)
          generalize l[ns.length] = x at c1 hx HSN
          obtain ⟨s2, es2⟩ : ∃ s2, s2 = (s * 48271).tmod 2147483647 := ⟨_, rfl⟩
          have hs2b : 0 ≤ s2 ∧ s2 < 2147483647 := by rw [es2, Int.tmod_eq_emod_of_nonneg (by omega)]; omega
          obtain ⟨y, ey⟩ : ∃ y, y = s2.tmod x := ⟨_, rfl⟩
          have hyb : 0 ≤ y ∧ y < x := by rw [ey, Int.tmod_eq_emod_of_nonneg hs2b.1]; exact ⟨Int.emod_nonneg _ (by omega), Int.emod_lt_of_pos _ (by omega)⟩
          have HY : Hid (inL l (ns ++ [y])) := HSN.out y hyb
          have m1 : IntKind.i64.wrap (s * 48271) = s * 48271 := by exact IntWalk.i64_in _ (by omega)
          have m2 : (s * 48271).tmod 2147483647 = s2 := es2.symm
          have m3 : s2.tmod x = y := ey.symm
          have m4 : ¬ x = 0 := by omega
          have cO0 : wr.cell? ⟨O, 0, none⟩ = some va := cell_of_row wr O 0 _ _ _ HTA.out.1
          have fO0 : wr.frozen? ⟨O, 0, none⟩ = false := frozen_of_row wr O 0 _ _ HTA.out.1
          have hOr : O < wr.heap.size := HTA.out.lt
          have hbr : b < wr.heap.size := by have := HB2r.out.size; omega
          have HREL : Hid (∀ (g9 cap9 : Nat) (w9 : World), (wr.alloc (.cells #[.int .i64 y] 3)).grownBy w9 va.ownBlock → w9.ownsRow (O + 1) 3 1 (.slice (some ⟨g9, 0, none⟩) (ns ++ [y]).length cap9) (ns ++ [y]).length ((ns ++ [y]).map (Value.int .i64)) → SdR l O w2 (.int .i64 s2) (.int .i64 ((ns.length : Int) + 1)) (w9.setCell ⟨O, 0, none⟩ (.slice (some ⟨g9, 0, none⟩) (ns.length + 1) cap9))) := (show Hid _ from fun g9 cap9 w9 hg ho => by
            obtain ⟨q1, q2⟩ := HTA.out.step HBel.out hg ho
            exact ⟨s2, _, ns ++ [y], by simp, rfl, hs2b.1, hs2b.2, HY.out, q1, q2⟩)
          have HFZ : Hid (∀ w9 : World, (wr.alloc (.cells #[.int .i64 y] 3)).grownBy w9 va.ownBlock → w9.frozen? ⟨O, 0, none⟩ = false) := (show Hid _ from fun w9 hg => HTA.out.frozen hg)
          have HNE : Hid (some O ≠ va.ownBlock) := HTA.out.ne
          have HOV : Hid (wr.ownsRow (O + 1) 3 1 va ns.length (ns.map (Value.int .i64))) := HTA.out.2
          have z3 : decide (ns.length < l.length) = true := decide_eq_true (by omega)
          have hnz : ns.length ≤ 16384 := by omega
          have hmeas : l.length - (ns.length + 1) < l.length - ns.length := by omega
          clear k1 ha hcell e2 e3 es2 ey hx HSN hs2b hyb hs1 hs2 hlt
          go_upto_region 16 with fail
          go_region_law (refine step_append_int1_at _ (by rfl) (.tmp 46) _ 22 (by rfl) (O + 1) 3 Tryz.underlying22 iinfo va ns (by rfl) (by first | exact HOV.out.alloc (.cells #[.int .i64 y] 3) | exact (HOV.out.alloc (.cells #[.int .i64 y] 3)).drew) y wr.heap.size (by rfl) (by exact cells_new wr [.int .i64 y] 3 0 _ rfl) (by omega) (by simp; omega) ?_; intro g9 cap9 w9 hown9 hg9 hat9; have HG9 : Hid ((wr.alloc (.cells #[.int .i64 y] 3)).grownBy w9 va.ownBlock) := (show Hid _ from ⟨hg9.os, hg9.tape, hg9.output, hg9.size, hg9.block⟩); have HO9 := Lib.hid hown9; have cO0 : w9.cell? ⟨O, 0, none⟩ = some va := hg9.cell (cell_al (.cells #[.int .i64 y] 3) cO0) HNE.out; have fO0 : w9.frozen? ⟨O, 0, none⟩ = false := HFZ.out w9 HG9.out; clear hg9 hown9 hat9)
          all_goals
            go_wp2_with fail
            go_roundw
            case rel => exact HREL.out g9 cap9 w9 HG9.out HO9.out
            case measure => simp [intOf]; omega
        · have z3 : decide (ns.length < l.length) = false := decide_eq_false (by omega)
          obtain ⟨Av, cv, ev⟩ := own_sl HTA.out.2
          subst ev
          have hlen : ns.length = l.length := by omega
          have HLEN := Lib.hid hlen
          obtain ⟨nn, enn⟩ : ∃ nn, nn = ns.length := ⟨_, rfl⟩
          rw [← enn] at HTA z3 ⊢
          have HNN := Lib.hid enn
          clear hlen enn
          have cO0 : wr.cell? ⟨O, 0, none⟩ = some (.slice Av nn cv) := cell_of_row wr O 0 _ _ _ HTA.out.1
          have cO1 : wr.cell? ⟨O, 1, none⟩ = some (.int .i64 0) := cell_of_row wr O 1 _ _ _ HTA.out.1
          have HRr : Hid (wr.heap[R]? = some (.cells #[.slice none 0 0, .int .i64 0] 39 (0, 0))) := (show Hid _ from (HBel.out.block R (by omega)).trans ((HB2.out.block R (by rw [HZ1.out]; omega)).trans HR1.out))
          have cR0 : wr.cell? ⟨R, 0, none⟩ = some (.slice none 0 0) := cell_of_row wr R 0 _ _ _ HRr.out
          have cR1 : wr.cell? ⟨R, 1, none⟩ = some (.int .i64 0) := cell_of_row wr R 1 _ _ _ HRr.out
          have fR0 : wr.frozen? ⟨R, 0, none⟩ = false := frozen_of_row wr R 0 _ _ HRr.out
          have fR1 : wr.frozen? ⟨R, 1, none⟩ = false := frozen_of_row wr R 1 _ _ HRr.out
          go_wp2_with fail
          have HW := store2 (.slice Av nn cv) (.int .i64 0) HRr.out
          have q0 := cell_of_row _ R 0 _ _ _ HW
          have q1 := cell_of_row _ R 1 _ _ _ HW
          simp only [List.getElem?_toArray, List.getElem?_cons_zero, List.getElem?_cons_succ] at q0 q1
          refine bodyPost_ret (v := .tuple #[.agg #[.slice Av nn cv, .int .i64 0], .int .i64 0]) (by simp [results, Tryz.results47, go_sem, q0, q1]) rfl ⟨_, ns, rfl, ?_, HIN.out, HLEN.out, ?_⟩
          · have hb : Below w.heap.size w wr := (HB1.out.trans (HB2.out.mono HB1.out.size)).trans (HBel.out.mono (by have := HER.out; omega))
            exact (hb.setCell (by show _ ≤ R; have := HER.out; omega) _).setCell (by show _ ≤ R; have := HER.out; omega) _
          · have ho := HTA.out.2
            exact own_lo (base := O + 1) (own_set3 (own_set3 ho (p := ⟨R, 0, none⟩) (by show R < O + 1; omega) _) (p := ⟨R, 1, none⟩) (by show R < O + 1; omega) _) (by have := HER.out; omega)
theorem i64_prime : i64r 2147483646 := by unfold i64r; omega
set_option maxRecDepth 100000 in
set_option maxHeartbeats 4000000 in
theorem seed_any (g : Nat) (l : List Int) (v : Value) (w : World) (hD : Dk w g) (h : SE g w v l) (hz : l.length ≤ 16384) (hl : limsOk l) :
    Calls Tryz.prog 19 #[.pointer (some ⟨g, 0, none⟩), v] w fun e w' => ∃ v1 ns, e = .returned (.agg #[v1, .int .i64 0]) ∧ Dk w' g ∧ w.grownBy w' (some g) ∧ inL l ns ∧ ns.length = l.length ∧ SE g w' v1 ns := by
  have HD := Lib.hid hD
  have HS := Lib.hid h
  have HL : Hid (limsOk l) := hl
  have hgw : g < w.heap.size := hD.lt
  obtain ⟨A, c, rfl⟩ := h.form
  clear h hl hD
  go_enter Tryz.func19, Tryz.ntmps19
  obtain ⟨R, eR⟩ : ∃ R, R = w.heap.size := ⟨_, rfl⟩
  obtain ⟨w1, ew1⟩ : ∃ w1 : World, w1 = w.alloc (.cells #[.slice none 0 0, .int .i64 0] 39) := ⟨_, rfl⟩
  have HW1 : Hid (w.alloc (.cells #[.slice none 0 0, .int .i64 0] 39) = w1) := ew1.symm
  have HR1 : Hid (w1.heap[R]? = some (.cells #[.slice none 0 0, .int .i64 0] 39 (0, 0))) := (show Hid _ from by show _ = _; rw [ew1, eR]; exact heap_alloc_new w _)
  have HB1 : Hid (Below w.heap.size w w1) := (show Hid _ from by rw [ew1]; exact (Below.refl _ w).alloc (Nat.le_refl _) _)
  have hz1 : w1.heap.size = R + 1 := by rw [ew1, eR]; simp
  have HS1 := Lib.hid (HS.out.below HB1.out)
  have HD1 := Lib.hid (HD.out.below HB1.out)
  have hgR : g < R := by omega
  have HER := Lib.hid eR
  clear ew1
  go_upto_region 1 with fail
  rw [HW1.out, ← eR]
  clear eR
  go_wp2_with fail
  (with_reducible refine (next_any 2147483646 g w1 HD1.out i64_prime (by omega)).mono ?_)
  rintro e w2 ⟨x, rfl, _, hx, hd2, hg2⟩
  obtain ⟨hx1, hx2⟩ := hx (by omega)
  have HD2 := Lib.hid hd2
  have HG2 := Lib.hid hg2
  have HS2 := Lib.hid (HS1.out.grown hg2)
  have m1 : IntKind.i64.wrap (1 + x) = 1 + x := by exact IntWalk.i64_in _ (by omega)
  clear hx hd2 hg2
  go_wp2_with fail
  (with_reducible refine (seeded_any (1 + x) l _ w2 (by omega) (by omega) HS2.out.si hz HL.out).mono ?_)
  rintro e w3 ⟨v1, ns, rfl, hb3, hin, hlen, hown⟩
  obtain ⟨A1, c1, ev1⟩ := own_sl hown
  subst ev1
  have HIN := Lib.hid hin
  have HLEN := Lib.hid hlen
  have HOW := Lib.hid hown
  obtain ⟨nn, enn⟩ : ∃ nn, nn = ns.length := ⟨_, rfl⟩
  rw [← enn] at HOW ⊢
  have HNN := Lib.hid enn
  have HR2 : Hid (w2.heap[R]? = some (.cells #[.slice none 0 0, .int .i64 0] 39 (0, 0))) := (show Hid _ from (HG2.out.block R (by omega) (by simp; omega)).trans HR1.out)
  have hR2 : R < w2.heap.size := heap_of_cells HR2.out
  have HR3 : Hid (w3.heap[R]? = some (.cells #[.slice none 0 0, .int .i64 0] 39 (0, 0))) := (show Hid _ from (hb3.block R hR2).trans HR2.out)
  have hR3 : R < w3.heap.size := heap_of_cells HR3.out
  have HD3 := Lib.hid (HD2.out.below hb3)
  have HG3 : Hid (w.grownBy w3 (some g)) := grownBy_trans (grownBy_of_below HB1.out _) (grownBy_trans HG2.out (grownBy_of_below hb3 _))
  have hz23 : w2.heap.size ≤ w3.heap.size := hb3.size
  clear hin hlen hown hb3 enn
  obtain ⟨O, eO⟩ : ∃ O, O = w3.heap.size := ⟨_, rfl⟩
  obtain ⟨w4, ew4⟩ : ∃ w4 : World, w4 = w3.alloc (.cells #[.slice A1 nn c1, .int .i64 0] 39) := ⟨_, rfl⟩
  have HW4 : Hid (w3.alloc (.cells #[.slice A1 nn c1, .int .i64 0] 39) = w4) := ew4.symm
  have HO4 : Hid (w4.heap[O]? = some (.cells #[.slice A1 nn c1, .int .i64 0] 39 (0, 0))) := (show Hid _ from by show _ = _; rw [ew4, eO]; exact heap_alloc_new w3 _)
  have HB4 : Hid (Below w3.heap.size w3 w4) := (show Hid _ from by rw [ew4]; exact (Below.refl _ w3).alloc (Nat.le_refl _) _)
  have HR4 : Hid (w4.heap[R]? = some (.cells #[.slice none 0 0, .int .i64 0] 39 (0, 0))) := (show Hid _ from (HB4.out.block R hR3).trans HR3.out)
  have HEO := Lib.hid eO
  clear ew4
  go_upto_region 2 with fail
  rw [HW4.out, ← eO]
  clear eO
  have cO0 : w4.cell? ⟨O, 0, none⟩ = some (.slice A1 nn c1) := cell_of_row w4 O 0 _ _ _ HO4.out
  have cO1 : w4.cell? ⟨O, 1, none⟩ = some (.int .i64 0) := cell_of_row w4 O 1 _ _ _ HO4.out
  have cR0 : w4.cell? ⟨R, 0, none⟩ = some (.slice none 0 0) := cell_of_row w4 R 0 _ _ _ HR4.out
  have cR1 : w4.cell? ⟨R, 1, none⟩ = some (.int .i64 0) := cell_of_row w4 R 1 _ _ _ HR4.out
  have fR0 : w4.frozen? ⟨R, 0, none⟩ = false := frozen_of_row w4 R 0 _ _ HR4.out
  have fR1 : w4.frozen? ⟨R, 1, none⟩ = false := frozen_of_row w4 R 1 _ _ HR4.out
  go_wp2_with fail
  have HW := store2 (.slice A1 nn c1) (.int .i64 0) HR4.out
  have q0 := cell_of_row _ R 0 _ _ _ HW
  have q1 := cell_of_row _ R 1 _ _ _ HW
  simp only [List.getElem?_toArray, List.getElem?_cons_zero, List.getElem?_cons_succ] at q0 q1
  have hRw : w.heap.size ≤ R := by have := HER.out; omega
  have hG5 : w4.grownBy ((w4.setCell ⟨R, 0, none⟩ (.slice A1 nn c1)).setCell ⟨R, 1, none⟩ (.int .i64 0)) (some R) := grownBy_setCell (g := R) (p := ⟨R, 1, none⟩) (grownBy_setCell (g := R) (p := ⟨R, 0, none⟩) (grownBy_refl _ _) (.inl rfl) _) (.inl rfl) _
  have hGf : w.grownBy ((w4.setCell ⟨R, 0, none⟩ (.slice A1 nn c1)).setCell ⟨R, 1, none⟩ (.int .i64 0)) (some g) := grownBy_own (grownBy_trans HG3.out (grownBy_of_below HB4.out _)) hG5 (fun k hk => by injection hk with e; omega)
  have hDf : Dk ((w4.setCell ⟨R, 0, none⟩ (.slice A1 nn c1)).setCell ⟨R, 1, none⟩ (.int .i64 0)) g := (HD3.out.below HB4.out).grown hG5 (fun k hk => by injection hk with e; omega)
  refine bodyPost_ret (v := .agg #[.slice A1 nn c1, .int .i64 0]) (by simp [results, Tryz.results19, go_sem, q0, q1]) rfl ⟨_, ns, rfl, hDf, hGf, HIN.out, HLEN.out, ?_⟩
  have ho := own_bel HOW.out HB4.out
  have ho2 := own_set3 (own_set3 ho (p := ⟨R, 0, none⟩) hR2 (.slice A1 nn c1)) (p := ⟨R, 1, none⟩) hR2 (.int .i64 0)
  rw [HNN.out] at ho2 ⊢
  exact SE.of_own ho2 (inL_r HIN.out (fun x hx => (HL.out x hx).2)) (by omega)
end Go.Proofs.YtbgabipngdillaaGreatDoor

namespace Go.Proofs.YtbgabipngdillaaGreatDoor
open Go.RowKit

def tsB (a b : Int) (x y : List Int) : Bool := decide (a = b ∧ x = y)
set_option maxHeartbeats 1000000 in
theorem tsame_any (a b : Int) (x y : List Int) (vx vy : Value) (w : World) (hx : SI w vx x) (hy : SI w vy y) :
    Calls Tryz.prog 20 #[.agg #[vx, .int .i64 a], .agg #[vy, .int .i64 b]] w fun e w' => e = .returned (.bool (tsB a b x y)) ∧ Below w.heap.size w w' := by
  obtain ⟨A1, c1, rfl, hc1, hm1, hr1, ha1⟩ := hx
  obtain ⟨A2, c2, rfl, hc2, hm2, hr2, ha2⟩ := hy
  have HA1 := Lib.hid ha1
  have HA2 := Lib.hid ha2
  have hbb : Below w.heap.size w ((w.alloc (.cells #[.slice A1 x.length c1, .int .i64 a] 39)).alloc (.cells #[.slice A2 y.length c2, .int .i64 b] 39)) := ((Below.refl _ _).alloc (Nat.le_refl _) _).alloc (by simp) _
  clear ha1 ha2 hr1 hr2
  by_cases h1 : a = b
  · have hd1 : (a != b) = false := by simpa using h1
    by_cases h3 : x.length = y.length
    · have hd3 : ((x.length : Int) != (y.length : Int)) = false := by rw [bne_eq_false_iff_eq]; omega
      have HS : Hid (tsB a b x y = decide (x = y)) := by show _ = _; unfold tsB; simp [h1]
      have H3 := Lib.hid h3
      clear h1 h3
      go_enter Tryz.func20, Tryz.ntmps20
      go_wp2_with fail
      have q0 : ((w.alloc (.cells #[.slice A1 x.length c1, .int .i64 a] 39)).alloc (.cells #[.slice A2 y.length c2, .int .i64 b] 39)).cell? ⟨w.heap.size, 0, none⟩ = some (.slice A1 x.length c1) := by simp [go_sem]
      have q1 : ((w.alloc (.cells #[.slice A1 x.length c1, .int .i64 a] 39)).alloc (.cells #[.slice A2 y.length c2, .int .i64 b] 39)).cell? ⟨w.heap.size + 1, 0, none⟩ = some (.slice A2 y.length c2) := by simp [go_sem]
      obtain ⟨wx, ewx⟩ : ∃ wx : World, wx = (w.alloc (.cells #[.slice A1 x.length c1, .int .i64 a] 39)).alloc (.cells #[.slice A2 y.length c2, .int .i64 b] 39) := ⟨_, rfl⟩
      have hzx : w.heap.size + 2 = wx.heap.size := by rw [ewx]; simp
      rw [← ewx] at hbb q0 q1 ⊢
      clear ewx
      go_loopw [23] (fun i wr => ∃ k n : Nat, k ≤ x.length ∧ i = .int .i64 k ∧ nA4 x y k ∧ wr = wx.drewN n) (fun i _ => x.length - (intOf i).toNat)
      case atStart => exact ⟨0, 0, Nat.zero_le _, rfl, fun j h => absurd h (by omega), rfl⟩
      case round =>
        obtain ⟨k, n, hk, rfl, hne, rfl⟩ := hrel
        have HN := Lib.hid hne
        clear hne
        by_cases hlt : k < x.length
        · have hlt2 : k < y.length := by have := H3.out; omega
          obtain ⟨bx, ox, rfl, hbx, hcx⟩ := HA1.out (by omega)
          obtain ⟨by_, oy, rfl, hby, hcy⟩ := HA2.out (by omega)
          have cx := (hbb.cell (p := ⟨bx, ox + k, none⟩) hbx).trans (hcx k hlt)
          have cy := (hbb.cell (p := ⟨by_, oy + k, none⟩) hby).trans (hcy k hlt2)
          have z1 : (0 : Int) ≤ (k : Int) := by omega
          have z2 : (k : Int) < (x.length : Int) := by omega
          have z3 : (k : Int) < (y.length : Int) := by omega
          clear hcx hcy
          by_cases he : x[k] = y[k]
          · have hd4 : (x[k] != y[k]) = false := by simpa using he
            have HN2 : Hid (nA4 x y (k + 1)) := nA4_step HN.out hlt hlt2 he
            clear he
            go_wp2_with fail
            go_quiet (fail)
            go_wp2_with fail
            go_goals
            go_roundw
            case rel => exact ⟨k + 1, n + nq, by omega, by go_num, HN2.out, rfl⟩
            case measure => simp [intOf]; omega
          · have hd4 : (x[k] != y[k]) = true := by simpa using he
            have HF : Hid (tsB a b x y = false) := by show _ = _; rw [HS.out]; exact decide_eq_false (fun e => he (by subst e; rfl))
            clear he
            go_wp2_with fail
            go_quiet (fail)
            go_wp2_with fail
            go_ret
            exact ⟨ret_bool HF.out.symm, Below.drewN (Below.drewN hbb _) _⟩
        · have HF : Hid (tsB a b x y = true) := by
            have hkx : k = x.length := by omega
            subst hkx
            show _ = _
            rw [HS.out]
            exact decide_eq_true (nA4_eq H3.out HN.out)
          go_wp2_with fail
          go_ret
          exact ⟨ret_bool HF.out.symm, Below.drewN hbb _⟩
    · have hd3 : ((x.length : Int) != (y.length : Int)) = true := by rw [bne_iff_ne]; omega
      have HF : Hid (tsB a b x y = false) := decide_eq_false (fun e => h3 (by rw [e.2]))
      clear h1 h3
      go_enter Tryz.func20, Tryz.ntmps20
      go_wp2_with fail
      go_ret
      exact ⟨ret_bool HF.out.symm, hbb⟩
  · have hd1 : (a != b) = true := by simpa using h1
    have HF : Hid (tsB a b x y = false) := decide_eq_false (fun e => h1 e.1)
    clear h1
    go_enter Tryz.func20, Tryz.ntmps20
    go_wp2_with fail
    go_ret
    exact ⟨ret_bool HF.out.symm, hbb⟩
end Go.Proofs.YtbgabipngdillaaGreatDoor

namespace Go.Proofs.YtbgabipngdillaaGreatDoor
open Go.RowKit

theorem i64r_wf {x : Int} (h : (Lit.int .i64 x).wf = true) : i64r x := by
  unfold i64r
  simp [Lit.wf, IntKind.min, IntKind.max, IntKind.signed, IntKind.bits] at h
  omega
theorem u16_nat {x : Int} (h : (Lit.int .u16 x).wf = true) : 0 ≤ x ∧ x < 65536 := by
  simp [Lit.wf, IntKind.min, IntKind.max, IntKind.signed, IntKind.bits] at h
  omega
theorem u8_nat {x : Int} (h : (Lit.int .u8 x).wf = true) : 0 ≤ x ∧ x < 256 := by
  simp [Lit.wf, IntKind.min, IntKind.max, IntKind.signed, IntKind.bits] at h
  omega
theorem SI_row {w : World} {a : Option Addr} {len cap : Nat} {zs : List Int}
    (h : (a = none ∧ len = 0 ∧ cap = 0 ∧ zs = []) ∨ ∃ x, a = some x ∧ len ≤ cap ∧ cap ≤ maxLen ∧ zs.length = cap ∧ (∀ i, i < zs.length → w.cell? (x.add i) = some (.int .i64 (zs.getD i 0))) ∧ ∀ n ∈ zs, (Lit.int .i64 n).wf = true) :
    SI w (.slice a len cap) (zs.take len) := by
  rcases h with ⟨rfl, rfl, rfl, rfl⟩ | ⟨x, rfl, hl, hm, hz, hc, hw⟩
  · exact ⟨none, 0, rfl, Nat.le_refl _, by omega, by simp, fun h => by simp at h⟩
  · have hlen : (zs.take len).length = len := by rw [List.length_take]; omega
    refine ⟨some x, cap, by rw [hlen], by omega, by simpa [maxLen] using hm, fun y hy => i64r_wf (hw y (List.mem_of_mem_take hy)), fun h0 => ?_⟩
    obtain ⟨b, off, rfl, hcell⟩ := ints_at hc (by omega)
    refine ⟨b, off, rfl, World.block_lt_of_cell? w _ (hcell 0 (by omega)), fun j hj => ?_⟩
    rw [hcell j (by omega), List.getElem_take]
    simp [List.getD, show j < zs.length by omega]
end Go.Proofs.YtbgabipngdillaaGreatDoor

namespace Go.Proofs.YtbgabipngdillaaGreatDoor
open Go.ChangeShapes Go.WideShapes Go.RowKit

def laidE : List (String × DataW Unit) := [("privatefetch/unique.errWrong", Rows.laid_privatefetch_unique_errWrong)]
theorem gErr : Tryz.prog.globalNamed "privatefetch/unique.errWrong" = some 0 := by kernel_rfl
theorem tErr : (Tryz.prog.globals[0]?).map (·.type) = some 154 := by kernel_rfl
theorem uErr : ∃ ms, Tryz.prog.underlying 154 = some (.interface ms) := ⟨_, Tryz.underlying154⟩
theorem uFail : ∃ f, Tryz.prog.underlying 191 = some (.struct #[f]) ∧ f.type = 32 ∧ f.offset = 0 := ⟨_, Tryz.underlying191, rfl, rfl⟩
theorem oneFail : ((List.range Tryz.prog.types.size).filter fun t => Tryz.prog.typeName? 3 t == some "privatefetch/unique.failure") = [191] := by kernel_rfl
set_option maxRecDepth 100000 in
theorem nFail (u : TypeId) (h : Tryz.prog.typeName? 3 u = some "privatefetch/unique.failure") : u = 191 := by
  have hlt : u < Tryz.prog.types.size := by
    rcases Nat.lt_or_ge u Tryz.prog.types.size with hl | hl
    · exact hl
    · exfalso
      have hnl : ¬ u < Tryz.prog.types.size := Nat.not_lt.2 hl
      unfold Program.typeName? at h
      split at h
      · rename_i i hi
        have hto := Tables.info?_beyond hnl hi
        split at h
        · rename_i hd
          rw [hd] at hto
          cases hto
        · obtain ⟨a, _, e⟩ := Option.map_eq_some_iff.1 h
          have e2 := congrArg (fun s : String => s.toList.head?) e
          simp [String.toList_append] at e2
        · rename_i hd; rw [hd] at hto; cases hto
        · rename_i hd; rw [hd] at hto; cases hto
        · rename_i hd; rw [hd] at hto; cases hto
        · rename_i hd; rw [hd] at hto; cases hto
        · cases h
      · cases h
  have hm : u ∈ (List.range Tryz.prog.types.size).filter fun t => Tryz.prog.typeName? 3 t == some "privatefetch/unique.failure" := List.mem_filter.2 ⟨List.mem_range.2 hlt, by rw [h]; simp⟩
  rw [oneFail] at hm
  exact List.mem_singleton.1 hm
set_option maxRecDepth 100000 in
/-- WHAT THE CONDITION GIVES: the variable's one cell. -/
theorem ew_of_laid {W : World} (h : laidMetH Tryz.prog laidE W) : EW W := by
  rw [MakeChecks.laidMetH_plain _ _ _ (by kernel_rfl)] at h
  obtain ⟨ps, ⟨g, t, cs, fuel, p, q, hg, ht, hv, hd, _, hps⟩, _, hok⟩ := h
  obtain rfl := Option.some.inj (gErr.symm.trans hg)
  obtain rfl := Option.some.inj (tErr.symm.trans ht)
  obtain ⟨ms, hi⟩ := uErr
  obtain ⟨f, he, hft, hfo⟩ := uFail
  obtain ⟨f1, u, v, hcs, hn, h1⟩ := iface_of_trod hi hd
  obtain rfl := nFail u hn
  have hcell : W.cell? ⟨0, 0, none⟩ = some (.iface 191 v) := by
    have := World.var?_cell hg hv 0
    rw [Array.eq_one_of_toList hcs] at this
    simpa using this
  have hmem : MemPlace.cell 0 0 ∈ ps := by
    rw [hps, Array.eq_one_of_toList hcs]
    simp [MemPlace.row]
  obtain ⟨⟨c, t', hblk⟩, hokv⟩ := hok 0 0 hmem
  obtain ⟨xs, rfl, hsz⟩ := okWide_struct he (hokv _ _ hcell)
  obtain ⟨y0, n, hx, hl, hy⟩ := trod_struct1 he h1
  have c191 : Tryz.prog.cellsOf 191 = 1 := by kernel_rfl
  have c3 : Tryz.prog.cellsOf 32 = 1 := by kernel_rfl
  rw [hft, hfo, c3] at hy
  rw [c191] at hsz
  have hxs : ∃ z, xs = #[z] := by
    have := hsz
    obtain ⟨l⟩ := xs
    match l, this with
    | [z], _ => exact ⟨z, rfl⟩
  obtain ⟨z, rfl⟩ := hxs
  obtain ⟨k, e1, e2, _⟩ := DataW.trod_int Tryz.underlying32 hy
  simp only [Prod.mk.injEq, DataW.agg.injEq, List.cons.injEq, and_true] at hx
  have hk : k = 12 := by
    have := hx.1
    rw [e2] at this
    simpa using this.symm
  subst hk
  have hz : z = .int .i64 12 := by simpa [Value.cells] using e1
  subst hz
  exact ⟨hcell, heap_of_cells (g := 0) (cs := c) (t := t') hblk⟩
end Go.Proofs.YtbgabipngdillaaGreatDoor
