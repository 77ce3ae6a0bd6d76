/- Joined: Ua Ub. -/
import Derived.Test.YtoiabanpnkpbhaaGreatDoorZ07
import Derived.Test.YtoiabanpnkpbhaaGreatDoorZ09
import Derived.Test.YtoiabanpnkpbhaaGreatDoorZ20
import Derived.Test.YtoiabanpnkpbhaaGreatDoorZ25
import Derived.Test.YtoiabanpnkpbhaaGreatDoorZ24
import Derived.Test.YtoiabanpnkpbhaaGreatDoorZ21
namespace Go.Proofs.YtoiabanpnkpbhaaGreatDoor
open Go.RowKit

set_option maxRecDepth 100000 in
set_option maxHeartbeats 2000000 in
theorem r18Check_ok (P n t G : Int) (w : World) (h : SV P n t G) :
    Calls Tryz.prog 38 #[.agg #[.int .i64 P], .agg #[.int .i64 n, .int .i64 t, .int .i64 G]] w fun e w' => e = .returned (.int .i64 0) ∧ Below w.heap.size w w' := by
  obtain ⟨hp, hn2, hn10, hnP, ht1, hG1, hs⟩ := h
  have hPb := prB_bd hp
  have HP := Lib.hid hp
  clear hp
  go_enter Tryz.func38, Tryz.ntmps38
  obtain ⟨F, eF⟩ : ∃ F, F = w.heap.size := ⟨_, rfl⟩
  obtain ⟨w1, ew⟩ : ∃ w1 : World, w1 = (w.alloc (.cells #[.int .i64 P] 31)).alloc (.cells #[.int .i64 n, .int .i64 t, .int .i64 G] 29) := ⟨_, rfl⟩
  have HW1 : Hid ((w.alloc (.cells #[.int .i64 P] 31)).alloc (.cells #[.int .i64 n, .int .i64 t, .int .i64 G] 29) = w1) := ew.symm
  have HB1 : Hid (Below w.heap.size w w1) := (show Hid _ from by rw [ew]; exact ((Below.refl _ w).alloc (Nat.le_refl _) _).alloc (by simp) _)
  have HF1 : Hid (w1.heap[F]? = some (.cells #[.int .i64 P] 31 (0, 0))) := (show Hid _ from by show _ = _; rw [ew, eF, Below.heap_alloc _ _ _ (by simp)]; exact heap_alloc_new w _)
  have HS1 : Hid (w1.heap[F + 1]? = some (.cells #[.int .i64 n, .int .i64 t, .int .i64 G] 29 (0, 0))) := (show Hid _ from by show _ = _; rw [ew, eF]; have := heap_alloc_new (w.alloc (.cells #[.int .i64 P] 31)) (.cells #[.int .i64 n, .int .i64 t, .int .i64 G] 29); simpa using this)
  go_upto_region 1 with fail
  rw [HW1.out, ← eF]
  clear ew eF
  have f0 : w1.cell? ⟨F, 0, none⟩ = some (.int .i64 P) := cell_of_row w1 F 0 _ _ _ HF1.out
  go_wp2_with fail
  (with_reducible refine (rcheck_any P _ (by unfold i64r; omega)).mono ?_)
  rintro e w2 ⟨rfl, hb2⟩
  have hrc : rcE P = 0 := by unfold rcE; rw [HP.out]; rfl
  rw [hrc]
  have HB2 : Hid (Below w.heap.size w w2) := HB1.out.trans (hb2.mono HB1.out.size)
  have f0 : w2.cell? ⟨F, 0, none⟩ = some (.int .i64 P) := cell_of_row w2 F 0 _ _ _ ((hb2.block F (heap_of_cells HF1.out)).trans HF1.out)
  have s0 : w2.cell? ⟨F + 1, 0, none⟩ = some (.int .i64 n) := cell_of_row w2 (F + 1) 0 _ _ _ ((hb2.block (F + 1) (heap_of_cells HS1.out)).trans HS1.out)
  have s1 : w2.cell? ⟨F + 1, 1, none⟩ = some (.int .i64 t) := cell_of_row w2 (F + 1) 1 _ _ _ ((hb2.block (F + 1) (heap_of_cells HS1.out)).trans HS1.out)
  have s2 : w2.cell? ⟨F + 1, 2, none⟩ = some (.int .i64 G) := cell_of_row w2 (F + 1) 2 _ _ _ ((hb2.block (F + 1) (heap_of_cells HS1.out)).trans HS1.out)
  have d1 : decide (n < 2) = false := decide_eq_false (by omega)
  have d2 : decide (10 < n) = false := decide_eq_false (by omega)
  have d3 : decide (P ≤ n) = false := decide_eq_false (by omega)
  have d4 : decide (t < 1) = false := decide_eq_false (by omega)
  have d5 : decide (G < 1) = false := decide_eq_false (by omega)
  have d6 : decide (n < t) = false := decide_eq_false (by omega)
  have d7 : decide (n < G) = false := decide_eq_false (by omega)
  have m1 : IntKind.i64.wrap (2 * G) = 2 * G := by exact IntWalk.i64_in _ (by omega)
  have m2 : IntKind.i64.wrap (2 * G + t) = 2 * G + t := by exact IntWalk.i64_in _ (by omega)
  have m3 : IntKind.i64.wrap (2 * G + t - 1) = 2 * G + t - 1 := by exact IntWalk.i64_in _ (by omega)
  have d8 : decide (n < 2 * G + t - 1) = false := decide_eq_false (by omega)
  clear hb2
  go_wp2_with fail
  go_ret
  exact ⟨rfl, HB2.out⟩
set_option maxRecDepth 100000 in
set_option maxHeartbeats 2000000 in
theorem r18groups_ok (n t : Int) (G m : Nat) (w : World) (hG : 1 ≤ G ∧ G ≤ 10) (hm : m ≤ 1024) :
    Calls Tryz.prog 30 #[.agg #[.int .i64 n, .int .i64 t, .int .i64 G], .int .i64 m] w fun e w' => e = .returned (.tuple #[.int .i64 (ngr m G : Nat), .int .i64 0]) ∧ Below w.heap.size w w' := by
  have HN := Lib.hid (ngr_parts (len := m) hG.1)
  go_enter Tryz.func30, Tryz.ntmps30
  obtain ⟨F, eF⟩ : ∃ F, F = w.heap.size := ⟨_, rfl⟩
  obtain ⟨w1, ew⟩ : ∃ w1 : World, w1 = w.alloc (.cells #[.int .i64 n, .int .i64 t, .int .i64 G] 29) := ⟨_, rfl⟩
  have HW1 : Hid (w.alloc (.cells #[.int .i64 n, .int .i64 t, .int .i64 G] 29) = w1) := ew.symm
  have HB1 : Hid (Below w.heap.size w w1) := (show Hid _ from by rw [ew]; exact (Below.refl _ w).alloc (Nat.le_refl _) _)
  have HS1 : Hid (w1.heap[F]? = some (.cells #[.int .i64 n, .int .i64 t, .int .i64 G] 29 (0, 0))) := (show Hid _ from by show _ = _; rw [ew, eF]; exact heap_alloc_new w _)
  go_upto_region 1 with fail
  rw [HW1.out, ← eF]
  clear ew eF
  have s2 : w1.cell? ⟨F, 2, none⟩ = some (.int .i64 G) := cell_of_row w1 F 2 _ _ _ HS1.out
  have d1 : decide ((G : Int) < 1) = false := decide_eq_false (by omega)
  have d2 : decide (G < 1) = false := decide_eq_false (by omega)
  have d3 : decide ((m : Int) < 0) = false := decide_eq_false (by omega)
  have d4 : decide ((1024 : Int) < (m : Int)) = false := decide_eq_false (by omega)
  have d5 : decide (1024 < m) = false := decide_eq_false (by omega)
  have hG0 : ¬ G = 0 := by omega
  have hG0' : ¬ (G : Int) = 0 := by omega
  obtain ⟨q, eq⟩ : ∃ q, q = m / G := ⟨_, rfl⟩
  obtain ⟨r, er⟩ : ∃ r, r = m % G := ⟨_, rfl⟩
  have hq : q ≤ 1024 := by rw [eq]; exact Nat.le_trans (Nat.div_le_self _ _) hm
  have m1 : (m : Int).tdiv (G : Int) = (q : Int) := by rw [eq]; exact (Int.ofNat_tdiv m G).symm
  have m2 : (m : Int).tmod (G : Int) = (r : Int) := by rw [er]; exact (Int.ofNat_tmod m G).symm
  have m3 : IntKind.i64.wrap (q : Int) = (q : Int) := by exact IntWalk.i64_in _ (by omega)
  have m4 : IntKind.i64.wrap ((q : Int) + 1) = (q : Int) + 1 := by exact IntWalk.i64_in _ (by omega)
  have HQ := Lib.hid eq
  have HR := Lib.hid er
  clear eq er
  by_cases hr : r = 0
  · have d6 : decide ((0 : Int) < (r : Int)) = false := decide_eq_false (by omega)
    have d7 : decide (0 < r) = false := decide_eq_false (by omega)
    have HE : Hid (ngr m G = q) := (show Hid _ from by
      show _ = _
      rw [HN.out, ← HR.out, ← HQ.out, if_pos hr]; rfl)
    clear hr
    go_wp2_with fail
    refine bodyPost_ret (results_tmp2 rfl _ _ _) rfl ?_
    exact ⟨by rw [HE.out]; rfl, HB1.out⟩
  · have d6 : decide ((0 : Int) < (r : Int)) = true := decide_eq_true (by omega)
    have d7 : decide (0 < r) = true := decide_eq_true (by omega)
    have HE : Hid (ngr m G = q + 1) := (show Hid _ from by
      show _ = _
      rw [HN.out, ← HR.out, ← HQ.out, if_neg hr])
    clear hr
    go_wp2_with fail
    refine bodyPost_ret (results_tmp2 rfl _ _ _) rfl ?_
    exact ⟨by rw [HE.out]; rfl, HB1.out⟩
def Pw3 (P a : Int) (n : Nat) (w1 : World) (xv av nv : Value) (wr : World) : Prop :=
  ∃ (x b : Int) (k : Nat), xv = .int .i64 x ∧ av = .int .i64 b ∧ nv = .int .i64 k ∧ k ≤ 10 ∧ 0 ≤ x ∧ x < P ∧ 0 ≤ b ∧ b < P ∧ P ∣ x * b ^ k - a ^ n ∧ w1 = wr
set_option maxRecDepth 100000 in
set_option maxHeartbeats 4000000 in
theorem rpow_any (P a : Int) (n : Nat) (w : World) (hP : 2 ≤ P ∧ P ≤ 65521) (ha : 0 ≤ a ∧ a < P) (hn : n ≤ 10) :
    Calls Tryz.prog 63 #[.agg #[.int .i64 P], .int .i64 a, .int .i64 n] w fun e w' => e = .returned (.int .i64 (a ^ n % P)) ∧ Below w.heap.size w w' := by
  go_enter Tryz.func63, Tryz.ntmps63
  obtain ⟨F, eF⟩ : ∃ F, F = w.heap.size := ⟨_, rfl⟩
  obtain ⟨w1, ew⟩ : ∃ w1 : World, w1 = w.alloc (.cells #[.int .i64 P] 31) := ⟨_, rfl⟩
  have HW1 : Hid (w.alloc (.cells #[.int .i64 P] 31) = w1) := ew.symm
  have HB1 : Hid (Below w.heap.size w w1) := (show Hid _ from by rw [ew]; exact (Below.refl _ w).alloc (Nat.le_refl _) _)
  have HF1 : Hid (w1.heap[F]? = some (.cells #[.int .i64 P] 31 (0, 0))) := (show Hid _ from by show _ = _; rw [ew, eF]; exact heap_alloc_new w _)
  go_upto_region 1 with fail
  rw [HW1.out, ← eF]
  clear ew eF
  have f0 : w1.cell? ⟨F, 0, none⟩ = some (.int .i64 P) := cell_of_row w1 F 0 _ _ _ HF1.out
  have hP0 : ¬ P = 0 := by omega
  have h1 : (1 : Int).tmod P = 1 := by rw [Int.tmod_eq_emod_of_nonneg (by omega)]; exact Int.emod_eq_of_lt (by omega) (by omega)
  go_wp2_with fail
  go_loopw [7, 1, 2] (fun xv av nv wr => Pw3 P a n w1 xv av nv wr) (fun _ _ nv _ => (intOf nv).toNat)
  case atStart => exact ⟨1, a, n, by first | rfl | simp [h1], rfl, rfl, hn, by omega, by omega, ha.1, ha.2, ⟨0, by simp⟩, rfl⟩
  case round =>
    obtain ⟨x, b, k, rfl, rfl, rfl, hk, hx1, hx2, hb1, hb2, hd, rfl⟩ := hrel
    have HD := Lib.hid hd
    clear hd h1
    by_cases hk0 : k = 0
    · subst hk0
      have HX : Hid (x = a ^ n % P) := (show Hid _ from by
        have h := HD.out
        rw [Int.pow_zero, Int.mul_one] at h
        have h1 := Int.emod_eq_emod_iff_emod_sub_eq_zero.2 (Int.emod_eq_zero_of_dvd h)
        rw [Int.emod_eq_of_lt hx1 hx2] at h1
        exact h1)
      go_wp2_with fail
      go_ret
      exact ⟨by rw [HX.out]; rfl, HB1.out⟩
    · have hxb : 0 ≤ x * b % P ∧ x * b % P < P := ⟨Int.emod_nonneg _ (by omega), Int.emod_lt_of_pos _ (by omega)⟩
      have hbb : 0 ≤ b * b % P ∧ b * b % P < P := ⟨Int.emod_nonneg _ (by omega), Int.emod_lt_of_pos _ (by omega)⟩
      have m1 := mul_bd ⟨hx1, hx2⟩ ⟨hb1, hb2⟩ hP.2
      have m2 := mul_bd ⟨hb1, hb2⟩ ⟨hb1, hb2⟩ hP.2
      have w1_ : IntKind.i64.wrap (x * b) = x * b := by exact IntWalk.i64_in _ (by omega)
      have w2_ : IntKind.i64.wrap (b * b) = b * b := by exact IntWalk.i64_in _ (by omega)
      have t1_ : (x * b).tmod P = x * b % P := Int.tmod_eq_emod_of_nonneg (by omega)
      have t2_ : (b * b).tmod P = b * b % P := Int.tmod_eq_emod_of_nonneg (by omega)
      have w3_ : IntKind.i64.wrap (x * b % P) = x * b % P := by exact IntWalk.i64_in _ (by omega)
      have w4_ : IntKind.i64.wrap (b * b % P) = b * b % P := by exact IntWalk.i64_in _ (by omega)
      have HEV : Hid (∀ m : Nat, k = 2 * m → P ∣ x * (b * b % P) ^ m - a ^ n) := (show Hid _ from fun m hm => by
        have h1 := pw_even P x b m
        rw [← hm] at h1
        exact dvd_of_eq' (Int.dvd_add h1 HD.out) (by omega))
      have HOD : Hid (∀ m : Nat, k = 2 * m + 1 → P ∣ (x * b % P) * (b * b % P) ^ m - a ^ n) := (show Hid _ from fun m hm => by
        have h1 := pw_odd P x b m
        rw [← hm] at h1
        exact dvd_of_eq' (Int.dvd_add h1 HD.out) (by omega))
      have hc : k = 1 ∨ k = 2 ∨ k = 3 ∨ k = 4 ∨ k = 5 ∨ k = 6 ∨ k = 7 ∨ k = 8 ∨ k = 9 ∨ k = 10 := by omega
      clear HD hk0 hk m1 m2
      rcases hc with rfl | rfl | rfl | rfl | rfl | rfl | rfl | rfl | rfl | rfl
      all_goals
        go_wp2_with fail
        first
          | exact ⟨⟨_, _, 0, rfl, rfl, rfl, by omega, hxb.1, hxb.2, hbb.1, hbb.2, HOD.out 0 rfl, rfl⟩, by simp [intOf]⟩
          | exact ⟨⟨_, _, 1, rfl, rfl, rfl, by omega, hxb.1, hxb.2, hbb.1, hbb.2, HOD.out 1 rfl, rfl⟩, by simp [intOf]⟩
          | exact ⟨⟨_, _, 2, rfl, rfl, rfl, by omega, hxb.1, hxb.2, hbb.1, hbb.2, HOD.out 2 rfl, rfl⟩, by simp [intOf]⟩
          | exact ⟨⟨_, _, 3, rfl, rfl, rfl, by omega, hxb.1, hxb.2, hbb.1, hbb.2, HOD.out 3 rfl, rfl⟩, by simp [intOf]⟩
          | exact ⟨⟨_, _, 4, rfl, rfl, rfl, by omega, hxb.1, hxb.2, hbb.1, hbb.2, HOD.out 4 rfl, rfl⟩, by simp [intOf]⟩
          | exact ⟨⟨_, _, 1, rfl, rfl, rfl, by omega, hx1, hx2, hbb.1, hbb.2, HEV.out 1 rfl, rfl⟩, by simp [intOf]⟩
          | exact ⟨⟨_, _, 2, rfl, rfl, rfl, by omega, hx1, hx2, hbb.1, hbb.2, HEV.out 2 rfl, rfl⟩, by simp [intOf]⟩
          | exact ⟨⟨_, _, 3, rfl, rfl, rfl, by omega, hx1, hx2, hbb.1, hbb.2, HEV.out 3 rfl, rfl⟩, by simp [intOf]⟩
          | exact ⟨⟨_, _, 4, rfl, rfl, rfl, by omega, hx1, hx2, hbb.1, hbb.2, HEV.out 4 rfl, rfl⟩, by simp [intOf]⟩
          | exact ⟨⟨_, _, 5, rfl, rfl, rfl, by omega, hx1, hx2, hbb.1, hbb.2, HEV.out 5 rfl, rfl⟩, by simp [intOf]⟩
end Go.Proofs.YtoiabanpnkpbhaaGreatDoor

namespace Go.Proofs.YtoiabanpnkpbhaaGreatDoor
open Go.RowKit

theorem SL.at {w : World} {v : Value} {rows : List (List Int)} (h : SL w v rows) : ∃ A c, v = .slice A rows.length c ∧
    ∀ i (hi : i < rows.length), ∃ bh oh B d, A = some ⟨bh, oh, none⟩ ∧ ∀ W, Below w.heap.size w W → W.cell? ⟨bh, oh + i, none⟩ = some (.slice B rows[i].length d) ∧ SI W (.slice B rows[i].length d) rows[i] := by
  obtain ⟨A, c, rfl, _, _, ha⟩ := h
  refine ⟨A, c, rfl, fun i hi => ?_⟩
  obtain ⟨b, o, eA, hb, hc⟩ := ha (by omega)
  obtain ⟨B, d, h1, h2⟩ := hc i hi
  exact ⟨b, o, B, d, eA, fun W hW => ⟨(hW.cell (p := ⟨b, o + i, none⟩) hb).trans h1, h2.below hW⟩⟩
theorem SI.at {w : World} {B : Option Addr} {n d : Nat} {r : List Int} (h : SI w (.slice B n d) r) {k : Nat} (hk : k < r.length) : ∃ bb ob, B = some ⟨bb, ob, none⟩ ∧ w.cell? ⟨bb, ob + k, none⟩ = some (.int .i64 r[k]) := by
  obtain ⟨A2, c2, e2, _, _, _, ha2⟩ := h
  injection e2 with e21 e22 e23
  obtain ⟨bb, ob, e3, hbb, hcell⟩ := ha2 (by omega)
  exact ⟨bb, ob, by rw [e21]; exact e3, hcell k hk⟩
def Uh1 (N G wd : Nat) (P j : Int) (rows : List (List Int)) (g : Nat) (w2 : World) (v iv : Value) (wr : World) : Prop :=
  ∃ (k : Nat) (pv : Value) (vs : List Value), pv = v ∧ k ≤ N ∧ iv = .int .i64 k ∧ RW w2.heap.size g wr pv vs (hRows P rows j wd G k) ∧ Below w2.heap.size w2 wr
def Uh2 (z wd o b : Nat) (P j : Int) (rows : List (List Int)) (wo : World) (iv : Value) (wr : World) : Prop :=
  ∃ (i : Nat) (l : List Int), i ≤ z ∧ iv = .int .i64 i ∧ l = hdT P rows j wd o i ∧ BK wr b l ∧ Below wo.heap.size wo wr
theorem hRows_succ (P : Int) (rows : List (List Int)) (j : Int) (w G n : Nat) : hRows P rows j w G (n + 1) = hRows P rows j w G n ++ [hdT P rows j w (n * G) (gSz rows.length G n)] := by
  unfold hRows; rw [List.range_succ, List.map_append]; rfl
set_option maxRecDepth 100000 in
set_option maxHeartbeats 8000000 in
theorem rhold_ok (P n t : Int) (G wd j g : Nat) (rows : List (List Int)) (v : Value) (w : World) (hV : SV P n t G) (hj : 1 ≤ (j : Int) ∧ (j : Int) ≤ n) (hwd : wd ≤ 64) (hrl : rows.length ≤ 1024) (hrw : ∀ r ∈ rows, r.length = wd ∧ els P r = true) (h : SL w v rows) (hg : g < w.heap.size) :
    Calls Tryz.prog 39 #[.agg #[.int .i64 P], .agg #[.int .i64 n, .int .i64 t, .int .i64 G], .int .i64 wd, v, .int .i64 j] w fun e w' => ∃ A c, e = .returned (.tuple #[.slice A (ngr rows.length G) c, .int .i64 0]) ∧ Below w.heap.size w w' ∧ SLE g w' (.slice A (ngr rows.length G) c) (hRows P rows j wd G (ngr rows.length G)) := by
  have HV := Lib.hid hV
  have hPb := hV.pb
  have hn10 := hV.n10
  have hnP := hV.nP
  have hG : 1 ≤ G ∧ G ≤ 10 := by have := hV.G1; have := hV.sum; have := hV.t1; omega
  have HRW := Lib.hid hrw
  obtain ⟨Ar, cr, rfl, hat⟩ := h.at
  have HAT := Lib.hid hat
  obtain ⟨R, eR⟩ : ∃ R, R = rows.length := ⟨_, rfl⟩
  obtain ⟨N, eN⟩ : ∃ N, N = ngr rows.length G := ⟨_, rfl⟩
  have hNb := ngr_bd (len := rows.length) (G := G) hG.1
  rw [← eN] at hNb ⊢
  have HNb := Lib.hid hNb
  have HGR : Hid (∀ W, Calls Tryz.prog 30 #[.agg #[.int .i64 n, .int .i64 t, .int .i64 G], .int .i64 R] W fun e w' => e = .returned (.tuple #[.int .i64 N, .int .i64 0]) ∧ Below W.heap.size W w') := (show Hid _ from fun W => by
    have := r18groups_ok n t G rows.length W hG hrl
    rw [← eN, ← eR] at this
    exact this)
  have HR := Lib.hid eR
  have hNle : N ≤ 2048 := by
    have h2 : N * 1 ≤ N * G := Nat.mul_le_mul_left _ hG.1
    omega
  rw [← eR] at hrl
  clear hV hrw h hat eN hNb
  go_enter Tryz.func39, Tryz.ntmps39
  rw [← eR]
  obtain ⟨F, eF⟩ : ∃ F, F = w.heap.size := ⟨_, rfl⟩
  obtain ⟨w1, ew⟩ : ∃ w1 : World, w1 = (w.alloc (.cells #[.int .i64 P] 31)).alloc (.cells #[.int .i64 n, .int .i64 t, .int .i64 G] 29) := ⟨_, rfl⟩
  have HW1 : Hid ((w.alloc (.cells #[.int .i64 P] 31)).alloc (.cells #[.int .i64 n, .int .i64 t, .int .i64 G] 29) = w1) := ew.symm
  have HB1 : Hid (Below w.heap.size w w1) := (show Hid _ from by rw [ew]; exact ((Below.refl _ w).alloc (Nat.le_refl _) _).alloc (by simp) _)
  have HF1 : Hid (w1.heap[F]? = some (.cells #[.int .i64 P] 31 (0, 0))) := (show Hid _ from by show _ = _; rw [ew, eF, Below.heap_alloc _ _ _ (by simp)]; exact heap_alloc_new w _)
  have HS1 : Hid (w1.heap[F + 1]? = some (.cells #[.int .i64 n, .int .i64 t, .int .i64 G] 29 (0, 0))) := (show Hid _ from by show _ = _; rw [ew, eF]; have := heap_alloc_new (w.alloc (.cells #[.int .i64 P] 31)) (.cells #[.int .i64 n, .int .i64 t, .int .i64 G] 29); simpa using this)
  have HXC : Hid (∀ W, Below w1.heap.size w1 W → W.cell? ⟨F, 0, none⟩ = some (.int .i64 P) ∧ W.cell? ⟨F + 1, 0, none⟩ = some (.int .i64 n) ∧ W.cell? ⟨F + 1, 1, none⟩ = some (.int .i64 t) ∧ W.cell? ⟨F + 1, 2, none⟩ = some (.int .i64 G)) := (show Hid _ from fun W hb => by
    have h1 := (hb.block F (heap_of_cells HF1.out)).trans HF1.out
    have h2 := (hb.block (F + 1) (heap_of_cells HS1.out)).trans HS1.out
    exact ⟨cell_of_row W F 0 _ _ _ h1, cell_of_row W (F + 1) 0 _ _ _ h2, cell_of_row W (F + 1) 1 _ _ _ h2, cell_of_row W (F + 1) 2 _ _ _ h2⟩)
  have HGw1 : Hid (g < w1.heap.size) := (show Hid _ from by have := HB1.out.size; show g < _; omega)
  clear eR
  go_upto_region 1 with fail
  rw [HW1.out, ← eF]
  clear ew eF
  obtain ⟨f0, s0, s1, s2⟩ := HXC.out w1 (Below.refl _ _)
  have d1 : decide ((j : Int) < 1) = false := decide_eq_false (by omega)
  have d1' : decide (j < 1) = false := decide_eq_false (by omega)
  have d2 : decide (n < (j : Int)) = false := decide_eq_false (by omega)
  have d3 : decide ((wd : Int) < 0) = false := decide_eq_false (by omega)
  have d4 : decide ((64 : Int) < (wd : Int)) = false := decide_eq_false (by omega)
  have d4' : decide (64 < wd) = false := decide_eq_false (by omega)
  have d5 : decide ((1024 : Int) < (R : Int)) = false := decide_eq_false (by omega)
  have d5' : decide (1024 < R) = false := decide_eq_false (by omega)
  go_wp2_with fail
  (with_reducible refine (r18Check_ok P n t G w1 HV.out).mono ?_)
  rintro e w2 ⟨rfl, hb2⟩
  have HB2 : Hid (Below w1.heap.size w1 w2) := hb2
  clear f0 s0 s1 s2
  obtain ⟨f0, s0, s1, s2⟩ := HXC.out w2 HB2.out
  clear hb2
  go_wp2_with fail
  clear d1 d1' d2 d3 d4 d4' d5 d5' f0 s0 s1 s2
  go_loopw [51] (fun iv wr => ∃ k : Nat, k ≤ R ∧ iv = .int .i64 k ∧ Below w1.heap.size w1 wr) (fun iv _ => R - (intOf iv).toNat)
  case atStart => exact ⟨0, Nat.zero_le _, rfl, HB2.out⟩
  case round =>
    obtain ⟨k, hk, rfl, hb⟩ := hrel
    have HB := Lib.hid hb
    clear hb
    by_cases hlk : k < R
    · have dk : decide (k < R) = true := decide_eq_true hlk
      have hkr : k < rows.length := by have := HR.out; omega
      obtain ⟨bh, oh, B, d, eA, hW⟩ := HAT.out k hkr
      subst eA
      obtain ⟨ck, hsk⟩ := hW wr (HB1.out.trans (HB.out.mono HB1.out.size))
      have hrk := HRW.out _ (List.getElem_mem hkr)
      obtain ⟨r, er⟩ : ∃ r, r = rows[k] := ⟨_, rfl⟩
      rw [← er] at ck hsk hrk
      rw [hrk.1] at ck hsk
      have HSK := Lib.hid hsk
      have HIN : Hid (inB P r = true) := (show Hid _ from by show _ = _; unfold inB; rw [HV.out.pr, hrk.2]; rfl)
      obtain ⟨f0, _⟩ := HXC.out wr HB.out
      clear hW hsk hrk er
      go_wp2_with fail
      (with_reducible refine (rin_any P r _ wr (by unfold i64r; omega) HSK.out).mono ?_)
      rintro e w3 ⟨rfl, hb3⟩
      rw [HIN.out]
      have HB3 : Hid (Below w1.heap.size w1 w3) := (show Hid _ from HB.out.trans (hb3.mono HB.out.size))
      clear hb3 f0 ck
      go_wp2_with fail
      go_roundw
      case rel => exact ⟨k + 1, by omega, by go_num, HB3.out⟩
      case measure => simp [intOf]; omega
    · have dk : decide (k < R) = false := decide_eq_false hlk
      clear hk
      obtain ⟨f0, s0, s1, s2⟩ := HXC.out wr HB.out
      go_wp2_with fail
      (with_reducible refine (HGR.out wr).mono ?_)
      rintro e w3 ⟨rfl, hb3⟩
      have HB3 : Hid (Below w1.heap.size w1 w3) := (show Hid _ from HB.out.trans (hb3.mono HB.out.size))
      have HGw3 : Hid (g < w3.heap.size) := (show Hid _ from by have := HB3.out.size; have := HGw1.out; show g < _; omega)
      clear hb3 f0 s0 s1 s2 HGR
      go_wp2_with fail
      go_loopw [17, 18] (fun v iv wr => Uh1 N G wd P j rows g w3 v iv wr) (fun _ iv _ => N - (intOf iv).toNat)
      case atStart => exact ⟨0, _, [], rfl, Nat.zero_le _, rfl, RW.nil _ _ _, Below.refl _ _⟩
      case round =>
        obtain ⟨q, pv, vs, rfl, hq, rfl, hrw, hb⟩ := hrel
        have HQW := Lib.hid hrw
        have HBq := Lib.hid hb
        have HBq1 : Hid (Below w1.heap.size w1 wr) := (show Hid _ from HB3.out.trans (hb.mono HB3.out.size))
        clear hrw hb
        by_cases hlq : q < N
        · have dq : decide (q < N) = true := decide_eq_true hlq
          obtain ⟨wo, ewo⟩ : ∃ wo : World, wo = wr := ⟨_, rfl⟩
          rw [← ewo] at HQW HBq HBq1 ⊢
          clear ewo
          obtain ⟨b, eb⟩ : ∃ b, b = wo.heap.size := ⟨_, rfl⟩
          obtain ⟨w6, ew6⟩ : ∃ w6 : World, w6 = wo.alloc (.cells ((zeros wd).map (Value.int .i64)).toArray 3) := ⟨_, rfl⟩
          have HB6 : Hid (Below wo.heap.size wo w6) := (show Hid _ from by rw [ew6]; exact (Below.refl _ _).alloc (Nat.le_refl _) _)
          have HK6 : Hid (BK w6 b (hdT P rows j wd (q * G) 0)) := (show Hid _ from by rw [ew6, eb]; exact heap_alloc_new wo _)
          have HEB := Lib.hid eb
          obtain ⟨z, ez⟩ : ∃ z, z = gSz R G q := ⟨_, rfl⟩
          obtain ⟨o, eo⟩ : ∃ o, o = q * G := ⟨_, rfl⟩
          have hoR : o < R := by
            have h1 := HNb.out.1
            have h2 : (q + 1) * G ≤ N * G := Nat.mul_le_mul_right G (by omega)
            rw [Nat.add_mul, Nat.one_mul] at h2
            have := HR.out
            omega
          have hz : z ≤ G ∧ o + z ≤ R ∧ (z = G ∨ o + z = R) := by rw [ez]; unfold gSz; rw [← eo]; omega
          have hqb : q ≤ 2048 := by omega
          have ho1 : IntKind.i64.wrap ((q : Int) * (G : Int)) = (o : Int) := by
            have e : (q : Int) * (G : Int) = (o : Int) := by rw [eo, Int.natCast_mul]
            rw [e]; exact IntWalk.i64_in _ (by omega)
          have HNXT : Hid (hRows P rows j wd G (q + 1) = hRows P rows j wd G q ++ [hdT P rows j wd o z]) := (show Hid _ from by
            show _ = _
            rw [hRows_succ, ez, eo, HR.out])
          rw [← eo] at HK6
          have HZ := Lib.hid ez
          have HO := Lib.hid eo
          clear ez eo
          go_wp2_with (at_make; refine wpList_make_ints _ rfl _ _ 22 rfl 3 Tryz.underlying22 iinfo _ wd rfl rfl rfl (by omega) ?_)
          rw [← ew6, ← eb]
          clear ew6 eb
          go_wp2_with fail
          go_loopw [20] (fun iv wr => Uh2 z wd o b P j rows wo iv wr) (fun iv _ => z - (intOf iv).toNat)
          case atStart => exact ⟨0, _, Nat.zero_le _, rfl, rfl, HK6.out, HB6.out⟩
          case round =>
            obtain ⟨i, L, hi, rfl, hL, hbk, hb2⟩ := hrel
            have HL := Lib.hid hL
            have HBK := Lib.hid hbk
            have HBi := Lib.hid hb2
            have HBi1 : Hid (Below w1.heap.size w1 wr) := (show Hid _ from HBq1.out.trans (hb2.mono HBq1.out.size))
            clear hL hbk hb2
            obtain ⟨f0, s0, s1, s2⟩ := HXC.out wr HBi1.out
            have hsum : IntKind.i64.wrap ((o : Int) + (i : Int)) = ((o + i : Nat) : Int) := by rw [Int.natCast_add]; exact IntWalk.i64_in _ (by omega)
            obtain ⟨x1, ex1⟩ : ∃ x1, x1 = o + i := ⟨_, rfl⟩
            rw [← ex1] at hsum
            have HX1 := Lib.hid ex1
            have hx1 : x1 ≤ R := by omega
            have hix : i < z → x1 < R ∧ i < G := by omega
            have hnz : ¬ i < z → (¬ i < G) ∨ (i < G ∧ ¬ x1 < R) := by omega
            clear ex1
            by_cases hli : i < z
            · obtain ⟨hxR, hiG⟩ := hix hli
              have dG : decide (i < G) = true := decide_eq_true hiG
              have dR : decide (x1 < R) = true := decide_eq_true hxR
              clear hix hnz
              go_wp2_with fail
              (with_reducible refine (rpow_any P j i wr hPb (by omega) (by omega)).mono ?_)
              rintro e w7 ⟨rfl, hb7⟩
              have HB7 : Hid (Below wo.heap.size wo w7) := (show Hid _ from HBi.out.trans (hb7.mono HBi.out.size))
              have HB71 : Hid (Below w1.heap.size w1 w7) := (show Hid _ from HBi1.out.trans (hb7.mono HBi1.out.size))
              have HBK7 : Hid (BK w7 b L) := (show Hid _ from HBK.out.below hb7 HBK.out.lt)
              obtain ⟨x, ex⟩ : ∃ x, x = (j : Int) ^ i % P := ⟨_, rfl⟩
              rw [← ex]
              have hxb : 0 ≤ x ∧ x < P := by rw [ex]; exact ⟨Int.emod_nonneg _ (by omega), Int.emod_lt_of_pos _ (by omega)⟩
              have hkr : x1 < rows.length := by have := HR.out; omega
              obtain ⟨bh, oh, B, d, eA, hW⟩ := HAT.out x1 hkr
              subst eA
              have hrk := HRW.out _ (List.getElem_mem hkr)
              obtain ⟨r, er⟩ : ∃ r, r = rows[x1] := ⟨_, rfl⟩
              rw [← er] at hW hrk
              have hrl2 : r.length = wd := hrk.1
              rw [hrl2] at hW
              have HWW := Lib.hid hW
              have HRE : Hid (els P r = true) := hrk.2
              have HLL : Hid (L.length = wd) := (show Hid _ from by show _ = _; rw [HL.out, hdT_len])
              have HLE : Hid (els P L = true) := (show Hid _ from by show _ = _; rw [HL.out]; exact hdT_els hPb.1 ..)
              have HNX : Hid (hdT P rows j wd o (i + 1) = addT P L 0 x r) := (show Hid _ from by
                show _ = _
                rw [hdT_succ, ← HL.out, ← ex, ← HX1.out, er]
                unfold gr
                rw [List.getElem?_eq_getElem hkr]; rfl)
              have ck := (hW w7 (HB1.out.trans (HB71.out.mono HB1.out.size))).1
              obtain ⟨g0, t0, t1, t2⟩ := HXC.out w7 HB71.out
              have z1 : (0 : Int) ≤ (x1 : Int) := by omega
              have z2 : (x1 : Int) < (R : Int) := by omega
              have HRL2 := Lib.hid hrl2
              clear hb7 ex er hrk hW hkr f0 s0 s1 s2 hrl2
              go_wp2_with fail
              clear ck g0 t0 t1 t2 hsum z1 z2
              go_loopw [109] (fun iv wr => Cm4 P L x r b wo iv wr) (fun iv _ => wd - (intOf iv).toNat)
              case atStart => exact ⟨0, Nat.zero_le _, rfl, by rw [List.take_zero, addT_zero]; exact HBK7.out, HB7.out⟩
              case round =>
                obtain ⟨k, hk, rfl, hbk, hb6⟩ := hrel
                have HBKk := Lib.hid hbk
                have HBk := Lib.hid hb6
                have HBk1 : Hid (Below w1.heap.size w1 wr) := (show Hid _ from HBq1.out.trans (hb6.mono HBq1.out.size))
                have hrl2 := HRL2.out
                clear hbk hb6
                by_cases hlk : k < wd
                · have dk : decide (k < wd) = true := decide_eq_true hlk
                  have hkl : k < r.length := by omega
                  obtain ⟨bb, ob, eB, ck⟩ := ((HWW.out wr (HB1.out.trans (HBk1.out.mono HB1.out.size))).2).at hkl
                  subst eB
                  obtain ⟨f0, _⟩ := HXC.out wr HBk1.out
                  have hlen2 : (addT P L 0 x (r.take k)).length = wd := by rw [addT_len]; exact HLL.out
                  have htk := HBKk.out.cell (j := k) (by rw [hlen2]; omega)
                  have hfk := HBKk.out.frozen k
                  have hel := el_t (els_gd hPb.1 (addT_els hPb.1 HLE.out 0 x (r.take k)) k)
                  have hel2 := el_t (els_all HRE.out _ (List.getElem_mem hkl))
                  rw [← gd_lt] at htk
                  obtain ⟨t', ht⟩ : ∃ t', t' = gd (addT P L 0 x (r.take k)) k := ⟨_, rfl⟩
                  rw [← ht] at htk hel
                  obtain ⟨y, hy⟩ : ∃ y, y = r[k] := ⟨_, rfl⟩
                  rw [← hy] at ck hel2
                  have HST : Hid (addT P L 0 x (r.take (k + 1)) = (addT P L 0 x (r.take k)).set k ((t' + x * y) % P)) := by
                    have h := addT_step P L 0 x r k hkl (by have := HLL.out; omega)
                    rw [Nat.zero_add] at h
                    show _ = _
                    rw [ht, hy]; exact h
                  have hxy := mul_bd hxb hel2 hPb.2
                  have w1_ : IntKind.i64.wrap (x * y) = x * y := by exact IntWalk.i64_in _ (by omega)
                  have w2_ : IntKind.i64.wrap (t' + x * y) = t' + x * y := by exact IntWalk.i64_in _ (by omega)
                  have w3_ : (t' + x * y).tmod P = (t' + x * y) % P := Int.tmod_eq_emod_of_nonneg (by omega)
                  have w4_ : IntKind.i64.wrap ((t' + x * y) % P) = (t' + x * y) % P := by
                    have h1 := Int.emod_nonneg (t' + x * y) (show P ≠ 0 by omega)
                    have h2 := Int.emod_lt_of_pos (t' + x * y) (show 0 < P by omega)
                    exact IntWalk.i64_in _ (by omega)
                  have hP0 : ¬ P = 0 := by omega
                  have z1 : (0 : Int) ≤ (k : Int) := by omega
                  have z2 : (k : Int) < (wd : Int) := by omega
                  clear ht hy hlen2 hel hel2 hxy hrl2
                  go_upto_region 29 with fail
                  go_region
                  all_goals
                    go_wp2_with fail
                    go_roundw
                    case rel => exact ⟨k + 1, by have := HRL2.out; omega, by go_num, by rw [HST.out]; exact HBKk.out.set _ _, by first | exact HBk.out.setCell (by have := HEB.out; show _ ≤ b; omega) _ | exact (Below.drewN (HBk.out.setCell (by have := HEB.out; show _ ≤ b; omega) _) _)⟩
                    case measure => simp [intOf]; omega
                · have dk : decide (k < wd) = false := decide_eq_false hlk
                  have HFK : Hid (BK wr b (hdT P rows j wd o (i + 1))) := (show Hid _ from by
                    have h := HBKk.out
                    rw [show k = r.length by omega, List.take_length] at h
                    rw [HNX.out]; exact h)
                  clear hrl2
                  go_wp2_with fail
                  go_roundw
                  case rel => exact ⟨i + 1, _, by omega, by go_num, rfl, HFK.out, HBk.out⟩
                  case measure => simp [intOf]; omega
            · have HFK : Hid (BK wr b (hdT P rows j wd o z)) := (show Hid _ from by
                have h := HBK.out
                rw [HL.out, show i = z by omega] at h; exact h)
              have HOR : Hid (wr.ownsRow wo.heap.size 3 1 (.slice (some ⟨b, 0, none⟩) wd wd) wd ((hdT P rows j wd o z).map (Value.int .i64))) := (show Hid _ from by
                have h := BK.own HFK.out (base := wo.heap.size) (by have := HEB.out; omega) (by rw [hdT_len]; omega)
                rw [hdT_len] at h; exact h)
              have HQr : Hid (RW w3.heap.size g wr pv vs (hRows P rows j wd G q)) := (show Hid _ from HQW.out.below HGw3.out HBi.out)
              have HSX : Hid (SX (wr.alloc (.cells #[.slice (some ⟨b, 0, none⟩) wd wd] 22)) pv.ownBlock (some g) (.slice (some ⟨b, 0, none⟩) wd wd) (hdT P rows j wd o z)) := (show Hid _ from SX.of_own (base := wo.heap.size) (by rw [hdT_len]; exact HOR.out.alloc _) (els_r hPb.2 (hdT_els hPb.1 ..)) (fun q hq => (HQW.out.hdr.lt q hq).2) (fun q hq => by injection hq with e; have := HGw3.out; have := HBq.out.size; omega))
              have hvn : vs.length ≤ 2048 := by have h := HQW.out.len; rw [hRows_len] at h; omega
              have hzw : w3.heap.size ≤ wr.heap.size := Nat.le_trans HBq.out.size HBi.out.size
              clear hix
              rcases hnz hli with hiG | ⟨hiG, hiR⟩
              case' inl => have dG : decide (i < G) = false := decide_eq_false hiG
              case' inr =>
                have dG : decide (i < G) = true := decide_eq_true hiG
                have dR : decide (x1 < R) = false := decide_eq_false hiR
              all_goals
                clear hnz
                go_wp2_with (at_builtin; refine wpList_append_one_at _ rfl _ _ 33 rfl w3.heap.size 22 (.slice none 0 0) 24 Tryz.underlying33 ilinfo pv vs.length vs rfl (HQr.out.hdr.alloc _) (.slice (some ⟨b, 0, none⟩) wd wd) rfl wr.heap.size rfl (cells_new wr [.slice (some ⟨b, 0, none⟩) wd wd] 22 0 _ rfl) (by omega) (by omega) rfl (by simp; omega) ?_; intro g9 cap9 w9 hown9 hg9 hat9; have HO9 := Lib.hid hown9; have HG9 := Lib.hid hg9; have HA9 := Lib.hid hat9; clear hown9 hg9 hat9)
                have HR9 : Hid (RW w3.heap.size g w9 (.slice (some ⟨g9, 0, none⟩) (vs.length + 1) cap9) (vs ++ [.slice (some ⟨b, 0, none⟩) wd wd]) (hRows P rows j wd G (q + 1))) := (show Hid _ from by
                  rw [HNXT.out]
                  exact (HQr.out.below HGw3.out ((Below.refl _ wr).alloc (Nat.le_refl _) _)).app HSX.out HO9.out HG9.out (fun q hq => by
                    have e : g9 = q := by simpa [Value.ownBlock] using hq
                    subst e; exact HA9.out))
                have HB9 : Hid (Below w3.heap.size w3 w9) := (show Hid _ from ((HBq.out.trans (HBi.out.mono HBq.out.size)).alloc (by omega) _).grown HG9.out (by simp; omega) (fun q hq => (HQr.out.hdr.lt q hq).1))
                go_roundw
                case rel => exact ⟨q + 1, _, _, rfl, by omega, by go_num, HR9.out, HB9.out⟩
                case measure => simp [intOf]; omega
        · have dq : decide (q < N) = false := decide_eq_false hlq
          have hqN : q = N := by omega
          have HSLE : Hid (SLE g wr pv (hRows P rows j wd G N)) := (show Hid _ from by rw [← hqN]; exact HQW.out.sle HGw3.out)
          obtain ⟨Ao, co, eo⟩ := HSLE.out.form
          subst eo
          rw [hRows_len] at HSLE ⊢
          clear hqN
          go_wp2_with fail
          go_ret2
          exact ⟨Ao, co, rfl, HB1.out.trans (HBq1.out.mono HB1.out.size), HSLE.out⟩
end Go.Proofs.YtoiabanpnkpbhaaGreatDoor
