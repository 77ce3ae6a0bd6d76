/- Joined: Ua Ub. -/
import Derived.Test.YtoiabanpnkpbhaaGreatDoorY07
import Derived.Test.YtoiabanpnkpbhaaGreatDoorY09
import Derived.Test.YtoiabanpnkpbhaaGreatDoorY20
import Derived.Test.YtoiabanpnkpbhaaGreatDoorY25
import Derived.Test.YtoiabanpnkpbhaaGreatDoorY24
import Derived.Test.YtoiabanpnkpbhaaGreatDoorY21
namespace Go.Proofs.YtoiabanpnkpbhaaGreatDoor
open Go.RowKit

set_option maxRecDepth 100000 in
set_option maxHeartbeats 2000000 in
theorem r18Check_ok (P n t G : Int) (w : World) (h : SV P n t G) :
    Calls Tryz.prog 38 #[.agg #[.int .i64 P], .agg #[.int .i64 n, .int .i64 t, .int .i64 G]] w fun e w' => e = .returned (.int .i64 0) ∧ Below w.heap.size w w' := by
  obtain ⟨hp, hn2, hn10, hnP, ht1, hG1, hs⟩ := h
  have hPb := prB_bd hp
  have HP := Lib.hid hp
  clear hp
  go_enter Tryz.func38, Tryz.ntmps38
  obtain ⟨F, eF⟩ : ∃ F, F = w.heap.size := ⟨_, rfl⟩
  obtain ⟨w1, ew⟩ : ∃ w1 : World, w1 = (w.alloc (.cells #[.int .i64 P] 31)).alloc (.cells #[.int .i64 n, .int .i64 t, .int .i64 G] 29) := ⟨_, rfl⟩
  have HW1 : Hid ((w.alloc (.cells #[.int .i64 P] 31)).alloc (.cells #[.int .i64 n, .int .i64 t, .int .i64 G] 29) = w1) := ew.symm
  have HB1 : Hid (Below w.heap.size w w1) := (show Hid _ from by rw [ew]; exact ((Below.refl _ w).alloc (Nat.le_refl _) _).alloc (by simp) _)
  have HF1 : Hid (w1.heap[F]? = some (.cells #[.int .i64 P] 31 (0, 0))) := (show Hid _ from by show _ = _; rw [ew, eF, Below.heap_alloc _ _ _ (by simp)]; exact heap_alloc_new w _)
  have HS1 : Hid (w1.heap[F + 1]? = some (.cells #[.int .i64 n, .int .i64 t, .int .i64 G] 29 (0, 0))) := (show Hid _ from by show _ = _; rw [ew, eF]; have := heap_alloc_new (w.alloc (.cells #[.int .i64 P] 31)) (.cells #[.int .i64 n, .int .i64 t, .int .i64 G] 29); simpa using this)
  go_upto_region 1 with fail
  rw [HW1.out, ← eF]
  clear ew eF
  have f0 : w1.cell? ⟨F, 0, none⟩ = some (.int .i64 P) := cell_of_row w1 F 0 _ _ _ HF1.out
  go_wp2_with fail
  (with_reducible refine (rcheck_any P _ (by unfold i64r; omega)).mono ?_)
  rintro e w2 ⟨rfl, hb2⟩
  have hrc : rcE P = 0 := by unfold rcE; rw [HP.out]; rfl
  rw [hrc]
  have HB2 : Hid (Below w.heap.size w w2) := HB1.out.trans (hb2.mono HB1.out.size)
  have f0 : w2.cell? ⟨F, 0, none⟩ = some (.int .i64 P) := cell_of_row w2 F 0 _ _ _ ((hb2.block F (heap_of_cells HF1.out)).trans HF1.out)
  have s0 : w2.cell? ⟨F + 1, 0, none⟩ = some (.int .i64 n) := cell_of_row w2 (F + 1) 0 _ _ _ ((hb2.block (F + 1) (heap_of_cells HS1.out)).trans HS1.out)
  have s1 : w2.cell? ⟨F + 1, 1, none⟩ = some (.int .i64 t) := cell_of_row w2 (F + 1) 1 _ _ _ ((hb2.block (F + 1) (heap_of_cells HS1.out)).trans HS1.out)
  have s2 : w2.cell? ⟨F + 1, 2, none⟩ = some (.int .i64 G) := cell_of_row w2 (F + 1) 2 _ _ _ ((hb2.block (F + 1) (heap_of_cells HS1.out)).trans HS1.out)
  have d1 : decide (n < 2) = false := decide_eq_false (by omega)
  have d2 : decide (10 < n) = false := decide_eq_false (by omega)
  have d3 : decide (P ≤ n) = false := decide_eq_false (by omega)
  have d4 : decide (t < 1) = false := decide_eq_false (by omega)
  have d5 : decide (G < 1) = false := decide_eq_false (by omega)
  have d6 : decide (n < t) = false := decide_eq_false (by omega)
  have d7 : decide (n < G) = false := decide_eq_false (by omega)
  have m1 : IntKind.i64.wrap (2 * G) = 2 * G := by exact IntWalk.i64_in _ (by omega)
  have m2 : IntKind.i64.wrap (2 * G + t) = 2 * G + t := by exact IntWalk.i64_in _ (by omega)
  have m3 : IntKind.i64.wrap (2 * G + t - 1) = 2 * G + t - 1 := by exact IntWalk.i64_in _ (by omega)
  have d8 : decide (n < 2 * G + t - 1) = false := decide_eq_false (by omega)
  clear hb2
  go_wp2_with fail
  go_ret
  exact ⟨rfl, HB2.out⟩
set_option maxRecDepth 100000 in
set_option maxHeartbeats 2000000 in
theorem r18groups_ok (n t : Int) (G m : Nat) (w : World) (hG : 1 ≤ G ∧ G ≤ 10) (hm : m ≤ 1024) :
    Calls Tryz.prog 30 #[.agg #[.int .i64 n, .int .i64 t, .int .i64 G], .int .i64 m] w fun e w' => e = .returned (.tuple #[.int .i64 (ngr m G : Nat), .int .i64 0]) ∧ Below w.heap.size w w' := by
  have HN := Lib.hid (ngr_parts (len := m) hG.1)
  go_enter Tryz.func30, Tryz.ntmps30
  obtain ⟨F, eF⟩ : ∃ F, F = w.heap.size := ⟨_, rfl⟩
  obtain ⟨w1, ew⟩ : ∃ w1 : World, w1 = w.alloc (.cells #[.int .i64 n, .int .i64 t, .int .i64 G] 29) := ⟨_, rfl⟩
  have HW1 : Hid (w.alloc (.cells #[.int .i64 n, .int .i64 t, .int .i64 G] 29) = w1) := ew.symm
  have HB1 : Hid (Below w.heap.size w w1) := (show Hid _ from by rw [ew]; exact (Below.refl _ w).alloc (Nat.le_refl _) _)
  have HS1 : Hid (w1.heap[F]? = some (.cells #[.int .i64 n, .int .i64 t, .int .i64 G] 29 (0, 0))) := (show Hid _ from by show _ = _; rw [ew, eF]; exact heap_alloc_new w _)
  go_upto_region 1 with fail
  rw [HW1.out, ← eF]
  clear ew eF
  have s2 : w1.cell? ⟨F, 2, none⟩ = some (.int .i64 G) := cell_of_row w1 F 2 _ _ _ HS1.out
  have d1 : decide ((G : Int) < 1) = false := decide_eq_false (by omega)
  have d2 : decide (G < 1) = false := decide_eq_false (by omega)
  have d3 : decide ((m : Int) < 0) = false := decide_eq_false (by omega)
  have d4 : decide ((1024 : Int) < (m : Int)) = false := decide_eq_false (by omega)
  have d5 : decide (1024 < m) = false := decide_eq_false (by omega)
  have hG0 : ¬ G = 0 := by omega
  have hG0' : ¬ (G : Int) = 0 := by omega
  obtain ⟨q, eq⟩ : ∃ q, q = m / G := ⟨_, rfl⟩
  obtain ⟨r, er⟩ : ∃ r, r = m % G := ⟨_, rfl⟩
  have hq : q ≤ 1024 := by rw [eq]; exact Nat.le_trans (Nat.div_le_self _ _) hm
  have m1 : (m : Int).tdiv (G : Int) = (q : Int) := by rw [eq]; exact (Int.ofNat_tdiv m G).symm
  have m2 : (m : Int).tmod (G : Int) = (r : Int) := by rw [er]; exact (Int.ofNat_tmod m G).symm
  have m3 : IntKind.i64.wrap (q : Int) = (q : Int) := by exact IntWalk.i64_in _ (by omega)
  have m4 : IntKind.i64.wrap ((q : Int) + 1) = (q : Int) + 1 := by exact IntWalk.i64_in _ (by omega)
  have HQ := Lib.hid eq
  have HR := Lib.hid er
  clear eq er
  by_cases hr : r = 0
  · have d6 : decide ((0 : Int) < (r : Int)) = false := decide_eq_false (by omega)
    have d7 : decide (0 < r) = false := decide_eq_false (by omega)
    have HE : Hid (ngr m G = q) := (show Hid _ from by
      show _ = _
      rw [HN.out, ← HR.out, ← HQ.out, if_pos hr]; rfl)
    clear hr
    go_wp2_with fail
    refine bodyPost_ret (results_tmp2 rfl _ _ _) rfl ?_
    exact ⟨by rw [HE.out]; rfl, HB1.out⟩
  · have d6 : decide ((0 : Int) < (r : Int)) = true := decide_eq_true (by omega)
    have d7 : decide (0 < r) = true := decide_eq_true (by omega)
    have HE : Hid (ngr m G = q + 1) := (show Hid _ from by
      show _ = _
      rw [HN.out, ← HR.out, ← HQ.out, if_neg hr])
    clear hr
    go_wp2_with fail
    refine bodyPost_ret (results_tmp2 rfl _ _ _) rfl ?_
    exact ⟨by rw [HE.out]; rfl, HB1.out⟩
def Pw3 (P a : Int) (n : Nat) (w1 : World) (xv av nv : Value) (wr : World) : Prop :=
  ∃ (x b : Int) (k : Nat), xv = .int .i64 x ∧ av = .int .i64 b ∧ nv = .int .i64 k ∧ k ≤ 10 ∧ 0 ≤ x ∧ x < P ∧ 0 ≤ b ∧ b < P ∧ P ∣ x * b ^ k - a ^ n ∧ w1 = wr
set_option maxRecDepth 100000 in
set_option maxHeartbeats 4000000 in
theorem rpow_any (P a : Int) (n : Nat) (w : World) (hP : 2 ≤ P ∧ P ≤ 65521) (ha : 0 ≤ a ∧ a < P) (hn : n ≤ 10) :
    Calls Tryz.prog 63 #[.agg #[.int .i64 P], .int .i64 a, .int .i64 n] w fun e w' => e = .returned (.int .i64 (a ^ n % P)) ∧ Below w.heap.size w w' := by
  go_enter Tryz.func63, Tryz.ntmps63
  obtain ⟨F, eF⟩ : ∃ F, F = w.heap.size := ⟨_, rfl⟩
  obtain ⟨w1, ew⟩ : ∃ w1 : World, w1 = w.alloc (.cells #[.int .i64 P] 31) := ⟨_, rfl⟩
  have HW1 : Hid (w.alloc (.cells #[.int .i64 P] 31) = w1) := ew.symm
  have HB1 : Hid (Below w.heap.size w w1) := (show Hid _ from by rw [ew]; exact (Below.refl _ w).alloc (Nat.le_refl _) _)
  have HF1 : Hid (w1.heap[F]? = some (.cells #[.int .i64 P] 31 (0, 0))) := (show Hid _ from by show _ = _; rw [ew, eF]; exact heap_alloc_new w _)
  go_upto_region 1 with fail
  rw [HW1.out, ← eF]
  clear ew eF
  have f0 : w1.cell? ⟨F, 0, none⟩ = some (.int .i64 P) := cell_of_row w1 F 0 _ _ _ HF1.out
  have hP0 : ¬ P = 0 := by omega
  have h1 : (1 : Int).tmod P = 1 := by rw [Int.tmod_eq_emod_of_nonneg (by omega)]; exact Int.emod_eq_of_lt (by omega) (by omega)
  go_wp2_with fail
  go_loopw [7, 1, 2] (fun xv av nv wr => Pw3 P a n w1 xv av nv wr) (fun _ _ nv _ => (intOf nv).toNat)
  case atStart => exact ⟨1, a, n, by first | rfl | simp [h1], rfl, rfl, hn, by omega, by omega, ha.1, ha.2, ⟨0, by simp⟩, rfl⟩
  case round =>
    obtain ⟨x, b, k, rfl, rfl, rfl, hk, hx1, hx2, hb1, hb2, hd, rfl⟩ := hrel
    have HD := Lib.hid hd
    clear hd h1
    by_cases hk0 : k = 0
    · subst hk0
      have HX : Hid (x = a ^ n % P) := (show Hid _ from by
        have h := HD.out
        rw [Int.pow_zero, Int.mul_one] at h
        have h1 := Int.emod_eq_emod_iff_emod_sub_eq_zero.2 (Int.emod_eq_zero_of_dvd h)
        rw [Int.emod_eq_of_lt hx1 hx2] at h1
        exact h1)
      go_wp2_with fail
      go_ret
      exact ⟨by rw [HX.out]; rfl, HB1.out⟩
    · have hxb : 0 ≤ x * b % P ∧ x * b % P < P := ⟨Int.emod_nonneg _ (by omega), Int.emod_lt_of_pos _ (by omega)⟩
      have hbb : 0 ≤ b * b % P ∧ b * b % P < P := ⟨Int.emod_nonneg _ (by omega), Int.emod_lt_of_pos _ (by omega)⟩
      have m1 := mul_bd ⟨hx1, hx2⟩ ⟨hb1, hb2⟩ hP.2
      have m2 := mul_bd ⟨hb1, hb2⟩ ⟨hb1, hb2⟩ hP.2
      have w1_ : IntKind.i64.wrap (x * b) = x * b := by exact IntWalk.i64_in _ (by omega)
      have w2_ : IntKind.i64.wrap (b * b) = b * b := by exact IntWalk.i64_in _ (by omega)
      have t1_ : (x * b).tmod P = x * b % P := Int.tmod_eq_emod_of_nonneg (by omega)
      have t2_ : (b * b).tmod P = b * b % P := Int.tmod_eq_emod_of_nonneg (by omega)
      have w3_ : IntKind.i64.wrap (x * b % P) = x * b % P := by exact IntWalk.i64_in _ (by omega)
      have w4_ : IntKind.i64.wrap (b * b % P) = b * b % P := by exact IntWalk.i64_in _ (by omega)
      have HEV : Hid (∀ m : Nat, k = 2 * m → P ∣ x * (b * b % P) ^ m - a ^ n) := (show Hid _ from fun m hm => by
        have h1 := pw_even P x b m
        rw [← hm] at h1
        exact dvd_of_eq' (Int.dvd_add h1 HD.out) (by omega))
      have HOD : Hid (∀ m : Nat, k = 2 * m + 1 → P ∣ (x * b % P) * (b * b % P) ^ m - a ^ n) := (show Hid _ from fun m hm => by
        have h1 := pw_odd P x b m
        rw [← hm] at h1
        exact dvd_of_eq' (Int.dvd_add h1 HD.out) (by omega))
      have hc : k = 1 ∨ k = 2 ∨ k = 3 ∨ k = 4 ∨ k = 5 ∨ k = 6 ∨ k = 7 ∨ k = 8 ∨ k = 9 ∨ k = 10 := by omega
      clear HD hk0 hk m1 m2
      rcases hc with rfl | rfl | rfl | rfl | rfl | rfl | rfl | rfl | rfl | rfl
      all_goals
        go_wp2_with fail
        first
          | exact ⟨⟨_, _, 0, rfl, rfl, rfl, by omega, hxb.1, hxb.2, hbb.1, hbb.2, HOD.out 0 rfl, rfl⟩, by simp [intOf]⟩
          | exact ⟨⟨_, _, 1, rfl, rfl, rfl, by omega, hxb.1, hxb.2, hbb.1, hbb.2, HOD.out 1 rfl, rfl⟩, by simp [intOf]⟩
          | exact ⟨⟨_, _, 2, rfl, rfl, rfl, by omega, hxb.1, hxb.2, hbb.1, hbb.2, HOD.out 2 rfl, rfl⟩, by simp [intOf]⟩
          | exact ⟨⟨_, _, 3, rfl, rfl, rfl, by omega, hxb.1, hxb.2, hbb.1, hbb.2, HOD.out 3 rfl, rfl⟩, by simp [intOf]⟩
          | exact ⟨⟨_, _, 4, rfl, rfl, rfl, by omega, hxb.1, hxb.2, hbb.1, hbb.2, HOD.out 4 rfl, rfl⟩, by simp [intOf]⟩
          | exact ⟨⟨_, _, 1, rfl, rfl, rfl, by omega, hx1, hx2, hbb.1, hbb.2, HEV.out 1 rfl, rfl⟩, by simp [intOf]⟩
          | exact ⟨⟨_, _, 2, rfl, rfl, rfl, by omega, hx1, hx2, hbb.1, hbb.2, HEV.out 2 rfl, rfl⟩, by simp [intOf]⟩
          | exact ⟨⟨_, _, 3, rfl, rfl, rfl, by omega, hx1, hx2, hbb.1, hbb.2, HEV.out 3 rfl, rfl⟩, by simp [intOf]⟩
          | exact ⟨⟨_, _, 4, rfl, rfl, rfl, by omega, hx1, hx2, hbb.1, hbb.2, HEV.out 4 rfl, rfl⟩, by simp [intOf]⟩
          | exact ⟨⟨_, _, 5, rfl, rfl, rfl, by omega, hx1, hx2, hbb.1, hbb.2, HEV.out 5 rfl, rfl⟩, by simp [intOf]⟩
end Go.Proofs.YtoiabanpnkpbhaaGreatDoor

namespace Go.Proofs.YtoiabanpnkpbhaaGreatDoor
open Go.RowKit

theorem SL.at {w : World} {v : Value} {rows : List (List Int)} (h : SL w v rows) : ∃ A c, v = .slice A rows.length c ∧
    ∀ i (hi : i < rows.length), ∃ bh oh B d, A = some ⟨bh, oh, none⟩ ∧ ∀ W, Below w.heap.size w W → W.cell? ⟨bh, oh + i, none⟩ = some (.slice B rows[i].length d) ∧ SI W (.slice B rows[i].length d) rows[i] := by
  obtain ⟨A, c, rfl, _, _, ha⟩ := h
  refine ⟨A, c, rfl, fun i hi => ?_⟩
  obtain ⟨b, o, eA, hb, hc⟩ := ha (by omega)
  obtain ⟨B, d, h1, h2⟩ := hc i hi
  exact ⟨b, o, B, d, eA, fun W hW => ⟨(hW.cell (p := ⟨b, o + i, none⟩) hb).trans h1, h2.below hW⟩⟩
theorem SI.at {w : World} {B : Option Addr} {n d : Nat} {r : List Int} (h : SI w (.slice B n d) r) {k : Nat} (hk : k < r.length) : ∃ bb ob, B = some ⟨bb, ob, none⟩ ∧ w.cell? ⟨bb, ob + k, none⟩ = some (.int .i64 r[k]) := by
  obtain ⟨A2, c2, e2, _, _, _, ha2⟩ := h
  injection e2 with e21 e22 e23
  obtain ⟨bb, ob, e3, hbb, hcell⟩ := ha2 (by omega)
  exact ⟨bb, ob, by rw [e21]; exact e3, hcell k hk⟩
def Uh2 (z wd o b : Nat) (P j : Int) (rows : List (List Int)) (wo : World) (iv : Value) (wr : World) : Prop :=
  ∃ (i : Nat) (l : List Int), i ≤ z ∧ iv = .int .i64 i ∧ l = hdT P rows j wd o i ∧ BK wr b l ∧ Below wo.heap.size wo wr
theorem hRows_succ (P : Int) (rows : List (List Int)) (j : Int) (w G n : Nat) : hRows P rows j w G (n + 1) = hRows P rows j w G n ++ [hdT P rows j w (n * G) (gSz rows.length G n)] := by
  unfold hRows; rw [List.range_succ, List.map_append]; rfl
end Go.Proofs.YtoiabanpnkpbhaaGreatDoor
