/- Joined: Kc Ki Kj. -/
import Derived.Test.YtoiabanpnkpbhaaGreatDoorY06
import Derived.Test.YtoiabanpnkpbhaaGreatDoorY02
import Derived.Test.YtoiabanpnkpbhaaGreatDoorY05
namespace Go.Proofs.YtoiabanpnkpbhaaGreatDoor
open Go.RowKit

/-- a valid storage -/
structure SV (P n t G : Int) : Prop where
  pr : prB P = true
  n2 : 2 ≤ n
  n10 : n ≤ 10
  nP : n < P
  t1 : 1 ≤ t
  G1 : 1 ≤ G
  sum : 2 * G + t - 1 ≤ n
theorem SV.pb {P n t G : Int} (h : SV P n t G) : 2 ≤ P ∧ P ≤ 65521 := prB_bd h.pr
set_option maxRecDepth 100000 in
set_option maxHeartbeats 2000000 in
theorem gCheck_ok (P n t G : Int) (w : World) (h : SV P n t G) :
    Calls Tryz.prog 37 #[.agg #[.int .i64 P], .agg #[.int .i64 n, .int .i64 t, .int .i64 G]] w fun e w' => e = .returned (.int .i64 0) ∧ Below w.heap.size w w' := by
  obtain ⟨hp, hn2, hn10, hnP, ht1, hG1, hs⟩ := h
  have hPb := prB_bd hp
  have HP := Lib.hid hp
  clear hp
  go_enter Tryz.func37, Tryz.ntmps37
  obtain ⟨F, eF⟩ : ∃ F, F = w.heap.size := ⟨_, rfl⟩
  obtain ⟨w1, ew⟩ : ∃ w1 : World, w1 = (w.alloc (.cells #[.int .i64 P] 31)).alloc (.cells #[.int .i64 n, .int .i64 t, .int .i64 G] 29) := ⟨_, rfl⟩
  have HW1 : Hid ((w.alloc (.cells #[.int .i64 P] 31)).alloc (.cells #[.int .i64 n, .int .i64 t, .int .i64 G] 29) = w1) := ew.symm
  have HB1 : Hid (Below w.heap.size w w1) := (show Hid _ from by rw [ew]; exact ((Below.refl _ w).alloc (Nat.le_refl _) _).alloc (by simp) _)
  have HF1 : Hid (w1.heap[F]? = some (.cells #[.int .i64 P] 31 (0, 0))) := (show Hid _ from by show _ = _; rw [ew, eF, Below.heap_alloc _ _ _ (by simp)]; exact heap_alloc_new w _)
  have HS1 : Hid (w1.heap[F + 1]? = some (.cells #[.int .i64 n, .int .i64 t, .int .i64 G] 29 (0, 0))) := (show Hid _ from by show _ = _; rw [ew, eF]; have := heap_alloc_new (w.alloc (.cells #[.int .i64 P] 31)) (.cells #[.int .i64 n, .int .i64 t, .int .i64 G] 29); simpa using this)
  go_upto_region 1 with fail
  rw [HW1.out, ← eF]
  clear ew eF
  have f0 : w1.cell? ⟨F, 0, none⟩ = some (.int .i64 P) := cell_of_row w1 F 0 _ _ _ HF1.out
  go_wp2_with fail
  (with_reducible refine (of_any P _ (by unfold i64r; omega)).mono ?_)
  rintro e w2 ⟨rfl, hb2⟩
  rw [HP.out]
  have HB2 : Hid (Below w.heap.size w w2) := HB1.out.trans (hb2.mono HB1.out.size)
  have f0 : w2.cell? ⟨F, 0, none⟩ = some (.int .i64 P) := cell_of_row w2 F 0 _ _ _ ((hb2.block F (heap_of_cells HF1.out)).trans HF1.out)
  have s0 : w2.cell? ⟨F + 1, 0, none⟩ = some (.int .i64 n) := cell_of_row w2 (F + 1) 0 _ _ _ ((hb2.block (F + 1) (heap_of_cells HS1.out)).trans HS1.out)
  have s1 : w2.cell? ⟨F + 1, 1, none⟩ = some (.int .i64 t) := cell_of_row w2 (F + 1) 1 _ _ _ ((hb2.block (F + 1) (heap_of_cells HS1.out)).trans HS1.out)
  have s2 : w2.cell? ⟨F + 1, 2, none⟩ = some (.int .i64 G) := cell_of_row w2 (F + 1) 2 _ _ _ ((hb2.block (F + 1) (heap_of_cells HS1.out)).trans HS1.out)
  have d1 : decide (n < 2) = false := decide_eq_false (by omega)
  have d2 : decide (10 < n) = false := decide_eq_false (by omega)
  have d3 : decide (P ≤ n) = false := decide_eq_false (by omega)
  have d4 : decide (t < 1) = false := decide_eq_false (by omega)
  have d5 : decide (G < 1) = false := decide_eq_false (by omega)
  have d6 : decide (n < t) = false := decide_eq_false (by omega)
  have d7 : decide (n < G) = false := decide_eq_false (by omega)
  have m1 : IntKind.i64.wrap (2 * G) = 2 * G := by exact IntWalk.i64_in _ (by omega)
  have m2 : IntKind.i64.wrap (2 * G + t) = 2 * G + t := by exact IntWalk.i64_in _ (by omega)
  have m3 : IntKind.i64.wrap (2 * G + t - 1) = 2 * G + t - 1 := by exact IntWalk.i64_in _ (by omega)
  have d8 : decide (n < 2 * G + t - 1) = false := decide_eq_false (by omega)
  clear hb2
  go_wp2_with fail
  go_ret
  exact ⟨rfl, HB2.out⟩
set_option maxRecDepth 100000 in
set_option maxHeartbeats 2000000 in
theorem gcheck_ok (P n t G m : Int) (w : World) (h : SV P n t G) (hm : 1 ≤ m ∧ m ≤ 1024) :
    Calls Tryz.prog 51 #[.agg #[.int .i64 P], .agg #[.int .i64 n, .int .i64 t, .int .i64 G], .int .i64 m] w fun e w' => e = .returned (.int .i64 0) ∧ Below w.heap.size w w' := by
  have HV := Lib.hid h
  clear h
  go_enter Tryz.func51, Tryz.ntmps51
  obtain ⟨F, eF⟩ : ∃ F, F = w.heap.size := ⟨_, rfl⟩
  obtain ⟨w1, ew⟩ : ∃ w1 : World, w1 = (w.alloc (.cells #[.int .i64 P] 31)).alloc (.cells #[.int .i64 n, .int .i64 t, .int .i64 G] 29) := ⟨_, rfl⟩
  have HW1 : Hid ((w.alloc (.cells #[.int .i64 P] 31)).alloc (.cells #[.int .i64 n, .int .i64 t, .int .i64 G] 29) = w1) := ew.symm
  have HB1 : Hid (Below w.heap.size w w1) := (show Hid _ from by rw [ew]; exact ((Below.refl _ w).alloc (Nat.le_refl _) _).alloc (by simp) _)
  have HF1 : Hid (w1.heap[F]? = some (.cells #[.int .i64 P] 31 (0, 0))) := (show Hid _ from by show _ = _; rw [ew, eF, Below.heap_alloc _ _ _ (by simp)]; exact heap_alloc_new w _)
  have HS1 : Hid (w1.heap[F + 1]? = some (.cells #[.int .i64 n, .int .i64 t, .int .i64 G] 29 (0, 0))) := (show Hid _ from by show _ = _; rw [ew, eF]; have := heap_alloc_new (w.alloc (.cells #[.int .i64 P] 31)) (.cells #[.int .i64 n, .int .i64 t, .int .i64 G] 29); simpa using this)
  go_upto_region 1 with fail
  rw [HW1.out, ← eF]
  clear ew eF
  have f0 : w1.cell? ⟨F, 0, none⟩ = some (.int .i64 P) := cell_of_row w1 F 0 _ _ _ HF1.out
  have s0 : w1.cell? ⟨F + 1, 0, none⟩ = some (.int .i64 n) := cell_of_row w1 (F + 1) 0 _ _ _ HS1.out
  have s1 : w1.cell? ⟨F + 1, 1, none⟩ = some (.int .i64 t) := cell_of_row w1 (F + 1) 1 _ _ _ HS1.out
  have s2 : w1.cell? ⟨F + 1, 2, none⟩ = some (.int .i64 G) := cell_of_row w1 (F + 1) 2 _ _ _ HS1.out
  go_wp2_with fail
  (with_reducible refine (gCheck_ok P n t G _ HV.out).mono ?_)
  rintro e w2 ⟨rfl, hb2⟩
  have HB2 : Hid (Below w.heap.size w w2) := HB1.out.trans (hb2.mono HB1.out.size)
  have d1 : decide (m < 1) = false := decide_eq_false (by omega)
  have d2 : decide (1024 < m) = false := decide_eq_false (by omega)
  clear hb2 f0 s0 s1 s2
  go_wp2_with fail
  go_ret
  exact ⟨rfl, HB2.out⟩
/-- how many groups rows have -/
def ngr (len G : Nat) : Nat := (len + G - 1) / G
theorem ngr_bd {len G : Nat} (hG : 1 ≤ G) : ngr len G * G < len + G ∧ len ≤ ngr len G * G := by
  unfold ngr
  have h1 := Nat.div_add_mod (len + G - 1) G
  have h2 := Nat.mod_lt (len + G - 1) (show 0 < G by omega)
  rw [Nat.mul_comm] at h1
  omega
theorem ngr_parts {len G : Nat} (hG : 1 ≤ G) : ngr len G = len / G + if len % G = 0 then 0 else 1 := by
  have h1 := Nat.div_add_mod len G
  have h2 := Nat.mod_lt len (show 0 < G by omega)
  unfold ngr
  by_cases h : len % G = 0
  · rw [if_pos h]
    have e : len + G - 1 = (G - 1) + G * (len / G) := by omega
    rw [e, Nat.add_mul_div_left _ _ (by omega), Nat.div_eq_of_lt (by omega)]; omega
  · rw [if_neg h]
    have e : len + G - 1 = (len % G - 1) + G * (len / G + 1) := by rw [Nat.mul_add]; omega
    rw [e, Nat.add_mul_div_left _ _ (by omega), Nat.div_eq_of_lt (by omega)]; omega
set_option maxRecDepth 100000 in
set_option maxHeartbeats 2000000 in
theorem groups_ok (n t : Int) (G m : Nat) (w : World) (hG : 1 ≤ G ∧ G ≤ 10) (hm : m ≤ 1024) :
    Calls Tryz.prog 25 #[.agg #[.int .i64 n, .int .i64 t, .int .i64 G], .int .i64 m] w fun e w' => e = .returned (.tuple #[.int .i64 (ngr m G : Nat), .int .i64 0]) ∧ Below w.heap.size w w' := by
  have HN := Lib.hid (ngr_parts (len := m) hG.1)
  go_enter Tryz.func25, Tryz.ntmps25
  obtain ⟨F, eF⟩ : ∃ F, F = w.heap.size := ⟨_, rfl⟩
  obtain ⟨w1, ew⟩ : ∃ w1 : World, w1 = w.alloc (.cells #[.int .i64 n, .int .i64 t, .int .i64 G] 29) := ⟨_, rfl⟩
  have HW1 : Hid (w.alloc (.cells #[.int .i64 n, .int .i64 t, .int .i64 G] 29) = w1) := ew.symm
  have HB1 : Hid (Below w.heap.size w w1) := (show Hid _ from by rw [ew]; exact (Below.refl _ w).alloc (Nat.le_refl _) _)
  have HS1 : Hid (w1.heap[F]? = some (.cells #[.int .i64 n, .int .i64 t, .int .i64 G] 29 (0, 0))) := (show Hid _ from by show _ = _; rw [ew, eF]; exact heap_alloc_new w _)
  go_upto_region 1 with fail
  rw [HW1.out, ← eF]
  clear ew eF
  have s2 : w1.cell? ⟨F, 2, none⟩ = some (.int .i64 G) := cell_of_row w1 F 2 _ _ _ HS1.out
  have d1 : decide ((G : Int) < 1) = false := decide_eq_false (by omega)
  have d2 : decide (G < 1) = false := decide_eq_false (by omega)
  have d3 : decide ((m : Int) < 0) = false := decide_eq_false (by omega)
  have d4 : decide ((1024 : Int) < (m : Int)) = false := decide_eq_false (by omega)
  have d5 : decide (1024 < m) = false := decide_eq_false (by omega)
  have hG0 : ¬ G = 0 := by omega
  have hG0' : ¬ (G : Int) = 0 := by omega
  obtain ⟨q, eq⟩ : ∃ q, q = m / G := ⟨_, rfl⟩
  obtain ⟨r, er⟩ : ∃ r, r = m % G := ⟨_, rfl⟩
  have hq : q ≤ 1024 := by rw [eq]; exact Nat.le_trans (Nat.div_le_self _ _) hm
  have m1 : (m : Int).tdiv (G : Int) = (q : Int) := by rw [eq]; exact (Int.ofNat_tdiv m G).symm
  have m2 : (m : Int).tmod (G : Int) = (r : Int) := by rw [er]; exact (Int.ofNat_tmod m G).symm
  have m3 : IntKind.i64.wrap (q : Int) = (q : Int) := by exact IntWalk.i64_in _ (by omega)
  have m4 : IntKind.i64.wrap ((q : Int) + 1) = (q : Int) + 1 := by exact IntWalk.i64_in _ (by omega)
  have HQ := Lib.hid eq
  have HR := Lib.hid er
  clear eq er
  by_cases hr : r = 0
  · have d6 : decide ((0 : Int) < (r : Int)) = false := decide_eq_false (by omega)
    have d7 : decide (0 < r) = false := decide_eq_false (by omega)
    have HE : Hid (ngr m G = q) := (show Hid _ from by
      show _ = _
      rw [HN.out, ← HR.out, ← HQ.out, if_pos hr]; rfl)
    clear hr
    go_wp2_with fail
    refine bodyPost_ret (results_tmp2 rfl _ _ _) rfl ?_
    exact ⟨by rw [HE.out]; rfl, HB1.out⟩
  · have d6 : decide ((0 : Int) < (r : Int)) = true := decide_eq_true (by omega)
    have d7 : decide (0 < r) = true := decide_eq_true (by omega)
    have HE : Hid (ngr m G = q + 1) := (show Hid _ from by
      show _ = _
      rw [HN.out, ← HR.out, ← HQ.out, if_neg hr])
    clear hr
    go_wp2_with fail
    refine bodyPost_ret (results_tmp2 rfl _ _ _) rfl ?_
    exact ⟨by rw [HE.out]; rfl, HB1.out⟩
end Go.Proofs.YtoiabanpnkpbhaaGreatDoor

namespace Go.Proofs.YtoiabanpnkpbhaaGreatDoor
open Go.RowKit Go.Shelf
attribute [local go_sem] Oper.semAt_some

theorem groups_any (A : Option Addr) (l c G : Nat) (w : World) :
    Calls Tryz.prog 48 #[.slice A l c, .int .i64 G] w fun e w' => e = .returned (.func (.func 76) #[] #[.pointer (some ⟨w.heap.size + 1, 0, none⟩), .pointer (some ⟨w.heap.size, 0, none⟩)]) ∧ w' = (w.alloc (.cells #[.slice A l c] 33)).alloc (.cells #[.int .i64 G] 3) := by
  go_enter Tryz.func48, Tryz.ntmps48
  go_wp2
  go_ret
  exact ⟨rfl, rfl⟩
/-- how many rows group g has -/
def gS (len G g : Nat) : Nat := min G (len - g * G)
set_option maxRecDepth 100000 in
set_option maxHeartbeats 4000000 in
theorem gr1_in (n : Nat) (hn : 1 ≤ n) (lr Bz Br b off c len G : Nat) (K : Nat → Prop) (hz : K Bz) (hr : K Br) (hG : 1 ≤ G ∧ G ≤ 10) (hl : len ≤ 1024) (hlc : len ≤ c) (hc : c ≤ 9223372036854775807) (J Jx : List (Fin (ngr len G)) → World → Prop)
    (hY : ∀ pre x W, J pre W → pre.length < ngr len G → YieldAt Fence.wide (n - 1) Tryz.prog lr #[.int .i64 (x.1 : Int), .slice (some ⟨b, off + x.1 * G, none⟩) (gS len G x.1) (c - x.1 * G)] W fun e W' =>
      (e = .returned (.bool true) ∧ J (pre ++ [x]) W' ∧ KB K W W') ∨ (e = .returned (.bool false) ∧ Jx (pre ++ [x]) W'))
    (W : World) (hBz : W.cell? ⟨Bz, 0, none⟩ = some (.int .i64 G)) (hBr : W.cell? ⟨Br, 0, none⟩ = some (.slice (some ⟨b, off, none⟩) len c)) (h0 : J [] W) :
    CallsIn Fence.wide n Tryz.prog 76 #[.func (.yield lr) #[] #[], .pointer (some ⟨Bz, 0, none⟩), .pointer (some ⟨Br, 0, none⟩)] W fun e W' => (∃ v, e = .returned v) ∧
      ((∃ ys, ys = upA (ngr len G) (ngr len G) ∧ J ys W') ∨ (∃ pre, (∃ k, k ≤ ngr len G ∧ pre = upA (ngr len G) k) ∧ Jx pre W')) := by
  refine callsIn_of_wp Tryz.func76 rfl trivial ?_ rfl
  simp only [Tryz.ntmps76, List.size_toArray, List.length_cons, List.length_nil, Nat.reduceAdd, Nat.reduceSub, Array.replicate_succ, Array.replicate_zero, List.push_toArray, List.append_toArray, List.nil_append, List.cons_append]
  have HY := Lib.hid hY
  obtain ⟨b1, b2⟩ := ngr_bd (len := len) hG.1
  obtain ⟨ng, eng⟩ : ∃ ng, ng = ngr len G := ⟨_, rfl⟩
  have HB : Hid (ng * G < len + G ∧ len ≤ ng * G) := (show Hid _ from by rw [eng]; exact ⟨b1, b2⟩)
  have HNG := Lib.hid eng
  clear hY b1 b2
  gi_wp2_with fail
  gi_loopw [4] (fun i wr => ∃ k : Nat, k ≤ ngr len G ∧ i = .int .i64 k ∧ J (upA (ngr len G) k) wr ∧ KB K W wr) (fun i _ => ng - (intOf i).toNat)
  case atStart => exact ⟨0, Nat.zero_le _, rfl, h0, KB.refl _ _⟩
  case round =>
    obtain ⟨k, hk, rfl, hJs, hnx⟩ := hrel
    have hBz' := (hnx.2 ⟨Bz, 0, none⟩ hz).trans hBz
    have hBr' := (hnx.2 ⟨Br, 0, none⟩ hr).trans hBr
    have HN := Lib.hid hnx
    rw [← eng] at hk
    obtain ⟨kg, ekg⟩ : ∃ kg, kg = k * G := ⟨_, rfl⟩
    have HKG := Lib.hid ekg
    have hkgi : (k : Int) * (G : Int) = (kg : Int) := by rw [ekg, Int.natCast_mul]
    have hkgb : kg ≤ ng * G := by rw [ekg]; exact Nat.mul_le_mul_right _ hk
    have hb := HB.out
    have m1 : IntKind.i64.wrap ((k : Int) * (G : Int)) = (kg : Int) := by rw [hkgi]; exact IntWalk.i64_in _ (by omega)
    by_cases hlt : k < ng
    · have hlt' : kg < len := by
        have h1 : (k + 1) * G ≤ ng * G := Nat.mul_le_mul_right _ hlt
        rw [Nat.add_mul] at h1
        omega
      have d1 : decide ((kg : Int) < (len : Int)) = true := decide_eq_true (by omega)
      have d2 : decide (kg < len) = true := decide_eq_true hlt'
      have m2 : IntKind.i64.wrap ((k : Int) + 1) = (k : Int) + 1 := by exact IntWalk.i64_in _ (by have : k ≤ ng * G := Nat.le_trans (Nat.le_of_lt hlt) (Nat.le_mul_of_pos_right _ (by omega)); omega)
      have hk1 : ((k : Int) + 1) * (G : Int) = ((kg + G : Nat) : Int) := by rw [Int.add_mul, hkgi]; omega
      have m3 : IntKind.i64.wrap (((k : Int) + 1) * (G : Int)) = ((kg + G : Nat) : Int) := by rw [hk1]; exact IntWalk.i64_in _ (by omega)
      have HK0 : Hid (k < ngr len G) := (show Hid _ from by show k < _; rw [← eng]; exact hlt)
      have HYK := HY.out _ ⟨k, HK0.out⟩ wr hJs (by rw [upA_length (Nat.le_of_lt HK0.out)]; exact HK0.out)
      have HU : Hid (upA (ngr len G) (k + 1) = upA (ngr len G) k ++ [⟨k, HK0.out⟩]) := (show Hid _ from upA_succ HK0.out)
      have HKN : Hid (k + 1 ≤ ngr len G) := (show Hid _ from HK0.out)
      dsimp only at HYK
      rw [← HKG.out] at HYK
      clear hnx ekg hkgi hk1 hJs hb eng HNG
      by_cases hful : kg + G ≤ len
      · have e1 : min ((kg : Int) + (G : Int)) (len : Int) = ((kg + G : Nat) : Int) := by omega
        have hS : gS len G k = G := by unfold gS; rw [← HKG.out]; omega
        rw [hS] at HYK
        obtain ⟨fn, tmps, assign, body, hy, hR⟩ := HYK
        have HRR := Lib.hid hR
        clear hS hR
        gi_wp2_with fail
        refine HRR.out.mono ?_
        clear m1 m3 e1 d1 d2 hful hBz' hBr' hlt' hkgb hy HRR HY hl hlc hc hz hr hBz hBr h0
        rintro e W3 (⟨rfl, hJ3, hk3⟩ | ⟨rfl, hJx3⟩)
        · have HJ3 := Lib.hid hJ3
          have HK3 := Lib.hid hk3
          clear hJ3 hk3
          gi_wp2_with fail
          go_roundw
          case rel => exact ⟨k + 1, HKN.out, by go_num, by rw [HU.out]; exact HJ3.out, KB_t HN.out HK3.out⟩
          case measure => simp [intOf]; omega
        · have HJ3 := Lib.hid hJx3
          clear hJx3
          gi_wp2_with fail
          refine bodyPost_ret (results_none rfl _ _ _) rfl ?_
          exact ⟨⟨_, rfl⟩, .inr ⟨_, ⟨k + 1, HKN.out, HU.out.symm⟩, HJ3.out⟩⟩
      · have e1 : min ((kg : Int) + (G : Int)) (len : Int) = (len : Int) := by omega
        have hS : gS len G k = len - kg := by unfold gS; rw [← HKG.out]; omega
        rw [hS] at HYK
        obtain ⟨fn, tmps, assign, body, hy, hR⟩ := HYK
        have HRR := Lib.hid hR
        clear hS hR
        gi_wp2_with fail
        refine HRR.out.mono ?_
        clear m1 m3 e1 d1 d2 hful hBz' hBr' hlt' hkgb hy HRR HY hl hlc hc hz hr hBz hBr h0
        rintro e W3 (⟨rfl, hJ3, hk3⟩ | ⟨rfl, hJx3⟩)
        · have HJ3 := Lib.hid hJ3
          have HK3 := Lib.hid hk3
          clear hJ3 hk3
          gi_wp2_with fail
          go_roundw
          case rel => exact ⟨k + 1, HKN.out, by go_num, by rw [HU.out]; exact HJ3.out, KB_t HN.out HK3.out⟩
          case measure => simp [intOf]; omega
        · have HJ3 := Lib.hid hJx3
          clear hJx3
          gi_wp2_with fail
          refine bodyPost_ret (results_none rfl _ _ _) rfl ?_
          exact ⟨⟨_, rfl⟩, .inr ⟨_, ⟨k + 1, HKN.out, HU.out.symm⟩, HJ3.out⟩⟩
    · have hke : k = ng := by omega
      have HJ : Hid (J (upA (ngr len G) (ngr len G)) wr) := (show Hid _ from by
        show J _ _
        rw [hke, eng] at hJs
        exact hJs)
      have hge : len ≤ kg := by rw [HKG.out, hke]; exact hb.2
      have d1 : decide ((kg : Int) < (len : Int)) = false := decide_eq_false (by omega)
      have d2 : decide (kg < len) = false := decide_eq_false (by omega)
      clear hnx ekg hkgi hJs hb eng hke hlt hge hkgb HY HB HNG hl hlc hc hz hr hBz hBr h0 hk
      gi_wp2_with fail
      go_end0
      exact ⟨⟨_, rfl⟩, .inl ⟨_, rfl, HJ.out⟩⟩
end Go.Proofs.YtoiabanpnkpbhaaGreatDoor

namespace Go.Proofs.YtoiabanpnkpbhaaGreatDoor
open Go.RowKit Go.Shelf
attribute [local go_sem] Oper.semAt_some

theorem ngr_zero {G : Nat} (hG : 1 ≤ G) : ngr 0 G = 0 := by unfold ngr; exact Nat.div_eq_of_lt (by omega)
set_option maxRecDepth 100000 in
set_option maxHeartbeats 2000000 in
theorem gr1_nil (n lr Bz Br c G : Nat) (A : Option Addr) (J : World → Prop) (W : World) (hBz : W.cell? ⟨Bz, 0, none⟩ = some (.int .i64 G)) (hBr : W.cell? ⟨Br, 0, none⟩ = some (.slice A 0 c)) (h0 : J W) :
    CallsIn Fence.wide n Tryz.prog 76 #[.func (.yield lr) #[] #[], .pointer (some ⟨Bz, 0, none⟩), .pointer (some ⟨Br, 0, none⟩)] W fun e W' => (∃ v, e = .returned v) ∧ J W' := by
  refine callsIn_of_wp Tryz.func76 rfl trivial ?_ rfl
  simp only [Tryz.ntmps76, List.size_toArray, List.length_cons, List.length_nil, Nat.reduceAdd, Nat.reduceSub, Array.replicate_succ, Array.replicate_zero, List.push_toArray, List.append_toArray, List.nil_append, List.cons_append]
  gi_wp2_with fail
  gi_loopw [4] (fun i wr => i = .int .i64 0 ∧ J wr ∧ wr.cell? ⟨Bz, 0, none⟩ = some (.int .i64 G) ∧ wr.cell? ⟨Br, 0, none⟩ = some (.slice A 0 c)) (fun _ _ => 0)
  case atStart => exact ⟨rfl, h0, hBz, hBr⟩
  case round =>
    obtain ⟨rfl, hJs, c1, c2⟩ := hrel
    have HJ := Lib.hid hJs
    clear hJs h0 hBz hBr
    gi_wp2_with fail
    go_end0
    exact ⟨⟨_, rfl⟩, HJ.out⟩
theorem gr_stops (n : Nat) (hn : 1 ≤ n) (Bz Br : Nat) (K : Nat → Prop) (b off c len G : Nat) (A : Option Addr) (hG : 1 ≤ G ∧ G ≤ 10) (hl : len ≤ 1024) (hlc : len ≤ c) (hc : c ≤ 9223372036854775807) (w : World) (hK : ∀ k, K k → k < w.heap.size) (hz : K Bz) (hr : K Br)
    (hBz : w.cell? ⟨Bz, 0, none⟩ = some (.int .i64 G)) (hBr : w.cell? ⟨Br, 0, none⟩ = some (.slice A len c)) (hA : 0 < len → A = some ⟨b, off, none⟩) :
    SeqStopsK Fence.wide n Tryz.prog 76 #[.pointer (some ⟨Bz, 0, none⟩), .pointer (some ⟨Br, 0, none⟩)] (fun x : Fin (ngr len G) => #[.int .i64 (x.1 : Int), .slice (some ⟨b, off + x.1 * G, none⟩) (gS len G x.1) (c - x.1 * G)]) (KB K) (fun ys => ys = upA (ngr len G) (ngr len G)) (fun pre => ∃ k, k ≤ ngr len G ∧ pre = upA (ngr len G) k) (ngr len G) w := fun lr J Jx W hW _ _ hY h0 => by
  have hBz' := (hW.cell (p := ⟨Bz, 0, none⟩) (hK _ hz)).trans hBz
  have hBr' := (hW.cell (p := ⟨Br, 0, none⟩) (hK _ hr)).trans hBr
  by_cases h : len = 0
  · subst h
    exact (gr1_nil n lr Bz Br c G A (J []) W hBz' hBr' h0).mono fun e W' ⟨he, hj⟩ => ⟨he, .inl ⟨[], by rw [ngr_zero hG.1]; rfl, hj⟩⟩
  · have e := hA (by omega)
    subst e
    exact gr1_in n hn lr Bz Br b off c len G K hz hr hG hl hlc hc J Jx hY W hBz' hBr' h0
end Go.Proofs.YtoiabanpnkpbhaaGreatDoor
