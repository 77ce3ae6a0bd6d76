/- Joined: Qc. -/
import Derived.Test.YtoiabanpnkpbhaaGreatDoorY47
import Derived.Test.YtoiabanpnkpbhaaGreatDoorY45
namespace Go.Proofs.YtoiabanpnkpbhaaGreatDoor
open Go.RowKit

theorem SL.take {w : World} {A : Option Addr} {n c m : Nat} {rows : List (List Int)} (h : SL w (.slice A n c) rows) (hm : m ≤ rows.length) : SL w (.slice A m c) (rows.take m) := by
  obtain ⟨A', c', e, hc, hx, ha⟩ := h
  injection e with e1 e2 e3
  subst e1 e3
  refine ⟨A, c, by rw [List.length_take, Nat.min_eq_left hm], by rw [List.length_take]; omega, hx, fun h0 => ?_⟩
  rw [List.length_take] at h0
  obtain ⟨b, off, e, hb, hcell⟩ := ha (by omega)
  refine ⟨b, off, e, hb, fun j hj => ?_⟩
  rw [List.length_take] at hj
  obtain ⟨B, d, h1, h2⟩ := hcell j (by omega)
  rw [List.getElem_take]
  exact ⟨B, d, h1, h2⟩
theorem SL_nil (w : World) : SL w (.slice none 0 0) [] := ⟨none, 0, rfl, Nat.le_refl _, by omega, fun h => by simp at h⟩
theorem reE_4 {P n : Int} {G : Nat} {wd rows : Int} {sv : List Int} {hs : List (List (List Int))} (h : wd < 0 ∨ 64 < wd ∨ rows < 0 ∨ 1024 < rows) : reE P n G wd rows sv hs = 4 := by unfold reE; rw [if_pos h]
theorem reE_11 {P n : Int} {G : Nat} {wd rows : Int} {sv : List Int} {hs : List (List (List Int))} (h : ¬ (wd < 0 ∨ 64 < wd ∨ rows < 0 ∨ 1024 < rows)) (h2 : sv.length < G) : reE P n G wd rows sv hs = 11 := by unfold reE; rw [if_neg h, if_pos h2]
theorem reE_2 {P n : Int} {G : Nat} {wd rows : Int} {sv : List Int} {hs : List (List (List Int))} (h : ¬ (wd < 0 ∨ 64 < wd ∨ rows < 0 ∨ 1024 < rows)) (h2 : ¬ sv.length < G) (h3 : hs.length ≠ sv.length) : reE P n G wd rows sv hs = 2 := by unfold reE; rw [if_neg h, if_neg h2, if_pos h3]
theorem reE_k {P n : Int} {G : Nat} {wd rows : Int} {sv : List Int} {hs : List (List (List Int))} (h : ¬ (wd < 0 ∨ 64 < wd ∨ rows < 0 ∨ 1024 < rows)) (h2 : ¬ sv.length < G) (h3 : hs.length = sv.length) : reE P n G wd rows sv hs = rcK n P wd (ngr rows.toNat G) sv hs sv.length := by unfold reE; rw [if_neg h, if_neg h2, if_neg (by simp [h3])]
theorem reO_err {P n : Int} {G : Nat} {wd rows : Int} {sv : List Int} {hs : List (List (List Int))} (h : reE P n G wd rows sv hs ≠ 0) : reO P n G wd rows sv hs = [] := by unfold reO; rw [if_neg h]
set_option maxRecDepth 100000 in
set_option maxHeartbeats 16000000 in
theorem grecover_ok (P n t wd rows : Int) (G : Nat) (sv : List Int) (hs : List (List (List Int))) (vs vh : Value) (w : World) (hV : SV P n t G) (hrr : i64r rows) (hsv : SI w vs sv) (hh : SLL w vh hs) (hz : sv.length ≤ 1000000) (hz2 : hs.length ≤ 1000000) :
    Calls Tryz.prog 42 #[.agg #[.int .i64 P], .agg #[.int .i64 n, .int .i64 t, .int .i64 G], .int .i64 wd, .int .i64 rows, vs, vh] w fun e w' => ∃ v, e = .returned (.tuple #[v, .int .i64 (reE P n G wd rows sv hs)]) ∧ Below w.heap.size w w' ∧ SL w' v (reO P n G wd rows sv hs) := by
  have HV := Lib.hid hV
  have hn10 := hV.n10
  have hnP := hV.nP
  have hG1 := hV.G1
  have hsum := hV.sum
  have ht1 := hV.t1
  have hPb := hV.pb
  have hPi : i64r P := by unfold i64r; omega
  have hG10 : 1 ≤ G ∧ G ≤ 10 := by omega
  obtain ⟨As, cs, rfl⟩ := hsv.form
  obtain ⟨Ah, ch, rfl, hat⟩ := hh.at
  have HSV := Lib.hid hsv
  have HHH := Lib.hid hh
  have HAT := Lib.hid hat
  have hcap := hsv.capB
  obtain ⟨L, eL⟩ : ∃ L, L = sv.length := ⟨_, rfl⟩
  obtain ⟨M, eM⟩ : ∃ M, M = hs.length := ⟨_, rfl⟩
  rw [← eL] at HSV hz hcap ⊢
  rw [← eM] at HHH hz2 ⊢
  have HL := Lib.hid eL
  have HM := Lib.hid eM
  clear hV hsv hh hat eL eM
  go_enter Tryz.func42, Tryz.ntmps42
  obtain ⟨F, eF⟩ : ∃ F, F = w.heap.size := ⟨_, rfl⟩
  obtain ⟨w1, ew1⟩ : ∃ w1 : World, w1 = (w.alloc (.cells #[.int .i64 P] 31)).alloc (.cells #[.int .i64 n, .int .i64 t, .int .i64 G] 29) := ⟨_, rfl⟩
  have HWw1 : Hid ((w.alloc (.cells #[.int .i64 P] 31)).alloc (.cells #[.int .i64 n, .int .i64 t, .int .i64 G] 29) = w1) := ew1.symm
  have HAw1 : Hid (Below w.heap.size w w1) := (show Hid _ from by rw [ew1]; exact ((Below.refl _ w).alloc (Nat.le_refl _) _).alloc (by simp) _)
  have HF0w1 : Hid (w1.heap[F]? = some (.cells #[.int .i64 P] 31 (0, 0))) := (show Hid _ from by show _ = _; rw [ew1, eF, Below.heap_alloc _ _ _ (by simp)]; exact heap_alloc_new w _)
  have HF1w1 : Hid (w1.heap[F + 1]? = some (.cells #[.int .i64 n, .int .i64 t, .int .i64 G] 29 (0, 0))) := (show Hid _ from by show _ = _; rw [ew1, eF]; have := heap_alloc_new (w.alloc (.cells #[.int .i64 P] 31)) (.cells #[.int .i64 n, .int .i64 t, .int .i64 G] 29); simpa using this)
  have HXC : Hid (∀ W, Below w1.heap.size w1 W → W.cell? ⟨F, 0, none⟩ = some (.int .i64 P) ∧ W.cell? ⟨F + 1, 0, none⟩ = some (.int .i64 n) ∧ W.cell? ⟨F + 1, 1, none⟩ = some (.int .i64 t) ∧ W.cell? ⟨F + 1, 2, none⟩ = some (.int .i64 G)) := (show Hid _ from fun W hg => by
    have hF0 := (hg.block F (heap_of_cells HF0w1.out)).trans HF0w1.out
    have hF1 := (hg.block (F + 1) (heap_of_cells HF1w1.out)).trans HF1w1.out
    exact ⟨cell_of_row W F 0 _ _ _ hF0, cell_of_row W (F + 1) 0 _ _ _ hF1, cell_of_row W (F + 1) 1 _ _ _ hF1, cell_of_row W (F + 1) 2 _ _ _ hF1⟩)
  have hFw1 : F < w1.heap.size := heap_of_cells HF0w1.out
  have HF1 : Hid (F < w1.heap.size) := hFw1
  go_upto_region 1 with fail
  rw [HWw1.out, ← eF]
  clear ew1 eF
  obtain ⟨f0, s0, s1, s2⟩ := HXC.out w1 (Below.refl _ _)
  go_wp2_with fail
  (with_reducible refine (gCheck_ok P n t G w1 HV.out).mono ?_)
  rintro e w2 ⟨rfl, hb2⟩
  have HB2 : Hid (Below w1.heap.size w1 w2) := hb2
  have HBw2 : Hid (Below w.heap.size w w2) := (show Hid _ from HAw1.out.trans (HB2.out.mono HAw1.out.size))
  clear hb2 f0 s0 s1 s2
  obtain ⟨f0, s0, s1, s2⟩ := HXC.out w2 HB2.out
  go_wp2_with fail
  (with_reducible refine (wideB_any wd w2).mono ?_)
  rintro e wz ⟨rfl, hwz⟩
  subst hwz
  by_cases hw : 0 ≤ wd ∧ wd ≤ 64
  case neg =>
    have d1 : decide (0 ≤ wd ∧ wd ≤ 64) = false := decide_eq_false hw
    rw [d1]
    have HE := Lib.hid (reE_4 (P := P) (n := n) (G := G) (rows := rows) (sv := sv) (hs := hs) (show wd < 0 ∨ 64 < wd ∨ rows < 0 ∨ 1024 < rows by omega))
    clear hw d1
    go_wp2_with fail
    go_ret2
    exact ⟨.slice none 0 0, by rw [HE.out]; rfl, HBw2.out, by rw [reO_err (by rw [HE.out]; omega)]; exact SL_nil _⟩
  have d1 : decide (0 ≤ wd ∧ wd ≤ 64) = true := decide_eq_true hw
  rw [d1]
  clear d1
  by_cases hr1 : rows < 0
  · have d2 : decide (rows < 0) = true := decide_eq_true hr1
    have HE := Lib.hid (reE_4 (P := P) (n := n) (G := G) (sv := sv) (hs := hs) (show wd < 0 ∨ 64 < wd ∨ rows < 0 ∨ 1024 < rows by omega))
    clear hr1
    go_wp2_with fail
    go_ret2
    exact ⟨.slice none 0 0, by rw [HE.out]; rfl, HBw2.out, by rw [reO_err (by rw [HE.out]; omega)]; exact SL_nil _⟩
  have d2 : decide (rows < 0) = false := decide_eq_false hr1
  by_cases hr2 : 1024 < rows
  · have d3 : decide (1024 < rows) = true := decide_eq_true hr2
    have HE := Lib.hid (reE_4 (P := P) (n := n) (G := G) (sv := sv) (hs := hs) (show wd < 0 ∨ 64 < wd ∨ rows < 0 ∨ 1024 < rows by omega))
    clear hr2
    go_wp2_with fail
    go_ret2
    exact ⟨.slice none 0 0, by rw [HE.out]; rfl, HBw2.out, by rw [reO_err (by rw [HE.out]; omega)]; exact SL_nil _⟩
  have d3 : decide (1024 < rows) = false := decide_eq_false hr2
  have HN4 : Hid (¬ (wd < 0 ∨ 64 < wd ∨ rows < 0 ∨ 1024 < rows)) := (show Hid _ from by show ¬ _; omega)
  by_cases hLG : L < G
  · have d4 : decide ((L : Int) < (G : Int)) = true := decide_eq_true (by omega)
    have d4' : decide (L < G) = true := decide_eq_true hLG
    have HE := Lib.hid (reE_11 (P := P) (n := n) (hs := hs) HN4.out (show sv.length < G by rw [← HL.out]; exact hLG))
    clear hLG
    go_wp2_with fail
    go_ret2
    exact ⟨.slice none 0 0, by rw [HE.out]; rfl, HBw2.out, by rw [reO_err (by rw [HE.out]; omega)]; exact SL_nil _⟩
  have d4 : decide ((L : Int) < (G : Int)) = false := decide_eq_false (by omega)
  have d4' : decide (L < G) = false := decide_eq_false hLG
  by_cases hML : M = L
  case neg =>
    have d5 : ((M : Int) != (L : Int)) = true := by rw [bne_iff_ne]; omega
    have d5' : (M != L) = true := by rw [bne_iff_ne]; exact hML
    have HE := Lib.hid (reE_2 (P := P) (n := n) HN4.out (show ¬ sv.length < G by rw [← HL.out]; exact hLG) (show hs.length ≠ sv.length by rw [← HL.out, ← HM.out]; exact hML))
    clear hML
    go_wp2_with fail
    go_ret2
    exact ⟨.slice none 0 0, by rw [HE.out]; rfl, HBw2.out, by rw [reO_err (by rw [HE.out]; omega)]; exact SL_nil _⟩
  subst hML
  have d5 : ((M : Int) != (M : Int)) = false := by rw [bne_eq_false_iff_eq]
  have d5' : (M != M) = false := by rw [bne_eq_false_iff_eq]
  obtain ⟨wdn, rfl⟩ : ∃ k : Nat, wd = k := ⟨wd.toNat, by omega⟩
  obtain ⟨rn, rfl⟩ : ∃ k : Nat, rows = k := ⟨rows.toNat, by omega⟩
  have HEK := Lib.hid (reE_k (P := P) (n := n) HN4.out (show ¬ sv.length < G by rw [← HL.out]; exact hLG) (show hs.length = sv.length by rw [← HL.out, ← HM.out]))
  have HGL : Hid (G ≤ sv.length) := (show Hid _ from by show _ ≤ _; rw [← HL.out]; omega)
  clear hrr
  go_wp2_with fail
  (with_reducible refine (groups_ok n t G rn w2 hG10 (by omega)).mono ?_)
  rintro e w3 ⟨rfl, hb3⟩
  obtain ⟨N, eN⟩ : ∃ N, N = ngr rn G := ⟨_, rfl⟩
  have hNb := ngr_bd (len := rn) (G := G) hG10.1
  rw [← eN] at hNb ⊢
  have hNle : N ≤ 2048 := by
    have h2 : N * 1 ≤ N * G := Nat.mul_le_mul_left _ hG10.1
    omega
  have HNB := Lib.hid hNb
  have HEN := Lib.hid eN
  have HB3 : Hid (Below w1.heap.size w1 w3) := (show Hid _ from HB2.out.trans (hb3.mono HB2.out.size))
  have HBw3 : Hid (Below w.heap.size w w3) := (show Hid _ from HAw1.out.trans (HB3.out.mono HAw1.out.size))
  clear hb3 eN hNb f0 s0 s1 s2 d2 d3 d4 d4' d5 d5'
  obtain ⟨f0, s0, s1, s2⟩ := HXC.out w3 HB3.out
  have HRV : Hid (Calls Tryz.prog 69 #[.agg #[.int .i64 P], .agg #[.int .i64 n, .int .i64 t, .int .i64 G], .int .i64 wdn, .int .i64 N, .slice As M cs, .slice Ah M ch] w3 fun e w' => e = .returned (.int .i64 (reE P n G wdn rn sv hs)) ∧ Below w3.heap.size w3 w') := (show Hid _ from by
    have h := recoverable_any P n t wdn G N sv hs (.slice As M cs) (.slice Ah M ch) w3 (HSV.out.below HBw3.out) (HHH.out.below HBw3.out) (by rw [← HM.out, ← HL.out]) (by rw [← HL.out]; exact hz) (by omega)
    rw [HEK.out, Int.toNat_natCast, ← HEN.out]
    exact h)
  go_wp2_with fail
  (with_reducible refine HRV.out.mono ?_)
  rintro e w4 ⟨rfl, hb4⟩
  have HB4 : Hid (Below w1.heap.size w1 w4) := (show Hid _ from HB3.out.trans (hb4.mono HB3.out.size))
  have HBw4 : Hid (Below w.heap.size w w4) := (show Hid _ from HAw1.out.trans (HB4.out.mono HAw1.out.size))
  clear hb4 f0 s0 s1 s2 HRV
  obtain ⟨er, eer⟩ : ∃ er, er = reE P n G wdn rn sv hs := ⟨_, rfl⟩
  rw [← eer]
  have HER := Lib.hid eer
  by_cases he : er = 0
  case neg =>
    have d6 : (er != 0) = true := by rw [bne_iff_ne]; exact he
    have HO : Hid (reO P n G wdn rn sv hs = []) := (show Hid _ from reO_err (by rw [← eer]; exact he))
    clear eer he
    go_wp2_with fail
    go_ret2
    exact ⟨.slice none 0 0, by rw [← HER.out]; rfl, HBw4.out, by rw [HO.out]; exact SL_nil _⟩
  subst he
  have HRK : Hid (rcK n P wdn N sv hs sv.length = 0) := (show Hid _ from by
    have h := HEK.out
    rw [← eer, Int.toNat_natCast, ← HEN.out] at h; exact h.symm)
  have HALL := Lib.hid (rcK_all HRK.out)
  have HOO : Hid (reO P n G wdn rn sv hs = (rAll P sv hs G wdn N).take rn) := (show Hid _ from by
    show _ = _
    unfold reO
    rw [← eer, if_pos rfl, Int.toNat_natCast, Int.toNat_natCast, ← HEN.out])
  have HPR : Hid (prB P = true) := (show Hid _ from HV.out.pr)
  have HE0 : Hid (reE P n G wdn rn sv hs = 0) := (show Hid _ from eer.symm)
  have hwd64 : wdn ≤ 64 := by omega
  clear eer HEK HER HN4 hw hr1 hr2 HV
  have HFw4 : Hid (F < w4.heap.size) := (show Hid _ from Nat.lt_of_lt_of_le HF1.out HB4.out.size)
  go_wp2_with fail
  go_loopw [18, 74] (fun v iv wr => Qb1 P sv hs G wdn N F w4 v iv wr) (fun _ iv _ => N - (intOf iv).toNat)
  case atStart => exact ⟨0, _, [], rfl, Nat.zero_le _, rfl, RW.nil _ _ _, Below.refl _ _⟩
  case round =>
    obtain ⟨q, pv, vs, rfl, hq, rfl, hrw, hb⟩ := hrel
    have HQ := Lib.hid hrw
    have HBq := Lib.hid hb
    have HBq1 : Hid (Below w1.heap.size w1 wr) := (show Hid _ from HB4.out.trans (hb.mono HB4.out.size))
    clear hrw hb
    by_cases hlq : q < N
    · have dq : decide (q < N) = true := decide_eq_true hlq
      obtain ⟨wq, ewq⟩ : ∃ wq : World, wq = wr := ⟨_, rfl⟩
      rw [← ewq] at HQ HBq HBq1 ⊢
      clear ewq
      have HFq : Hid (F < wq.heap.size) := (show Hid _ from Nat.lt_of_lt_of_le HFw4.out HBq.out.size)
      go_wp2_with fail
      go_loopw [20, 78] (fun v iv wr => Qb2 P sv hs G wdn q F wq v iv wr) (fun _ iv _ => wdn - (intOf iv).toNat)
      case atStart => exact ⟨0, _, [], rfl, Nat.zero_le _, rfl, RW.nil _ _ _, Below.refl _ _⟩
      case round =>
        obtain ⟨c, pc, vc, rfl, hc, rfl, hrw, hb⟩ := hrel
        have HC := Lib.hid hrw
        have HBc := Lib.hid hb
        have HBc1 : Hid (Below w1.heap.size w1 wr) := (show Hid _ from HBq1.out.trans (hb.mono HBq1.out.size))
        clear hrw hb
        by_cases hlc : c < wdn
        · have dc : decide (c < wdn) = true := decide_eq_true hlc
          obtain ⟨wc, ewc⟩ : ∃ wc : World, wc = wr := ⟨_, rfl⟩
          rw [← ewc] at HC HBc HBc1 ⊢
          clear ewc
          have HFc : Hid (F < wc.heap.size) := (show Hid _ from Nat.lt_of_lt_of_le HFq.out HBc.out.size)
          obtain ⟨f0, s0, s1, s2⟩ := HXC.out wc HBc1.out
          have z1 : (0 : Int) ≤ (G : Int) := by omega
          have z2 : (G : Int) ≤ (cs : Int) := by omega
          have z2' : G ≤ cs := by omega
          go_wp2_with fail
          clear f0 s0 s1 s2 z1 z2
          go_loopw [22, 86] (fun v iv wr => Qb3 sv hs G q c wc v iv wr) (fun _ iv _ => G - (intOf iv).toNat)
          case atStart => exact ⟨0, _, [], rfl, Nat.zero_le _, rfl, rfl, World.ownsRow_nil _ _ _ _, Below.refl _ _⟩
          case round =>
            obtain ⟨i, pi, l, rfl, hi, rfl, hl, hown, hb⟩ := hrel
            have HO := Lib.hid hown
            have HBi := Lib.hid hb
            have HLL := Lib.hid hl
            have HBi1 : Hid (Below w1.heap.size w1 wr) := (show Hid _ from HBc1.out.trans (hb.mono HBc1.out.size))
            have HBiw : Hid (Below w.heap.size w wr) := (show Hid _ from HAw1.out.trans (HBi1.out.mono HAw1.out.size))
            have hll : l.length = i := by rw [hl, rPts_len]
            have HLN := Lib.hid hll
            clear hown hb hl hll
            by_cases hli : i < G
            · have di : decide (i < G) = true := decide_eq_true hli
              have his : i < sv.length := by rw [← HL.out]; omega
              have hih : i < hs.length := by rw [← HM.out]; omega
              obtain ⟨_, _, h3, h4⟩ := rcOne_ok (HALL.out i his)
              obtain ⟨bs, os, eAs, cj⟩ := (HSV.out.below HBiw.out).at his
              subst eAs
              obtain ⟨bh, oh, Bh, dh, eAh, hW⟩ := HAT.out i hih
              subst eAh
              obtain ⟨ckh, hsl⟩ := hW wr HBiw.out
              have e3 : g3 hs i = hs[i] := g3_lt hih
              rw [e3] at h3 h4
              obtain ⟨Ar, cr, er, hrt⟩ := hsl.at
              injection er with er1 er2 er3
              subst er1 er3
              have hqr : q < hs[i].length := by rw [h3]; exact hlq
              obtain ⟨b5, o5, B5, d5, eA5, hW5⟩ := hrt q hqr
              subst eA5
              obtain ⟨c5, h5⟩ := hW5 wr (Below.refl _ _)
              have h6 := h4 _ (List.getElem_mem hqr)
              have hcr : c < hs[i][q].length := by omega
              obtain ⟨b6, o6, eB6, c6⟩ := h5.at hcr
              subst eB6
              obtain ⟨j, ej⟩ : ∃ j, j = sv[i] := ⟨_, rfl⟩
              obtain ⟨y, ey⟩ : ∃ y, y = hs[i][q][c] := ⟨_, rfl⟩
              rw [← ej] at cj
              rw [← ey] at c6
              have hrl : hs[i][q].length = wdn := by omega
              rw [hrl] at c5
              rw [h3] at ckh
              have HNX : Hid (rPts sv hs (i + 1) q c = l ++ [(j, y)]) := (show Hid _ from by
                show _ = _
                rw [rPts_succ, ← HLL.out]
                have e4 : gd sv i = j := by rw [gd_lt his, ej]
                have e5 : gd (gr (g3 hs i) q) c = y := by
                  have e6 : gr (g3 hs i) q = hs[i][q] := by unfold gr; rw [e3, List.getElem?_eq_getElem hqr]; rfl
                  rw [e6, gd_lt hcr, ey]
                rw [e4, e5])
              have z1 : (0 : Int) ≤ (i : Int) := by omega
              have z2 : (i : Int) < (M : Int) := by omega
              have z3 : (i : Int) < (G : Int) := by omega
              have z4 : (0 : Int) ≤ (q : Int) := by omega
              have z5 : (q : Int) < (N : Int) := by omega
              have z6 : (0 : Int) ≤ (c : Int) := by omega
              have z7 : (c : Int) < (wdn : Int) := by omega
              have hzi := HBi.out.size
              have hlb : l.length ≤ 100 := by rw [HLN.out]; omega
              clear hW hsl e3 hrt hW5 h5 h6 hcr ej ey hrl h3 h4 hqr er2 hih his
              go_wp2_with (at_builtin; refine wpList_append_lit_at _ rfl _ _ 112 rfl wc.heap.size 114 _ 2 16 Tryz.underlying112 shinfo pi l.length ((l.flatMap pcs).map (Value.int .i64)) rfl (HO.out.alloc _) [.int .i64 j, .int .i64 y] rfl (by intro u hu; simp at hu; rcases hu with rfl | rfl <;> rfl) wr.heap.size rfl (fun k u hu => by have h := cells_new wr [.int .i64 j, .int .i64 y] 114 k u hu; rw [addr_add] at h; exact h) (by omega) (by omega) rfl (by omega) (by simp; omega) ?_; intro g9 cap9 w9 hown9 hg9 hat9; have HO9 := Lib.hid hown9; have HG9 := Lib.hid hg9; clear hown9 hg9 hat9)
              have HB9 : Hid (Below wc.heap.size wc w9) := (show Hid _ from (HBi.out.alloc hzi _).grown HG9.out (by simp; omega) (fun q hq => (HO.out.lt q hq).1))
              have HOW9 : Hid (w9.ownsRow wc.heap.size 114 2 (.slice (some ⟨g9, 0, none⟩) (l.length + 1) cap9) (l ++ [(j, y)]).length (((l ++ [(j, y)]).flatMap pcs).map (Value.int .i64))) := (show Hid _ from by
                have h := HO9.out
                show World.ownsRow _ _ _ _ _ _ _
                simpa [pcs] using h)
              go_roundw
              case rel => exact ⟨i + 1, _, l ++ [(j, y)], rfl, by omega, by go_num, HNX.out.symm, HOW9.out, HB9.out⟩
              case measure => simp [intOf]; omega
            · have di : decide (i < G) = false := decide_eq_false hli
              have hiG : i = G := by omega
              have HLG : Hid (l = rPts sv hs G q c) := (show Hid _ from by rw [← hiG]; exact HLL.out)
              have HIN : Hid (inE P l = 0) := (show Hid _ from by
                rw [HLG.out]
                exact rPts_ok HPR.out hnP HGL.out (by omega) HRK.out hlq)
              have HSG : Hid (SG pcs 2 wr.heap.size wr pi l) := (show Hid _ from SG.of_own HO.out (fun x hx y hy => by
                rw [HLG.out] at hx
                obtain ⟨k, hk, rfl⟩ := List.mem_map.1 hx
                have hk' := List.mem_range.1 hk
                obtain ⟨h1, _, h3, h4⟩ := rcOne_ok (HALL.out k (by have := HGL.out; omega))
                simp [pcs] at hy
                rcases hy with rfl | rfl
                · show i64r (gd sv k); unfold i64r; omega
                · show i64r (gd (gr (g3 hs k) q) c)
                  have e : gr (g3 hs k) q = (g3 hs k)[q]'(by omega) := by unfold gr; rw [List.getElem?_eq_getElem (by omega)]; rfl
                  have h5 := h4 _ (List.getElem_mem (show q < (g3 hs k).length by omega))
                  rw [e]
                  have h6 := el_t (els_gd hPb.1 h5.2 c)
                  unfold i64r; omega) (fun x _ => rfl))
              have hll : l.length = G := by rw [HLN.out, hiG]
              obtain ⟨Api, cpi, epi, _⟩ := id HSG.out
              subst epi
              rw [hll] at HSG ⊢
              have hlb : l.length ≤ 1000000 := by omega
              obtain ⟨f0, s0, s1, s2⟩ := HXC.out wr HBi1.out
              clear hiG hll
              go_wp2_with fail
              (with_reducible refine (interp_any P l _ wr hPi HSG.out hlb).mono ?_)
              rintro e w6 ⟨v', rfl, ho6, hb6⟩
              rw [HIN.out]
              obtain ⟨X, eX⟩ : ∃ X, X = interp P (rPts sv hs G q c) := ⟨_, rfl⟩
              have hip : inP P l = X := by unfold inP; rw [if_pos HIN.out, HLG.out, eX]
              rw [hip] at ho6
              have HO6 := Lib.hid ho6
              have HB6 : Hid (Below wc.heap.size wc w6) := (show Hid _ from HBi.out.trans (hb6.mono HBi.out.size))
              have HXE : Hid (els P X = true) := (show Hid _ from by rw [eX]; exact trim_els (newt_els hPb.1 _).1)
              have HXL : Hid (X.length ≤ 1000) := (show Hid _ from by
                rw [eX]
                have h1 := trim_len (newt P (rPts sv hs G q c)).1
                have h2 := (newt_len P (rPts sv hs G q c)).1
                rw [rPts_len] at h2
                show (trim _).length ≤ _
                split at h2 <;> omega)
              have HNXT : Hid (rPols P sv hs G q (c + 1) = rPols P sv hs G q c ++ [X]) := (show Hid _ from by rw [eX]; exact rPols_succ ..)
              obtain ⟨A1, c1, rfl⟩ := own_sl' ho6
              have hwz : wq.heap.size ≤ w6.heap.size := by have := HBc.out.size; have := HB6.out.size; omega
              have hwz2 : wr.heap.size ≤ w6.heap.size := hb6.size
              have HC6 : Hid (RW wq.heap.size F w6 pc vc (rPols P sv hs G q c)) := (show Hid _ from HC.out.below HFq.out HB6.out)
              have hcv : vc.length ≤ 64 := by have h := HC.out.len; simp [rPols] at h; omega
              have HSX : Hid (SX (w6.alloc (.cells #[.slice A1 X.length c1] 22)) pc.ownBlock (some F) (.slice A1 X.length c1) X) := (show Hid _ from SX.of_own (base := wr.heap.size) (HO6.out.alloc _) (els_r hPb.2 HXE.out) (fun b hb => by have := (HC.out.hdr.lt b hb).2; have := HBi.out.size; omega) (fun b hb => by injection hb with e; have := HFc.out; have := HBi.out.size; omega))
              obtain ⟨xl, exl⟩ : ∃ xl, xl = X.length := ⟨_, rfl⟩
              rw [← exl] at HSX ⊢
              clear ho6 hb6 hip eX exl f0 s0 s1 s2
              go_wp2_with (at_builtin; refine wpList_append_one_at _ rfl _ _ 33 rfl wq.heap.size 22 (.slice none 0 0) 24 Tryz.underlying33 ilinfo pc vc.length vc rfl (HC6.out.hdr.alloc _) (.slice A1 xl c1) rfl w6.heap.size rfl (cells_new w6 [.slice A1 xl c1] 22 0 _ rfl) (by omega) (by omega) rfl (by simp; omega) ?_; intro g9 cap9 w9 hown9 hg9 hat9; have HO9 := Lib.hid hown9; have HG9 := Lib.hid hg9; have HA9 := Lib.hid hat9; clear hown9 hg9 hat9)
              have HC9 : Hid (RW wq.heap.size F w9 (.slice (some ⟨g9, 0, none⟩) (vc.length + 1) cap9) (vc ++ [.slice A1 xl c1]) (rPols P sv hs G q (c + 1))) := (show Hid _ from by
                rw [HNXT.out]
                exact (HC6.out.below HFq.out ((Below.refl _ w6).alloc (Nat.le_refl _) _)).app HSX.out HO9.out HG9.out (fun b hb => by
                  have e : g9 = b := by simpa [Value.ownBlock] using hb
                  subst e; exact HA9.out))
              have HB9 : Hid (Below wq.heap.size wq w9) := (show Hid _ from ((HBc.out.trans (HB6.out.mono HBc.out.size)).alloc hwz _).grown HG9.out (by simp; omega) (fun b hb => (HC6.out.hdr.lt b hb).1))
              go_roundw
              case rel => exact ⟨c + 1, _, _, rfl, by omega, by go_num, HC9.out, HB9.out⟩
              case measure => simp [intOf]; omega
        · have dc : decide (c < wdn) = false := decide_eq_false hlc
          have hcw : c = wdn := by omega
          have HCF : Hid (RW wq.heap.size F wr pc vc (rPols P sv hs G q wdn)) := (show Hid _ from by rw [← hcw]; exact HC.out)
          have HSL := Lib.hid (HCF.out.sle HFq.out).sl
          obtain ⟨Apc, cpc, epc⟩ := (HCF.out.sle HFq.out).form
          have hpl : (rPols P sv hs G q wdn).length = wdn := by simp [rPols]
          rw [hpl] at epc
          subst epc
          have HBr1 : Hid (Below w1.heap.size w1 wr) := HBc1
          obtain ⟨f0, s0, s1, s2⟩ := HXC.out wr HBr1.out
          have HQr : Hid (RW w4.heap.size F wr pv vs (rAll P sv hs G wdn q)) := (show Hid _ from HQ.out.below HFw4.out HBc.out)
          have hqv : vs.length ≤ 30000 := by
            have h := HQ.out.len
            rw [rAll_len] at h
            have h2 : q * G ≤ 2048 * 10 := Nat.mul_le_mul (by omega) (by omega)
            omega
          have HPL : Hid (∀ p ∈ rPols P sv hs G q wdn, els P p = true ∧ p.length ≤ 1000) := (show Hid _ from fun p hp => by
            obtain ⟨c', _, rfl⟩ := List.mem_map.1 hp
            refine ⟨trim_els (newt_els hPb.1 _).1, ?_⟩
            have h1 := trim_len (newt P (rPts sv hs G q c')).1
            have h2 := (newt_len P (rPts sv hs G q c')).1
            rw [rPts_len] at h2
            show (trim _).length ≤ _
            split at h2 <;> omega)
          clear hcw hpl
          go_wp2_with fail
          (with_reducible refine (lowestF_ok (rPols P sv hs G q wdn) G _ wr HSL.out (by omega) (by simp [rPols]; omega) (fun p hp => els_r hPb.2 (HPL.out p hp).1) (fun p hp => by have := (HPL.out p hp).2; omega)).mono ?_)
          rintro e w6 ⟨A6, c6, rfl, hb6, hsl6⟩
          have HS6 := Lib.hid hsl6
          have HB6 : Hid (Below wr.heap.size wr w6) := hb6
          have HB46 : Hid (Below w4.heap.size w4 w6) := (show Hid _ from HBq.out.trans ((HBc.out.trans (HB6.out.mono HBc.out.size)).mono HBq.out.size))
          have HQ6 : Hid (RW w4.heap.size F w6 pv vs (rAll P sv hs G wdn q)) := (show Hid _ from HQr.out.below HFw4.out hb6)
          have HFr : Hid (F < wr.heap.size) := (show Hid _ from Nat.lt_of_lt_of_le HFq.out HBc.out.size)
          obtain ⟨hlen6, hsc, hH⟩ := (hsl6 F HFr.out).hdrs
          clear hlen6
          have HSC := Lib.hid hsc
          have HHH2 := Lib.hid hH
          have HONE : Hid (∀ u ∈ (List.range G).map (hdH w6 A6), u.oneCell' = true) := (show Hid _ from fun u hu => by
            obtain ⟨j, hj, rfl⟩ := List.mem_map.1 hu
            exact (hH j (by have := List.mem_range.1 hj; simp; exact this)).2)
          have HNXT : Hid (rAll P sv hs G wdn (q + 1) = rAll P sv hs G wdn q ++ rGrp P sv hs G wdn q) := (show Hid _ from rAll_succ ..)
          have hz46 := HB46.out.size
          clear hb6 hsl6 hsc hH f0 s0 s1 s2
          go_wp2_with (at_builtin; refine wpList_append_hdrs _ rfl _ _ 33 rfl w4.heap.size 22 (.slice none 0 0) 24 Tryz.underlying33 ilinfo pv vs.length vs rfl HQ6.out.hdr (.slice A6 G c6) G ((List.range G).map (hdH w6 A6)) rfl w6.heap.size HSC.out HONE.out (by omega) (by omega) (by omega) rfl (by omega) ?_; intro g9 cap9 w9 hown9 hg9 hat9; have HO9 := Lib.hid hown9; have HG9 := Lib.hid hg9; have HA9 := Lib.hid hat9; clear hown9 hg9 hat9)
          have HQ9 : Hid (RW w4.heap.size F w9 (.slice (some ⟨g9, 0, none⟩) (vs.length + G) cap9) (vs ++ (List.range G).map (hdH w6 A6)) (rAll P sv hs G wdn (q + 1))) := (show Hid _ from by
            rw [HNXT.out]
            refine HQ6.out.apps (by simp [rGrp]) (fun j h1 h2 => ?_) (by have h := HO9.out; simpa using h) HG9.out (fun b hb => by
              have e : g9 = b := by simpa [Value.ownBlock] using hb
              subst e; exact HA9.out)
            have hjG : j < G := by simpa using h1
            have e1 : ((List.range G).map (hdH w6 A6))[j]'h1 = hdH w6 A6 j := by simp
            rw [e1]
            exact SX.of_SEs (fun b hb => ((HS6.out b (HQr.out.hdr.lt b hb).2).hdrs.2.2 j h2).1) (HHH2.out j h2).1)
          have HB9 : Hid (Below w4.heap.size w4 w9) := (show Hid _ from HB46.out.grown HG9.out (by omega) (fun b hb => (HQ6.out.hdr.lt b hb).1))
          go_roundw
          case rel => exact ⟨q + 1, _, _, rfl, by omega, by go_num, HQ9.out, HB9.out⟩
          case measure => simp [intOf]; omega
    · have dq : decide (q < N) = false := decide_eq_false hlq
      have hqN : q = N := by omega
      have HQF : Hid (SL wr pv (rAll P sv hs G wdn N)) := (show Hid _ from by rw [← hqN]; exact (HQ.out.sle HFw4.out).sl)
      obtain ⟨Ao, co, eo, hco, _⟩ := HQF.out
      have hal : (rAll P sv hs G wdn N).length = N * G := rAll_len ..
      have hrN : rn ≤ N * G := HNB.out.2
      rw [hal] at eo hco
      obtain ⟨T, eT⟩ : ∃ T, T = N * G := ⟨_, rfl⟩
      rw [← eT] at eo hco hrN hal
      subst eo
      have HRES : Hid (SL wr (.slice Ao rn co) (reO P n G wdn rn sv hs)) := (show Hid _ from by
        rw [HOO.out]
        exact SL.take HQF.out (by rw [hal]; exact hrN))
      have z1 : (0 : Int) ≤ (rn : Int) := by omega
      have z2 : (rn : Int) ≤ (co : Int) := by omega
      have z3 : rn ≤ co := by omega
      have HBf : Hid (Below w.heap.size w wr) := (show Hid _ from HAw1.out.trans (HBq1.out.mono HAw1.out.size))
      clear hqN hal eT
      go_wp2_with fail
      go_ret2
      exact ⟨.slice Ao rn co, by rw [HE0.out]; rfl, HBf.out, HRES.out⟩
end Go.Proofs.YtoiabanpnkpbhaaGreatDoor
