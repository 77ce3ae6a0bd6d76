/- Joined: Qh Qi Qj Qk. -/
import Derived.Test.YtoiabanpnkpbhaaGreatDoorY39
import Derived.Test.YtoiabanpnkpbhaaGreatDoorY47
import Derived.Test.YtoiabanpnkpbhaaGreatDoorY12
import Derived.Test.YtoiabanpnkpbhaaGreatDoorY09
import Derived.Test.YtoiabanpnkpbhaaGreatDoorY49
import Derived.Test.YtoiabanpnkpbhaaGreatDoorY48
import Derived.Test.YtoiabanpnkpbhaaGreatDoorY40
import Derived.Test.YtoiabanpnkpbhaaGreatDoorY28
namespace Go.Proofs.YtoiabanpnkpbhaaGreatDoor
open Go.RowKit

def UhF1 (N G wd : Nat) (P j : Int) (rows : List (List Int)) (w2 : World) (v iv : Value) (wr : World) : Prop :=
  ∃ (k : Nat) (pv : Value) (vs : List Value), pv = v ∧ k ≤ N ∧ iv = .int .i64 k ∧ wr.ownsRow w2.heap.size 22 1 pv vs.length vs ∧ vs.length = k ∧ (∀ g, g < w2.heap.size → RW w2.heap.size g wr pv vs (hRows P rows j wd G k)) ∧ Below w2.heap.size w2 wr
set_option maxRecDepth 100000 in
set_option maxHeartbeats 8000000 in
theorem rholdF_ok (P n t : Int) (G wd j : Nat) (rows : List (List Int)) (v : Value) (w : World) (hV : SV P n t G) (hj : 1 ≤ (j : Int) ∧ (j : Int) ≤ n) (hwd : wd ≤ 64) (hrl : rows.length ≤ 1024) (hrw : ∀ r ∈ rows, r.length = wd ∧ els P r = true) (h : SL w v rows) :
    Calls Tryz.prog 39 #[.agg #[.int .i64 P], .agg #[.int .i64 n, .int .i64 t, .int .i64 G], .int .i64 wd, v, .int .i64 j] w fun e w' => ∃ A c, e = .returned (.tuple #[.slice A (ngr rows.length G) c, .int .i64 0]) ∧ Below w.heap.size w w' ∧ (∀ g, g < w.heap.size → SLE g w' (.slice A (ngr rows.length G) c) (hRows P rows j wd G (ngr rows.length G))) := by
  have HV := Lib.hid hV
  have hPb := hV.pb
  have hn10 := hV.n10
  have hnP := hV.nP
  have hG : 1 ≤ G ∧ G ≤ 10 := by have := hV.G1; have := hV.sum; have := hV.t1; omega
  have HRW := Lib.hid hrw
  obtain ⟨Ar, cr, rfl, hat⟩ := h.at
  have HAT := Lib.hid hat
  obtain ⟨R, eR⟩ : ∃ R, R = rows.length := ⟨_, rfl⟩
  obtain ⟨N, eN⟩ : ∃ N, N = ngr rows.length G := ⟨_, rfl⟩
  have hNb := ngr_bd (len := rows.length) (G := G) hG.1
  rw [← eN] at hNb ⊢
  have HNb := Lib.hid hNb
  have HGR : Hid (∀ W, Calls Tryz.prog 30 #[.agg #[.int .i64 n, .int .i64 t, .int .i64 G], .int .i64 R] W fun e w' => e = .returned (.tuple #[.int .i64 N, .int .i64 0]) ∧ Below W.heap.size W w') := (show Hid _ from fun W => by
    have := r18groups_ok n t G rows.length W hG hrl
    rw [← eN, ← eR] at this
    exact this)
  have HR := Lib.hid eR
  have hNle : N ≤ 2048 := by
    have h2 : N * 1 ≤ N * G := Nat.mul_le_mul_left _ hG.1
    omega
  rw [← eR] at hrl
  clear hV hrw h hat eN hNb
  go_enter Tryz.func39, Tryz.ntmps39
  rw [← eR]
  obtain ⟨F, eF⟩ : ∃ F, F = w.heap.size := ⟨_, rfl⟩
  obtain ⟨w1, ew⟩ : ∃ w1 : World, w1 = (w.alloc (.cells #[.int .i64 P] 31)).alloc (.cells #[.int .i64 n, .int .i64 t, .int .i64 G] 29) := ⟨_, rfl⟩
  have HW1 : Hid ((w.alloc (.cells #[.int .i64 P] 31)).alloc (.cells #[.int .i64 n, .int .i64 t, .int .i64 G] 29) = w1) := ew.symm
  have HB1 : Hid (Below w.heap.size w w1) := (show Hid _ from by rw [ew]; exact ((Below.refl _ w).alloc (Nat.le_refl _) _).alloc (by simp) _)
  have HF1 : Hid (w1.heap[F]? = some (.cells #[.int .i64 P] 31 (0, 0))) := (show Hid _ from by show _ = _; rw [ew, eF, Below.heap_alloc _ _ _ (by simp)]; exact heap_alloc_new w _)
  have HS1 : Hid (w1.heap[F + 1]? = some (.cells #[.int .i64 n, .int .i64 t, .int .i64 G] 29 (0, 0))) := (show Hid _ from by show _ = _; rw [ew, eF]; have := heap_alloc_new (w.alloc (.cells #[.int .i64 P] 31)) (.cells #[.int .i64 n, .int .i64 t, .int .i64 G] 29); simpa using this)
  have HXC : Hid (∀ W, Below w1.heap.size w1 W → W.cell? ⟨F, 0, none⟩ = some (.int .i64 P) ∧ W.cell? ⟨F + 1, 0, none⟩ = some (.int .i64 n) ∧ W.cell? ⟨F + 1, 1, none⟩ = some (.int .i64 t) ∧ W.cell? ⟨F + 1, 2, none⟩ = some (.int .i64 G)) := (show Hid _ from fun W hb => by
    have h1 := (hb.block F (heap_of_cells HF1.out)).trans HF1.out
    have h2 := (hb.block (F + 1) (heap_of_cells HS1.out)).trans HS1.out
    exact ⟨cell_of_row W F 0 _ _ _ h1, cell_of_row W (F + 1) 0 _ _ _ h2, cell_of_row W (F + 1) 1 _ _ _ h2, cell_of_row W (F + 1) 2 _ _ _ h2⟩)
  clear eR
  go_upto_region 1 with fail
  rw [HW1.out, ← eF]
  clear ew eF
  obtain ⟨f0, s0, s1, s2⟩ := HXC.out w1 (Below.refl _ _)
  have d1 : decide ((j : Int) < 1) = false := decide_eq_false (by omega)
  have d1' : decide (j < 1) = false := decide_eq_false (by omega)
  have d2 : decide (n < (j : Int)) = false := decide_eq_false (by omega)
  have d3 : decide ((wd : Int) < 0) = false := decide_eq_false (by omega)
  have d4 : decide ((64 : Int) < (wd : Int)) = false := decide_eq_false (by omega)
  have d4' : decide (64 < wd) = false := decide_eq_false (by omega)
  have d5 : decide ((1024 : Int) < (R : Int)) = false := decide_eq_false (by omega)
  have d5' : decide (1024 < R) = false := decide_eq_false (by omega)
  go_wp2_with fail
  (with_reducible refine (r18Check_ok P n t G w1 HV.out).mono ?_)
  rintro e w2 ⟨rfl, hb2⟩
  have HB2 : Hid (Below w1.heap.size w1 w2) := hb2
  clear f0 s0 s1 s2
  obtain ⟨f0, s0, s1, s2⟩ := HXC.out w2 HB2.out
  clear hb2
  go_wp2_with fail
  clear d1 d1' d2 d3 d4 d4' d5 d5' f0 s0 s1 s2
  go_loopw [51] (fun iv wr => ∃ k : Nat, k ≤ R ∧ iv = .int .i64 k ∧ Below w1.heap.size w1 wr) (fun iv _ => R - (intOf iv).toNat)
  case atStart => exact ⟨0, Nat.zero_le _, rfl, HB2.out⟩
  case round =>
    obtain ⟨k, hk, rfl, hb⟩ := hrel
    have HB := Lib.hid hb
    clear hb
    by_cases hlk : k < R
    · have dk : decide (k < R) = true := decide_eq_true hlk
      have hkr : k < rows.length := by have := HR.out; omega
      obtain ⟨bh, oh, B, d, eA, hW⟩ := HAT.out k hkr
      subst eA
      obtain ⟨ck, hsk⟩ := hW wr (HB1.out.trans (HB.out.mono HB1.out.size))
      have hrk := HRW.out _ (List.getElem_mem hkr)
      obtain ⟨r, er⟩ : ∃ r, r = rows[k] := ⟨_, rfl⟩
      rw [← er] at ck hsk hrk
      rw [hrk.1] at ck hsk
      have HSK := Lib.hid hsk
      have HIN : Hid (inB P r = true) := (show Hid _ from by show _ = _; unfold inB; rw [HV.out.pr, hrk.2]; rfl)
      obtain ⟨f0, _⟩ := HXC.out wr HB.out
      clear hW hsk hrk er
      go_wp2_with fail
      (with_reducible refine (rin_any P r _ wr (by unfold i64r; omega) HSK.out).mono ?_)
      rintro e w3 ⟨rfl, hb3⟩
      rw [HIN.out]
      have HB3 : Hid (Below w1.heap.size w1 w3) := (show Hid _ from HB.out.trans (hb3.mono HB.out.size))
      clear hb3 f0 ck
      go_wp2_with fail
      go_roundw
      case rel => exact ⟨k + 1, by omega, by go_num, HB3.out⟩
      case measure => simp [intOf]; omega
    · have dk : decide (k < R) = false := decide_eq_false hlk
      clear hk
      obtain ⟨f0, s0, s1, s2⟩ := HXC.out wr HB.out
      go_wp2_with fail
      (with_reducible refine (HGR.out wr).mono ?_)
      rintro e w3 ⟨rfl, hb3⟩
      have HB3 : Hid (Below w1.heap.size w1 w3) := (show Hid _ from HB.out.trans (hb3.mono HB.out.size))
      have HWW3 : Hid (w.heap.size ≤ w3.heap.size) := (show Hid _ from by have := HB3.out.size; have := HB1.out.size; show _ ≤ _; omega)
      clear hb3 f0 s0 s1 s2 HGR
      go_wp2_with fail
      go_loopw [17, 18] (fun v iv wr => UhF1 N G wd P j rows w3 v iv wr) (fun _ iv _ => N - (intOf iv).toNat)
      case atStart => exact ⟨0, _, [], rfl, Nat.zero_le _, rfl, World.ownsRow_nil _ _ _ _, rfl, fun g _ => RW.nil _ _ _, Below.refl _ _⟩
      case round =>
        obtain ⟨q, pv, vs, rfl, hq, rfl, how, hvl, hrw, hb⟩ := hrel
        have HOW := Lib.hid how
        have HVL := Lib.hid hvl
        have HQW := Lib.hid hrw
        have HBq := Lib.hid hb
        have HBq1 : Hid (Below w1.heap.size w1 wr) := (show Hid _ from HB3.out.trans (hb.mono HB3.out.size))
        clear hrw hb how hvl
        by_cases hlq : q < N
        · have dq : decide (q < N) = true := decide_eq_true hlq
          obtain ⟨wo, ewo⟩ : ∃ wo : World, wo = wr := ⟨_, rfl⟩
          rw [← ewo] at HQW HBq HBq1 HOW ⊢
          clear ewo
          obtain ⟨b, eb⟩ : ∃ b, b = wo.heap.size := ⟨_, rfl⟩
          obtain ⟨w6, ew6⟩ : ∃ w6 : World, w6 = wo.alloc (.cells ((zeros wd).map (Value.int .i64)).toArray 3) := ⟨_, rfl⟩
          have HB6 : Hid (Below wo.heap.size wo w6) := (show Hid _ from by rw [ew6]; exact (Below.refl _ _).alloc (Nat.le_refl _) _)
          have HK6 : Hid (BK w6 b (hdT P rows j wd (q * G) 0)) := (show Hid _ from by rw [ew6, eb]; exact heap_alloc_new wo _)
          have HEB := Lib.hid eb
          obtain ⟨z, ez⟩ : ∃ z, z = gSz R G q := ⟨_, rfl⟩
          obtain ⟨o, eo⟩ : ∃ o, o = q * G := ⟨_, rfl⟩
          have hoR : o < R := by
            have h1 := HNb.out.1
            have h2 : (q + 1) * G ≤ N * G := Nat.mul_le_mul_right G (by omega)
            rw [Nat.add_mul, Nat.one_mul] at h2
            have := HR.out
            omega
          have hz : z ≤ G ∧ o + z ≤ R ∧ (z = G ∨ o + z = R) := by rw [ez]; unfold gSz; rw [← eo]; omega
          have hqb : q ≤ 2048 := by omega
          have ho1 : IntKind.i64.wrap ((q : Int) * (G : Int)) = (o : Int) := by
            have e : (q : Int) * (G : Int) = (o : Int) := by rw [eo, Int.natCast_mul]
            rw [e]; exact IntWalk.i64_in _ (by omega)
          have HNXT : Hid (hRows P rows j wd G (q + 1) = hRows P rows j wd G q ++ [hdT P rows j wd o z]) := (show Hid _ from by
            show _ = _
            rw [hRows_succ, ez, eo, HR.out])
          rw [← eo] at HK6
          have HZ := Lib.hid ez
          have HO := Lib.hid eo
          clear ez eo
          go_wp2_with (at_make; refine wpList_make_ints _ rfl _ _ 22 rfl 3 Tryz.underlying22 iinfo _ wd rfl rfl rfl (by omega) ?_)
          rw [← ew6, ← eb]
          clear ew6 eb
          go_wp2_with fail
          go_loopw [20] (fun iv wr => Uh2 z wd o b P j rows wo iv wr) (fun iv _ => z - (intOf iv).toNat)
          case atStart => exact ⟨0, _, Nat.zero_le _, rfl, rfl, HK6.out, HB6.out⟩
          case round =>
            obtain ⟨i, L, hi, rfl, hL, hbk, hb2⟩ := hrel
            have HL := Lib.hid hL
            have HBK := Lib.hid hbk
            have HBi := Lib.hid hb2
            have HBi1 : Hid (Below w1.heap.size w1 wr) := (show Hid _ from HBq1.out.trans (hb2.mono HBq1.out.size))
            clear hL hbk hb2
            obtain ⟨f0, s0, s1, s2⟩ := HXC.out wr HBi1.out
            have hsum : IntKind.i64.wrap ((o : Int) + (i : Int)) = ((o + i : Nat) : Int) := by rw [Int.natCast_add]; exact IntWalk.i64_in _ (by omega)
            obtain ⟨x1, ex1⟩ : ∃ x1, x1 = o + i := ⟨_, rfl⟩
            rw [← ex1] at hsum
            have HX1 := Lib.hid ex1
            have hx1 : x1 ≤ R := by omega
            have hix : i < z → x1 < R ∧ i < G := by omega
            have hnz : ¬ i < z → (¬ i < G) ∨ (i < G ∧ ¬ x1 < R) := by omega
            clear ex1
            by_cases hli : i < z
            · obtain ⟨hxR, hiG⟩ := hix hli
              have dG : decide (i < G) = true := decide_eq_true hiG
              have dR : decide (x1 < R) = true := decide_eq_true hxR
              clear hix hnz
              go_wp2_with fail
              (with_reducible refine (rpow_any P j i wr hPb (by omega) (by omega)).mono ?_)
              rintro e w7 ⟨rfl, hb7⟩
              have HB7 : Hid (Below wo.heap.size wo w7) := (show Hid _ from HBi.out.trans (hb7.mono HBi.out.size))
              have HB71 : Hid (Below w1.heap.size w1 w7) := (show Hid _ from HBi1.out.trans (hb7.mono HBi1.out.size))
              have HBK7 : Hid (BK w7 b L) := (show Hid _ from HBK.out.below hb7 HBK.out.lt)
              obtain ⟨x, ex⟩ : ∃ x, x = (j : Int) ^ i % P := ⟨_, rfl⟩
              rw [← ex]
              have hxb : 0 ≤ x ∧ x < P := by rw [ex]; exact ⟨Int.emod_nonneg _ (by omega), Int.emod_lt_of_pos _ (by omega)⟩
              have hkr : x1 < rows.length := by have := HR.out; omega
              obtain ⟨bh, oh, B, d, eA, hW⟩ := HAT.out x1 hkr
              subst eA
              have hrk := HRW.out _ (List.getElem_mem hkr)
              obtain ⟨r, er⟩ : ∃ r, r = rows[x1] := ⟨_, rfl⟩
              rw [← er] at hW hrk
              have hrl2 : r.length = wd := hrk.1
              rw [hrl2] at hW
              have HWW := Lib.hid hW
              have HRE : Hid (els P r = true) := hrk.2
              have HLL : Hid (L.length = wd) := (show Hid _ from by show _ = _; rw [HL.out, hdT_len])
              have HLE : Hid (els P L = true) := (show Hid _ from by show _ = _; rw [HL.out]; exact hdT_els hPb.1 ..)
              have HNX : Hid (hdT P rows j wd o (i + 1) = addT P L 0 x r) := (show Hid _ from by
                show _ = _
                rw [hdT_succ, ← HL.out, ← ex, ← HX1.out, er]
                unfold gr
                rw [List.getElem?_eq_getElem hkr]; rfl)
              have ck := (hW w7 (HB1.out.trans (HB71.out.mono HB1.out.size))).1
              obtain ⟨g0, t0, t1, t2⟩ := HXC.out w7 HB71.out
              have z1 : (0 : Int) ≤ (x1 : Int) := by omega
              have z2 : (x1 : Int) < (R : Int) := by omega
              have HRL2 := Lib.hid hrl2
              clear hb7 ex er hrk hW hkr f0 s0 s1 s2 hrl2
              go_wp2_with fail
              clear ck g0 t0 t1 t2 hsum z1 z2
              go_loopw [109] (fun iv wr => Cm4 P L x r b wo iv wr) (fun iv _ => wd - (intOf iv).toNat)
              case atStart => exact ⟨0, Nat.zero_le _, rfl, by rw [List.take_zero, addT_zero]; exact HBK7.out, HB7.out⟩
              case round =>
                obtain ⟨k, hk, rfl, hbk, hb6⟩ := hrel
                have HBKk := Lib.hid hbk
                have HBk := Lib.hid hb6
                have HBk1 : Hid (Below w1.heap.size w1 wr) := (show Hid _ from HBq1.out.trans (hb6.mono HBq1.out.size))
                have hrl2 := HRL2.out
                clear hbk hb6
                by_cases hlk : k < wd
                · have dk : decide (k < wd) = true := decide_eq_true hlk
                  have hkl : k < r.length := by omega
                  obtain ⟨bb, ob, eB, ck⟩ := ((HWW.out wr (HB1.out.trans (HBk1.out.mono HB1.out.size))).2).at hkl
                  subst eB
                  obtain ⟨f0, _⟩ := HXC.out wr HBk1.out
                  have hlen2 : (addT P L 0 x (r.take k)).length = wd := by rw [addT_len]; exact HLL.out
                  have htk := HBKk.out.cell (j := k) (by rw [hlen2]; omega)
                  have hfk := HBKk.out.frozen k
                  have hel := el_t (els_gd hPb.1 (addT_els hPb.1 HLE.out 0 x (r.take k)) k)
                  have hel2 := el_t (els_all HRE.out _ (List.getElem_mem hkl))
                  rw [← gd_lt] at htk
                  obtain ⟨t', ht⟩ : ∃ t', t' = gd (addT P L 0 x (r.take k)) k := ⟨_, rfl⟩
                  rw [← ht] at htk hel
                  obtain ⟨y, hy⟩ : ∃ y, y = r[k] := ⟨_, rfl⟩
                  rw [← hy] at ck hel2
                  have HST : Hid (addT P L 0 x (r.take (k + 1)) = (addT P L 0 x (r.take k)).set k ((t' + x * y) % P)) := by
                    have h := addT_step P L 0 x r k hkl (by have := HLL.out; omega)
                    rw [Nat.zero_add] at h
                    show _ = _
                    rw [ht, hy]; exact h
                  have hxy := mul_bd hxb hel2 hPb.2
                  have w1_ : IntKind.i64.wrap (x * y) = x * y := by exact IntWalk.i64_in _ (by omega)
                  have w2_ : IntKind.i64.wrap (t' + x * y) = t' + x * y := by exact IntWalk.i64_in _ (by omega)
                  have w3_ : (t' + x * y).tmod P = (t' + x * y) % P := Int.tmod_eq_emod_of_nonneg (by omega)
                  have w4_ : IntKind.i64.wrap ((t' + x * y) % P) = (t' + x * y) % P := by
                    have h1 := Int.emod_nonneg (t' + x * y) (show P ≠ 0 by omega)
                    have h2 := Int.emod_lt_of_pos (t' + x * y) (show 0 < P by omega)
                    exact IntWalk.i64_in _ (by omega)
                  have hP0 : ¬ P = 0 := by omega
                  have z1 : (0 : Int) ≤ (k : Int) := by omega
                  have z2 : (k : Int) < (wd : Int) := by omega
                  clear ht hy hlen2 hel hel2 hxy hrl2
                  go_upto_region 29 with fail
                  go_region
                  all_goals
                    go_wp2_with fail
                    go_roundw
                    case rel => exact ⟨k + 1, by have := HRL2.out; omega, by go_num, by rw [HST.out]; exact HBKk.out.set _ _, by first | exact HBk.out.setCell (by have := HEB.out; show _ ≤ b; omega) _ | exact (Below.drewN (HBk.out.setCell (by have := HEB.out; show _ ≤ b; omega) _) _)⟩
                    case measure => simp [intOf]; omega
                · have dk : decide (k < wd) = false := decide_eq_false hlk
                  have HFK : Hid (BK wr b (hdT P rows j wd o (i + 1))) := (show Hid _ from by
                    have h := HBKk.out
                    rw [show k = r.length by omega, List.take_length] at h
                    rw [HNX.out]; exact h)
                  clear hrl2
                  go_wp2_with fail
                  go_roundw
                  case rel => exact ⟨i + 1, _, by omega, by go_num, rfl, HFK.out, HBk.out⟩
                  case measure => simp [intOf]; omega
            · have HFK : Hid (BK wr b (hdT P rows j wd o z)) := (show Hid _ from by
                have h := HBK.out
                rw [HL.out, show i = z by omega] at h; exact h)
              have HOR : Hid (wr.ownsRow wo.heap.size 3 1 (.slice (some ⟨b, 0, none⟩) wd wd) wd ((hdT P rows j wd o z).map (Value.int .i64))) := (show Hid _ from by
                have h := BK.own HFK.out (base := wo.heap.size) (by have := HEB.out; omega) (by rw [hdT_len]; omega)
                rw [hdT_len] at h; exact h)
              have HQr : Hid (∀ g, g < w3.heap.size → RW w3.heap.size g wr pv vs (hRows P rows j wd G q)) := (show Hid _ from fun g hg => (HQW.out g hg).below hg HBi.out)
              have HOWr : Hid (wr.ownsRow w3.heap.size 22 1 pv vs.length vs) := (show Hid _ from own_bel HOW.out HBi.out)
              have HSX : Hid (∀ g, g < w3.heap.size → SX (wr.alloc (.cells #[.slice (some ⟨b, 0, none⟩) wd wd] 22)) pv.ownBlock (some g) (.slice (some ⟨b, 0, none⟩) wd wd) (hdT P rows j wd o z)) := (show Hid _ from fun g hg => SX.of_own (base := wo.heap.size) (by rw [hdT_len]; exact HOR.out.alloc _) (els_r hPb.2 (hdT_els hPb.1 ..)) (fun q hq => (HOW.out.lt q hq).2) (fun q hq => by injection hq with e; have := HBq.out.size; omega))
              have hvn : vs.length ≤ 2048 := by have h := HVL.out; omega
              have hzw : w3.heap.size ≤ wr.heap.size := Nat.le_trans HBq.out.size HBi.out.size
              clear hix
              rcases hnz hli with hiG | ⟨hiG, hiR⟩
              case' inl => have dG : decide (i < G) = false := decide_eq_false hiG
              case' inr =>
                have dG : decide (i < G) = true := decide_eq_true hiG
                have dR : decide (x1 < R) = false := decide_eq_false hiR
              all_goals
                clear hnz
                go_wp2_with (at_builtin; refine wpList_append_one_at _ rfl _ _ 33 rfl w3.heap.size 22 (.slice none 0 0) 24 Tryz.underlying33 ilinfo pv vs.length vs rfl (HOWr.out.alloc _) (.slice (some ⟨b, 0, none⟩) wd wd) rfl wr.heap.size rfl (cells_new wr [.slice (some ⟨b, 0, none⟩) wd wd] 22 0 _ rfl) (by omega) (by omega) rfl (by simp; omega) ?_; intro g9 cap9 w9 hown9 hg9 hat9; have HO9 := Lib.hid hown9; have HG9 := Lib.hid hg9; have HA9 := Lib.hid hat9; clear hown9 hg9 hat9)
                have HR9 : Hid (∀ g, g < w3.heap.size → RW w3.heap.size g w9 (.slice (some ⟨g9, 0, none⟩) (vs.length + 1) cap9) (vs ++ [.slice (some ⟨b, 0, none⟩) wd wd]) (hRows P rows j wd G (q + 1))) := (show Hid _ from fun g hg => by
                  rw [HNXT.out]
                  exact ((HQr.out g hg).below hg ((Below.refl _ wr).alloc (Nat.le_refl _) _)).app (HSX.out g hg) HO9.out HG9.out (fun q hq => by
                    have e : g9 = q := by simpa [Value.ownBlock] using hq
                    subst e; exact HA9.out))
                have HB9 : Hid (Below w3.heap.size w3 w9) := (show Hid _ from ((HBq.out.trans (HBi.out.mono HBq.out.size)).alloc (by omega) _).grown HG9.out (by simp; omega) (fun q hq => (HOWr.out.lt q hq).1))
                go_roundw
                case rel => exact ⟨q + 1, _, _, rfl, by omega, by go_num, by simpa using HO9.out, by simp [HVL.out], HR9.out, HB9.out⟩
                case measure => simp [intOf]; omega
        · have dq : decide (q < N) = false := decide_eq_false hlq
          have hqN : q = N := by omega
          have HSLE : Hid (∀ g, g < w.heap.size → SLE g wr pv (hRows P rows j wd G N)) := (show Hid _ from fun g hg => by rw [← hqN]; exact (HQW.out g (Nat.lt_of_lt_of_le hg HWW3.out)).sle (Nat.lt_of_lt_of_le hg HWW3.out))
          have how := HOW.out
          have hvl2 : vs.length = N := by rw [HVL.out, hqN]
          rw [hvl2] at how
          obtain ⟨Ao, co, eo⟩ := own_sl' how
          subst eo
          clear hqN how hvl2
          go_wp2_with fail
          go_ret2
          exact ⟨Ao, co, rfl, HB1.out.trans (HBq1.out.mono HB1.out.size), HSLE.out⟩
end Go.Proofs.YtoiabanpnkpbhaaGreatDoor

namespace Go.Proofs.YtoiabanpnkpbhaaGreatDoor
open Go.RowKit

theorem ez_take (a : List Int) (k : Nat) (h : k < a.length) (x : Int) : ez (a.take (k + 1)) x = ez (a.take k) x + x ^ k * gd a k := by
  rw [List.take_succ_eq_append_getElem h, ez_snoc, List.length_take, Nat.min_eq_left (by omega), gd_lt h]
theorem ez_td (l : List Int) (n : Nat) (hn : n ≤ l.length) (x : Int) : ez l x = ez (l.take n) x + x ^ n * ez (l.drop n) x := by
  have h := ez_app (l.take n) (l.drop n) x
  rw [List.take_append_drop, List.length_take, Nat.min_eq_left hn] at h
  exact h
theorem addT_ezF {P y : Int} {T b : List Int} {o : Nat} (h : o + b.length ≤ T.length) (x : Int) : P ∣ ez (addT P T o y b) x - (ez T x + y * (x ^ o * ez b x)) := by
  have h1 := addT_ez (P := P) (y := y) h x
  have e1 := ez_td (addT P T o y b) (o + b.length) (by rw [addT_len]; exact h) x
  have e2 := ez_td T (o + b.length) h x
  have e3 : (addT P T o y b).drop (o + b.length) = T.drop (o + b.length) := by
    refine list_ext_gd (by simp [addT_len]) fun k hk => ?_
    have g : ∀ l : List Int, gd (l.drop (o + b.length)) k = gd l (o + b.length + k) := fun l => by unfold gd; rw [List.getElem?_drop]
    rw [g, g, addT_gd _ _ _ _ _ h, if_neg (by omega)]
  rw [e3] at e1
  refine dvd_of_eq' h1 ?_
  omega
theorem timesK_ez (P : Int) (a b : List Int) (x : Int) : ∀ k, k ≤ a.length → P ∣ ez (timesK P a b k) x - ez (a.take k) x * ez b x
  | 0, _ => by
    show P ∣ ez (zeros _) x - ez (List.take 0 a) x * ez b x
    rw [ez_zeros, List.take_zero, ez_nil]; exact ⟨0, by simp⟩
  | k + 1, h => by
    have ih := timesK_ez P a b x k (by omega)
    have h2 := addT_ezF (P := P) (y := gd a k) (T := timesK P a b k) (b := b) (o := k) (by rw [timesK_len]; omega) x
    rw [timesK_succ, ez_take a k (by omega)]
    refine dvd_of_eq' (Int.dvd_add h2 ih) ?_
    rw [Int.add_mul, Int.mul_assoc, Int.mul_left_comm (gd a k) (x ^ k)]
    omega
theorem timesP_ez (P : Int) (a b : List Int) (x : Int) : P ∣ ez (timesP P a b) x - ez a x * ez b x := by
  have h := timesK_ez P a b x a.length (Nat.le_refl _)
  rw [List.take_length] at h; exact h
theorem padd_ez (a : List Int) (n : Nat) (x : Int) : ez (padd a n) x = ez a x := by unfold padd; rw [ez_app, ez_zeros]; omega
theorem newt_inv {P : Int} (hp : prB P = true) (l : List (Int × Int)) (hd : ∀ i j (hi : i < l.length) (hj : j < l.length), i ≠ j → ¬ P ∣ l[i].1 - l[j].1) : ∀ k (hk : k ≤ l.length),
    (∀ i (hi : i < k), P ∣ ez (newt P (l.take k)).1 (l[i]'(by omega)).1 - (l[i]'(by omega)).2) ∧ (∀ i (hi : i < k), P ∣ ez (newt P (l.take k)).2 (l[i]'(by omega)).1) ∧ (∀ z, (∀ i (hi : i < k), ¬ P ∣ z - (l[i]'(by omega)).1) → ¬ P ∣ ez (newt P (l.take k)).2 z)
  | 0, _ => by
    have hP := prB_bd hp
    refine ⟨fun i hi => by omega, fun i hi => by omega, fun z _ h => ?_⟩
    have e : ez (newt P (l.take 0)).2 z = 1 := by simp [newt, ez]
    rw [e] at h
    obtain ⟨q, hq⟩ := h
    have h1 : (1 : Int) % P = 0 := by rw [hq]; exact Int.mul_emod_right P q
    rw [Int.emod_eq_of_lt (by omega) (by omega)] at h1
    omega
  | k + 1, hk => by
    have hP := prB_bd hp
    obtain ⟨i1, i2, i3⟩ := newt_inv hp l hd k (by omega)
    have hkl : k < l.length := by omega
    have hn := newt_snoc P l k hkl
    obtain ⟨s, es⟩ : ∃ s, s = newt P (l.take k) := ⟨_, rfl⟩
    have hs := newt_len P (l.take k)
    rw [← es] at i1 i2 i3 hn hs
    obtain ⟨t, et⟩ : ∃ t, t = l[k] := ⟨_, rfl⟩
    rw [← et] at hn
    have e1 : (newt P (l.take (k + 1))).1 = addT P (padd s.1 s.2.length) 0 (byN P s t) s.2 := by rw [hn]; rfl
    have e2 : (newt P (l.take (k + 1))).2 = timesP P s.2 [(0 - t.1 + P) % P, 1] := by rw [hn]; rfl
    have hpl : (padd s.1 s.2.length).length = s.2.length := by
      have h1 := hs.1; have h2 := hs.2
      have : s.1.length ≤ s.2.length := by rw [h1, h2]; split <;> omega
      simp [padd, zeros]; omega
    have hA : ∀ z, P ∣ ez (newt P (l.take (k + 1))).1 z - (ez s.1 z + byN P s t * ez s.2 z) := fun z => by
      have h := addT_ezF (P := P) (y := byN P s t) (T := padd s.1 s.2.length) (b := s.2) (o := 0) (by omega) z
      rw [e1]
      rw [padd_ez, Int.pow_zero, Int.one_mul] at h
      refine dvd_of_eq' h ?_
      omega
    have hB : ∀ z, P ∣ ez (newt P (l.take (k + 1))).2 z - ez s.2 z * (z - t.1) := fun z => by
      have h := timesP_ez P s.2 [(0 - t.1 + P) % P, 1] z
      have hm := mod_dvd P (0 - t.1 + P)
      have e : ez [(0 - t.1 + P) % P, 1] z = (0 - t.1 + P) % P + z := by simp [ez]
      rw [e] at h
      rw [e2]
      have h2 := dvr (k := ez s.2 z) hm
      have h3 : P ∣ ez s.2 z * P := Int.dvd_mul_left _ _
      refine dvd_of_eq' (Int.dvd_add (Int.dvd_add h h2) h3) ?_
      rw [Int.mul_add, Int.mul_sub, Int.mul_sub, Int.mul_add, Int.mul_sub]
      omega
    have ht : ¬ P ∣ ez s.2 t.1 := i3 t.1 fun i hi h => by rw [et] at h; exact hd k i hkl (by omega) (by omega) h
    have hv2 : val P s.2 t.1 % P ≠ 0 := fun h => ht (by
      rw [val_ez, Int.emod_emod_of_dvd _ (Int.dvd_refl P)] at h
      exact Int.dvd_of_emod_eq_zero h)
    refine ⟨fun i hi => ?_, fun i hi => ?_, fun z hz h => ?_⟩
    · rcases Nat.lt_or_ge i k with h1 | h1
      · have h2 := hA (l[i]'(by omega)).1
        have h3 := i1 i h1
        have h4 := dvr (k := byN P s t) (i2 i h1)
        refine dvd_of_eq' (Int.dvd_add (Int.dvd_add h2 h3) h4) ?_
        omega
      · have ei : i = k := by omega
        subst ei
        rw [← et]
        have h2 := hA t.1
        have hc : P ∣ byN P s t * ez s.2 t.1 - (t.2 - ez s.1 t.1) := by
          have hi := inv_mul hp (val P s.2 t.1) hv2
          have h3 := mod_dvd P ((t.2 - val P s.1 t.1 + P) % P * inv P (val P s.2 t.1))
          have h4 := mod_dvd P (t.2 - val P s.1 t.1 + P)
          have h5 := mod_dvd P (inv P (val P s.2 t.1) * val P s.2 t.1)
          rw [hi] at h5
          have h6 : P ∣ val P s.2 t.1 - ez s.2 t.1 := by rw [val_ez]; exact mod_dvd P _
          have h7 : P ∣ val P s.1 t.1 - ez s.1 t.1 := by rw [val_ez]; exact mod_dvd P _
          show P ∣ (t.2 - val P s.1 t.1 + P) % P * inv P (val P s.2 t.1) % P * ez s.2 t.1 - (t.2 - ez s.1 t.1)
          generalize (t.2 - val P s.1 t.1 + P) % P = a at *
          generalize inv P (val P s.2 t.1) = iv at *
          generalize val P s.2 t.1 = v at *
          generalize ez s.2 t.1 = E at *
          generalize val P s.1 t.1 = u at *
          generalize ez s.1 t.1 = U at *
          generalize a * iv % P = b at *
          obtain ⟨q3, q3e⟩ := h3
          obtain ⟨q4, q4e⟩ := h4
          obtain ⟨q5, q5e⟩ := h5
          obtain ⟨q6, q6e⟩ := h6
          obtain ⟨q7, q7e⟩ := h7
          have eb : b = a * iv + P * q3 := by omega
          have ea : a = t.2 - u + P + P * q4 := by omega
          have ev : E = v - P * q6 := by omega
          have eiv : iv * v = 1 - P * q5 := by omega
          have eu : u = U + P * q7 := by omega
          refine ⟨-(a * q5) + q3 * v - b * q6 + 1 + q4 - q7, ?_⟩
          have e9 : b * E = a * (iv * v) + P * q3 * v - b * (P * q6) := by
            rw [ev, Int.mul_sub]
            have e10 : b * v = a * iv * v + P * q3 * v := by rw [eb, Int.add_mul]
            rw [e10, Int.mul_assoc a iv v]
          rw [e9, eiv, Int.mul_sub, Int.mul_one]
          have e11 : a - (t.2 - U) = P * (1 + q4 - q7) := by
            rw [Int.mul_sub, Int.mul_add, Int.mul_one]; omega
          have e12 : a * (P * q5) = P * (a * q5) := Int.mul_left_comm a P q5
          have e13 : P * q3 * v = P * (q3 * v) := Int.mul_assoc P q3 v
          have e14 : b * (P * q6) = P * (b * q6) := Int.mul_left_comm b P q6
          rw [e12, e13, e14]
          have e15 : P * (-(a * q5) + q3 * v - b * q6 + 1 + q4 - q7) = -(P * (a * q5)) + P * (q3 * v) - P * (b * q6) + P * (1 + q4 - q7) := by
            simp only [Int.mul_add, Int.mul_sub, Int.mul_neg, Int.mul_one]
            omega
          rw [e15]
          omega
        refine dvd_of_eq' (Int.dvd_add h2 hc) ?_
        omega
    · rcases Nat.lt_or_ge i k with h1 | h1
      · have h2 := hB (l[i]'(by omega)).1
        have h3 := dvl (k := (l[i]'(by omega)).1 - t.1) (i2 i h1)
        refine dvd_of_eq' (Int.dvd_add h2 h3) ?_
        omega
      · have ei : i = k := by omega
        subst ei
        rw [← et]
        have h2 := hB t.1
        rw [Int.sub_self, Int.mul_zero] at h2
        refine dvd_of_eq' h2 ?_
        omega
    · have h2 := hB z
      have h3 : P ∣ ez s.2 z * (z - t.1) := by
        have := Int.dvd_sub h h2
        refine dvd_of_eq' this ?_
        omega
      rcases pr_euclid hp _ _ h3 with h4 | h4
      · exact i3 z (fun i hi => hz i (by omega)) h4
      · refine hz k (by omega) ?_
        rw [← et]; exact h4
theorem interp_pt {P : Int} (hp : prB P = true) (l : List (Int × Int)) (hd : ∀ i j (hi : i < l.length) (hj : j < l.length), i ≠ j → ¬ P ∣ l[i].1 - l[j].1) {i : Nat} (hi : i < l.length) : P ∣ ez (interp P l) l[i].1 - l[i].2 := by
  have h := (newt_inv hp l hd l.length (Nat.le_refl _)).1 i hi
  rw [List.take_length] at h
  unfold interp
  rw [ez_trim]
  exact h
end Go.Proofs.YtoiabanpnkpbhaaGreatDoor

namespace Go.Proofs.YtoiabanpnkpbhaaGreatDoor
open Go.RowKit

theorem hold_rcOne {P n : Int} {G wd : Nat} {table : List (List Int)} {who : List Int} {N i : Nat} (hP : 2 ≤ P) (hwho : ∀ j ∈ who, 1 ≤ j ∧ j ≤ n) (hnd : who.Nodup) (hi : i < who.length) :
    rcOne n P wd N who (who.map fun j => hRows P table j wd G N) i = 0 := by
  have e1 : gd who i = who[i] := gd_lt hi
  have h1 := hwho _ (List.getElem_mem hi)
  have e2 : g3 (who.map fun j => hRows P table j wd G N) i = hRows P table who[i] wd G N := by
    rw [g3_lt (by simpa using hi)]; simp
  have h2 : has (who.take i).reverse (gd who i) = false := by
    have h : gd who i ∉ who.take i := fun hm => by
      obtain ⟨q, hq, e⟩ := List.mem_iff_getElem.1 hm
      simp at hq e
      rw [e1] at e
      have := (List.getElem_inj hnd).1 e
      omega
    simp [has]; exact h
  unfold rcOne
  rw [if_neg (by rw [e1]; omega), if_neg (by rw [h2]; simp), e2, if_neg (by rw [hRows_len]; simp), if_neg, if_neg]
  · have : (hRows P table who[i] wd G N).all (els P) = true := List.all_eq_true.2 fun r hr => (hRows_mem hP r hr).2
    rw [this]; simp
  · have : ((hRows P table who[i] wd G N).all fun r => decide ((r.length : Int) = wd)) = true := List.all_eq_true.2 fun r hr => decide_eq_true (by rw [(hRows_mem hP r hr).1])
    rw [this]; simp
theorem hold_rcK {P n : Int} {G wd : Nat} {table : List (List Int)} {who : List Int} {N : Nat} (hP : 2 ≤ P) (hwho : ∀ j ∈ who, 1 ≤ j ∧ j ≤ n) (hnd : who.Nodup) : ∀ k, k ≤ who.length → rcK n P wd N who (who.map fun j => hRows P table j wd G N) k = 0
  | 0, _ => rfl
  | k + 1, h => rcK_ok (hold_rcK hP hwho hnd k (by omega)) (hold_rcOne hP hwho hnd (by omega))
theorem els_small {P a b : Int} (ha : 0 ≤ a ∧ a < P) (hb : 0 ≤ b ∧ b < P) (h : P ∣ a - b) : a = b := by
  have h1 := Int.emod_eq_emod_iff_emod_sub_eq_zero.2 (Int.emod_eq_zero_of_dvd h)
  rwa [Int.emod_eq_of_lt ha.1 ha.2, Int.emod_eq_of_lt hb.1 hb.2] at h1
theorem no_dvd {P a b : Int} (ha : 0 ≤ a ∧ a < P) (hb : 0 ≤ b ∧ b < P) (h : a ≠ b) : ¬ P ∣ a - b := fun hd => h (els_small ha hb hd)
theorem hold_rV {P n : Int} {G wd : Nat} {table : List (List Int)} {who : List Int} (hp : prB P = true) (hnP : n < P) (hG : 1 ≤ G) (hG2 : G ≤ who.length) (hwho : ∀ j ∈ who, 1 ≤ j ∧ j ≤ n) (hnd : who.Nodup)
    (hw : ∀ r ∈ table, r.length = wd ∧ els P r = true) {x c : Nat} (hx : x < table.length) (hc : c < wd) : rV P who (who.map fun j => hRows P table j wd G (ngr table.length G)) G x c = gd (gr table x) c := by
  have hP := (prB_bd hp).1
  obtain ⟨N, eN⟩ : ∃ N, N = ngr table.length G := ⟨_, rfl⟩
  have hNb := ngr_bd (len := table.length) (G := G) hG
  rw [← eN] at hNb ⊢
  obtain ⟨g, eg⟩ : ∃ g, g = x / G := ⟨_, rfl⟩
  obtain ⟨i, ei⟩ : ∃ i, i = x % G := ⟨_, rfl⟩
  have hi : i < G := by rw [ei]; exact Nat.mod_lt _ hG
  have hxe : g * G + i = x := by rw [eg, ei, Nat.mul_comm]; exact Nat.div_add_mod x G
  have hgN : g < N := by
    rw [eg]
    exact (Nat.div_lt_iff_lt_mul hG).2 (by omega)
  obtain ⟨hs, ehs⟩ : ∃ hs, hs = who.map fun j => hRows P table j wd G N := ⟨_, rfl⟩
  unfold rV
  rw [← eg, ← ei, ← ehs]
  obtain ⟨sz, esz⟩ : ∃ sz, sz = gSz table.length G g := ⟨_, rfl⟩
  have hsz : sz ≤ G ∧ g * G + sz ≤ table.length ∧ i < sz := by rw [esz]; unfold gSz; omega
  obtain ⟨A, eA⟩ : ∃ A, A = hCo table (g * G) sz c := ⟨_, rfl⟩
  have hAl : A.length = sz := by rw [eA, hCo_len]
  have hgA : gd A i = gd (gr table x) c := by rw [eA, hCo_gd, if_pos hsz.2.2, hxe]
  have hpl : (rPts who hs G g c).length = G := rPts_len ..
  have hpi : ∀ q (hq : q < G), (rPts who hs G g c)[q]'(by rw [hpl]; exact hq) = (gd who q, gd (gr (g3 hs q) g) c) := fun q hq => by simp [rPts]
  have hwq : ∀ q, q < G → 0 ≤ gd who q ∧ gd who q < P := fun q hq => by
    rw [gd_lt (show q < who.length by omega)]
    have := hwho _ (List.getElem_mem (show q < who.length by omega))
    omega
  have hdist : ∀ p q, p < G → q < G → p ≠ q → gd who p ≠ gd who q := fun p q h1 h2 hne e => by
    rw [gd_lt (show p < who.length by omega), gd_lt (show q < who.length by omega)] at e
    exact hne ((List.getElem_inj hnd).1 e)
  have hval : ∀ q, q < G → P ∣ ez (interp P (rPts who hs G g c)) (gd who q) - ez A (gd who q) := fun q hq => by
    have h1 := interp_pt hp (rPts who hs G g c) (fun a b ha hb hne => by
      rw [hpl] at ha hb
      rw [hpi a ha, hpi b hb]
      exact no_dvd (hwq a ha) (hwq b hb) (hdist a b ha hb hne)) (i := q) (by rw [hpl]; exact hq)
    rw [hpi q hq] at h1
    have e3 : g3 hs q = hRows P table (gd who q) wd G N := by
      rw [ehs, g3_lt (by simp; omega), gd_lt (show q < who.length by omega)]; simp
    have h2 : P ∣ gd (gr (g3 hs q) g) c - ez A (gd who q) := by
      rw [e3, hRows_gr _ _ _ _ _ _ _ hgN, ← esz, eA]
      exact hdT_ez (fun r hr => (hw r hr).1) hc sz hsz.2.1
    have h1' : P ∣ ez (interp P (rPts who hs G g c)) (gd who q) - gd (gr (g3 hs q) g) c := h1
    refine dvd_of_eq' (Int.dvd_add h1' h2) ?_
    omega
  have hil : (interp P (rPts who hs G g c)).length ≤ G := by
    have h1 := trim_len (newt P (rPts who hs G g c)).1
    have h2 := (newt_len P (rPts who hs G g c)).1
    rw [hpl] at h2
    show (trim _).length ≤ _
    split at h2 <;> omega
  have haz : az P (az_add (interp P (rPts who hs G g c)) (zmul (-1) A)) := by
    refine roots hp ((List.range G).map fun q => gd who q) _ ?_ ?_ ?_
    · rw [add_len, zmul_len]; simp; omega
    · rw [List.pairwise_map]
      refine List.Pairwise.imp_of_mem (fun {a b} ha hb hne => ?_) (List.pairwise_lt_range)
      have h1 := List.mem_range.1 ha
      have h2 := List.mem_range.1 hb
      exact no_dvd (hwq a h1) (hwq b h2) (hdist a b h1 h2 (by have : a < b := hne; omega))
    · intro z hz
      obtain ⟨q, hq, rfl⟩ := List.mem_map.1 hz
      have h := hval q (List.mem_range.1 hq)
      rw [add_ez, zmul_ez]
      refine dvd_of_eq' h ?_
      omega
  have hg := az_gd haz i
  rw [add_gd, zmul_gd, hgA] at hg
  have hI := el_t (els_gd hP (show els P (interp P (rPts who hs G g c)) = true from trim_els (newt_els hP _).1) i)
  have hT := gr_gd_els hP (fun r hr => (hw r hr).2) x c
  exact els_small hI hT (dvd_of_eq' hg (by omega))
theorem rec_hold {P n : Int} {G wd : Nat} {table : List (List Int)} {who : List Int} (hp : prB P = true) (hnP : n < P) (hG : 1 ≤ G) (hG2 : G ≤ who.length) (hwho : ∀ j ∈ who, 1 ≤ j ∧ j ≤ n) (hnd : who.Nodup)
    (hw : ∀ r ∈ table, r.length = wd ∧ els P r = true) (hwd : wd ≤ 64) (hm : table.length ≤ 1024) :
    reE P n G wd table.length who (who.map fun j => hRows P table j wd G (ngr table.length G)) = 0 ∧ reO P n G wd table.length who (who.map fun j => hRows P table j wd G (ngr table.length G)) = table := by
  have hP := (prB_bd hp).1
  have hE : reE P n G wd table.length who (who.map fun j => hRows P table j wd G (ngr table.length G)) = 0 := by
    unfold reE
    rw [if_neg (by omega), if_neg (by omega), if_neg (by simp), Int.toNat_natCast]
    exact hold_rcK hP hwho hnd _ (Nat.le_refl _)
  refine ⟨hE, ?_⟩
  unfold reO
  rw [if_pos hE, Int.toNat_natCast, Int.toNat_natCast]
  have hNb := ngr_bd (len := table.length) (G := G) hG
  refine List.ext_getElem (by rw [List.length_take, rAll_len]; omega) fun x h1 h2 => ?_
  rw [List.getElem_take, rAll_get P _ _ G wd (by omega)]
  have hr := hw _ (List.getElem_mem h2)
  refine list_ext_gd (by simp [hr.1]) fun c hc => ?_
  have hc' : c < wd := by simpa using hc
  have e : gd ((List.range wd).map fun c => rV P who (who.map fun j => hRows P table j wd G (ngr table.length G)) G x c) c = rV P who (who.map fun j => hRows P table j wd G (ngr table.length G)) G x c := by
    unfold gd
    rw [List.getElem?_map, List.getElem?_range hc']; rfl
  rw [e, hold_rV hp hnP hG hG2 hwho hnd hw h2 hc', gr_lt h2]
end Go.Proofs.YtoiabanpnkpbhaaGreatDoor

namespace Go.Proofs.YtoiabanpnkpbhaaGreatDoor
open Go.RowKit

theorem SE.fresh {a z : Nat} {w : World} {v : Value} {l : List Int} (h : SE a w v l) (hz : w.heap.size ≤ z) : SE z w v l := by
  obtain ⟨A, c, rfl, hc, hm, hr, ha⟩ := h
  refine ⟨A, c, rfl, hc, hm, hr, fun h0 => ?_⟩
  obtain ⟨b, off, e, hb, _, hcell⟩ := ha h0
  exact ⟨b, off, e, hb, by omega, hcell⟩
theorem SLE.fresh {a z : Nat} {w : World} {v : Value} {rows : List (List Int)} (h : SLE a w v rows) (hz : w.heap.size ≤ z) : SLE z w v rows := by
  obtain ⟨A, c, rfl, hc, hm, ha⟩ := h
  refine ⟨A, c, rfl, hc, hm, fun h0 => ?_⟩
  obtain ⟨b, off, e, hb, _, hcell⟩ := ha h0
  refine ⟨b, off, e, hb, by omega, fun j hj => ?_⟩
  obtain ⟨B, d, h1, h2⟩ := hcell j hj
  exact ⟨B, d, h1, h2.fresh hz⟩
theorem SLE.moves {a : Nat} {w w' : World} {r : Option Nat} {v : Value} {rows : List (List Int)} (h : SLE a w v rows) (hg : w.grownBy w' r) (hr : ∀ z, r = some z → SLE z w v rows) : SLE a w' v rows := by
  cases r with
  | none => exact h.grown ⟨hg.os, hg.tape, hg.output, hg.size, fun b hb _ => hg.block b hb (by simp)⟩
  | some z =>
    refine h.swap ((hr z rfl).grown hg) fun b off hne hb => ?_
    exact World.cell?_of_block (hg.block b hb (by simp; omega))
/-- servers' numbers and what they hold, under construction -/
structure OW (base g : Nat) (w : World) (pw po : Value) (wl : List Int) (vs : List Value) (hs : List (List (List Int))) : Prop where
  who : w.ownsRow base 3 1 pw wl.length (wl.map (Value.int .i64))
  hdr : w.ownsRow base 33 1 po vs.length vs
  len : vs.length = hs.length
  ne : ∀ k, pw.ownBlock = some k → po.ownBlock ≠ some k
  row : ∀ j (h : j < vs.length) (h' : j < hs.length) z, (pw.ownBlock = some z ∨ po.ownBlock = some z ∨ z = g) → SLE z w vs[j] hs[j]
theorem OW.nil (base g : Nat) (w : World) : OW base g w (.slice none 0 0) (.slice none 0 0) [] [] [] := ⟨World.ownsRow_nil _ _ _ _, World.ownsRow_nil _ _ _ _, rfl, fun k hk => by simp [Value.ownBlock] at hk, fun j h => by simp at h⟩
theorem OW.below {base g : Nat} {w w' : World} {pw po : Value} {wl : List Int} {vs : List Value} {hs : List (List (List Int))} (h : OW base g w pw po wl vs hs) (hb : Below w.heap.size w w') : OW base g w' pw po wl vs hs :=
  ⟨own_bel h.who hb, own_bel h.hdr hb, h.len, h.ne, fun j h1 h2 z hz => (h.row j h1 h2 z hz).below hb⟩
theorem OW.grownG {base g : Nat} {w w' : World} {pw po : Value} {wl : List Int} {vs : List Value} {hs : List (List (List Int))} (h : OW base g w pw po wl vs hs) (hg : w.grownBy w' (some g)) (hgb : g < base) : OW base g w' pw po wl vs hs :=
  ⟨own_blk h.who fun b hb => hg.block b (h.who.lt b hb).2 (by have := (h.who.lt b hb).1; simp; omega), own_blk h.hdr fun b hb => hg.block b (h.hdr.lt b hb).2 (by have := (h.hdr.lt b hb).1; simp; omega), h.len, h.ne, fun j h1 h2 z hz => (h.row j h1 h2 z hz).moves hg fun z' e => by injection e with e; subst e; exact h.row j h1 h2 _ (.inr (.inr rfl))⟩
/-- a number more -/
theorem OW.appW {base g : Nat} {w w' : World} {pw pw' po : Value} {wl : List Int} {x : Int} {vs : List Value} {hs : List (List (List Int))} (h : OW base g w pw po wl vs hs) (ho : w'.ownsRow base 3 1 pw' (wl.length + 1) ((wl ++ [x]).map (Value.int .i64))) (hg : w.grownBy w' pw.ownBlock)
    (hat : ∀ q, pw'.ownBlock = some q → pw.ownBlock = some q ∨ q = w.heap.size) : OW base g w' pw' po (wl ++ [x]) vs hs := by
  refine ⟨by simpa using ho, own_blk h.hdr fun b hb => hg.block b (h.hdr.lt b hb).2 (fun e => h.ne b e.symm hb), h.len, fun k hk => ?_, fun j h1 h2 z hz => ?_⟩
  · rcases hat k hk with h1 | h1
    · exact h.ne k h1
    · intro e; have := (h.hdr.lt k e).2; omega
  · have hst : ∀ z', SLE z' w vs[j] hs[j] → SLE z' w' vs[j] hs[j] := fun z' hz' => hz'.moves hg fun q e => h.row j h1 h2 q (.inl e)
    rcases hz with h3 | h3
    · rcases hat z h3 with h4 | h4
      · exact hst z (h.row j h1 h2 z (.inl h4))
      · exact hst z ((h.row j h1 h2 g (.inr (.inr rfl))).fresh (by omega))
    · exact hst z (h.row j h1 h2 z (.inr h3))
/-- what a server holds, more -/
theorem OW.appO {base g : Nat} {w w' : World} {pw po po' : Value} {wl : List Int} {vs : List Value} {hs : List (List (List Int))} {u : Value} {x : List (List Int)} (h : OW base g w pw po wl vs hs) (hu : ∀ z, (pw.ownBlock = some z ∨ po.ownBlock = some z ∨ z = g) → SLE z w u x)
    (ho : w'.ownsRow base 33 1 po' (vs.length + 1) (vs ++ [u])) (hg : w.grownBy w' po.ownBlock) (hat : ∀ q, po'.ownBlock = some q → po.ownBlock = some q ∨ q = w.heap.size) : OW base g w' pw po' wl (vs ++ [u]) (hs ++ [x]) := by
  refine ⟨own_blk h.who fun b hb => hg.block b (h.who.lt b hb).2 (fun e => h.ne b hb e.symm), by simpa using ho, by simp [h.len], fun k hk e => ?_, fun j h1 h2 z hz => ?_⟩
  · rcases hat k e with h1 | h1
    · exact h.ne k hk h1
    · have := (h.who.lt k hk).2; omega
  · have key : ∀ (u' : Value) (x' : List (List Int)), (∀ z, (pw.ownBlock = some z ∨ po.ownBlock = some z ∨ z = g) → SLE z w u' x') → SLE z w' u' x' := fun u' x' hr => by
      have hst : ∀ z', SLE z' w u' x' → SLE z' w' u' x' := fun z' hz' => hz'.moves hg fun q e => hr q (.inr (.inl e))
      rcases hz with h3 | h3 | h3
      · exact hst z (hr z (.inl h3))
      · rcases hat z h3 with h4 | h4
        · exact hst z (hr z (.inr (.inl h4)))
        · exact hst z ((hr g (.inr (.inr rfl))).fresh (by omega))
      · exact hst z (hr z (.inr (.inr h3)))
    by_cases hj : j < vs.length
    · have hj' : j < hs.length := by rw [← h.len]; exact hj
      simp only [List.getElem_append_left hj, List.getElem_append_left hj']
      exact key _ _ (h.row j hj hj')
    · have e1 : j = vs.length := by simp at h1; omega
      have e2 : j = hs.length := by rw [← h.len]; exact e1
      subst e1
      have e3 : (vs ++ [u])[vs.length]'h1 = u := by simp
      have e4 : (hs ++ [x])[vs.length]'h2 = x := by simp [h.len]
      rw [e3, e4]
      exact key _ _ hu
/-- lists of rows with their headers -/
def SLH (w : World) (v : Value) (vs : List Value) (hs : List (List (List Int))) : Prop :=
  vs.length = hs.length ∧ SC w.heap.size w v hs.length 1 vs ∧ ∀ j (h : j < vs.length) (h' : j < hs.length), (∃ B d, vs[j] = .slice B hs[j].length d) ∧ SL w vs[j] hs[j]
theorem SLH.below {w w' : World} {v : Value} {vs : List Value} {hs : List (List (List Int))} (h : SLH w v vs hs) (hb : Below w.heap.size w w') : SLH w' v vs hs := by
  obtain ⟨h1, ⟨A, c, rfl, h2, h3⟩, h4⟩ := h
  refine ⟨h1, ⟨A, c, rfl, h2, fun h0 => ?_⟩, fun j h5 h6 => ⟨(h4 j h5 h6).1, (h4 j h5 h6).2.below hb⟩⟩
  obtain ⟨b, off, e, hbl, hc⟩ := h3 h0
  exact ⟨b, off, e, Nat.lt_of_lt_of_le hbl hb.size, fun j u hu => (hb.cell (p := ⟨b, off + j, none⟩) hbl).trans (hc j u hu)⟩
theorem SLH.sll {w : World} {A : Option Addr} {n c : Nat} {vs : List Value} {hs : List (List (List Int))} (h : SLH w (.slice A n c) vs hs) (hc : hs.length ≤ c) (hm : c ≤ 9223372036854775807) : SLL w (.slice A n c) hs := by
  obtain ⟨h1, ⟨A', c', e, h2, h3⟩, h4⟩ := h
  injection e with e1 e2 e3
  subst e1 e2 e3
  refine ⟨A, c, rfl, hc, hm, fun h0 => ?_⟩
  obtain ⟨b, off, e, hbl, hcell⟩ := h3 h0
  refine ⟨b, off, e, hbl, fun j hj => ?_⟩
  have hjv : j < vs.length := by omega
  obtain ⟨⟨B, d, e5⟩, h6⟩ := h4 j hjv hj
  refine ⟨B, d, ?_, by rw [← e5]; exact h6⟩
  rw [← e5]
  exact hcell j _ (List.getElem?_eq_getElem hjv)
theorem SLH.take {w : World} {A : Option Addr} {n c k c' : Nat} {vs : List Value} {hs : List (List (List Int))} (h : SLH w (.slice A n c) vs hs) (hk : k ≤ hs.length) : SLH w (.slice A k c') (vs.take k) (hs.take k) := by
  obtain ⟨h1, ⟨A', c'', e, h2, h3⟩, h4⟩ := h
  injection e with e1 e2 e3
  subst e1 e2 e3
  have hl : (hs.take k).length = k := by rw [List.length_take]; omega
  refine ⟨by simp [h1], ⟨A, c', by rw [hl], by rw [hl]; simp; omega, fun h0 => ?_⟩, fun j h5 h6 => ?_⟩
  · rw [hl] at h0
    obtain ⟨b, off, e, hbl, hcell⟩ := h3 (by omega)
    refine ⟨b, off, e, hbl, fun j u hu => hcell j u ?_⟩
    rw [List.getElem?_take] at hu
    split at hu
    · exact hu
    · cases hu
  · simp at h5 h6
    simp only [List.getElem_take]
    exact h4 j (by omega) (by omega)
theorem OW.slh {base g : Nat} {w : World} {pw po : Value} {wl : List Int} {vs : List Value} {hs : List (List (List Int))} (h : OW base g w pw po wl vs hs) : ∃ A c, po = .slice A hs.length c ∧ hs.length ≤ c ∧ c ≤ 9223372036854775807 ∧ SLH w (.slice A hs.length c) vs hs := by
  have hl := h.len
  have hrow : ∀ j (h1 : j < vs.length) (h2 : j < hs.length), (∃ B d, vs[j] = .slice B hs[j].length d) ∧ SL w vs[j] hs[j] := fun j h1 h2 => by
    have h3 := h.row j h1 h2 g (.inr (.inr rfl))
    obtain ⟨B, d, e⟩ := h3.form
    exact ⟨⟨B, d, e⟩, h3.sl⟩
  rcases h.hdr.2 with ⟨e, hn⟩ | ⟨b, cap, cur, e, hb, hgg, hnc, hcm, hcs, htake⟩
  · have : hs = [] := List.eq_nil_of_length_eq_zero (by omega)
    subst this
    exact ⟨none, 0, by rw [e]; rfl, Nat.le_refl _, by omega, hl, ⟨none, 0, rfl, by simp [hl], fun h0 => by simp at h0⟩, hrow⟩
  · have ho := h.hdr
    rw [e] at ho
    refine ⟨some ⟨b, 0, none⟩, cap, by rw [e, hl], by omega, by simpa [maxLen] using hcm, hl, ⟨_, _, rfl, by omega, fun h0 => ⟨b, 0, rfl, (Array.getElem?_eq_some_iff.1 hgg).1, fun j u hu => ?_⟩⟩, hrow⟩
    obtain ⟨hj, rfl⟩ := List.getElem?_eq_some_iff.1 hu
    rw [Nat.zero_add]
    rw [ho.cellAt j (by omega), List.getElem?_eq_getElem hj]
/-- append to a slice cut at its length: a block is made anew -/
theorem run_append_cutV {P : Program} (W : World) (t ty e : TypeId) (z : Value) (by' : Nat) (ht : P.underlying t = some (.slice e)) (hinfo : (P.info? e).map (fun i => (i.zero, i.size, i.bytes)) = some (some z, 1, by')) (hby : by' ≤ 32)
    (A : Option Addr) (k n2 : Nat) (src : Value) (x1 x2 : List Value) (h1 : SC W.heap.size W (.slice A k k) k 1 x1) (h2 : SC W.heap.size W src n2 1 x2) (hn2 : 0 < n2) (ho2 : ∀ u ∈ x2, u.oneCell' = true) (hb : k + n2 ≤ 1000000) :
    ∃ c' w', (Builtin.append_ #[t, t] ty #[.slice A k k, src]).run P W = .ok (.slice (some ⟨W.heap.size, 0, none⟩) (k + n2) c') w' ∧ Below W.heap.size W w' ∧ k + n2 ≤ c' ∧ c' ≤ 9223372036854775807 ∧ W.heap.size < w'.heap.size ∧ ∀ j u, (x1 ++ x2)[j]? = some u → w'.cell? ⟨W.heap.size, j, none⟩ = some u := by
  obtain ⟨i0, hi0, hz0, hz1, hz2⟩ := info_parts hinfo
  obtain ⟨As, cs, rfl, hl2, has⟩ := h2
  obtain ⟨A1, c1, e1, hl1, ha1⟩ := h1
  injection e1 with e1 e2 e3
  subst e1
  have hadd : ∀ (b off j : Nat), (⟨b, off, none⟩ : Addr).add j = ⟨b, off + j, none⟩ := fun b off j => by unfold Addr.add; split <;> simp_all
  have hsrc : Src P i0.size t (.slice As n2 cs) n2 x2 W := by
    rw [hz1]
    obtain ⟨b, off, rfl, hbl, hcell⟩ := has hn2
    exact Src.ofSlice W ht ⟨b, off, none⟩ _ cs _ (by omega) (fun j u hu => by rw [hadd]; exact hcell j u hu) ho2
  have hold : (Builtin.firstCells i0.size k (.slice A k k)).run P W.drew = .ok x1.toArray W.drew := by
    rw [hz1]
    rcases Nat.eq_zero_or_pos k with hz | hz
    · subst hz
      have hx1 : x1 = [] := List.eq_nil_of_length_eq_zero (by omega)
      subst hx1
      cases A with
      | none => exact run_firstCells_none W.drew 1 0 0 0
      | some a => exact run_firstCells_some W.drew 1 0 a 0 0 [] (by simp) (by simp)
    · obtain ⟨b, off, rfl, hbl, hcell⟩ := ha1 hz
      exact run_firstCells_some W.drew 1 _ ⟨b, off, none⟩ _ _ _ (by omega) (fun j u hu => by rw [hadd]; exact hcell j u hu)
  have hfit : Builtin.nextslicecap (k + n2) k * i0.bytes ≤ 281474976710656 := by
    rw [hz2]
    have := nextslicecap_le (need := k + n2) (old := k) (by omega)
    have h3 : Builtin.nextslicecap (k + n2) k * by' ≤ Builtin.nextslicecap (k + n2) k * 32 := Nat.mul_le_mul_left _ hby
    omega
  have hrun := run_append_grow_src (P := P) W t t ty e i0 _ ht hi0 hz0 A k k _ hold _ _ _ hsrc (by omega) (by omega) hfit
  have hge := grownCap_ge W (k + n2) k e
  have hle := grownCap_le_maxLen W (k + n2) k e (by unfold maxLen; omega)
  refine ⟨_, _, hrun, ((Below.refl _ W).drew).alloc (Nat.le_refl _) _, hge, by unfold maxLen at hle; omega, by simp, fun j u hu => ?_⟩
  have hn := heap_alloc_new W.drew (.cells ((x1 ++ x2).toArray ++ Builtin.zeroCells z.cells (grownCap W (k + n2) k e - (k + n2))) e)
  have hj : j < (x1 ++ x2).length := (List.getElem?_eq_some_iff.1 hu).1
  rw [cell_of_row _ W.heap.size j _ _ _ hn]
  rw [Array.getElem?_append_left (by simpa using hj)]
  rw [List.getElem?_toArray]
  exact hu
theorem step_append_cutV {P : Program} (w : World) {ops : Array Oper} {o : Oper} {a : Act} {K : Act → World → Prop} {Q : Exit → Act → World → Prop} {E : Prop} (hgd : o.guard = none) (s x : Operand) (t : TypeId)
    (ho : o.op = .call { callee := .builtin .append, args := #[s, x], argTypes := #[t, t] })
    (e : TypeId) (z : Value) (by' : Nat) (ht : P.underlying t = some (.slice e)) (hinfo : (P.info? e).map (fun i => (i.zero, i.size, i.bytes)) = some (some z, 1, by')) (hby : by' ≤ 32)
    (A : Option Addr) (k n2 : Nat) (src : Value) (x1 x2 : List Value) (hs : a.eval s = .slice A k k) (hx : a.eval x = src) (h1 : SC w.heap.size w (.slice A k k) k 1 x1) (h2 : SC w.heap.size w src n2 1 x2) (hn2 : 0 < n2) (ho2 : ∀ u ∈ x2, u.oneCell' = true) (hb : k + n2 ≤ 1000000)
    (h : ∀ c' w', Below w.heap.size w w' → k + n2 ≤ c' → c' ≤ 9223372036854775807 → w.heap.size < w'.heap.size → (∀ j u, (x1 ++ x2)[j]? = some u → w'.cell? ⟨w.heap.size, j, none⟩ = some u) → K (a.put o.dst (.slice (some ⟨w.heap.size, 0, none⟩) (k + n2) c')) w') :
    if Region.wanted o (yielded ops a.tmps) = true then Oper.wp P o a w K Q else E := by
  have hw : Region.wanted o (yielded ops a.tmps) = true := by simp [Region.wanted, hgd]
  rw [if_pos hw]
  obtain ⟨c', w', hrun, h3, h4, h5, h6, h7⟩ := run_append_cutV (P := P) w t o.type e z by' ht hinfo hby A k n2 src x1 x2 h1 h2 hn2 ho2 hb
  unfold Oper.wp execOp
  simp only [ho, resolve, invoke, builtin, Sem.run_bind, Sem.run_pure, Result.andThen_ok, List.map_toArray, List.map_cons, List.map_nil, hs, hx, hrun]
  exact h c' w' h3 h4 h5 h6 h7
/-- the first list once more ahead of all -/
theorem SLH.double {w w' : World} {A : Option Addr} {n c c' k : Nat} {vs : List Value} {hs : List (List (List Int))} (h : SLH w (.slice A n c) vs hs) (hb : Below w.heap.size w w') (hk : k ≤ hs.length) (hz : w.heap.size < w'.heap.size)
    (hc : ∀ j u, (vs.take k ++ vs)[j]? = some u → w'.cell? ⟨w.heap.size, j, none⟩ = some u) : SLH w' (.slice (some ⟨w.heap.size, 0, none⟩) (k + n) c') (vs.take k ++ vs) (hs.take k ++ hs) := by
  obtain ⟨h1, ⟨A', c'', e, h2, h3⟩, h4⟩ := h
  injection e with e1 e2 e3
  subst e1 e2 e3
  have hl : (hs.take k ++ hs).length = k + hs.length := by simp; omega
  refine ⟨by simp [h1], ⟨_, c', by rw [hl], by rw [hl]; simp; omega, fun _ => ⟨w.heap.size, 0, rfl, hz, fun j u hu => by rw [Nat.zero_add]; exact hc j u hu⟩⟩, fun j h5 h6 => ?_⟩
  by_cases hj : j < k
  · have h7 : j < (vs.take k).length := by simp; omega
    have h8 : j < (hs.take k).length := by simp; omega
    simp only [List.getElem_append_left h7, List.getElem_append_left h8, List.getElem_take]
    have h9 := h4 j (by omega) (by omega)
    exact ⟨h9.1, h9.2.below hb⟩
  · have h7 : (vs.take k).length ≤ j := by simp; omega
    have h8 : (hs.take k).length ≤ j := by simp; omega
    have e1 : (vs.take k ++ vs)[j]'h5 = vs[j - (vs.take k).length]'(by simp at h5 ⊢; omega) := List.getElem_append_right h7
    have e2 : (hs.take k ++ hs)[j]'h6 = hs[j - (hs.take k).length]'(by simp at h6 ⊢; omega) := List.getElem_append_right h8
    rw [e1, e2]
    have e3 : (vs.take k).length = (hs.take k).length := by simp [h1]
    simp only [e3]
    have h9 := h4 (j - (hs.take k).length) (by simp at h5 ⊢; omega) (by simp at h6 ⊢; omega)
    exact ⟨h9.1, h9.2.below hb⟩
theorem rowsinfo : (Tryz.prog.info? 33).map (fun i => (i.zero, i.size, i.bytes)) = some (some (.slice none 0 0), 1, 24) := by kernel_rfl
theorem step_own {w : World} {ops : Array Oper} {o : Oper} {a : Act} {K : Act → World → Prop} {Q : Exit → Act → World → Prop} {E : Prop} (s x : Operand) (hgd : o.guard = none)
    (ho : o.op = .call { callee := .builtin .append, args := #[s, x], argTypes := #[71, 71] }) (A : Option Addr) (nw co : Nat) (vs : List Value) (hs : List (List (List Int))) (he1 : a.eval s = .slice A 1 1) (he2 : a.eval x = .slice A nw co)
    (hos : SLH w (.slice A nw co) vs hs) (hnw : 1 ≤ nw ∧ nw ≤ 10) (hhl : hs.length = nw)
    (h : ∀ b c' w', Below w.heap.size w w' → SLH w' (.slice (some ⟨b, 0, none⟩) (1 + nw) c') (vs.take 1 ++ vs) (hs.take 1 ++ hs) → 1 + nw ≤ c' ∧ c' ≤ 9223372036854775807 → K (a.put o.dst (.slice (some ⟨b, 0, none⟩) (1 + nw) c')) w') :
    if Region.wanted o (yielded ops a.tmps) = true then Oper.wp Tryz.prog o a w K Q else E := by
  have h1 : SC w.heap.size w (.slice A 1 1) 1 1 (vs.take 1) := by
    have h := (hos.take (k := 1) (c' := 1) (by omega)).2.1
    have e : (hs.take 1).length = 1 := by rw [List.length_take]; omega
    rw [e] at h; exact h
  have h2 : SC w.heap.size w (.slice A nw co) nw 1 vs := by
    have h := hos.2.1
    rw [hhl] at h; exact h
  have h3 : ∀ u ∈ vs, u.oneCell' = true := fun u hu => by
    obtain ⟨j, hj, rfl⟩ := List.mem_iff_getElem.1 hu
    obtain ⟨B, d, e⟩ := (hos.2.2 j hj (by have := hos.1; omega)).1
    rw [e]; rfl
  exact step_append_cutV w hgd s x _ ho _ _ 24 Tryz.underlying71 rowsinfo (by omega) A 1 nw _ _ vs he1 he2 h1 h2 (by omega) h3 (by omega) fun c' w' h4 h5 h6 h7 h8 => h _ c' w' h4 (hos.double h4 (by omega) h7 h8) ⟨h5, h6⟩
theorem SI.cap {w : World} {A : Option Addr} {n c c' : Nat} {l : List Int} (h : SI w (.slice A n c) l) (h1 : l.length ≤ c') (h2 : c' ≤ c) : SI w (.slice A n c') l := by
  obtain ⟨A', c'', e, hc, hm, hr, ha⟩ := h
  injection e with e1 e2 e3
  subst e1 e2 e3
  exact ⟨A, c', rfl, h1, by omega, hr, ha⟩
theorem SI.sx {w : World} {v : Value} {l : List Int} (h : SI w v l) : SX w none none v l := by
  obtain ⟨A, c, rfl, hc, hm, hr, ha⟩ := h
  refine ⟨A, c, rfl, hc, hm, hr, fun h0 => ?_⟩
  obtain ⟨b, off, e, hb, hcell⟩ := ha h0
  exact ⟨b, off, e, hb, by simp, by simp, hcell⟩
theorem SX.si' {w : World} {X Y : Option Nat} {v : Value} {l : List Int} (h : SX w X Y v l) : SI w v l := by
  obtain ⟨A, c, rfl, hc, hm, hr, ha⟩ := h
  refine ⟨A, c, rfl, hc, hm, hr, fun h0 => ?_⟩
  obtain ⟨b, off, e, hb, _, _, hcell⟩ := ha h0
  exact ⟨b, off, e, hb, hcell⟩
end Go.Proofs.YtoiabanpnkpbhaaGreatDoor
