/- Joined: Le. -/
import Derived.BigRegion
import Derived.Deep.QuietTactic
import Derived.BigQuiet
import Derived.Deep.DeepCutAuto
import Derived.Deep.RegionHeld3
import Derived.Deep.RegionWith
import Derived.Test.YtoiabanpnkpbhaaGreatDoorY09
namespace Go.Proofs.YtoiabanpnkpbhaaGreatDoor
open Go.RowKit

set_option maxRecDepth 100000 in
set_option maxHeartbeats 4000000 in
theorem lead_any (P : Int) (C B G n m c r k : Nat) (bs cs : Nat → Nat) (M0 M : List (List Int)) (ld : List Int) (w : World) (hp : prB P = true) (hk : k < C) (hn : n = C + 1) (hC : C ≤ 32) (hm : m ≤ 32)
    (hM : RM (B + 1) w G n m bs cs M) (hR : RD w B P C (.slice (some ⟨G, 0, none⟩) m c) r ld) (hG : GE P C M0 M r k ld) :
    Calls Tryz.prog 152 #[.pointer (some ⟨B, 0, none⟩), .int .i64 k] w fun e w' => (∃ v, e = .returned v) ∧ Below B w w' ∧ LP P C B G n m c M0 (k + 1) w' := by
  have HM := Lib.hid hM
  have HR := Lib.hid hR
  have HG := Lib.hid hG
  have HP := Lib.hid hp
  have HN := Lib.hid hn
  have hkn : k < n := by omega
  have hn33 : n ≤ 33 := by omega
  have hrm : r ≤ m := by have := hG.rk; have := hM.len; omega
  obtain ⟨cP, cC, cH, cR⟩ := hR.cells
  clear hM hR hG hp hn
  go_enter Tryz.func152, Tryz.ntmps152
  go_wp2_with fail
  go_loop [4] (fun i => ∃ j : Nat, r ≤ j ∧ j ≤ m ∧ i = .int .i64 j ∧ Hid (∀ q, r ≤ q → q < j → gd (gr M q) k = 0)) (fun i => m - (intOf i).toNat)
  case atStart => exact ⟨r, Nat.le_refl _, hrm, rfl, (show Hid _ from fun q h1 h2 => by omega)⟩
  case round =>
    obtain ⟨j, hj1, hj2, rfl, HZ⟩ := hrel
    by_cases hjm : j < m
    · have cj := HM.out.cell hjm
      have ej := HM.out.el hjm hkn
      obtain ⟨x, hx⟩ : ∃ x, x = gd (gr M j) k := ⟨_, rfl⟩
      rw [← hx] at ej
      by_cases h0 : x = 0
      · subst h0
        have HZ2 : Hid (∀ q, r ≤ q → q < j + 1 → gd (gr M q) k = 0) := (show Hid _ from fun q h1 h2 => by
          by_cases e : q = j
          · rw [e]; exact hx.symm
          · exact HZ.out q h1 (by omega))
        clear hx HZ
        go_wp2_with fail
        go_round
        case rel => exact ⟨j + 1, by omega, by omega, by go_num, HZ2⟩
        case measure => simp [intOf]; omega
      · have hb0 : (x == 0) = false := by simp [h0]
        have HX : Hid (gd (gr M j) k ≠ 0) := (show Hid _ from by rw [← hx]; exact h0)
        have hjb : ((j : Int) == (m : Int)) = false := by rw [beq_eq_false_iff_ne]; omega
        clear hx h0
        have hjr : r < m := by omega
        have cr := HM.out.cell hjr
        have fj := HM.out.frozen j
        have fr := HM.out.frozen r
        have z1 : (0 : Int) ≤ (j : Int) := by omega
        have z2 : (j : Int) < (m : Int) := by omega
        have z3 : (0 : Int) ≤ (r : Int) := by omega
        have z4 : (r : Int) < (m : Int) := by omega
        go_upto_region 4 with fail
        go_cut [] (fun wx => RM (B + 1) wx G n m (sw bs r j) (sw cs r j) (swp M r j) ∧ RD wx B P C (.slice (some ⟨G, 0, none⟩) m c) r ld ∧ Below B w wx)
        case first =>
          have HMj := Lib.hid (HM.out.swap hjr hjm rfl)
          have HRj := Lib.hid ((HR.out.kept (heap_setCell_other w ⟨G, r, none⟩ B (hd n bs cs j) (by have := HM.out.gb; show B ≠ G; omega))).kept (heap_setCell_other _ ⟨G, j, none⟩ B (hd n bs cs r) (by have := HM.out.gb; show B ≠ G; omega)))
          have HBj := Lib.hid (((Below.refl B w).setCell (p := ⟨G, r, none⟩) (by have := HM.out.gb; show B ≤ G; omega) (hd n bs cs j)).setCell (p := ⟨G, j, none⟩) (by have := HM.out.gb; show B ≤ G; omega) (hd n bs cs r))
          by_cases hne : j = r
          · subst hne
            go_region
            all_goals
              go_wp2_with fail
              go_meet
              exact ⟨HMj.out.drew, HRj.out, HBj.out.drew⟩
          · go_region
            all_goals
              go_wp2_with fail
              go_meet
              exact ⟨HMj.out.drew, HRj.out, HBj.out.drew⟩
        case rest =>
          obtain ⟨hM1, hR1, hB1⟩ := hcut
          have HM1 := Lib.hid hM1
          have HR1 := Lib.hid hR1
          have HB1 := Lib.hid hB1
          clear cP cC cH cR cj ej cr fj fr
          obtain ⟨cP, cC, cH, cR⟩ := hR1.cells
          have cr := hM1.cell hjr
          have er := hM1.el hjr hkn
          have HG1 : Hid (gr (swp M r j) r = gr M j) := (show Hid _ from by
            show _ = _
            rw [gr_swp (by rw [HM.out.len]; exact hjr) (by rw [HM.out.len]; exact hjm)]
            by_cases e : r = j
            · rw [if_pos e, e]
            · rw [if_neg e, if_pos rfl])
          rw [HG1.out] at er
          have hP := prB_bd HP.out
          have hrow := HM.out.row j hjm
          have hel : els P (gr M j) = true := (HG.out.row j (by rw [HM.out.len]; exact hjm)).2
          have hx := el_t (els_gd hP.1 hel k)
          obtain ⟨x, ex⟩ : ∃ x, x = gd (gr M j) k := ⟨_, rfl⟩
          rw [← ex] at er hx
          obtain ⟨iv, eiv⟩ : ∃ v, v = inv P x := ⟨_, rfl⟩
          have hiv := inv_bd hP.1 x
          rw [← eiv] at hiv
          have EX := Lib.hid ex
          have EIV := Lib.hid eiv
          have HEL := Lib.hid hel
          have hlenj : Hid ((gr M j).length = n) := (show Hid _ from hrow.2.1)
          obtain ⟨r1, r2, r3, r4, r5, r6⟩ := hM1.row r hjr
          obtain ⟨b0, eb0⟩ : ∃ b, b = sw bs r j r := ⟨_, rfl⟩
          obtain ⟨c0, ec0⟩ : ∃ b, b = sw cs r j r := ⟨_, rfl⟩
          rw [← eb0] at cr er r5 r6 r1
          rw [← ec0] at cr r3 r4
          rw [HG1.out] at r1
          have HB0 := Lib.hid eb0
          have HC0 := Lib.hid ec0
          have HRB := Lib.hid r1
          have hBlt := hR1.lt
          clear hM1 hR1 hB1 ex eiv hel hrow r2 eb0 ec0 r1
          have y1 : (0 : Int) ≤ (k : Int) := by omega
          have y2 : (k : Int) < (n : Int) := by omega
          go_wp2_with fail
          go_region_held3 (fun w' => w'.cell? ⟨B, 2, none⟩ = some (.slice (some ⟨G, 0, none⟩) m c) ∧ w'.cell? ⟨B, 3, none⟩ = some (.int .i64 r) ∧ w'.cell? ⟨G, r, none⟩ = some (.slice (some ⟨b0, 0, none⟩) n c0)) (first | exact ⟨cH, cR, cr⟩ | go_keep) (fail)
          go_wp2_with fail
          go_region_held3 (fun w' => w'.cell? ⟨B, 0, none⟩ = some (.int .i64 P) ∧ w'.cell? ⟨b0, k, none⟩ = some (.int .i64 x)) (first | exact ⟨cP, er⟩ | go_keep)
            ((go_at_call 93; refine (inverse_any P x _ HP.out hx).mono ?_; rintro e w9 ⟨rfl, rfl⟩; rw [← EIV.out]))
          go_wp2_with fail
          obtain ⟨wx, ewx⟩ : ∃ wx, wx = wc.drew.drew := ⟨_, rfl⟩
          rw [← ewx]
          have HM2 : Hid (RM (B + 1) wx G n m (sw bs r j) (sw cs r j) (swp M r j)) := (show Hid _ from by rw [ewx]; exact HM1.out.drew.drew)
          have HR2 : Hid (RD wx B P C (.slice (some ⟨G, 0, none⟩) m c) r ld) := (show Hid _ from by rw [ewx]; exact HR1.out)
          have HB2 : Hid (Below B w wx) := (show Hid _ from by rw [ewx]; exact HB1.out.drew.drew)
          have HRB2 : Hid (RB wx b0 (gr M j)) := (show Hid _ from by rw [ewx]; exact HRB.out)
          clear ewx cP cC cH cR cr er HM1 HR1 HB1 HRB
          go_loopw [97] (fun i wr => ∃ q : Nat, q ≤ n ∧ i = .int .i64 q ∧ Hid (RB wr b0 (scp P iv (gr M j) q)) ∧ Hid (wx.grownBy wr (some b0))) (fun i _ => n - (intOf i).toNat)
          case atStart => exact ⟨0, Nat.zero_le _, by go_num, (show Hid _ from by rw [scp_zero]; exact HRB2.out), (show Hid _ from grownBy_refl _ _)⟩
          case round =>
            obtain ⟨q, hq, rfl, HQ, HQG⟩ := hrel
            obtain ⟨cP, cC, cH, cR⟩ := HR2.out.cells
            have cP := HQG.out.cell cP (by simp; omega)
            by_cases hqn : q < n
            · have hql : q < (scp P iv (gr M j) q).length := by rw [scp_len, hlenj.out]; exact hqn
              have cq := HQ.out.cell hql
              have fq := HQ.out.frozen q
              have hy := el_t (els_gd hP.1 HEL.out q)
              obtain ⟨y, ey⟩ : ∃ y, y = gd (gr M j) q := ⟨_, rfl⟩
              have HY : Hid (RB (wr.setCell ⟨b0, q, none⟩ (.int .i64 (y * iv % P))) b0 (scp P iv (gr M j) (q + 1))) := (show Hid _ from by
                have := HQ.out.set hql (y * iv % P)
                rw [ey, scp_set _ _ _ _ (by rw [hlenj.out]; exact hqn)] at this
                rw [ey]; exact this)
              have HYG : Hid (wx.grownBy (wr.setCell ⟨b0, q, none⟩ (.int .i64 (y * iv % P))) (some b0)) := (show Hid _ from grownBy_setCell HQG.out (.inl rfl) _)
              rw [← gd_lt, scp_gd _ _ _ _ _ (by rw [hlenj.out]; exact hqn), if_neg (by omega), ← ey] at cq
              rw [← ey] at hy
              have hm1 : 0 ≤ y * iv % P := Int.emod_nonneg _ (by omega)
              have hm2 : y * iv % P < P := Int.emod_lt_of_pos _ (by omega)
              clear ey hql
              go_wp2_with (go_at_call 53; refine (mul_any _ _ _ _ hP hy hiv).mono ?_; rintro e w9 ⟨rfl, rfl⟩)
              go_roundw
              case rel => exact ⟨q + 1, by omega, by go_num, HY, HYG⟩
              case measure => simp [intOf]; omega
            · obtain rfl : n = q := by omega
              have HF : Hid (scp P iv (gr M j) n = led1 P k j M) := (show Hid _ from by
                show _ = _
                have := scp_end P iv (gr M j)
                rw [hlenj.out] at this
                rw [this, EIV.out, EX.out]; rfl)
              have HFl : Hid ((led1 P k j M).length = n) := (show Hid _ from by show _ = _; rw [led1, scl_len]; exact hlenj.out)
              have HFe : Hid (els P (led1 P k j M) = true) := (show Hid _ from scl_els hP.1 _ _)
              obtain ⟨F, eF⟩ : ∃ F, F = led1 P k j M := ⟨_, rfl⟩
              rw [← eF] at HF HFl HFe
              have HM3 : Hid (RM (B + 1) wr G n m (sw bs r j) (sw cs r j) ((swp M r j).set r F)) := (show Hid _ from by
                refine HM2.out.upd hjr HFl.out ?_ ?_
                · rw [← HB0.out]; exact HQG.out
                · rw [← HB0.out, ← HF.out]; exact HQ.out)
              have HR3 : Hid (RD wr B P C (.slice (some ⟨G, 0, none⟩) m c) r ld) := (show Hid _ from HR2.out.kept (HQG.out.block B HR2.out.lt (by simp; omega)))
              have HB3 : Hid (Below B w wr) := (show Hid _ from HB2.out.trans (below_of_grownBy HQG.out (by omega) (by have := HR2.out.lt; omega)))
              have HEF := Lib.hid eF
              obtain ⟨wz, ewz⟩ : ∃ wz, wz = wr := ⟨_, rfl⟩
              rw [← ewz] at HM3 HR3 HB3 ⊢
              clear cP cC cH cR HQ HQG HM2 HR2 HB2 HRB2 eF HF ewz
              obtain ⟨cP, cC, cH, cR⟩ := HR3.out.cells
              go_wp2_with fail
              go_loopw [118] (fun i wr => ∃ q : Nat, q ≤ m ∧ i = .int .i64 q ∧ Hid (RM (B + 1) wr G n m (sw bs r j) (sw cs r j) (elN P k r F ((swp M r j).set r F) q)) ∧ Hid (RD wr B P C (.slice (some ⟨G, 0, none⟩) m c) r ld) ∧ Hid (Below B w wr)) (fun i _ => m - (intOf i).toNat)
              case atStart => exact ⟨0, Nat.zero_le _, by go_num, (show Hid _ from by rw [elN_zero]; exact HM3.out), HR3, HB3⟩
              case round =>
                obtain ⟨q, hq, rfl, HMq, HRq, HBq⟩ := hrel
                clear cP cC cH cR
                by_cases hqm : q < m
                · obtain ⟨cP, cC, cH, cR⟩ := HRq.out.cells
                  have cq := HMq.out.cell hqm
                  have eq := HMq.out.el hqm hkn
                  have HMl : Hid (((swp M r j).set r F).length = m) := (show Hid _ from by show _ = _; rw [List.length_set, swp_len]; exact HM.out.len)
                  have hgq : gr (elN P k r F ((swp M r j).set r F) q) q = gr ((swp M r j).set r F) q := by rw [gr_elN (by rw [HMl.out]; exact hqm), if_neg (by omega)]
                  rw [hgq] at eq
                  obtain ⟨R, eR⟩ : ∃ R, R = gr ((swp M r j).set r F) q := ⟨_, rfl⟩
                  rw [← eR] at eq hgq
                  have z5 : (0 : Int) ≤ (q : Int) := by omega
                  have z6 : (q : Int) < (m : Int) := by omega
                  by_cases hqr : q = r
                  · subst hqr
                    have HSK : Hid (elN P k q F ((swp M q j).set q F) (q + 1) = elN P k q F ((swp M q j).set q F) q) := (show Hid _ from elN_skip _ _ _ _ _ _ (.inl rfl))
                    clear hgq eR
                    go_wp2_with fail
                    go_roundw
                    case rel => exact ⟨q + 1, by omega, by go_num, (show Hid _ from by rw [HSK.out]; exact HMq.out), HRq, HBq⟩
                    case measure => simp [intOf]; omega
                  · have hne : ((q : Int) != (r : Int)) = true := by simp; omega
                    obtain ⟨y, ey⟩ : ∃ y, y = gd R k := ⟨_, rfl⟩
                    rw [← ey] at eq
                    by_cases hy0 : y = 0
                    · subst hy0
                      have HSK : Hid (elN P k r F ((swp M r j).set r F) (q + 1) = elN P k r F ((swp M r j).set r F) q) := (show Hid _ from elN_skip _ _ _ _ _ _ (.inr (by rw [← eR]; exact ey.symm)))
                      clear hgq eR ey
                      go_wp2_with fail
                      go_roundw
                      case rel => exact ⟨q + 1, by omega, by go_num, (show Hid _ from by rw [HSK.out]; exact HMq.out), HRq, HBq⟩
                      case measure => simp [intOf]; omega
                    · have hy1 : (y != 0) = true := by simp [hy0]
                      obtain ⟨q1, q2, q3, q4, q5, q6⟩ := HMq.out.row q hqm
                      obtain ⟨s1, s2, s3, s4, s5, s6⟩ := HMq.out.row r hjr
                      have hap : sw bs r j q ≠ b0 := fun e => hqr (HMq.out.apart q r hqm hjr (by rw [e, HB0.out]))
                      have hFr : gr (elN P k r F ((swp M r j).set r F) q) r = F := by
                        rw [gr_elN (by rw [HMl.out]; exact hjr), if_neg (by omega), gr_set (by rw [swp_len, HM.out.len]; exact hjr), if_pos rfl]
                      have hRe : els P R = true := by
                        rw [eR, gr_set (by rw [swp_len, HM.out.len]; exact hjr), if_neg hqr, gr_swp (by rw [HM.out.len]; exact hjr) (by rw [HM.out.len]; exact hjm)]
                        split
                        · exact (HG.out.row r (by rw [HM.out.len]; exact hjr)).2
                        · exact (HG.out.row q (by rw [HM.out.len]; exact hqm)).2
                      have hyb : 0 ≤ y ∧ y < P := by rw [ey]; exact el_t (els_gd hP.1 hRe k)
                      rw [hgq] at q1 q2
                      rw [hFr, ← HB0.out] at s1
                      obtain ⟨bq, ebq⟩ : ∃ b, b = sw bs r j q := ⟨_, rfl⟩
                      obtain ⟨cq', ecq⟩ : ∃ b, b = sw cs r j q := ⟨_, rfl⟩
                      rw [← ebq] at cq eq q1 q5 q6 hap
                      rw [← ecq] at cq
                      obtain ⟨sb, esb⟩ : ∃ v, v = (0 - y + P) % P := ⟨_, rfl⟩
                      have hsb : 0 ≤ sb ∧ sb < P := by rw [esb]; exact ⟨Int.emod_nonneg _ (by omega), Int.emod_lt_of_pos _ (by omega)⟩
                      have HSUB : ∀ W : World, Calls Tryz.prog 92 #[.int .i64 P, .int .i64 0, .int .i64 y] W fun e w' => e = .returned (.int .i64 sb) ∧ W = w' := fun W => (sub_any P 0 y W hP ⟨by omega, by omega⟩ hyb).mono fun e w' ⟨h1, h2⟩ => ⟨by rw [h1, esb], h2⟩
                      have hF5 : F.length = n := HFl.out
                      have HSI : SI wr (.slice (some ⟨b0, 0, none⟩) n c0) F := by
                        have := s1.si (c := c0) (els_r hP.2 HFe.out) (by rw [hF5]; exact r3) r4
                        rwa [hF5] at this
                      have HADD : Hid (∀ W : World, RB W bq R → SI W (.slice (some ⟨b0, 0, none⟩) n c0) F → Calls Tryz.prog 49 #[.int .i64 P, .slice (some ⟨bq, 0, none⟩) n cq', .int .i64 sb, .slice (some ⟨b0, 0, none⟩) n c0] W fun e w' => (∃ v, e = .returned v) ∧ RB w' bq (addT P R 0 sb F) ∧ W.grownBy w' (some bq)) := (show Hid _ from fun W h1 h2 => addTimesR_any P bq 0 n cq' R sb F _ W hP hsb hRe HFe.out h1 h2 (fun b hb e => hap (by rw [← e]; simpa [Value.ownBlock] using hb.symm)) (by omega) (by omega))
                      have HST : Hid (elN P k r F ((swp M r j).set r F) (q + 1) = (elN P k r F ((swp M r j).set r F) q).set q (addT P R 0 sb F)) := (show Hid _ from by
                        show _ = _
                        rw [elN_step _ _ _ _ _ _ (by rw [HMl.out]; exact hqm) hqr, ← eR, el1, if_neg (by rw [← ey]; exact hy0), esb, ey])
                      have hal : Hid ((addT P R 0 sb F).length = n) := (show Hid _ from by show _ = _; rw [addT_len]; exact q2)
                      have HQ1 := Lib.hid q1
                      have HSI' := Lib.hid HSI
                      have HEB := Lib.hid ebq
                      clear hgq eR ey esb hFr hRe q1 q2 q3 q4 s1 s2 s3 s4 s5 s6 HSI hF5 ecq ebq
                      go_wp2_with fail
                      go_region_with
                        (first
                          | (go_at_call 92; refine (HSUB _).mono ?_; rintro e w9 ⟨rfl, rfl⟩)
                          | (go_at_call 49; refine (HADD.out _ (by exact HQ1.out) (by exact HSI'.out)).mono ?_; rintro e w9 ⟨⟨v9, rfl⟩, hRB9, hg9⟩; have HR9 := Lib.hid hRB9; have HG9 : Hid (wr.grownBy w9 (some bq)) := (show Hid _ from ⟨hg9.os, hg9.tape, hg9.output, hg9.size, hg9.block⟩); clear hRB9 hg9))
                      all_goals
                        go_wp2_with fail
                        go_roundw
                        case rel =>
                          refine ⟨q + 1, by omega, by go_num, (show Hid _ from ?_), (show Hid _ from HRq.out.kept (HG9.out.block B HRq.out.lt (by simp; omega))), (show Hid _ from HBq.out.trans (below_of_grownBy HG9.out (by omega) (by have := HRq.out.lt; omega)))⟩
                          rw [HST.out]
                          exact HMq.out.upd hqm hal.out (by rw [← HEB.out]; exact HG9.out) (by rw [← HEB.out]; exact HR9.out)
                        case measure => simp [intOf]; omega
                · obtain rfl : m = q := by omega
                  obtain ⟨cP, cC, cH, cR⟩ := HRq.out.cells
                  have f3 := HRq.out.frozen 3
                  go_wp2_with fail
                  have HR4 := Lib.hid (HRq.out.rank ((r : Int) + 1))
                  have HM4 := Lib.hid (HMq.out.setB (p := ⟨B, 3, none⟩) (Nat.lt_succ_self B) (.int .i64 ((r : Int) + 1)))
                  have HB4 := Lib.hid (HBq.out.setCell (p := ⟨B, 3, none⟩) (Nat.le_refl _) (.int .i64 ((r : Int) + 1)))
                  obtain ⟨w4, ew4⟩ : ∃ w4, w4 = wr.setCell ⟨B, 3, none⟩ (.int .i64 ((r : Int) + 1)) := ⟨_, rfl⟩
                  rw [← ew4] at HR4 HM4 HB4 ⊢
                  clear cP cC cH cR f3 HRq HMq HBq ew4
                  obtain ⟨cP, cC, cH, cR⟩ := HR4.out.cells
                  have fk := HR4.out.frozen (4 + k)
                  have hldl : Hid (ld.length = 32) := (show Hid _ from HG.out.ldl)
                  have ck := HR4.out.ld (k := k) (by rw [hldl.out]; omega)
                  have k32 : (k : Int) < 32 := by omega
                  go_region
                  go_end0
                  have HRf := Lib.hid (HR4.out.lead (k := k) ((r : Int) + 1))
                  have HMf := Lib.hid (HM4.out.setB (p := ⟨B, 4 + k, none⟩) (Nat.lt_succ_self B) (.int .i64 ((r : Int) + 1)))
                  have HBf := Lib.hid (HB4.out.setCell (p := ⟨B, 4 + k, none⟩) (Nat.le_refl _) (.int .i64 ((r : Int) + 1)))
                  have HGE := HG.out.lead HP.out hk hC hj1 (by rw [HM.out.len]; exact hjm) HX.out
                  rw [leadM, ← HEF.out, HM.out.len] at HGE
                  have e1 : ((r + 1 : Nat) : Int) = (r : Int) + 1 := by omega
                  refine ⟨⟨_, rfl⟩, HBf.out.drew, r + 1, sw bs r j, sw cs r j, _, _, HMf.out.drew, ?_, HGE⟩
                  rw [e1]; exact HRf.out
    · obtain rfl : j = m := by omega
      go_wp2_with fail
      refine bodyPost_ret (v := .tuple #[]) (by simp [results, Tryz.results152, go_sem]) rfl ?_
      exact ⟨⟨_, rfl⟩, Below.refl _ _, r, bs, cs, M, ld, HM.out, HR.out, HG.out.none fun q h1 h2 => HZ.out q h1 (by have := HM.out.len; omega)⟩
end Go.Proofs.YtoiabanpnkpbhaaGreatDoor
