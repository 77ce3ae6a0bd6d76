/- Joined: Pg. -/
import Derived.Deep.CutBlock
import Derived.Deep.DeepCutAuto
import Derived.Test.YtbgabipngdillaaZ38
namespace Go.Proofs.Ytbgabipngdillaa
open Go.RowKit Go.Shelf Go.Sort Go.Lib
variable {α : Type} [Inhabited α]

set_option maxHeartbeats 16000000 in
set_option maxRecDepth 1000000 in
theorem partial_any (s : Nat) (enc : α → Value) (cf : α → α → Int) (blk cap a b : Nat) (d0 d : Array α) (w0 w : World) (hc : OrdW s enc cf blk d0.size w0) (R : Row1 enc w0 blk 0 d0) (hs : d0.size = d.size) (S : SW enc w0 blk 0 d w) (hab : a < b) (hb : b ≤ d.size) (hsz : d.size ≤ 1000000) :
    Calls Try.prog 92 #[.slice (some ⟨blk, 0, none⟩) d.size cap, .int .i64 a, .int .i64 b, .func (.func 57) #[.pointer (some ⟨s, 0, none⟩)] #[]] w fun e w' =>
      e = .returned (.bool (Sort.partialInsertionSort (ltOf cf) d a b).2) ∧ SW enc w0 blk 0 (Sort.partialInsertionSort (ltOf cf) d a b).1 w' := by
  have hcl0 := R.hO.cells
  simp only [Value.cells] at hcl0
  have hst := R.hO.store Try.prog
  have mixed : Try.prog.follows .mixedOrders = true := by kernel_rfl
  have HC := Lib.hid hc
  have S0 : Hid (SW enc w0 blk 0 d w) := S
  clear hc S
  obtain ⟨PI, hPI⟩ : ∃ r, r = Sort.partialInsertionSort (ltOf cf) d a b := ⟨_, rfl⟩
  rw [← hPI]
  have HPI := Lib.hid hPI
  clear hPI
  go_enter Try.func92, Try.ntmps92
  go_wp2
  go_loopg [9, 10] 5 (fun gk vi vj wr => ∃ (i t : Nat) (dk : Array α), vi = .int .i64 i ∧ vj = .int .i64 t ∧ t ≤ 5 ∧ 5 - t ≤ gk ∧ a < i ∧ i ≤ b ∧ dk.size = d.size ∧ Hid (SW enc w0 blk 0 dk wr) ∧ Hid (partialIns (ltOf cf) a b (5 - t) i dk = PI))
  case atStart => exact ⟨a + 1, 0, d, by go_num, rfl, by omega, by omega, by omega, by omega, rfl, S0, (show Hid _ from HPI.out.symm)⟩
  case round =>
    clear S0
    obtain ⟨i, t, dk, rfl, rfl, ht, hgk, hai, hib, hds, S1, HE⟩ := hrel
    by_cases ht5 : t < 5
    · have htz : decide ((t : Int) < 5) = true := decide_eq_true (by omega)
      have htn : decide (t < 5) = true := decide_eq_true ht5
      go_upto_block 2 with fail
      go_cut [9] from 19 to 38 (fun vi wx => ∃ p : Nat, vi = .int .i64 p ∧ i ≤ p ∧ p ≤ b ∧ Hid (scanSorted (ltOf cf) dk b i = p) ∧ Hid (SW enc w0 blk 0 dk wx))
      case first =>
        go_wp2_with fail
        go_loopw [9] (fun vi wr => ∃ q : Nat, vi = .int .i64 q ∧ i ≤ q ∧ q ≤ b ∧ Hid (SW enc w0 blk 0 dk wr) ∧ Hid (scanSorted (ltOf cf) dk b q = scanSorted (ltOf cf) dk b i)) (fun vi _ => b - (intOf vi).toNat)
        case atStart => exact ⟨i, rfl, Nat.le_refl _, hib, S1, rfl⟩
        case round =>
          clear S1
          obtain ⟨q, rfl, hq1, hq2, T1, hsc⟩ := hrel
          obtain ⟨qp, rfl⟩ : ∃ qp, q = qp + 1 := ⟨q - 1, by omega⟩
          by_cases hle : qp + 1 < b
          · have hgu : decide ((qp : Int) + 1 < (b : Int)) = true := decide_eq_true (by omega)
            have hgn : decide (qp + 1 < b) = true := decide_eq_true hle
            cases hL : ltOf cf dk[qp + 1]! dk[qp]! with
            | true =>
              obtain ⟨iA, hiA⟩ : ∃ z, z = qp + 1 := ⟨_, rfl⟩
              obtain ⟨jA, hjA⟩ : ∃ z, z = qp := ⟨_, rfl⟩
              have eaA : ((qp : Int) + 1).toNat = iA := by omega
              have paA : (0 : Int) ≤ (qp : Int) + 1 := by omega
              have baA : (qp : Int) + 1 < (d.size : Int) := by omega
              have raA : IntKind.i64.wrap ((qp : Int) + 1) = (qp : Int) + 1 := by exact IntWalk.i64_in _ (by omega)
              have ecA : ((qp : Int)).toNat = jA := by omega
              have pcA : (0 : Int) ≤ (qp : Int) := by omega
              have bcA : (qp : Int) < (d.size : Int) := by omega
              have rcA : IntKind.i64.wrap ((qp : Int)) = (qp : Int) := by exact IntWalk.i64_in _ (by omega)
              obtain ⟨xA, hxA⟩ : ∃ x, x = dk[qp + 1]! := ⟨_, rfl⟩
              obtain ⟨yA, hyA⟩ : ∃ x, x = dk[qp]! := ⟨_, rfl⟩
              have laA : ∀ n, (wr.drewN n).cell? ⟨blk, iA, none⟩ = some (enc xA) := by rw [hiA, hxA]; exact sw_l0 T1.out R (by omega) (qp + 1) (by omega)
              have lbA : ∀ n, (wr.drewN n).cell? ⟨blk, jA, none⟩ = some (enc yA) := by rw [hjA, hyA]; exact sw_l0 T1.out R (by omega) (qp) (by omega)
              have HOA := Lib.hid (sw_ord T1.out HC.out (by omega) xA yA)
              have hvA : cf xA yA < 0 := by rw [hxA, hyA]; exact of_decide_eq_true hL
              have hdA : decide (cf xA yA < 0) = true := decide_eq_true hvA
              clear hxA hyA hiA hjA
              go_wp2_with fail
              go_quiet_o (first | (go_at_call 57; refine Calls.quiet_of_same (HOA.out _)))
              have T2 : Hid (SW enc w0 blk 0 dk (wr.drewN nq)) := T1.out.drewN nq
              clear laA lbA HOA T1
              generalize wr.drewN nq = wy at T2 ⊢
              clear nq
              clear eaA ecA
              go_wp2
              go_meet
              case rel => exact ⟨qp + 1, by go_num, hq1, hq2, (show Hid _ from hsc.out.symm.trans (scanSorted_stop (ltOf cf) dk b (qp + 1) (Or.inr (by simpa using hL)))), T2⟩
            | false =>
              obtain ⟨iB, hiB⟩ : ∃ z, z = qp + 1 := ⟨_, rfl⟩
              obtain ⟨jB, hjB⟩ : ∃ z, z = qp := ⟨_, rfl⟩
              have eaB : ((qp : Int) + 1).toNat = iB := by omega
              have paB : (0 : Int) ≤ (qp : Int) + 1 := by omega
              have baB : (qp : Int) + 1 < (d.size : Int) := by omega
              have raB : IntKind.i64.wrap ((qp : Int) + 1) = (qp : Int) + 1 := by exact IntWalk.i64_in _ (by omega)
              have ecB : ((qp : Int)).toNat = jB := by omega
              have pcB : (0 : Int) ≤ (qp : Int) := by omega
              have bcB : (qp : Int) < (d.size : Int) := by omega
              have rcB : IntKind.i64.wrap ((qp : Int)) = (qp : Int) := by exact IntWalk.i64_in _ (by omega)
              obtain ⟨xB, hxB⟩ : ∃ x, x = dk[qp + 1]! := ⟨_, rfl⟩
              obtain ⟨yB, hyB⟩ : ∃ x, x = dk[qp]! := ⟨_, rfl⟩
              have laB : ∀ n, (wr.drewN n).cell? ⟨blk, iB, none⟩ = some (enc xB) := by rw [hiB, hxB]; exact sw_l0 T1.out R (by omega) (qp + 1) (by omega)
              have lbB : ∀ n, (wr.drewN n).cell? ⟨blk, jB, none⟩ = some (enc yB) := by rw [hjB, hyB]; exact sw_l0 T1.out R (by omega) (qp) (by omega)
              have HOB := Lib.hid (sw_ord T1.out HC.out (by omega) xB yB)
              have hvB : ¬ cf xB yB < 0 := by rw [hxB, hyB]; exact of_decide_eq_false hL
              have hdB : decide (cf xB yB < 0) = false := decide_eq_false hvB
              clear hxB hyB hiB hjB
              go_wp2_with fail
              go_quiet_o (first | (go_at_call 57; refine Calls.quiet_of_same (HOB.out _)))
              have T2 : Hid (SW enc w0 blk 0 dk (wr.drewN nq)) := T1.out.drewN nq
              clear laB lbB HOB T1
              generalize wr.drewN nq = wy at T2 ⊢
              clear nq
              clear eaB ecB
              go_wp2
              go_roundw
              case rel => exact ⟨qp + 1 + 1, by go_num, by omega, by omega, T2, (show Hid _ from (scanSorted_go (ltOf cf) dk b (qp + 1) hle (by simpa using hL)).symm.trans hsc.out)⟩
              case measure => simp [intOf]; omega
          · have hgu : decide ((qp : Int) + 1 < (b : Int)) = false := decide_eq_false (by omega)
            have hgn : decide (qp + 1 < b) = false := decide_eq_false hle
            go_wp2_with fail
            go_big_region_o
            have T2 : Hid (SW enc w0 blk 0 dk wr.drew) := (T1.out.drewN 1)
            clear T1
            generalize wr.drew = wy at T2 ⊢
            go_wp2
            go_meet
            case rel => exact ⟨qp + 1, by go_num, hq1, hq2, (show Hid _ from hsc.out.symm.trans (scanSorted_stop (ltOf cf) dk b (qp + 1) (Or.inl hle))), T2⟩
      case rest =>
        clear S1
        obtain ⟨p, rfl, hp1, hp2, HS, S2⟩ := hcut
        by_cases hpb : p = b
        · have hpz : ((p : Int) == (b : Int)) = true := by rw [beq_iff_eq]; omega
          have hpn : (p == b) = true := by rw [beq_iff_eq]; exact hpb
          have HR : Hid (PI = (dk, true)) := (show Hid _ from HE.out.symm.trans (pi_true (ltOf cf) a b t i dk ht5 (by rw [HS.out, hpb])))
          go_wp2_with fail
          go_ret
          rw [HR.out]
          exact ⟨rfl, S2.out⟩
        · have hpz : ((p : Int) == (b : Int)) = false := by rw [beq_eq_false_iff_ne]; omega
          have hpn : (p == b) = false := by rw [beq_eq_false_iff_ne]; exact hpb
          by_cases h50 : b - a < 50
          · have h5z : decide ((b : Int) - (a : Int) < 50) = true := decide_eq_true (by omega)
            have HR : Hid (PI = (dk, false)) := (show Hid _ from HE.out.symm.trans (pi_short (ltOf cf) a b t i dk ht5 (by rw [HS.out]; exact hpb) h50))
            go_wp2_with fail
            go_ret
            rw [HR.out]
            exact ⟨rfl, S2.out⟩
          · have h5z : decide ((b : Int) - (a : Int) < 50) = false := decide_eq_false (by omega)
            have HG : Hid (partialIns (ltOf cf) a b (5 - (t + 1)) p (fixUp (ltOf cf) b p (fixDown (ltOf cf) a p (swp dk p (p - 1)))) = PI) := (show Hid _ from (pi_go (ltOf cf) a b t i p dk ht5 HS.out hpb h50).symm.trans HE.out)
            clear HE HS
            obtain ⟨pp, hpp⟩ : ∃ pp, p = pp + 1 := ⟨p - 1, by omega⟩
            have ezp : (p : Int) - 1 = (pp : Int) := by omega
            have hpp1 : pp < p := by omega
            have hpp2 : p ≤ pp + 1 := by omega
            have HPP := Lib.hid hpp
            clear hpp
            go_wp2_with fail
            obtain ⟨iC, hiC⟩ : ∃ z, z = p := ⟨_, rfl⟩
            obtain ⟨jC, hjC⟩ : ∃ z, z = pp := ⟨_, rfl⟩
            have eaC : ((p : Int)).toNat = iC := by omega
            have paC : (0 : Int) ≤ (p : Int) := by omega
            have baC : (p : Int) < (d.size : Int) := by omega
            have raC : IntKind.i64.wrap ((p : Int)) = (p : Int) := by exact IntWalk.i64_in _ (by omega)
            have ecC : ((pp : Int)).toNat = jC := by omega
            have pcC : (0 : Int) ≤ (pp : Int) := by omega
            have bcC : (pp : Int) < (d.size : Int) := by omega
            have rcC : IntKind.i64.wrap ((pp : Int)) = (pp : Int) := by exact IntWalk.i64_in _ (by omega)
            obtain ⟨xC, hxC⟩ : ∃ x, x = dk[p]! := ⟨_, rfl⟩
            obtain ⟨yC, hyC⟩ : ∃ x, x = dk[pp]! := ⟨_, rfl⟩
            have S3 : Hid (SW enc w0 blk 0 (swp dk (p) (pp)) ((wc.setCell ⟨blk, iC, none⟩ (enc yC)).setCell ⟨blk, jC, none⟩ (enc xC)).drew) := (show Hid _ from by rw [hiC, hjC, hxC, hyC]; exact sw_s0 S2.out R (p) (pp) (by omega) (by omega))
            have caC : wc.cell? ⟨blk, iC, none⟩ = some (enc xC) := by rw [hiC, hxC]; exact sw_l1 S2.out R (by omega) (p) (by omega)
            have cbC : wc.cell? ⟨blk, jC, none⟩ = some (enc yC) := by rw [hjC, hyC]; exact sw_l1 S2.out R (by omega) (pp) (by omega)
            have faC : wc.frozen? ⟨blk, iC, none⟩ = false := by rw [hiC]; exact sw_f0 S2.out R (by omega) (p) (by omega)
            have fbC : wc.frozen? ⟨blk, jC, none⟩ = false := by rw [hjC]; exact sw_f0 S2.out R (by omega) (pp) (by omega)
            obtain ⟨uC, ccC⟩ : ∃ u, (wc.setCell ⟨blk, iC, none⟩ (enc yC)).cell? ⟨blk, jC, none⟩ = some u := by rw [hiC, hjC]; exact sw_c0 S2.out R (by omega) (p) (pp) (by omega) (by omega) (enc yC)
            clear S2 hxC hyC hiC hjC
            go_wp2_with fail
            go_big_region_o
            clear caC cbC ccC faC fbC
            generalize ((wc.setCell ⟨blk, iC, none⟩ (enc yC)).setCell ⟨blk, jC, none⟩ (enc xC)).drew = w3 at S3 ⊢
            clear eaC ecC
            obtain ⟨d1, hd1⟩ : ∃ d1, d1 = swp dk p pp := ⟨_, rfl⟩
            rw [← hd1] at S3
            have hd1s : d1.size = d.size := by rw [hd1, size_swp]; exact hds
            have HD1 : Hid (swp dk p (p - 1) = d1) := (show Hid _ from by show _ = _; rw [show p - 1 = pp by omega]; exact hd1.symm)
            clear hd1
            go_upto_if 65 with fail
            go_cut [11] from 15 to 140 (fun vj wx => ∃ d2 : Array α, d2.size = d.size ∧ Hid (d2 = fixDown (ltOf cf) a p d1) ∧ Hid (SW enc w0 blk 0 d2 wx))
            case first =>
              by_cases h2 : 2 ≤ p - a
              · have h2z : decide ((2 : Int) ≤ (p : Int) - (a : Int)) = true := decide_eq_true (by omega)
                rw [h2z]
                go_wp2_with fail
                go_loopw [11] (fun vj wr => ∃ (j : Nat) (dj : Array α), vj = .int .i64 j ∧ j ≤ pp ∧ dj.size = d.size ∧ Hid (SW enc w0 blk 0 dj wr) ∧ Hid (shiftDown (ltOf cf) j dj = shiftDown (ltOf cf) pp d1)) (fun vj _ => (intOf vj).toNat)
                case atStart => exact ⟨pp, d1, by go_num, Nat.le_refl _, hd1s, S3, rfl⟩
                case round =>
                  clear S3
                  obtain ⟨j, dj, rfl, hj, hdj, T1, HS⟩ := hrel
                  have FD : Hid (fixDown (ltOf cf) a p d1 = shiftDown (ltOf cf) pp d1) := (show Hid _ from by show _ = _; unfold fixDown; rw [if_pos (by omega), show p - 1 = pp by omega])
                  by_cases hj1 : 1 ≤ j
                  · obtain ⟨jp, rfl⟩ : ∃ jp, j = jp + 1 := ⟨j - 1, by omega⟩
                    have hjz : decide ((1 : Int) ≤ (jp : Int) + 1) = true := decide_eq_true (by omega)
                    cases hL : ltOf cf dj[jp + 1]! dj[jp]! with
                    | true =>
                      obtain ⟨iD, hiD⟩ : ∃ z, z = jp + 1 := ⟨_, rfl⟩
                      obtain ⟨jD, hjD⟩ : ∃ z, z = jp := ⟨_, rfl⟩
                      have eaD : ((jp : Int) + 1).toNat = iD := by omega
                      have paD : (0 : Int) ≤ (jp : Int) + 1 := by omega
                      have baD : (jp : Int) + 1 < (d.size : Int) := by omega
                      have raD : IntKind.i64.wrap ((jp : Int) + 1) = (jp : Int) + 1 := by exact IntWalk.i64_in _ (by omega)
                      have ecD : ((jp : Int)).toNat = jD := by omega
                      have pcD : (0 : Int) ≤ (jp : Int) := by omega
                      have bcD : (jp : Int) < (d.size : Int) := by omega
                      have rcD : IntKind.i64.wrap ((jp : Int)) = (jp : Int) := by exact IntWalk.i64_in _ (by omega)
                      obtain ⟨xD, hxD⟩ : ∃ x, x = dj[jp + 1]! := ⟨_, rfl⟩
                      obtain ⟨yD, hyD⟩ : ∃ x, x = dj[jp]! := ⟨_, rfl⟩
                      have laD : ∀ n, (wr.drewN n).cell? ⟨blk, iD, none⟩ = some (enc xD) := by rw [hiD, hxD]; exact sw_l0 T1.out R (by omega) (jp + 1) (by omega)
                      have lbD : ∀ n, (wr.drewN n).cell? ⟨blk, jD, none⟩ = some (enc yD) := by rw [hjD, hyD]; exact sw_l0 T1.out R (by omega) (jp) (by omega)
                      have HOD := Lib.hid (sw_ord T1.out HC.out (by omega) xD yD)
                      have hvD : cf xD yD < 0 := by rw [hxD, hyD]; exact of_decide_eq_true hL
                      have hdD : decide (cf xD yD < 0) = true := decide_eq_true hvD
                      clear hxD hyD hiD hjD
                      go_wp2_with fail
                      go_quiet_o (first | (go_at_call 57; refine Calls.quiet_of_same (HOD.out _)))
                      have T2 : Hid (SW enc w0 blk 0 dj (wr.drewN nq)) := T1.out.drewN nq
                      clear laD lbD HOD T1
                      generalize wr.drewN nq = wy at T2 ⊢
                      clear nq
                      clear eaD ecD
                      go_wp2_with fail
                      obtain ⟨iE, hiE⟩ : ∃ z, z = jp + 1 := ⟨_, rfl⟩
                      obtain ⟨jE, hjE⟩ : ∃ z, z = jp := ⟨_, rfl⟩
                      have eaE : ((jp : Int) + 1).toNat = iE := by omega
                      have paE : (0 : Int) ≤ (jp : Int) + 1 := by omega
                      have baE : (jp : Int) + 1 < (d.size : Int) := by omega
                      have raE : IntKind.i64.wrap ((jp : Int) + 1) = (jp : Int) + 1 := by exact IntWalk.i64_in _ (by omega)
                      have ecE : ((jp : Int)).toNat = jE := by omega
                      have pcE : (0 : Int) ≤ (jp : Int) := by omega
                      have bcE : (jp : Int) < (d.size : Int) := by omega
                      have rcE : IntKind.i64.wrap ((jp : Int)) = (jp : Int) := by exact IntWalk.i64_in _ (by omega)
                      obtain ⟨xE, hxE⟩ : ∃ x, x = dj[jp + 1]! := ⟨_, rfl⟩
                      obtain ⟨yE, hyE⟩ : ∃ x, x = dj[jp]! := ⟨_, rfl⟩
                      have T3 : Hid (SW enc w0 blk 0 (swp dj (jp + 1) (jp)) ((wy.setCell ⟨blk, iE, none⟩ (enc yE)).setCell ⟨blk, jE, none⟩ (enc xE)).drew) := (show Hid _ from by rw [hiE, hjE, hxE, hyE]; exact sw_s0 T2.out R (jp + 1) (jp) (by omega) (by omega))
                      have caE : wy.cell? ⟨blk, iE, none⟩ = some (enc xE) := by rw [hiE, hxE]; exact sw_l1 T2.out R (by omega) (jp + 1) (by omega)
                      have cbE : wy.cell? ⟨blk, jE, none⟩ = some (enc yE) := by rw [hjE, hyE]; exact sw_l1 T2.out R (by omega) (jp) (by omega)
                      have faE : wy.frozen? ⟨blk, iE, none⟩ = false := by rw [hiE]; exact sw_f0 T2.out R (by omega) (jp + 1) (by omega)
                      have fbE : wy.frozen? ⟨blk, jE, none⟩ = false := by rw [hjE]; exact sw_f0 T2.out R (by omega) (jp) (by omega)
                      obtain ⟨uE, ccE⟩ : ∃ u, (wy.setCell ⟨blk, iE, none⟩ (enc yE)).cell? ⟨blk, jE, none⟩ = some u := by rw [hiE, hjE]; exact sw_c0 T2.out R (by omega) (jp + 1) (jp) (by omega) (by omega) (enc yE)
                      clear T2 hxE hyE hiE hjE
                      go_wp2_with fail
                      go_big_region_o
                      clear caE cbE ccE faE fbE
                      generalize ((wy.setCell ⟨blk, iE, none⟩ (enc yE)).setCell ⟨blk, jE, none⟩ (enc xE)).drew = wz at T3 ⊢
                      clear eaE ecE
                      go_wp2
                      go_roundw
                      case rel => exact ⟨jp, swp dj (jp + 1) jp, by first | rfl | go_num | (congr 1; omega), by omega, by rw [size_swp]; exact hdj, T3, (show Hid _ from by show _ = _; rw [← HS.out, shiftDown_go (ltOf cf) (jp + 1) dj (by omega) (by simpa using hL)]; rfl)⟩
                      case measure => simp [intOf]; try omega
                    | false =>
                      obtain ⟨iF, hiF⟩ : ∃ z, z = jp + 1 := ⟨_, rfl⟩
                      obtain ⟨jF, hjF⟩ : ∃ z, z = jp := ⟨_, rfl⟩
                      have eaF : ((jp : Int) + 1).toNat = iF := by omega
                      have paF : (0 : Int) ≤ (jp : Int) + 1 := by omega
                      have baF : (jp : Int) + 1 < (d.size : Int) := by omega
                      have raF : IntKind.i64.wrap ((jp : Int) + 1) = (jp : Int) + 1 := by exact IntWalk.i64_in _ (by omega)
                      have ecF : ((jp : Int)).toNat = jF := by omega
                      have pcF : (0 : Int) ≤ (jp : Int) := by omega
                      have bcF : (jp : Int) < (d.size : Int) := by omega
                      have rcF : IntKind.i64.wrap ((jp : Int)) = (jp : Int) := by exact IntWalk.i64_in _ (by omega)
                      obtain ⟨xF, hxF⟩ : ∃ x, x = dj[jp + 1]! := ⟨_, rfl⟩
                      obtain ⟨yF, hyF⟩ : ∃ x, x = dj[jp]! := ⟨_, rfl⟩
                      have laF : ∀ n, (wr.drewN n).cell? ⟨blk, iF, none⟩ = some (enc xF) := by rw [hiF, hxF]; exact sw_l0 T1.out R (by omega) (jp + 1) (by omega)
                      have lbF : ∀ n, (wr.drewN n).cell? ⟨blk, jF, none⟩ = some (enc yF) := by rw [hjF, hyF]; exact sw_l0 T1.out R (by omega) (jp) (by omega)
                      have HOF := Lib.hid (sw_ord T1.out HC.out (by omega) xF yF)
                      have hvF : ¬ cf xF yF < 0 := by rw [hxF, hyF]; exact of_decide_eq_false hL
                      have hdF : decide (cf xF yF < 0) = false := decide_eq_false hvF
                      clear hxF hyF hiF hjF
                      go_wp2_with fail
                      go_quiet_o (first | (go_at_call 57; refine Calls.quiet_of_same (HOF.out _)))
                      have T2 : Hid (SW enc w0 blk 0 dj (wr.drewN nq)) := T1.out.drewN nq
                      clear laF lbF HOF T1
                      generalize wr.drewN nq = wy at T2 ⊢
                      clear nq
                      clear eaF ecF
                      go_wp2
                      go_meet
                      case rel => exact ⟨dj, hdj, (show Hid _ from by show _ = _; rw [FD.out, ← HS.out, shiftDown_stop (ltOf cf) (jp + 1) dj (Or.inr (by simpa using hL))]), T2⟩
                  · have hjz : decide ((1 : Int) ≤ (j : Int)) = false := decide_eq_false (by omega)
                    have hj0 : j = 0 := by omega
                    have hjn : decide (1 ≤ j) = false := decide_eq_false hj1
                    go_wp2
                    go_meet
                    case rel => exact ⟨dj, hdj, (show Hid _ from by show _ = _; rw [FD.out, ← HS.out, shiftDown_stop (ltOf cf) j dj (Or.inl hj0)]), T1⟩
              · have h2z : decide ((2 : Int) ≤ (p : Int) - (a : Int)) = false := decide_eq_false (by omega)
                go_wp2_with fail
                go_meet
                case rel => exact ⟨d1, hd1s, (show Hid _ from by show _ = _; unfold fixDown; rw [if_neg (by omega)]), S3⟩
            case rest =>
              clear S3
              obtain ⟨d2, hd2s, HD2, S4⟩ := hcut
              by_cases h2 : 2 ≤ b - p
              · have h2z : decide ((2 : Int) ≤ (b : Int) - ((p : Int))) = true := decide_eq_true (by omega)
                go_wp2_with fail
                go_loopw [12] (fun vj wr => ∃ (j : Nat) (dj : Array α), vj = .int .i64 j ∧ p + 1 ≤ j ∧ j ≤ b ∧ dj.size = d.size ∧ Hid (SW enc w0 blk 0 dj wr) ∧ Hid (shiftUp (ltOf cf) b j dj = shiftUp (ltOf cf) b (p + 1) d2)) (fun vj _ => b - (intOf vj).toNat)
                case atStart => exact ⟨p + 1, d2, by go_num, Nat.le_refl _, by omega, hd2s, S4, rfl⟩
                case round =>
                  clear S4
                  obtain ⟨j, dj, rfl, hj, hjb, hdj, T1, HS⟩ := hrel
                  have FU : Hid (fixUp (ltOf cf) b p d2 = shiftUp (ltOf cf) b (p + 1) d2) := (show Hid _ from by show _ = _; unfold fixUp; rw [if_pos (by omega)])
                  obtain ⟨jp, rfl⟩ : ∃ jp, j = jp + 1 := ⟨j - 1, by omega⟩
                  by_cases hj1 : jp + 1 < b
                  · have hjz : decide ((jp : Int) + 1 < (b : Int)) = true := decide_eq_true (by omega)
                    cases hL : ltOf cf dj[jp + 1]! dj[jp]! with
                    | true =>
                      obtain ⟨iG, hiG⟩ : ∃ z, z = jp + 1 := ⟨_, rfl⟩
                      obtain ⟨jG, hjG⟩ : ∃ z, z = jp := ⟨_, rfl⟩
                      have eaG : ((jp : Int) + 1).toNat = iG := by omega
                      have paG : (0 : Int) ≤ (jp : Int) + 1 := by omega
                      have baG : (jp : Int) + 1 < (d.size : Int) := by omega
                      have raG : IntKind.i64.wrap ((jp : Int) + 1) = (jp : Int) + 1 := by exact IntWalk.i64_in _ (by omega)
                      have ecG : ((jp : Int)).toNat = jG := by omega
                      have pcG : (0 : Int) ≤ (jp : Int) := by omega
                      have bcG : (jp : Int) < (d.size : Int) := by omega
                      have rcG : IntKind.i64.wrap ((jp : Int)) = (jp : Int) := by exact IntWalk.i64_in _ (by omega)
                      obtain ⟨xG, hxG⟩ : ∃ x, x = dj[jp + 1]! := ⟨_, rfl⟩
                      obtain ⟨yG, hyG⟩ : ∃ x, x = dj[jp]! := ⟨_, rfl⟩
                      have laG : ∀ n, (wr.drewN n).cell? ⟨blk, iG, none⟩ = some (enc xG) := by rw [hiG, hxG]; exact sw_l0 T1.out R (by omega) (jp + 1) (by omega)
                      have lbG : ∀ n, (wr.drewN n).cell? ⟨blk, jG, none⟩ = some (enc yG) := by rw [hjG, hyG]; exact sw_l0 T1.out R (by omega) (jp) (by omega)
                      have HOG := Lib.hid (sw_ord T1.out HC.out (by omega) xG yG)
                      have hvG : cf xG yG < 0 := by rw [hxG, hyG]; exact of_decide_eq_true hL
                      have hdG : decide (cf xG yG < 0) = true := decide_eq_true hvG
                      clear hxG hyG hiG hjG
                      go_wp2_with fail
                      go_quiet_o (first | (go_at_call 57; refine Calls.quiet_of_same (HOG.out _)))
                      have T2 : Hid (SW enc w0 blk 0 dj (wr.drewN nq)) := T1.out.drewN nq
                      clear laG lbG HOG T1
                      generalize wr.drewN nq = wy at T2 ⊢
                      clear nq
                      clear eaG ecG
                      go_wp2_with fail
                      obtain ⟨iH, hiH⟩ : ∃ z, z = jp + 1 := ⟨_, rfl⟩
                      obtain ⟨jH, hjH⟩ : ∃ z, z = jp := ⟨_, rfl⟩
                      have eaH : ((jp : Int) + 1).toNat = iH := by omega
                      have paH : (0 : Int) ≤ (jp : Int) + 1 := by omega
                      have baH : (jp : Int) + 1 < (d.size : Int) := by omega
                      have raH : IntKind.i64.wrap ((jp : Int) + 1) = (jp : Int) + 1 := by exact IntWalk.i64_in _ (by omega)
                      have ecH : ((jp : Int)).toNat = jH := by omega
                      have pcH : (0 : Int) ≤ (jp : Int) := by omega
                      have bcH : (jp : Int) < (d.size : Int) := by omega
                      have rcH : IntKind.i64.wrap ((jp : Int)) = (jp : Int) := by exact IntWalk.i64_in _ (by omega)
                      obtain ⟨xH, hxH⟩ : ∃ x, x = dj[jp + 1]! := ⟨_, rfl⟩
                      obtain ⟨yH, hyH⟩ : ∃ x, x = dj[jp]! := ⟨_, rfl⟩
                      have T3 : Hid (SW enc w0 blk 0 (swp dj (jp + 1) (jp)) ((wy.setCell ⟨blk, iH, none⟩ (enc yH)).setCell ⟨blk, jH, none⟩ (enc xH)).drew) := (show Hid _ from by rw [hiH, hjH, hxH, hyH]; exact sw_s0 T2.out R (jp + 1) (jp) (by omega) (by omega))
                      have caH : wy.cell? ⟨blk, iH, none⟩ = some (enc xH) := by rw [hiH, hxH]; exact sw_l1 T2.out R (by omega) (jp + 1) (by omega)
                      have cbH : wy.cell? ⟨blk, jH, none⟩ = some (enc yH) := by rw [hjH, hyH]; exact sw_l1 T2.out R (by omega) (jp) (by omega)
                      have faH : wy.frozen? ⟨blk, iH, none⟩ = false := by rw [hiH]; exact sw_f0 T2.out R (by omega) (jp + 1) (by omega)
                      have fbH : wy.frozen? ⟨blk, jH, none⟩ = false := by rw [hjH]; exact sw_f0 T2.out R (by omega) (jp) (by omega)
                      obtain ⟨uH, ccH⟩ : ∃ u, (wy.setCell ⟨blk, iH, none⟩ (enc yH)).cell? ⟨blk, jH, none⟩ = some u := by rw [hiH, hjH]; exact sw_c0 T2.out R (by omega) (jp + 1) (jp) (by omega) (by omega) (enc yH)
                      clear T2 hxH hyH hiH hjH
                      go_wp2_with fail
                      go_big_region_o
                      clear caH cbH ccH faH fbH
                      generalize ((wy.setCell ⟨blk, iH, none⟩ (enc yH)).setCell ⟨blk, jH, none⟩ (enc xH)).drew = wz at T3 ⊢
                      clear eaH ecH
                      go_wp2
                      go_roundw
                      case rel => exact ⟨jp + 1 + 1, swp dj (jp + 1) jp, by first | rfl | go_num | (congr 1; omega), by omega, by omega, by rw [size_swp]; exact hdj, T3, (show Hid _ from by show _ = _; rw [← HS.out, shiftUp_go (ltOf cf) b (jp + 1) dj hj1 (by simpa using hL)]; rfl)⟩
                      case measure => simp [intOf]; try omega
                    | false =>
                      obtain ⟨iI, hiI⟩ : ∃ z, z = jp + 1 := ⟨_, rfl⟩
                      obtain ⟨jI, hjI⟩ : ∃ z, z = jp := ⟨_, rfl⟩
                      have eaI : ((jp : Int) + 1).toNat = iI := by omega
                      have paI : (0 : Int) ≤ (jp : Int) + 1 := by omega
                      have baI : (jp : Int) + 1 < (d.size : Int) := by omega
                      have raI : IntKind.i64.wrap ((jp : Int) + 1) = (jp : Int) + 1 := by exact IntWalk.i64_in _ (by omega)
                      have ecI : ((jp : Int)).toNat = jI := by omega
                      have pcI : (0 : Int) ≤ (jp : Int) := by omega
                      have bcI : (jp : Int) < (d.size : Int) := by omega
                      have rcI : IntKind.i64.wrap ((jp : Int)) = (jp : Int) := by exact IntWalk.i64_in _ (by omega)
                      obtain ⟨xI, hxI⟩ : ∃ x, x = dj[jp + 1]! := ⟨_, rfl⟩
                      obtain ⟨yI, hyI⟩ : ∃ x, x = dj[jp]! := ⟨_, rfl⟩
                      have laI : ∀ n, (wr.drewN n).cell? ⟨blk, iI, none⟩ = some (enc xI) := by rw [hiI, hxI]; exact sw_l0 T1.out R (by omega) (jp + 1) (by omega)
                      have lbI : ∀ n, (wr.drewN n).cell? ⟨blk, jI, none⟩ = some (enc yI) := by rw [hjI, hyI]; exact sw_l0 T1.out R (by omega) (jp) (by omega)
                      have HOI := Lib.hid (sw_ord T1.out HC.out (by omega) xI yI)
                      have hvI : ¬ cf xI yI < 0 := by rw [hxI, hyI]; exact of_decide_eq_false hL
                      have hdI : decide (cf xI yI < 0) = false := decide_eq_false hvI
                      clear hxI hyI hiI hjI
                      go_wp2_with fail
                      go_quiet_o (first | (go_at_call 57; refine Calls.quiet_of_same (HOI.out _)))
                      have T2 : Hid (SW enc w0 blk 0 dj (wr.drewN nq)) := T1.out.drewN nq
                      clear laI lbI HOI T1
                      generalize wr.drewN nq = wy at T2 ⊢
                      clear nq
                      clear eaI ecI
                      have HDJ : Hid (fixUp (ltOf cf) b p d2 = dj) := (show Hid _ from by show _ = _; rw [FU.out, ← HS.out, shiftUp_stop (ltOf cf) b (jp + 1) dj (Or.inr (by simpa using hL))])
                      have HG2 : Hid (partialIns (ltOf cf) a b (5 - (t + 1)) p dj = PI) := (show Hid _ from by
                        have h := HG.out
                        rw [HD1.out, ← HD2.out, HDJ.out] at h
                        exact h)
                      go_wp2
                      go_roundg (5 - (t + 1))
                      case measure => omega
                      case rel => exact ⟨p, t + 1, dj, by go_num, by go_num, by omega, Nat.le_refl _, by omega, by omega, hdj, T2, HG2⟩
                  · have hjz : decide ((jp : Int) + 1 < (b : Int)) = false := decide_eq_false (by omega)
                    have HDJ : Hid (fixUp (ltOf cf) b p d2 = dj) := (show Hid _ from by show _ = _; rw [FU.out, ← HS.out, shiftUp_stop (ltOf cf) b (jp + 1) dj (Or.inl hj1)])
                    have HG2 : Hid (partialIns (ltOf cf) a b (5 - (t + 1)) p dj = PI) := (show Hid _ from by
                      have h := HG.out
                      rw [HD1.out, ← HD2.out, HDJ.out] at h
                      exact h)
                    go_wp2
                    go_roundg (5 - (t + 1))
                    case measure => omega
                    case rel => exact ⟨p, t + 1, dj, by go_num, by go_num, by omega, Nat.le_refl _, by omega, by omega, hdj, T1, HG2⟩
              · have h2z : decide ((2 : Int) ≤ (b : Int) - ((p : Int))) = false := decide_eq_false (by omega)
                have HDJ : Hid (fixUp (ltOf cf) b p d2 = d2) := (show Hid _ from by show _ = _; unfold fixUp; rw [if_neg (by omega)])
                have HG2 : Hid (partialIns (ltOf cf) a b (5 - (t + 1)) p d2 = PI) := (show Hid _ from by
                  have h := HG.out
                  rw [HD1.out, ← HD2.out, HDJ.out] at h
                  exact h)
                go_wp2
                go_roundg (5 - (t + 1))
                case measure => omega
                case rel => exact ⟨p, t + 1, d2, by go_num, by go_num, by omega, Nat.le_refl _, by omega, by omega, hd2s, S4, HG2⟩
    · have htz : decide ((t : Int) < 5) = false := decide_eq_false (by omega)
      have htn : decide (t < 5) = false := decide_eq_false ht5
      have HR : Hid (PI = (dk, false)) := (show Hid _ from by
        have h := HE.out
        rw [show 5 - t = 5 - 5 by omega, pi_end] at h
        exact h.symm)
      go_wp2_with fail
      go_ret
      rw [HR.out]
      exact ⟨rfl, S1.out⟩
end Go.Proofs.Ytbgabipngdillaa
