/- Joined: Pd Pq Pg. -/
import Derived.Deep.CutBlock
import Derived.Deep.DeepCutAuto
import Derived.Test.YtbgabipngdillaaJ26
namespace Go.Proofs.Ytbgabipngdillaa
open Go.RowKit Go.Shelf Go.Sort Go.Lib
variable {α : Type} [Inhabited α]

set_option maxHeartbeats 16000000 in
set_option maxRecDepth 1000000 in
theorem part_any (s : Nat) (enc : α → Value) (cf : α → α → Int) (blk cap a b pivot : Nat) (d0 d : Array α) (w0 w : World) (hc : OrdW s enc cf blk d0.size w0) (R : Row1 enc w0 blk 0 d0) (hs : d0.size = d.size) (S : SW enc w0 blk 0 d w) (hap : a ≤ pivot) (hpb : pivot < b) (hb : b ≤ d.size) (hsz : d.size ≤ 1000000) :
    Calls Try.prog 94 #[.slice (some ⟨blk, 0, none⟩) d.size cap, .int .i64 a, .int .i64 b, .int .i64 pivot, .func (.func 57) #[.pointer (some ⟨s, 0, none⟩)] #[]] w fun e w' =>
      e = .returned (.tuple #[.int .i64 (Sort.partition (ltOf cf) d a b pivot).1, .bool (Sort.partition (ltOf cf) d a b pivot).2.1]) ∧ SW enc w0 blk 0 (Sort.partition (ltOf cf) d a b pivot).2.2 w' := by
  have hcl0 := R.hO.cells
  simp only [Value.cells] at hcl0
  have hst := R.hO.store Try.prog
  have mixed : Try.prog.follows .mixedOrders = true := by kernel_rfl
  have HC := Lib.hid hc
  have S0 : Hid (SW enc w0 blk 0 d w) := S
  clear hc S
  go_enter Try.func94, Try.ntmps94
  go_wp2_with fail
  obtain ⟨iA, hiA⟩ : ∃ z, z = a := ⟨_, rfl⟩
  obtain ⟨jA, hjA⟩ : ∃ z, z = pivot := ⟨_, rfl⟩
  have eaA : ((a : Int)).toNat = iA := by omega
  have paA : (0 : Int) ≤ (a : Int) := by omega
  have baA : (a : Int) < (d.size : Int) := by omega
  have raA : IntKind.i64.wrap ((a : Int)) = (a : Int) := by exact IntWalk.i64_in _ (by omega)
  have ecA : ((pivot : Int)).toNat = jA := by omega
  have pcA : (0 : Int) ≤ (pivot : Int) := by omega
  have bcA : (pivot : Int) < (d.size : Int) := by omega
  have rcA : IntKind.i64.wrap ((pivot : Int)) = (pivot : Int) := by exact IntWalk.i64_in _ (by omega)
  obtain ⟨xA, hxA⟩ : ∃ x, x = d[a]! := ⟨_, rfl⟩
  obtain ⟨yA, hyA⟩ : ∃ x, x = d[pivot]! := ⟨_, rfl⟩
  have S1 : Hid (SW enc w0 blk 0 (swp d (a) (pivot)) ((w.setCell ⟨blk, iA, none⟩ (enc yA)).setCell ⟨blk, jA, none⟩ (enc xA)).drew) := (show Hid _ from by rw [hiA, hjA, hxA, hyA]; exact sw_s0 S0.out R (a) (pivot) (by omega) (by omega))
  have caA : w.cell? ⟨blk, iA, none⟩ = some (enc xA) := by rw [hiA, hxA]; exact sw_l1 S0.out R (by omega) (a) (by omega)
  have cbA : w.cell? ⟨blk, jA, none⟩ = some (enc yA) := by rw [hjA, hyA]; exact sw_l1 S0.out R (by omega) (pivot) (by omega)
  have faA : w.frozen? ⟨blk, iA, none⟩ = false := by rw [hiA]; exact sw_f0 S0.out R (by omega) (a) (by omega)
  have fbA : w.frozen? ⟨blk, jA, none⟩ = false := by rw [hjA]; exact sw_f0 S0.out R (by omega) (pivot) (by omega)
  obtain ⟨uA, ccA⟩ : ∃ u, (w.setCell ⟨blk, iA, none⟩ (enc yA)).cell? ⟨blk, jA, none⟩ = some u := by rw [hiA, hjA]; exact sw_c0 S0.out R (by omega) (a) (pivot) (by omega) (by omega) (enc yA)
  clear S0 hxA hyA hiA hjA
  go_wp2_with fail
  go_big_region_o
  clear caA cbA ccA faA fbA
  generalize ((w.setCell ⟨blk, iA, none⟩ (enc yA)).setCell ⟨blk, jA, none⟩ (enc xA)).drew = w1 at S1 ⊢
  clear eaA ecA
  obtain ⟨i1, hi⟩ : ∃ i : Nat, i = a + 1 := ⟨_, rfl⟩
  obtain ⟨j1, hj⟩ : ∃ j : Nat, j = b - 1 := ⟨_, rfl⟩
  obtain ⟨dk1, hdk⟩ : ∃ dk : Array α, dk = swp d a pivot := ⟨_, rfl⟩
  rw [← hdk] at S1
  have hs1 : dk1.size = d.size := by rw [hdk]; exact size_swp _ _ _
  have hai : a < i1 := by omega
  have hij : i1 ≤ j1 + 1 := by omega
  have hjb : j1 < b := by omega
  have ezi : (a : Int) + 1 = (i1 : Int) := by omega
  have ezj : (b : Int) - 1 = (j1 : Int) := by omega
  have Hi := Lib.hid hi
  have Hj := Lib.hid hj
  have Hdk := Lib.hid hdk
  clear hi hj hdk
  go_upto_block 0 with fail
  go_cut [12] from 32 (fun vi wx => ∃ p : Nat, vi = .int .i64 p ∧ i1 ≤ p ∧ p ≤ j1 + 1 ∧ Hid (p = Sort.scanUp (fun x => ltOf cf x dk1[a]!) dk1 j1 i1) ∧ Hid (SW enc w0 blk 0 dk1 wx))
  case first =>
    go_wp2_with fail
    go_loopw [12] (fun vi wr => ∃ q : Nat, vi = .int .i64 q ∧ i1 ≤ q ∧ q ≤ j1 + 1 ∧ Hid (SW enc w0 blk 0 dk1 wr) ∧ Hid (Sort.scanUp (fun x => ltOf cf x dk1[a]!) dk1 j1 q = Sort.scanUp (fun x => ltOf cf x dk1[a]!) dk1 j1 i1)) (fun vi _ => j1 + 1 - (intOf vi).toNat)
    case atStart => exact ⟨i1, rfl, Nat.le_refl _, by omega, S1, rfl⟩
    case round =>
      clear S1
      obtain ⟨q, rfl, hq1, hq2, T1, hsc⟩ := hrel
      by_cases hle : q ≤ j1
      · have hgu : decide ((q : Int) ≤ (j1 : Int)) = true := decide_eq_true (by omega)
        cases hL : ltOf cf dk1[q]! dk1[a]! with
        | true =>
          obtain ⟨iBt, hiBt⟩ : ∃ z, z = q := ⟨_, rfl⟩
          obtain ⟨jBt, hjBt⟩ : ∃ z, z = a := ⟨_, rfl⟩
          have eaBt : ((q : Int)).toNat = iBt := by omega
          have paBt : (0 : Int) ≤ (q : Int) := by omega
          have baBt : (q : Int) < (d.size : Int) := by omega
          have raBt : IntKind.i64.wrap ((q : Int)) = (q : Int) := by exact IntWalk.i64_in _ (by omega)
          have ecBt : ((a : Int)).toNat = jBt := by omega
          have pcBt : (0 : Int) ≤ (a : Int) := by omega
          have bcBt : (a : Int) < (d.size : Int) := by omega
          have rcBt : IntKind.i64.wrap ((a : Int)) = (a : Int) := by exact IntWalk.i64_in _ (by omega)
          obtain ⟨xBt, hxBt⟩ : ∃ x, x = dk1[q]! := ⟨_, rfl⟩
          obtain ⟨yBt, hyBt⟩ : ∃ x, x = dk1[a]! := ⟨_, rfl⟩
          have laBt : ∀ n, (wr.drewN n).cell? ⟨blk, iBt, none⟩ = some (enc xBt) := by rw [hiBt, hxBt]; exact sw_l0 T1.out R (by omega) (q) (by omega)
          have lbBt : ∀ n, (wr.drewN n).cell? ⟨blk, jBt, none⟩ = some (enc yBt) := by rw [hjBt, hyBt]; exact sw_l0 T1.out R (by omega) (a) (by omega)
          have HOBt := Lib.hid (sw_ord T1.out HC.out (by omega) xBt yBt)
          have hvBt : cf xBt yBt < 0 := by rw [hxBt, hyBt]; exact of_decide_eq_true hL
          have hdBt : decide (cf xBt yBt < 0) = true := decide_eq_true hvBt
          clear hxBt hyBt hiBt hjBt
          go_wp2_with fail
          go_quiet_o (first | (go_at_call 57; refine Calls.quiet_of_same (HOBt.out _)))
          have T2 : Hid (SW enc w0 blk 0 dk1 (wr.drewN nq)) := T1.out.drewN nq
          clear laBt lbBt HOBt T1
          generalize wr.drewN nq = wy at T2 ⊢
          clear nq
          clear eaBt ecBt
          go_wp2
          go_roundw
          case rel => exact ⟨q + 1, by go_num, by omega, by omega, T2, (show Hid _ from (scanUp_go (fun x => ltOf cf x dk1[a]!) dk1 j1 q hle (by simp [hL])).symm.trans hsc.out)⟩
          case measure => simp [intOf]; omega
        | false =>
          obtain ⟨iBf, hiBf⟩ : ∃ z, z = q := ⟨_, rfl⟩
          obtain ⟨jBf, hjBf⟩ : ∃ z, z = a := ⟨_, rfl⟩
          have eaBf : ((q : Int)).toNat = iBf := by omega
          have paBf : (0 : Int) ≤ (q : Int) := by omega
          have baBf : (q : Int) < (d.size : Int) := by omega
          have raBf : IntKind.i64.wrap ((q : Int)) = (q : Int) := by exact IntWalk.i64_in _ (by omega)
          have ecBf : ((a : Int)).toNat = jBf := by omega
          have pcBf : (0 : Int) ≤ (a : Int) := by omega
          have bcBf : (a : Int) < (d.size : Int) := by omega
          have rcBf : IntKind.i64.wrap ((a : Int)) = (a : Int) := by exact IntWalk.i64_in _ (by omega)
          obtain ⟨xBf, hxBf⟩ : ∃ x, x = dk1[q]! := ⟨_, rfl⟩
          obtain ⟨yBf, hyBf⟩ : ∃ x, x = dk1[a]! := ⟨_, rfl⟩
          have laBf : ∀ n, (wr.drewN n).cell? ⟨blk, iBf, none⟩ = some (enc xBf) := by rw [hiBf, hxBf]; exact sw_l0 T1.out R (by omega) (q) (by omega)
          have lbBf : ∀ n, (wr.drewN n).cell? ⟨blk, jBf, none⟩ = some (enc yBf) := by rw [hjBf, hyBf]; exact sw_l0 T1.out R (by omega) (a) (by omega)
          have HOBf := Lib.hid (sw_ord T1.out HC.out (by omega) xBf yBf)
          have hvBf : ¬ cf xBf yBf < 0 := by rw [hxBf, hyBf]; exact of_decide_eq_false hL
          have hdBf : decide (cf xBf yBf < 0) = false := decide_eq_false hvBf
          clear hxBf hyBf hiBf hjBf
          go_wp2_with fail
          go_quiet_o (first | (go_at_call 57; refine Calls.quiet_of_same (HOBf.out _)))
          have T2 : Hid (SW enc w0 blk 0 dk1 (wr.drewN nq)) := T1.out.drewN nq
          clear laBf lbBf HOBf T1
          generalize wr.drewN nq = wy at T2 ⊢
          clear nq
          clear eaBf ecBf
          go_wp2
          go_meet
          case rel => exact ⟨q, rfl, hq1, hq2, (show Hid _ from (scanUp_end (fun x => ltOf cf x dk1[a]!) dk1 j1 q (Or.inr (by simp [hL]))).symm.trans hsc.out), T2⟩
      · have hgu : decide ((q : Int) ≤ (j1 : Int)) = false := decide_eq_false (by omega)
        have hgn : decide (q ≤ j1) = false := decide_eq_false hle
        go_wp2_with fail
        go_big_region_o
        have T2 : Hid (SW enc w0 blk 0 dk1 wr.drew) := (T1.out.drewN 1)
        clear T1
        generalize wr.drew = wy at T2 ⊢
        go_wp2
        go_meet
        case rel => exact ⟨q, rfl, hq1, hq2, (show Hid _ from (scanUp_end (fun x => ltOf cf x dk1[a]!) dk1 j1 q (Or.inl hle)).symm.trans hsc.out), T2⟩
  case rest =>
    clear S1
    obtain ⟨i2, rfl, hi2a, hi2b, HI2, S2⟩ := hcut
    go_upto_block 2 with fail
    go_cut [13] from 50 (fun vj wx => ∃ p : Nat, vj = .int .i64 p ∧ p ≤ j1 ∧ i2 ≤ p + 1 ∧ Hid (p = Sort.scanDown (fun x => !ltOf cf x dk1[a]!) dk1 i2 j1) ∧ Hid (SW enc w0 blk 0 dk1 wx))
    case first =>
      go_wp2_with fail
      go_loopw [13] (fun vj wr => ∃ q : Nat, vj = .int .i64 q ∧ q ≤ j1 ∧ i2 ≤ q + 1 ∧ Hid (SW enc w0 blk 0 dk1 wr) ∧ Hid (Sort.scanDown (fun x => !ltOf cf x dk1[a]!) dk1 i2 q = Sort.scanDown (fun x => !ltOf cf x dk1[a]!) dk1 i2 j1)) (fun vj _ => (intOf vj).toNat)
      case atStart => exact ⟨j1, rfl, Nat.le_refl _, by omega, S2, rfl⟩
      case round =>
        clear S2
        obtain ⟨q, rfl, hq1, hq2, T1, hsc⟩ := hrel
        by_cases hle : i2 ≤ q
        · have hgu : decide ((i2 : Int) ≤ (q : Int)) = true := decide_eq_true (by omega)
          cases hL : ltOf cf dk1[q]! dk1[a]! with
          | true =>
            obtain ⟨iCt, hiCt⟩ : ∃ z, z = q := ⟨_, rfl⟩
            obtain ⟨jCt, hjCt⟩ : ∃ z, z = a := ⟨_, rfl⟩
            have eaCt : ((q : Int)).toNat = iCt := by omega
            have paCt : (0 : Int) ≤ (q : Int) := by omega
            have baCt : (q : Int) < (d.size : Int) := by omega
            have raCt : IntKind.i64.wrap ((q : Int)) = (q : Int) := by exact IntWalk.i64_in _ (by omega)
            have ecCt : ((a : Int)).toNat = jCt := by omega
            have pcCt : (0 : Int) ≤ (a : Int) := by omega
            have bcCt : (a : Int) < (d.size : Int) := by omega
            have rcCt : IntKind.i64.wrap ((a : Int)) = (a : Int) := by exact IntWalk.i64_in _ (by omega)
            obtain ⟨xCt, hxCt⟩ : ∃ x, x = dk1[q]! := ⟨_, rfl⟩
            obtain ⟨yCt, hyCt⟩ : ∃ x, x = dk1[a]! := ⟨_, rfl⟩
            have laCt : ∀ n, (wr.drewN n).cell? ⟨blk, iCt, none⟩ = some (enc xCt) := by rw [hiCt, hxCt]; exact sw_l0 T1.out R (by omega) (q) (by omega)
            have lbCt : ∀ n, (wr.drewN n).cell? ⟨blk, jCt, none⟩ = some (enc yCt) := by rw [hjCt, hyCt]; exact sw_l0 T1.out R (by omega) (a) (by omega)
            have HOCt := Lib.hid (sw_ord T1.out HC.out (by omega) xCt yCt)
            have hvCt : cf xCt yCt < 0 := by rw [hxCt, hyCt]; exact of_decide_eq_true hL
            have hdCt : decide (cf xCt yCt < 0) = true := decide_eq_true hvCt
            clear hxCt hyCt hiCt hjCt
            go_wp2_with fail
            go_quiet_o (first | (go_at_call 57; refine Calls.quiet_of_same (HOCt.out _)))
            have T2 : Hid (SW enc w0 blk 0 dk1 (wr.drewN nq)) := T1.out.drewN nq
            clear laCt lbCt HOCt T1
            generalize wr.drewN nq = wy at T2 ⊢
            clear nq
            clear eaCt ecCt
            go_wp2
            go_meet
            case rel => exact ⟨q, rfl, hq1, hq2, (show Hid _ from (scanDown_end (fun x => !ltOf cf x dk1[a]!) dk1 i2 q (Or.inr (by simp [hL]))).symm.trans hsc.out), T2⟩
          | false =>
            obtain ⟨iCf, hiCf⟩ : ∃ z, z = q := ⟨_, rfl⟩
            obtain ⟨jCf, hjCf⟩ : ∃ z, z = a := ⟨_, rfl⟩
            have eaCf : ((q : Int)).toNat = iCf := by omega
            have paCf : (0 : Int) ≤ (q : Int) := by omega
            have baCf : (q : Int) < (d.size : Int) := by omega
            have raCf : IntKind.i64.wrap ((q : Int)) = (q : Int) := by exact IntWalk.i64_in _ (by omega)
            have ecCf : ((a : Int)).toNat = jCf := by omega
            have pcCf : (0 : Int) ≤ (a : Int) := by omega
            have bcCf : (a : Int) < (d.size : Int) := by omega
            have rcCf : IntKind.i64.wrap ((a : Int)) = (a : Int) := by exact IntWalk.i64_in _ (by omega)
            obtain ⟨xCf, hxCf⟩ : ∃ x, x = dk1[q]! := ⟨_, rfl⟩
            obtain ⟨yCf, hyCf⟩ : ∃ x, x = dk1[a]! := ⟨_, rfl⟩
            have laCf : ∀ n, (wr.drewN n).cell? ⟨blk, iCf, none⟩ = some (enc xCf) := by rw [hiCf, hxCf]; exact sw_l0 T1.out R (by omega) (q) (by omega)
            have lbCf : ∀ n, (wr.drewN n).cell? ⟨blk, jCf, none⟩ = some (enc yCf) := by rw [hjCf, hyCf]; exact sw_l0 T1.out R (by omega) (a) (by omega)
            have HOCf := Lib.hid (sw_ord T1.out HC.out (by omega) xCf yCf)
            have hvCf : ¬ cf xCf yCf < 0 := by rw [hxCf, hyCf]; exact of_decide_eq_false hL
            have hdCf : decide (cf xCf yCf < 0) = false := decide_eq_false hvCf
            clear hxCf hyCf hiCf hjCf
            go_wp2_with fail
            go_quiet_o (first | (go_at_call 57; refine Calls.quiet_of_same (HOCf.out _)))
            have T2 : Hid (SW enc w0 blk 0 dk1 (wr.drewN nq)) := T1.out.drewN nq
            clear laCf lbCf HOCf T1
            generalize wr.drewN nq = wy at T2 ⊢
            clear nq
            clear eaCf ecCf
            go_wp2
            go_roundw
            case rel => exact ⟨q - 1, by go_num, by omega, by omega, T2, (show Hid _ from (scanDown_go (fun x => !ltOf cf x dk1[a]!) dk1 i2 q hle (by omega) (by simp [hL])).symm.trans hsc.out)⟩
            case measure => simp [intOf]; omega
        · have hgu : decide ((i2 : Int) ≤ (q : Int)) = false := decide_eq_false (by omega)
          have hgn : decide (i2 ≤ q) = false := decide_eq_false hle
          go_wp2_with fail
          go_big_region_o
          have T2 : Hid (SW enc w0 blk 0 dk1 wr.drew) := (T1.out.drewN 1)
          clear T1
          generalize wr.drew = wy at T2 ⊢
          go_wp2
          go_meet
          case rel => exact ⟨q, rfl, hq1, hq2, (show Hid _ from (scanDown_end (fun x => !ltOf cf x dk1[a]!) dk1 i2 q (Or.inl hle)).symm.trans hsc.out), T2⟩
    case rest =>
      clear S2
      obtain ⟨j2, rfl, hj2a, hj2b, HJ2, S3⟩ := hcut
      by_cases hgt : j2 < i2
      · have hgz : decide ((j2 : Int) < (i2 : Int)) = true := decide_eq_true (by omega)
        have hgn : decide (j2 < i2) = true := decide_eq_true hgt
        have PB : Hid (Sort.partition (ltOf cf) d a b pivot = (j2, true, swp dk1 j2 a)) := (show Hid _ from part_first_break (ltOf cf) d a b pivot Hi.out Hj.out Hdk.out HI2.out HJ2.out hgt)
        go_wp2_with fail
        obtain ⟨iD, hiD⟩ : ∃ z, z = j2 := ⟨_, rfl⟩
        obtain ⟨jD, hjD⟩ : ∃ z, z = a := ⟨_, rfl⟩
        have eaD : ((j2 : Int)).toNat = iD := by omega
        have paD : (0 : Int) ≤ (j2 : Int) := by omega
        have baD : (j2 : Int) < (d.size : Int) := by omega
        have raD : IntKind.i64.wrap ((j2 : Int)) = (j2 : Int) := by exact IntWalk.i64_in _ (by omega)
        have ecD : ((a : Int)).toNat = jD := by omega
        have pcD : (0 : Int) ≤ (a : Int) := by omega
        have bcD : (a : Int) < (d.size : Int) := by omega
        have rcD : IntKind.i64.wrap ((a : Int)) = (a : Int) := by exact IntWalk.i64_in _ (by omega)
        obtain ⟨xD, hxD⟩ : ∃ x, x = dk1[j2]! := ⟨_, rfl⟩
        obtain ⟨yD, hyD⟩ : ∃ x, x = dk1[a]! := ⟨_, rfl⟩
        have S4 : Hid (SW enc w0 blk 0 (swp dk1 (j2) (a)) ((wc.setCell ⟨blk, iD, none⟩ (enc yD)).setCell ⟨blk, jD, none⟩ (enc xD)).drew) := (show Hid _ from by rw [hiD, hjD, hxD, hyD]; exact sw_s0 S3.out R (j2) (a) (by omega) (by omega))
        have caD : wc.cell? ⟨blk, iD, none⟩ = some (enc xD) := by rw [hiD, hxD]; exact sw_l1 S3.out R (by omega) (j2) (by omega)
        have cbD : wc.cell? ⟨blk, jD, none⟩ = some (enc yD) := by rw [hjD, hyD]; exact sw_l1 S3.out R (by omega) (a) (by omega)
        have faD : wc.frozen? ⟨blk, iD, none⟩ = false := by rw [hiD]; exact sw_f0 S3.out R (by omega) (j2) (by omega)
        have fbD : wc.frozen? ⟨blk, jD, none⟩ = false := by rw [hjD]; exact sw_f0 S3.out R (by omega) (a) (by omega)
        obtain ⟨uD, ccD⟩ : ∃ u, (wc.setCell ⟨blk, iD, none⟩ (enc yD)).cell? ⟨blk, jD, none⟩ = some u := by rw [hiD, hjD]; exact sw_c0 S3.out R (by omega) (j2) (a) (by omega) (by omega) (enc yD)
        clear S3 hxD hyD hiD hjD
        go_wp2_with fail
        go_big_region_o
        clear caD cbD ccD faD fbD
        generalize ((wc.setCell ⟨blk, iD, none⟩ (enc yD)).setCell ⟨blk, jD, none⟩ (enc xD)).drew = w4 at S4 ⊢
        clear eaD ecD
        go_wp2_with fail
        (try simp only [Exit.inBlock, Exit.then]); refine bodyPost_ret (v := .tuple #[.int .i64 j2, .bool true]) (by simp [results, Try.results94, go_sem]) rfl ?_
        rw [PB.out]
        exact ⟨rfl, S4.out⟩
      · have hgz : decide ((j2 : Int) < (i2 : Int)) = false := decide_eq_false (by omega)
        have hgn : decide (j2 < i2) = false := decide_eq_false hgt
        have hlt := part_scans_lt (ltOf cf) a i1 j1 dk1 (by omega) HI2.out HJ2.out (by omega)
        obtain ⟨I0, hI0⟩ : ∃ I0 : Nat, I0 = i2 + 1 := ⟨_, rfl⟩
        obtain ⟨J0, hJ0⟩ : ∃ J0 : Nat, J0 = j2 - 1 := ⟨_, rfl⟩
        obtain ⟨D0, hD0⟩ : ∃ D0 : Array α, D0 = swp dk1 i2 j2 := ⟨_, rfl⟩
        have PF : Hid (Sort.partition (ltOf cf) d a b pivot = ((partLoop (ltOf cf) a I0 J0 D0).1, false, swp (partLoop (ltOf cf) a I0 J0 D0).2 (partLoop (ltOf cf) a I0 J0 D0).1 a)) := (show Hid _ from by show _ = _; rw [hI0, hJ0, hD0]; exact part_first_go (ltOf cf) d a b pivot Hi.out Hj.out Hdk.out HI2.out HJ2.out hgt)
        have HI0 := Lib.hid hI0
        have HJ0 := Lib.hid hJ0
        have HD0 := Lib.hid hD0
        clear hI0 hJ0 hD0
        go_wp2_with fail
        obtain ⟨iE, hiE⟩ : ∃ z, z = i2 := ⟨_, rfl⟩
        obtain ⟨jE, hjE⟩ : ∃ z, z = j2 := ⟨_, rfl⟩
        have eaE : ((i2 : Int)).toNat = iE := by omega
        have paE : (0 : Int) ≤ (i2 : Int) := by omega
        have baE : (i2 : Int) < (d.size : Int) := by omega
        have raE : IntKind.i64.wrap ((i2 : Int)) = (i2 : Int) := by exact IntWalk.i64_in _ (by omega)
        have ecE : ((j2 : Int)).toNat = jE := by omega
        have pcE : (0 : Int) ≤ (j2 : Int) := by omega
        have bcE : (j2 : Int) < (d.size : Int) := by omega
        have rcE : IntKind.i64.wrap ((j2 : Int)) = (j2 : Int) := by exact IntWalk.i64_in _ (by omega)
        obtain ⟨xE, hxE⟩ : ∃ x, x = dk1[i2]! := ⟨_, rfl⟩
        obtain ⟨yE, hyE⟩ : ∃ x, x = dk1[j2]! := ⟨_, rfl⟩
        have S4 : Hid (SW enc w0 blk 0 (swp dk1 (i2) (j2)) ((wc.setCell ⟨blk, iE, none⟩ (enc yE)).setCell ⟨blk, jE, none⟩ (enc xE)).drew) := (show Hid _ from by rw [hiE, hjE, hxE, hyE]; exact sw_s0 S3.out R (i2) (j2) (by omega) (by omega))
        have caE : wc.cell? ⟨blk, iE, none⟩ = some (enc xE) := by rw [hiE, hxE]; exact sw_l1 S3.out R (by omega) (i2) (by omega)
        have cbE : wc.cell? ⟨blk, jE, none⟩ = some (enc yE) := by rw [hjE, hyE]; exact sw_l1 S3.out R (by omega) (j2) (by omega)
        have faE : wc.frozen? ⟨blk, iE, none⟩ = false := by rw [hiE]; exact sw_f0 S3.out R (by omega) (i2) (by omega)
        have fbE : wc.frozen? ⟨blk, jE, none⟩ = false := by rw [hjE]; exact sw_f0 S3.out R (by omega) (j2) (by omega)
        obtain ⟨uE, ccE⟩ : ∃ u, (wc.setCell ⟨blk, iE, none⟩ (enc yE)).cell? ⟨blk, jE, none⟩ = some u := by rw [hiE, hjE]; exact sw_c0 S3.out R (by omega) (i2) (j2) (by omega) (by omega) (enc yE)
        clear S3 hxE hyE hiE hjE
        go_wp2_with fail
        go_big_region_o
        clear caE cbE ccE faE fbE
        generalize ((wc.setCell ⟨blk, iE, none⟩ (enc yE)).setCell ⟨blk, jE, none⟩ (enc xE)).drew = w4 at S4 ⊢
        clear eaE ecE
        go_wp2
        go_loopw [12, 13] (fun vi vj wr => ∃ (x y : Nat) (dk : Array α), vi = .int .i64 x ∧ vj = .int .i64 y ∧ a < x ∧ x ≤ y + 1 ∧ y < b ∧ dk.size = d.size ∧ Hid (SW enc w0 blk 0 dk wr) ∧ Hid (partLoop (ltOf cf) a x y dk = partLoop (ltOf cf) a I0 J0 D0)) (fun vi vj _ => (intOf vj).toNat + 1 - (intOf vi).toNat)
        case atStart => exact ⟨i2 + 1, j2 - 1, swp dk1 i2 j2, by go_num, by go_num, by omega, by omega, by omega, by rw [size_swp]; exact hs1, S4, (show Hid _ from by show _ = _; rw [HI0.out, HJ0.out, HD0.out])⟩
        case round =>
          clear S4
          obtain ⟨x, y, dk, rfl, rfl, hax, hxy, hyb, hdk, S5, HE⟩ := hrel
          go_upto_block 6 with fail
          go_cut [12] from 105 to 122 (fun vi wx => ∃ p : Nat, vi = .int .i64 p ∧ x ≤ p ∧ p ≤ y + 1 ∧ Hid (p = Sort.scanUp (fun x => ltOf cf x dk[a]!) dk y x) ∧ Hid (SW enc w0 blk 0 dk wx))
          case first =>
            go_wp2_with fail
            go_loopw [12] (fun vi wr => ∃ q : Nat, vi = .int .i64 q ∧ x ≤ q ∧ q ≤ y + 1 ∧ Hid (SW enc w0 blk 0 dk wr) ∧ Hid (Sort.scanUp (fun x => ltOf cf x dk[a]!) dk y q = Sort.scanUp (fun x => ltOf cf x dk[a]!) dk y x)) (fun vi _ => y + 1 - (intOf vi).toNat)
            case atStart => exact ⟨x, rfl, Nat.le_refl _, by omega, S5, rfl⟩
            case round =>
              clear S5
              obtain ⟨q, rfl, hq1, hq2, T1, hsc⟩ := hrel
              by_cases hle : q ≤ y
              · have hgu : decide ((q : Int) ≤ (y : Int)) = true := decide_eq_true (by omega)
                cases hL : ltOf cf dk[q]! dk[a]! with
                | true =>
                  obtain ⟨iFt, hiFt⟩ : ∃ z, z = q := ⟨_, rfl⟩
                  obtain ⟨jFt, hjFt⟩ : ∃ z, z = a := ⟨_, rfl⟩
                  have eaFt : ((q : Int)).toNat = iFt := by omega
                  have paFt : (0 : Int) ≤ (q : Int) := by omega
                  have baFt : (q : Int) < (d.size : Int) := by omega
                  have raFt : IntKind.i64.wrap ((q : Int)) = (q : Int) := by exact IntWalk.i64_in _ (by omega)
                  have ecFt : ((a : Int)).toNat = jFt := by omega
                  have pcFt : (0 : Int) ≤ (a : Int) := by omega
                  have bcFt : (a : Int) < (d.size : Int) := by omega
                  have rcFt : IntKind.i64.wrap ((a : Int)) = (a : Int) := by exact IntWalk.i64_in _ (by omega)
                  obtain ⟨xFt, hxFt⟩ : ∃ x, x = dk[q]! := ⟨_, rfl⟩
                  obtain ⟨yFt, hyFt⟩ : ∃ x, x = dk[a]! := ⟨_, rfl⟩
                  have laFt : ∀ n, (wr.drewN n).cell? ⟨blk, iFt, none⟩ = some (enc xFt) := by rw [hiFt, hxFt]; exact sw_l0 T1.out R (by omega) (q) (by omega)
                  have lbFt : ∀ n, (wr.drewN n).cell? ⟨blk, jFt, none⟩ = some (enc yFt) := by rw [hjFt, hyFt]; exact sw_l0 T1.out R (by omega) (a) (by omega)
                  have HOFt := Lib.hid (sw_ord T1.out HC.out (by omega) xFt yFt)
                  have hvFt : cf xFt yFt < 0 := by rw [hxFt, hyFt]; exact of_decide_eq_true hL
                  have hdFt : decide (cf xFt yFt < 0) = true := decide_eq_true hvFt
                  clear hxFt hyFt hiFt hjFt
                  go_wp2_with fail
                  go_quiet_o (first | (go_at_call 57; refine Calls.quiet_of_same (HOFt.out _)))
                  have T2 : Hid (SW enc w0 blk 0 dk (wr.drewN nq)) := T1.out.drewN nq
                  clear laFt lbFt HOFt T1
                  generalize wr.drewN nq = wy at T2 ⊢
                  clear nq
                  clear eaFt ecFt
                  go_wp2
                  go_roundw
                  case rel => exact ⟨q + 1, by go_num, by omega, by omega, T2, (show Hid _ from (scanUp_go (fun x => ltOf cf x dk[a]!) dk y q hle (by simp [hL])).symm.trans hsc.out)⟩
                  case measure => simp [intOf]; omega
                | false =>
                  obtain ⟨iFf, hiFf⟩ : ∃ z, z = q := ⟨_, rfl⟩
                  obtain ⟨jFf, hjFf⟩ : ∃ z, z = a := ⟨_, rfl⟩
                  have eaFf : ((q : Int)).toNat = iFf := by omega
                  have paFf : (0 : Int) ≤ (q : Int) := by omega
                  have baFf : (q : Int) < (d.size : Int) := by omega
                  have raFf : IntKind.i64.wrap ((q : Int)) = (q : Int) := by exact IntWalk.i64_in _ (by omega)
                  have ecFf : ((a : Int)).toNat = jFf := by omega
                  have pcFf : (0 : Int) ≤ (a : Int) := by omega
                  have bcFf : (a : Int) < (d.size : Int) := by omega
                  have rcFf : IntKind.i64.wrap ((a : Int)) = (a : Int) := by exact IntWalk.i64_in _ (by omega)
                  obtain ⟨xFf, hxFf⟩ : ∃ x, x = dk[q]! := ⟨_, rfl⟩
                  obtain ⟨yFf, hyFf⟩ : ∃ x, x = dk[a]! := ⟨_, rfl⟩
                  have laFf : ∀ n, (wr.drewN n).cell? ⟨blk, iFf, none⟩ = some (enc xFf) := by rw [hiFf, hxFf]; exact sw_l0 T1.out R (by omega) (q) (by omega)
                  have lbFf : ∀ n, (wr.drewN n).cell? ⟨blk, jFf, none⟩ = some (enc yFf) := by rw [hjFf, hyFf]; exact sw_l0 T1.out R (by omega) (a) (by omega)
                  have HOFf := Lib.hid (sw_ord T1.out HC.out (by omega) xFf yFf)
                  have hvFf : ¬ cf xFf yFf < 0 := by rw [hxFf, hyFf]; exact of_decide_eq_false hL
                  have hdFf : decide (cf xFf yFf < 0) = false := decide_eq_false hvFf
                  clear hxFf hyFf hiFf hjFf
                  go_wp2_with fail
                  go_quiet_o (first | (go_at_call 57; refine Calls.quiet_of_same (HOFf.out _)))
                  have T2 : Hid (SW enc w0 blk 0 dk (wr.drewN nq)) := T1.out.drewN nq
                  clear laFf lbFf HOFf T1
                  generalize wr.drewN nq = wy at T2 ⊢
                  clear nq
                  clear eaFf ecFf
                  go_wp2
                  go_meet
                  case rel => exact ⟨q, rfl, hq1, hq2, (show Hid _ from (scanUp_end (fun x => ltOf cf x dk[a]!) dk y q (Or.inr (by simp [hL]))).symm.trans hsc.out), T2⟩
              · have hgu : decide ((q : Int) ≤ (y : Int)) = false := decide_eq_false (by omega)
                have hgn : decide (q ≤ y) = false := decide_eq_false hle
                go_wp2_with fail
                go_big_region_o
                have T2 : Hid (SW enc w0 blk 0 dk wr.drew) := (T1.out.drewN 1)
                clear T1
                generalize wr.drew = wy at T2 ⊢
                go_wp2
                go_meet
                case rel => exact ⟨q, rfl, hq1, hq2, (show Hid _ from (scanUp_end (fun x => ltOf cf x dk[a]!) dk y q (Or.inl hle)).symm.trans hsc.out), T2⟩
          case rest =>
            clear S5
            obtain ⟨x2, rfl, hx2a, hx2b, HX2, S6⟩ := hcut
            go_upto_block 8 with fail
            go_cut [13] from 123 to 141 (fun vj wx => ∃ p : Nat, vj = .int .i64 p ∧ p ≤ y ∧ x2 ≤ p + 1 ∧ Hid (p = Sort.scanDown (fun x => !ltOf cf x dk[a]!) dk x2 y) ∧ Hid (SW enc w0 blk 0 dk wx))
            case first =>
              go_wp2_with fail
              go_loopw [13] (fun vj wr => ∃ q : Nat, vj = .int .i64 q ∧ q ≤ y ∧ x2 ≤ q + 1 ∧ Hid (SW enc w0 blk 0 dk wr) ∧ Hid (Sort.scanDown (fun x => !ltOf cf x dk[a]!) dk x2 q = Sort.scanDown (fun x => !ltOf cf x dk[a]!) dk x2 y)) (fun vj _ => (intOf vj).toNat)
              case atStart => exact ⟨y, rfl, Nat.le_refl _, by omega, S6, rfl⟩
              case round =>
                clear S6
                obtain ⟨q, rfl, hq1, hq2, T1, hsc⟩ := hrel
                by_cases hle : x2 ≤ q
                · have hgu : decide ((x2 : Int) ≤ (q : Int)) = true := decide_eq_true (by omega)
                  cases hL : ltOf cf dk[q]! dk[a]! with
                  | true =>
                    obtain ⟨iGt, hiGt⟩ : ∃ z, z = q := ⟨_, rfl⟩
                    obtain ⟨jGt, hjGt⟩ : ∃ z, z = a := ⟨_, rfl⟩
                    have eaGt : ((q : Int)).toNat = iGt := by omega
                    have paGt : (0 : Int) ≤ (q : Int) := by omega
                    have baGt : (q : Int) < (d.size : Int) := by omega
                    have raGt : IntKind.i64.wrap ((q : Int)) = (q : Int) := by exact IntWalk.i64_in _ (by omega)
                    have ecGt : ((a : Int)).toNat = jGt := by omega
                    have pcGt : (0 : Int) ≤ (a : Int) := by omega
                    have bcGt : (a : Int) < (d.size : Int) := by omega
                    have rcGt : IntKind.i64.wrap ((a : Int)) = (a : Int) := by exact IntWalk.i64_in _ (by omega)
                    obtain ⟨xGt, hxGt⟩ : ∃ x, x = dk[q]! := ⟨_, rfl⟩
                    obtain ⟨yGt, hyGt⟩ : ∃ x, x = dk[a]! := ⟨_, rfl⟩
                    have laGt : ∀ n, (wr.drewN n).cell? ⟨blk, iGt, none⟩ = some (enc xGt) := by rw [hiGt, hxGt]; exact sw_l0 T1.out R (by omega) (q) (by omega)
                    have lbGt : ∀ n, (wr.drewN n).cell? ⟨blk, jGt, none⟩ = some (enc yGt) := by rw [hjGt, hyGt]; exact sw_l0 T1.out R (by omega) (a) (by omega)
                    have HOGt := Lib.hid (sw_ord T1.out HC.out (by omega) xGt yGt)
                    have hvGt : cf xGt yGt < 0 := by rw [hxGt, hyGt]; exact of_decide_eq_true hL
                    have hdGt : decide (cf xGt yGt < 0) = true := decide_eq_true hvGt
                    clear hxGt hyGt hiGt hjGt
                    go_wp2_with fail
                    go_quiet_o (first | (go_at_call 57; refine Calls.quiet_of_same (HOGt.out _)))
                    have T2 : Hid (SW enc w0 blk 0 dk (wr.drewN nq)) := T1.out.drewN nq
                    clear laGt lbGt HOGt T1
                    generalize wr.drewN nq = wy at T2 ⊢
                    clear nq
                    clear eaGt ecGt
                    go_wp2
                    go_meet
                    case rel => exact ⟨q, rfl, hq1, hq2, (show Hid _ from (scanDown_end (fun x => !ltOf cf x dk[a]!) dk x2 q (Or.inr (by simp [hL]))).symm.trans hsc.out), T2⟩
                  | false =>
                    obtain ⟨iGf, hiGf⟩ : ∃ z, z = q := ⟨_, rfl⟩
                    obtain ⟨jGf, hjGf⟩ : ∃ z, z = a := ⟨_, rfl⟩
                    have eaGf : ((q : Int)).toNat = iGf := by omega
                    have paGf : (0 : Int) ≤ (q : Int) := by omega
                    have baGf : (q : Int) < (d.size : Int) := by omega
                    have raGf : IntKind.i64.wrap ((q : Int)) = (q : Int) := by exact IntWalk.i64_in _ (by omega)
                    have ecGf : ((a : Int)).toNat = jGf := by omega
                    have pcGf : (0 : Int) ≤ (a : Int) := by omega
                    have bcGf : (a : Int) < (d.size : Int) := by omega
                    have rcGf : IntKind.i64.wrap ((a : Int)) = (a : Int) := by exact IntWalk.i64_in _ (by omega)
                    obtain ⟨xGf, hxGf⟩ : ∃ x, x = dk[q]! := ⟨_, rfl⟩
                    obtain ⟨yGf, hyGf⟩ : ∃ x, x = dk[a]! := ⟨_, rfl⟩
                    have laGf : ∀ n, (wr.drewN n).cell? ⟨blk, iGf, none⟩ = some (enc xGf) := by rw [hiGf, hxGf]; exact sw_l0 T1.out R (by omega) (q) (by omega)
                    have lbGf : ∀ n, (wr.drewN n).cell? ⟨blk, jGf, none⟩ = some (enc yGf) := by rw [hjGf, hyGf]; exact sw_l0 T1.out R (by omega) (a) (by omega)
                    have HOGf := Lib.hid (sw_ord T1.out HC.out (by omega) xGf yGf)
                    have hvGf : ¬ cf xGf yGf < 0 := by rw [hxGf, hyGf]; exact of_decide_eq_false hL
                    have hdGf : decide (cf xGf yGf < 0) = false := decide_eq_false hvGf
                    clear hxGf hyGf hiGf hjGf
                    go_wp2_with fail
                    go_quiet_o (first | (go_at_call 57; refine Calls.quiet_of_same (HOGf.out _)))
                    have T2 : Hid (SW enc w0 blk 0 dk (wr.drewN nq)) := T1.out.drewN nq
                    clear laGf lbGf HOGf T1
                    generalize wr.drewN nq = wy at T2 ⊢
                    clear nq
                    clear eaGf ecGf
                    go_wp2
                    go_roundw
                    case rel => exact ⟨q - 1, by go_num, by omega, by omega, T2, (show Hid _ from (scanDown_go (fun x => !ltOf cf x dk[a]!) dk x2 q hle (by omega) (by simp [hL])).symm.trans hsc.out)⟩
                    case measure => simp [intOf]; omega
                · have hgu : decide ((x2 : Int) ≤ (q : Int)) = false := decide_eq_false (by omega)
                  have hgn : decide (x2 ≤ q) = false := decide_eq_false hle
                  go_wp2_with fail
                  go_big_region_o
                  have T2 : Hid (SW enc w0 blk 0 dk wr.drew) := (T1.out.drewN 1)
                  clear T1
                  generalize wr.drew = wy at T2 ⊢
                  go_wp2
                  go_meet
                  case rel => exact ⟨q, rfl, hq1, hq2, (show Hid _ from (scanDown_end (fun x => !ltOf cf x dk[a]!) dk x2 q (Or.inl hle)).symm.trans hsc.out), T2⟩
            case rest =>
              clear S6
              obtain ⟨y2, rfl, hy2a, hy2b, HY2, S7⟩ := hcut
              by_cases hg2 : y2 < x2
              · have hgz2 : decide ((y2 : Int) < (x2 : Int)) = true := decide_eq_true (by omega)
                have hgn2 : decide (y2 < x2) = true := decide_eq_true hg2
                have HP : Hid (partLoop (ltOf cf) a I0 J0 D0 = (y2, dk)) := (show Hid _ from HE.out.symm.trans (part_break (ltOf cf) a x y dk HX2.out HY2.out hg2))
                go_wp2_with fail
                obtain ⟨iH, hiH⟩ : ∃ z, z = y2 := ⟨_, rfl⟩
                obtain ⟨jH, hjH⟩ : ∃ z, z = a := ⟨_, rfl⟩
                have eaH : ((y2 : Int)).toNat = iH := by omega
                have paH : (0 : Int) ≤ (y2 : Int) := by omega
                have baH : (y2 : Int) < (d.size : Int) := by omega
                have raH : IntKind.i64.wrap ((y2 : Int)) = (y2 : Int) := by exact IntWalk.i64_in _ (by omega)
                have ecH : ((a : Int)).toNat = jH := by omega
                have pcH : (0 : Int) ≤ (a : Int) := by omega
                have bcH : (a : Int) < (d.size : Int) := by omega
                have rcH : IntKind.i64.wrap ((a : Int)) = (a : Int) := by exact IntWalk.i64_in _ (by omega)
                obtain ⟨xH, hxH⟩ : ∃ x, x = dk[y2]! := ⟨_, rfl⟩
                obtain ⟨yH, hyH⟩ : ∃ x, x = dk[a]! := ⟨_, rfl⟩
                have S8 : Hid (SW enc w0 blk 0 (swp dk (y2) (a)) ((wc.setCell ⟨blk, iH, none⟩ (enc yH)).setCell ⟨blk, jH, none⟩ (enc xH)).drew) := (show Hid _ from by rw [hiH, hjH, hxH, hyH]; exact sw_s0 S7.out R (y2) (a) (by omega) (by omega))
                have caH : wc.cell? ⟨blk, iH, none⟩ = some (enc xH) := by rw [hiH, hxH]; exact sw_l1 S7.out R (by omega) (y2) (by omega)
                have cbH : wc.cell? ⟨blk, jH, none⟩ = some (enc yH) := by rw [hjH, hyH]; exact sw_l1 S7.out R (by omega) (a) (by omega)
                have faH : wc.frozen? ⟨blk, iH, none⟩ = false := by rw [hiH]; exact sw_f0 S7.out R (by omega) (y2) (by omega)
                have fbH : wc.frozen? ⟨blk, jH, none⟩ = false := by rw [hjH]; exact sw_f0 S7.out R (by omega) (a) (by omega)
                obtain ⟨uH, ccH⟩ : ∃ u, (wc.setCell ⟨blk, iH, none⟩ (enc yH)).cell? ⟨blk, jH, none⟩ = some u := by rw [hiH, hjH]; exact sw_c0 S7.out R (by omega) (y2) (a) (by omega) (by omega) (enc yH)
                clear S7 hxH hyH hiH hjH
                go_wp2_with fail
                go_big_region_o
                clear caH cbH ccH faH fbH
                generalize ((wc.setCell ⟨blk, iH, none⟩ (enc yH)).setCell ⟨blk, jH, none⟩ (enc xH)).drew = w8 at S8 ⊢
                clear eaH ecH
                go_wp2_with fail
                (try simp only [Exit.inBlock, Exit.then]); refine bodyPost_ret (v := .tuple #[.int .i64 y2, .bool false]) (by simp [results, Try.results94, go_sem]) rfl ?_
                rw [PF.out, HP.out]
                exact ⟨rfl, S8.out⟩
              · have hgz2 : decide ((y2 : Int) < (x2 : Int)) = false := decide_eq_false (by omega)
                have hgn2 : decide (y2 < x2) = false := decide_eq_false hg2
                have hlt2 := part_scans_lt (ltOf cf) a x y dk (by omega) HX2.out HY2.out (by omega)
                have HP : Hid (partLoop (ltOf cf) a (x2 + 1) (y2 - 1) (swp dk x2 y2) = partLoop (ltOf cf) a I0 J0 D0) := (show Hid _ from (part_go (ltOf cf) a x y dk HX2.out HY2.out hg2).symm.trans HE.out)
                go_wp2_with fail
                obtain ⟨iI, hiI⟩ : ∃ z, z = x2 := ⟨_, rfl⟩
                obtain ⟨jI, hjI⟩ : ∃ z, z = y2 := ⟨_, rfl⟩
                have eaI : ((x2 : Int)).toNat = iI := by omega
                have paI : (0 : Int) ≤ (x2 : Int) := by omega
                have baI : (x2 : Int) < (d.size : Int) := by omega
                have raI : IntKind.i64.wrap ((x2 : Int)) = (x2 : Int) := by exact IntWalk.i64_in _ (by omega)
                have ecI : ((y2 : Int)).toNat = jI := by omega
                have pcI : (0 : Int) ≤ (y2 : Int) := by omega
                have bcI : (y2 : Int) < (d.size : Int) := by omega
                have rcI : IntKind.i64.wrap ((y2 : Int)) = (y2 : Int) := by exact IntWalk.i64_in _ (by omega)
                obtain ⟨xI, hxI⟩ : ∃ x, x = dk[x2]! := ⟨_, rfl⟩
                obtain ⟨yI, hyI⟩ : ∃ x, x = dk[y2]! := ⟨_, rfl⟩
                have S8 : Hid (SW enc w0 blk 0 (swp dk (x2) (y2)) ((wc.setCell ⟨blk, iI, none⟩ (enc yI)).setCell ⟨blk, jI, none⟩ (enc xI)).drew) := (show Hid _ from by rw [hiI, hjI, hxI, hyI]; exact sw_s0 S7.out R (x2) (y2) (by omega) (by omega))
                have caI : wc.cell? ⟨blk, iI, none⟩ = some (enc xI) := by rw [hiI, hxI]; exact sw_l1 S7.out R (by omega) (x2) (by omega)
                have cbI : wc.cell? ⟨blk, jI, none⟩ = some (enc yI) := by rw [hjI, hyI]; exact sw_l1 S7.out R (by omega) (y2) (by omega)
                have faI : wc.frozen? ⟨blk, iI, none⟩ = false := by rw [hiI]; exact sw_f0 S7.out R (by omega) (x2) (by omega)
                have fbI : wc.frozen? ⟨blk, jI, none⟩ = false := by rw [hjI]; exact sw_f0 S7.out R (by omega) (y2) (by omega)
                obtain ⟨uI, ccI⟩ : ∃ u, (wc.setCell ⟨blk, iI, none⟩ (enc yI)).cell? ⟨blk, jI, none⟩ = some u := by rw [hiI, hjI]; exact sw_c0 S7.out R (by omega) (x2) (y2) (by omega) (by omega) (enc yI)
                clear S7 hxI hyI hiI hjI
                go_wp2_with fail
                go_big_region_o
                clear caI cbI ccI faI fbI
                generalize ((wc.setCell ⟨blk, iI, none⟩ (enc yI)).setCell ⟨blk, jI, none⟩ (enc xI)).drew = w8 at S8 ⊢
                clear eaI ecI
                go_wp2
                go_roundw
                case rel => exact ⟨x2 + 1, y2 - 1, swp dk x2 y2, by go_num, by go_num, by omega, by omega, by omega, by rw [size_swp]; exact hdk, S8, HP⟩
                case measure => simp [intOf]; omega
end Go.Proofs.Ytbgabipngdillaa

namespace Go.Proofs.Ytbgabipngdillaa
open Go.RowKit Go.Shelf Go.Sort Go.Lib
variable {α : Type} [Inhabited α]

set_option maxHeartbeats 16000000 in
set_option maxRecDepth 1000000 in
theorem parteq_any (s : Nat) (enc : α → Value) (cf : α → α → Int) (blk cap a b pivot : Nat) (d0 d : Array α) (w0 w : World) (hc : OrdW s enc cf blk d0.size w0) (R : Row1 enc w0 blk 0 d0) (hs : d0.size = d.size) (S : SW enc w0 blk 0 d w) (hap : a ≤ pivot) (hpb : pivot < b) (hb : b ≤ d.size) (hsz : d.size ≤ 1000000) :
    Calls Try.prog 93 #[.slice (some ⟨blk, 0, none⟩) d.size cap, .int .i64 a, .int .i64 b, .int .i64 pivot, .func (.func 57) #[.pointer (some ⟨s, 0, none⟩)] #[]] w fun e w' =>
      e = .returned (.int .i64 (Sort.partitionEqual (ltOf cf) d a b pivot).1) ∧ SW enc w0 blk 0 (Sort.partitionEqual (ltOf cf) d a b pivot).2 w' := by
  have hcl0 := R.hO.cells
  simp only [Value.cells] at hcl0
  have hst := R.hO.store Try.prog
  have mixed : Try.prog.follows .mixedOrders = true := by kernel_rfl
  have HC := Lib.hid hc
  have S0 : Hid (SW enc w0 blk 0 d w) := S
  clear hc S
  have hs1 : (swp d a pivot).size = d.size := size_swp _ _ _
  have ezj : ((b - 1 : Nat) : Int) = (b : Int) - 1 := by omega
  go_enter Try.func93, Try.ntmps93
  go_wp2_with fail
  obtain ⟨iA, hiA⟩ : ∃ z, z = a := ⟨_, rfl⟩
  obtain ⟨jA, hjA⟩ : ∃ z, z = pivot := ⟨_, rfl⟩
  have eaA : ((a : Int)).toNat = iA := by omega
  have paA : (0 : Int) ≤ (a : Int) := by omega
  have baA : (a : Int) < (d.size : Int) := by omega
  have raA : IntKind.i64.wrap ((a : Int)) = (a : Int) := by exact IntWalk.i64_in _ (by omega)
  have ecA : ((pivot : Int)).toNat = jA := by omega
  have pcA : (0 : Int) ≤ (pivot : Int) := by omega
  have bcA : (pivot : Int) < (d.size : Int) := by omega
  have rcA : IntKind.i64.wrap ((pivot : Int)) = (pivot : Int) := by exact IntWalk.i64_in _ (by omega)
  obtain ⟨xA, hxA⟩ : ∃ x, x = d[a]! := ⟨_, rfl⟩
  obtain ⟨yA, hyA⟩ : ∃ x, x = d[pivot]! := ⟨_, rfl⟩
  have S4 : Hid (SW enc w0 blk 0 (swp d (a) (pivot)) ((w.setCell ⟨blk, iA, none⟩ (enc yA)).setCell ⟨blk, jA, none⟩ (enc xA)).drew) := (show Hid _ from by rw [hiA, hjA, hxA, hyA]; exact sw_s0 S0.out R (a) (pivot) (by omega) (by omega))
  have caA : w.cell? ⟨blk, iA, none⟩ = some (enc xA) := by rw [hiA, hxA]; exact sw_l1 S0.out R (by omega) (a) (by omega)
  have cbA : w.cell? ⟨blk, jA, none⟩ = some (enc yA) := by rw [hjA, hyA]; exact sw_l1 S0.out R (by omega) (pivot) (by omega)
  have faA : w.frozen? ⟨blk, iA, none⟩ = false := by rw [hiA]; exact sw_f0 S0.out R (by omega) (a) (by omega)
  have fbA : w.frozen? ⟨blk, jA, none⟩ = false := by rw [hjA]; exact sw_f0 S0.out R (by omega) (pivot) (by omega)
  obtain ⟨uA, ccA⟩ : ∃ u, (w.setCell ⟨blk, iA, none⟩ (enc yA)).cell? ⟨blk, jA, none⟩ = some u := by rw [hiA, hjA]; exact sw_c0 S0.out R (by omega) (a) (pivot) (by omega) (by omega) (enc yA)
  clear S0 hxA hyA hiA hjA
  go_wp2_with fail
  go_big_region_o
  clear caA cbA ccA faA fbA
  generalize ((w.setCell ⟨blk, iA, none⟩ (enc yA)).setCell ⟨blk, jA, none⟩ (enc xA)).drew = w4 at S4 ⊢
  clear eaA ecA
  go_wp2
  go_loopw [11, 12] (fun vi vj wr => ∃ (x y : Nat) (dk : Array α), vi = .int .i64 x ∧ vj = .int .i64 y ∧ a < x ∧ x ≤ y + 1 ∧ y < b ∧ dk.size = d.size ∧ Hid (SW enc w0 blk 0 dk wr) ∧ Hid (partEqLoop (ltOf cf) a x y dk = Sort.partitionEqual (ltOf cf) d a b pivot)) (fun vi vj _ => (intOf vj).toNat + 1 - (intOf vi).toNat)
  case atStart => exact ⟨a + 1, b - 1, swp d a pivot, by go_num, by rw [ezj], by omega, by omega, by omega, hs1, S4, rfl⟩
  case round =>
    clear S4
    obtain ⟨x, y, dk, rfl, rfl, hax, hxy, hyb, hdk, S5, HE⟩ := hrel
    clear ezj hs1
    go_upto_block 2 with fail
    go_cut [11] from 31 to 49 (fun vi wx => ∃ p : Nat, vi = .int .i64 p ∧ x ≤ p ∧ p ≤ y + 1 ∧ Hid (p = Sort.scanUp (fun x => !ltOf cf dk[a]! x) dk y x) ∧ Hid (SW enc w0 blk 0 dk wx))
    case first =>
      go_wp2_with fail
      go_loopw [11] (fun vi wr => ∃ q : Nat, vi = .int .i64 q ∧ x ≤ q ∧ q ≤ y + 1 ∧ Hid (SW enc w0 blk 0 dk wr) ∧ Hid (Sort.scanUp (fun x => !ltOf cf dk[a]! x) dk y q = Sort.scanUp (fun x => !ltOf cf dk[a]! x) dk y x)) (fun vi _ => y + 1 - (intOf vi).toNat)
      case atStart => exact ⟨x, rfl, Nat.le_refl _, by omega, S5, rfl⟩
      case round =>
        clear S5
        obtain ⟨q, rfl, hq1, hq2, T1, hsc⟩ := hrel
        by_cases hle : q ≤ y
        · have hgu : decide ((q : Int) ≤ (y : Int)) = true := decide_eq_true (by omega)
          cases hL : ltOf cf dk[a]! dk[q]! with
          | true =>
            obtain ⟨iFt, hiFt⟩ : ∃ z, z = a := ⟨_, rfl⟩
            obtain ⟨jFt, hjFt⟩ : ∃ z, z = q := ⟨_, rfl⟩
            have eaFt : ((a : Int)).toNat = iFt := by omega
            have paFt : (0 : Int) ≤ (a : Int) := by omega
            have baFt : (a : Int) < (d.size : Int) := by omega
            have raFt : IntKind.i64.wrap ((a : Int)) = (a : Int) := by exact IntWalk.i64_in _ (by omega)
            have ecFt : ((q : Int)).toNat = jFt := by omega
            have pcFt : (0 : Int) ≤ (q : Int) := by omega
            have bcFt : (q : Int) < (d.size : Int) := by omega
            have rcFt : IntKind.i64.wrap ((q : Int)) = (q : Int) := by exact IntWalk.i64_in _ (by omega)
            obtain ⟨xFt, hxFt⟩ : ∃ x, x = dk[a]! := ⟨_, rfl⟩
            obtain ⟨yFt, hyFt⟩ : ∃ x, x = dk[q]! := ⟨_, rfl⟩
            have laFt : ∀ n, (wr.drewN n).cell? ⟨blk, iFt, none⟩ = some (enc xFt) := by rw [hiFt, hxFt]; exact sw_l0 T1.out R (by omega) (a) (by omega)
            have lbFt : ∀ n, (wr.drewN n).cell? ⟨blk, jFt, none⟩ = some (enc yFt) := by rw [hjFt, hyFt]; exact sw_l0 T1.out R (by omega) (q) (by omega)
            have HOFt := Lib.hid (sw_ord T1.out HC.out (by omega) xFt yFt)
            have hvFt : cf xFt yFt < 0 := by rw [hxFt, hyFt]; exact of_decide_eq_true hL
            have hdFt : decide (cf xFt yFt < 0) = true := decide_eq_true hvFt
            clear hxFt hyFt hiFt hjFt
            go_wp2_with fail
            go_quiet_o (first | (go_at_call 57; refine Calls.quiet_of_same (HOFt.out _)))
            have T2 : Hid (SW enc w0 blk 0 dk (wr.drewN nq)) := T1.out.drewN nq
            clear laFt lbFt HOFt T1
            generalize wr.drewN nq = wy at T2 ⊢
            clear nq
            clear eaFt ecFt
            go_wp2
            go_meet
            case rel => exact ⟨q, rfl, hq1, hq2, (show Hid _ from (scanUp_end (fun x => !ltOf cf dk[a]! x) dk y q (Or.inr (by simp [hL]))).symm.trans hsc.out), T2⟩
          | false =>
            obtain ⟨iFf, hiFf⟩ : ∃ z, z = a := ⟨_, rfl⟩
            obtain ⟨jFf, hjFf⟩ : ∃ z, z = q := ⟨_, rfl⟩
            have eaFf : ((a : Int)).toNat = iFf := by omega
            have paFf : (0 : Int) ≤ (a : Int) := by omega
            have baFf : (a : Int) < (d.size : Int) := by omega
            have raFf : IntKind.i64.wrap ((a : Int)) = (a : Int) := by exact IntWalk.i64_in _ (by omega)
            have ecFf : ((q : Int)).toNat = jFf := by omega
            have pcFf : (0 : Int) ≤ (q : Int) := by omega
            have bcFf : (q : Int) < (d.size : Int) := by omega
            have rcFf : IntKind.i64.wrap ((q : Int)) = (q : Int) := by exact IntWalk.i64_in _ (by omega)
            obtain ⟨xFf, hxFf⟩ : ∃ x, x = dk[a]! := ⟨_, rfl⟩
            obtain ⟨yFf, hyFf⟩ : ∃ x, x = dk[q]! := ⟨_, rfl⟩
            have laFf : ∀ n, (wr.drewN n).cell? ⟨blk, iFf, none⟩ = some (enc xFf) := by rw [hiFf, hxFf]; exact sw_l0 T1.out R (by omega) (a) (by omega)
            have lbFf : ∀ n, (wr.drewN n).cell? ⟨blk, jFf, none⟩ = some (enc yFf) := by rw [hjFf, hyFf]; exact sw_l0 T1.out R (by omega) (q) (by omega)
            have HOFf := Lib.hid (sw_ord T1.out HC.out (by omega) xFf yFf)
            have hvFf : ¬ cf xFf yFf < 0 := by rw [hxFf, hyFf]; exact of_decide_eq_false hL
            have hdFf : decide (cf xFf yFf < 0) = false := decide_eq_false hvFf
            clear hxFf hyFf hiFf hjFf
            go_wp2_with fail
            go_quiet_o (first | (go_at_call 57; refine Calls.quiet_of_same (HOFf.out _)))
            have T2 : Hid (SW enc w0 blk 0 dk (wr.drewN nq)) := T1.out.drewN nq
            clear laFf lbFf HOFf T1
            generalize wr.drewN nq = wy at T2 ⊢
            clear nq
            clear eaFf ecFf
            go_wp2
            go_roundw
            case rel => exact ⟨q + 1, by go_num, by omega, by omega, T2, (show Hid _ from (scanUp_go (fun x => !ltOf cf dk[a]! x) dk y q hle (by simp [hL])).symm.trans hsc.out)⟩
            case measure => simp [intOf]; omega
        · have hgu : decide ((q : Int) ≤ (y : Int)) = false := decide_eq_false (by omega)
          have hgn : decide (q ≤ y) = false := decide_eq_false hle
          go_wp2_with fail
          go_big_region_o
          have T2 : Hid (SW enc w0 blk 0 dk wr.drew) := (T1.out.drewN 1)
          clear T1
          generalize wr.drew = wy at T2 ⊢
          go_wp2
          go_meet
          case rel => exact ⟨q, rfl, hq1, hq2, (show Hid _ from (scanUp_end (fun x => !ltOf cf dk[a]! x) dk y q (Or.inl hle)).symm.trans hsc.out), T2⟩
    case rest =>
      clear S5
      obtain ⟨x2, rfl, hx2a, hx2b, HX2, S6⟩ := hcut
      go_upto_block 4 with fail
      go_cut [12] from 50 to 67 (fun vj wx => ∃ p : Nat, vj = .int .i64 p ∧ p ≤ y ∧ x2 ≤ p + 1 ∧ Hid (p = Sort.scanDown (fun x => ltOf cf dk[a]! x) dk x2 y) ∧ Hid (SW enc w0 blk 0 dk wx))
      case first =>
        go_wp2_with fail
        go_loopw [12] (fun vj wr => ∃ q : Nat, vj = .int .i64 q ∧ q ≤ y ∧ x2 ≤ q + 1 ∧ Hid (SW enc w0 blk 0 dk wr) ∧ Hid (Sort.scanDown (fun x => ltOf cf dk[a]! x) dk x2 q = Sort.scanDown (fun x => ltOf cf dk[a]! x) dk x2 y)) (fun vj _ => (intOf vj).toNat)
        case atStart => exact ⟨y, rfl, Nat.le_refl _, by omega, S6, rfl⟩
        case round =>
          clear S6
          obtain ⟨q, rfl, hq1, hq2, T1, hsc⟩ := hrel
          by_cases hle : x2 ≤ q
          · have hgu : decide ((x2 : Int) ≤ (q : Int)) = true := decide_eq_true (by omega)
            cases hL : ltOf cf dk[a]! dk[q]! with
            | true =>
              obtain ⟨iGt, hiGt⟩ : ∃ z, z = a := ⟨_, rfl⟩
              obtain ⟨jGt, hjGt⟩ : ∃ z, z = q := ⟨_, rfl⟩
              have eaGt : ((a : Int)).toNat = iGt := by omega
              have paGt : (0 : Int) ≤ (a : Int) := by omega
              have baGt : (a : Int) < (d.size : Int) := by omega
              have raGt : IntKind.i64.wrap ((a : Int)) = (a : Int) := by exact IntWalk.i64_in _ (by omega)
              have ecGt : ((q : Int)).toNat = jGt := by omega
              have pcGt : (0 : Int) ≤ (q : Int) := by omega
              have bcGt : (q : Int) < (d.size : Int) := by omega
              have rcGt : IntKind.i64.wrap ((q : Int)) = (q : Int) := by exact IntWalk.i64_in _ (by omega)
              obtain ⟨xGt, hxGt⟩ : ∃ x, x = dk[a]! := ⟨_, rfl⟩
              obtain ⟨yGt, hyGt⟩ : ∃ x, x = dk[q]! := ⟨_, rfl⟩
              have laGt : ∀ n, (wr.drewN n).cell? ⟨blk, iGt, none⟩ = some (enc xGt) := by rw [hiGt, hxGt]; exact sw_l0 T1.out R (by omega) (a) (by omega)
              have lbGt : ∀ n, (wr.drewN n).cell? ⟨blk, jGt, none⟩ = some (enc yGt) := by rw [hjGt, hyGt]; exact sw_l0 T1.out R (by omega) (q) (by omega)
              have HOGt := Lib.hid (sw_ord T1.out HC.out (by omega) xGt yGt)
              have hvGt : cf xGt yGt < 0 := by rw [hxGt, hyGt]; exact of_decide_eq_true hL
              have hdGt : decide (cf xGt yGt < 0) = true := decide_eq_true hvGt
              clear hxGt hyGt hiGt hjGt
              go_wp2_with fail
              go_quiet_o (first | (go_at_call 57; refine Calls.quiet_of_same (HOGt.out _)))
              have T2 : Hid (SW enc w0 blk 0 dk (wr.drewN nq)) := T1.out.drewN nq
              clear laGt lbGt HOGt T1
              generalize wr.drewN nq = wy at T2 ⊢
              clear nq
              clear eaGt ecGt
              go_wp2
              go_roundw
              case rel => exact ⟨q - 1, by go_num, by omega, by omega, T2, (show Hid _ from (scanDown_go (fun x => ltOf cf dk[a]! x) dk x2 q hle (by omega) (by simp [hL])).symm.trans hsc.out)⟩
              case measure => simp [intOf]; omega
            | false =>
              obtain ⟨iGf, hiGf⟩ : ∃ z, z = a := ⟨_, rfl⟩
              obtain ⟨jGf, hjGf⟩ : ∃ z, z = q := ⟨_, rfl⟩
              have eaGf : ((a : Int)).toNat = iGf := by omega
              have paGf : (0 : Int) ≤ (a : Int) := by omega
              have baGf : (a : Int) < (d.size : Int) := by omega
              have raGf : IntKind.i64.wrap ((a : Int)) = (a : Int) := by exact IntWalk.i64_in _ (by omega)
              have ecGf : ((q : Int)).toNat = jGf := by omega
              have pcGf : (0 : Int) ≤ (q : Int) := by omega
              have bcGf : (q : Int) < (d.size : Int) := by omega
              have rcGf : IntKind.i64.wrap ((q : Int)) = (q : Int) := by exact IntWalk.i64_in _ (by omega)
              obtain ⟨xGf, hxGf⟩ : ∃ x, x = dk[a]! := ⟨_, rfl⟩
              obtain ⟨yGf, hyGf⟩ : ∃ x, x = dk[q]! := ⟨_, rfl⟩
              have laGf : ∀ n, (wr.drewN n).cell? ⟨blk, iGf, none⟩ = some (enc xGf) := by rw [hiGf, hxGf]; exact sw_l0 T1.out R (by omega) (a) (by omega)
              have lbGf : ∀ n, (wr.drewN n).cell? ⟨blk, jGf, none⟩ = some (enc yGf) := by rw [hjGf, hyGf]; exact sw_l0 T1.out R (by omega) (q) (by omega)
              have HOGf := Lib.hid (sw_ord T1.out HC.out (by omega) xGf yGf)
              have hvGf : ¬ cf xGf yGf < 0 := by rw [hxGf, hyGf]; exact of_decide_eq_false hL
              have hdGf : decide (cf xGf yGf < 0) = false := decide_eq_false hvGf
              clear hxGf hyGf hiGf hjGf
              go_wp2_with fail
              go_quiet_o (first | (go_at_call 57; refine Calls.quiet_of_same (HOGf.out _)))
              have T2 : Hid (SW enc w0 blk 0 dk (wr.drewN nq)) := T1.out.drewN nq
              clear laGf lbGf HOGf T1
              generalize wr.drewN nq = wy at T2 ⊢
              clear nq
              clear eaGf ecGf
              go_wp2
              go_meet
              case rel => exact ⟨q, rfl, hq1, hq2, (show Hid _ from (scanDown_end (fun x => ltOf cf dk[a]! x) dk x2 q (Or.inr (by simp [hL]))).symm.trans hsc.out), T2⟩
          · have hgu : decide ((x2 : Int) ≤ (q : Int)) = false := decide_eq_false (by omega)
            have hgn : decide (x2 ≤ q) = false := decide_eq_false hle
            go_wp2_with fail
            go_big_region_o
            have T2 : Hid (SW enc w0 blk 0 dk wr.drew) := (T1.out.drewN 1)
            clear T1
            generalize wr.drew = wy at T2 ⊢
            go_wp2
            go_meet
            case rel => exact ⟨q, rfl, hq1, hq2, (show Hid _ from (scanDown_end (fun x => ltOf cf dk[a]! x) dk x2 q (Or.inl hle)).symm.trans hsc.out), T2⟩
      case rest =>
        clear S6
        obtain ⟨y2, rfl, hy2a, hy2b, HY2, S7⟩ := hcut
        by_cases hg2 : y2 < x2
        · have hgz2 : decide ((y2 : Int) < (x2 : Int)) = true := decide_eq_true (by omega)
          have hgn2 : decide (y2 < x2) = true := decide_eq_true hg2
          have HP : Hid (Sort.partitionEqual (ltOf cf) d a b pivot = (x2, dk)) := (show Hid _ from HE.out.symm.trans (partEq_break (ltOf cf) a x y dk HX2.out HY2.out hg2))
          go_wp2_with fail
          go_ret
          rw [HP.out]
          exact ⟨rfl, S7.out⟩
        · have hgz2 : decide ((y2 : Int) < (x2 : Int)) = false := decide_eq_false (by omega)
          have hgn2 : decide (y2 < x2) = false := decide_eq_false hg2
          have hlt2 := scans_lt (ltOf cf) a x y dk (by omega) HX2.out HY2.out (by omega)
          have HP : Hid (partEqLoop (ltOf cf) a (x2 + 1) (y2 - 1) (swp dk x2 y2) = Sort.partitionEqual (ltOf cf) d a b pivot) := (show Hid _ from (partEq_go (ltOf cf) a x y dk HX2.out HY2.out hg2).symm.trans HE.out)
          go_wp2_with fail
          obtain ⟨iI, hiI⟩ : ∃ z, z = x2 := ⟨_, rfl⟩
          obtain ⟨jI, hjI⟩ : ∃ z, z = y2 := ⟨_, rfl⟩
          have eaI : ((x2 : Int)).toNat = iI := by omega
          have paI : (0 : Int) ≤ (x2 : Int) := by omega
          have baI : (x2 : Int) < (d.size : Int) := by omega
          have raI : IntKind.i64.wrap ((x2 : Int)) = (x2 : Int) := by exact IntWalk.i64_in _ (by omega)
          have ecI : ((y2 : Int)).toNat = jI := by omega
          have pcI : (0 : Int) ≤ (y2 : Int) := by omega
          have bcI : (y2 : Int) < (d.size : Int) := by omega
          have rcI : IntKind.i64.wrap ((y2 : Int)) = (y2 : Int) := by exact IntWalk.i64_in _ (by omega)
          obtain ⟨xI, hxI⟩ : ∃ x, x = dk[x2]! := ⟨_, rfl⟩
          obtain ⟨yI, hyI⟩ : ∃ x, x = dk[y2]! := ⟨_, rfl⟩
          have S8 : Hid (SW enc w0 blk 0 (swp dk (x2) (y2)) ((wc.setCell ⟨blk, iI, none⟩ (enc yI)).setCell ⟨blk, jI, none⟩ (enc xI)).drew) := (show Hid _ from by rw [hiI, hjI, hxI, hyI]; exact sw_s0 S7.out R (x2) (y2) (by omega) (by omega))
          have caI : wc.cell? ⟨blk, iI, none⟩ = some (enc xI) := by rw [hiI, hxI]; exact sw_l1 S7.out R (by omega) (x2) (by omega)
          have cbI : wc.cell? ⟨blk, jI, none⟩ = some (enc yI) := by rw [hjI, hyI]; exact sw_l1 S7.out R (by omega) (y2) (by omega)
          have faI : wc.frozen? ⟨blk, iI, none⟩ = false := by rw [hiI]; exact sw_f0 S7.out R (by omega) (x2) (by omega)
          have fbI : wc.frozen? ⟨blk, jI, none⟩ = false := by rw [hjI]; exact sw_f0 S7.out R (by omega) (y2) (by omega)
          obtain ⟨uI, ccI⟩ : ∃ u, (wc.setCell ⟨blk, iI, none⟩ (enc yI)).cell? ⟨blk, jI, none⟩ = some u := by rw [hiI, hjI]; exact sw_c0 S7.out R (by omega) (x2) (y2) (by omega) (by omega) (enc yI)
          clear S7 hxI hyI hiI hjI
          go_wp2_with fail
          go_big_region_o
          clear caI cbI ccI faI fbI
          generalize ((wc.setCell ⟨blk, iI, none⟩ (enc yI)).setCell ⟨blk, jI, none⟩ (enc xI)).drew = w8 at S8 ⊢
          clear eaI ecI
          go_wp2
          go_roundw
          case rel => exact ⟨x2 + 1, y2 - 1, swp dk x2 y2, by go_num, by go_num, by omega, by omega, by omega, by rw [size_swp]; exact hdk, S8, HP⟩
          case measure => simp [intOf]; omega
end Go.Proofs.Ytbgabipngdillaa

namespace Go.Proofs.Ytbgabipngdillaa
open Go.RowKit Go.Shelf Go.Sort Go.Lib
variable {α : Type} [Inhabited α]

set_option maxHeartbeats 16000000 in
set_option maxRecDepth 1000000 in
theorem partial_any (s : Nat) (enc : α → Value) (cf : α → α → Int) (blk cap a b : Nat) (d0 d : Array α) (w0 w : World) (hc : OrdW s enc cf blk d0.size w0) (R : Row1 enc w0 blk 0 d0) (hs : d0.size = d.size) (S : SW enc w0 blk 0 d w) (hab : a < b) (hb : b ≤ d.size) (hsz : d.size ≤ 1000000) :
    Calls Try.prog 92 #[.slice (some ⟨blk, 0, none⟩) d.size cap, .int .i64 a, .int .i64 b, .func (.func 57) #[.pointer (some ⟨s, 0, none⟩)] #[]] w fun e w' =>
      e = .returned (.bool (Sort.partialInsertionSort (ltOf cf) d a b).2) ∧ SW enc w0 blk 0 (Sort.partialInsertionSort (ltOf cf) d a b).1 w' := by
  have hcl0 := R.hO.cells
  simp only [Value.cells] at hcl0
  have hst := R.hO.store Try.prog
  have mixed : Try.prog.follows .mixedOrders = true := by kernel_rfl
  have HC := Lib.hid hc
  have S0 : Hid (SW enc w0 blk 0 d w) := S
  clear hc S
  obtain ⟨PI, hPI⟩ : ∃ r, r = Sort.partialInsertionSort (ltOf cf) d a b := ⟨_, rfl⟩
  rw [← hPI]
  have HPI := Lib.hid hPI
  clear hPI
  go_enter Try.func92, Try.ntmps92
  go_wp2
  go_loopg [9, 10] 5 (fun gk vi vj wr => ∃ (i t : Nat) (dk : Array α), vi = .int .i64 i ∧ vj = .int .i64 t ∧ t ≤ 5 ∧ 5 - t ≤ gk ∧ a < i ∧ i ≤ b ∧ dk.size = d.size ∧ Hid (SW enc w0 blk 0 dk wr) ∧ Hid (partialIns (ltOf cf) a b (5 - t) i dk = PI))
  case atStart => exact ⟨a + 1, 0, d, by go_num, rfl, by omega, by omega, by omega, by omega, rfl, S0, (show Hid _ from HPI.out.symm)⟩
  case round =>
    clear S0
    obtain ⟨i, t, dk, rfl, rfl, ht, hgk, hai, hib, hds, S1, HE⟩ := hrel
    by_cases ht5 : t < 5
    · have htz : decide ((t : Int) < 5) = true := decide_eq_true (by omega)
      have htn : decide (t < 5) = true := decide_eq_true ht5
      go_upto_block 2 with fail
      go_cut [9] from 19 to 38 (fun vi wx => ∃ p : Nat, vi = .int .i64 p ∧ i ≤ p ∧ p ≤ b ∧ Hid (scanSorted (ltOf cf) dk b i = p) ∧ Hid (SW enc w0 blk 0 dk wx))
      case first =>
        go_wp2_with fail
        go_loopw [9] (fun vi wr => ∃ q : Nat, vi = .int .i64 q ∧ i ≤ q ∧ q ≤ b ∧ Hid (SW enc w0 blk 0 dk wr) ∧ Hid (scanSorted (ltOf cf) dk b q = scanSorted (ltOf cf) dk b i)) (fun vi _ => b - (intOf vi).toNat)
        case atStart => exact ⟨i, rfl, Nat.le_refl _, hib, S1, rfl⟩
        case round =>
          clear S1
          obtain ⟨q, rfl, hq1, hq2, T1, hsc⟩ := hrel
          obtain ⟨qp, rfl⟩ : ∃ qp, q = qp + 1 := ⟨q - 1, by omega⟩
          by_cases hle : qp + 1 < b
          · have hgu : decide ((qp : Int) + 1 < (b : Int)) = true := decide_eq_true (by omega)
            have hgn : decide (qp + 1 < b) = true := decide_eq_true hle
            cases hL : ltOf cf dk[qp + 1]! dk[qp]! with
            | true =>
              obtain ⟨iA, hiA⟩ : ∃ z, z = qp + 1 := ⟨_, rfl⟩
              obtain ⟨jA, hjA⟩ : ∃ z, z = qp := ⟨_, rfl⟩
              have eaA : ((qp : Int) + 1).toNat = iA := by omega
              have paA : (0 : Int) ≤ (qp : Int) + 1 := by omega
              have baA : (qp : Int) + 1 < (d.size : Int) := by omega
              have raA : IntKind.i64.wrap ((qp : Int) + 1) = (qp : Int) + 1 := by exact IntWalk.i64_in _ (by omega)
              have ecA : ((qp : Int)).toNat = jA := by omega
              have pcA : (0 : Int) ≤ (qp : Int) := by omega
              have bcA : (qp : Int) < (d.size : Int) := by omega
              have rcA : IntKind.i64.wrap ((qp : Int)) = (qp : Int) := by exact IntWalk.i64_in _ (by omega)
              obtain ⟨xA, hxA⟩ : ∃ x, x = dk[qp + 1]! := ⟨_, rfl⟩
              obtain ⟨yA, hyA⟩ : ∃ x, x = dk[qp]! := ⟨_, rfl⟩
              have laA : ∀ n, (wr.drewN n).cell? ⟨blk, iA, none⟩ = some (enc xA) := by rw [hiA, hxA]; exact sw_l0 T1.out R (by omega) (qp + 1) (by omega)
              have lbA : ∀ n, (wr.drewN n).cell? ⟨blk, jA, none⟩ = some (enc yA) := by rw [hjA, hyA]; exact sw_l0 T1.out R (by omega) (qp) (by omega)
              have HOA := Lib.hid (sw_ord T1.out HC.out (by omega) xA yA)
              have hvA : cf xA yA < 0 := by rw [hxA, hyA]; exact of_decide_eq_true hL
              have hdA : decide (cf xA yA < 0) = true := decide_eq_true hvA
              clear hxA hyA hiA hjA
              go_wp2_with fail
              go_quiet_o (first | (go_at_call 57; refine Calls.quiet_of_same (HOA.out _)))
              have T2 : Hid (SW enc w0 blk 0 dk (wr.drewN nq)) := T1.out.drewN nq
              clear laA lbA HOA T1
              generalize wr.drewN nq = wy at T2 ⊢
              clear nq
              clear eaA ecA
              go_wp2
              go_meet
              case rel => exact ⟨qp + 1, by go_num, hq1, hq2, (show Hid _ from hsc.out.symm.trans (scanSorted_stop (ltOf cf) dk b (qp + 1) (Or.inr (by simpa using hL)))), T2⟩
            | false =>
              obtain ⟨iB, hiB⟩ : ∃ z, z = qp + 1 := ⟨_, rfl⟩
              obtain ⟨jB, hjB⟩ : ∃ z, z = qp := ⟨_, rfl⟩
              have eaB : ((qp : Int) + 1).toNat = iB := by omega
              have paB : (0 : Int) ≤ (qp : Int) + 1 := by omega
              have baB : (qp : Int) + 1 < (d.size : Int) := by omega
              have raB : IntKind.i64.wrap ((qp : Int) + 1) = (qp : Int) + 1 := by exact IntWalk.i64_in _ (by omega)
              have ecB : ((qp : Int)).toNat = jB := by omega
              have pcB : (0 : Int) ≤ (qp : Int) := by omega
              have bcB : (qp : Int) < (d.size : Int) := by omega
              have rcB : IntKind.i64.wrap ((qp : Int)) = (qp : Int) := by exact IntWalk.i64_in _ (by omega)
              obtain ⟨xB, hxB⟩ : ∃ x, x = dk[qp + 1]! := ⟨_, rfl⟩
              obtain ⟨yB, hyB⟩ : ∃ x, x = dk[qp]! := ⟨_, rfl⟩
              have laB : ∀ n, (wr.drewN n).cell? ⟨blk, iB, none⟩ = some (enc xB) := by rw [hiB, hxB]; exact sw_l0 T1.out R (by omega) (qp + 1) (by omega)
              have lbB : ∀ n, (wr.drewN n).cell? ⟨blk, jB, none⟩ = some (enc yB) := by rw [hjB, hyB]; exact sw_l0 T1.out R (by omega) (qp) (by omega)
              have HOB := Lib.hid (sw_ord T1.out HC.out (by omega) xB yB)
              have hvB : ¬ cf xB yB < 0 := by rw [hxB, hyB]; exact of_decide_eq_false hL
              have hdB : decide (cf xB yB < 0) = false := decide_eq_false hvB
              clear hxB hyB hiB hjB
              go_wp2_with fail
              go_quiet_o (first | (go_at_call 57; refine Calls.quiet_of_same (HOB.out _)))
              have T2 : Hid (SW enc w0 blk 0 dk (wr.drewN nq)) := T1.out.drewN nq
              clear laB lbB HOB T1
              generalize wr.drewN nq = wy at T2 ⊢
              clear nq
              clear eaB ecB
              go_wp2
              go_roundw
              case rel => exact ⟨qp + 1 + 1, by go_num, by omega, by omega, T2, (show Hid _ from (scanSorted_go (ltOf cf) dk b (qp + 1) hle (by simpa using hL)).symm.trans hsc.out)⟩
              case measure => simp [intOf]; omega
          · have hgu : decide ((qp : Int) + 1 < (b : Int)) = false := decide_eq_false (by omega)
            have hgn : decide (qp + 1 < b) = false := decide_eq_false hle
            go_wp2_with fail
            go_big_region_o
            have T2 : Hid (SW enc w0 blk 0 dk wr.drew) := (T1.out.drewN 1)
            clear T1
            generalize wr.drew = wy at T2 ⊢
            go_wp2
            go_meet
            case rel => exact ⟨qp + 1, by go_num, hq1, hq2, (show Hid _ from hsc.out.symm.trans (scanSorted_stop (ltOf cf) dk b (qp + 1) (Or.inl hle))), T2⟩
      case rest =>
        clear S1
        obtain ⟨p, rfl, hp1, hp2, HS, S2⟩ := hcut
        by_cases hpb : p = b
        · have hpz : ((p : Int) == (b : Int)) = true := by rw [beq_iff_eq]; omega
          have hpn : (p == b) = true := by rw [beq_iff_eq]; exact hpb
          have HR : Hid (PI = (dk, true)) := (show Hid _ from HE.out.symm.trans (pi_true (ltOf cf) a b t i dk ht5 (by rw [HS.out, hpb])))
          go_wp2_with fail
          go_ret
          rw [HR.out]
          exact ⟨rfl, S2.out⟩
        · have hpz : ((p : Int) == (b : Int)) = false := by rw [beq_eq_false_iff_ne]; omega
          have hpn : (p == b) = false := by rw [beq_eq_false_iff_ne]; exact hpb
          by_cases h50 : b - a < 50
          · have h5z : decide ((b : Int) - (a : Int) < 50) = true := decide_eq_true (by omega)
            have HR : Hid (PI = (dk, false)) := (show Hid _ from HE.out.symm.trans (pi_short (ltOf cf) a b t i dk ht5 (by rw [HS.out]; exact hpb) h50))
            go_wp2_with fail
            go_ret
            rw [HR.out]
            exact ⟨rfl, S2.out⟩
          · have h5z : decide ((b : Int) - (a : Int) < 50) = false := decide_eq_false (by omega)
            have HG : Hid (partialIns (ltOf cf) a b (5 - (t + 1)) p (fixUp (ltOf cf) b p (fixDown (ltOf cf) a p (swp dk p (p - 1)))) = PI) := (show Hid _ from (pi_go (ltOf cf) a b t i p dk ht5 HS.out hpb h50).symm.trans HE.out)
            clear HE HS
            obtain ⟨pp, hpp⟩ : ∃ pp, p = pp + 1 := ⟨p - 1, by omega⟩
            have ezp : (p : Int) - 1 = (pp : Int) := by omega
            have hpp1 : pp < p := by omega
            have hpp2 : p ≤ pp + 1 := by omega
            have HPP := Lib.hid hpp
            clear hpp
            go_wp2_with fail
            obtain ⟨iC, hiC⟩ : ∃ z, z = p := ⟨_, rfl⟩
            obtain ⟨jC, hjC⟩ : ∃ z, z = pp := ⟨_, rfl⟩
            have eaC : ((p : Int)).toNat = iC := by omega
            have paC : (0 : Int) ≤ (p : Int) := by omega
            have baC : (p : Int) < (d.size : Int) := by omega
            have raC : IntKind.i64.wrap ((p : Int)) = (p : Int) := by exact IntWalk.i64_in _ (by omega)
            have ecC : ((pp : Int)).toNat = jC := by omega
            have pcC : (0 : Int) ≤ (pp : Int) := by omega
            have bcC : (pp : Int) < (d.size : Int) := by omega
            have rcC : IntKind.i64.wrap ((pp : Int)) = (pp : Int) := by exact IntWalk.i64_in _ (by omega)
            obtain ⟨xC, hxC⟩ : ∃ x, x = dk[p]! := ⟨_, rfl⟩
            obtain ⟨yC, hyC⟩ : ∃ x, x = dk[pp]! := ⟨_, rfl⟩
            have S3 : Hid (SW enc w0 blk 0 (swp dk (p) (pp)) ((wc.setCell ⟨blk, iC, none⟩ (enc yC)).setCell ⟨blk, jC, none⟩ (enc xC)).drew) := (show Hid _ from by rw [hiC, hjC, hxC, hyC]; exact sw_s0 S2.out R (p) (pp) (by omega) (by omega))
            have caC : wc.cell? ⟨blk, iC, none⟩ = some (enc xC) := by rw [hiC, hxC]; exact sw_l1 S2.out R (by omega) (p) (by omega)
            have cbC : wc.cell? ⟨blk, jC, none⟩ = some (enc yC) := by rw [hjC, hyC]; exact sw_l1 S2.out R (by omega) (pp) (by omega)
            have faC : wc.frozen? ⟨blk, iC, none⟩ = false := by rw [hiC]; exact sw_f0 S2.out R (by omega) (p) (by omega)
            have fbC : wc.frozen? ⟨blk, jC, none⟩ = false := by rw [hjC]; exact sw_f0 S2.out R (by omega) (pp) (by omega)
            obtain ⟨uC, ccC⟩ : ∃ u, (wc.setCell ⟨blk, iC, none⟩ (enc yC)).cell? ⟨blk, jC, none⟩ = some u := by rw [hiC, hjC]; exact sw_c0 S2.out R (by omega) (p) (pp) (by omega) (by omega) (enc yC)
            clear S2 hxC hyC hiC hjC
            go_wp2_with fail
            go_big_region_o
            clear caC cbC ccC faC fbC
            generalize ((wc.setCell ⟨blk, iC, none⟩ (enc yC)).setCell ⟨blk, jC, none⟩ (enc xC)).drew = w3 at S3 ⊢
            clear eaC ecC
            obtain ⟨d1, hd1⟩ : ∃ d1, d1 = swp dk p pp := ⟨_, rfl⟩
            rw [← hd1] at S3
            have hd1s : d1.size = d.size := by rw [hd1, size_swp]; exact hds
            have HD1 : Hid (swp dk p (p - 1) = d1) := (show Hid _ from by show _ = _; rw [show p - 1 = pp by omega]; exact hd1.symm)
            clear hd1
            go_upto_if 65 with fail
            go_cut [11] from 15 to 140 (fun vj wx => ∃ d2 : Array α, d2.size = d.size ∧ Hid (d2 = fixDown (ltOf cf) a p d1) ∧ Hid (SW enc w0 blk 0 d2 wx))
            case first =>
              by_cases h2 : 2 ≤ p - a
              · have h2z : decide ((2 : Int) ≤ (p : Int) - (a : Int)) = true := decide_eq_true (by omega)
                rw [h2z]
                go_wp2_with fail
                go_loopw [11] (fun vj wr => ∃ (j : Nat) (dj : Array α), vj = .int .i64 j ∧ j ≤ pp ∧ dj.size = d.size ∧ Hid (SW enc w0 blk 0 dj wr) ∧ Hid (shiftDown (ltOf cf) j dj = shiftDown (ltOf cf) pp d1)) (fun vj _ => (intOf vj).toNat)
                case atStart => exact ⟨pp, d1, by go_num, Nat.le_refl _, hd1s, S3, rfl⟩
                case round =>
                  clear S3
                  obtain ⟨j, dj, rfl, hj, hdj, T1, HS⟩ := hrel
                  have FD : Hid (fixDown (ltOf cf) a p d1 = shiftDown (ltOf cf) pp d1) := (show Hid _ from by show _ = _; unfold fixDown; rw [if_pos (by omega), show p - 1 = pp by omega])
                  by_cases hj1 : 1 ≤ j
                  · obtain ⟨jp, rfl⟩ : ∃ jp, j = jp + 1 := ⟨j - 1, by omega⟩
                    have hjz : decide ((1 : Int) ≤ (jp : Int) + 1) = true := decide_eq_true (by omega)
                    cases hL : ltOf cf dj[jp + 1]! dj[jp]! with
                    | true =>
                      obtain ⟨iD, hiD⟩ : ∃ z, z = jp + 1 := ⟨_, rfl⟩
                      obtain ⟨jD, hjD⟩ : ∃ z, z = jp := ⟨_, rfl⟩
                      have eaD : ((jp : Int) + 1).toNat = iD := by omega
                      have paD : (0 : Int) ≤ (jp : Int) + 1 := by omega
                      have baD : (jp : Int) + 1 < (d.size : Int) := by omega
                      have raD : IntKind.i64.wrap ((jp : Int) + 1) = (jp : Int) + 1 := by exact IntWalk.i64_in _ (by omega)
                      have ecD : ((jp : Int)).toNat = jD := by omega
                      have pcD : (0 : Int) ≤ (jp : Int) := by omega
                      have bcD : (jp : Int) < (d.size : Int) := by omega
                      have rcD : IntKind.i64.wrap ((jp : Int)) = (jp : Int) := by exact IntWalk.i64_in _ (by omega)
                      obtain ⟨xD, hxD⟩ : ∃ x, x = dj[jp + 1]! := ⟨_, rfl⟩
                      obtain ⟨yD, hyD⟩ : ∃ x, x = dj[jp]! := ⟨_, rfl⟩
                      have laD : ∀ n, (wr.drewN n).cell? ⟨blk, iD, none⟩ = some (enc xD) := by rw [hiD, hxD]; exact sw_l0 T1.out R (by omega) (jp + 1) (by omega)
                      have lbD : ∀ n, (wr.drewN n).cell? ⟨blk, jD, none⟩ = some (enc yD) := by rw [hjD, hyD]; exact sw_l0 T1.out R (by omega) (jp) (by omega)
                      have HOD := Lib.hid (sw_ord T1.out HC.out (by omega) xD yD)
                      have hvD : cf xD yD < 0 := by rw [hxD, hyD]; exact of_decide_eq_true hL
                      have hdD : decide (cf xD yD < 0) = true := decide_eq_true hvD
                      clear hxD hyD hiD hjD
                      go_wp2_with fail
                      go_quiet_o (first | (go_at_call 57; refine Calls.quiet_of_same (HOD.out _)))
                      have T2 : Hid (SW enc w0 blk 0 dj (wr.drewN nq)) := T1.out.drewN nq
                      clear laD lbD HOD T1
                      generalize wr.drewN nq = wy at T2 ⊢
                      clear nq
                      clear eaD ecD
                      go_wp2_with fail
                      obtain ⟨iE, hiE⟩ : ∃ z, z = jp + 1 := ⟨_, rfl⟩
                      obtain ⟨jE, hjE⟩ : ∃ z, z = jp := ⟨_, rfl⟩
                      have eaE : ((jp : Int) + 1).toNat = iE := by omega
                      have paE : (0 : Int) ≤ (jp : Int) + 1 := by omega
                      have baE : (jp : Int) + 1 < (d.size : Int) := by omega
                      have raE : IntKind.i64.wrap ((jp : Int) + 1) = (jp : Int) + 1 := by exact IntWalk.i64_in _ (by omega)
                      have ecE : ((jp : Int)).toNat = jE := by omega
                      have pcE : (0 : Int) ≤ (jp : Int) := by omega
                      have bcE : (jp : Int) < (d.size : Int) := by omega
                      have rcE : IntKind.i64.wrap ((jp : Int)) = (jp : Int) := by exact IntWalk.i64_in _ (by omega)
                      obtain ⟨xE, hxE⟩ : ∃ x, x = dj[jp + 1]! := ⟨_, rfl⟩
                      obtain ⟨yE, hyE⟩ : ∃ x, x = dj[jp]! := ⟨_, rfl⟩
                      have T3 : Hid (SW enc w0 blk 0 (swp dj (jp + 1) (jp)) ((wy.setCell ⟨blk, iE, none⟩ (enc yE)).setCell ⟨blk, jE, none⟩ (enc xE)).drew) := (show Hid _ from by rw [hiE, hjE, hxE, hyE]; exact sw_s0 T2.out R (jp + 1) (jp) (by omega) (by omega))
                      have caE : wy.cell? ⟨blk, iE, none⟩ = some (enc xE) := by rw [hiE, hxE]; exact sw_l1 T2.out R (by omega) (jp + 1) (by omega)
                      have cbE : wy.cell? ⟨blk, jE, none⟩ = some (enc yE) := by rw [hjE, hyE]; exact sw_l1 T2.out R (by omega) (jp) (by omega)
                      have faE : wy.frozen? ⟨blk, iE, none⟩ = false := by rw [hiE]; exact sw_f0 T2.out R (by omega) (jp + 1) (by omega)
                      have fbE : wy.frozen? ⟨blk, jE, none⟩ = false := by rw [hjE]; exact sw_f0 T2.out R (by omega) (jp) (by omega)
                      obtain ⟨uE, ccE⟩ : ∃ u, (wy.setCell ⟨blk, iE, none⟩ (enc yE)).cell? ⟨blk, jE, none⟩ = some u := by rw [hiE, hjE]; exact sw_c0 T2.out R (by omega) (jp + 1) (jp) (by omega) (by omega) (enc yE)
                      clear T2 hxE hyE hiE hjE
                      go_wp2_with fail
                      go_big_region_o
                      clear caE cbE ccE faE fbE
                      generalize ((wy.setCell ⟨blk, iE, none⟩ (enc yE)).setCell ⟨blk, jE, none⟩ (enc xE)).drew = wz at T3 ⊢
                      clear eaE ecE
                      go_wp2
                      go_roundw
                      case rel => exact ⟨jp, swp dj (jp + 1) jp, by first | rfl | go_num | (congr 1; omega), by omega, by rw [size_swp]; exact hdj, T3, (show Hid _ from by show _ = _; rw [← HS.out, shiftDown_go (ltOf cf) (jp + 1) dj (by omega) (by simpa using hL)]; rfl)⟩
                      case measure => simp [intOf]; try omega
                    | false =>
                      obtain ⟨iF, hiF⟩ : ∃ z, z = jp + 1 := ⟨_, rfl⟩
                      obtain ⟨jF, hjF⟩ : ∃ z, z = jp := ⟨_, rfl⟩
                      have eaF : ((jp : Int) + 1).toNat = iF := by omega
                      have paF : (0 : Int) ≤ (jp : Int) + 1 := by omega
                      have baF : (jp : Int) + 1 < (d.size : Int) := by omega
                      have raF : IntKind.i64.wrap ((jp : Int) + 1) = (jp : Int) + 1 := by exact IntWalk.i64_in _ (by omega)
                      have ecF : ((jp : Int)).toNat = jF := by omega
                      have pcF : (0 : Int) ≤ (jp : Int) := by omega
                      have bcF : (jp : Int) < (d.size : Int) := by omega
                      have rcF : IntKind.i64.wrap ((jp : Int)) = (jp : Int) := by exact IntWalk.i64_in _ (by omega)
                      obtain ⟨xF, hxF⟩ : ∃ x, x = dj[jp + 1]! := ⟨_, rfl⟩
                      obtain ⟨yF, hyF⟩ : ∃ x, x = dj[jp]! := ⟨_, rfl⟩
                      have laF : ∀ n, (wr.drewN n).cell? ⟨blk, iF, none⟩ = some (enc xF) := by rw [hiF, hxF]; exact sw_l0 T1.out R (by omega) (jp + 1) (by omega)
                      have lbF : ∀ n, (wr.drewN n).cell? ⟨blk, jF, none⟩ = some (enc yF) := by rw [hjF, hyF]; exact sw_l0 T1.out R (by omega) (jp) (by omega)
                      have HOF := Lib.hid (sw_ord T1.out HC.out (by omega) xF yF)
                      have hvF : ¬ cf xF yF < 0 := by rw [hxF, hyF]; exact of_decide_eq_false hL
                      have hdF : decide (cf xF yF < 0) = false := decide_eq_false hvF
                      clear hxF hyF hiF hjF
                      go_wp2_with fail
                      go_quiet_o (first | (go_at_call 57; refine Calls.quiet_of_same (HOF.out _)))
                      have T2 : Hid (SW enc w0 blk 0 dj (wr.drewN nq)) := T1.out.drewN nq
                      clear laF lbF HOF T1
                      generalize wr.drewN nq = wy at T2 ⊢
                      clear nq
                      clear eaF ecF
                      go_wp2
                      go_meet
                      case rel => exact ⟨dj, hdj, (show Hid _ from by show _ = _; rw [FD.out, ← HS.out, shiftDown_stop (ltOf cf) (jp + 1) dj (Or.inr (by simpa using hL))]), T2⟩
                  · have hjz : decide ((1 : Int) ≤ (j : Int)) = false := decide_eq_false (by omega)
                    have hj0 : j = 0 := by omega
                    have hjn : decide (1 ≤ j) = false := decide_eq_false hj1
                    go_wp2
                    go_meet
                    case rel => exact ⟨dj, hdj, (show Hid _ from by show _ = _; rw [FD.out, ← HS.out, shiftDown_stop (ltOf cf) j dj (Or.inl hj0)]), T1⟩
              · have h2z : decide ((2 : Int) ≤ (p : Int) - (a : Int)) = false := decide_eq_false (by omega)
                go_wp2_with fail
                go_meet
                case rel => exact ⟨d1, hd1s, (show Hid _ from by show _ = _; unfold fixDown; rw [if_neg (by omega)]), S3⟩
            case rest =>
              clear S3
              obtain ⟨d2, hd2s, HD2, S4⟩ := hcut
              by_cases h2 : 2 ≤ b - p
              · have h2z : decide ((2 : Int) ≤ (b : Int) - ((p : Int))) = true := decide_eq_true (by omega)
                go_wp2_with fail
                go_loopw [12] (fun vj wr => ∃ (j : Nat) (dj : Array α), vj = .int .i64 j ∧ p + 1 ≤ j ∧ j ≤ b ∧ dj.size = d.size ∧ Hid (SW enc w0 blk 0 dj wr) ∧ Hid (shiftUp (ltOf cf) b j dj = shiftUp (ltOf cf) b (p + 1) d2)) (fun vj _ => b - (intOf vj).toNat)
                case atStart => exact ⟨p + 1, d2, by go_num, Nat.le_refl _, by omega, hd2s, S4, rfl⟩
                case round =>
                  clear S4
                  obtain ⟨j, dj, rfl, hj, hjb, hdj, T1, HS⟩ := hrel
                  have FU : Hid (fixUp (ltOf cf) b p d2 = shiftUp (ltOf cf) b (p + 1) d2) := (show Hid _ from by show _ = _; unfold fixUp; rw [if_pos (by omega)])
                  obtain ⟨jp, rfl⟩ : ∃ jp, j = jp + 1 := ⟨j - 1, by omega⟩
                  by_cases hj1 : jp + 1 < b
                  · have hjz : decide ((jp : Int) + 1 < (b : Int)) = true := decide_eq_true (by omega)
                    cases hL : ltOf cf dj[jp + 1]! dj[jp]! with
                    | true =>
                      obtain ⟨iG, hiG⟩ : ∃ z, z = jp + 1 := ⟨_, rfl⟩
                      obtain ⟨jG, hjG⟩ : ∃ z, z = jp := ⟨_, rfl⟩
                      have eaG : ((jp : Int) + 1).toNat = iG := by omega
                      have paG : (0 : Int) ≤ (jp : Int) + 1 := by omega
                      have baG : (jp : Int) + 1 < (d.size : Int) := by omega
                      have raG : IntKind.i64.wrap ((jp : Int) + 1) = (jp : Int) + 1 := by exact IntWalk.i64_in _ (by omega)
                      have ecG : ((jp : Int)).toNat = jG := by omega
                      have pcG : (0 : Int) ≤ (jp : Int) := by omega
                      have bcG : (jp : Int) < (d.size : Int) := by omega
                      have rcG : IntKind.i64.wrap ((jp : Int)) = (jp : Int) := by exact IntWalk.i64_in _ (by omega)
                      obtain ⟨xG, hxG⟩ : ∃ x, x = dj[jp + 1]! := ⟨_, rfl⟩
                      obtain ⟨yG, hyG⟩ : ∃ x, x = dj[jp]! := ⟨_, rfl⟩
                      have laG : ∀ n, (wr.drewN n).cell? ⟨blk, iG, none⟩ = some (enc xG) := by rw [hiG, hxG]; exact sw_l0 T1.out R (by omega) (jp + 1) (by omega)
                      have lbG : ∀ n, (wr.drewN n).cell? ⟨blk, jG, none⟩ = some (enc yG) := by rw [hjG, hyG]; exact sw_l0 T1.out R (by omega) (jp) (by omega)
                      have HOG := Lib.hid (sw_ord T1.out HC.out (by omega) xG yG)
                      have hvG : cf xG yG < 0 := by rw [hxG, hyG]; exact of_decide_eq_true hL
                      have hdG : decide (cf xG yG < 0) = true := decide_eq_true hvG
                      clear hxG hyG hiG hjG
                      go_wp2_with fail
                      go_quiet_o (first | (go_at_call 57; refine Calls.quiet_of_same (HOG.out _)))
                      have T2 : Hid (SW enc w0 blk 0 dj (wr.drewN nq)) := T1.out.drewN nq
                      clear laG lbG HOG T1
                      generalize wr.drewN nq = wy at T2 ⊢
                      clear nq
                      clear eaG ecG
                      go_wp2_with fail
                      obtain ⟨iH, hiH⟩ : ∃ z, z = jp + 1 := ⟨_, rfl⟩
                      obtain ⟨jH, hjH⟩ : ∃ z, z = jp := ⟨_, rfl⟩
                      have eaH : ((jp : Int) + 1).toNat = iH := by omega
                      have paH : (0 : Int) ≤ (jp : Int) + 1 := by omega
                      have baH : (jp : Int) + 1 < (d.size : Int) := by omega
                      have raH : IntKind.i64.wrap ((jp : Int) + 1) = (jp : Int) + 1 := by exact IntWalk.i64_in _ (by omega)
                      have ecH : ((jp : Int)).toNat = jH := by omega
                      have pcH : (0 : Int) ≤ (jp : Int) := by omega
                      have bcH : (jp : Int) < (d.size : Int) := by omega
                      have rcH : IntKind.i64.wrap ((jp : Int)) = (jp : Int) := by exact IntWalk.i64_in _ (by omega)
                      obtain ⟨xH, hxH⟩ : ∃ x, x = dj[jp + 1]! := ⟨_, rfl⟩
                      obtain ⟨yH, hyH⟩ : ∃ x, x = dj[jp]! := ⟨_, rfl⟩
                      have T3 : Hid (SW enc w0 blk 0 (swp dj (jp + 1) (jp)) ((wy.setCell ⟨blk, iH, none⟩ (enc yH)).setCell ⟨blk, jH, none⟩ (enc xH)).drew) := (show Hid _ from by rw [hiH, hjH, hxH, hyH]; exact sw_s0 T2.out R (jp + 1) (jp) (by omega) (by omega))
                      have caH : wy.cell? ⟨blk, iH, none⟩ = some (enc xH) := by rw [hiH, hxH]; exact sw_l1 T2.out R (by omega) (jp + 1) (by omega)
                      have cbH : wy.cell? ⟨blk, jH, none⟩ = some (enc yH) := by rw [hjH, hyH]; exact sw_l1 T2.out R (by omega) (jp) (by omega)
                      have faH : wy.frozen? ⟨blk, iH, none⟩ = false := by rw [hiH]; exact sw_f0 T2.out R (by omega) (jp + 1) (by omega)
                      have fbH : wy.frozen? ⟨blk, jH, none⟩ = false := by rw [hjH]; exact sw_f0 T2.out R (by omega) (jp) (by omega)
                      obtain ⟨uH, ccH⟩ : ∃ u, (wy.setCell ⟨blk, iH, none⟩ (enc yH)).cell? ⟨blk, jH, none⟩ = some u := by rw [hiH, hjH]; exact sw_c0 T2.out R (by omega) (jp + 1) (jp) (by omega) (by omega) (enc yH)
                      clear T2 hxH hyH hiH hjH
                      go_wp2_with fail
                      go_big_region_o
                      clear caH cbH ccH faH fbH
                      generalize ((wy.setCell ⟨blk, iH, none⟩ (enc yH)).setCell ⟨blk, jH, none⟩ (enc xH)).drew = wz at T3 ⊢
                      clear eaH ecH
                      go_wp2
                      go_roundw
                      case rel => exact ⟨jp + 1 + 1, swp dj (jp + 1) jp, by first | rfl | go_num | (congr 1; omega), by omega, by omega, by rw [size_swp]; exact hdj, T3, (show Hid _ from by show _ = _; rw [← HS.out, shiftUp_go (ltOf cf) b (jp + 1) dj hj1 (by simpa using hL)]; rfl)⟩
                      case measure => simp [intOf]; try omega
                    | false =>
                      obtain ⟨iI, hiI⟩ : ∃ z, z = jp + 1 := ⟨_, rfl⟩
                      obtain ⟨jI, hjI⟩ : ∃ z, z = jp := ⟨_, rfl⟩
                      have eaI : ((jp : Int) + 1).toNat = iI := by omega
                      have paI : (0 : Int) ≤ (jp : Int) + 1 := by omega
                      have baI : (jp : Int) + 1 < (d.size : Int) := by omega
                      have raI : IntKind.i64.wrap ((jp : Int) + 1) = (jp : Int) + 1 := by exact IntWalk.i64_in _ (by omega)
                      have ecI : ((jp : Int)).toNat = jI := by omega
                      have pcI : (0 : Int) ≤ (jp : Int) := by omega
                      have bcI : (jp : Int) < (d.size : Int) := by omega
                      have rcI : IntKind.i64.wrap ((jp : Int)) = (jp : Int) := by exact IntWalk.i64_in _ (by omega)
                      obtain ⟨xI, hxI⟩ : ∃ x, x = dj[jp + 1]! := ⟨_, rfl⟩
                      obtain ⟨yI, hyI⟩ : ∃ x, x = dj[jp]! := ⟨_, rfl⟩
                      have laI : ∀ n, (wr.drewN n).cell? ⟨blk, iI, none⟩ = some (enc xI) := by rw [hiI, hxI]; exact sw_l0 T1.out R (by omega) (jp + 1) (by omega)
                      have lbI : ∀ n, (wr.drewN n).cell? ⟨blk, jI, none⟩ = some (enc yI) := by rw [hjI, hyI]; exact sw_l0 T1.out R (by omega) (jp) (by omega)
                      have HOI := Lib.hid (sw_ord T1.out HC.out (by omega) xI yI)
                      have hvI : ¬ cf xI yI < 0 := by rw [hxI, hyI]; exact of_decide_eq_false hL
                      have hdI : decide (cf xI yI < 0) = false := decide_eq_false hvI
                      clear hxI hyI hiI hjI
                      go_wp2_with fail
                      go_quiet_o (first | (go_at_call 57; refine Calls.quiet_of_same (HOI.out _)))
                      have T2 : Hid (SW enc w0 blk 0 dj (wr.drewN nq)) := T1.out.drewN nq
                      clear laI lbI HOI T1
                      generalize wr.drewN nq = wy at T2 ⊢
                      clear nq
                      clear eaI ecI
                      have HDJ : Hid (fixUp (ltOf cf) b p d2 = dj) := (show Hid _ from by show _ = _; rw [FU.out, ← HS.out, shiftUp_stop (ltOf cf) b (jp + 1) dj (Or.inr (by simpa using hL))])
                      have HG2 : Hid (partialIns (ltOf cf) a b (5 - (t + 1)) p dj = PI) := (show Hid _ from by
                        have h := HG.out
                        rw [HD1.out, ← HD2.out, HDJ.out] at h
                        exact h)
                      go_wp2
                      go_roundg (5 - (t + 1))
                      case measure => omega
                      case rel => exact ⟨p, t + 1, dj, by go_num, by go_num, by omega, Nat.le_refl _, by omega, by omega, hdj, T2, HG2⟩
                  · have hjz : decide ((jp : Int) + 1 < (b : Int)) = false := decide_eq_false (by omega)
                    have HDJ : Hid (fixUp (ltOf cf) b p d2 = dj) := (show Hid _ from by show _ = _; rw [FU.out, ← HS.out, shiftUp_stop (ltOf cf) b (jp + 1) dj (Or.inl hj1)])
                    have HG2 : Hid (partialIns (ltOf cf) a b (5 - (t + 1)) p dj = PI) := (show Hid _ from by
                      have h := HG.out
                      rw [HD1.out, ← HD2.out, HDJ.out] at h
                      exact h)
                    go_wp2
                    go_roundg (5 - (t + 1))
                    case measure => omega
                    case rel => exact ⟨p, t + 1, dj, by go_num, by go_num, by omega, Nat.le_refl _, by omega, by omega, hdj, T1, HG2⟩
              · have h2z : decide ((2 : Int) ≤ (b : Int) - ((p : Int))) = false := decide_eq_false (by omega)
                have HDJ : Hid (fixUp (ltOf cf) b p d2 = d2) := (show Hid _ from by show _ = _; unfold fixUp; rw [if_neg (by omega)])
                have HG2 : Hid (partialIns (ltOf cf) a b (5 - (t + 1)) p d2 = PI) := (show Hid _ from by
                  have h := HG.out
                  rw [HD1.out, ← HD2.out, HDJ.out] at h
                  exact h)
                go_wp2
                go_roundg (5 - (t + 1))
                case measure => omega
                case rel => exact ⟨p, t + 1, d2, by go_num, by go_num, by omega, Nat.le_refl _, by omega, by omega, hd2s, S4, HG2⟩
    · have htz : decide ((t : Int) < 5) = false := decide_eq_false (by omega)
      have htn : decide (t < 5) = false := decide_eq_false ht5
      have HR : Hid (PI = (dk, false)) := (show Hid _ from by
        have h := HE.out
        rw [show 5 - t = 5 - 5 by omega, pi_end] at h
        exact h.symm)
      go_wp2_with fail
      go_ret
      rw [HR.out]
      exact ⟨rfl, S1.out⟩
end Go.Proofs.Ytbgabipngdillaa
