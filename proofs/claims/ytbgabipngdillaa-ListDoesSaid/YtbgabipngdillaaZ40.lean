/- Joined: Pq. -/
import Derived.Deep.CutBlock
import Derived.Deep.DeepCutAuto
import Derived.Test.YtbgabipngdillaaZ38
namespace Go.Proofs.Ytbgabipngdillaa
open Go.RowKit Go.Shelf Go.Sort Go.Lib
variable {α : Type} [Inhabited α]

set_option maxHeartbeats 16000000 in
set_option maxRecDepth 1000000 in
theorem parteq_any (s : Nat) (enc : α → Value) (cf : α → α → Int) (blk cap a b pivot : Nat) (d0 d : Array α) (w0 w : World) (hc : OrdW s enc cf blk d0.size w0) (R : Row1 enc w0 blk 0 d0) (hs : d0.size = d.size) (S : SW enc w0 blk 0 d w) (hap : a ≤ pivot) (hpb : pivot < b) (hb : b ≤ d.size) (hsz : d.size ≤ 1000000) :
    Calls Try.prog 93 #[.slice (some ⟨blk, 0, none⟩) d.size cap, .int .i64 a, .int .i64 b, .int .i64 pivot, .func (.func 57) #[.pointer (some ⟨s, 0, none⟩)] #[]] w fun e w' =>
      e = .returned (.int .i64 (Sort.partitionEqual (ltOf cf) d a b pivot).1) ∧ SW enc w0 blk 0 (Sort.partitionEqual (ltOf cf) d a b pivot).2 w' := by
  have hcl0 := R.hO.cells
  simp only [Value.cells] at hcl0
  have hst := R.hO.store Try.prog
  have mixed : Try.prog.follows .mixedOrders = true := by kernel_rfl
  have HC := Lib.hid hc
  have S0 : Hid (SW enc w0 blk 0 d w) := S
  clear hc S
  have hs1 : (swp d a pivot).size = d.size := size_swp _ _ _
  have ezj : ((b - 1 : Nat) : Int) = (b : Int) - 1 := by omega
  go_enter Try.func93, Try.ntmps93
  go_wp2_with fail
  obtain ⟨iA, hiA⟩ : ∃ z, z = a := ⟨_, rfl⟩
  obtain ⟨jA, hjA⟩ : ∃ z, z = pivot := ⟨_, rfl⟩
  have eaA : ((a : Int)).toNat = iA := by omega
  have paA : (0 : Int) ≤ (a : Int) := by omega
  have baA : (a : Int) < (d.size : Int) := by omega
  have raA : IntKind.i64.wrap ((a : Int)) = (a : Int) := by exact IntWalk.i64_in _ (by omega)
  have ecA : ((pivot : Int)).toNat = jA := by omega
  have pcA : (0 : Int) ≤ (pivot : Int) := by omega
  have bcA : (pivot : Int) < (d.size : Int) := by omega
  have rcA : IntKind.i64.wrap ((pivot : Int)) = (pivot : Int) := by exact IntWalk.i64_in _ (by omega)
  obtain ⟨xA, hxA⟩ : ∃ x, x = d[a]! := ⟨_, rfl⟩
  obtain ⟨yA, hyA⟩ : ∃ x, x = d[pivot]! := ⟨_, rfl⟩
  have S4 : Hid (SW enc w0 blk 0 (swp d (a) (pivot)) ((w.setCell ⟨blk, iA, none⟩ (enc yA)).setCell ⟨blk, jA, none⟩ (enc xA)).drew) := (show Hid _ from by rw [hiA, hjA, hxA, hyA]; exact sw_s0 S0.out R (a) (pivot) (by omega) (by omega))
  have caA : w.cell? ⟨blk, iA, none⟩ = some (enc xA) := by rw [hiA, hxA]; exact sw_l1 S0.out R (by omega) (a) (by omega)
  have cbA : w.cell? ⟨blk, jA, none⟩ = some (enc yA) := by rw [hjA, hyA]; exact sw_l1 S0.out R (by omega) (pivot) (by omega)
  have faA : w.frozen? ⟨blk, iA, none⟩ = false := by rw [hiA]; exact sw_f0 S0.out R (by omega) (a) (by omega)
  have fbA : w.frozen? ⟨blk, jA, none⟩ = false := by rw [hjA]; exact sw_f0 S0.out R (by omega) (pivot) (by omega)
  obtain ⟨uA, ccA⟩ : ∃ u, (w.setCell ⟨blk, iA, none⟩ (enc yA)).cell? ⟨blk, jA, none⟩ = some u := by rw [hiA, hjA]; exact sw_c0 S0.out R (by omega) (a) (pivot) (by omega) (by omega) (enc yA)
  clear S0 hxA hyA hiA hjA
  go_wp2_with fail
  go_big_region_o
  clear caA cbA ccA faA fbA
  generalize ((w.setCell ⟨blk, iA, none⟩ (enc yA)).setCell ⟨blk, jA, none⟩ (enc xA)).drew = w4 at S4 ⊢
  clear eaA ecA
  go_wp2
  go_loopw [11, 12] (fun vi vj wr => ∃ (x y : Nat) (dk : Array α), vi = .int .i64 x ∧ vj = .int .i64 y ∧ a < x ∧ x ≤ y + 1 ∧ y < b ∧ dk.size = d.size ∧ Hid (SW enc w0 blk 0 dk wr) ∧ Hid (partEqLoop (ltOf cf) a x y dk = Sort.partitionEqual (ltOf cf) d a b pivot)) (fun vi vj _ => (intOf vj).toNat + 1 - (intOf vi).toNat)
  case atStart => exact ⟨a + 1, b - 1, swp d a pivot, by go_num, by rw [ezj], by omega, by omega, by omega, hs1, S4, rfl⟩
  case round =>
    clear S4
    obtain ⟨x, y, dk, rfl, rfl, hax, hxy, hyb, hdk, S5, HE⟩ := hrel
    clear ezj hs1
    go_upto_block 2 with fail
    go_cut [11] from 31 to 49 (fun vi wx => ∃ p : Nat, vi = .int .i64 p ∧ x ≤ p ∧ p ≤ y + 1 ∧ Hid (p = Sort.scanUp (fun x => !ltOf cf dk[a]! x) dk y x) ∧ Hid (SW enc w0 blk 0 dk wx))
    case first =>
      go_wp2_with fail
      go_loopw [11] (fun vi wr => ∃ q : Nat, vi = .int .i64 q ∧ x ≤ q ∧ q ≤ y + 1 ∧ Hid (SW enc w0 blk 0 dk wr) ∧ Hid (Sort.scanUp (fun x => !ltOf cf dk[a]! x) dk y q = Sort.scanUp (fun x => !ltOf cf dk[a]! x) dk y x)) (fun vi _ => y + 1 - (intOf vi).toNat)
      case atStart => exact ⟨x, rfl, Nat.le_refl _, by omega, S5, rfl⟩
      case round =>
        clear S5
        obtain ⟨q, rfl, hq1, hq2, T1, hsc⟩ := hrel
        by_cases hle : q ≤ y
        · have hgu : decide ((q : Int) ≤ (y : Int)) = true := decide_eq_true (by omega)
          cases hL : ltOf cf dk[a]! dk[q]! with
          | true =>
            obtain ⟨iFt, hiFt⟩ : ∃ z, z = a := ⟨_, rfl⟩
            obtain ⟨jFt, hjFt⟩ : ∃ z, z = q := ⟨_, rfl⟩
            have eaFt : ((a : Int)).toNat = iFt := by omega
            have paFt : (0 : Int) ≤ (a : Int) := by omega
            have baFt : (a : Int) < (d.size : Int) := by omega
            have raFt : IntKind.i64.wrap ((a : Int)) = (a : Int) := by exact IntWalk.i64_in _ (by omega)
            have ecFt : ((q : Int)).toNat = jFt := by omega
            have pcFt : (0 : Int) ≤ (q : Int) := by omega
            have bcFt : (q : Int) < (d.size : Int) := by omega
            have rcFt : IntKind.i64.wrap ((q : Int)) = (q : Int) := by exact IntWalk.i64_in _ (by omega)
            obtain ⟨xFt, hxFt⟩ : ∃ x, x = dk[a]! := ⟨_, rfl⟩
            obtain ⟨yFt, hyFt⟩ : ∃ x, x = dk[q]! := ⟨_, rfl⟩
            have laFt : ∀ n, (wr.drewN n).cell? ⟨blk, iFt, none⟩ = some (enc xFt) := by rw [hiFt, hxFt]; exact sw_l0 T1.out R (by omega) (a) (by omega)
            have lbFt : ∀ n, (wr.drewN n).cell? ⟨blk, jFt, none⟩ = some (enc yFt) := by rw [hjFt, hyFt]; exact sw_l0 T1.out R (by omega) (q) (by omega)
            have HOFt := Lib.hid (sw_ord T1.out HC.out (by omega) xFt yFt)
            have hvFt : cf xFt yFt < 0 := by rw [hxFt, hyFt]; exact of_decide_eq_true hL
            have hdFt : decide (cf xFt yFt < 0) = true := decide_eq_true hvFt
            clear hxFt hyFt hiFt hjFt
            go_wp2_with fail
            go_quiet_o (first | (go_at_call 57; refine Calls.quiet_of_same (HOFt.out _)))
            have T2 : Hid (SW enc w0 blk 0 dk (wr.drewN nq)) := T1.out.drewN nq
            clear laFt lbFt HOFt T1
            generalize wr.drewN nq = wy at T2 ⊢
            clear nq
            clear eaFt ecFt
            go_wp2
            go_meet
            case rel => exact ⟨q, rfl, hq1, hq2, (show Hid _ from (scanUp_end (fun x => !ltOf cf dk[a]! x) dk y q (Or.inr (by simp [hL]))).symm.trans hsc.out), T2⟩
          | false =>
            obtain ⟨iFf, hiFf⟩ : ∃ z, z = a := ⟨_, rfl⟩
            obtain ⟨jFf, hjFf⟩ : ∃ z, z = q := ⟨_, rfl⟩
            have eaFf : ((a : Int)).toNat = iFf := by omega
            have paFf : (0 : Int) ≤ (a : Int) := by omega
            have baFf : (a : Int) < (d.size : Int) := by omega
            have raFf : IntKind.i64.wrap ((a : Int)) = (a : Int) := by exact IntWalk.i64_in _ (by omega)
            have ecFf : ((q : Int)).toNat = jFf := by omega
            have pcFf : (0 : Int) ≤ (q : Int) := by omega
            have bcFf : (q : Int) < (d.size : Int) := by omega
            have rcFf : IntKind.i64.wrap ((q : Int)) = (q : Int) := by exact IntWalk.i64_in _ (by omega)
            obtain ⟨xFf, hxFf⟩ : ∃ x, x = dk[a]! := ⟨_, rfl⟩
            obtain ⟨yFf, hyFf⟩ : ∃ x, x = dk[q]! := ⟨_, rfl⟩
            have laFf : ∀ n, (wr.drewN n).cell? ⟨blk, iFf, none⟩ = some (enc xFf) := by rw [hiFf, hxFf]; exact sw_l0 T1.out R (by omega) (a) (by omega)
            have lbFf : ∀ n, (wr.drewN n).cell? ⟨blk, jFf, none⟩ = some (enc yFf) := by rw [hjFf, hyFf]; exact sw_l0 T1.out R (by omega) (q) (by omega)
            have HOFf := Lib.hid (sw_ord T1.out HC.out (by omega) xFf yFf)
            have hvFf : ¬ cf xFf yFf < 0 := by rw [hxFf, hyFf]; exact of_decide_eq_false hL
            have hdFf : decide (cf xFf yFf < 0) = false := decide_eq_false hvFf
            clear hxFf hyFf hiFf hjFf
            go_wp2_with fail
            go_quiet_o (first | (go_at_call 57; refine Calls.quiet_of_same (HOFf.out _)))
            have T2 : Hid (SW enc w0 blk 0 dk (wr.drewN nq)) := T1.out.drewN nq
            clear laFf lbFf HOFf T1
            generalize wr.drewN nq = wy at T2 ⊢
            clear nq
            clear eaFf ecFf
            go_wp2
            go_roundw
            case rel => exact ⟨q + 1, by go_num, by omega, by omega, T2, (show Hid _ from (scanUp_go (fun x => !ltOf cf dk[a]! x) dk y q hle (by simp [hL])).symm.trans hsc.out)⟩
            case measure => simp [intOf]; omega
        · have hgu : decide ((q : Int) ≤ (y : Int)) = false := decide_eq_false (by omega)
          have hgn : decide (q ≤ y) = false := decide_eq_false hle
          go_wp2_with fail
          go_big_region_o
          have T2 : Hid (SW enc w0 blk 0 dk wr.drew) := (T1.out.drewN 1)
          clear T1
          generalize wr.drew = wy at T2 ⊢
          go_wp2
          go_meet
          case rel => exact ⟨q, rfl, hq1, hq2, (show Hid _ from (scanUp_end (fun x => !ltOf cf dk[a]! x) dk y q (Or.inl hle)).symm.trans hsc.out), T2⟩
    case rest =>
      clear S5
      obtain ⟨x2, rfl, hx2a, hx2b, HX2, S6⟩ := hcut
      go_upto_block 4 with fail
      go_cut [12] from 50 to 67 (fun vj wx => ∃ p : Nat, vj = .int .i64 p ∧ p ≤ y ∧ x2 ≤ p + 1 ∧ Hid (p = Sort.scanDown (fun x => ltOf cf dk[a]! x) dk x2 y) ∧ Hid (SW enc w0 blk 0 dk wx))
      case first =>
        go_wp2_with fail
        go_loopw [12] (fun vj wr => ∃ q : Nat, vj = .int .i64 q ∧ q ≤ y ∧ x2 ≤ q + 1 ∧ Hid (SW enc w0 blk 0 dk wr) ∧ Hid (Sort.scanDown (fun x => ltOf cf dk[a]! x) dk x2 q = Sort.scanDown (fun x => ltOf cf dk[a]! x) dk x2 y)) (fun vj _ => (intOf vj).toNat)
        case atStart => exact ⟨y, rfl, Nat.le_refl _, by omega, S6, rfl⟩
        case round =>
          clear S6
          obtain ⟨q, rfl, hq1, hq2, T1, hsc⟩ := hrel
          by_cases hle : x2 ≤ q
          · have hgu : decide ((x2 : Int) ≤ (q : Int)) = true := decide_eq_true (by omega)
            cases hL : ltOf cf dk[a]! dk[q]! with
            | true =>
              obtain ⟨iGt, hiGt⟩ : ∃ z, z = a := ⟨_, rfl⟩
              obtain ⟨jGt, hjGt⟩ : ∃ z, z = q := ⟨_, rfl⟩
              have eaGt : ((a : Int)).toNat = iGt := by omega
              have paGt : (0 : Int) ≤ (a : Int) := by omega
              have baGt : (a : Int) < (d.size : Int) := by omega
              have raGt : IntKind.i64.wrap ((a : Int)) = (a : Int) := by exact IntWalk.i64_in _ (by omega)
              have ecGt : ((q : Int)).toNat = jGt := by omega
              have pcGt : (0 : Int) ≤ (q : Int) := by omega
              have bcGt : (q : Int) < (d.size : Int) := by omega
              have rcGt : IntKind.i64.wrap ((q : Int)) = (q : Int) := by exact IntWalk.i64_in _ (by omega)
              obtain ⟨xGt, hxGt⟩ : ∃ x, x = dk[a]! := ⟨_, rfl⟩
              obtain ⟨yGt, hyGt⟩ : ∃ x, x = dk[q]! := ⟨_, rfl⟩
              have laGt : ∀ n, (wr.drewN n).cell? ⟨blk, iGt, none⟩ = some (enc xGt) := by rw [hiGt, hxGt]; exact sw_l0 T1.out R (by omega) (a) (by omega)
              have lbGt : ∀ n, (wr.drewN n).cell? ⟨blk, jGt, none⟩ = some (enc yGt) := by rw [hjGt, hyGt]; exact sw_l0 T1.out R (by omega) (q) (by omega)
              have HOGt := Lib.hid (sw_ord T1.out HC.out (by omega) xGt yGt)
              have hvGt : cf xGt yGt < 0 := by rw [hxGt, hyGt]; exact of_decide_eq_true hL
              have hdGt : decide (cf xGt yGt < 0) = true := decide_eq_true hvGt
              clear hxGt hyGt hiGt hjGt
              go_wp2_with fail
              go_quiet_o (first | (go_at_call 57; refine Calls.quiet_of_same (HOGt.out _)))
              have T2 : Hid (SW enc w0 blk 0 dk (wr.drewN nq)) := T1.out.drewN nq
              clear laGt lbGt HOGt T1
              generalize wr.drewN nq = wy at T2 ⊢
              clear nq
              clear eaGt ecGt
              go_wp2
              go_roundw
              case rel => exact ⟨q - 1, by go_num, by omega, by omega, T2, (show Hid _ from (scanDown_go (fun x => ltOf cf dk[a]! x) dk x2 q hle (by omega) (by simp [hL])).symm.trans hsc.out)⟩
              case measure => simp [intOf]; omega
            | false =>
              obtain ⟨iGf, hiGf⟩ : ∃ z, z = a := ⟨_, rfl⟩
              obtain ⟨jGf, hjGf⟩ : ∃ z, z = q := ⟨_, rfl⟩
              have eaGf : ((a : Int)).toNat = iGf := by omega
              have paGf : (0 : Int) ≤ (a : Int) := by omega
              have baGf : (a : Int) < (d.size : Int) := by omega
              have raGf : IntKind.i64.wrap ((a : Int)) = (a : Int) := by exact IntWalk.i64_in _ (by omega)
              have ecGf : ((q : Int)).toNat = jGf := by omega
              have pcGf : (0 : Int) ≤ (q : Int) := by omega
              have bcGf : (q : Int) < (d.size : Int) := by omega
              have rcGf : IntKind.i64.wrap ((q : Int)) = (q : Int) := by exact IntWalk.i64_in _ (by omega)
              obtain ⟨xGf, hxGf⟩ : ∃ x, x = dk[a]! := ⟨_, rfl⟩
              obtain ⟨yGf, hyGf⟩ : ∃ x, x = dk[q]! := ⟨_, rfl⟩
              have laGf : ∀ n, (wr.drewN n).cell? ⟨blk, iGf, none⟩ = some (enc xGf) := by rw [hiGf, hxGf]; exact sw_l0 T1.out R (by omega) (a) (by omega)
              have lbGf : ∀ n, (wr.drewN n).cell? ⟨blk, jGf, none⟩ = some (enc yGf) := by rw [hjGf, hyGf]; exact sw_l0 T1.out R (by omega) (q) (by omega)
              have HOGf := Lib.hid (sw_ord T1.out HC.out (by omega) xGf yGf)
              have hvGf : ¬ cf xGf yGf < 0 := by rw [hxGf, hyGf]; exact of_decide_eq_false hL
              have hdGf : decide (cf xGf yGf < 0) = false := decide_eq_false hvGf
              clear hxGf hyGf hiGf hjGf
              go_wp2_with fail
              go_quiet_o (first | (go_at_call 57; refine Calls.quiet_of_same (HOGf.out _)))
              have T2 : Hid (SW enc w0 blk 0 dk (wr.drewN nq)) := T1.out.drewN nq
              clear laGf lbGf HOGf T1
              generalize wr.drewN nq = wy at T2 ⊢
              clear nq
              clear eaGf ecGf
              go_wp2
              go_meet
              case rel => exact ⟨q, rfl, hq1, hq2, (show Hid _ from (scanDown_end (fun x => ltOf cf dk[a]! x) dk x2 q (Or.inr (by simp [hL]))).symm.trans hsc.out), T2⟩
          · have hgu : decide ((x2 : Int) ≤ (q : Int)) = false := decide_eq_false (by omega)
            have hgn : decide (x2 ≤ q) = false := decide_eq_false hle
            go_wp2_with fail
            go_big_region_o
            have T2 : Hid (SW enc w0 blk 0 dk wr.drew) := (T1.out.drewN 1)
            clear T1
            generalize wr.drew = wy at T2 ⊢
            go_wp2
            go_meet
            case rel => exact ⟨q, rfl, hq1, hq2, (show Hid _ from (scanDown_end (fun x => ltOf cf dk[a]! x) dk x2 q (Or.inl hle)).symm.trans hsc.out), T2⟩
      case rest =>
        clear S6
        obtain ⟨y2, rfl, hy2a, hy2b, HY2, S7⟩ := hcut
        by_cases hg2 : y2 < x2
        · have hgz2 : decide ((y2 : Int) < (x2 : Int)) = true := decide_eq_true (by omega)
          have hgn2 : decide (y2 < x2) = true := decide_eq_true hg2
          have HP : Hid (Sort.partitionEqual (ltOf cf) d a b pivot = (x2, dk)) := (show Hid _ from HE.out.symm.trans (partEq_break (ltOf cf) a x y dk HX2.out HY2.out hg2))
          go_wp2_with fail
          go_ret
          rw [HP.out]
          exact ⟨rfl, S7.out⟩
        · have hgz2 : decide ((y2 : Int) < (x2 : Int)) = false := decide_eq_false (by omega)
          have hgn2 : decide (y2 < x2) = false := decide_eq_false hg2
          have hlt2 := scans_lt (ltOf cf) a x y dk (by omega) HX2.out HY2.out (by omega)
          have HP : Hid (partEqLoop (ltOf cf) a (x2 + 1) (y2 - 1) (swp dk x2 y2) = Sort.partitionEqual (ltOf cf) d a b pivot) := (show Hid _ from (partEq_go (ltOf cf) a x y dk HX2.out HY2.out hg2).symm.trans HE.out)
          go_wp2_with fail
          obtain ⟨iI, hiI⟩ : ∃ z, z = x2 := ⟨_, rfl⟩
          obtain ⟨jI, hjI⟩ : ∃ z, z = y2 := ⟨_, rfl⟩
          have eaI : ((x2 : Int)).toNat = iI := by omega
          have paI : (0 : Int) ≤ (x2 : Int) := by omega
          have baI : (x2 : Int) < (d.size : Int) := by omega
          have raI : IntKind.i64.wrap ((x2 : Int)) = (x2 : Int) := by exact IntWalk.i64_in _ (by omega)
          have ecI : ((y2 : Int)).toNat = jI := by omega
          have pcI : (0 : Int) ≤ (y2 : Int) := by omega
          have bcI : (y2 : Int) < (d.size : Int) := by omega
          have rcI : IntKind.i64.wrap ((y2 : Int)) = (y2 : Int) := by exact IntWalk.i64_in _ (by omega)
          obtain ⟨xI, hxI⟩ : ∃ x, x = dk[x2]! := ⟨_, rfl⟩
          obtain ⟨yI, hyI⟩ : ∃ x, x = dk[y2]! := ⟨_, rfl⟩
          have S8 : Hid (SW enc w0 blk 0 (swp dk (x2) (y2)) ((wc.setCell ⟨blk, iI, none⟩ (enc yI)).setCell ⟨blk, jI, none⟩ (enc xI)).drew) := (show Hid _ from by rw [hiI, hjI, hxI, hyI]; exact sw_s0 S7.out R (x2) (y2) (by omega) (by omega))
          have caI : wc.cell? ⟨blk, iI, none⟩ = some (enc xI) := by rw [hiI, hxI]; exact sw_l1 S7.out R (by omega) (x2) (by omega)
          have cbI : wc.cell? ⟨blk, jI, none⟩ = some (enc yI) := by rw [hjI, hyI]; exact sw_l1 S7.out R (by omega) (y2) (by omega)
          have faI : wc.frozen? ⟨blk, iI, none⟩ = false := by rw [hiI]; exact sw_f0 S7.out R (by omega) (x2) (by omega)
          have fbI : wc.frozen? ⟨blk, jI, none⟩ = false := by rw [hjI]; exact sw_f0 S7.out R (by omega) (y2) (by omega)
          obtain ⟨uI, ccI⟩ : ∃ u, (wc.setCell ⟨blk, iI, none⟩ (enc yI)).cell? ⟨blk, jI, none⟩ = some u := by rw [hiI, hjI]; exact sw_c0 S7.out R (by omega) (x2) (y2) (by omega) (by omega) (enc yI)
          clear S7 hxI hyI hiI hjI
          go_wp2_with fail
          go_big_region_o
          clear caI cbI ccI faI fbI
          generalize ((wc.setCell ⟨blk, iI, none⟩ (enc yI)).setCell ⟨blk, jI, none⟩ (enc xI)).drew = w8 at S8 ⊢
          clear eaI ecI
          go_wp2
          go_roundw
          case rel => exact ⟨x2 + 1, y2 - 1, swp dk x2 y2, by go_num, by go_num, by omega, by omega, by omega, by rw [size_swp]; exact hdk, S8, HP⟩
          case measure => simp [intOf]; omega
end Go.Proofs.Ytbgabipngdillaa
