/- Joined: Pj. -/
import Derived.Sort.LotD3
import Derived.Sort.AssemblyPlain
import Derived.Test.YtbgabipngdillaaJ27
import Derived.Test.YtbgabipngdillaaJ29
import Derived.Test.YtbgabipngdillaaJ30
namespace Go.Proofs.Ytbgabipngdillaa
open Go.RowKit Go.Shelf Go.Sort Go.Lib
variable {α : Type} [Inhabited α]

/-- what is still to be sorted is all that matters -/
def Left (lt : α → α → Bool) (a b : Nat) (d : Array α) (a' b' : Nat) (dk : Array α) : Prop :=
  ∀ d', PermIn a' b' dk d' → SortedIn lt a' b' d' → PermIn a b d d' ∧ SortedIn lt a b d'
theorem Left.perm {lt : α → α → Bool} {a b a' b' : Nat} {d dk d1 : Array α} (h : Left lt a b d a' b' dk) (hp : PermIn a' b' dk d1) : Left lt a b d a' b' d1 :=
  fun d' h1 h2 => h d' (permIn_trans _ _ _ _ _ hp h1) h2

set_option maxHeartbeats 16000000 in
set_option maxRecDepth 1000000 in
theorem pdqs_any (s : Nat) (enc : α → Value) (cf : α → α → Int) (hO : SWO (ltOf cf)) (blk cap : Nat) (d0 : Array α) (w0 : World) (hc : OrdW s enc cf blk d0.size w0) (R : Row1 enc w0 blk 0 d0) (hsz : d0.size ≤ 1000000) :
    ∀ (N a b lim : Nat) (d : Array α) (w : World), b - a < N → d0.size = d.size → SW enc w0 blk 0 d w → a ≤ b → b ≤ d.size → lim ≤ 1000 → Sort.Below (ltOf cf) a b d →
    Calls Try.prog 80 #[.slice (some ⟨blk, 0, none⟩) d.size cap, .int .i64 a, .int .i64 b, .int .i64 lim, .func (.func 57) #[.pointer (some ⟨s, 0, none⟩)] #[]] w fun e w' =>
      e = .returned (.tuple #[]) ∧ ∃ d' : Array α, PermIn a b d d' ∧ SortedIn (ltOf cf) a b d' ∧ SW enc w0 blk 0 d' w' := by
  have hcl0 := R.hO.cells
  simp only [Value.cells] at hcl0
  have hst := R.hO.store Try.prog
  have mixed : Try.prog.follows .mixedOrders = true := by kernel_rfl
  have HC := Lib.hid hc
  have HO := Lib.hid hO
  clear hc hO
  intro N
  induction N with
  | zero => intro _ _ _ _ _ h; exact absurd h (Nat.not_lt_zero _)
  | succ N ih =>
    intro a b lim d w hN hs S hab hb hlim hB
    have IH := Lib.hid ih
    have S0 : Hid (SW enc w0 blk 0 d w) := S
    have B0 : Hid (Sort.Below (ltOf cf) a b d) := hB
    have hdz : d.size ≤ 1000000 := by omega
    clear ih S hB
    go_enter Try.func80, Try.ntmps80
    go_wp2
    go_loopg [1, 2, 3, 10, 11] (b - a) (fun gk s1 s2 s3 s10 s11 wr => ∃ (x y l : Nat) (wb wp : Bool) (dk : Array α), s1 = .int .i64 x ∧ s2 = .int .i64 y ∧ s3 = .int .i64 l ∧ s10 = .bool wb ∧ s11 = .bool wp ∧
      x ≤ y ∧ y ≤ d.size ∧ y - x ≤ gk ∧ gk ≤ b - a ∧ l ≤ 1000 ∧ dk.size = d.size ∧ Hid (Sort.Below (ltOf cf) x y dk) ∧ Hid (SW enc w0 blk 0 dk wr) ∧ Hid (Left (ltOf cf) a b d x y dk))
    case atStart => exact ⟨a, b, lim, true, true, d, rfl, rfl, rfl, rfl, rfl, hab, hb, Nat.le_refl _, Nat.le_refl _, hlim, rfl, B0, S0, (show Hid _ from fun d' h1 h2 => ⟨h1, h2⟩)⟩
    case round =>
      clear S0 B0
      obtain ⟨x, y, l, wb, wp, dk, rfl, rfl, rfl, rfl, rfl, hxy, hyd, hgk, hgN, hl, hds, B1, S1, LF⟩ := hrel
      by_cases h12 : y - x ≤ 12
      · have h12z : decide ((y : Int) - (x : Int) ≤ 12) = true := decide_eq_true (by omega)
        have hcall := insert_any s enc cf blk cap x y d0 dk w0 wr HC.out R (by omega) S1.out hxy (by omega) (by omega)
        rw [hds] at hcall
        have HCL := Lib.hid hcall
        have hins := Lib.hid (insertionSort_holds (lt := ltOf cf) HO.out dk x y hxy (by omega))
        clear hcall
        go_wp2_with (go_at_call 87; refine HCL.out.mono ?_; rintro e w1 ⟨rfl, hw1⟩; have S2 := Lib.hid hw1; clear hw1)
        (try simp only [Exit.inBlock, Exit.then]); refine bodyPost_ret (results_none rfl _ _ _) rfl ?_
        exact ⟨rfl, _, (LF.out _ hins.out.1 hins.out.2).1, (LF.out _ hins.out.1 hins.out.2).2, S2.out⟩
      · have h12z : decide ((y : Int) - (x : Int) ≤ 12) = false := decide_eq_false (by omega)
        by_cases hl0 : l = 0
        · have hlz : ((l : Int) == 0) = true := by rw [beq_iff_eq]; omega
          have hln : (l == 0) = true := by rw [beq_iff_eq]; exact hl0
          have hcall := heap_any s enc cf blk cap x y d0 dk w0 wr HC.out R (by omega) S1.out hxy (by omega) (by omega)
          rw [hds] at hcall
          have HCL := Lib.hid hcall
          have hins := Lib.hid (heapSort_holds (lt := ltOf cf) HO.out dk x y hxy (by omega))
          clear hcall
          go_wp2_with (go_at_call 88; refine HCL.out.mono ?_; rintro e w1 ⟨rfl, hw1⟩; have S2 := Lib.hid hw1; clear hw1)
          (try simp only [Exit.inBlock, Exit.then]); refine bodyPost_ret (results_none rfl _ _ _) rfl ?_
          exact ⟨rfl, _, (LF.out _ hins.out.1 hins.out.2).1, (LF.out _ hins.out.1 hins.out.2).2, S2.out⟩
        · have hlz : ((l : Int) == 0) = false := by rw [beq_eq_false_iff_ne]; omega
          have hln : (l == 0) = false := by rw [beq_eq_false_iff_ne]; exact hl0
          go_upto_if 39 with fail
          go_cut [3] from 21 to 147 (fun v3 wc => ∃ (l2 : Nat) (d1 : Array α), v3 = .int .i64 l2 ∧ l2 ≤ 1000 ∧ d1.size = d.size ∧ Hid (PermIn x y dk d1) ∧ Hid (SW enc w0 blk 0 d1 wc))
          case first =>
            cases wb
            · have HCL := Lib.hid (break_any (.func (.func 57) #[.pointer (some ⟨s, 0, none⟩)] #[]) enc blk cap x y d0 dk w0 wr R (by omega) S1.out hxy (by omega) (by omega))
              have HCL2 : Hid (Calls Try.prog 89 #[.slice (some ⟨blk, 0, none⟩) d.size cap, .int .i64 x, .int .i64 y, .func (.func 57) #[.pointer (some ⟨s, 0, none⟩)] #[]] wr fun e w' => e = .returned (.tuple #[]) ∧ ∃ d' : Array α, PermIn x y dk d' ∧ SW enc w0 blk 0 d' w') := (show Hid _ from by have h := HCL.out; rw [hds] at h; exact h)
              clear HCL
              go_wp2_with (go_at_call 89; refine HCL2.out.mono ?_; rintro e w1 ⟨rfl, d1, hp1, hw1⟩; have P2 := Lib.hid hp1; have S2 := Lib.hid hw1; clear hp1 hw1)
              go_meet
              case rel => exact ⟨l - 1, d1, (show Value.int .i64 ((l : Int) - 1) = Value.int .i64 ((l - 1 : Nat) : Int) from by congr 1; omega), by omega, P2.out.1.trans hds, P2, S2⟩
            · go_wp2_with fail
              go_meet
              case rel => exact ⟨l, dk, rfl, hl, hds, (show Hid _ from permIn_refl _ _ _), S1⟩
          case rest =>
            clear S1
            obtain ⟨l2, d1, rfl, hl2, hd1, P1, S2⟩ := hcut
            have B2 : Hid (Sort.Below (ltOf cf) x y d1) := (show Hid _ from B1.out.perm (by omega) P1.out)
            have L2 : Hid (Left (ltOf cf) a b d x y d1) := (show Hid _ from LF.out.perm P1.out)
            clear B1 LF P1
            have hcall := pivot_any s enc cf blk cap x y d0 d1 w0 wc HC.out R (by omega) S2.out (by omega) (by omega) (by omega)
            rw [hd1] at hcall
            have HCL := Lib.hid hcall
            clear hcall
            go_upto_if 56 with (go_at_call 90; refine HCL.out.mono ?_; rintro e w2 ⟨p, hnt, rfl, hpx, hpy, hht, hw2⟩; have S3 := Lib.hid hw2; clear hw2)
            go_cut [13, 14] from 21 to 147 (fun v13 v14 wc => ∃ (p2 : Nat) (h2 : Int) (d2 : Array α), v13 = .int .i64 p2 ∧ v14 = .int .i64 h2 ∧ x ≤ p2 ∧ p2 < y ∧ d2.size = d.size ∧ Hid (PermIn x y d1 d2) ∧ Hid (SW enc w0 blk 0 d2 wc))
            case first =>
              by_cases hh : hnt = 2
              · have hhz : (hnt == 2) = true := by rw [beq_iff_eq]; exact hh
                subst hh
                have hcall := reverse_any (.func (.func 57) #[.pointer (some ⟨s, 0, none⟩)] #[]) enc blk cap x y d0 d1 w0 w2 R (by omega) S3.out hxy (by omega) (by omega)
                rw [hd1] at hcall
                have HC3 := Lib.hid hcall
                clear hcall
                go_wp2_with (go_at_call 91; refine HC3.out.mono ?_; rintro e w3 ⟨rfl, hw3⟩; have S4 := Lib.hid hw3; clear hw3)
                go_meet
                case rel =>
                  have hp := reverseRange_holds (α := α) d1 x y hxy (by omega)
                  exact ⟨(y - 1) - (p - x), 1, _, (show Value.int .i64 _ = Value.int .i64 _ from by congr 1; omega), rfl, by omega, by omega, hp.1.trans hd1, (show Hid _ from hp), S4⟩
              · have hhz : (hnt == 2) = false := by rw [beq_eq_false_iff_ne]; exact hh
                go_wp2_with fail
                go_meet
                case rel => exact ⟨p, hnt, d1, rfl, rfl, hpx, hpy, hd1, (show Hid _ from permIn_refl _ _ _), S3⟩
            case rest =>
              clear S2 S3 hht hpx hpy HCL
              obtain ⟨p2, h2, d2, rfl, rfl, hp2x, hp2y, hd2, P2, S4⟩ := hcut
              have B3 : Hid (Sort.Below (ltOf cf) x y d2) := (show Hid _ from B2.out.perm (by omega) P2.out)
              have L3 : Hid (Left (ltOf cf) a b d x y d2) := (show Hid _ from L2.out.perm P2.out)
              clear B2 L2 P2
              go_upto_region 15 with fail
              go_cut [75] from 21 to 147 (fun v75 wx => ∃ bb : Bool, v75 = .bool bb ∧ wx = wc)
              case first =>
                by_cases hh : h2 = 1
                · have hhz : (h2 == 1) = true := by rw [beq_iff_eq]; exact hh
                  subst hh
                  cases wb <;> cases wp <;> (go_wp2_with fail; go_meet; exact ⟨_, rfl, rfl⟩)
                · have hhz : (h2 == 1) = false := by rw [beq_eq_false_iff_ne]; exact hh
                  cases wb <;> cases wp <;> (go_wp2_with fail; go_meet; exact ⟨_, rfl, rfl⟩)
              case rest =>
                obtain ⟨bb, rfl, rfl⟩ := hcut
                go_upto_if 75 with fail
                go_cut [] from 21 to 147 (fun wx => ∃ d3 : Array α, d3.size = d.size ∧ Hid (PermIn x y d2 d3) ∧ Hid (SW enc w0 blk 0 d3 wx))
                case first =>
                  cases bb
                  · go_wp2_with fail
                    go_meet
                    case rel => exact ⟨d2, hd2, (show Hid _ from permIn_refl _ _ _), S4⟩
                  · have hcall := partial_any s enc cf blk cap x y d0 d2 w0 wc HC.out R (by omega) S4.out (by omega) (by omega) (by omega)
                    rw [hd2] at hcall
                    have hpi := partialInsertionSort_holds (lt := ltOf cf) HO.out d2 x y (by omega) (by omega) B3.out
                    obtain ⟨r, hr⟩ : ∃ r, r = Sort.partialInsertionSort (ltOf cf) d2 x y := ⟨_, rfl⟩
                    rw [← hr] at hcall hpi
                    clear hr
                    obtain ⟨d3, done⟩ := r
                    have HCL := Lib.hid hcall
                    have HPI := Lib.hid hpi
                    clear hcall hpi
                    cases done
                    · go_wp2_with (go_at_call 92; refine HCL.out.mono ?_; rintro e w4 ⟨rfl, hw4⟩; have S5 := Lib.hid hw4; clear hw4)
                      go_meet
                      case rel => exact ⟨d3, HPI.out.1.1.trans hd2, (show Hid _ from HPI.out.1), S5⟩
                    · go_wp2_with (go_at_call 92; refine HCL.out.mono ?_; rintro e w4 ⟨rfl, hw4⟩; have S5 := Lib.hid hw4; clear hw4)
                      (try simp only [Exit.inBlock, Exit.then]); refine bodyPost_ret (results_none rfl _ _ _) rfl ?_
                      exact ⟨rfl, d3, (L3.out d3 HPI.out.1 (by first | exact HPI.out.2 rfl | exact HPI.out.2 trivial)).1, (L3.out d3 HPI.out.1 (by first | exact HPI.out.2 rfl | exact HPI.out.2 trivial)).2, S5.out⟩
                case rest =>
                  clear S4
                  obtain ⟨d3, hd3, P3, S5⟩ := hcut
                  have B4 : Hid (Sort.Below (ltOf cf) x y d3) := (show Hid _ from B3.out.perm (by omega) P3.out)
                  have L4 : Hid (Left (ltOf cf) a b d x y d3) := (show Hid _ from L3.out.perm P3.out)
                  clear B3 L3 P3
                  go_upto_region 17 with fail
                  go_cut [97] from 21 to 147 (fun v97 wz => ∃ bb : Bool, v97 = .bool bb ∧ Hid (bb = true → 0 < x ∧ ltOf cf d3[x - 1]! d3[p2]! = false) ∧ Hid (SW enc w0 blk 0 d3 wz))
                  case first =>
                    by_cases hx0 : 0 < x
                    · obtain ⟨xp, hxp⟩ : ∃ xp, xp = x - 1 := ⟨_, rfl⟩
                      have ezx : (x : Int) - 1 = (xp : Int) := by omega
                      have hxz : decide ((0 : Int) < (x : Int)) = true := decide_eq_true (by omega)
                      have hxn : decide (0 < x) = true := decide_eq_true hx0
                      have HXP : Hid (xp = x - 1) := (show Hid _ from hxp)
                      clear hxp
                      cases hL : ltOf cf d3[xp]! d3[p2]! with
                      | true =>
                        obtain ⟨iA, hiA⟩ : ∃ z, z = xp := ⟨_, rfl⟩
                        obtain ⟨jA, hjA⟩ : ∃ z, z = p2 := ⟨_, rfl⟩
                        have eaA : ((xp : Int)).toNat = iA := by omega
                        have paA : (0 : Int) ≤ (xp : Int) := by omega
                        have baA : (xp : Int) < (d.size : Int) := by omega
                        have raA : IntKind.i64.wrap ((xp : Int)) = (xp : Int) := by exact IntWalk.i64_in _ (by omega)
                        have ecA : ((p2 : Int)).toNat = jA := by omega
                        have pcA : (0 : Int) ≤ (p2 : Int) := by omega
                        have bcA : (p2 : Int) < (d.size : Int) := by omega
                        have rcA : IntKind.i64.wrap ((p2 : Int)) = (p2 : Int) := by exact IntWalk.i64_in _ (by omega)
                        obtain ⟨xA, hxA⟩ : ∃ x, x = d3[xp]! := ⟨_, rfl⟩
                        obtain ⟨yA, hyA⟩ : ∃ x, x = d3[p2]! := ⟨_, rfl⟩
                        have laA : ∀ n, (wc.drewN n).cell? ⟨blk, iA, none⟩ = some (enc xA) := by rw [hiA, hxA]; exact sw_l0 S5.out R (by omega) (xp) (by omega)
                        have lbA : ∀ n, (wc.drewN n).cell? ⟨blk, jA, none⟩ = some (enc yA) := by rw [hjA, hyA]; exact sw_l0 S5.out R (by omega) (p2) (by omega)
                        have HOA := Lib.hid (sw_ord S5.out HC.out (by omega) xA yA)
                        have hvA : cf xA yA < 0 := by rw [hxA, hyA]; exact of_decide_eq_true hL
                        have hdA : decide (cf xA yA < 0) = true := decide_eq_true hvA
                        clear hxA hyA hiA hjA
                        go_wp2_with fail
                        go_quiet_o (first | (go_at_call 57; refine Calls.quiet_of_same (HOA.out _)))
                        have S6 : Hid (SW enc w0 blk 0 d3 (wc.drewN nq)) := S5.out.drewN nq
                        clear laA lbA HOA S5
                        generalize wc.drewN nq = wy at S6 ⊢
                        clear nq
                        clear eaA ecA
                        go_wp2
                        go_meet
                        case rel => exact ⟨false, rfl, (show Hid _ from fun h => by cases h), S6⟩
                      | false =>
                        obtain ⟨iB, hiB⟩ : ∃ z, z = xp := ⟨_, rfl⟩
                        obtain ⟨jB, hjB⟩ : ∃ z, z = p2 := ⟨_, rfl⟩
                        have eaB : ((xp : Int)).toNat = iB := by omega
                        have paB : (0 : Int) ≤ (xp : Int) := by omega
                        have baB : (xp : Int) < (d.size : Int) := by omega
                        have raB : IntKind.i64.wrap ((xp : Int)) = (xp : Int) := by exact IntWalk.i64_in _ (by omega)
                        have ecB : ((p2 : Int)).toNat = jB := by omega
                        have pcB : (0 : Int) ≤ (p2 : Int) := by omega
                        have bcB : (p2 : Int) < (d.size : Int) := by omega
                        have rcB : IntKind.i64.wrap ((p2 : Int)) = (p2 : Int) := by exact IntWalk.i64_in _ (by omega)
                        obtain ⟨xB, hxB⟩ : ∃ x, x = d3[xp]! := ⟨_, rfl⟩
                        obtain ⟨yB, hyB⟩ : ∃ x, x = d3[p2]! := ⟨_, rfl⟩
                        have laB : ∀ n, (wc.drewN n).cell? ⟨blk, iB, none⟩ = some (enc xB) := by rw [hiB, hxB]; exact sw_l0 S5.out R (by omega) (xp) (by omega)
                        have lbB : ∀ n, (wc.drewN n).cell? ⟨blk, jB, none⟩ = some (enc yB) := by rw [hjB, hyB]; exact sw_l0 S5.out R (by omega) (p2) (by omega)
                        have HOB := Lib.hid (sw_ord S5.out HC.out (by omega) xB yB)
                        have hvB : ¬ cf xB yB < 0 := by rw [hxB, hyB]; exact of_decide_eq_false hL
                        have hdB : decide (cf xB yB < 0) = false := decide_eq_false hvB
                        clear hxB hyB hiB hjB
                        go_wp2_with fail
                        go_quiet_o (first | (go_at_call 57; refine Calls.quiet_of_same (HOB.out _)))
                        have S6 : Hid (SW enc w0 blk 0 d3 (wc.drewN nq)) := S5.out.drewN nq
                        clear laB lbB HOB S5
                        generalize wc.drewN nq = wy at S6 ⊢
                        clear nq
                        clear eaB ecB
                        go_wp2
                        go_meet
                        case rel => exact ⟨true, rfl, (show Hid _ from fun _ => ⟨hx0, by rw [← HXP.out]; exact hL⟩), S6⟩
                    · have hxz : decide ((0 : Int) < (x : Int)) = false := decide_eq_false (by omega)
                      have hxn : decide (0 < x) = false := decide_eq_false hx0
                      go_wp2_with fail
                      go_big_region_o
                      have S6 : Hid (SW enc w0 blk 0 d3 wc.drew) := (S5.out.drewN 1)
                      clear S5
                      generalize wc.drew = wy at S6 ⊢
                      go_wp2
                      go_meet
                      case rel => exact ⟨false, rfl, (show Hid _ from fun h => by cases h), S6⟩
                  case rest =>
                    clear S5
                    obtain ⟨bb, rfl, HBB, S6⟩ := hcut
                    cases bb
                    · have hcall := part_any s enc cf blk cap x y p2 d0 d3 w0 wc HC.out R (by omega) S6.out hp2x hp2y (by omega) (by omega)
                      obtain ⟨r, hx⟩ : ∃ r, Sort.partition (ltOf cf) d3 x y p2 = r := ⟨_, rfl⟩
                      obtain ⟨mid, ap, d4⟩ := r
                      have hrp := round_part HO.out (partition_holds (ltOf cf)) hp2x hp2y (by omega) B4.out hx
                      obtain ⟨r1, r2, r3, r4, r5, r6, r7⟩ := hrp
                      rw [hd3, hx] at hcall
                      have HCL := Lib.hid hcall
                      have hs4 : d4.size = d.size := r3.trans hd3
                      have R4 := Lib.hid r4
                      have R5 := Lib.hid r5
                      have R6 := Lib.hid r6
                      have R7 := Lib.hid r7
                      clear hcall hx r3 r4 r5 r6 r7 HBB
                      go_upto_if 125 with (go_at_call 94; refine HCL.out.mono ?_; rintro e w7 ⟨rfl, hw7⟩; have S7 := Lib.hid hw7; clear hw7)
                      by_cases h4 : mid - x < y - mid
                      · have h4z : decide ((mid : Int) - (x : Int) < (y : Int) - (mid : Int)) = true := decide_eq_true (by omega)
                        have hih := IH.out x mid l2 d4 w7 (by omega) (by omega) S7.out (by omega) (by omega) hl2 R4.out
                        rw [hs4] at hih
                        have HI := Lib.hid hih
                        clear hih
                        go_wp2_with (go_at_call 80; refine HI.out.mono ?_; rintro e w8 ⟨rfl, dL, hpL, hsL, hw8⟩; have S8 := Lib.hid hw8; have PL := Lib.hid hpL; have SL8 := Lib.hid hsL; clear hw8 hpL hsL)
                        go_roundg (y - (mid + 1))
                        case measure => omega
                        case rel =>
                          have h6 := R6.out dL PL.out SL8.out
                          exact ⟨mid + 1, y, l2, _, ap, dL, by go_num, rfl, rfl, rfl, rfl, by omega, hyd, Nat.le_refl _, by omega, hl2, PL.out.1.trans hs4, h6.1, S8, (show Hid _ from fun d' h1 h2 => let h := h6.2 d' h1 h2; L4.out d' h.1 h.2)⟩
                      · have h4z : decide ((mid : Int) - (x : Int) < (y : Int) - (mid : Int)) = false := decide_eq_false (by omega)
                        have hih := IH.out (mid + 1) y l2 d4 w7 (by omega) (by omega) S7.out (by omega) (by omega) hl2 R5.out
                        rw [show ((mid + 1 : Nat) : Int) = (mid : Int) + 1 by omega, hs4] at hih
                        have HI := Lib.hid hih
                        clear hih
                        go_wp2_with (go_at_call 80; refine HI.out.mono ?_; rintro e w8 ⟨rfl, dL, hpL, hsL, hw8⟩; have S8 := Lib.hid hw8; have PL := Lib.hid hpL; have SL8 := Lib.hid hsL; clear hw8 hpL hsL)
                        go_roundg (mid - x)
                        case measure => omega
                        case rel =>
                          have h7 := R7.out dL PL.out SL8.out
                          exact ⟨x, mid, l2, _, ap, dL, rfl, rfl, rfl, rfl, rfl, by omega, by omega, Nat.le_refl _, by omega, hl2, PL.out.1.trans hs4, h7.1, S8, (show Hid _ from fun d' h1 h2 => let h := h7.2 d' h1 h2; L4.out d' h.1 h.2)⟩
                    · obtain ⟨hx0, hnl⟩ := HBB.out rfl
                      have hcall := parteq_any s enc cf blk cap x y p2 d0 d3 w0 wc HC.out R (by omega) S6.out hp2x hp2y (by omega) (by omega)
                      obtain ⟨r, hx⟩ : ∃ r, Sort.partitionEqual (ltOf cf) d3 x y p2 = r := ⟨_, rfl⟩
                      obtain ⟨mid, d4⟩ := r
                      have hrp := round_eq HO.out (partitionEqual_holds (ltOf cf)) hx0 hp2x hp2y (by omega) B4.out hnl hx
                      obtain ⟨r1, r2, r3, r4, r5⟩ := hrp
                      rw [hd3, hx] at hcall
                      have HCL := Lib.hid hcall
                      have hs4 : d4.size = d.size := r3.trans hd3
                      have R4 := Lib.hid r4
                      have R5 := Lib.hid r5
                      clear hcall hx r3 r4 r5 HBB hnl
                      go_wp2_with (go_at_call 93; refine HCL.out.mono ?_; rintro e w7 ⟨rfl, hw7⟩; have S7 := Lib.hid hw7; clear hw7)
                      go_roundg (y - mid)
                      case measure => omega
                      case rel => exact ⟨mid, y, l2, wb, wp, d4, rfl, rfl, rfl, rfl, rfl, r2, hyd, Nat.le_refl _, by omega, hl2, hs4, R4, S7, (show Hid _ from fun d' h1 h2 => let h := R5.out d' h1 h2; L4.out d' h.1 h.2)⟩

set_option maxHeartbeats 4000000 in
set_option maxRecDepth 1000000 in
theorem sorts_any (s : Nat) (enc : α → Value) (cf : α → α → Int) (hO : SWO (ltOf cf)) (blk cap : Nat) (d : Array α) (w : World) (hc : OrdW s enc cf blk d.size w) (R : Row1 enc w blk 0 d) (hsz : d.size ≤ 1000000) :
    Calls Try.prog 56 #[.slice (some ⟨blk, 0, none⟩) d.size cap, .func (.func 57) #[.pointer (some ⟨s, 0, none⟩)] #[]] w fun e w' =>
      e = .returned (.tuple #[]) ∧ ∃ d' : Array α, PermIn 0 d.size d d' ∧ SortedIn (ltOf cf) 0 d.size d' ∧ SW enc w blk 0 d' w' := by
  have hz1 : IntKind.u64.wrap (d.size : Int) = (d.size : Int) := by simp [IntKind.wrap, IntKind.bits, IntKind.signed]; omega
  have hLen : ∀ w, Calls Try.prog 81 #[.int .u64 (d.size : Int)] w fun e w' => e = .returned (.int .i64 (bitsLen d.size : Nat)) ∧ w' = w := fun w => by
    have h := Try.bits_Len (d.size : Int) w (by omega) (by omega)
    rwa [Int.toNat_natCast, bitLen_eq _ (by omega)] at h
  have hk : bitsLen d.size ≤ 62 := (bitsLen_le_iff d.size 62).2 (by omega)
  have hp := pdqs_any s enc cf hO blk cap d w hc R hsz (d.size + 1) 0 d.size (bitsLen d.size) d w (by omega) rfl (SW.start R.hH) (Nat.zero_le _) (Nat.le_refl _) (by omega) (Or.inl rfl)
  rw [show ((0 : Nat) : Int) = 0 from rfl] at hp
  have HL := Lib.hid hLen
  have HP := Lib.hid hp
  clear hLen hp hc R
  go_enter Try.func56, Try.ntmps56
  go_wp2_with fail
  (with_reducible refine (HL.out _).mono ?_)
  rintro e w' ⟨rfl, rfl⟩
  go_wp2_with fail
  (with_reducible refine HP.out.mono ?_)
  rintro e w1 ⟨rfl, d', h1, h2, h3⟩
  go_wp2_with fail
  go_end0
  exact ⟨rfl, d', h1, h2, h3⟩
end Go.Proofs.Ytbgabipngdillaa
