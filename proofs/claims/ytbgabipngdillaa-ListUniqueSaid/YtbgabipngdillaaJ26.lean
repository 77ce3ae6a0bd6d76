/- Joined: Pa Pb Pc Pe. -/
import Derived.Shelf.SlSortCmp.Kit1
import Derived.Sort.WalkB3
import Derived.Sort.WalkC4
import Derived.Sort.WalkC
import Derived.Sort.WalkA6
import Derived.Deep.LoopGhost
import Derived.Test.YtbgabipngdillaaJ12
namespace Go.Proofs.Ytbgabipngdillaa
open Go.RowKit Go.Shelf Go.Sort Go.Lib
variable {α : Type} [Inhabited α] {enc : α → Value} {w0 W : World} {blk : Nat} {dk d0 : Array α}

/-- what the sort asks of the order, in all its worlds -/
def OrdW (s : Nat) (enc : α → Value) (cf : α → α → Int) (blk size : Nat) (w0 : World) : Prop :=
  ∀ (dk : Array α) (W : World), dk.size = size → SW enc w0 blk 0 dk W → ∀ x y : α,
    Calls Try.prog 57 #[.pointer (some ⟨s, 0, none⟩), enc x, enc y] W fun e w' => e = .returned (.int .i64 (cf x y)) ∧ w' = W

theorem sw_ord {s : Nat} {cf : α → α → Int} (h : SW enc w0 blk 0 dk W) (hC : OrdW s enc cf blk d0.size w0) (hs : dk.size = d0.size) (x y : α) (n : Nat) :
    Calls Try.prog 57 #[.pointer (some ⟨s, 0, none⟩), enc x, enc y] (W.drewN n) fun e w' => e = .returned (.int .i64 (cf x y)) ∧ w' = W.drewN n :=
  hC dk _ hs (h.drewN n) x y
theorem sw_l1 (h : SW enc w0 blk 0 dk W) (R : Row1 enc w0 blk 0 d0) (hs : dk.size = d0.size) (i : Nat) (hi : i < dk.size) : W.cell? ⟨blk, i, none⟩ = some (enc dk[i]!) := by
  have := h.c1 R hs i hi
  rwa [Nat.zero_add] at this
theorem sw_f0 (h : SW enc w0 blk 0 dk W) (R : Row1 enc w0 blk 0 d0) (hs : dk.size = d0.size) (i : Nat) (hi : i < dk.size) : W.frozen? ⟨blk, i, none⟩ = false := by
  have := h.f1 R hs i hi
  rwa [Nat.zero_add] at this
theorem sw_l0 (h : SW enc w0 blk 0 dk W) (R : Row1 enc w0 blk 0 d0) (hs : dk.size = d0.size) (i : Nat) (hi : i < dk.size) (n : Nat) : (W.drewN n).cell? ⟨blk, i, none⟩ = some (enc dk[i]!) :=
  sw_l1 (h.drewN n) R hs i hi
theorem sw_c0 (h : SW enc w0 blk 0 dk W) (R : Row1 enc w0 blk 0 d0) (hs : dk.size = d0.size) (i j : Nat) (hi : i < dk.size) (hj : j < dk.size) (v : Value) :
    ∃ u, (W.setCell ⟨blk, i, none⟩ v).cell? ⟨blk, j, none⟩ = some u := by
  have := h.c2 R hs i j hi hj v
  rwa [Nat.zero_add, Nat.zero_add] at this
theorem sw_s0 (h : SW enc w0 blk 0 dk W) (R : Row1 enc w0 blk 0 d0) (i j : Nat) (hi : i < dk.size) (hj : j < dk.size) :
    SW enc w0 blk 0 (swp dk i j) ((W.setCell ⟨blk, i, none⟩ (enc dk[j]!)).setCell ⟨blk, j, none⟩ (enc dk[i]!)).drew := by
  have := h.swapped R i j hi hj
  rwa [Nat.zero_add, Nat.zero_add] at this
end Go.Proofs.Ytbgabipngdillaa

namespace Go.Proofs.Ytbgabipngdillaa
open Go.RowKit Go.Shelf Go.Sort Go.Lib
variable {α : Type} [Inhabited α]

set_option maxHeartbeats 16000000 in
set_option maxRecDepth 1000000 in
theorem sift_any (s : Nat) (enc : α → Value) (cf : α → α → Int) (blk cap lo hi first : Nat) (d0 d : Array α) (w0 w : World) (hc : OrdW s enc cf blk d0.size w0) (R : Row1 enc w0 blk 0 d0) (hs : d0.size = d.size) (S : SW enc w0 blk 0 d w) (hlo : lo ≤ hi) (hb : first + hi ≤ d.size) (hsz : d.size ≤ 1000000) :
    Calls Try.prog 100 #[.slice (some ⟨blk, 0, none⟩) d.size cap, .int .i64 lo, .int .i64 hi, .int .i64 first, .func (.func 57) #[.pointer (some ⟨s, 0, none⟩)] #[]] w fun e w' =>
      e = .returned (.tuple #[]) ∧ SW enc w0 blk 0 (siftDown (ltOf cf) hi first lo d) w' := by
  have hcl0 := R.hO.cells
  simp only [Value.cells] at hcl0
  have hst := R.hO.store Try.prog
  have mixed : Try.prog.follows .mixedOrders = true := by kernel_rfl
  have HC := Lib.hid hc
  have S0 : Hid (SW enc w0 blk 0 d w) := S
  clear hc S
  go_enter Try.func100, Try.ntmps100
  go_wp2
  go_loopg [10] (hi - lo) (fun kx vr wr => ∃ (root : Nat) (dk : Array α), vr = .int .i64 root ∧ root ≤ hi ∧ hi - root ≤ kx ∧ dk.size = d.size ∧ Hid (SW enc w0 blk 0 dk wr) ∧ Hid (siftDown (ltOf cf) hi first root dk = siftDown (ltOf cf) hi first lo d))
  case atStart => exact ⟨lo, d, rfl, hlo, Nat.le_refl _, rfl, S0, rfl⟩
  case round =>
    obtain ⟨root, dk, rfl, hr, hkx, hds, S1, HE⟩ := hrel
    clear S0
    by_cases h0 : hi ≤ 2 * root + 1
    · have h0z : (hi : Int) ≤ 2 * (root : Int) + 1 := by omega
      go_wp2
      go_end0
      refine ⟨rfl, ?_⟩
      rw [← HE.out, sd_end (ltOf cf) dk h0]
      exact S1.out
    · have h0z : ¬ ((hi : Int) ≤ 2 * (root : Int) + 1) := by omega
      have rch : IntKind.i64.wrap (2 * (root : Int) + 1 + 1) = 2 * (root : Int) + 1 + 1 := by exact IntWalk.i64_in _ (by omega)
      by_cases h1 : 2 * root + 2 < hi
      · have h1z : 2 * (root : Int) + 1 + 1 < (hi : Int) := by omega
        cases hL : ltOf cf dk[first + (2 * root + 1)]! dk[first + (2 * root + 2)]! with
        | true =>
          obtain ⟨iA, hiA⟩ : ∃ z, z = first + (2 * root + 1) := ⟨_, rfl⟩
          obtain ⟨jA, hjA⟩ : ∃ z, z = first + (2 * root + 2) := ⟨_, rfl⟩
          have eaA : ((first : Int) + (2 * (root : Int) + 1)).toNat = iA := by omega
          have paA : (0 : Int) ≤ (first : Int) + (2 * (root : Int) + 1) := by omega
          have baA : (first : Int) + (2 * (root : Int) + 1) < (d.size : Int) := by omega
          have raA : IntKind.i64.wrap ((first : Int) + (2 * (root : Int) + 1)) = (first : Int) + (2 * (root : Int) + 1) := by exact IntWalk.i64_in _ (by omega)
          have ecA : ((first : Int) + (2 * (root : Int) + 1) + 1).toNat = jA := by omega
          have pcA : (0 : Int) ≤ (first : Int) + (2 * (root : Int) + 1) + 1 := by omega
          have bcA : (first : Int) + (2 * (root : Int) + 1) + 1 < (d.size : Int) := by omega
          have rcA : IntKind.i64.wrap ((first : Int) + (2 * (root : Int) + 1) + 1) = (first : Int) + (2 * (root : Int) + 1) + 1 := by exact IntWalk.i64_in _ (by omega)
          obtain ⟨xA, hxA⟩ : ∃ x, x = dk[first + (2 * root + 1)]! := ⟨_, rfl⟩
          obtain ⟨yA, hyA⟩ : ∃ x, x = dk[first + (2 * root + 2)]! := ⟨_, rfl⟩
          have laA : ∀ n, (wr.drewN n).cell? ⟨blk, iA, none⟩ = some (enc xA) := by rw [hiA, hxA]; exact sw_l0 S1.out R (by omega) (first + (2 * root + 1)) (by omega)
          have lbA : ∀ n, (wr.drewN n).cell? ⟨blk, jA, none⟩ = some (enc yA) := by rw [hjA, hyA]; exact sw_l0 S1.out R (by omega) (first + (2 * root + 2)) (by omega)
          have HOA := Lib.hid (sw_ord S1.out HC.out (by omega) xA yA)
          have hvA : cf xA yA < 0 := by rw [hxA, hyA]; exact of_decide_eq_true hL
          have hdA : decide (cf xA yA < 0) = true := decide_eq_true hvA
          clear hxA hyA hiA hjA
          go_wp2_with fail
          go_quiet_o (first | (go_at_call 57; refine Calls.quiet_of_same (HOA.out _)))
          have S2 : Hid (SW enc w0 blk 0 dk (wr.drewN nq)) := S1.out.drewN nq
          clear laA lbA HOA S1
          generalize wr.drewN nq = w2 at S2 ⊢
          clear nq
          clear eaA ecA
          go_wp2_with fail
          cases hG : ltOf cf dk[first + root]! dk[first + (2 * root + 2)]! with
          | true =>
            obtain ⟨iB, hiB⟩ : ∃ z, z = first + root := ⟨_, rfl⟩
            obtain ⟨jB, hjB⟩ : ∃ z, z = first + (2 * root + 2) := ⟨_, rfl⟩
            have eaB : ((first : Int) + (root : Int)).toNat = iB := by omega
            have paB : (0 : Int) ≤ (first : Int) + (root : Int) := by omega
            have baB : (first : Int) + (root : Int) < (d.size : Int) := by omega
            have raB : IntKind.i64.wrap ((first : Int) + (root : Int)) = (first : Int) + (root : Int) := by exact IntWalk.i64_in _ (by omega)
            have ecB : ((first : Int) + (2 * (root : Int) + 1 + 1)).toNat = jB := by omega
            have pcB : (0 : Int) ≤ (first : Int) + (2 * (root : Int) + 1 + 1) := by omega
            have bcB : (first : Int) + (2 * (root : Int) + 1 + 1) < (d.size : Int) := by omega
            have rcB : IntKind.i64.wrap ((first : Int) + (2 * (root : Int) + 1 + 1)) = (first : Int) + (2 * (root : Int) + 1 + 1) := by exact IntWalk.i64_in _ (by omega)
            obtain ⟨xB, hxB⟩ : ∃ x, x = dk[first + root]! := ⟨_, rfl⟩
            obtain ⟨yB, hyB⟩ : ∃ x, x = dk[first + (2 * root + 2)]! := ⟨_, rfl⟩
            have laB : ∀ n, (w2.drewN n).cell? ⟨blk, iB, none⟩ = some (enc xB) := by rw [hiB, hxB]; exact sw_l0 S2.out R (by omega) (first + root) (by omega)
            have lbB : ∀ n, (w2.drewN n).cell? ⟨blk, jB, none⟩ = some (enc yB) := by rw [hjB, hyB]; exact sw_l0 S2.out R (by omega) (first + (2 * root + 2)) (by omega)
            have HOB := Lib.hid (sw_ord S2.out HC.out (by omega) xB yB)
            have hvB : cf xB yB < 0 := by rw [hxB, hyB]; exact of_decide_eq_true hG
            have hdB : decide (cf xB yB < 0) = true := decide_eq_true hvB
            clear hxB hyB hiB hjB
            go_wp2_with fail
            go_quiet_o (first | (go_at_call 57; refine Calls.quiet_of_same (HOB.out _)))
            have S3 : Hid (SW enc w0 blk 0 dk (w2.drewN nq)) := S2.out.drewN nq
            clear laB lbB HOB S2
            generalize w2.drewN nq = w3 at S3 ⊢
            clear nq
            clear eaB ecB
            obtain ⟨iC, hiC⟩ : ∃ z, z = first + root := ⟨_, rfl⟩
            obtain ⟨jC, hjC⟩ : ∃ z, z = first + (2 * root + 2) := ⟨_, rfl⟩
            have eaC : ((first : Int) + (root : Int)).toNat = iC := by omega
            have paC : (0 : Int) ≤ (first : Int) + (root : Int) := by omega
            have baC : (first : Int) + (root : Int) < (d.size : Int) := by omega
            have raC : IntKind.i64.wrap ((first : Int) + (root : Int)) = (first : Int) + (root : Int) := by exact IntWalk.i64_in _ (by omega)
            have ecC : ((first : Int) + (2 * (root : Int) + 1 + 1)).toNat = jC := by omega
            have pcC : (0 : Int) ≤ (first : Int) + (2 * (root : Int) + 1 + 1) := by omega
            have bcC : (first : Int) + (2 * (root : Int) + 1 + 1) < (d.size : Int) := by omega
            have rcC : IntKind.i64.wrap ((first : Int) + (2 * (root : Int) + 1 + 1)) = (first : Int) + (2 * (root : Int) + 1 + 1) := by exact IntWalk.i64_in _ (by omega)
            obtain ⟨xC, hxC⟩ : ∃ x, x = dk[first + root]! := ⟨_, rfl⟩
            obtain ⟨yC, hyC⟩ : ∃ x, x = dk[first + (2 * root + 2)]! := ⟨_, rfl⟩
            have S4 : Hid (SW enc w0 blk 0 (swp dk (first + root) (first + (2 * root + 2))) ((w3.setCell ⟨blk, iC, none⟩ (enc yC)).setCell ⟨blk, jC, none⟩ (enc xC)).drew) := (show Hid _ from by rw [hiC, hjC, hxC, hyC]; exact sw_s0 S3.out R (first + root) (first + (2 * root + 2)) (by omega) (by omega))
            have caC : w3.cell? ⟨blk, iC, none⟩ = some (enc xC) := by rw [hiC, hxC]; exact sw_l1 S3.out R (by omega) (first + root) (by omega)
            have cbC : w3.cell? ⟨blk, jC, none⟩ = some (enc yC) := by rw [hjC, hyC]; exact sw_l1 S3.out R (by omega) (first + (2 * root + 2)) (by omega)
            have faC : w3.frozen? ⟨blk, iC, none⟩ = false := by rw [hiC]; exact sw_f0 S3.out R (by omega) (first + root) (by omega)
            have fbC : w3.frozen? ⟨blk, jC, none⟩ = false := by rw [hjC]; exact sw_f0 S3.out R (by omega) (first + (2 * root + 2)) (by omega)
            obtain ⟨uC, ccC⟩ : ∃ u, (w3.setCell ⟨blk, iC, none⟩ (enc yC)).cell? ⟨blk, jC, none⟩ = some u := by rw [hiC, hjC]; exact sw_c0 S3.out R (by omega) (first + root) (first + (2 * root + 2)) (by omega) (by omega) (enc yC)
            clear S3 hxC hyC hiC hjC
            go_wp2_with fail
            go_big_region_o
            clear caC cbC ccC faC fbC
            generalize ((w3.setCell ⟨blk, iC, none⟩ (enc yC)).setCell ⟨blk, jC, none⟩ (enc xC)).drew = w4 at S4 ⊢
            clear eaC ecC
            go_wp2
            go_roundg (hi - (2 * root + 2))
            case measure => omega
            case rel => exact ⟨2 * root + 2, swp dk (first + root) (first + (2 * root + 2)), by go_num, by omega, Nat.le_refl _, by rw [size_swp]; exact hds, S4, (show Hid _ from by show _ = _; rw [← HE.out, sd_right_go (ltOf cf) dk h1 hL hG])⟩
          | false =>
            obtain ⟨iD, hiD⟩ : ∃ z, z = first + root := ⟨_, rfl⟩
            obtain ⟨jD, hjD⟩ : ∃ z, z = first + (2 * root + 2) := ⟨_, rfl⟩
            have eaD : ((first : Int) + (root : Int)).toNat = iD := by omega
            have paD : (0 : Int) ≤ (first : Int) + (root : Int) := by omega
            have baD : (first : Int) + (root : Int) < (d.size : Int) := by omega
            have raD : IntKind.i64.wrap ((first : Int) + (root : Int)) = (first : Int) + (root : Int) := by exact IntWalk.i64_in _ (by omega)
            have ecD : ((first : Int) + (2 * (root : Int) + 1 + 1)).toNat = jD := by omega
            have pcD : (0 : Int) ≤ (first : Int) + (2 * (root : Int) + 1 + 1) := by omega
            have bcD : (first : Int) + (2 * (root : Int) + 1 + 1) < (d.size : Int) := by omega
            have rcD : IntKind.i64.wrap ((first : Int) + (2 * (root : Int) + 1 + 1)) = (first : Int) + (2 * (root : Int) + 1 + 1) := by exact IntWalk.i64_in _ (by omega)
            obtain ⟨xD, hxD⟩ : ∃ x, x = dk[first + root]! := ⟨_, rfl⟩
            obtain ⟨yD, hyD⟩ : ∃ x, x = dk[first + (2 * root + 2)]! := ⟨_, rfl⟩
            have laD : ∀ n, (w2.drewN n).cell? ⟨blk, iD, none⟩ = some (enc xD) := by rw [hiD, hxD]; exact sw_l0 S2.out R (by omega) (first + root) (by omega)
            have lbD : ∀ n, (w2.drewN n).cell? ⟨blk, jD, none⟩ = some (enc yD) := by rw [hjD, hyD]; exact sw_l0 S2.out R (by omega) (first + (2 * root + 2)) (by omega)
            have HOD := Lib.hid (sw_ord S2.out HC.out (by omega) xD yD)
            have hvD : ¬ cf xD yD < 0 := by rw [hxD, hyD]; exact of_decide_eq_false hG
            have hdD : decide (cf xD yD < 0) = false := decide_eq_false hvD
            clear hxD hyD hiD hjD
            go_wp2_with fail
            go_quiet_o (first | (go_at_call 57; refine Calls.quiet_of_same (HOD.out _)))
            have S3 : Hid (SW enc w0 blk 0 dk (w2.drewN nq)) := S2.out.drewN nq
            clear laD lbD HOD S2
            generalize w2.drewN nq = w3 at S3 ⊢
            clear nq
            clear eaD ecD
            go_wp2
            (try simp only [Exit.inBlock, Exit.then]); refine bodyPost_ret (results_none rfl _ _ _) rfl ?_
            refine ⟨rfl, ?_⟩
            rw [← HE.out, sd_right_stop (ltOf cf) dk h1 hL hG]
            exact S3.out
        | false =>
          obtain ⟨iE, hiE⟩ : ∃ z, z = first + (2 * root + 1) := ⟨_, rfl⟩
          obtain ⟨jE, hjE⟩ : ∃ z, z = first + (2 * root + 2) := ⟨_, rfl⟩
          have eaE : ((first : Int) + (2 * (root : Int) + 1)).toNat = iE := by omega
          have paE : (0 : Int) ≤ (first : Int) + (2 * (root : Int) + 1) := by omega
          have baE : (first : Int) + (2 * (root : Int) + 1) < (d.size : Int) := by omega
          have raE : IntKind.i64.wrap ((first : Int) + (2 * (root : Int) + 1)) = (first : Int) + (2 * (root : Int) + 1) := by exact IntWalk.i64_in _ (by omega)
          have ecE : ((first : Int) + (2 * (root : Int) + 1) + 1).toNat = jE := by omega
          have pcE : (0 : Int) ≤ (first : Int) + (2 * (root : Int) + 1) + 1 := by omega
          have bcE : (first : Int) + (2 * (root : Int) + 1) + 1 < (d.size : Int) := by omega
          have rcE : IntKind.i64.wrap ((first : Int) + (2 * (root : Int) + 1) + 1) = (first : Int) + (2 * (root : Int) + 1) + 1 := by exact IntWalk.i64_in _ (by omega)
          obtain ⟨xE, hxE⟩ : ∃ x, x = dk[first + (2 * root + 1)]! := ⟨_, rfl⟩
          obtain ⟨yE, hyE⟩ : ∃ x, x = dk[first + (2 * root + 2)]! := ⟨_, rfl⟩
          have laE : ∀ n, (wr.drewN n).cell? ⟨blk, iE, none⟩ = some (enc xE) := by rw [hiE, hxE]; exact sw_l0 S1.out R (by omega) (first + (2 * root + 1)) (by omega)
          have lbE : ∀ n, (wr.drewN n).cell? ⟨blk, jE, none⟩ = some (enc yE) := by rw [hjE, hyE]; exact sw_l0 S1.out R (by omega) (first + (2 * root + 2)) (by omega)
          have HOE := Lib.hid (sw_ord S1.out HC.out (by omega) xE yE)
          have hvE : ¬ cf xE yE < 0 := by rw [hxE, hyE]; exact of_decide_eq_false hL
          have hdE : decide (cf xE yE < 0) = false := decide_eq_false hvE
          clear hxE hyE hiE hjE
          go_wp2_with fail
          go_quiet_o (first | (go_at_call 57; refine Calls.quiet_of_same (HOE.out _)))
          have S2 : Hid (SW enc w0 blk 0 dk (wr.drewN nq)) := S1.out.drewN nq
          clear laE lbE HOE S1
          generalize wr.drewN nq = w2 at S2 ⊢
          clear nq
          clear eaE ecE
          go_wp2_with fail
          cases hG : ltOf cf dk[first + root]! dk[first + (2 * root + 1)]! with
          | true =>
            obtain ⟨iF, hiF⟩ : ∃ z, z = first + root := ⟨_, rfl⟩
            obtain ⟨jF, hjF⟩ : ∃ z, z = first + (2 * root + 1) := ⟨_, rfl⟩
            have eaF : ((first : Int) + (root : Int)).toNat = iF := by omega
            have paF : (0 : Int) ≤ (first : Int) + (root : Int) := by omega
            have baF : (first : Int) + (root : Int) < (d.size : Int) := by omega
            have raF : IntKind.i64.wrap ((first : Int) + (root : Int)) = (first : Int) + (root : Int) := by exact IntWalk.i64_in _ (by omega)
            have ecF : ((first : Int) + (2 * (root : Int) + 1)).toNat = jF := by omega
            have pcF : (0 : Int) ≤ (first : Int) + (2 * (root : Int) + 1) := by omega
            have bcF : (first : Int) + (2 * (root : Int) + 1) < (d.size : Int) := by omega
            have rcF : IntKind.i64.wrap ((first : Int) + (2 * (root : Int) + 1)) = (first : Int) + (2 * (root : Int) + 1) := by exact IntWalk.i64_in _ (by omega)
            obtain ⟨xF, hxF⟩ : ∃ x, x = dk[first + root]! := ⟨_, rfl⟩
            obtain ⟨yF, hyF⟩ : ∃ x, x = dk[first + (2 * root + 1)]! := ⟨_, rfl⟩
            have laF : ∀ n, (w2.drewN n).cell? ⟨blk, iF, none⟩ = some (enc xF) := by rw [hiF, hxF]; exact sw_l0 S2.out R (by omega) (first + root) (by omega)
            have lbF : ∀ n, (w2.drewN n).cell? ⟨blk, jF, none⟩ = some (enc yF) := by rw [hjF, hyF]; exact sw_l0 S2.out R (by omega) (first + (2 * root + 1)) (by omega)
            have HOF := Lib.hid (sw_ord S2.out HC.out (by omega) xF yF)
            have hvF : cf xF yF < 0 := by rw [hxF, hyF]; exact of_decide_eq_true hG
            have hdF : decide (cf xF yF < 0) = true := decide_eq_true hvF
            clear hxF hyF hiF hjF
            go_wp2_with fail
            go_quiet_o (first | (go_at_call 57; refine Calls.quiet_of_same (HOF.out _)))
            have S3 : Hid (SW enc w0 blk 0 dk (w2.drewN nq)) := S2.out.drewN nq
            clear laF lbF HOF S2
            generalize w2.drewN nq = w3 at S3 ⊢
            clear nq
            clear eaF ecF
            obtain ⟨iG, hiG⟩ : ∃ z, z = first + root := ⟨_, rfl⟩
            obtain ⟨jG, hjG⟩ : ∃ z, z = first + (2 * root + 1) := ⟨_, rfl⟩
            have eaG : ((first : Int) + (root : Int)).toNat = iG := by omega
            have paG : (0 : Int) ≤ (first : Int) + (root : Int) := by omega
            have baG : (first : Int) + (root : Int) < (d.size : Int) := by omega
            have raG : IntKind.i64.wrap ((first : Int) + (root : Int)) = (first : Int) + (root : Int) := by exact IntWalk.i64_in _ (by omega)
            have ecG : ((first : Int) + (2 * (root : Int) + 1)).toNat = jG := by omega
            have pcG : (0 : Int) ≤ (first : Int) + (2 * (root : Int) + 1) := by omega
            have bcG : (first : Int) + (2 * (root : Int) + 1) < (d.size : Int) := by omega
            have rcG : IntKind.i64.wrap ((first : Int) + (2 * (root : Int) + 1)) = (first : Int) + (2 * (root : Int) + 1) := by exact IntWalk.i64_in _ (by omega)
            obtain ⟨xG, hxG⟩ : ∃ x, x = dk[first + root]! := ⟨_, rfl⟩
            obtain ⟨yG, hyG⟩ : ∃ x, x = dk[first + (2 * root + 1)]! := ⟨_, rfl⟩
            have S4 : Hid (SW enc w0 blk 0 (swp dk (first + root) (first + (2 * root + 1))) ((w3.setCell ⟨blk, iG, none⟩ (enc yG)).setCell ⟨blk, jG, none⟩ (enc xG)).drew) := (show Hid _ from by rw [hiG, hjG, hxG, hyG]; exact sw_s0 S3.out R (first + root) (first + (2 * root + 1)) (by omega) (by omega))
            have caG : w3.cell? ⟨blk, iG, none⟩ = some (enc xG) := by rw [hiG, hxG]; exact sw_l1 S3.out R (by omega) (first + root) (by omega)
            have cbG : w3.cell? ⟨blk, jG, none⟩ = some (enc yG) := by rw [hjG, hyG]; exact sw_l1 S3.out R (by omega) (first + (2 * root + 1)) (by omega)
            have faG : w3.frozen? ⟨blk, iG, none⟩ = false := by rw [hiG]; exact sw_f0 S3.out R (by omega) (first + root) (by omega)
            have fbG : w3.frozen? ⟨blk, jG, none⟩ = false := by rw [hjG]; exact sw_f0 S3.out R (by omega) (first + (2 * root + 1)) (by omega)
            obtain ⟨uG, ccG⟩ : ∃ u, (w3.setCell ⟨blk, iG, none⟩ (enc yG)).cell? ⟨blk, jG, none⟩ = some u := by rw [hiG, hjG]; exact sw_c0 S3.out R (by omega) (first + root) (first + (2 * root + 1)) (by omega) (by omega) (enc yG)
            clear S3 hxG hyG hiG hjG
            go_wp2_with fail
            go_big_region_o
            clear caG cbG ccG faG fbG
            generalize ((w3.setCell ⟨blk, iG, none⟩ (enc yG)).setCell ⟨blk, jG, none⟩ (enc xG)).drew = w4 at S4 ⊢
            clear eaG ecG
            go_wp2
            go_roundg (hi - (2 * root + 1))
            case measure => omega
            case rel => exact ⟨2 * root + 1, swp dk (first + root) (first + (2 * root + 1)), by go_num, by omega, Nat.le_refl _, by rw [size_swp]; exact hds, S4, (show Hid _ from by show _ = _; rw [← HE.out, sd_left_go (ltOf cf) dk (by omega) (fun _ => hL) hG])⟩
          | false =>
            obtain ⟨iH, hiH⟩ : ∃ z, z = first + root := ⟨_, rfl⟩
            obtain ⟨jH, hjH⟩ : ∃ z, z = first + (2 * root + 1) := ⟨_, rfl⟩
            have eaH : ((first : Int) + (root : Int)).toNat = iH := by omega
            have paH : (0 : Int) ≤ (first : Int) + (root : Int) := by omega
            have baH : (first : Int) + (root : Int) < (d.size : Int) := by omega
            have raH : IntKind.i64.wrap ((first : Int) + (root : Int)) = (first : Int) + (root : Int) := by exact IntWalk.i64_in _ (by omega)
            have ecH : ((first : Int) + (2 * (root : Int) + 1)).toNat = jH := by omega
            have pcH : (0 : Int) ≤ (first : Int) + (2 * (root : Int) + 1) := by omega
            have bcH : (first : Int) + (2 * (root : Int) + 1) < (d.size : Int) := by omega
            have rcH : IntKind.i64.wrap ((first : Int) + (2 * (root : Int) + 1)) = (first : Int) + (2 * (root : Int) + 1) := by exact IntWalk.i64_in _ (by omega)
            obtain ⟨xH, hxH⟩ : ∃ x, x = dk[first + root]! := ⟨_, rfl⟩
            obtain ⟨yH, hyH⟩ : ∃ x, x = dk[first + (2 * root + 1)]! := ⟨_, rfl⟩
            have laH : ∀ n, (w2.drewN n).cell? ⟨blk, iH, none⟩ = some (enc xH) := by rw [hiH, hxH]; exact sw_l0 S2.out R (by omega) (first + root) (by omega)
            have lbH : ∀ n, (w2.drewN n).cell? ⟨blk, jH, none⟩ = some (enc yH) := by rw [hjH, hyH]; exact sw_l0 S2.out R (by omega) (first + (2 * root + 1)) (by omega)
            have HOH := Lib.hid (sw_ord S2.out HC.out (by omega) xH yH)
            have hvH : ¬ cf xH yH < 0 := by rw [hxH, hyH]; exact of_decide_eq_false hG
            have hdH : decide (cf xH yH < 0) = false := decide_eq_false hvH
            clear hxH hyH hiH hjH
            go_wp2_with fail
            go_quiet_o (first | (go_at_call 57; refine Calls.quiet_of_same (HOH.out _)))
            have S3 : Hid (SW enc w0 blk 0 dk (w2.drewN nq)) := S2.out.drewN nq
            clear laH lbH HOH S2
            generalize w2.drewN nq = w3 at S3 ⊢
            clear nq
            clear eaH ecH
            go_wp2
            (try simp only [Exit.inBlock, Exit.then]); refine bodyPost_ret (results_none rfl _ _ _) rfl ?_
            refine ⟨rfl, ?_⟩
            rw [← HE.out, sd_left_stop (ltOf cf) dk (by omega) (fun _ => hL) hG]
            exact S3.out
      · have h1z : ¬ (2 * (root : Int) + 1 + 1 < (hi : Int)) := by omega
        have h1d : decide (2 * (root : Int) + 1 + 1 < (hi : Int)) = false := decide_eq_false h1z
        go_wp2_with fail
        go_big_region_o
        have S2 : Hid (SW enc w0 blk 0 dk wr.drew) := (S1.out.drewN 1)
        clear S1
        generalize wr.drew = w2 at S2 ⊢
        go_wp2_with fail
        cases hG : ltOf cf dk[first + root]! dk[first + (2 * root + 1)]! with
        | true =>
          obtain ⟨iI, hiI⟩ : ∃ z, z = first + root := ⟨_, rfl⟩
          obtain ⟨jI, hjI⟩ : ∃ z, z = first + (2 * root + 1) := ⟨_, rfl⟩
          have eaI : ((first : Int) + (root : Int)).toNat = iI := by omega
          have paI : (0 : Int) ≤ (first : Int) + (root : Int) := by omega
          have baI : (first : Int) + (root : Int) < (d.size : Int) := by omega
          have raI : IntKind.i64.wrap ((first : Int) + (root : Int)) = (first : Int) + (root : Int) := by exact IntWalk.i64_in _ (by omega)
          have ecI : ((first : Int) + (2 * (root : Int) + 1)).toNat = jI := by omega
          have pcI : (0 : Int) ≤ (first : Int) + (2 * (root : Int) + 1) := by omega
          have bcI : (first : Int) + (2 * (root : Int) + 1) < (d.size : Int) := by omega
          have rcI : IntKind.i64.wrap ((first : Int) + (2 * (root : Int) + 1)) = (first : Int) + (2 * (root : Int) + 1) := by exact IntWalk.i64_in _ (by omega)
          obtain ⟨xI, hxI⟩ : ∃ x, x = dk[first + root]! := ⟨_, rfl⟩
          obtain ⟨yI, hyI⟩ : ∃ x, x = dk[first + (2 * root + 1)]! := ⟨_, rfl⟩
          have laI : ∀ n, (w2.drewN n).cell? ⟨blk, iI, none⟩ = some (enc xI) := by rw [hiI, hxI]; exact sw_l0 S2.out R (by omega) (first + root) (by omega)
          have lbI : ∀ n, (w2.drewN n).cell? ⟨blk, jI, none⟩ = some (enc yI) := by rw [hjI, hyI]; exact sw_l0 S2.out R (by omega) (first + (2 * root + 1)) (by omega)
          have HOI := Lib.hid (sw_ord S2.out HC.out (by omega) xI yI)
          have hvI : cf xI yI < 0 := by rw [hxI, hyI]; exact of_decide_eq_true hG
          have hdI : decide (cf xI yI < 0) = true := decide_eq_true hvI
          clear hxI hyI hiI hjI
          go_wp2_with fail
          go_quiet_o (first | (go_at_call 57; refine Calls.quiet_of_same (HOI.out _)))
          have S3 : Hid (SW enc w0 blk 0 dk (w2.drewN nq)) := S2.out.drewN nq
          clear laI lbI HOI S2
          generalize w2.drewN nq = w3 at S3 ⊢
          clear nq
          clear eaI ecI
          obtain ⟨iJ, hiJ⟩ : ∃ z, z = first + root := ⟨_, rfl⟩
          obtain ⟨jJ, hjJ⟩ : ∃ z, z = first + (2 * root + 1) := ⟨_, rfl⟩
          have eaJ : ((first : Int) + (root : Int)).toNat = iJ := by omega
          have paJ : (0 : Int) ≤ (first : Int) + (root : Int) := by omega
          have baJ : (first : Int) + (root : Int) < (d.size : Int) := by omega
          have raJ : IntKind.i64.wrap ((first : Int) + (root : Int)) = (first : Int) + (root : Int) := by exact IntWalk.i64_in _ (by omega)
          have ecJ : ((first : Int) + (2 * (root : Int) + 1)).toNat = jJ := by omega
          have pcJ : (0 : Int) ≤ (first : Int) + (2 * (root : Int) + 1) := by omega
          have bcJ : (first : Int) + (2 * (root : Int) + 1) < (d.size : Int) := by omega
          have rcJ : IntKind.i64.wrap ((first : Int) + (2 * (root : Int) + 1)) = (first : Int) + (2 * (root : Int) + 1) := by exact IntWalk.i64_in _ (by omega)
          obtain ⟨xJ, hxJ⟩ : ∃ x, x = dk[first + root]! := ⟨_, rfl⟩
          obtain ⟨yJ, hyJ⟩ : ∃ x, x = dk[first + (2 * root + 1)]! := ⟨_, rfl⟩
          have S4 : Hid (SW enc w0 blk 0 (swp dk (first + root) (first + (2 * root + 1))) ((w3.setCell ⟨blk, iJ, none⟩ (enc yJ)).setCell ⟨blk, jJ, none⟩ (enc xJ)).drew) := (show Hid _ from by rw [hiJ, hjJ, hxJ, hyJ]; exact sw_s0 S3.out R (first + root) (first + (2 * root + 1)) (by omega) (by omega))
          have caJ : w3.cell? ⟨blk, iJ, none⟩ = some (enc xJ) := by rw [hiJ, hxJ]; exact sw_l1 S3.out R (by omega) (first + root) (by omega)
          have cbJ : w3.cell? ⟨blk, jJ, none⟩ = some (enc yJ) := by rw [hjJ, hyJ]; exact sw_l1 S3.out R (by omega) (first + (2 * root + 1)) (by omega)
          have faJ : w3.frozen? ⟨blk, iJ, none⟩ = false := by rw [hiJ]; exact sw_f0 S3.out R (by omega) (first + root) (by omega)
          have fbJ : w3.frozen? ⟨blk, jJ, none⟩ = false := by rw [hjJ]; exact sw_f0 S3.out R (by omega) (first + (2 * root + 1)) (by omega)
          obtain ⟨uJ, ccJ⟩ : ∃ u, (w3.setCell ⟨blk, iJ, none⟩ (enc yJ)).cell? ⟨blk, jJ, none⟩ = some u := by rw [hiJ, hjJ]; exact sw_c0 S3.out R (by omega) (first + root) (first + (2 * root + 1)) (by omega) (by omega) (enc yJ)
          clear S3 hxJ hyJ hiJ hjJ
          go_wp2_with fail
          go_big_region_o
          clear caJ cbJ ccJ faJ fbJ
          generalize ((w3.setCell ⟨blk, iJ, none⟩ (enc yJ)).setCell ⟨blk, jJ, none⟩ (enc xJ)).drew = w4 at S4 ⊢
          clear eaJ ecJ
          go_wp2
          go_roundg (hi - (2 * root + 1))
          case measure => omega
          case rel => exact ⟨2 * root + 1, swp dk (first + root) (first + (2 * root + 1)), by go_num, by omega, Nat.le_refl _, by rw [size_swp]; exact hds, S4, (show Hid _ from by show _ = _; rw [← HE.out, sd_left_go (ltOf cf) dk (by omega) (fun h => absurd h h1) hG])⟩
        | false =>
          obtain ⟨iK, hiK⟩ : ∃ z, z = first + root := ⟨_, rfl⟩
          obtain ⟨jK, hjK⟩ : ∃ z, z = first + (2 * root + 1) := ⟨_, rfl⟩
          have eaK : ((first : Int) + (root : Int)).toNat = iK := by omega
          have paK : (0 : Int) ≤ (first : Int) + (root : Int) := by omega
          have baK : (first : Int) + (root : Int) < (d.size : Int) := by omega
          have raK : IntKind.i64.wrap ((first : Int) + (root : Int)) = (first : Int) + (root : Int) := by exact IntWalk.i64_in _ (by omega)
          have ecK : ((first : Int) + (2 * (root : Int) + 1)).toNat = jK := by omega
          have pcK : (0 : Int) ≤ (first : Int) + (2 * (root : Int) + 1) := by omega
          have bcK : (first : Int) + (2 * (root : Int) + 1) < (d.size : Int) := by omega
          have rcK : IntKind.i64.wrap ((first : Int) + (2 * (root : Int) + 1)) = (first : Int) + (2 * (root : Int) + 1) := by exact IntWalk.i64_in _ (by omega)
          obtain ⟨xK, hxK⟩ : ∃ x, x = dk[first + root]! := ⟨_, rfl⟩
          obtain ⟨yK, hyK⟩ : ∃ x, x = dk[first + (2 * root + 1)]! := ⟨_, rfl⟩
          have laK : ∀ n, (w2.drewN n).cell? ⟨blk, iK, none⟩ = some (enc xK) := by rw [hiK, hxK]; exact sw_l0 S2.out R (by omega) (first + root) (by omega)
          have lbK : ∀ n, (w2.drewN n).cell? ⟨blk, jK, none⟩ = some (enc yK) := by rw [hjK, hyK]; exact sw_l0 S2.out R (by omega) (first + (2 * root + 1)) (by omega)
          have HOK := Lib.hid (sw_ord S2.out HC.out (by omega) xK yK)
          have hvK : ¬ cf xK yK < 0 := by rw [hxK, hyK]; exact of_decide_eq_false hG
          have hdK : decide (cf xK yK < 0) = false := decide_eq_false hvK
          clear hxK hyK hiK hjK
          go_wp2_with fail
          go_quiet_o (first | (go_at_call 57; refine Calls.quiet_of_same (HOK.out _)))
          have S3 : Hid (SW enc w0 blk 0 dk (w2.drewN nq)) := S2.out.drewN nq
          clear laK lbK HOK S2
          generalize w2.drewN nq = w3 at S3 ⊢
          clear nq
          clear eaK ecK
          go_wp2
          (try simp only [Exit.inBlock, Exit.then]); refine bodyPost_ret (results_none rfl _ _ _) rfl ?_
          refine ⟨rfl, ?_⟩
          rw [← HE.out, sd_left_stop (ltOf cf) dk (by omega) (fun h => absurd h h1) hG]
          exact S3.out

set_option maxHeartbeats 16000000 in
set_option maxRecDepth 1000000 in
theorem reverse_any (fv : Value) (enc : α → Value) (blk cap a b : Nat) (d0 d : Array α) (w0 w : World) (R : Row1 enc w0 blk 0 d0) (hs : d0.size = d.size) (S : SW enc w0 blk 0 d w) (hab : a ≤ b) (hb : b ≤ d.size) (hsz : d.size ≤ 1000000) :
    Calls Try.prog 91 #[.slice (some ⟨blk, 0, none⟩) d.size cap, .int .i64 a, .int .i64 b, fv] w fun e w' =>
      e = .returned (.tuple #[]) ∧ SW enc w0 blk 0 (reverseRange d a b) w' := by
  have hcl0 := R.hO.cells
  simp only [Value.cells] at hcl0
  have hst := R.hO.store Try.prog
  have mixed : Try.prog.follows .mixedOrders = true := by kernel_rfl
  have S0 : Hid (SW enc w0 blk 0 d w) := S
  clear S
  go_enter Try.func91, Try.ntmps91
  go_wp2
  go_loopg [8, 9] (b - a) (fun kx vi vj wr => ∃ (i jn : Nat) (jz : Int) (dk : Array α), vi = .int .i64 i ∧ vj = .int .i64 jz ∧ ((i : Int) < jz → jz = jn ∧ jn < d.size) ∧ (¬ (i : Int) < jz → ¬ i < jn) ∧ jn - i ≤ kx ∧
    dk.size = d.size ∧ Hid (SW enc w0 blk 0 dk wr) ∧ Hid (reverseLoop i jn dk = reverseLoop a (b - 1) d))
  case atStart => exact ⟨a, b - 1, (b : Int) - 1, d, rfl, rfl, fun h => ⟨by omega, by omega⟩, fun h => by omega, by omega, rfl, S0, rfl⟩
  case round =>
    clear S0
    obtain ⟨i, jn, jz, dk, rfl, rfl, h1, h2, hkx, hds, S1, heq⟩ := hrel
    by_cases hlt : (i : Int) < jz
    · obtain ⟨rfl, hjn⟩ := h1 hlt
      have hij : i < jn := by omega
      clear h1 h2
      obtain ⟨iA, hiA⟩ : ∃ z, z = i := ⟨_, rfl⟩
      obtain ⟨jA, hjA⟩ : ∃ z, z = jn := ⟨_, rfl⟩
      have eaA : ((i : Int)).toNat = iA := by omega
      have paA : (0 : Int) ≤ (i : Int) := by omega
      have baA : (i : Int) < (d.size : Int) := by omega
      have raA : IntKind.i64.wrap ((i : Int)) = (i : Int) := by exact IntWalk.i64_in _ (by omega)
      have ecA : ((jn : Int)).toNat = jA := by omega
      have pcA : (0 : Int) ≤ (jn : Int) := by omega
      have bcA : (jn : Int) < (d.size : Int) := by omega
      have rcA : IntKind.i64.wrap ((jn : Int)) = (jn : Int) := by exact IntWalk.i64_in _ (by omega)
      obtain ⟨xA, hxA⟩ : ∃ x, x = dk[i]! := ⟨_, rfl⟩
      obtain ⟨yA, hyA⟩ : ∃ x, x = dk[jn]! := ⟨_, rfl⟩
      have S2 : Hid (SW enc w0 blk 0 (swp dk (i) (jn)) ((wr.setCell ⟨blk, iA, none⟩ (enc yA)).setCell ⟨blk, jA, none⟩ (enc xA)).drew) := (show Hid _ from by rw [hiA, hjA, hxA, hyA]; exact sw_s0 S1.out R (i) (jn) (by omega) (by omega))
      have caA : wr.cell? ⟨blk, iA, none⟩ = some (enc xA) := by rw [hiA, hxA]; exact sw_l1 S1.out R (by omega) (i) (by omega)
      have cbA : wr.cell? ⟨blk, jA, none⟩ = some (enc yA) := by rw [hjA, hyA]; exact sw_l1 S1.out R (by omega) (jn) (by omega)
      have faA : wr.frozen? ⟨blk, iA, none⟩ = false := by rw [hiA]; exact sw_f0 S1.out R (by omega) (i) (by omega)
      have fbA : wr.frozen? ⟨blk, jA, none⟩ = false := by rw [hjA]; exact sw_f0 S1.out R (by omega) (jn) (by omega)
      obtain ⟨uA, ccA⟩ : ∃ u, (wr.setCell ⟨blk, iA, none⟩ (enc yA)).cell? ⟨blk, jA, none⟩ = some u := by rw [hiA, hjA]; exact sw_c0 S1.out R (by omega) (i) (jn) (by omega) (by omega) (enc yA)
      clear S1 hxA hyA hiA hjA
      go_wp2_with fail
      go_big_region_o
      clear caA cbA ccA faA fbA
      generalize ((wr.setCell ⟨blk, iA, none⟩ (enc yA)).setCell ⟨blk, jA, none⟩ (enc xA)).drew = w2 at S2 ⊢
      clear eaA ecA
      go_wp2
      go_roundg (jn - 1 - (i + 1))
      case measure => omega
      case rel =>
        have he := heq.out
        rw [reverseLoop, if_pos hij] at he
        exact ⟨i + 1, jn - 1, (jn : Int) - 1, swp dk i jn, by simp, rfl, fun h => ⟨by omega, by omega⟩, fun h => by omega, Nat.le_refl _, by rw [size_swp]; exact hds, S2, he⟩
    · have hnot := h2 hlt
      go_wp2
      go_end0
      refine ⟨rfl, ?_⟩
      have he := heq.out
      rw [reverseLoop, if_neg hnot] at he
      rw [reverseRange, ← he]
      exact S1.out
end Go.Proofs.Ytbgabipngdillaa

namespace Go.Proofs.Ytbgabipngdillaa
open Go.RowKit Go.Shelf Go.Sort Go.Lib
variable {α : Type} [Inhabited α]

set_option maxHeartbeats 16000000 in
set_option maxRecDepth 1000000 in
theorem heap_any (s : Nat) (enc : α → Value) (cf : α → α → Int) (blk cap a b : Nat) (d0 d : Array α) (w0 w : World) (hc : OrdW s enc cf blk d0.size w0) (R : Row1 enc w0 blk 0 d0) (hs : d0.size = d.size) (S : SW enc w0 blk 0 d w) (hab : a ≤ b) (hb : b ≤ d.size) (hsz : d.size ≤ 1000000) :
    Calls Try.prog 88 #[.slice (some ⟨blk, 0, none⟩) d.size cap, .int .i64 a, .int .i64 b, .func (.func 57) #[.pointer (some ⟨s, 0, none⟩)] #[]] w fun e w' =>
      e = .returned (.tuple #[]) ∧ SW enc w0 blk 0 (heapSort (ltOf cf) d a b) w' := by
  have hcl0 := R.hO.cells
  simp only [Value.cells] at hcl0
  have hst := R.hO.store Try.prog
  have mixed : Try.prog.follows .mixedOrders = true := by kernel_rfl
  have HC := Lib.hid hc
  have S0 : Hid (SW enc w0 blk 0 d w) := S
  clear hc S
  have ecast : ((b - a : Nat) : Int) = (b : Int) - (a : Int) := by omega
  go_enter Try.func88, Try.ntmps88
  go_wp2
  go_loopg [11] ((b - a - 1) / 2 + 1) (fun kx vi wr => vi = .int .i64 ((kx : Int) - 1) ∧ kx ≤ (b - a - 1) / 2 + 1 ∧ ∃ (dk : Array α), dk.size = d.size ∧ Hid (SW enc w0 blk 0 dk wr) ∧
    Hid (heapBuild (ltOf cf) (b - a) a kx dk = heapBuild (ltOf cf) (b - a) a ((b - a - 1) / 2 + 1) d))
  case atStart => exact ⟨by rw [half_start hab], Nat.le_refl _, d, rfl, S0, rfl⟩
  case round =>
    clear S0
    obtain ⟨rfl, hkk, dk, hds, S1, HE⟩ := hrel
    cases gk with
    | succ kx =>
      have hcall := sift_any s enc cf blk cap kx (b - a) a d0 dk w0 wr HC.out R (by omega) S1.out (by omega) (by omega) (by omega)
      rw [ecast, hds] at hcall
      have HCL := Lib.hid hcall
      clear S1 hcall
      go_wp2_with (go_at_call 100; refine HCL.out.mono ?_; rintro e w1 ⟨rfl, hS3⟩; have S3 := Lib.hid hS3; clear hS3)
      go_roundg kx
      case measure => omega
      case rel =>
        have hss : (siftDown (ltOf cf) (b - a) a kx dk).size = dk.size := size_siftDown (ltOf cf) _ _ _ _ _ (Nat.le_refl _)
        exact ⟨by simp, by omega, siftDown (ltOf cf) (b - a) a kx dk, by rw [hss, hds], S3, HE⟩
    | zero =>
      have HB : Hid (dk = heapBuild (ltOf cf) (b - a) a ((b - a - 1) / 2 + 1) d) := (show Hid _ from HE.out)
      clear HE hkk
      go_wp2
      go_loopg [12] (b - a) (fun kx vi wr2 => vi = .int .i64 ((kx : Int) - 1) ∧ kx ≤ b - a ∧ ∃ (dj : Array α), dj.size = d.size ∧ Hid (SW enc w0 blk 0 dj wr2) ∧ Hid (heapPop (ltOf cf) a kx dj = heapPop (ltOf cf) a (b - a) dk))
      case atStart => exact ⟨by rw [ecast], Nat.le_refl _, dk, hds, S1, rfl⟩
      case round =>
        clear S1
        obtain ⟨rfl, hkk, dj, hdj, S1, HE2⟩ := hrel
        cases gk with
        | zero =>
          go_wp2
          go_end0
          refine ⟨rfl, ?_⟩
          have e : dj = heapSort (ltOf cf) d a b := by rw [heapSort, ← HB.out, ← HE2.out]; rfl
          rw [← e]
          exact S1.out
        | succ kx =>
          have ekx : ((kx + 1 : Nat) : Int) - 1 = (kx : Int) := by omega
          go_wp2_with fail
          obtain ⟨iA, hiA⟩ : ∃ z, z = a := ⟨_, rfl⟩
          obtain ⟨jA, hjA⟩ : ∃ z, z = a + kx := ⟨_, rfl⟩
          have eaA : ((a : Int)).toNat = iA := by omega
          have paA : (0 : Int) ≤ (a : Int) := by omega
          have baA : (a : Int) < (d.size : Int) := by omega
          have raA : IntKind.i64.wrap ((a : Int)) = (a : Int) := by exact IntWalk.i64_in _ (by omega)
          have ecA : ((a : Int) + (kx : Int)).toNat = jA := by omega
          have pcA : (0 : Int) ≤ (a : Int) + (kx : Int) := by omega
          have bcA : (a : Int) + (kx : Int) < (d.size : Int) := by omega
          have rcA : IntKind.i64.wrap ((a : Int) + (kx : Int)) = (a : Int) + (kx : Int) := by exact IntWalk.i64_in _ (by omega)
          obtain ⟨xA, hxA⟩ : ∃ x, x = dj[a]! := ⟨_, rfl⟩
          obtain ⟨yA, hyA⟩ : ∃ x, x = dj[a + kx]! := ⟨_, rfl⟩
          have S2 : Hid (SW enc w0 blk 0 (swp dj (a) (a + kx)) ((wr.setCell ⟨blk, iA, none⟩ (enc yA)).setCell ⟨blk, jA, none⟩ (enc xA)).drew) := (show Hid _ from by rw [hiA, hjA, hxA, hyA]; exact sw_s0 S1.out R (a) (a + kx) (by omega) (by omega))
          have caA : wr.cell? ⟨blk, iA, none⟩ = some (enc xA) := by rw [hiA, hxA]; exact sw_l1 S1.out R (by omega) (a) (by omega)
          have cbA : wr.cell? ⟨blk, jA, none⟩ = some (enc yA) := by rw [hjA, hyA]; exact sw_l1 S1.out R (by omega) (a + kx) (by omega)
          have faA : wr.frozen? ⟨blk, iA, none⟩ = false := by rw [hiA]; exact sw_f0 S1.out R (by omega) (a) (by omega)
          have fbA : wr.frozen? ⟨blk, jA, none⟩ = false := by rw [hjA]; exact sw_f0 S1.out R (by omega) (a + kx) (by omega)
          obtain ⟨uA, ccA⟩ : ∃ u, (wr.setCell ⟨blk, iA, none⟩ (enc yA)).cell? ⟨blk, jA, none⟩ = some u := by rw [hiA, hjA]; exact sw_c0 S1.out R (by omega) (a) (a + kx) (by omega) (by omega) (enc yA)
          clear S1 hxA hyA hiA hjA
          go_wp2_with fail
          go_big_region_o
          clear caA cbA ccA faA fbA
          generalize ((wr.setCell ⟨blk, iA, none⟩ (enc yA)).setCell ⟨blk, jA, none⟩ (enc xA)).drew = w2 at S2 ⊢
          clear eaA ecA
          have hd2 : (swp dj a (a + kx)).size = d.size := by rw [size_swp]; exact hdj
          have hcall := sift_any s enc cf blk cap 0 kx a d0 (swp dj a (a + kx)) w0 w2 HC.out R (by omega) S2.out (Nat.zero_le _) (by omega) (by omega)
          rw [hd2] at hcall
          have HCL := Lib.hid hcall
          clear S2 hcall
          go_wp2_with (go_at_call 100; refine HCL.out.mono ?_; rintro e w1 ⟨rfl, hS3⟩; have S3 := Lib.hid hS3; clear hS3)
          go_roundg kx
          case measure => omega
          case rel =>
            have hss : (siftDown (ltOf cf) kx a 0 (swp dj a (a + kx))).size = (swp dj a (a + kx)).size := size_siftDown (ltOf cf) _ _ _ _ _ (Nat.le_refl _)
            exact ⟨by simp, by omega, siftDown (ltOf cf) kx a 0 (swp dj a (a + kx)), by rw [hss, hd2], S3, HE2⟩

set_option maxHeartbeats 16000000 in
set_option maxRecDepth 1000000 in
theorem insert_any (s : Nat) (enc : α → Value) (cf : α → α → Int) (blk cap a b : Nat) (d0 d : Array α) (w0 w : World) (hc : OrdW s enc cf blk d0.size w0) (R : Row1 enc w0 blk 0 d0) (hs : d0.size = d.size) (S : SW enc w0 blk 0 d w) (hab : a ≤ b) (hb : b ≤ d.size) (hsz : d.size ≤ 1000000) :
    Calls Try.prog 87 #[.slice (some ⟨blk, 0, none⟩) d.size cap, .int .i64 a, .int .i64 b, .func (.func 57) #[.pointer (some ⟨s, 0, none⟩)] #[]] w fun e w' =>
      e = .returned (.tuple #[]) ∧ SW enc w0 blk 0 (Sort.insertionSort (ltOf cf) d a b) w' := by
  have hcl0 := R.hO.cells
  simp only [Value.cells] at hcl0
  have hst := R.hO.store Try.prog
  have mixed : Try.prog.follows .mixedOrders = true := by kernel_rfl
  have HC := Lib.hid hc
  have S0 : Hid (SW enc w0 blk 0 d w) := S
  clear hc S
  go_enter Try.func87, Try.ntmps87
  go_wp2
  go_loopg [8] (b - a) (fun kx vi wr => ∃ (i : Nat) (dk : Array α), vi = .int .i64 i ∧ a < i ∧ i ≤ b + 1 ∧ b - i ≤ kx ∧ dk.size = d.size ∧ Hid (SW enc w0 blk 0 dk wr) ∧ Hid (insOuter (ltOf cf) a b i dk = insOuter (ltOf cf) a b (a + 1) d))
  case atStart => exact ⟨a + 1, d, by go_num, by omega, by omega, by omega, rfl, S0, rfl⟩
  case round =>
    clear S0
    obtain ⟨i, dk, rfl, hai, hib, hkx, hds, S1, HO⟩ := hrel
    by_cases hlt : i < b
    · have hltz : (i : Int) < (b : Int) := by omega
      go_wp2
      go_loopg [9] i (fun ky vj wr2 => ∃ (j : Nat) (dj : Array α), vj = .int .i64 j ∧ a ≤ j ∧ j ≤ i ∧ j ≤ ky ∧ dj.size = d.size ∧ Hid (SW enc w0 blk 0 dj wr2) ∧ Hid (insInner (ltOf cf) a j dj = insInner (ltOf cf) a i dk))
      case atStart => exact ⟨i, dk, rfl, by omega, Nat.le_refl _, Nat.le_refl _, hds, S1, rfl⟩
      case round =>
        clear S1
        obtain ⟨j, dj, rfl, haj, hji, hky, hdj, S1, HI⟩ := hrel
        have OUT : Aside ((j ≤ a ∨ ltOf cf dj[j]! dj[j - 1]! = false) → Hid (insOuter (ltOf cf) a b (i + 1) dj = insOuter (ltOf cf) a b (a + 1) d)) := fun hst => by
          show _ = _
          rw [← HO.out, insOuter_go _ _ _ _ _ hlt, ← HI.out, insInner_stop _ _ _ _ hst]
        by_cases hja : a < j
        · obtain ⟨jp, rfl⟩ : ∃ jp, j = jp + 1 := ⟨j - 1, by omega⟩
          have hjz : (a : Int) < (jp : Int) + 1 := by omega
          have hjd : decide ((a : Int) < (jp : Int) + 1) = true := decide_eq_true hjz
          have hwp : IntKind.i64.wrap (jp : Int) = (jp : Int) := by exact IntWalk.i64_in _ (by omega)
          cases hL : ltOf cf dj[jp + 1]! dj[jp]! with
          | true =>
            obtain ⟨iA, hiA⟩ : ∃ z, z = jp + 1 := ⟨_, rfl⟩
            obtain ⟨jA, hjA⟩ : ∃ z, z = jp := ⟨_, rfl⟩
            have eaA : ((jp : Int) + 1).toNat = iA := by omega
            have paA : (0 : Int) ≤ (jp : Int) + 1 := by omega
            have baA : (jp : Int) + 1 < (d.size : Int) := by omega
            have raA : IntKind.i64.wrap ((jp : Int) + 1) = (jp : Int) + 1 := by exact IntWalk.i64_in _ (by omega)
            have ecA : ((jp : Int)).toNat = jA := by omega
            have pcA : (0 : Int) ≤ (jp : Int) := by omega
            have bcA : (jp : Int) < (d.size : Int) := by omega
            have rcA : IntKind.i64.wrap ((jp : Int)) = (jp : Int) := by exact IntWalk.i64_in _ (by omega)
            obtain ⟨xA, hxA⟩ : ∃ x, x = dj[jp + 1]! := ⟨_, rfl⟩
            obtain ⟨yA, hyA⟩ : ∃ x, x = dj[jp]! := ⟨_, rfl⟩
            have laA : ∀ n, (wr.drewN n).cell? ⟨blk, iA, none⟩ = some (enc xA) := by rw [hiA, hxA]; exact sw_l0 S1.out R (by omega) (jp + 1) (by omega)
            have lbA : ∀ n, (wr.drewN n).cell? ⟨blk, jA, none⟩ = some (enc yA) := by rw [hjA, hyA]; exact sw_l0 S1.out R (by omega) (jp) (by omega)
            have HOA := Lib.hid (sw_ord S1.out HC.out (by omega) xA yA)
            have hvA : cf xA yA < 0 := by rw [hxA, hyA]; exact of_decide_eq_true hL
            have hdA : decide (cf xA yA < 0) = true := decide_eq_true hvA
            clear hxA hyA hiA hjA
            go_wp2_with fail
            go_quiet_o (first | (go_at_call 57; refine Calls.quiet_of_same (HOA.out _)))
            have S2 : Hid (SW enc w0 blk 0 dj (wr.drewN nq)) := S1.out.drewN nq
            clear laA lbA HOA S1
            generalize wr.drewN nq = w2 at S2 ⊢
            clear nq
            clear eaA ecA
            go_wp2_with fail
            obtain ⟨iB, hiB⟩ : ∃ z, z = jp + 1 := ⟨_, rfl⟩
            obtain ⟨jB, hjB⟩ : ∃ z, z = jp := ⟨_, rfl⟩
            have eaB : ((jp : Int) + 1).toNat = iB := by omega
            have paB : (0 : Int) ≤ (jp : Int) + 1 := by omega
            have baB : (jp : Int) + 1 < (d.size : Int) := by omega
            have raB : IntKind.i64.wrap ((jp : Int) + 1) = (jp : Int) + 1 := by exact IntWalk.i64_in _ (by omega)
            have ecB : ((jp : Int)).toNat = jB := by omega
            have pcB : (0 : Int) ≤ (jp : Int) := by omega
            have bcB : (jp : Int) < (d.size : Int) := by omega
            have rcB : IntKind.i64.wrap ((jp : Int)) = (jp : Int) := by exact IntWalk.i64_in _ (by omega)
            obtain ⟨xB, hxB⟩ : ∃ x, x = dj[jp + 1]! := ⟨_, rfl⟩
            obtain ⟨yB, hyB⟩ : ∃ x, x = dj[jp]! := ⟨_, rfl⟩
            have S3 : Hid (SW enc w0 blk 0 (swp dj (jp + 1) (jp)) ((w2.setCell ⟨blk, iB, none⟩ (enc yB)).setCell ⟨blk, jB, none⟩ (enc xB)).drew) := (show Hid _ from by rw [hiB, hjB, hxB, hyB]; exact sw_s0 S2.out R (jp + 1) (jp) (by omega) (by omega))
            have caB : w2.cell? ⟨blk, iB, none⟩ = some (enc xB) := by rw [hiB, hxB]; exact sw_l1 S2.out R (by omega) (jp + 1) (by omega)
            have cbB : w2.cell? ⟨blk, jB, none⟩ = some (enc yB) := by rw [hjB, hyB]; exact sw_l1 S2.out R (by omega) (jp) (by omega)
            have faB : w2.frozen? ⟨blk, iB, none⟩ = false := by rw [hiB]; exact sw_f0 S2.out R (by omega) (jp + 1) (by omega)
            have fbB : w2.frozen? ⟨blk, jB, none⟩ = false := by rw [hjB]; exact sw_f0 S2.out R (by omega) (jp) (by omega)
            obtain ⟨uB, ccB⟩ : ∃ u, (w2.setCell ⟨blk, iB, none⟩ (enc yB)).cell? ⟨blk, jB, none⟩ = some u := by rw [hiB, hjB]; exact sw_c0 S2.out R (by omega) (jp + 1) (jp) (by omega) (by omega) (enc yB)
            clear S2 hxB hyB hiB hjB
            go_wp2_with fail
            go_big_region_o
            clear caB cbB ccB faB fbB
            generalize ((w2.setCell ⟨blk, iB, none⟩ (enc yB)).setCell ⟨blk, jB, none⟩ (enc xB)).drew = w3 at S3 ⊢
            clear eaB ecB
            go_wp2
            go_roundg jp
            case measure => omega
            case rel =>
              refine ⟨jp, swp dj (jp + 1) jp, by first | rfl | go_num | (congr 1; omega), by omega, by omega, Nat.le_refl _, by rw [size_swp]; exact hdj, S3, (show Hid _ from ?_)⟩
              show _ = _
              have := insInner_go (ltOf cf) a (jp + 1) dj (by omega) (by simpa using hL)
              simp only [Nat.add_sub_cancel] at this
              rw [← HI.out, this]
          | false =>
            obtain ⟨iC, hiC⟩ : ∃ z, z = jp + 1 := ⟨_, rfl⟩
            obtain ⟨jC, hjC⟩ : ∃ z, z = jp := ⟨_, rfl⟩
            have eaC : ((jp : Int) + 1).toNat = iC := by omega
            have paC : (0 : Int) ≤ (jp : Int) + 1 := by omega
            have baC : (jp : Int) + 1 < (d.size : Int) := by omega
            have raC : IntKind.i64.wrap ((jp : Int) + 1) = (jp : Int) + 1 := by exact IntWalk.i64_in _ (by omega)
            have ecC : ((jp : Int)).toNat = jC := by omega
            have pcC : (0 : Int) ≤ (jp : Int) := by omega
            have bcC : (jp : Int) < (d.size : Int) := by omega
            have rcC : IntKind.i64.wrap ((jp : Int)) = (jp : Int) := by exact IntWalk.i64_in _ (by omega)
            obtain ⟨xC, hxC⟩ : ∃ x, x = dj[jp + 1]! := ⟨_, rfl⟩
            obtain ⟨yC, hyC⟩ : ∃ x, x = dj[jp]! := ⟨_, rfl⟩
            have laC : ∀ n, (wr.drewN n).cell? ⟨blk, iC, none⟩ = some (enc xC) := by rw [hiC, hxC]; exact sw_l0 S1.out R (by omega) (jp + 1) (by omega)
            have lbC : ∀ n, (wr.drewN n).cell? ⟨blk, jC, none⟩ = some (enc yC) := by rw [hjC, hyC]; exact sw_l0 S1.out R (by omega) (jp) (by omega)
            have HOC := Lib.hid (sw_ord S1.out HC.out (by omega) xC yC)
            have hvC : ¬ cf xC yC < 0 := by rw [hxC, hyC]; exact of_decide_eq_false hL
            have hdC : decide (cf xC yC < 0) = false := decide_eq_false hvC
            clear hxC hyC hiC hjC
            go_wp2_with fail
            go_quiet_o (first | (go_at_call 57; refine Calls.quiet_of_same (HOC.out _)))
            have S2 : Hid (SW enc w0 blk 0 dj (wr.drewN nq)) := S1.out.drewN nq
            clear laC lbC HOC S1
            generalize wr.drewN nq = w2 at S2 ⊢
            clear nq
            clear eaC ecC
            go_wp2
            go_roundg (b - (i + 1))
            case measure => omega
            case rel => exact ⟨i + 1, dj, by go_num, by omega, by omega, Nat.le_refl _, hdj, S2, OUT.out (Or.inr (by simpa using hL))⟩
        · have hjn : decide ((a : Int) < (j : Int)) = false := decide_eq_false (by omega)
          have hjn2 : decide (a < j) = false := decide_eq_false hja
          go_wp2_with fail
          go_big_region_o
          have S2 : Hid (SW enc w0 blk 0 dj wr.drew) := (S1.out.drewN 1)
          clear S1
          generalize wr.drew = w2 at S2 ⊢
          go_wp2
          go_roundg (b - (i + 1))
          case measure => omega
          case rel => exact ⟨i + 1, dj, by go_num, by omega, by omega, Nat.le_refl _, hdj, S2, OUT.out (Or.inl (by omega))⟩
    · have hltz : ¬ (i : Int) < (b : Int) := by omega
      go_wp2
      go_end0
      refine ⟨rfl, ?_⟩
      unfold Sort.insertionSort
      rw [← HO.out, insOuter_stop _ _ _ _ _ hlt]
      exact S1.out
end Go.Proofs.Ytbgabipngdillaa

namespace Go.Proofs.Ytbgabipngdillaa
open Go.RowKit Go.Shelf Go.Sort Go.Lib
variable {α : Type} [Inhabited α]

/-- a world of the sort with a counter at c -/
structure CW (enc : α → Value) (w0 : World) (blk : Nat) (dk : Array α) (c : Nat) (W : World) : Prop where
  sw : SW enc w0 blk 0 dk W
  ce : ∃ x : Int, W.cell? ⟨c, 0, none⟩ = some (.int .i64 x)
  fr : W.frozen? ⟨c, 0, none⟩ = false
  le : w0.heap.size ≤ c
  lt : c < W.heap.size
theorem CW.drewN {enc : α → Value} {w0 W : World} {blk c : Nat} {dk : Array α} (h : CW enc w0 blk dk c W) (n : Nat) : CW enc w0 blk dk c (W.drewN n) :=
  ⟨h.sw.drewN n, h.ce, h.fr, h.le, h.lt⟩
theorem CW.set {enc : α → Value} {w0 W : World} {blk c : Nat} {dk : Array α} (h : CW enc w0 blk dk c W) (t : Int) : CW enc w0 blk dk c (W.setCell ⟨c, 0, none⟩ (.int .i64 t)) :=
  ⟨h.sw.setCell_new c 0 _ h.le, ⟨t, World.cell?_setCell_same' _ _ _ (by obtain ⟨x, hx⟩ := h.ce; rw [hx]; rfl)⟩, by rw [World.frozen?_setCell]; exact h.fr, h.le, by simpa using h.lt⟩
theorem CW.start {enc : α → Value} {w0 W : World} {blk : Nat} {dk : Array α} (h : SW enc w0 blk 0 dk W) (T : TypeId) : CW enc w0 blk dk W.heap.size (W.alloc (.cells #[.int .i64 0] T)) :=
  ⟨h.alloc _, ⟨0, by simp⟩, by simp, h.le, by simp⟩

set_option maxHeartbeats 16000000 in
set_option maxRecDepth 1000000 in
theorem order2_any (s : Nat) (enc : α → Value) (cf : α → α → Int) (blk cap a b c : Nat) (d0 d : Array α) (w0 w : World) (hc : OrdW s enc cf blk d0.size w0) (R : Row1 enc w0 blk 0 d0) (hs : d0.size = d.size) (S : CW enc w0 blk d c w) (ha : a < d.size) (hb : b < d.size) (hsz : d.size ≤ 1000000) :
    Calls Try.prog 106 #[.slice (some ⟨blk, 0, none⟩) d.size cap, .int .i64 a, .int .i64 b, .pointer (some ⟨c, 0, none⟩), .func (.func 57) #[.pointer (some ⟨s, 0, none⟩)] #[]] w fun e w' =>
      ∃ x y : Nat, e = .returned (.tuple #[.int .i64 x, .int .i64 y]) ∧ ((x = a ∧ y = b) ∨ (x = b ∧ y = a)) ∧ CW enc w0 blk d c w' := by
  have hcl0 := R.hO.cells
  simp only [Value.cells] at hcl0
  have mixed : Try.prog.follows .mixedOrders = true := by kernel_rfl
  have HC := Lib.hid hc
  have S0 : Hid (CW enc w0 blk d c w) := S
  clear hc S
  go_enter Try.func106, Try.ntmps106
  go_wp2_with fail
  cases hL : ltOf cf d[b]! d[a]! with
  | true =>
    obtain ⟨iA, hiA⟩ : ∃ z, z = b := ⟨_, rfl⟩
    obtain ⟨jA, hjA⟩ : ∃ z, z = a := ⟨_, rfl⟩
    have eaA : ((b : Int)).toNat = iA := by omega
    have paA : (0 : Int) ≤ (b : Int) := by omega
    have baA : (b : Int) < (d.size : Int) := by omega
    have raA : IntKind.i64.wrap ((b : Int)) = (b : Int) := by exact IntWalk.i64_in _ (by omega)
    have ecA : ((a : Int)).toNat = jA := by omega
    have pcA : (0 : Int) ≤ (a : Int) := by omega
    have bcA : (a : Int) < (d.size : Int) := by omega
    have rcA : IntKind.i64.wrap ((a : Int)) = (a : Int) := by exact IntWalk.i64_in _ (by omega)
    obtain ⟨xA, hxA⟩ : ∃ x, x = d[b]! := ⟨_, rfl⟩
    obtain ⟨yA, hyA⟩ : ∃ x, x = d[a]! := ⟨_, rfl⟩
    have laA : ∀ n, (w.drewN n).cell? ⟨blk, iA, none⟩ = some (enc xA) := by rw [hiA, hxA]; exact sw_l0 S0.out.sw R (by omega) (b) (by omega)
    have lbA : ∀ n, (w.drewN n).cell? ⟨blk, jA, none⟩ = some (enc yA) := by rw [hjA, hyA]; exact sw_l0 S0.out.sw R (by omega) (a) (by omega)
    have HOA := Lib.hid (sw_ord S0.out.sw HC.out (by omega) xA yA)
    have hvA : cf xA yA < 0 := by rw [hxA, hyA]; exact of_decide_eq_true hL
    have hdA : decide (cf xA yA < 0) = true := decide_eq_true hvA
    clear hxA hyA hiA hjA
    go_wp2_with fail
    go_quiet_o (first | (go_at_call 57; refine Calls.quiet_of_same (HOA.out _)))
    have S1 : Hid (CW enc w0 blk d c (w.drewN nq)) := S0.out.drewN nq
    clear laA lbA HOA S0
    generalize w.drewN nq = w1 at S1 ⊢
    clear nq
    clear eaA ecA
    obtain ⟨z, hz⟩ := S1.out.ce
    have hf := S1.out.fr
    go_wp2_with fail
    refine bodyPost_ret (v := .tuple #[.int .i64 b, .int .i64 a]) (by simp [results, Try.results106, go_sem]) rfl ?_
    exact ⟨b, a, rfl, .inr ⟨rfl, rfl⟩, S1.out.set _⟩
  | false =>
    obtain ⟨iB, hiB⟩ : ∃ z, z = b := ⟨_, rfl⟩
    obtain ⟨jB, hjB⟩ : ∃ z, z = a := ⟨_, rfl⟩
    have eaB : ((b : Int)).toNat = iB := by omega
    have paB : (0 : Int) ≤ (b : Int) := by omega
    have baB : (b : Int) < (d.size : Int) := by omega
    have raB : IntKind.i64.wrap ((b : Int)) = (b : Int) := by exact IntWalk.i64_in _ (by omega)
    have ecB : ((a : Int)).toNat = jB := by omega
    have pcB : (0 : Int) ≤ (a : Int) := by omega
    have bcB : (a : Int) < (d.size : Int) := by omega
    have rcB : IntKind.i64.wrap ((a : Int)) = (a : Int) := by exact IntWalk.i64_in _ (by omega)
    obtain ⟨xB, hxB⟩ : ∃ x, x = d[b]! := ⟨_, rfl⟩
    obtain ⟨yB, hyB⟩ : ∃ x, x = d[a]! := ⟨_, rfl⟩
    have laB : ∀ n, (w.drewN n).cell? ⟨blk, iB, none⟩ = some (enc xB) := by rw [hiB, hxB]; exact sw_l0 S0.out.sw R (by omega) (b) (by omega)
    have lbB : ∀ n, (w.drewN n).cell? ⟨blk, jB, none⟩ = some (enc yB) := by rw [hjB, hyB]; exact sw_l0 S0.out.sw R (by omega) (a) (by omega)
    have HOB := Lib.hid (sw_ord S0.out.sw HC.out (by omega) xB yB)
    have hvB : ¬ cf xB yB < 0 := by rw [hxB, hyB]; exact of_decide_eq_false hL
    have hdB : decide (cf xB yB < 0) = false := decide_eq_false hvB
    clear hxB hyB hiB hjB
    go_wp2_with fail
    go_quiet_o (first | (go_at_call 57; refine Calls.quiet_of_same (HOB.out _)))
    have S1 : Hid (CW enc w0 blk d c (w.drewN nq)) := S0.out.drewN nq
    clear laB lbB HOB S0
    generalize w.drewN nq = w1 at S1 ⊢
    clear nq
    clear eaB ecB
    go_wp2
    refine bodyPost_ret (v := .tuple #[.int .i64 a, .int .i64 b]) (by simp [results, Try.results106, go_sem]) rfl ?_
    exact ⟨a, b, rfl, .inl ⟨rfl, rfl⟩, S1.out⟩

set_option maxHeartbeats 16000000 in
set_option maxRecDepth 1000000 in
theorem median_any (s : Nat) (enc : α → Value) (cf : α → α → Int) (blk cap x y z c : Nat) (d0 d : Array α) (w0 w : World) (hc : OrdW s enc cf blk d0.size w0) (R : Row1 enc w0 blk 0 d0) (hs : d0.size = d.size) (S : CW enc w0 blk d c w) (hx : x < d.size) (hy : y < d.size) (hz : z < d.size) (hsz : d.size ≤ 1000000) :
    Calls Try.prog 104 #[.slice (some ⟨blk, 0, none⟩) d.size cap, .int .i64 x, .int .i64 y, .int .i64 z, .pointer (some ⟨c, 0, none⟩), .func (.func 57) #[.pointer (some ⟨s, 0, none⟩)] #[]] w fun e w' =>
      ∃ m : Nat, e = .returned (.int .i64 m) ∧ (m = x ∨ m = y ∨ m = z) ∧ CW enc w0 blk d c w' := by
  have HC := Lib.hid hc
  have S0 := Lib.hid S
  clear hc S
  go_enter Try.func104, Try.ntmps104
  go_wp2_with fail
  (with_reducible refine (order2_any s enc cf blk cap x y c d0 d w0 w HC.out R hs S0.out hx hy hsz).mono ?_)
  rintro e w1 ⟨p1, q1, rfl, h1, hS1⟩
  have S1 := Lib.hid hS1
  have hp1 : p1 < d.size := by omega
  have hq1 : q1 < d.size := by omega
  clear hS1
  go_wp2_with fail
  (with_reducible refine (order2_any s enc cf blk cap q1 z c d0 d w0 w1 HC.out R hs S1.out hq1 hz hsz).mono ?_)
  rintro e w2 ⟨p2, q2, rfl, h2, hS2⟩
  have S2 := Lib.hid hS2
  have hp2 : p2 < d.size := by omega
  clear hS2
  go_wp2_with fail
  (with_reducible refine (order2_any s enc cf blk cap p1 p2 c d0 d w0 w2 HC.out R hs S2.out hp1 hp2 hsz).mono ?_)
  rintro e w3 ⟨p3, q3, rfl, h3, hS3⟩
  have S3 := Lib.hid hS3
  clear hS3
  go_wp2_with fail
  go_ret
  exact ⟨q3, rfl, by omega, S3.out⟩

set_option maxHeartbeats 16000000 in
set_option maxRecDepth 1000000 in
theorem medianAdj_any (s : Nat) (enc : α → Value) (cf : α → α → Int) (blk cap x c : Nat) (d0 d : Array α) (w0 w : World) (hc : OrdW s enc cf blk d0.size w0) (R : Row1 enc w0 blk 0 d0) (hs : d0.size = d.size) (S : CW enc w0 blk d c w) (hx0 : 1 ≤ x) (hx : x + 1 < d.size) (hsz : d.size ≤ 1000000) :
    Calls Try.prog 103 #[.slice (some ⟨blk, 0, none⟩) d.size cap, .int .i64 x, .pointer (some ⟨c, 0, none⟩), .func (.func 57) #[.pointer (some ⟨s, 0, none⟩)] #[]] w fun e w' =>
      ∃ m : Nat, e = .returned (.int .i64 m) ∧ x ≤ m + 1 ∧ m ≤ x + 1 ∧ CW enc w0 blk d c w' := by
  have HC := Lib.hid hc
  have S0 := Lib.hid S
  clear hc S
  obtain ⟨p, rfl⟩ : ∃ p, x = p + 1 := ⟨x - 1, by omega⟩
  have hm := median_any s enc cf blk cap p (p + 1) (p + 2) c d0 d w0 w HC.out R hs S0.out (by omega) (by omega) hx hsz
  have e1 : ((p + 1 : Nat) : Int) - 1 = (p : Int) := by omega
  have e2 : ((p + 2 : Nat) : Int) = ((p + 1 : Nat) : Int) + 1 := by omega
  rw [e2] at hm
  obtain ⟨q, hq⟩ : ∃ q : Int, q = ((p + 1 : Nat) : Int) := ⟨_, rfl⟩
  rw [← hq] at hm e1 ⊢
  have HM := Lib.hid hm
  have eq1 : q - 1 = (p : Int) := e1
  have hqr : 1 ≤ q ∧ q ≤ 1000000 := by omega
  have hQ := Lib.hid hq
  clear hm e1 e2 hq
  go_enter Try.func103, Try.ntmps103
  go_wp2_with fail
  (with_reducible refine HM.out.mono ?_)
  rintro e w1 ⟨m, rfl, h1, hS1⟩
  have S1 := Lib.hid hS1
  clear hS1
  go_wp2_with fail
  go_ret
  exact ⟨m, rfl, by omega, by omega, S1.out⟩
end Go.Proofs.Ytbgabipngdillaa
