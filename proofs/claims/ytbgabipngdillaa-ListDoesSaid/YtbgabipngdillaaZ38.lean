/- Joined: Pc. -/
import Derived.Test.YtbgabipngdillaaZ37
namespace Go.Proofs.Ytbgabipngdillaa
open Go.RowKit Go.Shelf Go.Sort Go.Lib
variable {α : Type} [Inhabited α]

set_option maxHeartbeats 16000000 in
set_option maxRecDepth 1000000 in
theorem heap_any (s : Nat) (enc : α → Value) (cf : α → α → Int) (blk cap a b : Nat) (d0 d : Array α) (w0 w : World) (hc : OrdW s enc cf blk d0.size w0) (R : Row1 enc w0 blk 0 d0) (hs : d0.size = d.size) (S : SW enc w0 blk 0 d w) (hab : a ≤ b) (hb : b ≤ d.size) (hsz : d.size ≤ 1000000) :
    Calls Try.prog 88 #[.slice (some ⟨blk, 0, none⟩) d.size cap, .int .i64 a, .int .i64 b, .func (.func 57) #[.pointer (some ⟨s, 0, none⟩)] #[]] w fun e w' =>
      e = .returned (.tuple #[]) ∧ SW enc w0 blk 0 (heapSort (ltOf cf) d a b) w' := by
  have hcl0 := R.hO.cells
  simp only [Value.cells] at hcl0
  have hst := R.hO.store Try.prog
  have mixed : Try.prog.follows .mixedOrders = true := by kernel_rfl
  have HC := Lib.hid hc
  have S0 : Hid (SW enc w0 blk 0 d w) := S
  clear hc S
  have ecast : ((b - a : Nat) : Int) = (b : Int) - (a : Int) := by omega
  go_enter Try.func88, Try.ntmps88
  go_wp2
  go_loopg [11] ((b - a - 1) / 2 + 1) (fun kx vi wr => vi = .int .i64 ((kx : Int) - 1) ∧ kx ≤ (b - a - 1) / 2 + 1 ∧ ∃ (dk : Array α), dk.size = d.size ∧ Hid (SW enc w0 blk 0 dk wr) ∧
    Hid (heapBuild (ltOf cf) (b - a) a kx dk = heapBuild (ltOf cf) (b - a) a ((b - a - 1) / 2 + 1) d))
  case atStart => exact ⟨by rw [half_start hab], Nat.le_refl _, d, rfl, S0, rfl⟩
  case round =>
    clear S0
    obtain ⟨rfl, hkk, dk, hds, S1, HE⟩ := hrel
    cases gk with
    | succ kx =>
      have hcall := sift_any s enc cf blk cap kx (b - a) a d0 dk w0 wr HC.out R (by omega) S1.out (by omega) (by omega) (by omega)
      rw [ecast, hds] at hcall
      have HCL := Lib.hid hcall
      clear S1 hcall
      go_wp2_with (go_at_call 100; refine HCL.out.mono ?_; rintro e w1 ⟨rfl, hS3⟩; have S3 := Lib.hid hS3; clear hS3)
      go_roundg kx
      case measure => omega
      case rel =>
        have hss : (siftDown (ltOf cf) (b - a) a kx dk).size = dk.size := size_siftDown (ltOf cf) _ _ _ _ _ (Nat.le_refl _)
        exact ⟨by simp, by omega, siftDown (ltOf cf) (b - a) a kx dk, by rw [hss, hds], S3, HE⟩
    | zero =>
      have HB : Hid (dk = heapBuild (ltOf cf) (b - a) a ((b - a - 1) / 2 + 1) d) := (show Hid _ from HE.out)
      clear HE hkk
      go_wp2
      go_loopg [12] (b - a) (fun kx vi wr2 => vi = .int .i64 ((kx : Int) - 1) ∧ kx ≤ b - a ∧ ∃ (dj : Array α), dj.size = d.size ∧ Hid (SW enc w0 blk 0 dj wr2) ∧ Hid (heapPop (ltOf cf) a kx dj = heapPop (ltOf cf) a (b - a) dk))
      case atStart => exact ⟨by rw [ecast], Nat.le_refl _, dk, hds, S1, rfl⟩
      case round =>
        clear S1
        obtain ⟨rfl, hkk, dj, hdj, S1, HE2⟩ := hrel
        cases gk with
        | zero =>
          go_wp2
          go_end0
          refine ⟨rfl, ?_⟩
          have e : dj = heapSort (ltOf cf) d a b := by rw [heapSort, ← HB.out, ← HE2.out]; rfl
          rw [← e]
          exact S1.out
        | succ kx =>
          have ekx : ((kx + 1 : Nat) : Int) - 1 = (kx : Int) := by omega
          go_wp2_with fail
          obtain ⟨iA, hiA⟩ : ∃ z, z = a := ⟨_, rfl⟩
          obtain ⟨jA, hjA⟩ : ∃ z, z = a + kx := ⟨_, rfl⟩
          have eaA : ((a : Int)).toNat = iA := by omega
          have paA : (0 : Int) ≤ (a : Int) := by omega
          have baA : (a : Int) < (d.size : Int) := by omega
          have raA : IntKind.i64.wrap ((a : Int)) = (a : Int) := by exact IntWalk.i64_in _ (by omega)
          have ecA : ((a : Int) + (kx : Int)).toNat = jA := by omega
          have pcA : (0 : Int) ≤ (a : Int) + (kx : Int) := by omega
          have bcA : (a : Int) + (kx : Int) < (d.size : Int) := by omega
          have rcA : IntKind.i64.wrap ((a : Int) + (kx : Int)) = (a : Int) + (kx : Int) := by exact IntWalk.i64_in _ (by omega)
          obtain ⟨xA, hxA⟩ : ∃ x, x = dj[a]! := ⟨_, rfl⟩
          obtain ⟨yA, hyA⟩ : ∃ x, x = dj[a + kx]! := ⟨_, rfl⟩
          have S2 : Hid (SW enc w0 blk 0 (swp dj (a) (a + kx)) ((wr.setCell ⟨blk, iA, none⟩ (enc yA)).setCell ⟨blk, jA, none⟩ (enc xA)).drew) := (show Hid _ from by rw [hiA, hjA, hxA, hyA]; exact sw_s0 S1.out R (a) (a + kx) (by omega) (by omega))
          have caA : wr.cell? ⟨blk, iA, none⟩ = some (enc xA) := by rw [hiA, hxA]; exact sw_l1 S1.out R (by omega) (a) (by omega)
          have cbA : wr.cell? ⟨blk, jA, none⟩ = some (enc yA) := by rw [hjA, hyA]; exact sw_l1 S1.out R (by omega) (a + kx) (by omega)
          have faA : wr.frozen? ⟨blk, iA, none⟩ = false := by rw [hiA]; exact sw_f0 S1.out R (by omega) (a) (by omega)
          have fbA : wr.frozen? ⟨blk, jA, none⟩ = false := by rw [hjA]; exact sw_f0 S1.out R (by omega) (a + kx) (by omega)
          obtain ⟨uA, ccA⟩ : ∃ u, (wr.setCell ⟨blk, iA, none⟩ (enc yA)).cell? ⟨blk, jA, none⟩ = some u := by rw [hiA, hjA]; exact sw_c0 S1.out R (by omega) (a) (a + kx) (by omega) (by omega) (enc yA)
          clear S1 hxA hyA hiA hjA
          go_wp2_with fail
          go_big_region_o
          clear caA cbA ccA faA fbA
          generalize ((wr.setCell ⟨blk, iA, none⟩ (enc yA)).setCell ⟨blk, jA, none⟩ (enc xA)).drew = w2 at S2 ⊢
          clear eaA ecA
          have hd2 : (swp dj a (a + kx)).size = d.size := by rw [size_swp]; exact hdj
          have hcall := sift_any s enc cf blk cap 0 kx a d0 (swp dj a (a + kx)) w0 w2 HC.out R (by omega) S2.out (Nat.zero_le _) (by omega) (by omega)
          rw [hd2] at hcall
          have HCL := Lib.hid hcall
          clear S2 hcall
          go_wp2_with (go_at_call 100; refine HCL.out.mono ?_; rintro e w1 ⟨rfl, hS3⟩; have S3 := Lib.hid hS3; clear hS3)
          go_roundg kx
          case measure => omega
          case rel =>
            have hss : (siftDown (ltOf cf) kx a 0 (swp dj a (a + kx))).size = (swp dj a (a + kx)).size := size_siftDown (ltOf cf) _ _ _ _ _ (Nat.le_refl _)
            exact ⟨by simp, by omega, siftDown (ltOf cf) kx a 0 (swp dj a (a + kx)), by rw [hss, hd2], S3, HE2⟩

set_option maxHeartbeats 16000000 in
set_option maxRecDepth 1000000 in
theorem insert_any (s : Nat) (enc : α → Value) (cf : α → α → Int) (blk cap a b : Nat) (d0 d : Array α) (w0 w : World) (hc : OrdW s enc cf blk d0.size w0) (R : Row1 enc w0 blk 0 d0) (hs : d0.size = d.size) (S : SW enc w0 blk 0 d w) (hab : a ≤ b) (hb : b ≤ d.size) (hsz : d.size ≤ 1000000) :
    Calls Try.prog 87 #[.slice (some ⟨blk, 0, none⟩) d.size cap, .int .i64 a, .int .i64 b, .func (.func 57) #[.pointer (some ⟨s, 0, none⟩)] #[]] w fun e w' =>
      e = .returned (.tuple #[]) ∧ SW enc w0 blk 0 (Sort.insertionSort (ltOf cf) d a b) w' := by
  have hcl0 := R.hO.cells
  simp only [Value.cells] at hcl0
  have hst := R.hO.store Try.prog
  have mixed : Try.prog.follows .mixedOrders = true := by kernel_rfl
  have HC := Lib.hid hc
  have S0 : Hid (SW enc w0 blk 0 d w) := S
  clear hc S
  go_enter Try.func87, Try.ntmps87
  go_wp2
  go_loopg [8] (b - a) (fun kx vi wr => ∃ (i : Nat) (dk : Array α), vi = .int .i64 i ∧ a < i ∧ i ≤ b + 1 ∧ b - i ≤ kx ∧ dk.size = d.size ∧ Hid (SW enc w0 blk 0 dk wr) ∧ Hid (insOuter (ltOf cf) a b i dk = insOuter (ltOf cf) a b (a + 1) d))
  case atStart => exact ⟨a + 1, d, by go_num, by omega, by omega, by omega, rfl, S0, rfl⟩
  case round =>
    clear S0
    obtain ⟨i, dk, rfl, hai, hib, hkx, hds, S1, HO⟩ := hrel
    by_cases hlt : i < b
    · have hltz : (i : Int) < (b : Int) := by omega
      go_wp2
      go_loopg [9] i (fun ky vj wr2 => ∃ (j : Nat) (dj : Array α), vj = .int .i64 j ∧ a ≤ j ∧ j ≤ i ∧ j ≤ ky ∧ dj.size = d.size ∧ Hid (SW enc w0 blk 0 dj wr2) ∧ Hid (insInner (ltOf cf) a j dj = insInner (ltOf cf) a i dk))
      case atStart => exact ⟨i, dk, rfl, by omega, Nat.le_refl _, Nat.le_refl _, hds, S1, rfl⟩
      case round =>
        clear S1
        obtain ⟨j, dj, rfl, haj, hji, hky, hdj, S1, HI⟩ := hrel
        have OUT : Aside ((j ≤ a ∨ ltOf cf dj[j]! dj[j - 1]! = false) → Hid (insOuter (ltOf cf) a b (i + 1) dj = insOuter (ltOf cf) a b (a + 1) d)) := fun hst => by
          show _ = _
          rw [← HO.out, insOuter_go _ _ _ _ _ hlt, ← HI.out, insInner_stop _ _ _ _ hst]
        by_cases hja : a < j
        · obtain ⟨jp, rfl⟩ : ∃ jp, j = jp + 1 := ⟨j - 1, by omega⟩
          have hjz : (a : Int) < (jp : Int) + 1 := by omega
          have hjd : decide ((a : Int) < (jp : Int) + 1) = true := decide_eq_true hjz
          have hwp : IntKind.i64.wrap (jp : Int) = (jp : Int) := by exact IntWalk.i64_in _ (by omega)
          cases hL : ltOf cf dj[jp + 1]! dj[jp]! with
          | true =>
            obtain ⟨iA, hiA⟩ : ∃ z, z = jp + 1 := ⟨_, rfl⟩
            obtain ⟨jA, hjA⟩ : ∃ z, z = jp := ⟨_, rfl⟩
            have eaA : ((jp : Int) + 1).toNat = iA := by omega
            have paA : (0 : Int) ≤ (jp : Int) + 1 := by omega
            have baA : (jp : Int) + 1 < (d.size : Int) := by omega
            have raA : IntKind.i64.wrap ((jp : Int) + 1) = (jp : Int) + 1 := by exact IntWalk.i64_in _ (by omega)
            have ecA : ((jp : Int)).toNat = jA := by omega
            have pcA : (0 : Int) ≤ (jp : Int) := by omega
            have bcA : (jp : Int) < (d.size : Int) := by omega
            have rcA : IntKind.i64.wrap ((jp : Int)) = (jp : Int) := by exact IntWalk.i64_in _ (by omega)
            obtain ⟨xA, hxA⟩ : ∃ x, x = dj[jp + 1]! := ⟨_, rfl⟩
            obtain ⟨yA, hyA⟩ : ∃ x, x = dj[jp]! := ⟨_, rfl⟩
            have laA : ∀ n, (wr.drewN n).cell? ⟨blk, iA, none⟩ = some (enc xA) := by rw [hiA, hxA]; exact sw_l0 S1.out R (by omega) (jp + 1) (by omega)
            have lbA : ∀ n, (wr.drewN n).cell? ⟨blk, jA, none⟩ = some (enc yA) := by rw [hjA, hyA]; exact sw_l0 S1.out R (by omega) (jp) (by omega)
            have HOA := Lib.hid (sw_ord S1.out HC.out (by omega) xA yA)
            have hvA : cf xA yA < 0 := by rw [hxA, hyA]; exact of_decide_eq_true hL
            have hdA : decide (cf xA yA < 0) = true := decide_eq_true hvA
            clear hxA hyA hiA hjA
            go_wp2_with fail
            go_quiet_o (first | (go_at_call 57; refine Calls.quiet_of_same (HOA.out _)))
            have S2 : Hid (SW enc w0 blk 0 dj (wr.drewN nq)) := S1.out.drewN nq
            clear laA lbA HOA S1
            generalize wr.drewN nq = w2 at S2 ⊢
            clear nq
            clear eaA ecA
            go_wp2_with fail
            obtain ⟨iB, hiB⟩ : ∃ z, z = jp + 1 := ⟨_, rfl⟩
            obtain ⟨jB, hjB⟩ : ∃ z, z = jp := ⟨_, rfl⟩
            have eaB : ((jp : Int) + 1).toNat = iB := by omega
            have paB : (0 : Int) ≤ (jp : Int) + 1 := by omega
            have baB : (jp : Int) + 1 < (d.size : Int) := by omega
            have raB : IntKind.i64.wrap ((jp : Int) + 1) = (jp : Int) + 1 := by exact IntWalk.i64_in _ (by omega)
            have ecB : ((jp : Int)).toNat = jB := by omega
            have pcB : (0 : Int) ≤ (jp : Int) := by omega
            have bcB : (jp : Int) < (d.size : Int) := by omega
            have rcB : IntKind.i64.wrap ((jp : Int)) = (jp : Int) := by exact IntWalk.i64_in _ (by omega)
            obtain ⟨xB, hxB⟩ : ∃ x, x = dj[jp + 1]! := ⟨_, rfl⟩
            obtain ⟨yB, hyB⟩ : ∃ x, x = dj[jp]! := ⟨_, rfl⟩
            have S3 : Hid (SW enc w0 blk 0 (swp dj (jp + 1) (jp)) ((w2.setCell ⟨blk, iB, none⟩ (enc yB)).setCell ⟨blk, jB, none⟩ (enc xB)).drew) := (show Hid _ from by rw [hiB, hjB, hxB, hyB]; exact sw_s0 S2.out R (jp + 1) (jp) (by omega) (by omega))
            have caB : w2.cell? ⟨blk, iB, none⟩ = some (enc xB) := by rw [hiB, hxB]; exact sw_l1 S2.out R (by omega) (jp + 1) (by omega)
            have cbB : w2.cell? ⟨blk, jB, none⟩ = some (enc yB) := by rw [hjB, hyB]; exact sw_l1 S2.out R (by omega) (jp) (by omega)
            have faB : w2.frozen? ⟨blk, iB, none⟩ = false := by rw [hiB]; exact sw_f0 S2.out R (by omega) (jp + 1) (by omega)
            have fbB : w2.frozen? ⟨blk, jB, none⟩ = false := by rw [hjB]; exact sw_f0 S2.out R (by omega) (jp) (by omega)
            obtain ⟨uB, ccB⟩ : ∃ u, (w2.setCell ⟨blk, iB, none⟩ (enc yB)).cell? ⟨blk, jB, none⟩ = some u := by rw [hiB, hjB]; exact sw_c0 S2.out R (by omega) (jp + 1) (jp) (by omega) (by omega) (enc yB)
            clear S2 hxB hyB hiB hjB
            go_wp2_with fail
            go_big_region_o
            clear caB cbB ccB faB fbB
            generalize ((w2.setCell ⟨blk, iB, none⟩ (enc yB)).setCell ⟨blk, jB, none⟩ (enc xB)).drew = w3 at S3 ⊢
            clear eaB ecB
            go_wp2
            go_roundg jp
            case measure => omega
            case rel =>
              refine ⟨jp, swp dj (jp + 1) jp, by first | rfl | go_num | (congr 1; omega), by omega, by omega, Nat.le_refl _, by rw [size_swp]; exact hdj, S3, (show Hid _ from ?_)⟩
              show _ = _
              have := insInner_go (ltOf cf) a (jp + 1) dj (by omega) (by simpa using hL)
              simp only [Nat.add_sub_cancel] at this
              rw [← HI.out, this]
          | false =>
            obtain ⟨iC, hiC⟩ : ∃ z, z = jp + 1 := ⟨_, rfl⟩
            obtain ⟨jC, hjC⟩ : ∃ z, z = jp := ⟨_, rfl⟩
            have eaC : ((jp : Int) + 1).toNat = iC := by omega
            have paC : (0 : Int) ≤ (jp : Int) + 1 := by omega
            have baC : (jp : Int) + 1 < (d.size : Int) := by omega
            have raC : IntKind.i64.wrap ((jp : Int) + 1) = (jp : Int) + 1 := by exact IntWalk.i64_in _ (by omega)
            have ecC : ((jp : Int)).toNat = jC := by omega
            have pcC : (0 : Int) ≤ (jp : Int) := by omega
            have bcC : (jp : Int) < (d.size : Int) := by omega
            have rcC : IntKind.i64.wrap ((jp : Int)) = (jp : Int) := by exact IntWalk.i64_in _ (by omega)
            obtain ⟨xC, hxC⟩ : ∃ x, x = dj[jp + 1]! := ⟨_, rfl⟩
            obtain ⟨yC, hyC⟩ : ∃ x, x = dj[jp]! := ⟨_, rfl⟩
            have laC : ∀ n, (wr.drewN n).cell? ⟨blk, iC, none⟩ = some (enc xC) := by rw [hiC, hxC]; exact sw_l0 S1.out R (by omega) (jp + 1) (by omega)
            have lbC : ∀ n, (wr.drewN n).cell? ⟨blk, jC, none⟩ = some (enc yC) := by rw [hjC, hyC]; exact sw_l0 S1.out R (by omega) (jp) (by omega)
            have HOC := Lib.hid (sw_ord S1.out HC.out (by omega) xC yC)
            have hvC : ¬ cf xC yC < 0 := by rw [hxC, hyC]; exact of_decide_eq_false hL
            have hdC : decide (cf xC yC < 0) = false := decide_eq_false hvC
            clear hxC hyC hiC hjC
            go_wp2_with fail
            go_quiet_o (first | (go_at_call 57; refine Calls.quiet_of_same (HOC.out _)))
            have S2 : Hid (SW enc w0 blk 0 dj (wr.drewN nq)) := S1.out.drewN nq
            clear laC lbC HOC S1
            generalize wr.drewN nq = w2 at S2 ⊢
            clear nq
            clear eaC ecC
            go_wp2
            go_roundg (b - (i + 1))
            case measure => omega
            case rel => exact ⟨i + 1, dj, by go_num, by omega, by omega, Nat.le_refl _, hdj, S2, OUT.out (Or.inr (by simpa using hL))⟩
        · have hjn : decide ((a : Int) < (j : Int)) = false := decide_eq_false (by omega)
          have hjn2 : decide (a < j) = false := decide_eq_false hja
          go_wp2_with fail
          go_big_region_o
          have S2 : Hid (SW enc w0 blk 0 dj wr.drew) := (S1.out.drewN 1)
          clear S1
          generalize wr.drew = w2 at S2 ⊢
          go_wp2
          go_roundg (b - (i + 1))
          case measure => omega
          case rel => exact ⟨i + 1, dj, by go_num, by omega, by omega, Nat.le_refl _, hdj, S2, OUT.out (Or.inl (by omega))⟩
    · have hltz : ¬ (i : Int) < (b : Int) := by omega
      go_wp2
      go_end0
      refine ⟨rfl, ?_⟩
      unfold Sort.insertionSort
      rw [← HO.out, insOuter_stop _ _ _ _ _ hlt]
      exact S1.out
end Go.Proofs.Ytbgabipngdillaa
