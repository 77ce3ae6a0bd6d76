/- Joined: Pk. -/
import Derived.Sort.LotD2
import Derived.Test.YtbgabipngdillaaJ29
namespace Go.Proofs.Ytbgabipngdillaa
open Go.RowKit Go.Shelf Go.Sort Go.Lib
variable {α : Type} [Inhabited α]

/-- a world of the sort with a number at c -/
structure RWd (enc : α → Value) (w0 : World) (blk : Nat) (dk : Array α) (c : Nat) (W : World) : Prop where
  sw : SW enc w0 blk 0 dk W
  ce : ∃ X : Nat, X < 18446744073709551616 ∧ W.cell? ⟨c, 0, none⟩ = some (.int .u64 X)
  fr : W.frozen? ⟨c, 0, none⟩ = false
  le : w0.heap.size ≤ c
theorem RWd.set {enc : α → Value} {w0 W : World} {blk c : Nat} {dk : Array α} (h : RWd enc w0 blk dk c W) (C n : Nat) (hC : C < 18446744073709551616) : RWd enc w0 blk dk c ((W.setCell ⟨c, 0, none⟩ (.int .u64 C)).drewN n) :=
  ⟨(h.sw.setCell_new c 0 _ h.le).drewN n, ⟨C, hC, by rw [World.cell?_drewN]; exact World.cell?_setCell_same' _ _ _ (by obtain ⟨x, _, hx⟩ := h.ce; rw [hx]; rfl)⟩, by rw [World.frozen?_drewN, World.frozen?_setCell]; exact h.fr, h.le⟩
theorem RWd.swap {enc : α → Value} {w0 W : World} {blk c : Nat} {dk d0 : Array α} (h : RWd enc w0 blk dk c W) (R : Row1 enc w0 blk 0 d0) (i j : Nat) (hi : i < dk.size) (hj : j < dk.size) :
    RWd enc w0 blk (swp dk i j) c ((W.setCell ⟨blk, i, none⟩ (enc dk[j]!)).setCell ⟨blk, j, none⟩ (enc dk[i]!)).drew := by
  have hne : c ≠ blk := by have := R.hblk; have := h.le; omega
  obtain ⟨X, hX, hc⟩ := h.ce
  have hk := box_kept_swap1 (W := W) (blk := blk) hne hc h.fr i j (enc dk[j]!) (enc dk[i]!)
  exact ⟨sw_s0 h.sw R i j hi hj, ⟨X, hX, hk.1⟩, hk.2, h.le⟩

set_option maxHeartbeats 16000000 in
set_option maxRecDepth 1000000 in
theorem break_any (fv : Value) (enc : α → Value) (blk cap a b : Nat) (d0 d : Array α) (w0 w : World) (R : Row1 enc w0 blk 0 d0) (hs : d0.size = d.size) (S : SW enc w0 blk 0 d w) (hab : a ≤ b) (hb : b ≤ d.size) (hsz : d.size ≤ 1000000) :
    Calls Try.prog 89 #[.slice (some ⟨blk, 0, none⟩) d.size cap, .int .i64 a, .int .i64 b, fv] w fun e w' =>
      e = .returned (.tuple #[]) ∧ ∃ d' : Array α, PermIn a b d d' ∧ SW enc w0 blk 0 d' w' := by
  have hcl0 := R.hO.cells
  simp only [Value.cells] at hcl0
  have hst := R.hO.store Try.prog
  have mixed : Try.prog.follows .mixedOrders = true := by kernel_rfl
  have S0 : Hid (SW enc w0 blk 0 d w) := S
  clear S
  obtain ⟨l, hl⟩ : ∃ l : Nat, l = b - a := ⟨_, rfl⟩
  obtain ⟨q, hq⟩ : ∃ q : Nat, q = l / 4 := ⟨_, rfl⟩
  have el : (b : Int) - (a : Int) = (l : Int) := by omega
  have eq4 : (l : Int) / 4 = (q : Int) := by omega
  have hq4 : 4 * q ≤ l := by omega
  have hq5 : l < 4 * q + 4 := by omega
  have hlb1 : l + a ≤ b := by omega
  have hlb2 : b ≤ l + a := by omega
  have hwl : IntKind.u64.wrap (l : Int) = l := by simp [IntKind.wrap, IntKind.bits, IntKind.signed]; omega
  clear hl hq
  go_enter Try.func89, Try.ntmps89
  by_cases h8 : 8 ≤ l
  · have h8z : decide ((8 : Int) ≤ (l : Int)) = true := decide_eq_true (by omega)
    have h8n : decide (8 ≤ l) = true := decide_eq_true h8
    obtain ⟨c, ec⟩ : ∃ c, c = w.heap.size := ⟨_, rfl⟩
    obtain ⟨wa, ewa⟩ : ∃ wa : World, wa = w.alloc (.cells #[.int .u64 (l : Int)] 142) := ⟨_, rfl⟩
    have C0 : Hid (RWd enc w0 blk d c wa) := (show Hid _ from by
      rw [ec, ewa]
      exact ⟨S0.out.alloc _, ⟨l, by omega, by simp⟩, by simp, S0.out.le⟩)
    have HWa : Hid (w.alloc (.cells #[.int .u64 (l : Int)] 142) = wa) := (show Hid _ from ewa.symm)
    have HEc := Lib.hid ec
    clear ec ewa S0
    go_upto_region 3 with fail
    rw [HWa.out, ← HEc.out]
    obtain ⟨ix, hix⟩ : ∃ ix : Nat, (a : Int) + (q : Int) * 2 - 1 = (ix : Int) := ⟨a + q * 2 - 1, by omega⟩
    have hix1 : ix + 1 = a + q * 2 := by omega
    have HIX := Lib.hid hix1
    have hixa : a + 1 ≤ ix := by omega
    have hixb : ix + 3 ≤ b := by omega
    clear hix1
    go_wp2_with fail
    (with_reducible refine (pow2_any l wa (by omega) (by omega)).mono ?_)
    rintro e w1 ⟨M, rfl, hM1, hM2, hw1⟩
    subst hw1
    have hMw : IntKind.u64.wrap ((M : Int) - 1) = (M : Int) - 1 := by rw [IntKind.wrap_u64]; omega
    go_wp2_with fail
    go_loopg [11] 3 (fun gk vi wr => ∃ (i : Nat) (dk : Array α), vi = .int .i64 i ∧ ix ≤ i ∧ i ≤ ix + 3 ∧ ix + 3 - i ≤ gk ∧ dk.size = d.size ∧ Hid (PermIn a b d dk) ∧ Hid (RWd enc w0 blk dk c wr))
    case atStart => exact ⟨ix, d, rfl, Nat.le_refl _, by omega, by omega, rfl, (show Hid _ from permIn_refl _ _ _), C0⟩
    case round =>
      clear C0
      obtain ⟨i, dk, rfl, hi1, hi2, hgk, hds, HP, S1⟩ := hrel
      have hix1 := HIX.out
      by_cases hi3 : i ≤ ix + 2
      · have hiz : decide ((i : Int) ≤ (a : Int) + (q : Int) * 2 + 1) = true := decide_eq_true (by omega)
        clear hix1
        obtain ⟨X, hX, hcX⟩ := S1.out.ce
        have hN := next64_any c X hX wr hcX S1.out.fr
        have HN := Lib.hid hN
        clear hN hcX
        go_wp2_with fail
        (with_reducible refine HN.out.mono ?_)
        rintro e w2 ⟨C, n, rfl, hC, hw2⟩
        have S2 : Hid (RWd enc w0 blk dk c w2) := (show Hid _ from by rw [hw2]; exact S1.out.set C n hC)
        clear HN hw2 S1 hX
        obtain ⟨O, hO⟩ : ∃ O : Nat, O = C &&& (M - 1) := ⟨_, rfl⟩
        have lO : O ≤ M - 1 := by rw [hO]; exact Nat.and_le_right
        have eAnd : bits .and .u64 (C : Int) ((M : Int) - 1) = (O : Int) := by
          rw [show ((M : Int) - 1) = ((M - 1 : Nat) : Int) by omega, bits_and_u64_nat _ _ hC (by omega), hO]
        clear hO
        by_cases hLO : l ≤ O
        · have hLOz : decide ((l : Int) ≤ (O : Int)) = true := decide_eq_true (by omega)
          have hLOn : decide (l ≤ O) = true := decide_eq_true hLO
          obtain ⟨oz, hz⟩ : ∃ oz : Nat, (O : Int) - (l : Int) = (oz : Int) := ⟨O - l, by omega⟩
          have hzl : oz < l := by omega
          go_wp2_with fail
          obtain ⟨iA, hiA⟩ : ∃ z, z = i := ⟨_, rfl⟩
          obtain ⟨jA, hjA⟩ : ∃ z, z = a + oz := ⟨_, rfl⟩
          have eaA : ((i : Int)).toNat = iA := by omega
          have paA : (0 : Int) ≤ (i : Int) := by omega
          have baA : (i : Int) < (d.size : Int) := by omega
          have raA : IntKind.i64.wrap ((i : Int)) = (i : Int) := by exact IntWalk.i64_in _ (by omega)
          have ecA : ((a : Int) + (oz : Int)).toNat = jA := by omega
          have pcA : (0 : Int) ≤ (a : Int) + (oz : Int) := by omega
          have bcA : (a : Int) + (oz : Int) < (d.size : Int) := by omega
          have rcA : IntKind.i64.wrap ((a : Int) + (oz : Int)) = (a : Int) + (oz : Int) := by exact IntWalk.i64_in _ (by omega)
          obtain ⟨xA, hxA⟩ : ∃ x, x = dk[i]! := ⟨_, rfl⟩
          obtain ⟨yA, hyA⟩ : ∃ x, x = dk[a + oz]! := ⟨_, rfl⟩
          have S3 : Hid (RWd enc w0 blk (swp dk (i) (a + oz)) c ((w2.setCell ⟨blk, iA, none⟩ (enc yA)).setCell ⟨blk, jA, none⟩ (enc xA)).drew) := (show Hid _ from by rw [hiA, hjA, hxA, hyA]; exact S2.out.swap R (i) (a + oz) (by omega) (by omega))
          have caA : w2.cell? ⟨blk, iA, none⟩ = some (enc xA) := by rw [hiA, hxA]; exact sw_l1 S2.out.sw R (by omega) (i) (by omega)
          have cbA : w2.cell? ⟨blk, jA, none⟩ = some (enc yA) := by rw [hjA, hyA]; exact sw_l1 S2.out.sw R (by omega) (a + oz) (by omega)
          have faA : w2.frozen? ⟨blk, iA, none⟩ = false := by rw [hiA]; exact sw_f0 S2.out.sw R (by omega) (i) (by omega)
          have fbA : w2.frozen? ⟨blk, jA, none⟩ = false := by rw [hjA]; exact sw_f0 S2.out.sw R (by omega) (a + oz) (by omega)
          obtain ⟨uA, ccA⟩ : ∃ u, (w2.setCell ⟨blk, iA, none⟩ (enc yA)).cell? ⟨blk, jA, none⟩ = some u := by rw [hiA, hjA]; exact sw_c0 S2.out.sw R (by omega) (i) (a + oz) (by omega) (by omega) (enc yA)
          clear S2 hxA hyA hiA hjA
          go_wp2_with fail
          go_big_region_o
          clear caA cbA ccA faA fbA
          generalize ((w2.setCell ⟨blk, iA, none⟩ (enc yA)).setCell ⟨blk, jA, none⟩ (enc xA)).drew = w3 at S3 ⊢
          clear eaA ecA
          go_wp2
          go_roundg (ix + 3 - (i + 1))
          case measure => omega
          case rel => exact ⟨i + 1, swp dk i (a + oz), by go_num, by omega, by omega, Nat.le_refl _, by rw [size_swp]; exact hds, (show Hid _ from permIn_trans _ _ _ _ _ HP.out (swp_permIn _ _ _ _ _ (by omega) (by omega) (by omega) (by omega) (by omega))), S3⟩
        · have hLOz : decide ((l : Int) ≤ (O : Int)) = false := decide_eq_false (by omega)
          have hLOn : decide (l ≤ O) = false := decide_eq_false hLO
          go_wp2_with fail
          obtain ⟨iB, hiB⟩ : ∃ z, z = i := ⟨_, rfl⟩
          obtain ⟨jB, hjB⟩ : ∃ z, z = a + O := ⟨_, rfl⟩
          have eaB : ((i : Int)).toNat = iB := by omega
          have paB : (0 : Int) ≤ (i : Int) := by omega
          have baB : (i : Int) < (d.size : Int) := by omega
          have raB : IntKind.i64.wrap ((i : Int)) = (i : Int) := by exact IntWalk.i64_in _ (by omega)
          have ecB : ((a : Int) + (O : Int)).toNat = jB := by omega
          have pcB : (0 : Int) ≤ (a : Int) + (O : Int) := by omega
          have bcB : (a : Int) + (O : Int) < (d.size : Int) := by omega
          have rcB : IntKind.i64.wrap ((a : Int) + (O : Int)) = (a : Int) + (O : Int) := by exact IntWalk.i64_in _ (by omega)
          obtain ⟨xB, hxB⟩ : ∃ x, x = dk[i]! := ⟨_, rfl⟩
          obtain ⟨yB, hyB⟩ : ∃ x, x = dk[a + O]! := ⟨_, rfl⟩
          have S3 : Hid (RWd enc w0 blk (swp dk (i) (a + O)) c ((w2.setCell ⟨blk, iB, none⟩ (enc yB)).setCell ⟨blk, jB, none⟩ (enc xB)).drew) := (show Hid _ from by rw [hiB, hjB, hxB, hyB]; exact S2.out.swap R (i) (a + O) (by omega) (by omega))
          have caB : w2.cell? ⟨blk, iB, none⟩ = some (enc xB) := by rw [hiB, hxB]; exact sw_l1 S2.out.sw R (by omega) (i) (by omega)
          have cbB : w2.cell? ⟨blk, jB, none⟩ = some (enc yB) := by rw [hjB, hyB]; exact sw_l1 S2.out.sw R (by omega) (a + O) (by omega)
          have faB : w2.frozen? ⟨blk, iB, none⟩ = false := by rw [hiB]; exact sw_f0 S2.out.sw R (by omega) (i) (by omega)
          have fbB : w2.frozen? ⟨blk, jB, none⟩ = false := by rw [hjB]; exact sw_f0 S2.out.sw R (by omega) (a + O) (by omega)
          obtain ⟨uB, ccB⟩ : ∃ u, (w2.setCell ⟨blk, iB, none⟩ (enc yB)).cell? ⟨blk, jB, none⟩ = some u := by rw [hiB, hjB]; exact sw_c0 S2.out.sw R (by omega) (i) (a + O) (by omega) (by omega) (enc yB)
          clear S2 hxB hyB hiB hjB
          go_wp2_with fail
          go_big_region_o
          clear caB cbB ccB faB fbB
          generalize ((w2.setCell ⟨blk, iB, none⟩ (enc yB)).setCell ⟨blk, jB, none⟩ (enc xB)).drew = w3 at S3 ⊢
          clear eaB ecB
          go_wp2
          go_roundg (ix + 3 - (i + 1))
          case measure => omega
          case rel => exact ⟨i + 1, swp dk i (a + O), by go_num, by omega, by omega, Nat.le_refl _, by rw [size_swp]; exact hds, (show Hid _ from permIn_trans _ _ _ _ _ HP.out (swp_permIn _ _ _ _ _ (by omega) (by omega) (by omega) (by omega) (by omega))), S3⟩
      · have hiz : decide ((i : Int) ≤ (a : Int) + (q : Int) * 2 + 1) = false := decide_eq_false (by omega)
        clear hix1
        go_wp2_with fail
        go_end0
        exact ⟨rfl, dk, HP.out, S1.out.sw⟩
  · have h8z : decide ((8 : Int) ≤ (l : Int)) = false := decide_eq_false (by omega)
    have h8n : decide (8 ≤ l) = false := decide_eq_false h8
    go_wp2_with fail
    go_end0
    exact ⟨rfl, d, permIn_refl _ _ _, S0.out⟩
end Go.Proofs.Ytbgabipngdillaa
