/- Joined: Ds Se Bg. -/
import Derived.Lib.SliceRun
import Derived.Deep.RegionHeld3
import Derived.Deep.RegionWith
import Derived.Deep.Cut
import Derived.Test.YtbgabipngdillaaJ14
import Derived.Test.YtbgabipngdillaaJ04
import Derived.Test.YtbgabipngdillaaJ01
import Derived.Test.YtbgabipngdillaaJ03
namespace Go.Proofs.Ytbgabipngdillaa
open Go.RowKit

theorem own_lo {w : World} {base base' e size n : Nat} {v : Value} {xs : List Value} (h : w.ownsRow base e size v n xs) (hb : base' ≤ base) : w.ownsRow base' e size v n xs := by
  refine ⟨h.1, ?_⟩
  rcases h.2 with hn | ⟨g, cap, cur, rfl, hbg, rest⟩
  · exact .inl hn
  · exact .inr ⟨g, cap, cur, rfl, by omega, rest⟩
end Go.Proofs.Ytbgabipngdillaa

namespace Go.Proofs.Ytbgabipngdillaa
open Go.RowKit

/-- The value v is a slice of ints outside block g that reads as l. -/
def SE (g : Nat) (w : World) (v : Value) (l : List Int) : Prop :=
  ∃ A c, v = .slice A l.length c ∧ l.length ≤ c ∧ c ≤ 9223372036854775807 ∧ (∀ x ∈ l, i64r x) ∧
    (0 < l.length → ∃ b off, A = some ⟨b, off, none⟩ ∧ b < w.heap.size ∧ b ≠ g ∧ ∀ j (h : j < l.length), w.cell? ⟨b, off + j, none⟩ = some (.int .i64 l[j]))
theorem SE.grown {g : Nat} {w w' : World} {v : Value} {l : List Int} (h : SE g w v l) (hg : w.grownBy w' (some g)) : SE g w' v l := by
  obtain ⟨A, c, rfl, hc, hm, hr, ha⟩ := h
  refine ⟨A, c, rfl, hc, hm, hr, fun h0 => ?_⟩
  obtain ⟨b, off, rfl, hb, hbg, hcell⟩ := ha h0
  exact ⟨b, off, rfl, Nat.lt_of_lt_of_le hb hg.size, hbg, fun j hj => (World.cell?_of_block (hg.block b hb (by simpa using hbg))).trans (hcell j hj)⟩
theorem SE.below {g : Nat} {w w' : World} {v : Value} {l : List Int} (h : SE g w v l) (hb : Below w.heap.size w w') : SE g w' v l := h.grown (grownBy_of_below hb _)
theorem SE.si {g : Nat} {w : World} {v : Value} {l : List Int} (h : SE g w v l) : SI w v l := by
  obtain ⟨A, c, rfl, hc, hm, hr, ha⟩ := h
  refine ⟨A, c, rfl, hc, hm, hr, fun h0 => ?_⟩
  obtain ⟨b, off, rfl, hb, _, hcell⟩ := ha h0
  exact ⟨b, off, rfl, hb, hcell⟩
theorem SE.form {g : Nat} {w : World} {v : Value} {l : List Int} (h : SE g w v l) : ∃ A c, v = .slice A l.length c := by
  obtain ⟨A, c, rfl, _⟩ := h
  exact ⟨A, c, rfl⟩
end Go.Proofs.Ytbgabipngdillaa

namespace Go.Proofs.Ytbgabipngdillaa
open Go.RowKit

def pms : List Int := [2, 3, 5, 7, 11, 13, 17, 257, 65521]
theorem pms_pr : ∀ j (h : j < 9), prB (pms[j]'h) = true
  | 0, _ => by kernel_rfl | 1, _ => by kernel_rfl | 2, _ => by kernel_rfl | 3, _ => by kernel_rfl | 4, _ => by kernel_rfl | 5, _ => by kernel_rfl | 6, _ => by kernel_rfl | 7, _ => by kernel_rfl | 8, _ => by kernel_rfl
theorem pms_mono : ∀ j (hj : j < 9), ∀ i (hi : i ≤ j), pms[i]'(Nat.lt_of_le_of_lt hi hj) ≤ pms[j]'hj := by decide
def lnOf : Value → Nat | .slice _ n _ => n | _ => 0
set_option maxRecDepth 100000 in
set_option maxHeartbeats 4000000 in
theorem big_any (g : Nat) (least : Int) (w : World) (hD : Dk w g) (h0 : 0 ≤ least) (h1 : least ≤ 16) :
    Calls Try.prog 30 #[.pointer (some ⟨g, 0, none⟩), .int .i64 least] w fun e w' => ∃ P, e = .returned (.agg #[.int .i64 P]) ∧ Dk w' g ∧ w.grownBy w' (some g) ∧ prB P = true ∧ least < P := by
  have HD := Lib.hid hD
  have hgw : g < w.heap.size := hD.lt
  clear hD
  go_enter Try.func30, Try.ntmps30
  obtain ⟨R, eR⟩ : ∃ R, R = w.heap.size := ⟨_, rfl⟩
  obtain ⟨w1, ew1⟩ : ∃ w1 : World, w1 = w.alloc (.cells #[.int .i64 0] 26) := ⟨_, rfl⟩
  have HW1 : Hid (w.alloc (.cells #[.int .i64 0] 26) = w1) := ew1.symm
  have HR1 : Hid (w1.heap[R]? = some (.cells #[.int .i64 0] 26 (0, 0))) := (show Hid _ from by show _ = _; rw [ew1, eR]; exact heap_alloc_new w _)
  have HB1 : Hid (Below w.heap.size w w1) := (show Hid _ from by rw [ew1]; exact (Below.refl _ w).alloc (Nat.le_refl _) _)
  have hz1 : w1.heap.size = R + 1 := by rw [ew1, eR]; simp
  have HD1 := Lib.hid (HD.out.below HB1.out)
  have hgR : g < R := by omega
  have HER := Lib.hid eR
  have HZ1 := Lib.hid hz1
  clear ew1 hz1
  go_upto_region 1 with fail
  rw [HW1.out, ← eR]
  clear eR
  obtain ⟨b, eb⟩ : ∃ b, b = w1.heap.size := ⟨_, rfl⟩
  obtain ⟨w2, ew2⟩ : ∃ w2 : World, w2 = w1.alloc (.cells #[.int .i64 2, .int .i64 3, .int .i64 5, .int .i64 7, .int .i64 11, .int .i64 13, .int .i64 17, .int .i64 257, .int .i64 65521] 3) := ⟨_, rfl⟩
  have HW2 : Hid (w1.alloc (.cells #[.int .i64 2, .int .i64 3, .int .i64 5, .int .i64 7, .int .i64 11, .int .i64 13, .int .i64 17, .int .i64 257, .int .i64 65521] 3) = w2) := ew2.symm
  have Hb2 : Hid (w2.heap[b]? = some (.cells (pms.map (Value.int .i64)).toArray 3 (0, 0))) := (show Hid _ from by show _ = _; rw [ew2, eb]; exact heap_alloc_new w1 _)
  have HB2 : Hid (Below w1.heap.size w1 w2) := (show Hid _ from by rw [ew2]; exact (Below.refl _ w1).alloc (Nat.le_refl _) _)
  have HR2 : Hid (w2.heap[R]? = some (.cells #[.int .i64 0] 26 (0, 0))) := (show Hid _ from (HB2.out.block R (heap_of_cells HR1.out)).trans HR1.out)
  have HD2 := Lib.hid (HD1.out.below HB2.out)
  have hbR : R < b := by rw [eb]; exact heap_of_cells HR1.out
  have HG2 : Hid (w.grownBy w2 (some g)) := grownBy_trans (grownBy_of_below HB1.out _) (grownBy_of_below HB2.out _)
  have HC : Hid (∀ j (h : j < 9), w2.cell? ⟨b, j, none⟩ = some (.int .i64 (pms[j]'h))) := (show Hid _ from fun j h => by
    rw [cell_of_row w2 b j _ _ _ Hb2.out]
    have hj : j < pms.length := h
    simp [hj]
    rfl)
  have hb2 : b < w2.heap.size := heap_of_cells Hb2.out
  have HEB := Lib.hid eb
  go_upto_region 2 with fail
  rw [HW2.out, ← eb]
  clear ew2 eb
  go_loopw [5] (fun v wr => ∃ (k m : Nat), k + m = 9 ∧ 1 ≤ m ∧ v = .slice (some ⟨b, k, none⟩) m m ∧ w2 = wr) (fun v _ => lnOf v)
  case atStart => exact ⟨0, 9, rfl, by omega, rfl, rfl⟩
  case round =>
    obtain ⟨k, m, hkm, hm, rfl, rfl⟩ := hrel
    obtain ⟨m, rfl⟩ : ∃ m', m = m' + 1 := ⟨m - 1, by omega⟩
    have c0 := HC.out k (by omega)
    have hkl : k < 9 := by omega
    have hm8 : m ≤ 8 := by omega
    have HLT : Hid (least < pms[k] ∨ (pms[k] ≤ least ∧ 1 ≤ m)) := (show Hid _ from by
      by_cases h : pms[k] ≤ least
      · refine .inr ⟨h, ?_⟩
        by_cases hk : k ≤ 7
        · omega
        · have : pms[7] ≤ pms[k] := pms_mono k hkl 7 (by omega)
          have h7 : pms[7] = 257 := rfl
          omega
      · exact .inl (by omega))
    obtain ⟨x, ex⟩ : ∃ x, x = pms[k] := ⟨_, rfl⟩
    rw [← ex] at c0 HLT
    have HX := Lib.hid ex
    have HKM := Lib.hid hkm
    clear ex hkm
    rcases HLT.out with hlt | ⟨hlt, hm1⟩
    · have z0 : decide (x ≤ least) = false := decide_eq_false (by omega)
      have mi : i64r ((m : Int) + 1) := by unfold i64r; omega
      have mi2 : (m : Int) + 1 ≤ 4611686018427387904 := by omega
      go_wp2_with fail
      (with_reducible refine (next_any ((m : Int) + 1) g w2 HD2.out mi mi2).mono ?_)
      rintro e w3 ⟨y, rfl, _, hy, hd3, hg3⟩
      obtain ⟨hy1, hy2⟩ := hy (by omega)
      obtain ⟨yn, rfl⟩ : ∃ yn : Nat, y = yn := ⟨y.toNat, by omega⟩
      have hyn : yn < m + 1 := by omega
      have hyn2 : (yn : Int) < (m : Int) + 1 := by omega
      have hk2 : k + yn < 9 := by have := HKM.out; omega
      have c1 : w3.cell? ⟨b, k + yn, none⟩ = some (.int .i64 (pms[k + yn]'hk2)) := (World.cell?_of_block (hg3.block b hb2 (by simp; omega))).trans (HC.out _ hk2)
      have HPR : Hid (prB (pms[k + yn]'hk2) = true) := pms_pr _ _
      have HPL : Hid (least < pms[k + yn]'hk2) := (show Hid _ from by
        have h5 := pms_mono (k + yn) hk2 k (by omega)
        have h6 := HX.out
        show _ < _
        omega)
      obtain ⟨P, eP⟩ : ∃ P, P = pms[k + yn]'hk2 := ⟨_, rfl⟩
      rw [← eP] at c1 HPR HPL
      have HD3 := Lib.hid hd3
      have HG3 := Lib.hid hg3
      have HR3 : Hid (w3.heap[R]? = some (.cells #[.int .i64 0] 26 (0, 0))) := (show Hid _ from (HG3.out.block R (heap_of_cells HR2.out) (by simp; omega)).trans HR2.out)
      have cR0 : w3.cell? ⟨R, 0, none⟩ = some (.int .i64 0) := cell_of_row w3 R 0 _ _ _ HR3.out
      have fR0 : w3.frozen? ⟨R, 0, none⟩ = false := frozen_of_row w3 R 0 _ _ HR3.out
      clear eP hd3 hg3 hy hy1 hy2
      go_wp2_with fail
      have HW : (w3.setCell ⟨R, 0, none⟩ (.int .i64 P)).heap[R]? = some (.cells #[.int .i64 P] 26 (0, 0)) := by
        have := heap_setCell_same w3 R 0 _ _ (.int .i64 P) HR3.out
        simpa using this
      have q0 := cell_of_row _ R 0 _ _ _ HW
      simp only [List.getElem?_toArray, List.getElem?_cons_zero] at q0
      have hG5 : w3.grownBy (w3.setCell ⟨R, 0, none⟩ (.int .i64 P)) (some R) := grownBy_setCell (g := R) (p := ⟨R, 0, none⟩) (grownBy_refl _ _) (.inl rfl) _
      refine bodyPost_ret (v := .agg #[.int .i64 P]) (by simp [results, Try.results30, go_sem, q0]) rfl ⟨P, rfl, HD3.out.grown hG5 (fun k hk => by injection hk with e; omega), ?_, HPR.out, HPL.out⟩
      exact grownBy_own (grownBy_trans HG2.out HG3.out) hG5 (fun k hk => by injection hk with e; have := HER.out; omega)
    · have z0 : decide (x ≤ least) = true := decide_eq_true hlt
      go_wp2_with fail
      go_roundw
      case rel => exact ⟨k + 1, m, by have := HKM.out; omega, hm1, by simp, by simp⟩
      case measure => simp [lnOf]
end Go.Proofs.Ytbgabipngdillaa
