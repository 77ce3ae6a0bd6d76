/- Joined: Make Bg Sd Ts Sf Qp. -/
import Derived.Test.YtoiabanpnkpbhaaGreatDoorY01
import Derived.Test.YtoiabanpnkpbhaaGreatDoorY21
import Derived.Test.YtoiabanpnkpbhaaGreatDoorY06
import Derived.Test.YtoiabanpnkpbhaaGreatDoorY04
namespace Go.Proofs.YtoiabanpnkpbhaaGreatDoor
open Go.RowKit

theorem mod_any (n k : Int) (w : World) (hk : 0 < k) (hk2 : k ≤ 4611686018427387904) :
    Calls Tryz.prog 34 #[.int .i64 n, .int .i64 k] w fun e w' => e = .returned (.int .i64 (n % k)) ∧ w = w' := by
  have hb := tmod_bd n k hk
  have hne : (k == 0) = false := by simp; omega
  go_enter Tryz.func34, Tryz.ntmps34
  go_wp2
  go_ret
  refine ⟨ret_int ?_, rfl⟩
  have := tmod_fix n k hk
  rw [Int.tmod_eq_emod_of_nonneg (by omega)] at this
  exact this

theorem few_any (l : List Int) (v : Value) (w : World) (h : SI w v l) :
    Calls Tryz.prog 11 #[v] w fun e w' => e = .returned (.bool (decide (l.length ≤ 500))) ∧ w = w' := by
  obtain ⟨A, c, rfl, hc, hm, hr, ha⟩ := h
  go_enter Tryz.func11, Tryz.ntmps11
  go_wp2
  go_ret
  exact ⟨ret_bool (by simp; omega), rfl⟩

/-- Block g is a deck. -/
def Dk (w : World) (g : Nat) : Prop :=
  ∃ L lv, ∃ k : Nat, w.heap[g]? = some (.cells #[lv, .int .i64 k] 82 (0, 0)) ∧ k ≤ L.length ∧ SB g w lv L

theorem Dk.lt {w : World} {g : Nat} (h : Dk w g) : g < w.heap.size := by obtain ⟨L, lv, k, hg, _⟩ := h; exact heap_of_cells hg
theorem Dk.of {w w' : World} {g : Nat} (h : Dk w g) (hb : ∀ i, i ≤ g → w'.heap[i]? = w.heap[i]?) : Dk w' g := by
  obtain ⟨L, lv, k, hg, hk, hl⟩ := h
  exact ⟨L, lv, k, (hb g (Nat.le_refl _)).trans hg, hk, hl.keep fun p hp => World.cell?_of_block (hb p.block (by omega))⟩
theorem Dk.below {w w' : World} {g : Nat} (h : Dk w g) (hb : Below w.heap.size w w') : Dk w' g := h.of fun i hi => hb.block i (by have := h.lt; omega)
theorem Dk.grown {w w' : World} {g : Nat} {r : Option Nat} (h : Dk w g) (hb : w.grownBy w' r) (hr : ∀ k, r = some k → g < k) : Dk w' g :=
  h.of fun i hi => hb.block i (by have := h.lt; omega) (fun e => by have := hr i e.symm; omega)
theorem Dk.alloc {w : World} {g : Nat} (h : Dk w g) (o : Obj) : Dk (w.alloc o) g := h.below ((Below.refl _ _).alloc (Nat.le_refl _) o)

theorem new_any (l : List Int) (v : Value) (w : World) (h : SI w v l) :
    Calls Tryz.prog 12 #[v] w fun e w' => e = .returned (.pointer (some ⟨w.heap.size, 0, none⟩)) ∧ Dk w' w.heap.size ∧ Below w.heap.size w w' ∧ w'.heap.size = w.heap.size + 1 := by
  have h' := h
  obtain ⟨A, c, rfl, hc, hm, hr, ha⟩ := h
  go_enter Tryz.func12, Tryz.ntmps12
  go_wp2
  go_ret
  exact ⟨rfl, ⟨l, _, 0, heap_alloc_new w _, Nat.zero_le _, SB.below h' ((Below.refl _ _).alloc (Nat.le_refl _) _)⟩, (Below.refl _ _).alloc (Nat.le_refl _) _, by simp⟩

theorem next_any (n : Int) (g : Nat) (w : World) (h : Dk w g) (hn : i64r n) (hn2 : n ≤ 4611686018427387904) :
    Calls Tryz.prog 13 #[.pointer (some ⟨g, 0, none⟩), .int .i64 n] w fun e w' => ∃ x : Int, e = .returned (.int .i64 x) ∧ (n < 1 → x = 0) ∧ (1 ≤ n → 0 ≤ x ∧ x < n) ∧ Dk w' g ∧ w.grownBy w' (some g) := by
  obtain ⟨L, lv, k, hg, hk, hl⟩ := h
  obtain ⟨A, c, rfl, hc, hm, hr, ha⟩ := id hl
  have h0 : w.cell? ⟨g, 0, none⟩ = some (.slice A L.length c) := by rw [cell_of_row w g 0 _ _ _ hg]; rfl
  have h1 : w.cell? ⟨g, 1, none⟩ = some (.int .i64 k) := by rw [cell_of_row w g 1 _ _ _ hg]; rfl
  have hf : w.frozen? ⟨g, 1, none⟩ = false := frozen_of_row w g 1 _ _ hg
  obtain ⟨hn0, hn1⟩ := hn
  by_cases hlo : n < 1
  · go_enter Tryz.func13, Tryz.ntmps13
    go_wp2
    go_quiet (fail)
    go_wp2
    go_ret
    exact ⟨0, rfl, fun _ => rfl, fun h => by omega, ⟨L, _, k, hg, hk, hl⟩, grownBy_drewN (grownBy_refl _ _) _⟩
  · by_cases hlt : k < L.length
    · obtain ⟨b, off, rfl, hb, hcell⟩ := ha (by omega)
      have hck := hcell k hlt
      have hgw := heap_of_cells hg
      have hd : decide ((L.length : Int) ≤ (k : Int)) = false := by simp; omega
      have HL := Lib.hid hl
      have HG := Lib.hid hg
      clear hcell ha hr hl hg
      go_enter Tryz.func13, Tryz.ntmps13
      go_wp2
      go_quiet (fail)
      go_wp2
      go_quiet (fail)
      go_wp2_with (refine (mod_any _ _ _ (by omega) (by omega)).mono ?_; rintro e w' ⟨rfl, rfl⟩)
      go_ret
      have hm1 : 0 ≤ L[k] % n := Int.emod_nonneg _ (by omega)
      have hm2 : L[k] % n < n := Int.emod_lt_of_pos _ (by omega)
      refine ⟨L[k] % n, rfl, fun h => by omega, fun _ => ⟨hm1, hm2⟩, ⟨L, _, k + 1, heap_setCell_same (w.drewN _) g 1 _ _ _ HG.out, by omega, ?_⟩, grownBy_setCell (grownBy_drewN (grownBy_refl _ _) _) (.inl rfl) _⟩
      exact SB.grown HL.out (grownBy_setCell (grownBy_drewN (grownBy_refl _ _) _) (.inl rfl) _) (Nat.le_refl _) (by omega)
    · have hd : decide ((L.length : Int) ≤ (k : Int)) = true := by simp; omega
      go_enter Tryz.func13, Tryz.ntmps13
      go_wp2
      go_quiet (fail)
      go_wp2
      go_ret
      exact ⟨0, rfl, fun _ => rfl, fun h => by omega, ⟨L, _, k, hg, hk, hl⟩, grownBy_drewN (grownBy_refl _ _) _⟩
end Go.Proofs.YtoiabanpnkpbhaaGreatDoor

namespace Go.Proofs.YtoiabanpnkpbhaaGreatDoor
open Go.RowKit

def pms : List Int := [2, 3, 5, 7, 11, 13, 17, 257, 65521]
theorem pms_pr : ∀ j (h : j < 9), prB (pms[j]'h) = true
  | 0, _ => by kernel_rfl | 1, _ => by kernel_rfl | 2, _ => by kernel_rfl | 3, _ => by kernel_rfl | 4, _ => by kernel_rfl | 5, _ => by kernel_rfl | 6, _ => by kernel_rfl | 7, _ => by kernel_rfl | 8, _ => by kernel_rfl
theorem pms_mono : ∀ j (hj : j < 9), ∀ i (hi : i ≤ j), pms[i]'(Nat.lt_of_le_of_lt hi hj) ≤ pms[j]'hj := by decide
def lnOf : Value → Nat | .slice _ n _ => n | _ => 0
set_option maxRecDepth 100000 in
set_option maxHeartbeats 4000000 in
theorem big_any (g : Nat) (least : Int) (w : World) (hD : Dk w g) (h0 : 0 ≤ least) (h1 : least ≤ 16) :
    Calls Tryz.prog 14 #[.pointer (some ⟨g, 0, none⟩), .int .i64 least] w fun e w' => ∃ P, e = .returned (.agg #[.int .i64 P]) ∧ Dk w' g ∧ w.grownBy w' (some g) ∧ prB P = true ∧ least < P := by
  have HD := Lib.hid hD
  have hgw : g < w.heap.size := hD.lt
  clear hD
  go_enter Tryz.func14, Tryz.ntmps14
  obtain ⟨R, eR⟩ : ∃ R, R = w.heap.size := ⟨_, rfl⟩
  obtain ⟨w1, ew1⟩ : ∃ w1 : World, w1 = w.alloc (.cells #[.int .i64 0] 31) := ⟨_, rfl⟩
  have HW1 : Hid (w.alloc (.cells #[.int .i64 0] 31) = w1) := ew1.symm
  have HR1 : Hid (w1.heap[R]? = some (.cells #[.int .i64 0] 31 (0, 0))) := (show Hid _ from by show _ = _; rw [ew1, eR]; exact heap_alloc_new w _)
  have HB1 : Hid (Below w.heap.size w w1) := (show Hid _ from by rw [ew1]; exact (Below.refl _ w).alloc (Nat.le_refl _) _)
  have hz1 : w1.heap.size = R + 1 := by rw [ew1, eR]; simp
  have HD1 := Lib.hid (HD.out.below HB1.out)
  have hgR : g < R := by omega
  have HER := Lib.hid eR
  have HZ1 := Lib.hid hz1
  clear ew1 hz1
  go_upto_region 1 with fail
  rw [HW1.out, ← eR]
  clear eR
  obtain ⟨b, eb⟩ : ∃ b, b = w1.heap.size := ⟨_, rfl⟩
  obtain ⟨w2, ew2⟩ : ∃ w2 : World, w2 = w1.alloc (.cells #[.int .i64 2, .int .i64 3, .int .i64 5, .int .i64 7, .int .i64 11, .int .i64 13, .int .i64 17, .int .i64 257, .int .i64 65521] 3) := ⟨_, rfl⟩
  have HW2 : Hid (w1.alloc (.cells #[.int .i64 2, .int .i64 3, .int .i64 5, .int .i64 7, .int .i64 11, .int .i64 13, .int .i64 17, .int .i64 257, .int .i64 65521] 3) = w2) := ew2.symm
  have Hb2 : Hid (w2.heap[b]? = some (.cells (pms.map (Value.int .i64)).toArray 3 (0, 0))) := (show Hid _ from by show _ = _; rw [ew2, eb]; exact heap_alloc_new w1 _)
  have HB2 : Hid (Below w1.heap.size w1 w2) := (show Hid _ from by rw [ew2]; exact (Below.refl _ w1).alloc (Nat.le_refl _) _)
  have HR2 : Hid (w2.heap[R]? = some (.cells #[.int .i64 0] 31 (0, 0))) := (show Hid _ from (HB2.out.block R (heap_of_cells HR1.out)).trans HR1.out)
  have HD2 := Lib.hid (HD1.out.below HB2.out)
  have hbR : R < b := by rw [eb]; exact heap_of_cells HR1.out
  have HG2 : Hid (w.grownBy w2 (some g)) := grownBy_trans (grownBy_of_below HB1.out _) (grownBy_of_below HB2.out _)
  have HC : Hid (∀ j (h : j < 9), w2.cell? ⟨b, j, none⟩ = some (.int .i64 (pms[j]'h))) := (show Hid _ from fun j h => by
    rw [cell_of_row w2 b j _ _ _ Hb2.out]
    have hj : j < pms.length := h
    simp [hj]
    rfl)
  have hb2 : b < w2.heap.size := heap_of_cells Hb2.out
  have HEB := Lib.hid eb
  go_upto_region 2 with fail
  rw [HW2.out, ← eb]
  clear ew2 eb
  go_loopw [5] (fun v wr => ∃ (k m : Nat), k + m = 9 ∧ 1 ≤ m ∧ v = .slice (some ⟨b, k, none⟩) m m ∧ w2 = wr) (fun v _ => lnOf v)
  case atStart => exact ⟨0, 9, rfl, by omega, rfl, rfl⟩
  case round =>
    obtain ⟨k, m, hkm, hm, rfl, rfl⟩ := hrel
    obtain ⟨m, rfl⟩ : ∃ m', m = m' + 1 := ⟨m - 1, by omega⟩
    have c0 := HC.out k (by omega)
    have hkl : k < 9 := by omega
    have hm8 : m ≤ 8 := by omega
    have HLT : Hid (least < pms[k] ∨ (pms[k] ≤ least ∧ 1 ≤ m)) := (show Hid _ from by
      by_cases h : pms[k] ≤ least
      · refine .inr ⟨h, ?_⟩
        by_cases hk : k ≤ 7
        · omega
        · have : pms[7] ≤ pms[k] := pms_mono k hkl 7 (by omega)
          have h7 : pms[7] = 257 := rfl
          omega
      · exact .inl (by omega))
    obtain ⟨x, ex⟩ : ∃ x, x = pms[k] := ⟨_, rfl⟩
    rw [← ex] at c0 HLT
    have HX := Lib.hid ex
    have HKM := Lib.hid hkm
    clear ex hkm
    rcases HLT.out with hlt | ⟨hlt, hm1⟩
    · have z0 : decide (x ≤ least) = false := decide_eq_false (by omega)
      have mi : i64r ((m : Int) + 1) := by unfold i64r; omega
      have mi2 : (m : Int) + 1 ≤ 4611686018427387904 := by omega
      go_wp2_with fail
      (with_reducible refine (next_any ((m : Int) + 1) g w2 HD2.out mi mi2).mono ?_)
      rintro e w3 ⟨y, rfl, _, hy, hd3, hg3⟩
      obtain ⟨hy1, hy2⟩ := hy (by omega)
      obtain ⟨yn, rfl⟩ : ∃ yn : Nat, y = yn := ⟨y.toNat, by omega⟩
      have hyn : yn < m + 1 := by omega
      have hyn2 : (yn : Int) < (m : Int) + 1 := by omega
      have hk2 : k + yn < 9 := by have := HKM.out; omega
      have c1 : w3.cell? ⟨b, k + yn, none⟩ = some (.int .i64 (pms[k + yn]'hk2)) := (World.cell?_of_block (hg3.block b hb2 (by simp; omega))).trans (HC.out _ hk2)
      have HPR : Hid (prB (pms[k + yn]'hk2) = true) := pms_pr _ _
      have HPL : Hid (least < pms[k + yn]'hk2) := (show Hid _ from by
        have h5 := pms_mono (k + yn) hk2 k (by omega)
        have h6 := HX.out
        show _ < _
        omega)
      obtain ⟨P, eP⟩ : ∃ P, P = pms[k + yn]'hk2 := ⟨_, rfl⟩
      rw [← eP] at c1 HPR HPL
      have HD3 := Lib.hid hd3
      have HG3 := Lib.hid hg3
      have HR3 : Hid (w3.heap[R]? = some (.cells #[.int .i64 0] 31 (0, 0))) := (show Hid _ from (HG3.out.block R (heap_of_cells HR2.out) (by simp; omega)).trans HR2.out)
      have cR0 : w3.cell? ⟨R, 0, none⟩ = some (.int .i64 0) := cell_of_row w3 R 0 _ _ _ HR3.out
      have fR0 : w3.frozen? ⟨R, 0, none⟩ = false := frozen_of_row w3 R 0 _ _ HR3.out
      clear eP hd3 hg3 hy hy1 hy2
      go_wp2_with fail
      have HW : (w3.setCell ⟨R, 0, none⟩ (.int .i64 P)).heap[R]? = some (.cells #[.int .i64 P] 31 (0, 0)) := by
        have := heap_setCell_same w3 R 0 _ _ (.int .i64 P) HR3.out
        simpa using this
      have q0 := cell_of_row _ R 0 _ _ _ HW
      simp only [List.getElem?_toArray, List.getElem?_cons_zero] at q0
      have hG5 : w3.grownBy (w3.setCell ⟨R, 0, none⟩ (.int .i64 P)) (some R) := grownBy_setCell (g := R) (p := ⟨R, 0, none⟩) (grownBy_refl _ _) (.inl rfl) _
      refine bodyPost_ret (v := .agg #[.int .i64 P]) (by simp [results, Tryz.results14, go_sem, q0]) rfl ⟨P, rfl, HD3.out.grown hG5 (fun k hk => by injection hk with e; omega), ?_, HPR.out, HPL.out⟩
      exact grownBy_own (grownBy_trans HG2.out HG3.out) hG5 (fun k hk => by injection hk with e; have := HER.out; omega)
    · have z0 : decide (x ≤ least) = true := decide_eq_true hlt
      go_wp2_with fail
      go_roundw
      case rel => exact ⟨k + 1, m, by have := HKM.out; omega, hm1, by simp, by simp⟩
      case measure => simp [lnOf]
end Go.Proofs.YtoiabanpnkpbhaaGreatDoor

namespace Go.Proofs.YtoiabanpnkpbhaaGreatDoor
open Go.RowKit

end Go.Proofs.YtoiabanpnkpbhaaGreatDoor

namespace Go.Proofs.YtoiabanpnkpbhaaGreatDoor
open Go.RowKit

end Go.Proofs.YtoiabanpnkpbhaaGreatDoor

namespace Go.Proofs.YtoiabanpnkpbhaaGreatDoor
open Go.RowKit

end Go.Proofs.YtoiabanpnkpbhaaGreatDoor

namespace Go.Proofs.YtoiabanpnkpbhaaGreatDoor
open Go.RowKit

theorem dsE_full {l : List Int} {P : Int} (hP : 2 ≤ P ∧ P ≤ 65521) (hl : l.length ≤ 16384) (h : els P l = true) : dsE l ((0 : Nat) : Int) P (l.length : Int) = 0 := by
  have hv : tvB l ((0 : Nat) : Int) = true := decide_eq_true ⟨hl, by omega, by omega⟩
  have hi : liB P = true := decide_eq_true ⟨by omega, by omega⟩
  unfold dsE
  rw [if_neg (by rw [hv]; simp), if_neg (by rw [hi]; simp)]
  exact drE_of fun j hj => by
    have hj' : j < l.length := by simpa using hj
    have := els_all h l[j] (List.getElem_mem hj')
    have h2 : 0 ≤ l[j] ∧ l[j] < P := of_decide_eq_true this
    have hg : gd l (0 + j) = l[j] := by simp [gd, hj']
    show 0 + j < l.length ∧ 0 ≤ gd l (0 + j) ∧ gd l (0 + j) < P
    rw [hg]; exact ⟨by simpa using hj', h2⟩
end Go.Proofs.YtoiabanpnkpbhaaGreatDoor
