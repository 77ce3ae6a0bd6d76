/- Joined: Make Bg Sd Ts Sf Qp. -/
import Derived.Test.YtoiabanpnkpbhaaGreatDoorZ01
import Derived.Test.YtoiabanpnkpbhaaGreatDoorZ21
import Derived.Test.YtoiabanpnkpbhaaGreatDoorZ06
import Derived.Test.YtoiabanpnkpbhaaGreatDoorZ04
namespace Go.Proofs.YtoiabanpnkpbhaaGreatDoor
open Go.RowKit

def Mod (n k : Int) : Int := n % k

theorem mod_any (n k : Int) (w : World) (hk : 0 < k) (hk2 : k ≤ 4611686018427387904) :
    Calls Tryz.prog 34 #[.int .i64 n, .int .i64 k] w fun e w' => e = .returned (.int .i64 (n % k)) ∧ w = w' := by
  have hb := tmod_bd n k hk
  have hne : (k == 0) = false := by simp; omega
  go_enter Tryz.func34, Tryz.ntmps34
  go_wp2
  go_ret
  refine ⟨ret_int ?_, rfl⟩
  have := tmod_fix n k hk
  rw [Int.tmod_eq_emod_of_nonneg (by omega)] at this
  exact this

theorem few_any (l : List Int) (v : Value) (w : World) (h : SI w v l) :
    Calls Tryz.prog 11 #[v] w fun e w' => e = .returned (.bool (decide (l.length ≤ 500))) ∧ w = w' := by
  obtain ⟨A, c, rfl, hc, hm, hr, ha⟩ := h
  go_enter Tryz.func11, Tryz.ntmps11
  go_wp2
  go_ret
  exact ⟨ret_bool (by simp; omega), rfl⟩

/-- Block g is a deck. -/
def Dk (w : World) (g : Nat) : Prop :=
  ∃ L lv, ∃ k : Nat, w.heap[g]? = some (.cells #[lv, .int .i64 k] 82 (0, 0)) ∧ k ≤ L.length ∧ SB g w lv L

theorem Dk.lt {w : World} {g : Nat} (h : Dk w g) : g < w.heap.size := by obtain ⟨L, lv, k, hg, _⟩ := h; exact heap_of_cells hg
theorem Dk.of {w w' : World} {g : Nat} (h : Dk w g) (hb : ∀ i, i ≤ g → w'.heap[i]? = w.heap[i]?) : Dk w' g := by
  obtain ⟨L, lv, k, hg, hk, hl⟩ := h
  exact ⟨L, lv, k, (hb g (Nat.le_refl _)).trans hg, hk, hl.keep fun p hp => World.cell?_of_block (hb p.block (by omega))⟩
theorem Dk.below {w w' : World} {g : Nat} (h : Dk w g) (hb : Below w.heap.size w w') : Dk w' g := h.of fun i hi => hb.block i (by have := h.lt; omega)
theorem Dk.grown {w w' : World} {g : Nat} {r : Option Nat} (h : Dk w g) (hb : w.grownBy w' r) (hr : ∀ k, r = some k → g < k) : Dk w' g :=
  h.of fun i hi => hb.block i (by have := h.lt; omega) (fun e => by have := hr i e.symm; omega)
theorem Dk.alloc {w : World} {g : Nat} (h : Dk w g) (o : Obj) : Dk (w.alloc o) g := h.below ((Below.refl _ _).alloc (Nat.le_refl _) o)

theorem new_any (l : List Int) (v : Value) (w : World) (h : SI w v l) :
    Calls Tryz.prog 12 #[v] w fun e w' => e = .returned (.pointer (some ⟨w.heap.size, 0, none⟩)) ∧ Dk w' w.heap.size ∧ Below w.heap.size w w' ∧ w'.heap.size = w.heap.size + 1 := by
  have h' := h
  obtain ⟨A, c, rfl, hc, hm, hr, ha⟩ := h
  go_enter Tryz.func12, Tryz.ntmps12
  go_wp2
  go_ret
  exact ⟨rfl, ⟨l, _, 0, heap_alloc_new w _, Nat.zero_le _, SB.below h' ((Below.refl _ _).alloc (Nat.le_refl _) _)⟩, (Below.refl _ _).alloc (Nat.le_refl _) _, by simp⟩

theorem next_any (n : Int) (g : Nat) (w : World) (h : Dk w g) (hn : i64r n) (hn2 : n ≤ 4611686018427387904) :
    Calls Tryz.prog 13 #[.pointer (some ⟨g, 0, none⟩), .int .i64 n] w fun e w' => ∃ x : Int, e = .returned (.int .i64 x) ∧ (n < 1 → x = 0) ∧ (1 ≤ n → 0 ≤ x ∧ x < n) ∧ Dk w' g ∧ w.grownBy w' (some g) := by
  obtain ⟨L, lv, k, hg, hk, hl⟩ := h
  obtain ⟨A, c, rfl, hc, hm, hr, ha⟩ := id hl
  have h0 : w.cell? ⟨g, 0, none⟩ = some (.slice A L.length c) := by rw [cell_of_row w g 0 _ _ _ hg]; rfl
  have h1 : w.cell? ⟨g, 1, none⟩ = some (.int .i64 k) := by rw [cell_of_row w g 1 _ _ _ hg]; rfl
  have hf : w.frozen? ⟨g, 1, none⟩ = false := frozen_of_row w g 1 _ _ hg
  obtain ⟨hn0, hn1⟩ := hn
  by_cases hlo : n < 1
  · go_enter Tryz.func13, Tryz.ntmps13
    go_wp2
    go_quiet (fail)
    go_wp2
    go_ret
    exact ⟨0, rfl, fun _ => rfl, fun h => by omega, ⟨L, _, k, hg, hk, hl⟩, grownBy_drewN (grownBy_refl _ _) _⟩
  · by_cases hlt : k < L.length
    · obtain ⟨b, off, rfl, hb, hcell⟩ := ha (by omega)
      have hck := hcell k hlt
      have hgw := heap_of_cells hg
      have hd : decide ((L.length : Int) ≤ (k : Int)) = false := by simp; omega
      have HL := Lib.hid hl
      have HG := Lib.hid hg
      clear hcell ha hr hl hg
      go_enter Tryz.func13, Tryz.ntmps13
      go_wp2
      go_quiet (fail)
      go_wp2
      go_quiet (fail)
      go_wp2_with (refine (mod_any _ _ _ (by omega) (by omega)).mono ?_; rintro e w' ⟨rfl, rfl⟩)
      go_ret
      have hm1 : 0 ≤ L[k] % n := Int.emod_nonneg _ (by omega)
      have hm2 : L[k] % n < n := Int.emod_lt_of_pos _ (by omega)
      refine ⟨L[k] % n, rfl, fun h => by omega, fun _ => ⟨hm1, hm2⟩, ⟨L, _, k + 1, heap_setCell_same (w.drewN _) g 1 _ _ _ HG.out, by omega, ?_⟩, grownBy_setCell (grownBy_drewN (grownBy_refl _ _) _) (.inl rfl) _⟩
      exact SB.grown HL.out (grownBy_setCell (grownBy_drewN (grownBy_refl _ _) _) (.inl rfl) _) (Nat.le_refl _) (by omega)
    · have hd : decide ((L.length : Int) ≤ (k : Int)) = true := by simp; omega
      go_enter Tryz.func13, Tryz.ntmps13
      go_wp2
      go_quiet (fail)
      go_wp2
      go_ret
      exact ⟨0, rfl, fun _ => rfl, fun h => by omega, ⟨L, _, k, hg, hk, hl⟩, grownBy_drewN (grownBy_refl _ _) _⟩
end Go.Proofs.YtoiabanpnkpbhaaGreatDoor

namespace Go.Proofs.YtoiabanpnkpbhaaGreatDoor
open Go.RowKit

def pms : List Int := [2, 3, 5, 7, 11, 13, 17, 257, 65521]
theorem pms_pr : ∀ j (h : j < 9), prB (pms[j]'h) = true
  | 0, _ => by kernel_rfl | 1, _ => by kernel_rfl | 2, _ => by kernel_rfl | 3, _ => by kernel_rfl | 4, _ => by kernel_rfl | 5, _ => by kernel_rfl | 6, _ => by kernel_rfl | 7, _ => by kernel_rfl | 8, _ => by kernel_rfl
theorem pms_mono : ∀ j (hj : j < 9), ∀ i (hi : i ≤ j), pms[i]'(Nat.lt_of_le_of_lt hi hj) ≤ pms[j]'hj := by decide
def lnOf : Value → Nat | .slice _ n _ => n | _ => 0
set_option maxRecDepth 100000 in
set_option maxHeartbeats 4000000 in
theorem big_any (g : Nat) (least : Int) (w : World) (hD : Dk w g) (h0 : 0 ≤ least) (h1 : least ≤ 16) :
    Calls Tryz.prog 14 #[.pointer (some ⟨g, 0, none⟩), .int .i64 least] w fun e w' => ∃ P, e = .returned (.agg #[.int .i64 P]) ∧ Dk w' g ∧ w.grownBy w' (some g) ∧ prB P = true ∧ least < P := by
  have HD := Lib.hid hD
  have hgw : g < w.heap.size := hD.lt
  clear hD
  go_enter Tryz.func14, Tryz.ntmps14
  obtain ⟨R, eR⟩ : ∃ R, R = w.heap.size := ⟨_, rfl⟩
  obtain ⟨w1, ew1⟩ : ∃ w1 : World, w1 = w.alloc (.cells #[.int .i64 0] 31) := ⟨_, rfl⟩
  have HW1 : Hid (w.alloc (.cells #[.int .i64 0] 31) = w1) := ew1.symm
  have HR1 : Hid (w1.heap[R]? = some (.cells #[.int .i64 0] 31 (0, 0))) := (show Hid _ from by show _ = _; rw [ew1, eR]; exact heap_alloc_new w _)
  have HB1 : Hid (Below w.heap.size w w1) := (show Hid _ from by rw [ew1]; exact (Below.refl _ w).alloc (Nat.le_refl _) _)
  have hz1 : w1.heap.size = R + 1 := by rw [ew1, eR]; simp
  have HD1 := Lib.hid (HD.out.below HB1.out)
  have hgR : g < R := by omega
  have HER := Lib.hid eR
  have HZ1 := Lib.hid hz1
  clear ew1 hz1
  go_upto_region 1 with fail
  rw [HW1.out, ← eR]
  clear eR
  obtain ⟨b, eb⟩ : ∃ b, b = w1.heap.size := ⟨_, rfl⟩
  obtain ⟨w2, ew2⟩ : ∃ w2 : World, w2 = w1.alloc (.cells #[.int .i64 2, .int .i64 3, .int .i64 5, .int .i64 7, .int .i64 11, .int .i64 13, .int .i64 17, .int .i64 257, .int .i64 65521] 3) := ⟨_, rfl⟩
  have HW2 : Hid (w1.alloc (.cells #[.int .i64 2, .int .i64 3, .int .i64 5, .int .i64 7, .int .i64 11, .int .i64 13, .int .i64 17, .int .i64 257, .int .i64 65521] 3) = w2) := ew2.symm
  have Hb2 : Hid (w2.heap[b]? = some (.cells (pms.map (Value.int .i64)).toArray 3 (0, 0))) := (show Hid _ from by show _ = _; rw [ew2, eb]; exact heap_alloc_new w1 _)
  have HB2 : Hid (Below w1.heap.size w1 w2) := (show Hid _ from by rw [ew2]; exact (Below.refl _ w1).alloc (Nat.le_refl _) _)
  have HR2 : Hid (w2.heap[R]? = some (.cells #[.int .i64 0] 31 (0, 0))) := (show Hid _ from (HB2.out.block R (heap_of_cells HR1.out)).trans HR1.out)
  have HD2 := Lib.hid (HD1.out.below HB2.out)
  have hbR : R < b := by rw [eb]; exact heap_of_cells HR1.out
  have HG2 : Hid (w.grownBy w2 (some g)) := grownBy_trans (grownBy_of_below HB1.out _) (grownBy_of_below HB2.out _)
  have HC : Hid (∀ j (h : j < 9), w2.cell? ⟨b, j, none⟩ = some (.int .i64 (pms[j]'h))) := (show Hid _ from fun j h => by
    rw [cell_of_row w2 b j _ _ _ Hb2.out]
    have hj : j < pms.length := h
    simp [hj]
    rfl)
  have hb2 : b < w2.heap.size := heap_of_cells Hb2.out
  have HEB := Lib.hid eb
  go_upto_region 2 with fail
  rw [HW2.out, ← eb]
  clear ew2 eb
  go_loopw [5] (fun v wr => ∃ (k m : Nat), k + m = 9 ∧ 1 ≤ m ∧ v = .slice (some ⟨b, k, none⟩) m m ∧ w2 = wr) (fun v _ => lnOf v)
  case atStart => exact ⟨0, 9, rfl, by omega, rfl, rfl⟩
  case round =>
    obtain ⟨k, m, hkm, hm, rfl, rfl⟩ := hrel
    obtain ⟨m, rfl⟩ : ∃ m', m = m' + 1 := ⟨m - 1, by omega⟩
    have c0 := HC.out k (by omega)
    have hkl : k < 9 := by omega
    have hm8 : m ≤ 8 := by omega
    have HLT : Hid (least < pms[k] ∨ (pms[k] ≤ least ∧ 1 ≤ m)) := (show Hid _ from by
      by_cases h : pms[k] ≤ least
      · refine .inr ⟨h, ?_⟩
        by_cases hk : k ≤ 7
        · omega
        · have : pms[7] ≤ pms[k] := pms_mono k hkl 7 (by omega)
          have h7 : pms[7] = 257 := rfl
          omega
      · exact .inl (by omega))
    obtain ⟨x, ex⟩ : ∃ x, x = pms[k] := ⟨_, rfl⟩
    rw [← ex] at c0 HLT
    have HX := Lib.hid ex
    have HKM := Lib.hid hkm
    clear ex hkm
    rcases HLT.out with hlt | ⟨hlt, hm1⟩
    · have z0 : decide (x ≤ least) = false := decide_eq_false (by omega)
      have mi : i64r ((m : Int) + 1) := by unfold i64r; omega
      have mi2 : (m : Int) + 1 ≤ 4611686018427387904 := by omega
      go_wp2_with fail
      (with_reducible refine (next_any ((m : Int) + 1) g w2 HD2.out mi mi2).mono ?_)
      rintro e w3 ⟨y, rfl, _, hy, hd3, hg3⟩
      obtain ⟨hy1, hy2⟩ := hy (by omega)
      obtain ⟨yn, rfl⟩ : ∃ yn : Nat, y = yn := ⟨y.toNat, by omega⟩
      have hyn : yn < m + 1 := by omega
      have hyn2 : (yn : Int) < (m : Int) + 1 := by omega
      have hk2 : k + yn < 9 := by have := HKM.out; omega
      have c1 : w3.cell? ⟨b, k + yn, none⟩ = some (.int .i64 (pms[k + yn]'hk2)) := (World.cell?_of_block (hg3.block b hb2 (by simp; omega))).trans (HC.out _ hk2)
      have HPR : Hid (prB (pms[k + yn]'hk2) = true) := pms_pr _ _
      have HPL : Hid (least < pms[k + yn]'hk2) := (show Hid _ from by
        have h5 := pms_mono (k + yn) hk2 k (by omega)
        have h6 := HX.out
        show _ < _
        omega)
      obtain ⟨P, eP⟩ : ∃ P, P = pms[k + yn]'hk2 := ⟨_, rfl⟩
      rw [← eP] at c1 HPR HPL
      have HD3 := Lib.hid hd3
      have HG3 := Lib.hid hg3
      have HR3 : Hid (w3.heap[R]? = some (.cells #[.int .i64 0] 31 (0, 0))) := (show Hid _ from (HG3.out.block R (heap_of_cells HR2.out) (by simp; omega)).trans HR2.out)
      have cR0 : w3.cell? ⟨R, 0, none⟩ = some (.int .i64 0) := cell_of_row w3 R 0 _ _ _ HR3.out
      have fR0 : w3.frozen? ⟨R, 0, none⟩ = false := frozen_of_row w3 R 0 _ _ HR3.out
      clear eP hd3 hg3 hy hy1 hy2
      go_wp2_with fail
      have HW : (w3.setCell ⟨R, 0, none⟩ (.int .i64 P)).heap[R]? = some (.cells #[.int .i64 P] 31 (0, 0)) := by
        have := heap_setCell_same w3 R 0 _ _ (.int .i64 P) HR3.out
        simpa using this
      have q0 := cell_of_row _ R 0 _ _ _ HW
      simp only [List.getElem?_toArray, List.getElem?_cons_zero] at q0
      have hG5 : w3.grownBy (w3.setCell ⟨R, 0, none⟩ (.int .i64 P)) (some R) := grownBy_setCell (g := R) (p := ⟨R, 0, none⟩) (grownBy_refl _ _) (.inl rfl) _
      refine bodyPost_ret (v := .agg #[.int .i64 P]) (by simp [results, Tryz.results14, go_sem, q0]) rfl ⟨P, rfl, HD3.out.grown hG5 (fun k hk => by injection hk with e; omega), ?_, HPR.out, HPL.out⟩
      exact grownBy_own (grownBy_trans HG2.out HG3.out) hG5 (fun k hk => by injection hk with e; have := HER.out; omega)
    · have z0 : decide (x ≤ least) = true := decide_eq_true hlt
      go_wp2_with fail
      go_roundw
      case rel => exact ⟨k + 1, m, by have := HKM.out; omega, hm1, by simp, by simp⟩
      case measure => simp [lnOf]
theorem i64_6 : i64r 6 := by unfold i64r; omega
end Go.Proofs.YtoiabanpnkpbhaaGreatDoor

namespace Go.Proofs.YtoiabanpnkpbhaaGreatDoor
open Go.RowKit

def inL (l ns : List Int) : Prop := ns.length ≤ l.length ∧ ∀ j (h : j < ns.length) (h' : j < l.length), 0 ≤ ns[j] ∧ ns[j] < l[j]
theorem inL_snoc {l ns : List Int} {y : Int} (h : inL l ns) (hk : ns.length < l.length) (hy : 0 ≤ y ∧ y < l[ns.length]) : inL l (ns ++ [y]) := by
  refine ⟨by simp; omega, fun j h1 h2 => ?_⟩
  by_cases e : j = ns.length
  · subst e; simpa using hy
  · have h3 : j < ns.length := by simp at h1; omega
    rw [List.getElem_append_left h3]
    exact h.2 j h3 h2
theorem inL_r {l ns : List Int} (h : inL l ns) (hl : ∀ x ∈ l, x ≤ 2147483647) : ∀ x ∈ ns, i64r x := by
  intro x hx
  obtain ⟨j, hj, rfl⟩ := List.mem_iff_getElem.1 hx
  have h1 := h.2 j hj (by have := h.1; omega)
  have h2 := hl _ (List.getElem_mem (by have := h.1; omega : j < l.length))
  unfold i64r; omega
def SdR (l : List Int) (O : Nat) (w2 : World) (sv iv : Value) (wr : World) : Prop :=
  ∃ (sd : Int) (v : Value) (ns : List Int), iv = .int .i64 ns.length ∧ sv = .int .i64 sd ∧ 0 ≤ sd ∧ sd < 2147483647 ∧ inL l ns ∧ TAc O v ns wr ∧ Below O w2 wr
def limsOk (l : List Int) : Prop := ∀ x ∈ l, 1 ≤ x ∧ x ≤ 2147483647
set_option maxRecDepth 100000 in
set_option maxHeartbeats 4000000 in
theorem seeded_any (sd : Int) (l : List Int) (v : Value) (w : World) (h1 : 1 ≤ sd) (h2 : sd < 2147483647) (h : SI w v l) (hz : l.length ≤ 16384) (hl : limsOk l) :
    Calls Tryz.prog 57 #[.int .i64 sd, v] w fun e w' => ∃ v1 ns, e = .returned (.tuple #[.agg #[v1, .int .i64 0], .int .i64 0]) ∧ Below w.heap.size w w' ∧ inL l ns ∧ ns.length = l.length ∧ w'.ownsRow w.heap.size 3 1 v1 ns.length (ns.map (Value.int .i64)) := by
  have HS := Lib.hid h
  have HL : Hid (limsOk l) := hl
  obtain ⟨A, c, rfl⟩ := h.form'
  clear h hl
  have d1 : decide (sd < 1) = false := decide_eq_false (by omega)
  have d2 : decide (2147483647 ≤ sd) = false := decide_eq_false (by omega)
  have d3 : decide (16384 < (l.length : Int)) = false := decide_eq_false (by omega)
  have d4 : decide (16384 < l.length) = false := decide_eq_false (by omega)
  go_enter Tryz.func57, Tryz.ntmps57
  obtain ⟨R, eR⟩ : ∃ R, R = w.heap.size := ⟨_, rfl⟩
  obtain ⟨w1, ew1⟩ : ∃ w1 : World, w1 = w.alloc (.cells #[.slice none 0 0, .int .i64 0] 45) := ⟨_, rfl⟩
  have HW1 : Hid (w.alloc (.cells #[.slice none 0 0, .int .i64 0] 45) = w1) := ew1.symm
  have HR1 : Hid (w1.heap[R]? = some (.cells #[.slice none 0 0, .int .i64 0] 45 (0, 0))) := (show Hid _ from by show _ = _; rw [ew1, eR]; exact heap_alloc_new w _)
  have HB1 : Hid (Below w.heap.size w w1) := (show Hid _ from by rw [ew1]; exact (Below.refl _ w).alloc (Nat.le_refl _) _)
  have hz1 : w1.heap.size = R + 1 := by rw [ew1, eR]; simp
  have HS1 := Lib.hid (HS.out.below HB1.out)
  have HER := Lib.hid eR
  have HZ1 := Lib.hid hz1
  clear ew1 hz1
  go_upto_region 1 with fail
  rw [HW1.out, ← eR]
  clear eR
  go_wp2_with fail
  go_loopw [24] (fun i wr => ∃ k : Nat, k ≤ l.length ∧ i = .int .i64 k ∧ w1 = wr) (fun i _ => l.length - (intOf i).toNat)
  case atStart => exact ⟨0, Nat.zero_le _, rfl, rfl⟩
  case round =>
    obtain ⟨k, hk, rfl, rfl⟩ := hrel
    by_cases hlt : k < l.length
    · obtain ⟨A', c', e, _, _, _, ha⟩ := HS1.out
      injection e with e1 e2 e3
      subst e1
      obtain ⟨b, off, rfl, hb, hcell⟩ := ha (by omega)
      have c1 := hcell k hlt
      have hx := HL.out l[k] (List.getElem_mem hlt)
      generalize l[k] = x at c1 hx
      have z1 : decide (x < 1) = false := decide_eq_false (by omega)
      have z2 : decide (2147483647 < x) = false := decide_eq_false (by omega)
      have z3 : decide (k < l.length) = true := decide_eq_true (by omega)
      clear ha hcell e2 e3
      go_wp2_with fail
      go_roundw
      case rel => exact ⟨k + 1, by omega, by go_num, by simp⟩
      case measure => simp [intOf]; omega
    · have z3 : decide (k < l.length) = false := decide_eq_false (by omega)
      go_wp2_with fail
      obtain ⟨O, eO⟩ : ∃ O, O = w1.heap.size := ⟨_, rfl⟩
      obtain ⟨w2, ew2⟩ : ∃ w2 : World, w2 = w1.alloc (.cells #[.slice none 0 0, .int .i64 0] 45) := ⟨_, rfl⟩
      have HW2 : Hid (w1.alloc (.cells #[.slice none 0 0, .int .i64 0] 45) = w2) := ew2.symm
      have HK2 : Hid (TAc O (.slice none 0 0) [] w2) := (show Hid _ from by
        rw [ew2, eO]
        exact ⟨heap_alloc_new w1 _, World.ownsRow_nil _ _ _ _⟩)
      have HB2 : Hid (Below w1.heap.size w1 w2) := (show Hid _ from by rw [ew2]; exact (Below.refl _ w1).alloc (Nat.le_refl _) _)
      have hz2 : w2.heap.size = O + 1 := by rw [ew2, eO]; simp
      have hOR : O = R + 1 := by rw [eO]; exact HZ1.out
      have HOR := Lib.hid hOR
      have hRO : R < O := by omega
      clear hOR
      rw [HW2.out, ← eO]
      have HEO := Lib.hid eO
      clear ew2 eO z3
      go_loopw [0, 38] (fun s i wr => SdR l O w2 s i wr) (fun _ i _ => l.length - (intOf i).toNat)
      case atStart => exact ⟨sd, .slice none 0 0, [], rfl, rfl, by omega, h2, ⟨by simp, fun j h => by simp at h⟩, HK2.out, Below.refl _ _⟩
      case round =>
        obtain ⟨s, va, ns, rfl, rfl, hs1, hs2, hin, hTA, hBel⟩ := hrel
        have HIN := Lib.hid hin
        have HTA := Lib.hid hTA
        have HBel := Lib.hid hBel
        have hnl := hin.1
        clear hin hTA hBel
        by_cases hlt : ns.length < l.length
        · obtain ⟨A', c', e, _, _, _, ha⟩ := HS1.out
          injection e with e1 e2 e3
          subst e1
          obtain ⟨b, off, rfl, hb, hcell⟩ := ha (by omega)
          have k1 := hcell ns.length hlt
          have HB2r : Hid (Below w1.heap.size w1 wr) := (show Hid _ from HB2.out.trans (HBel.out.mono (by rw [← HEO.out]; exact Nat.le_refl _)))
          have c1 := (HB2r.out.cell (p := ⟨b, off + ns.length, none⟩) hb).trans k1
          have hx := HL.out l[ns.length] (List.getElem_mem hlt)
          have HSN : Hid (∀ y, 0 ≤ y ∧ y < l[ns.length] → inL l (ns ++ [y])) := (show Hid _ from fun y hy => inL_snoc HIN.out hlt hy)
          generalize l[ns.length] = x at c1 hx HSN
          obtain ⟨s2, es2⟩ : ∃ s2, s2 = (s * 48271).tmod 2147483647 := ⟨_, rfl⟩
          have hs2b : 0 ≤ s2 ∧ s2 < 2147483647 := by rw [es2, Int.tmod_eq_emod_of_nonneg (by omega)]; omega
          obtain ⟨y, ey⟩ : ∃ y, y = s2.tmod x := ⟨_, rfl⟩
          have hyb : 0 ≤ y ∧ y < x := by rw [ey, Int.tmod_eq_emod_of_nonneg hs2b.1]; exact ⟨Int.emod_nonneg _ (by omega), Int.emod_lt_of_pos _ (by omega)⟩
          have HY : Hid (inL l (ns ++ [y])) := HSN.out y hyb
          have m1 : IntKind.i64.wrap (s * 48271) = s * 48271 := by exact IntWalk.i64_in _ (by omega)
          have m2 : (s * 48271).tmod 2147483647 = s2 := es2.symm
          have m3 : s2.tmod x = y := ey.symm
          have m4 : ¬ x = 0 := by omega
          have cO0 : wr.cell? ⟨O, 0, none⟩ = some va := cell_of_row wr O 0 _ _ _ HTA.out.1
          have fO0 : wr.frozen? ⟨O, 0, none⟩ = false := frozen_of_row wr O 0 _ _ HTA.out.1
          have hOr : O < wr.heap.size := HTA.out.lt
          have hbr : b < wr.heap.size := by have := HB2r.out.size; omega
          have HREL : Hid (∀ (g9 cap9 : Nat) (w9 : World), (wr.alloc (.cells #[.int .i64 y] 3)).grownBy w9 va.ownBlock → w9.ownsRow (O + 1) 3 1 (.slice (some ⟨g9, 0, none⟩) (ns ++ [y]).length cap9) (ns ++ [y]).length ((ns ++ [y]).map (Value.int .i64)) → SdR l O w2 (.int .i64 s2) (.int .i64 ((ns.length : Int) + 1)) (w9.setCell ⟨O, 0, none⟩ (.slice (some ⟨g9, 0, none⟩) (ns.length + 1) cap9))) := (show Hid _ from fun g9 cap9 w9 hg ho => by
            obtain ⟨q1, q2⟩ := HTA.out.step HBel.out hg ho
            exact ⟨s2, _, ns ++ [y], by simp, rfl, hs2b.1, hs2b.2, HY.out, q1, q2⟩)
          have HFZ : Hid (∀ w9 : World, (wr.alloc (.cells #[.int .i64 y] 3)).grownBy w9 va.ownBlock → w9.frozen? ⟨O, 0, none⟩ = false) := (show Hid _ from fun w9 hg => HTA.out.frozen hg)
          have HNE : Hid (some O ≠ va.ownBlock) := HTA.out.ne
          have HOV : Hid (wr.ownsRow (O + 1) 3 1 va ns.length (ns.map (Value.int .i64))) := HTA.out.2
          have z3 : decide (ns.length < l.length) = true := decide_eq_true (by omega)
          have hnz : ns.length ≤ 16384 := by omega
          have hmeas : l.length - (ns.length + 1) < l.length - ns.length := by omega
          clear k1 ha hcell e2 e3 es2 ey hx HSN hs2b hyb hs1 hs2 hlt
          go_upto_region 16 with fail
          go_region_law (refine step_append_int1_at _ (by rfl) (.tmp 46) _ 22 (by rfl) (O + 1) 3 Tryz.underlying22 iinfo va ns (by rfl) (by first | exact HOV.out.alloc (.cells #[.int .i64 y] 3) | exact (HOV.out.alloc (.cells #[.int .i64 y] 3)).drew) y wr.heap.size (by rfl) (by exact cells_new wr [.int .i64 y] 3 0 _ rfl) (by omega) (by simp; omega) ?_; intro g9 cap9 w9 hown9 hg9 hat9; have HG9 : Hid ((wr.alloc (.cells #[.int .i64 y] 3)).grownBy w9 va.ownBlock) := (show Hid _ from ⟨hg9.os, hg9.tape, hg9.output, hg9.size, hg9.block⟩); have HO9 := Lib.hid hown9; have cO0 : w9.cell? ⟨O, 0, none⟩ = some va := hg9.cell (cell_al (.cells #[.int .i64 y] 3) cO0) HNE.out; have fO0 : w9.frozen? ⟨O, 0, none⟩ = false := HFZ.out w9 HG9.out; clear hg9 hown9 hat9)
          all_goals
            go_wp2_with fail
            go_roundw
            case rel => exact HREL.out g9 cap9 w9 HG9.out HO9.out
            case measure => simp [intOf]; omega
        · have z3 : decide (ns.length < l.length) = false := decide_eq_false (by omega)
          obtain ⟨Av, cv, ev⟩ := own_sl HTA.out.2
          subst ev
          have hlen : ns.length = l.length := by omega
          have HLEN := Lib.hid hlen
          obtain ⟨nn, enn⟩ : ∃ nn, nn = ns.length := ⟨_, rfl⟩
          rw [← enn] at HTA z3 ⊢
          have HNN := Lib.hid enn
          clear hlen enn
          have cO0 : wr.cell? ⟨O, 0, none⟩ = some (.slice Av nn cv) := cell_of_row wr O 0 _ _ _ HTA.out.1
          have cO1 : wr.cell? ⟨O, 1, none⟩ = some (.int .i64 0) := cell_of_row wr O 1 _ _ _ HTA.out.1
          have HRr : Hid (wr.heap[R]? = some (.cells #[.slice none 0 0, .int .i64 0] 45 (0, 0))) := (show Hid _ from (HBel.out.block R (by omega)).trans ((HB2.out.block R (by rw [HZ1.out]; omega)).trans HR1.out))
          have cR0 : wr.cell? ⟨R, 0, none⟩ = some (.slice none 0 0) := cell_of_row wr R 0 _ _ _ HRr.out
          have cR1 : wr.cell? ⟨R, 1, none⟩ = some (.int .i64 0) := cell_of_row wr R 1 _ _ _ HRr.out
          have fR0 : wr.frozen? ⟨R, 0, none⟩ = false := frozen_of_row wr R 0 _ _ HRr.out
          have fR1 : wr.frozen? ⟨R, 1, none⟩ = false := frozen_of_row wr R 1 _ _ HRr.out
          go_wp2_with fail
          have HW := store2 (.slice Av nn cv) (.int .i64 0) HRr.out
          have q0 := cell_of_row _ R 0 _ _ _ HW
          have q1 := cell_of_row _ R 1 _ _ _ HW
          simp only [List.getElem?_toArray, List.getElem?_cons_zero, List.getElem?_cons_succ] at q0 q1
          refine bodyPost_ret (v := .tuple #[.agg #[.slice Av nn cv, .int .i64 0], .int .i64 0]) (by simp [results, Tryz.results57, go_sem, q0, q1]) rfl ⟨_, ns, rfl, ?_, HIN.out, HLEN.out, ?_⟩
          · have hb : Below w.heap.size w wr := (HB1.out.trans (HB2.out.mono HB1.out.size)).trans (HBel.out.mono (by have := HER.out; omega))
            exact (hb.setCell (by show _ ≤ R; have := HER.out; omega) _).setCell (by show _ ≤ R; have := HER.out; omega) _
          · have ho := HTA.out.2
            exact own_lo (base := O + 1) (own_set3 (own_set3 ho (p := ⟨R, 0, none⟩) (by show R < O + 1; omega) _) (p := ⟨R, 1, none⟩) (by show R < O + 1; omega) _) (by have := HER.out; omega)
theorem i64_prime : i64r 2147483646 := by unfold i64r; omega
set_option maxRecDepth 100000 in
set_option maxHeartbeats 4000000 in
theorem seed_any (g : Nat) (l : List Int) (v : Value) (w : World) (hD : Dk w g) (h : SE g w v l) (hz : l.length ≤ 16384) (hl : limsOk l) :
    Calls Tryz.prog 27 #[.pointer (some ⟨g, 0, none⟩), v] w fun e w' => ∃ v1 ns, e = .returned (.agg #[v1, .int .i64 0]) ∧ Dk w' g ∧ w.grownBy w' (some g) ∧ inL l ns ∧ ns.length = l.length ∧ SE g w' v1 ns := by
  have HD := Lib.hid hD
  have HS := Lib.hid h
  have HL : Hid (limsOk l) := hl
  have hgw : g < w.heap.size := hD.lt
  obtain ⟨A, c, rfl⟩ := h.form
  clear h hl hD
  go_enter Tryz.func27, Tryz.ntmps27
  obtain ⟨R, eR⟩ : ∃ R, R = w.heap.size := ⟨_, rfl⟩
  obtain ⟨w1, ew1⟩ : ∃ w1 : World, w1 = w.alloc (.cells #[.slice none 0 0, .int .i64 0] 45) := ⟨_, rfl⟩
  have HW1 : Hid (w.alloc (.cells #[.slice none 0 0, .int .i64 0] 45) = w1) := ew1.symm
  have HR1 : Hid (w1.heap[R]? = some (.cells #[.slice none 0 0, .int .i64 0] 45 (0, 0))) := (show Hid _ from by show _ = _; rw [ew1, eR]; exact heap_alloc_new w _)
  have HB1 : Hid (Below w.heap.size w w1) := (show Hid _ from by rw [ew1]; exact (Below.refl _ w).alloc (Nat.le_refl _) _)
  have hz1 : w1.heap.size = R + 1 := by rw [ew1, eR]; simp
  have HS1 := Lib.hid (HS.out.below HB1.out)
  have HD1 := Lib.hid (HD.out.below HB1.out)
  have hgR : g < R := by omega
  have HER := Lib.hid eR
  clear ew1
  go_upto_region 1 with fail
  rw [HW1.out, ← eR]
  clear eR
  go_wp2_with fail
  (with_reducible refine (next_any 2147483646 g w1 HD1.out i64_prime (by omega)).mono ?_)
  rintro e w2 ⟨x, rfl, _, hx, hd2, hg2⟩
  obtain ⟨hx1, hx2⟩ := hx (by omega)
  have HD2 := Lib.hid hd2
  have HG2 := Lib.hid hg2
  have HS2 := Lib.hid (HS1.out.grown hg2)
  have m1 : IntKind.i64.wrap (1 + x) = 1 + x := by exact IntWalk.i64_in _ (by omega)
  clear hx hd2 hg2
  go_wp2_with fail
  (with_reducible refine (seeded_any (1 + x) l _ w2 (by omega) (by omega) HS2.out.si hz HL.out).mono ?_)
  rintro e w3 ⟨v1, ns, rfl, hb3, hin, hlen, hown⟩
  obtain ⟨A1, c1, ev1⟩ := own_sl hown
  subst ev1
  have HIN := Lib.hid hin
  have HLEN := Lib.hid hlen
  have HOW := Lib.hid hown
  obtain ⟨nn, enn⟩ : ∃ nn, nn = ns.length := ⟨_, rfl⟩
  rw [← enn] at HOW ⊢
  have HNN := Lib.hid enn
  have HR2 : Hid (w2.heap[R]? = some (.cells #[.slice none 0 0, .int .i64 0] 45 (0, 0))) := (show Hid _ from (HG2.out.block R (by omega) (by simp; omega)).trans HR1.out)
  have hR2 : R < w2.heap.size := heap_of_cells HR2.out
  have HR3 : Hid (w3.heap[R]? = some (.cells #[.slice none 0 0, .int .i64 0] 45 (0, 0))) := (show Hid _ from (hb3.block R hR2).trans HR2.out)
  have hR3 : R < w3.heap.size := heap_of_cells HR3.out
  have HD3 := Lib.hid (HD2.out.below hb3)
  have HG3 : Hid (w.grownBy w3 (some g)) := grownBy_trans (grownBy_of_below HB1.out _) (grownBy_trans HG2.out (grownBy_of_below hb3 _))
  have hz23 : w2.heap.size ≤ w3.heap.size := hb3.size
  clear hin hlen hown hb3 enn
  obtain ⟨O, eO⟩ : ∃ O, O = w3.heap.size := ⟨_, rfl⟩
  obtain ⟨w4, ew4⟩ : ∃ w4 : World, w4 = w3.alloc (.cells #[.slice A1 nn c1, .int .i64 0] 45) := ⟨_, rfl⟩
  have HW4 : Hid (w3.alloc (.cells #[.slice A1 nn c1, .int .i64 0] 45) = w4) := ew4.symm
  have HO4 : Hid (w4.heap[O]? = some (.cells #[.slice A1 nn c1, .int .i64 0] 45 (0, 0))) := (show Hid _ from by show _ = _; rw [ew4, eO]; exact heap_alloc_new w3 _)
  have HB4 : Hid (Below w3.heap.size w3 w4) := (show Hid _ from by rw [ew4]; exact (Below.refl _ w3).alloc (Nat.le_refl _) _)
  have HR4 : Hid (w4.heap[R]? = some (.cells #[.slice none 0 0, .int .i64 0] 45 (0, 0))) := (show Hid _ from (HB4.out.block R hR3).trans HR3.out)
  have HEO := Lib.hid eO
  clear ew4
  go_upto_region 2 with fail
  rw [HW4.out, ← eO]
  clear eO
  have cO0 : w4.cell? ⟨O, 0, none⟩ = some (.slice A1 nn c1) := cell_of_row w4 O 0 _ _ _ HO4.out
  have cO1 : w4.cell? ⟨O, 1, none⟩ = some (.int .i64 0) := cell_of_row w4 O 1 _ _ _ HO4.out
  have cR0 : w4.cell? ⟨R, 0, none⟩ = some (.slice none 0 0) := cell_of_row w4 R 0 _ _ _ HR4.out
  have cR1 : w4.cell? ⟨R, 1, none⟩ = some (.int .i64 0) := cell_of_row w4 R 1 _ _ _ HR4.out
  have fR0 : w4.frozen? ⟨R, 0, none⟩ = false := frozen_of_row w4 R 0 _ _ HR4.out
  have fR1 : w4.frozen? ⟨R, 1, none⟩ = false := frozen_of_row w4 R 1 _ _ HR4.out
  go_wp2_with fail
  have HW := store2 (.slice A1 nn c1) (.int .i64 0) HR4.out
  have q0 := cell_of_row _ R 0 _ _ _ HW
  have q1 := cell_of_row _ R 1 _ _ _ HW
  simp only [List.getElem?_toArray, List.getElem?_cons_zero, List.getElem?_cons_succ] at q0 q1
  have hRw : w.heap.size ≤ R := by have := HER.out; omega
  have hG5 : w4.grownBy ((w4.setCell ⟨R, 0, none⟩ (.slice A1 nn c1)).setCell ⟨R, 1, none⟩ (.int .i64 0)) (some R) := grownBy_setCell (g := R) (p := ⟨R, 1, none⟩) (grownBy_setCell (g := R) (p := ⟨R, 0, none⟩) (grownBy_refl _ _) (.inl rfl) _) (.inl rfl) _
  have hGf : w.grownBy ((w4.setCell ⟨R, 0, none⟩ (.slice A1 nn c1)).setCell ⟨R, 1, none⟩ (.int .i64 0)) (some g) := grownBy_own (grownBy_trans HG3.out (grownBy_of_below HB4.out _)) hG5 (fun k hk => by injection hk with e; omega)
  have hDf : Dk ((w4.setCell ⟨R, 0, none⟩ (.slice A1 nn c1)).setCell ⟨R, 1, none⟩ (.int .i64 0)) g := (HD3.out.below HB4.out).grown hG5 (fun k hk => by injection hk with e; omega)
  refine bodyPost_ret (v := .agg #[.slice A1 nn c1, .int .i64 0]) (by simp [results, Tryz.results27, go_sem, q0, q1]) rfl ⟨_, ns, rfl, hDf, hGf, HIN.out, HLEN.out, ?_⟩
  have ho := own_bel HOW.out HB4.out
  have ho2 := own_set3 (own_set3 ho (p := ⟨R, 0, none⟩) hR2 (.slice A1 nn c1)) (p := ⟨R, 1, none⟩) hR2 (.int .i64 0)
  rw [HNN.out] at ho2 ⊢
  exact SE.of_own ho2 (inL_r HIN.out (fun x hx => (HL.out x hx).2)) (by omega)
end Go.Proofs.YtoiabanpnkpbhaaGreatDoor

namespace Go.Proofs.YtoiabanpnkpbhaaGreatDoor
open Go.RowKit

def tsB (a b : Int) (x y : List Int) : Bool := decide (a = b ∧ x = y)
set_option maxHeartbeats 1000000 in
theorem tsame_any (a b : Int) (x y : List Int) (vx vy : Value) (w : World) (hx : SI w vx x) (hy : SI w vy y) :
    Calls Tryz.prog 28 #[.agg #[vx, .int .i64 a], .agg #[vy, .int .i64 b]] w fun e w' => e = .returned (.bool (tsB a b x y)) ∧ Below w.heap.size w w' := by
  obtain ⟨A1, c1, rfl, hc1, hm1, hr1, ha1⟩ := hx
  obtain ⟨A2, c2, rfl, hc2, hm2, hr2, ha2⟩ := hy
  have HA1 := Lib.hid ha1
  have HA2 := Lib.hid ha2
  have hbb : Below w.heap.size w ((w.alloc (.cells #[.slice A1 x.length c1, .int .i64 a] 45)).alloc (.cells #[.slice A2 y.length c2, .int .i64 b] 45)) := ((Below.refl _ _).alloc (Nat.le_refl _) _).alloc (by simp) _
  clear ha1 ha2 hr1 hr2
  by_cases h1 : a = b
  · have hd1 : (a != b) = false := by simpa using h1
    by_cases h3 : x.length = y.length
    · have hd3 : ((x.length : Int) != (y.length : Int)) = false := by rw [bne_eq_false_iff_eq]; omega
      have HS : Hid (tsB a b x y = decide (x = y)) := by show _ = _; unfold tsB; simp [h1]
      have H3 := Lib.hid h3
      clear h1 h3
      go_enter Tryz.func28, Tryz.ntmps28
      go_wp2_with fail
      have q0 : ((w.alloc (.cells #[.slice A1 x.length c1, .int .i64 a] 45)).alloc (.cells #[.slice A2 y.length c2, .int .i64 b] 45)).cell? ⟨w.heap.size, 0, none⟩ = some (.slice A1 x.length c1) := by simp [go_sem]
      have q1 : ((w.alloc (.cells #[.slice A1 x.length c1, .int .i64 a] 45)).alloc (.cells #[.slice A2 y.length c2, .int .i64 b] 45)).cell? ⟨w.heap.size + 1, 0, none⟩ = some (.slice A2 y.length c2) := by simp [go_sem]
      obtain ⟨wx, ewx⟩ : ∃ wx : World, wx = (w.alloc (.cells #[.slice A1 x.length c1, .int .i64 a] 45)).alloc (.cells #[.slice A2 y.length c2, .int .i64 b] 45) := ⟨_, rfl⟩
      have hzx : w.heap.size + 2 = wx.heap.size := by rw [ewx]; simp
      rw [← ewx] at hbb q0 q1 ⊢
      clear ewx
      go_loopw [23] (fun i wr => ∃ k n : Nat, k ≤ x.length ∧ i = .int .i64 k ∧ nA4 x y k ∧ wr = wx.drewN n) (fun i _ => x.length - (intOf i).toNat)
      case atStart => exact ⟨0, 0, Nat.zero_le _, rfl, fun j h => absurd h (by omega), rfl⟩
      case round =>
        obtain ⟨k, n, hk, rfl, hne, rfl⟩ := hrel
        have HN := Lib.hid hne
        clear hne
        by_cases hlt : k < x.length
        · have hlt2 : k < y.length := by have := H3.out; omega
          obtain ⟨bx, ox, rfl, hbx, hcx⟩ := HA1.out (by omega)
          obtain ⟨by_, oy, rfl, hby, hcy⟩ := HA2.out (by omega)
          have cx := (hbb.cell (p := ⟨bx, ox + k, none⟩) hbx).trans (hcx k hlt)
          have cy := (hbb.cell (p := ⟨by_, oy + k, none⟩) hby).trans (hcy k hlt2)
          have z1 : (0 : Int) ≤ (k : Int) := by omega
          have z2 : (k : Int) < (x.length : Int) := by omega
          have z3 : (k : Int) < (y.length : Int) := by omega
          clear hcx hcy
          by_cases he : x[k] = y[k]
          · have hd4 : (x[k] != y[k]) = false := by simpa using he
            have HN2 : Hid (nA4 x y (k + 1)) := nA4_step HN.out hlt hlt2 he
            clear he
            go_wp2_with fail
            go_quiet (fail)
            go_wp2_with fail
            go_goals
            go_roundw
            case rel => exact ⟨k + 1, n + nq, by omega, by go_num, HN2.out, rfl⟩
            case measure => simp [intOf]; omega
          · have hd4 : (x[k] != y[k]) = true := by simpa using he
            have HF : Hid (tsB a b x y = false) := by show _ = _; rw [HS.out]; exact decide_eq_false (fun e => he (by subst e; rfl))
            clear he
            go_wp2_with fail
            go_quiet (fail)
            go_wp2_with fail
            go_ret
            exact ⟨ret_bool HF.out.symm, Below.drewN (Below.drewN hbb _) _⟩
        · have HF : Hid (tsB a b x y = true) := by
            have hkx : k = x.length := by omega
            subst hkx
            show _ = _
            rw [HS.out]
            exact decide_eq_true (nA4_eq H3.out HN.out)
          go_wp2_with fail
          go_ret
          exact ⟨ret_bool HF.out.symm, Below.drewN hbb _⟩
    · have hd3 : ((x.length : Int) != (y.length : Int)) = true := by rw [bne_iff_ne]; omega
      have HF : Hid (tsB a b x y = false) := decide_eq_false (fun e => h3 (by rw [e.2]))
      clear h1 h3
      go_enter Tryz.func28, Tryz.ntmps28
      go_wp2_with fail
      go_ret
      exact ⟨ret_bool HF.out.symm, hbb⟩
  · have hd1 : (a != b) = true := by simpa using h1
    have HF : Hid (tsB a b x y = false) := decide_eq_false (fun e => h1 e.1)
    clear h1
    go_enter Tryz.func28, Tryz.ntmps28
    go_wp2_with fail
    go_ret
    exact ⟨ret_bool HF.out.symm, hbb⟩
end Go.Proofs.YtoiabanpnkpbhaaGreatDoor

namespace Go.Proofs.YtoiabanpnkpbhaaGreatDoor
open Go.RowKit

theorem emod_step (A c P : Int) : (A + c) % P = (A % P + c) % P := by rw [Int.emod_add_emod]
theorem limits_ok {n : Nat} {P : Int} (hP : 2 ≤ P ∧ P ≤ 65521) : limsOk (List.replicate n P) := fun x hx => by rw [(List.mem_replicate.1 hx).2]; omega
theorem inL_els {n : Nat} {P : Int} {ns : List Int} (h : inL (List.replicate n P) ns) (hl : ns.length = n) : els P ns = true := els_of fun x hx => by
  obtain ⟨j, hj, rfl⟩ := List.mem_iff_getElem.1 hx
  have := h.2 j hj (by simp; omega)
  simp at this
  exact decide_eq_true this
theorem u8_tmod (a : Nat) (m : Int) (hm : 1 ≤ m) : (a : Int).tmod m = ((a % m.toNat : Nat) : Int) ∧ ((a % m.toNat : Nat) : Int) < m := by
  rw [Int.tmod_eq_emod_of_nonneg (by omega)]
  have hm' : m = (m.toNat : Int) := by omega
  refine ⟨?_, ?_⟩
  · rw [hm']; simp
  · have := Nat.mod_lt a (show 0 < m.toNat by omega); omega
end Go.Proofs.YtoiabanpnkpbhaaGreatDoor

namespace Go.Proofs.YtoiabanpnkpbhaaGreatDoor
open Go.RowKit

/-- the coefficients of query i -/
def qCo (want : Int) (D : List Int) (t i : Nat) : List Int := (if (i : Int) = want then 1 else 0) :: (D.drop (i * t)).take t
def qPt (P want : Int) (D : List Int) (t i k : Nat) : Int := val P (qCo want D t i) ((k : Int) + 1)
def qRow (P want : Int) (D : List Int) (t k c : Nat) : List Int := (List.range c).map fun i => qPt P want D t i k
theorem qRow_succ (P want : Int) (D : List Int) (t k c : Nat) : qRow P want D t k (c + 1) = qRow P want D t k c ++ [qPt P want D t c k] := by
  unfold qRow
  rw [List.range_succ, List.map_append]
  rfl
theorem qRow_len (P want : Int) (D : List Int) (t k c : Nat) : (qRow P want D t k c).length = c := by unfold qRow; simp
/-- the rows while query i is shared out: the first j servers have it -/
def qMid (P want : Int) (D : List Int) (t n i j : Nat) : List (List Int) := (List.range n).map fun k => qRow P want D t k (if k < j then i + 1 else i)
def qRows (P want : Int) (D : List Int) (t n c : Nat) : List (List Int) := (List.range n).map fun k => qRow P want D t k c
theorem qMid_len (P want : Int) (D : List Int) (t n i j : Nat) : (qMid P want D t n i j).length = n := by unfold qMid; simp
theorem qRows_len (P want : Int) (D : List Int) (t n c : Nat) : (qRows P want D t n c).length = n := by unfold qRows; simp
theorem qMid_zero (P want : Int) (D : List Int) (t n i : Nat) : qMid P want D t n i 0 = qRows P want D t n i := by
  unfold qMid qRows
  apply List.map_congr_left
  intro k _
  rw [if_neg (by omega)]
theorem qMid_end (P want : Int) (D : List Int) (t n i : Nat) : qMid P want D t n i n = qRows P want D t n (i + 1) := by
  unfold qMid qRows
  apply List.map_congr_left
  intro k hk
  rw [if_pos (List.mem_range.1 hk)]
theorem qRows_zero (P want : Int) (D : List Int) (t n : Nat) : qRows P want D t n 0 = List.replicate n [] := by
  apply List.ext_getElem
  · simp [qRows_len]
  · intro k h1 h2
    simp [qRows, qRow]
theorem qMid_get (P want : Int) (D : List Int) (t n i j : Nat) (h : j < (qMid P want D t n i j).length) : (qMid P want D t n i j)[j] = qRow P want D t j i := by
  simp [qMid]
theorem qMid_step (P want : Int) (D : List Int) (t n i j : Nat) (hj : j < n) : (qMid P want D t n i j).set j (qRow P want D t j i ++ [qPt P want D t i j]) = qMid P want D t n i (j + 1) := by
  apply List.ext_getElem
  · simp [qMid_len]
  · intro k h1 h2
    by_cases hk : k = j
    · subst hk
      rw [List.getElem_set_self, ← qRow_succ]
      simp [qMid]
    · rw [List.getElem_set_ne (Ne.symm hk)]
      simp only [qMid, List.getElem_map, List.getElem_range]
      congr 1
      by_cases h : k < j
      · rw [if_pos h, if_pos (by omega)]
      · rw [if_neg h, if_neg (by omega)]
theorem dsE_full {l : List Int} {P : Int} (hP : 2 ≤ P ∧ P ≤ 65521) (hl : l.length ≤ 16384) (h : els P l = true) : dsE l ((0 : Nat) : Int) P (l.length : Int) = 0 := by
  have hv : tvB l ((0 : Nat) : Int) = true := decide_eq_true ⟨hl, by omega, by omega⟩
  have hi : liB P = true := decide_eq_true ⟨by omega, by omega⟩
  unfold dsE
  rw [if_neg (by rw [hv]; simp), if_neg (by rw [hi]; simp)]
  exact drE_of fun j hj => by
    have hj' : j < l.length := by simpa using hj
    have := els_all h l[j] (List.getElem_mem hj')
    have h2 : 0 ≤ l[j] ∧ l[j] < P := of_decide_eq_true this
    have hg : gd l (0 + j) = l[j] := by simp [gd, hj']
    show 0 + j < l.length ∧ 0 ≤ gd l (0 + j) ∧ gd l (0 + j) < P
    rw [hg]; exact ⟨by simpa using hj', h2⟩
/-- what was drawn without an error are elements -/
theorem dsE_els {l : List Int} {an : Nat} {P c : Int} (h : dsE l an P c = 0) : ((l.drop an).take c.toNat).length = c.toNat ∧ els P ((l.drop an).take c.toNat) = true := by
  have hv : tvB l an = true := by
    cases hh : tvB l (an : Int) with
    | true => rfl
    | false => unfold dsE at h; rw [if_pos hh] at h; cases h
  have hd : drE l P an c.toNat = 0 := by
    unfold dsE at h
    rw [if_neg (by rw [hv]; simp)] at h
    split at h
    · cases h
    · exact h
  have := drE_ok hd
  refine ⟨?_, ?_⟩
  · rw [List.length_take, List.length_drop]
    rcases Nat.eq_zero_or_pos c.toNat with h0 | h0
    · omega
    · have := (this (c.toNat - 1) (by omega)).1
      omega
  · unfold els
    rw [List.all_eq_true]
    intro x hx
    obtain ⟨j, hj, rfl⟩ := List.mem_iff_getElem.1 hx
    have hjm : j < c.toNat := by simp at hj; omega
    obtain ⟨q1, q2, q3⟩ := this j hjm
    have : gd l (an + j) = ((l.drop an).take c.toNat)[j] := by simp [gd, q1]
    rw [this] at q2 q3
    exact decide_eq_true ⟨q2, q3⟩
theorem SI.piece {w : World} {b off c : Nat} {l : List Int} (h : SI w (.slice (some ⟨b, off, none⟩) l.length c) l) {lo k : Nat} (h1 : lo + k ≤ l.length) :
    SI w (.slice (some ⟨b, off + lo, none⟩) k (c - lo)) ((l.drop lo).take k) := by
  have hk : ((l.drop lo).take k).length = k := by simp; omega
  obtain ⟨A', c', e, hc, hm, hr, ha⟩ := h
  injection e with e1 e2 e3
  subst e3
  refine ⟨_, c - lo, by rw [hk], by rw [hk]; omega, by omega, fun x hx => hr x (List.mem_of_mem_drop (List.mem_of_mem_take hx)), fun h0 => ?_⟩
  obtain ⟨b', off', hA, hb, hcell⟩ := ha (by rw [hk] at h0; omega)
  rw [← e1] at hA
  injection hA with hA
  injection hA with hb1 ho1
  subst hb1 ho1
  refine ⟨b, off + lo, rfl, hb, fun j hj => ?_⟩
  have hj' : lo + j < l.length := by rw [hk] at hj; omega
  have := hcell (lo + j) hj'
  rw [Nat.add_assoc, this]
  simp
theorem qPt_r {P want : Int} (hP : 2 ≤ P) (D : List Int) (t i k : Nat) : 0 ≤ qPt P want D t i k ∧ qPt P want D t i k < P := val_bd hP _ _
theorem qRows_r {P want : Int} (hP : 2 ≤ P ∧ P ≤ 65521) (D : List Int) (t n c : Nat) : ∀ r ∈ qRows P want D t n c, ∀ x ∈ r, i64r x := by
  intro r hr x hx
  obtain ⟨k, _, rfl⟩ := List.mem_map.1 hr
  obtain ⟨i, _, rfl⟩ := List.mem_map.1 hx
  have := qPt_r (want := want) hP.1 D t i k
  unfold i64r
  omega
end Go.Proofs.YtoiabanpnkpbhaaGreatDoor
