/- Joined: Kv Gs Row. -/
import Derived.OpenShut
import Derived.Test.YtoiabanpnkpbhaaGreatDoorY25
import Derived.Test.YtoiabanpnkpbhaaGreatDoorY27
import Derived.Test.YtoiabanpnkpbhaaGreatDoorY28
import Derived.Test.YtoiabanpnkpbhaaGreatDoorY31
import Derived.Test.YtoiabanpnkpbhaaGreatDoorY21
import Derived.Test.YtoiabanpnkpbhaaGreatDoorY22
import Derived.Test.YtoiabanpnkpbhaaGreatDoorY01
namespace Go.Proofs.YtoiabanpnkpbhaaGreatDoor
open Go.RowKit

theorem lit2 (W : World) (a b : Int) (ha : i64r a) (hb : i64r b) :
    SL (((W.alloc (.cells #[.int .i64 a] 3)).alloc (.cells #[.int .i64 b] 3)).alloc (.cells #[.slice (some ⟨W.heap.size, 0, none⟩) 1 1, .slice (some ⟨W.heap.size + 1, 0, none⟩) 1 1] 22)) (.slice (some ⟨W.heap.size + 2, 0, none⟩) 2 2) [[a], [b]] := by
  have al : ∀ (V : World) (o : Obj), Below V.heap.size V (V.alloc o) := fun V o => (Below.refl _ V).alloc (Nat.le_refl _) o
  have sz : ∀ (V : World) (o : Obj), (V.alloc o).heap.size = V.heap.size + 1 := fun V o => by simp
  obtain ⟨w1, e1⟩ : ∃ w1, w1 = W.alloc (.cells #[.int .i64 a] 3) := ⟨_, rfl⟩
  obtain ⟨w2, e2⟩ : ∃ w2, w2 = w1.alloc (.cells #[.int .i64 b] 3) := ⟨_, rfl⟩
  have s1 : w1.heap.size = W.heap.size + 1 := by rw [e1]; exact sz _ _
  have s2 : w2.heap.size = W.heap.size + 2 := by rw [e2, sz, s1]
  have t1 : SI w1 (.slice (some ⟨W.heap.size, 0, none⟩) 1 1) [a] := by rw [e1]; exact lit1 W a ha
  have t2 : SI w2 (.slice (some ⟨W.heap.size + 1, 0, none⟩) 1 1) [b] := by rw [e2, ← s1]; exact lit1 w1 b hb
  have b2 : Below w1.heap.size w1 w2 := by rw [e2]; exact al _ _
  rw [← e1, ← e2, ← s2]
  have b3 := al w2 (.cells #[.slice (some ⟨W.heap.size, 0, none⟩) 1 1, .slice (some ⟨W.heap.size + 1, 0, none⟩) 1 1] 22)
  have hc3 := heap_alloc_new w2 (.cells #[.slice (some ⟨W.heap.size, 0, none⟩) 1 1, .slice (some ⟨W.heap.size + 1, 0, none⟩) 1 1] 22)
  refine ⟨_, 2, rfl, Nat.le_refl _, by omega, fun _ => ⟨w2.heap.size, 0, rfl, by simp, fun j hj => ?_⟩⟩
  have hj2 : j < 2 := hj
  match j, hj2 with
  | 0, _ => exact ⟨_, 1, cell_of_row _ _ 0 _ _ _ hc3, (t1.below b2).below b3⟩
  | 1, _ => exact ⟨_, 1, cell_of_row _ _ 1 _ _ _ hc3, t2.below b3⟩
theorem sv_sane : SV 7 4 1 2 := ⟨by kernel_rfl, by omega, by omega, by omega, by omega, by omega, by omega⟩
theorem gOut_sane : gOut 2 1 [[3], [5]] 0 = [[3], [5]] := by kernel_rfl
theorem sane_rows : ∀ r ∈ ([[3], [5]] : List (List Int)), r.length = 1 ∧ els 7 r = true := by decide
/-- what server j answers -/
def sA (j : Nat) : List Int := cmb 7 (gRow 7 0 [6] 1 2 j 1) (hRows 7 [[3], [5]] ((j : Int) + 1) 1 2 1) 1
theorem sA_len (j : Nat) : (sA j).length = 1 := cmbT_len ..
def Sn1 (w3 : World) (v iv : Value) (wr : World) : Prop :=
  ∃ (k : Nat) (pv : Value) (xs : List (Bool × Value)), pv = v ∧ k ≤ 4 ∧ iv = .int .i64 ((k : Int) + 1) ∧ xs.length = k ∧ LM w3.heap.size wr pv none xs ((List.range k).map fun j => (true, sA j)) ∧ Below w3.heap.size w3 wr
theorem sane_dec {rows : List (List Int)} {wr : List Int} {er : Int} (h : DgR 7 4 1 2 1 ((List.range 4).map fun j => (true, sA j)) rows wr er) : er = 0 ∧ rows = [[3], [5]] ∧ wr = [] := by
  obtain ⟨h1, h2, h3⟩ := gdec_all (P := 7) (n := 4) (t := 1) (G := 2) (w := 1) (ng := 1) (want := 0) (D := [6]) (table := [[3], [5]]) (bad := []) sv_sane.pr (by omega) (by omega) (by omega) (by omega) (by omega) (by simp) sane_rows (by omega) (by simp) (by have h : knL ((List.range 4).map fun j => (true, sA j)) = 4 := rfl; omega) (fun j hj hk => by
      have hj' : j < 4 := by simpa using hj
      simp only [List.getElem_map, List.getElem_range]
      exact ⟨sA_len j, cmbT_els (by omega) ..⟩) (by simp [inc]) (fun x => by
      constructor
      · intro h; cases h
      · rintro ⟨j, hj, _, _, h⟩
        exfalso
        apply h
        simp only [List.getElem_map, List.getElem_range]
        rfl) (by simp) h
  exact ⟨h1, by rw [h2, gOut_sane], h3⟩
set_option maxRecDepth 100000 in
set_option maxHeartbeats 8000000 in
theorem sane_any (w : World) (hE : EW w) : Calls Tryz.prog 10 #[] w fun e w' => e = .returned (.bool true) ∧ Below w.heap.size w w' := by
  have HE := Lib.hid hE
  clear hE
  go_enter Tryz.func10, Tryz.ntmps10
  obtain ⟨F, eF⟩ : ∃ F, F = w.heap.size := ⟨_, rfl⟩
  obtain ⟨wb, ewb⟩ : ∃ wb : World, wb = (w.alloc (.cells #[.int .i64 7] 31)).alloc (.cells #[.int .i64 4, .int .i64 1, .int .i64 2] 29) := ⟨_, rfl⟩
  have hzb : wb.heap.size = F + 2 := by rw [ewb, eF]; simp
  obtain ⟨w1, ew⟩ : ∃ w1 : World, w1 = ((wb.alloc (.cells #[.int .i64 3] 3)).alloc (.cells #[.int .i64 5] 3)).alloc (.cells #[.slice (some ⟨F + 2, 0, none⟩) 1 1, .slice (some ⟨F + 3, 0, none⟩) 1 1] 22) := ⟨_, rfl⟩
  have HW1 : Hid (((((w.alloc (.cells #[.int .i64 7] 31)).alloc (.cells #[.int .i64 4, .int .i64 1, .int .i64 2] 29)).alloc (.cells #[.int .i64 3] 3)).alloc (.cells #[.int .i64 5] 3)).alloc (.cells #[.slice (some ⟨F + 2, 0, none⟩) 1 1, .slice (some ⟨F + 3, 0, none⟩) 1 1] 22) = w1) := (show Hid _ from by show _ = _; rw [ew, ewb])
  have HBb : Hid (Below w.heap.size w wb) := (show Hid _ from by rw [ewb]; exact ((Below.refl _ w).alloc (Nat.le_refl _) _).alloc (by simp) _)
  have HFb : Hid (wb.heap[F]? = some (.cells #[.int .i64 7] 31 (0, 0))) := (show Hid _ from by show _ = _; rw [ewb, eF, Below.heap_alloc _ _ _ (by simp)]; exact heap_alloc_new w _)
  have HTb : Hid (wb.heap[F + 1]? = some (.cells #[.int .i64 4, .int .i64 1, .int .i64 2] 29 (0, 0))) := (show Hid _ from by show _ = _; rw [ewb, eF]; have := heap_alloc_new (w.alloc (.cells #[.int .i64 7] 31)) (.cells #[.int .i64 4, .int .i64 1, .int .i64 2] 29); simpa using this)
  have HSL : Hid (SL w1 (.slice (some ⟨F + 4, 0, none⟩) 2 2) [[3], [5]]) := (show Hid _ from by
    have h := lit2 wb 3 5 (i64_s (by omega)) (i64_s (by omega))
    rw [hzb] at h
    rw [ew]; exact h)
  have HBb1 : Hid (Below wb.heap.size wb w1) := (show Hid _ from by rw [ew]; exact (((Below.refl _ wb).alloc (Nat.le_refl _) _).alloc (by simp) _).alloc (by simp; omega) _)
  have HB1 : Hid (Below w.heap.size w w1) := (show Hid _ from HBb.out.trans (HBb1.out.mono HBb.out.size))
  have HF1 : Hid (w1.heap[F]? = some (.cells #[.int .i64 7] 31 (0, 0))) := (show Hid _ from (HBb1.out.block F (heap_of_cells HFb.out)).trans HFb.out)
  have HT1 : Hid (w1.heap[F + 1]? = some (.cells #[.int .i64 4, .int .i64 1, .int .i64 2] 29 (0, 0))) := (show Hid _ from (HBb1.out.block (F + 1) (heap_of_cells HTb.out)).trans HTb.out)
  have HEF := Lib.hid eF
  go_upto_region 4 with fail
  rw [← eF]
  rw [show F + 1 + 1 + 1 = F + 3 from rfl, show F + 1 + 1 = F + 2 from rfl]
  rw [HW1.out]
  clear ew ewb eF hzb
  have HC : Hid (∀ W, Below w1.heap.size w1 W → W.cell? ⟨F, 0, none⟩ = some (.int .i64 7) ∧ W.cell? ⟨F + 1, 0, none⟩ = some (.int .i64 4) ∧ W.cell? ⟨F + 1, 1, none⟩ = some (.int .i64 1) ∧ W.cell? ⟨F + 1, 2, none⟩ = some (.int .i64 2)) := (show Hid _ from fun W hb => by
    have h1 := (hb.block F (heap_of_cells HF1.out)).trans HF1.out
    have h2 := (hb.block (F + 1) (heap_of_cells HT1.out)).trans HT1.out
    exact ⟨cell_of_row W F 0 _ _ _ h1, cell_of_row W (F + 1) 0 _ _ _ h2, cell_of_row W (F + 1) 1 _ _ _ h2, cell_of_row W (F + 1) 2 _ _ _ h2⟩)
  have HFz : Hid (F < w1.heap.size) := (show Hid _ from heap_of_cells HF1.out)
  obtain ⟨c0, c1, c2, c3⟩ := HC.out w1 (Below.refl _ _)
  have HBl : Hid (Below w1.heap.size w1 (w1.alloc (.cells #[.int .i64 6] 3))) := (show Hid _ from (Below.refl _ w1).alloc (Nat.le_refl _) _)
  have HQU : Hid (Calls Tryz.prog 22 #[.agg #[.int .i64 7], .agg #[.int .i64 4, .int .i64 1, .int .i64 2], .int .i64 1, .int .i64 0, .agg #[.slice (some ⟨w1.heap.size, 0, none⟩) 1 1, .int .i64 0]] (w1.alloc (.cells #[.int .i64 6] 3)) fun e w' => ∃ Aq cq A2 c2, e = .returned (.tuple #[.slice Aq 4 cq, .agg #[.slice A2 1 c2, .int .i64 1], .int .i64 0]) ∧ Below (w1.alloc (.cells #[.int .i64 6] 3)).heap.size (w1.alloc (.cells #[.int .i64 6] 3)) w' ∧ SLE F w' (.slice Aq 4 cq) (gRows 7 0 [6] 1 2 4 1) ∧ SI w' (.slice A2 1 c2) [6]) := (show Hid _ from gqueries_ok 7 4 1 2 1 1 0 F [6] (.slice (some ⟨w1.heap.size, 0, none⟩) 1 1) (w1.alloc (.cells #[.int .i64 6] 3)) sv_sane (by omega) (by omega) rfl rfl (by decide) (lit1 w1 6 (i64_s (by omega))) (by have := HFz.out; simp; omega))
  go_wp2_with fail
  (with_reducible refine HQU.out.mono ?_)
  rintro e w2 ⟨Aq, cq, A2, k2, rfl, hb2, hsq, _⟩
  have HSQ := Lib.hid hsq
  have HB2 : Hid (Below w1.heap.size w1 w2) := (show Hid _ from HBl.out.trans (hb2.mono HBl.out.size))
  clear hb2 hsq c0 c1 c2 c3 HQU
  obtain ⟨w3, ew3⟩ : ∃ w3 : World, w3 = w2.alloc (.cells #[.slice A2 1 k2, .int .i64 1] 45) := ⟨_, rfl⟩
  have HW3 : Hid (w2.alloc (.cells #[.slice A2 1 k2, .int .i64 1] 45) = w3) := ew3.symm
  have HB3 : Hid (Below w2.heap.size w2 w3) := (show Hid _ from by rw [ew3]; exact (Below.refl _ w2).alloc (Nat.le_refl _) _)
  have HB13 : Hid (Below w1.heap.size w1 w3) := (show Hid _ from HB2.out.trans (HB3.out.mono HB2.out.size))
  have HS3 := Lib.hid (HSQ.out.below HB3.out)
  go_upto_region 5 with fail
  rw [HW3.out]
  clear ew3
  go_wp2_with fail
  go_loopw [7, 8] (fun v iv wr => Sn1 w3 v iv wr) (fun _ iv _ => 6 - (intOf iv).toNat)
  case atStart => exact ⟨0, _, [], rfl, by omega, rfl, rfl, LM.nil .., Below.refl _ _⟩
  case round =>
    obtain ⟨k, pv, xs, rfl, hk, rfl, hxl, hlm, hb⟩ := hrel
    have HLM := Lib.hid hlm
    have HB := Lib.hid hb
    have HXL := Lib.hid hxl
    have hxl' : xs.length ≤ 4 := by omega
    have HB1r : Hid (Below w1.heap.size w1 wr) := (show Hid _ from HB13.out.trans (hb.mono HB13.out.size))
    have HFr : Hid (F < wr.heap.size) := (show Hid _ from Nat.lt_of_lt_of_le HFz.out HB1r.out.size)
    have HZ3 : Hid (w3.heap.size ≤ wr.heap.size) := hb.size
    obtain ⟨c0, c1, c2, c3⟩ := HC.out wr HB1r.out
    clear hlm hb hxl
    by_cases hlk : k < 4
    · have dk : decide ((k : Int) + 1 ≤ 4) = true := decide_eq_true (by omega)
      have hjl : k < (gRows 7 0 [6] 1 2 4 1).length := by rw [gRows_len]; exact hlk
      obtain ⟨bq, oq, cq', Hq, evq, _, hvq⟩ := HS3.out.view (by rw [gRows_len]; omega)
      obtain ⟨cq1, hq1, Bq, dq, eHq⟩ := hvq wr (grownBy_of_below HB.out _) k hjl
      have hrow : (gRows 7 0 [6] 1 2 4 1)[k] = gRow 7 0 [6] 1 2 k 1 := by simp [gRows]
      rw [hrow] at hq1 eHq
      rw [gRow_len] at eHq
      rw [eHq] at cq1 hq1
      have HQ1 : Hid (SI wr (.slice Bq 1 dq) (gRow 7 0 [6] 1 2 k 1)) := (show Hid _ from hq1.si)
      have HHO : Hid (Calls Tryz.prog 17 #[.agg #[.int .i64 7], .agg #[.int .i64 4, .int .i64 1, .int .i64 2], .int .i64 1, .slice (some ⟨F + 3 + 1, 0, none⟩) 2 2, .int .i64 ((k : Int) + 1)] wr fun e w' => ∃ A c, e = .returned (.tuple #[.slice A 1 c, .int .i64 0]) ∧ Below wr.heap.size wr w' ∧ SLE F w' (.slice A 1 c) (hRows 7 [[3], [5]] ((k : Int) + 1) 1 2 1)) := (show Hid _ from hold_ok 7 4 1 2 1 (k + 1) F [[3], [5]] _ wr sv_sane (by omega) (by omega) (by simp) sane_rows (HSL.out.below HB1r.out) HFr.out)
      rw [gRows_len] at evq
      injection evq with evq1 _ evq3
      subst evq1 evq3
      clear hq1 hrow hvq eHq
      go_wp2_with fail
      (with_reducible refine HHO.out.mono ?_)
      rintro e w4 ⟨Ah, ch, rfl, hb4, hsh⟩
      have HSH := Lib.hid hsh
      have HB4 := Lib.hid hb4
      have HB14 : Hid (Below w1.heap.size w1 w4) := (show Hid _ from HB1r.out.trans (hb4.mono HB1r.out.size))
      have cq4 := (hb4.cell (p := ⟨bq, oq + k, none⟩) (by have h := World.block_lt_of_cell? wr _ cq1; exact h)).trans cq1
      have HQ4 := Lib.hid (HQ1.out.below hb4)
      clear c0 c1 c2 c3 cq1 hsh hb4 HHO
      obtain ⟨c0, c1, c2, c3⟩ := HC.out w4 HB14.out
      have HAN : Hid (∀ W, Below w4.heap.size w4 W → Calls Tryz.prog 44 #[.agg #[.int .i64 7], .int .i64 1, .slice Ah 1 ch, .slice Bq 1 dq] W fun e w' => ∃ A c, e = .returned (.tuple #[.slice A 1 c, .int .i64 0]) ∧ Below W.heap.size W w' ∧ w'.ownsRow w4.heap.size 3 1 (.slice A 1 c) 1 ((sA k).map (Value.int .i64))) := (show Hid _ from fun W hb => by
        have hco : coE 7 (gRow 7 0 [6] 1 2 k 1) (hRows 7 [[3], [5]] ((k : Int) + 1) 1 2 1) (1 : Nat) = 0 := coE_zero sv_sane.pr (by omega) (by rw [gRow_len, hRows_len]) (hRows_mem (by omega)) (gRow_els (by omega) ..)
        refine (answer16_any 7 (gRow 7 0 [6] 1 2 k 1) (hRows 7 [[3], [5]] ((k : Int) + 1) 1 2 1) (1 : Nat) _ _ W (by unfold i64r; omega) (HQ4.out.below hb) (HSH.out.below hb).sl).mono fun e w' ⟨v, h1, h2, _, h4⟩ => ?_
        rw [hco] at h1 h4
        have h5 := h4 rfl
        rw [Int.toNat_natCast] at h5
        have h6 : w'.ownsRow W.heap.size 3 1 v 1 ((sA k).map (Value.int .i64)) := by
          have e1 : (cmb 7 (gRow 7 0 [6] 1 2 k 1) (hRows 7 [[3], [5]] ((k : Int) + 1) 1 2 1) 1).length = 1 := sA_len k
          rw [e1] at h5
          exact h5
        obtain ⟨A, c, e2⟩ := own_sl' h6
        subst e2
        exact ⟨A, c, h1, h2, own_lo h6 hb.size⟩)
      have HB0 : Hid (Below w4.heap.size w4 w4) := Below.refl _ _
      have HB0d : Hid (Below w4.heap.size w4 w4.drew) := (Below.refl _ w4).drew
      have k1 : IntKind.i64.wrap ((k : Int) + 1 - 1) = (k : Int) := by rw [show (k : Int) + 1 - 1 = (k : Int) by omega]; exact IntWalk.i64_in _ (by omega)
      have k2 : IntKind.i64.wrap (k : Int) = (k : Int) := by exact IntWalk.i64_in _ (by omega)
      have z4 : (0 : Int) ≤ (k : Int) + 1 - 1 := by omega
      have z5 : (k : Int) + 1 - 1 < (4 : Int) := by omega
      have z6 : ((k : Int) + 1 - 1).toNat = k := by omega
      have z1 : (0 : Int) ≤ (k : Int) := by omega
      have z2 : (k : Int) < (4 : Int) := by omega
      have z3 : (k : Int) < ((4 : Nat) : Int) := by omega
      go_upto_region 10 with fail
      go_region_held3 (fun w' => w'.cell? ⟨F, 0, none⟩ = some (.int .i64 7) ∧ w'.cell? ⟨bq, oq + k, none⟩ = some (.slice Bq 1 dq)) (first | exact ⟨c0, cq4⟩ | go_keep)
        (first | (go_at_call 44; refine (HAN.out _ (by first | exact HB0.out | exact HB0d.out)).mono ?_; rintro e9 w5 ⟨Aa, ca, rfl, hb5, ho5⟩; have HB5 : Hid (Below w4.heap.size w4 w5) := (show Hid _ from ⟨hb5.os, hb5.tape, hb5.output, hb5.size, hb5.block⟩); have HO5 := Lib.hid ho5; obtain ⟨c0, c1, c2, c3⟩ := HC.out w5 (HB14.out.trans (HB5.out.mono HB14.out.size)); have cq4 := (HB5.out.cell (p := ⟨bq, oq + k, none⟩) (by have h := World.block_lt_of_cell? w4 _ cq4; exact h)).trans cq4; clear hb5 ho5))
      all_goals
        have HZ34 : Hid (w3.heap.size ≤ w4.heap.size) := Nat.le_trans HZ3.out HB4.out.size
        have HLM4 : Hid (LM w3.heap.size w4 pv none xs ((List.range k).map fun j => (true, sA j))) := (show Hid _ from HLM.out.below HB4.out)
        have HLM5 : Hid (LM w3.heap.size w5 pv none xs ((List.range k).map fun j => (true, sA j))) := (show Hid _ from HLM4.out.below HB5.out)
        have HSY : Hid (SY w3.heap.size w5 pv.ownBlock none (.slice Aa 1 ca) (sA k)) := (show Hid _ from SY.of_own (base := w4.heap.size) (e := 3) (by rw [sA_len]; exact HO5.out) (els_r (by omega) (cmbT_els (by omega) ..)) HZ34.out (fun b hb => (HLM4.out.ans.lt b hb).2) (fun b hb => by cases hb))
        have hz5 : w3.heap.size ≤ w5.heap.size := Nat.le_trans HZ34.out HB5.out.size
        clear c0 c1 c2 c3 cq4
        go_wp2_with (at_builtin; refine wpList_append_lit_at _ rfl _ _ 59 rfl w3.heap.size 61 _ 2 32 Tryz.underlying59 aninfo pv xs.length (xs.flatMap anc) rfl (HLM5.out.ans.alloc _) [.bool true, .slice Aa 1 ca] rfl (by intro u hu; simp at hu; rcases hu with rfl | rfl <;> rfl) w5.heap.size rfl (fun j u hu => by have h := cells_new w5 [.bool true, .slice Aa 1 ca] 61 j u hu; rw [addr_add] at h; exact h) (by omega) (by omega) rfl (by omega) (by simp; omega) ?_; intro ga ca' w6 hown6 hg6 hat6; have HO6 := Lib.hid hown6; have HG6 := Lib.hid hg6; have HA6 := Lib.hid hat6; clear hown6 hg6 hat6)
        have HBA : Hid (Below w5.heap.size w5 (w5.alloc (.cells #[.bool true, .slice Aa 1 ca] 61))) := (show Hid _ from (Below.refl _ w5).alloc (Nat.le_refl _) _)
        go_roundw
        case rel =>
          have hL : ((List.range (k + 1)).map fun j => (true, sA j)) = ((List.range k).map fun j => (true, sA j)) ++ [(true, sA k)] := by rw [List.range_succ, List.map_append]; rfl
          refine ⟨k + 1, _, xs ++ [(true, .slice Aa 1 ca)], rfl, by omega, by go_num, by have := HXL.out; simp; omega, ?_, ?_⟩
          · rw [hL]
            exact (HLM5.out.below HBA.out).app (fun b hb => by cases hb) (HSY.out.below HBA.out) HO6.out HG6.out rfl (HA6.out.imp id fun e => Nat.le_of_eq e.symm)
          · have h45 : Below w3.heap.size w3 w5 := HB.out.trans ((HB4.out.trans (HB5.out.mono HB4.out.size)).mono HZ3.out)
            exact (h45.alloc hz5 _).grown HG6.out (by simp; omega) (fun b hb => (HLM5.out.ans.lt b hb).1)
        case measure => simp [intOf]; omega
    · have dk : decide ((k : Int) + 1 ≤ 4) = false := decide_eq_false (by omega)
      have hk4 : k = 4 := by omega
      subst hk4
      have HSA : Hid (SAE F wr pv ((List.range 4).map fun j => (true, sA j))) := (show Hid _ from HLM.out.sae (by have := HFz.out; have := HB13.out.size; omega))
      obtain ⟨Al, cl, el⟩ := HSA.out.form
      rw [show ((List.range 4).map fun j => (true, sA j)).length = 4 from by simp] at el
      subst el
      have HEr : Hid (EW wr) := HE.out.below (HB1.out.trans (HB1r.out.mono HB1.out.size))
      have HDE : Hid (Calls Tryz.prog 40 #[.agg #[.int .i64 7], .agg #[.int .i64 4, .int .i64 1, .int .i64 2], .int .i64 1, .slice Al 4 cl] wr fun e w' => ∃ v1 v2, e = .returned (.tuple #[v1, v2, .int .i64 0]) ∧ Below wr.heap.size wr w' ∧ SLE F w' v1 [[3], [5]] ∧ SE F w' v2 []) := (show Hid _ from (gdecode_any 7 4 1 2 1 F _ _ wr sv_sane HSA.out.san (by simp) HEr.out HFr.out (by omega)).mono fun e w' ⟨rows, wr', er, v1, v2, h1, h2, h3, h4, h5⟩ => by
        obtain ⟨e1, e2, e3⟩ := sane_dec h3
        subst e1 e2 e3
        exact ⟨v1, v2, h1, h2, h4, h5⟩)
      go_wp2_with fail
      (with_reducible refine HDE.out.mono ?_)
      rintro e w7 ⟨v1, v2, rfl, hb7, hs7, hs8⟩
      obtain ⟨A7, c7, e7⟩ := hs7.form
      subst e7
      obtain ⟨A8, c8, e8⟩ := hs8.form
      subst e8
      have HSR : Hid (Calls Tryz.prog 18 #[.slice A7 2 c7, .slice (some ⟨F + 3 + 1, 0, none⟩) 2 2] w7 fun e w' => e = .returned (.bool true) ∧ Below w7.heap.size w7 w') := (show Hid _ from (sameRows_any [[3], [5]] [[3], [5]] _ _ w7 hs7.sl ((HSL.out.below HB1r.out).below hb7)).mono fun e w' ⟨h1, h2⟩ => ⟨h1.trans (by rw [decide_eq_true rfl]), h2⟩)
      have HBe : Hid (Below w.heap.size w w7) := (show Hid _ from HB1.out.trans ((HB1r.out.trans (hb7.mono HB1r.out.size)).mono HB1.out.size))
      rw [show ([[3], [5]] : List (List Int)).length = 2 from rfl, show ([] : List Int).length = 0 from rfl]
      clear hb7 hs7 hs8 c0 c1 c2 c3 HDE
      go_wp2_with fail
      (with_reducible refine HSR.out.mono ?_)
      rintro e w8 ⟨rfl, hb8⟩
      have HBf : Hid (Below w.heap.size w w8) := (show Hid _ from HBe.out.trans (hb8.mono HBe.out.size))
      clear hb8 HSR
      go_wp2_with fail
      go_ret
      exact ⟨rfl, HBf.out⟩
end Go.Proofs.YtoiabanpnkpbhaaGreatDoor

namespace Go.Proofs.YtoiabanpnkpbhaaGreatDoor
open Go.RowKit

end Go.Proofs.YtoiabanpnkpbhaaGreatDoor

namespace Go.Proofs.YtoiabanpnkpbhaaGreatDoor
open Go.RowKit

theorem i64r_wf {x : Int} (h : (Lit.int .i64 x).wf = true) : i64r x := by
  unfold i64r
  simp [Lit.wf, IntKind.min, IntKind.max, IntKind.signed, IntKind.bits] at h
  omega
theorem SI_row {w : World} {a : Option Addr} {len cap : Nat} {zs : List Int}
    (h : (a = none ∧ len = 0 ∧ cap = 0 ∧ zs = []) ∨ ∃ x, a = some x ∧ len ≤ cap ∧ cap ≤ maxLen ∧ zs.length = cap ∧ (∀ i, i < zs.length → w.cell? (x.add i) = some (.int .i64 (zs.getD i 0))) ∧ ∀ n ∈ zs, (Lit.int .i64 n).wf = true) :
    SI w (.slice a len cap) (zs.take len) := by
  rcases h with ⟨rfl, rfl, rfl, rfl⟩ | ⟨x, rfl, hl, hm, hz, hc, hw⟩
  · exact ⟨none, 0, rfl, Nat.le_refl _, by omega, by simp, fun h => by simp at h⟩
  · have hlen : (zs.take len).length = len := by rw [List.length_take]; omega
    refine ⟨some x, cap, by rw [hlen], by omega, by simpa [maxLen] using hm, fun y hy => i64r_wf (hw y (List.mem_of_mem_take hy)), fun h0 => ?_⟩
    obtain ⟨b, off, rfl, hcell⟩ := ints_at hc (by omega)
    refine ⟨b, off, rfl, World.block_lt_of_cell? w _ (hcell 0 (by omega)), fun j hj => ?_⟩
    rw [hcell j (by omega), List.getElem_take]
    simp [List.getD, show j < zs.length by omega]
end Go.Proofs.YtoiabanpnkpbhaaGreatDoor
