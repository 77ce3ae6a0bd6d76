/- Joined: Rd Ss Dv. -/
import Derived.Deep.DeepCutAuto
import Derived.Deep.RegionHeld3
import Derived.Test.YtoiabanpnkpbhaaGreatDoorY10
import Derived.Test.YtoiabanpnkpbhaaGreatDoorY11
import Derived.Test.YtoiabanpnkpbhaaGreatDoorY06
import Derived.Test.YtoiabanpnkpbhaaGreatDoorY09
import Derived.Test.YtoiabanpnkpbhaaGreatDoorY04
namespace Go.Proofs.YtoiabanpnkpbhaaGreatDoor
open Go.RowKit

/-- row i of equations, its right side last -/
def eqRow (cl rl : List Int) (C i : Nat) : List Int := (cl.drop (i * C)).take C ++ [gd rl i]
def eqM (cl rl : List Int) (C k : Nat) : List (List Int) := (List.range k).map (eqRow cl rl C)
theorem eqM_succ (cl rl : List Int) (C k : Nat) : eqM cl rl C (k + 1) = eqM cl rl C k ++ [eqRow cl rl C k] := by
  unfold eqM; rw [List.range_succ, List.map_append]; rfl
theorem eqM_len (cl rl : List Int) (C k : Nat) : (eqM cl rl C k).length = k := by simp [eqM]
theorem eqM_gr {cl rl : List Int} {C k i : Nat} (h : i < k) : gr (eqM cl rl C k) i = eqRow cl rl C i := by
  rw [gr_lt (by rw [eqM_len]; exact h)]; simp [eqM]
theorem eqRow_len {cl rl : List Int} {C R i : Nat} (h : cl.length = R * C) (hi : i < R) : (eqRow cl rl C i).length = C + 1 := by
  have : i * C + C ≤ R * C := by have := Nat.mul_le_mul_right C (by omega : i + 1 ≤ R); rwa [Nat.add_mul, Nat.one_mul] at this
  simp [eqRow]; omega
theorem eqRow_els {P : Int} (hP : 2 ≤ P) {cl rl : List Int} (C i : Nat) (h1 : els P cl = true) (h2 : els P rl = true) : els P (eqRow cl rl C i) = true := els_of fun x hx => by
  rw [eqRow, List.mem_append] at hx
  rcases hx with hx | hx
  · exact els_all h1 x (List.mem_of_mem_drop (List.mem_of_mem_take hx))
  · simp at hx; rw [hx]; exact els_gd hP h2 i
theorem RD.hdr {w : World} {B : Nat} {P C r : Int} {hv : Value} {ld : List Int} (h : RD w B P C hv r ld) (hv' : Value) : RD (w.setCell ⟨B, 2, none⟩ hv') B P C hv' r ld := by
  unfold RD
  rw [heap_setCell_same w B 2 _ _ _ h]
  simp [rdc]
theorem below_grown {B : Nat} {a b : World} {r : Option Nat} (h : a.grownBy b r) (ha : B ≤ a.heap.size) (hr : ∀ k, r = some k → B ≤ k) : Below B a b :=
  ⟨h.os, h.tape, h.output, h.size, fun i hi => h.block i (by omega) (fun e => by have := hr i e.symm; omega)⟩
/-- one loop's relation: rows built so far -/
def RdR (P : Int) (C R B : Nat) (cl rl : List Int) (w : World) (i : Value) (wr : World) : Prop :=
  ∃ (k : Nat) (hv : Value) (bs cs : Nat → Nat), k ≤ R ∧ i = .int .i64 k ∧ BR (B + 1) wr hv (C + 1) k bs cs (eqM cl rl C k) ∧ RD wr B P C hv 0 (zeros 32) ∧ Below B w wr
set_option maxRecDepth 100000 in
set_option maxHeartbeats 4000000 in
theorem reduce_any (P : Int) (R C : Nat) (cl rl : List Int) (vc vr : Value) (w : World) (hp : prB P = true) (hR : R ≤ 32) (hR1 : 1 ≤ R) (hC : C ≤ 32) (hC1 : 1 ≤ C) (h1 : cl.length = R * C) (h2 : rl.length = R) (he1 : els P cl = true) (he2 : els P rl = true) (hc : SI w vc cl) (hr : SI w vr rl) :
    Calls Tryz.prog 147 #[.agg #[.int .i64 P, .int .i64 R, .int .i64 C, vc, vr]] w fun e w' => ∃ G c, e = .returned (.pointer (some ⟨w.heap.size + 1, 0, none⟩)) ∧ R ≤ c ∧ Below w.heap.size w w' ∧ LP P C (w.heap.size + 1) G (C + 1) R c (eqM cl rl C R) C w' := by
  have HP := Lib.hid hp
  have HC := Lib.hid hc
  have HR := Lib.hid hr
  have E1 := Lib.hid he1
  have E2 := Lib.hid he2
  have L1 := Lib.hid h1
  have L2 := Lib.hid h2
  obtain ⟨A1, c1, rfl, _⟩ := hc
  obtain ⟨A2, c2, rfl, _⟩ := hr
  have hRC : R * C ≤ 1024 := Nat.mul_le_mul hR hC
  clear h1 h2 he1 he2 hp
  go_enter Tryz.func147, Tryz.ntmps147
  go_wp2_with fail
  obtain ⟨w1, ew1⟩ : ∃ w1 : World, w1 = (w.alloc (.cells #[.int .i64 P, .int .i64 R, .int .i64 C, .slice A1 cl.length c1, .slice A2 rl.length c2] 162)).alloc (.cells (rdc P C (.slice none 0 0) 0 (zeros 32)).toArray 209) := ⟨_, rfl⟩
  have HW : Hid (w1 = (w.alloc (.cells #[.int .i64 P, .int .i64 R, .int .i64 C, .slice A1 cl.length c1, .slice A2 rl.length c2] 162)).alloc (.cells (rdc P C (.slice none 0 0) 0 (zeros 32)).toArray 209)) := ew1
  have HEc : Hid (w1.heap[w.heap.size]? = some (.cells #[.int .i64 P, .int .i64 R, .int .i64 C, .slice A1 cl.length c1, .slice A2 rl.length c2] 162 (0, 0))) := (show Hid _ from by
    show _ = _
    rw [ew1, Below.heap_alloc _ _ _ (by simp)]; exact heap_alloc_new w _)
  have HRD1 : Hid (RD w1 (w.heap.size + 1) P C (.slice none 0 0) 0 (zeros 32)) := (show Hid _ from by
    show RD _ _ _ _ _ _ _
    unfold RD
    rw [ew1]
    have := heap_alloc_new (w.alloc (.cells #[.int .i64 P, .int .i64 R, .int .i64 C, .slice A1 cl.length c1, .slice A2 rl.length c2] 162)) (.cells (rdc P C (.slice none 0 0) 0 (zeros 32)).toArray 209)
    simpa using this)
  have HB1 : Hid (Below w.heap.size w w1) := (show Hid _ from by rw [ew1]; exact ((Below.refl _ w).alloc (Nat.le_refl _) _).alloc (by simp) _)
  have hs1 : Hid (w1.heap.size = w.heap.size + 2) := (show Hid _ from by show _ = _; rw [ew1]; simp)
  refine Eq.mp (congrArg (fun x => Code.wp Tryz.prog _ _ _ x) (HW.out.trans rfl)) ?_
  clear ew1
  obtain ⟨B, eB⟩ : ∃ B, B = w.heap.size + 1 := ⟨_, rfl⟩
  have HBB := Lib.hid eB
  go_loopw [16] (fun i wr => RdR P C R (w.heap.size + 1) cl rl w1 i wr) (fun i _ => R - (intOf i).toNat)
  case atStart => exact ⟨0, .slice none 0 0, fun _ => 0, fun _ => 0, Nat.zero_le _, rfl, BR.nil _ _ _ _ _, HRD1.out, Below.refl _ _⟩
  case round =>
    obtain ⟨k, hv, bs, cs, hk, rfl, hBR, hRD, hBel⟩ := hrel
    have HBR := Lib.hid hBR
    have HRD := Lib.hid hRD
    have HBel := Lib.hid hBel
    have hsz : w.heap.size + 2 ≤ wr.heap.size := by have := hBel.size; have := hs1.out; omega
    have HEr : Hid (wr.heap[w.heap.size]? = some (.cells #[.int .i64 P, .int .i64 R, .int .i64 C, .slice A1 cl.length c1, .slice A2 rl.length c2] 162 (0, 0))) := (show Hid _ from (hBel.block w.heap.size (by omega)).trans HEc.out)
    have HCr : Hid (SI wr (.slice A1 cl.length c1) cl) := (show Hid _ from (HC.out.below (HB1.out.trans (hBel.mono (by omega)))))
    have HRr : Hid (SI wr (.slice A2 rl.length c2) rl) := (show Hid _ from (HR.out.below (HB1.out.trans (hBel.mono (by omega)))))
    have cE1 : wr.cell? ⟨w.heap.size, 1, none⟩ = some (.int .i64 R) := cell_of_row wr w.heap.size 1 _ _ _ HEr.out
    have cE2 : wr.cell? ⟨w.heap.size, 2, none⟩ = some (.int .i64 C) := cell_of_row wr w.heap.size 2 _ _ _ HEr.out
    have cE3 : wr.cell? ⟨w.heap.size, 3, none⟩ = some (.slice A1 cl.length c1) := cell_of_row wr w.heap.size 3 _ _ _ HEr.out
    have cE4 : wr.cell? ⟨w.heap.size, 4, none⟩ = some (.slice A2 rl.length c2) := cell_of_row wr w.heap.size 4 _ _ _ HEr.out
    clear hBR hRD hBel
    by_cases hkR : k < R
    · obtain ⟨kc, ekc⟩ : ∃ kc, kc = k * C := ⟨_, rfl⟩
      have hkc1 : kc + C ≤ cl.length := by rw [L1.out, ekc]; have := Nat.mul_le_mul_right C (by omega : k + 1 ≤ R); rwa [Nat.add_mul, Nat.one_mul] at this
      have q1 : (k : Int) * (C : Int) = (kc : Int) := by rw [ekc]; simp
      have q2 : ((k : Int) + 1) * (C : Int) = (kc : Int) + (C : Int) := by rw [Int.add_mul, q1]; simp
      have hcl : cl.length ≤ 1024 := by rw [L1.out]; exact hRC
      have HKC := Lib.hid ekc
      clear ekc
      have hcc : cl.length ≤ c1 := by obtain ⟨_, _, e, h, _⟩ := HCr.out; injection e with _ _ e3; omega
      have hcm : c1 ≤ 9223372036854775807 := by obtain ⟨_, _, e, _, h, _⟩ := HCr.out; injection e with _ _ e3; omega
      obtain ⟨b1, off1, eA1, hb1, hcell1⟩ := HCr.out.cells (by omega)
      subst eA1
      clear hcell1
      have x1 : (kc : Int) ≤ (kc : Int) + (C : Int) := by omega
      have x2 : (kc : Int) + (C : Int) ≤ (c1 : Int) := by omega
      have x3 : (0 : Int) ≤ (kc : Int) + (C : Int) := by omega
      have x4 : ((kc : Int) + (C : Int)).toNat = kc + C := by omega
      have hne1 : ¬ c1 = kc := by omega
      have HPC : Hid (SI wr (.slice (some ⟨b1, off1 + kc, none⟩) C (c1 - kc)) ((cl.drop kc).take C)) := (show Hid _ from HCr.out.part (by omega))
      have hpl : ((cl.drop kc).take C).length = C := by simp; omega
      go_upto_region 6 with (at_builtin; refine wpList_append_ints _ rfl _ _ 22 rfl wr.heap.size 3 Tryz.underlying22 iinfo (.slice none 0 0) [] rfl (World.ownsRow_nil _ _ _ _) _ _ ((cl.drop kc).take C) rfl HPC.out (by simp; omega) (Nat.le_refl _) ?_; intro v2 w2 hown2 hg2)
      simp only [List.nil_append] at hown2
      obtain ⟨RW, eRW⟩ : ∃ l, l = (cl.drop kc).take C := ⟨_, rfl⟩
      rw [← eRW] at hown2 hpl
      have hkp : ∀ b, b < wr.heap.size → w2.heap[b]? = wr.heap[b]? := fun b hb => hg2.block b hb (by simp [Value.ownBlock])
      have hs2 := hg2.size
      have HKP := Lib.hid hkp
      have HO := Lib.hid hown2
      have HB2 : Hid (BR (w.heap.size + 1 + 1) w2 hv (C + 1) k bs cs (eqM cl rl C k)) := (show Hid _ from HBR.out.keep fun b _ h => hkp b h)
      have HR2 : Hid (RD w2 (w.heap.size + 1) P C hv 0 (zeros 32)) := (show Hid _ from HRD.out.kept (hkp _ HRD.out.lt))
      have HBel2 : Hid (Below (w.heap.size + 1) w1 w2) := (show Hid _ from HBel.out.trans ⟨hg2.os, hg2.tape, hg2.output, hg2.size, fun i hi => hkp i (by omega)⟩)
      have hkr : k < rl.length := by rw [L2.out]; exact hkR
      obtain ⟨b2, off2, eA2, hb2, hcell2⟩ := HRr.out.cells (by omega)
      subst eA2
      obtain ⟨y, ey⟩ : ∃ y, y = rl[k] := ⟨_, rfl⟩
      have xr : w2.cell? ⟨b2, off2 + k, none⟩ = some (.int .i64 y) := by rw [ey]; exact (World.cell?_of_block (hkp b2 hb2)).trans (hcell2 k hkr)
      have x4 : w2.cell? ⟨w.heap.size, 4, none⟩ = some (.slice (some ⟨b2, off2, none⟩) rl.length c2) := (World.cell?_of_block (hkp w.heap.size (by omega))).trans cE4
      have cH := HR2.out.cells.2.2.1
      have fH := HR2.out.frozen 2
      have HVO : Hid (∀ b, v2.ownBlock = some b → wr.heap.size ≤ b ∧ b < w2.heap.size) := (show Hid _ from hown2.lt)
      have HVB : Hid (∀ b, hv.ownBlock = some b → w.heap.size + 1 + 1 ≤ b ∧ b < wr.heap.size) := (show Hid _ from HBR.out.own.lt)
      have HNO : Hid (∀ b, b < wr.heap.size → some b ≠ v2.ownBlock) := (show Hid _ from fun b hb e => by have := (HVO.out _ e.symm).1; omega)
      have HNV : Hid (∀ b, b < w.heap.size + 1 + 1 → some b ≠ hv.ownBlock) := (show Hid _ from fun b hb e => by have := (HVB.out _ e.symm).1; omega)
      have HVV : Hid (hv.ownBlock = none ∨ hv.ownBlock ≠ v2.ownBlock) := (show Hid _ from by
        cases e : hv.ownBlock with
        | none => exact .inl rfl
        | some b => exact .inr fun e2 => HNO.out b (HVB.out b e).2 e2)
      have HV2 : Hid (w2.ownsRow (w.heap.size + 1 + 1) 22 1 hv k ((List.range k).map (hd (C + 1) bs cs))) := (show Hid _ from HB2.out.own)
      have hB1 : w.heap.size + 1 < wr.heap.size := by omega
      have hE1 : w.heap.size < wr.heap.size := by omega
      have hB2' : w.heap.size + 1 < w.heap.size + 1 + 1 := by omega
      have hBw2 : w.heap.size + 1 + 1 ≤ w2.heap.size := by omega
      have hO3 : Hid (w2.ownsRow (w.heap.size + 1 + 1) 3 1 v2 RW.length (RW.map (Value.int .i64))) := (show Hid _ from own_lo hown2 (by omega))
      obtain ⟨vs, evs⟩ : ∃ vs, vs = (List.range k).map (hd (C + 1) bs cs) := ⟨_, rfl⟩
      rw [← evs] at HV2
      have HRZ : Hid (∀ (wa wb : World) (o1 o2 : Obj), (w2.alloc o1).grownBy wa v2.ownBlock → (wa.alloc o2).grownBy wb hv.ownBlock → RD wb (w.heap.size + 1) P C hv 0 (zeros 32)) := (show Hid _ from fun wa wb o1 o2 h1 h2 =>
        ((HR2.out.kept (Below.heap_alloc w2 o1 _ HR2.out.lt)).kept (h1.block _ (by simp; omega) (HNO.out _ hB1))).kept ((h2.block _ (by have := h1.size; simp at this; simp; omega) (HNV.out _ hB2')).trans (Below.heap_alloc wa o2 _ (by have := h1.size; simp at this; omega))))
      have HEV := Lib.hid evs
      have HEY : Hid (y = gd rl k) := (show Hid _ from by show _ = _; rw [ey, gd_lt hkr])
      have HERW : Hid (RW = (cl.drop (k * C)).take C) := (show Hid _ from by show _ = _; rw [eRW, HKC.out])
      have s1 : w.heap.size + 1 < w2.heap.size := by omega
      have s2 : w.heap.size < w2.heap.size := by omega
      have s3 : b2 < w2.heap.size := by omega
      have HSZ : Hid (∀ wa : World, (w2.alloc (.cells #[.int .i64 y] 3)).grownBy wa v2.ownBlock → w.heap.size + 1 < wa.heap.size ∧ w.heap.size < wa.heap.size ∧ b2 < wa.heap.size) := (show Hid _ from fun wa h => by have := h.size; simp at this; omega)
      have z1 : (0 : Int) ≤ (k : Int) := by omega
      have z2 : (k : Int) < (rl.length : Int) := by omega
      have hrl1 : RW.length ≤ 1000000 := by omega
      have hk1 : k ≤ 1000000 := by omega
      clear hcell2 ey evs eRW hkp hown2 hg2 hne1 q1 q2 x1 x2 x3 cE1 cE2 cE3 cE4 HPC
      go_region_law (first
          | (refine step_append_int1_at _ (by rfl) (.tmp 37) _ 22 (by rfl) (w.heap.size + 1 + 1) 3 Tryz.underlying22 iinfo v2 RW (by rfl) (by first | exact hO3.out.alloc (.cells #[.int .i64 y] 3) | exact (hO3.out.alloc (.cells #[.int .i64 y] 3)).drew) y w2.heap.size (by rfl) (by exact cells_new w2 [.int .i64 y] 3 0 _ rfl) (by omega) (by simp; omega) ?_; intro g1 cap1 wa hown1 hg1 hat1;
             have cH : wa.cell? ⟨w.heap.size + 1, 2, none⟩ = some hv := hg1.cell (cell_al (.cells #[.int .i64 y] 3) cH) (HNO.out _ hB1); have x4 : wa.cell? ⟨w.heap.size, 4, none⟩ = some (.slice (some ⟨b2, off2, none⟩) rl.length c2) := hg1.cell (cell_al (.cells #[.int .i64 y] 3) x4) (HNO.out _ hE1); have xr : wa.cell? ⟨b2, off2 + k, none⟩ = some (.int .i64 y) := hg1.cell (cell_al (.cells #[.int .i64 y] 3) xr) (HNO.out b2 hb2);
             have HG1 : Hid ((w2.alloc (.cells #[.int .i64 y] 3)).grownBy wa v2.ownBlock) := (show Hid _ from ⟨hg1.os, hg1.tape, hg1.output, hg1.size, hg1.block⟩); obtain ⟨s1a, s2a, s3a⟩ := HSZ.out wa HG1.out; have HO1 := Lib.hid hown1; have HA1 : Hid (v2.ownBlock = some g1 ∨ g1 = (w2.alloc (.cells #[.int .i64 y] 3)).heap.size) := (show Hid _ from hat1); clear hg1 hown1 hat1;
             have HV1 : Hid (wa.ownsRow (w.heap.size + 1 + 1) 22 1 hv k vs) := (show Hid _ from (HV2.out.alloc (.cells #[.int .i64 y] 3)).kept HG1.out HVV.out))
          | (refine step_append_one_at _ (by rfl) (.tmp 36) _ 33 (by rfl) (w.heap.size + 1 + 1) 22 (.slice none 0 0) 24 Tryz.underlying33 ilinfo hv k vs (by rfl) (by first | exact HV1.out.alloc (.cells #[.slice (some ⟨g1, 0, none⟩) (C + 1) cap1] 22) | exact (HV1.out.alloc (.cells #[.slice (some ⟨g1, 0, none⟩) (C + 1) cap1] 22)).drew) (.slice (some ⟨g1, 0, none⟩) (C + 1) cap1) (by rfl) wa.heap.size (by rfl) (by exact cells_new wa [.slice (some ⟨g1, 0, none⟩) (C + 1) cap1] 22 0 _ rfl) (by omega) (by omega) (by rfl) (by have := HG1.out.size; simp at this; simp; omega) ?_; intro g2 cap2 wb hown2 hg2 hat2;
             have cH : wb.cell? ⟨w.heap.size + 1, 2, none⟩ = some hv := hg2.cell (cell_al (.cells #[.slice (some ⟨g1, 0, none⟩) (C + 1) cap1] 22) cH) (HNV.out _ hB2');
             have HG2 : Hid ((wa.alloc (.cells #[.slice (some ⟨g1, 0, none⟩) (C + 1) cap1] 22)).grownBy wb hv.ownBlock) := (show Hid _ from ⟨hg2.os, hg2.tape, hg2.output, hg2.size, hg2.block⟩); have fH : wb.frozen? ⟨w.heap.size + 1, 2, none⟩ = false := (HRZ.out wa wb (.cells #[.int .i64 y] 3) (.cells #[.slice (some ⟨g1, 0, none⟩) (C + 1) cap1] 22) HG1.out HG2.out).frozen 2; have HO2 := Lib.hid hown2; have HA2 : Hid (hv.ownBlock = some g2 ∨ g2 = (wa.alloc (.cells #[.slice (some ⟨g1, 0, none⟩) (C + 1) cap1] 22)).heap.size) := (show Hid _ from hat2); clear hg2 hown2 hat2))
      all_goals
        go_wp2_with fail
        go_roundw
        case rel =>
          have hrl : (RW ++ [y]).length = C + 1 := by simp; omega
          have ho2 := HO2.out
          rw [← hrl, HEV.out] at ho2
          have hpush := BR.push HBR.out HKP.out hs2 HVO.out (by omega) HG1.out HO1.out HA1.out HG2.out ho2 HA2.out
          have hM : eqM cl rl C k ++ [RW ++ [y]] = eqM cl rl C (k + 1) := by rw [eqM_succ, eqRow, HERW.out, HEY.out]
          rw [hM] at hpush
          refine ⟨k + 1, _, _, _, by omega, by go_num, (hpush.keep fun b hb _ => heap_setCell_other wb ⟨w.heap.size + 1, 2, none⟩ b _ (by show b ≠ w.heap.size + 1; omega)), ?_, ?_⟩
          · exact (HRZ.out wa wb (.cells #[.int .i64 y] 3) (.cells #[.slice (some ⟨g1, 0, none⟩) (C + 1) cap1] 22) HG1.out HG2.out).hdr _
          · have b1 : Below (w.heap.size + 1) w1 wa := (HBel2.out.alloc (by omega) _).trans (below_grown HG1.out (by simp; omega) (fun b hb => by have := (HVO.out b hb).1; omega))
            have b2 : Below (w.heap.size + 1) w1 wb := (b1.alloc (by omega) _).trans (below_grown HG2.out (by simp; omega) (fun b hb => by have := (HVB.out b hb).1; omega))
            exact b2.setCell (Nat.le_refl _) _
        case measure => simp [intOf]; omega
    · obtain rfl : R = k := by omega
      obtain ⟨G, c, ehv, hRc, hRM⟩ := HBR.out.rm (by omega)
      subst ehv
      have hLP : LP P C (w.heap.size + 1) G (C + 1) R c (eqM cl rl C R) 0 wr := ⟨0, bs, cs, _, _, hRM, HRD.out, GE.start fun i hi => by
        rw [eqM_len] at hi
        rw [eqM_gr hi]
        exact ⟨eqRow_len L1.out hi, eqRow_els (prB_bd HP.out).1 C i E1.out E2.out⟩⟩
      have HLP := Lib.hid hLP
      have HB3 : Hid (Below w.heap.size w wr) := (show Hid _ from HB1.out.trans (HBel.out.mono (by omega)))
      have HEr' := HEr
      obtain ⟨wz, rfl⟩ : ∃ wz : World, wz = wr := ⟨_, rfl⟩
      clear hLP hRM HBR HRD HBel HCr HRr cE1 cE3 cE4 HEc HRD1 HB1
      go_wp2_with fail
      go_loopw [52] (fun i wr => ∃ k : Nat, k ≤ C ∧ i = .int .i64 k ∧ Hid (LP P C (w.heap.size + 1) G (C + 1) R c (eqM cl rl C R) k wr) ∧ Hid (Below (w.heap.size + 1) wz wr)) (fun i _ => C - (intOf i).toNat)
      case atStart => exact ⟨0, Nat.zero_le _, by go_num, HLP, (show Hid _ from Below.refl _ _)⟩
      case round =>
        obtain ⟨k, hk, rfl, HLk, HBk⟩ := hrel
        by_cases hkC : k < C
        · obtain ⟨r, bs, cs, M, ld, hRM, hRD, hGE⟩ := HLk.out
          have HCT := Lib.hid (lead_any P C (w.heap.size + 1) G (C + 1) R c r k bs cs _ M ld wr HP.out hkC rfl hC hR hRM hRD hGE)
          clear hRM hRD hGE
          go_wp2_with fail
          (with_reducible refine HCT.out.mono ?_); rintro e w9 ⟨⟨v9, rfl⟩, hb9, hlp9⟩
          have HLP9 := Lib.hid hlp9
          have HB9 : Hid (Below (w.heap.size + 1) wz w9) := (show Hid _ from HBk.out.trans hb9)
          clear hb9 hlp9
          go_wp2_with fail
          go_roundw
          case rel => exact ⟨k + 1, by omega, by go_num, HLP9, HB9⟩
          case measure => simp [intOf]; omega
        · obtain rfl : C = k := by omega
          go_wp2_with fail
          go_ret
          exact ⟨G, c, rfl, hRc, HB3.out.trans (HBk.out.mono (by omega)), HLk.out⟩
end Go.Proofs.YtoiabanpnkpbhaaGreatDoor

namespace Go.Proofs.YtoiabanpnkpbhaaGreatDoor
open Go.RowKit

theorem grownBy_drew' {a w : World} {r : Option Nat} (h : a.grownBy w r) : a.grownBy w.drew r := ⟨h.os, h.tape, h.output, h.size, h.block⟩
def SolE (P : Int) (R C : Nat) (cl rl x : List Int) : Prop := x.length = C ∧ ∀ i, i < R → P ∣ dh (C + 1) (eqRow cl rl C i) (x ++ [-1])
def SoP (P : Int) (R C : Nat) (cl rl : List Int) (w : World) (e : Ending) (w' : World) : Prop :=
  ∃ (er : Int) (v : Value) (x : List Int), e = .returned (.tuple #[v, .int .i64 er]) ∧ Below w.heap.size w w' ∧
    ((er = 0 ∧ SolE P R C cl rl x ∧ els P x = true ∧ w'.ownsRow w.heap.size 3 1 v x.length (x.map (Value.int .i64))) ∨ (er = 6 ∧ v = .slice none 0 0 ∧ ¬ ∃ x, SolE P R C cl rl x))
theorem eqM_sol {P : Int} {R C : Nat} {cl rl x : List Int} (hx : x.length = C) (h : ∀ i, i < (eqM cl rl C R).length → P ∣ dh (C + 1) (gr (eqM cl rl C R) i) (x ++ [-1])) : SolE P R C cl rl x :=
  ⟨hx, fun i hi => by have := h i (by rw [eqM_len]; exact hi); rwa [eqM_gr hi] at this⟩
/-- the solution as far as place k -/
def soK (C : Nat) (x : List Int) (k : Nat) : List Int := x.take k ++ zeros (C - k)
theorem soK_len {C : Nat} {x : List Int} (hx : x.length = C) (k : Nat) (hk : k ≤ C) : (soK C x k).length = C := by simp [soK, zeros, hx]; omega
theorem soK_gd {C : Nat} {x : List Int} (hx : x.length = C) (k j : Nat) (hk : k ≤ C) : gd (soK C x k) j = if j < k then gd x j else 0 := by
  unfold soK
  rw [gd_app, List.length_take, Nat.min_eq_left (by omega), gd_take]
  by_cases h : j < k
  · rw [if_pos h, if_pos h]; try simp [h]
  · rw [if_neg h, if_neg h]
    by_cases h2 : j - k < C - k
    · rw [gd_lt (by simpa [zeros] using h2)]; simp only [zeros, List.getElem_replicate]
    · exact gd_ge (by simp [zeros]; omega)
theorem soK_step {C : Nat} {x : List Int} (hx : x.length = C) (k : Nat) (hk : k < C) : (soK C x k).set k (gd x k) = soK C x (k + 1) := list_ext_gd (by rw [List.length_set, soK_len hx k (by omega), soK_len hx (k + 1) (by omega)]) fun j hj => by
  rw [gd_set _ _ _ _ (by rw [soK_len hx k (by omega)]; exact hk), soK_gd hx k j (by omega), soK_gd hx (k + 1) j (by omega)]
  by_cases e : j = k
  · rw [if_pos e, if_pos (by omega), e]
  · rw [if_neg e]
    by_cases h : j < k
    · rw [if_pos h, if_pos (by omega)]
    · rw [if_neg h, if_neg (by omega)]
theorem soK_skip {C : Nat} {x : List Int} (hx : x.length = C) (k : Nat) (hk : k < C) (h0 : gd x k = 0) : soK C x (k + 1) = soK C x k := list_ext_gd (by rw [soK_len hx k (by omega), soK_len hx (k + 1) (by omega)]) fun j hj => by
  rw [soK_gd hx k j (by omega), soK_gd hx (k + 1) j (by omega)]
  by_cases e : j = k
  · rw [e, if_pos (by omega), if_neg (by omega), h0]
  · by_cases h : j < k
    · rw [if_pos h, if_pos (by omega)]
    · rw [if_neg h, if_neg (by omega)]
theorem soK_zero {C : Nat} (x : List Int) : soK C x 0 = zeros C := by simp [soK]
theorem soK_end {C : Nat} {x : List Int} (hx : x.length = C) : soK C x C = x := by simp [soK, zeros, ← hx]
theorem BK.own {w : World} {b base : Nat} {l : List Int} (h : BK w b l) (hb : base ≤ b) (hl : l.length ≤ 1000000) : w.ownsRow base 3 1 (.slice (some ⟨b, 0, none⟩) l.length l.length) l.length (l.map (Value.int .i64)) :=
  ⟨by simp, .inr ⟨b, l.length, _, rfl, hb, h, Nat.le_refl _, by unfold maxLen; omega, by simp, by rw [List.take_of_length_le (by simp)]⟩⟩

set_option maxRecDepth 100000 in
set_option maxHeartbeats 4000000 in
theorem solve_any (P : Int) (R C : Nat) (cl rl : List Int) (vc vr : Value) (w : World) (hp : prB P = true) (hR : R ≤ 32) (hR1 : 1 ≤ R) (hC : C ≤ 32) (hC1 : 1 ≤ C) (h1 : cl.length = R * C) (h2 : rl.length = R) (he1 : els P cl = true) (he2 : els P rl = true) (hc : SI w vc cl) (hr : SI w vr rl) :
    Calls Tryz.prog 130 #[.agg #[.int .i64 P, .int .i64 R, .int .i64 C, vc, vr]] w (SoP P R C cl rl w) := by
  have HP := Lib.hid hp
  have HC := Lib.hid hc
  have HR := Lib.hid hr
  have E1 := Lib.hid he1
  have E2 := Lib.hid he2
  have L1 := Lib.hid h1
  have L2 := Lib.hid h2
  have HBa : Hid (∀ o : Obj, Below w.heap.size w (w.alloc o)) := (show Hid _ from fun o => (Below.refl _ w).alloc (Nat.le_refl _) o)
  obtain ⟨wa, ewa⟩ : ∃ wa : World, wa = w.alloc (.cells #[.int .i64 P, .int .i64 R, .int .i64 C, vc, vr] 162) := ⟨_, rfl⟩
  have HBA : Hid (Below w.heap.size w wa) := (show Hid _ from by rw [ewa]; exact HBa.out _)
  have HEA : Hid (wa.heap[w.heap.size]? = some (.cells #[.int .i64 P, .int .i64 R, .int .i64 C, vc, vr] 162 (0, 0))) := (show Hid _ from by rw [ewa]; exact heap_alloc_new w _)
  have HSA : Hid (wa.heap.size = w.heap.size + 1) := (show Hid _ from by show _ = _; rw [ewa]; simp)
  have HCA : Hid (SI wa vc cl) := (show Hid _ from hc.below HBA.out)
  have HRA : Hid (SI wa vr rl) := (show Hid _ from hr.below HBA.out)
  have HWA : Hid (w.alloc (.cells #[.int .i64 P, .int .i64 R, .int .i64 C, vc, vr] 162) = wa) := ewa.symm
  have cA0 : wa.cell? ⟨w.heap.size, 0, none⟩ = some (.int .i64 P) := cell_of_row wa w.heap.size 0 _ _ _ HEA.out
  clear h1 h2 he1 he2 hp hc hr ewa
  go_enter Tryz.func130, Tryz.ntmps130
  go_wp2_with fail
  refine (scheck_any P R C cl rl vc vr _ HP.out hR hC L1.out L2.out E1.out E2.out (by rw [HWA.out]; exact HCA.out) (by rw [HWA.out]; exact HRA.out)).mono ?_; rintro e w1 ⟨rfl, hb1⟩
  rw [HWA.out] at hb1
  have hs1 : w.heap.size < w1.heap.size := by have := hb1.size; have := HSA.out; omega
  have hlt : w.heap.size < wa.heap.size := by rw [HSA.out]; omega
  have x0 : w1.cell? ⟨w.heap.size, 0, none⟩ = some (.int .i64 P) := (hb1.cell hlt).trans (cell_of_row wa w.heap.size 0 _ _ _ HEA.out)
  have x1 : w1.cell? ⟨w.heap.size, 1, none⟩ = some (.int .i64 R) := (hb1.cell hlt).trans (cell_of_row wa w.heap.size 1 _ _ _ HEA.out)
  have x2 : w1.cell? ⟨w.heap.size, 2, none⟩ = some (.int .i64 C) := (hb1.cell hlt).trans (cell_of_row wa w.heap.size 2 _ _ _ HEA.out)
  have x3 : w1.cell? ⟨w.heap.size, 3, none⟩ = some vc := (hb1.cell hlt).trans (cell_of_row wa w.heap.size 3 _ _ _ HEA.out)
  have x4 : w1.cell? ⟨w.heap.size, 4, none⟩ = some vr := (hb1.cell hlt).trans (cell_of_row wa w.heap.size 4 _ _ _ HEA.out)
  have HB1 : Hid (Below w.heap.size w w1) := (show Hid _ from HBA.out.trans (hb1.mono (by omega)))
  have HC1 : Hid (SI w1 vc cl) := (show Hid _ from HCA.out.below hb1)
  have HR1 : Hid (SI w1 vr rl) := (show Hid _ from HRA.out.below hb1)
  clear hb1 cA0 hlt
  go_wp2_with fail
  (with_reducible refine (reduce_any P R C cl rl vc vr w1 HP.out hR hR1 hC hC1 L1.out L2.out E1.out E2.out HC1.out HR1.out).mono ?_); rintro e w2 ⟨G, c, rfl, hRc, hb2, r, bs, cs, M, ld, hRM, hRD, hGE⟩
  obtain ⟨B, eB⟩ : ∃ B, B = w1.heap.size + 1 := ⟨_, rfl⟩
  rw [← eB] at hRM hRD ⊢
  have y2 : w2.cell? ⟨w.heap.size, 2, none⟩ = some (.int .i64 C) := (hb2.cell hs1).trans x2
  have hs2 : w1.heap.size ≤ w2.heap.size := hb2.size
  have HB2 : Hid (Below w.heap.size w w2) := (show Hid _ from HB1.out.trans (hb2.mono (by omega)))
  have hrR : r ≤ R := by have := hGE.rk; have := hRM.len; omega
  have HRM := Lib.hid hRM
  have HRD := Lib.hid hRD
  have HGE := Lib.hid hGE
  have hBw : w.heap.size < B := by omega
  have HeB := Lib.hid eB
  have hBl := hRD.lt
  have HSV := Lib.hid (solvable_any P C B G (C + 1) R c r bs cs M ld w2 rfl hR hrR hRc hRM hRD)
  clear hRM hRD hGE hb2 eB x0 x1 x2 x3 x4
  go_wp2_with fail
  (with_reducible refine HSV.out.mono ?_); rintro e w3 ⟨bb, rfl, ht, hf, HB3⟩
  have HT := Lib.hid ht
  have HF := Lib.hid hf
  have y3 : w3.cell? ⟨w.heap.size, 2, none⟩ = some (.int .i64 C) := (HB3.out.cell (by show w.heap.size < w2.heap.size; omega)).trans y2
  have hs3 : w2.heap.size ≤ w3.heap.size := HB3.out.size
  have HB4 : Hid (Below w.heap.size w w3) := (show Hid _ from HB2.out.trans (HB3.out.mono (by omega)))
  have HRM3 : Hid (RM (B + 1) w3 G (C + 1) R bs cs M) := (show Hid _ from HRM.out.below HB3.out)
  have HRD3 : Hid (RD w3 B P C (.slice (some ⟨G, 0, none⟩) R c) r ld) := (show Hid _ from HRD.out.kept (HB3.out.block B hBl))
  clear ht hf y2 HSV
  cases bb with
  | false =>
    go_wp2_with fail
    go_ret2
    refine ⟨6, _, [], rfl, HB4.out, .inr ⟨rfl, rfl, ?_⟩⟩
    obtain ⟨q, hq1, hq2, hq3⟩ := HF.out (by trivial)
    rintro ⟨x, hx, hsx⟩
    exact HGE.out.no (prB_bd HP.out).1 hq1 (by rw [HRM.out.len]; exact hq2) hq3 ⟨x, hx, fun i hi => by rw [eqM_len] at hi; rw [eqM_gr hi]; exact hsx i hi⟩
  | true =>
    have hyes := HGE.out.yes (prB_bd HP.out).1 fun m hm hml => HT.out (by trivial) m hm (by rw [← HRM.out.len]; exact hml)
    obtain ⟨X, eX⟩ : ∃ X, X = solX C M ld := ⟨_, rfl⟩
    have hXl : X.length = C := by rw [eX]; exact solX_len _ _ _
    have HXe : Hid (els P X = true) := (show Hid _ from by rw [eX]; exact hyes.1)
    have HXs : Hid (SolE P R C cl rl X) := (show Hid _ from eqM_sol hXl (by rw [eX]; exact hyes.2))
    have HX := Lib.hid eX
    have HXl := Lib.hid hXl
    clear hyes eX hXl
    go_wp2_with (at_make; refine wpList_make_ints _ rfl _ _ 22 rfl 3 Tryz.underlying22 iinfo _ C rfl rfl rfl (by omega) ?_)
    obtain ⟨w4, ew4⟩ : ∃ w4 : World, w4 = w3.alloc (.cells ((zeros C).map (Value.int .i64)).toArray 3) := ⟨_, rfl⟩
    rw [← ew4]
    obtain ⟨b, eb⟩ : ∃ b, b = w3.heap.size := ⟨_, rfl⟩
    have HBK : Hid (BK w4 b (soK C X 0)) := (show Hid _ from by rw [soK_zero, ew4, eb]; exact heap_alloc_new w3 _)
    have HB5 : Hid (Below w.heap.size w w4) := (show Hid _ from by rw [ew4]; exact HB4.out.alloc HB4.out.size _)
    have HB5' : Hid (Below b w3 w4) := (show Hid _ from by rw [ew4, eb]; exact (Below.refl _ w3).alloc (Nat.le_refl _) _)
    have hb1 : w.heap.size < b := by omega
    have hb2 : w2.heap.size ≤ b := by omega
    have hb3 : w.heap.size ≤ w3.heap.size := HB4.out.size
    have hB3 : B < b := by omega
    have y4 : w4.cell? ⟨w.heap.size, 2, none⟩ = some (.int .i64 C) := (HB5'.out.cell (by show w.heap.size < b; omega)).trans y3
    have HEb := Lib.hid eb
    rw [← eb]
    have HRM4 : Hid (RM (B + 1) w4 G (C + 1) R bs cs M) := (show Hid _ from HRM3.out.below (by rw [eb] at HB5'; exact HB5'.out))
    have HRD4 : Hid (RD w4 B P C (.slice (some ⟨G, 0, none⟩) R c) r ld) := (show Hid _ from HRD3.out.kept (HB5'.out.block B hB3))
    have hGb : G < b := by have := HRM3.out.lt; omega
    have hbb : Hid (∀ i, i < R → bs i < b) := (show Hid _ from fun i hi => by have := (HRM3.out.row i hi).1.lt; omega)
    clear ew4 y3 eb
    go_loopw [24] (fun i wr => ∃ k : Nat, k ≤ C ∧ i = .int .i64 k ∧ Hid (BK wr b (soK C X k)) ∧ Hid (w4.grownBy wr (some b))) (fun i _ => C - (intOf i).toNat)
    case atStart => exact ⟨0, Nat.zero_le _, by go_num, HBK, (show Hid _ from grownBy_refl _ _)⟩
    case round =>
      obtain ⟨k, hk, rfl, HK, HG⟩ := hrel
      by_cases hkC : k < C
      · have hldl := HGE.out.ldl
        have ck := HG.out.cell (HRD4.out.ld (k := k) (by omega)) (by simp; omega)
        obtain ⟨nl, enl⟩ : ∃ v, v = gd ld k := ⟨_, rfl⟩
        rw [← enl] at ck
        have k32 : (k : Int) < 32 := by omega
        have k0 : (0 : Int) ≤ (k : Int) := by omega
        by_cases h0 : nl = 0
        · have HSK : Hid (soK C X (k + 1) = soK C X k) := (show Hid _ from soK_skip HXl.out k hkC (by rw [HX.out, solX_gd hkC, ← enl, if_pos h0]))
          subst h0
          clear enl hldl
          go_wp2_with fail
          go_roundw
          case rel => exact ⟨k + 1, by omega, by go_num, (show Hid _ from by rw [HSK.out]; exact HK.out), HG⟩
          case measure => simp [intOf]; omega
        · obtain ⟨q, hq1, hq2, _⟩ := HGE.out.led k hkC (by rw [← enl]; exact h0)
          rw [← enl] at hq1
          subst hq1
          have hqR : q < R := by omega
          have HXk : Hid (gd X k = gd (gr M q) C) := (show Hid _ from by
            show _ = _
            rw [HX.out, solX_gd hkC, ← enl, if_neg h0]
            congr 2
            omega)
          have cB := HG.out.cell HRD4.out.cells.2.2.1 (by simp; omega)
          have cG := HG.out.cell (HRM4.out.cell hqR) (by simp; omega)
          have cX := HG.out.cell (HRM4.out.el hqR (Nat.lt_succ_self C)) (by have := hbb.out q hqR; simp; omega)
          have cE := HG.out.cell y4 (by simp; omega)
          obtain ⟨x, ex⟩ : ∃ x, x = gd (gr M q) C := ⟨_, rfl⟩
          rw [← ex] at cX
          have hkl : k < (soK C X k).length := by rw [soK_len HXl.out k (by omega)]; exact hkC
          have ck2 := HK.out.cell hkl
          have fk := HK.out.frozen k
          have HST : Hid (BK (wr.setCell ⟨b, k, none⟩ (.int .i64 x)) b (soK C X (k + 1))) := (show Hid _ from by
            have := HK.out.set k x
            rwa [ex, ← HXk.out, soK_step HXl.out k hkC, HXk.out, ← ex] at this)
          have HGT : Hid (w4.grownBy (wr.setCell ⟨b, k, none⟩ (.int .i64 x)) (some b)) := (show Hid _ from grownBy_setCell HG.out (.inl rfl) _)
          have q0 : (0 : Int) ≤ (q : Int) := by omega
          have q1 : (q : Int) < (R : Int) := by omega
          have c0 : (0 : Int) ≤ (C : Int) := by omega
          have c1 : (C : Int) < ((C + 1 : Nat) : Int) := by omega
          have kC : (k : Int) < (C : Int) := by omega
          have qq : (q : Int) + 1 - 1 = (q : Int) := by omega
          have qw : IntKind.i64.wrap (q : Int) = (q : Int) := by exact IntWalk.i64_in _ (by omega)
          have qw2 : IntKind.i64.wrap ((q : Int) + 1 - 1) = (q : Int) := by rw [qq]; exact qw
          have c2 : (C : Int) < (C : Int) + 1 := by omega
          have hgs : wr.grownBy (wr.setCell ⟨b, k, none⟩ (.int .i64 x)).drew (some b) := grownBy_drew' (grownBy_setCell (grownBy_refl wr (some b)) (.inl rfl) _)
          have dB := hgs.cell cB (by simp; omega)
          have dG := hgs.cell cG (by simp; omega)
          have dX := hgs.cell cX (by have := hbb.out q hqR; simp; omega)
          have dE := hgs.cell cE (by simp; omega)
          clear hgs
          have ebs : bs q ≠ b := by have := hbb.out q hqR; omega
          clear enl hldl hq2 ex h0
          go_wp2_with fail
          go_region_held3 (fun w' => w'.cell? ⟨B, 2, none⟩ = some (.slice (some ⟨G, 0, none⟩) R c) ∧ w'.cell? ⟨G, q, none⟩ = some (.slice (some ⟨bs q, 0, none⟩) (C + 1) (cs q)) ∧ w'.cell? ⟨bs q, C, none⟩ = some (.int .i64 x) ∧ w'.cell? ⟨w.heap.size, 2, none⟩ = some (.int .i64 C)) (first | exact ⟨cB, cG, cX, cE⟩ | exact ⟨dB, dG, dX, dE⟩ | go_keep) (fail)
          all_goals
            go_wp2_with fail
            go_roundw
            case rel => exact ⟨k + 1, by omega, by go_num, HST, (show Hid _ from grownBy_drew' HGT.out)⟩
            case measure => simp [intOf]; omega
      · obtain rfl : C = k := by omega
        go_wp2_with fail
        go_ret2
        refine ⟨0, _, X, rfl, HB5.out.trans (below_grown HG.out (by have := HB5.out.size; omega) (fun j hj => by injection hj with hj; omega)), .inl ⟨rfl, HXs.out, HXe.out, ?_⟩⟩
        have := HK.out
        rw [soK_end HXl.out] at this
        have h2 := this.own (base := w.heap.size) (by omega) (by rw [HXl.out]; omega)
        rwa [HXl.out] at h2 ⊢
end Go.Proofs.YtoiabanpnkpbhaaGreatDoor

namespace Go.Proofs.YtoiabanpnkpbhaaGreatDoor

theorem trim_tk (l : List Int) : trim l = l.take (trim l).length := by
  induction l with
  | nil => rfl
  | cons c l ih =>
    rw [trim_cons]
    split
    · rfl
    · rw [List.length_cons, List.take_succ_cons, ← ih]
theorem trim_top (l : List Int) : trim l = [] ∨ gd l ((trim l).length - 1) ≠ 0 := by
  induction l with
  | nil => exact .inl rfl
  | cons c l ih =>
    rw [trim_cons]
    split
    · exact .inl rfl
    · rename_i h
      refine .inr ?_
      rw [List.length_cons, Nat.add_sub_cancel]
      rcases ih with e | e
      · rw [e]
        intro h0
        exact h ⟨by simpa [gd] using h0, e⟩
      · cases ht : trim l with
        | nil =>
          intro h0
          exact h ⟨by simpa [gd] using h0, ht⟩
        | cons d m =>
          rw [ht] at e
          simpa [gd] using e
theorem trim_fix {l : List Int} (h : l = [] ∨ gd l (l.length - 1) ≠ 0) : trim l = l := by
  have h1 := trim_take (n := l.length) (l := l) (Nat.le_refl _) (fun k hk => gd_ge hk) (by
    rcases h with h | h
    · exact .inl (by simp [h])
    · exact .inr h)
  rwa [List.take_length] at h1
theorem trim_idem (l : List Int) : trim (trim l) = trim l := by
  rcases trim_top l with h | h
  · rw [h]; rfl
  · refine trim_fix (.inr ?_)
    rwa [trim_gd]
theorem trim_ez (l : List Int) (x : Int) : ez (trim l) x = ez l x := by
  induction l with
  | nil => rfl
  | cons c l ih =>
    rw [trim_cons]
    split
    · rename_i h
      rw [ez_cons, ← ih, h.1, h.2]; simp [ez]
    · rw [ez_cons, ez_cons, ih]
structure DV (P : Int) (a b Q T : List Int) (m K : Nat) : Prop where
  div : ∀ x, P ∣ ez a x - (ez Q x * ez b x + ez (T.take m) x)
  elQ : els P Q = true
  elT : els P T = true
  le : m ≤ T.length
  len : Q.length = K
  zero : ∀ j, j + b.length ≤ m → gd Q j = 0
  fit : m + 1 ≤ K + b.length
  top : m = 0 ∨ gd T (m - 1) ≠ 0
theorem DV.start {P : Int} {a b : List Int} (hP : 2 ≤ P) (hb : b ≠ []) (ha : els P a = true) : DV P a b (zeros ((trim a).length + 1 - b.length)) (trim a) (trim a).length ((trim a).length + 1 - b.length) where
  div := fun x => by
    rw [ez_zeros, List.take_length, trim_ez]
    exact ⟨0, by simp⟩
  elQ := zeros_els hP _
  elT := trim_els ha
  le := Nat.le_refl _
  len := by simp [zeros]
  zero := fun j _ => by
    by_cases h : j < ((trim a).length + 1 - b.length)
    · rw [gd_lt (by simpa [zeros] using h)]; simp [zeros]
    · exact gd_ge (by simp [zeros]; omega)
  fit := by
    have : b.length ≠ 0 := fun e => hb (List.eq_nil_of_length_eq_zero e)
    omega
  top := by
    rcases trim_top a with h | h
    · exact .inl (by rw [h]; rfl)
    · exact .inr (by rwa [trim_gd])
/-- a number set at a place that was 0 -/
theorem set_ez {l : List Int} {k : Nat} (h : k < l.length) (h0 : gd l k = 0) (v x : Int) : ez (l.set k v) x = ez l x + v * x ^ k := by
  induction l generalizing k with
  | nil => simp at h
  | cons c l ih =>
    cases k with
    | zero =>
      have : c = 0 := by simpa [gd] using h0
      simp [ez_cons, this]; omega
    | succ k =>
      have h1 := ih (k := k) (by simpa using h) (by simpa [gd] using h0)
      rw [List.set_cons_succ, ez_cons, ez_cons, h1, Int.mul_add, Int.pow_succ, Int.mul_left_comm, Int.mul_comm x (x ^ k)]; omega
theorem take_ez (T : List Int) (m : Nat) (h : m ≤ T.length) (x : Int) : ez (T.take m) x = sm m fun j => gd T j * x ^ j := by
  rw [ez_sm, List.length_take, Nat.min_eq_left h]
  exact sm_ext fun k hk => by rw [gd_take, if_pos hk]
theorem addT_ez {P y : Int} {T b : List Int} {o : Nat} (h : o + b.length ≤ T.length) (x : Int) :
    P ∣ ez ((addT P T o y b).take (o + b.length)) x - (ez (T.take (o + b.length)) x + y * (x ^ o * ez b x)) := by
  rw [take_ez _ _ (by rw [addT_len]; exact h), take_ez _ _ h, sm_split, sm_split]
  have e1 : (sm o fun j => gd (addT P T o y b) j * x ^ j) = sm o fun j => gd T j * x ^ j := sm_ext fun k hk => by
    rw [addT_gd P T o y b h, if_neg (by omega)]
  have e2 : P ∣ (sm b.length fun j => gd (addT P T o y b) (o + j) * x ^ (o + j)) - ((sm b.length fun j => gd T (o + j) * x ^ (o + j)) + y * sm b.length fun j => x ^ o * (gd b j * x ^ j)) := by
    refine sm_lin fun k hk => ?_
    rw [addT_gd P T o y b h, if_pos (by omega)]
    have e3 : o + k - o = k := by omega
    rw [e3]
    refine dvd_of_eq' (dvl (k := x ^ (o + k)) (mod_dvd P (gd T (o + k) + y * gd b k))) ?_
    have e4 : y * (x ^ o * (gd b k * x ^ k)) = y * gd b k * x ^ (o + k) := by
      rw [Int.pow_add, Int.mul_assoc y, Int.mul_left_comm (x ^ o)]
    rw [e4, Int.sub_mul, Int.add_mul]
  rw [e1, ez_sm b]
  rw [sm_scale] at e2
  refine dvd_of_eq' e2 ?_
  omega
theorem DV.step {P : Int} {a b Q T : List Int} {m K : Nat} (hp : prB P = true) (h : DV P a b Q T m K) (hb : b ≠ []) (hbe : els P b = true) (hbt : gd b (b.length - 1) ≠ 0) (hm : b.length ≤ m) :
    DV P a b (Q.set (m - b.length) (gd T (m - 1) * inv P (gd b (b.length - 1)) % P)) (addT P T (m - b.length) ((0 - gd T (m - 1) * inv P (gd b (b.length - 1)) % P + P) % P) b)
      (trim ((addT P T (m - b.length) ((0 - gd T (m - 1) * inv P (gd b (b.length - 1)) % P + P) % P) b).take (m - 1))).length K := by
  have hP := (prB_bd hp).1
  have hb0 : b.length ≠ 0 := fun e => hb (List.eq_nil_of_length_eq_zero e)
  have hle := h.le
  have hfit := h.fit
  have hlen := h.len
  obtain ⟨o, ho⟩ : ∃ o, o = m - b.length := ⟨_, rfl⟩
  have hmo : o + b.length = m := by omega
  rw [← ho]
  generalize hq : gd T (m - 1) * inv P (gd b (b.length - 1)) % P = q
  have hqel : el P q = true := by rw [← hq]; exact el_mod hP _
  generalize hT' : addT P T o ((0 - q + P) % P) b = T'
  have hT'l : T'.length = T.length := by rw [← hT', addT_len]
  have hT'e : els P T' = true := by rw [← hT']; exact addT_els hP h.elT _ _ _
  -- the top becomes 0
  have htop : gd T' (m - 1) = 0 := by
    rw [← hT', addT_gd P T o _ b (by omega), if_pos (by omega)]
    have e1 : m - 1 - o = b.length - 1 := by omega
    rw [e1]
    obtain ⟨z, hz⟩ := neg_mod (P := P) (a := q)
    rw [hz]
    refine Int.emod_eq_zero_of_dvd ?_
    have hbn : gd b (b.length - 1) % P ≠ 0 := by
      have := el_t (els_gd hP hbe (b.length - 1))
      rw [Int.emod_eq_of_lt this.1 this.2]; exact hbt
    have hi := inv_mul hp _ hbn
    have h1 : P ∣ q - gd T (m - 1) * inv P (gd b (b.length - 1)) := by rw [← hq]; exact mod_dvd P _
    have h2 : P ∣ 1 - inv P (gd b (b.length - 1)) * gd b (b.length - 1) := by
      have := mod_dvd P (inv P (gd b (b.length - 1)) * gd b (b.length - 1))
      rwa [hi] at this
    have h3 := dvr (k := gd T (m - 1)) h2
    have h4 := dvl (k := gd b (b.length - 1)) h1
    have h5 := Int.dvd_mul_right P (z * gd b (b.length - 1))
    refine dvd_of_eq' (Int.dvd_add (Int.dvd_sub h3 h4) h5) ?_
    rw [Int.mul_sub, Int.sub_mul, Int.add_mul, Int.neg_mul, Int.mul_assoc, Int.mul_assoc]
    omega
  have hdrop : ∀ x, ez (T'.take m) x = ez (T'.take (m - 1)) x := by
    intro x
    rw [take_ez _ _ (by omega), take_ez _ _ (by omega)]
    obtain ⟨j, hj⟩ : ∃ j, m = j + 1 := ⟨m - 1, by omega⟩
    subst hj
    rw [Nat.add_sub_cancel] at htop ⊢
    simp only [sm]
    rw [htop]; simp
  have htr := trim_tk (T'.take (m - 1))
  have htl := trim_len (T'.take (m - 1))
  have htl2 : (T'.take (m - 1)).length = m - 1 := by simp; omega
  generalize hm' : (trim (T'.take (m - 1))).length = m' at *
  have htake : trim (T'.take (m - 1)) = T'.take m' := by
    rw [htr, List.take_take, Nat.min_eq_left (by omega)]
  refine ⟨fun x => ?_, ?_, hT'e, by omega, by rw [List.length_set]; exact hlen, fun j hj => ?_, by omega, ?_⟩
  · have h0 : gd Q o = 0 := h.zero o (by omega)
    rw [set_ez (by omega) h0, ← htake, trim_ez, ← hdrop]
    have h1 := h.div x
    have h2 := addT_ez (P := P) (y := (0 - q + P) % P) (T := T) (b := b) (o := o) (by omega) x
    rw [hT', hmo] at h2
    obtain ⟨z, hz⟩ := neg_mod (P := P) (a := q)
    rw [hz] at h2
    have h3 := Int.dvd_mul_right P (z * (x ^ o * ez b x))
    refine dvd_of_eq' (Int.dvd_sub (Int.dvd_sub h1 h2) h3) ?_
    rw [Int.add_mul, Int.add_mul, Int.neg_mul, Int.mul_assoc q, Int.mul_assoc P]
    omega
  · refine els_of fun v hv => ?_
    rcases List.mem_or_eq_of_mem_set hv with h1 | h1
    · exact els_all h.elQ v h1
    · rw [h1]; exact hqel
  · rw [gd_set _ _ _ _ (by omega), if_neg (by omega)]
    exact h.zero j (by omega)
  · rcases trim_top (T'.take (m - 1)) with e | e
    · left; rw [← hm', e]; rfl
    · right
      rw [hm', gd_take] at e
      by_cases h0 : m' - 1 < m - 1
      · rwa [if_pos h0] at e
      · rw [if_neg h0] at e; exact absurd rfl e
theorem DV.rest {P : Int} {a b Q T : List Int} {m K : Nat} (h : DV P a b Q T m K) : trim (T.take m) = T.take m := by
  have hl : (T.take m).length = m := by have := h.le; simp; omega
  refine trim_fix ?_
  rcases h.top with e | e
  · left; rw [e]; rfl
  · by_cases h0 : m = 0
    · left; rw [h0]; rfl
    · right; rw [hl, gd_take, if_pos (by omega)]; exact e
end Go.Proofs.YtoiabanpnkpbhaaGreatDoor
