/- Joined: Cm Sm Sa7 Se. -/
import Derived.Test.YtoiabanpnkpbhaaGreatDoorY20
import Derived.Test.YtoiabanpnkpbhaaGreatDoorY04
import Derived.Test.YtoiabanpnkpbhaaGreatDoorY06
import Derived.Test.YtoiabanpnkpbhaaGreatDoorY19
namespace Go.Proofs.YtoiabanpnkpbhaaGreatDoor
open Go.RowKit

def cmbT (P : Int) (c : List Int) (rows : List (List Int)) (width k : Nat) : List Int := (List.range k).foldl (fun L i => addT P L 0 (gd c i) (gr rows i)) (zeros width)
def cmb (P : Int) (c : List Int) (rows : List (List Int)) (width : Nat) : List Int := cmbT P c rows width rows.length
theorem cmbT_succ (P : Int) (c : List Int) (rows : List (List Int)) (width k : Nat) : cmbT P c rows width (k + 1) = addT P (cmbT P c rows width k) 0 (gd c k) (gr rows k) := by
  unfold cmbT
  rw [List.range_succ, List.foldl_append]; rfl
theorem cmbT_len (P : Int) (c : List Int) (rows : List (List Int)) (width : Nat) : ∀ k, (cmbT P c rows width k).length = width
  | 0 => by simp [cmbT, zeros]
  | k + 1 => by rw [cmbT_succ, addT_len, cmbT_len P c rows width k]
theorem cmbT_els {P : Int} (hP : 2 ≤ P) (c : List Int) (rows : List (List Int)) (width : Nat) : ∀ k, els P (cmbT P c rows width k) = true
  | 0 => by simpa [cmbT] using zeros_els hP width
  | k + 1 => by rw [cmbT_succ]; exact addT_els hP (cmbT_els hP c rows width k) 0 _ _
/-- the error of Combine -/
def coE (P : Int) (c : List Int) (rows : List (List Int)) (width : Int) : Int :=
  if prB P = false then 9 else if width < 0 ∨ 64 < width then 4 else if c.length ≠ rows.length then 2 else if (rows.all fun r => decide ((r.length : Int) = width)) = false then 2 else if els P c = false then 9 else if (rows.all (els P)) = false then 9 else 0
def CmP (P : Int) (c : List Int) (rows : List (List Int)) (width : Int) (w : World) (e : Ending) (w' : World) : Prop :=
  ∃ v, e = .returned (.tuple #[v, .int .i64 (coE P c rows width)]) ∧ Below w.heap.size w w' ∧ (coE P c rows width ≠ 0 → v = .slice none 0 0) ∧
    (coE P c rows width = 0 → w'.ownsRow w.heap.size 3 1 v (cmb P c rows width.toNat).length ((cmb P c rows width.toNat).map (Value.int .i64)))
theorem all_no {α : Type} {p : α → Bool} {l : List α} {j : Nat} (h : j < l.length) (hb : p l[j] = false) : l.all p = false := by
  cases e : l.all p with
  | false => rfl
  | true => rw [List.all_eq_true] at e; have := e _ (List.getElem_mem h); rw [hb] at this; cases this
theorem all_yes {α : Type} {p : α → Bool} {l : List α} (h : ∀ j (h : j < l.length), p l[j] = true) : l.all p = true := by
  rw [List.all_eq_true]
  intro x hx
  obtain ⟨j, hj, rfl⟩ := List.mem_iff_getElem.1 hx
  exact h j hj
def Cm3 (P : Int) (c : List Int) (rows : List (List Int)) (width b : Nat) (w5 : World) (iv : Value) (wr : World) : Prop :=
  ∃ i : Nat, i ≤ rows.length ∧ iv = .int .i64 i ∧ BK wr b (cmbT P c rows width i) ∧ Below w5.heap.size w5 wr
def Cm4 (P : Int) (L : List Int) (x : Int) (r : List Int) (b : Nat) (w5 : World) (iv : Value) (wr : World) : Prop :=
  ∃ k : Nat, k ≤ r.length ∧ iv = .int .i64 k ∧ BK wr b (addT P L 0 x (r.take k)) ∧ Below w5.heap.size w5 wr
set_option maxRecDepth 100000 in
set_option maxHeartbeats 8000000 in
theorem combine_any (P : Int) (c : List Int) (rows : List (List Int)) (width : Int) (vc vr : Value) (w : World) (hP : i64r P) (hc : SI w vc c) (hr : SL w vr rows) :
    Calls Tryz.prog 72 #[.agg #[.int .i64 P], vc, vr, .int .i64 width] w (CmP P c rows width w) := by
  obtain ⟨Ar, cr, rfl, hr1, hr2, hs, hhl, hhs, hha⟩ := hr.heads
  have HHS := Lib.hid hhs
  have HHA := Lib.hid hha
  have HHL := Lib.hid hhl
  have HC := Lib.hid hc
  obtain ⟨Ac, cc, rfl⟩ := hc.form
  clear hc hr hhs hha hhl
  go_enter Tryz.func72, Tryz.ntmps72
  obtain ⟨F, eF⟩ : ∃ F, F = w.heap.size := ⟨_, rfl⟩
  obtain ⟨w1, ew⟩ : ∃ w1 : World, w1 = w.alloc (.cells #[.int .i64 P] 31) := ⟨_, rfl⟩
  have HW1 : Hid (w.alloc (.cells #[.int .i64 P] 31) = w1) := ew.symm
  have HB1 : Hid (Below w.heap.size w w1) := (show Hid _ from by rw [ew]; exact (Below.refl _ w).alloc (Nat.le_refl _) _)
  have HF1 : Hid (w1.heap[F]? = some (.cells #[.int .i64 P] 31 (0, 0))) := (show Hid _ from by show _ = _; rw [ew, eF]; exact heap_alloc_new w _)
  have HEF := Lib.hid eF
  go_upto_region 1 with fail
  rw [HW1.out, ← eF]
  clear ew eF
  have f0 : w1.cell? ⟨F, 0, none⟩ = some (.int .i64 P) := cell_of_row w1 F 0 _ _ _ HF1.out
  go_wp2_with fail
  (with_reducible refine (rcheck_any P _ hP).mono ?_)
  rintro e w2 ⟨rfl, hb2⟩
  have HBw : Hid (Below w.heap.size w w2) := HB1.out.trans (hb2.mono HB1.out.size)
  have HF2 : Hid (w2.heap[F]? = some (.cells #[.int .i64 P] 31 (0, 0))) := (hb2.block F (heap_of_cells HF1.out)).trans HF1.out
  clear hb2 f0
  cases hp : prB P with
  | false =>
    have HE : Hid (coE P c rows width = 9) := (show Hid _ from by show _ = _; unfold coE; rw [hp]; rfl)
    rw [rcE_f hp]
    have d0 : ((9 : Int) != 0) = true := rfl
    clear hp
    go_wp2_with fail
    go_ret2
    exact ⟨_, by rw [HE.out]; rfl, HBw.out, fun _ => rfl, fun h => by rw [HE.out] at h; omega⟩
  | true =>
    have HP := Lib.hid hp
    have hPb := prB_bd hp
    rw [rcE_t hp]
    have d0 : ((0 : Int) != 0) = false := rfl
    clear hp
    by_cases hw0 : width < 0
    · have HE : Hid (coE P c rows width = 4) := (show Hid _ from by show _ = _; unfold coE; rw [HP.out, if_neg (by simp), if_pos (.inl hw0)])
      have d1 : decide (width < 0) = true := decide_eq_true hw0
      go_wp2_with fail
      go_ret2
      exact ⟨_, by rw [HE.out]; rfl, HBw.out, fun _ => rfl, fun h => by rw [HE.out] at h; omega⟩
    · have d1 : decide (width < 0) = false := decide_eq_false hw0
      by_cases hw64 : 64 < width
      · have HE : Hid (coE P c rows width = 4) := (show Hid _ from by show _ = _; unfold coE; rw [HP.out, if_neg (by simp), if_pos (.inr hw64)])
        have d2 : decide (64 < width) = true := decide_eq_true hw64
        go_wp2_with fail
        go_ret2
        exact ⟨_, by rw [HE.out]; rfl, HBw.out, fun _ => rfl, fun h => by rw [HE.out] at h; omega⟩
      · have d2 : decide (64 < width) = false := decide_eq_false hw64
        obtain ⟨wd, rfl⟩ : ∃ n : Nat, width = n := ⟨width.toNat, by omega⟩
        have hwd : wd ≤ 64 := by omega
        by_cases hcl : c.length = rows.length
        · have d3 : ((c.length : Int) != (rows.length : Int)) = false := by rw [bne_eq_false_iff_eq]; omega
          have d3' : (c.length != rows.length) = false := by rw [bne_eq_false_iff_eq]; exact hcl
          have HCL := Lib.hid hcl
          clear hcl hw0 hw64
          go_wp2_with fail
          clear d3 d3'
          go_loopw [38] (fun iv wr => ∃ j : Nat, j ≤ rows.length ∧ iv = .int .i64 j ∧ (∀ q (h : q < rows.length), q < j → rows[q].length = wd) ∧ w2 = wr) (fun iv _ => rows.length - (intOf iv).toNat)
          case atStart => exact ⟨0, Nat.zero_le _, rfl, fun q h1 h2 => by omega, rfl⟩
          case round =>
            obtain ⟨j, hj, rfl, hall, rfl⟩ := hrel
            have HALL := Lib.hid hall
            clear hall
            by_cases hlj : j < rows.length
            · have dj : decide (j < rows.length) = true := decide_eq_true hlj
              obtain ⟨b, off, rfl, hbw, hcell⟩ := HHA.out (by omega)
              have hjh : j < hs.length := by rw [HHL.out]; exact hlj
              obtain ⟨B, d, ehj, hsj⟩ := HHS.out j hjh hlj
              have cj := (HBw.out.cell (p := ⟨b, off + j, none⟩) hbw).trans (hcell j hjh)
              rw [ehj] at cj
              obtain ⟨rl, erl⟩ : ∃ rl, rl = rows[j].length := ⟨_, rfl⟩
              have HRL := Lib.hid erl
              rw [← erl] at cj
              clear hcell ehj hsj erl
              by_cases hne : rl = wd
              · have d3 : ((rl : Int) != (wd : Int)) = false := by rw [bne_eq_false_iff_eq]; omega
                have d3' : (rl != wd) = false := by rw [bne_eq_false_iff_eq]; exact hne
                have HNE := Lib.hid hne
                clear hne
                go_wp2_with fail
                go_roundw
                case rel => exact ⟨j + 1, by omega, by go_num, fun q h1 h2 => by
                  by_cases hq : q < j
                  · exact HALL.out q h1 hq
                  · have : q = j := by omega
                    subst this
                    rw [← HRL.out]; exact HNE.out, by first | trivial | rfl⟩
                case measure => simp [intOf]; omega
              · have d3 : ((rl : Int) != (wd : Int)) = true := by rw [bne_iff_ne]; omega
                have d3' : (rl != wd) = true := by rw [bne_iff_ne]; exact hne
                have HE : Hid (coE P c rows wd = 2) := (show Hid _ from by
                  show _ = _
                  unfold coE
                  rw [HP.out, if_neg (by simp), if_neg (by omega), if_neg (by rw [HCL.out]; simp), if_pos (all_no hlj (by simp; have := HRL.out; omega))])
                clear hne
                go_wp2_with fail
                go_ret2
                exact ⟨_, by rw [HE.out]; rfl, HBw.out, fun _ => rfl, fun h => by rw [HE.out] at h; omega⟩
            · have dj : decide (j < rows.length) = false := decide_eq_false hlj
              have HWD : Hid (∀ q (h : q < rows.length), rows[q].length = wd) := (show Hid _ from fun q h => HALL.out q h (by omega))
              have HAW : Hid ((rows.all fun r => decide ((r.length : Int) = (wd : Int))) = true) := (show Hid _ from all_yes fun q h => decide_eq_true (by have := HWD.out q h; omega))
              have f0 : w2.cell? ⟨F, 0, none⟩ = some (.int .i64 P) := cell_of_row w2 F 0 _ _ _ HF2.out
              clear HALL
              go_wp2_with fail
              (with_reducible refine (rin_any P c _ _ hP (HC.out.below HBw.out)).mono ?_)
              rintro e w3 ⟨rfl, hb3⟩
              have HBw3 : Hid (Below w.heap.size w w3) := HBw.out.trans (hb3.mono HBw.out.size)
              have HF3 : Hid (w3.heap[F]? = some (.cells #[.int .i64 P] 31 (0, 0))) := (hb3.block F (heap_of_cells HF2.out)).trans HF2.out
              clear hb3 f0
              cases hin : inB P c with
              | false =>
                have HE : Hid (coE P c rows wd = 9) := (show Hid _ from by
                  have h : els P c = false := by unfold inB at hin; rw [HP.out] at hin; simpa using hin
                  show _ = _
                  unfold coE
                  rw [HP.out, if_neg (by simp), if_neg (by omega), if_neg (by rw [HCL.out]; simp), HAW.out, if_neg (by simp), h]; rfl)
                clear hin
                go_wp2_with fail
                go_ret2
                exact ⟨_, by rw [HE.out]; rfl, HBw3.out, fun _ => rfl, fun h => by rw [HE.out] at h; omega⟩
              | true =>
                have HEC : Hid (els P c = true) := (show Hid _ from by show _ = _; unfold inB at hin; rw [HP.out] at hin; simpa using hin)
                clear hin
                go_wp2_with fail
                go_loopw [53] (fun iv wr => ∃ j : Nat, j ≤ rows.length ∧ iv = .int .i64 j ∧ (∀ q (h : q < rows.length), q < j → els P rows[q] = true) ∧ Below w3.heap.size w3 wr) (fun iv _ => rows.length - (intOf iv).toNat)
                case atStart => exact ⟨0, Nat.zero_le _, rfl, fun q h1 h2 => by omega, Below.refl _ _⟩
                case round =>
                  obtain ⟨j, hj, rfl, hall, hbr⟩ := hrel
                  have HALL := Lib.hid hall
                  have HBR := Lib.hid hbr
                  have HBwr : Hid (Below w.heap.size w wr) := HBw3.out.trans (hbr.mono HBw3.out.size)
                  have HFr : Hid (wr.heap[F]? = some (.cells #[.int .i64 P] 31 (0, 0))) := (hbr.block F (heap_of_cells HF3.out)).trans HF3.out
                  clear hall hbr
                  by_cases hlj : j < rows.length
                  · have dj : decide (j < rows.length) = true := decide_eq_true hlj
                    obtain ⟨b, off, rfl, hbw, hcell⟩ := HHA.out (by omega)
                    have hjh : j < hs.length := by rw [HHL.out]; exact hlj
                    obtain ⟨B, d, ehj, hsj⟩ := HHS.out j hjh hlj
                    have cj := (HBwr.out.cell (p := ⟨b, off + j, none⟩) hbw).trans (hcell j hjh)
                    rw [ehj] at cj hsj
                    have HSJ : Hid (SI wr (.slice B rows[j].length d) rows[j]) := hsj.below HBwr.out
                    obtain ⟨r, er⟩ : ∃ r, r = rows[j] := ⟨_, rfl⟩
                    rw [← er] at cj HSJ
                    have HR := Lib.hid er
                    have f0 : wr.cell? ⟨F, 0, none⟩ = some (.int .i64 P) := cell_of_row wr F 0 _ _ _ HFr.out
                    clear hcell ehj hsj er
                    go_wp2_with fail
                    (with_reducible refine (rin_any P r _ _ hP HSJ.out).mono ?_)
                    rintro e w4 ⟨rfl, hb4⟩
                    have HB4 := Lib.hid hb4
                    clear hb4 f0 cj
                    cases hin : inB P r with
                    | false =>
                      have HE : Hid (coE P c rows wd = 9) := (show Hid _ from by
                        have h : els P rows[j] = false := by rw [← HR.out]; unfold inB at hin; rw [HP.out] at hin; simpa using hin
                        show _ = _
                        unfold coE
                        rw [HP.out, if_neg (by simp), if_neg (by omega), if_neg (by rw [HCL.out]; simp), HAW.out, if_neg (by simp), HEC.out, if_neg (by simp), if_pos (all_no hlj h)])
                      clear hin
                      go_wp2_with fail
                      go_ret2
                      exact ⟨_, by rw [HE.out]; rfl, HBwr.out.trans (HB4.out.mono HBwr.out.size), fun _ => rfl, fun h => by rw [HE.out] at h; omega⟩
                    | true =>
                      have HER : Hid (els P rows[j] = true) := (show Hid _ from by show _ = _; rw [← HR.out]; unfold inB at hin; rw [HP.out] at hin; simpa using hin)
                      clear hin
                      go_wp2_with fail
                      go_roundw
                      case rel => exact ⟨j + 1, by omega, by go_num, fun q h1 h2 => by
                        by_cases hq : q < j
                        · exact HALL.out q h1 hq
                        · have : q = j := by omega
                          subst this
                          exact HER.out, HBR.out.trans (HB4.out.mono HBR.out.size)⟩
                      case measure => simp [intOf]; omega
                  · have dj : decide (j < rows.length) = false := decide_eq_false hlj
                    have HER : Hid (∀ q (h : q < rows.length), els P rows[q] = true) := (show Hid _ from fun q h => HALL.out q h (by omega))
                    have HE : Hid (coE P c rows wd = 0) := (show Hid _ from by
                      show _ = _
                      unfold coE
                      rw [HP.out, if_neg (by simp), if_neg (by omega), if_neg (by rw [HCL.out]; simp), HAW.out, if_neg (by simp), HEC.out, if_neg (by simp), all_yes HER.out, if_neg (by simp)])
                    clear HALL
                    obtain ⟨w5, ew5⟩ : ∃ w5 : World, w5 = wr := ⟨_, rfl⟩
                    rw [← ew5] at HBwr HFr ⊢
                    clear ew5 HBR
                    have hmk := wd
                    clear hmk
                    go_wp2_with (at_make; refine wpList_make_ints _ rfl _ _ 22 rfl 3 Tryz.underlying22 iinfo _ wd rfl rfl rfl (by omega) ?_)
                    obtain ⟨b, eb⟩ : ∃ b, b = w5.heap.size := ⟨_, rfl⟩
                    obtain ⟨w6, ew6⟩ : ∃ w6 : World, w6 = w5.alloc (.cells ((zeros wd).map (Value.int .i64)).toArray 3) := ⟨_, rfl⟩
                    have HB6 : Hid (Below w5.heap.size w5 w6) := (show Hid _ from by rw [ew6]; exact (Below.refl _ _).alloc (Nat.le_refl _) _)
                    have HK6 : Hid (BK w6 b (cmbT P c rows wd 0)) := (show Hid _ from by rw [ew6, eb]; exact heap_alloc_new w5 _)
                    have HEB := Lib.hid eb
                    have hFb : F < b := by rw [eb]; exact heap_of_cells HFr.out
                    have HRW : Hid (∀ i (h : i < rows.length), ∃ B d, ∀ W, Below w5.heap.size w5 W → (∃ bh oh, Ar = some ⟨bh, oh, none⟩ ∧ W.cell? ⟨bh, oh + i, none⟩ = some (.slice B wd d)) ∧ SI W (.slice B wd d) rows[i]) := (show Hid _ from fun i hi => by
                      obtain ⟨bh, oh, eA, hbh, hcell⟩ := HHA.out (by omega)
                      have hih : i < hs.length := by rw [HHL.out]; exact hi
                      obtain ⟨B, d, ehj, hsj⟩ := HHS.out i hih hi
                      rw [ehj, HWD.out i hi] at hsj
                      refine ⟨B, d, fun W hb => ?_⟩
                      have hbw := HBwr.out.trans (hb.mono HBwr.out.size)
                      have cj := (hbw.cell (p := ⟨bh, oh + i, none⟩) hbh).trans (hcell i hih)
                      rw [ehj, HWD.out i hi] at cj
                      exact ⟨⟨bh, oh, eA, cj⟩, hsj.below hbw⟩)
                    have HCW : Hid (∀ W, Below w5.heap.size w5 W → ∀ i (h : i < c.length), ∃ bh oh, Ac = some ⟨bh, oh, none⟩ ∧ W.cell? ⟨bh, oh + i, none⟩ = some (.int .i64 c[i])) := (show Hid _ from fun W hb i hi => by
                      have hbw := HBwr.out.trans (hb.mono HBwr.out.size)
                      obtain ⟨A2, c2, e2, _, _, _, ha2⟩ := HC.out
                      injection e2 with e21 e22 e23
                      obtain ⟨bh, oh, e3, hbh, hcell⟩ := ha2 (by omega)
                      exact ⟨bh, oh, by rw [e21]; exact e3, (hbw.cell (p := ⟨bh, oh + i, none⟩) hbh).trans (hcell i hi)⟩)
                    have HFW : Hid (∀ W, Below w5.heap.size w5 W → W.cell? ⟨F, 0, none⟩ = some (.int .i64 P)) := (show Hid _ from fun W hb => cell_of_row W F 0 _ _ _ ((hb.block F (heap_of_cells HFr.out)).trans HFr.out))
                    rw [← ew6, ← eb]
                    clear ew6 eb
                    go_wp2_with fail
                    go_loopw [66] (fun iv wr => Cm3 P c rows wd b w5 iv wr) (fun iv _ => rows.length - (intOf iv).toNat)
                    case atStart => exact ⟨0, Nat.zero_le _, rfl, HK6.out, HB6.out⟩
                    case round =>
                      obtain ⟨i, hi, rfl, hbk, hb6⟩ := hrel
                      have HBK := Lib.hid hbk
                      have HB := Lib.hid hb6
                      clear hbk hb6
                      by_cases hli : i < rows.length
                      · have di : decide (i < rows.length) = true := decide_eq_true hli
                        obtain ⟨B, d, hri⟩ := HRW.out i hli
                        obtain ⟨⟨bh, oh, eA, ci⟩, _⟩ := hri _ HB.out
                        subst eA
                        have hsi := fun W hb => (hri W hb).2
                        clear hri
                        have hrl : rows[i].length = wd := HWD.out i hli
                        obtain ⟨r, er⟩ : ∃ r, r = rows[i] := ⟨_, rfl⟩
                        obtain ⟨L, eL⟩ : ∃ L, L = cmbT P c rows wd i := ⟨_, rfl⟩
                        rw [← er] at hsi hrl
                        rw [← eL] at HBK
                        have HLL : Hid (L.length = wd) := (show Hid _ from by show _ = _; rw [eL, cmbT_len])
                        have HLE : Hid (els P L = true) := (show Hid _ from by show _ = _; rw [eL]; exact cmbT_els hPb.1 ..)
                        have HRE : Hid (els P r = true) := (show Hid _ from by show _ = _; rw [er]; exact HER.out i hli)
                        have hic : i < c.length := by rw [HCL.out]; exact hli
                        obtain ⟨x, ex⟩ : ∃ x, x = c[i] := ⟨_, rfl⟩
                        have hxb : 0 ≤ x ∧ x < P := by rw [ex]; exact el_t (els_all HEC.out _ (List.getElem_mem hic))
                        have HNX : Hid (cmbT P c rows wd (i + 1) = addT P L 0 x r) := (show Hid _ from by
                          show _ = _
                          rw [cmbT_succ, ← eL, ex, er, gd_lt hic]
                          unfold gr
                          rw [List.getElem?_eq_getElem hli]; rfl)
                        have HX : Hid (∀ W, Below w5.heap.size w5 W → ∃ bc oc, Ac = some ⟨bc, oc, none⟩ ∧ W.cell? ⟨bc, oc + i, none⟩ = some (.int .i64 x)) := (show Hid _ from fun W hb => by rw [ex]; exact HCW.out W hb i hic)
                        have HSR : Hid (∀ W, Below w5.heap.size w5 W → ∀ k (h : k < r.length), ∃ bb ob, B = some ⟨bb, ob, none⟩ ∧ W.cell? ⟨bb, ob + k, none⟩ = some (.int .i64 r[k])) := (show Hid _ from fun W hb k hk => by
                          obtain ⟨A2, c2, e2, _, _, _, ha2⟩ := hsi W hb
                          injection e2 with e21 e22 e23
                          obtain ⟨bb, ob, e3, hbb, hcell⟩ := ha2 (by omega)
                          exact ⟨bb, ob, by rw [e21]; exact e3, hcell k hk⟩)
                        clear hsi eL er ex
                        rw [← hrl] at ci
                        have hrl64 : r.length ≤ 64 := by omega
                        have hwr := hrl
                        go_wp2_with fail
                        obtain ⟨wo, ewo⟩ : ∃ wo : World, wo = wr := ⟨_, rfl⟩
                        rw [← ewo] at HBK HB ⊢
                        clear ewo ci hwr
                        go_loopw [73] (fun iv wr => Cm4 P L x r b w5 iv wr) (fun iv _ => r.length - (intOf iv).toNat)
                        case atStart => exact ⟨0, Nat.zero_le _, rfl, by rw [List.take_zero, addT_zero]; exact HBK.out, HB.out⟩
                        case round =>
                          obtain ⟨k, hk, rfl, hbk, hb6⟩ := hrel
                          have HBKk := Lib.hid hbk
                          have HBk := Lib.hid hb6
                          clear hbk hb6
                          by_cases hlk : k < r.length
                          · have dk : decide (k < r.length) = true := decide_eq_true hlk
                            obtain ⟨bb, ob, eB, ck⟩ := HSR.out _ HBk.out k hlk
                            subst eB
                            obtain ⟨bc, oc, eC, cx⟩ := HX.out _ HBk.out
                            subst eC
                            have f0 := HFW.out _ HBk.out
                            have hlen2 : (addT P L 0 x (r.take k)).length = wd := by rw [addT_len]; exact HLL.out
                            have htk := HBKk.out.cell (j := k) (by rw [hlen2]; omega)
                            have hfk := HBKk.out.frozen k
                            have hel := el_t (els_gd hPb.1 (addT_els hPb.1 HLE.out 0 x (r.take k)) k)
                            have hel2 := el_t (els_all HRE.out _ (List.getElem_mem hlk))
                            rw [← gd_lt] at htk
                            obtain ⟨t, ht⟩ : ∃ t, t = gd (addT P L 0 x (r.take k)) k := ⟨_, rfl⟩
                            rw [← ht] at htk hel
                            obtain ⟨y, hy⟩ : ∃ y, y = r[k] := ⟨_, rfl⟩
                            rw [← hy] at ck hel2
                            have HST : Hid (addT P L 0 x (r.take (k + 1)) = (addT P L 0 x (r.take k)).set k ((t + x * y) % P)) := by
                              have h := addT_step P L 0 x r k hlk (by have := HLL.out; omega)
                              rw [Nat.zero_add] at h
                              show _ = _
                              rw [ht, hy]; exact h
                            have hxy := mul_bd hxb hel2 hPb.2
                            have w1_ : IntKind.i64.wrap (x * y) = x * y := by exact IntWalk.i64_in _ (by omega)
                            have w2_ : IntKind.i64.wrap (t + x * y) = t + x * y := by exact IntWalk.i64_in _ (by omega)
                            have w3_ : (t + x * y).tmod P = (t + x * y) % P := Int.tmod_eq_emod_of_nonneg (by omega)
                            have w4_ : IntKind.i64.wrap ((t + x * y) % P) = (t + x * y) % P := by
                              have h1 := Int.emod_nonneg (t + x * y) (show P ≠ 0 by omega)
                              have h2 := Int.emod_lt_of_pos (t + x * y) (show 0 < P by omega)
                              exact IntWalk.i64_in _ (by omega)
                            have hP0 : ¬ P = 0 := by omega
                            have z1 : (0 : Int) ≤ (k : Int) := by omega
                            have z2 : (k : Int) < (wd : Int) := by omega
                            have z3 : (0 : Int) ≤ (i : Int) := by omega
                            have z4 : (i : Int) < (c.length : Int) := by omega
                            clear ht hy hlen2 hel hel2 hxy
                            go_upto_region 29 with fail
                            go_region
                            all_goals
                              go_wp2_with fail
                              go_roundw
                              case rel => exact ⟨k + 1, by omega, by go_num, by rw [HST.out]; exact HBKk.out.set _ _, by first | exact HBk.out.setCell (by have := HEB.out; show _ ≤ b; omega) _ | exact (Below.drewN (HBk.out.setCell (by have := HEB.out; show _ ≤ b; omega) _) _)⟩
                              case measure => simp [intOf]; omega
                          · have dk : decide (k < r.length) = false := decide_eq_false hlk
                            have hkk : k = r.length := by omega
                            have HFK : Hid (BK wr b (cmbT P c rows wd (i + 1))) := (show Hid _ from by
                              have h := HBKk.out
                              rw [hkk, List.take_length] at h
                              rw [HNX.out]; exact h)
                            clear hkk
                            go_wp2_with fail
                            go_roundw
                            case rel => exact ⟨i + 1, by omega, by go_num, HFK.out, HBk.out⟩
                            case measure => simp [intOf]; omega
                      · have di : decide (i < rows.length) = false := decide_eq_false hli
                        have HKF : Hid (BK wr b (cmb P c rows wd)) := (show Hid _ from by
                          have h := HBK.out
                          rw [show i = rows.length by omega] at h; exact h)
                        have HBF : Hid (Below w.heap.size w wr) := HBwr.out.trans (HB.out.mono HBwr.out.size)
                        go_wp2_with fail
                        go_ret2
                        refine ⟨_, by rw [HE.out]; rfl, HBF.out, fun h => absurd HE.out h, fun _ => ?_⟩
                        have hl : (cmb P c rows wd).length = wd := cmbT_len ..
                        have h := BK.own HKF.out (base := w.heap.size) (by have := HBwr.out.size; have := HEB.out; omega) (by rw [hl]; omega)
                        rw [hl] at h
                        rw [Int.toNat_natCast, hl]
                        exact h
        · have d3 : ((c.length : Int) != (rows.length : Int)) = true := by rw [bne_iff_ne]; omega
          have d3' : (c.length != rows.length) = true := by rw [bne_iff_ne]; exact hcl
          have HE : Hid (coE P c rows wd = 2) := (show Hid _ from by show _ = _; unfold coE; rw [HP.out, if_neg (by simp), if_neg (by omega), if_pos hcl])
          clear hcl
          go_wp2_with fail
          go_ret2
          exact ⟨_, by rw [HE.out]; rfl, HBw.out, fun _ => rfl, fun h => by rw [HE.out] at h; omega⟩
end Go.Proofs.YtoiabanpnkpbhaaGreatDoor

namespace Go.Proofs.YtoiabanpnkpbhaaGreatDoor
open Go.RowKit

def nA4 (x y : List Int) (k : Nat) : Prop := ∀ j (_ : j < k) (hx : j < x.length) (hy : j < y.length), x[j] = y[j]
theorem nA4_step {x y : List Int} {k : Nat} (h : nA4 x y k) (hx : k < x.length) (hy : k < y.length) (e : x[k] = y[k]) : nA4 x y (k + 1) := fun j h1 h2 h3 => by
  by_cases ej : j = k
  · subst ej; exact e
  · exact h j (by omega) h2 h3
theorem nA4_eq {x y : List Int} (hl : x.length = y.length) (h : nA4 x y x.length) : x = y := List.ext_getElem hl fun j h1 h2 => h j h1 h1 h2

set_option maxHeartbeats 1000000 in
theorem same4_any (x y : List Int) (vx vy : Value) (w : World) (hx : SI w vx x) (hy : SI w vy y) :
    Calls Tryz.prog 26 #[vx, vy] w fun e w' => e = .returned (.bool (decide (x = y))) ∧ Below w.heap.size w w' := by
  obtain ⟨A1, c1, rfl, hc1, hm1, hr1, ha1⟩ := hx
  obtain ⟨A2, c2, rfl, hc2, hm2, hr2, ha2⟩ := hy
  have HA1 := Lib.hid ha1
  have HA2 := Lib.hid ha2
  clear ha1 ha2 hr1 hr2
  by_cases h3 : x.length = y.length
  · have hd3 : ((x.length : Int) != (y.length : Int)) = false := by rw [bne_eq_false_iff_eq]; omega
    have H3 := Lib.hid h3
    clear h3
    go_enter Tryz.func26, Tryz.ntmps26
    go_wp2_with fail
    go_loopw [13] (fun i wr => ∃ k n : Nat, k ≤ x.length ∧ i = .int .i64 k ∧ nA4 x y k ∧ wr = w.drewN n) (fun i _ => x.length - (intOf i).toNat)
    case atStart => exact ⟨0, 0, Nat.zero_le _, rfl, fun j h => absurd h (by omega), rfl⟩
    case round =>
      obtain ⟨k, n, hk, rfl, hne, rfl⟩ := hrel
      have HN := Lib.hid hne
      clear hne
      by_cases hlt : k < x.length
      · have hlt2 : k < y.length := by have := H3.out; omega
        obtain ⟨bx, ox, rfl, hbx, hcx⟩ := HA1.out (by omega)
        obtain ⟨by_, oy, rfl, hby, hcy⟩ := HA2.out (by omega)
        have cx := hcx k hlt
        have cy := hcy k hlt2
        have z1 : (0 : Int) ≤ (k : Int) := by omega
        have z2 : (k : Int) < (x.length : Int) := by omega
        have z3 : (k : Int) < (y.length : Int) := by omega
        clear hcx hcy
        by_cases he : x[k] = y[k]
        · have hd4 : (x[k] != y[k]) = false := by simpa using he
          have HN2 : Hid (nA4 x y (k + 1)) := nA4_step HN.out hlt hlt2 he
          clear he
          go_wp2_with fail
          go_quiet (fail)
          go_wp2_with fail
          go_goals
          go_roundw
          case rel => exact ⟨k + 1, n + nq, by omega, by go_num, HN2.out, rfl⟩
          case measure => simp [intOf]; omega
        · have hd4 : (x[k] != y[k]) = true := by simpa using he
          have HF : Hid (decide (x = y) = false) := decide_eq_false (fun e => he (by subst e; rfl))
          clear he
          go_wp2_with fail
          go_quiet (fail)
          go_wp2_with fail
          go_ret
          exact ⟨ret_bool HF.out.symm, Below.drewN (Below.drewN (Below.refl _ w) _) _⟩
      · have HF : Hid (decide (x = y) = true) := by
          have hkx : k = x.length := by omega
          subst hkx
          exact decide_eq_true (nA4_eq H3.out HN.out)
        go_wp2_with fail
        go_ret
        exact ⟨ret_bool HF.out.symm, Below.drewN (Below.refl _ w) _⟩
  · have hd3 : ((x.length : Int) != (y.length : Int)) = true := by rw [bne_iff_ne]; omega
    have HF : Hid (decide (x = y) = false) := decide_eq_false (fun e => h3 (by rw [e]))
    clear h3
    go_enter Tryz.func26, Tryz.ntmps26
    go_wp2_with fail
    go_ret
    exact ⟨ret_bool HF.out.symm, Below.refl _ _⟩

def nA5 (x y : List (List Int)) (k : Nat) : Prop := ∀ j (_ : j < k) (hx : j < x.length) (hy : j < y.length), x[j] = y[j]
theorem nA5_step {x y : List (List Int)} {k : Nat} (h : nA5 x y k) (hx : k < x.length) (hy : k < y.length) (e : x[k] = y[k]) : nA5 x y (k + 1) := fun j h1 h2 h3 => by
  by_cases ej : j = k
  · subst ej; exact e
  · exact h j (by omega) h2 h3
theorem nA5_eq {x y : List (List Int)} (hl : x.length = y.length) (h : nA5 x y x.length) : x = y := List.ext_getElem hl fun j h1 h2 => h j h1 h1 h2
set_option maxRecDepth 100000 in
set_option maxHeartbeats 1000000 in
theorem sameRows_any (x y : List (List Int)) (vx vy : Value) (w : World) (hx : SL w vx x) (hy : SL w vy y) :
    Calls Tryz.prog 18 #[vx, vy] w fun e w' => e = .returned (.bool (decide (x = y))) ∧ Below w.heap.size w w' := by
  obtain ⟨A1, c1, rfl, hc1, hm1, ha1⟩ := hx
  obtain ⟨A2, c2, rfl, hc2, hm2, ha2⟩ := hy
  have HA1 := Lib.hid ha1
  have HA2 := Lib.hid ha2
  clear ha1 ha2
  by_cases h3 : x.length = y.length
  · have hd3 : ((x.length : Int) != (y.length : Int)) = false := by rw [bne_eq_false_iff_eq]; omega
    have H3 := Lib.hid h3
    clear h3
    go_enter Tryz.func18, Tryz.ntmps18
    go_wp2_with fail
    go_loopw [13] (fun i wr => ∃ k : Nat, k ≤ x.length ∧ i = .int .i64 k ∧ nA5 x y k ∧ Below w.heap.size w wr) (fun i _ => x.length - (intOf i).toNat)
    case atStart => exact ⟨0, Nat.zero_le _, rfl, fun j h => absurd h (by omega), Below.refl _ _⟩
    case round =>
      obtain ⟨k, hk, rfl, hne, hbr⟩ := hrel
      have HN := Lib.hid hne
      have HB := Lib.hid hbr
      clear hne hbr
      by_cases hlt : k < x.length
      · have hlt2 : k < y.length := by have := H3.out; omega
        obtain ⟨bx, ox, rfl, hbx, hcx⟩ := HA1.out (by omega)
        obtain ⟨by_, oy, rfl, hby, hcy⟩ := HA2.out (by omega)
        obtain ⟨Bx, dx, cx, sx⟩ := hcx k hlt
        obtain ⟨By, dy, cy, sy⟩ := hcy k hlt2
        have cx := (HB.out.cell (p := ⟨bx, ox + k, none⟩) hbx).trans cx
        have cy := (HB.out.cell (p := ⟨by_, oy + k, none⟩) hby).trans cy
        have HSX := Lib.hid (sx.below HB.out)
        have HSY := Lib.hid (sy.below HB.out)
        have hbx2 : bx < wr.heap.size := by have := HB.out.size; omega
        have hby2 : by_ < wr.heap.size := by have := HB.out.size; omega
        have z1 : (0 : Int) ≤ (k : Int) := by omega
        have z2 : (k : Int) < (x.length : Int) := by omega
        have z3 : (k : Int) < (y.length : Int) := by omega
        obtain ⟨xr, exr⟩ : ∃ xr, xr = x[k] := ⟨_, rfl⟩
        obtain ⟨yr, eyr⟩ : ∃ yr, yr = y[k] := ⟨_, rfl⟩
        rw [← exr] at cx HSX
        rw [← eyr] at cy HSY
        have HX := Lib.hid exr
        have HY := Lib.hid eyr
        clear hcx hcy sx sy exr eyr
        by_cases he : xr = yr
        · have hd4 : decide (xr = yr) = true := decide_eq_true he
          have HN2 : Hid (nA5 x y (k + 1)) := nA5_step HN.out hlt hlt2 (by rw [← HX.out, ← HY.out]; exact he)
          have HDD := Lib.hid hd4
          clear he hd4
          go_wp2_with fail
          go_region_held3 (fun w' => w'.cell? ⟨bx, ox + k, none⟩ = some (.slice Bx xr.length dx) ∧ w'.cell? ⟨by_, oy + k, none⟩ = some (.slice By yr.length dy)) (first | exact ⟨cx, cy⟩ | exact ⟨t0, t1⟩ | go_keep)
            (first | (go_at_call 26; refine (same4_any xr yr _ _ _ (by exact HSX.out) (by exact HSY.out)).mono ?_; rintro e w2 ⟨rfl, hb2⟩; rw [HDD.out]; have HB2 : Hid (Below wr.heap.size wr w2) := (show Hid _ from ⟨hb2.os, hb2.tape, hb2.output, hb2.size, hb2.block⟩); have t0 := (HB2.out.cell (p := ⟨bx, ox + k, none⟩) (by exact hbx2)).trans cx; have t1 := (HB2.out.cell (p := ⟨by_, oy + k, none⟩) (by exact hby2)).trans cy; clear hb2))
          all_goals
            go_wp2_with fail
            go_goals
            go_roundw
            case rel => exact ⟨k + 1, by omega, by go_num, HN2.out, by first | exact HB.out.trans (HB2.out.mono HB.out.size) | exact (HB.out.trans (HB2.out.mono HB.out.size)).drewN _⟩
            case measure => simp [intOf]; omega
        · have hd4 : decide (xr = yr) = false := decide_eq_false he
          have HF : Hid (decide (x = y) = false) := decide_eq_false (fun e => he (by rw [HX.out, HY.out]; subst e; rfl))
          have HDD := Lib.hid hd4
          clear he hd4
          go_wp2_with fail
          go_region_held3 (fun w' => w'.cell? ⟨bx, ox + k, none⟩ = some (.slice Bx xr.length dx) ∧ w'.cell? ⟨by_, oy + k, none⟩ = some (.slice By yr.length dy)) (first | exact ⟨cx, cy⟩ | exact ⟨t0, t1⟩ | go_keep)
            (first | (go_at_call 26; refine (same4_any xr yr _ _ _ (by exact HSX.out) (by exact HSY.out)).mono ?_; rintro e w2 ⟨rfl, hb2⟩; rw [HDD.out]; have HB2 : Hid (Below wr.heap.size wr w2) := (show Hid _ from ⟨hb2.os, hb2.tape, hb2.output, hb2.size, hb2.block⟩); have t0 := (HB2.out.cell (p := ⟨bx, ox + k, none⟩) (by exact hbx2)).trans cx; have t1 := (HB2.out.cell (p := ⟨by_, oy + k, none⟩) (by exact hby2)).trans cy; clear hb2))
          all_goals
            go_wp2_with fail
            go_ret
            first
              | exact ⟨ret_bool HF.out.symm, HB.out.trans (HB2.out.mono HB.out.size)⟩
              | exact ⟨ret_bool HF.out.symm, (HB.out.trans (HB2.out.mono HB.out.size)).drewN _⟩
      · have HF : Hid (decide (x = y) = true) := by
          have hkx : k = x.length := by omega
          subst hkx
          exact decide_eq_true (nA5_eq H3.out HN.out)
        go_wp2_with fail
        go_ret
        exact ⟨ret_bool HF.out.symm, HB.out⟩
  · have hd3 : ((x.length : Int) != (y.length : Int)) = true := by rw [bne_iff_ne]; omega
    have HF : Hid (decide (x = y) = false) := decide_eq_false (fun e => h3 (by rw [e]))
    clear h3
    go_enter Tryz.func18, Tryz.ntmps18
    go_wp2_with fail
    go_ret
    exact ⟨ret_bool HF.out.symm, Below.refl _ _⟩
end Go.Proofs.YtoiabanpnkpbhaaGreatDoor

namespace Go.Proofs.YtoiabanpnkpbhaaGreatDoor
open Go.RowKit

theorem lit1 (W : World) (x : Int) (hx : i64r x) : SI (W.alloc (.cells #[.int .i64 x] 3)) (.slice (some ⟨W.heap.size, 0, none⟩) 1 1) [x] := by
  have h := own_lit (base := 0) W 3 [.int .i64 x] (Nat.zero_le _) (by simp [maxLen])
  exact SI.of_own (l := [x]) (by simpa using h) (by simpa using hx)
theorem i64_s {x : Int} (h : -9 ≤ x ∧ x ≤ 9) : i64r x := by unfold i64r; omega
end Go.Proofs.YtoiabanpnkpbhaaGreatDoor

namespace Go.Proofs.YtoiabanpnkpbhaaGreatDoor
open Go.RowKit

/-- The value v is a slice of ints outside block g that reads as l. -/
def SE (g : Nat) (w : World) (v : Value) (l : List Int) : Prop :=
  ∃ A c, v = .slice A l.length c ∧ l.length ≤ c ∧ c ≤ 9223372036854775807 ∧ (∀ x ∈ l, i64r x) ∧
    (0 < l.length → ∃ b off, A = some ⟨b, off, none⟩ ∧ b < w.heap.size ∧ b ≠ g ∧ ∀ j (h : j < l.length), w.cell? ⟨b, off + j, none⟩ = some (.int .i64 l[j]))
theorem SE.grown {g : Nat} {w w' : World} {v : Value} {l : List Int} (h : SE g w v l) (hg : w.grownBy w' (some g)) : SE g w' v l := by
  obtain ⟨A, c, rfl, hc, hm, hr, ha⟩ := h
  refine ⟨A, c, rfl, hc, hm, hr, fun h0 => ?_⟩
  obtain ⟨b, off, rfl, hb, hbg, hcell⟩ := ha h0
  exact ⟨b, off, rfl, Nat.lt_of_lt_of_le hb hg.size, hbg, fun j hj => (World.cell?_of_block (hg.block b hb (by simpa using hbg))).trans (hcell j hj)⟩
theorem SE.below {g : Nat} {w w' : World} {v : Value} {l : List Int} (h : SE g w v l) (hb : Below w.heap.size w w') : SE g w' v l := h.grown (grownBy_of_below hb _)
theorem SE.si {g : Nat} {w : World} {v : Value} {l : List Int} (h : SE g w v l) : SI w v l := by
  obtain ⟨A, c, rfl, hc, hm, hr, ha⟩ := h
  refine ⟨A, c, rfl, hc, hm, hr, fun h0 => ?_⟩
  obtain ⟨b, off, rfl, hb, _, hcell⟩ := ha h0
  exact ⟨b, off, rfl, hb, hcell⟩
theorem SE.form {g : Nat} {w : World} {v : Value} {l : List Int} (h : SE g w v l) : ∃ A c, v = .slice A l.length c := by
  obtain ⟨A, c, rfl, _⟩ := h
  exact ⟨A, c, rfl⟩
theorem SE.of_own {g : Nat} {w : World} {base : Nat} {e : TypeId} {v : Value} {l : List Int} (h : w.ownsRow base e 1 v l.length (l.map (Value.int .i64))) (hr : ∀ x ∈ l, i64r x) (hg : g < base) : SE g w v l := by
  rcases h.2 with ⟨rfl, hn⟩ | ⟨b, cap, cur, rfl, hb, hgg, hnc, hcm, hcs, htake⟩
  · have : l = [] := List.eq_nil_of_length_eq_zero hn
    subst this
    exact ⟨none, 0, rfl, Nat.le_refl _, by omega, hr, fun h => by simp at h⟩
  · refine ⟨_, cap, rfl, hnc, by simpa [maxLen] using hcm, hr, fun h0 => ⟨b, 0, rfl, (Array.getElem?_eq_some_iff.1 hgg).1, by omega, fun j hj => ?_⟩⟩
    have := h.cellAt j (by omega)
    rw [Nat.zero_add, this]
    simp [hj]
/-- block O holds a tape under construction: its numbers, owned behind O -/
def TAc (O : Nat) (v : Value) (ns : List Int) (w : World) : Prop := w.heap[O]? = some (.cells #[v, .int .i64 0] 45 (0, 0)) ∧ w.ownsRow (O + 1) 3 1 v ns.length (ns.map (Value.int .i64))
theorem TAc.lt {O : Nat} {v : Value} {ns : List Int} {w : World} (h : TAc O v ns w) : O < w.heap.size := heap_of_cells h.1
theorem TAc.step {O g9 cap9 : Nat} {v : Value} {ns : List Int} {y : Int} {w0 w w9 : World} (h : TAc O v ns w) (hB : Below O w0 w)
    (hg : (w.alloc (.cells #[.int .i64 y] 3)).grownBy w9 v.ownBlock) (ho : w9.ownsRow (O + 1) 3 1 (.slice (some ⟨g9, 0, none⟩) (ns ++ [y]).length cap9) (ns ++ [y]).length ((ns ++ [y]).map (Value.int .i64))) :
    TAc O (.slice (some ⟨g9, 0, none⟩) (ns.length + 1) cap9) (ns ++ [y]) (w9.setCell ⟨O, 0, none⟩ (.slice (some ⟨g9, 0, none⟩) (ns.length + 1) cap9)) ∧ Below O w0 (w9.setCell ⟨O, 0, none⟩ (.slice (some ⟨g9, 0, none⟩) (ns.length + 1) cap9)) := by
  have hlt := h.lt
  have hv : ∀ q, v.ownBlock = some q → O + 1 ≤ q := fun q hq => (h.2.lt q hq).1
  have hO : w9.heap[O]? = some (.cells #[v, .int .i64 0] 45 (0, 0)) := (hg.block O (by simp; omega) (fun e => by have := hv O e.symm; omega)).trans ((Below.heap_alloc w _ O hlt).trans h.1)
  have hl : (ns ++ [y]).length = ns.length + 1 := by simp
  rw [hl] at ho
  refine ⟨⟨?_, ?_⟩, ?_⟩
  · have := heap_setCell_same w9 O 0 _ _ (.slice (some ⟨g9, 0, none⟩) (ns.length + 1) cap9) hO
    simpa using this
  · rw [hl]
    exact own_set3 ho (by show O < O + 1; omega) _
  · exact (((hB.alloc (Nat.le_of_lt hlt) _)).grown hg (by simp; omega) (fun k hk => by have := hv k hk; omega)).setCell (Nat.le_refl _) _
theorem TAc.frozen {O : Nat} {v : Value} {ns : List Int} {w w9 : World} {y : Int} (h : TAc O v ns w) (hg : (w.alloc (.cells #[.int .i64 y] 3)).grownBy w9 v.ownBlock) : w9.frozen? ⟨O, 0, none⟩ = false := by
  have hv : ∀ q, v.ownBlock = some q → O + 1 ≤ q := fun q hq => (h.2.lt q hq).1
  exact frozen_of_row w9 O 0 _ _ ((hg.block O (by have := h.lt; simp; omega) (fun e => by have := hv O e.symm; omega)).trans ((Below.heap_alloc w _ O h.lt).trans h.1))
theorem TAc.ne {O : Nat} {v : Value} {ns : List Int} {w : World} (h : TAc O v ns w) : some O ≠ v.ownBlock := fun e => by have := (h.2.lt O e.symm).1; omega
end Go.Proofs.YtoiabanpnkpbhaaGreatDoor
