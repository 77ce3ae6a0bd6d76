/- Joined: Rx Kf Kg Kr. -/
import Derived.Deep.RegionHeld3
import Derived.Test.YtoiabanpnkpbhaaGreatDoorY23
import Derived.Test.YtoiabanpnkpbhaaGreatDoorY14
import Derived.Test.YtoiabanpnkpbhaaGreatDoorY07
import Derived.Test.YtoiabanpnkpbhaaGreatDoorY09
namespace Go.Proofs.YtoiabanpnkpbhaaGreatDoor
open Go.RowKit

def El1 (g n : Nat) (P : Int) (w1 : World) (v iv : Value) (wr : World) : Prop :=
  ∃ (k : Nat) (ns : List Int), k ≤ n ∧ iv = .int .i64 k ∧ ns.length = k ∧ els P ns = true ∧ wr.ownsRow w1.heap.size 3 1 v ns.length (ns.map (Value.int .i64)) ∧ Dk wr g ∧ w1.grownBy wr (some g)
set_option maxRecDepth 100000 in
set_option maxHeartbeats 4000000 in
theorem elements_any (g n : Nat) (P : Int) (w : World) (hD : Dk w g) (hP : 1 ≤ P ∧ P ≤ 65521) (hn : n ≤ 100000) :
    Calls Tryz.prog 45 #[.pointer (some ⟨g, 0, none⟩), .agg #[.int .i64 P], .int .i64 n] w fun e w' => ∃ v ns, e = .returned v ∧ ns.length = n ∧ els P ns = true ∧ w'.ownsRow w.heap.size 3 1 v ns.length (ns.map (Value.int .i64)) ∧ Dk w' g ∧ w.grownBy w' (some g) := by
  go_enter Tryz.func45, Tryz.ntmps45
  obtain ⟨F, eF⟩ : ∃ F, F = w.heap.size := ⟨_, rfl⟩
  obtain ⟨w1, ew⟩ : ∃ w1 : World, w1 = w.alloc (.cells #[.int .i64 P] 31) := ⟨_, rfl⟩
  have HW1 : Hid (w.alloc (.cells #[.int .i64 P] 31) = w1) := ew.symm
  have HB1 : Hid (Below w.heap.size w w1) := (show Hid _ from by rw [ew]; exact (Below.refl _ w).alloc (Nat.le_refl _) _)
  have HF1 : Hid (w1.heap[F]? = some (.cells #[.int .i64 P] 31 (0, 0))) := (show Hid _ from by show _ = _; rw [ew, eF]; exact heap_alloc_new w _)
  have HD1 : Hid (Dk w1 g) := hD.below HB1.out
  have HGF : Hid (g < F) := (show Hid _ from by rw [eF]; exact hD.lt)
  have HEF := Lib.hid eF
  clear hD
  go_upto_region 2 with fail
  rw [HW1.out, ← eF]
  clear ew eF
  go_wp2_with fail
  go_loopw [7, 9] (fun v iv wr => El1 g n P w1 v iv wr) (fun _ iv _ => n - (intOf iv).toNat)
  case atStart => exact ⟨0, [], Nat.zero_le _, rfl, rfl, by simp [els], World.ownsRow_nil _ _ _ _, HD1.out, grownBy_refl _ _⟩
  case round =>
    obtain ⟨k, ns, hk, rfl, hkl, hel, hown, hd, hg⟩ := hrel
    obtain ⟨A, c, rfl⟩ := own_sl hown
    have HO := Lib.hid hown
    have HDr := Lib.hid hd
    have HG := Lib.hid hg
    have HEL := Lib.hid hel
    have HKL := Lib.hid hkl
    have hz := hg.size
    have hnl : ns.length ≤ 100000 := by omega
    have hg1 : g < w1.heap.size := HD1.out.lt
    clear hown hd hg hel hkl
    by_cases hlk : k < n
    · have dk : decide (k < n) = true := decide_eq_true hlk
      have f0 : wr.cell? ⟨F, 0, none⟩ = some (.int .i64 P) := cell_of_row wr F 0 _ _ _ ((HG.out.block F (heap_of_cells HF1.out) (by have := HGF.out; simp; omega)).trans HF1.out)
      go_wp2_with fail
      (with_reducible refine (next_any P g wr HDr.out (by unfold i64r; omega) (by omega)).mono ?_)
      rintro e w2 ⟨x, rfl, _, hx, hd2, hg2⟩
      obtain ⟨hx1, hx2⟩ := hx hP.1
      have HD2 := Lib.hid hd2
      have HG2 := Lib.hid hg2
      have HO2 : Hid (w2.ownsRow w1.heap.size 3 1 (.slice A ns.length c) ns.length (ns.map (Value.int .i64))) := (show Hid _ from own_blk HO.out fun b hb => hg2.block b (HO.out.lt b hb).2 (by have := (HO.out.lt b hb).1; simp; omega))
      have hz2 : w1.heap.size ≤ w2.heap.size := Nat.le_trans hz hg2.size
      clear hx hd2 hg2 f0
      go_wp2_with (at_builtin; refine wpList_append_int1 _ rfl _ _ 22 rfl w1.heap.size 3 Tryz.underlying22 iinfo _ ns rfl HO2.out x rfl (by omega) hz2 ?_; intro v3 w3 hown3 hg3; have HO3 := Lib.hid hown3; have HG3 := Lib.hid hg3; clear hown3 hg3)
      have HGA : Hid (w2.grownBy (w2.alloc (.cells #[.int .i64 x] 3)) (some g)) := (show Hid _ from grownBy_of_below ((Below.refl _ w2).alloc (Nat.le_refl _) _) _)
      have HG3' : Hid (w1.grownBy w3 (some g)) := (show Hid _ from grownBy_own (grownBy_trans (grownBy_trans HG.out HG2.out) HGA.out) HG3.out (fun q hq => (HO2.out.lt q hq).1))
      have HD3 : Hid (Dk w3 g) := (show Hid _ from (HD2.out.alloc _).grown HG3.out (fun q hq => by have := (HO2.out.lt q hq).1; omega))
      go_roundw
      case rel => exact ⟨k + 1, ns ++ [x], by omega, by go_num, by have := HKL.out; simp; omega, by
        refine els_of fun y hy => ?_
        rcases List.mem_append.1 hy with h | h
        · exact els_all HEL.out y h
        · simp at h; subst h; exact el_mk ⟨hx1, hx2⟩, HO3.out, HD3.out, HG3'.out⟩
      case measure => simp [intOf]; omega
    · have dk : decide (k < n) = false := decide_eq_false hlk
      go_wp2_with fail
      go_ret
      refine ⟨_, ns, rfl, by have := HKL.out; omega, HEL.out, ?_, HDr.out, grownBy_trans (grownBy_of_below HB1.out _) HG.out⟩
      exact own_lo HO.out (by have := HB1.out.size; omega)
def Ro1 (g n m : Nat) (P : Int) (w1 : World) (v iv : Value) (wr : World) : Prop :=
  ∃ (k : Nat) (pv : Value) (vs : List Value) (rows : List (List Int)), pv = v ∧ k ≤ n ∧ iv = .int .i64 k ∧ rows.length = k ∧ (∀ r ∈ rows, r.length = m ∧ els P r = true) ∧ RW w1.heap.size g wr pv vs rows ∧ Dk wr g ∧ w1.grownBy wr (some g)
set_option maxRecDepth 100000 in
set_option maxHeartbeats 4000000 in
theorem rows_any (g n m : Nat) (P : Int) (w : World) (hD : Dk w g) (hP : 1 ≤ P ∧ P ≤ 65521) (hn : n ≤ 1000) (hm : m ≤ 100000) :
    Calls Tryz.prog 15 #[.pointer (some ⟨g, 0, none⟩), .agg #[.int .i64 P], .int .i64 n, .int .i64 m] w fun e w' => ∃ v rows, e = .returned v ∧ rows.length = n ∧ (∀ r ∈ rows, r.length = m ∧ els P r = true) ∧ SLE g w' v rows ∧ Dk w' g ∧ w.grownBy w' (some g) := by
  go_enter Tryz.func15, Tryz.ntmps15
  obtain ⟨F, eF⟩ : ∃ F, F = w.heap.size := ⟨_, rfl⟩
  obtain ⟨w1, ew⟩ : ∃ w1 : World, w1 = w.alloc (.cells #[.int .i64 P] 31) := ⟨_, rfl⟩
  have HW1 : Hid (w.alloc (.cells #[.int .i64 P] 31) = w1) := ew.symm
  have HB1 : Hid (Below w.heap.size w w1) := (show Hid _ from by rw [ew]; exact (Below.refl _ w).alloc (Nat.le_refl _) _)
  have HF1 : Hid (w1.heap[F]? = some (.cells #[.int .i64 P] 31 (0, 0))) := (show Hid _ from by show _ = _; rw [ew, eF]; exact heap_alloc_new w _)
  have HD1 : Hid (Dk w1 g) := hD.below HB1.out
  have HGF : Hid (g < F) := (show Hid _ from by rw [eF]; exact hD.lt)
  have HG1 : Hid (g < w1.heap.size) := HD1.out.lt
  have HEF := Lib.hid eF
  clear hD
  go_upto_region 2 with fail
  rw [HW1.out, ← eF]
  clear ew eF
  go_wp2_with fail
  go_loopw [9, 11] (fun v iv wr => Ro1 g n m P w1 v iv wr) (fun _ iv _ => n - (intOf iv).toNat)
  case atStart => exact ⟨0, _, [], [], rfl, Nat.zero_le _, rfl, rfl, fun r hr => by simp at hr, RW.nil _ _ _, HD1.out, grownBy_refl _ _⟩
  case round =>
    obtain ⟨k, pv, vs, rows, rfl, hk, rfl, hkl, hel, hrw, hd, hg⟩ := hrel
    have HRW := Lib.hid hrw
    have HDr := Lib.hid hd
    have HG := Lib.hid hg
    have HEL := Lib.hid hel
    have HKL := Lib.hid hkl
    have hz := hg.size
    clear hrw hd hg hel hkl
    by_cases hlk : k < n
    · have dk : decide (k < n) = true := decide_eq_true hlk
      have f0 : wr.cell? ⟨F, 0, none⟩ = some (.int .i64 P) := cell_of_row wr F 0 _ _ _ ((HG.out.block F (heap_of_cells HF1.out) (by have := HGF.out; simp; omega)).trans HF1.out)
      go_wp2_with fail
      (with_reducible refine (elements_any g m P wr HDr.out hP hm).mono ?_)
      rintro e w2 ⟨vx, ns, rfl, hnl, hns, hown, hd2, hg2⟩
      obtain ⟨A1, c1, rfl⟩ := own_sl' hown
      have HOW := Lib.hid hown
      have HD2 := Lib.hid hd2
      have HG2 := Lib.hid hg2
      have HNL := Lib.hid hnl
      have HNS := Lib.hid hns
      have hz2 : w1.heap.size ≤ w2.heap.size := Nat.le_trans hz hg2.size
      have HRW2 : Hid (RW w1.heap.size g w2 pv vs rows) := (show Hid _ from HRW.out.grown HG1.out hg2)
      have HSX : Hid (SX (w2.alloc (.cells #[.slice A1 ns.length c1] 22)) pv.ownBlock (some g) (.slice A1 ns.length c1) ns) := (show Hid _ from SX.of_own (hown.alloc _) (els_r hP.2 hns) (fun q hq => (HRW.out.hdr.lt q hq).2) (fun q hq => by injection hq with e; have := HDr.out.lt; omega))
      have hvn : vs.length ≤ 1000 := by have := HRW.out.len; have := HKL.out; omega
      obtain ⟨n1, en1⟩ : ∃ n1, n1 = ns.length := ⟨_, rfl⟩
      rw [← en1] at HSX ⊢
      have HN1 := Lib.hid en1
      clear hnl hns hown hd2 hg2 f0 en1
      go_wp2_with (at_builtin; refine wpList_append_one_at _ rfl _ _ 33 rfl w1.heap.size 22 (.slice none 0 0) 24 Tryz.underlying33 ilinfo pv vs.length vs rfl (HRW2.out.hdr.alloc _) (.slice A1 n1 c1) rfl w2.heap.size rfl (cells_new w2 [.slice A1 n1 c1] 22 0 _ rfl) (by omega) (by omega) rfl (by simp; omega) ?_; intro g9 cap9 w9 hown9 hg9 hat9; have HO9 := Lib.hid hown9; have HG9 := Lib.hid hg9; have HA9 := Lib.hid hat9; clear hown9 hg9 hat9)
      have HGA : Hid (w2.grownBy (w2.alloc (.cells #[.slice A1 n1 c1] 22)) (some g)) := (show Hid _ from grownBy_of_below ((Below.refl _ w2).alloc (Nat.le_refl _) _) _)
      have HRW9 : Hid (RW w1.heap.size g w9 (.slice (some ⟨g9, 0, none⟩) (vs.length + 1) cap9) (vs ++ [.slice A1 n1 c1]) (rows ++ [ns])) := (show Hid _ from
        (HRW2.out.below HG1.out ((Below.refl _ w2).alloc (Nat.le_refl _) _)).app HSX.out HO9.out HG9.out (fun q hq => by
          have e : g9 = q := by simpa [Value.ownBlock] using hq
          subst e; exact HA9.out))
      have HG9' : Hid (w1.grownBy w9 (some g)) := (show Hid _ from grownBy_own (grownBy_trans (grownBy_trans HG.out HG2.out) HGA.out) HG9.out (fun q hq => (HRW2.out.hdr.lt q hq).1))
      have HD9 : Hid (Dk w9 g) := (show Hid _ from (HD2.out.alloc _).grown HG9.out (fun q hq => by have := (HRW2.out.hdr.lt q hq).1; have := HG1.out; omega))
      go_roundw
      case rel => exact ⟨k + 1, _, _, rows ++ [ns], rfl, by omega, by go_num, by have := HKL.out; simp; omega, fun r hr => by
        rcases List.mem_append.1 hr with h | h
        · exact HEL.out r h
        · simp at h; subst h; exact ⟨HNL.out, HNS.out⟩, HRW9.out, HD9.out, HG9'.out⟩
      case measure => simp [intOf]; omega
    · have dk : decide (k < n) = false := decide_eq_false hlk
      go_wp2_with fail
      go_ret
      exact ⟨_, rows, rfl, by have := HKL.out; omega, HEL.out, HRW.out.sle HG1.out, HDr.out, grownBy_trans (grownBy_of_below HB1.out _) HG.out⟩
set_option maxRecDepth 100000 in
set_option maxHeartbeats 4000000 in
theorem answer16_any (P : Int) (c : List Int) (rows : List (List Int)) (width : Int) (vc vr : Value) (w : World) (hP : i64r P) (hc : SI w vc c) (hr : SL w vr rows) :
    Calls Tryz.prog 44 #[.agg #[.int .i64 P], .int .i64 width, vr, vc] w (CmP P c rows width w) := by
  go_enter Tryz.func44, Tryz.ntmps44
  obtain ⟨F, eF⟩ : ∃ F, F = w.heap.size := ⟨_, rfl⟩
  obtain ⟨w1, ew⟩ : ∃ w1 : World, w1 = w.alloc (.cells #[.int .i64 P] 31) := ⟨_, rfl⟩
  have HW1 : Hid (w.alloc (.cells #[.int .i64 P] 31) = w1) := ew.symm
  have HB1 : Hid (Below w.heap.size w w1) := (show Hid _ from by rw [ew]; exact (Below.refl _ w).alloc (Nat.le_refl _) _)
  have HF1 : Hid (w1.heap[F]? = some (.cells #[.int .i64 P] 31 (0, 0))) := (show Hid _ from by show _ = _; rw [ew, eF]; exact heap_alloc_new w _)
  have HC := Lib.hid (hc.below HB1.out)
  have HR := Lib.hid (hr.below HB1.out)
  clear hc hr
  go_upto_region 1 with fail
  rw [HW1.out, ← eF]
  clear ew eF
  have f0 : w1.cell? ⟨F, 0, none⟩ = some (.int .i64 P) := cell_of_row w1 F 0 _ _ _ HF1.out
  go_wp2_with fail
  (with_reducible refine (combine_any P c rows width _ _ w1 hP HC.out HR.out).mono ?_)
  rintro e w2 ⟨v, rfl, hb2, he, hok⟩
  have HB2 := Lib.hid hb2
  have HEN := Lib.hid he
  have HOK := Lib.hid hok
  clear hb2 he hok
  go_wp2_with fail
  go_ret2
  exact ⟨v, rfl, HB1.out.trans (HB2.out.mono HB1.out.size), HEN.out, fun h => own_lo (HOK.out h) HB1.out.size⟩
end Go.Proofs.YtoiabanpnkpbhaaGreatDoor

namespace Go.Proofs.YtoiabanpnkpbhaaGreatDoor
open Go.RowKit Go.Shelf

theorem wp_inRound {P : Program} (l n : Nat) {o : Oper} {a : Act} {w : World} {K : Act → World → Prop} {Q : Exit → Act → World → Prop} (hd : ∀ c, o.op ≠ .defer c) (h : Oper.wp P o a w K Q) : Oper.wpIn (Fence.wide.inRound l) n P o a w K Q := by
  refine ⟨fun f _ => trivial, ?_⟩
  show Oper.uponIn _ _ _ _ _ _ _ ((Oper.semAt (some l) a.eval o).run P w)
  rw [Oper.semAt_some l _ _ hd]
  unfold Oper.wp at h
  generalize (execOp a.eval o).run P w = r at h ⊢
  cases r with
  | ok x w' =>
    cases x with
    | value v => exact h
    | skip => exact h
    | defer d => exact h
    | enter f args => exact ⟨(fun h' => by cases h'), CallsIn.inRound l (callsIn_wide.2 h)⟩
    | row row args => exact ⟨(fun h' => by cases h'), fun c cs _ => let ⟨v, w', r, s⟩ := h c cs; ⟨v, w', r, stepsIn_wide.2 s⟩⟩
    | round => exact h.elim
    | _ => exact h.elim
  | halt x w' =>
    cases x <;> first | exact h | exact h.elim
def noDefer (ops : Array Oper) : Bool := ops.all fun o => match o.op with | .defer _ => false | _ => true
theorem noDefer_spec {ops : Array Oper} (h : noDefer ops = true) {i : Nat} {o : Oper} (ho : ops[i]? = some o) : ∀ c, o.op ≠ .defer c := fun c e => by
  unfold noDefer at h
  rw [Array.all_eq_true'] at h
  have := h o (Array.mem_of_getElem? ho)
  rw [e] at this
  cases this
theorem wpAnyIn_of_any {P : Program} {md : Region.Mode} {ops : Array Oper} {Q : Exit → Act → World → Prop} (l n : Nat) (hQ : ¬ LetsOut Q) (hd : noDefer ops = true) : ∀ (fuel : Nat) (listed : Array Bool) (a : Act) (w : World), wpAny P md ops Q fuel listed a w → wpAnyIn (Fence.wide.inRound l) n P md ops Q fuel listed a w
  | 0, _, _, _, h => h
  | fuel + 1, listed, a, w, h => ⟨h.1, fun i hi => by
    have h2 := h.2 i hi
    unfold wpOp at h2
    unfold wpOpIn
    cases ho : ops[i]? with
    | none =>
      simp only [ho] at h2 ⊢
      exact wpAnyIn_of_any l n hQ hd fuel _ _ _ h2
    | some o =>
      simp only [ho] at h2 ⊢
      split
      · rename_i hw
        rw [if_pos hw] at h2
        rcases h2 with h2 | ⟨_, h2⟩
        · exact wp_inRound l n (noDefer_spec hd ho) (Oper.wp_mono (fun a w h => wpAnyIn_of_any l n hQ hd fuel _ a w h) h2)
        · exact absurd h2 hQ
      · rename_i hw
        rw [if_neg hw] at h2
        exact ⟨fun f _ => trivial, wpAnyIn_of_any l n hQ hd fuel _ _ _ h2⟩⟩
/-- Q at the normal end, nothing else -/
def OnlyN (Q : Exit → Act → World → Prop) : Exit → Act → World → Prop
  | .normal, a, w => Q .normal a w
  | _, _, _ => False
theorem OnlyN.normal {Q : Exit → Act → World → Prop} {a : Act} {w : World} (h : Q .normal a w) : OnlyN Q .normal a w := h
theorem OnlyN.imp {Q : Exit → Act → World → Prop} : ∀ (e : Exit) (a : Act) (w : World), OnlyN Q e a w → Q e a w := fun e a w h => by
  cases e <;> first | exact h | exact (h : False).elim
theorem not_letsOut {Q : Exit → Act → World → Prop} : ¬ LetsOut (OnlyN Q) := fun ⟨_, _, h⟩ => h
theorem wpIn_region_held {P : Program} {ops : Array Oper} {Q : Exit → Act → World → Prop} {S : World → Prop} (l n : Nat) {id : Nat} {a : Act} {w : World} (hm : P.follows .mixedOrders = true) (hd : noDefer ops = true) (hS : S w.drew)
    (h : S w.drew → wpAnyH P .any ops (OnlyN Q) S ops.size (Array.replicate ops.size false) a w.drew) : (Code.region id ops true).wpIn (Fence.wide.inRound l) n P Q a w :=
  Code.wpIn_mono OnlyN.imp (wpIn_region_any hm (wpAnyIn_of_any l n not_letsOut hd _ _ _ _ (wpAny_of_held _ _ _ _ (h hS))))
end Go.Proofs.YtoiabanpnkpbhaaGreatDoor

namespace Go.Proofs.YtoiabanpnkpbhaaGreatDoor
open Go.RowKit Go.Shelf
attribute [local go_sem] Oper.semAt_some

/-- a statement of a function by its number, inside a range over an iterator too -/
def regionOf2 (n : Nat) : Code → Option Code
  | .region k ops d => if k = n then some (.region k ops d) else none
  | .seq a b => (regionOf2 n a).or (regionOf2 n b)
  | .block _ c => regionOf2 n c
  | .loop c => regionOf2 n c
  | .scope c => regionOf2 n c
  | .cond _ a b => (regionOf2 n a).or (regionOf2 n b)
  | .rangeFunc _ _ a b => (regionOf2 n a).or (regionOf2 n b)
  | _ => none
noncomputable def regHC : Code := ((Tryz.f17.body.bind (regionOf2 24)).getD .skip)
set_option maxRecDepth 1000000 in
set_option maxHeartbeats 4000000 in
theorem regH (lr R F3 H i j wd : Nat) (P pw_ : Int) (L L2 r : List Int) (vr : Value) (w : World) (r0 : w.cell? ⟨R, 0, none⟩ = some (.int .i64 P)) (j0 : w.cell? ⟨F3, 0, none⟩ = some (.int .i64 (j : Int))) (hz1 : R < w.heap.size) (hz2 : F3 < w.heap.size) (hz3 : some R ≠ some H) (hz4 : some F3 ≠ some H) (hB : BK w H L) (hS : SI w vr r) (hPW : ∀ W, Calls Tryz.prog 50 #[.int .i64 P, .int .i64 (j : Int), .int .i64 (i : Int)] W fun e w' => e = .returned (.int .i64 pw_) ∧ W = w') (hAT : ∀ W, BK W H L → SI W vr r → Calls Tryz.prog 49 #[.int .i64 P, .slice (some ⟨H, 0, none⟩) wd wd, .int .i64 pw_, vr] W fun e w' => (∃ v, e = .returned v) ∧ BK w' H L2 ∧ W.grownBy w' (some H))
    (s0 s1 s2 s3 s4 s5 s6 s7 s8 s10 s11 s12 s14 s15 s16 s17 s18 s22 s23 s24 s25 s26 s27 s28 s29 s30 s31 s32 s33 s34 s35 s36 s37 s38 s39 s40 s41 s42 s43 s44 s45 s46 s47 s48 s49 s50 s51 s52 s53 s54 s55 s56 s57 s58 s59 s60 s61 s62 s63 s64 s65 s66 s67 s68 s69 s70 s71 s72 s73 s74 s75 s76 s77 s78 s79 s80 s81 s82 s83 s84 s85 s86 s87 s88 s89 : Value) (Q : Exit → Act → World → Prop)
    (hK : ∀ (u76 u77 u78 u79 u80 u81 u82 u83 : Value) (w' : World), BK w' H L2 ∧ w.grownBy w' (some H) → Q .normal ⟨List.toArray (s0 :: s1 :: s2 :: s3 :: s4 :: s5 :: s6 :: s7 :: s8 :: (Value.pointer (some ⟨F3, 0, none⟩)) :: s10 :: s11 :: s12 :: (Value.pointer (some ⟨R, 0, none⟩)) :: s14 :: s15 :: s16 :: s17 :: s18 :: (Value.slice (some ⟨H, 0, none⟩) wd wd) :: (Value.int .i64 (i : Int)) :: (vr) :: s22 :: s23 :: s24 :: s25 :: s26 :: s27 :: s28 :: s29 :: s30 :: s31 :: s32 :: s33 :: s34 :: s35 :: s36 :: s37 :: s38 :: s39 :: s40 :: s41 :: s42 :: s43 :: s44 :: s45 :: s46 :: s47 :: s48 :: s49 :: s50 :: s51 :: s52 :: s53 :: s54 :: s55 :: s56 :: s57 :: s58 :: s59 :: s60 :: s61 :: s62 :: s63 :: s64 :: s65 :: s66 :: s67 :: s68 :: s69 :: s70 :: s71 :: s72 :: s73 :: s74 :: s75 :: u76 :: u77 :: u78 :: u79 :: u80 :: u81 :: u82 :: u83 :: s84 :: s85 :: s86 :: s87 :: s88 :: s89 :: []), []⟩ w') :
    Code.wpIn (Fence.wide.inRound lr) 6 Tryz.prog regHC Q ⟨List.toArray (s0 :: s1 :: s2 :: s3 :: s4 :: s5 :: s6 :: s7 :: s8 :: (Value.pointer (some ⟨F3, 0, none⟩)) :: s10 :: s11 :: s12 :: (Value.pointer (some ⟨R, 0, none⟩)) :: s14 :: s15 :: s16 :: s17 :: s18 :: (Value.slice (some ⟨H, 0, none⟩) wd wd) :: (Value.int .i64 (i : Int)) :: (vr) :: s22 :: s23 :: s24 :: s25 :: s26 :: s27 :: s28 :: s29 :: s30 :: s31 :: s32 :: s33 :: s34 :: s35 :: s36 :: s37 :: s38 :: s39 :: s40 :: s41 :: s42 :: s43 :: s44 :: s45 :: s46 :: s47 :: s48 :: s49 :: s50 :: s51 :: s52 :: s53 :: s54 :: s55 :: s56 :: s57 :: s58 :: s59 :: s60 :: s61 :: s62 :: s63 :: s64 :: s65 :: s66 :: s67 :: s68 :: s69 :: s70 :: s71 :: s72 :: s73 :: s74 :: s75 :: s76 :: s77 :: s78 :: s79 :: s80 :: s81 :: s82 :: s83 :: s84 :: s85 :: s86 :: s87 :: s88 :: s89 :: []), []⟩ w := by
  have HK := Lib.hid hK
  have HBK := Lib.hid hB
  have HS := Lib.hid hS
  have HPW := Lib.hid hPW
  have HAT := Lib.hid hAT
  clear hK hB hS hPW hAT
  conv => arg 4; whnf
  refine wpIn_region_held (S := fun w' => w'.cell? ⟨R, 0, none⟩ = some (.int .i64 P) ∧ w'.cell? ⟨F3, 0, none⟩ = some (.int .i64 (j : Int))) lr 6 (by kernel_rfl) (by kernel_rfl) ?_ (fun hHeld => ?_)
  · exact ⟨r0, j0⟩
  refine wpAnyH_take (i := 0) (v := ?_) rfl (by kernel_rfl) (by kernel_rfl) (by kernel_rfl) (fun _ _ _ h => h) (Or.inl ⟨by rfl, ?_⟩) (by assumption) ?_
  rotate_left 1
  · intro w' hSw
    try dsimp only at hSw
    go_simp <;> with_reducible rfl
  try simp only [Act.put, List.setIfInBounds_toArray]
  refine wpAnyH_take (i := 1) (v := ?_) rfl (by kernel_rfl) (by kernel_rfl) (by kernel_rfl) (fun _ _ _ h => h) (Or.inl ⟨by rfl, ?_⟩) (by assumption) ?_
  rotate_left 1
  · intro w' hSw
    try dsimp only at hSw
    go_simp <;> with_reducible rfl
  try simp only [Act.put]
  refine wpAnyH_take (i := 2) (v := ?_) rfl (by kernel_rfl) (by kernel_rfl) (by kernel_rfl) (fun _ _ _ h => h) (Or.inl ⟨by rfl, ?_⟩) (by assumption) ?_
  rotate_left 1
  · intro w' hSw
    try dsimp only at hSw
    go_simp <;> with_reducible rfl
  try simp only [Act.put]
  refine wpAnyH_take (i := 3) (v := ?_) rfl (by kernel_rfl) (by kernel_rfl) (by kernel_rfl) (fun _ _ _ h => h) (Or.inl ⟨by rfl, ?_⟩) (by assumption) ?_
  rotate_left 1
  · intro w' hSw
    try dsimp only at hSw
    go_simp <;> with_reducible rfl
  try simp only [Act.put]
  refine wpAnyH_take (i := 4) (v := ?_) rfl (by kernel_rfl) (by kernel_rfl) (by kernel_rfl) (fun _ _ _ h => h) (Or.inl ⟨by rfl, ?_⟩) (by assumption) ?_
  rotate_left 1
  · intro w' hSw
    try dsimp only at hSw
    go_simp <;> with_reducible rfl
  try simp only [Act.put]
  refine wpAnyH_take (i := 6) (v := ?_) rfl (by kernel_rfl) (by kernel_rfl) (by kernel_rfl) (fun _ _ _ h => h) (Or.inl ⟨by rfl, ?_⟩) (by assumption) ?_
  rotate_left 1
  · intro w' hSw
    try dsimp only at hSw
    go_simp <;> with_reducible rfl
  try simp only [Act.put]
  refine wpAnyH_ready (rs := [5]) (by kernel_rfl) (by simp) ?_
  refine AllReadyH.cons (o := _) rfl (fun K hK => ?_) ?_
  · go_simp
    go_at_call 50; refine (HPW.out _).mono ?_; rintro e w' ⟨rfl, rfl⟩
    refine hK.out _ _ ?_ (fun hHeld => ?_)
    · exact ⟨r0, j0⟩
    clear hK K
    try simp only [Act.put]
    refine wpAnyH_ready (rs := [7]) (by kernel_rfl) (by simp) ?_
    refine AllReadyH.cons (o := _) rfl (fun K hK => ?_) ?_
    · go_simp
      go_at_call 49; refine (HAT.out _ (by exact HBK.out) (by exact HS.out)).mono ?_; rintro e w9 ⟨⟨v9, rfl⟩, hk9, hg9⟩; have HK9 : Hid (BK w9 H L2) := hk9; have HG9 : Hid (w.grownBy w9 (some H)) := (show Hid _ from ⟨hg9.os, hg9.tape, hg9.output, hg9.size, hg9.block⟩); have r9 : w9.cell? ⟨R, 0, none⟩ = some (.int .i64 P) := (HG9.out.cell_far ⟨R, 0, none⟩ hz1 hz3).trans r0; have j9 : w9.cell? ⟨F3, 0, none⟩ = some (.int .i64 (j : Int)) := (HG9.out.cell_far ⟨F3, 0, none⟩ hz2 hz4).trans j0; clear hk9 hg9
      refine hK.out _ _ ?_ (fun hHeld => ?_)
      · exact ⟨r9, j9⟩
      clear hK K
      try simp only [Act.put]
      refine wpAnyH_done (by kernel_rfl) ?_ _
      refine OnlyN.normal ?_
      exact HK.out _ _ _ _ _ _ _ _ w9 ⟨HK9.out, HG9.out⟩
    exact AllReadyH.nil
  exact AllReadyH.nil

end Go.Proofs.YtoiabanpnkpbhaaGreatDoor

namespace Go.Proofs.YtoiabanpnkpbhaaGreatDoor
open Go.RowKit

/-- rows that grow: own headers, each row owned apart from them -/
structure RO (C : Nat) (W : World) (v : Value) (vs : List Value) (ps : List (List Int)) : Prop where
  hdr : W.ownsRow C 22 1 v vs.length vs
  len : vs.length = ps.length
  row : ∀ j (h : j < vs.length) (h' : j < ps.length), W.ownsRow C 3 1 vs[j] ps[j].length (ps[j].map (Value.int .i64))
  apl : ∀ j (h : j < vs.length) b, vs[j].ownBlock = some b → v.ownBlock ≠ some b
theorem RO.keptR {C : Nat} {W W' : World} {v : Value} {vs : List Value} {ps : List (List Int)} {row : Option Nat} (h : RO C W v vs ps) (hg : W.grownBy W' row) (hr : ∀ r, row = some r → ∃ o : Obj, W.heap[r]? = some o ∧ o.isCells = false) : RO C W' v vs ps :=
  ⟨own_keptR h.hdr hg hr, h.len, fun j h1 h2 => own_keptR (h.row j h1 h2) hg hr, h.apl⟩
theorem RO.nil (C : Nat) (W : World) : RO C W (.slice none 0 0) [] [] := ⟨World.ownsRow_nil _ _ _ _, rfl, fun j h => by simp at h, fun j h => by simp at h⟩
theorem RO.keep {C : Nat} {W W' : World} {v : Value} {vs : List Value} {ps : List (List Int)} (h : RO C W v vs ps) (hk : ∀ b, C ≤ b → b < W.heap.size → W'.heap[b]? = W.heap[b]?) : RO C W' v vs ps :=
  ⟨own_blk h.hdr fun b hb => hk b (h.hdr.lt b hb).1 (h.hdr.lt b hb).2, h.len, fun j h1 h2 => own_blk (h.row j h1 h2) fun b hb => hk b ((h.row j h1 h2).lt b hb).1 ((h.row j h1 h2).lt b hb).2, h.apl⟩
theorem RO.below {C : Nat} {W W' : World} {v : Value} {vs : List Value} {ps : List (List Int)} (h : RO C W v vs ps) (hb : Below W.heap.size W W') : RO C W' v vs ps := h.keep fun b _ h2 => hb.block b h2
/-- one row more, its header appended -/
theorem RO.app {C g9 n cap : Nat} {W W' : World} {v u : Value} {vs : List Value} {ps : List (List Int)} {l : List Int} {o : Obj} (h : RO C W v vs ps) (hu : W.ownsRow C 3 1 u l.length (l.map (Value.int .i64))) (hun : ∀ b, u.ownBlock = some b → v.ownBlock ≠ some b)
    (ho : W'.ownsRow C 22 1 (.slice (some ⟨g9, 0, none⟩) n cap) (vs.length + 1) (vs ++ [u])) (hg : (W.alloc o).grownBy W' v.ownBlock) (hat : v.ownBlock = some g9 ∨ (W.alloc o).heap.size ≤ g9) : RO C W' (.slice (some ⟨g9, 0, none⟩) n cap) (vs ++ [u]) (ps ++ [l]) := by
  have hA : (W.alloc o).heap.size = W.heap.size + 1 := by simp
  have hk : ∀ b, b < W.heap.size → v.ownBlock ≠ some b → W'.heap[b]? = W.heap[b]? ∧ g9 ≠ b := fun b hb hn =>
    ⟨(hg.block b (by omega) fun e => hn e.symm).trans (Below.heap_alloc _ _ _ hb), fun e => by rcases hat with h | h; exact hn (by rw [h, e]); omega⟩
  refine ⟨by simpa using ho, by simp [h.len], fun j h1 h2 => ?_, fun j h1 b hb e => ?_⟩
  · by_cases hj : j < vs.length
    · have hj' : j < ps.length := by rw [← h.len]; exact hj
      simp only [List.getElem_append_left hj, List.getElem_append_left hj']
      exact own_blk (h.row j hj hj') fun b hb => (hk b ((h.row j hj hj').lt b hb).2 (h.apl j hj b hb)).1
    · have e1 : j = vs.length := by simp at h1; omega
      subst e1
      have e2 : (vs ++ [u])[vs.length]'h1 = u := by simp
      have e3 : (ps ++ [l])[vs.length]'h2 = l := by simp [h.len]
      rw [e2, e3]
      exact own_blk hu fun b hb => (hk b (hu.lt b hb).2 (hun b hb)).1
  · have e' : g9 = b := by simpa [Value.ownBlock] using e
    by_cases hj : j < vs.length
    · have hj' : j < ps.length := by rw [← h.len]; exact hj
      rw [List.getElem_append_left hj] at hb
      exact (hk b ((h.row j hj hj').lt b hb).2 (h.apl j hj b hb)).2 e'
    · have e1 : j = vs.length := by simp at h1; omega
      subst e1
      have e2 : (vs ++ [u])[vs.length]'h1 = u := by simp
      rw [e2] at hb
      exact (hk b (hu.lt b hb).2 (hun b hb)).2 e'
theorem RO.sle {C g : Nat} {W : World} {v : Value} {vs : List Value} {ps : List (List Int)} (h : RO C W v vs ps) (hg : g < C) (hr : ∀ p ∈ ps, ∀ x ∈ p, i64r x) : SLE g W v ps := by
  have hl := h.len
  rcases h.hdr.2 with ⟨e, hn⟩ | ⟨b, cap, cur, e, hb, hgg, hnc, hcm, hcs, htake⟩
  · have : ps = [] := List.eq_nil_of_length_eq_zero (by omega)
    subst this
    rw [e]
    exact ⟨none, 0, rfl, Nat.le_refl _, by omega, fun h => by simp at h⟩
  · have ho := h.hdr
    rw [e] at ho ⊢
    rw [hl]
    refine ⟨some ⟨b, 0, none⟩, cap, rfl, by omega, by simpa [maxLen] using hcm, fun h0 => ⟨b, 0, rfl, (Array.getElem?_eq_some_iff.1 hgg).1, by omega, fun j hj => ?_⟩⟩
    have hjv : j < vs.length := by omega
    have h1 := ho.cellAt j (by omega)
    have h3 : SE g W vs[j] ps[j] := SE.of_own (h.row j hjv hj) (fun x hx => hr _ (List.getElem_mem hj) x hx) hg
    obtain ⟨B', d, e5⟩ := h3.form
    rw [Nat.zero_add]
    rw [List.getElem?_eq_getElem hjv, e5] at h1
    rw [e5] at h3
    exact ⟨B', d, h1, h3⟩
end Go.Proofs.YtoiabanpnkpbhaaGreatDoor
