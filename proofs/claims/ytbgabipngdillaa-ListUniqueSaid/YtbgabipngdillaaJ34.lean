/- Joined: Lm. -/
import Derived.Test.YtbgabipngdillaaJ21
import Derived.Test.YtbgabipngdillaaJ22
import Derived.Test.YtbgabipngdillaaJ06
namespace Go.Proofs.Ytbgabipngdillaa
open Go.RowKit Go.Shelf

def pvE (P x : Int) (l : List Int) : Int := opE P [l, [x]]
def pvV (P x : Int) (l : List Int) : Int := if pvE P x l = 0 then val P l x else 0
set_option maxRecDepth 100000 in
set_option maxHeartbeats 4000000 in
theorem pvalue_any (P x : Int) (l : List Int) (v : Value) (w : World) (hP : i64r P) (hx : i64r x) (h : SI w v l) (hl : l.length ≤ 1000000) :
    Calls Try.prog 45 #[.agg #[.int .i64 P], v, .int .i64 x] w fun e w' => e = .returned (.tuple #[.int .i64 (pvV P x l), .int .i64 (pvE P x l)]) ∧ Below w.heap.size w w' := by
  obtain ⟨A, c, rfl⟩ := h.form
  have HS := Lib.hid h
  clear h
  go_enter Try.func45, Try.ntmps45
  obtain ⟨F, eF⟩ : ∃ F, F = w.heap.size := ⟨_, rfl⟩
  obtain ⟨w1, ew1⟩ : ∃ w1 : World, w1 = w.alloc (.cells #[.int .i64 P] 26) := ⟨_, rfl⟩
  have HWw1 : Hid (w.alloc (.cells #[.int .i64 P] 26) = w1) := ew1.symm
  have HAw1 : Hid (Below w.heap.size w w1) := (show Hid _ from by rw [ew1]; exact (Below.refl _ w).alloc (Nat.le_refl _) _)
  have HF0w1 : Hid (w1.heap[F]? = some (.cells #[.int .i64 P] 26 (0, 0))) := (show Hid _ from by show _ = _; rw [ew1, eF]; exact heap_alloc_new w _)
  have HXC : Hid (∀ W, Below w1.heap.size w1 W → W.cell? ⟨F, 0, none⟩ = some (.int .i64 P)) := (show Hid _ from fun W hg => by
    have hF0 := (hg.block F (heap_of_cells HF0w1.out)).trans HF0w1.out
    exact (cell_of_row W F 0 _ _ _ hF0))
  have hz1 : w.heap.size ≤ w1.heap.size := HAw1.out.size
  have HLI : Hid (SI (w1.alloc (.cells #[.int .i64 x] 3)) (.slice (some ⟨w1.heap.size, 0, none⟩) 1 1) [x]) := (show Hid _ from by
    refine ⟨some ⟨w1.heap.size, 0, none⟩, 1, rfl, Nat.le_refl _, by omega, fun y hy => by simp at hy; subst hy; exact hx, fun _ => ⟨w1.heap.size, 0, rfl, by simp, fun j hj => ?_⟩⟩
    have hj0 : j = 0 := by simp at hj; omega
    subst hj0
    exact cell_of_row _ _ 0 _ _ (0, 0) (heap_alloc_new w1 _))
  have HB1 : Hid (Below w.heap.size w (w1.alloc (.cells #[.int .i64 x] 3))) := (show Hid _ from HAw1.out.alloc hz1 _)
  have HS1 : Hid (SI (w1.alloc (.cells #[.int .i64 x] 3)) (.slice A l.length c) l) := (show Hid _ from HS.out.below HB1.out)
  have hSL := SL.two (m := [x]) (d := 1) HS1.out HLI.out 22
  rw [World.size_alloc, show ([x] : List Int).length = 1 from rfl] at hSL
  have HSL := Lib.hid hSL
  have HB2 := Lib.hid (HB1.out.alloc HB1.out.size (.cells #[.slice A l.length c, .slice (some ⟨w1.heap.size, 0, none⟩) 1 1] 22))
  clear hSL
  go_upto_region 1 with fail
  rw [HWw1.out, ← eF]
  clear ew1 eF
  have x0 := HXC.out w1 (Below.refl _ _)
  go_wp2_with fail
  (with_reducible refine (open_any P [l, [x]] _ _ hP HSL.out).mono ?_)
  rintro e w3 ⟨rfl, hb3⟩
  have HB3 : Hid (Below w.heap.size w w3) := (show Hid _ from HB2.out.trans (hb3.mono HB2.out.size))
  clear hb3 x0
  by_cases he : opE P [l, [x]] = 0
  · have hez : (opE P [l, [x]] != 0) = false := by rw [bne_eq_false_iff_eq]; exact he
    have hV : opV P [l, [x]] = P := if_pos he
    have hE := opE_two he
    have hxx : 0 ≤ x ∧ x < P := by have := hE.2.2.1; simp [els, el] at this; exact this
    have HV : Hid (pvV P x l = val P l x) := (show Hid _ from if_pos he)
    have HE : Hid (pvE P x l = 0) := (show Hid _ from he)
    rw [hV]
    have HOE := Lib.hid he
    clear he hV
    go_wp2_with fail
    (with_reducible refine (value_any P x l _ w3 (prB_bd hE.1) hxx hE.2.1 hl (HS.out.below HB3.out)).mono ?_)
    rintro e w4 ⟨rfl, hb4⟩
    have HB4 : Hid (Below w.heap.size w w4) := (show Hid _ from HB3.out.trans (hb4.mono HB3.out.size))
    clear hb4
    go_wp2_with fail
    refine bodyPost_ret (v := .tuple #[.int .i64 (val P l x), .int .i64 0]) (by simp [results, Try.results45, go_sem]) rfl ?_
    rw [HV.out, HE.out]
    exact ⟨rfl, HB4.out⟩
  · have hez : (opE P [l, [x]] != 0) = true := by rw [bne_iff_ne]; exact he
    have HV : Hid (pvV P x l = 0) := (show Hid _ from if_neg he)
    have HE : Hid (pvE P x l = opE P [l, [x]]) := (show Hid _ from rfl)
    clear he
    go_wp2_with fail
    refine bodyPost_ret (v := .tuple #[.int .i64 0, .int .i64 (opE P [l, [x]])]) (by simp [results, Try.results45, go_sem]) rfl ?_
    rw [HV.out, HE.out]
    exact ⟨rfl, HB3.out⟩
theorem pv_ok {P x : Int} {l : List Int} (hp : prB P = true) (hx : el P x = true) : pvE P x l = opE P [l] := by
  unfold pvE opE
  rw [hp]
  simp [els, hx, longB]

/-- the first error of polynomials -/
def coF (P : Int) (ps : List (List Int)) : Int := ps.foldl (fun e p => if e = 0 then opE P [p] else e) 0
theorem coF_snoc (P : Int) (ps : List (List Int)) (p : List Int) : coF P (ps ++ [p]) = if coF P ps = 0 then opE P [p] else coF P ps := by
  unfold coF
  rw [List.foldl_append]
  rfl
theorem coF_stop (P : Int) (qs : List (List Int)) : ∀ ps, coF P ps ≠ 0 → coF P (ps ++ qs) = coF P ps := by
  induction qs with
  | nil => intro ps _; rw [List.append_nil]
  | cons q qs ih =>
    intro ps h
    have h1 : coF P (ps ++ [q]) = coF P ps := by rw [coF_snoc, if_neg h]
    rw [show ps ++ q :: qs = (ps ++ [q]) ++ qs by simp, ih _ (by rw [h1]; exact h), h1]
def comE (P : Int) (l : List (Int × Bool)) (ps : List (List Int)) : Int := if ceE P l = 0 then coF P ps else ceE P l
/-- the numbers of the known cells that all polynomials run through -/
def comL (P : Int) (l : List (Int × Bool)) (ps : List (List Int)) : List Int := ((kn l).filter fun t => ps.all fun p => hit P p t).map (·.1)
def comV (P : Int) (l : List (Int × Bool)) (ps : List (List Int)) : List Int := if comE P l ps = 0 then comL P l ps else []
def cmk (P : Int) (l : List (Int × Bool)) (ps : List (List Int)) (j : Nat) : Bool := (l.getD j (0, false)).2 && ps.all fun p => hit P p ((j : Int) + 1, (l.getD j (0, false)).1)
theorem comL_snoc (P : Int) (l : List (Int × Bool)) (ps : List (List Int)) {k : Nat} (h : k < l.length) : comL P (l.take (k + 1)) ps = comL P (l.take k) ps ++ if cmk P l ps k = true then [(k : Int) + 1] else [] := by
  unfold comL
  rw [kn_snoc l k h, List.filter_append, List.map_append]
  congr 1
  have e : l.getD k (0, false) = l[k] := by simp [List.getD, h]
  unfold cmk
  rw [e]
  by_cases hb : l[k].2 = true
  · rw [if_pos hb, hb, Bool.true_and]
    by_cases ha : (ps.all fun p => hit P p ((k : Int) + 1, l[k].1)) = true
    · rw [if_pos ha]
      simp only [List.filter_cons, ha]
      rfl
    · rw [if_neg ha]
      simp only [List.filter_cons, if_neg ha]
      rfl
  · rw [if_neg hb]
    have hbf : l[k].2 = false := by simpa using hb
    simp [hbf]

theorem bel_set {b : Nat} {w w' : World} (h : Below b w w') {p : Addr} (hp : b ≤ p.block) (u : Value) : Below b w (w'.setCell p u) :=
  ⟨h.os, h.tape, h.output, by simpa [World.setCell] using h.size, fun k hk => (heap_setCell_other w' p k u (by omega)).trans (h.block k hk)⟩
theorem cmk_snoc (P : Int) (l : List (Int × Bool)) (ps : List (List Int)) (p : List Int) (j : Nat) : cmk P l (ps ++ [p]) j = (cmk P l ps j && hit P p ((j : Int) + 1, (l.getD j (0, false)).1)) := by
  unfold cmk
  rw [List.all_append]
  simp [Bool.and_assoc]
/-- a block of bools, known whole -/
def BBf (w : World) (B n : Nat) (f : Nat → Bool) : Prop := w.heap[B]? = some (.cells ((List.range n).map fun j => Value.bool (f j)).toArray 4 (0, 0))
theorem BBf.lt {w : World} {B n : Nat} {f : Nat → Bool} (h : BBf w B n f) : B < w.heap.size := heap_of_cells h
theorem BBf.cell {w : World} {B n : Nat} {f : Nat → Bool} (h : BBf w B n f) {j : Nat} (hj : j < n) : w.cell? ⟨B, j, none⟩ = some (.bool (f j)) := by
  rw [cell_of_row w B j _ _ _ h]; simp [hj]
theorem BBf.frozen {w : World} {B n : Nat} {f : Nat → Bool} (h : BBf w B n f) (j : Nat) : w.frozen? ⟨B, j, none⟩ = false := frozen_of_row w B j _ _ h
theorem BBf.congr {w : World} {B n : Nat} {f g : Nat → Bool} (h : BBf w B n f) (e : ∀ j, j < n → f j = g j) : BBf w B n g := by
  unfold BBf at *
  rw [h]
  congr 3
  exact List.map_congr_left fun j hj => by rw [e j (List.mem_range.1 hj)]
theorem BBf.set {w : World} {B n : Nat} {f : Nat → Bool} (h : BBf w B n f) (j : Nat) (b : Bool) : BBf (w.setCell ⟨B, j, none⟩ (.bool b)) B n (fun q => if q = j then b else f q) := by
  unfold BBf
  rw [heap_setCell_same w B j _ _ _ h]
  congr 2
  apply Array.toList_inj.1
  refine List.ext_getElem (by simp) fun q h1 h2 => ?_
  simp
  by_cases e : j = q
  · simp [e]
  · have e2 : ¬ q = j := fun h => e h.symm
    simp [e, e2]
theorem BBf.below {w w' : World} {B n : Nat} {f : Nat → Bool} (h : BBf w B n f) (hb : Below w.heap.size w w') : BBf w' B n f := (hb.block B h.lt).trans h
theorem BBf.made {w : World} {B n : Nat} (h : w.heap[B]? = some (.cells ((List.range n).map fun (j : Nat) => Value.bool (decide (j ∈ ([] : List Nat)))).toArray 4 (0, 0))) : BBf w B n (fun _ => false) := by
  unfold BBf
  rw [h]
  simp
theorem bbinfo : (Try.prog.info? 4).map (fun i => (i.zero, i.size, i.bytes)) = some (some (.bool false), 1, 1) := by kernel_rfl

set_option maxRecDepth 100000 in
set_option maxHeartbeats 16000000 in
theorem common_any (P : Int) (l : List (Int × Bool)) (ps : List (List Int)) (v vp : Value) (w : World) (hP : i64r P) (h : SCl w v l) (hz : l.length ≤ 1000000) (hp : SL w vp ps) (hpl : ∀ p ∈ ps, p.length ≤ 1000000) :
    Calls Try.prog 25 #[.agg #[.int .i64 P], v, vp] w fun e w' => ∃ v', e = .returned (.tuple #[v', .int .i64 (comE P l ps)]) ∧ w'.ownsRow w.heap.size 3 1 v' (comV P l ps).length ((comV P l ps).map (Value.int .i64)) ∧ Below w.heap.size w w' := by
  obtain ⟨A, c, rfl⟩ := h.form
  obtain ⟨Ap, cp, rfl, hat⟩ := hp.at
  have HS := Lib.hid h
  have HSP := Lib.hid hp
  have HAT := Lib.hid hat
  have HPL := Lib.hid hpl
  have hnl : (SI_nil' w) = (SI_nil' w) := rfl
  clear hnl
  obtain ⟨n, en⟩ : ∃ n, n = l.length := ⟨_, rfl⟩
  obtain ⟨m, em⟩ : ∃ m, m = ps.length := ⟨_, rfl⟩
  have hmb : m ≤ 9223372036854775807 := by obtain ⟨_, _, e, h1, h2, _⟩ := hp; rw [em]; injection e; omega
  rw [← en] at HS hz ⊢
  rw [← em] at HSP ⊢
  have HN := Lib.hid en
  have HM := Lib.hid em
  clear h hp hat hpl en em
  go_enter Try.func25, Try.ntmps25
  obtain ⟨F, eF⟩ : ∃ F, F = w.heap.size := ⟨_, rfl⟩
  obtain ⟨w1, ew1⟩ : ∃ w1 : World, w1 = w.alloc (.cells #[.int .i64 P] 26) := ⟨_, rfl⟩
  have HWw1 : Hid (w.alloc (.cells #[.int .i64 P] 26) = w1) := ew1.symm
  have HAw1 : Hid (Below w.heap.size w w1) := (show Hid _ from by rw [ew1]; exact (Below.refl _ w).alloc (Nat.le_refl _) _)
  have HF0w1 : Hid (w1.heap[F]? = some (.cells #[.int .i64 P] 26 (0, 0))) := (show Hid _ from by show _ = _; rw [ew1, eF]; exact heap_alloc_new w _)
  have HXC : Hid (∀ W, Below w1.heap.size w1 W → W.cell? ⟨F, 0, none⟩ = some (.int .i64 P)) := (show Hid _ from fun W hg => by
    have hF0 := (hg.block F (heap_of_cells HF0w1.out)).trans HF0w1.out
    exact (cell_of_row W F 0 _ _ _ hF0))
  have HBS : Hid (∀ W, Below w1.heap.size w1 W → Below w.heap.size w W) := (show Hid _ from fun W hW => HAw1.out.trans (hW.mono HAw1.out.size))
  go_upto_region 1 with fail
  rw [HWw1.out, ← eF]
  clear ew1 eF
  have x0 := HXC.out w1 (Below.refl _ _)
  go_wp2_with fail
  (with_reducible refine (agree_any P l [] _ _ w1 hP (HS.out.below HAw1.out) (by rw [← HN.out]; omega) (SI_nil' w1)).mono ?_)
  rintro e w2 ⟨rfl, hb2⟩
  have HB2 : Hid (Below w1.heap.size w1 w2) := (show Hid _ from hb2)
  clear hb2 x0
  by_cases hc : ceE P l = 0
  case' neg =>
    have hcz : (ceE P l != 0) = true := by rw [bne_iff_ne]; exact hc
    have h1 := ag_ce (p := []) hc
    rw [h1.1, h1.2]
    have HR : Hid (comE P l ps = ceE P l) := (show Hid _ from if_neg hc)
    have HV : Hid (comV P l ps = []) := (show Hid _ from if_neg (by rw [HR.out]; exact hc))
    clear hc h1
    go_wp2_with fail
    refine bodyPost_ret (v := .tuple #[.slice none 0 0, .int .i64 (ceE P l)]) (by simp [results, Try.results25, go_sem]) rfl ?_
    rw [HV.out, HR.out]
    exact ⟨_, rfl, World.ownsRow_nil _ _ _ _, HBS.out _ HB2.out⟩
  have hci := ceE_inv hc
  have hP2 := prB_bd hci.1
  have HPR : Hid (prB P = true) := (show Hid _ from hci.1)
  have hl32 : n ≤ 32 := by rw [HN.out]; exact hci.2.1
  have hlP : (n : Int) < P := by rw [HN.out]; exact hci.2.2.1
  have h1 := (ag_0 (p := []) hc (by unfold opE; rw [hci.1]; simp [els, longB])).1
  rw [h1]
  have HCE := Lib.hid hc
  have HCO : Hid (comE P l ps = coF P ps) := (show Hid _ from if_pos hc)
  clear hci hc h1
  obtain ⟨wm, ewm⟩ : ∃ wm : World, wm = w2.alloc (.cells ((List.range n).map fun (j : Nat) => Value.bool (decide (j ∈ ([] : List Nat)))).toArray 4) := ⟨_, rfl⟩
  obtain ⟨B, eB⟩ : ∃ B, B = w2.heap.size := ⟨_, rfl⟩
  have HBB : Hid (BBf wm B n (fun _ => false)) := (show Hid _ from BBf.made (by rw [ewm, eB]; exact heap_alloc_new w2 _))
  have HAm : Hid (Below w2.heap.size w2 wm) := (show Hid _ from by rw [ewm]; exact (Below.refl _ w2).alloc (Nat.le_refl _) _)
  have HWm : Hid (w2.alloc (.cells ((List.range n).map fun (j : Nat) => Value.bool (decide (j ∈ ([] : List Nat)))).toArray 4) = wm) := (show Hid _ from ewm.symm)
  have HBm : Hid (Below w1.heap.size w1 wm) := (show Hid _ from HB2.out.trans (HAm.out.mono HB2.out.size))
  have HEB := Lib.hid eB
  have HB1 : Hid (w1.heap.size ≤ B) := (show Hid _ from by rw [eB]; exact HB2.out.size)
  clear ewm eB
  go_wp2_with (at_make; refine wpList_make_bools _ rfl _ _ 88 rfl 4 Try.underlying88 bbinfo _ n rfl rfl rfl (by omega) ?_; rw [HWm.out, ← HEB.out])
  have HBw : Hid (∀ W, Below B wm W → Below w.heap.size w W) := (show Hid _ from fun W hW => HBS.out _ (HBm.out.trans (hW.mono HB1.out)))
  have HXB : Hid (∀ W, Below B wm W → W.cell? ⟨F, 0, none⟩ = some (.int .i64 P)) := (show Hid _ from fun W hW => HXC.out W (HBm.out.trans (hW.mono HB1.out)))
  have hBm : B ≤ wm.heap.size := by have := HAm.out.size; rw [HEB.out]; exact this
  go_loopw [38] (fun iv wr => ∃ k : Nat, k ≤ n ∧ iv = .int .i64 k ∧ Below B wm wr ∧ BBf wr B n (fun j => decide (j < k) && (l.getD j (0, false)).2)) (fun iv _ => n - (intOf iv).toNat)
  case atStart => exact ⟨0, Nat.zero_le _, rfl, Below.refl _ _, HBB.out.congr fun j _ => by simp⟩
  case round =>
    obtain ⟨k, hk, rfl, hbr, hbf⟩ := hrel
    have HBR := Lib.hid hbr
    have HBf := Lib.hid hbf
    clear hbr hbf
    by_cases hlk : k < n
    · have dk : decide ((k : Int) < (n : Int)) = true := decide_eq_true (by omega)
      have dkn : decide (k < n) = true := decide_eq_true hlk
      have hkl : k < l.length := by rw [← HN.out]; exact hlk
      obtain ⟨b, off, eA, hbl, hcell⟩ := (HS.out.below (HBw.out _ HBR.out)).at0 (by rw [← HN.out]; omega)
      subst eA
      obtain ⟨c0, c1⟩ := hcell k hkl
      have HGD : Hid (l.getD k (0, false) = l[k]) := (show Hid _ from by show _ = _; simp [List.getD, hkl])
      obtain ⟨xv, exv⟩ : ∃ xv, xv = l[k].1 := ⟨_, rfl⟩
      obtain ⟨bv, ebv⟩ : ∃ bv, bv = l[k].2 := ⟨_, rfl⟩
      rw [← exv] at c0
      rw [← ebv] at c1
      have HBV := Lib.hid ebv
      clear hcell exv ebv
      obtain ⟨X, eX⟩ : ∃ X, X = wr.heap.size := ⟨_, rfl⟩
      obtain ⟨wx, ewx⟩ : ∃ wx : World, wx = wr.alloc (.cells #[.int .i64 xv, .bool bv] 33) := ⟨_, rfl⟩
      have HWwx : Hid (wr.alloc (.cells #[.int .i64 xv, .bool bv] 33) = wx) := ewx.symm
      have HAwx : Hid (Below wr.heap.size wr wx) := (show Hid _ from by rw [ewx]; exact (Below.refl _ wr).alloc (Nat.le_refl _) _)
      have HX0wx : Hid (wx.heap[X]? = some (.cells #[.int .i64 xv, .bool bv] 33 (0, 0))) := (show Hid _ from by show _ = _; rw [ewx, eX]; exact heap_alloc_new wr _)
      have HXX : Hid (∀ W, Below wx.heap.size wx W → W.cell? ⟨X, 0, none⟩ = some (.int .i64 xv) ∧ W.cell? ⟨X, 1, none⟩ = some (.bool bv)) := (show Hid _ from fun W hg => by
        have hX0 := (hg.block X (heap_of_cells HX0wx.out)).trans HX0wx.out
        exact ⟨cell_of_row W X 0 _ _ _ hX0, cell_of_row W X 1 _ _ _ hX0⟩)
      have HBX : Hid (Below B wm wx) := (show Hid _ from HBR.out.trans (HAwx.out.mono (Nat.le_trans hBm HBR.out.size)))
      have HFX : Hid (BBf wx B n _) := (show Hid _ from HBf.out.below HAwx.out)
      go_upto_region 8 with fail
      rw [HWwx.out, ← eX]
      clear ewx eX
      obtain ⟨y0, y1⟩ := HXX.out wx (Below.refl _ _)
      have b0 := HFX.out.cell hlk
      have b1 := HFX.out.frozen k
      simp only [Nat.lt_irrefl, decide_false, Bool.false_and] at b0
      clear c0 c1
      go_wp2_with fail
      go_roundw
      case rel =>
        refine ⟨k + 1, by omega, by go_num, bel_set HBX.out (Nat.le_refl _) _, (HFX.out.set k bv).congr fun j hj => ?_⟩
        by_cases e : j = k
        · subst e
          rw [if_pos rfl, HGD.out, ← HBV.out]
          simp
        · rw [if_neg e]
          congr 1
          by_cases h : j < k
          · simp [h, show j < k + 1 by omega]
          · simp [h, show ¬ j < k + 1 by omega]
      case measure => simp [intOf]; omega
    · have dk : decide ((k : Int) < (n : Int)) = false := decide_eq_false (by omega)
      have dkn : decide (k < n) = false := decide_eq_false hlk
      have HF0 : Hid (BBf wr B n (cmk P l [])) := (show Hid _ from HBf.out.congr fun j hj => by
        simp [cmk]
        omega)
      clear HBf
      go_wp2_with fail
      go_loopw [51] (fun iv wr => ∃ q : Nat, q ≤ m ∧ iv = .int .i64 q ∧ Below B wm wr ∧ BBf wr B n (cmk P l (ps.take q)) ∧ coF P (ps.take q) = 0) (fun iv _ => m - (intOf iv).toNat)
      case atStart => exact ⟨0, Nat.zero_le _, rfl, HBR.out, HF0.out, rfl⟩
      case round =>
        clear HF0 HBR
        obtain ⟨q, hq, rfl, hbr, hbf, hco⟩ := hrel
        have HBR := Lib.hid hbr
        have HBf := Lib.hid hbf
        have HCF := Lib.hid hco
        clear hbr hbf hco
        by_cases hlq : q < m
        · have dq : decide ((q : Int) < (m : Int)) = true := decide_eq_true (by omega)
          have dqn : decide (q < m) = true := decide_eq_true hlq
          have hqp : q < ps.length := by rw [← HM.out]; exact hlq
          obtain ⟨b, off, Bq, dp, eA, hW⟩ := HAT.out q hqp
          subst eA
          obtain ⟨c0, hsi⟩ := hW wr (HBw.out _ HBR.out)
          have hpb := HPL.out ps[q] (List.getElem_mem hqp)
          have HTK : Hid (ps.take (q + 1) = ps.take q ++ [ps[q]]) := (show Hid _ from List.take_succ_eq_append_getElem hqp)
          obtain ⟨p, ep⟩ : ∃ p, p = ps[q] := ⟨_, rfl⟩
          rw [← ep] at c0 hsi hpb HTK
          have HSI := Lib.hid hsi
          have HSW : Hid (∀ W, Below B wr W → SI W (.slice Bq p.length dp) p) := (show Hid _ from fun W hW2 => by
            have h1 := hW W (HBw.out _ (HBR.out.trans hW2))
            rw [← ep] at h1
            exact h1.2)
          have HCS : Hid (coF P (ps.take (q + 1)) = opE P [p]) := (show Hid _ from by show _ = _; rw [HTK.out, coF_snoc, if_pos HCF.out])
          obtain ⟨pl, epl⟩ : ∃ pl, pl = p.length := ⟨_, rfl⟩
          rw [← epl] at c0 HSI HSW hpb
          have HPLN := Lib.hid epl
          clear hsi hW ep epl
          have hwB : B ≤ wr.heap.size := Nat.le_trans hBm HBR.out.size
          obtain ⟨wq, rfl⟩ : ∃ wq : World, wq = wr := ⟨_, rfl⟩
          by_cases hop : opE P [p] = 0
          · have HOP := Lib.hid hop
            clear hop
            go_wp2_with fail
            go_loopw [57] (fun iv wr => ∃ i : Nat, i ≤ n ∧ iv = .int .i64 i ∧ Below B wq wr ∧ BBf wr B n (fun j => cmk P l (ps.take (if j < i then q + 1 else q)) j)) (fun iv _ => n - (intOf iv).toNat)
            case atStart => exact ⟨0, Nat.zero_le _, rfl, Below.refl _ _, HBf.out.congr fun j _ => by simp⟩
            case round =>
              obtain ⟨i, hi, rfl, hbr2, hbf2⟩ := hrel
              have HBR2 := Lib.hid hbr2
              have HBf2 := Lib.hid hbf2
              clear hbr2 hbf2 c0
              by_cases hli : i < n
              · have di : decide ((i : Int) < (n : Int)) = true := decide_eq_true (by omega)
                have din : decide (i < n) = true := decide_eq_true hli
                have hil : i < l.length := by rw [← HN.out]; exact hli
                have HBRm : Hid (Below B wm wr) := (show Hid _ from HBR.out.trans HBR2.out)
                obtain ⟨b2, off2, eA2, hbl2, hcell⟩ := (HS.out.below (HBw.out _ HBRm.out)).at0 (by rw [← HN.out]; omega)
                subst eA2
                obtain ⟨c0, c1⟩ := hcell i hil
                have HGD : Hid (l.getD i (0, false) = l[i]) := (show Hid _ from by show _ = _; simp [List.getD, hil])
                obtain ⟨xv, exv⟩ : ∃ xv, xv = l[i].1 := ⟨_, rfl⟩
                obtain ⟨bv, ebv⟩ : ∃ bv, bv = l[i].2 := ⟨_, rfl⟩
                rw [← exv] at c0
                rw [← ebv] at c1
                have HXV := Lib.hid exv
                clear hcell exv ebv
                obtain ⟨X, eX⟩ : ∃ X, X = wr.heap.size := ⟨_, rfl⟩
                obtain ⟨wx, ewx⟩ : ∃ wx : World, wx = wr.alloc (.cells #[.int .i64 xv, .bool bv] 33) := ⟨_, rfl⟩
                have HWwx : Hid (wr.alloc (.cells #[.int .i64 xv, .bool bv] 33) = wx) := ewx.symm
                have HAwx : Hid (Below wr.heap.size wr wx) := (show Hid _ from by rw [ewx]; exact (Below.refl _ wr).alloc (Nat.le_refl _) _)
                have HX0wx : Hid (wx.heap[X]? = some (.cells #[.int .i64 xv, .bool bv] 33 (0, 0))) := (show Hid _ from by show _ = _; rw [ewx, eX]; exact heap_alloc_new wr _)
                have HXX : Hid (∀ W, Below wx.heap.size wx W → W.cell? ⟨X, 0, none⟩ = some (.int .i64 xv) ∧ W.cell? ⟨X, 1, none⟩ = some (.bool bv)) := (show Hid _ from fun W hg => by
                  have hX0 := (hg.block X (heap_of_cells HX0wx.out)).trans HX0wx.out
                  exact ⟨cell_of_row W X 0 _ _ _ hX0, cell_of_row W X 1 _ _ _ hX0⟩)
                have HBX : Hid (Below B wm wx) := (show Hid _ from HBRm.out.trans (HAwx.out.mono (Nat.le_trans hBm HBRm.out.size)))
                have HBXq : Hid (Below B wq wx) := (show Hid _ from HBR2.out.trans (HAwx.out.mono (Nat.le_trans hwB HBR2.out.size)))
                have HFX : Hid (BBf wx B n _) := (show Hid _ from HBf2.out.below HAwx.out)
                have hi1 : i64r ((i : Int) + 1) := by unfold i64r; omega
                have hel : el P ((i : Int) + 1) = true := el_mk (by omega)
                have HE0 : Hid (pvE P ((i : Int) + 1) p = 0) := (show Hid _ from by show _ = _; rw [pv_ok HPR.out hel]; exact HOP.out)
                have HV0 : Hid (pvV P ((i : Int) + 1) p = val P p ((i : Int) + 1)) := (show Hid _ from if_pos HE0.out)
                go_upto_region 16 with fail
                rw [HWwx.out, ← eX]
                clear ewx eX
                have x1 := HXB.out wx HBX.out
                clear c0 c1 hel
                go_wp2_with fail
                (with_reducible refine (pvalue_any P ((i : Int) + 1) p _ wx hP hi1 (HSW.out wx HBXq.out) (by rw [← HPLN.out]; exact hpb)).mono ?_)
                rintro e w4 ⟨rfl, hb4⟩
                rw [HE0.out, HV0.out]
                obtain ⟨y0, y1⟩ := HXX.out w4 hb4
                have HB4 : Hid (Below B wq w4) := (show Hid _ from HBXq.out.trans (hb4.mono (Nat.le_trans hwB HBXq.out.size)))
                have HF4 : Hid (BBf w4 B n _) := (show Hid _ from HFX.out.below hb4)
                have b0 := HF4.out.cell hli
                have b1 := HF4.out.frozen i
                simp only [Nat.lt_irrefl, if_false] at b0
                have HCK : Hid (cmk P l (ps.take (q + 1)) i = (cmk P l (ps.take q) i && (val P p ((i : Int) + 1) == xv))) := (show Hid _ from by
                  show _ = _
                  rw [HTK.out, cmk_snoc, HGD.out, ← HXV.out]
                  rfl)
                obtain ⟨cq, ecq⟩ : ∃ cq, cq = cmk P l (ps.take q) i := ⟨_, rfl⟩
                rw [← ecq] at b0 HCK
                obtain ⟨yv, eyv⟩ : ∃ yv, yv = val P p ((i : Int) + 1) := ⟨_, rfl⟩
                rw [← eyv] at HCK ⊢
                clear hb4 x1 ecq eyv
                have HREL : Hid (∀ (W : World) (b : Bool), b = cmk P l (ps.take (q + 1)) i → W = w4.setCell ⟨B, i, none⟩ (.bool b) → Below B wq W ∧ BBf W B n (fun j => cmk P l (ps.take (if j < i + 1 then q + 1 else q)) j)) := (show Hid _ from fun W b hb hW => by
                  subst hW
                  refine ⟨bel_set HB4.out (Nat.le_refl _) _, (HF4.out.set i b).congr fun j hj => ?_⟩
                  by_cases e : j = i
                  · subst e
                    rw [if_pos rfl, if_pos (by omega), hb]
                  · rw [if_neg e]
                    by_cases h : j < i
                    · rw [if_pos h, if_pos (by omega)]
                    · rw [if_neg h, if_neg (by omega)])
                cases cq
                · go_wp2_with fail
                  go_roundw
                  case rel =>
                    obtain ⟨g1, g2⟩ := HREL.out _ false (by rw [HCK.out]; rfl) rfl
                    exact ⟨i + 1, by omega, by go_num, g1, g2⟩
                  case measure => simp [intOf]; omega
                · by_cases hyx : yv = xv
                  · have dyx : (yv == xv) = true := by rw [beq_iff_eq]; exact hyx
                    go_wp2_with fail
                    go_roundw
                    case rel =>
                      obtain ⟨g1, g2⟩ := HREL.out _ true (by rw [HCK.out, dyx]; rfl) rfl
                      exact ⟨i + 1, by omega, by go_num, g1, g2⟩
                    case measure => simp [intOf]; omega
                  · have dyx : (yv == xv) = false := by rw [beq_eq_false_iff_ne]; exact hyx
                    go_wp2_with fail
                    go_roundw
                    case rel =>
                      obtain ⟨g1, g2⟩ := HREL.out _ false (by rw [HCK.out, dyx]; rfl) rfl
                      exact ⟨i + 1, by omega, by go_num, g1, g2⟩
                    case measure => simp [intOf]; omega
              · have di : decide ((i : Int) < (n : Int)) = false := decide_eq_false (by omega)
                have din : decide (i < n) = false := decide_eq_false hli
                have HBRm : Hid (Below B wm wr) := (show Hid _ from HBR.out.trans HBR2.out)
                have x1 := HXB.out wr HBRm.out
                have HFE : Hid (BBf wr B n (cmk P l (ps.take (q + 1)))) := (show Hid _ from HBf2.out.congr fun j hj => by rw [if_pos (by omega)])
                go_wp2_with fail
                (with_reducible refine (degree_any P p _ wr hP (HSW.out wr HBR2.out)).mono ?_)
                rintro e w4 ⟨rfl, hb4⟩
                rw [HOP.out]
                have HB4 : Hid (Below B wm w4) := (show Hid _ from HBRm.out.trans (hb4.mono (Nat.le_trans hBm HBRm.out.size)))
                have HF4 : Hid (BBf w4 B n _) := (show Hid _ from HFE.out.below hb4)
                clear hb4 x1
                go_wp2_with fail
                go_roundw
                case rel => exact ⟨q + 1, by omega, by go_num, HB4.out, HF4.out, by rw [HCS.out]; exact HOP.out⟩
                case measure => simp [intOf]; omega
          · have HNE := Lib.hid hop
            have hez : (opE P [p] != 0) = true := by rw [bne_iff_ne]; exact hop
            have HRC : Hid (comE P l ps = opE P [p]) := (show Hid _ from by
              show _ = _
              rw [HCO.out, ← HCS.out, ← coF_stop P (ps.drop (q + 1)) (ps.take (q + 1)) (by rw [HCS.out]; exact hop), List.take_append_drop])
            have HVC : Hid (comV P l ps = []) := (show Hid _ from if_neg (by rw [HRC.out]; exact hop))
            obtain ⟨er, eer⟩ : ∃ er, er = opE P [p] := ⟨_, rfl⟩
            have HER := Lib.hid eer
            rw [← eer] at hez HRC
            clear hop eer
            go_wp2_with fail
            go_loopw [57] (fun iv wr => iv = .int .i64 0 ∧ wq = wr) (fun _ _ => 0)
            case atStart => exact ⟨rfl, rfl⟩
            case round =>
              obtain ⟨rfl, rfl⟩ := hrel
              by_cases h0 : 0 < n
              · have d0 : decide ((0 : Int) < (n : Int)) = true := decide_eq_true (by omega)
                have hil : 0 < l.length := by rw [← HN.out]; exact h0
                obtain ⟨b2, off2, eA2, hbl2, hcell⟩ := (HS.out.below (HBw.out _ HBR.out)).at0 hil
                subst eA2
                obtain ⟨c1, c2⟩ := hcell 0 hil
                simp only [Nat.zero_mul, Nat.add_zero] at c1 c2
                obtain ⟨xv, exv⟩ : ∃ xv, xv = l[0].1 := ⟨_, rfl⟩
                obtain ⟨bv, ebv⟩ : ∃ bv, bv = l[0].2 := ⟨_, rfl⟩
                rw [← exv] at c1
                rw [← ebv] at c2
                clear hcell exv ebv c0
                obtain ⟨X, eX⟩ : ∃ X, X = wq.heap.size := ⟨_, rfl⟩
                obtain ⟨wx, ewx⟩ : ∃ wx : World, wx = wq.alloc (.cells #[.int .i64 xv, .bool bv] 33) := ⟨_, rfl⟩
                have HWwx : Hid (wq.alloc (.cells #[.int .i64 xv, .bool bv] 33) = wx) := ewx.symm
                have HAwx : Hid (Below wq.heap.size wq wx) := (show Hid _ from by rw [ewx]; exact (Below.refl _ wq).alloc (Nat.le_refl _) _)
                have HX0wx : Hid (wx.heap[X]? = some (.cells #[.int .i64 xv, .bool bv] 33 (0, 0))) := (show Hid _ from by show _ = _; rw [ewx, eX]; exact heap_alloc_new wq _)
                have HBXq : Hid (Below B wq wx) := (show Hid _ from HAwx.out.mono hwB)
                have HBX : Hid (Below B wm wx) := (show Hid _ from HBR.out.trans HBXq.out)
                have hi1 : i64r (1 : Int) := by unfold i64r; omega
                have hel : el P (1 : Int) = true := el_mk (by omega)
                have HE0 : Hid (pvE P 1 p = er) := (show Hid _ from by show _ = _; rw [pv_ok HPR.out hel, HER.out])
                have HV0 : Hid (pvV P 1 p = 0) := (show Hid _ from if_neg (by rw [HE0.out, HER.out]; exact HNE.out))
                go_upto_region 16 with fail
                rw [HWwx.out, ← eX]
                clear ewx eX
                have x1 := HXB.out wx HBX.out
                clear c1 c2 hel
                go_wp2_with fail
                (with_reducible refine (pvalue_any P 1 p _ wx hP hi1 (HSW.out wx HBXq.out) (by rw [← HPLN.out]; exact hpb)).mono ?_)
                rintro e w4 ⟨rfl, hb4⟩
                rw [HE0.out, HV0.out]
                have HB4 : Hid (Below B wm w4) := (show Hid _ from HBX.out.trans (hb4.mono (Nat.le_trans hBm HBX.out.size)))
                clear hb4 x1
                go_wp2_with fail
                refine bodyPost_ret (v := .tuple #[.slice none 0 0, .int .i64 er]) (by simp [results, Try.results25, go_sem]) rfl ?_
                rw [HVC.out, HRC.out]
                exact ⟨_, rfl, World.ownsRow_nil _ _ _ _, HBw.out _ HB4.out⟩
              · have d0 : decide ((0 : Int) < (n : Int)) = false := decide_eq_false (by omega)
                have x1 := HXB.out wq HBR.out
                go_wp2_with fail
                (with_reducible refine (degree_any P p _ wq hP (HSW.out wq (Below.refl _ _))).mono ?_)
                rintro e w4 ⟨rfl, hb4⟩
                rw [← HER.out]
                have HB4 : Hid (Below B wm w4) := (show Hid _ from HBR.out.trans (hb4.mono hwB))
                clear hb4 x1
                go_wp2_with fail
                refine bodyPost_ret (v := .tuple #[.slice none 0 0, .int .i64 er]) (by simp [results, Try.results25, go_sem]) rfl ?_
                rw [HVC.out, HRC.out]
                exact ⟨_, rfl, World.ownsRow_nil _ _ _ _, HBw.out _ HB4.out⟩
        · have dq : decide ((q : Int) < (m : Int)) = false := decide_eq_false (by omega)
          have dqn : decide (q < m) = false := decide_eq_false hlq
          have hqm : q = m := by omega
          have HTA : Hid (ps.take q = ps) := (show Hid _ from by show _ = _; rw [hqm, HM.out, List.take_length])
          rw [HTA.out] at HBf HCF
          have HRC : Hid (comE P l ps = 0) := (show Hid _ from by show _ = _; rw [HCO.out, HCF.out])
          have HVC : Hid (comV P l ps = comL P l ps) := (show Hid _ from if_pos HRC.out)
          clear hqm
          obtain ⟨wq, rfl⟩ : ∃ wq : World, wq = wr := ⟨_, rfl⟩
          have hwB : B ≤ wq.heap.size := Nat.le_trans hBm HBR.out.size
          have hzw : w.heap.size ≤ wq.heap.size := (HBw.out _ HBR.out).size
          go_wp2_with fail
          go_loopw [99, 21] (fun iv pv wr => ∃ k : Nat, k ≤ n ∧ iv = .int .i64 k ∧ wr.ownsRow wq.heap.size 3 1 pv (comL P (l.take k) ps).length ((comL P (l.take k) ps).map (Value.int .i64)) ∧ Below wq.heap.size wq wr) (fun iv _ _ => n - (intOf iv).toNat)
          case atStart => exact ⟨0, Nat.zero_le _, rfl, by simpa [comL, kn, knF] using World.ownsRow_nil wq wq.heap.size 3 1, Below.refl _ _⟩
          case round =>
            obtain ⟨k, hk, rfl, hown, hbr⟩ := hrel
            have HO := Lib.hid hown
            have HBr := Lib.hid hbr
            clear hown hbr
            by_cases hlk : k < n
            · have dk : decide ((k : Int) < (n : Int)) = true := decide_eq_true (by omega)
              have dkn : decide (k < n) = true := decide_eq_true hlk
              have hkl : k < l.length := by rw [← HN.out]; exact hlk
              have b0 := (HBf.out.below HBr.out).cell hlk
              have HSN := Lib.hid (comL_snoc P l ps hkl)
              have hDl : (comL P (l.take k) ps).length ≤ k := by
                unfold comL
                rw [List.length_map]
                have h1 := List.length_filter_le (fun t => ps.all fun p => hit P p t) (kn (l.take k))
                have h2 := kn_len (l.take k) 0
                rw [List.length_take] at h2
                unfold kn at *
                omega
              obtain ⟨D, hD⟩ : ∃ D, comL P (l.take k) ps = D := ⟨_, rfl⟩
              rw [hD] at HO HSN hDl
              obtain ⟨cq, ecq⟩ : ∃ cq, cq = cmk P l ps k := ⟨_, rfl⟩
              rw [← ecq] at b0 HSN
              clear hD ecq
              cases cq
              · have HSN2 : Hid (comL P (l.take (k + 1)) ps = D) := (show Hid _ from by show _ = _; have h := HSN.out; simpa using h)
                go_wp2_with fail
                go_roundw
                case rel => exact ⟨k + 1, by omega, by go_num, by rw [HSN2.out]; exact HO.out, HBr.out⟩
                case measure => simp [intOf]; omega
              · have HSN2 : Hid (comL P (l.take (k + 1)) ps = D ++ [(k : Int) + 1]) := (show Hid _ from by show _ = _; have h := HSN.out; simpa using h)
                have hzr : wq.heap.size ≤ wr.heap.size := HBr.out.size
                obtain ⟨i0, hi0, hi1, hi2, hi3⟩ := info_parts iinfo
                have hk1 : IntKind.i64.wrap ((k : Int) + 1) = (k : Int) + 1 := by exact IntWalk.i64_in _ (by omega)
                go_wp2_with (at_builtin; refine wpList_append_own _ rfl _ _ 22 rfl wq.heap.size 3 i0 (.int .i64 0) 1 8 Try.underlying22 hi0 hi1 hi2 hi3 rfl (by omega) _ _ _ rfl (HO.out.alloc _) ⟨wr.heap.size, 0, none⟩ 1 1 [.int .i64 ((k : Int) + 1)] rfl rfl (cells_new wr _ _) (by intro u hu; simp at hu; subst hu; rfl) (by unfold maxLen; omega) (by omega) (by simp; omega) ?_; intro v3 w3 hown3 hg3 _; have HO3 := Lib.hid hown3; have HG3 := Lib.hid hg3; clear hown3 hg3)
                go_roundw
                case rel =>
                  refine ⟨k + 1, by omega, by go_num, ?_, ?_⟩
                  · rw [HSN2.out]
                    simpa using HO3.out
                  · exact (HBr.out.alloc hzr _).grown HG3.out (by simp; omega) (fun k hk => (HO.out.lt k hk).1)
                case measure => simp [intOf]; omega
            · have dk : decide ((k : Int) < (n : Int)) = false := decide_eq_false (by omega)
              have dkn : decide (k < n) = false := decide_eq_false hlk
              have hkn : k = n := by omega
              have HTL : Hid (l.take k = l) := (show Hid _ from by show _ = _; rw [hkn, HN.out, List.take_length])
              rw [HTL.out] at HO
              clear hkn
              go_wp2_with fail
              refine bodyPost_ret (v := .tuple #[u21, .int .i64 0]) (by simp [results, Try.results25, go_sem]) rfl ?_
              rw [HVC.out, HRC.out]
              exact ⟨_, rfl, own_base HO.out hzw, (HBw.out _ HBR.out).trans (HBr.out.mono hzw)⟩
end Go.Proofs.Ytbgabipngdillaa
