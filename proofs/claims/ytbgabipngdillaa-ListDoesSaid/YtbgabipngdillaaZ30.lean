/- Joined: La. -/
import Derived.Test.YtbgabipngdillaaZ29
namespace Go.Proofs.Ytbgabipngdillaa
open Go.RowKit Go.Shelf

def tmV (P : Int) (l : List Int) : List Int := if opE P [l] = 0 then trim l else []
theorem opE_1 {P : Int} {l : List Int} (h : opE P [l] = 0) : prB P = true ∧ els P l = true := by
  unfold opE at h
  by_cases h1 : prB P = true
  · by_cases h2 : els P l = true
    · exact ⟨h1, h2⟩
    · simp [h1, h2] at h
  · simp [h1] at h

theorem own_base {w : World} {b b' : Nat} {e : TypeId} {sz n : Nat} {v : Value} {xs : List Value} (h : w.ownsRow b e sz v n xs) (hb : b' ≤ b) : w.ownsRow b' e sz v n xs := by
  refine ⟨h.1, ?_⟩
  rcases h.2 with h0 | ⟨g, cap, cur, h1, h2, h3⟩
  · exact .inl h0
  · exact .inr ⟨g, cap, cur, h1, by omega, h3⟩

set_option maxRecDepth 100000 in
set_option maxHeartbeats 4000000 in
theorem rTrim_any (P : Int) (l : List Int) (v : Value) (w : World) (hP : i64r P) (h : SI w v l) (hl : l.length ≤ 1000000) :
    Calls Try.prog 29 #[.agg #[.int .i64 P], v] w fun e w' => ∃ v', e = .returned (.tuple #[v', .int .i64 (opE P [l])]) ∧ w'.ownsRow w.heap.size 3 1 v' (tmV P l).length ((tmV P l).map (Value.int .i64)) ∧ Below w.heap.size w w' := by
  obtain ⟨A, c, rfl⟩ := h.form
  have HS := Lib.hid h
  clear h
  go_enter Try.func29, Try.ntmps29
  obtain ⟨F, eF⟩ : ∃ F, F = w.heap.size := ⟨_, rfl⟩
  obtain ⟨w1, ew1⟩ : ∃ w1 : World, w1 = w.alloc (.cells #[.int .i64 P] 26) := ⟨_, rfl⟩
  have HWw1 : Hid (w.alloc (.cells #[.int .i64 P] 26) = w1) := ew1.symm
  have HAw1 : Hid (Below w.heap.size w w1) := (show Hid _ from by rw [ew1]; exact (Below.refl _ w).alloc (Nat.le_refl _) _)
  have HF0w1 : Hid (w1.heap[F]? = some (.cells #[.int .i64 P] 26 (0, 0))) := (show Hid _ from by show _ = _; rw [ew1, eF]; exact heap_alloc_new w _)
  have HXC : Hid (∀ W, Below w1.heap.size w1 W → W.cell? ⟨F, 0, none⟩ = some (.int .i64 P)) := (show Hid _ from fun W hg => by
    have hF0 := (hg.block F (heap_of_cells HF0w1.out)).trans HF0w1.out
    exact (cell_of_row W F 0 _ _ _ hF0))
  have hz1 : w.heap.size ≤ w1.heap.size := HAw1.out.size
  have HS1 : Hid (SI w1 (.slice A l.length c) l) := (show Hid _ from HS.out.below HAw1.out)
  have HSL : Hid (SL (w1.alloc (.cells #[.slice A l.length c] 22)) (.slice (some ⟨w1.heap.size, 0, none⟩) 1 1) [l]) := (show Hid _ from SL.one HS1.out _)
  have HB1 : Hid (Below w.heap.size w (w1.alloc (.cells #[.slice A l.length c] 22))) := (show Hid _ from HAw1.out.alloc hz1 _)
  go_upto_region 1 with fail
  rw [HWw1.out, ← eF]
  clear ew1 eF
  have x0 := HXC.out w1 (Below.refl _ _)
  go_wp2_with fail
  (with_reducible refine (rlists_any P [l] _ _ hP HSL.out (by simp)).mono ?_)
  rintro e w2 ⟨rfl, hb2⟩
  have HB2 : Hid (Below w.heap.size w w2) := (show Hid _ from HB1.out.trans (hb2.mono HB1.out.size))
  clear hb2 x0
  by_cases he : opE P [l] = 0
  · have hez : (opE P [l] != 0) = false := by rw [bne_eq_false_iff_eq]; exact he
    have HT : Hid (tmV P l = trim l) := (show Hid _ from if_pos he)
    have HE := Lib.hid he
    clear he
    go_wp2_with fail
    (with_reducible refine (rtrim_any l _ w2 (HS.out.below HB2.out) hl).mono ?_)
    rintro e w3 ⟨v', rfl, ho, hb3⟩
    have HO := Lib.hid ho
    have HB3 : Hid (Below w.heap.size w w3) := (show Hid _ from HB2.out.trans (hb3.mono HB2.out.size))
    clear ho hb3
    go_wp2_with fail
    refine bodyPost_ret (v := .tuple #[v', .int .i64 0]) (by simp [results, Try.results29, go_sem]) rfl ?_
    rw [HT.out, HE.out]
    exact ⟨v', rfl, own_base HO.out HB2.out.size, HB3.out⟩
  · have hez : (opE P [l] != 0) = true := by rw [bne_iff_ne]; exact he
    have HT : Hid (tmV P l = []) := (show Hid _ from if_neg he)
    clear he
    go_wp2_with fail
    refine bodyPost_ret (v := .tuple #[.slice none 0 0, .int .i64 (opE P [l])]) (by simp [results, Try.results29, go_sem]) rfl ?_
    rw [HT.out]
    exact ⟨_, rfl, World.ownsRow_nil _ _ _ _, HB2.out⟩

/-- the error of the reference's Value -/
def rvE (P x : Int) (l : List Int) : Int := if inB P [x] = false then 9 else opE P [l]
def rvV (P x : Int) (l : List Int) : Int := if rvE P x l = 0 then val P l x else 0

set_option maxRecDepth 100000 in
set_option maxHeartbeats 4000000 in
theorem rValue_any (P x : Int) (l : List Int) (v : Value) (w : World) (hP : i64r P) (hx : i64r x) (h : SI w v l) (hl : l.length ≤ 1000000) :
    Calls Try.prog 40 #[.agg #[.int .i64 P], v, .int .i64 x] w fun e w' => e = .returned (.tuple #[.int .i64 (rvV P x l), .int .i64 (rvE P x l)]) ∧ Below w.heap.size w w' := by
  obtain ⟨A, c, rfl⟩ := h.form
  have HS := Lib.hid h
  clear h
  go_enter Try.func40, Try.ntmps40
  obtain ⟨F, eF⟩ : ∃ F, F = w.heap.size := ⟨_, rfl⟩
  obtain ⟨w1, ew1⟩ : ∃ w1 : World, w1 = w.alloc (.cells #[.int .i64 P] 26) := ⟨_, rfl⟩
  have HWw1 : Hid (w.alloc (.cells #[.int .i64 P] 26) = w1) := ew1.symm
  have HAw1 : Hid (Below w.heap.size w w1) := (show Hid _ from by rw [ew1]; exact (Below.refl _ w).alloc (Nat.le_refl _) _)
  have HF0w1 : Hid (w1.heap[F]? = some (.cells #[.int .i64 P] 26 (0, 0))) := (show Hid _ from by show _ = _; rw [ew1, eF]; exact heap_alloc_new w _)
  have HXC : Hid (∀ W, Below w1.heap.size w1 W → W.cell? ⟨F, 0, none⟩ = some (.int .i64 P)) := (show Hid _ from fun W hg => by
    have hF0 := (hg.block F (heap_of_cells HF0w1.out)).trans HF0w1.out
    exact (cell_of_row W F 0 _ _ _ hF0))
  have hz1 : w.heap.size ≤ w1.heap.size := HAw1.out.size
  have HLI : Hid (SI (w1.alloc (.cells #[.int .i64 x] 3)) (.slice (some ⟨w1.heap.size, 0, none⟩) 1 1) [x]) := (show Hid _ from by
    refine ⟨some ⟨w1.heap.size, 0, none⟩, 1, rfl, Nat.le_refl _, by omega, fun y hy => by simp at hy; subst hy; exact hx, fun _ => ⟨w1.heap.size, 0, rfl, by simp, fun j hj => ?_⟩⟩
    have hj0 : j = 0 := by simp at hj; omega
    subst hj0
    exact cell_of_row _ _ 0 _ _ (0, 0) (heap_alloc_new w1 _))
  have HB1 : Hid (Below w.heap.size w (w1.alloc (.cells #[.int .i64 x] 3))) := (show Hid _ from HAw1.out.alloc hz1 _)
  go_upto_region 1 with fail
  rw [HWw1.out, ← eF]
  clear ew1 eF
  have x0 := HXC.out w1 (Below.refl _ _)
  go_wp2_with fail
  (with_reducible refine (rin_any P [x] _ _ hP HLI.out).mono ?_)
  rintro e w2 ⟨rfl, hb2⟩
  have HB2 : Hid (Below w.heap.size w w2) := (show Hid _ from HB1.out.trans (hb2.mono HB1.out.size))
  have HX2 : Hid (∀ W, Below w2.heap.size w2 W → W.cell? ⟨F, 0, none⟩ = some (.int .i64 P)) := (show Hid _ from fun W hW => HXC.out W (((Below.refl _ w1).alloc (Nat.le_refl _) _).trans ((hb2.mono (by simp)).trans (hW.mono (by have := hb2.size; simp at this; omega)))))
  clear hb2 x0
  by_cases hi : inB P [x] = true
  · rw [hi]
    have hel := hi
    unfold inB at hel
    simp only [Bool.and_eq_true] at hel
    have hpr := hel.1
    have hx2 : 0 ≤ x ∧ x < P := by have := hel.2; simp [els, el] at this; exact this
    have HI : Hid (rvE P x l = opE P [l]) := (show Hid _ from by show _ = _; unfold rvE; rw [hi]; rfl)
    have HSL : Hid (SL (w2.alloc (.cells #[.slice A l.length c] 22)) (.slice (some ⟨w2.heap.size, 0, none⟩) 1 1) [l]) := (show Hid _ from SL.one (HS.out.below HB2.out) _)
    have HB3 : Hid (Below w.heap.size w (w2.alloc (.cells #[.slice A l.length c] 22))) := (show Hid _ from HB2.out.alloc HB2.out.size _)
    have x0 := HX2.out w2 (Below.refl _ _)
    clear hi hel
    go_wp2_with fail
    (with_reducible refine (rlists_any P [l] _ _ hP HSL.out (by simp)).mono ?_)
    rintro e w4 ⟨rfl, hb4⟩
    have HB4 : Hid (Below w.heap.size w w4) := (show Hid _ from HB3.out.trans (hb4.mono HB3.out.size))
    have x4 := HX2.out w4 (((Below.refl _ w2).alloc (Nat.le_refl _) _).trans (hb4.mono (by simp)))
    clear hb4 x0
    by_cases he : opE P [l] = 0
    · have hez : (opE P [l] != 0) = false := by rw [bne_eq_false_iff_eq]; exact he
      have HV : Hid (rvV P x l = val P l x) := (show Hid _ from by show _ = _; unfold rvV; rw [HI.out, if_pos he])
      have hE := opE_1 he
      have HE := Lib.hid he
      clear he
      go_wp2_with fail
      (with_reducible refine (rvalue_any P x l _ w4 (prB_bd hE.1) hx2 hE.2 hl (HS.out.below HB4.out)).mono ?_)
      rintro e w5 ⟨rfl, hb5⟩
      have HB5 : Hid (Below w.heap.size w w5) := (show Hid _ from HB4.out.trans (hb5.mono HB4.out.size))
      clear hb5
      go_wp2_with fail
      refine bodyPost_ret (v := .tuple #[.int .i64 (val P l x), .int .i64 0]) (by simp [results, Try.results40, go_sem]) rfl ?_
      rw [HV.out, HI.out, HE.out]
      exact ⟨rfl, HB5.out⟩
    · have hez : (opE P [l] != 0) = true := by rw [bne_iff_ne]; exact he
      have HV : Hid (rvV P x l = 0) := (show Hid _ from by show _ = _; unfold rvV; rw [HI.out, if_neg he])
      clear he
      go_wp2_with fail
      refine bodyPost_ret (v := .tuple #[.int .i64 0, .int .i64 (opE P [l])]) (by simp [results, Try.results40, go_sem]) rfl ?_
      rw [HV.out, HI.out]
      exact ⟨rfl, HB4.out⟩
  · have hi2 : inB P [x] = false := by simpa using hi
    rw [hi2]
    have HI : Hid (rvE P x l = 9) := (show Hid _ from by show _ = _; unfold rvE; rw [hi2]; rfl)
    have HV : Hid (rvV P x l = 0) := (show Hid _ from by show _ = _; unfold rvV; rw [HI.out]; rfl)
    clear hi hi2
    go_wp2_with fail
    refine bodyPost_ret (v := .tuple #[.int .i64 0, .int .i64 9]) (by simp [results, Try.results40, go_sem]) rfl ?_
    rw [HV.out, HI.out]
    exact ⟨rfl, HB2.out⟩
end Go.Proofs.Ytbgabipngdillaa
