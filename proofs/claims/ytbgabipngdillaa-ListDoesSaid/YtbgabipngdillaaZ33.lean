/- Joined: Lx. -/
import Derived.Test.YtbgabipngdillaaZ32
namespace Go.Proofs.Ytbgabipngdillaa
open Go.RowKit Go.Shelf

def cvs (x : Int × Bool) : List Value := [.int .i64 x.1, .bool x.2]
/-- cells that nothing but their own block's change can turn: a deck at g may go on -/
def SCE (g : Nat) (w : World) (v : Value) (l : List (Int × Bool)) : Prop := ∀ W, w.grownBy W (some g) → SCl W v l
theorem SCE.scl {g : Nat} {w : World} {v : Value} {l : List (Int × Bool)} (h : SCE g w v l) : SCl w v l := h w (grownBy_refl _ _)
theorem SCE.grown {g : Nat} {w w' : World} {v : Value} {l : List (Int × Bool)} (h : SCE g w v l) (hg : w.grownBy w' (some g)) : SCE g w' v l := fun W hW => h W (grownBy_trans hg hW)
theorem SCE.below {g : Nat} {w w' : World} {v : Value} {l : List (Int × Bool)} (h : SCE g w v l) (hb : Below w.heap.size w w') : SCE g w' v l := h.grown (grownBy_of_below hb _)
theorem own_grn {w w' : World} {base e size n g : Nat} {v : Value} {xs : List Value} (h : w.ownsRow base e size v n xs) (hg : w.grownBy w' (some g)) (hgb : g < base) : w'.ownsRow base e size v n xs := by
  refine ⟨h.1, ?_⟩
  rcases h.2 with h0 | ⟨b, cap, cur, h1, h2, h3, h4⟩
  · exact .inl h0
  · exact .inr ⟨b, cap, cur, h1, h2, (hg.block b (heap_of_cells h3) (by simp; omega)).trans h3, h4⟩
theorem grn_own {a w w' : World} {r s : Option Nat} (h : a.grownBy w r) (hg : w.grownBy w' s) (hs : ∀ k, s = some k → a.heap.size ≤ k) : a.grownBy w' r :=
  ⟨hg.os.trans h.os, hg.tape.trans h.tape, hg.output.trans h.output, Nat.le_trans h.size hg.size, fun k hk hne => (hg.block k (Nat.lt_of_lt_of_le hk h.size) fun e => by have := hs k e.symm; omega).trans (h.block k hk hne)⟩
theorem cvs_get (l : List (Int × Bool)) : ∀ j (h : j < l.length), (l.flatMap cvs)[j * 2]? = some (.int .i64 l[j].1) ∧ (l.flatMap cvs)[j * 2 + 1]? = some (.bool l[j].2) := by
  induction l with
  | nil => intro j h; simp at h
  | cons x l ih =>
    intro j h
    cases j with
    | zero => simp [cvs]
    | succ j =>
      have := ih j (by simpa using h)
      have e1 : (j + 1) * 2 = j * 2 + 1 + 1 := by omega
      rw [e1]
      simpa [cvs] using this
theorem SCl.of_own {w : World} {base e : Nat} {v : Value} {l : List (Int × Bool)} (h : w.ownsRow base e 2 v l.length (l.flatMap cvs)) (hr : ∀ x ∈ l, i64r x.1) : SCl w v l := by
  rcases h.2 with ⟨rfl, hn⟩ | ⟨g, cap, cur, rfl, hb, hg, hnc, hcm, hcs, htake⟩
  · have : l = [] := List.eq_nil_of_length_eq_zero hn
    subst this
    exact ⟨none, 0, rfl, Nat.le_refl _, by omega, hr, fun h => by simp at h⟩
  · refine ⟨_, cap, rfl, hnc, by simpa [maxLen] using hcm, hr, fun h0 => ⟨g, 0, rfl, heap_of_cells hg, fun j hj => ?_⟩⟩
    obtain ⟨h1, h2⟩ := cvs_get l j hj
    have c1 := h.cellAt (j * 2) (by omega)
    have c2 := h.cellAt (j * 2 + 1) (by omega)
    rw [Nat.zero_add]
    rw [h1] at c1
    rw [h2] at c2
    exact ⟨c1, c2⟩
theorem SCE.of_own {g : Nat} {w : World} {base e : Nat} {v : Value} {l : List (Int × Bool)} (h : w.ownsRow base e 2 v l.length (l.flatMap cvs)) (hr : ∀ x ∈ l, i64r x.1) (hg : g < base) : SCE g w v l :=
  fun _ hW => SCl.of_own (own_grn h hW hg) hr
theorem clinfo : (Try.prog.info? 33).map (fun i => (i.zero, i.size, i.bytes)) = some (some (.agg #[.int .i64 0, .bool false]), 2, 16) := by kernel_rfl

def CeR (g : Nat) (P : Int) (n : Nat) (w3 : World) (v iv : Value) (wr : World) : Prop :=
  ∃ (i : Nat) (l : List (Int × Bool)), i ≤ n ∧ l.length + i = n ∧ iv = .int .i64 ((i : Int) - 1) ∧ (∀ x ∈ l, el P x.1 = true) ∧ wr.ownsRow w3.heap.size 33 2 v l.length (l.flatMap cvs) ∧ Dk wr g ∧ w3.grownBy wr (some g)
set_option maxRecDepth 100000 in
set_option maxHeartbeats 4000000 in
theorem lcells_any (g : Nat) (w : World) (hD : Dk w g) :
    Calls Try.prog 10 #[.pointer (some ⟨g, 0, none⟩)] w fun e w' => ∃ P v l, e = .returned (.tuple #[.agg #[.int .i64 P], v]) ∧ prB P = true ∧ 8 < P ∧ 1 ≤ l.length ∧ l.length ≤ 8 ∧ (∀ x ∈ l, el P x.1 = true) ∧ SCE g w' v l ∧ Dk w' g ∧ w.grownBy w' (some g) := by
  obtain ⟨i0, hi0, hi1, hi2, hi3⟩ := info_parts clinfo
  have HD := Lib.hid hD
  have hgw : g < w.heap.size := hD.lt
  clear hD
  go_enter Try.func10, Try.ntmps10
  obtain ⟨F, eF⟩ : ∃ F, F = w.heap.size := ⟨_, rfl⟩
  obtain ⟨w1, ew1⟩ : ∃ w1 : World, w1 = w.alloc (.cells #[.int .i64 0] 26) := ⟨_, rfl⟩
  have HWw1 : Hid (w.alloc (.cells #[.int .i64 0] 26) = w1) := ew1.symm
  have HAw1 : Hid (Below w.heap.size w w1) := (show Hid _ from by rw [ew1]; exact (Below.refl _ w).alloc (Nat.le_refl _) _)
  have HF0w1 : Hid (w1.heap[F]? = some (.cells #[.int .i64 0] 26 (0, 0))) := (show Hid _ from by show _ = _; rw [ew1, eF]; exact heap_alloc_new w _)
  have HF0 : Hid (F = w.heap.size) := eF
  go_upto_region 1 with fail
  rw [HWw1.out, ← eF]
  clear ew1 eF
  have HD1 : Hid (Dk w1 g) := (show Hid _ from HD.out.below HAw1.out)
  go_wp2_with fail
  (with_reducible refine (big_any g 8 w1 HD1.out (by omega) (by omega)).mono ?_)
  rintro e w2 ⟨P, rfl, hd2, hg2, hp, hP8⟩
  have HP := Lib.hid hp
  have hPb := prB_bd hp
  have HG2 : Hid (w1.grownBy w2 (some g)) := (show Hid _ from hg2)
  clear hp
  obtain ⟨B, eB⟩ : ∃ B, B = w2.heap.size := ⟨_, rfl⟩
  obtain ⟨w3, ew3⟩ : ∃ w3 : World, w3 = w2.alloc (.cells #[.int .i64 P] 26) := ⟨_, rfl⟩
  have HWw3 : Hid (w2.alloc (.cells #[.int .i64 P] 26) = w3) := ew3.symm
  have HAw3 : Hid (Below w2.heap.size w2 w3) := (show Hid _ from by rw [ew3]; exact (Below.refl _ w2).alloc (Nat.le_refl _) _)
  have HB0w3 : Hid (w3.heap[B]? = some (.cells #[.int .i64 P] 26 (0, 0))) := (show Hid _ from by show _ = _; rw [ew3, eB]; exact heap_alloc_new w2 _)
  have HD3 : Hid (Dk w3 g) := (show Hid _ from hd2.below HAw3.out)
  have HG3 : Hid (w1.grownBy w3 (some g)) := (show Hid _ from grownBy_trans hg2 (grownBy_of_below HAw3.out _))
  have hgB : g < B := by rw [eB]; exact hd2.lt
  have HGB : Hid (g < w3.heap.size) := HD3.out.lt
  have HXC : Hid (∀ W, w3.grownBy W (some g) → W.cell? ⟨B, 0, none⟩ = some (.int .i64 P)) := (show Hid _ from fun W hg => by
    have hB0 := (hg.block B (heap_of_cells HB0w3.out) (by have := HGB.out; simp; omega)).trans HB0w3.out
    exact (cell_of_row W B 0 _ _ _ hB0))
  have HXF : Hid (∀ W, w1.grownBy W (some g) → W.cell? ⟨F, 0, none⟩ = some (.int .i64 0) ∧ W.frozen? ⟨F, 0, none⟩ = false) := (show Hid _ from fun W hg => by
    have hF := (hg.block F (heap_of_cells HF0w1.out) (by have := HF0.out; simp; omega)).trans HF0w1.out
    exact ⟨cell_of_row W F 0 _ _ _ hF, by simp [World.frozen?, hF]⟩)
  clear hd2 hg2
  go_upto_region 2 with fail
  rw [HWw3.out, ← eB]
  clear ew3 eB
  go_wp2_with fail
  (with_reducible refine (next_any 8 g w3 HD3.out (by unfold i64r; omega) (by omega)).mono ?_)
  rintro e w4 ⟨n0, rfl, _, hn, hd4, hg4⟩
  obtain ⟨n, hnn⟩ : ∃ n : Nat, (n : Int) - 1 = n0 := ⟨(n0 + 1).toNat, by have := hn (by omega); omega⟩
  have hn8 : 1 ≤ n ∧ n ≤ 8 := by have := hn (by omega); omega
  subst hnn
  have HD4 := Lib.hid hd4
  have HG4 := Lib.hid hg4
  clear hn hd4 hg4
  go_wp2_with fail
  go_loopw [5, 6] (fun v iv wr => CeR g P n w3 v iv wr) (fun _ iv _ => (intOf iv + 1).toNat)
  case atStart => exact ⟨n, [], Nat.le_refl _, by simp, rfl, fun x hx => by simp at hx, World.ownsRow_nil _ _ _ _, HD4.out, HG4.out⟩
  case round =>
    obtain ⟨i, l, hi, hli, rfl, hel, hown, hdr, hgr⟩ := hrel
    have HO := Lib.hid hown
    have HEL := Lib.hid hel
    have HDr := Lib.hid hdr
    have HGr := Lib.hid hgr
    clear hown hdr hgr hel
    have x0 := HXC.out wr HGr.out
    by_cases h0 : 1 ≤ i
    · have d0 : decide ((0 : Int) ≤ (i : Int) - 1) = true := decide_eq_true (by omega)
      have hmin : min P 5 = 5 := by omega
      go_wp2_with fail
      (with_reducible refine (next_any 5 g wr HDr.out (by unfold i64r; omega) (by omega)).mono ?_)
      rintro e w5 ⟨xv, rfl, _, hx, hd5, hg5⟩
      have hxv := hx (by omega)
      have HD5 := Lib.hid hd5
      have HG5 := Lib.hid (grownBy_trans HGr.out hg5)
      have HO5 := Lib.hid (own_grn HO.out hg5 HGB.out)
      clear hx hd5 hg5
      go_wp2_with fail
      (with_reducible refine (next_any 6 g w5 HD5.out (by unfold i64r; omega) (by omega)).mono ?_)
      rintro e w6 ⟨yv, rfl, _, hy, hd6, hg6⟩
      have hyv := hy (by omega)
      have HD6 := Lib.hid hd6
      have HG6 : Hid (w3.grownBy w6 (some g)) := (show Hid _ from grownBy_trans HG5.out hg6)
      have HO6 := Lib.hid (own_grn HO5.out hg6 HGB.out)
      have hz36 : w3.heap.size ≤ w6.heap.size := HG6.out.size
      have hl8 : l.length ≤ 8 := by omega
      clear hy hd6 hg6 HO5 HG5 HO
      obtain ⟨bv, ebv⟩ : ∃ bv : Bool, bv = decide (0 < yv) := ⟨_, rfl⟩
      have HBV : Hid (decide (0 < yv) = bv) := (show Hid _ from ebv.symm)
      have hbv2 : decide (0 < yv) = bv := ebv.symm
      clear ebv
      go_wp2_with (at_builtin; refine wpList_append_own _ rfl _ _ 27 rfl w3.heap.size 33 i0 _ 2 16 Try.underlying27 hi0 hi1 hi2 hi3 rfl (by omega) _ _ _ rfl (HO6.out.alloc _) ⟨w6.heap.size, 0, none⟩ 1 1 (cvs (xv, bv)) rfl rfl (cells_new w6 _ _) (by intro u hu; simp [cvs] at hu; rcases hu with rfl | rfl <;> rfl) (by unfold maxLen; omega) (by omega) (by simp; omega) ?_; intro v3 w7 hown7 hg7 _; have HO7 := Lib.hid hown7; have HG7 := Lib.hid hg7; clear hown7 hg7)
      go_roundw
      case rel =>
        have hA : Below w6.heap.size w6 (w6.alloc (.cells #[.int .i64 xv, .bool bv] 33)) := (Below.refl _ w6).alloc (Nat.le_refl _) _
        have hG := grn_own (grownBy_trans HG6.out (grownBy_of_below hA (some g))) HG7.out (fun k hk => (HO6.out.lt k hk).1)
        refine ⟨i - 1, l ++ [(xv, bv)], by omega, by simp; omega, by first | rfl | go_num | (congr 1; omega), ?_, by simpa using HO7.out, ?_, hG⟩
        · intro x hx
          rcases List.mem_append.1 hx with h | h
          · exact HEL.out x h
          · simp at h
            subst h
            simp [el]
            omega
        · exact (HD6.out.below hA).grown HG7.out (fun k hk => by have := (HO6.out.lt k hk).1; have := HGB.out; omega)
      case measure => simp [intOf]; omega
    · have d0 : decide ((0 : Int) ≤ (i : Int) - 1) = false := decide_eq_false (by omega)
      have hF := HXF.out wr (grownBy_trans HG3.out HGr.out)
      obtain ⟨f0, f1⟩ := hF
      go_wp2_with fail
      refine bodyPost_ret (v := .tuple #[.agg #[.int .i64 P], u5]) (by simp [results, Try.results10, go_sem, f0]) rfl ?_
      have hl : l.length = n := by omega
      have hz3 := HGr.out.size
      refine ⟨P, u5, l, rfl, HP.out, hP8, by omega, by omega, HEL.out, ?_, ?_, ?_⟩
      · exact SCE.of_own (own_setCell' HO.out (by have := HF0.out; have := HG3.out.size; have := heap_of_cells HF0w1.out; show F < _; omega)) (fun x hx => el_r hPb.2 (HEL.out x hx)) HGB.out
      · have hne : ¬ F = g := by have := HF0.out; omega
        exact HDr.out.of fun k hk => heap_setCell_other wr ⟨F, 0, none⟩ k _ (by show ¬ _ = _; have := HF0.out; show ¬ _; intro e; simp only at e; omega)
      · exact grownBy_setCell (grownBy_trans (grownBy_of_below HAw1.out _) (grownBy_trans HG3.out HGr.out)) (.inr (by show _ ≤ F; have := HF0.out; omega)) _
end Go.Proofs.Ytbgabipngdillaa
