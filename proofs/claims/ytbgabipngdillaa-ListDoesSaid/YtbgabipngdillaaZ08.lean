/- Joined: Lk. -/
import Derived.Deep.RegionHeld3
import Derived.Test.YtbgabipngdillaaZ07
import Derived.Test.YtbgabipngdillaaZ06
namespace Go.Proofs.Ytbgabipngdillaa
open Go.RowKit Go.Shelf

theorem inE_opE {P : Int} {l : List (Int × Int)} (h : inE P l = 0) : opE P [shX l, shY l] = 0 := by
  unfold inE at h
  by_cases h2 : opE P [shX l, shY l] = 0
  · exact h2
  · rw [if_neg h2] at h
    exact absurd h h2
theorem opE_pr {P : Int} {ls : List (List Int)} (h : opE P ls = 0) : prB P = true := by
  unfold opE at h
  by_cases h1 : prB P = false
  · rw [if_pos h1] at h; omega
  · simpa using h1
theorem inP_els {P : Int} {l : List (Int × Int)} (h : inE P l = 0) : prB P = true ∧ els P (inP P l) = true := by
  have hp := opE_pr (inE_opE h)
  refine ⟨hp, ?_⟩
  unfold inP
  rw [if_pos h]
  exact trim_els (newt_els (prB_bd hp).1 l).1
theorem inP_r {P : Int} {l : List (Int × Int)} : ∀ x ∈ inP P l, i64r x := by
  by_cases h : inE P l = 0
  · have h2 := inP_els h
    exact els_r (prB_bd h2.1).2 h2.2
  · unfold inP
    rw [if_neg h]
    intro x hx
    cases hx
theorem ilinfo : (Try.prog.info? 22).map (fun i => (i.zero, i.size, i.bytes)) = some (some (.slice none 0 0), 1, 24) := by kernel_rfl
/-- the search's own block behind an append to what was found -/
theorem heap5 {s : Nat} {P : Int} {vl : Value} {k ag : Int} {w w' : World} {A : Value} {ps : List (List Int)} {most : Int} {o : Obj} (h : LSt s P vl k ag w A ps most) (hg : (w.alloc o).grownBy w' A.ownBlock) : w'.heap[s]? = w.heap[s]? :=
  (hg.block s (by have := h.lt.1; simp; omega) (fun e => by have := h.lt.2 s e.symm; omega)).trans (Below.heap_alloc _ _ _ h.lt.1)
set_option maxRecDepth 100000 in
set_option maxHeartbeats 4000000 in
theorem look_any (P : Int) (l : List (Int × Bool)) (ch : List (Int × Int)) (k ag : Int) (s : Nat) (vl vc A : Value) (ps : List (List Int)) (most : Int) (w0 w : World) (hP : i64r P) (hl : SCl w0 vl l) (hb0 : Below w0.heap.size w0 w) (hz : l.length ≤ 1000000)
    (hst : LSt s P vl k ag w A ps most) (hc : SG pcs 2 w.heap.size w vc ch) (hcz : ch.length ≤ 1000000) (hps : ps.length ≤ 1000000) :
    Calls Try.prog 79 #[.pointer (some ⟨s, 0, none⟩), vc] w fun e w' => e = .returned (.tuple #[]) ∧ ∃ A', LSt s P vl k ag w' A' (lookS P l ag (ps, most) ch).1 (lookS P l ag (ps, most) ch).2 ∧ LMv s A w A' w' := by
  obtain ⟨i0, hi0, hi1, hi2, hi3⟩ := info_parts ilinfo
  have HL := Lib.hid (hl.below hb0)
  have HC := Lib.hid hc
  have HT := Lib.hid hst
  have hs := hst.cells
  have hsl : s < w.heap.size := heap_of_cells hs
  have c0 : w.cell? ⟨s, 0, none⟩ = some (.int .i64 P) := cell_of_row w s 0 _ _ _ hs
  clear hl hc hs hst hb0
  go_enter Try.func79, Try.ntmps79
  go_wp2_with fail
  (with_reducible refine (interp_any P ch vc _ hP HC.out hcz).mono ?_)
  rintro e w1 ⟨v1, rfl, hown1, hb1⟩
  obtain ⟨A1, k1, rfl⟩ := own_slice hown1
  have HO1 := Lib.hid hown1
  have hz1 := hb1.size
  have HT1 : Hid (LSt s P vl k ag w1 A ps most) := HT.out.below hb1
  clear hown1 c0
  by_cases h0 : inE P ch = 0
  · have H0 := Lib.hid h0
    rw [h0]
    clear h0
    have HSI : Hid (SI w1 (.slice A1 (inP P ch).length k1) (inP P ch)) := SI.of_own HO1.out inP_r
    have HL1 := Lib.hid (HL.out.below hb1)
    have hsl1 : s < w1.heap.size := by omega
    have d0 : w1.cell? ⟨s, 0, none⟩ = some (.int .i64 P) := cell_of_row w1 s 0 _ _ _ HT1.out.cells
    have d1 : w1.cell? ⟨s, 1, none⟩ = some vl := cell_of_row w1 s 1 _ _ _ HT1.out.cells
    go_wp2_with fail
    go_region_held3 (fun w' => w'.cell? ⟨s, 0, none⟩ = some (.int .i64 P) ∧ w'.cell? ⟨s, 1, none⟩ = some vl) (first | exact ⟨d0, d1⟩ | exact ⟨t0, t1⟩ | go_keep)
      (first | (go_at_call 44; refine (agree_any P l (inP P ch) _ _ _ hP (by exact HL1.out) hz (by exact HSI.out)).mono ?_; rintro e w2 ⟨rfl, hb2⟩; have t0 := (hb2.cell (p := ⟨s, 0, none⟩) (by exact hsl1)).trans d0; have t1 := (hb2.cell (p := ⟨s, 1, none⟩) (by exact hsl1)).trans d1))
    clear t0 t1 d0 d1
    have hb2' : Below w1.heap.size w1 w2 := ⟨hb2.os, hb2.tape, hb2.output, hb2.size, hb2.block⟩
    have HT2 : Hid (LSt s P vl k ag w2 A ps most) := HT1.out.below hb2'
    have hz2 : w1.heap.size ≤ w2.heap.size := hb2.size
    have q3 : w2.cell? ⟨s, 3, none⟩ = some (.int .i64 ag) := cell_of_row w2 s 3 _ _ _ HT2.out.cells
    have q4 : w2.cell? ⟨s, 4, none⟩ = some A := cell_of_row w2 s 4 _ _ _ HT2.out.cells
    have q5 : w2.cell? ⟨s, 5, none⟩ = some (.int .i64 most) := cell_of_row w2 s 5 _ _ _ HT2.out.cells
    have r4 : w2.frozen? ⟨s, 4, none⟩ = false := frozen_of_row w2 s 4 _ _ HT2.out.cells
    have r5 : w2.frozen? ⟨s, 5, none⟩ = false := frozen_of_row w2 s 5 _ _ HT2.out.cells
    have hHn : ∃ n, agN P l (inP P ch) = n := ⟨_, rfl⟩
    obtain ⟨n, hn⟩ := hHn
    have HN := Lib.hid hn
    rw [hn]
    clear hn
    generalize agE P l (inP P ch) = e2
    have HB2 := Lib.hid hb2'
    clear hb2 hb2'
    have hHm : ∃ m, (if most < n then n else most) = m := ⟨_, rfl⟩
    obtain ⟨m, hm⟩ := hHm
    have HM := Lib.hid hm
    clear hm
    have HK : Hid ((lookS P l ag (ps, most) ch).1 = (if ag ≤ n then ps ++ [inP P ch] else ps) ∧ (lookS P l ag (ps, most) ch).2 = m) := by
      show _ ∧ _
      unfold lookS
      rw [if_pos H0.out]
      simp only [HN.out]
      exact ⟨trivial, HM.out⟩
    clear q4 r4
    have HQ : Hid (LMv s A w A w2) := (LMv.of_below hb1).trans (LMv.of_below HB2.out)
    by_cases hlt : most < n
    case' pos => have hmm : n = m := by (have := HM.out; rw [if_pos hlt] at this; exact this)
    case' neg => have hmm : most = m := by (have := HM.out; rw [if_neg hlt] at this; exact this)
    case' pos => go_upto_region 4 with fail
    case' neg => go_upto_region 4 with fail
    all_goals
      obtain ⟨w4, ew, hT4, hM4⟩ : ∃ w4 : World, w4 = (w2.setCell ⟨s, 5, none⟩ (.int .i64 m)) ∧ LSt s P vl k ag w4 A ps m ∧ LMv s A w2 A w4 := ⟨_, rfl, (HT2.out.setMost m).1, (HT2.out.setMost m).2⟩
      rw [← ew]
      clear ew hmm q3 q5 r5
      have HT4 := Lib.hid hT4
      have HM4 := Lib.hid hM4
      have q3 : w4.cell? ⟨s, 3, none⟩ = some (.int .i64 ag) := cell_of_row w4 s 3 _ _ _ HT4.out.cells
      have q4 : w4.cell? ⟨s, 4, none⟩ = some A := cell_of_row w4 s 4 _ _ _ HT4.out.cells
      have r4 : w4.frozen? ⟨s, 4, none⟩ = false := frozen_of_row w4 s 4 _ _ HT4.out.cells
      clear hT4 hM4
      by_cases hag : ag ≤ n
      case' pos =>
        have ha2 : decide (ag ≤ n) = true := decide_eq_true hag
        have HK2 := HK.out
        rw [if_pos hag] at HK2
        have HK3 := Lib.hid HK2
        clear HK2
        obtain ⟨vs, ho, hv⟩ := HT4.out.own
        obtain ⟨Af, kf, rfl⟩ := own_slice ho
        have hvl : vs.length = ps.length := by rw [ho.1, Nat.mul_one]
        have HO := Lib.hid ho
        have HV := Lib.hid hv
        have HVL := Lib.hid hvl
        have HSA : Hid (SA s (.slice Af ps.length kf) w4 (.slice A1 (inP P ch).length k1) (inP P ch)) := by
          refine (SA.of_own HO1.out inP_r hsl (fun g hg => (HT1.out.lt.2 g hg) |>.2 |> fun h => ?_)).keep ((LMv.of_below HB2.out).trans HM4.out)
          exact (HT.out.lt.2 g hg).2
        clear ho hv hvl
        have hbas : s + 1 ≤ w4.heap.size := by have := HT4.out.lt.1; omega
        go_upto_region 5 with fail
        go_wp2_with (at_builtin; refine wpList_append_own_at _ rfl _ _ 34 rfl (s + 1) 22 i0 _ 1 24 Try.underlying34 hi0 hi1 hi2 hi3 rfl (by omega) _ _ _ rfl (HO.out.alloc _) ⟨w4.heap.size, 0, none⟩ 1 1 [.slice A1 (inP P ch).length k1] rfl rfl (cells_new w4 _ _) (by intro u hu; simp at hu; subst hu; rfl) (by unfold maxLen; omega) (by omega) (by simp; omega) ?_; intro v' w5 hown5 hgrow5 _ hat5; have HG5 := Lib.hid hgrow5; have HO5 := Lib.hid hown5; have HA5 := Lib.hid hat5; obtain ⟨A5, k5, rfl⟩ := own_slice hown5; have q4' : w5.cell? ⟨s, 4, none⟩ = some (.slice Af ps.length kf) := (World.cell?_of_block (heap5 HT4.out HG5.out)).trans q4; have r4' : w5.frozen? ⟨s, 4, none⟩ = false := (World.frozen?_of_block (heap5 HT4.out HG5.out)).trans r4; clear hgrow5 hown5 hat5)
        go_end0
        rw [HK3.out.1, HK3.out.2]
        have hps := HT4.out.push HV.out HVL.out HSA.out HO5.out (grownBy_trans (World.grownBy_alloc w4 _ _) HG5.out) (fun g hg => by
          rcases HA5.out with e | e
          · exact .inl (e.symm.trans hg)
          · rw [hg] at e
            injection e with e
            subst e
            exact .inr (by simp))
        exact ⟨rfl, _, hps.1, (HQ.out.trans HM4.out).trans hps.2⟩
      case' neg =>
        have ha2 : decide (ag ≤ n) = false := decide_eq_false hag
        have HK2 := HK.out
        rw [if_neg (by omega)] at HK2
        have HK3 := Lib.hid HK2
        clear HK2
        go_wp2_with fail
        go_end0
        rw [HK3.out.1, HK3.out.2]
        exact ⟨rfl, A, HT4.out, HQ.out.trans HM4.out⟩
  · have hb : (inE P ch != 0) = true := by rw [bne_iff_ne]; exact h0
    have HK : Hid (lookS P l ag (ps, most) ch = (ps, most)) := by show _ = _; unfold lookS; rw [if_neg h0]
    go_wp2_with fail
    refine bodyPost_ret (v := .tuple #[]) (by simp [results, Try.results79, go_sem]) rfl ?_
    rw [HK.out]
    exact ⟨rfl, A, HT1.out, LMv.of_below hb1⟩
end Go.Proofs.Ytbgabipngdillaa
