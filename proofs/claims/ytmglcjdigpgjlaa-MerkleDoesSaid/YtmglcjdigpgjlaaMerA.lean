/- What MerkleDoes computes. -/
import Derived.Test.YtmglcjdigpgjlaaMerH
import Derived.ArgAppend
import Derived.Deep.CutRange
import Derived.Deep.AppendLies
namespace Go.Proofs.Ytmglcjdigpgjlaa
open Go.RowKit

theorem SI.kept {w w' : World} {g : Nat} {v : Value} {l : List Int} (h : SI w v l) (hg : w.grownBy w' (some g)) (hne : ∀ k, 0 < l.length → v.ownBlock = some k → k ≠ g) : SI w' v l := by
  obtain ⟨A, c, rfl, hc, hm, hr, ha⟩ := h
  refine ⟨A, c, rfl, hc, hm, hr, fun h0 => ?_⟩
  obtain ⟨b, off, rfl, hb, hcell⟩ := ha h0
  exact ⟨b, off, rfl, by have := hg.size; omega, fun j hj => (World.cell?_of_block (hg.block b hb (fun e => hne b h0 rfl (by injection e)))).trans (hcell j hj)⟩
/-- a slice that reads l and does not lie in the block g -/
def SJ (g : Nat) (w : World) (v : Value) (l : List Int) : Prop := SI w v l ∧ ∀ k, 0 < l.length → v.ownBlock = some k → k ≠ g
theorem SJ.si {g : Nat} {w : World} {v : Value} {l : List Int} (h : SJ g w v l) : SI w v l := h.1
theorem SJ.kept {g : Nat} {w w' : World} {v : Value} {l : List Int} (h : SJ g w v l) (hg : w.grownBy w' (some g)) : SJ g w' v l := ⟨h.1.kept hg h.2, h.2⟩
theorem SJ.below {g : Nat} {w w' : World} {v : Value} {l : List Int} (h : SJ g w v l) (hb : Below w.heap.size w w') : SJ g w' v l := ⟨h.1.below hb, h.2⟩
def fdI (l : List Int) (x : Int) : Int := if fdE l x = 0 then x else 0
def fdC (l : List Int) (x : Int) : Int := if fdE l x = 0 then (l.length : Int) else 0
theorem fdV_eq (l : List Int) (x : Int) (v : Value) : fdV l x v = .tuple #[.agg #[.int .i64 (fdI l x), .int .i64 (fdC l x), v], .int .i64 (fdE l x)] := rfl
theorem lead_len {l : List Int} (x : Int) : (fdP l x).length ≤ l.length := by
  unfold fdP
  split
  · exact path_le l _
  · exact Nat.zero_le _

theorem smB_self (a b : Int) (x : List Int) : smB a b a b x x = true := decide_eq_true ⟨rfl, rfl, rfl⟩
theorem fdI_bd (l : List Int) (x : Int) (h : l.length ≤ 1100) : 0 ≤ fdI l x ∧ fdI l x ≤ 1100 := by
  unfold fdI
  by_cases e : fdE l x = 0
  · rw [if_pos e]
    unfold fdE at e
    by_cases h0 : lsE l ≠ 0
    · rw [if_pos h0] at e; omega
    · rw [if_neg h0] at e
      split at e <;> omega
  · rw [if_neg e]; omega
theorem fdC_bd (l : List Int) (x : Int) (h : l.length ≤ 1100) : 0 ≤ fdC l x ∧ fdC l x ≤ 1100 := by
  unfold fdC
  split <;> omega
/-- the bent path in the box b -/
def Bent (b : Nat) (C : Int) (w : World) : Prop := ∃ bI bl A c, w.cell? ⟨b, 0, none⟩ = some (.int .i64 bI) ∧ w.cell? ⟨b, 1, none⟩ = some (.int .i64 C) ∧ w.cell? ⟨b, 2, none⟩ = some (.slice A bl.length c) ∧ SI w (.slice A bl.length c) bl ∧ i64r bI ∧ bl.length ≤ 1100

theorem bent_store {w : World} {B g cap n : Nat} {bI C : Int} {bl : List Int} {u : Value} (q0 : w.cell? ⟨B, 0, none⟩ = some (.int .i64 bI)) (q1 : w.cell? ⟨B, 1, none⟩ = some (.int .i64 C)) (q2 : w.cell? ⟨B, 2, none⟩ = some u)
    (hS : SI w (.slice (some ⟨g, 0, none⟩) n cap) bl) (hn : n = bl.length) (hne : g ≠ B) (hr : i64r bI) (hl : n ≤ 1100) : Bent B C (w.setCell ⟨B, 2, none⟩ (.slice (some ⟨g, 0, none⟩) n cap)) := by
  subst hn
  have hs : w.grownBy (w.setCell ⟨B, 2, none⟩ (.slice (some ⟨g, 0, none⟩) bl.length cap)) (some B) := grownBy_setCell (grownBy_refl _ _) (.inl rfl) _
  refine ⟨bI, bl, _, _, (World.cell?_setCell_other _ _ _ _ (by simp)).trans q0, (World.cell?_setCell_other _ _ _ _ (by simp)).trans q1, World.cell?_setCell_same _ _ _ q2, hS.kept hs (fun k _ hk => ?_), hr, hl⟩
  simp [Value.ownBlock] at hk
  omega
theorem bent_inc {w : World} {B cap : Nat} {A : Option Addr} {bI C x : Int} {bl : List Int} (q0 : w.cell? ⟨B, 0, none⟩ = some (.int .i64 bI)) (q1 : w.cell? ⟨B, 1, none⟩ = some (.int .i64 C)) (q2 : w.cell? ⟨B, 2, none⟩ = some (.slice A bl.length cap))
    (hS : SI w (.slice A bl.length cap) bl) (hne : ∀ k, 0 < bl.length → (Value.slice A bl.length cap).ownBlock = some k → k ≠ B) (hr : i64r x) (hl : bl.length ≤ 1100) : Bent B C (w.setCell ⟨B, 0, none⟩ (.int .i64 x)) := by
  have hs : w.grownBy (w.setCell ⟨B, 0, none⟩ (.int .i64 x)) (some B) := grownBy_setCell (grownBy_refl _ _) (.inl rfl) _
  exact ⟨x, bl, _, _, World.cell?_setCell_same _ _ _ q0, (World.cell?_setCell_other _ _ _ _ (by simp)).trans q1, (World.cell?_setCell_other _ _ _ _ (by simp)).trans q2, hS.kept hs hne, hr, hl⟩

set_option maxRecDepth 100000 in
set_option maxHeartbeats 4000000 in
theorem mdoes_walk (t raw ds : List Int) (vt vraw vds : Value) (I C idx dig rot cnt : Int) (w : World) (ht : SI w vt t) (hraw : SI w vraw raw) (hds : SI w vds ds)
    (hI : i64r I) (hC : i64r C) (hidx : i64r idx) (hdig : i64r dig) (hrot : i64r rot) (hcnt : i64r cnt) :
    Calls Try.prog 6 #[vt, vraw, .agg #[.int .i64 I, .int .i64 C, vds], .int .i64 idx, .int .i64 dig, .int .i64 rot, .int .i64 cnt] w fun e w' => e = .returned (.bool true) ∧ Below w.heap.size w w' := by
  have hbP : Below w.heap.size w (w.alloc (.cells #[.int .i64 I, .int .i64 C, vds] 46)) := (Below.refl _ _).alloc (Nat.le_refl _) _
  obtain ⟨Ar, cr, rfl, hccr, hcmr, hrr, har⟩ := id hraw
  obtain ⟨Ad, cd, rfl, hccd, hcmd, hrd, had⟩ := id hds
  have HRAW := Lib.hid hraw
  have HDS := Lib.hid hds
  clear hrr har hrd had hraw hds
  go_enter Try.func6, Try.ntmps6
  go_wp2_with fail
  (with_reducible refine (rsane_any _).mono ?_); rintro e w1 ⟨rfl, hb1⟩
  have hW1 := hbP.trans (hb1.mono (by simp))
  have hz1 := hb1.size
  simp at hz1
  have p0 : w1.cell? ⟨w.heap.size, 0, none⟩ = some (.int .i64 I) := own_cell hb1 0
  have p1 : w1.cell? ⟨w.heap.size, 1, none⟩ = some (.int .i64 C) := own_cell hb1 1
  have p2 : w1.cell? ⟨w.heap.size, 2, none⟩ = some (.slice Ad ds.length cd) := own_cell hb1 2
  have ht1 := SI.below ht hW1
  go_wp2_with fail
  (with_reducible refine (few_any t vt _ ht1).mono ?_); rintro e w' ⟨rfl, rfl⟩
  by_cases hf : t.length ≤ 500
  · rw [decide_eq_true hf]
    by_cases hr1 : 1100 < raw.length
    · have hd1 : decide ((1100 : Int) < (raw.length : Int)) = true := by simp; omega
      have hd2 : decide (1100 < raw.length) = true := decide_eq_true hr1
      go_wp2_with fail
      go_ret
      exact ⟨rfl, hW1⟩
    by_cases hr2 : 100 < ds.length
    · have hd1 : decide ((1100 : Int) < (raw.length : Int)) = false := by simp; omega
      have hd2 : decide (1100 < raw.length) = false := decide_eq_false hr1
      have hd3 : decide ((100 : Int) < (ds.length : Int)) = true := by simp; omega
      have hd4 : decide (100 < ds.length) = true := decide_eq_true hr2
      go_wp2_with fail
      go_ret
      exact ⟨rfl, hW1⟩
    have hd1 : decide ((1100 : Int) < (raw.length : Int)) = false := by simp; omega
    have hd2 : decide (1100 < raw.length) = false := decide_eq_false hr1
    have hd3 : decide ((100 : Int) < (ds.length : Int)) = false := by simp; omega
    have hd4 : decide (100 < ds.length) = false := decide_eq_false hr2
    have hlr : raw.length ≤ 1100 := by omega
    have hld : ds.length ≤ 100 := by omega
    go_wp2_with fail
    (with_reducible refine (new_any t vt _ ht1).mono ?_); rintro e w2 ⟨rfl, hdk2, hb2, hz2⟩
    have hW2 := hW1.trans (hb2.mono (by omega))
    go_wp2_with fail
    (with_reducible refine (leaves_any _ _ hdk2).mono ?_); rintro e w3 ⟨v3, own, rfl, hl, hall, hown3, hdk3, hg3⟩
    have hz3 := hg3.size
    have hS3 : SI w3 v3 own := SI.of_own hown3 fun x hx => dg_r (hall x hx)
    have hR2 := HRAW.out.below hW2
    have hD2 := HDS.out.below hW2
    have hR3 : SI w3 (.slice Ar raw.length cr) raw := hR2.kept hg3 (fun k h0 hk => by have := HRAW.out.own_lt h0 k hk; omega)
    have hD3 : SI w3 (.slice Ad ds.length cd) ds := hD2.kept hg3 (fun k h0 hk => by have := HDS.out.own_lt h0 k hk; omega)
    have hW3 := hW2.trans (below_of_grownBy hg3 (by omega) (by omega))
    obtain ⟨Ao, co, rfl, hcco, hcmo, _, _⟩ := id hS3
    have hob : ∀ k, (Value.slice Ao own.length co).ownBlock = some k → w2.heap.size ≤ k := fun k hk => (hown3.lt k hk).1
    have HOB := Lib.hid hob
    have HALL := Lib.hid hall
    have HR3 := Lib.hid hR3
    have HD3 := Lib.hid hD3
    have HS3 := Lib.hid hS3
    clear hob hall hR2 hD2 hR3 hD3 hS3
    go_wp2_with fail
    obtain ⟨w5, ew⟩ : ∃ w5 : World, w5 = w3.alloc (.cells #[.slice Ar raw.length cr, .slice Ao own.length co] 22) := ⟨_, rfl⟩
    have hbA : Below w3.heap.size w3 w5 := by rw [ew]; exact (Below.refl _ _).alloc (Nat.le_refl _) _
    have hz5 : w3.heap.size < w5.heap.size := by rw [ew]; simp
    have c0 : w5.cell? ⟨w3.heap.size, 0, none⟩ = some (.slice Ar raw.length cr) := by rw [ew]; exact cell_of_row _ _ 0 _ _ (0, 0) (heap_alloc_new w3 _)
    have c1 : w5.cell? ⟨w3.heap.size, 1, none⟩ = some (.slice Ao own.length co) := by rw [ew]; exact cell_of_row _ _ 1 _ _ (0, 0) (heap_alloc_new w3 _)
    have hdk5 : Dk w5 w1.heap.size := by rw [ew]; exact hdk3.alloc _
    rw [← ew]
    clear ew
    have HR5 := Lib.hid (HR3.out.below hbA)
    have HD5 := Lib.hid (HD3.out.below hbA)
    have HS5 := Lib.hid (HS3.out.below hbA)
    have hW5 := hW3.trans (hbA.mono hW3.size)
    go_loopw [68] (fun i wr => ∃ k : Nat, k ≤ 2 ∧ i = .int .i64 k ∧ w5.grownBy wr (some w1.heap.size) ∧ Dk wr w1.heap.size) (fun i _ => 2 - (intOf i).toNat)
    case atStart => exact ⟨0, by omega, rfl, grownBy_refl _ _, hdk5⟩
    case round =>
      obtain ⟨k, hk, rfl, hgr, hdk⟩ := hrel
      have hzr := hgr.size
      have hWr := hW5.trans (below_of_grownBy hgr (by omega) (by omega))
      by_cases hlt : k < 2
      · have hd5 : decide ((k : Int) < 2) = true := by simp; omega
        have hd6 : decide (k < 2) = true := decide_eq_true hlt
        obtain ⟨A, c, l, cl, hcl, hSl, hll⟩ : ∃ A c, ∃ l : List Int, ∃ _ : wr.cell? ⟨w3.heap.size, k, none⟩ = some (.slice A l.length c), True ∧ SJ w1.heap.size wr (.slice A l.length c) l ∧ l.length ≤ 1100 := by
          have h2 : k = 0 ∨ k = 1 := by omega
          rcases h2 with rfl | rfl
          · exact ⟨Ar, cr, raw, hgr.cell c0 (by simp; omega), trivial, SJ.kept ⟨HR5.out, fun k h0 hk => by have := HRAW.out.own_lt h0 k hk; omega⟩ hgr, hlr⟩
          · exact ⟨Ao, co, own, hgr.cell c1 (by simp; omega), trivial, SJ.kept ⟨HS5.out, fun k _ hk => by have := HOB.out k hk; omega⟩ hgr, by omega⟩
        have HSl := Lib.hid hSl
        clear hSl
        go_wp2_with fail
        (with_reducible refine (proot_any l _ _ HSl.out.si).mono ?_); rintro e w6 ⟨rfl, hb6⟩
        have HS6 := Lib.hid (HSl.out.below hb6)
        have hz6 := hb6.size
        go_wp2_with fail
        (with_reducible refine (rroot_any l _ _ HS6.out.si).mono ?_); rintro e w7 ⟨rfl, hb7⟩
        have HS7 := Lib.hid (HS6.out.below hb7)
        have hz7 := hb7.size
        go_wp2_with fail
        (with_reducible refine (mod_any _ _ _ (by omega) (by omega)).mono ?_); rintro e w' ⟨rfl, rfl⟩
        go_wp2_with fail
        obtain ⟨wq, ew⟩ : ∃ wq : World, wq = w7.alloc (.cells #[.int .i64 idx, .int .i64 (idx % ((l.length : Int) + 1))] 3) := ⟨_, rfl⟩
        have hbB : Below w7.heap.size w7 wq := by rw [ew]; exact (Below.refl _ _).alloc (Nat.le_refl _) _
        have hzq : w7.heap.size < wq.heap.size := by rw [ew]; simp
        have d0 : wq.cell? ⟨w7.heap.size, 0, none⟩ = some (.int .i64 idx) := by rw [ew]; exact cell_of_row _ _ 0 _ _ (0, 0) (heap_alloc_new w7 _)
        have d1 : wq.cell? ⟨w7.heap.size, 1, none⟩ = some (.int .i64 (idx % ((l.length : Int) + 1))) := by rw [ew]; exact cell_of_row _ _ 1 _ _ (0, 0) (heap_alloc_new w7 _)
        rw [← ew]
        clear ew
        have hbr : Below wr.heap.size wr wq := (hb6.trans (hb7.mono hz6)).trans (hbB.mono (by omega))
        have HSq := Lib.hid (HS7.out.below hbB)
        have hdkq := hdk.below hbr
        have hgq := grownBy_trans hgr (grownBy_of_below hbr _)
        obtain ⟨wo, rfl⟩ : ∃ wo : World, wo = wr := ⟨_, rfl⟩
        go_loopw [98] (fun i wr2 => ∃ k : Nat, k ≤ 2 ∧ i = .int .i64 k ∧ wq.grownBy wr2 (some w1.heap.size) ∧ Dk wr2 w1.heap.size) (fun i _ => 2 - (intOf i).toNat)
        case atStart => exact ⟨0, by omega, rfl, grownBy_refl _ _, hdkq⟩
        case round =>
          obtain ⟨k2, hk2, rfl, hgr2, hdkr2⟩ := hrel
          obtain ⟨wr2, rfl⟩ : ∃ wo : World, wo = wr := ⟨_, rfl⟩
          have hzr2 := hgr2.size
          by_cases hlt2 : k2 < 2
          · have hd7 : decide ((k2 : Int) < 2) = true := by simp; omega
            have hd8 : decide (k2 < 2) = true := decide_eq_true hlt2
            obtain ⟨x, hcx, hxr⟩ : ∃ x : Int, wr2.cell? ⟨w7.heap.size, k2, none⟩ = some (.int .i64 x) ∧ i64r x := by
              have h2 : k2 = 0 ∨ k2 = 1 := by omega
              rcases h2 with rfl | rfl
              · exact ⟨idx, hgr2.cell d0 (by simp; omega), hidx⟩
              · have h1 := Int.emod_nonneg idx (show (l.length : Int) + 1 ≠ 0 by omega)
                have h2 := Int.emod_lt_of_pos idx (show 0 < (l.length : Int) + 1 by omega)
                exact ⟨_, hgr2.cell d1 (by simp; omega), by unfold i64r; omega⟩
            have HSr := Lib.hid (HSq.out.kept hgr2)
            go_wp2_with fail
            (with_reducible refine (pfind_any l _ x _ HSr.out.si hxr).mono ?_); rintro e w8 ⟨v8, rfl, hS8, hb8⟩
            rw [fdV_eq]
            obtain ⟨A8, c8, rfl, hcc8, hcm8, _, _⟩ := id hS8
            have HSr8 := Lib.hid (HSr.out.below hb8)
            have hz8 := hb8.size
            go_wp2_with fail
            have hb8a : Below w8.heap.size w8 (w8.alloc (.cells #[.int .i64 (fdI l x), .int .i64 (fdC l x), .slice A8 (fdP l x).length c8] 46)) := (Below.refl _ _).alloc (Nat.le_refl _) _
            have HSr8a := Lib.hid (HSr8.out.below hb8a)
            (with_reducible refine (rfindp_fresh l _ x _ HSr8a.out.si hxr).mono ?_); rintro e w9 ⟨v9, rfl, hS9, hfr9, hb9⟩
            rw [fdV_eq]
            obtain ⟨A9, c9, rfl, hcc9, hcm9, hr9, ha9⟩ := id hS9
            have hPl := lead_len (l := l) x
            have hbI := fdI_bd l x hll
            have hbC := fdC_bd l x hll
            have HSx9 := Lib.hid (SI.below (SI.below hS8 hb8a) hb9)
            have HSy9 := Lib.hid hS9
            have HFR9 := Lib.hid hfr9
            have HA9 := Lib.hid ha9
            have HR9 := Lib.hid hr9
            have hz9 := hb9.size
            simp at hz9
            have hb89 : Below wr2.heap.size wr2 w9 := (hb8.trans (hb8a.mono hz8)).trans (hb9.mono (by simp; omega))
            have HSl9 := Lib.hid ((HSr.out.below hb89))
            have hdk9 := hdkr2.below hb89
            clear hS8 hS9 hfr9 ha9 hr9
            have v0 : w9.cell? ⟨w8.heap.size, 0, none⟩ = some (.int .i64 (fdI l x)) := own_cell hb9 0
            have v1 : w9.cell? ⟨w8.heap.size, 1, none⟩ = some (.int .i64 (fdC l x)) := own_cell hb9 1
            have v2 : w9.cell? ⟨w8.heap.size, 2, none⟩ = some (.slice A8 (fdP l x).length c8) := own_cell hb9 2
            go_upto_region 19 with fail
            obtain ⟨wz, ew⟩ : ∃ wz : World, wz = w9.alloc (.cells #[.int .i64 (fdI l x), .int .i64 (fdC l x), .slice A9 (fdP l x).length c9] 46) := ⟨_, rfl⟩
            have hb9a : Below w9.heap.size w9 wz := by rw [ew]; exact (Below.refl _ _).alloc (Nat.le_refl _) _
            have hzz : w9.heap.size < wz.heap.size := by rw [ew]; simp
            have x0 := (hb9a.cell (p := ⟨w8.heap.size, 0, none⟩) hz9).trans v0
            have x1 := (hb9a.cell (p := ⟨w8.heap.size, 1, none⟩) hz9).trans v1
            have x2 := (hb9a.cell (p := ⟨w8.heap.size, 2, none⟩) hz9).trans v2
            have y0 : wz.cell? ⟨w9.heap.size, 0, none⟩ = some (.int .i64 (fdI l x)) := by rw [ew]; exact cell_of_row _ _ 0 _ _ (0, 0) (heap_alloc_new w9 _)
            have y1 : wz.cell? ⟨w9.heap.size, 1, none⟩ = some (.int .i64 (fdC l x)) := by rw [ew]; exact cell_of_row _ _ 1 _ _ (0, 0) (heap_alloc_new w9 _)
            have y2 : wz.cell? ⟨w9.heap.size, 2, none⟩ = some (.slice A9 (fdP l x).length c9) := by rw [ew]; exact cell_of_row _ _ 2 _ _ (0, 0) (heap_alloc_new w9 _)
            rw [← ew]
            clear ew v0 v1 v2
            go_wp2_with fail
            (with_reducible refine (same_any _ _ _ _ (fdP l x) (fdP l x) _ _ _ (HSx9.out.below hb9a) (HSy9.out.below hb9a)).mono ?_); rintro e w10 ⟨rfl, hb10⟩
            rw [smB_self]
            have z0 := (hb10.cell (p := ⟨w9.heap.size, 0, none⟩) hzz).trans y0
            have z1 := (hb10.cell (p := ⟨w9.heap.size, 1, none⟩) hzz).trans y1
            have z2 := (hb10.cell (p := ⟨w9.heap.size, 2, none⟩) hzz).trans y2
            clear x0 x1 x2 y0 y1 y2
            have hz10 := hb10.size
            have hb910 : Below w9.heap.size w9 w10 := hb9a.trans (hb10.mono hb9a.size)
            have HSy10 := Lib.hid (SI.below HSy9.out hb910)
            have HSl10 := Lib.hid (HSl9.out.below hb910)
            have hdk10 := hdk9.below hb910
            have hb10r := hb89.trans (hb910.mono hb89.size)
            have hdkx : Dk (w10.alloc (.cells #[.int .i64 (fdI l x), .int .i64 (fdC l x), .slice A9 (fdP l x).length c9] 46)) w1.heap.size := hdk10.alloc _
            go_upto_region 22 with fail
            obtain ⟨wy, ew⟩ : ∃ wy : World, wy = w10.alloc (.cells #[.int .i64 (fdI l x), .int .i64 (fdC l x), .slice A9 (fdP l x).length c9] 46) := ⟨_, rfl⟩
            have hbY : Below w10.heap.size w10 wy := by rw [ew]; exact (Below.refl _ _).alloc (Nat.le_refl _) _
            have hzy : w10.heap.size < wy.heap.size := by rw [ew]; simp
            have b0 : wy.cell? ⟨w10.heap.size, 0, none⟩ = some (.int .i64 (fdI l x)) := by rw [ew]; exact cell_of_row _ _ 0 _ _ (0, 0) (heap_alloc_new w10 _)
            have b1 : wy.cell? ⟨w10.heap.size, 1, none⟩ = some (.int .i64 (fdC l x)) := by rw [ew]; exact cell_of_row _ _ 1 _ _ (0, 0) (heap_alloc_new w10 _)
            have b2 : wy.cell? ⟨w10.heap.size, 2, none⟩ = some (.slice A9 (fdP l x).length c9) := by rw [ew]; exact cell_of_row _ _ 2 _ _ (0, 0) (heap_alloc_new w10 _)
            have f0 : wy.frozen? ⟨w10.heap.size, 0, none⟩ = false := by rw [ew]; exact frozen_of_row _ _ 0 _ _ (heap_alloc_new w10 _)
            have f2 : wy.frozen? ⟨w10.heap.size, 2, none⟩ = false := by rw [ew]; exact frozen_of_row _ _ 2 _ _ (heap_alloc_new w10 _)
            rw [← ew] at hdkx ⊢
            clear ew
            go_cut [98, 132] from 98 to 214 (fun c s wx => c = .int .i64 k2 ∧ ∃ bb : Bool, s = .bool bb ∧ (bb = true → 0 < (fdP l x).length) ∧ wy.grownBy wx (some w1.heap.size) ∧ Dk wx w1.heap.size)
            case first =>
              by_cases hp : 0 < (fdP l x).length
              · have hd9 : decide ((0 : Int) < ((fdP l x).length : Int)) = true := decide_eq_true (by omega)
                have hd10 : decide (0 < (fdP l x).length) = true := decide_eq_true hp
                go_wp2_with fail
                (with_reducible refine (next_any 2 _ _ hdkx (by unfold i64r; omega) (by omega)).mono ?_); rintro e w11 ⟨xx, rfl, _, hxx, hdk11, hg11⟩
                go_wp2_with fail
                go_meet
                exact ⟨rfl, _, rfl, fun _ => hp, hg11, hdk11⟩
              · have hd9 : decide ((0 : Int) < ((fdP l x).length : Int)) = false := decide_eq_false (by omega)
                have hd10 : decide (0 < (fdP l x).length) = false := decide_eq_false hp
                go_wp2_with fail
                go_meet
                exact ⟨rfl, false, rfl, (fun h => by cases h), grownBy_refl _ _, hdkx⟩
            case rest =>
              obtain ⟨rfl, bb, rfl, hbb, hgx, hdkX⟩ := hcut
              have s12 : w1.heap.size < w10.heap.size := by omega
              have e0 := hgx.cell b0 (by simp; omega)
              have e1 := hgx.cell b1 (by simp; omega)
              have e2 := hgx.cell b2 (by simp; omega)
              have g0 : wc.frozen? ⟨w10.heap.size, 0, none⟩ = false := (hgx.frozen_far ⟨w10.heap.size, 0, none⟩ hzy (by simp; omega)).trans f0
              have g2 : wc.frozen? ⟨w10.heap.size, 2, none⟩ = false := (hgx.frozen_far ⟨w10.heap.size, 2, none⟩ hzy (by simp; omega)).trans f2
              have hgX : w10.grownBy wc (some w1.heap.size) := grownBy_trans (grownBy_of_below hbY _) hgx
              have hzX := hgX.size
              have hSyX : SI wc (.slice A9 (fdP l x).length c9) (fdP l x) := HSy10.out.kept hgX (fun k _ hk => by have := HFR9.out k hk; simp at this; omega)
              have HSyX := Lib.hid hSyX
              have hwI : i64r (fdI l x + 1) := by unfold i64r; omega
              have hzx2 : w10.heap.size < wc.heap.size := by have := hgx.size; omega
              clear b0 b1 b2 f0 f2 hSyX
              go_upto_if 132 with fail
              go_cut [98] from 98 to 214 (fun c wx => c = .int .i64 k2 ∧ Bent w10.heap.size (fdC l x) wx ∧ w10.grownBy wx (some w1.heap.size) ∧ Dk wx w1.heap.size)
              case first =>
                cases bb
                · go_wp2_with fail
                  go_meet
                  have hs : wc.grownBy (wc.setCell ⟨w10.heap.size, 0, none⟩ (.int .i64 (fdI l x + 1))) (some w10.heap.size) := grownBy_setCell (grownBy_refl _ _) (.inl rfl) _
                  exact ⟨rfl, bent_inc e0 e1 e2 HSyX.out (fun k h0 hk => Nat.ne_of_lt (HSy10.out.own_lt h0 k hk)) hwI (by omega), grownBy_own hgX hs (fun k hk => by cases hk; exact Nat.le_refl _), hdkX.grown hs (fun k hk => by cases hk; exact s12)⟩
                · have hp := hbb rfl
                  obtain ⟨b, off, rfl, hbw, hcell⟩ := SB.cells HSyX.out hp
                  have hcl2 : (fdP l x).length - 1 ≤ (fdP l x).length := by omega
                  have hold : ∀ (q : Addr), some (⟨b, off, none⟩ : Addr) = some q → ∀ j u, (((fdP l x).take ((fdP l x).length - 1)).map (Value.int .i64))[j]? = some u → (wc.alloc (.cells #[.int .i64 dig] 3)).cell? (q.add j) = some u := by
                    intro q hq j u hu
                    cases hq
                    rw [List.getElem?_map] at hu
                    obtain ⟨y, hy, rfl⟩ := Option.map_eq_some_iff.1 hu
                    obtain ⟨hj, hyj⟩ := List.getElem?_eq_some_iff.1 hy
                    have hj' : j < (fdP l x).length := by simp at hj; omega
                    rw [Addr.add_lit, ((Below.refl wc.heap.size wc).alloc (Nat.le_refl _) _).cell hbw, hcell j hj']
                    rw [List.getElem_take] at hyj
                    rw [hyj]
                  have HOLD := Lib.hid hold
                  have HRX : Hid (∀ y ∈ (fdP l x).take ((fdP l x).length - 1) ++ [dig], i64r y) := fun y hy => by
                    rcases List.mem_append.1 hy with h | h
                    · exact HR9.out y (List.mem_of_mem_take h)
                    · simp at h; subst h; exact hdig
                  obtain ⟨i0, hi0, hj0, hj1, hj2⟩ := info_parts iinfo
                  clear hold hcell
                  go_wp2_with (at_builtin; refine wpList_append_grows _ rfl (.tmp 143) (.tmp 145) 22 rfl 3 i0 _ 1 8 Try.underlying22 hi0 hj0 hj1 hj2 rfl (by omega) (some ⟨b, off, none⟩) ((fdP l x).length - 1) ((fdP l x).length - 1) (((fdP l x).take ((fdP l x).length - 1)).map (Value.int .i64)) rfl (by simp) (by simp) HOLD.out ⟨wc.heap.size, 0, none⟩ 1 1 [.int .i64 dig] rfl rfl (cells_new _ _ _) (by simp [Value.oneCell']) (by omega) (by unfold maxLen; omega) (by omega) ?_; intro v12 w12 hown12 hg12; have q0 := (hg12.cell (((Below.refl wc.heap.size wc).alloc (Nat.le_refl _) (.cells #[.int .i64 dig] 3)).cell (p := ⟨w10.heap.size, 0, none⟩) hzx2 |>.trans e0) (by simp)); have q1 := (hg12.cell (((Below.refl wc.heap.size wc).alloc (Nat.le_refl _) (.cells #[.int .i64 dig] 3)).cell (p := ⟨w10.heap.size, 1, none⟩) hzx2 |>.trans e1) (by simp)); have q2 := (hg12.cell (((Below.refl wc.heap.size wc).alloc (Nat.le_refl _) (.cells #[.int .i64 dig] 3)).cell (p := ⟨w10.heap.size, 2, none⟩) hzx2 |>.trans e2) (by simp)); have fz12 := ((hg12.frozen_far ⟨w10.heap.size, 2, none⟩ (by simp; omega) (by simp)).trans (((Below.refl wc.heap.size wc).alloc (Nat.le_refl _) (.cells #[.int .i64 dig] 3)).frozen (p := ⟨w10.heap.size, 2, none⟩) hzx2)).trans g2; obtain ⟨g12, cap12, rfl, hg12b, hg12l⟩ := own_form hown12 (by omega))
                  go_meet
                  have hln : ((fdP l x).take ((fdP l x).length - 1) ++ [dig]).length = (fdP l x).length - 1 + 1 := by simp
                  have hS12 : SI w12 (.slice (some ⟨g12, 0, none⟩) ((fdP l x).take ((fdP l x).length - 1) ++ [dig]).length cap12) ((fdP l x).take ((fdP l x).length - 1) ++ [dig]) := SI.of_own (base := (wc.alloc (.cells #[.int .i64 dig] 3)).heap.size) (e := 3) (by rw [hln, List.map_append]; exact hown12) HRX.out
                  rw [hln] at hS12
                  have hA12 : w10.grownBy w12 (some w1.heap.size) := grownBy_own (grownBy_alloc' hgX _) hg12 (by simp)
                  have hs : w12.grownBy (w12.setCell ⟨w10.heap.size, 2, none⟩ (.slice (some ⟨g12, 0, none⟩) ((fdP l x).length - 1 + 1) cap12)) (some w10.heap.size) := grownBy_setCell (grownBy_refl _ _) (.inl rfl) _
                  have hdk12 : Dk w12 w1.heap.size := (hdkX.alloc _).grown hg12 (by simp)
                  have hne12 : g12 ≠ w10.heap.size := by simp at hg12b; omega
                  have hr12 : i64r (fdI l x) := by unfold i64r; omega
                  exact ⟨rfl, bent_store q0 q1 q2 hS12 hln.symm hne12 hr12 (by omega), grownBy_own hA12 hs (fun k hk => by cases hk; exact Nat.le_refl _), hdk12.grown hs (fun k hk => by cases hk; exact s12)⟩
              case rest =>
                obtain ⟨rfl, ⟨bI, bl, Ab, cb, t0, t1, t2, hSb, hrb, hlb⟩, hgB, hdkB⟩ := hcut
                obtain ⟨wb, rfl⟩ : ∃ wo : World, wo = wc := ⟨_, rfl⟩
                clear e0 e1 e2 g0 g2 hgx hdkX hgX hzX HSyX hzx2
                have hG : w1.grownBy wb (some w1.heap.size) := grownBy_trans (grownBy_of_below hb2 _) (grownBy_trans hg3 (grownBy_trans (grownBy_of_below hbA _) (grownBy_trans hgq (grownBy_trans hgr2 (grownBy_trans (grownBy_of_below hb10r _) hgB)))))
                have hzB := hgB.size
                have p0' := hG.cell p0 (by simp; omega)
                have p1' := hG.cell p1 (by simp; omega)
                have p2' := hG.cell p2 (by simp; omega)
                have z0' := hgB.cell z0 (by simp; omega)
                have z1' := hgB.cell z1 (by simp; omega)
                have z2' := hgB.cell z2 (by simp; omega)
                have HSb := Lib.hid hSb
                have HSp := Lib.hid ((HDS.out.below hW1).kept hG (fun k h0 hk => by have := HDS.out.own_lt h0 k hk; omega))
                have HSy := Lib.hid (HSy10.out.kept hgB (fun k _ hk => by have := HFR9.out k hk; simp at this; omega))
                clear z0 z1 z2 hSb
                go_wp2_with fail
                obtain ⟨wL, ew⟩ : ∃ wL : World, wL = wb.alloc (.cells #[.int .i64 I, .int .i64 C, .slice Ad ds.length cd, .int .i64 (fdI l x), .int .i64 (fdC l x), .slice A9 (fdP l x).length c9, .int .i64 bI, .int .i64 (fdC l x), .slice Ab bl.length cb] 46) := ⟨_, rfl⟩
                have hbL : Below wb.heap.size wb wL := by rw [ew]; exact (Below.refl _ _).alloc (Nat.le_refl _) _
                have hzL : wb.heap.size < wL.heap.size := by rw [ew]; simp
                have hcL : ∀ i u, (#[Value.int .i64 I, .int .i64 C, .slice Ad ds.length cd, .int .i64 (fdI l x), .int .i64 (fdC l x), .slice A9 (fdP l x).length c9, .int .i64 bI, .int .i64 (fdC l x), .slice Ab bl.length cb])[i]? = some u → wL.cell? ⟨wb.heap.size, i, none⟩ = some u := by
                  intro i u hu
                  rw [ew, cell_of_row _ _ i _ _ (0, 0) (heap_alloc_new wb _)]
                  exact hu
                have HcL := Lib.hid hcL
                rw [← ew]
                clear ew hcL
                have HSpL := Lib.hid (HSp.out.below hbL)
                have HSyL := Lib.hid (HSy.out.below hbL)
                have HSbL := Lib.hid (HSb.out.below hbL)
                go_loopw [157] (fun i wr => ∃ k : Nat, k ≤ 3 ∧ i = .int .i64 k ∧ Below wL.heap.size wL wr) (fun i _ => 3 - (intOf i).toNat)
                case atStart => exact ⟨0, by omega, rfl, Below.refl _ _⟩
                case round =>
                  obtain ⟨k3, hk3, rfl, hb3L⟩ := hrel
                  obtain ⟨wr3, rfl⟩ : ∃ wo : World, wo = wr := ⟨_, rfl⟩
                  have hz3L := hb3L.size
                  by_cases hlt3 : k3 < 3
                  · have hd11 : decide ((k3 : Int) < 3) = true := decide_eq_true (by omega)
                    have hd12 : decide (k3 < 3) = true := decide_eq_true hlt3
                    obtain ⟨zI, zC, zl, zA, zc, m0, m1, m2, hSz, hzI, hzC, hzl⟩ : ∃ zI zC : Int, ∃ zl : List Int, ∃ zA zc, wr3.cell? ⟨wb.heap.size, k3 * 3, none⟩ = some (.int .i64 zI) ∧ wr3.cell? ⟨wb.heap.size, k3 * 3 + 1, none⟩ = some (.int .i64 zC) ∧ wr3.cell? ⟨wb.heap.size, k3 * 3 + 2, none⟩ = some (.slice zA zl.length zc) ∧ SI wr3 (.slice zA zl.length zc) zl ∧ i64r zI ∧ i64r zC ∧ zl.length ≤ 1100 := by
                      have hc : ∀ i u, wL.cell? ⟨wb.heap.size, i, none⟩ = some u → wr3.cell? ⟨wb.heap.size, i, none⟩ = some u := fun i u h => (hb3L.cell (p := ⟨wb.heap.size, i, none⟩) hzL).trans h
                      have hq : k3 = 0 ∨ k3 = 1 ∨ k3 = 2 := by omega
                      have hiC : i64r (fdC l x) := by unfold i64r; omega
                      rcases hq with rfl | rfl | rfl
                      · exact ⟨I, C, ds, Ad, cd, hc _ _ (HcL.out 0 _ rfl), hc _ _ (HcL.out 1 _ rfl), hc _ _ (HcL.out 2 _ rfl), HSpL.out.below hb3L, hI, hC, by omega⟩
                      · exact ⟨fdI l x, fdC l x, fdP l x, A9, c9, hc _ _ (HcL.out 3 _ rfl), hc _ _ (HcL.out 4 _ rfl), hc _ _ (HcL.out 5 _ rfl), HSyL.out.below hb3L, by unfold i64r; omega, hiC, by omega⟩
                      · exact ⟨bI, fdC l x, bl, Ab, cb, hc _ _ (HcL.out 6 _ rfl), hc _ _ (HcL.out 7 _ rfl), hc _ _ (HcL.out 8 _ rfl), HSbL.out.below hb3L, hrb, hiC, hlb⟩
                    have HSz := Lib.hid hSz
                    clear hSz
                    go_wp2_with fail
                    (with_reducible refine (mod_any _ _ _ (by omega) (by omega)).mono ?_); rintro e w' ⟨rfl, rfl⟩
                    go_wp2_with fail
                    obtain ⟨wM, ew⟩ : ∃ wM : World, wM = (wr3.alloc (.cells #[.int .i64 zI, .int .i64 zC, .slice zA zl.length zc] 46)).alloc (.cells #[.int .i64 dig, .int .i64 (dig % 2147483647)] 3) := ⟨_, rfl⟩
                    have hbM : Below wr3.heap.size wr3 wM := by rw [ew]; exact ((Below.refl _ _).alloc (Nat.le_refl _) _).alloc (by simp) _
                    have hzM : wr3.heap.size + 2 = wM.heap.size := by rw [ew]; simp
                    have n0 : wM.cell? ⟨wr3.heap.size, 0, none⟩ = some (.int .i64 zI) := by rw [ew]; simp [go_sem]
                    have n1 : wM.cell? ⟨wr3.heap.size, 1, none⟩ = some (.int .i64 zC) := by rw [ew]; simp [go_sem]
                    have n2 : wM.cell? ⟨wr3.heap.size, 2, none⟩ = some (.slice zA zl.length zc) := by rw [ew]; simp [go_sem]
                    have l0 : wM.cell? ⟨wr3.heap.size + 1, 0, none⟩ = some (.int .i64 dig) := by rw [ew]; simp [go_sem]
                    have l1 : wM.cell? ⟨wr3.heap.size + 1, 1, none⟩ = some (.int .i64 (dig % 2147483647)) := by rw [ew]; simp [go_sem]
                    rw [← ew]
                    clear ew
                    have HSM := Lib.hid (HSz.out.below hbM)
                    have hzl2 : zl.length ≤ 100000 := by omega
                    go_loopw [166] (fun i wr => ∃ k : Nat, k ≤ 2 ∧ i = .int .i64 k ∧ Below wM.heap.size wM wr) (fun i _ => 2 - (intOf i).toNat)
                    case atStart => exact ⟨0, by omega, rfl, Below.refl _ _⟩
                    case round =>
                      obtain ⟨k4, hk4, rfl, hb4M⟩ := hrel
                      obtain ⟨wr4, rfl⟩ : ∃ wo : World, wo = wr := ⟨_, rfl⟩
                      have hz4M := hb4M.size
                      by_cases hlt4 : k4 < 2
                      · have hd13 : decide ((k4 : Int) < 2) = true := decide_eq_true (by omega)
                        have hd14 : decide (k4 < 2) = true := decide_eq_true hlt4
                        obtain ⟨v, hcv, hvr⟩ : ∃ v : Int, wr4.cell? ⟨wr3.heap.size + 1, k4, none⟩ = some (.int .i64 v) ∧ i64r v := by
                          have hc : ∀ i u, wM.cell? ⟨wr3.heap.size + 1, i, none⟩ = some u → wr4.cell? ⟨wr3.heap.size + 1, i, none⟩ = some u := fun i u h => (hb4M.cell (p := ⟨wr3.heap.size + 1, i, none⟩) (by show wr3.heap.size + 1 < _; omega)).trans h
                          have hq : k4 = 0 ∨ k4 = 1 := by omega
                          rcases hq with rfl | rfl
                          · exact ⟨dig, hc _ _ l0, hdig⟩
                          · exact ⟨dig % 2147483647, hc _ _ l1, by unfold i64r; omega⟩
                        have hs4 : wr3.heap.size < wM.heap.size := by omega
                        have r0 := (hb4M.cell (p := ⟨wr3.heap.size, 0, none⟩) hs4).trans n0
                        have r1 := (hb4M.cell (p := ⟨wr3.heap.size, 1, none⟩) hs4).trans n1
                        have r2 := (hb4M.cell (p := ⟨wr3.heap.size, 2, none⟩) hs4).trans n2
                        have HS4 := Lib.hid (HSM.out.below hb4M)
                        go_wp2_with fail
                        (with_reducible refine (plead_any zC zI v zl _ _ hzC hzI hvr HS4.out hzl2).mono ?_); rintro e w20 ⟨rfl, hb20⟩
                        have hs20 : wr3.heap.size < wr4.heap.size := by omega
                        have u0 := (hb20.cell (p := ⟨wr3.heap.size, 0, none⟩) hs20).trans r0
                        have u1 := (hb20.cell (p := ⟨wr3.heap.size, 1, none⟩) hs20).trans r1
                        have u2 := (hb20.cell (p := ⟨wr3.heap.size, 2, none⟩) hs20).trans r2
                        have HS20 := Lib.hid (HS4.out.below hb20)
                        have hz20 := hb20.size
                        clear r0 r1 r2
                        go_wp2_with fail
                        (with_reducible refine (rlead_any zC zI v zl _ _ hzC hzI hvr HS20.out hzl2).mono ?_); rintro e w21 ⟨rfl, hb21⟩
                        have hs21 : wr3.heap.size < w20.heap.size := by omega
                        have v0 := (hb21.cell (p := ⟨wr3.heap.size, 0, none⟩) hs21).trans u0
                        have v1 := (hb21.cell (p := ⟨wr3.heap.size, 1, none⟩) hs21).trans u1
                        have v2 := (hb21.cell (p := ⟨wr3.heap.size, 2, none⟩) hs21).trans u2
                        have HS21 := Lib.hid (HS20.out.below hb21)
                        have hz21 := hb21.size
                        clear u0 u1 u2
                        go_upto_region 33 with fail
                        generalize ldV zC zI zl v = lv
                        generalize ldE zC zI zl v = le
                        have hs25 : wr3.heap.size < w21.heap.size := by omega
                        apply reg33_ok wr3.heap.size zI zC v rot lv le zl zA zc w21 hzC hzI hvr hs25 v0 v1 v2 HS21.out hzl2
                        intro u182 u183 u184 u185 u186 u187 u188 u189 u190 u191 u192 u193 u194 u195 u196 u197 u198 u199 u200 u201 u202 u203 u204 u205 u206 u207 u208 u209 u210 w25 hb25
                        go_wp2_with fail
                        go_goals
                        go_roundw
                        case rel => exact ⟨k4 + 1, by omega, by go_num, hb4M.trans (((hb20.trans (hb21.mono hz20)).trans (hb25.mono (by omega))).mono hz4M)⟩
                        case measure => simp [intOf]; omega
                      · have hd13 : decide ((k4 : Int) < 2) = false := decide_eq_false (by omega)
                        have hd14 : decide (k4 < 2) = false := decide_eq_false hlt4
                        go_wp2_with fail
                        go_goals
                        go_roundw
                        case rel => exact ⟨k3 + 1, by omega, by go_num, hb3L.trans ((hbM.trans (hb4M.mono (by omega))).mono (by omega))⟩
                        case measure => simp [intOf]; omega
                  · have hd11 : decide ((k3 : Int) < 3) = false := decide_eq_false (by omega)
                    have hd12 : decide (k3 < 3) = false := decide_eq_false hlt3
                    go_wp2_with fail
                    go_goals
                    go_roundw
                    case rel => exact ⟨k2 + 1, by omega, by go_num, grownBy_trans hgr2 (grownBy_trans (grownBy_of_below hb10r _) (grownBy_trans hgB (grownBy_of_below (hbL.trans (hb3L.mono (by omega))) _))), hdkB.below (hbL.trans (hb3L.mono (by omega)))⟩
                    case measure => simp [intOf]; omega
          · have hd7 : decide ((k2 : Int) < 2) = false := by simp; omega
            have hd8 : decide (k2 < 2) = false := decide_eq_false hlt2
            go_wp2_with fail
            go_goals
            go_roundw
            case rel => exact ⟨k + 1, by omega, by go_num, grownBy_trans hgq hgr2, hdkr2⟩
            case measure => simp [intOf]; omega
      · have hd5 : decide ((k : Int) < 2) = false := by simp; omega
        have hd6 : decide (k < 2) = false := decide_eq_false hlt
        go_wp2_with ((with_reducible refine (mod_any _ _ _ (by omega) (by omega)).mono ?_); rintro e w' ⟨rfl, rfl⟩)
        obtain ⟨wE, ew⟩ : ∃ wE : World, wE = wr.alloc (.cells #[.int .i64 cnt, .int .i64 idx, .int .i64 (cnt % 1030), .int .i64 (idx % 1030), .int .i64 (cnt % 20), .int .i64 (idx % 20)] 56) := ⟨_, rfl⟩
        have hbE : Below wr.heap.size wr wE := by rw [ew]; exact (Below.refl _ _).alloc (Nat.le_refl _) _
        have hzE : wr.heap.size < wE.heap.size := by rw [ew]; simp
        have hcE : ∀ i u, (#[Value.int .i64 cnt, .int .i64 idx, .int .i64 (cnt % 1030), .int .i64 (idx % 1030), .int .i64 (cnt % 20), .int .i64 (idx % 20)])[i]? = some u → wE.cell? ⟨wr.heap.size, i, none⟩ = some u := by
          intro i u hu
          rw [ew, cell_of_row _ _ i _ _ (0, 0) (heap_alloc_new wr _)]
          exact hu
        have HcE := Lib.hid hcE
        rw [← ew]
        clear ew hcE
        obtain ⟨wo, rfl⟩ : ∃ wo : World, wo = wr := ⟨_, rfl⟩
        go_loopw [231] (fun i wr => ∃ k : Nat, k ≤ 3 ∧ i = .int .i64 k ∧ Below wE.heap.size wE wr) (fun i _ => 3 - (intOf i).toNat)
        case atStart => exact ⟨0, by omega, rfl, Below.refl _ _⟩
        case round =>
          obtain ⟨k5, hk5, rfl, hb5E⟩ := hrel
          have hz5E := hb5E.size
          by_cases hlt5 : k5 < 3
          · have hd11 : decide ((k5 : Int) < 3) = true := decide_eq_true (by omega)
            have hd12 : decide (k5 < 3) = true := decide_eq_true hlt5
            obtain ⟨c, i, m0, m1, hcr, hir⟩ : ∃ c i : Int, wr.cell? ⟨wo.heap.size, k5 * 2, none⟩ = some (.int .i64 c) ∧ wr.cell? ⟨wo.heap.size, k5 * 2 + 1, none⟩ = some (.int .i64 i) ∧ i64r c ∧ i64r i := by
              have hc : ∀ i u, wE.cell? ⟨wo.heap.size, i, none⟩ = some u → wr.cell? ⟨wo.heap.size, i, none⟩ = some u := fun i u h => (hb5E.cell (p := ⟨wo.heap.size, i, none⟩) hzE).trans h
              have hq : k5 = 0 ∨ k5 = 1 ∨ k5 = 2 := by omega
              rcases hq with rfl | rfl | rfl
              · exact ⟨_, _, hc _ _ (HcE.out 0 _ rfl), hc _ _ (HcE.out 1 _ rfl), hcnt, hidx⟩
              · exact ⟨_, _, hc _ _ (HcE.out 2 _ rfl), hc _ _ (HcE.out 3 _ rfl), by unfold i64r; omega, by unfold i64r; omega⟩
              · exact ⟨_, _, hc _ _ (HcE.out 4 _ rfl), hc _ _ (HcE.out 5 _ rfl), by unfold i64r; omega, by unfold i64r; omega⟩
            go_wp2_with fail
            (with_reducible refine (plen_any c i _ hcr hir).mono ?_); rintro e w' ⟨rfl, rfl⟩
            go_wp2_with fail
            (with_reducible refine (rlen_any c i _ hcr hir).mono ?_); rintro e w' ⟨rfl, rfl⟩
            generalize lnV c i = lv
            generalize lnE c i = le
            go_wp2_with fail
            go_goals
            go_roundw
            case rel => exact ⟨k5 + 1, by omega, by go_num, hb5E.trans ((Below.refl _ _).alloc hz5E _)⟩
            case measure => simp [intOf]; omega
          · have hd11 : decide ((k5 : Int) < 3) = false := decide_eq_false (by omega)
            have hd12 : decide (k5 < 3) = false := decide_eq_false hlt5
            go_wp2_with fail
            go_ret
            exact ⟨rfl, hWr.trans ((hbE.trans (hb5E.mono (by omega))).mono hWr.size)⟩
  · rw [decide_eq_false hf]
    go_wp2_with fail
    go_ret
    exact ⟨rfl, hW1⟩
end Go.Proofs.Ytmglcjdigpgjlaa
