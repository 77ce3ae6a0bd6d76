/- Joined: Ks. -/
import Derived.Test.YtoiabanpnkpbhaaGreatDoorY22
import Derived.Test.YtoiabanpnkpbhaaGreatDoorY07
namespace Go.Proofs.YtoiabanpnkpbhaaGreatDoor
open Go.RowKit

theorem store3 {w : World} {S : Nat} {a b c : Value} (x y z : Value) (h : w.heap[S]? = some (.cells #[a, b, c] 29 (0, 0))) : (((w.setCell ⟨S, 0, none⟩ x).setCell ⟨S, 1, none⟩ y).setCell ⟨S, 2, none⟩ z).heap[S]? = some (.cells #[x, y, z] 29 (0, 0)) := by
  have h1 := heap_setCell_same w S 0 _ _ x h
  have h2 := heap_setCell_same _ S 1 _ _ y h1
  have h3 := heap_setCell_same _ S 2 _ _ z h2
  simpa using h3
set_option maxRecDepth 100000 in
set_option maxHeartbeats 4000000 in
theorem storage_any (g : Nat) (w : World) (hD : Dk w g) :
    Calls Tryz.prog 23 #[.pointer (some ⟨g, 0, none⟩)] w fun e w' => ∃ P n t G, e = .returned (.tuple #[.agg #[.int .i64 P], .agg #[.int .i64 n, .int .i64 t, .int .i64 G]]) ∧ Dk w' g ∧ w.grownBy w' (some g) ∧ SV P n t G ∧ t ≤ 2 ∧ G ≤ 3 := by
  have HD := Lib.hid hD
  have hgw : g < w.heap.size := hD.lt
  clear hD
  go_enter Tryz.func23, Tryz.ntmps23
  obtain ⟨R, eR⟩ : ∃ R, R = w.heap.size := ⟨_, rfl⟩
  obtain ⟨S, eS⟩ : ∃ S, S = w.heap.size + 1 := ⟨_, rfl⟩
  obtain ⟨w1, ew1⟩ : ∃ w1 : World, w1 = (w.alloc (.cells #[.int .i64 0] 31)).alloc (.cells #[.int .i64 0, .int .i64 0, .int .i64 0] 29) := ⟨_, rfl⟩
  have HW1 : Hid ((w.alloc (.cells #[.int .i64 0] 31)).alloc (.cells #[.int .i64 0, .int .i64 0, .int .i64 0] 29) = w1) := ew1.symm
  have HR1 : Hid (w1.heap[R]? = some (.cells #[.int .i64 0] 31 (0, 0))) := (show Hid _ from by show _ = _; rw [ew1, eR, Below.heap_alloc _ _ _ (by simp)]; exact heap_alloc_new w _)
  have HS1 : Hid (w1.heap[S]? = some (.cells #[.int .i64 0, .int .i64 0, .int .i64 0] 29 (0, 0))) := (show Hid _ from by show _ = _; rw [ew1, eS]; have := heap_alloc_new (w.alloc (.cells #[.int .i64 0] 31)) (.cells #[.int .i64 0, .int .i64 0, .int .i64 0] 29); simpa using this)
  have HB1 : Hid (Below w.heap.size w w1) := (show Hid _ from by rw [ew1]; exact ((Below.refl _ w).alloc (Nat.le_refl _) _).alloc (by simp) _)
  have HD1 := Lib.hid (HD.out.below HB1.out)
  have hgR : g < R := by omega
  have hRS : R < S := by omega
  have HER := Lib.hid eR
  go_upto_region 1 with fail
  rw [HW1.out, ← eS, ← eR]
  clear eR eS ew1
  go_wp2_with fail
  (with_reducible refine (next_any 3 g w1 HD1.out (by unfold i64r; omega) (by omega)).mono ?_)
  rintro e w2 ⟨x, rfl, _, hx, hd2, hg2⟩
  obtain ⟨hx1, hx2⟩ := hx (by omega)
  obtain ⟨G, eG⟩ : ∃ G, G = 1 + x := ⟨_, rfl⟩
  have hG : 1 ≤ G ∧ G ≤ 3 := by omega
  have m1 : IntKind.i64.wrap (1 + x) = G := by rw [eG]; exact IntWalk.i64_in _ (by omega)
  have HD2 := Lib.hid hd2
  have HG2 := Lib.hid hg2
  clear hx hd2 hg2 hx1 hx2 eG
  go_wp2_with fail
  (with_reducible refine (next_any 2 g w2 HD2.out (by unfold i64r; omega) (by omega)).mono ?_)
  rintro e w3 ⟨y, rfl, _, hy, hd3, hg3⟩
  obtain ⟨hy1, hy2⟩ := hy (by omega)
  obtain ⟨t, et⟩ : ∃ t, t = 1 + y := ⟨_, rfl⟩
  have ht : 1 ≤ t ∧ t ≤ 2 := by omega
  have m2 : IntKind.i64.wrap (1 + y) = t := by rw [et]; exact IntWalk.i64_in _ (by omega)
  have HD3 := Lib.hid hd3
  have HG3 := Lib.hid (grownBy_trans HG2.out hg3)
  have HR3 : Hid (w3.heap[R]? = some (.cells #[.int .i64 0] 31 (0, 0))) := (show Hid _ from (HG3.out.block R (heap_of_cells HR1.out) (by simp; omega)).trans HR1.out)
  have HS3 : Hid (w3.heap[S]? = some (.cells #[.int .i64 0, .int .i64 0, .int .i64 0] 29 (0, 0))) := (show Hid _ from (HG3.out.block S (heap_of_cells HS1.out) (by simp; omega)).trans HS1.out)
  clear hy hd3 hg3 hy1 hy2 et
  obtain ⟨q, eq⟩ : ∃ q, q = w3.heap.size := ⟨_, rfl⟩
  obtain ⟨w4, ew4⟩ : ∃ w4 : World, w4 = w3.alloc (.cells #[.int .i64 0, .int .i64 t, .int .i64 G] 29) := ⟨_, rfl⟩
  have HW4 : Hid (w3.alloc (.cells #[.int .i64 0, .int .i64 t, .int .i64 G] 29) = w4) := ew4.symm
  have Hq4 : Hid (w4.heap[q]? = some (.cells #[.int .i64 0, .int .i64 t, .int .i64 G] 29 (0, 0))) := (show Hid _ from by show _ = _; rw [ew4, eq]; exact heap_alloc_new w3 _)
  have HB4 : Hid (Below w3.heap.size w3 w4) := (show Hid _ from by rw [ew4]; exact (Below.refl _ w3).alloc (Nat.le_refl _) _)
  have HD4 := Lib.hid (HD3.out.below HB4.out)
  have HR4 : Hid (w4.heap[R]? = some (.cells #[.int .i64 0] 31 (0, 0))) := (show Hid _ from (HB4.out.block R (heap_of_cells HR3.out)).trans HR3.out)
  have HS4 : Hid (w4.heap[S]? = some (.cells #[.int .i64 0, .int .i64 0, .int .i64 0] 29 (0, 0))) := (show Hid _ from (HB4.out.block S (heap_of_cells HS3.out)).trans HS3.out)
  have hSq : S < q := by rw [eq]; exact heap_of_cells HS3.out
  have HG14 : Hid (w1.grownBy w4 (some g)) := (show Hid _ from grownBy_trans HG3.out (grownBy_of_below HB4.out _))
  go_upto_region 2 with fail
  first | rw [HW4.out, ← eq] | (rw [m1, m2, HW4.out, ← eq]) | (rw [m2, HW4.out, ← eq])
  clear eq ew4 m1 m2
  have HN4 : Hid (∀ W : World, Dk W g → Calls Tryz.prog 13 #[.pointer (some ⟨g, 0, none⟩), .int .i64 4] W fun e w' => ∃ x, e = .returned (.int .i64 x) ∧ (0 ≤ x ∧ x ≤ 3) ∧ Dk w' g ∧ W.grownBy w' (some g)) := (show Hid _ from fun W h => (next_any 4 g W h (by unfold i64r; omega) (by omega)).mono fun e w' ⟨x, h1, _, h2, h3, h4⟩ => by
    obtain ⟨h5, h6⟩ := h2 (by omega)
    exact ⟨x, h1, ⟨h5, by omega⟩, h3, h4⟩)
  have HX : Hid (∀ W : World, w4.grownBy W (some g) → W.cell? ⟨q, 2, none⟩ = some (.int .i64 G) ∧ W.cell? ⟨q, 1, none⟩ = some (.int .i64 t) ∧ W.cell? ⟨q, 0, none⟩ = some (.int .i64 0) ∧ W.frozen? ⟨q, 0, none⟩ = false ∧ W.heap[q]? = some (.cells #[.int .i64 0, .int .i64 t, .int .i64 G] 29 (0, 0))) := (show Hid _ from fun W hg => by
    have h := (hg.block q (heap_of_cells Hq4.out) (by simp; omega)).trans Hq4.out
    exact ⟨cell_of_row W q 2 _ _ _ h, cell_of_row W q 1 _ _ _ h, cell_of_row W q 0 _ _ _ h, frozen_of_row W q 0 _ _ h, h⟩)
  obtain ⟨a2, a1, a0, af, _⟩ := HX.out w4 (grownBy_refl _ _)
  have HDd : Hid (Dk w4.drew g) := HD4.out
  have k1 : IntKind.i64.wrap (2 * G) = 2 * G := by exact IntWalk.i64_in _ (by omega)
  have k2 : IntKind.i64.wrap (2 * G + t) = 2 * G + t := by exact IntWalk.i64_in _ (by omega)
  have k3 : IntKind.i64.wrap (2 * G + t - 1) = 2 * G + t - 1 := by exact IntWalk.i64_in _ (by omega)
  go_region_held3 (fun w' => w'.cell? ⟨q, 2, none⟩ = some (.int .i64 G) ∧ w'.cell? ⟨q, 1, none⟩ = some (.int .i64 t)) (first | exact ⟨a2, a1⟩ | exact ⟨(World.cell?_setCell_other _ _ _ _ (by simp)).trans a2, (World.cell?_setCell_other _ _ _ _ (by simp)).trans a1⟩ | go_keep)
    (first | (go_at_call 13; refine (HN4.out _ (by first | exact HD4.out | exact HDd.out)).mono ?_; rintro e9 w5 ⟨z, rfl, hz, hd5, hg5⟩; have HD5 : Hid (Dk w5 g) := (show Hid _ from hd5); have HG5 : Hid (w4.grownBy w5 (some g)) := (show Hid _ from ⟨hg5.os, hg5.tape, hg5.output, hg5.size, hg5.block⟩); obtain ⟨a2, a1, a0, af, hq5⟩ := HX.out w5 HG5.out; have HQ5 := Lib.hid hq5; have k4 : IntKind.i64.wrap (2 * G + t - 1 + z) = 2 * G + t - 1 + z := (by exact IntWalk.i64_in _ (by omega)); clear hd5 hg5 hq5))
  all_goals
    obtain ⟨n, en⟩ : ∃ n, n = (if 2 < 2 * G + t - 1 + z then 2 * G + t - 1 + z else 2) := ⟨_, rfl⟩
    have hn : 2 ≤ n ∧ n ≤ 10 ∧ 2 * G + t - 1 ≤ n := by
      rw [en]
      split <;> omega
    have en2 : n = max 2 (2 * G + t - 1 + z) := by
      rw [en]
      split <;> omega
    first | rw [← en] | rw [← en2]
    clear en2
    obtain ⟨w6, ew6⟩ : ∃ w6 : World, w6 = w5.setCell ⟨q, 0, none⟩ (.int .i64 n) := ⟨_, rfl⟩
    have hG6 : w5.grownBy w6 (some q) := by rw [ew6]; exact grownBy_setCell (g := q) (p := ⟨q, 0, none⟩) (grownBy_refl _ _) (.inl rfl) _
    have Hq6 : Hid (w6.heap[q]? = some (.cells #[.int .i64 n, .int .i64 t, .int .i64 G] 29 (0, 0))) := (show Hid _ from by
      show _ = _
      rw [ew6]
      have := heap_setCell_same w5 q 0 _ _ (.int .i64 n) HQ5.out
      simpa using this)
    have HD6 : Hid (Dk w6 g) := HD5.out.grown hG6 (fun k hk => by injection hk with e; omega)
    have HR6 : Hid (w6.heap[R]? = some (.cells #[.int .i64 0] 31 (0, 0))) := (show Hid _ from (hG6.block R (by have := HG5.out.size; have := heap_of_cells HR4.out; omega) (by simp; omega)).trans ((HG5.out.block R (heap_of_cells HR4.out) (by simp; omega)).trans HR4.out))
    have HS6 : Hid (w6.heap[S]? = some (.cells #[.int .i64 0, .int .i64 0, .int .i64 0] 29 (0, 0))) := (show Hid _ from (hG6.block S (by have := HG5.out.size; have := heap_of_cells HS4.out; omega) (by simp; omega)).trans ((HG5.out.block S (heap_of_cells HS4.out) (by simp; omega)).trans HS4.out))
    have HGw6 : Hid (w.grownBy w6 (some g)) := grownBy_own (grownBy_trans (grownBy_of_below HB1.out _) (grownBy_trans HG14.out HG5.out)) hG6 (fun k hk => by injection hk with e; have := HER.out; omega)
    have HW6 : Hid (w5.setCell ⟨q, 0, none⟩ (.int .i64 n) = w6) := ew6.symm
    go_upto_region 3 with fail
    rw [HW6.out]
    clear ew6 hG6 en a0 a1 a2 af k1 k2 k3 k4 hz
    have HBIG : Hid (∀ W : World, Dk W g → Calls Tryz.prog 14 #[.pointer (some ⟨g, 0, none⟩), .int .i64 n] W fun e w' => ∃ P, e = .returned (.agg #[.int .i64 P]) ∧ Dk w' g ∧ W.grownBy w' (some g) ∧ prB P = true ∧ n < P) := (show Hid _ from fun W h => big_any g n W h (by omega) (by omega))
    have HDe : Hid (Dk w6.drew g) := HD6.out
    have HLT : Hid (g < R ∧ g < S ∧ g < q) := ⟨by omega, by omega, by omega⟩
    have nRS : ¬ R = S := by omega
    have nRq : ¬ R = q := by omega
    have nSq : ¬ S = q := by omega
    have HX6 : Hid (∀ W : World, w6.grownBy W (some g) → (W.cell? ⟨q, 0, none⟩ = some (.int .i64 n) ∧ W.cell? ⟨q, 1, none⟩ = some (.int .i64 t) ∧ W.cell? ⟨q, 2, none⟩ = some (.int .i64 G)) ∧ (W.cell? ⟨R, 0, none⟩ = some (.int .i64 0) ∧ W.cell? ⟨S, 0, none⟩ = some (.int .i64 0) ∧ W.cell? ⟨S, 1, none⟩ = some (.int .i64 0) ∧ W.cell? ⟨S, 2, none⟩ = some (.int .i64 0)) ∧ W.frozen? ⟨R, 0, none⟩ = false ∧ W.frozen? ⟨S, 0, none⟩ = false ∧ W.frozen? ⟨S, 1, none⟩ = false ∧ W.frozen? ⟨S, 2, none⟩ = false ∧ W.heap[R]? = some (.cells #[.int .i64 0] 31 (0, 0)) ∧ W.heap[S]? = some (.cells #[.int .i64 0, .int .i64 0, .int .i64 0] 29 (0, 0))) := (show Hid _ from fun W hg => by
      have a1 := (hg.block q (heap_of_cells Hq6.out) (by simp; omega)).trans Hq6.out
      have a2 := (hg.block R (heap_of_cells HR6.out) (by simp; omega)).trans HR6.out
      have a3 := (hg.block S (heap_of_cells HS6.out) (by simp; omega)).trans HS6.out
      exact ⟨⟨cell_of_row W q 0 _ _ _ a1, cell_of_row W q 1 _ _ _ a1, cell_of_row W q 2 _ _ _ a1⟩, ⟨cell_of_row W R 0 _ _ _ a2, cell_of_row W S 0 _ _ _ a3, cell_of_row W S 1 _ _ _ a3, cell_of_row W S 2 _ _ _ a3⟩, frozen_of_row W R 0 _ _ a2, frozen_of_row W S 0 _ _ a3, frozen_of_row W S 1 _ _ a3, frozen_of_row W S 2 _ _ a3, a2, a3⟩)
    obtain ⟨⟨c0, c1, c2⟩, ⟨r0, s0, s1, s2⟩, g0, g1, g2, g3, _, _⟩ := HX6.out w6 (grownBy_refl _ _)
    go_region_held3 (fun w' => w'.cell? ⟨q, 0, none⟩ = some (.int .i64 n) ∧ w'.cell? ⟨q, 1, none⟩ = some (.int .i64 t) ∧ w'.cell? ⟨q, 2, none⟩ = some (.int .i64 G)) (first | exact ⟨c0, c1, c2⟩ | exact k1 | go_keep)
      (first | (go_at_call 14; refine (HBIG.out _ (by first | exact HD6.out | exact HDe.out)).mono ?_; rintro e9 w7 ⟨P, rfl, hd7, hg7, hpr, hlt⟩; have HD7 : Hid (Dk w7 g) := (show Hid _ from hd7); have HG7 : Hid (w6.grownBy w7 (some g)) := (show Hid _ from ⟨hg7.os, hg7.tape, hg7.output, hg7.size, hg7.block⟩); have HPR := Lib.hid hpr; have HLTP := Lib.hid hlt; obtain ⟨k1, ⟨r0, s0, s1, s2⟩, g0, g1, g2, g3, hr7, hs7⟩ := HX6.out w7 HG7.out; have HR7 := Lib.hid hr7; have HS7 := Lib.hid hs7; clear hd7 hg7 hpr hlt hr7 hs7))
    all_goals
      go_wp2_with fail
      have hne : R ≠ S := nRS
      have x1 : (w7.setCell ⟨R, 0, none⟩ (.int .i64 P)).heap[R]? = some (.cells #[.int .i64 P] 31 (0, 0)) := by
        have := heap_setCell_same w7 R 0 _ _ (.int .i64 P) HR7.out
        simpa using this
      have x2 : (w7.setCell ⟨R, 0, none⟩ (.int .i64 P)).heap[S]? = some (.cells #[.int .i64 0, .int .i64 0, .int .i64 0] 29 (0, 0)) := (heap_setCell_other w7 _ S _ (Ne.symm hne)).trans HS7.out
      have x3 := store3 (.int .i64 n) (.int .i64 t) (.int .i64 G) x2
      have x4 : ((((w7.setCell ⟨R, 0, none⟩ (.int .i64 P)).setCell ⟨S, 0, none⟩ (.int .i64 n)).setCell ⟨S, 1, none⟩ (.int .i64 t)).setCell ⟨S, 2, none⟩ (.int .i64 G)).heap[R]? = some (.cells #[.int .i64 P] 31 (0, 0)) := (heap_setCell_other _ _ R _ hne).trans ((heap_setCell_other _ _ R _ hne).trans ((heap_setCell_other _ _ R _ hne).trans x1))
      have q0 := cell_of_row _ R 0 _ _ _ x4
      have q1 := cell_of_row _ S 0 _ _ _ x3
      have q2 := cell_of_row _ S 1 _ _ _ x3
      have q3 := cell_of_row _ S 2 _ _ _ x3
      simp only [List.getElem?_toArray, List.getElem?_cons_zero, List.getElem?_cons_succ] at q0 q1 q2 q3
      obtain ⟨l1, l2, l3⟩ := HLT.out
      have hwR : w.heap.size ≤ R := by have := HER.out; omega
      have hGw7 : w.grownBy w7 (some g) := grownBy_trans HGw6.out HG7.out
      have hGf : w.grownBy ((((w7.setCell ⟨R, 0, none⟩ (.int .i64 P)).setCell ⟨S, 0, none⟩ (.int .i64 n)).setCell ⟨S, 1, none⟩ (.int .i64 t)).setCell ⟨S, 2, none⟩ (.int .i64 G)) (some g) :=
        grownBy_setCell (g := g) (p := ⟨S, 2, none⟩) (grownBy_setCell (g := g) (p := ⟨S, 1, none⟩) (grownBy_setCell (g := g) (p := ⟨S, 0, none⟩) (grownBy_setCell (g := g) (p := ⟨R, 0, none⟩) hGw7 (.inr hwR) _) (.inr (by show _ ≤ S; omega)) _) (.inr (by show _ ≤ S; omega)) _) (.inr (by show _ ≤ S; omega)) _
      have hDf : Dk ((((w7.setCell ⟨R, 0, none⟩ (.int .i64 P)).setCell ⟨S, 0, none⟩ (.int .i64 n)).setCell ⟨S, 1, none⟩ (.int .i64 t)).setCell ⟨S, 2, none⟩ (.int .i64 G)) g :=
        HD7.out.of fun i hi => (heap_setCell_other _ _ i _ (by show i ≠ S; omega)).trans ((heap_setCell_other _ _ i _ (by show i ≠ S; omega)).trans ((heap_setCell_other _ _ i _ (by show i ≠ S; omega)).trans (heap_setCell_other _ _ i _ (by show i ≠ R; omega))))
      exact bodyPost_ret (v := .tuple #[.agg #[.int .i64 P], .agg #[.int .i64 n, .int .i64 t, .int .i64 G]]) (by simp [results, Tryz.results23, go_sem, q0, q1, q2, q3]) rfl ⟨P, n, t, G, rfl, hDf, hGf, ⟨HPR.out, hn.1, hn.2.1, HLTP.out, ht.1, hG.1, hn.2.2⟩, ht.2, hG.2⟩
end Go.Proofs.YtoiabanpnkpbhaaGreatDoor
