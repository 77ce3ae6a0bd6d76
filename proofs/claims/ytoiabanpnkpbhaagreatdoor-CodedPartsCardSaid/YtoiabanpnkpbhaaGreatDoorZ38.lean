/- Joined: Vq. -/
import Derived.Test.YtoiabanpnkpbhaaGreatDoorZ32
import Derived.Test.YtoiabanpnkpbhaaGreatDoorZ37
import Derived.Test.YtoiabanpnkpbhaaGreatDoorZ24
import Derived.Test.YtoiabanpnkpbhaaGreatDoorZ22
import Derived.Test.YtoiabanpnkpbhaaGreatDoorZ35
namespace Go.Proofs.YtoiabanpnkpbhaaGreatDoor
open Go.RowKit

theorem ngr_one {G : Nat} (h : G = 2 ∨ G = 3) : ngr G G = 1 := by rcases h with rfl | rfl <;> rfl
/-- whether an element differs among the first k rows -/
def dfr (P : Int) (rows : List (List Int)) (p : List Int) (k : Nat) : Bool := (List.range k).any fun i => (gd (gr rows i) 0 + gd p i) % P != gd (gr rows i) 0
theorem dfr_succ (P : Int) (rows : List (List Int)) (p : List Int) (k : Nat) : dfr P rows p (k + 1) = (dfr P rows p k || ((gd (gr rows k) 0 + gd p k) % P != gd (gr rows k) 0)) := by
  unfold dfr; rw [List.range_succ, List.any_append]; simp
theorem dfr_all {P : Int} (hP : 2 ≤ P) {rows : List (List Int)} {p : List Int} {G : Nat} (hG : 1 ≤ G) (hl : gd p (G - 1) = 1) (he : 0 ≤ gd (gr rows (G - 1)) 0 ∧ gd (gr rows (G - 1)) 0 < P) : dfr P rows p G = true := by
  obtain ⟨k, rfl⟩ : ∃ k, G = k + 1 := ⟨G - 1, by omega⟩
  rw [Nat.add_sub_cancel] at hl he
  rw [dfr_succ, hl]
  have h := lead_differs hP he
  simp [h]
theorem row1 {g : Nat} {wf : World} {Hk : Value} {x0 : Int} (h : ∀ W, wf.grownBy W (some g) → SE g W Hk [x0]) : ∃ bb oo d, Hk = .slice (some ⟨bb, oo, none⟩) 1 d ∧ ∀ W, wf.grownBy W (some g) → W.cell? ⟨bb, oo, none⟩ = some (.int .i64 x0) := by
  obtain ⟨A, c, e, _, _, _, ha⟩ := h wf (grownBy_refl _ _)
  obtain ⟨b, o, eA, _, _, hc⟩ := ha (by simp)
  subst eA
  refine ⟨b, o, c, e, fun W hg => ?_⟩
  obtain ⟨A2, c2, e2, _, _, _, ha2⟩ := h W hg
  obtain ⟨b2, o2, eA2, _, _, hc2⟩ := ha2 (by simp)
  rw [e] at e2
  injection e2 with e3 e4 e5
  rw [eA2] at e3
  injection e3 with e3
  injection e3 with e6 e7
  subst e6 e7
  have := hc2 0 (by simp)
  simpa using this
/-- the product so far -/
def Pa1 (P : Int) (W : List Int) (w10 : World) (v iv : Value) (wr : World) : Prop :=
  ∃ (k N1 b : Nat) (l : List Int), k ≤ W.length ∧ N1 = k + 1 ∧ iv = .int .i64 k ∧ v = .slice (some ⟨b, 0, none⟩) N1 N1 ∧ l = prodW P (W.take k) ∧ BK wr b l ∧ w10.heap.size ≤ b ∧ Below w10.heap.size w10 wr
def Pa2 (P c : Int) (p : List Int) (bq : Nat) (wo : World) (iv : Value) (wr : World) : Prop :=
  ∃ (i : Nat) (l : List Int), i ≤ p.length ∧ iv = .int .i64 i ∧ l = pstK P c p i ∧ BK wr bq l ∧ Below wo.heap.size wo wr
def Pa3 (g : Nat) (P : Int) (rows : List (List Int)) (p : List Int) (G : Nat) (w12 : World) (v d iv : Value) (wr : World) : Prop :=
  ∃ (k : Nat) (pv : Value) (vs : List Value) (b : Bool), pv = v ∧ k ≤ G ∧ iv = .int .i64 k ∧ d = .bool b ∧ b = dfr P rows p k ∧ RW w12.heap.size g wr pv vs (othr P rows p k) ∧ Below w12.heap.size w12 wr
set_option maxRecDepth 100000 in
set_option maxHeartbeats 16000000 in
theorem parts_any (l : List Int) (v : Value) (w : World) (h : SI w v l) (hE : EW w) :
    Calls Tryz.prog 3 #[v] w fun e w' => e = .returned (.bool true) ∧ Below w.heap.size w w' := by
  have HS := Lib.hid h
  have HE := Lib.hid hE
  obtain ⟨A, c, rfl⟩ := h.form
  clear h hE
  go_enter Tryz.func3, Tryz.ntmps3
  go_wp2_with fail
  (with_reducible refine (sane_any _ HE.out).mono ?_)
  rintro e w1 ⟨rfl, hb1⟩
  have HB1 := Lib.hid hb1
  have HS1 := Lib.hid (HS.out.below hb1)
  clear hb1
  go_wp2_with fail
  (with_reducible refine (few_any l _ w1 HS1.out).mono ?_)
  rintro e wz ⟨rfl, hwz⟩
  subst hwz
  by_cases h5 : l.length ≤ 500
  · have d5 : decide (l.length ≤ 500) = true := decide_eq_true h5
    rw [d5]
    clear d5 h5
    go_wp2_with fail
    (with_reducible refine (new_any l _ w1 HS1.out).mono ?_)
    rintro e w2 ⟨rfl, hd2, hb2, hz2⟩
    obtain ⟨g, eg⟩ : ∃ g, g = w1.heap.size := ⟨_, rfl⟩
    rw [← eg] at hd2 ⊢
    have HD2 := Lib.hid hd2
    have HB2 : Hid (Below w.heap.size w w2) := HB1.out.trans (hb2.mono HB1.out.size)
    have HGW : Hid (w.heap.size ≤ g) := (show Hid _ from by rw [eg]; exact HB1.out.size)
    have HG2 : Hid (g < w2.heap.size) := hd2.lt
    clear hd2 hb2 hz2 eg
    go_wp2_with fail
    (with_reducible refine (next_any 2 g w2 HD2.out (i64_s (by omega)) (by omega)).mono ?_)
    rintro e w3 ⟨x, rfl, _, hx, hd3, hg3⟩
    obtain ⟨hx1, hx2⟩ := hx (by omega)
    obtain ⟨G, eG⟩ : ∃ G : Nat, (G : Int) = 2 + x := ⟨(2 + x).toNat, by omega⟩
    have hG : 2 ≤ G ∧ G ≤ 3 := by omega
    have m1 : IntKind.i64.wrap (2 + x) = (G : Int) := by rw [eG]; exact IntWalk.i64_in _ (by omega)
    obtain ⟨q, eq⟩ : ∃ q, q = w3.heap.size := ⟨_, rfl⟩
    obtain ⟨w4, ew4⟩ : ∃ w4 : World, w4 = w3.alloc (.cells #[.int .i64 0, .int .i64 1, .int .i64 G] 29) := ⟨_, rfl⟩
    have HW4 : Hid (w3.alloc (.cells #[.int .i64 0, .int .i64 1, .int .i64 G] 29) = w4) := ew4.symm
    have Hq4 : Hid (w4.heap[q]? = some (.cells #[.int .i64 0, .int .i64 1, .int .i64 G] 29 (0, 0))) := (show Hid _ from by show _ = _; rw [ew4, eq]; exact heap_alloc_new w3 _)
    have HB34 : Hid (Below w3.heap.size w3 w4) := (show Hid _ from by rw [ew4]; exact (Below.refl _ w3).alloc (Nat.le_refl _) _)
    have HD4 := Lib.hid (hd3.below HB34.out)
    have HGQ : Hid (g < q) := (show Hid _ from by rw [eq]; have := hg3.size; have := HG2.out; show g < _; omega)
    have HQ2 : Hid (w2.heap.size ≤ q) := (show Hid _ from by rw [eq]; exact hg3.size)
    have HG24 : Hid (w2.grownBy w4 (some g)) := grownBy_trans hg3 (grownBy_of_below HB34.out _)
    have HN3 : Hid (∀ W, Dk W g → Calls Tryz.prog 13 #[.pointer (some ⟨g, 0, none⟩), .int .i64 3] W fun e w' => ∃ x, e = .returned (.int .i64 x) ∧ (0 ≤ x ∧ x ≤ 2) ∧ Dk w' g ∧ W.grownBy w' (some g)) := (show Hid _ from fun W h => (next_any 3 g W h (i64_s (by omega)) (by omega)).mono fun e w' ⟨x, h1, _, h2, h3, h4⟩ => by
      obtain ⟨h5, h6⟩ := h2 (by omega)
      exact ⟨x, h1, ⟨h5, by omega⟩, h3, h4⟩)
    clear hx hx1 hx2 hd3 hg3 eG
    go_upto_region 7 with fail
    rw [HW4.out, ← eq]
    clear ew4 eq m1
    apply regVd g q G w4 (by omega) HGQ.out Hq4.out HD4.out HN3.out
    rintro u36 u37 u38 u39 u40 u41 u42 n w5 w6 ⟨hn, hq6, hd6, hg5, hg6⟩
    have Hq6 := Lib.hid hq6
    have HD6 := Lib.hid hd6
    have HG26 : Hid (w2.grownBy w6 (some g)) := (show Hid _ from grownBy_own (grownBy_trans HG24.out hg5) hg6 (fun k hk => by injection hk with e; have := HQ2.out; omega))
    clear hq6 hd6 hg5 hg6 HN3
    have q0 : w6.cell? ⟨q, 0, none⟩ = some (.int .i64 n) := cell_of_row w6 q 0 _ _ _ Hq6.out
    go_wp2_with fail
    (with_reducible refine (big_any g n w6 HD6.out (by omega) (by omega)).mono ?_)
    rintro e w7 ⟨P, rfl, hd7, hg7, hpr, hlt⟩
    have hPb := prB_bd hpr
    have HV : Hid (SV P n 1 G) := (show Hid _ from ⟨hpr, by omega, by omega, hlt, by omega, by omega, by omega⟩)
    obtain ⟨F, eF⟩ : ∃ F, F = w7.heap.size := ⟨_, rfl⟩
    obtain ⟨w8, ew8⟩ : ∃ w8 : World, w8 = w7.alloc (.cells #[.int .i64 P] 31) := ⟨_, rfl⟩
    have HW8 : Hid (w7.alloc (.cells #[.int .i64 P] 31) = w8) := ew8.symm
    have HF8 : Hid (w8.heap[F]? = some (.cells #[.int .i64 P] 31 (0, 0))) := (show Hid _ from by show _ = _; rw [ew8, eF]; exact heap_alloc_new w7 _)
    have HB78 : Hid (Below w7.heap.size w7 w8) := (show Hid _ from by rw [ew8]; exact (Below.refl _ w7).alloc (Nat.le_refl _) _)
    have HD8 := Lib.hid (hd7.below HB78.out)
    have Hq8 : Hid (w8.heap[q]? = some (.cells #[.int .i64 n, .int .i64 1, .int .i64 G] 29 (0, 0))) := (show Hid _ from by
      have h := (hg7.block q (heap_of_cells Hq6.out) (by have := HGQ.out; simp; omega)).trans Hq6.out
      exact (HB78.out.block q (heap_of_cells h)).trans h)
    have HG28 : Hid (w2.grownBy w8 (some g)) := grownBy_trans (grownBy_trans HG26.out hg7) (grownBy_of_below HB78.out _)
    have HGF : Hid (g < F) := (show Hid _ from by rw [eF]; have := hg7.size; have := HD6.out.lt; show g < _; omega)
    have HXC : Hid (∀ W, w8.grownBy W (some g) → W.cell? ⟨F, 0, none⟩ = some (.int .i64 P) ∧ W.cell? ⟨q, 0, none⟩ = some (.int .i64 n) ∧ W.cell? ⟨q, 1, none⟩ = some (.int .i64 1) ∧ W.cell? ⟨q, 2, none⟩ = some (.int .i64 G)) := (show Hid _ from fun W hg => by
      have h1 := (hg.block F (heap_of_cells HF8.out) (by have := HGF.out; simp; omega)).trans HF8.out
      have h2 := (hg.block q (heap_of_cells Hq8.out) (by have := HGQ.out; simp; omega)).trans Hq8.out
      exact ⟨cell_of_row W F 0 _ _ _ h1, cell_of_row W q 0 _ _ _ h2, cell_of_row W q 1 _ _ _ h2, cell_of_row W q 2 _ _ _ h2⟩)
    have HBF : Hid (∀ W, w8.grownBy W (some g) → Below w.heap.size w W) := (show Hid _ from fun W hg => HB2.out.grown (grownBy_trans HG28.out hg) HB2.out.size (fun k hk => by injection hk with e; subst e; exact HGW.out))
    clear hd7 hg7 hpr hlt q0
    go_upto_region 9 with fail
    rw [HW8.out, ← eF]
    clear ew8 eF
    obtain ⟨f0, q0, q1, q2⟩ := HXC.out w8 (grownBy_refl _ _)
    have HRWS : Hid (Calls Tryz.prog 15 #[.pointer (some ⟨g, 0, none⟩), .agg #[.int .i64 P], .int .i64 G, .int .i64 1] w8 fun e w' => ∃ v rows, e = .returned v ∧ rows.length = G ∧ (∀ r ∈ rows, r.length = 1 ∧ els P r = true) ∧ SLE g w' v rows ∧ Dk w' g ∧ w8.grownBy w' (some g)) := (show Hid _ from rows_any g G 1 P w8 HD8.out (by omega) (by omega) (by omega))
    go_wp2_with fail
    (with_reducible refine HRWS.out.mono ?_)
    rintro e w9 ⟨vr, rows, rfl, hl1, hr1, hs1, hd9, hg9⟩
    have HL1 := Lib.hid hl1
    have HR1 := Lib.hid hr1
    obtain ⟨Ar, cr, evr⟩ := hs1.form
    rw [hl1] at evr
    subst evr
    have HS9 := Lib.hid hs1
    have HD9 := Lib.hid hd9
    have HG89 : Hid (w8.grownBy w9 (some g)) := hg9
    clear hl1 hr1 hs1 hd9 hg9 f0 q0 q1 q2
    have HO : Hid (∀ W, Dk W g → Calls Tryz.prog 16 #[.pointer (some ⟨g, 0, none⟩), .int .i64 n] W fun e w' => ∃ (v : Value) (O : List Int), e = .returned v ∧ O.Perm (nums n) ∧ w'.ownsRow W.heap.size 3 1 v O.length (O.map (Value.int .i64)) ∧ Dk w' g ∧ W.grownBy w' (some g)) := (show Hid _ from fun W h => order_any n g W h (by omega))
    have HX9 : Hid (∀ W, w9.grownBy W (some g) → W.cell? ⟨q, 0, none⟩ = some (.int .i64 n) ∧ W.cell? ⟨q, 2, none⟩ = some (.int .i64 G)) := (show Hid _ from fun W hg => by
      obtain ⟨_, h1, _, h2⟩ := HXC.out W (grownBy_trans HG89.out hg)
      exact ⟨h1, h2⟩)
    go_upto_region 10 with fail
    apply regVe g q n G w9 (by omega) HX9.out HD9.out HO.out
    rintro u7 u52 u53 u54 u55 u56 u57 u58 u59 Ao co O w10 ⟨rfl, hperm, hso, hd10, hg10⟩
    obtain ⟨W, eW⟩ : ∃ W, W = O.take (G - 1) := ⟨_, rfl⟩
    obtain ⟨tt, ett⟩ : ∃ tt, tt = G - 1 := ⟨_, rfl⟩
    rw [← ett] at eW hso ⊢
    rw [← eW] at hso
    have HPM := Lib.hid hperm
    have hWl : W.length = tt := by rw [eW, List.length_take, hperm.length_eq, nums_len]; omega
    have HWB : Hid (∀ j ∈ W, 0 ≤ j ∧ j < (n : Int)) := (show Hid _ from fun j hj => nums_bd n j (hperm.mem_iff.1 (List.mem_of_mem_take (by rw [eW] at hj; exact hj))))
    have HWL := Lib.hid hWl
    have HSO := Lib.hid hso
    have HG810 : Hid (w8.grownBy w10 (some g)) := (show Hid _ from grownBy_trans HG89.out hg10)
    have HS10 : Hid (SLE g w10 (.slice Ar G cr) rows) := (show Hid _ from HS9.out.grown hg10)
    have HGg : Hid (g < w10.heap.size) := hd10.lt
    have HTT := Lib.hid ett
    have htt : 1 ≤ tt ∧ tt ≤ 2 ∧ tt < G ∧ G ≤ tt + 1 := by omega
    clear hperm hso hd10 hg10 HX9 HO eW hWl ett
    have HWV : Hid (∀ V, w10.grownBy V (some g) → ∀ k (h : k < W.length), ∃ b o, Ao = some ⟨b, o, none⟩ ∧ V.cell? ⟨b, o + k, none⟩ = some (.int .i64 W[k])) := (show Hid _ from fun V hg k hk => by
      obtain ⟨A2, c2, e2, _, _, _, ha2⟩ := (HSO.out.grown hg).si
      injection e2 with e21 e22 e23
      obtain ⟨bh, oh, e3, hbh, hcell⟩ := ha2 (by omega)
      exact ⟨bh, oh, by rw [e21]; exact e3, hcell k hk⟩)
    obtain ⟨b0, eb0⟩ : ∃ b, b = w10.heap.size := ⟨_, rfl⟩
    obtain ⟨w11, ew11⟩ : ∃ w11 : World, w11 = w10.alloc (.cells #[.int .i64 1] 3) := ⟨_, rfl⟩
    have HW11 : Hid (w10.alloc (.cells #[.int .i64 1] 3) = w11) := ew11.symm
    have HK11 : Hid (BK w11 b0 [1]) := (show Hid _ from by rw [ew11, eb0]; exact heap_alloc_new w10 _)
    have HB11 : Hid (Below w10.heap.size w10 w11) := (show Hid _ from by rw [ew11]; exact (Below.refl _ w10).alloc (Nat.le_refl _) _)
    have HB0 := Lib.hid eb0
    go_upto_region 12 with fail
    rw [HW11.out, ← eb0]
    clear ew11 eb0
    go_wp2_with fail
    go_loopw [8, 63] (fun v iv wr => Pa1 P W w10 v iv wr) (fun _ iv _ => tt - (intOf iv).toNat)
    case atStart => exact ⟨0, 1, b0, [1], Nat.zero_le _, rfl, rfl, rfl, rfl, HK11.out, by rw [HB0.out]; exact Nat.le_refl _, HB11.out⟩
    case round =>
      obtain ⟨k, N1, b, pp, hk, hN1, rfl, rfl, hpp, hbk, hbb, hb⟩ := hrel
      have HPP := Lib.hid hpp
      have HBK := Lib.hid hbk
      have HBB := Lib.hid hbb
      have HB := Lib.hid hb
      have hwl := HWL.out
      have HN1 := Lib.hid hN1
      have hN1a : k < N1 := by omega
      have hN1c : N1 ≤ k + 1 := by omega
      clear hpp hbk hbb hb hN1
      by_cases hlk : k < tt
      · have dk : decide (k < tt) = true := decide_eq_true hlk
        obtain ⟨bw, ow, eA, cw⟩ := HWV.out wr (grownBy_of_below HB.out _) k (by omega)
        subst eA
        obtain ⟨j, ej⟩ : ∃ j, j = W[k]'(by omega) := ⟨_, rfl⟩
        rw [← ej] at cw
        have hj : 0 ≤ j ∧ j < n := by rw [ej]; exact HWB.out _ (List.getElem_mem _)
        have HNX : Hid (prodW P (W.take (k + 1)) = pst P (P - j - 1) pp) := (show Hid _ from by
          show _ = _
          rw [← List.take_append_getElem (show k < W.length by omega), prodW_snoc, ← ej, ← HPP.out])
        have HPE : Hid (els P pp = true) := (show Hid _ from by show _ = _; rw [HPP.out]; exact prodW_els hPb.1 _)
        have HPL : Hid (pp.length = N1) := (show Hid _ from by show _ = _; rw [HPP.out, prodW_len, List.length_take]; omega)
        have hnP : (n : Int) < P := HV.out.nP
        obtain ⟨cc, ecc⟩ : ∃ cc, cc = P - j - 1 := ⟨_, rfl⟩
        rw [← ecc] at HNX
        have hcc : 0 ≤ cc ∧ cc < P := by omega
        have wc1 : IntKind.i64.wrap (P - j) = P - j := by exact IntWalk.i64_in _ (by omega)
        have wc2 : IntKind.i64.wrap (P - j - 1) = cc := by rw [← ecc]; exact IntWalk.i64_in _ (by omega)
        obtain ⟨K2, eK2⟩ : ∃ K2, K2 = N1 + 1 := ⟨_, rfl⟩
        have wK : IntKind.i64.wrap ((N1 : Int) + 1) = (K2 : Int) := by rw [eK2]; exact IntWalk.i64_in _ (by omega)
        have HK2 := Lib.hid eK2
        have hK2b : K2 ≤ 100 := by omega
        have hN1b : N1 < K2 := by omega
        clear ej ecc eK2 hwl
        go_wp2_with (at_make; refine wpList_make_ints _ rfl _ _ 22 rfl 3 Tryz.underlying22 iinfo _ K2 rfl rfl rfl (by omega) ?_)
        clear wK
        obtain ⟨wo, ewo⟩ : ∃ wo : World, wo = wr := ⟨_, rfl⟩
        rw [← ewo] at HBK HB cw ⊢
        clear ewo
        obtain ⟨bq, ebq⟩ : ∃ b, b = wo.heap.size := ⟨_, rfl⟩
        obtain ⟨w6, ew6⟩ : ∃ w6 : World, w6 = wo.alloc (.cells ((zeros K2).map (Value.int .i64)).toArray 3) := ⟨_, rfl⟩
        have HB6 : Hid (Below wo.heap.size wo w6) := (show Hid _ from by rw [ew6]; exact (Below.refl _ _).alloc (Nat.le_refl _) _)
        have HK6 : Hid (BK w6 bq (pstK P cc pp 0)) := (show Hid _ from by rw [ew6, ebq, pstK_zero, HPL.out, ← HK2.out]; exact heap_alloc_new wo _)
        have HBQ := Lib.hid ebq
        have HBbq : Hid (b < bq) := (show Hid _ from by rw [ebq]; exact HBK.out.lt)
        rw [← ew6, ← ebq]
        clear ew6 ebq cw
        go_wp2_with fail
        go_loopw [73] (fun iv wr => Pa2 P cc pp bq wo iv wr) (fun iv _ => N1 - (intOf iv).toNat)
        case atStart => exact ⟨0, _, Nat.zero_le _, rfl, rfl, HK6.out, HB6.out⟩
        case round =>
          obtain ⟨i, ll, hi, rfl, hll, hbk2, hb2⟩ := hrel
          have HLL := Lib.hid hll
          have HBK2 := Lib.hid hbk2
          have HB2 := Lib.hid hb2
          clear hll hbk2 hb2
          by_cases hli : i < N1
          · have di : decide (i < N1) = true := decide_eq_true hli
            have hlen : ll.length = K2 := by rw [HLL.out, pstK_len, HPL.out, HK2.out]
            have HLE : Hid (els P ll = true) := (show Hid _ from by
              show _ = _
              rw [HLL.out]
              exact els_of fun z hz => by
                obtain ⟨i, _, rfl⟩ := List.mem_map.1 hz
                split
                · exact el_mod hPb.1 _
                · split
                  · exact el_mk (pvs_bd hPb.1 HPE.out _)
                  · exact el_mk ⟨by omega, by omega⟩)
            have cx : wr.cell? ⟨b, i, none⟩ = some (.int .i64 (gd pp i)) := by
              have h : i < pp.length := by rw [HPL.out]; exact hli
              rw [gd_lt h]
              exact (HBK.out.below HB2.out HBK.out.lt).cell h
            have hxb := el_t (els_gd hPb.1 HPE.out i)
            obtain ⟨x, ex⟩ : ∃ x, x = gd pp i := ⟨_, rfl⟩
            rw [← ex] at cx hxb
            obtain ⟨i1, ei1⟩ : ∃ i1, i1 = i + 1 := ⟨_, rfl⟩
            have wi1 : IntKind.i64.wrap ((i : Int) + 1) = (i1 : Int) := by rw [ei1]; exact IntWalk.i64_in _ (by omega)
            have ct : wr.cell? ⟨bq, i1, none⟩ = some (.int .i64 (gd ll i1)) := by
              have h : i1 < ll.length := by omega
              rw [gd_lt h]
              exact HBK2.out.cell h
            have hfr := HBK2.out.frozen i1
            have htb := el_t (els_gd hPb.1 HLE.out i1)
            obtain ⟨y, ey⟩ : ∃ y, y = gd ll i1 := ⟨_, rfl⟩
            rw [← ey] at ct htb
            obtain ⟨v1, ev1⟩ : ∃ v1, v1 = (y + x) % P := ⟨_, rfl⟩
            have w1_ : IntKind.i64.wrap (y + x) = y + x := by exact IntWalk.i64_in _ (by omega)
            have w2_ : (y + x).tmod P = v1 := by rw [ev1]; exact Int.tmod_eq_emod_of_nonneg (by omega)
            have hv1 : 0 ≤ v1 ∧ v1 < P := by rw [ev1]; exact ⟨Int.emod_nonneg _ (by omega), Int.emod_lt_of_pos _ (by omega)⟩
            have w3_ : IntKind.i64.wrap v1 = v1 := by exact IntWalk.i64_in _ (by omega)
            have hP0 : ¬ P = 0 := by omega
            have z1 : (0 : Int) ≤ (i1 : Int) := by omega
            have z2 : (i1 : Int) < (K2 : Int) := by omega
            have z3 : (0 : Int) ≤ (i : Int) := by omega
            have z4 : (i : Int) < (K2 : Int) := by omega
            obtain ⟨f0, _⟩ := HXC.out wr (grownBy_trans HG810.out (grownBy_of_below (HB.out.trans (HB2.out.mono HB.out.size)) _))
            have HEX := Lib.hid ex
            have HEY := Lib.hid ey
            have HEV := Lib.hid ev1
            have HI1 := Lib.hid ei1
            have HLN := Lib.hid hlen
            clear ex ey ev1 ei1 hlen
            go_upto_region 19 with fail
            go_region
            obtain ⟨w7, ew7⟩ : ∃ w7 : World, w7 = (wr.setCell ⟨bq, i1, none⟩ (.int .i64 v1)).drew := ⟨_, rfl⟩
            have HBK7 : Hid (BK w7 bq (ll.set i1 v1)) := (show Hid _ from by rw [ew7]; exact HBK2.out.set i1 v1)
            have HB7 : Hid (Below wo.heap.size wo w7) := (show Hid _ from by rw [ew7]; exact (HB2.out.setCell (by rw [HBQ.out]; exact Nat.le_refl _) _).drew)
            rw [← ew7]
            clear ew7 f0 ct cx hfr w1_ w2_ w3_ wi1 z1 z2
            obtain ⟨l2, el2⟩ : ∃ l2, l2 = ll.set i1 v1 := ⟨_, rfl⟩
            rw [← el2] at HBK7
            have hl2 : l2.length = K2 := by rw [el2, List.length_set]; exact HLN.out
            have hgi : gd l2 i = gd ll i := by rw [el2, gd_set' _ _ _ _ (by rw [HLN.out, HI1.out]; omega), if_neg (by rw [HI1.out]; omega)]
            have cx : w7.cell? ⟨b, i, none⟩ = some (.int .i64 x) := by
              have h : i < pp.length := by rw [HPL.out]; exact hli
              have h2 := (HBK.out.below HB7.out HBK.out.lt).cell h
              rwa [← gd_lt h, ← HEX.out] at h2
            have ct : w7.cell? ⟨bq, i, none⟩ = some (.int .i64 (gd l2 i)) := by
              have h : i < l2.length := by omega
              rw [gd_lt h]
              exact HBK7.out.cell h
            have hfr := HBK7.out.frozen i
            have hub := el_t (els_gd hPb.1 HLE.out i)
            rw [← hgi] at hub
            obtain ⟨u, eu⟩ : ∃ u, u = gd l2 i := ⟨_, rfl⟩
            rw [← eu] at ct hub
            have HGI : Hid (u = gd ll i) := (show Hid _ from eu.trans hgi)
            obtain ⟨m, em⟩ : ∃ m, m = cc * x := ⟨_, rfl⟩
            have hm := mul_bd hcc hxb hPb.2
            rw [← em] at hm
            have wm : IntKind.i64.wrap (cc * x) = m := by rw [← em]; exact IntWalk.i64_in _ (by omega)
            obtain ⟨v2, ev2⟩ : ∃ v2, v2 = (u + m) % P := ⟨_, rfl⟩
            have w1_ : IntKind.i64.wrap (u + m) = u + m := by exact IntWalk.i64_in _ (by omega)
            have w2_ : (u + m).tmod P = v2 := by rw [ev2]; exact Int.tmod_eq_emod_of_nonneg (by omega)
            have hv2 : 0 ≤ v2 ∧ v2 < P := by rw [ev2]; exact ⟨Int.emod_nonneg _ (by omega), Int.emod_lt_of_pos _ (by omega)⟩
            have w3_ : IntKind.i64.wrap v2 = v2 := by exact IntWalk.i64_in _ (by omega)
            obtain ⟨f0, _⟩ := HXC.out w7 (grownBy_trans HG810.out (grownBy_of_below (HB.out.trans (HB7.out.mono HB.out.size)) _))
            have HST : Hid (l2.set i v2 = pstK P cc pp (i + 1)) := (show Hid _ from by
              have h := pstK_step (c := cc) hPb.1 HPE.out (k := i) (by rw [HPL.out]; exact hli)
              rw [← HLL.out, ← HI1.out, ← HEY.out, ← HEX.out, ← HEV.out, ← el2, ← hgi, ← eu, ← em, ← ev2] at h
              show _ = _
              rw [← HI1.out]
              exact h)
            clear eu em ev2 el2 hgi hl2
            go_upto_region 20 with fail
            go_region
            all_goals
              go_wp2_with fail
              go_roundw
              case rel => exact ⟨i + 1, pstK P cc pp (i + 1), by have := HPL.out; omega, by go_num, rfl, by rw [← HST.out]; exact HBK7.out.set _ _, (HB7.out.setCell (by rw [HBQ.out]; exact Nat.le_refl _) _).drew⟩
              case measure => simp [intOf]; omega
          · have di : decide (i < N1) = false := decide_eq_false hli
            have hiN : i = N1 := by have := HPL.out; omega
            have HB10 : Hid (Below w10.heap.size w10 wr) := (show Hid _ from HB.out.trans (HB2.out.mono HB.out.size))
            have HBKf : Hid (BK wr bq (prodW P (W.take (k + 1)))) := (show Hid _ from by
              have h := HBK2.out
              rw [HLL.out, hiN] at h
              rw [HNX.out]
              unfold pst
              rw [HPL.out]
              exact h)
            have hbq10 : w10.heap.size ≤ bq := by rw [HBQ.out]; exact HB.out.size
            have HK2' := HK2.out
            clear hiN
            go_wp2_with fail
            go_roundw
            case rel => exact ⟨k + 1, K2, bq, _, by have := HWL.out; omega, by have := HN1.out; omega, by go_num, rfl, rfl, HBKf.out, hbq10, HB10.out⟩
            case measure => simp [intOf]; omega
      · have dk : decide (k < tt) = false := decide_eq_false hlk
        have hkt : k = tt := by omega
        have HPF : Hid (pp = prodW P W) := (show Hid _ from by rw [show k = W.length by omega, List.take_length] at HPP; exact HPP.out)
        obtain ⟨wf, ewf⟩ : ∃ wf : World, wf = wr := ⟨_, rfl⟩
        rw [← ewf] at HBK HB ⊢
        clear ewf
        have HPL : Hid (pp.length = G) := (show Hid _ from by show _ = _; rw [HPF.out, prodW_len, HWL.out]; omega)
        have HPE : Hid (els P pp = true) := (show Hid _ from by show _ = _; rw [HPF.out]; exact prodW_els hPb.1 _)
        have HLD : Hid (gd pp (G - 1) = 1) := (show Hid _ from by
          have h := prodW_lead P W
          rw [HWL.out, ← HPF.out] at h
          show _ = _
          rw [show G - 1 = tt by omega]
          exact h)
        have HN1G : Hid (N1 = G) := (show Hid _ from by show _ = _; omega)
        have hNG : G ≤ N1 ∧ N1 ≤ G := by omega
        have HSf : Hid (SLE g wf (.slice Ar G cr) rows) := (show Hid _ from HS10.out.below HB.out)
        have HGf : Hid (g < wf.heap.size) := (show Hid _ from by have := HB.out.size; have := HGg.out; show g < _; omega)
        have HG8f : Hid (w8.grownBy wf (some g)) := (show Hid _ from grownBy_trans HG810.out (grownBy_of_below HB.out _))
        clear hkt hlk
        go_wp2_with fail
        go_loopw [14, 15, 115] (fun v d iv wr => Pa3 g P rows pp G wf v d iv wr) (fun _ _ iv _ => G - (intOf iv).toNat)
        case atStart => exact ⟨0, _, [], false, rfl, Nat.zero_le _, rfl, rfl, rfl, RW.nil _ _ _, Below.refl _ _⟩
        case round =>
          obtain ⟨k2, pv, vs, bb, rfl, hk2, rfl, rfl, hbb, hrw, hb⟩ := hrel
          have HBB2 := Lib.hid hbb
          have HRW := Lib.hid hrw
          have HB2 := Lib.hid hb
          clear hbb hrw hb
          by_cases hlk : k2 < G
          · have dk : decide (k2 < G) = true := decide_eq_true hlk
            obtain ⟨br, or_, Hr, e1, _, hvr⟩ := HSf.out.look HL1.out.symm (by omega)
            subst e1
            have hm := HR1.out _ (gr_mem (show k2 < rows.length by rw [HL1.out]; exact hlk))
            obtain ⟨x0, ex0⟩ : ∃ x0, gr rows k2 = [x0] := by
              match h : gr rows k2, hm.1 with
              | [x], _ => exact ⟨x, rfl⟩
            have HX0 := Lib.hid ex0
            have hx0 : 0 ≤ x0 ∧ x0 < P := by
              have := el_t (els_gd hPb.1 hm.2 0)
              rw [ex0] at this
              exact this
            obtain ⟨bb0, oo0, d0, eH, hrc⟩ := row1 (g := g) (wf := wf) (Hk := Hr k2) (x0 := x0) (fun V hg => by
              have := (hvr V hg k2 hlk).2.1
              rw [ex0] at this
              exact this)
            have HRC := Lib.hid hrc
            have hg0 := grownBy_of_below HB2.out (some g)
            have cr0 := (hvr wr hg0 k2 hlk).1
            rw [eH] at cr0
            have cx0 := hrc wr hg0
            have cp0 : wr.cell? ⟨b, k2, none⟩ = some (.int .i64 (gd pp k2)) := by
              have h : k2 < pp.length := by rw [HPL.out]; exact hlk
              rw [gd_lt h]
              exact (HBK.out.below HB2.out HBK.out.lt).cell h
            have hy0 := el_t (els_gd hPb.1 HPE.out k2)
            obtain ⟨y, ey⟩ : ∃ y, y = gd pp k2 := ⟨_, rfl⟩
            rw [← ey] at cp0 hy0
            obtain ⟨v1, ev1⟩ : ∃ v1, v1 = (x0 + y) % P := ⟨_, rfl⟩
            have w1_ : IntKind.i64.wrap (x0 + y) = x0 + y := by exact IntWalk.i64_in _ (by omega)
            have w2_ : (x0 + y).tmod P = v1 := by rw [ev1]; exact Int.tmod_eq_emod_of_nonneg (by omega)
            have hv1 : 0 ≤ v1 ∧ v1 < P := by rw [ev1]; exact ⟨Int.emod_nonneg _ (by omega), Int.emod_lt_of_pos _ (by omega)⟩
            have w3_ : IntKind.i64.wrap v1 = v1 := by exact IntWalk.i64_in _ (by omega)
            have hP0 : ¬ P = 0 := by omega
            have z1 : (0 : Int) ≤ (k2 : Int) := by omega
            have z2 : (k2 : Int) < (N1 : Int) := by omega
            have z3 : (k2 : Int) < (G : Int) := by omega
            obtain ⟨f0, _⟩ := HXC.out wr (grownBy_trans HG8f.out hg0)
            have HVS : Hid (othr P rows pp (k2 + 1) = othr P rows pp k2 ++ [[v1]]) := (show Hid _ from by
              show _ = _
              rw [othr_succ, HX0.out, ← ey, ev1]; rfl)
            have HDF : Hid (dfr P rows pp (k2 + 1) = (bb || (v1 != x0))) := (show Hid _ from by
              show _ = _
              rw [dfr_succ, ← HBB2.out, HX0.out, ← ey, ev1]; rfl)
            clear hvr hm ex0 hrc eH ey ev1
            go_upto_region 29 with fail
            go_quiet (fail)
            obtain ⟨w2a, ew2a⟩ : ∃ w2a : World, w2a = wr.drewN nq := ⟨_, rfl⟩
            have HW2A : Hid (wr.drewN nq = w2a) := ew2a.symm
            have HB2a : Hid (Below wr.heap.size wr w2a) := (show Hid _ from by rw [ew2a]; exact Below.drewN (Below.refl _ wr) nq)
            rw [HW2A.out]
            clear ew2a f0 cr0 cx0 cp0 w1_ w2_ w3_
            obtain ⟨w3, ew3⟩ : ∃ w3 : World, w3 = w2a.alloc (.cells #[.int .i64 v1] 3) := ⟨_, rfl⟩
            have HW3 : Hid (w2a.alloc (.cells #[.int .i64 v1] 3) = w3) := ew3.symm
            have HZ3 : Hid (w2a.heap.size + 1 = w3.heap.size) := (show Hid _ from by show _ = _; rw [ew3]; simp)
            obtain ⟨bz, ebz⟩ : ∃ b, b = w2a.heap.size := ⟨_, rfl⟩
            have HBZ := Lib.hid ebz
            have HBA : Hid (Below wr.heap.size wr w3) := (show Hid _ from by rw [ew3]; exact HB2a.out.alloc HB2a.out.size _)
            have HBK1 : Hid (BK w3 bz [v1]) := (show Hid _ from by rw [ew3, ebz]; exact heap_alloc_new w2a _)
            have HRW2 : Hid (RW wf.heap.size g w3 pv vs (othr P rows pp k2)) := (show Hid _ from HRW.out.below HGf.out HBA.out)
            have hz1 : wf.heap.size ≤ wr.heap.size := HB2.out.size
            have hz2 : wr.heap.size ≤ bz := by rw [ebz]; exact HB2a.out.size
            have hz3 : wf.heap.size ≤ w3.heap.size := Nat.le_trans hz1 HBA.out.size
            have HSX : Hid (SX (w3.alloc (.cells #[.slice (some ⟨bz, 0, none⟩) 1 1] 22)) pv.ownBlock (some g) (.slice (some ⟨bz, 0, none⟩) 1 1) [v1]) := (show Hid _ from SX.of_own (base := bz) (e := 3) ((HBK1.out.own (Nat.le_refl _) (by simp)).alloc _) (fun x hx => by simp at hx; subst hx; unfold i64r; omega) (fun q hq => Nat.lt_of_lt_of_le (HRW.out.hdr.lt q hq).2 hz2) (fun q hq => by injection hq with e; have := HGf.out; omega))
            have HBA2 : Hid (Below w3.heap.size w3 (w3.alloc (.cells #[.slice (some ⟨bz, 0, none⟩) 1 1] 22))) := (show Hid _ from (Below.refl _ _).alloc (Nat.le_refl _) _)
            clear ew3 ebz
            have hvn : vs.length ≤ 1000 := by have := HRW.out.len; rw [othr_len] at this; omega
            have hBB : bb = true ∨ (bb = false ∧ v1 = x0) ∨ (bb = false ∧ v1 ≠ x0) := by
              cases bb
              · by_cases h : v1 = x0
                · exact .inr (.inl ⟨rfl, h⟩)
                · exact .inr (.inr ⟨rfl, h⟩)
              · exact .inl rfl
            rcases hBB with rfl | ⟨rfl, hvx⟩ | ⟨rfl, hvx⟩
            case' inr.inl =>
              have ne1 : (v1 != x0) = false := by rw [hvx]; simp
              clear hvx
            case' inr.inr =>
              have ne1 : (v1 != x0) = true := by rw [bne_iff_ne]; exact hvx
              clear hvx
            all_goals
              go_wp2_with (at_builtin; (first | rw [HW3.out, HZ3.out, ← HBZ.out] | rw [HW3.out]); refine wpList_append_one_at _ rfl _ _ 33 rfl wf.heap.size 22 (.slice none 0 0) 24 Tryz.underlying33 ilinfo pv vs.length vs rfl (HRW2.out.hdr.alloc _) (.slice (some ⟨bz, 0, none⟩) 1 1) rfl w3.heap.size rfl (cells_new w3 [.slice (some ⟨bz, 0, none⟩) 1 1] 22 0 _ rfl) (by omega) (by omega) rfl (by simp; omega) ?_; intro g9 cap9 wa hown9 hg9 hat9; have HO9 := Lib.hid hown9; have HG9 := Lib.hid hg9; have HA9 := Lib.hid hat9; have HB9' : Hid (Below wf.heap.size wf wa) := (show Hid _ from ((HB2.out.trans (HBA.out.mono hz1)).trans (HBA2.out.mono hz3)).grown HG9.out (by have := HBA2.out.size; omega) (fun q hq => (HRW2.out.hdr.lt q hq).1)); have cx0 := HRC.out wa (grownBy_of_below HB9'.out _); clear hown9 hg9 hat9)
              have HRW9 : Hid (RW wf.heap.size g wa (.slice (some ⟨g9, 0, none⟩) (vs.length + 1) cap9) (vs ++ [.slice (some ⟨bz, 0, none⟩) 1 1]) (othr P rows pp (k2 + 1))) := (show Hid _ from by
                rw [HVS.out]
                exact (HRW2.out.below HGf.out HBA2.out).app HSX.out HO9.out HG9.out (fun q hq => by
                  have e : g9 = q := by simpa [Value.ownBlock] using hq
                  subst e; exact HA9.out))
              go_roundw
              case rel => exact ⟨k2 + 1, _, _, _, rfl, by omega, by go_num, rfl, by rw [HDF.out]; first | rfl | (rw [ne1]; rfl), HRW9.out, HB9'.out⟩
              case measure => simp [intOf]; omega
          · have dk : decide (k2 < G) = false := decide_eq_false hlk
            have hkG : k2 = G := by omega
            have HTR : Hid (bb = true) := (show Hid _ from by
              show _ = _
              rw [HBB2.out, hkG]
              refine dfr_all hPb.1 (by omega) HLD.out ?_
              exact el_t (els_gd hPb.1 (HR1.out _ (gr_mem (by rw [HL1.out]; omega))).2 0))
            have hs := HRW.out.sle HGf.out
            rw [hkG] at hs
            obtain ⟨Ap, cp, ep⟩ := hs.form
            rw [othr_len] at ep
            subst ep
            have HS3 := Lib.hid hs
            rw [HTR.out]
            obtain ⟨wh, ewh⟩ : ∃ wh : World, wh = wr := ⟨_, rfl⟩
            rw [← ewh] at HB2 HS3 ⊢
            clear ewh hs hkG HRW HBB2 HTR
            have HG8h : Hid (w8.grownBy wh (some g)) := (show Hid _ from grownBy_trans HG8f.out (grownBy_of_below HB2.out _))
            have HSh : Hid (SLE g wh (.slice Ar G cr) rows) := (show Hid _ from HSf.out.below HB2.out)
            have HB10h : Hid (Below w10.heap.size w10 wh) := (show Hid _ from HB.out.trans (HB2.out.mono HB.out.size))
            have HGh : Hid (g < wh.heap.size) := (show Hid _ from by have := HB2.out.size; have := HGf.out; show g < _; omega)
            have HH : Hid (∀ (V : World) v rws (j : Nat), 1 ≤ (j : Int) ∧ (j : Int) ≤ n → rws.length = G → (∀ r ∈ rws, r.length = 1 ∧ els P r = true) → SL V v rws → g < V.heap.size → Calls Tryz.prog 17 #[.agg #[.int .i64 P], .agg #[.int .i64 n, .int .i64 1, .int .i64 G], .int .i64 1, v, .int .i64 j] V fun e w' => ∃ A c, e = .returned (.tuple #[.slice A 1 c, .int .i64 0]) ∧ Below V.heap.size V w' ∧ SLE g w' (.slice A 1 c) (hRows P rws j 1 G 1)) := (show Hid _ from fun V v rws j hj hl hr hs hg => by
              have := hold_ok P n 1 G 1 j g rws v V HV.out hj (by omega) (by omega) hr hs hg
              rw [hl, ngr_one (by omega)] at this
              exact this)
            have HOM : Hid (∀ r ∈ othr P rows pp G, r.length = 1 ∧ els P r = true) := (show Hid _ from othr_mem hPb.1 rows pp G)
            have HHE : Hid (∀ (j : Int) (j1 : Nat), j ∈ W → (j1 : Int) = j + 1 → hRows P rows j1 1 G 1 = hRows P (othr P rows pp G) j1 1 G 1) := (show Hid _ from fun j j1 hj e => by
              refine othr_hold hPb.1 HL1.out (fun r hr => (HR1.out r hr).1) HPL.out ?_
              rw [HPF.out, e]
              exact prodW_root hPb.1 hj)
            go_wp2_with fail
            go_loopw [147] (fun iv wr => ∃ q2 : Nat, q2 ≤ tt ∧ iv = .int .i64 q2 ∧ Below wh.heap.size wh wr) (fun iv _ => tt - (intOf iv).toNat)
            case atStart => exact ⟨0, Nat.zero_le _, rfl, Below.refl _ _⟩
            case round =>
              obtain ⟨q2, hq2, rfl, hb⟩ := hrel
              have HB3 := Lib.hid hb
              have HG8r : Hid (w8.grownBy wr (some g)) := (show Hid _ from grownBy_trans HG8h.out (grownBy_of_below hb _))
              clear hb
              by_cases hlq : q2 < tt
              · have dq : decide (q2 < tt) = true := decide_eq_true hlq
                have hqW : q2 < W.length := by rw [HWL.out]; exact hlq
                obtain ⟨bw, ow, eA, cw⟩ := HWV.out wr (grownBy_of_below (HB10h.out.trans (HB3.out.mono HB10h.out.size)) _) q2 hqW
                subst eA
                obtain ⟨j, ej⟩ : ∃ j, j = W[q2]'hqW := ⟨_, rfl⟩
                rw [← ej] at cw
                have HJW : Hid (j ∈ W) := (show Hid _ from by rw [ej]; exact List.getElem_mem _)
                have hj := HWB.out j HJW.out
                obtain ⟨j1, ej1⟩ : ∃ j1 : Nat, (j1 : Int) = j + 1 := ⟨(j + 1).toNat, by omega⟩
                have wj : IntKind.i64.wrap (j + 1) = (j1 : Int) := by rw [← ej1]; exact IntWalk.i64_in _ (by omega)
                have hj1 : 1 ≤ (j1 : Int) ∧ (j1 : Int) ≤ n := by omega
                have HEJ := Lib.hid ej1
                obtain ⟨f0, q0, q1, q2'⟩ := HXC.out wr HG8r.out
                have HGr : Hid (g < wr.heap.size) := (show Hid _ from by have := HB3.out.size; have := HGh.out; show g < _; omega)
                clear ej ej1
                go_wp2_with fail
                (with_reducible refine (HH.out wr _ rows j1 hj1 HL1.out HR1.out (HSh.out.below HB3.out).sl HGr.out).mono ?_)
                rintro e wx ⟨Ax, cx, rfl, hbx, hsx⟩
                clear cw f0 q0 q1 q2'
                have HBx : Hid (Below wr.heap.size wr wx) := hbx
                have HSX := Lib.hid hsx
                obtain ⟨f0, q0, q1, q2'⟩ := HXC.out wx (grownBy_trans HG8r.out (grownBy_of_below HBx.out _))
                have HS3x : Hid (SLE g wx (.slice Ap G cp) (othr P rows pp G)) := (show Hid _ from (HS3.out.below HB3.out).below hbx)
                have HGx : Hid (g < wx.heap.size) := (show Hid _ from by have := hbx.size; have := HGr.out; show g < _; omega)
                clear hbx hsx
                go_wp2_with fail
                (with_reducible refine (HH.out wx _ (othr P rows pp G) j1 hj1 (othr_len ..) HOM.out HS3x.out.sl HGx.out).mono ?_)
                rintro e wy ⟨Ay, cy, rfl, hby, hsy⟩
                clear wj f0 q0 q1 q2'
                have HBy : Hid (Below wr.heap.size wr wy) := (show Hid _ from HBx.out.trans (hby.mono HBx.out.size))
                have HSA : Hid (Calls Tryz.prog 18 #[.slice Ax 1 cx, .slice Ay 1 cy] wy fun e w' => e = .returned (.bool true) ∧ Below wy.heap.size wy w') := (show Hid _ from by
                  refine (sameRows_any _ _ _ _ wy (HSX.out.below hby).sl hsy.sl).mono fun e w' ⟨h3, h4⟩ => ⟨by rw [h3, HHE.out j j1 HJW.out HEJ.out]; simp, h4⟩)
                clear hby hsy
                go_wp2_with fail
                (with_reducible refine HSA.out.mono ?_)
                rintro e wz ⟨rfl, hbz⟩
                have HBz : Hid (Below wh.heap.size wh wz) := (show Hid _ from HB3.out.trans ((HBy.out.trans (hbz.mono HBy.out.size)).mono HB3.out.size))
                clear hbz
                go_wp2_with fail
                go_roundw
                case rel => exact ⟨q2 + 1, by omega, by go_num, HBz.out⟩
                case measure => simp [intOf]; omega
              · have dq : decide (q2 < tt) = false := decide_eq_false hlq
                have HBe : Hid (Below w.heap.size w wr) := HBF.out wr HG8r.out
                go_wp2_with fail
                go_ret
                exact ⟨rfl, HBe.out⟩
  · have d5 : decide (l.length ≤ 500) = false := decide_eq_false h5
    rw [d5]
    clear d5 h5
    go_wp2_with fail
    go_ret
    exact ⟨rfl, HB1.out⟩
end Go.Proofs.YtoiabanpnkpbhaaGreatDoor
