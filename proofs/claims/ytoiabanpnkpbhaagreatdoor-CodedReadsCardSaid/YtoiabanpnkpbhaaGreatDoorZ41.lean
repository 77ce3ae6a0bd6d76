/- Joined: Ue. -/
import Derived.Test.YtoiabanpnkpbhaaGreatDoorZ40
import Derived.Test.YtoiabanpnkpbhaaGreatDoorZ32
import Derived.Test.YtoiabanpnkpbhaaGreatDoorZ36
import Derived.Test.YtoiabanpnkpbhaaGreatDoorZ27
import Derived.Test.YtoiabanpnkpbhaaGreatDoorZ31
import Derived.Test.YtoiabanpnkpbhaaGreatDoorZ22
import Derived.Test.YtoiabanpnkpbhaaGreatDoorZ28
namespace Go.Proofs.YtoiabanpnkpbhaaGreatDoor
open Go.RowKit

set_option maxRecDepth 100000 in
set_option maxHeartbeats 16000000 in
theorem greads_any (l : List Int) (a : Nat) (v : Value) (w : World) (ha : a < 256) (h : SI w v l) (hE : EW w) :
    Calls Tryz.prog 8 #[v, .int .u8 a] w fun e w' => e = .returned (.bool true) ∧ Below w.heap.size w w' := by
  have HS := Lib.hid h
  have HE := Lib.hid hE
  obtain ⟨A, c, rfl⟩ := h.form
  clear h hE
  go_enter Tryz.func8, Tryz.ntmps8
  go_wp2_with fail
  (with_reducible refine (sane_any _ HE.out).mono ?_)
  rintro e w1 ⟨rfl, hb1⟩
  have HB1 := Lib.hid hb1
  have HS1 := Lib.hid (HS.out.below hb1)
  clear hb1
  go_wp2_with fail
  (with_reducible refine (few_any l _ w1 HS1.out).mono ?_)
  rintro e wz ⟨rfl, hwz⟩
  subst hwz
  by_cases h5 : l.length ≤ 500
  case' neg =>
    have d5 : decide (l.length ≤ 500) = false := decide_eq_false h5
    rw [d5]
    clear d5 h5
    go_wp2_with fail
    go_ret
    exact ⟨rfl, HB1.out⟩
  have d5 : decide (l.length ≤ 500) = true := decide_eq_true h5
  rw [d5]
  clear d5 h5
  go_wp2_with fail
  (with_reducible refine (new_any l _ w1 HS1.out).mono ?_)
  rintro e w2 ⟨rfl, hd2, hb2, hz2⟩
  obtain ⟨g, eg⟩ : ∃ g, g = w1.heap.size := ⟨_, rfl⟩
  rw [← eg] at hd2 ⊢
  have HD2 := Lib.hid hd2
  have HB2 : Hid (Below w.heap.size w w2) := HB1.out.trans (hb2.mono HB1.out.size)
  have HGW : Hid (w.heap.size ≤ g) := (show Hid _ from by rw [eg]; exact HB1.out.size)
  have HG2 : Hid (g < w2.heap.size) := hd2.lt
  clear hd2 hb2 hz2 eg
  go_wp2_with fail
  (with_reducible refine (storage_any g w2 HD2.out).mono ?_)
  rintro e w3 ⟨P, n0, t0', G0, rfl, hd3, hg3, hV, ht2, hG3⟩
  have hn2 := hV.n2
  have hn10 := hV.n10
  have hnP := hV.nP
  have ht1 := hV.t1
  have hG1 := hV.G1
  have hsum := hV.sum
  obtain ⟨n, rfl⟩ : ∃ n : Nat, n0 = n := ⟨n0.toNat, by omega⟩
  obtain ⟨t, rfl⟩ : ∃ t : Nat, t0' = t := ⟨t0'.toNat, by omega⟩
  obtain ⟨G, rfl⟩ : ∃ G : Nat, G0 = G := ⟨G0.toNat, by omega⟩
  have HV := Lib.hid hV
  have hPb := hV.pb
  have hPi : i64r P := by unfold i64r; omega
  obtain ⟨F, eF⟩ : ∃ F, F = w3.heap.size := ⟨_, rfl⟩
  obtain ⟨w4, ew4⟩ : ∃ w4 : World, w4 = (w3.alloc (.cells #[.int .i64 P] 31)).alloc (.cells #[.int .i64 n, .int .i64 t, .int .i64 G] 29) := ⟨_, rfl⟩
  have HWw4 : Hid ((w3.alloc (.cells #[.int .i64 P] 31)).alloc (.cells #[.int .i64 n, .int .i64 t, .int .i64 G] 29) = w4) := ew4.symm
  have HAw4 : Hid (Below w3.heap.size w3 w4) := (show Hid _ from by rw [ew4]; exact ((Below.refl _ w3).alloc (Nat.le_refl _) _).alloc (by simp) _)
  have HF0w4 : Hid (w4.heap[F]? = some (.cells #[.int .i64 P] 31 (0, 0))) := (show Hid _ from by show _ = _; rw [ew4, eF, Below.heap_alloc _ _ _ (by simp)]; exact heap_alloc_new w3 _)
  have HF1w4 : Hid (w4.heap[F + 1]? = some (.cells #[.int .i64 n, .int .i64 t, .int .i64 G] 29 (0, 0))) := (show Hid _ from by show _ = _; rw [ew4, eF]; have := heap_alloc_new (w3.alloc (.cells #[.int .i64 P] 31)) (.cells #[.int .i64 n, .int .i64 t, .int .i64 G] 29); simpa using this)
  have HGF : Hid (g < F) := (show Hid _ from by rw [eF]; have := hg3.size; have := HG2.out; show g < _; omega)
  have HXC : Hid (∀ W, w4.grownBy W (some g) → W.cell? ⟨F, 0, none⟩ = some (.int .i64 P) ∧ W.cell? ⟨F + 1, 0, none⟩ = some (.int .i64 n) ∧ W.cell? ⟨F + 1, 1, none⟩ = some (.int .i64 t) ∧ W.cell? ⟨F + 1, 2, none⟩ = some (.int .i64 G)) := (show Hid _ from fun W hg => by
    have hF0 := (hg.block F (heap_of_cells HF0w4.out) (by have := HGF.out; simp; omega)).trans HF0w4.out
    have hF1 := (hg.block (F + 1) (heap_of_cells HF1w4.out) (by have := HGF.out; simp; omega)).trans HF1w4.out
    exact ⟨cell_of_row W F 0 _ _ _ hF0, cell_of_row W (F + 1) 0 _ _ _ hF1, cell_of_row W (F + 1) 1 _ _ _ hF1, cell_of_row W (F + 1) 2 _ _ _ hF1⟩)
  have HD4 := Lib.hid (hd3.below HAw4.out)
  have HG24 : Hid (w2.grownBy w4 (some g)) := grownBy_trans hg3 (grownBy_of_below HAw4.out _)
  have HBF : Hid (∀ W, w4.grownBy W (some g) → Below w.heap.size w W) := (show Hid _ from fun W hg => HB2.out.grown (grownBy_trans HG24.out hg) HB2.out.size (fun k hk => by injection hk with e; subst e; exact HGW.out))
  clear hd3 hg3 hV
  go_upto_region 7 with fail
  rw [HWw4.out, ← eF]
  clear ew4 eF
  go_wp2_with fail
  (with_reducible refine (next_any 6 g w4 HD4.out (i64_s (by omega)) (by omega)).mono ?_)
  rintro e w5 ⟨x, rfl, _, hx, hd5, hg5⟩
  obtain ⟨hx1, hx2⟩ := hx (by omega)
  obtain ⟨m, em⟩ : ∃ m : Nat, (m : Int) = 1 + x := ⟨(1 + x).toNat, by omega⟩
  have hm1 : 1 ≤ m := by omega
  have hm6 : m ≤ 6 := by omega
  have wm : IntKind.i64.wrap (1 + x) = (m : Int) := by rw [em]; exact IntWalk.i64_in _ (by omega)
  have HD5 := Lib.hid hd5
  have HG45 : Hid (w4.grownBy w5 (some g)) := hg5
  clear hx hx1 hx2 em hd5 hg5
  go_wp2_with fail
  (with_reducible refine (next_any 3 g w5 HD5.out (i64_s (by omega)) (by omega)).mono ?_)
  rintro e w6 ⟨y, rfl, _, hy, hd6, hg6⟩
  obtain ⟨hy1, hy2⟩ := hy (by omega)
  obtain ⟨wd, ewd⟩ : ∃ wd : Nat, (wd : Int) = 1 + y := ⟨(1 + y).toNat, by omega⟩
  have hwd1 : 1 ≤ wd := by omega
  have hwd3 : wd ≤ 3 := by omega
  have wwd : IntKind.i64.wrap (1 + y) = (wd : Int) := by rw [ewd]; exact IntWalk.i64_in _ (by omega)
  have HD6 := Lib.hid hd6
  have HG46 : Hid (w4.grownBy w6 (some g)) := (show Hid _ from grownBy_trans HG45.out hg6)
  clear hy hy1 hy2 ewd hd6 hg6
  obtain ⟨f0, p0, p1, p2⟩ := HXC.out w6 HG46.out
  go_wp2_with fail
  (with_reducible refine (rows_any g m wd P w6 HD6.out (by omega) (by omega) (by omega)).mono ?_)
  rintro e w7 ⟨vr, rows, rfl, hrl, hrw, hsle, hd7, hg7⟩
  obtain ⟨Ar, cr, evr⟩ := hsle.form
  subst evr
  have HRW := Lib.hid hrw
  have HRS7 := Lib.hid hsle
  have HRL := Lib.hid hrl
  have HD7 := Lib.hid hd7
  have HG47 : Hid (w4.grownBy w7 (some g)) := (show Hid _ from grownBy_trans HG46.out hg7)
  clear f0 p0 p1 p2 wm wwd hrw hsle hd7 hg7
  rw [hrl] at HRS7 ⊢
  clear hrl
  obtain ⟨f0, p0, p1, p2⟩ := HXC.out w7 HG47.out
  go_wp2_with fail
  (with_reducible refine (groups_ok n t G m w7 ⟨by omega, by omega⟩ (by omega)).mono ?_)
  rintro e w8 ⟨rfl, hb8⟩
  obtain ⟨N, eN⟩ : ∃ N, N = ngr m G := ⟨_, rfl⟩
  have hNb := ngr_bd (len := m) (G := G) (by omega)
  rw [← eN] at hNb ⊢
  have hN1 : 1 ≤ N := by
    rcases Nat.eq_zero_or_pos N with h0 | h0
    · rw [h0] at hNb; omega
    · exact h0
  have hN6 : N ≤ 6 := by
    have h2 : N * 1 ≤ N * G := Nat.mul_le_mul_left _ (by omega)
    have h3 : N * G < m + G := hNb.1
    rcases Nat.lt_or_ge 6 N with h4 | h4
    · have h5 : 7 * G ≤ N * G := Nat.mul_le_mul_right G h4
      omega
    · exact h4
  have HNB := Lib.hid hNb
  have HEN := Lib.hid eN
  have HG48 : Hid (w4.grownBy w8 (some g)) := (show Hid _ from grownBy_trans HG47.out (grownBy_of_below hb8 _))
  have HD8 := Lib.hid (HD7.out.below hb8)
  have HRS8 := Lib.hid (HRS7.out.below hb8)
  clear hb8 hNb eN f0 p0 p1 p2
  obtain ⟨f0, p0, p1, p2⟩ := HXC.out w8 HG48.out
  obtain ⟨K, eK⟩ : ∃ K, K = N * t := ⟨_, rfl⟩
  have hmt : N * t ≤ 6 * 2 := Nat.mul_le_mul (by omega) (by omega)
  have HKM : Hid (K = N * t) := eK
  have HKb : Hid (K ≤ 12) := (show Hid _ from by show _ ≤ _; rw [eK]; omega)
  clear hmt
  go_wp2_with fail
  (with_reducible refine (glimits_ok P n t G N K t w8 HV.out ⟨by omega, by omega⟩ rfl eK).mono ?_)
  rintro e w9 ⟨Al, cl, rfl, hb9, hol9⟩
  have HSE9 : Hid (SE g w9 (.slice Al K cl) (List.replicate K P)) := (show Hid _ from SE.of_own hol9 (fun x hx => by rw [(List.mem_replicate.1 hx).2]; exact hPi) HD8.out.lt)
  have HG49 : Hid (w4.grownBy w9 (some g)) := (show Hid _ from grownBy_trans HG48.out (grownBy_of_below hb9 _))
  have HD9 := Lib.hid (HD8.out.below hb9)
  have HRS9 := Lib.hid (HRS8.out.below hb9)
  clear hb9 hol9 eK f0 p0 p1 p2
  obtain ⟨ea1, ea2⟩ := u8_tmod a N (by omega)
  rw [Int.toNat_natCast] at ea1 ea2
  obtain ⟨i, ei⟩ : ∃ i, i = a % N := ⟨_, rfl⟩
  rw [← ei] at ea1 ea2
  have him : i < N := by omega
  have hN0 : ¬ N = 0 := by omega
  have hN0' : ¬ (N : Int) = 0 := by omega
  have wi : IntKind.i64.wrap ((i : Nat) : Int) = (i : Int) := by exact IntWalk.i64_in _ (by omega)
  have wa_ : IntKind.i64.wrap ((a : Nat) : Int) = (a : Int) := by exact IntWalk.i64_in _ (by omega)
  have dN : decide ((N : Int) < 1) = false := decide_eq_false (by omega)
  have dN' : decide (N < 1) = false := decide_eq_false (by omega)
  clear ei
  go_upto_region 14 with fail
  clear ea1 wi wa_ dN dN'
  have HX9 : Hid (∀ W, w9.grownBy W (some g) → W.cell? ⟨F, 0, none⟩ = some (.int .i64 P) ∧ W.cell? ⟨F + 1, 0, none⟩ = some (.int .i64 n) ∧ W.cell? ⟨F + 1, 1, none⟩ = some (.int .i64 t) ∧ W.cell? ⟨F + 1, 2, none⟩ = some (.int .i64 G)) := (show Hid _ from fun W hg => HXC.out W (grownBy_trans HG49.out hg))
  have HSD : Hid (∀ W, w9.grownBy W (some g) → Dk W g → Calls Tryz.prog 27 #[.pointer (some ⟨g, 0, none⟩), .slice Al K cl] W fun e w' => ∃ A1 c1 ns, e = .returned (.agg #[.slice A1 K c1, .int .i64 0]) ∧ ns.length = K ∧ els P ns = true ∧ SE g w' (.slice A1 K c1) ns ∧ Dk w' g ∧ W.grownBy w' (some g)) := (show Hid _ from fun W hg hd =>
    (seed_any g (List.replicate K P) _ W hd (HSE9.out.grown hg) (by have := HKb.out; simp; omega) (limits_ok hPb)).mono fun e w' ⟨v1, ns, h1, h2, h3, h4, h5, h6⟩ => by
      have hnK : ns.length = K := by rw [h5]; simp
      obtain ⟨A1, c1, ev1⟩ := h6.form
      rw [hnK] at ev1
      subst ev1
      exact ⟨A1, c1, ns, h1, hnK, inL_els h4 hnK, h6, h2, h3⟩)
  have HQS : Hid (∀ W A1 c1 ns, ns.length = K → els P ns = true → SI W (.slice A1 K c1) ns → Calls Tryz.prog 22 #[.agg #[.int .i64 P], .agg #[.int .i64 n, .int .i64 t, .int .i64 G], .int .i64 N, .int .i64 i, .agg #[.slice A1 K c1, .int .i64 0]] W fun e w' => ∃ Aq cq A2 c2, e = .returned (.tuple #[.slice Aq n cq, .agg #[.slice A2 K c2, .int .i64 K], .int .i64 0]) ∧ Below W.heap.size W w' ∧ (∀ z, z < W.heap.size → SLE z w' (.slice Aq n cq) (gRows P i ns t G n N))) := (show Hid _ from fun W A1 c1 ns hl he hs =>
    (gqueriesF_ok P n t G N K i ns _ W HV.out ⟨by omega, by omega⟩ him hl HKM.out he hs).mono fun e w' ⟨Aq, cq, A2, c2, h1, h2, h3, _⟩ => ⟨Aq, cq, A2, c2, h1, h2, h3⟩)
  apply regWa g F (F + 1) n t G N i K P (.slice Al K cl) w9 HX9.out HD9.out HSD.out HQS.out
  rintro u16 u17 u79 u80 u81 u82 u83 u84 u85 u86 u87 u88 u89 u90 ns w10 ⟨hns, hne, hsq, hd10, hg10, T, vt, rfl, hT⟩
  have HSQ10 := Lib.hid hsq
  have HNS := Lib.hid hns
  have HNE := Lib.hid hne
  obtain ⟨Aq, cq, evq⟩ := hsq.form
  rw [gRows_len] at evq
  subst evq
  have HD10 := Lib.hid hd10
  have HG410 : Hid (w4.grownBy w10 (some g)) := (show Hid _ from grownBy_trans HG49.out hg10)
  have HRS10 := Lib.hid (HRS9.out.grown hg10)
  have t1 : w10.cell? ⟨T, 1, none⟩ = some (.int .i64 (K : Int)) := cell_of_row w10 T 1 _ _ _ hT
  clear hns hne hsq hd10 hg10 hT HX9 HSD HQS
  obtain ⟨f0, p0, p1, p2⟩ := HXC.out w10 HG410.out
  obtain ⟨sp, esp⟩ : ∃ sp : Nat, (sp : Int) = (n : Int) - 2 * (G : Int) - (t : Int) + 1 := ⟨n + 1 - 2 * G - t, by omega⟩
  have ws0 : IntKind.i64.wrap (2 * (G : Int)) = 2 * (G : Int) := by exact IntWalk.i64_in _ (by omega)
  have ws1 : IntKind.i64.wrap ((n : Int) - 2 * (G : Int)) = (n : Int) - 2 * (G : Int) := by exact IntWalk.i64_in _ (by omega)
  have ws2 : IntKind.i64.wrap ((n : Int) - 2 * (G : Int) - (t : Int)) = (n : Int) - 2 * (G : Int) - (t : Int) := by exact IntWalk.i64_in _ (by omega)
  have ws2' : IntKind.i64.wrap ((n : Int) - 2 * (G : Int) - (t : Int) + 1) = (sp : Int) := by rw [esp]; exact IntWalk.i64_in _ (by omega)
  have hsp : sp ≤ 8 := by omega
  obtain ⟨h2, eh2⟩ : ∃ h2 : Nat, h2 = sp / 2 := ⟨_, rfl⟩
  have wq1 : (sp : Int).tdiv 2 = (h2 : Int) := by rw [Int.tdiv_eq_ediv_of_nonneg (by omega)]; omega
  have wq2 : IntKind.i64.wrap (h2 : Int) = (h2 : Int) := by exact IntWalk.i64_in _ (by omega)
  have wq3 : IntKind.i64.wrap ((h2 : Int) + 1) = (h2 : Int) + 1 := by exact IntWalk.i64_in _ (by omega)
  have hh2 : h2 ≤ 4 := by omega
  have HESP := Lib.hid esp
  have HEH := Lib.hid eh2
  clear esp eh2
  go_wp2_with fail
  (with_reducible refine (next_any ((h2 : Int) + 1) g w10 HD10.out (by unfold i64r; omega) (by omega)).mono ?_)
  rintro e w11 ⟨x10, rfl, _, hx, hd11, hg11⟩
  obtain ⟨hx1, hx2⟩ := hx (by omega)
  obtain ⟨wrong, rfl⟩ : ∃ k : Nat, x10 = k := ⟨x10.toNat, by omega⟩
  have HWR : Hid (wrong * 2 ≤ sp) := (show Hid _ from by have := HEH.out; show wrong * 2 ≤ sp; omega)
  have hwr3 : wrong ≤ 4 := by have := HWR.out; omega
  have HD11 := Lib.hid hd11
  have HG411 : Hid (w4.grownBy w11 (some g)) := (show Hid _ from grownBy_trans HG410.out hg11)
  have HRS11 := Lib.hid (HRS10.out.grown hg11)
  have HSQ11 := Lib.hid (HSQ10.out.grown hg11)
  have ws3 : IntKind.i64.wrap (2 * (wrong : Int)) = 2 * (wrong : Int) := by exact IntWalk.i64_in _ (by omega)
  have ws4 : IntKind.i64.wrap ((sp : Int) - 2 * (wrong : Int)) = (sp : Int) - 2 * (wrong : Int) := by exact IntWalk.i64_in _ (by have := HWR.out; omega)
  have ws5 : IntKind.i64.wrap ((sp : Int) - 2 * (wrong : Int) + 1) = (sp : Int) - 2 * (wrong : Int) + 1 := by exact IntWalk.i64_in _ (by have := HWR.out; omega)
  clear hx hx1 hx2 hd11 hg11 f0 p0 p1 p2 t1 ws0 ws1 ws2 ws2' wq1 wq2 wq3
  obtain ⟨all, eall⟩ : ∃ all, all = gAns P rows wd G N (gRows P i ns t G n N) n := ⟨_, rfl⟩
  have HALL := Lib.hid eall
  have hall : all.length = n := by rw [eall, gAns_len]
  have HGA : Hid (∀ j, j < n → gr all j = cmb P (gRow P i ns t G j N) (hRows P rows ((j : Int) + 1) wd G N) wd) := (show Hid _ from fun j hj => by
    rw [HALL.out]; unfold gr gAns; rw [List.getElem?_map, List.getElem?_range hj]
    show cmb P (((gRows P i ns t G n N)[j]?).getD []) _ _ = _
    unfold gRows
    rw [List.getElem?_map, List.getElem?_range hj]; rfl)
  have HAN : Hid (∀ W, w11.grownBy W (some g) → Calls Tryz.prog 36 #[.agg #[.int .i64 P], .agg #[.int .i64 n, .int .i64 t, .int .i64 G], .int .i64 wd, .slice Ar m cr, .slice Aq n cq] W fun e w' => ∃ Aa ca, e = .returned (.slice Aa n ca) ∧ Below W.heap.size W w' ∧ SLE g w' (.slice Aa n ca) all) := (show Hid _ from fun W hg => by
    have hgW : g < W.heap.size := by have := HD11.out.lt; have := hg.size; omega
    have h := ganswers_ok P t n G wd g rows (gRows P i ns t G n N) _ _ W HV.out (by omega) (by rw [HRL.out]; omega) HRW.out (gRows_len ..) (fun q hq => by
      obtain ⟨j, _, rfl⟩ := List.mem_map.1 hq
      exact ⟨by rw [gRow_len, HRL.out, HEN.out], gRow_els hPb.1 ..⟩) (HRS11.out.grown hg).sl (HSQ11.out.grown hg).sl hgW
    rw [HRL.out, ← HEN.out, ← HALL.out] at h
    exact h)
  have HNX : Hid (∀ W, Dk W g → Calls Tryz.prog 13 #[.pointer (some ⟨g, 0, none⟩), .int .i64 ((sp : Int) - 2 * (wrong : Int) + 1)] W fun e w' => ∃ silent : Nat, e = .returned (.int .i64 silent) ∧ silent + 2 * wrong ≤ sp ∧ Dk w' g ∧ W.grownBy w' (some g)) := (show Hid _ from fun W hd =>
    (next_any ((sp : Int) - 2 * (wrong : Int) + 1) g W hd (by have := HWR.out; unfold i64r; omega) (by omega)).mono fun e w' ⟨x, h1, _, h2, h3, h4⟩ => by
      have := HWR.out
      obtain ⟨h5, h6⟩ := h2 (by omega)
      obtain ⟨silent, rfl⟩ : ∃ k : Nat, x = k := ⟨x.toNat, by omega⟩
      exact ⟨silent, h1, by omega, h3, h4⟩)
  have HMA : Hid (∀ W v (silent : Nat), w11.grownBy W (some g) → Dk W g → SLE g W v all → silent + 2 * wrong ≤ sp → Calls Tryz.prog 35 #[.pointer (some ⟨g, 0, none⟩), .agg #[.int .i64 P], v, .int .i64 wrong, .int .i64 silent] W fun e w' => ∃ A1 n1 c1 A2 n2 c2 L bad, e = .returned (.tuple #[.slice A1 n1 c1, .slice A2 n2 c2]) ∧ SAE g w' (.slice A1 n1 c1) L ∧ SE g w' (.slice A2 n2 c2) bad ∧ Dk w' g ∧ W.grownBy w' (some g) ∧ AnR P all wrong silent L bad) := (show Hid _ from fun W v silent _ hd hs hsi =>
    (mkanswers_any g wrong silent P all v W hd hPb hs (fun r hr => by
      rw [HALL.out] at hr
      obtain ⟨j, _, rfl⟩ := List.mem_map.1 hr
      have hl : (cmb P (gr (gRows P i ns t G n N) j) (hRows P rows ((j : Int) + 1) wd G N) wd).length = wd := cmbT_len ..
      exact ⟨cmbT_els hPb.1 .., by omega⟩) (by rw [HALL.out, gAns_len]; omega) (by rw [HALL.out, gAns_len]; omega) ⟨by omega, by omega⟩).mono fun e w' ⟨v1, v2, L, bad, h1, h2, h3, h4, h5, h6⟩ => by
      obtain ⟨A1, c1, e1⟩ := h2.form
      obtain ⟨A2, c2, e2⟩ := h3.form
      subst e1 e2
      exact ⟨A1, _, c1, A2, _, c2, L, bad, h1, h2, h3, h4, h5, h6⟩)
  have HX11 : Hid (∀ W, w11.grownBy W (some g) → W.cell? ⟨F, 0, none⟩ = some (.int .i64 P) ∧ W.cell? ⟨F + 1, 0, none⟩ = some (.int .i64 n) ∧ W.cell? ⟨F + 1, 1, none⟩ = some (.int .i64 t) ∧ W.cell? ⟨F + 1, 2, none⟩ = some (.int .i64 G)) := (show Hid _ from fun W hg => HXC.out W (grownBy_trans HG411.out hg))
  clear eall hall
  go_upto_region 19 with fail
  apply regWb g F (F + 1) n t G wd wrong sp P (.slice Ar m cr) (.slice Aq n cq) all (AnR P all wrong) w11 ws3 ws4 ws5 HX11.out HD11.out HAN.out HNX.out HMA.out
  rintro u21 u22 u122 u123 u124 u125 u126 u127 u128 u129 u130 u131 u132 u133 u134 u135 u136 u137 u138 u139 u140 u141 silent L bad w12 ⟨hsi, hsa, hse, hd12, hg12, hR⟩
  have HSI := Lib.hid hsi
  have HSA := Lib.hid hsa
  have HSE := Lib.hid hse
  have HR := Lib.hid hR
  obtain ⟨A5, c5, e5⟩ := hsa.form
  subst e5
  obtain ⟨A6, c6, e6⟩ := hse.form
  subst e6
  have HG412 : Hid (w4.grownBy w12 (some g)) := (show Hid _ from grownBy_trans HG411.out hg12)
  have HRS12 := Lib.hid (HRS11.out.grown hg12)
  obtain ⟨br, or_, cr', Hr, evr, hbr, hviewr⟩ := HRS12.out.view (by rw [HRL.out]; omega)
  rw [HRL.out] at evr
  injection evr with evA evn evc
  subst evA evc
  have HVR : Hid (∀ W, w12.grownBy W (some g) → ∀ k, k < m → W.cell? ⟨br, or_ + k, none⟩ = some (Hr k) ∧ SE g W (Hr k) (gr rows k) ∧ ∃ B d, Hr k = .slice B wd d) := (show Hid _ from fun W hg k hk => by
    have hir : k < rows.length := by rw [HRL.out]; exact hk
    obtain ⟨h1, h2, B, d, h3⟩ := hviewr W hg k hir
    have e : gr rows k = rows[k] := by unfold gr; rw [List.getElem?_eq_getElem hir]; rfl
    rw [e]; exact ⟨h1, h2, B, d, by rw [h3, (HRW.out _ (List.getElem_mem hir)).1]⟩)
  have HLN : Hid (L.length = n) := (show Hid _ from by have := hR.1; rw [HALL.out, gAns_len] at this; exact this)
  have HDEC : Hid (∀ out wrl er, DgR P n t G wd L out wrl er → er = 0 ∧ out = gOut G wd rows i ∧ wrl = bad) := (show Hid _ from fun out wrl er h => by
    obtain ⟨h1, h2, h3, h4, h5, h6⟩ := HR.out
    have hal : all.length = n := by rw [HALL.out, gAns_len]
    have hs := HSI.out
    have he := HESP.out
    rw [hal] at h1 h6
    refine gdec_all (D := ns) (ng := N) HV.out.pr (by omega) (by omega) (by omega) (by omega) him (by rw [HRL.out]; exact HNB.out.1) HRW.out (by omega) h1 (by omega) (fun j hj hk => ?_) h3 (fun x => ?_) (by omega) h
    · obtain ⟨h7, h8⟩ := h2 j hj hk
      rw [HGA.out j (by omega)] at h7
      exact ⟨by rw [h7]; exact cmbT_len .., h8⟩
    · rw [h4 x]
      constructor
      · rintro ⟨j, hj, h7, h8, h9⟩
        refine ⟨j, hj, h7, h8, ?_⟩
        rw [HGA.out j (by omega)] at h9
        exact h9
      · rintro ⟨j, hj, h7, h8, h9⟩
        refine ⟨j, hj, h7, h8, ?_⟩
        rw [HGA.out j (by omega)]
        exact h9)
  have HGw12 : Hid (g < w12.heap.size) := (show Hid _ from hd12.lt)
  clear hsi hsa hse hd12 hg12 hR HX11 HAN HMA HNX hviewr hbr ws3 ws4 ws5
  obtain ⟨f0, p0, p1, p2⟩ := HXC.out w12 HG412.out
  have HE12 : Hid (EW w12) := HE.out.below (HBF.out w12 HG412.out)
  go_wp2_with fail
  (with_reducible refine (gdecode_any P n t G wd g L _ w12 HV.out HSA.out.san (by have := HLN.out; omega) HE12.out HGw12.out (by omega)).mono ?_)
  rintro e w13 ⟨out, wrl, er, v1, v2, rfl, hb13, hder, hrow, hwrl⟩
  obtain ⟨her, hre, hwe⟩ := HDEC.out out wrl er hder
  subst her hre hwe
  obtain ⟨A7, c7, e7⟩ := hrow.form
  subst e7
  obtain ⟨A8, c8, e8⟩ := hwrl.form
  subst e8
  rw [gOut_len] at hrow ⊢
  have HROW := Lib.hid hrow
  have HWRL := Lib.hid hwrl
  have HB13 : Hid (Below w12.heap.size w12 w13) := hb13
  have HG413 : Hid (w4.grownBy w13 (some g)) := (show Hid _ from grownBy_trans HG412.out (grownBy_of_below hb13 _))
  have HG123 : Hid (w12.grownBy w13 (some g)) := (show Hid _ from grownBy_of_below hb13 _)
  have HSE13 := Lib.hid (HSE.out.below hb13)
  obtain ⟨bl, ebl⟩ : ∃ bl, bl = wrl.length := ⟨_, rfl⟩
  rw [← ebl] at HWRL HSE13 ⊢
  clear hb13 hder hrow hwrl f0 p0 p1 p2 HDEC ebl
  obtain ⟨f0, p0, p1, p2⟩ := HXC.out w13 HG413.out
  go_wp2_with fail
  (with_reducible refine (same4_any wrl wrl _ _ w13 HWRL.out.si HSE13.out.si).mono ?_)
  rintro e w14 ⟨rfl, hb14⟩
  have dS : decide (wrl = wrl) = true := decide_eq_true rfl
  rw [dS]
  have HG414 : Hid (w4.grownBy w14 (some g)) := (show Hid _ from grownBy_trans HG413.out (grownBy_of_below hb14 _))
  have HG124 : Hid (w12.grownBy w14 (some g)) := (show Hid _ from grownBy_trans HG123.out (grownBy_of_below hb14 _))
  have HRO := Lib.hid (HROW.out.below hb14)
  clear hb14 f0 p0 p1 p2 dS
  obtain ⟨bo, oo, co, Ho, evo, hbo, hviewo⟩ := HRO.out.view (by rw [gOut_len]; omega)
  rw [gOut_len] at evo
  injection evo with evA evn evc
  subst evA evc
  have HVO : Hid (∀ W, w14.grownBy W (some g) → ∀ k, k < G → W.cell? ⟨bo, oo + k, none⟩ = some (Ho k) ∧ SE g W (Ho k) (gr (gOut G wd rows i) k)) := (show Hid _ from fun W hg k hk => by
    have hir : k < (gOut G wd rows i).length := by rw [gOut_len]; exact hk
    obtain ⟨h1, h2, _⟩ := hviewo W hg k hir
    have e : gr (gOut G wd rows i) k = (gOut G wd rows i)[k] := by unfold gr; rw [List.getElem?_eq_getElem hir]; rfl
    rw [e]; exact ⟨h1, h2⟩)
  clear hbo hviewo evn
  obtain ⟨f0, p0, p1, p2⟩ := HXC.out w14 HG414.out
  go_wp2_with fail
  clear f0 p0 p1 p2
  have HG14w : Hid (g < w14.heap.size) := (show Hid _ from by have := HG124.out.size; have := HGw12.out; show g < _; omega)
  go_loopw [168] (fun iv wr => ∃ k : Nat, k ≤ G ∧ iv = .int .i64 k ∧ Below w14.heap.size w14 wr) (fun iv _ => G - (intOf iv).toNat)
  case atStart => exact ⟨0, Nat.zero_le _, rfl, Below.refl _ _⟩
  case round =>
    obtain ⟨k, hk, rfl, hb⟩ := hrel
    have HB := Lib.hid hb
    have HG14r : Hid (w14.grownBy wr (some g)) := (show Hid _ from grownBy_of_below hb _)
    have HG4r : Hid (w4.grownBy wr (some g)) := (show Hid _ from grownBy_trans HG414.out HG14r.out)
    have HG12r : Hid (w12.grownBy wr (some g)) := (show Hid _ from grownBy_trans HG124.out HG14r.out)
    clear hb
    by_cases hlk : k < G
    · have dk : decide (k < G) = true := decide_eq_true hlk
      have ck := (HVO.out wr HG14r.out k hlk).1
      obtain ⟨vk, evk⟩ : ∃ vk, vk = Ho k := ⟨_, rfl⟩
      rw [← evk] at ck
      have z1 : (0 : Int) ≤ (k : Int) := by omega
      have z2 : (k : Int) < (G : Int) := by omega
      have HEV := Lib.hid evk
      obtain ⟨wz, ewz⟩ : ∃ wz : World, wz = wr.alloc (.cells ((zeros wd).map (Value.int .i64)).toArray 3) := ⟨_, rfl⟩
      have HBz : Hid (Below wr.heap.size wr wz) := (show Hid _ from by rw [ewz]; exact (Below.refl _ _).alloc (Nat.le_refl _) _)
      have HKz : Hid (BK wz wr.heap.size (zeros wd)) := (show Hid _ from by rw [ewz]; exact heap_alloc_new wr _)
      have HSZ : Hid (∀ W, Below wz.heap.size wz W → SI W (.slice (some ⟨wr.heap.size, 0, none⟩) wd wd) (zeros wd)) := (show Hid _ from fun W hb => by
        have h := BK.own (HKz.out.below hb HKz.out.lt) (base := 0) (by omega) (by simp [zeros]; omega)
        have hz : (zeros wd).length = wd := by simp [zeros]
        rw [hz] at h
        exact SI.of_own (by rw [hz]; exact h) (fun x hx => by simp [zeros] at hx; obtain ⟨_, rfl⟩ := hx; unfold i64r; omega))
      obtain ⟨x1, ex1⟩ : ∃ x1, x1 = i * G + k := ⟨_, rfl⟩
      have hiG : i * G ≤ 6 * 3 := Nat.mul_le_mul (by omega) (by omega)
      obtain ⟨y1, ey1⟩ : ∃ y1, y1 = i * G := ⟨_, rfl⟩
      have w1_ : IntKind.i64.wrap ((i : Int) * (G : Int)) = (y1 : Int) := by
        have e : (i : Int) * (G : Int) = (y1 : Int) := by rw [ey1, Int.natCast_mul]
        rw [e]; exact IntWalk.i64_in _ (by omega)
      have w2_ : IntKind.i64.wrap ((y1 : Int) + (k : Int)) = (x1 : Int) := by
        have e : (y1 : Int) + (k : Int) = (x1 : Int) := by omega
        rw [e]; exact IntWalk.i64_in _ (by omega)
      have HX1 := Lib.hid ex1
      clear ex1 ey1 evk
      obtain ⟨f0, p0, p1, p2⟩ := HXC.out wr HG4r.out
      obtain ⟨g0, q0, q1, q2⟩ := HXC.out wz (grownBy_trans HG4r.out (grownBy_of_below HBz.out _))
      have ck2 := (HVO.out wz (grownBy_trans HG14r.out (grownBy_of_below HBz.out _)) k hlk).1
      have HG12z : Hid (w12.grownBy wz (some g)) := (show Hid _ from grownBy_trans HG12r.out (grownBy_of_below HBz.out _))
      have HB14z : Hid (Below w14.heap.size w14 wz) := (show Hid _ from HB.out.trans (HBz.out.mono HB.out.size))
      rw [← HEV.out] at ck2
      have HSK : Hid (SI wz vk (gr (gOut G wd rows i) k)) := (show Hid _ from by rw [HEV.out]; exact (HVO.out wz (grownBy_of_below HB14z.out _) k hlk).2.si)
      by_cases hxm : x1 < m
      · have dx : decide (x1 < m) = true := decide_eq_true hxm
        obtain ⟨c1, hs1, B1, d1, eH⟩ := HVR.out wz HG12z.out x1 hxm
        rw [eH] at c1 hs1
        have z3 : (0 : Int) ≤ (x1 : Int) := by omega
        have z4 : (x1 : Int) < (m : Int) := by omega
        have HS1' := Lib.hid hs1.si
        have HEQ : Hid (gr (gOut G wd rows i) k = gr rows x1) := (show Hid _ from by show _ = _; rw [HX1.out]; exact gOut_in hlk (by rw [← HX1.out, HRL.out]; exact hxm) (fun r hr => (HRW.out r hr).1))
        clear hs1 eH
        go_wp2_with (at_make; refine wpList_make_ints _ rfl _ _ 22 rfl 3 Tryz.underlying22 iinfo _ wd rfl rfl rfl (by omega) ?_; rw [← ewz]; clear ewz)
        (with_reducible refine (same4_any _ _ _ _ wz HSK.out HS1'.out).mono ?_)
        rintro e w16 ⟨rfl, hb16⟩
        have dS : decide (gr (gOut G wd rows i) k = gr rows x1) = true := decide_eq_true HEQ.out
        rw [dS]
        have HB16 : Hid (Below w14.heap.size w14 w16) := (show Hid _ from HB14z.out.trans (hb16.mono HB14z.out.size))
        clear hb16
        go_wp2_with fail
        go_roundw
        case rel => exact ⟨k + 1, by omega, by go_num, HB16.out⟩
        case measure => simp [intOf]; omega
      · have dx : decide (x1 < m) = false := decide_eq_false hxm
        have HEQ : Hid (gr (gOut G wd rows i) k = zeros wd) := (show Hid _ from by show _ = _; exact gOut_beyond hlk (by rw [← HX1.out, HRL.out]; omega))
        have HSZ' := Lib.hid (HSZ.out wz (Below.refl _ _))
        go_wp2_with (at_make; refine wpList_make_ints _ rfl _ _ 22 rfl 3 Tryz.underlying22 iinfo _ wd rfl rfl rfl (by omega) ?_; rw [← ewz]; clear ewz)
        (with_reducible refine (same4_any _ _ _ _ wz HSK.out HSZ'.out).mono ?_)
        rintro e w16 ⟨rfl, hb16⟩
        have dS : decide (gr (gOut G wd rows i) k = zeros wd) = true := decide_eq_true HEQ.out
        rw [dS]
        have HB16 : Hid (Below w14.heap.size w14 w16) := (show Hid _ from HB14z.out.trans (hb16.mono HB14z.out.size))
        clear hb16
        go_wp2_with fail
        go_roundw
        case rel => exact ⟨k + 1, by omega, by go_num, HB16.out⟩
        case measure => simp [intOf]; omega
    · have dk : decide (k < G) = false := decide_eq_false hlk
      have HBe : Hid (Below w.heap.size w wr) := (show Hid _ from HBF.out wr HG4r.out)
      go_wp2_with fail
      go_ret
      exact ⟨rfl, HBe.out⟩
end Go.Proofs.YtoiabanpnkpbhaaGreatDoor
