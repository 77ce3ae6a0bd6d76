/- Joined: Fy. -/
import Derived.Test.YtbgabipngdillaaGreatDoorZ23
namespace Go.Proofs.YtbgabipngdillaaGreatDoor
open Go.RowKit

set_option maxRecDepth 100000 in
set_option maxHeartbeats 8000000 in
theorem fewlaw_any (l : List Int) (a : Nat) (v : Value) (w : World) (ha : a < 256) (h : SI w v l) (hE : EW w) :
    Calls Tryz.prog 8 #[v, .int .u8 a] w fun e w' => e = .returned (.bool true) ∧ Below w.heap.size w w' := by
  have HS := Lib.hid h
  have HE := Lib.hid hE
  obtain ⟨A, c, rfl⟩ := h.form
  clear h hE
  go_enter Tryz.func8, Tryz.ntmps8
  go_wp2_with fail
  (with_reducible refine (sane_any _ HE.out).mono ?_)
  rintro e w1 ⟨rfl, hb1⟩
  have HB1 := Lib.hid hb1
  have HS1 := Lib.hid (HS.out.below hb1)
  clear hb1
  go_wp2_with fail
  (with_reducible refine (few_any l _ w1 HS1.out).mono ?_)
  rintro e wz ⟨rfl, hwz⟩
  subst hwz
  by_cases h5 : l.length ≤ 500
  · have d5 : decide (l.length ≤ 500) = true := decide_eq_true h5
    rw [d5]
    clear d5 h5
    go_wp2_with fail
    (with_reducible refine (new_any l _ w1 HS1.out).mono ?_)
    rintro e w2 ⟨rfl, hd2, hb2, hz2⟩
    obtain ⟨g, eg⟩ : ∃ g, g = w1.heap.size := ⟨_, rfl⟩
    rw [← eg] at hd2 ⊢
    have HD2 := Lib.hid hd2
    have HB2 : Hid (Below w.heap.size w w2) := HB1.out.trans (hb2.mono HB1.out.size)
    have HGW : Hid (w.heap.size ≤ g) := (show Hid _ from by rw [eg]; exact HB1.out.size)
    have HG2 : Hid (g < w2.heap.size) := hd2.lt
    clear hd2 hb2 hz2 eg
    go_wp2_with fail
    (with_reducible refine (plan_any g w2 HD2.out).mono ?_)
    rintro e w3 ⟨P, n0, t0, rfl, hd3, hg3, hpr, hnP, hn2, hn7, ht1, htn⟩
    obtain ⟨n, rfl⟩ : ∃ n : Nat, n0 = n := ⟨n0.toNat, by omega⟩
    obtain ⟨t, rfl⟩ : ∃ t : Nat, t0 = t := ⟨t0.toNat, by omega⟩
    have HPR := Lib.hid hpr
    have hPb := prB_bd hpr
    obtain ⟨F, eF⟩ : ∃ F, F = w3.heap.size := ⟨_, rfl⟩
    obtain ⟨w4, ew4⟩ : ∃ w4 : World, w4 = (w3.alloc (.cells #[.int .i64 P] 31)).alloc (.cells #[.int .i64 n, .int .i64 t] 29) := ⟨_, rfl⟩
    have HW4 : Hid ((w3.alloc (.cells #[.int .i64 P] 31)).alloc (.cells #[.int .i64 n, .int .i64 t] 29) = w4) := ew4.symm
    have HF4 : Hid (w4.heap[F]? = some (.cells #[.int .i64 P] 31 (0, 0))) := (show Hid _ from by show _ = _; rw [ew4, eF, Below.heap_alloc _ _ _ (by simp)]; exact heap_alloc_new w3 _)
    have HP4 : Hid (w4.heap[F + 1]? = some (.cells #[.int .i64 n, .int .i64 t] 29 (0, 0))) := (show Hid _ from by show _ = _; rw [ew4, eF]; have := heap_alloc_new (w3.alloc (.cells #[.int .i64 P] 31)) (.cells #[.int .i64 n, .int .i64 t] 29); simpa using this)
    have HB34 : Hid (Below w3.heap.size w3 w4) := (show Hid _ from by rw [ew4]; exact ((Below.refl _ w3).alloc (Nat.le_refl _) _).alloc (by simp) _)
    have HD4 := Lib.hid (hd3.below HB34.out)
    have HGF : Hid (g < F) := (show Hid _ from by rw [eF]; have := hg3.size; have := HG2.out; show g < _; omega)
    have HG24 : Hid (w2.grownBy w4 (some g)) := grownBy_trans hg3 (grownBy_of_below HB34.out _)
    have HFF := Lib.hid eF
    have HG4 : Hid (g < w4.heap.size) := HD4.out.lt
    have HXC : Hid (∀ W, w4.grownBy W (some g) → W.cell? ⟨F, 0, none⟩ = some (.int .i64 P) ∧ W.cell? ⟨F + 1, 0, none⟩ = some (.int .i64 n) ∧ W.cell? ⟨F + 1, 1, none⟩ = some (.int .i64 t)) := (show Hid _ from fun W hg => by
      have h1 := (hg.block F (heap_of_cells HF4.out) (by have := HGF.out; simp; omega)).trans HF4.out
      have h2 := (hg.block (F + 1) (heap_of_cells HP4.out) (by have := HGF.out; simp; omega)).trans HP4.out
      exact ⟨cell_of_row W F 0 _ _ _ h1, cell_of_row W (F + 1) 0 _ _ _ h2, cell_of_row W (F + 1) 1 _ _ _ h2⟩)
    have HBF : Hid (∀ W, w4.grownBy W (some g) → Below w.heap.size w W) := (show Hid _ from fun W hg => HB2.out.grown (grownBy_trans HG24.out hg) HB2.out.size (fun k hk => by injection hk with e; subst e; exact HGW.out))
    clear hd3 hg3 hpr
    go_upto_region 7 with fail
    rw [HW4.out, ← eF]
    clear ew4 eF
    go_wp2_with fail
    (with_reducible refine (next_any 4 g w4 HD4.out (by unfold i64r; omega) (by omega)).mono ?_)
    rintro e w5 ⟨x, rfl, _, hx, hd5, hg5⟩
    obtain ⟨hx1, hx2⟩ := hx (by omega)
    obtain ⟨m, em⟩ : ∃ m : Nat, (m : Int) = 1 + x := ⟨(1 + x).toNat, by omega⟩
    have hm1 : 1 ≤ m := by omega
    have hm4 : m ≤ 4 := by omega
    have wm : IntKind.i64.wrap (1 + x) = (m : Int) := by rw [em]; exact IntWalk.i64_in _ (by omega)
    have HD5 := Lib.hid hd5
    have HG45 : Hid (w4.grownBy w5 (some g)) := hg5
    clear hx hx1 hx2 em hd5 hg5
    go_wp2_with fail
    (with_reducible refine (next_any 3 g w5 HD5.out (by unfold i64r; omega) (by omega)).mono ?_)
    rintro e w6 ⟨y, rfl, _, hy, hd6, hg6⟩
    obtain ⟨hy1, hy2⟩ := hy (by omega)
    obtain ⟨wd, ewd⟩ : ∃ wd : Nat, (wd : Int) = 1 + y := ⟨(1 + y).toNat, by omega⟩
    have hwd1 : 1 ≤ wd := by omega
    have hwd3 : wd ≤ 3 := by omega
    have wwd : IntKind.i64.wrap (1 + y) = (wd : Int) := by rw [ewd]; exact IntWalk.i64_in _ (by omega)
    have HD6 := Lib.hid hd6
    have HG46 : Hid (w4.grownBy w6 (some g)) := (show Hid _ from grownBy_trans HG45.out hg6)
    clear hy hy1 hy2 ewd hd6 hg6
    obtain ⟨f0, p0, p1⟩ := HXC.out w6 HG46.out
    go_wp2_with fail
    (with_reducible refine (rows_any g m wd P w6 HD6.out (by omega) (by omega) (by omega)).mono ?_)
    rintro e w7 ⟨vr, rows, rfl, hrl, hrw, hsle, hd7, hg7⟩
    obtain ⟨Ar, cr, evr⟩ := hsle.form
    subst evr
    have HRW := Lib.hid hrw
    have HRS7 := Lib.hid hsle
    have HRL := Lib.hid hrl
    have HD7 := Lib.hid hd7
    have HG47 : Hid (w4.grownBy w7 (some g)) := (show Hid _ from grownBy_trans HG46.out hg7)
    clear f0 p0 p1 wm wwd hrw hsle hd7 hg7
    rw [hrl] at HRS7 ⊢
    clear hrl
    obtain ⟨ea1, ea2⟩ := u8_tmod a m (by omega)
    rw [Int.toNat_natCast] at ea1 ea2
    obtain ⟨i, ei⟩ : ∃ i, i = a % m := ⟨_, rfl⟩
    rw [← ei] at ea1 ea2
    have him : i < m := by omega
    have hm0 : ¬ m = 0 := by omega
    have hm0' : ¬ (m : Int) = 0 := by omega
    have wi : IntKind.i64.wrap ((i : Nat) : Int) = (i : Int) := by exact IntWalk.i64_in _ (by omega)
    have wa_ : IntKind.i64.wrap ((a : Nat) : Int) = (a : Int) := by exact IntWalk.i64_in _ (by omega)
    clear ei
    obtain ⟨f0, p0, p1⟩ := HXC.out w7 HG47.out
    have hPi : i64r P := by unfold i64r; omega
    go_wp2_with fail
    (with_reducible refine (limits_any P n t m w7 hPi).mono ?_)
    rintro e w8 ⟨vl, rfl, hb8, hok8, _⟩
    clear ea1 wi wa_ f0 p0 p1
    obtain ⟨K, eK⟩ : ∃ K, K = m * t := ⟨_, rfl⟩
    have hcc : ccE P n t m = 0 := by
      have hv : vaB n t = true := decide_eq_true ⟨by omega, by omega, by omega, by omega⟩
      have hc : cuE P n t = 0 := by unfold cuE; rw [if_neg (by rw [HPR.out]; simp), if_neg (by rw [hv]; simp; omega)]
      unfold ccE; rw [if_neg (by omega), hc]
    rw [hcc]
    have hol := hok8 hcc
    have hmt : ((m : Int) * (t : Int)).toNat = K := by rw [eK, ← Int.natCast_mul]; rfl
    rw [hmt] at hol
    have HKM : Hid ((K : Int) = (m : Int) * (t : Int)) := (show Hid _ from by show _ = _; rw [eK, Int.natCast_mul])
    have HKb : Hid (K ≤ 28) := (show Hid _ from by show _ ≤ _; rw [eK]; exact Nat.le_trans (Nat.mul_le_mul hm4 (by omega : t ≤ 7)) (by omega))
    have HG7g : Hid (g < w7.heap.size) := (show Hid _ from HD7.out.lt)
    have HSE8 : Hid (SE g w8 vl (List.replicate K P)) := (show Hid _ from SE.of_own hol (fun x hx => by rw [(List.mem_replicate.1 hx).2]; exact hPi) HG7g.out)
    have HG48 : Hid (w4.grownBy w8 (some g)) := (show Hid _ from grownBy_trans HG47.out (grownBy_of_below hb8 _))
    have HD8 := Lib.hid (HD7.out.below hb8)
    have HRS8 := Lib.hid (HRS7.out.below hb8)
    clear hb8 hok8 hol eK hcc hmt
    obtain ⟨Al, cl, evl⟩ := HSE8.out.form
    subst evl
    rw [List.length_replicate] at HSE8 ⊢
    have HX8 : Hid (∀ W, w8.grownBy W (some g) → W.cell? ⟨F, 0, none⟩ = some (.int .i64 P) ∧ W.cell? ⟨F + 1, 0, none⟩ = some (.int .i64 n) ∧ W.cell? ⟨F + 1, 1, none⟩ = some (.int .i64 t)) := (show Hid _ from fun W hg => HXC.out W (grownBy_trans HG48.out hg))
    have HSD : Hid (∀ W, w8.grownBy W (some g) → Dk W g → Calls Tryz.prog 19 #[.pointer (some ⟨g, 0, none⟩), .slice Al K cl] W fun e w' => ∃ A1 c1 ns, e = .returned (.agg #[.slice A1 K c1, .int .i64 0]) ∧ ns.length = K ∧ els P ns = true ∧ SE g w' (.slice A1 K c1) ns ∧ Dk w' g ∧ W.grownBy w' (some g)) := (show Hid _ from fun W hg hd =>
      (seed_any g (List.replicate K P) _ W hd (HSE8.out.grown hg) (by have := HKb.out; simp; omega) (limits_ok hPb)).mono fun e w' ⟨v1, ns, h1, h2, h3, h4, h5, h6⟩ => by
        have hnK : ns.length = K := by rw [h5]; simp
        obtain ⟨A1, c1, ev1⟩ := h6.form
        rw [hnK] at ev1
        subst ev1
        exact ⟨A1, c1, ns, h1, hnK, inL_els h4 hnK, h6, h2, h3⟩)
    have HQS : Hid (∀ W A1 c1 ns, ns.length = K → els P ns = true → SI W (.slice A1 K c1) ns → Calls Tryz.prog 17 #[.agg #[.int .i64 P], .agg #[.int .i64 n, .int .i64 t], .int .i64 m, .int .i64 i, .agg #[.slice A1 K c1, .int .i64 0]] W fun e w' => ∃ Aq cq A2 c2, e = .returned (.tuple #[.slice Aq n cq, .agg #[.slice A2 K c2, .int .i64 K], .int .i64 0]) ∧ Below W.heap.size W w' ∧ QRv W.heap.size w' (.slice Aq n cq) (qRows P i ns t n m)) := (show Hid _ from fun W A1 c1 ns hl he hs =>
      (queriesF_any P n t m i ns 0 _ W hPi (by unfold i64r; omega) hs).mono fun e w' ⟨vq, v1, a1, h1, h2, h3, _⟩ => by
        obtain ⟨_, hq0⟩ := quE_zero (P := P) (n := n) (t := t) (m := m) (i := i) (ns := ns) HPR.out (by omega) (by omega) (by omega) (by omega) (by omega) (by omega) (by omega) ea2 (by rw [hl]; exact HKM.out) he
        rw [hq0] at h1 h3
        obtain ⟨e1, h5, h6⟩ := h3 rfl
        have htk : (ns.drop 0).take ((m : Int) * (t : Int)).toNat = ns := by rw [List.drop_zero, ← HKM.out, Int.toNat_natCast, ← hl, List.take_length]
        rw [htk] at h6
        simp only [Int.toNat_natCast] at h6
        obtain ⟨A2, c2, ev1⟩ := h5.form'
        rw [hl] at ev1
        subst ev1
        obtain ⟨G, vs, hB, evq, hq, hr, hm⟩ := h6
        rw [qRows_len] at evq
        subst evq
        have ea : a1 = (K : Int) := by rw [e1, HKM.out]; simp
        subst ea
        exact ⟨_, _, A2, c2, h1, h2, G, vs, hB, by rw [qRows_len], hq, hr, hm⟩)
    go_upto_region 11 with fail
    apply regF g F (F + 1) n t m i K P (.slice Al K cl) w8 HX8.out HD8.out HSD.out HQS.out
    rintro u14 u15 u59 u60 u61 u62 u63 u64 u65 u66 u67 u68 u69 u70 ns w9 ⟨hns, hne, hsq, hd9, hg9, T, vt, rfl, hT⟩
    have HSQ9 := Lib.hid hsq
    have HNS := Lib.hid hns
    have HNE := Lib.hid hne
    obtain ⟨Aq, cq, evq⟩ := hsq.form
    rw [qRows_len] at evq
    subst evq
    have HD9 := Lib.hid hd9
    have HG49 : Hid (w4.grownBy w9 (some g)) := (show Hid _ from grownBy_trans HG48.out hg9)
    have HRS9 := Lib.hid (HRS8.out.grown hg9)
    have HG9g : Hid (g < w9.heap.size) := (show Hid _ from hd9.lt)
    clear hns hne hsq hd9 hg9 hT HX8 HSD HQS
    obtain ⟨f0, p0, p1⟩ := HXC.out w9 HG49.out
    go_wp2_with fail
    (with_reducible refine (answers_any P wd rows (qRows P i ns t n m) g _ _ w9 hPi HG9g.out (by exact HRS9.out.sl) (by exact HSQ9.out.sl) (by rw [qRows_len]; omega)).mono ?_)
    rintro e w10 ⟨va, rfl, hb10, hsa⟩
    rw [ans_rows HPR.out (by omega) HRL.out HRW.out] at hsa
    obtain ⟨ba, oa, ca, H, eva, hba, hview⟩ := hsa.view (by simp; omega)
    rw [List.length_map, List.length_range] at eva
    subst eva
    have HVA : Hid (∀ W, w10.grownBy W (some g) → ∀ j, j < n → W.cell? ⟨ba, oa + j, none⟩ = some (H j) ∧ SE g W (H j) (cmb P (qRow P i ns t j m) rows wd) ∧ ∃ B d, H j = .slice B wd d) := (show Hid _ from fun W hg j hj => by
      obtain ⟨h1, h2, B, d, h3⟩ := hview W hg j (by simp; exact hj)
      simp only [List.getElem_map, List.getElem_range] at h2 h3
      have hl : (cmb P (qRow P i ns t j m) rows wd).length = wd := cmbT_len ..
      rw [hl] at h3
      exact ⟨h1, h2, B, d, h3⟩)
    have HG410 : Hid (w4.grownBy w10 (some g)) := (show Hid _ from grownBy_trans HG49.out (grownBy_of_below hb10 _))
    have HD10 := Lib.hid (HD9.out.below hb10)
    have HRS10 := Lib.hid (HRS9.out.below hb10)
    obtain ⟨br, or_, cr', Hr, evr, hbr, hviewr⟩ := HRS10.out.view (by rw [HRL.out]; omega)
    rw [HRL.out] at evr
    injection evr with evA evn evc
    subst evA evc
    have HVR : Hid (∀ W, w10.grownBy W (some g) → W.cell? ⟨br, or_ + i, none⟩ = some (Hr i) ∧ SE g W (Hr i) (gr rows i) ∧ ∃ B d, Hr i = .slice B wd d) := (show Hid _ from fun W hg => by
      have hir : i < rows.length := by rw [HRL.out]; exact him
      obtain ⟨h1, h2, B, d, h3⟩ := hviewr W hg i hir
      have e : gr rows i = rows[i] := by unfold gr; rw [List.getElem?_eq_getElem hir]; rfl
      rw [e]
      rw [(HRW.out _ (List.getElem_mem hir)).1] at h3
      exact ⟨h1, h2, B, d, h3⟩)
    clear hb10 hsa hview hviewr evn f0 p0 p1
    obtain ⟨f0, p0, p1⟩ := HXC.out w10 HG410.out
    obtain ⟨b, eb⟩ : ∃ b, b = w10.heap.size := ⟨_, rfl⟩
    obtain ⟨w11, ew11⟩ : ∃ w11 : World, w11 = w10.alloc (.cells ((List.replicate n (false, Value.slice none 0 0)).flatMap fun x => [Value.bool x.1, x.2]).toArray 52) := ⟨_, rfl⟩
    have HW11 : Hid (w10.alloc (.cells ((List.replicate n (false, Value.slice none 0 0)).flatMap fun x => [Value.bool x.1, x.2]).toArray 52) = w11) := ew11.symm
    have HA11 : Hid (AKv w11 b (fwX n [] H)) := (show Hid _ from by rw [fwX_nil, ew11, eb]; exact heap_alloc_new w10 _)
    have HB1011 : Hid (Below w10.heap.size w10 w11) := (show Hid _ from by rw [ew11]; exact (Below.refl _ w10).alloc (Nat.le_refl _) _)
    have HD11 := Lib.hid (HD10.out.below HB1011.out)
    have HEB := Lib.hid eb
    have hgb : g < b := by rw [eb]; exact HD10.out.lt
    have hmk := mk_ans n (by omega) w10
    go_upto_region 16 with fail
    rw [HW11.out, ← eb]
    clear ew11 eb hmk f0 p0 p1
    obtain ⟨f0, p0, p1⟩ := HXC.out w11 (by exact grownBy_trans HG410.out (grownBy_of_below HB1011.out _))
    go_wp2_with fail
    (with_reducible refine (order_any n g w11 HD11.out (by omega)).mono ?_)
    rintro e w12 ⟨vo, O, rfl, hperm, hown, hd12, hg12⟩
    have hOl : O.length = n := by have h1 := hperm.length_eq; rwa [nums_len] at h1
    have HON : Hid (O.Nodup) := (show Hid _ from hperm.nodup_iff.2 (nums_nodup n))
    have HOB : Hid (∀ j ∈ O, 0 ≤ j ∧ j < (n : Int)) := (show Hid _ from fun j hj => nums_bd n j (hperm.mem_iff.1 hj))
    have hbs : b < w11.heap.size := HA11.out.lt
    have HSO : Hid (SE b w12 vo O) := (show Hid _ from SE.of_own hown (fun x hx => by have := nums_bd n x (hperm.mem_iff.1 hx); unfold i64r; omega) hbs)
    obtain ⟨Ao, co, evo⟩ := HSO.out.form
    subst evo
    have HA12 : Hid (AKv w12 b (fwX n [] H)) := (show Hid _ from (hg12.block b hbs (by simp; omega)).trans HA11.out)
    have HG1012 : Hid (w10.grownBy w12 (some g)) := (show Hid _ from grownBy_trans (grownBy_of_below HB1011.out _) hg12)
    have HTO : Hid (∀ W, w12.grownBy W (some b) → w10.grownBy W (some g)) := (show Hid _ from fun W hg => grownBy_own HG1012.out hg (fun k hk => by injection hk with e; have := HEB.out; omega))
    have HOL := Lib.hid hOl
    have HOC : Hid (∀ W, w12.grownBy W (some b) → SE b W (.slice Ao O.length co) O) := (show Hid _ from fun W hg => HSO.out.grown hg)
    rw [hOl] at HOC ⊢
    have HDEC : Hid (∀ W k, k ≤ n → w12.grownBy W (some b) → AKv W b (fwX n (O.take k) H) → Calls Tryz.prog 34 #[.agg #[.int .i64 P], .agg #[.int .i64 n, .int .i64 t], .int .i64 wd, .slice (some ⟨b, 0, none⟩) n n] W fun e w' => ∃ row wrl er A1 l1 c1 A2 c2, e = .returned (.tuple #[.agg #[.slice A1 l1 c1, .slice A2 (wrl : List Int).length c2], .int .i64 er]) ∧ Below W.heap.size W w' ∧ SI w' (.slice A1 l1 c1) row ∧ (k < t + 1 → er = 11) ∧ (t + 1 ≤ k → er = 0 ∧ row = gr rows i ∧ wrl = [])) := (show Hid _ from fun W k hk hg hA => by
      have hV := HVA.out W (HTO.out W hg)
      have hsan : SAn W (.slice (some ⟨b, 0, none⟩) n n) (fwL n (O.take k) fun (j : Nat) => cmb P (qRow P i ns t j m) rows wd) := hA.san (by rw [fwX_len, fwL_len]) (by rw [fwL_len]) (by omega) (fun j h1 h2 => by
        rw [fwX_get, fwL_get]
        by_cases hj : (j : Int) ∈ O.take k
        · rw [if_pos hj, if_pos hj]; exact ⟨rfl, (hV j (by rw [fwX_len] at h1; exact h1)).2.1.si⟩
        · rw [if_neg hj, if_neg hj]; exact ⟨rfl, si_nil _⟩)
      refine (cdecode_any P n t wd _ _ W hPi hsan (by rw [fwL_len]; omega) (HE.out.below (HBF.out W (grownBy_trans HG410.out (HTO.out W hg))))).mono fun e w' ⟨row, wrl, er, v1, v2, h1, h2, h3, h4, h5⟩ => ?_
      obtain ⟨A1, c1, ev1⟩ := h4.form'
      obtain ⟨A2, c2, ev2⟩ := h5.form'
      subst ev1 ev2
      have hlk : (O.take k).length = k := by rw [List.length_take, HOL.out]; omega
      have hrl : m = rows.length := HRL.out.symm
      rw [hrl] at h3
      have hd := fw_dec (i := i) HPR.out (by omega) (by omega) (by omega) (by omega) (by omega) (by omega) HRW.out (by omega) (HON.out.sublist (List.take_sublist k O)) (fun j hj => HOB.out j (List.mem_of_mem_take hj)) h3
      rw [hlk] at hd
      exact ⟨row, wrl, er, A1, _, c1, A2, c2, h1, h2, h4, hd.1, hd.2⟩)
    clear hperm hown hd12 hg12 hOl f0 p0 p1
    go_wp2_with fail
    go_loopw [97] (fun iv wr => Fw1 n b O H w12 iv wr) (fun iv _ => n - (intOf iv).toNat)
    case atStart => exact ⟨0, Nat.zero_le _, rfl, by rw [List.take_zero]; exact HA12.out, grownBy_refl _ _⟩
    case round =>
      obtain ⟨k, hk, rfl, hak, hgk⟩ := hrel
      have HAK := Lib.hid hak
      have HGK := Lib.hid hgk
      obtain ⟨f0, p0, p1⟩ := HXC.out wr (grownBy_trans HG410.out (HTO.out wr hgk))
      have HBwr : Hid (Below w.heap.size w wr) := (show Hid _ from HBF.out wr (grownBy_trans HG410.out (HTO.out wr hgk)))
      clear hak hgk
      by_cases hlk : k < n
      · have dk : decide (k < n) = true := decide_eq_true hlk
        have hkO : k < O.length := by rw [HOL.out]; exact hlk
        obtain ⟨A2, c2, e2, _, _, _, ha2⟩ := HOC.out wr HGK.out
        injection e2 with e21 e22 e23
        obtain ⟨bo, oo, eA, _, _, hco⟩ := ha2 (by omega)
        rw [eA] at e21
        subst e21
        have hjb := HOB.out O[k] (List.getElem_mem hkO)
        obtain ⟨jn, ejn⟩ : ∃ jn : Nat, O[k] = (jn : Int) := ⟨O[k].toNat, by omega⟩
        have hjn : jn < n := by omega
        have cO := hco k hkO
        rw [ejn] at cO
        have HTK : Hid (O.take (k + 1) = O.take k ++ [(jn : Int)]) := (show Hid _ from by show _ = _; rw [← List.take_append_getElem hkO, ejn])
        have wt : IntKind.i64.wrap ((t : Int) + 1) = (t : Int) + 1 := by exact IntWalk.i64_in _ (by omega)
        clear hco ha2 e22 e23 eA ejn hjb
        go_upto_region 19 with fail
        go_wp2_with fail
        (with_reducible refine (HDEC.out wr k hk HGK.out HAK.out).mono ?_)
        rintro e w13 ⟨row, wrl, er, A1, l1, c1, A3, c3, rfl, hb13, hrow, hfew, hen⟩
        have HB13 := Lib.hid hb13
        have HROW := Lib.hid hrow
        obtain ⟨X, eX⟩ : ∃ X, X = w13.heap.size := ⟨_, rfl⟩
        obtain ⟨w14, ew14⟩ : ∃ w14 : World, w14 = w13.alloc (.cells #[.slice A1 l1 c1, .slice A3 wrl.length c3] 68) := ⟨_, rfl⟩
        have HW14 : Hid (w13.alloc (.cells #[.slice A1 l1 c1, .slice A3 wrl.length c3] 68) = w14) := ew14.symm
        have HX14 : Hid (w14.heap[X]? = some (.cells #[.slice A1 l1 c1, .slice A3 wrl.length c3] 68 (0, 0))) := (show Hid _ from by show _ = _; rw [ew14, eX]; exact heap_alloc_new w13 _)
        have HB1314 : Hid (Below w13.heap.size w13 w14) := (show Hid _ from by rw [ew14]; exact (Below.refl _ w13).alloc (Nat.le_refl _) _)
        have HB14 : Hid (Below wr.heap.size wr w14) := (show Hid _ from HB13.out.trans (HB1314.out.mono HB13.out.size))
        have HEX := Lib.hid eX
        clear hb13 hrow f0 p0 p1
        go_upto_region 20 with fail
        rw [HW14.out, ← eX]
        clear ew14 eX cO
        have HG14 : Hid (w12.grownBy w14 (some b)) := (show Hid _ from grownBy_trans HGK.out (grownBy_of_below HB14.out _))
        obtain ⟨f0, p0, p1⟩ := HXC.out w14 (grownBy_trans HG410.out (HTO.out w14 HG14.out))
        have HSTEP : Hid (∀ W, Below w14.heap.size w14 W → (∃ B d, H jn = .slice B wd d) ∧ W.cell? ⟨ba, oa + jn, none⟩ = some (H jn) ∧ (∃ x y, W.cell? ⟨b, jn * 2, none⟩ = some x ∧ W.cell? ⟨b, jn * 2 + 1, none⟩ = some y) ∧ W.frozen? ⟨b, jn * 2, none⟩ = false ∧ W.frozen? ⟨b, jn * 2 + 1, none⟩ = false ∧ Fw1 n b O H w12 (.int .i64 ((k : Int) + 1)) ((W.setCell ⟨b, jn * 2, none⟩ (.bool true)).setCell ⟨b, jn * 2 + 1, none⟩ (H jn))) := (show Hid _ from fun W hb => by
          have hg := grownBy_trans HG14.out (grownBy_of_below hb (some b))
          obtain ⟨h1, _, B, d, h3⟩ := HVA.out W (HTO.out W hg) jn hjn
          have hbW := HB14.out.trans (hb.mono HB14.out.size)
          have hA : AKv W b (fwX n (O.take k) H) := HAK.out.below hbW HAK.out.lt
          have hjl : jn < (fwX n (O.take k) H).length := by rw [fwX_len]; exact hjn
          obtain ⟨c1, c2⟩ := hA.cells jn hjl
          refine ⟨⟨B, d, h3⟩, h1, ⟨_, _, c1, c2⟩, hA.frozen _, hA.frozen _, k + 1, by omega, by go_num, ?_, ?_⟩
          · rw [HTK.out, ← fwX_set]; exact hA.set jn hjl true (H jn)
          · exact grownBy_setCell (g := b) (p := ⟨b, jn * 2 + 1, none⟩) (grownBy_setCell (g := b) (p := ⟨b, jn * 2, none⟩) hg (.inl rfl) _) (.inl rfl) _)
        by_cases hkt : k < t + 1
        · have her : er = 11 := hfew hkt
          subst her
          have d1 : decide ((k : Int) < (t : Int) + 1) = true := decide_eq_true (by omega)
          have d2 : decide (k < t + 1) = true := decide_eq_true hkt
          have d3 : ((11 : Int) != 11) = false := rfl
          clear hfew hen
          obtain ⟨⟨B, d, eH⟩, ch, ⟨x, y, cx, cy⟩, fx, fy, hst⟩ := HSTEP.out w14 (Below.refl _ _)
          rw [eH] at ch hst
          have HST := Lib.hid hst
          clear hst eH
          go_wp2_with fail
          exact ⟨HST.out, by simp [intOf]; omega⟩
        · obtain ⟨her, hrow, hwr⟩ := hen (by omega)
          subst her hwr
          have HRE := Lib.hid hrow
          simp only [List.length_nil] at HX14 ⊢
          have d1 : decide ((k : Int) < (t : Int) + 1) = false := decide_eq_false (by omega)
          have d2 : decide (k < t + 1) = false := decide_eq_false hkt
          clear hfew hen
          clear hrow
          have HSM : Hid (∀ W, Below w14.heap.size w14 W → Calls Tryz.prog 32 #[.slice A1 l1 c1, Hr i] W fun e w' => e = .returned (.bool true) ∧ Below W.heap.size W w') := (show Hid _ from fun W hb => by
            have h1 : SI W (.slice A1 l1 c1) row := HROW.out.below (HB1314.out.trans (hb.mono HB1314.out.size))
            have h2 := (HVR.out W (HTO.out W (grownBy_trans HG14.out (grownBy_of_below hb (some b))))).2.1.si
            refine (same4_any row (gr rows i) _ _ W h1 h2).mono fun e w' ⟨h3, h4⟩ => ⟨by rw [h3, HRE.out]; simp, h4⟩)
          have HXW : Hid (∀ W, Below w14.heap.size w14 W → W.cell? ⟨X, 0, none⟩ = some (.slice A1 l1 c1) ∧ W.cell? ⟨X, 1, none⟩ = some (.slice A3 0 c3) ∧ W.cell? ⟨br, or_ + i, none⟩ = some (Hr i)) := (show Hid _ from fun W hb => by
            have h1 := (hb.block X (heap_of_cells HX14.out)).trans HX14.out
            exact ⟨cell_of_row W X 0 _ _ _ h1, cell_of_row W X 1 _ _ _ h1, (HVR.out W (HTO.out W (grownBy_trans HG14.out (grownBy_of_below hb (some b))))).1⟩)
          go_upto_region 23 with fail
          apply regFs X br or_ m cr i c3 A3 (.slice A1 l1 c1) (Hr i) w14 him HXW.out HSM.out
          rintro u117 u118 u119 u120 u121 u122 u123 u124 u125 u126 u127 u128 u129 u130 u131 u132 u133 w15 hb15
          obtain ⟨⟨B, d, eH⟩, ch, ⟨x, y, cx, cy⟩, fx, fy, hst⟩ := HSTEP.out w15 hb15
          rw [eH] at ch hst
          have HST := Lib.hid hst
          clear hst eH hb15 HSM HXW
          go_wp2_with fail
          exact ⟨HST.out, by simp [intOf]; omega⟩
      · have dk : decide (k < n) = false := decide_eq_false hlk
        have hkn : k = n := by omega
        subst hkn
        go_upto_region 27 with fail
        go_wp2_with fail
        (with_reducible refine (HDEC.out wr k (Nat.le_refl _) HGK.out HAK.out).mono ?_)
        rintro e w13 ⟨row, wrl, er, A1, l1, c1, A3, c3, rfl, hb13, hrow, hfew, hen⟩
        obtain ⟨her, hre, hwr⟩ := hen (by omega)
        subst her hwr
        have HRE := Lib.hid hre
        have HB13 := Lib.hid hb13
        have HROW := Lib.hid hrow
        simp only [List.length_nil]
        obtain ⟨X, eX⟩ : ∃ X, X = w13.heap.size := ⟨_, rfl⟩
        obtain ⟨w14, ew14⟩ : ∃ w14 : World, w14 = w13.alloc (.cells #[.slice A1 l1 c1, .slice A3 0 c3] 68) := ⟨_, rfl⟩
        have HW14 : Hid (w13.alloc (.cells #[.slice A1 l1 c1, .slice A3 0 c3] 68) = w14) := ew14.symm
        have HX14 : Hid (w14.heap[X]? = some (.cells #[.slice A1 l1 c1, .slice A3 0 c3] 68 (0, 0))) := (show Hid _ from by show _ = _; rw [ew14, eX]; exact heap_alloc_new w13 _)
        have HB1314 : Hid (Below w13.heap.size w13 w14) := (show Hid _ from by rw [ew14]; exact (Below.refl _ w13).alloc (Nat.le_refl _) _)
        have HB14 : Hid (Below wr.heap.size wr w14) := (show Hid _ from HB13.out.trans (HB1314.out.mono HB13.out.size))
        have HG14 : Hid (w12.grownBy w14 (some b)) := (show Hid _ from grownBy_trans HGK.out (grownBy_of_below HB14.out _))
        have HSM : Hid (∀ W, Below w14.heap.size w14 W → Calls Tryz.prog 32 #[.slice A1 l1 c1, Hr i] W fun e w' => e = .returned (.bool true) ∧ Below W.heap.size W w') := (show Hid _ from fun W hb => by
          have h1 : SI W (.slice A1 l1 c1) row := HROW.out.below (HB1314.out.trans (hb.mono HB1314.out.size))
          have h2 := (HVR.out W (HTO.out W (grownBy_trans HG14.out (grownBy_of_below hb (some b))))).2.1.si
          refine (same4_any row (gr rows i) _ _ W h1 h2).mono fun e w' ⟨h3, h4⟩ => ⟨by rw [h3, HRE.out]; simp, h4⟩)
        have HXW : Hid (∀ W, Below w14.heap.size w14 W → W.cell? ⟨X, 0, none⟩ = some (.slice A1 l1 c1) ∧ W.cell? ⟨X, 1, none⟩ = some (.slice A3 0 c3) ∧ W.cell? ⟨br, or_ + i, none⟩ = some (Hr i)) := (show Hid _ from fun W hb => by
          have h1 := (hb.block X (heap_of_cells HX14.out)).trans HX14.out
          exact ⟨cell_of_row W X 0 _ _ _ h1, cell_of_row W X 1 _ _ _ h1, (HVR.out W (HTO.out W (grownBy_trans HG14.out (grownBy_of_below hb (some b))))).1⟩)
        have HEX := Lib.hid eX
        clear hb13 hrow f0 p0 p1 hfew hen hre
        go_upto_region 28 with fail
        rw [HW14.out, ← eX]
        clear ew14 eX
        apply regFt X br or_ m cr i c3 A3 (.slice A1 l1 c1) (Hr i) w14 him HXW.out HSM.out
        rintro u152 u153 u154 u155 u156 u157 u158 u159 u160 u161 u162 u163 u164 u165 u166 u167 w15 hb15
        have HBf : Hid (Below w.heap.size w w15) := (show Hid _ from HBwr.out.trans ((HB14.out.trans (hb15.mono HB14.out.size)).mono HBwr.out.size))
        clear hb15
        go_wp2_with fail
        go_ret
        exact ⟨rfl, HBf.out⟩
  · have d5 : decide (l.length ≤ 500) = false := decide_eq_false h5
    rw [d5]
    clear d5 h5
    go_wp2_with fail
    go_ret
    exact ⟨rfl, HB1.out⟩
end Go.Proofs.YtbgabipngdillaaGreatDoor
