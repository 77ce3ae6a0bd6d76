/- Joined: Lw. -/
import Derived.Deep.RegionHeld3
import Derived.Test.YtbgabipngdillaaJ21
import Derived.Test.YtbgabipngdillaaJ23
import Derived.Test.YtbgabipngdillaaJ32
import Derived.Test.YtbgabipngdillaaJ13
import Derived.Test.YtbgabipngdillaaJ19
namespace Go.Proofs.Ytbgabipngdillaa
open Go.RowKit Go.Shelf

/-- the error of Nearest at a valid word: none, or that too few cells are known -/
theorem VW.fi {P : Int} {l : List (Int × Bool)} (h : VW P l) {k : Nat} (h1 : 1 ≤ k) (h2 : k ≤ l.length) : fiE P l k = if (kn l).length < k then 11 else 0 := by
  by_cases h3 : (kn l).length < k
  · rw [if_pos h3]
    exact (fi_few h.ce (by omega) (by omega)).1
  · rw [if_neg h3, (fi_ok h.ce (by omega) (by omega)).1]
    exact h.ie (List.take_sublist _ _)
theorem VW.ne {P : Int} {l : List (Int × Bool)} (h : VW P l) {k : Nat} (h1 : 1 ≤ k) (h2 : k ≤ l.length) : neE P l k = if (kn l).length < k then 11 else 0 := by
  unfold neE
  rw [h.fi h1 h2]
  have := h.l10
  split <;> simp <;> omega
theorem VW.de {P : Int} {l : List (Int × Bool)} (h : VW P l) {k : Nat} (h1 : 1 ≤ k) (h2 : k ≤ l.length) {ag : Int} (h3 : (k : Int) ≤ ag) (h4 : ag ≤ l.length) : deE P l k ag = 0 := by
  unfold deE
  rw [h.fi h1 h2]
  have := h.l10
  rw [if_neg (by split <;> simp), if_neg (by omega), if_neg (by omega)]

set_option maxRecDepth 100000 in
set_option maxHeartbeats 16000000 in
theorem lnear_any (l : List Int) (m8 : Nat) (v : Value) (w : World) (hm8 : m8 < 256) (h : SI w v l) :
    Calls Try.prog 4 #[v, .int .u8 m8] w fun e w' => e = .returned (.bool true) ∧ Below w.heap.size w w' := by
  have HS := Lib.hid h
  obtain ⟨A, c, rfl⟩ := h.form
  clear h
  go_enter Try.func4, Try.ntmps4
  go_wp2_with fail
  (with_reducible refine (lsane_any _).mono ?_)
  rintro e w1 ⟨rfl, hb1⟩
  have HB1 := Lib.hid hb1
  have HS1 := Lib.hid (HS.out.below hb1)
  clear hb1
  go_wp2_with fail
  (with_reducible refine (few_any l _ w1 HS1.out).mono ?_)
  rintro e wz ⟨rfl, hwz⟩
  subst hwz
  by_cases h5 : l.length ≤ 500
  case' neg =>
    have d5 : decide (l.length ≤ 500) = false := decide_eq_false h5
    rw [d5]
    clear d5 h5
    go_wp2_with fail
    go_ret
    exact ⟨rfl, HB1.out⟩
  have d5 : decide (l.length ≤ 500) = true := decide_eq_true h5
  rw [d5]
  clear d5 h5
  go_wp2_with fail
  (with_reducible refine (new_any l _ w1 HS1.out).mono ?_)
  rintro e w2 ⟨rfl, hd2, hb2, hz2⟩
  obtain ⟨g, eg⟩ : ∃ g, g = w1.heap.size := ⟨_, rfl⟩
  rw [← eg] at hd2 ⊢
  have HD2 := Lib.hid hd2
  have HB2 : Hid (Below w.heap.size w w2) := HB1.out.trans (hb2.mono HB1.out.size)
  have HGW : Hid (w.heap.size ≤ g) := (show Hid _ from by rw [eg]; exact HB1.out.size)
  have HG2 : Hid (g < w2.heap.size) := hd2.lt
  clear hd2 hb2 hz2 eg
  go_wp2_with fail
  (with_reducible refine (lcells_any g w2 HD2.out).mono ?_)
  rintro e w3 ⟨P, vl, L, rfl, hpr, hP8, hl1, hl8, hev, hsc, hd3, hg3⟩
  have hPb := prB_bd hpr
  have hPi : i64r P := by unfold i64r; omega
  have HVW : Hid (VW P L) := (show Hid _ from ⟨hpr, by omega, by omega, kn_el hev⟩)
  obtain ⟨Al, cl, evl⟩ := hsc.scl.form
  subst evl
  obtain ⟨n, en⟩ : ∃ n, n = L.length := ⟨_, rfl⟩
  rw [← en] at hsc hl1 hl8 ⊢
  have HN := Lib.hid en
  have HSC := Lib.hid hsc
  clear hsc hev en
  obtain ⟨F, eF⟩ : ∃ F, F = w3.heap.size := ⟨_, rfl⟩
  obtain ⟨w4, ew4⟩ : ∃ w4 : World, w4 = w3.alloc (.cells #[.int .i64 P] 26) := ⟨_, rfl⟩
  have HWw4 : Hid (w3.alloc (.cells #[.int .i64 P] 26) = w4) := ew4.symm
  have HAw4 : Hid (Below w3.heap.size w3 w4) := (show Hid _ from by rw [ew4]; exact (Below.refl _ w3).alloc (Nat.le_refl _) _)
  have HF0w4 : Hid (w4.heap[F]? = some (.cells #[.int .i64 P] 26 (0, 0))) := (show Hid _ from by show _ = _; rw [ew4, eF]; exact heap_alloc_new w3 _)
  have HGF : Hid (g < F) := (show Hid _ from by rw [eF]; exact hd3.lt)
  have HXC : Hid (∀ W, w4.grownBy W (some g) → W.cell? ⟨F, 0, none⟩ = some (.int .i64 P)) := (show Hid _ from fun W hg => by
    have hF0 := (hg.block F (heap_of_cells HF0w4.out) (by have := HGF.out; simp; omega)).trans HF0w4.out
    exact (cell_of_row W F 0 _ _ _ hF0))
  have HD4 := Lib.hid (hd3.below HAw4.out)
  have HSC4 := Lib.hid (HSC.out.below HAw4.out)
  have HG24 : Hid (w2.grownBy w4 (some g)) := grownBy_trans hg3 (grownBy_of_below HAw4.out _)
  have HBF : Hid (∀ W, w4.grownBy W (some g) → Below w.heap.size w W) := (show Hid _ from fun W hg => HB2.out.grown (grownBy_trans HG24.out hg) HB2.out.size (fun k hk => by injection hk with e; subst e; exact HGW.out))
  have HSCW : Hid (∀ W, w4.grownBy W (some g) → SCl W (.slice Al n cl) L) := (show Hid _ from fun W hg => (HSC4.out.grown hg).scl)
  clear hd3 hg3
  go_upto_region 7 with fail
  rw [HWw4.out, ← eF]
  clear ew4 eF
  obtain ⟨q4, eq4⟩ : ∃ q4 : Nat, q4 = min n 4 := ⟨_, rfl⟩
  have hq4 : 1 ≤ q4 ∧ q4 ≤ 4 ∧ q4 ≤ n := by omega
  have hmin : min (n : Int) 4 = (q4 : Int) := by omega
  obtain ⟨k, ek⟩ : ∃ k : Nat, k = 1 + m8 % q4 := ⟨_, rfl⟩
  have hk1 : 1 ≤ k ∧ k ≤ q4 := by have := Nat.mod_lt m8 (show 0 < q4 by omega); omega
  have hkz : 1 + (m8 : Int) % (q4 : Int) = (k : Int) := by rw [ek]; omega
  clear eq4 ek
  have x0 := HXC.out w4 (grownBy_refl _ _)
  go_wp2_with fail
  (with_reducible refine (nearests_any P L k _ w4 hPi (HSCW.out w4 (grownBy_refl _ _)) (by have := HVW.out.l10; omega)).mono ?_)
  rintro e w5 ⟨v5, rs, rfl, hsle, hasc, hmem, hb5⟩
  have HG5 : Hid (w4.grownBy w5 (some g)) := (show Hid _ from grownBy_of_below hb5 _)
  have HD5 := Lib.hid (HD4.out.below hb5)
  have hsle5 := hsle g HD4.out.lt
  have HAS := Lib.hid hasc
  have hne := HVW.out.ne hk1.1 (by rw [← HN.out]; omega)
  clear hb5 hsle hasc x0
  by_cases hfew : (kn L).length < k
  case' pos =>
    rw [if_pos hfew] at hne
    rw [hne]
    clear hne hmem hsle5 hfew
    go_wp2_with fail
    go_ret
    exact ⟨rfl, HBF.out _ HG5.out⟩
  rw [if_neg hfew] at hne
  obtain ⟨hm1, hm2, hm3, hm4⟩ := HVW.out.most hk1.1 (by omega) ((L.length : Int) + 1)
  have hnm : neM P L k = (runS P L k ((L.length : Int) + 1)).2 := by unfold neM; rw [if_pos hne]; rfl
  rw [← hnm] at hm1 hm2 hm3 hm4
  obtain ⟨N, hN⟩ : ∃ N : Nat, neM P L k = (N : Int) := ⟨(neM P L k).toNat, by omega⟩
  rw [hN] at hm1 hm2 hm3 hm4 hmem ⊢
  rw [hne] at hmem ⊢
  have HMEM : Hid (∀ p, p ∈ rs ↔ els P p = true ∧ p.length ≤ k ∧ trim p = p ∧ N ≤ agC P L p) := (show Hid _ from fun p => by
    rw [hmem p]
    have := HVW.out.mem (k := k) (ag := (N : Int)) (by omega) hm3 p
    rw [show ((k : Int)).toNat = k from rfl, this]
    constructor
    · rintro ⟨_, h1, h2, h3, h4⟩; exact ⟨h1, h2, h3, by omega⟩
    · rintro ⟨h1, h2, h3, h4⟩; exact ⟨rfl, h1, h2, h3, by omega⟩)
  have HMAX : Hid (∀ p, els P p = true → p.length ≤ k → agC P L p ≤ N) := (show Hid _ from fun p h1 h2 => by
    by_cases h3 : k ≤ agC P L p
    · obtain ⟨c, hc, e⟩ := HVW.out.found (by omega) h1 h2 h3
      have h4 := hm1 c hc
      have h5 := (HVW.out.cho (by omega) hc).2.2.2.2.2.1
      rw [e] at h4 h5
      rw [agC_trim] at h5
      omega
    · omega)
  have HNE : Hid (rs ≠ []) := (show Hid _ from by
    obtain ⟨c, hc, e⟩ := hm2
    obtain ⟨_, _, _, h4, h5, h6, _⟩ := HVW.out.cho (by omega) hc
    have : inP P c ∈ rs := (HMEM.out _).2 ⟨h4, h5, inP_trim, by omega⟩
    intro h
    rw [h] at this
    simp at this)
  have hNk : k ≤ N := by omega
  have hNn : N ≤ n := by rw [HN.out]; omega
  clear hm1 hm2 hm3 hm4 hnm hmem hne hN hfew
  obtain ⟨A5, c5, ev5, hat5⟩ := hsle5.sl.at
  subst ev5
  have HAT := Lib.hid hat5
  have HSLE := Lib.hid hsle5
  obtain ⟨R, eR⟩ : ∃ R, R = rs.length := ⟨_, rfl⟩
  have hRb : R ≤ 9223372036854775807 := by obtain ⟨_, _, e, h1, h2, _⟩ := hsle5; rw [eR]; injection e; omega
  rw [← eR] at HSLE ⊢
  have HR := Lib.hid eR
  have hR1 : 1 ≤ R := by rw [eR]; exact List.length_pos_iff.2 HNE.out
  clear hat5 hsle5 eR
  go_wp2_with fail
  go_loopw [55] (fun iv wr => ∃ j : Nat, j ≤ R ∧ iv = .int .i64 j ∧ Below w5.heap.size w5 wr) (fun iv _ => R - (intOf iv).toNat)
  case atStart => exact ⟨0, Nat.zero_le _, rfl, Below.refl _ _⟩
  case round =>
    obtain ⟨j, hj, rfl, hbr⟩ := hrel
    have HBR := Lib.hid hbr
    have HGr : Hid (w4.grownBy wr (some g)) := (show Hid _ from grownBy_trans HG5.out (grownBy_of_below hbr _))
    have x0 := HXC.out wr HGr.out
    clear hbr
    by_cases hlj : j < R
    · have dj : decide ((j : Int) < (R : Int)) = true := decide_eq_true (by omega)
      have djn : decide (j < R) = true := decide_eq_true hlj
      have hjr : j < rs.length := by rw [← HR.out]; exact hlj
      obtain ⟨b, off, B, d, eA, hW⟩ := HAT.out j hjr
      subst eA
      obtain ⟨c0, hsi⟩ := hW wr HBR.out
      have hp := (HMEM.out rs[j]).1 (List.getElem_mem hjr)
      have hmax := HMAX.out rs[j] hp.1 hp.2.1
      have hag := HVW.out.ag hp.1 (by omega)
      have hE : Hid (agE P L rs[j] = 0) := hag.1
      have hNN : Hid (agN P L rs[j] = (N : Int)) := (show Hid _ from by show _ = _; rw [hag.2]; have := hp.2.2.2; omega)
      have hpl : rs[j].length ≤ 1000000 := by omega
      obtain ⟨p, ep⟩ : ∃ p, p = rs[j] := ⟨_, rfl⟩
      rw [← ep] at c0 hsi hE hNN hpl
      have HSI := Lib.hid hsi
      clear hW hp hmax hag ep hsi
      go_wp2_with fail
      (with_reducible refine (ragree_any P L p _ _ wr hPi (HSCW.out wr HGr.out) (by have := HVW.out.l10; omega) HSI.out hpl).mono ?_)
      rintro e w6 ⟨rfl, hb6⟩
      rw [hE.out, hNN.out]
      have HB6 : Hid (Below w5.heap.size w5 w6) := (show Hid _ from HBR.out.trans (hb6.mono HBR.out.size))
      clear hb6 c0 x0
      go_wp2_with fail
      go_roundw
      case rel => exact ⟨j + 1, by omega, by go_num, HB6.out⟩
      case measure => simp [intOf]; omega
    · have dj : decide ((j : Int) < (R : Int)) = false := decide_eq_false (by omega)
      have djn : decide (j < R) = false := decide_eq_false hlj
      have hde := HVW.out.de (k := k) hk1.1 (by rw [← HN.out]; omega) (ag := (N : Int)) (by omega) (by rw [← HN.out]; omega)
      go_wp2_with fail
      (with_reducible refine (decodes_any P L k N _ wr hPi (HSCW.out wr HGr.out) (by have := HVW.out.l10; omega)).mono ?_)
      rintro e w7 ⟨v7, rs2, rfl, hsle7, hasc7, hmem7, hb7⟩
      rw [hde] at hmem7 ⊢
      have e2 : rs2 = rs := hasc7.ext HAS.out fun p => by
        rw [hmem7 p, HMEM.out p]
        have := HVW.out.mem (k := k) (ag := (N : Int)) (by omega) (by omega) p
        rw [show ((k : Int)).toNat = k from rfl, this]
        constructor
        · rintro ⟨_, h1, h2, h3, h4⟩; exact ⟨h1, h2, h3, by omega⟩
        · rintro ⟨h1, h2, h3, h4⟩; exact ⟨rfl, h1, h2, h3, by omega⟩
      subst e2
      have HDr : Hid (Dk wr g) := (show Hid _ from HD5.out.below HBR.out)
      have HS7 := Lib.hid (hsle7 g HDr.out.lt)
      have HD7 := Lib.hid (HDr.out.below hb7)
      have HG7 : Hid (w4.grownBy w7 (some g)) := (show Hid _ from grownBy_trans HGr.out (grownBy_of_below hb7 _))
      have HG57 : Hid (w5.grownBy w7 (some g)) := (show Hid _ from grownBy_trans (grownBy_of_below HBR.out _) (grownBy_of_below hb7 _))
      clear hsle7 hasc7 hmem7 hb7 hde x0
      have x7 := HXC.out w7 HG7.out
      have HD7d : Hid (Dk w7.drew g) := (show Hid _ from HD7.out.below (Below.refl _ w7).drew)
      have hkk : k ≤ 4 := by omega
      go_upto_region 19 with fail
      go_region_held3 (fun w' => w'.cell? ⟨F, 0, none⟩ = some (.int .i64 P)) (first | exact x7 | exact x8 | exact x9 | go_keep)
        (first
          | (go_at_call 18; refine (elements_any g k P _ (by first | exact HD7.out | exact HD7d.out) ⟨by omega, by omega⟩ (by omega)).mono ?_; rintro e w8 ⟨vq, q, rfl, hql, hqe, hqo, hd8, hg8⟩; have HG78 : Hid (w7.grownBy w8 (some g)) := (show Hid _ from ⟨hg8.os, hg8.tape, hg8.output, hg8.size, hg8.block⟩); have HG8 : Hid (w4.grownBy w8 (some g)) := (show Hid _ from grownBy_trans HG7.out HG78.out); have x8 : w8.cell? ⟨F, 0, none⟩ = some (.int .i64 P) := HXC.out w8 HG8.out; have HD8 := Lib.hid hd8; have HQ : Hid (SI w8 vq q) := (show Hid _ from SI.of_own hqo (els_r hPb.2 hqe)); have HQE := Lib.hid hqe; have hql2 : q.length ≤ 4 := (by omega); have HQL : Hid (q.length ≤ k) := (show Hid _ from Nat.le_of_eq hql); clear hql hqe hqo hd8 hg8)
          | (go_at_call 17; refine (ragree_any P L q _ _ _ hPi (by first | exact HSCW.out _ HG8.out | exact HSCW.out _ (grownBy_trans HG8.out (grownBy_of_below (Below.refl _ w8).drew _))) (by have := HVW.out.l10; omega) (by first | exact HQ.out | exact HQ.out.below (Below.refl _ w8).drew) (by omega)).mono ?_; rintro e w9 ⟨rfl, hb9⟩; have HB9 : Hid (Below w8.heap.size w8 w9) := (show Hid _ from ⟨hb9.os, hb9.tape, hb9.output, hb9.size, hb9.block⟩); have x9 : w9.cell? ⟨F, 0, none⟩ = some (.int .i64 P) := HXC.out w9 (grownBy_trans HG8.out (grownBy_of_below HB9.out _)); clear hb9))
      have HG79 : Hid (w7.grownBy w9 (some g)) := (show Hid _ from grownBy_trans HG78.out (grownBy_of_below HB9.out _))
      have HG9 : Hid (w4.grownBy w9 (some g)) := (show Hid _ from grownBy_trans HG7.out HG79.out)
      have HA9 := Lib.hid (HS7.out.grown HG79.out)
      have HF9 : Hid (SLE g w9 (.slice A5 R c5) rs2) := (show Hid _ from (HSLE.out.grown HG57.out).grown HG79.out)
      have hag : agN P L q ≤ (N : Int) := by
        rw [(HVW.out.ag HQE.out (by omega)).2]
        have := HMAX.out q HQE.out HQL.out
        omega
      obtain ⟨a, ea⟩ : ∃ a, a = agN P L q := ⟨_, rfl⟩
      rw [← ea] at hag ⊢
      have da : decide ((N : Int) < a) = false := decide_eq_false (by omega)
      have dR : ((R : Int) == 0) = false := by rw [beq_eq_false_iff_ne]; omega
      have dRn : (R == 0) = false := by rw [beq_eq_false_iff_ne]; omega
      clear ea HQ HQE HQL HD8 HG78 HG8 HB9 x8 x9 x7 HD7d
      go_wp2_with fail
      (with_reducible refine (sameRows_any rs2 rs2 _ _ w9 HA9.out.sl HF9.out.sl).mono ?_)
      rintro e w10 ⟨rfl, hb10⟩
      have HG10 : Hid (w4.grownBy w10 (some g)) := (show Hid _ from grownBy_trans HG9.out (grownBy_of_below hb10 _))
      have dsr : decide (rs2 = rs2) = true := decide_eq_true rfl
      rw [dsr]
      clear hb10 dsr
      have x10 := HXC.out w10 HG10.out
      by_cases hNl : N < n
      · have dN : decide ((N : Int) < (n : Int)) = true := decide_eq_true (by omega)
        have dNn : decide (N < n) = true := decide_eq_true hNl
        have hde := HVW.out.de (k := k) hk1.1 (by rw [← HN.out]; omega) (ag := (N : Int) + 1) (by omega) (by rw [← HN.out]; omega)
        go_wp2_with fail
        (with_reducible refine (decodes_any P L k ((N : Int) + 1) _ w10 hPi (HSCW.out w10 HG10.out) (by have := HVW.out.l10; omega)).mono ?_)
        rintro e w11 ⟨v11, rs3, rfl, hsle11, _, hmem11, hb11⟩
        rw [hde] at hmem11 ⊢
        have e3 : rs3 = [] := by
          rw [List.eq_nil_iff_forall_not_mem]
          intro p hp
          have h1 := (hmem11 p).1 hp
          have h2 := HVW.out.mem (k := k) (ag := (N : Int) + 1) (by omega) (by omega) p
          rw [show ((k : Int)).toNat = k from rfl, h2] at h1
          have h3 := HMAX.out p h1.2.1 h1.2.2.1
          omega
        subst e3
        have HG11 : Hid (w4.grownBy w11 (some g)) := (show Hid _ from grownBy_trans HG10.out (grownBy_of_below hb11 _))
        have HD10 : Hid (g < w10.heap.size) := (show Hid _ from Nat.lt_of_lt_of_le HD4.out.lt HG10.out.size)
        obtain ⟨A11, c11, ev11⟩ := (hsle11 g HD10.out).form
        subst ev11
        clear hsle11 hmem11 hb11 hde x10
        go_wp2_with fail
        go_ret
        exact ⟨rfl, HBF.out _ HG11.out⟩
      · have dN : decide ((N : Int) < (n : Int)) = false := decide_eq_false (by omega)
        have dNn : decide (N < n) = false := decide_eq_false hNl
        go_wp2_with fail
        go_ret
        exact ⟨rfl, HBF.out _ HG10.out⟩
end Go.Proofs.Ytbgabipngdillaa
