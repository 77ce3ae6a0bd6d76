/- Joined: Lf. -/
import Derived.Test.YtbgabipngdillaaZ51
import Derived.Test.YtbgabipngdillaaZ52
namespace Go.Proofs.Ytbgabipngdillaa
open Go.RowKit Go.Shelf

theorem VW.com {P : Int} {l : List (Int × Bool)} (h : VW P l) {p q : List Int} (hp : els P p = true) (hq : els P q = true) (hpl : p.length ≤ 512) (hql : q.length ≤ 512) : comE P l [p, q] = 0 := by
  unfold comE
  rw [if_pos h.ce]
  have key : ∀ a : List Int, els P a = true → a.length ≤ 512 → opE P [a] = 0 := fun a ha hl => by
    unfold opE
    rw [if_neg (by rw [h.pr]; simp), if_neg (by simp [ha]), if_neg]
    simp [longB]
    omega
  simp [coF, key p hp hpl, key q hq hql]
/-- two different polynomials of at most k coefficients have fewer than k places in common -/
theorem VW.two {P : Int} {l : List (Int × Bool)} (h : VW P l) {k : Nat} {p q : List Int} (hp : els P p = true) (hq : els P q = true) (hpl : p.length ≤ k) (hql : q.length ≤ k) (hpt : trim p = p) (hqt : trim q = q) (hne : p ≠ q) : (comL P l [p, q]).length < k := by
  apply Nat.lt_of_not_le
  intro hge
  apply hne
  unfold comL at hge
  rw [List.length_map] at hge
  obtain ⟨c, hc⟩ : ∃ c, c = ((kn l).filter fun t => [p, q].all fun p => hit P p t).take k := ⟨_, rfl⟩
  have hs : c.Sublist (kn l) := by rw [hc]; exact (List.take_sublist _ _).trans List.filter_sublist
  have hl : c.length = k := by rw [hc, List.length_take]; omega
  have hv : ∀ t ∈ c, val P p t.1 = t.2 ∧ val P q t.1 = t.2 := fun t ht => by
    rw [hc] at ht
    have h1 := (List.mem_filter.1 (List.mem_of_mem_take ht)).2
    simp [hit] at h1
    exact h1
  have h1 := h.uq hs hp (by omega) (fun t ht => (hv t ht).1)
  have h2 := h.uq hs hq (by omega) (fun t ht => (hv t ht).2)
  rw [hpt] at h1
  rw [hqt] at h2
  rw [h1, h2]
theorem Asc.ne {rs : List (List Int)} (h : Asc rs) {i j : Nat} (hi : i < rs.length) (hj : j < rs.length) (hij : i < j) : lexlt rs[i] rs[j] := List.pairwise_iff_getElem.1 h i j hi hj hij

theorem take_snoc {α : Type} (a : List α) (x : α) (b : Bool) (k : Nat) : (a ++ (if b = true then [x] else [])).take k = if b = true ∧ (a.take k).length < k then a.take k ++ [x] else a.take k := by
  cases b
  · simp
  · rw [List.length_take]
    by_cases h : a.length < k
    · have h1 : min k a.length < k := by omega
      rw [if_pos rfl, if_pos (show true = true ∧ min k a.length < k from ⟨rfl, h1⟩), List.take_of_length_le (l := a ++ [x]) (by simp; omega), List.take_of_length_le (l := a) (by omega)]
    · have h1 : ¬ min k a.length < k := by omega
      rw [if_pos rfl, if_neg (fun h2 : true = true ∧ min k a.length < k => h1 h2.2), List.take_append_of_le_length (by omega)]

theorem there_succ {rs : List (List Int)} {q : List Int} {z : Nat} (h : z < rs.length) : decide (q ∈ rs.take (z + 1)) = (decide (q ∈ rs.take z) || decide (rs[z] = q)) := by
  rw [List.take_succ_eq_append_getElem h, ← Bool.decide_or]
  apply decide_eq_decide.2
  rw [List.mem_append, List.mem_singleton, eq_comm (a := q)]
/-- the first k known cells up to place i, as shares of an own row -/
def KfR (L : List (Int × Bool)) (n k : Nat) (w : World) (iv pv : Value) (wr : World) : Prop :=
  ∃ i : Nat, i ≤ n ∧ iv = .int .i64 i ∧ wr.ownsRow w.heap.size 64 2 pv ((kn (L.take i)).take k).length ((((kn (L.take i)).take k).flatMap pcs).map (Value.int .i64)) ∧ Below w.heap.size w wr

set_option maxRecDepth 100000 in
set_option maxHeartbeats 16000000 in
theorem lfinds_any (l : List Int) (k8 a8 : Nat) (v : Value) (w : World) (hk8 : k8 < 256) (ha8 : a8 < 256) (h : SI w v l) :
    Calls Try.prog 7 #[v, .int .u8 k8, .int .u8 a8] w fun e w' => e = .returned (.bool true) ∧ Below w.heap.size w w' := by
  have HS := Lib.hid h
  obtain ⟨A, c, rfl⟩ := h.form
  clear h
  go_enter Try.func7, Try.ntmps7
  go_wp2_with fail
  (with_reducible refine (lsane_any _).mono ?_)
  rintro e w1 ⟨rfl, hb1⟩
  have HB1 := Lib.hid hb1
  have HS1 := Lib.hid (HS.out.below hb1)
  clear hb1
  go_wp2_with fail
  (with_reducible refine (few_any l _ w1 HS1.out).mono ?_)
  rintro e wz ⟨rfl, hwz⟩
  subst hwz
  by_cases h5 : l.length ≤ 500
  case' neg =>
    have d5 : decide (l.length ≤ 500) = false := decide_eq_false h5
    rw [d5]
    clear d5 h5
    go_wp2_with fail
    go_ret
    exact ⟨rfl, HB1.out⟩
  have d5 : decide (l.length ≤ 500) = true := decide_eq_true h5
  rw [d5]
  clear d5 h5
  go_wp2_with fail
  (with_reducible refine (new_any l _ w1 HS1.out).mono ?_)
  rintro e w2 ⟨rfl, hd2, hb2, hz2⟩
  obtain ⟨g, eg⟩ : ∃ g, g = w1.heap.size := ⟨_, rfl⟩
  rw [← eg] at hd2 ⊢
  have HD2 := Lib.hid hd2
  have HB2 : Hid (Below w.heap.size w w2) := HB1.out.trans (hb2.mono HB1.out.size)
  have HGW : Hid (w.heap.size ≤ g) := (show Hid _ from by rw [eg]; exact HB1.out.size)
  have HG2 : Hid (g < w2.heap.size) := hd2.lt
  clear hd2 hb2 hz2 eg
  go_wp2_with fail
  (with_reducible refine (lcells_any g w2 HD2.out).mono ?_)
  rintro e w3 ⟨P, vl, L, rfl, hpr, hP8, hl1, hl8, hev, hsc, hd3, hg3⟩
  have hPb := prB_bd hpr
  have hPi : i64r P := by unfold i64r; omega
  have HVW : Hid (VW P L) := (show Hid _ from ⟨hpr, by omega, by omega, hev⟩)
  obtain ⟨Al, cl, evl⟩ := hsc.scl.form
  subst evl
  obtain ⟨n, en⟩ : ∃ n, n = L.length := ⟨_, rfl⟩
  rw [← en] at hsc hl1 hl8 ⊢
  have HN := Lib.hid en
  have HSC := Lib.hid hsc
  clear hsc hev en
  obtain ⟨F, eF⟩ : ∃ F, F = w3.heap.size := ⟨_, rfl⟩
  obtain ⟨w4, ew4⟩ : ∃ w4 : World, w4 = w3.alloc (.cells #[.int .i64 P] 26) := ⟨_, rfl⟩
  have HWw4 : Hid (w3.alloc (.cells #[.int .i64 P] 26) = w4) := ew4.symm
  have HAw4 : Hid (Below w3.heap.size w3 w4) := (show Hid _ from by rw [ew4]; exact (Below.refl _ w3).alloc (Nat.le_refl _) _)
  have HF0w4 : Hid (w4.heap[F]? = some (.cells #[.int .i64 P] 26 (0, 0))) := (show Hid _ from by show _ = _; rw [ew4, eF]; exact heap_alloc_new w3 _)
  have HGF : Hid (g < F) := (show Hid _ from by rw [eF]; exact hd3.lt)
  have HXC : Hid (∀ W, w4.grownBy W (some g) → W.cell? ⟨F, 0, none⟩ = some (.int .i64 P)) := (show Hid _ from fun W hg => by
    have hF0 := (hg.block F (heap_of_cells HF0w4.out) (by have := HGF.out; simp; omega)).trans HF0w4.out
    exact (cell_of_row W F 0 _ _ _ hF0))
  have HD4 := Lib.hid (hd3.below HAw4.out)
  have HSC4 := Lib.hid (HSC.out.below HAw4.out)
  have HG24 : Hid (w2.grownBy w4 (some g)) := grownBy_trans hg3 (grownBy_of_below HAw4.out _)
  have HBF : Hid (∀ W, w4.grownBy W (some g) → Below w.heap.size w W) := (show Hid _ from fun W hg => HB2.out.grown (grownBy_trans HG24.out hg) HB2.out.size (fun k hk => by injection hk with e; subst e; exact HGW.out))
  have HSCW : Hid (∀ W, w4.grownBy W (some g) → SCl W (.slice Al n cl) L) := (show Hid _ from fun W hg => (HSC4.out.grown hg).scl)
  clear hd3 hg3
  go_upto_region 7 with fail
  rw [HWw4.out, ← eF]
  clear ew4 eF
  obtain ⟨q4, eq4⟩ : ∃ q4 : Nat, q4 = min n 4 := ⟨_, rfl⟩
  have hq4 : 1 ≤ q4 ∧ q4 ≤ 4 ∧ q4 ≤ n := by omega
  have hmin : min (n : Int) 4 = (q4 : Int) := by omega
  obtain ⟨k, ek⟩ : ∃ k : Nat, k = 1 + k8 % q4 := ⟨_, rfl⟩
  have hk1 : 1 ≤ k ∧ k ≤ q4 := by have := Nat.mod_lt k8 (show 0 < q4 by omega); omega
  have hkz : 1 + (k8 : Int) % (q4 : Int) = (k : Int) := by rw [ek]; omega
  obtain ⟨dd, edd⟩ : ∃ dd : Nat, dd = n - k + 1 := ⟨_, rfl⟩
  have hddz : (n : Int) - (k : Int) + 1 = (dd : Int) := by omega
  obtain ⟨N, eN⟩ : ∃ N : Nat, N = k + a8 % dd := ⟨_, rfl⟩
  have hN1 : k ≤ N ∧ N ≤ n := by have := Nat.mod_lt a8 (show 0 < dd by omega); omega
  have hNz : (k : Int) + (a8 : Int) % (dd : Int) = (N : Int) := by rw [eN]; omega
  have hdd1 : 1 ≤ dd := by omega
  clear eq4 ek edd eN
  have x0 := HXC.out w4 (grownBy_refl _ _)
  go_wp2_with fail
  have hde := HVW.out.de (k := k) hk1.1 (by rw [← HN.out]; omega) (ag := (N : Int)) (by omega) (by rw [← HN.out]; omega)
  (with_reducible refine (decodes_any P L k N _ w4 hPi (HSCW.out w4 (grownBy_refl _ _)) (by have := HVW.out.l10; omega)).mono ?_)
  rintro e w5 ⟨v5, rs, rfl, hsle, hasc, hmem, hb5⟩
  rw [hde] at hmem ⊢
  have HMEM : Hid (∀ p, p ∈ rs ↔ els P p = true ∧ p.length ≤ k ∧ trim p = p ∧ N ≤ agC P L p) := (show Hid _ from fun p => by
    rw [hmem p]
    have := HVW.out.mem (k := k) (ag := (N : Int)) (by omega) (by omega) p
    rw [show ((k : Int)).toNat = k from rfl, this]
    constructor
    · rintro ⟨_, h1, h2, h3, h4⟩; exact ⟨h1, h2, h3, by omega⟩
    · rintro ⟨h1, h2, h3, h4⟩; exact ⟨rfl, h1, h2, h3, by omega⟩)
  have HG5 : Hid (w4.grownBy w5 (some g)) := (show Hid _ from grownBy_of_below hb5 _)
  have HD5 := Lib.hid (HD4.out.below hb5)
  have hsle5 := hsle g HD4.out.lt
  have HAS := Lib.hid hasc
  obtain ⟨A5, c5, ev5, hat5⟩ := hsle5.sl.at
  subst ev5
  have HAT := Lib.hid hat5
  have HSLE := Lib.hid hsle5
  obtain ⟨R, eR⟩ : ∃ R, R = rs.length := ⟨_, rfl⟩
  have hRb : R ≤ c5 ∧ c5 ≤ 9223372036854775807 := by obtain ⟨_, _, e, h1, h2, _⟩ := hsle5; injection e with e1 e2 e3; subst e3; rw [eR]; exact ⟨h1, h2⟩
  rw [← eR] at HSLE ⊢
  have HR := Lib.hid eR
  clear hat5 hsle5 eR hb5 hsle hasc hmem hde x0
  go_wp2_with fail
  go_loopw [74] (fun iv wr => ∃ j : Nat, j ≤ R ∧ iv = .int .i64 j ∧ Below w5.heap.size w5 wr) (fun iv _ => R - (intOf iv).toNat)
  case atStart => exact ⟨0, Nat.zero_le _, rfl, Below.refl _ _⟩
  case round =>
    obtain ⟨j, hj, rfl, hbr⟩ := hrel
    have HBR := Lib.hid hbr
    have HGr : Hid (w4.grownBy wr (some g)) := (show Hid _ from grownBy_trans HG5.out (grownBy_of_below hbr _))
    have x0 := HXC.out wr HGr.out
    clear hbr
    by_cases hlj : j < R
    · have dj : decide ((j : Int) < (R : Int)) = true := decide_eq_true (by omega)
      have djn : decide (j < R) = true := decide_eq_true hlj
      have hjr : j < rs.length := by rw [← HR.out]; exact hlj
      obtain ⟨b, off, B, d, eA, hW⟩ := HAT.out j hjr
      subst eA
      obtain ⟨c0, hsi⟩ := hW wr HBR.out
      have hp := (HMEM.out rs[j]).1 (List.getElem_mem hjr)
      have hag := HVW.out.ag hp.1 (by omega)
      have HE : Hid (agE P L rs[j] = 0) := hag.1
      obtain ⟨an, ean⟩ : ∃ an : Nat, an = agC P L rs[j] := ⟨_, rfl⟩
      have HNN : Hid (agN P L rs[j] = (an : Int)) := (show Hid _ from by show _ = _; rw [hag.2, ean])
      have han : N ≤ an := by rw [ean]; exact hp.2.2.2
      have hpl : rs[j].length ≤ k := hp.2.1
      obtain ⟨p, ep⟩ : ∃ p, p = rs[j] := ⟨_, rfl⟩
      rw [← ep] at c0 hsi HE HNN hpl
      have HSI := Lib.hid hsi
      have HEP := Lib.hid ep
      have HPV : Hid (els P p = true ∧ p.length ≤ k ∧ trim p = p) := (show Hid _ from by rw [ep]; exact ⟨hp.1, hp.2.1, hp.2.2.1⟩)
      obtain ⟨pl, epl⟩ : ∃ pl, pl = p.length := ⟨_, rfl⟩
      rw [← epl] at c0 HSI hpl
      have HPLN := Lib.hid epl
      have HWp : Hid (∀ W, Below w5.heap.size w5 W → SI W (.slice B p.length d) p) := (show Hid _ from fun W hb => by
        have h1 := (hW W hb).2
        rw [← ep] at h1
        exact h1)
      clear hW hp hag ep hsi ean epl
      go_wp2_with fail
      (with_reducible refine (ragree_any P L p _ _ wr hPi (HSCW.out wr HGr.out) (by have := HVW.out.l10; omega) HSI.out (by rw [← HPLN.out]; omega)).mono ?_)
      rintro e w6 ⟨rfl, hb6⟩
      rw [HE.out, HNN.out]
      have HB6 : Hid (Below w5.heap.size w5 w6) := (show Hid _ from HBR.out.trans (hb6.mono HBR.out.size))
      have HS6 := Lib.hid (HSI.out.below hb6)
      have HG6 : Hid (w4.grownBy w6 (some g)) := (show Hid _ from grownBy_trans HG5.out (grownBy_of_below HB6.out _))
      have da : decide ((an : Int) < (N : Int)) = false := decide_eq_false (by omega)
      have dl : decide ((k : Int) < (pl : Int)) = false := decide_eq_false (by omega)
      have HDN : Hid ((decide (an < N) || decide (k < pl)) = false) := (show Hid _ from by show _ = _; rw [decide_eq_false (by omega), decide_eq_false (by omega)]; rfl)
      clear hb6 c0 x0
      go_upto_region 16 with fail
      go_cut [112] from 86 to 116 (fun v112 wx => v112 = .bool false ∧ wx = w6)
      case first =>
        by_cases hj0 : 0 < j
        · have d0 : decide ((0 : Int) < (j : Int)) = true := decide_eq_true (by omega)
          have d0n : decide (0 < j) = true := decide_eq_true hj0
          obtain ⟨jp, ejp⟩ : ∃ jp, jp = j - 1 := ⟨_, rfl⟩
          have ejz : (j : Int) - 1 = (jp : Int) := by omega
          have hjp : jp < rs.length := by omega
          have hjpR : jp < R := by omega
          obtain ⟨b2, off2, B2, d2, eA2, hW2⟩ := HAT.out jp hjp
          injection eA2 with eA3
          injection eA3 with e1 e2 e3
          subst e1 e2
          obtain ⟨c2, hs2⟩ := hW2 w6 HB6.out
          have hlx := HAS.out.ne hjp hjr (by omega)
          have hp2 := (HMEM.out rs[jp]).1 (List.getElem_mem hjp)
          have HLT : Hid (decide (cmpV rs[jp] p < 0) = true) := (show Hid _ from decide_eq_true ((cmpV_lt _ _).2 (by rw [HEP.out]; exact hlx)))
          have hl2 : rs[jp].length ≤ 1000000 := by omega
          obtain ⟨p2, ep2⟩ : ∃ p2, p2 = rs[jp] := ⟨_, rfl⟩
          rw [← ep2] at c2 hs2 HLT hl2
          have HSI2 := Lib.hid hs2
          clear hW2 hlx hp2 ep2 hs2 ejp
          go_wp2_with fail
          (with_reducible refine (less_any p2 p _ _ w6 HSI2.out HS6.out hl2 (by rw [← HPLN.out]; omega)).mono ?_)
          rintro e w7 ⟨rfl, rfl⟩
          rw [HLT.out]
          go_wp2_with fail
          go_meet
          case rel => exact ⟨by first | rfl | (rw [HDN.out]), rfl⟩
        · have d0 : decide ((0 : Int) < (j : Int)) = false := decide_eq_false (by omega)
          have d0n : decide (0 < j) = false := decide_eq_false hj0
          go_wp2_with fail
          go_meet
          case rel => exact ⟨by first | rfl | (rw [HDN.out]), rfl⟩
      case rest =>
        obtain ⟨rfl, rfl⟩ := hcut
        have s1 : (0 : Int) ≤ (j : Int) := by omega
        have s2 : (j : Int) ≤ (c5 : Int) := by omega
        go_wp2_with fail
        go_loopw [117] (fun iv wr => ∃ z : Nat, z ≤ j ∧ iv = .int .i64 z ∧ Below w5.heap.size w5 wr) (fun iv _ => j - (intOf iv).toNat)
        case atStart => exact ⟨0, Nat.zero_le _, rfl, HB6.out⟩
        case round =>
          obtain ⟨z, hz, rfl, hbr⟩ := hrel
          have HBz := Lib.hid hbr
          have HGz : Hid (w4.grownBy wr (some g)) := (show Hid _ from grownBy_trans HG5.out (grownBy_of_below hbr _))
          clear hbr
          by_cases hlz : z < j
          · have dz : decide ((z : Int) < (j : Int)) = true := decide_eq_true (by omega)
            have dzn : decide (z < j) = true := decide_eq_true hlz
            have hzr : z < rs.length := by omega
            obtain ⟨b3, off3, B3, d3, eA3, hW3⟩ := HAT.out z hzr
            injection eA3 with eA4
            injection eA4 with e1 e2 e3
            subst e1 e2
            obtain ⟨c3, hs3⟩ := hW3 wr HBz.out
            have hlx := HAS.out.ne hzr hjr hlz
            have hp3 := (HMEM.out rs[z]).1 (List.getElem_mem hzr)
            have hpr3 := HPV.out
            have hne : p ≠ rs[z] := by
              intro e
              rw [← HEP.out, ← e] at hlx
              exact lex_irr (fun _ => rfl) hlx
            have hcE := HVW.out.com hpr3.1 hp3.1 (by omega) (by omega)
            have hcL := HVW.out.two hpr3.1 hp3.1 hpr3.2.1 hp3.2.1 hpr3.2.2 hp3.2.2.1 hne
            obtain ⟨q, eq⟩ : ∃ q, q = rs[z] := ⟨_, rfl⟩
            rw [← eq] at c3 hs3 hcE hcL
            have hql : q.length ≤ 1000000 := by rw [eq]; omega
            have HSq := Lib.hid hs3
            have HSp : Hid (SI wr (.slice B p.length d) p) := (show Hid _ from HWp.out wr HBz.out)
            have HSL := Lib.hid (SL.two HSp.out HSq.out 22)
            rw [← HPLN.out] at HSL
            have hwx := (Below.refl wr.heap.size wr).alloc (Nat.le_refl _) (.cells #[.slice B pl d, .slice B3 q.length d3] 22)
            have HBx : Hid (Below w5.heap.size w5 (wr.alloc (.cells #[.slice B pl d, .slice B3 q.length d3] 22))) := (show Hid _ from HBz.out.trans (hwx.mono HBz.out.size))
            have HGx : Hid (w4.grownBy (wr.alloc (.cells #[.slice B pl d, .slice B3 q.length d3] 22)) (some g)) := (show Hid _ from grownBy_trans HGz.out (grownBy_of_below hwx _))
            have hpl2 : p.length ≤ 1000000 := by rw [← HPLN.out]; omega
            have HCE := Lib.hid hcE
            have HCV : Hid ((comV P L [p, q]).length < k) := (show Hid _ from by show _ < _; unfold comV; rw [if_pos hcE]; exact hcL)
            have HCR : Hid (∀ x ∈ comV P L [p, q], i64r x) := (show Hid _ from fun x hx => by
              unfold comV at hx
              rw [if_pos hcE] at hx
              obtain ⟨t, ht, rfl⟩ := List.mem_map.1 hx
              have h1 := HVW.out.kv t (List.mem_filter.1 ht).1
              have h2 := HVW.out.l10
              unfold i64r
              omega)
            have x1 := HXC.out wr HGz.out
            clear hs3 hlx hp3 hpr3 hne hcE hcL eq hwx hW3
            go_wp2_with fail
            (with_reducible refine (common_any P L [p, q] _ _ _ hPi (HSCW.out _ HGx.out) (by have := HVW.out.l10; omega) HSL.out (by simp; omega)).mono ?_)
            rintro e w8 ⟨v8, rfl, ho8, hb8⟩
            rw [HCE.out]
            have hs8 : SI w8 v8 (comV P L [p, q]) := SI.of_own ho8 HCR.out
            obtain ⟨A8, c8, ev8⟩ := hs8.form
            subst ev8
            obtain ⟨cl8, ecl⟩ : ∃ cl8, cl8 = (comV P L [p, q]).length := ⟨_, rfl⟩
            have hcl8 : cl8 < k := by rw [ecl]; exact HCV.out
            rw [← ecl]
            have dge : decide ((k : Int) ≤ (cl8 : Int)) = false := decide_eq_false (by omega)
            have HB8 : Hid (Below w5.heap.size w5 w8) := (show Hid _ from HBx.out.trans (hb8.mono HBx.out.size))
            clear hs8 ho8 hb8 ecl x1 c3
            go_wp2_with fail
            go_roundw
            case rel => exact ⟨z + 1, by omega, by go_num, HB8.out⟩
            case measure => simp [intOf]; omega
          · have dz : decide ((z : Int) < (j : Int)) = false := decide_eq_false (by omega)
            have dzn : decide (z < j) = false := decide_eq_false hlz
            go_wp2_with fail
            go_roundw
            case rel => exact ⟨j + 1, by omega, by go_num, HBz.out⟩
            case measure => simp [intOf]; omega
    · have dj : decide ((j : Int) < (R : Int)) = false := decide_eq_false (by omega)
      have djn : decide (j < R) = false := decide_eq_false hlj
      have HDr : Hid (Dk wr g) := (show Hid _ from HD5.out.below HBR.out)
      have HG5r : Hid (w5.grownBy wr (some g)) := (show Hid _ from grownBy_of_below HBR.out _)
      go_wp2_with fail
      (with_reducible refine (elements_any g k P wr HDr.out ⟨by omega, by omega⟩ (by omega)).mono ?_)
      rintro e w6 ⟨vq, q, rfl, hql, hqe, hqo, hd6, hg6⟩
      have hsq : ∀ W, w6.grownBy W (some g) → SI W vq q := fun W hW => SI.of_own (own_grn hqo hW HDr.out.lt) (els_r hPb.2 hqe)
      have HSQ := Lib.hid hsq
      have HQE := Lib.hid hqe
      have HQL : Hid (q.length ≤ k) := (show Hid _ from Nat.le_of_eq hql)
      have HD6 := Lib.hid hd6
      have HG56 : Hid (w5.grownBy w6 (some g)) := (show Hid _ from grownBy_trans HG5r.out hg6)
      clear hsq hqe hqo hd6 hg6 hql x0
      go_wp2_with fail
      (with_reducible refine (next_any 2 g w6 HD6.out (by unfold i64r; omega) (by omega)).mono ?_)
      rintro e w7 ⟨y, rfl, _, hy, hd7, hg7⟩
      have hyb := hy (by omega)
      have HD7 := Lib.hid hd7
      have HG57 : Hid (w5.grownBy w7 (some g)) := (show Hid _ from grownBy_trans HG56.out hg7)
      have HS7 : Hid (SI w7 vq q) := (show Hid _ from HSQ.out w7 hg7)
      clear hy hd7 hg7
      go_upto_if 146 with fail
      go_cut [22, 23, 24, 25, 146] from 147 (fun p22 p23 p24 p25 p146 wx => ∃ (p : List Int) (A9 : Option Addr) (c9 : Nat), p22 = .slice A9 p.length c9 ∧ Hid (els P p = true) ∧ p.length ≤ k ∧ Hid (SI wx (.slice A9 p.length c9) p) ∧ Hid (w5.grownBy wx (some g)))
      case first =>
        by_cases hy0 : y = 0
        · have dy : (y == 0) = true := by rw [beq_iff_eq]; exact hy0
          clear hy0
          rw [dy]
          clear dy
          have HG7 : Hid (w4.grownBy w7 (some g)) := (show Hid _ from grownBy_trans HG5.out HG57.out)
          obtain ⟨i0, hi0, hi1, hi2, hi3⟩ := info_parts shinfo'
          obtain ⟨T, eT⟩ : ∃ T, T = kn L := ⟨_, rfl⟩
          have HT := Lib.hid eT
          have hsv := HSCW.out w7 HG7.out
          clear eT
          go_wp2_with fail
          go_loopw [149, 23] (fun iv pv wr => KfR L n k w7 iv pv wr) (fun iv _ _ => n - (intOf iv).toNat)
          case atStart => exact ⟨0, Nat.zero_le _, rfl, by simpa [kn, knF] using World.ownsRow_nil w7 w7.heap.size 64 2, Below.refl _ _⟩
          case round =>
            obtain ⟨i, hi, rfl, hown, hbr⟩ := hrel
            have HO := Lib.hid hown
            have HBr := Lib.hid hbr
            clear hown hbr
            by_cases hli : i < n
            · have di : decide ((i : Int) < (n : Int)) = true := decide_eq_true (by omega)
              have din : decide (i < n) = true := decide_eq_true hli
              have hiL : i < L.length := by rw [← HN.out]; exact hli
              obtain ⟨b, off, eA, hbl, hcell⟩ := (hsv.below HBr.out).at0 (by omega)
              subst eA
              obtain ⟨c0, c1⟩ := hcell i hiL
              clear hcell
              obtain ⟨xv, exv⟩ : ∃ xv, xv = L[i].1 := ⟨_, rfl⟩
              obtain ⟨bv, ebv⟩ : ∃ bv, bv = L[i].2 := ⟨_, rfl⟩
              rw [← exv] at c0
              rw [← ebv] at c1
              have HSN : Hid ((kn (L.take (i + 1))).take k = if bv = true ∧ ((kn (L.take i)).take k).length < k then (kn (L.take i)).take k ++ [((i : Int) + 1, xv)] else (kn (L.take i)).take k) := (show Hid _ from by
                have h1 := kn_snoc L i hiL
                rw [← exv, ← ebv] at h1
                rw [h1]
                exact take_snoc _ _ _ _)
              have hDk : ((kn (L.take i)).take k).length ≤ k := by rw [List.length_take]; omega
              obtain ⟨D, hD⟩ : ∃ D, (kn (L.take i)).take k = D := ⟨_, rfl⟩
              rw [hD] at HO HSN hDk
              obtain ⟨Dl, hDl⟩ : ∃ Dl, D.length = Dl := ⟨_, rfl⟩
              rw [hDl] at HO HSN hDk
              have HDL := Lib.hid hDl
              clear exv ebv hD hDl
              obtain ⟨A23, c23, e23⟩ := own_slice HO.out
              subst e23
              obtain ⟨X, eX⟩ : ∃ X, X = wr.heap.size := ⟨_, rfl⟩
              obtain ⟨wx, ewx⟩ : ∃ wx : World, wx = wr.alloc (.cells #[.int .i64 xv, .bool bv] 33) := ⟨_, rfl⟩
              have HWwx : Hid (wr.alloc (.cells #[.int .i64 xv, .bool bv] 33) = wx) := ewx.symm
              have HAwx : Hid (Below wr.heap.size wr wx) := (show Hid _ from by rw [ewx]; exact (Below.refl _ wr).alloc (Nat.le_refl _) _)
              have HX0wx : Hid (wx.heap[X]? = some (.cells #[.int .i64 xv, .bool bv] 33 (0, 0))) := (show Hid _ from by show _ = _; rw [ewx, eX]; exact heap_alloc_new wr _)
              have HXX : Hid (∀ W, Below wx.heap.size wx W → W.cell? ⟨X, 0, none⟩ = some (.int .i64 xv) ∧ W.cell? ⟨X, 1, none⟩ = some (.bool bv)) := (show Hid _ from fun W hg => by
                have hX0 := (hg.block X (heap_of_cells HX0wx.out)).trans HX0wx.out
                exact ⟨cell_of_row W X 0 _ _ _ hX0, cell_of_row W X 1 _ _ _ hX0⟩)
              have HBX : Hid (Below w7.heap.size w7 wx) := (show Hid _ from HBr.out.trans (HAwx.out.mono HBr.out.size))
              have HOX : Hid (wx.ownsRow w7.heap.size 64 2 (.slice A23 Dl c23) Dl ((D.flatMap pcs).map (Value.int .i64))) := (show Hid _ from own_blw HO.out HAwx.out)
              have hzx : w7.heap.size ≤ wx.heap.size := HBX.out.size
              go_upto_region 32 with fail
              rw [HWwx.out, ← eX]
              clear ewx eX
              obtain ⟨y0, y1⟩ := HXX.out wx (Below.refl _ _)
              clear c0 c1
              cases bv
              · have HSN2 : Hid ((kn (L.take (i + 1))).take k = D) := (show Hid _ from by show _ = _; have h := HSN.out; simpa using h)
                go_wp2_with fail
                go_roundw
                case rel => exact ⟨i + 1, by omega, by go_num, by rw [HSN2.out, HDL.out]; exact HOX.out, HBX.out⟩
                case measure => simp [intOf]; omega
              · by_cases hDlk : Dl < k
                · have HSN2 : Hid ((kn (L.take (i + 1))).take k = D ++ [((i : Int) + 1, xv)]) := (show Hid _ from by show _ = _; have h := HSN.out; rw [if_pos ⟨rfl, hDlk⟩] at h; exact h)
                  have k1 : IntKind.i64.wrap ((i : Int) + 1) = (i : Int) + 1 := by exact IntWalk.i64_in _ (by have := HVW.out.l10; have := HN.out; omega)
                  have dk : decide ((Dl : Int) < (k : Int)) = true := decide_eq_true (by omega)
                  have dkn : decide (Dl < k) = true := decide_eq_true hDlk
                  have hpx : ∀ u ∈ pcs ((i : Int) + 1, xv), ∃ z, u = z := fun u _ => ⟨u, rfl⟩
                  go_wp2_with (at_builtin; refine wpList_append_own _ rfl _ _ 62 rfl w7.heap.size 64 i0 _ 2 16 Try.underlying62 hi0 hi1 hi2 hi3 rfl (by omega) _ _ _ rfl (HOX.out.alloc _) ⟨wx.heap.size, 0, none⟩ 1 1 (List.map (Value.int .i64) (pcs ((i : Int) + 1, xv))) rfl rfl (cells_new wx _ _) (by intro u hu; simp [pcs] at hu; rcases hu with rfl | rfl <;> rfl) (by unfold maxLen; omega) (by omega) (by simp; omega) ?_; intro v3 w3 hown3 hg3 _; have HO3 := Lib.hid hown3; have HG3 := Lib.hid hg3; clear hown3 hg3)
                  go_roundw
                  case rel =>
                    refine ⟨i + 1, by omega, by go_num, ?_, ?_⟩
                    · rw [HSN2.out, List.length_append, HDL.out]
                      simpa using HO3.out
                    · exact (HBX.out.alloc hzx _).grown HG3.out (by simp; omega) (fun k hk => (HOX.out.lt k hk).1)
                  case measure => simp [intOf]; omega
                · have HSN2 : Hid ((kn (L.take (i + 1))).take k = D) := (show Hid _ from by show _ = _; have h := HSN.out; rw [if_neg (fun h2 => hDlk h2.2)] at h; exact h)
                  have dk : decide ((Dl : Int) < (k : Int)) = false := decide_eq_false (by omega)
                  have dkn : decide (Dl < k) = false := decide_eq_false hDlk
                  go_wp2_with fail
                  go_roundw
                  case rel => exact ⟨i + 1, by omega, by go_num, by rw [HSN2.out, HDL.out]; exact HOX.out, HBX.out⟩
                  case measure => simp [intOf]; omega
            · have hii : i = n := by omega
              subst hii
              have di : decide ((i : Int) < (i : Int)) = false := decide_eq_false (by omega)
              have HKT : Hid (L.take i = L) := (show Hid _ from by show _ = _; rw [HN.out, List.take_length])
              rw [HKT.out] at HO
              obtain ⟨c, ec⟩ : ∃ c, c = (kn L).take k := ⟨_, rfl⟩
              rw [← ec] at HO
              have hcs : c.Sublist (kn L) := by rw [ec]; exact List.take_sublist _ _
              have hck : c.length ≤ k := by rw [ec, List.length_take]; omega
              have hie := HVW.out.ie hcs
              have hio := inP_ok (by omega) hie
              have hkr := kn_rng (l := L) (by have := HVW.out.l10; omega) hsv.rng
              have hSG : SG pcs 2 wr.heap.size wr u23 c := (SG.of_own HO.out (fun x hx y hy => by
                have := hkr x (hcs.subset hx)
                simp [pcs] at hy
                rcases hy with rfl | rfl
                · exact this.1
                · exact this.2) (fun x _ => rfl))
              have HCSG := Lib.hid hSG
              have HIE := Lib.hid hie
              have HIO := Lib.hid hio
              have hcz : c.length ≤ 1000000 := by omega
              clear hcs hie hio hkr hSG ec
              have x0 := HXC.out wr (grownBy_trans HG7.out (grownBy_of_below HBr.out _))
              go_wp2_with fail
              (with_reducible refine (rinterp_any P c _ wr hPi HCSG.out hcz).mono ?_)
              rintro e w8 ⟨v8, rfl, ho8, hb8⟩
              have hs8 : SI w8 v8 (inP P c) := SI.of_own ho8 (els_r hPb.2 HIO.out.1)
              obtain ⟨A8, c8, e8⟩ := hs8.form
              subst e8
              have HS8 := Lib.hid hs8
              have HG8 : Hid (w5.grownBy w8 (some g)) := (show Hid _ from grownBy_trans HG57.out (grownBy_of_below (HBr.out.trans (hb8.mono HBr.out.size)) _))
              clear hs8 ho8 hb8
              go_wp2_with fail
              go_meet
              case rel => exact ⟨inP P c, A8, c8, rfl, Lib.hid HIO.out.1, Nat.le_trans HIO.out.2 hck, HS8, HG8⟩
        · have dy : (y == 0) = false := by rw [beq_eq_false_iff_ne]; exact hy0
          obtain ⟨A9, c9, e9⟩ := HS7.out.form
          subst e9
          go_wp2_with fail
          go_meet
          case rel => exact ⟨q, A9, c9, rfl, HQE, HQL.out, HS7, HG57⟩
      case rest =>
        obtain ⟨p, A9, c9, rfl, HPE, hpk, HSP, HG5c⟩ := hcut
        have HGc : Hid (w4.grownBy wc (some g)) := (show Hid _ from grownBy_trans HG5.out HG5c.out)
        have hag := HVW.out.ag HPE.out (show p.length ≤ 512 by omega)
        obtain ⟨an, ean⟩ : ∃ an : Nat, an = agC P L p := ⟨_, rfl⟩
        have HE : Hid (agE P L p = 0) := hag.1
        have HNN : Hid (agN P L p = (an : Int)) := (show Hid _ from by show _ = _; rw [hag.2, ean])
        have hto : opE P [p] = 0 := by
          unfold opE
          rw [if_neg (by rw [HVW.out.pr]; simp), if_neg (by simp [HPE.out]), if_neg]
          simp [longB]
          omega
        have HTM : Hid (tmV P p = trim p) := (show Hid _ from by show _ = _; unfold tmV; rw [if_pos hto])
        have HTO := Lib.hid hto
        obtain ⟨bt, ebt⟩ : ∃ bt : Bool, bt = decide (N ≤ an) := ⟨_, rfl⟩
        have hti := trim_els HPE.out
        have HTR : Hid (bt = decide (trim p ∈ rs)) := (show Hid _ from by
          show _ = _
          rw [ebt, ean]
          apply decide_eq_decide.2
          rw [HMEM.out (trim p), agC_trim]
          constructor
          · intro h9
            exact ⟨hti, Nat.le_trans (trim_len _) hpk, trim_idem p, h9⟩
          · intro h9
            exact h9.2.2.2)
        have HTI := Lib.hid hti
        have HBT := Lib.hid ebt
        have han9 : an ≤ 1000000 := by
          rw [ean]
          have h1 : agC P L p ≤ (kn L).length := by unfold agC; exact List.length_filter_le _ _
          have h2 := kn_len L 0
          have h3 := HVW.out.l10
          unfold kn at h1
          omega
        have x0 := HXC.out wc HGc.out
        clear hag hto hti ean ebt
        go_wp2_with fail
        (with_reducible refine (ragree_any P L p _ _ wc hPi (HSCW.out wc HGc.out) (by have := HVW.out.l10; omega) HSP.out (by omega)).mono ?_)
        rintro e w6 ⟨rfl, hb6⟩
        rw [HE.out, HNN.out]
        have HG6 : Hid (w5.grownBy w6 (some g)) := (show Hid _ from grownBy_trans HG5c.out (grownBy_of_below hb6 _))
        have HS6 := Lib.hid (HSP.out.below hb6)
        have x6 := HXC.out w6 (grownBy_trans HG5.out HG6.out)
        clear hb6 x0
        go_wp2_with fail
        (with_reducible refine (rTrim_any P p _ w6 hPi HS6.out (by omega)).mono ?_)
        rintro e w7 ⟨v7, rfl, ho7, hb7⟩
        rw [HTO.out]
        rw [HTM.out] at ho7
        have hs7 : SI w7 v7 (trim p) := SI.of_own ho7 (els_r hPb.2 HTI.out)
        obtain ⟨A7, c7, e7⟩ := hs7.form
        subst e7
        obtain ⟨q, eq⟩ : ∃ q, q = trim p := ⟨_, rfl⟩
        rw [← eq] at hs7 HTR ⊢
        have HS7 := Lib.hid hs7
        have HG7 : Hid (w5.grownBy w7 (some g)) := (show Hid _ from grownBy_trans HG6.out (grownBy_of_below hb7 _))
        clear hs7 ho7 hb7 x6 eq
        go_wp2_with fail
        go_loopw [192, 30] (fun iv tv wr => ∃ z : Nat, z ≤ R ∧ iv = .int .i64 z ∧ tv = .bool (decide (q ∈ rs.take z)) ∧ Below w7.heap.size w7 wr) (fun iv _ _ => R - (intOf iv).toNat)
        case atStart => exact ⟨0, Nat.zero_le _, rfl, by simp, Below.refl _ _⟩
        case round =>
          obtain ⟨z, hz, rfl, etv, hbr⟩ := hrel
          have HBz := Lib.hid hbr
          have HGz : Hid (w5.grownBy wr (some g)) := (show Hid _ from grownBy_trans HG7.out (grownBy_of_below hbr _))
          obtain ⟨tb, etb⟩ : ∃ tb, tb = decide (q ∈ rs.take z) := ⟨_, rfl⟩
          rw [← etb] at etv
          subst etv
          have HTB := Lib.hid etb
          clear hbr etb
          by_cases hlz : z < R
          · have dz : decide ((z : Int) < (R : Int)) = true := decide_eq_true (by omega)
            have dzn : decide (z < R) = true := decide_eq_true hlz
            have hzr : z < rs.length := by rw [← HR.out]; exact hlz
            obtain ⟨A', c', ev', hat'⟩ := (HSLE.out.grown HGz.out).sl.at
            obtain ⟨b3, off3, B3, d3, eA3, hW3⟩ := hat' z hzr
            injection ev' with e1 e2 e3
            subst e1 e3
            subst eA3
            obtain ⟨c3, hs3⟩ := hW3 wr (Below.refl _ _)
            have HTN : Hid (decide (q ∈ rs.take (z + 1)) = (tb || decide (rs[z] = q))) := (show Hid _ from by
              show _ = _
              rw [HTB.out]
              exact there_succ hzr)
            obtain ⟨r, er⟩ : ∃ r, r = rs[z] := ⟨_, rfl⟩
            rw [← er] at c3 hs3 HTN
            have HSr := Lib.hid hs3
            clear hW3 hat' er hs3 e2
            cases tb
            · go_wp2_with fail
              (with_reducible refine (same4_any r q _ _ wr HSr.out (HS7.out.below HBz.out)).mono ?_)
              rintro e w8 ⟨rfl, hb8⟩
              have HB8 : Hid (Below w7.heap.size w7 w8) := (show Hid _ from HBz.out.trans (hb8.mono HBz.out.size))
              obtain ⟨db, edb⟩ : ∃ db, db = decide (r = q) := ⟨_, rfl⟩
              rw [← edb] at HTN ⊢
              clear hb8 edb
              go_wp2_with fail
              go_roundw
              case rel => exact ⟨z + 1, by omega, by go_num, by rw [HTN.out]; simp, HB8.out⟩
              case measure => simp [intOf]; omega
            · go_wp2_with fail
              go_roundw
              case rel => exact ⟨z + 1, by omega, by go_num, by rw [HTN.out]; simp, HBz.out⟩
              case measure => simp [intOf]; omega
          · have dz : decide ((z : Int) < (R : Int)) = false := decide_eq_false (by omega)
            have dzn : decide (z < R) = false := decide_eq_false hlz
            have htb : tb = bt := by
              rw [HTR.out, HTB.out, List.take_of_length_le (by rw [← HR.out]; omega)]
            have HBr : Hid (Below w.heap.size w wr) := (show Hid _ from HBF.out wr (grownBy_trans HG5.out HGz.out))
            subst htb
            have dN : decide ((N : Int) ≤ (an : Int)) = tb := by rw [HBT.out]; apply decide_eq_decide.2; omega
            have dNn : decide (N ≤ an) = tb := HBT.out.symm
            cases tb
            · go_wp2_with fail
              go_ret
              exact ⟨rfl, HBr.out⟩
            · go_wp2_with fail
              go_ret
              exact ⟨rfl, HBr.out⟩
end Go.Proofs.Ytbgabipngdillaa
