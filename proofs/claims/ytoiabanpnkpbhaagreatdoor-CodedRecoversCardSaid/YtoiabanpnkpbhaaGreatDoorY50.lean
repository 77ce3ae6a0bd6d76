/- Joined: Qe. -/
import Derived.Test.YtoiabanpnkpbhaaGreatDoorY49
namespace Go.Proofs.YtoiabanpnkpbhaaGreatDoor
open Go.RowKit

set_option maxRecDepth 100000 in
set_option maxHeartbeats 16000000 in
theorem rrecover_ok (P n t wd rows : Int) (G : Nat) (sv : List Int) (hs : List (List (List Int))) (vs vh : Value) (w : World) (hV : SV P n t G) (hrr : i64r rows) (hsv : SI w vs sv) (hh : SLL w vh hs) (hz : sv.length ≤ 1000000) (hz2 : hs.length ≤ 1000000) :
    Calls Tryz.prog 43 #[.agg #[.int .i64 P], .agg #[.int .i64 n, .int .i64 t, .int .i64 G], .int .i64 wd, .int .i64 rows, vs, vh] w fun e w' => ∃ v, e = .returned (.tuple #[v, .int .i64 (reE P n G wd rows sv hs)]) ∧ Below w.heap.size w w' ∧ SL w' v (reO P n G wd rows sv hs) := by
  have HV := Lib.hid hV
  have hn10 := hV.n10
  have hnP := hV.nP
  have hG1 := hV.G1
  have hsum := hV.sum
  have ht1 := hV.t1
  have hPb := hV.pb
  have hPi : i64r P := by unfold i64r; omega
  have hG10 : 1 ≤ G ∧ G ≤ 10 := by omega
  obtain ⟨As, cs, rfl⟩ := hsv.form
  obtain ⟨Ah, ch, rfl, hat⟩ := hh.at
  have HSV := Lib.hid hsv
  have HAT := Lib.hid hat
  have hcap := hsv.capB
  obtain ⟨L, eL⟩ : ∃ L, L = sv.length := ⟨_, rfl⟩
  obtain ⟨M, eM⟩ : ∃ M, M = hs.length := ⟨_, rfl⟩
  rw [← eL] at HSV hz hcap ⊢
  rw [← eM] at hz2 ⊢
  have HL := Lib.hid eL
  have HM := Lib.hid eM
  clear hV hsv hh hat eL eM
  go_enter Tryz.func43, Tryz.ntmps43
  obtain ⟨F, eF⟩ : ∃ F, F = w.heap.size := ⟨_, rfl⟩
  obtain ⟨w1, ew1⟩ : ∃ w1 : World, w1 = (w.alloc (.cells #[.int .i64 P] 31)).alloc (.cells #[.int .i64 n, .int .i64 t, .int .i64 G] 29) := ⟨_, rfl⟩
  have HWw1 : Hid ((w.alloc (.cells #[.int .i64 P] 31)).alloc (.cells #[.int .i64 n, .int .i64 t, .int .i64 G] 29) = w1) := ew1.symm
  have HAw1 : Hid (Below w.heap.size w w1) := (show Hid _ from by rw [ew1]; exact ((Below.refl _ w).alloc (Nat.le_refl _) _).alloc (by simp) _)
  have HF0w1 : Hid (w1.heap[F]? = some (.cells #[.int .i64 P] 31 (0, 0))) := (show Hid _ from by show _ = _; rw [ew1, eF, Below.heap_alloc _ _ _ (by simp)]; exact heap_alloc_new w _)
  have HF1w1 : Hid (w1.heap[F + 1]? = some (.cells #[.int .i64 n, .int .i64 t, .int .i64 G] 29 (0, 0))) := (show Hid _ from by show _ = _; rw [ew1, eF]; have := heap_alloc_new (w.alloc (.cells #[.int .i64 P] 31)) (.cells #[.int .i64 n, .int .i64 t, .int .i64 G] 29); simpa using this)
  have HXC : Hid (∀ W, Below w1.heap.size w1 W → W.cell? ⟨F, 0, none⟩ = some (.int .i64 P) ∧ W.cell? ⟨F + 1, 0, none⟩ = some (.int .i64 n) ∧ W.cell? ⟨F + 1, 1, none⟩ = some (.int .i64 t) ∧ W.cell? ⟨F + 1, 2, none⟩ = some (.int .i64 G)) := (show Hid _ from fun W hg => by
    have hF0 := (hg.block F (heap_of_cells HF0w1.out)).trans HF0w1.out
    have hF1 := (hg.block (F + 1) (heap_of_cells HF1w1.out)).trans HF1w1.out
    exact ⟨cell_of_row W F 0 _ _ _ hF0, cell_of_row W (F + 1) 0 _ _ _ hF1, cell_of_row W (F + 1) 1 _ _ _ hF1, cell_of_row W (F + 1) 2 _ _ _ hF1⟩)
  go_upto_region 1 with fail
  rw [HWw1.out, ← eF]
  clear ew1 eF
  obtain ⟨f0, s0, s1, s2⟩ := HXC.out w1 (Below.refl _ _)
  go_wp2_with fail
  (with_reducible refine (r18Check_ok P n t G w1 HV.out).mono ?_)
  rintro e w2 ⟨rfl, hb2⟩
  have HB2 : Hid (Below w1.heap.size w1 w2) := hb2
  have HBw2 : Hid (Below w.heap.size w w2) := (show Hid _ from HAw1.out.trans (HB2.out.mono HAw1.out.size))
  clear hb2 f0 s0 s1 s2
  obtain ⟨f0, s0, s1, s2⟩ := HXC.out w2 HB2.out
  by_cases hw1 : wd < 0
  · have d1 : decide (wd < 0) = true := decide_eq_true hw1
    have HE := Lib.hid (reE_4 (P := P) (n := n) (G := G) (rows := rows) (sv := sv) (hs := hs) (show wd < 0 ∨ 64 < wd ∨ rows < 0 ∨ 1024 < rows by omega))
    clear hw1
    go_wp2_with fail
    go_ret2
    exact ⟨.slice none 0 0, by rw [HE.out]; rfl, HBw2.out, by rw [reO_err (by rw [HE.out]; omega)]; exact SL_nil _⟩
  have d1 : decide (wd < 0) = false := decide_eq_false hw1
  by_cases hw2 : 64 < wd
  · have d1' : decide (64 < wd) = true := decide_eq_true hw2
    have HE := Lib.hid (reE_4 (P := P) (n := n) (G := G) (rows := rows) (sv := sv) (hs := hs) (show wd < 0 ∨ 64 < wd ∨ rows < 0 ∨ 1024 < rows by omega))
    clear hw2
    go_wp2_with fail
    go_ret2
    exact ⟨.slice none 0 0, by rw [HE.out]; rfl, HBw2.out, by rw [reO_err (by rw [HE.out]; omega)]; exact SL_nil _⟩
  have d1' : decide (64 < wd) = false := decide_eq_false hw2
  by_cases hr1 : rows < 0
  · have d2 : decide (rows < 0) = true := decide_eq_true hr1
    have HE := Lib.hid (reE_4 (P := P) (n := n) (G := G) (sv := sv) (hs := hs) (show wd < 0 ∨ 64 < wd ∨ rows < 0 ∨ 1024 < rows by omega))
    clear hr1
    go_wp2_with fail
    go_ret2
    exact ⟨.slice none 0 0, by rw [HE.out]; rfl, HBw2.out, by rw [reO_err (by rw [HE.out]; omega)]; exact SL_nil _⟩
  have d2 : decide (rows < 0) = false := decide_eq_false hr1
  by_cases hr2 : 1024 < rows
  · have d3 : decide (1024 < rows) = true := decide_eq_true hr2
    have HE := Lib.hid (reE_4 (P := P) (n := n) (G := G) (sv := sv) (hs := hs) (show wd < 0 ∨ 64 < wd ∨ rows < 0 ∨ 1024 < rows by omega))
    clear hr2
    go_wp2_with fail
    go_ret2
    exact ⟨.slice none 0 0, by rw [HE.out]; rfl, HBw2.out, by rw [reO_err (by rw [HE.out]; omega)]; exact SL_nil _⟩
  have d3 : decide (1024 < rows) = false := decide_eq_false hr2
  have HN4 : Hid (¬ (wd < 0 ∨ 64 < wd ∨ rows < 0 ∨ 1024 < rows)) := (show Hid _ from by show ¬ _; omega)
  by_cases hLG : L < G
  · have d4 : decide ((L : Int) < (G : Int)) = true := decide_eq_true (by omega)
    have d4' : decide (L < G) = true := decide_eq_true hLG
    have HE := Lib.hid (reE_11 (P := P) (n := n) (hs := hs) HN4.out (show sv.length < G by rw [← HL.out]; exact hLG))
    clear hLG
    go_wp2_with fail
    go_ret2
    exact ⟨.slice none 0 0, by rw [HE.out]; rfl, HBw2.out, by rw [reO_err (by rw [HE.out]; omega)]; exact SL_nil _⟩
  have d4 : decide ((L : Int) < (G : Int)) = false := decide_eq_false (by omega)
  have d4' : decide (L < G) = false := decide_eq_false hLG
  by_cases hML : M = L
  case neg =>
    have d5 : ((M : Int) != (L : Int)) = true := by rw [bne_iff_ne]; omega
    have d5' : (M != L) = true := by rw [bne_iff_ne]; exact hML
    have HE := Lib.hid (reE_2 (P := P) (n := n) HN4.out (show ¬ sv.length < G by rw [← HL.out]; exact hLG) (show hs.length ≠ sv.length by rw [← HL.out, ← HM.out]; exact hML))
    clear hML
    go_wp2_with fail
    go_ret2
    exact ⟨.slice none 0 0, by rw [HE.out]; rfl, HBw2.out, by rw [reO_err (by rw [HE.out]; omega)]; exact SL_nil _⟩
  subst hML
  have d5 : ((M : Int) != (M : Int)) = false := by rw [bne_eq_false_iff_eq]
  have d5' : (M != M) = false := by rw [bne_eq_false_iff_eq]
  obtain ⟨wdn, rfl⟩ : ∃ k : Nat, wd = k := ⟨wd.toNat, by omega⟩
  obtain ⟨rn, rfl⟩ : ∃ k : Nat, rows = k := ⟨rows.toNat, by omega⟩
  have HEK := Lib.hid (reE_k (P := P) (n := n) HN4.out (show ¬ sv.length < G by rw [← HL.out]; exact hLG) (show hs.length = sv.length by rw [← HL.out, ← HM.out]))
  have HGL : Hid (G ≤ sv.length) := (show Hid _ from by show _ ≤ _; rw [← HL.out]; omega)
  clear hrr
  go_wp2_with fail
  (with_reducible refine (r18groups_ok n t G rn w2 hG10 (by omega)).mono ?_)
  rintro e w3 ⟨rfl, hb3⟩
  obtain ⟨N, eN⟩ : ∃ N, N = ngr rn G := ⟨_, rfl⟩
  have hNb := ngr_bd (len := rn) (G := G) hG10.1
  rw [← eN] at hNb ⊢
  have hNle : N ≤ 2048 := by
    have h2 : N * 1 ≤ N * G := Nat.mul_le_mul_left _ hG10.1
    omega
  have HNB := Lib.hid hNb
  have HEN := Lib.hid eN
  have HB3 : Hid (Below w1.heap.size w1 w3) := (show Hid _ from HB2.out.trans (hb3.mono HB2.out.size))
  have HEKN : Hid (reE P n G wdn rn sv hs = rcK n P wdn N sv hs M) := (show Hid _ from by show _ = _; rw [HEK.out, Int.toNat_natCast, ← HEN.out, ← HL.out])
  have hwd64 : wdn ≤ 64 := by omega
  have HPR : Hid (prB P = true) := (show Hid _ from HV.out.pr)
  clear hb3 eN hNb f0 s0 s1 s2 d1 d1' d2 d3 d4 d4' d5 d5' HEK HN4 hw1 hw2 hr1 hr2 HV
  go_wp2_with fail
  go_loopw [73] (fun iv wr => ∃ k : Nat, k ≤ M ∧ iv = .int .i64 k ∧ rcK n P wdn N sv hs k = 0 ∧ Below w1.heap.size w1 wr) (fun iv _ => M - (intOf iv).toNat)
  case atStart => exact ⟨0, Nat.zero_le _, rfl, rfl, HB3.out⟩
  case round =>
    obtain ⟨k, hk, rfl, hrc, hb⟩ := hrel
    have HRK := Lib.hid hrc
    have HB : Hid (Below w1.heap.size w1 wr) := hb
    have HBw : Hid (Below w.heap.size w wr) := (show Hid _ from HAw1.out.trans (HB.out.mono HAw1.out.size))
    clear hrc hb
    by_cases hlk : k < M
    · have dk : decide (k < M) = true := decide_eq_true hlk
      have hks : k < sv.length := by rw [← HL.out]; exact hlk
      have hkh : k < hs.length := by rw [← HM.out]; exact hlk
      obtain ⟨bs, os, eAs, cks⟩ := (HSV.out.below HBw.out).at hks
      subst eAs
      have HSVr := Lib.hid (HSV.out.below HBw.out)
      have HGD : Hid (gd sv k = sv[k]) := gd_lt hks
      have HG3 : Hid (g3 hs k = hs[k]) := g3_lt hkh
      obtain ⟨j, ej⟩ : ∃ j, j = sv[k] := ⟨_, rfl⟩
      rw [← ej] at cks HGD
      obtain ⟨f0, s0, s1, s2⟩ := HXC.out wr HB.out
      obtain ⟨bh, oh, Bh, dh, eAh, hW⟩ := HAT.out k hkh
      subst eAh
      obtain ⟨rs, ers⟩ : ∃ rs, rs = hs[k] := ⟨_, rfl⟩
      rw [← ers] at hW HG3
      have HWW := Lib.hid hW
      have HERR : Hid (∀ e, rcOne n P wdn N sv hs k = e → e ≠ 0 → reE P n G wdn rn sv hs = e) := (show Hid _ from fun e h1 h2 => by rw [HEKN.out]; exact rcK_err HRK.out h1 h2 hlk)
      have z1 : (0 : Int) ≤ (k : Int) := by omega
      have z2 : (k : Int) < (M : Int) := by omega
      have z3 : (k : Int) ≤ (cs : Int) := by omega
      have z3' : k ≤ cs := by omega
      clear ej ers hW
      by_cases hj1 : j < 1 ∨ n < j
      · have HE := Lib.hid (HERR.out 1 (by unfold rcOne; rw [HGD.out, if_pos hj1]) (by omega))
        by_cases hj2 : j < 1
        · have d1 : decide (j < 1) = true := decide_eq_true hj2
          clear hj1 hj2
          go_wp2_with fail
          go_ret2
          exact ⟨.slice none 0 0, by rw [HE.out]; rfl, HBw.out, by rw [reO_err (by rw [HE.out]; omega)]; exact SL_nil _⟩
        · have d1 : decide (j < 1) = false := decide_eq_false hj2
          have d2 : decide (n < j) = true := decide_eq_true (by omega)
          clear hj1 hj2
          go_wp2_with fail
          go_ret2
          exact ⟨.slice none 0 0, by rw [HE.out]; rfl, HBw.out, by rw [reO_err (by rw [HE.out]; omega)]; exact SL_nil _⟩
      · have d1 : decide (j < 1) = false := decide_eq_false (by omega)
        have d2 : decide (n < j) = false := decide_eq_false (by omega)
        have HJ1 := Lib.hid hj1
        clear hj1
        go_wp2_with fail
        obtain ⟨wo, ewo⟩ : ∃ wo : World, wo = wr := ⟨_, rfl⟩
        rw [← ewo] at HSVr HB HBw cks ⊢
        clear f0 s0 s1 s2 ewo d1 d2
        go_loopw [90] (fun iv wr => ∃ q : Nat, q ≤ k ∧ iv = .int .i64 q ∧ (∀ q' (h1 : q' < q) (h2 : q' < sv.length), sv[q'] ≠ j) ∧ wo = wr) (fun iv _ => k - (intOf iv).toNat)
        case atStart => exact ⟨0, Nat.zero_le _, rfl, fun q' h => by omega, rfl⟩
        case round =>
          obtain ⟨q, hq, rfl, hne, rfl⟩ := hrel
          have HNE := Lib.hid hne
          clear hne
          by_cases hlq : q < k
          · have dq : decide (q < k) = true := decide_eq_true hlq
            have hqs : q < sv.length := by omega
            obtain ⟨bs', os', eAs, cq⟩ := HSVr.out.at hqs
            injection eAs with eAs
            injection eAs with eb eo _
            subst eb eo
            obtain ⟨y, ey⟩ : ∃ y, y = sv[q] := ⟨_, rfl⟩
            rw [← ey] at cq
            have HEY := Lib.hid ey
            clear ey
            by_cases hyj : y = j
            · have dy : (y == j) = true := by rw [beq_iff_eq]; exact hyj
              have HE := Lib.hid (HERR.out 7 (by
                unfold rcOne
                rw [HGD.out, if_neg HJ1.out, if_pos]
                have : j ∈ sv.take k := by
                  rw [← hyj, HEY.out]
                  exact List.mem_iff_getElem.2 ⟨q, by simp; omega, by simp⟩
                simpa [has] using this) (by omega))
              clear hyj
              go_wp2_with fail
              go_ret2
              exact ⟨.slice none 0 0, by rw [HE.out]; rfl, HBw.out, by rw [reO_err (by rw [HE.out]; omega)]; exact SL_nil _⟩
            · have dy : (y == j) = false := by rw [beq_eq_false_iff_ne]; exact hyj
              have HYJ := Lib.hid hyj
              clear hyj
              go_wp2_with fail
              go_roundw
              case rel => exact ⟨q + 1, by omega, by go_num, fun q' h1 h2 => by
                rcases Nat.lt_or_ge q' q with h3 | h3
                · exact HNE.out q' h3 h2
                · have e : q' = q := by omega
                  subst e; rw [← HEY.out]; exact HYJ.out, by simp⟩
              case measure => simp [intOf]; omega
          · have dq : decide (q < k) = false := decide_eq_false hlq
            have HH : Hid (has (sv.take k).reverse j = false) := (show Hid _ from by
              have h : j ∉ sv.take k := fun hm => by
                obtain ⟨q', hq', e⟩ := List.mem_iff_getElem.1 hm
                simp at hq' e
                exact HNE.out q' (by omega) (by omega) e
              simp [has]; exact h)
            have HE0 : Hid (∀ e, (if rs.length ≠ N then 2 else if (rs.all fun r => decide ((r.length : Int) = wdn)) = false then 2 else if (rs.all (els P)) = false then 9 else 0) = e → rcOne n P wdn N sv hs k = e) := (show Hid _ from fun e h => by unfold rcOne; rw [HGD.out, if_neg HJ1.out, if_neg (by rw [HH.out]; simp), HG3.out]; exact h)
            obtain ⟨ckh, hsl⟩ := HWW.out wo HBw.out
            clear HNE
            by_cases hN : rs.length = N
            · have d3 : ((rs.length : Int) != (N : Int)) = false := by rw [bne_eq_false_iff_eq]; omega
              have d3' : (rs.length != N) = false := by rw [bne_eq_false_iff_eq]; exact hN
              obtain ⟨Ar, cr, er, hrt⟩ := hsl.at
              obtain ⟨rl, erl⟩ : ∃ rl, rl = rs.length := ⟨_, rfl⟩
              rw [← erl] at ckh d3 d3' er
              have HRL := Lib.hid erl
              have HN := Lib.hid hN
              have hrlb : rl ≤ 1000000 := by omega
              injection er with er1 er2 er3
              subst er1 er3
              have HRT := Lib.hid hrt
              clear erl hN hsl hrt er2
              go_wp2_with fail
              go_loopw [110] (fun iv wr => ∃ u : Nat, u ≤ rl ∧ iv = .int .i64 u ∧ ((rs.take u).all fun r => decide ((r.length : Int) = wdn)) = true ∧ wo = wr) (fun iv _ => rl - (intOf iv).toNat)
              case atStart => exact ⟨0, Nat.zero_le _, rfl, by simp, rfl⟩
              case round =>
                obtain ⟨u, hu, rfl, hwd, rfl⟩ := hrel
                have HWD := Lib.hid hwd
                clear hwd
                by_cases hlu : u < rl
                · have du : decide (u < rl) = true := decide_eq_true hlu
                  have hur : u < rs.length := by rw [← HRL.out]; exact hlu
                  obtain ⟨b5, o5, B5, d5, eA5, hW5⟩ := HRT.out u hur
                  subst eA5
                  obtain ⟨c5, _⟩ := hW5 wo (Below.refl _ _)
                  have HSW := Lib.hid (all_snoc (fun r => decide ((r.length : Int) = wdn)) rs u hur)
                  obtain ⟨ql, eql⟩ : ∃ ql, ql = rs[u].length := ⟨_, rfl⟩
                  rw [← eql] at c5
                  have HQL := Lib.hid eql
                  clear hW5 eql
                  by_cases hw : (ql : Int) = wdn
                  · have d6 : ((ql : Int) != (wdn : Int)) = false := by rw [bne_eq_false_iff_eq]; exact hw
                    have d6' : (ql != wdn) = false := by rw [bne_eq_false_iff_eq]; omega
                    have HW2 : Hid (((rs.take (u + 1)).all fun r => decide ((r.length : Int) = wdn)) = true) := (show Hid _ from by show _ = _; rw [HSW.out, HWD.out, ← HQL.out, decide_eq_true hw]; rfl)
                    clear hw
                    go_wp2_with fail
                    go_roundw
                    case rel => exact ⟨u + 1, by omega, by go_num, HW2.out, by simp⟩
                    case measure => simp [intOf]; omega
                  · have d6 : ((ql : Int) != (wdn : Int)) = true := by rw [bne_iff_ne]; exact hw
                    have d6' : (ql != wdn) = true := by rw [bne_iff_ne]; omega
                    have HE := Lib.hid (HERR.out 2 (HE0.out 2 (by
                      rw [if_neg (by simp [HN.out]), if_pos]
                      exact all_no hur (decide_eq_false (by rw [← HQL.out]; exact hw)))) (by omega))
                    clear hw
                    go_wp2_with fail
                    go_ret2
                    exact ⟨.slice none 0 0, by rw [HE.out]; rfl, HBw.out, by rw [reO_err (by rw [HE.out]; omega)]; exact SL_nil _⟩
                · have du : decide (u < rl) = false := decide_eq_false hlu
                  have HWD2 : Hid ((rs.all fun r => decide ((r.length : Int) = wdn)) = true) := (show Hid _ from by
                    have h := HWD.out
                    rw [List.take_of_length_le (by rw [← HRL.out]; omega)] at h; exact h)
                  have HRLN : Hid (rl = N) := (show Hid _ from by show _ = _; rw [HRL.out, HN.out])
                  go_wp2_with fail
                  go_loopw [124] (fun iv wr => ∃ x : Nat, x ≤ rl ∧ iv = .int .i64 x ∧ (rs.take x).all (els P) = true ∧ Below wo.heap.size wo wr) (fun iv _ => rl - (intOf iv).toNat)
                  case atStart => exact ⟨0, Nat.zero_le _, rfl, by simp, Below.refl _ _⟩
                  case round =>
                    obtain ⟨x, hx, rfl, hel, hb⟩ := hrel
                    have HEL := Lib.hid hel
                    have HBx := Lib.hid hb
                    have HBx1 : Hid (Below w1.heap.size w1 wr) := (show Hid _ from HB.out.trans (hb.mono HB.out.size))
                    have HBxw : Hid (Below w.heap.size w wr) := (show Hid _ from HBw.out.trans (hb.mono HBw.out.size))
                    clear hel hb
                    by_cases hlx : x < rl
                    · have dx : decide (x < rl) = true := decide_eq_true hlx
                      have hxr : x < rs.length := by rw [← HRL.out]; exact hlx
                      obtain ⟨b5, o5, B5, d5, eA5, hW5⟩ := HRT.out x hxr
                      subst eA5
                      obtain ⟨c5, h5⟩ := hW5 wr HBx.out
                      have HS5 := Lib.hid h5
                      obtain ⟨f0, s0, s1, s2⟩ := HXC.out wr HBx1.out
                      have HSN := Lib.hid (all_snoc (els P) rs x hxr)
                      obtain ⟨ql, eql⟩ : ∃ ql, ql = rs[x].length := ⟨_, rfl⟩
                      rw [← eql] at c5 HS5
                      clear hW5 h5 eql
                      go_wp2_with fail
                      (with_reducible refine (rin_any P rs[x] _ wr hPi HS5.out).mono ?_)
                      rintro e w6 ⟨rfl, hb6⟩
                      have HB6 : Hid (Below wo.heap.size wo w6) := (show Hid _ from HBx.out.trans (hb6.mono HBx.out.size))
                      have hin : inB P rs[x] = els P rs[x] := by unfold inB; rw [HPR.out]; rfl
                      rw [hin]
                      clear hb6 f0 s0 s1 s2
                      cases he : els P rs[x] with
                      | true =>
                        have HF2 : Hid ((rs.take (x + 1)).all (els P) = true) := (show Hid _ from by show _ = _; rw [HSN.out, HEL.out, he]; rfl)
                        clear he hin
                        go_wp2_with fail
                        go_roundw
                        case rel => exact ⟨x + 1, by omega, by go_num, HF2.out, HB6.out⟩
                        case measure => simp [intOf]; omega
                      | false =>
                        have HE := Lib.hid (HERR.out 9 (HE0.out 9 (by rw [if_neg (by simp [HN.out]), if_neg (by rw [HWD2.out]; simp), if_pos (all_no hxr he)])) (by omega))
                        have HBf : Hid (Below w.heap.size w w6) := (show Hid _ from HBw.out.trans (HB6.out.mono HBw.out.size))
                        clear he hin
                        go_wp2_with fail
                        go_ret2
                        exact ⟨.slice none 0 0, by rw [HE.out]; rfl, HBf.out, by rw [reO_err (by rw [HE.out]; omega)]; exact SL_nil _⟩
                    · have dx : decide (x < rl) = false := decide_eq_false hlx
                      have hfl : rs.all (els P) = true := by
                        have h := HEL.out
                        rw [List.take_of_length_le (by rw [← HRL.out]; omega)] at h; exact h
                      have HOK : Hid (rcK n P wdn N sv hs (k + 1) = 0) := (show Hid _ from rcK_ok HRK.out (HE0.out 0 (by rw [if_neg (by simp [HN.out]), if_neg (by rw [HWD2.out]; simp), if_neg (by rw [hfl]; simp)])))
                      clear hfl
                      go_wp2_with fail
                      go_roundw
                      case rel => exact ⟨k + 1, by omega, by go_num, HOK.out, HBx1.out⟩
                      case measure => simp [intOf]; omega
            · have d3 : ((rs.length : Int) != (N : Int)) = true := by rw [bne_iff_ne]; omega
              have d3' : (rs.length != N) = true := by rw [bne_iff_ne]; exact hN
              have HE := Lib.hid (HERR.out 2 (HE0.out 2 (by rw [if_pos hN])) (by omega))
              obtain ⟨rl, erl⟩ : ∃ rl, rl = rs.length := ⟨_, rfl⟩
              rw [← erl] at ckh d3 d3'
              clear erl hN hsl
              go_wp2_with fail
              go_ret2
              exact ⟨.slice none 0 0, by rw [HE.out]; rfl, HBw.out, by rw [reO_err (by rw [HE.out]; omega)]; exact SL_nil _⟩
    · have dk : decide (k < M) = false := decide_eq_false hlk
      have hkM : k = M := by omega
      have HRM : Hid (rcK n P wdn N sv hs sv.length = 0) := (show Hid _ from by have h := HRK.out; rw [hkM, HL.out] at h; exact h)
      have HE0 : Hid (reE P n G wdn rn sv hs = 0) := (show Hid _ from by show _ = _; rw [HEKN.out, HL.out]; exact HRM.out)
      have HOO : Hid (reO P n G wdn rn sv hs = (rAll P sv hs G wdn N).take rn) := (show Hid _ from by
        show _ = _
        unfold reO
        rw [HE0.out, if_pos rfl, Int.toNat_natCast, Int.toNat_natCast, ← HEN.out])
      have HALL := Lib.hid (rcK_all HRM.out)
      clear hkM HEKN HRK
      obtain ⟨wo, ewo⟩ : ∃ wo : World, wo = wr := ⟨_, rfl⟩
      rw [← ewo] at HB HBw ⊢
      clear ewo
      obtain ⟨T, eT⟩ : ∃ T, T = N * G := ⟨_, rfl⟩
      have hTb : T ≤ 2048 * 10 := by rw [eT]; exact Nat.mul_le_mul hNle hG10.2
      have wT : IntKind.i64.wrap ((N : Int) * (G : Int)) = (T : Int) := by
        have e : (N : Int) * (G : Int) = (T : Int) := by rw [eT, Int.natCast_mul]
        rw [e]; exact IntWalk.i64_in _ (by omega)
      have HT := Lib.hid eT
      have hrT : rn ≤ T := by rw [eT]; exact HNB.out.2
      obtain ⟨f0, s0, s1, s2⟩ := HXC.out wo HB.out
      obtain ⟨H, eH⟩ : ∃ H, H = wo.heap.size := ⟨_, rfl⟩
      obtain ⟨w5, ew5⟩ : ∃ w5 : World, w5 = wo.alloc (.cells (List.replicate T (.slice none 0 0)).toArray 22) := ⟨_, rfl⟩
      have HB5 : Hid (Below H wo w5) := (show Hid _ from by rw [ew5, eH]; exact (Below.refl _ _).alloc (Nat.le_refl _) _)
      have HO5 : Hid (OM H w5 H T wdn 0 (fun _ => 0) (fun _ => [])) := (show Hid _ from by rw [ew5, eH]; exact OM.start ..)
      have HBH : Hid (∀ W, Below H wo W → Below w1.heap.size w1 W ∧ Below w.heap.size w W) := (show Hid _ from fun W hb => by
        have h1 : Below w1.heap.size w1 W := HB.out.trans (hb.mono (by rw [eH]; exact HB.out.size))
        exact ⟨h1, HAw1.out.trans (h1.mono HAw1.out.size)⟩)
      have HEH := Lib.hid eH
      clear eT dk
      go_wp2_with (at_make; refine wpList_make_rows _ rfl _ _ 33 rfl 22 Tryz.underlying33 ilinfo _ T rfl rfl rfl (by omega) ?_; rw [← ew5, ← eH]; clear ew5 eH)
      clear f0 s0 s1 s2 wT
      go_loopw [141] (fun iv wr => ∃ (m : Nat) (bs : Nat → Nat) (M' : Nat → List Int), m ≤ T ∧ iv = .int .i64 m ∧ OM H wr H T wdn m bs M' ∧ (∀ x, x < m → M' x = zeros wdn) ∧ Below H wo wr) (fun iv _ => T - (intOf iv).toNat)
      case atStart => exact ⟨0, _, _, Nat.zero_le _, rfl, HO5.out, fun x hx => by omega, HB5.out⟩
      case round =>
        obtain ⟨m, bs, M', hm, rfl, hom, hz0, hb⟩ := hrel
        have HOM := Lib.hid hom
        have HZ := Lib.hid hz0
        have HBm := Lib.hid hb
        have hsz := hb.size
        have hHm : H < wr.heap.size := hom.lt
        clear hom hz0 hb
        by_cases hlm : m < T
        · have dm : decide (m < T) = true := decide_eq_true hlm
          obtain ⟨b, eb⟩ : ∃ b, b = wr.heap.size := ⟨_, rfl⟩
          obtain ⟨wA, eA⟩ : ∃ wA : World, wA = wr.alloc (.cells ((zeros wdn).map (Value.int .i64)).toArray 3) := ⟨_, rfl⟩
          have HOA : Hid (OM H wA H T wdn m bs M') := (show Hid _ from by rw [eA]; exact HOM.out.below ((Below.refl _ _).alloc (Nat.le_refl _) _))
          have cm := HOA.out.cellN (i := m) (Nat.le_refl _) hlm
          have fm := HOA.out.frozen m
          have HON : Hid (OM H (wA.setCell ⟨H, m, none⟩ (.slice (some ⟨b, 0, none⟩) wdn wdn)) H T wdn (m + 1) (up bs m b) (up M' m (zeros wdn))) := (show Hid _ from by rw [eA, eb]; exact HOM.out.add hlm (by omega))
          have HBN : Hid (Below H wo (wA.setCell ⟨H, m, none⟩ (.slice (some ⟨b, 0, none⟩) wdn wdn))) := (show Hid _ from by rw [eA]; exact (HBm.out.alloc (by omega) _).setCell (Nat.le_refl _) _)
          have z1 : (0 : Int) ≤ (m : Int) := by omega
          have z2 : (m : Int) < (T : Int) := by omega
          go_wp2_with (at_make; refine wpList_make_ints _ rfl _ _ 22 rfl 3 Tryz.underlying22 iinfo _ wdn rfl rfl rfl (by omega) ?_; rw [← eA, ← eb]; clear eA eb)
          go_roundw
          case rel => exact ⟨m + 1, _, _, by omega, by go_num, HON.out, fun x hx => by
            by_cases e : x = m
            · simp [up, e]
            · simp [up, e]; exact HZ.out x (by omega), HBN.out⟩
          case measure => simp [intOf]; omega
        · have dm : decide (m < T) = false := decide_eq_false hlm
          have hmT : m = T := by omega
          have HOT : Hid (OM H wr H T wdn T bs M') := (show Hid _ from by have h := HOM.out; rw [hmT] at h; exact h)
          have HRS0 : Hid (RmS P sv hs G wdn T 0 0 0 M') := (show Hid _ from RmS.start fun x hx => HZ.out x (by omega))
          obtain ⟨wp, ewp⟩ : ∃ wp : World, wp = wr := ⟨_, rfl⟩
          rw [← ewp] at HOT HBm ⊢
          clear hmT HOM HZ ewp hsz hHm
          go_wp2_with fail
          go_loopw [27] (fun iv wr => ∃ (k : Nat) (M2 : Nat → List Int), k ≤ N ∧ iv = .int .i64 k ∧ OM H wr H T wdn T bs M2 ∧ RmS P sv hs G wdn T k 0 0 M2 ∧ Below H wo wr) (fun iv _ => N - (intOf iv).toNat)
          case atStart => exact ⟨0, M', Nat.zero_le _, rfl, HOT.out, HRS0.out, HBm.out⟩
          case round =>
            obtain ⟨k, M2, hk, rfl, hom, hrs, hb⟩ := hrel
            have HOM := Lib.hid hom
            have HRS := Lib.hid hrs
            have HBk := Lib.hid hb
            clear hom hrs hb
            by_cases hlk : k < N
            · have dk : decide (k < N) = true := decide_eq_true hlk
              obtain ⟨wq, ewq⟩ : ∃ wq : World, wq = wr := ⟨_, rfl⟩
              rw [← ewq] at HOM HBk ⊢
              clear ewq
              go_wp2_with fail
              go_loopw [28] (fun iv wr => ∃ (c : Nat) (M3 : Nat → List Int), c ≤ wdn ∧ iv = .int .i64 c ∧ OM H wr H T wdn T bs M3 ∧ RmS P sv hs G wdn T k c 0 M3 ∧ Below H wo wr) (fun iv _ => wdn - (intOf iv).toNat)
              case atStart => exact ⟨0, M2, Nat.zero_le _, rfl, HOM.out, HRS.out, HBk.out⟩
              case round =>
                obtain ⟨c, M3, hc, rfl, hom, hrs, hb⟩ := hrel
                have HOM3 := Lib.hid hom
                have HRS3 := Lib.hid hrs
                have HBc := Lib.hid hb
                clear hom hrs hb
                by_cases hlc : c < wdn
                · have dc : decide (c < wdn) = true := decide_eq_true hlc
                  obtain ⟨wc, ewc⟩ : ∃ wc : World, wc = wr := ⟨_, rfl⟩
                  rw [← ewc] at HOM3 HBc ⊢
                  clear ewc
                  have HSZ : Hid (H ≤ wc.heap.size) := (show Hid _ from by have := HBc.out.size; have := HEH.out; show H ≤ _; omega)
                  go_wp2_with fail
                  go_loopw [29, 30] (fun v iv wr => ∃ (i : Nat) (pv : Value) (l : List (Int × Int)), pv = v ∧ i ≤ G ∧ iv = .int .i64 i ∧ l = rPts sv hs i k c ∧ wr.ownsRow wc.heap.size 114 2 pv l.length ((l.flatMap pcs).map (Value.int .i64)) ∧ Below wc.heap.size wc wr) (fun _ iv _ => G - (intOf iv).toNat)
                  case atStart => exact ⟨0, _, [], rfl, Nat.zero_le _, rfl, rfl, World.ownsRow_nil _ _ _ _, Below.refl _ _⟩
                  case round =>
                    obtain ⟨i, pi, l, rfl, hi, rfl, hl, hown, hb⟩ := hrel
                    have HO := Lib.hid hown
                    have HBi := Lib.hid hb
                    have HLL := Lib.hid hl
                    have HBio : Hid (Below H wo wr) := (show Hid _ from HBc.out.trans (hb.mono (by have := HSZ.out; exact this)))
                    have hbw := HBH.out wr HBio.out
                    have HBi1 := Lib.hid hbw.1
                    have HBiw := Lib.hid hbw.2
                    have hll : l.length = i := by rw [hl, rPts_len]
                    have HLN := Lib.hid hll
                    obtain ⟨f0, s0, s1, s2⟩ := HXC.out wr HBi1.out
                    clear hown hb hl hll hbw
                    by_cases hli : i < G
                    · have di : decide (i < G) = true := decide_eq_true hli
                      have his : i < sv.length := by have := HGL.out; omega
                      have hiM : i < M := by have := HL.out; omega
                      have hih : i < hs.length := by rw [← HM.out]; exact hiM
                      obtain ⟨_, _, h3, h4⟩ := rcOne_ok (HALL.out i his)
                      have e3 : g3 hs i = hs[i] := g3_lt hih
                      rw [e3] at h3 h4
                      have hqr : k < hs[i].length := by rw [h3]; exact hlk
                      have h6 := h4 _ (List.getElem_mem hqr)
                      have hrl : hs[i][k].length = wdn := by omega
                      have hcr : c < hs[i][k].length := by omega
                      obtain ⟨bs1, os1, eAs, cj⟩ := HSV.out.at his
                      subst eAs
                      obtain ⟨bh, oh, Bh, dh, eAh, hW⟩ := HAT.out i hih
                      subst eAh
                      obtain ⟨ckh, hsl⟩ := hW w (Below.refl _ _)
                      obtain ⟨Ar, cr, er, hrt⟩ := hsl.at
                      injection er with er1 er2 er3
                      subst er1 er3
                      obtain ⟨b5, o5, B5, d5, eA5, hW5⟩ := hrt k hqr
                      subst eA5
                      obtain ⟨c5, h5⟩ := hW5 w (Below.refl _ _)
                      obtain ⟨b6, o6, eB6, c6⟩ := h5.at hcr
                      subst eB6
                      obtain ⟨j, ej⟩ : ∃ j, j = sv[i] := ⟨_, rfl⟩
                      obtain ⟨y, ey⟩ : ∃ y, y = hs[i][k][c] := ⟨_, rfl⟩
                      rw [← ej] at cj
                      rw [← ey] at c6
                      rw [hrl] at c5
                      rw [h3] at ckh
                      have HNX : Hid (rPts sv hs (i + 1) k c = l ++ [(j, y)]) := (show Hid _ from by
                        show _ = _
                        rw [rPts_succ, ← HLL.out]
                        have e4 : gd sv i = j := by rw [gd_lt his, ej]
                        have e5 : gd (gr (g3 hs i) k) c = y := by
                          have e6 : gr (g3 hs i) k = hs[i][k] := by unfold gr; rw [e3, List.getElem?_eq_getElem hqr]; rfl
                          rw [e6, gd_lt hcr, ey]
                        rw [e4, e5])
                      have HX4 : Hid (∀ W, Below wc.heap.size wr W → W.cell? ⟨bs1, os1 + i, none⟩ = some (.int .i64 j) ∧ W.cell? ⟨bh, oh + i, none⟩ = some (.slice (some ⟨b5, o5, none⟩) N dh) ∧ W.cell? ⟨b5, o5 + k, none⟩ = some (.slice (some ⟨b6, o6, none⟩) wdn d5) ∧ W.cell? ⟨b6, o6 + c, none⟩ = some (.int .i64 y)) := (show Hid _ from fun W hb => by
                        have hwW : Below w.heap.size w W := HBiw.out.trans (hb.mono (by have h1 := (HBH.out wc HBc.out).2.size; exact h1))
                        exact ⟨(hwW.cell (cell_blk cj)).trans cj, (hwW.cell (cell_blk ckh)).trans ckh, (hwW.cell (cell_blk c5)).trans c5, (hwW.cell (cell_blk c6)).trans c6⟩)
                      have hlb : l.length ≤ 1000 := by rw [HLN.out]; omega
                      have hbase : wc.heap.size ≤ wr.heap.size := HBi.out.size
                      clear hW hsl e3 hrt hW5 h5 h6 hcr ej ey hrl h3 h4 hqr er2 hih his cj ckh c5 c6
                      go_upto_region 53 with fail
                      apply regF53 wc.heap.size bs1 os1 bh oh b5 o5 b6 o6 M cs ch N dh wdn d5 i k c j y pi l wr hiM hlk hlc hlb hbase HX4.out HO.out
                      intro q29 q166 q167 q168 q169 q170 q171 q172 q173 q174 q175 q176 q177 q178 q179 q180 q181 q182 q183 w9 ⟨ho9, hb9⟩
                      have HO9 := Lib.hid ho9
                      have HB9 : Hid (Below wc.heap.size wc w9) := (show Hid _ from HBi.out.trans hb9)
                      clear ho9 hb9 f0 s0 s1 s2
                      go_wp2_with fail
                      go_roundw
                      case rel => exact ⟨i + 1, _, l ++ [(j, y)], rfl, by omega, by go_num, HNX.out.symm, HO9.out, HB9.out⟩
                      case measure => simp [intOf]; omega
                    · have di : decide (i < G) = false := decide_eq_false hli
                      have hiG : i = G := by omega
                      have HLG : Hid (l = rPts sv hs G k c) := (show Hid _ from by rw [← hiG]; exact HLL.out)
                      have HIN : Hid (inE P l = 0) := (show Hid _ from by
                        rw [HLG.out]
                        exact rPts_ok HPR.out hnP HGL.out (by omega) HRM.out hlk)
                      have HSG : Hid (SG pcs 2 wr.heap.size wr pi l) := (show Hid _ from SG.of_own HO.out (fun x hx y hy => by
                        rw [HLG.out] at hx
                        obtain ⟨k', hk', rfl⟩ := List.mem_map.1 hx
                        have hk'' := List.mem_range.1 hk'
                        obtain ⟨h1, _, h3, h4⟩ := rcOne_ok (HALL.out k' (by have := HGL.out; omega))
                        simp [pcs] at hy
                        rcases hy with rfl | rfl
                        · show i64r (gd sv k'); unfold i64r; omega
                        · show i64r (gd (gr (g3 hs k') k) c)
                          have e : gr (g3 hs k') k = (g3 hs k')[k]'(by omega) := by unfold gr; rw [List.getElem?_eq_getElem (by omega)]; rfl
                          have h5 := h4 _ (List.getElem_mem (show k < (g3 hs k').length by omega))
                          rw [e]
                          have h6 := el_t (els_gd hPb.1 h5.2 c)
                          unfold i64r; omega) (fun x _ => rfl))
                      have hll : l.length = G := by rw [HLN.out, hiG]
                      obtain ⟨Api, cpi, epi, _⟩ := id HSG.out
                      subst epi
                      rw [hll] at HSG ⊢
                      have hlb : l.length ≤ 1000000 := by omega
                      clear hiG hll
                      go_wp2_with fail
                      (with_reducible refine (rinterp_any P l _ wr hPi HSG.out hlb).mono ?_)
                      rintro e w6 ⟨v', rfl, ho6, hb6⟩
                      rw [HIN.out]
                      obtain ⟨X, eX⟩ : ∃ X, X = interp P (rPts sv hs G k c) := ⟨_, rfl⟩
                      have hip : inP P l = X := by unfold inP; rw [if_pos HIN.out, HLG.out, eX]
                      rw [hip] at ho6
                      have HXE : Hid (els P X = true) := (show Hid _ from by rw [eX]; exact trim_els (newt_els hPb.1 _).1)
                      have hXL : X.length ≤ G := by
                        rw [eX]
                        have h1 := trim_len (newt P (rPts sv hs G k c)).1
                        have h2 := (newt_len P (rPts sv hs G k c)).1
                        rw [rPts_len] at h2
                        show (trim _).length ≤ _
                        split at h2 <;> omega
                      obtain ⟨B0, eB0⟩ : ∃ B0, B0 = wr.heap.size := ⟨_, rfl⟩
                      rw [← eB0] at ho6
                      have HO6 := Lib.hid ho6
                      have HEX := Lib.hid eX
                      have HBcr : Hid (Below wc.heap.size wc w6) := (show Hid _ from HBi.out.trans (hb6.mono HBi.out.size))
                      have HB6o : Hid (Below H wo w6) := (show Hid _ from HBc.out.trans (HBcr.out.mono (by have := HSZ.out; exact this)))
                      have HOM6 : Hid (OM H w6 H T wdn T bs M3) := (show Hid _ from HOM3.out.below HBcr.out)
                      have HBS : Hid (∀ x, x < T → bs x < B0 ∧ H ≤ bs x) := (show Hid _ from fun x hx => by
                        obtain ⟨r1, _, r3, _⟩ := HOM3.out.row x hx
                        have h1 := r1.lt
                        have h2 := HBi.out.size
                        omega)
                      obtain ⟨A1, c1, rfl⟩ := own_sl' ho6
                      obtain ⟨xl, exl⟩ : ∃ xl, xl = X.length := ⟨_, rfl⟩
                      rw [← exl] at HO6 hXL ⊢
                      have HXL := Lib.hid exl
                      obtain ⟨xk, exk⟩ : ∃ xk, xk = k * G := ⟨_, rfl⟩
                      have hkT : xk + G ≤ T := by
                        have h2 : (k + 1) * G ≤ N * G := Nat.mul_le_mul_right G hlk
                        rw [Nat.add_mul, Nat.one_mul] at h2
                        have := HT.out
                        omega
                      have wk : IntKind.i64.wrap ((k : Int) * (G : Int)) = (xk : Int) := by
                        have e : (k : Int) * (G : Int) = (xk : Int) := by rw [exk, Int.natCast_mul]
                        rw [e]; exact IntWalk.i64_in _ (by omega)
                      have HXK := Lib.hid exk
                      obtain ⟨wy, ewy⟩ : ∃ wy : World, wy = w6 := ⟨_, rfl⟩
                      rw [← ewy] at HO6 HB6o HOM6 ⊢
                      clear ho6 hb6 hip eX exl f0 s0 s1 s2 exk ewy eB0 HBcr
                      go_wp2_with fail
                      go_loopw [192] (fun iv wr => ∃ (u : Nat) (M4 : Nat → List Int), u ≤ xl ∧ iv = .int .i64 u ∧ OM H wr H T wdn T bs M4 ∧ RmS P sv hs G wdn T k c u M4 ∧ Below H wo wr ∧ ∀ b, B0 ≤ b → wr.heap[b]? = wy.heap[b]?) (fun iv _ => xl - (intOf iv).toNat)
                      case atStart => exact ⟨0, M3, Nat.zero_le _, rfl, HOM6.out, HRS3.out, HB6o.out, fun b _ => rfl⟩
                      case round =>
                        obtain ⟨u, M4, hu, rfl, hom, hrs, hb, hkp⟩ := hrel
                        have HOM4 := Lib.hid hom
                        have HRS4 := Lib.hid hrs
                        have HBu := Lib.hid hb
                        have HKP := Lib.hid hkp
                        have HB1u := Lib.hid (HBH.out wr hb).1
                        clear hom hrs hb hkp
                        by_cases hlu : u < xl
                        · have du : decide (u < xl) = true := decide_eq_true hlu
                          have huX : u < X.length := by rw [← HXL.out]; exact hlu
                          have hSX : SI wr (.slice A1 xl c1) X := by
                            have h := own_blk HO6.out (w' := wr) fun b hb => HKP.out b (HO6.out.lt b hb).1
                            rw [HXL.out] at h ⊢
                            exact SI.of_own h (els_r hPb.2 HXE.out)
                          obtain ⟨b7, o7, eA7, c7⟩ := hSX.at huX
                          subst eA7
                          obtain ⟨y, ey⟩ : ∃ y, y = X[u] := ⟨_, rfl⟩
                          rw [← ey] at c7
                          have HY : Hid (y = gd (interp P (rPts sv hs G k c)) u) := (show Hid _ from by show _ = _; rw [← HEX.out, gd_lt huX, ey])
                          obtain ⟨x0, ex0⟩ : ∃ x0, x0 = xk + u := ⟨_, rfl⟩
                          have hx0 : x0 < T := by omega
                          have wx : IntKind.i64.wrap ((xk : Int) + (u : Int)) = (x0 : Int) := by
                            have e : (xk : Int) + (u : Int) = (x0 : Int) := by omega
                            rw [e]; exact IntWalk.i64_in _ (by omega)
                          obtain ⟨r1, r2, r3, r4⟩ := HOM4.out.row x0 hx0
                          have ch0 := HOM4.out.cell (i := x0) hx0
                          have cc0 := r1.cell (j := c) (by omega)
                          have fc0 := r1.frozen c
                          have hbsx := HBS.out x0 hx0
                          have HON : Hid (OM H (wr.setCell ⟨bs x0, c, none⟩ (.int .i64 y)) H T wdn T bs (up M4 x0 ((M4 x0).set c y))) := (show Hid _ from HOM4.out.set hx0 c y)
                          have HRN : Hid (RmS P sv hs G wdn T k c (u + 1) (up M4 x0 ((M4 x0).set c y))) := (show Hid _ from by
                            have e : x0 = k * G + u := by rw [ex0, HXK.out]
                            rw [e]
                            exact HRS4.out.set (by omega) hlc HY.out)
                          have HBN : Hid (Below H wo (wr.setCell ⟨bs x0, c, none⟩ (.int .i64 y))) := (show Hid _ from HBu.out.setCell (by exact hbsx.2) _)
                          have HKN : Hid (∀ b, B0 ≤ b → (wr.setCell ⟨bs x0, c, none⟩ (.int .i64 y)).heap[b]? = wy.heap[b]?) := (show Hid _ from fun b hb => (heap_setCell_other wr ⟨bs x0, c, none⟩ b _ (by show b ≠ bs x0; omega)).trans (HKP.out b hb))
                          obtain ⟨bx, ebx⟩ : ∃ bx, bx = bs x0 := ⟨_, rfl⟩
                          rw [← ebx] at ch0 cc0 fc0 HON HBN HKN
                          obtain ⟨old, eold⟩ : ∃ old, old = (M4 x0)[c]'(by omega) := ⟨_, rfl⟩
                          rw [← eold] at cc0
                          obtain ⟨M5, eM5⟩ : ∃ M5, M5 = up M4 x0 ((M4 x0).set c y) := ⟨_, rfl⟩
                          rw [← eM5] at HON HRN
                          obtain ⟨f0, s0, s1, s2⟩ := HXC.out wr HB1u.out
                          have z1 : (0 : Int) ≤ (u : Int) := by omega
                          have z2 : (u : Int) < (xl : Int) := by omega
                          have z3 : (0 : Int) ≤ (x0 : Int) := by omega
                          have z4 : (x0 : Int) < (T : Int) := by omega
                          have z5 : (0 : Int) ≤ (c : Int) := by omega
                          have z6 : (c : Int) < (wdn : Int) := by omega
                          clear hSX ey ex0 r1 r2 r3 r4 hbsx ebx eold eM5 huX
                          go_wp2_with fail
                          go_roundw
                          case rel => exact ⟨u + 1, M5, by omega, by go_num, HON.out, HRN.out, HBN.out, HKN.out⟩
                          case measure => simp [intOf]; omega
                        · have du : decide (u < xl) = false := decide_eq_false hlu
                          have hux : u = xl := by omega
                          have HRN : Hid (RmS P sv hs G wdn T k (c + 1) 0 M4) := (show Hid _ from HRS4.out.congr fun x c' hx hc' => by
                            have hm : 0 ≤ x % G := Nat.zero_le _
                            by_cases h1 : x / G = k ∧ c' = c ∧ ¬ x % G < u
                            · refine .inr ?_
                              unfold rV
                              rw [h1.1, h1.2.1, ← HEX.out]
                              exact gd_ge (by rw [← HXL.out]; omega)
                            · refine .inl ?_
                              unfold Cnd
                              omega)
                          clear hux
                          go_wp2_with fail
                          go_roundw
                          case rel => exact ⟨c + 1, M4, by omega, by go_num, HOM4.out, HRN.out, HBu.out⟩
                          case measure => simp [intOf]; omega
                · have dc : decide (c < wdn) = false := decide_eq_false hlc
                  have HRN : Hid (RmS P sv hs G wdn T (k + 1) 0 0 M3) := (show Hid _ from HRS3.out.congr fun x c' hx hc' => .inl (by unfold Cnd; omega))
                  go_wp2_with fail
                  go_roundw
                  case rel => exact ⟨k + 1, M3, by omega, by go_num, HOM3.out, HRN.out, HBc.out⟩
                  case measure => simp [intOf]; omega
            · have dk : decide (k < N) = false := decide_eq_false hlk
              have hkN : k = N := by omega
              have HRES : Hid (SL wr (.slice (some ⟨H, 0, none⟩) rn T) (reO P n G wdn rn sv hs)) := (show Hid _ from by
                have hrs := HRS.out
                rw [hkN] at hrs
                have hTT := HT.out
                have hdone : (List.range T).map M2 = rAll P sv hs G wdn N := by
                  rw [hTT] at hrs ⊢
                  exact RmS.done (by omega) hrs
                have hsl := HOM.out.sl (fun i hi x hx => by
                  obtain ⟨h1, h2⟩ := hrs i hi
                  obtain ⟨j, hj, rfl⟩ := List.mem_iff_getElem.1 hx
                  rw [← gd_lt hj, h2 j (by omega)]
                  by_cases h3 : Cnd G N 0 0 i j
                  · rw [if_pos h3]
                    have h4 := el_t (els_gd hPb.1 (show els P (interp P (rPts sv hs G (i / G) j)) = true from trim_els (newt_els hPb.1 _).1) (i % G))
                    show i64r (gd (interp P (rPts sv hs G (i / G) j)) (i % G))
                    unfold i64r; omega
                  · rw [if_neg h3]; unfold i64r; omega) (by omega) (by omega)
                rw [hdone] at hsl
                rw [HOO.out]
                exact SL.take hsl (by rw [rAll_len, ← hTT]; exact hrT))
              have HBf : Hid (Below w.heap.size w wr) := (show Hid _ from (HBH.out wr HBk.out).2)
              have z1 : (0 : Int) ≤ (rn : Int) := by omega
              have z2 : (rn : Int) ≤ (T : Int) := by omega
              clear hkN
              go_wp2_with fail
              go_ret2
              exact ⟨.slice (some ⟨H, 0, none⟩) rn T, by rw [HE0.out]; rfl, HBf.out, HRES.out⟩
end Go.Proofs.YtoiabanpnkpbhaaGreatDoor
