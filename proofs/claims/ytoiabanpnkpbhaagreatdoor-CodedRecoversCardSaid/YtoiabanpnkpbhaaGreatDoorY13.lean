/- Joined: Di Ce. -/
import Derived.Deep.RegionWith
import Derived.Sort.CutIn
import Derived.Test.YtoiabanpnkpbhaaGreatDoorY12
import Derived.Test.YtoiabanpnkpbhaaGreatDoorY05
namespace Go.Proofs.YtoiabanpnkpbhaaGreatDoor
open Go.RowKit

def DiP (P : Int) (a b : List Int) (w : World) (e : Ending) (w' : World) : Prop :=
  ∃ (v1 v2 : Value) (Q R : List Int), e = .returned (.tuple #[v1, v2, .int .i64 0]) ∧ Below w.heap.size w w' ∧
    w'.ownsRow w.heap.size 3 1 v1 Q.length (Q.map (Value.int .i64)) ∧ w'.ownsRow w.heap.size 3 1 v2 R.length (R.map (Value.int .i64)) ∧
    els P Q = true ∧ els P R = true ∧ trim Q = Q ∧ trim R = R ∧ Q.length ≤ a.length + 1 - b.length ∧ R.length < b.length ∧
    ∀ x, P ∣ ez a x - (ez Q x * ez b x + ez R x)
theorem RB.pre {w : World} {b : Nat} {l : List Int} (h : RB w b l) (k : Nat) : RB w b (l.take k) := by
  obtain ⟨tl, h⟩ := h
  refine ⟨(l.drop k).map (Value.int .i64) ++ tl, ?_⟩
  rw [h, ← List.append_assoc, ← List.map_append, List.take_append_drop]
/-- rounds of the division -/
def DiR (P : Int) (a b : List Int) (w : World) (bq K : Nat) (s : Value) (wr : World) : Prop :=
  ∃ (m : Nat) (T Q : List Int), T.length ≤ 1000000 ∧ DV P a b Q T m K ∧ SI wr s (T.take m) ∧ (∃ A c, s = .slice A m c) ∧ (b.length ≤ m → ∃ g c, s = .slice (some ⟨g, 0, none⟩) m c ∧ m ≤ c ∧ RB wr g T ∧ g ≠ bq ∧ w.heap.size ≤ g) ∧ BK wr bq Q ∧ Below w.heap.size w wr
def lenOf (v : Value) : Nat := match v with | .slice _ n _ => n | _ => 0
set_option maxRecDepth 100000 in
set_option maxHeartbeats 4000000 in
theorem divide_any (P : Int) (a b : List Int) (va vb : Value) (w : World) (hp : prB P = true) (ha : SI w va a) (hb : SI w vb b) (hea : els P a = true) (heb : els P b = true) (hla : a.length ≤ 512) (hlb : b.length ≤ 512) (hbn : b ≠ []) (hbt : gd b (b.length - 1) ≠ 0) :
    Calls Tryz.prog 131 #[.agg #[.int .i64 P], va, vb] w (DiP P a b w) := by
  have HP := Lib.hid hp
  have hP := prB_bd hp
  have hPi : i64r P := by unfold i64r; omega
  have HA := Lib.hid ha
  have HB := Lib.hid hb
  have EA := Lib.hid hea
  have EB := Lib.hid heb
  have HBT := Lib.hid hbt
  have hb1 : 1 ≤ b.length := by cases b with | nil => exact absurd rfl hbn | cons => simp
  have HTB : Hid (trim b = b) := (show Hid _ from trim_fix (.inr hbt))
  obtain ⟨Aa, ca, rfl⟩ := ha.form
  obtain ⟨Ab, cb, rfl⟩ := hb.form
  have HOP : Hid (opE P [a, b] = 0 ∧ opV P [a, b] = P) := (show Hid _ from by
    have h := opE_end (P := P) (ls := [a, b]) hp (fun j hj => by
      have : j = 0 ∨ j = 1 := by simp at hj; omega
      rcases this with rfl | rfl
      · exact hea
      · exact heb)
    exact h.2 (by unfold longB; simp; omega))
  obtain ⟨w1, ew1⟩ : ∃ w1 : World, w1 = (w.alloc (.cells #[.int .i64 P] 31)).alloc (.cells #[.slice Aa a.length ca, .slice Ab b.length cb] 22) := ⟨_, rfl⟩
  have HB1 : Hid (Below w.heap.size w w1) := (show Hid _ from by rw [ew1]; exact ((Below.refl _ w).alloc (Nat.le_refl _) _).alloc (by simp) _)
  have HSL : Hid (SL w1 (.slice (some ⟨w.heap.size + 1, 0, none⟩) 2 2) [a, b]) := (show Hid _ from by
    have := SL.two (w := w.alloc (.cells #[.int .i64 P] 31)) (ha.below ((Below.refl _ w).alloc (Nat.le_refl _) _)) (hb.below ((Below.refl _ w).alloc (Nat.le_refl _) _)) 22
    show SL _ _ _
    rw [ew1]; simpa using this)
  have HSA : Hid (SI w1 (.slice Aa a.length ca) a) := (show Hid _ from ha.below HB1.out)
  have HSB : Hid (SI w1 (.slice Ab b.length cb) b) := (show Hid _ from hb.below HB1.out)
  have HW1 : Hid ((w.alloc (.cells #[.int .i64 P] 31)).alloc (.cells #[.slice Aa a.length ca, .slice Ab b.length cb] 22) = w1) := ew1.symm
  clear hp ha hb hea heb hbt ew1
  go_enter Tryz.func131, Tryz.ntmps131
  go_wp2_with fail
  refine (open_any P [a, b] _ _ hPi (by rw [HW1.out]; exact HSL.out)).mono ?_; rintro e w2 ⟨rfl, hb2⟩
  rw [HW1.out] at hb2
  rw [HOP.out.1, HOP.out.2]
  have HB2 : Hid (Below w.heap.size w w2) := (show Hid _ from HB1.out.trans (hb2.mono HB1.out.size))
  have HSA2 : Hid (SI w2 (.slice Aa a.length ca) a) := (show Hid _ from HSA.out.below hb2)
  have HSB2 : Hid (SI w2 (.slice Ab b.length cb) b) := (show Hid _ from HSB.out.below hb2)
  clear hb2
  go_wp2_with fail
  (with_reducible refine (own_any a _ _ HSA2.out (by omega)).mono ?_); rintro e w3 ⟨v3, rfl, ho3, hb3⟩
  have HO3 := Lib.hid ho3
  have HB3' := Lib.hid hb3
  have HB3 : Hid (Below w.heap.size w w3) := (show Hid _ from HB2.out.trans (hb3.mono HB2.out.size))
  have HSB3 : Hid (SI w3 (.slice Ab b.length cb) b) := (show Hid _ from HSB2.out.below hb3)
  clear ho3 hb3
  go_wp2_with fail
  (with_reducible refine (trim_any b Ab cb _ HSB3.out).mono ?_); rintro e w4 ⟨rfl, _, rfl⟩
  rw [HTB.out]
  have hta : (trim a).length ≤ 512 := by have := trim_len a; omega
  obtain ⟨A3, c3, ev3⟩ := (SI.of_own HO3.out (els_r hP.2 (trim_els EA.out))).form
  subst ev3
  have HS3 : Hid (SI w3 (.slice A3 (trim a).length c3) (trim a)) := (show Hid _ from SI.of_own HO3.out (els_r hP.2 (trim_els EA.out)))
  obtain ⟨N, eN⟩ : ∃ N, N = (trim a).length := ⟨_, rfl⟩
  obtain ⟨nb, enb⟩ : ∃ n, n = b.length := ⟨_, rfl⟩
  rw [← eN] at HS3 hta HO3
  rw [← enb] at hb1 hlb HSB3
  have HN := Lib.hid eN
  have HNB := Lib.hid enb
  rw [← eN, ← enb]
  clear eN enb
  have nbz : ((nb : Int) == 0) = false := by rw [beq_eq_false_iff_ne]; omega
  obtain ⟨K, eK⟩ : ∃ K, K = N + 1 - nb := ⟨_, rfl⟩
  have hKi : (K : Int) = if nb ≤ N then (N : Int) - (nb : Int) + 1 else 0 := by split <;> omega
  have HKi := Lib.hid hKi
  have HK := Lib.hid eK
  have hK512 : K ≤ 512 := by omega
  have HSB3' := HSB3
  clear hKi eK
  rcases Nat.lt_or_ge N nb with hNn | hNn
  all_goals
    go_upto_region 9 with (first
      | (at_make; refine wpList_make_ints _ rfl _ _ 22 rfl 3 Tryz.underlying22 iinfo _ K rfl rfl (by rw [HKi.out]; first | (rw [if_neg (by omega)]; done) | (rw [if_pos (by omega)]; done)) (by omega) ?_))
    obtain ⟨w5, ew5⟩ : ∃ w5 : World, w5 = w3.alloc (.cells ((zeros K).map (Value.int .i64)).toArray 3) := ⟨_, rfl⟩
    rw [← ew5]
    obtain ⟨bq, ebq⟩ : ∃ b, b = w3.heap.size := ⟨_, rfl⟩
    have HBQ : Hid (BK w5 bq (zeros K)) := (show Hid _ from by rw [ew5, ebq]; exact heap_alloc_new w3 _)
    have HB5 : Hid (Below w3.heap.size w3 w5) := (show Hid _ from by rw [ew5]; exact (Below.refl _ w3).alloc (Nat.le_refl _) _)
    have HB5w : Hid (Below w.heap.size w w5) := (show Hid _ from HB3.out.trans (HB5.out.mono HB3.out.size))
    have HS5 : Hid (SI w5 (.slice A3 N c3) (trim a)) := (show Hid _ from HS3.out.below HB5.out)
    have HSB5 : Hid (SI w5 (.slice Ab nb cb) b) := (show Hid _ from HSB3.out.below HB5.out)
    have HO5 : Hid (w5.ownsRow w2.heap.size 3 1 (.slice A3 N c3) N ((trim a).map (Value.int .i64))) := (show Hid _ from own_bel HO3.out HB5.out)
    have h3bq : ∀ k, (Value.slice A3 N c3).ownBlock = some k → w2.heap.size ≤ k ∧ k < bq := by rw [ebq]; exact HO3.out.lt
    have h2w : w.heap.size ≤ w2.heap.size := HB2.out.size
    have hbq0 : w.heap.size ≤ bq := by rw [ebq]; exact HB3.out.size
    have hbw2 : Hid (∀ k, (Value.slice Ab nb cb).ownBlock = some k → k ≠ bq) := (show Hid _ from fun k hk e => by
      obtain ⟨bb, oo, eb, hbb, _⟩ := HSB3.out.cells (by rw [← HNB.out]; omega)
      rw [eb] at hk
      simp [Value.ownBlock] at hk
      omega)
    rw [← ebq]
    have H3BQ := Lib.hid h3bq
    clear ew5 ebq h3bq
    obtain ⟨bb, ob, eAb, hbb, hcb⟩ := HSB5.out.cells (by rw [← HNB.out]; omega)
    subst eAb
    obtain ⟨bt, ebt⟩ : ∃ x, x = gd b (nb - 1) := ⟨_, rfl⟩
    have cbt : w5.cell? ⟨bb, ob + (nb - 1), none⟩ = some (.int .i64 bt) := by rw [ebt, gd_lt (by rw [← HNB.out]; omega)]; exact hcb _ _
    have hbt1 := el_t (els_gd hP.1 EB.out (nb - 1))
    rw [← ebt] at hbt1
    have HBTe := Lib.hid ebt
    clear hcb ebt
    obtain ⟨mb, emb⟩ : ∃ mb, mb = nb - 1 := ⟨_, rfl⟩
    have eIm : (nb : Int) - 1 = (mb : Int) := by omega
    have v0 : (0 : Int) ≤ (mb : Int) := by omega
    have v2 : (mb : Int) < (nb : Int) := by omega
    rw [← emb] at cbt
    have HMB := Lib.hid emb
    clear emb
    go_wp2_with fail
    (with_reducible refine (inverse_any P bt _ HP.out hbt1).mono ?_); rintro e w6 ⟨rfl, rfl⟩
    obtain ⟨iv, eiv⟩ : ∃ v, v = inv P bt := ⟨_, rfl⟩
    have hiv := inv_bd hP.1 bt
    rw [← eiv] at hiv ⊢
    have HIV := Lib.hid eiv
    have hbbw : bb < w.heap.size := by
      obtain ⟨b', o', e, hb', _⟩ := HB.out.cells (by rw [← HNB.out]; omega)
      injection e with e; injection e with e1; omega
    have hDV0 : DV P a b (zeros K) (trim a) N K := by
      have := DV.start (P := P) (a := a) (b := b) hP.1 hbn EA.out
      rwa [← HN.out, ← HNB.out, ← HK.out] at this
    have hst : DiR P a b w bq K (.slice A3 N c3) w5 := by
      refine ⟨N, trim a, zeros K, by rw [← HN.out]; omega, hDV0, by rw [List.take_of_length_le (by rw [← HN.out]; exact Nat.le_refl _)]; exact HS5.out, ⟨A3, c3, rfl⟩, fun h => ?_, HBQ.out, HB5w.out⟩
      rw [← HNB.out] at h
      rcases HO5.out.2 with ⟨e, e2⟩ | ⟨g, cap, cur, e, hg, hgc, hnc, _, _, _⟩
      · omega
      · injection e with e1 e2 e3
        subst e1 e3
        have hrb := RB.of_own HO5.out rfl
        exact ⟨g, c3, rfl, hnc, hrb.1, fun e => by have := (H3BQ.out g rfl).2; omega, by omega⟩
    have HST := Lib.hid hst
    clear eiv hDV0 hst cbt v2 eIm v0
    go_wp2_with fail
    go_loopw [11] (fun s wr => DiR P a b w bq K s wr) (fun s _ => lenOf s)
    case atStart => exact HST.out
    case round =>
      obtain ⟨m, T, Q, hTL, hDV, hSI, ⟨A, c, rfl⟩, hblk, hBK, hBel⟩ := hrel
      have HDV := Lib.hid hDV
      have HSI := Lib.hid hSI
      have HBK := Lib.hid hBK
      have HBel := Lib.hid hBel
      have HBL := Lib.hid hblk
      have hmT : m ≤ T.length := hDV.le
      have hmK : m + 1 ≤ K + nb := by have := hDV.fit; rwa [← HNB.out] at this
      have hQK : Q.length = K := hDV.len
      have HSBr : Hid (SI wr (.slice (some ⟨bb, ob, none⟩) nb cb) b) := (show Hid _ from by have := HB.out.below hBel; rwa [← HNB.out] at this)
      clear hDV hSI hBK hBel hblk
      rcases Nat.lt_or_ge m nb with hmn | hmn
      · have HTm : Hid (trim (T.take m) = T.take m) := (show Hid _ from HDV.out.rest)
        have hTm : (T.take m).length = m := by simp; omega
        have HSQ : Hid (SI wr (.slice (some ⟨bq, 0, none⟩) K K) Q) := (show Hid _ from by
          have := HBK.out.si (o := 0) (els_r hP.2 HDV.out.elQ) (by omega) (Nat.zero_le _)
          rw [Nat.sub_zero, hQK, List.drop_zero] at this; exact this)
        clear HBL
        go_wp2_with fail
        (with_reducible refine (own_any Q _ _ HSQ.out (by omega)).mono ?_); rintro e w7 ⟨v7, rfl, ho7, hb7⟩
        have HO7 := Lib.hid ho7
        have HB7 := Lib.hid hb7
        have HSR : Hid (SI w7 (.slice A m c) (T.take m)) := (show Hid _ from HSI.out.below hb7)
        clear ho7 hb7
        go_wp2_with fail
        (with_reducible refine (own_any (T.take m) _ _ HSR.out (by omega)).mono ?_); rintro e w8 ⟨v8, rfl, ho8, hb8⟩
        have HO8 := Lib.hid ho8
        have HB8 := Lib.hid hb8
        clear ho8 hb8
        have hs7 : w.heap.size ≤ w7.heap.size := Nat.le_trans HBel.out.size HB7.out.size
        go_wp2_with fail
        go_ret3
        refine ⟨v7, v8, trim Q, trim (T.take m), rfl, ?_, own_bel (own_lo HO7.out HBel.out.size) HB8.out, own_lo HO8.out hs7, trim_els HDV.out.elQ, trim_els ?_, trim_idem _, trim_idem _, ?_, ?_, fun x => ?_⟩
        · exact (HBel.out.trans (HB7.out.mono HBel.out.size)).trans (HB8.out.mono hs7)
        · exact els_of fun x hx => els_all HDV.out.elT x (List.mem_of_mem_take hx)
        · have h1 := trim_len Q
          have h2 := trim_len a
          have h3 := HK.out
          have h4 := HN.out
          have h5 := HNB.out
          omega
        · rw [HTm.out, hTm, ← HNB.out]; exact hmn
        · rw [trim_ez, HTm.out]; exact HDV.out.div x
      · obtain ⟨g, c', e, hmc, hRB, hgq, hgw⟩ := HBL.out (by rw [← HNB.out]; exact hmn)
        injection e with e1 e2 e3
        subst e1 e3
        obtain ⟨m1, em1⟩ : ∃ k, k = m - 1 := ⟨_, rfl⟩
        obtain ⟨o, eo⟩ : ∃ k, k = m - nb := ⟨_, rfl⟩
        have ctop := hRB.cell (j := m - 1) (by omega)
        rw [← gd_lt, ← em1] at ctop
        obtain ⟨tp, etp⟩ : ∃ x, x = gd T m1 := ⟨_, rfl⟩
        have htp := el_t (els_gd hP.1 HDV.out.elT m1)
        rw [← etp] at ctop htp
        have hqb : 0 ≤ tp * iv % P ∧ tp * iv % P < P := ⟨Int.emod_nonneg _ (by omega), Int.emod_lt_of_pos _ (by omega)⟩
        obtain ⟨qv, eqv⟩ : ∃ x, x = tp * iv % P := ⟨_, rfl⟩
        rw [← eqv] at hqb
        have HMUL : ∀ W : World, Calls Tryz.prog 53 #[.int .i64 P, .int .i64 tp, .int .i64 iv] W fun e w' => e = .returned (.int .i64 qv) ∧ W = w' := fun W => (mul_any P tp iv W hP htp hiv).mono fun e w' ⟨h1, h2⟩ => ⟨by rw [h1, eqv], h2⟩
        obtain ⟨sb, esb⟩ : ∃ v, v = (0 - qv + P) % P := ⟨_, rfl⟩
        have hsb : 0 ≤ sb ∧ sb < P := by rw [esb]; exact ⟨Int.emod_nonneg _ (by omega), Int.emod_lt_of_pos _ (by omega)⟩
        have HSUB : ∀ W : World, Calls Tryz.prog 92 #[.int .i64 P, .int .i64 0, .int .i64 qv] W fun e w' => e = .returned (.int .i64 sb) ∧ W = w' := fun W => (sub_any P 0 qv W hP ⟨by omega, by omega⟩ hqb).mono fun e w' ⟨h1, h2⟩ => ⟨by rw [h1, esb], h2⟩
        have hoK : o < K := by omega
        have hoQ : o < Q.length := by omega
        have ceq := HBK.out.cell hoQ
        rw [← gd_lt] at ceq
        have feq := HBK.out.frozen o
        obtain ⟨w7, ew7⟩ : ∃ w7 : World, w7 = wr.setCell ⟨bq, o, none⟩ (.int .i64 qv) := ⟨_, rfl⟩
        have HBK7 : Hid (BK w7 bq (Q.set o qv)) := (show Hid _ from by rw [ew7]; exact HBK.out.set o qv)
        have HRB7 : Hid (RB w7 g T) := (show Hid _ from by rw [ew7]; exact hRB.setO (p := ⟨bq, o, none⟩) (fun e => hgq e.symm) _)
        have HBel7 : Hid (Below w.heap.size w w7) := (show Hid _ from by rw [ew7]; exact HBel.out.setCell (p := ⟨bq, o, none⟩) hbq0 _)
        have HSB7 : Hid (SI w7 (.slice (some ⟨bb, ob, none⟩) nb cb) b) := (show Hid _ from by have := HB.out.below HBel7.out; rwa [← HNB.out] at this)
        have hTl : o + nb ≤ T.length := by omega
        have HADD : Hid (∀ W : World, RB W g T → SI W (.slice (some ⟨bb, ob, none⟩) nb cb) b → Calls Tryz.prog 49 #[.int .i64 P, .slice (some ⟨g, o, none⟩) nb (c - o), .int .i64 sb, .slice (some ⟨bb, ob, none⟩) nb cb] W fun e w' => (∃ v, e = .returned v) ∧ RB w' g (addT P T o sb b) ∧ W.grownBy w' (some g)) := (show Hid _ from fun W h1 h2 => addTimesR_any P g o nb (c - o) T sb b _ W hP hsb HDV.out.elT EB.out h1 h2 (fun k hk e => by simp [Value.ownBlock] at hk; omega) (by rw [← HNB.out]; exact Nat.le_refl _) (by rw [← HNB.out]; exact hTl))
        have HW7 : Hid (wr.setCell ⟨bq, o, none⟩ (.int .i64 qv) = w7) := ew7.symm
        have hstep := HDV.out.step HP.out hbn EB.out HBT.out (by rw [← HNB.out]; exact hmn)
        rw [← HNB.out, ← HBTe.out, ← HIV.out, ← em1, ← etp, ← eqv, ← esb, ← eo] at hstep
        have HSTEP := Lib.hid hstep
        have em1' : (m : Int) - 1 = (m1 : Int) := by omega
        have eo' : (m : Int) - (nb : Int) = (o : Int) := by omega
        have u1 : (m1 : Int) < (m : Int) := by omega
        have u2 : (o : Int) < (K : Int) := by omega
        have u3 : (o : Int) ≤ (m : Int) := by omega
        have u4 : ¬ c = o := by omega
        have u5 : (m1 : Int) ≤ (c : Int) := by omega
        have u6 : m - o = nb := by omega
        have hEM := Lib.hid em1
        have hEO := Lib.hid eo
        have hms : m ≤ 100000 := by omega
        clear hRB etp eqv esb ew7 hstep em1 eo
        go_upto_region 14 with (go_at_call 53; refine (HMUL _).mono ?_; rintro e w9 ⟨rfl, rfl⟩)
        rw [HW7.out]
        go_region_with (first
          | (go_at_call 92; refine (HSUB _).mono ?_; rintro e w9 ⟨rfl, rfl⟩)
          | (go_at_call 49; refine (HADD.out _ (by exact HRB7.out) (by exact HSB7.out)).mono ?_; rintro e w9 ⟨⟨v9, rfl⟩, hRB9, hg9⟩; have HR9 := Lib.hid hRB9; have HG9 : Hid (w7.grownBy w9 (some g)) := (show Hid _ from ⟨hg9.os, hg9.tape, hg9.output, hg9.size, hg9.block⟩); clear hRB9 hg9))
        all_goals
          obtain ⟨T2, eT2⟩ : ∃ T2, T2 = addT P T o sb b := ⟨_, rfl⟩
          have HR9' : Hid (RB w9 g T2) := (show Hid _ from by rw [eT2]; exact HR9.out)
          have HSTEP' := HSTEP.out
          rw [← eT2] at HSTEP'
          have hT2l : T2.length = T.length := by rw [eT2, addT_len]
          have HD2 := Lib.hid HSTEP'
          have HBK9 : Hid (BK w9 bq (Q.set o qv)) := (show Hid _ from HBK7.out.kept HG9.out (by simp; omega))
          have HBel9 : Hid (Below w.heap.size w w9) := (show Hid _ from HBel7.out.trans (below_grown HG9.out (by have := HBel7.out.size; omega) (fun k hk => by injection hk with hk; omega)))
          have hm1l : (T2.take m1).length = m1 := by simp; omega
          have HSI9 : Hid (SI w9 (.slice (some ⟨g, 0, none⟩) m1 m1) (T2.take m1)) := (show Hid _ from by
            have h0 := (HR9'.out.pre m1).si (c := m1) (fun x hx => els_r hP.2 HSTEP'.elT x (List.mem_of_mem_take hx)) (by omega) (by omega)
            rwa [hm1l] at h0)
          clear eT2 HSTEP'
          have HTR := Lib.hid (trim_any (T2.take m1) (some ⟨g, 0, none⟩) m1 w9 (by rw [hm1l]; exact HSI9.out))
          rw [hm1l] at HTR
          go_wp2_with ((with_reducible refine HTR.out.mono ?_); rintro e w10 ⟨rfl, htk, rfl⟩; clear htk)
          go_roundw
          case rel =>
            have hmd := HD2.out.le
            refine ⟨_, T2, Q.set o qv, by omega, HD2.out, ?_, ⟨_, _, rfl⟩, fun h => ⟨g, m1, rfl, ?_, HR9'.out, hgq, hgw⟩, HBK9.out, HBel9.out⟩
            · have h1 : (trim (T2.take m1)).length ≤ m1 := by have := trim_len (T2.take m1); omega
              have h2 := HSI9.out.take (m := (trim (T2.take m1)).length) (by omega)
              rw [List.take_take, Nat.min_eq_left h1] at h2
              exact h2
            · have := trim_len (T2.take m1); omega
          case measure =>
            show (trim (T2.take m1)).length < m
            have := trim_len (T2.take m1)
            omega
end Go.Proofs.YtoiabanpnkpbhaaGreatDoor

namespace Go.Proofs.YtoiabanpnkpbhaaGreatDoor
open Go.RowKit Go.Shelf
attribute [local go_sem] Oper.semAt_some

set_option maxRecDepth 100000 in
set_option maxHeartbeats 2000000 in
theorem kn1_nil (n lr Bs c : Nat) (A : Option Addr) (J : World → Prop) (W : World) (hBs : W.cell? ⟨Bs, 0, none⟩ = some (.slice A 0 c)) (h0 : J W) :
    CallsIn Fence.wide n Tryz.prog 153 #[.func (.yield lr) #[] #[], .pointer (some ⟨Bs, 0, none⟩)] W fun e W' => (∃ v, e = .returned v) ∧ J W' := by
  refine callsIn_of_wp Tryz.func153 rfl trivial ?_ rfl
  simp only [Tryz.ntmps153, List.size_toArray, List.length_cons, List.length_nil, Nat.reduceAdd, Nat.reduceSub, Array.replicate_succ, Array.replicate_zero, List.push_toArray, List.append_toArray, List.nil_append, List.cons_append]
  gi_wp2_with fail
  gi_loopw [7] (fun i wr => i = .int .i64 0 ∧ J wr) (fun _ _ => 0)
  case atStart => exact ⟨rfl, h0⟩
  case round =>
    obtain ⟨rfl, hJs⟩ := hrel
    gi_wp2
    go_end0
    exact ⟨⟨_, rfl⟩, hJs⟩
theorem kn_stops (n : Nat) (hn : 1 ≤ n) (Bs : Nat) (K : Nat → Prop) (l : List (Int × Bool)) (A : Option Addr) (c : Nat) (hz : l.length ≤ 1000000) (w : World) (hK : ∀ k, K k → k < w.heap.size) (hBl : Bs < w.heap.size)
    (hBs : w.cell? ⟨Bs, 0, none⟩ = some (.slice A l.length c)) (h : 0 < l.length → ∃ b off, A = some ⟨b, off, none⟩ ∧ K b ∧ ∀ j (h : j < l.length), w.cell? ⟨b, off + j * 2, none⟩ = some (.int .i64 l[j].1) ∧ w.cell? ⟨b, off + j * 2 + 1, none⟩ = some (.bool l[j].2)) :
    SeqStopsK Fence.wide n Tryz.prog 153 #[.pointer (some ⟨Bs, 0, none⟩)] (fun x : Fin (kn l).length => #[.int .i64 (kn l)[x].1, .int .i64 (kn l)[x].2]) (KB K) (fun ys => ys = upA (kn l).length (kn l).length) (fun pre => ∃ k, k ≤ (kn l).length ∧ pre = upA (kn l).length k) (kn l).length w := fun lr J Jx W hW hJ _ hY h0 => by
  have hBs' := (hW.cell (p := ⟨Bs, 0, none⟩) hBl).trans hBs
  by_cases hl : l.length = 0
  · have hln : l = [] := List.eq_nil_of_length_eq_zero hl
    subst hln
    exact (kn1_nil n lr Bs c A (J []) W hBs' h0).mono fun e W' ⟨he, hj⟩ => ⟨he, .inl ⟨[], rfl, hj⟩⟩
  · obtain ⟨b, off, rfl, hKb, hc⟩ := h (by omega)
    exact kn1_in n hn lr Bs b off c K l hKb hz J Jx W (fun k hk => by have := hK k hk; have := hW.size; omega) hJ hY hBs' (fun j hj => ⟨(hW.cell (p := ⟨b, off + j * 2, none⟩) (hK _ hKb)).trans (hc j hj).1, (hW.cell (p := ⟨b, off + j * 2 + 1, none⟩) (hK _ hKb)).trans (hc j hj).2⟩) h0
theorem known_any (A : Option Addr) (n c : Nat) (w : World) :
    Calls Tryz.prog 151 #[.slice A n c] w fun e w' => e = .returned (.func (.func 153) #[] #[.pointer (some ⟨w.heap.size, 0, none⟩)]) ∧ w' = w.alloc (.cells #[.slice A n c] 138) := by
  go_enter Tryz.func151, Tryz.ntmps151
  go_wp2
  go_ret
  exact ⟨rfl, rfl⟩

/-- the error of cells -/
def ceE (P : Int) (l : List (Int × Bool)) : Int := if prB P = false then 9 else if 32 < l.length ∨ P ≤ l.length then 4 else if ((kn l).all fun p => el P p.2) = true then 0 else 9
def ceP (P : Int) (l : List (Int × Bool)) : Int := if ceE P l = 0 then P else 0
def ceN (P : Int) (l : List (Int × Bool)) : Int := if ceE P l = 0 then ((kn l).length : Int) else 0
theorem ce_p {P : Int} {l : List (Int × Bool)} (h : prB P = false) : ceE P l = 9 ∧ ceP P l = 0 ∧ ceN P l = 0 := by
  have e : ceE P l = 9 := if_pos h
  exact ⟨e, if_neg (by rw [e]; omega), if_neg (by rw [e]; omega)⟩
theorem ce_4 {P : Int} {l : List (Int × Bool)} (h : prB P = true) (h2 : 32 < l.length ∨ P ≤ l.length) : ceE P l = 4 ∧ ceP P l = 0 ∧ ceN P l = 0 := by
  have e : ceE P l = 4 := by unfold ceE; rw [if_neg (by rw [h]; simp), if_pos h2]
  exact ⟨e, if_neg (by rw [e]; omega), if_neg (by rw [e]; omega)⟩
theorem ce_9 {P : Int} {l : List (Int × Bool)} (h : prB P = true) (h2 : ¬ (32 < l.length ∨ P ≤ l.length)) (j : Fin (kn l).length) (h3 : el P (kn l)[j].2 = false) : ceE P l = 9 ∧ ceP P l = 0 ∧ ceN P l = 0 := by
  have e : ceE P l = 9 := by
    unfold ceE
    rw [if_neg (by rw [h]; simp), if_neg h2, if_neg]
    intro ha
    rw [List.all_eq_true] at ha
    have := ha _ (List.getElem_mem j.2)
    simp only [Fin.getElem_fin] at h3
    rw [h3] at this
    cases this
  exact ⟨e, if_neg (by rw [e]; omega), if_neg (by rw [e]; omega)⟩
theorem ce_0 {P : Int} {l : List (Int × Bool)} (h : prB P = true) (h2 : ¬ (32 < l.length ∨ P ≤ l.length)) (h3 : ∀ j ∈ upA (kn l).length (kn l).length, el P (kn l)[j].2 = true) : ceE P l = 0 ∧ ceP P l = P ∧ ceN P l = (kn l).length := by
  have e : ceE P l = 0 := by
    unfold ceE
    rw [if_neg (by rw [h]; simp), if_neg h2, if_pos]
    rw [List.all_eq_true]
    intro x hx
    obtain ⟨j, hj, rfl⟩ := List.mem_iff_getElem.1 hx
    have := h3 ⟨j, hj⟩ (by unfold upA; rw [List.mem_filterMap]; exact ⟨j, by simpa using hj, by simp [hj]⟩)
    simpa using this
  exact ⟨e, if_pos e, if_pos e⟩

theorem set3 {w : World} {n : Nat} {a b c a' b' c' : Value} (k1 : w.cell? ⟨n + 1, 0, none⟩ = some a') (k2 : w.cell? ⟨n + 2, 0, none⟩ = some b') (k3 : w.cell? ⟨n + 3, 0, none⟩ = some c') :
    (((w.setCell ⟨n + 1, 0, none⟩ a).setCell ⟨n + 2, 0, none⟩ b).setCell ⟨n + 3, 0, none⟩ c).cell? ⟨n + 1, 0, none⟩ = some a ∧ (((w.setCell ⟨n + 1, 0, none⟩ a).setCell ⟨n + 2, 0, none⟩ b).setCell ⟨n + 3, 0, none⟩ c).cell? ⟨n + 2, 0, none⟩ = some b ∧
      (((w.setCell ⟨n + 1, 0, none⟩ a).setCell ⟨n + 2, 0, none⟩ b).setCell ⟨n + 3, 0, none⟩ c).cell? ⟨n + 3, 0, none⟩ = some c := by
  have h12 : (⟨n + 1, 0, none⟩ : Addr) ≠ ⟨n + 2, 0, none⟩ := by simp
  have h13 : (⟨n + 1, 0, none⟩ : Addr) ≠ ⟨n + 3, 0, none⟩ := by simp
  have h23 : (⟨n + 2, 0, none⟩ : Addr) ≠ ⟨n + 3, 0, none⟩ := by simp
  refine ⟨?_, ?_, ?_⟩
  · rw [World.cell?_setCell_other _ _ _ _ h13.symm, World.cell?_setCell_other _ _ _ _ h12.symm]
    exact World.cell?_setCell_same _ _ _ k1
  · rw [World.cell?_setCell_other _ _ _ _ h23.symm]
    exact World.cell?_setCell_same _ _ _ ((World.cell?_setCell_other _ _ _ _ h12).trans k2)
  · exact World.cell?_setCell_same _ _ _ ((World.cell?_setCell_other _ _ _ _ h23).trans ((World.cell?_setCell_other _ _ _ _ h13).trans k3))
theorem below3 {w w' : World} {a b c : Value} (h : Below w.heap.size w w') : Below w.heap.size w (((w'.setCell ⟨w.heap.size + 1, 0, none⟩ a).setCell ⟨w.heap.size + 2, 0, none⟩ b).setCell ⟨w.heap.size + 3, 0, none⟩ c) :=
  ((h.setCell (p := ⟨w.heap.size + 1, 0, none⟩) (by show _ ≤ w.heap.size + 1; omega) _).setCell (p := ⟨w.heap.size + 2, 0, none⟩) (by show _ ≤ w.heap.size + 2; omega) _).setCell (p := ⟨w.heap.size + 3, 0, none⟩) (by show _ ≤ w.heap.size + 3; omega) _
theorem setOther {W : World} {p q : Addr} {v u : Value} (h : W.cell? q = some u) (hne : p.block ≠ q.block) : (W.setCell p v).cell? q = some u :=
  (World.cell?_setCell_other W p q v (fun e => hne (by rw [e]))).trans h
set_option maxRecDepth 100000 in
set_option maxHeartbeats 4000000 in
theorem cells_in (P : Int) (l : List (Int × Bool)) (v : Value) (w : World) (hP : i64r P) (h : SCl w v l) (hz : l.length ≤ 1000000) :
    CallsIn Fence.wide 5 Tryz.prog 144 #[.agg #[.int .i64 P], v] w fun e w' => e = .returned (.tuple #[.int .i64 (ceP P l), .int .i64 (ceN P l), .int .i64 (ceE P l)]) ∧ Below w.heap.size w w' := by
  obtain ⟨A, c, rfl, hcc, hm, hr, ha⟩ := h
  have HA := Lib.hid ha
  clear hr ha
  refine callsIn_of_wp_marks Tryz.func144 rfl trivial ?_ rfl
  simp only [Tryz.ntmps144, List.size_toArray, List.length_cons, List.length_nil, Nat.reduceAdd, Nat.reduceSub, Array.replicate_succ, Array.replicate_zero, List.push_toArray, List.append_toArray, List.nil_append, List.cons_append]
  gi_wp2_with fail
  obtain ⟨w0, ew⟩ : ∃ w0 : World, w0 = (((w.alloc (.cells #[.int .i64 P] 31)).alloc (.cells #[.int .i64 0] 85)).alloc (.cells #[.int .i64 0] 3)).alloc (.cells #[.int .i64 0] 36) := ⟨_, rfl⟩
  have hB0 : Below w.heap.size w w0 := by rw [ew]; exact ((((Below.refl _ _).alloc (Nat.le_refl _) _).alloc (by simp) _).alloc (by simp; omega) _).alloc (by simp; omega) _
  have hz0 : w.heap.size + 3 < w0.heap.size := by rw [ew]; simp
  have b0 : w0.cell? ⟨w.heap.size, 0, none⟩ = some (.int .i64 P) := by rw [ew]; simp [go_sem]
  have b1 : w0.cell? ⟨w.heap.size + 1, 0, none⟩ = some (.int .i64 0) := by rw [ew]; simp [go_sem]
  have b2 : w0.cell? ⟨w.heap.size + 2, 0, none⟩ = some (.int .i64 0) := by rw [ew]; simp [go_sem]
  have b3 : w0.cell? ⟨w.heap.size + 3, 0, none⟩ = some (.int .i64 0) := by rw [ew]; simp [go_sem]
  have f1 : w0.frozen? ⟨w.heap.size + 1, 0, none⟩ = false := by rw [ew]; simp [go_sem]
  have f2 : w0.frozen? ⟨w.heap.size + 2, 0, none⟩ = false := by rw [ew]; simp [go_sem]
  have f3 : w0.frozen? ⟨w.heap.size + 3, 0, none⟩ = false := by rw [ew]; simp [go_sem]
  refine ⟨trivial, (callsIn_wide.2 (of_any P _ hP)).mono ?_⟩
  rintro e w1 ⟨rfl, hb1⟩
  rw [← ew] at hb1
  clear ew
  have c0 := (hb1.cell (p := ⟨w.heap.size, 0, none⟩) (by show w.heap.size < _; omega)).trans b0
  have c1 := (hb1.cell (p := ⟨w.heap.size + 1, 0, none⟩) (by show w.heap.size + 1 < _; omega)).trans b1
  have c2 := (hb1.cell (p := ⟨w.heap.size + 2, 0, none⟩) (by show w.heap.size + 2 < _; omega)).trans b2
  have c3 := (hb1.cell (p := ⟨w.heap.size + 3, 0, none⟩) (by show w.heap.size + 3 < _; omega)).trans b3
  have g1 := (hb1.frozen (p := ⟨w.heap.size + 1, 0, none⟩) (by show w.heap.size + 1 < _; omega)).trans f1
  have g2 := (hb1.frozen (p := ⟨w.heap.size + 2, 0, none⟩) (by show w.heap.size + 2 < _; omega)).trans f2
  have g3 := (hb1.frozen (p := ⟨w.heap.size + 3, 0, none⟩) (by show w.heap.size + 3 < _; omega)).trans f3
  have hz1 := hb1.size
  have hB1 := hB0.trans (hb1.mono hB0.size)
  clear b0 b1 b2 b3 f1 f2 f3
  rw [show w.heap.size + 1 + 1 + 1 = w.heap.size + 3 from rfl, show w.heap.size + 1 + 1 = w.heap.size + 2 from rfl]
  obtain ⟨op, eop⟩ : ∃ q, ofP P = q := ⟨_, rfl⟩
  rw [eop]
  have HOP := Lib.hid eop
  clear eop
  obtain ⟨pb, hpb⟩ : ∃ q, prB P = q := ⟨_, rfl⟩
  rw [hpb]
  have HPB := Lib.hid hpb
  clear hpb
  gi_upto_region 2 with fail
  obtain ⟨w2, ew⟩ : ∃ w2 : World, w2 = w1.alloc (.cells #[.int .i64 op] 85) := ⟨_, rfl⟩
  have hb2 : Below w1.heap.size w1 w2 := by rw [ew]; exact (Below.refl _ _).alloc (Nat.le_refl _) _
  have hz2 : w1.heap.size < w2.heap.size := by rw [ew]; simp
  have k0 := (hb2.cell (p := ⟨w.heap.size, 0, none⟩) (by show w.heap.size < _; omega)).trans c0
  have k1 := (hb2.cell (p := ⟨w.heap.size + 1, 0, none⟩) (by show w.heap.size + 1 < _; omega)).trans c1
  have k2 := (hb2.cell (p := ⟨w.heap.size + 2, 0, none⟩) (by show w.heap.size + 2 < _; omega)).trans c2
  have k3 := (hb2.cell (p := ⟨w.heap.size + 3, 0, none⟩) (by show w.heap.size + 3 < _; omega)).trans c3
  have k7 : w2.cell? ⟨w1.heap.size, 0, none⟩ = some (.int .i64 op) := by rw [ew]; exact cell_of_row _ _ 0 _ _ (0, 0) (heap_alloc_new w1 _)
  have m1 := (hb2.frozen (p := ⟨w.heap.size + 1, 0, none⟩) (by show w.heap.size + 1 < _; omega)).trans g1
  have m2 := (hb2.frozen (p := ⟨w.heap.size + 2, 0, none⟩) (by show w.heap.size + 2 < _; omega)).trans g2
  have m3 := (hb2.frozen (p := ⟨w.heap.size + 3, 0, none⟩) (by show w.heap.size + 3 < _; omega)).trans g3
  have hB2 := hB1.trans (hb2.mono hB1.size)
  rw [← ew]
  clear ew c0 c1 c2 c3 g1 g2 g3
  cases pb with
  | false =>
    have HE := Lib.hid (ce_p (l := l) HPB.out)
    gi_wp2_with fail
    obtain ⟨q1, q2, q3⟩ := set3 (a := .int .i64 0) (b := .int .i64 0) (c := .int .i64 9) k1 k2 k3
    exact ⟨.tuple #[.int .i64 0, .int .i64 0, .int .i64 9], by simp [results, Tryz.results144, go_sem, q1, q2, q3], by rw [HE.out.1, HE.out.2.1, HE.out.2.2], below3 hB2⟩
  | true =>
    have hPb := prB_bd HPB.out
    by_cases hbad : 32 < l.length ∨ P ≤ l.length
    · have HE := Lib.hid (ce_4 HPB.out hbad)
      by_cases hb32 : 32 < l.length
      · have hd1 : decide ((32 : Int) < (l.length : Int)) = true := decide_eq_true (by omega)
        have hd2 : decide (32 < l.length) = true := decide_eq_true hb32
        gi_wp2_with fail
        obtain ⟨q1, q2, q3⟩ := set3 (a := .int .i64 0) (b := .int .i64 0) (c := .int .i64 4) k1 k2 k3
        exact ⟨.tuple #[.int .i64 0, .int .i64 0, .int .i64 4], by simp [results, Tryz.results144, go_sem, q1, q2, q3], by rw [HE.out.1, HE.out.2.1, HE.out.2.2], below3 hB2⟩
      · have hd1 : decide ((32 : Int) < (l.length : Int)) = false := decide_eq_false (by omega)
        have hd2 : decide (32 < l.length) = false := decide_eq_false hb32
        have hd3 : decide (P ≤ (l.length : Int)) = true := decide_eq_true (by omega)
        gi_wp2_with fail
        obtain ⟨q1, q2, q3⟩ := set3 (a := .int .i64 0) (b := .int .i64 0) (c := .int .i64 4) k1 k2 k3
        exact ⟨.tuple #[.int .i64 0, .int .i64 0, .int .i64 4], by simp [results, Tryz.results144, go_sem, q1, q2, q3], by rw [HE.out.1, HE.out.2.1, HE.out.2.2], below3 hB2⟩
    · have hd1 : decide ((32 : Int) < (l.length : Int)) = false := decide_eq_false (by omega)
      have hd2 : decide (32 < l.length) = false := decide_eq_false (by omega)
      have hd3 : decide (P ≤ (l.length : Int)) = false := decide_eq_false (by omega)
      have hop : op = P := by rw [← HOP.out]; exact ofP_t HPB.out
      subst hop
      gi_upto_region 7 with fail
      obtain ⟨w3, ew⟩ : ∃ w3 : World, w3 = w2.alloc (.cells #[.int .i64 0] 3) := ⟨_, rfl⟩
      have hb3 : Below w2.heap.size w2 w3 := by rw [ew]; exact (Below.refl _ _).alloc (Nat.le_refl _) _
      have hz3 : w2.heap.size < w3.heap.size := by rw [ew]; simp
      have n1 := (hb3.cell (p := ⟨w.heap.size + 1, 0, none⟩) (by show w.heap.size + 1 < _; omega)).trans k1
      have n2 := (hb3.cell (p := ⟨w.heap.size + 2, 0, none⟩) (by show w.heap.size + 2 < _; omega)).trans k2
      have n3 := (hb3.cell (p := ⟨w.heap.size + 3, 0, none⟩) (by show w.heap.size + 3 < _; omega)).trans k3
      have n7 := (hb3.cell (p := ⟨w1.heap.size, 0, none⟩) hz2).trans k7
      have n9 : w3.cell? ⟨w2.heap.size, 0, none⟩ = some (.int .i64 0) := by rw [ew]; exact cell_of_row _ _ 0 _ _ (0, 0) (heap_alloc_new w2 _)
      have j1 := (hb3.frozen (p := ⟨w.heap.size + 1, 0, none⟩) (by show w.heap.size + 1 < _; omega)).trans m1
      have j2 := (hb3.frozen (p := ⟨w.heap.size + 2, 0, none⟩) (by show w.heap.size + 2 < _; omega)).trans m2
      have j3 := (hb3.frozen (p := ⟨w.heap.size + 3, 0, none⟩) (by show w.heap.size + 3 < _; omega)).trans m3
      have j9 : w3.frozen? ⟨w2.heap.size, 0, none⟩ = false := by rw [ew]; exact frozen_of_row _ _ 0 _ _ (heap_alloc_new w2 _)
      have hB3 := hB2.trans (hb3.mono hB2.size)
      rw [← ew]
      clear ew k0 k1 k2 k3 k7 m1 m2 m3
      gi_wp2_with fail
      refine ⟨trivial, (callsIn_wide.2 (known_any _ _ _ _)).mono ?_⟩
      rintro e w' ⟨rfl, rfl⟩
      gi_wp2_with fail
      obtain ⟨W0, eW⟩ : ∃ W0 : World, W0 = w3.alloc (.cells #[.slice A l.length c] 138) := ⟨_, rfl⟩
      have hbW : Below w3.heap.size w3 W0 := by rw [eW]; exact (Below.refl _ _).alloc (Nat.le_refl _) _
      have hzW : w3.heap.size < W0.heap.size := by rw [eW]; simp
      have cS : W0.cell? ⟨w3.heap.size, 0, none⟩ = some (.slice A l.length c) := by rw [eW]; exact cell_of_row _ _ 0 _ _ (0, 0) (heap_alloc_new w3 _)
      have hBW := hB3.trans (hbW.mono hB3.size)
      have y1 := (hbW.cell (p := ⟨w.heap.size + 1, 0, none⟩) (by show w.heap.size + 1 < _; omega)).trans n1
      have y2 := (hbW.cell (p := ⟨w.heap.size + 2, 0, none⟩) (by show w.heap.size + 2 < _; omega)).trans n2
      have y3 := (hbW.cell (p := ⟨w.heap.size + 3, 0, none⟩) (by show w.heap.size + 3 < _; omega)).trans n3
      have y7 := (hbW.cell (p := ⟨w1.heap.size, 0, none⟩) (by show w1.heap.size < _; omega)).trans n7
      have y9 := (hbW.cell (p := ⟨w2.heap.size, 0, none⟩) hz3).trans n9
      have x1 := (hbW.frozen (p := ⟨w.heap.size + 1, 0, none⟩) (by show w.heap.size + 1 < _; omega)).trans j1
      have x2 := (hbW.frozen (p := ⟨w.heap.size + 2, 0, none⟩) (by show w.heap.size + 2 < _; omega)).trans j2
      have x3 := (hbW.frozen (p := ⟨w.heap.size + 3, 0, none⟩) (by show w.heap.size + 3 < _; omega)).trans j3
      have x9 := (hbW.frozen (p := ⟨w2.heap.size, 0, none⟩) hz3).trans j9
      rw [← eW]
      clear eW n1 n2 n3 n7 n9 j1 j2 j3 j9
      refine wpIn_rangeFunc_ownG rfl (by omega) (gf := 153) (lb := #[.pointer (some ⟨w3.heap.size, 0, none⟩)]) rfl trivial (enters_of Tryz.func153 (by kernel_rfl) rfl)
        (kn_stops 4 (by omega) w3.heap.size (fun b => b < w.heap.size) l A c hz W0 (fun k hk => by omega) hzW cS
          (fun h0 => by
            obtain ⟨b, off, e, hb, hc⟩ := HA.out h0
            exact ⟨b, off, e, hb, fun j hj => ⟨(hBW.cell (p := ⟨b, off + j * 2, none⟩) hb).trans (hc j hj).1, (hBW.cell (p := ⟨b, off + j * 2 + 1, none⟩) hb).trans (hc j hj).2⟩⟩))
        KB_t (KB_b (fun k hk => by omega)) (Below.refl _ _) (fun _ => rfl)
        (fun pre W => (W.cell? ⟨w.heap.size + 1, 0, none⟩ = some (.int .i64 0) ∧ W.cell? ⟨w.heap.size + 2, 0, none⟩ = some (.int .i64 0) ∧ W.cell? ⟨w.heap.size + 3, 0, none⟩ = some (.int .i64 0) ∧ W.cell? ⟨w1.heap.size, 0, none⟩ = some (.int .i64 op) ∧ W.cell? ⟨w2.heap.size, 0, none⟩ = some (.int .i64 pre.length) ∧
            W.frozen? ⟨w.heap.size + 1, 0, none⟩ = false ∧ W.frozen? ⟨w.heap.size + 2, 0, none⟩ = false ∧ W.frozen? ⟨w.heap.size + 3, 0, none⟩ = false ∧ W.frozen? ⟨w2.heap.size, 0, none⟩ = false ∧ (∀ j ∈ pre, el op (kn l)[j].2 = true)) ∧ Below w.heap.size w W)
        (fun c pre W => (c = .ret ∧ W.cell? ⟨w.heap.size + 1, 0, none⟩ = some (.int .i64 0) ∧ W.cell? ⟨w.heap.size + 2, 0, none⟩ = some (.int .i64 0) ∧ W.cell? ⟨w.heap.size + 3, 0, none⟩ = some (.int .i64 9) ∧ ∃ j : Fin (kn l).length, el op (kn l)[j].2 = false) ∧ Below w.heap.size w W)
        (OwnFrom.and (Own.from (fun s A B row hs hg hr => ⟨cell_kept hs.1 hg hr, cell_kept hs.2.1 hg hr, cell_kept hs.2.2.1 hg hr, cell_kept hs.2.2.2.1 hg hr, cell_kept hs.2.2.2.2.1 hg hr, (frozen_kept hs.1 hg hr).trans hs.2.2.2.2.2.1, (frozen_kept hs.2.1 hg hr).trans hs.2.2.2.2.2.2.1, (frozen_kept hs.2.2.1 hg hr).trans hs.2.2.2.2.2.2.2.1, (frozen_kept hs.2.2.2.2.1 hg hr).trans hs.2.2.2.2.2.2.2.2.1, hs.2.2.2.2.2.2.2.2.2⟩) _) (ownFrom_below (Nat.le_refl _) (by omega)))
        (fun c => OwnFrom.and (Own.from (fun s A B row hs hg hr => ⟨hs.1, cell_kept hs.2.1 hg hr, cell_kept hs.2.2.1 hg hr, cell_kept hs.2.2.2.1 hg hr, hs.2.2.2.2⟩) _) (ownFrom_below (Nat.le_refl _) (by omega)))
        ⟨⟨y1, y2, y3, y7, y9, x1, x2, x3, x9, fun j hj => by cases hj⟩, hBW⟩
        (fun j => { tmps := #[.agg #[.int .i64 op], .slice A l.length c, .pointer (some ⟨w.heap.size, 0, none⟩), undef, .pointer (some ⟨w.heap.size + 1, 0, none⟩), .pointer (some ⟨w.heap.size + 2, 0, none⟩), .pointer (some ⟨w.heap.size + 3, 0, none⟩), .pointer (some ⟨w1.heap.size, 0, none⟩), .bool true, .pointer (some ⟨w2.heap.size, 0, none⟩), undef, .int .i64 (kn l)[j].2, .tuple #[.int .i64 op, .bool true], .agg #[.int .i64 op], .tuple #[.int .i64 op, .bool true], .int .i64 op, .bool true, .bool true, .bool false, .slice A l.length c, .int .i64 l.length, .bool false, .bool false, .slice A l.length c, .int .i64 l.length, .pointer (some ⟨w.heap.size, 0, none⟩), .int .i64 op, .bool false, .bool false, .slice A l.length c, .func (.func 153) #[] #[.pointer (some ⟨w3.heap.size, 0, none⟩)], .int .i64 (kn l)[j].1, .int .i64 (kn l)[j].2, undef, undef, undef, undef, undef, undef, undef, undef], defers := [] }) ?assign ?body ?done ?stop
      case assign =>
        intro lr x W K hK
        gi_wp2
        exact hK
      case body =>
        rintro lr pre j W ⟨⟨p1, p2, p3, p7, p9, r1, r2, r3, r9, hok⟩, hB⟩ hpl
        have HOK := Lib.hid hok
        have hpl2 : pre.length ≤ 1000000 := by
          have h1 : (kn l).length ≤ l.length := kn_len l 0
          omega
        clear hok hpl y1 y2 y3 y7 y9 x1 x2 x3 x9 cS
        simp only [Fin.getElem_fin]
        obtain ⟨y, ey⟩ : ∃ y, (kn l)[j.1].2 = y := ⟨_, rfl⟩
        rw [ey]
        have EY := Lib.hid ey
        clear ey
        gi_wp2_with fail
        refine ⟨trivial, (CallsIn.inRound lr (callsIn_wide.2 (has_any _ _ _))).mono ?_⟩
        rintro e w' ⟨rfl, rfl⟩
        cases he : el op y with
        | true =>
          have HE := Lib.hid he
          clear he
          gi_wp2_with fail
          have hne1 : w2.heap.size ≠ w.heap.size + 1 := by omega
          have hne2 : w2.heap.size ≠ w.heap.size + 2 := by omega
          have hne3 : w2.heap.size ≠ w.heap.size + 3 := by omega
          have hne7 : w2.heap.size ≠ w1.heap.size := by omega
          refine ⟨(KeepsOthers.setCell _ _ _).from _, ⟨by simp [World.setCell], fun p hp => World.cell?_setCell_other _ _ _ _ (fun e => by rw [← e] at hp; have h5 : w2.heap.size < w.heap.size := hp; omega)⟩, ⟨setOther p1 hne1, setOther p2 hne2, setOther p3 hne3, setOther p7 hne7, ?_, by rw [World.frozen?_setCell]; exact r1, by rw [World.frozen?_setCell]; exact r2, by rw [World.frozen?_setCell]; exact r3, by rw [World.frozen?_setCell]; exact r9, fun q hq => ?_⟩, hB.setCell (p := ⟨w2.heap.size, 0, none⟩) (by show w.heap.size ≤ w2.heap.size; omega) _⟩
          · rw [World.cell?_setCell_same _ _ _ p9, List.length_append]
            rfl
          · rcases List.mem_append.1 hq with hq | hq
            · exact HOK.out q hq
            · simp at hq
              subst hq
              show el op (kn l)[q.1].2 = true
              rw [EY.out]
              exact HE.out
        | false =>
          have HE := Lib.hid he
          clear he
          gi_wp2_with fail
          obtain ⟨q1, q2, q3⟩ := set3 (a := .int .i64 0) (b := .int .i64 0) (c := .int .i64 9) p1 p2 p3
          exact ⟨(((KeepsOthers.setCell _ _ _).trans (KeepsOthers.setCell _ _ _)).trans (KeepsOthers.setCell _ _ _)).from _, ⟨rfl, q1, q2, q3, j, by show el op (kn l)[j.1].2 = false; rw [EY.out]; exact HE.out⟩, below3 hB⟩
      case done =>
        rintro D ys W hD rfl ⟨⟨p1, p2, p3, p7, p9, r1, r2, r3, r9, hok⟩, hB⟩ hK
        have HE := Lib.hid (ce_0 HPB.out hbad hok)
        rw [upA_length (Nat.le_refl _)] at p9
        clear hok y1 y2 y3 y7 y9 x1 x2 x3 x9 cS
        have HK := Lib.hid hK
        have hfo : Tryz.prog.follows .mixedOrders = true := by kernel_rfl
        clear hK
        gi_wp2_with fail
        gi_region_with_o (fail)
        all_goals
          gi_wp2_with fail
          obtain ⟨q1, q2, q3⟩ := set3 (a := .int .i64 op) (b := .int .i64 (kn l).length) (c := .int .i64 0) p1 p2 p3
          have hk1 := (((KeepsOthers.setCell W ⟨w.heap.size + 1, 0, none⟩ (.int .i64 op)).trans (KeepsOthers.setCell _ ⟨w.heap.size + 2, 0, none⟩ (.int .i64 (kn l).length))).trans (KeepsOthers.setCell _ ⟨w.heap.size + 3, 0, none⟩ (.int .i64 0))).same D _ HK.out rfl
          have hB9 := below3 (a := .int .i64 op) (b := .int .i64 (kn l).length) (c := .int .i64 0) hB
          generalize ((W.setCell ⟨w.heap.size + 1, 0, none⟩ (.int .i64 op)).setCell ⟨w.heap.size + 2, 0, none⟩ (.int .i64 (kn l).length)).setCell ⟨w.heap.size + 3, 0, none⟩ (.int .i64 0) = WX at q1 q2 q3 hk1 hB9 ⊢
          have hk2 : WX.drew.heap[D]? = some (.deferred (some [])) := hk1
          refine ⟨by simp, .inl ⟨_, _, rfl, run_takeDeferred hk2, ?_⟩⟩
          have z1 := cell_kept (W := WX.drew) q1 (grownBy_putObj' WX.drew D (.deferred none)) (fun r e => by cases e; exact ⟨_, hk2, rfl⟩)
          have z2 := cell_kept (W := WX.drew) q2 (grownBy_putObj' WX.drew D (.deferred none)) (fun r e => by cases e; exact ⟨_, hk2, rfl⟩)
          have z3 := cell_kept (W := WX.drew) q3 (grownBy_putObj' WX.drew D (.deferred none)) (fun r e => by cases e; exact ⟨_, hk2, rfl⟩)
          exact ⟨.tuple #[.int .i64 op, .int .i64 (kn l).length, .int .i64 0], by simp [results, Tryz.results144, go_sem, z1, z2, z3], by rw [HE.out.1, HE.out.2.1, HE.out.2.2], hB9.drew.trans (belowK_b (w := w) (Nat.le_refl _) WX.drew D _ _ (by omega) hk2 rfl rfl)⟩
      case stop =>
        rintro D c pre W hD _ ⟨⟨rfl, p1, p2, p3, j, hj⟩, hB⟩ hK
        have HE := Lib.hid (ce_9 HPB.out hbad j hj)
        have HJ := Lib.hid hj
        clear hj
        gi_wp2
        refine ⟨by simp, .inl ⟨_, _, rfl, run_takeDeferred hK, ?_⟩⟩
        have q1 := cell_kept p1 (grownBy_putObj' W D (.deferred none)) (fun r e => by cases e; exact ⟨_, hK, rfl⟩)
        have q2 := cell_kept p2 (grownBy_putObj' W D (.deferred none)) (fun r e => by cases e; exact ⟨_, hK, rfl⟩)
        have q3 := cell_kept p3 (grownBy_putObj' W D (.deferred none)) (fun r e => by cases e; exact ⟨_, hK, rfl⟩)
        exact ⟨.tuple #[.int .i64 0, .int .i64 0, .int .i64 9], by simp [results, Tryz.results144, go_sem, q1, q2, q3], by rw [HE.out.1, HE.out.2.1, HE.out.2.2], hB.trans (belowK_b (w := w) (Nat.le_refl _) W D _ _ (by omega) hK rfl rfl)⟩
theorem cells_any (P : Int) (l : List (Int × Bool)) (v : Value) (w : World) (hP : i64r P) (h : SCl w v l) (hz : l.length ≤ 1000000) :
    Calls Tryz.prog 144 #[.agg #[.int .i64 P], v] w fun e w' => e = .returned (.tuple #[.int .i64 (ceP P l), .int .i64 (ceN P l), .int .i64 (ceE P l)]) ∧ Below w.heap.size w w' :=
  callsIn_wide.1 (cells_in P l v w hP h hz)
theorem knF_at (l : List (Int × Bool)) : ∀ i, ∀ t ∈ knF i l, (i : Int) + 1 ≤ t.1 ∧ t.1 ≤ (i : Int) + l.length := by
  induction l with
  | nil => intro i t h; simp [knF] at h
  | cons c l ih =>
    intro i t h
    simp only [knF, List.mem_append, List.length_cons] at h ⊢
    rcases h with h | h
    · split at h
      · simp at h; subst h; simp; omega
      · simp at h
    · have := ih (i + 1) t h
      omega
theorem kn_at {l : List (Int × Bool)} {t : Int × Int} (h : t ∈ kn l) : 1 ≤ t.1 ∧ t.1 ≤ l.length := by
  have := knF_at l 0 t h
  omega
end Go.Proofs.YtoiabanpnkpbhaaGreatDoor
