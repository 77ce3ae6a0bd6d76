/- Joined: Wp Ry. -/
import Derived.Test.YtbgabipngdillaaGreatDoorZ21
import Derived.Test.YtbgabipngdillaaGreatDoorZ13
import Derived.Test.YtbgabipngdillaaGreatDoorZ27
import Derived.Test.YtbgabipngdillaaGreatDoorZ28
import Derived.Test.YtbgabipngdillaaGreatDoorZ29
namespace Go.Proofs.YtbgabipngdillaaGreatDoor
open Go.RowKit

/-- a column all of whose known cells are right -/
theorem dec_right {P : Int} {n t c w : Nat} {p : List Int} {L : List (Bool × List Int)} (hp : prB P = true) (hn : L.length = n) (hn32 : n ≤ 32) (hnP : (n : Int) < P) (hk : t + 1 ≤ knL L) (hl : p.length ≤ t + 1) (he : els P p = true)
    (hv : ∀ j (h : j < L.length), L[j].1 = true → L[j].2.length = w ∧ els P L[j].2 = true) (hr : ∀ j (h : j < L.length), L[j].1 = true → gd L[j].2 c = val P p ((j : Int) + 1)) :
    UnR P (colC L c) ((t : Int) + 1) (trim p) 0 := by
  have hP := prB_bd hp
  have e : ((t : Int) + 1).toNat = t + 1 := by omega
  have hval : ∀ x, val P (trim p) x = val P p x := fun x => by rw [val_ez, val_ez, ez_trim]
  have hw : wrk P (kn (colC L c)) (trim p) = [] := by
    have h1 : (wrg P (colC L c) (trim p)) = [] := by
      refine List.eq_nil_iff_forall_not_mem.2 fun x hx => ?_
      obtain ⟨j, hj, h2, rfl, h3⟩ := wrg_mem.1 hx
      exact h3 (by rw [hval, hr j hj h2])
    unfold wrg at h1
    exact List.map_eq_nil_iff.1 h1
  refine .inr ⟨fi_good hp (by rw [colC_length]; omega) (by rw [colC_length]; omega) (fun j hj h1 => ?_) (by omega) (by rw [knC_len]; omega), .inl ⟨rfl, ⟨?_, trim_els he, trim_trim _, ?_⟩⟩⟩
  · have hj' : j < L.length := by rw [colC_length] at hj; exact hj
    rw [colC_get _ _ _ hj'] at h1 ⊢
    simp only at h1 ⊢
    rw [if_pos h1]
    exact el_t (els_gd hP.1 (hv j hj' h1).2 c)
  · rw [e]; exact Nat.le_trans (trim_len _) hl
  · rw [hw]; simp
theorem onTo_unit {l : List Int} {i : Nat} (h : ∀ k, gd l k = if k = i then 1 else 0) : ∀ k, onTo l k = some (if i < k then (i, true) else (0, false))
  | 0 => rfl
  | k + 1 => by
    unfold onTo
    rw [onTo_unit h k, h k]
    by_cases e : k = i
    · subst e
      simp [on1]
    · by_cases e2 : i < k
      · have e3 : i < k + 1 := by omega
        simp [on1, e, e2, e3]
      · have e3 : ¬ i < k + 1 := by omega
        simp [on1, e, e2, e3]
theorem wanted_right {P : Int} {n t i m : Nat} {D : List Int} {at_ : Nat} {ok : Bool} {er : Int} (hp : prB P = true) (hn2 : 2 ≤ n) (hn10 : n ≤ 10) (hnP : (n : Int) < P) (ht1 : 1 ≤ t) (htn : t < n) (hi : i < m) (hm : m ≤ 1024) (hD : els P D = true)
    (hw : WaR P n t (qRows P i D t n m) at_ ok er) : at_ = i ∧ ok = true ∧ er = 0 := by
  have hP := prB_bd hp
  have hvB : vaB n t = true := decide_eq_true ⟨by omega, by omega, by omega, by omega⟩
  have hcu : cuE P n t = 0 := by unfold cuE; rw [if_neg (by rw [hp]; simp), if_neg (by rw [hvB]; simp; omega)]
  have hql : (qRows P i D t n m).length = n := qRows_len ..
  have hg : ∀ j (h : j < (qRows P i D t n m).length), (qRows P i D t n m)[j] = qRow P i D t j m := fun j h => by simp [qRows]
  have hg0 : (gr (qRows P i D t n m) 0).length = m := by
    unfold gr
    rw [List.getElem?_eq_getElem (by rw [hql]; omega), hg]
    exact qRow_len ..
  have hwf : wfB n (qRows P i D t n m) = true := wfB_yes (by rw [hql]) fun q h => by
    rw [hg, hg0, qRow_len]; exact ⟨rfl, hm⟩
  have hqe : ∀ k, els P (qRow P i D t k m) = true := fun k => els_of fun x hx => by
    unfold qRow at hx
    obtain ⟨a, _, rfl⟩ := List.mem_map.1 hx
    exact el_mk (qPt_r hP.1 D t a k)
  have hel : (qRows P i D t n m).all (els P) = true := all_yes fun j h => by rw [hg]; exact hqe j
  have hkn : knL (ans (qRows P i D t n m)) = n := by
    unfold knL ans
    rw [List.filter_map, List.length_map]
    have : (qRows P i D t n m).filter ((fun a : Bool × List Int => a.1) ∘ fun r => (true, r)) = qRows P i D t n m := List.filter_eq_self.2 fun _ _ => rfl
    rw [this, hql]
  have hun : ∀ c, c < m → UnR P (colC (ans (qRows P i D t n m)) c) ((t : Int) + 1) (trim (qCo i D t c)) 0 := fun c hc => by
    refine dec_right (n := n) (w := m) hp (by rw [ans_len, hql]) (by omega) hnP (by rw [hkn]; omega) (by unfold qCo; simp; omega) (els_of fun x hx => ?_) (fun j h _ => ?_) (fun j h _ => ?_)
    · unfold qCo at hx
      rcases List.mem_cons.1 hx with h | h
      · rw [h]; split
        · exact el_mk (by omega)
        · exact el_mk (by omega)
      · exact els_all hD x (List.mem_of_mem_drop (List.mem_of_mem_take h))
    · have h' : j < (qRows P i D t n m).length := by rw [ans_len] at h; exact h
      have e : (ans (qRows P i D t n m))[j] = (true, (qRows P i D t n m)[j]) := by simp [ans]
      rw [e, hg j h']; exact ⟨qRow_len .., hqe j⟩
    · have h' : j < (qRows P i D t n m).length := by rw [ans_len] at h; exact h
      have e : (ans (qRows P i D t n m))[j] = (true, (qRows P i D t n m)[j]) := by simp [ans]
      rw [e, hg j h']; exact qRow_gd _ _ _ _ _ _ _ hc
  rcases hw with ⟨h, _⟩ | ⟨_, h⟩
  · exact absurd hcu h
  rcases h with ⟨h, _⟩ | ⟨_, h⟩
  · rw [hwf] at h; cases h
  rcases h with ⟨h, _⟩ | ⟨_, her, h⟩
  · rw [hel] at h; cases h
  rw [hg0] at h
  rcases h with ⟨⟨c, hc, o, e, h1, h2⟩, _⟩ | ⟨ps, ws, hal, hov⟩
  · exact absurd (UnR.uniq h1 (hun c hc)).2 h2
  · obtain ⟨hl, hps, _⟩ := hal
    have hone : oneV (ps.map fun p => gd p 0) = (i, true) := by
      unfold oneV
      rw [onTo_unit (i := i) (fun k => ?_), List.length_map, hl, if_pos hi]
      · rfl
      · by_cases hk : k < ps.length
        · have e : gd (ps.map fun p => gd p 0) k = gd ps[k] 0 := by
            unfold gd; rw [List.getElem?_map, List.getElem?_eq_getElem hk]; rfl
          rw [e, (UnR.uniq (hps k hk) (hun k (by omega))).1, trim_gd]
          unfold qCo gd
          by_cases e : k = i
          · subst e; simp
          · rw [if_neg e, if_neg (by omega)]; simp
        · rw [gd_ge (by rw [List.length_map]; omega), if_neg (by omega)]
    rw [hone] at hov
    injection hov with h1 h2
    exact ⟨h1, h2, her⟩
end Go.Proofs.YtbgabipngdillaaGreatDoor

namespace Go.Proofs.YtbgabipngdillaaGreatDoor
open Go.RowKit

set_option maxRecDepth 100000 in
set_option maxHeartbeats 8000000 in
theorem reads_any (l : List Int) (a : Nat) (v : Value) (w : World) (ha : a < 256) (h : SI w v l) (hE : EW w) :
    Calls Tryz.prog 6 #[v, .int .u8 a] w fun e w' => e = .returned (.bool true) ∧ Below w.heap.size w w' := by
  have HS := Lib.hid h
  have HE := Lib.hid hE
  obtain ⟨A, c, rfl⟩ := h.form
  clear h hE
  go_enter Tryz.func6, Tryz.ntmps6
  go_wp2_with fail
  (with_reducible refine (sane_any _ HE.out).mono ?_)
  rintro e w1 ⟨rfl, hb1⟩
  have HB1 := Lib.hid hb1
  have HS1 := Lib.hid (HS.out.below hb1)
  clear hb1
  go_wp2_with fail
  (with_reducible refine (few_any l _ w1 HS1.out).mono ?_)
  rintro e wz ⟨rfl, hwz⟩
  subst hwz
  by_cases h5 : l.length ≤ 500
  · have d5 : decide (l.length ≤ 500) = true := decide_eq_true h5
    rw [d5]
    clear d5 h5
    go_wp2_with fail
    (with_reducible refine (new_any l _ w1 HS1.out).mono ?_)
    rintro e w2 ⟨rfl, hd2, hb2, hz2⟩
    obtain ⟨g, eg⟩ : ∃ g, g = w1.heap.size := ⟨_, rfl⟩
    rw [← eg] at hd2 ⊢
    have HD2 := Lib.hid hd2
    have HB2 : Hid (Below w.heap.size w w2) := HB1.out.trans (hb2.mono HB1.out.size)
    have HGW : Hid (w.heap.size ≤ g) := (show Hid _ from by rw [eg]; exact HB1.out.size)
    have HG2 : Hid (g < w2.heap.size) := hd2.lt
    clear hd2 hb2 hz2 eg
    go_wp2_with fail
    (with_reducible refine (plan_any g w2 HD2.out).mono ?_)
    rintro e w3 ⟨P, n0, t0, rfl, hd3, hg3, hpr, hnP, hn2, hn7, ht1, htn⟩
    obtain ⟨n, rfl⟩ : ∃ n : Nat, n0 = n := ⟨n0.toNat, by omega⟩
    obtain ⟨t, rfl⟩ : ∃ t : Nat, t0 = t := ⟨t0.toNat, by omega⟩
    have HPR := Lib.hid hpr
    have hPb := prB_bd hpr
    obtain ⟨F, eF⟩ : ∃ F, F = w3.heap.size := ⟨_, rfl⟩
    obtain ⟨w4, ew4⟩ : ∃ w4 : World, w4 = (w3.alloc (.cells #[.int .i64 P] 31)).alloc (.cells #[.int .i64 n, .int .i64 t] 29) := ⟨_, rfl⟩
    have HW4 : Hid ((w3.alloc (.cells #[.int .i64 P] 31)).alloc (.cells #[.int .i64 n, .int .i64 t] 29) = w4) := ew4.symm
    have HF4 : Hid (w4.heap[F]? = some (.cells #[.int .i64 P] 31 (0, 0))) := (show Hid _ from by show _ = _; rw [ew4, eF, Below.heap_alloc _ _ _ (by simp)]; exact heap_alloc_new w3 _)
    have HP4 : Hid (w4.heap[F + 1]? = some (.cells #[.int .i64 n, .int .i64 t] 29 (0, 0))) := (show Hid _ from by show _ = _; rw [ew4, eF]; have := heap_alloc_new (w3.alloc (.cells #[.int .i64 P] 31)) (.cells #[.int .i64 n, .int .i64 t] 29); simpa using this)
    have HB34 : Hid (Below w3.heap.size w3 w4) := (show Hid _ from by rw [ew4]; exact ((Below.refl _ w3).alloc (Nat.le_refl _) _).alloc (by simp) _)
    have HD4 := Lib.hid (hd3.below HB34.out)
    have HGF : Hid (g < F) := (show Hid _ from by rw [eF]; have := hg3.size; have := HG2.out; show g < _; omega)
    have HG24 : Hid (w2.grownBy w4 (some g)) := grownBy_trans hg3 (grownBy_of_below HB34.out _)
    have HFF := Lib.hid eF
    have HG4 : Hid (g < w4.heap.size) := HD4.out.lt
    have HXC : Hid (∀ W, w4.grownBy W (some g) → W.cell? ⟨F, 0, none⟩ = some (.int .i64 P) ∧ W.cell? ⟨F + 1, 0, none⟩ = some (.int .i64 n) ∧ W.cell? ⟨F + 1, 1, none⟩ = some (.int .i64 t)) := (show Hid _ from fun W hg => by
      have h1 := (hg.block F (heap_of_cells HF4.out) (by have := HGF.out; simp; omega)).trans HF4.out
      have h2 := (hg.block (F + 1) (heap_of_cells HP4.out) (by have := HGF.out; simp; omega)).trans HP4.out
      exact ⟨cell_of_row W F 0 _ _ _ h1, cell_of_row W (F + 1) 0 _ _ _ h2, cell_of_row W (F + 1) 1 _ _ _ h2⟩)
    have HBF : Hid (∀ W, w4.grownBy W (some g) → Below w.heap.size w W) := (show Hid _ from fun W hg => HB2.out.grown (grownBy_trans HG24.out hg) HB2.out.size (fun k hk => by injection hk with e; subst e; exact HGW.out))
    clear hd3 hg3 hpr
    go_upto_region 7 with fail
    rw [HW4.out, ← eF]
    clear ew4 eF
    go_wp2_with fail
    (with_reducible refine (next_any 5 g w4 HD4.out (by unfold i64r; omega) (by omega)).mono ?_)
    rintro e w5 ⟨x, rfl, _, hx, hd5, hg5⟩
    obtain ⟨hx1, hx2⟩ := hx (by omega)
    obtain ⟨m, em⟩ : ∃ m : Nat, (m : Int) = 1 + x := ⟨(1 + x).toNat, by omega⟩
    have hm1 : 1 ≤ m := by omega
    have hm4 : m ≤ 5 := by omega
    have wm : IntKind.i64.wrap (1 + x) = (m : Int) := by rw [em]; exact IntWalk.i64_in _ (by omega)
    have HD5 := Lib.hid hd5
    have HG45 : Hid (w4.grownBy w5 (some g)) := hg5
    clear hx hx1 hx2 em hd5 hg5
    go_wp2_with fail
    (with_reducible refine (next_any 4 g w5 HD5.out (by unfold i64r; omega) (by omega)).mono ?_)
    rintro e w6 ⟨y, rfl, _, hy, hd6, hg6⟩
    obtain ⟨hy1, hy2⟩ := hy (by omega)
    obtain ⟨wd, ewd⟩ : ∃ wd : Nat, (wd : Int) = 1 + y := ⟨(1 + y).toNat, by omega⟩
    have hwd1 : 1 ≤ wd := by omega
    have hwd3 : wd ≤ 4 := by omega
    have wwd : IntKind.i64.wrap (1 + y) = (wd : Int) := by rw [ewd]; exact IntWalk.i64_in _ (by omega)
    have HD6 := Lib.hid hd6
    have HG46 : Hid (w4.grownBy w6 (some g)) := (show Hid _ from grownBy_trans HG45.out hg6)
    clear hy hy1 hy2 ewd hd6 hg6
    obtain ⟨f0, p0, p1⟩ := HXC.out w6 HG46.out
    go_wp2_with fail
    (with_reducible refine (rows_any g m wd P w6 HD6.out (by omega) (by omega) (by omega)).mono ?_)
    rintro e w7 ⟨vr, rows, rfl, hrl, hrw, hsle, hd7, hg7⟩
    obtain ⟨Ar, cr, evr⟩ := hsle.form
    subst evr
    have HRW := Lib.hid hrw
    have HRS7 := Lib.hid hsle
    have HRL := Lib.hid hrl
    have HD7 := Lib.hid hd7
    have HG47 : Hid (w4.grownBy w7 (some g)) := (show Hid _ from grownBy_trans HG46.out hg7)
    clear f0 p0 p1 wm wwd hrw hsle hd7 hg7
    rw [hrl] at HRS7 ⊢
    clear hrl
    obtain ⟨ea1, ea2⟩ := u8_tmod a m (by omega)
    rw [Int.toNat_natCast] at ea1 ea2
    obtain ⟨i, ei⟩ : ∃ i, i = a % m := ⟨_, rfl⟩
    rw [← ei] at ea1 ea2
    have him : i < m := by omega
    have hm0 : ¬ m = 0 := by omega
    have hm0' : ¬ (m : Int) = 0 := by omega
    have wi : IntKind.i64.wrap ((i : Nat) : Int) = (i : Int) := by exact IntWalk.i64_in _ (by omega)
    have wa_ : IntKind.i64.wrap ((a : Nat) : Int) = (a : Int) := by exact IntWalk.i64_in _ (by omega)
    clear ei
    obtain ⟨f0, p0, p1⟩ := HXC.out w7 HG47.out
    have hPi : i64r P := by unfold i64r; omega
    go_wp2_with fail
    (with_reducible refine (limits_any P n t m w7 hPi).mono ?_)
    rintro e w8 ⟨vl, rfl, hb8, hok8, _⟩
    clear ea1 wi wa_ f0 p0 p1
    obtain ⟨K, eK⟩ : ∃ K, K = m * t := ⟨_, rfl⟩
    have hcc : ccE P n t m = 0 := by
      have hv : vaB n t = true := decide_eq_true ⟨by omega, by omega, by omega, by omega⟩
      have hc : cuE P n t = 0 := by unfold cuE; rw [if_neg (by rw [HPR.out]; simp), if_neg (by rw [hv]; simp; omega)]
      unfold ccE; rw [if_neg (by omega), hc]
    rw [hcc]
    have hol := hok8 hcc
    have hmt : ((m : Int) * (t : Int)).toNat = K := by rw [eK, ← Int.natCast_mul]; rfl
    rw [hmt] at hol
    have HKM : Hid ((K : Int) = (m : Int) * (t : Int)) := (show Hid _ from by show _ = _; rw [eK, Int.natCast_mul])
    have HKb : Hid (K ≤ 35) := (show Hid _ from by show _ ≤ _; rw [eK]; exact Nat.le_trans (Nat.mul_le_mul hm4 (by omega : t ≤ 7)) (by omega))
    have HG7g : Hid (g < w7.heap.size) := (show Hid _ from HD7.out.lt)
    have HSE8 : Hid (SE g w8 vl (List.replicate K P)) := (show Hid _ from SE.of_own hol (fun x hx => by rw [(List.mem_replicate.1 hx).2]; exact hPi) HG7g.out)
    have HG48 : Hid (w4.grownBy w8 (some g)) := (show Hid _ from grownBy_trans HG47.out (grownBy_of_below hb8 _))
    have HD8 := Lib.hid (HD7.out.below hb8)
    have HRS8 := Lib.hid (HRS7.out.below hb8)
    clear hb8 hok8 hol eK hcc hmt
    obtain ⟨Al, cl, evl⟩ := HSE8.out.form
    subst evl
    rw [List.length_replicate] at HSE8 ⊢
    have HX8 : Hid (∀ W, w8.grownBy W (some g) → W.cell? ⟨F, 0, none⟩ = some (.int .i64 P) ∧ W.cell? ⟨F + 1, 0, none⟩ = some (.int .i64 n) ∧ W.cell? ⟨F + 1, 1, none⟩ = some (.int .i64 t)) := (show Hid _ from fun W hg => HXC.out W (grownBy_trans HG48.out hg))
    have HSD : Hid (∀ W, w8.grownBy W (some g) → Dk W g → Calls Tryz.prog 19 #[.pointer (some ⟨g, 0, none⟩), .slice Al K cl] W fun e w' => ∃ A1 c1 ns, e = .returned (.agg #[.slice A1 K c1, .int .i64 0]) ∧ ns.length = K ∧ els P ns = true ∧ SE g w' (.slice A1 K c1) ns ∧ Dk w' g ∧ W.grownBy w' (some g)) := (show Hid _ from fun W hg hd =>
      (seed_any g (List.replicate K P) _ W hd (HSE8.out.grown hg) (by have := HKb.out; simp; omega) (limits_ok hPb)).mono fun e w' ⟨v1, ns, h1, h2, h3, h4, h5, h6⟩ => by
        have hnK : ns.length = K := by rw [h5]; simp
        obtain ⟨A1, c1, ev1⟩ := h6.form
        rw [hnK] at ev1
        subst ev1
        exact ⟨A1, c1, ns, h1, hnK, inL_els h4 hnK, h6, h2, h3⟩)
    have HQS : Hid (∀ W A1 c1 ns, ns.length = K → els P ns = true → SI W (.slice A1 K c1) ns → Calls Tryz.prog 17 #[.agg #[.int .i64 P], .agg #[.int .i64 n, .int .i64 t], .int .i64 m, .int .i64 i, .agg #[.slice A1 K c1, .int .i64 0]] W fun e w' => ∃ Aq cq A2 c2, e = .returned (.tuple #[.slice Aq n cq, .agg #[.slice A2 K c2, .int .i64 K], .int .i64 0]) ∧ Below W.heap.size W w' ∧ QRv W.heap.size w' (.slice Aq n cq) (qRows P i ns t n m)) := (show Hid _ from fun W A1 c1 ns hl he hs =>
      (queriesF_any P n t m i ns 0 _ W hPi (by unfold i64r; omega) hs).mono fun e w' ⟨vq, v1, a1, h1, h2, h3, _⟩ => by
        obtain ⟨_, hq0⟩ := quE_zero (P := P) (n := n) (t := t) (m := m) (i := i) (ns := ns) HPR.out (by omega) (by omega) (by omega) (by omega) (by omega) (by omega) (by omega) ea2 (by rw [hl]; exact HKM.out) he
        rw [hq0] at h1 h3
        obtain ⟨e1, h5, h6⟩ := h3 rfl
        have htk : (ns.drop 0).take ((m : Int) * (t : Int)).toNat = ns := by rw [List.drop_zero, ← HKM.out, Int.toNat_natCast, ← hl, List.take_length]
        rw [htk] at h6
        simp only [Int.toNat_natCast] at h6
        obtain ⟨A2, c2, ev1⟩ := h5.form'
        rw [hl] at ev1
        subst ev1
        obtain ⟨G, vs, hB, evq, hq, hr, hm⟩ := h6
        rw [qRows_len] at evq
        subst evq
        have ea : a1 = (K : Int) := by rw [e1, HKM.out]; simp
        subst ea
        exact ⟨_, _, A2, c2, h1, h2, G, vs, hB, by rw [qRows_len], hq, hr, hm⟩)
    go_upto_region 11 with fail
    apply regG g F (F + 1) n t m i K P (.slice Al K cl) w8 HX8.out HD8.out HSD.out HQS.out
    rintro u14 u15 u61 u62 u63 u64 u65 u66 u67 u68 u69 u70 u71 u72 ns w9 ⟨hns, hne, hsq, hd9, hg9, T, vt, rfl, hT⟩
    have HSQ9 := Lib.hid hsq
    have HNS := Lib.hid hns
    have HNE := Lib.hid hne
    obtain ⟨Aq, cq, evq⟩ := hsq.form
    rw [qRows_len] at evq
    subst evq
    have HD9 := Lib.hid hd9
    have HG49 : Hid (w4.grownBy w9 (some g)) := (show Hid _ from grownBy_trans HG48.out hg9)
    have HRS9 := Lib.hid (HRS8.out.grown hg9)
    have HG9g : Hid (g < w9.heap.size) := (show Hid _ from hd9.lt)
    have t1 : w9.cell? ⟨T, 1, none⟩ = some (.int .i64 (K : Int)) := cell_of_row w9 T 1 _ _ _ hT
    clear hns hne hsq hd9 hg9 hT HX8 HSD HQS
    obtain ⟨f0, p0, p1⟩ := HXC.out w9 HG49.out
    obtain ⟨sp, esp⟩ : ∃ sp : Nat, (sp : Int) = (n : Int) - (t : Int) - 1 := ⟨n - t - 1, by omega⟩
    have ws1 : IntKind.i64.wrap ((n : Int) - (t : Int)) = (n : Int) - (t : Int) := by exact IntWalk.i64_in _ (by omega)
    have ws2 : IntKind.i64.wrap ((n : Int) - (t : Int) - 1) = (sp : Int) := by rw [esp]; exact IntWalk.i64_in _ (by omega)
    have hsp : sp ≤ 5 := by omega
    obtain ⟨h2, eh2⟩ : ∃ h2 : Nat, h2 = sp / 2 := ⟨_, rfl⟩
    have wq1 : (sp : Int).tdiv 2 = (h2 : Int) := by rw [Int.tdiv_eq_ediv_of_nonneg (by omega)]; omega
    have wq2 : IntKind.i64.wrap (h2 : Int) = (h2 : Int) := by exact IntWalk.i64_in _ (by omega)
    have wq3 : IntKind.i64.wrap ((h2 : Int) + 1) = (h2 : Int) + 1 := by exact IntWalk.i64_in _ (by omega)
    have hh2 : h2 ≤ 2 := by omega
    have HESP := Lib.hid esp
    have HEH := Lib.hid eh2
    clear esp eh2
    go_wp2_with fail
    (with_reducible refine (next_any ((h2 : Int) + 1) g w9 HD9.out (by unfold i64r; omega) (by omega)).mono ?_)
    rintro e w10 ⟨x10, rfl, _, hx, hd10, hg10⟩
    obtain ⟨hx1, hx2⟩ := hx (by omega)
    obtain ⟨wrong, rfl⟩ : ∃ k : Nat, x10 = k := ⟨x10.toNat, by omega⟩
    have HWR : Hid (wrong * 2 ≤ sp) := (show Hid _ from by have := HEH.out; show wrong * 2 ≤ sp; omega)
    have hwr3 : wrong ≤ 3 := by have := HWR.out; omega
    have HD10 := Lib.hid hd10
    have HG410 : Hid (w4.grownBy w10 (some g)) := (show Hid _ from grownBy_trans HG49.out hg10)
    have HRS10 := Lib.hid (HRS9.out.grown hg10)
    have HSQ10 := Lib.hid (HSQ9.out.grown hg10)
    have ws3 : IntKind.i64.wrap (2 * (wrong : Int)) = 2 * (wrong : Int) := by exact IntWalk.i64_in _ (by omega)
    have ws4 : IntKind.i64.wrap ((sp : Int) - 2 * (wrong : Int)) = (sp : Int) - 2 * (wrong : Int) := by exact IntWalk.i64_in _ (by omega)
    have ws5 : IntKind.i64.wrap ((sp : Int) - 2 * (wrong : Int) + 1) = (sp : Int) - 2 * (wrong : Int) + 1 := by exact IntWalk.i64_in _ (by omega)
    clear hx hx1 hx2 hd10 hg10 f0 p0 p1 t1 ws1 ws2 wq1 wq2 wq3
    go_wp2_with fail
    (with_reducible refine (next_any ((sp : Int) - 2 * (wrong : Int) + 1) g w10 HD10.out (by unfold i64r; omega) (by omega)).mono ?_)
    rintro e w11 ⟨x11, rfl, _, hx, hd11, hg11⟩
    obtain ⟨hx1, hx2⟩ := hx (by have := HWR.out; omega)
    obtain ⟨silent, rfl⟩ : ∃ k : Nat, x11 = k := ⟨x11.toNat, by omega⟩
    have HSI : Hid (silent + wrong * 2 ≤ sp) := (show Hid _ from by have := HWR.out; show silent + wrong * 2 ≤ sp; omega)
    have HD11 := Lib.hid hd11
    have HG411 : Hid (w4.grownBy w11 (some g)) := (show Hid _ from grownBy_trans HG410.out hg11)
    have HRS11 := Lib.hid (HRS10.out.grown hg11)
    have HSQ11 := Lib.hid (HSQ10.out.grown hg11)
    clear hx hx1 hx2 hd11 hg11 ws3 ws4 ws5
    have HXF : Hid (∀ W, w11.grownBy W (some g) → W.cell? ⟨F, 0, none⟩ = some (.int .i64 P)) := (show Hid _ from fun W hg => (HXC.out W (grownBy_trans HG411.out hg)).1)
    obtain ⟨all, eall⟩ : ∃ all, all = (List.range n).map fun (j : Nat) => cmb P (qRow P i ns t j m) rows wd := ⟨_, rfl⟩
    have HALL := Lib.hid eall
    have hall : all.length = n := by rw [eall]; simp
    have HGA : Hid (∀ j, j < n → gr all j = cmb P (qRow P i ns t j m) rows wd) := (show Hid _ from fun j hj => by rw [HALL.out]; unfold gr; rw [List.getElem?_map, List.getElem?_range hj]; rfl)
    have HAN : Hid (∀ W, w11.grownBy W (some g) → Calls Tryz.prog 28 #[.agg #[.int .i64 P], .int .i64 wd, .slice Ar m cr, .slice Aq n cq] W fun e w' => ∃ Aa ca, e = .returned (.slice Aa n ca) ∧ Below W.heap.size W w' ∧ SLE g w' (.slice Aa n ca) all) := (show Hid _ from fun W hg => by
      have hgW : g < W.heap.size := by have := HD11.out.lt; have := hg.size; omega
      refine (answers_any P wd rows (qRows P i ns t n m) g _ _ W hPi hgW (HRS11.out.grown hg).sl (HSQ11.out.grown hg).sl (by rw [qRows_len]; omega)).mono fun e w' ⟨v, h1, h2, h3⟩ => ?_
      rw [ans_rows HPR.out (by omega) HRL.out HRW.out, ← HALL.out] at h3
      obtain ⟨Aa, ca, e1⟩ := h3.form
      subst e1
      have hl : all.length = n := by rw [HALL.out]; simp
      rw [hl] at h1 h3
      exact ⟨Aa, ca, h1, h2, h3⟩)
    have HMA : Hid (∀ W v, w11.grownBy W (some g) → Dk W g → SLE g W v all → Calls Tryz.prog 27 #[.pointer (some ⟨g, 0, none⟩), .agg #[.int .i64 P], v, .int .i64 wrong, .int .i64 silent] W fun e w' => ∃ A1 n1 c1 A2 n2 c2 L bad, e = .returned (.tuple #[.slice A1 n1 c1, .slice A2 n2 c2]) ∧ SAE g w' (.slice A1 n1 c1) L ∧ SE g w' (.slice A2 n2 c2) bad ∧ Dk w' g ∧ W.grownBy w' (some g) ∧ AnR P all wrong silent L bad) := (show Hid _ from fun W v _ hd hs =>
      (mkanswers_any g wrong silent P all v W hd hPb hs (fun r hr => by
        rw [HALL.out] at hr
        obtain ⟨j, _, rfl⟩ := List.mem_map.1 hr
        have hl : (cmb P (qRow P i ns t j m) rows wd).length = wd := cmbT_len ..
        exact ⟨cmbT_els hPb.1 .., by omega⟩) (by rw [HALL.out]; simp; omega) (by rw [HALL.out]; simp; omega) ⟨by omega, by have := HSI.out; omega⟩).mono fun e w' ⟨v1, v2, L, bad, h1, h2, h3, h4, h5, h6⟩ => by
        obtain ⟨A1, c1, e1⟩ := h2.form
        obtain ⟨A2, c2, e2⟩ := h3.form
        subst e1 e2
        exact ⟨A1, _, c1, A2, _, c2, L, bad, h1, h2, h3, h4, h5, h6⟩)
    clear eall hall
    go_upto_region 17 with fail
    apply regT g F n wd wrong silent P (.slice Ar m cr) (.slice Aq n cq) all (AnR P all wrong silent) w11 HXF.out HD11.out HAN.out HMA.out
    rintro u20 u21 u111 u112 u113 u114 u115 u116 u117 u118 u119 u120 u121 u122 u123 L bad w12 ⟨hsa, hse, hd12, hg12, hR⟩
    have HSA := Lib.hid hsa
    have HSE := Lib.hid hse
    have HR := Lib.hid hR
    obtain ⟨A5, c5, e5⟩ := hsa.form
    subst e5
    obtain ⟨A6, c6, e6⟩ := hse.form
    subst e6
    have HG412 : Hid (w4.grownBy w12 (some g)) := (show Hid _ from grownBy_trans HG411.out hg12)
    have HRS12 := Lib.hid (HRS11.out.grown hg12)
    have HSQ12 := Lib.hid (HSQ11.out.grown hg12)
    obtain ⟨br, or_, cr', Hr, evr, hbr, hviewr⟩ := HRS12.out.view (by rw [HRL.out]; omega)
    rw [HRL.out] at evr
    injection evr with evA evn evc
    subst evA evc
    have HVR : Hid (∀ W, w12.grownBy W (some g) → W.cell? ⟨br, or_ + i, none⟩ = some (Hr i) ∧ SE g W (Hr i) (gr rows i)) := (show Hid _ from fun W hg => by
      have hir : i < rows.length := by rw [HRL.out]; exact him
      obtain ⟨h1, h2, _⟩ := hviewr W hg i hir
      have e : gr rows i = rows[i] := by unfold gr; rw [List.getElem?_eq_getElem hir]; rfl
      rw [e]; exact ⟨h1, h2⟩)
    clear hviewr evn hbr
    have hLn : L.length = n := by have := hR.1; rw [HALL.out] at this; simpa using this
    have HDEC : Hid (∀ row wrl er, DeR P n t wd L row wrl er → er = 0 ∧ row = gr rows i ∧ wrl = bad) := (show Hid _ from fun row wrl er h => by
      obtain ⟨h1, h2, h3, h4, h5, h6⟩ := HR.out
      have hal : all.length = n := by rw [HALL.out]; simp
      have hs := HSI.out
      have he := HESP.out
      rw [hal] at h1 h6
      refine dec_all (D := ns) HPR.out (by omega) (by omega) (by omega) (by omega) (by omega) (by rw [HRL.out]; exact him) HRW.out (by omega) h1 (by omega) (fun j hj hk => ?_) h3 (fun x => ?_) (by omega) h
      · obtain ⟨h7, h8⟩ := h2 j hj hk
        rw [HGA.out j (by omega)] at h7
        exact ⟨by rw [h7]; exact cmbT_len .., h8⟩
      · rw [h4 x]
        constructor
        · rintro ⟨j, hj, h7, h8, h9⟩
          refine ⟨j, hj, h7, h8, ?_⟩
          rw [HGA.out j (by omega)] at h9
          rw [HRL.out]; exact h9
        · rintro ⟨j, hj, h7, h8, h9⟩
          refine ⟨j, hj, h7, h8, ?_⟩
          rw [HGA.out j (by omega)]
          rw [HRL.out] at h9; exact h9)
    have HLN := Lib.hid hLn
    clear hsa hse hd12 hg12 hR HXF HAN HMA hLn
    obtain ⟨f0, p0, p1⟩ := HXC.out w12 HG412.out
    have HE12 : Hid (EW w12) := HE.out.below (HBF.out w12 HG412.out)
    go_wp2_with fail
    (with_reducible refine (cdecode_any P n t wd L _ w12 hPi HSA.out.san (by have := HLN.out; omega) HE12.out).mono ?_)
    rintro e w13 ⟨row, wrl, er, v1, v2, rfl, hb13, hder, hrow, hwrl⟩
    obtain ⟨her, hre, hwe⟩ := HDEC.out row wrl er hder
    subst her
    obtain ⟨A7, c7, e7⟩ := hrow.form'
    subst e7
    obtain ⟨A8, c8, e8⟩ := hwrl.form'
    subst e8
    obtain ⟨l7, el7⟩ : ∃ l7, l7 = row.length := ⟨_, rfl⟩
    obtain ⟨l8, el8⟩ : ∃ l8, l8 = wrl.length := ⟨_, rfl⟩
    rw [← el7] at hrow ⊢
    rw [← el8] at hwrl ⊢
    have HROW := Lib.hid hrow
    have HWRL := Lib.hid hwrl
    have HRE := Lib.hid hre
    have HWE := Lib.hid hwe
    have HB13 : Hid (Below w12.heap.size w12 w13) := hb13
    obtain ⟨X, eX⟩ : ∃ X, X = w13.heap.size := ⟨_, rfl⟩
    obtain ⟨w14, ew14⟩ : ∃ w14 : World, w14 = w13.alloc (.cells #[.slice A7 l7 c7, .slice A8 l8 c8] 68) := ⟨_, rfl⟩
    have HW14 : Hid (w13.alloc (.cells #[.slice A7 l7 c7, .slice A8 l8 c8] 68) = w14) := ew14.symm
    have HX14 : Hid (w14.heap[X]? = some (.cells #[.slice A7 l7 c7, .slice A8 l8 c8] 68 (0, 0))) := (show Hid _ from by show _ = _; rw [ew14, eX]; exact heap_alloc_new w13 _)
    have HB1314 : Hid (Below w13.heap.size w13 w14) := (show Hid _ from by rw [ew14]; exact (Below.refl _ w13).alloc (Nat.le_refl _) _)
    have HB14 : Hid (Below w12.heap.size w12 w14) := (show Hid _ from HB13.out.trans (HB1314.out.mono HB13.out.size))
    have HG414 : Hid (w4.grownBy w14 (some g)) := (show Hid _ from grownBy_trans HG412.out (grownBy_of_below HB14.out _))
    have HSQ14 := Lib.hid (HSQ12.out.below HB14.out)
    have HEX := Lib.hid eX
    clear hb13 hder hrow hwrl hre hwe el7 el8 f0 p0 p1 HDEC
    go_upto_region 19 with fail
    rw [HW14.out, ← eX]
    clear ew14 eX
    obtain ⟨f0, p0, p1⟩ := HXC.out w14 HG414.out
    have HE14 : Hid (EW w14) := HE.out.below (HBF.out w14 HG414.out)
    go_wp2_with fail
    (with_reducible refine (wanted_any P n t (qRows P i ns t n m) _ w14 hPi HSQ14.out.sl HE14.out).mono ?_)
    rintro e w15 ⟨at_, ok, er, rfl, hb15, hwa⟩
    obtain ⟨h1, h2, h3⟩ := wanted_right HPR.out (by omega) (by omega) (by omega) (by omega) (by omega) him (by omega) HNE.out hwa
    subst h1 h2 h3
    have HB15 : Hid (Below w14.heap.size w14 w15) := hb15
    have HG1215 : Hid (∀ W, Below w15.heap.size w15 W → w12.grownBy W (some g)) := (show Hid _ from fun W hb => grownBy_of_below (HB14.out.trans ((HB15.out.trans (hb.mono HB15.out.size)).mono HB14.out.size)) _)
    have HXW : Hid (∀ W, Below w15.heap.size w15 W → W.cell? ⟨X, 0, none⟩ = some (.slice A7 l7 c7) ∧ W.cell? ⟨X, 1, none⟩ = some (.slice A8 l8 c8) ∧ W.cell? ⟨br, or_ + at_, none⟩ = some (Hr at_) ∧ W.cell? ⟨F + 1, 0, none⟩ = some (.int .i64 n) ∧ W.cell? ⟨F + 1, 1, none⟩ = some (.int .i64 t)) := (show Hid _ from fun W hb => by
      have hbW : Below w14.heap.size w14 W := HB15.out.trans (hb.mono HB15.out.size)
      have h1 := (hbW.block X (heap_of_cells HX14.out)).trans HX14.out
      obtain ⟨_, p0, p1⟩ := HXC.out W (grownBy_trans HG412.out (HG1215.out W hb))
      exact ⟨cell_of_row W X 0 _ _ _ h1, cell_of_row W X 1 _ _ _ h1, (HVR.out W (HG1215.out W hb)).1, p0, p1⟩)
    have HBE : Hid (∀ W, Below w15.heap.size w15 W → Calls Tryz.prog 39 #[.agg #[.int .i64 n, .int .i64 t], .int .i64 silent, .int .i64 wrong] W fun e w' => e = .returned (.bool true) ∧ Below W.heap.size W w') := (show Hid _ from fun W _ => (bears_any n t silent wrong W).mono fun e w' ⟨h1, h2⟩ => by
      have hs := HSI.out
      have he := HESP.out
      have hv : vaB n t = true := decide_eq_true ⟨by omega, by omega, by omega, by omega⟩
      have hb : beB n t silent wrong = true := by
        unfold beB
        rw [hv, decide_eq_true (show (0 : Int) ≤ (silent : Int) by omega), decide_eq_true (show (silent : Int) ≤ (n : Int) by omega), decide_eq_true (show (0 : Int) ≤ (wrong : Int) by omega), decide_eq_true (show (wrong : Int) ≤ (n : Int) by omega), decide_eq_true (show (t : Int) + 1 + (silent : Int) + 2 * (wrong : Int) ≤ (n : Int) by omega)]
        rfl
      exact ⟨by rw [h1, hb], h2⟩)
    have HSM1 : Hid (∀ W, Below w15.heap.size w15 W → Calls Tryz.prog 32 #[.slice A7 l7 c7, Hr at_] W fun e w' => e = .returned (.bool true) ∧ Below W.heap.size W w') := (show Hid _ from fun W hb => by
      have h1 : SI W (.slice A7 l7 c7) row := HROW.out.below ((HB1314.out.trans (HB15.out.mono HB1314.out.size)).trans (hb.mono (HB1314.out.trans (HB15.out.mono HB1314.out.size)).size))
      refine (same4_any row (gr rows at_) _ _ W h1 (HVR.out W (HG1215.out W hb)).2.si).mono fun e w' ⟨h3, h4⟩ => ⟨by rw [h3, HRE.out]; simp, h4⟩)
    have HSM2 : Hid (∀ W, Below w15.heap.size w15 W → Calls Tryz.prog 32 #[.slice A8 l8 c8, .slice A6 bad.length c6] W fun e w' => e = .returned (.bool true) ∧ Below W.heap.size W w') := (show Hid _ from fun W hb => by
      have h1 : SI W (.slice A8 l8 c8) wrl := HWRL.out.below ((HB1314.out.trans (HB15.out.mono HB1314.out.size)).trans (hb.mono (HB1314.out.trans (HB15.out.mono HB1314.out.size)).size))
      have h2 : SI W (.slice A6 bad.length c6) bad := (HSE.out.grown (HG1215.out W hb)).si
      refine (same4_any wrl bad _ _ W h1 h2).mono fun e w' ⟨h3, h4⟩ => ⟨by rw [h3, HWE.out]; simp, h4⟩)
    have HBw15 : Hid (Below w.heap.size w w15) := (show Hid _ from HBF.out w15 (grownBy_trans HG412.out (HG1215.out w15 (Below.refl _ _))))
    clear hb15 hwa f0 p0 p1
    go_upto_region 20 with fail
    apply regU X (F + 1) br or_ m cr at_ n t wrong silent (.slice A7 l7 c7) (Hr at_) (.slice A8 l8 c8) (.slice A6 bad.length c6) w15 him HXW.out HBE.out HSM1.out HSM2.out
    rintro u140 u141 u142 u143 u144 u145 u146 u147 u148 u149 u150 u151 u152 u153 u154 u155 u156 u157 u158 u159 u160 u161 u162 u163 u164 u165 u166 u167 u168 u169 u170 u171 u172 u173 w16 hb16
    have HBf : Hid (Below w.heap.size w w16) := (show Hid _ from HBw15.out.trans (hb16.mono HBw15.out.size))
    clear hb16
    go_wp2_with fail
    go_ret
    exact ⟨rfl, HBf.out⟩
  · have d5 : decide (l.length ≤ 500) = false := decide_eq_false h5
    rw [d5]
    clear d5 h5
    go_wp2_with fail
    go_ret
    exact ⟨rfl, HB1.out⟩
end Go.Proofs.YtbgabipngdillaaGreatDoor
