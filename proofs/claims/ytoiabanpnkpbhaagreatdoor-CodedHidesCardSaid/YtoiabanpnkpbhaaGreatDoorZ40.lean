/- Joined: Uc Ud. -/
import Derived.Test.YtoiabanpnkpbhaaGreatDoorZ39
import Derived.Test.YtoiabanpnkpbhaaGreatDoorZ29
import Derived.Test.YtoiabanpnkpbhaaGreatDoorZ22
import Derived.Test.YtoiabanpnkpbhaaGreatDoorZ21
import Derived.Test.YtoiabanpnkpbhaaGreatDoorZ23
import Derived.Test.YtoiabanpnkpbhaaGreatDoorZ24
namespace Go.Proofs.YtoiabanpnkpbhaaGreatDoor
open Go.RowKit

def gAns (P : Int) (rows : List (List Int)) (wd G N : Nat) (qs : List (List Int)) (k : Nat) : List (List Int) := (List.range k).map fun (j : Nat) => cmb P (gr qs j) (hRows P rows ((j : Int) + 1) wd G N) wd
theorem gAns_succ (P : Int) (rows : List (List Int)) (wd G N : Nat) (qs : List (List Int)) (k : Nat) : gAns P rows wd G N qs (k + 1) = gAns P rows wd G N qs k ++ [cmb P (gr qs k) (hRows P rows ((k : Int) + 1) wd G N) wd] := by
  unfold gAns; rw [List.range_succ, List.map_append]; rfl
theorem gAns_len (P : Int) (rows : List (List Int)) (wd G N : Nat) (qs : List (List Int)) (k : Nat) : (gAns P rows wd G N qs k).length = k := by simp [gAns]
def Uc1 (P : Int) (rows : List (List Int)) (wd G N n : Nat) (qs : List (List Int)) (g : Nat) (w1 : World) (v iv : Value) (wr : World) : Prop :=
  ∃ (k : Nat) (pv : Value) (vs : List Value), pv = v ∧ k ≤ n ∧ iv = .int .i64 k ∧ RW w1.heap.size g wr pv vs (gAns P rows wd G N qs k) ∧ Below w1.heap.size w1 wr
set_option maxRecDepth 100000 in
set_option maxHeartbeats 4000000 in
theorem ganswers_ok (P t : Int) (n G wd g : Nat) (rows qs : List (List Int)) (vr vq : Value) (w : World) (hV : SV P n t G) (hwd : wd ≤ 64) (hrl : rows.length ≤ 1024) (hrw : ∀ r ∈ rows, r.length = wd ∧ els P r = true) (hql : qs.length = n) (hqe : ∀ q ∈ qs, q.length = ngr rows.length G ∧ els P q = true) (hr : SL w vr rows) (hq : SL w vq qs) (hg : g < w.heap.size) :
    Calls Tryz.prog 36 #[.agg #[.int .i64 P], .agg #[.int .i64 n, .int .i64 t, .int .i64 G], .int .i64 wd, vr, vq] w fun e w' => ∃ A c, e = .returned (.slice A n c) ∧ Below w.heap.size w w' ∧ SLE g w' (.slice A n c) (gAns P rows wd G (ngr rows.length G) qs n) := by
  obtain ⟨N, eN⟩ : ∃ N, N = ngr rows.length G := ⟨_, rfl⟩
  rw [← eN] at hqe ⊢
  have hPb := hV.pb
  have hn10 := hV.n10
  have hPi : i64r P := by unfold i64r; omega
  have HPR : Hid (prB P = true) := (show Hid _ from hV.pr)
  have HCO : Hid (∀ k (h : k < qs.length), coE P qs[k] (hRows P rows ((k : Int) + 1) wd G N) wd = 0) := (show Hid _ from fun k h => coE_zero HPR.out hwd (by rw [hRows_len]; exact (hqe _ (List.getElem_mem _)).1) (fun r hr => hRows_mem hPb.1 r hr) (hqe _ (List.getElem_mem _)).2)
  have HRH : Hid (∀ W (j : Nat), 1 ≤ (j : Int) ∧ (j : Int) ≤ n → SL W vr rows → g < W.heap.size → Calls Tryz.prog 39 #[.agg #[.int .i64 P], .agg #[.int .i64 n, .int .i64 t, .int .i64 G], .int .i64 wd, vr, .int .i64 j] W fun e w' => ∃ A c, e = .returned (.tuple #[.slice A N c, .int .i64 0]) ∧ Below W.heap.size W w' ∧ SLE g w' (.slice A N c) (hRows P rows j wd G N)) := (show Hid _ from fun W j hj hs hgW => by
    have h := rhold_ok P n t G wd j g rows vr W hV hj hwd hrl hrw hs hgW
    rw [← eN] at h; exact h)
  obtain ⟨Aq, cq, rfl, hat⟩ := hq.at
  rw [hql]
  have HAT := Lib.hid hat
  have HQL := Lib.hid hql
  have HR := Lib.hid hr
  have HG := Lib.hid hg
  clear hqe hV hat hql hr hg hq hrw hrl eN
  go_enter Tryz.func36, Tryz.ntmps36
  obtain ⟨F, eF⟩ : ∃ F, F = w.heap.size := ⟨_, rfl⟩
  obtain ⟨w1, ew1⟩ : ∃ w1 : World, w1 = (w.alloc (.cells #[.int .i64 P] 31)).alloc (.cells #[.int .i64 n, .int .i64 t, .int .i64 G] 29) := ⟨_, rfl⟩
  have HWw1 : Hid ((w.alloc (.cells #[.int .i64 P] 31)).alloc (.cells #[.int .i64 n, .int .i64 t, .int .i64 G] 29) = w1) := ew1.symm
  have HAw1 : Hid (Below w.heap.size w w1) := (show Hid _ from by rw [ew1]; exact ((Below.refl _ w).alloc (Nat.le_refl _) _).alloc (by simp) _)
  have HF0w1 : Hid (w1.heap[F]? = some (.cells #[.int .i64 P] 31 (0, 0))) := (show Hid _ from by show _ = _; rw [ew1, eF, Below.heap_alloc _ _ _ (by simp)]; exact heap_alloc_new w _)
  have HF1w1 : Hid (w1.heap[F + 1]? = some (.cells #[.int .i64 n, .int .i64 t, .int .i64 G] 29 (0, 0))) := (show Hid _ from by show _ = _; rw [ew1, eF]; have := heap_alloc_new (w.alloc (.cells #[.int .i64 P] 31)) (.cells #[.int .i64 n, .int .i64 t, .int .i64 G] 29); simpa using this)
  have HXC : Hid (∀ W, Below w1.heap.size w1 W → W.cell? ⟨F, 0, none⟩ = some (.int .i64 P) ∧ W.cell? ⟨F + 1, 0, none⟩ = some (.int .i64 n) ∧ W.cell? ⟨F + 1, 1, none⟩ = some (.int .i64 t) ∧ W.cell? ⟨F + 1, 2, none⟩ = some (.int .i64 G)) := (show Hid _ from fun W hg => by
    have hF0 := (hg.block F (heap_of_cells HF0w1.out)).trans HF0w1.out
    have hF1 := (hg.block (F + 1) (heap_of_cells HF1w1.out)).trans HF1w1.out
    exact ⟨cell_of_row W F 0 _ _ _ hF0, cell_of_row W (F + 1) 0 _ _ _ hF1, cell_of_row W (F + 1) 1 _ _ _ hF1, cell_of_row W (F + 1) 2 _ _ _ hF1⟩)
  have HG1 : Hid (g < w1.heap.size) := (show Hid _ from by have := HAw1.out.size; have := HG.out; show g < _; omega)
  go_upto_region 2 with fail
  rw [HWw1.out, ← eF]
  clear ew1 eF
  go_wp2_with fail
  go_loopw [11, 20] (fun v iv wr => Uc1 P rows wd G N n qs g w1 v iv wr) (fun _ iv _ => n - (intOf iv).toNat)
  case atStart => exact ⟨0, _, [], rfl, Nat.zero_le _, rfl, RW.nil _ _ _, Below.refl _ _⟩
  case round =>
    obtain ⟨k, pv, vs, rfl, hk, rfl, hrw, hb⟩ := hrel
    have HRW := Lib.hid hrw
    have HB := Lib.hid hb
    have HBw : Hid (Below w.heap.size w wr) := HAw1.out.trans (hb.mono HAw1.out.size)
    have hzr := hb.size
    clear hrw hb
    by_cases hlk : k < n
    · have dk : decide (k < n) = true := decide_eq_true hlk
      obtain ⟨f0, s0, s1, s2⟩ := HXC.out wr HB.out
      have hkq : k < qs.length := by rw [HQL.out]; exact hlk
      obtain ⟨bh, oh, B, d, eA, hW⟩ := HAT.out k hkq
      subst eA
      have HWW := Lib.hid hW
      obtain ⟨ck, _⟩ := hW wr HBw.out
      obtain ⟨ql, eql⟩ : ∃ ql, ql = qs[k].length := ⟨_, rfl⟩
      rw [← eql] at ck HWW
      obtain ⟨j1, ej1⟩ : ∃ j1 : Nat, (j1 : Int) = (k : Int) + 1 := ⟨k + 1, by omega⟩
      have wj : IntKind.i64.wrap ((k : Int) + 1) = (j1 : Int) := by rw [← ej1]; exact IntWalk.i64_in _ (by omega)
      have hj1 : 1 ≤ (j1 : Int) ∧ (j1 : Int) ≤ n := by omega
      have z1 : (0 : Int) ≤ (k : Int) := by omega
      have z2 : (k : Int) < (n : Int) := by omega
      have HEJ := Lib.hid ej1
      have HGr : Hid (g < wr.heap.size) := (show Hid _ from by have := HG1.out; show g < _; omega)
      clear hW eql ej1
      go_wp2_with fail
      (with_reducible refine (HRH.out wr j1 hj1 (HR.out.below HBw.out) HGr.out).mono ?_)
      rintro e w2 ⟨Ah, ch, rfl, hb2, hs2⟩
      have HB2 : Hid (Below wr.heap.size wr w2) := hb2
      have HS2 := Lib.hid hs2
      have HBw2 : Hid (Below w.heap.size w w2) := (show Hid _ from HBw.out.trans (hb2.mono HBw.out.size))
      clear f0 s0 s1 s2 ck hb2 hs2 wj
      obtain ⟨f0, s0, s1, s2⟩ := HXC.out w2 (HB.out.trans (HB2.out.mono HB.out.size))
      go_wp2_with fail
      (with_reducible refine (answer16_any P qs[k] (hRows P rows j1 wd G N) wd _ _ w2 hPi (HWW.out w2 HBw2.out).2 HS2.out.sl).mono ?_)
      rintro e w3 ⟨vx, rfl, hb3, _, hok⟩
      have hco := HCO.out k hkq
      rw [← HEJ.out] at hco
      rw [hco]
      have hor := hok hco
      rw [Int.toNat_natCast] at hor
      have HB3 : Hid (Below wr.heap.size wr w3) := (show Hid _ from HB2.out.trans (hb3.mono HB2.out.size))
      have hxl : (cmb P qs[k] (hRows P rows j1 wd G N) wd).length = wd := cmbT_len ..
      rw [hxl] at hor
      have HOR : Hid (w3.ownsRow w2.heap.size 3 1 vx wd ((cmb P qs[k] (hRows P rows j1 wd G N) wd).map (Value.int .i64))) := (show Hid _ from hor)
      have HXR : Hid (∀ x ∈ cmb P qs[k] (hRows P rows j1 wd G N) wd, i64r x) := (show Hid _ from fun x hx => cmb_r hPb _ _ _ x hx)
      have HXL := Lib.hid hxl
      have HNXT : Hid (gAns P rows wd G N qs (k + 1) = gAns P rows wd G N qs k ++ [cmb P qs[k] (hRows P rows j1 wd G N) wd]) := (show Hid _ from by
        show _ = _
        rw [gAns_succ, ← HEJ.out]
        have e : gr qs k = qs[k] := by unfold gr; rw [List.getElem?_eq_getElem hkq]; rfl
        rw [e])
      obtain ⟨X, eX⟩ : ∃ X, X = cmb P qs[k] (hRows P rows j1 wd G N) wd := ⟨_, rfl⟩
      rw [← eX] at HOR HXR HXL HNXT
      obtain ⟨A1, c1, rfl⟩ := own_sl' HOR.out
      have hz2 : w1.heap.size ≤ w3.heap.size := Nat.le_trans hzr HB3.out.size
      have HRW2 : Hid (RW w1.heap.size g w3 pv vs (gAns P rows wd G N qs k)) := (show Hid _ from HRW.out.below HG1.out HB3.out)
      have HSX : Hid (SX (w3.alloc (.cells #[.slice A1 wd c1] 22)) pv.ownBlock (some g) (.slice A1 wd c1) X) := (show Hid _ from SX.of_own (base := w2.heap.size) (by rw [HXL.out]; exact HOR.out.alloc _) HXR.out (fun q hq => Nat.lt_of_lt_of_le (HRW.out.hdr.lt q hq).2 HB2.out.size) (fun q hq => by injection hq with e; have := HGr.out; have := HB2.out.size; omega))
      have hvn : vs.length ≤ 1000 := by have := HRW.out.len; rw [this, gAns_len]; omega
      clear hb3 hok hor hco hxl eX f0 s0 s1 s2
      go_wp2_with (at_builtin; refine wpList_append_one_at _ rfl _ _ 33 rfl w1.heap.size 22 (.slice none 0 0) 24 Tryz.underlying33 ilinfo pv vs.length vs rfl (HRW2.out.hdr.alloc _) (.slice A1 wd c1) rfl w3.heap.size rfl (cells_new w3 [.slice A1 wd c1] 22 0 _ rfl) (by omega) (by omega) rfl (by simp; omega) ?_; intro g9 cap9 w9 hown9 hg9 hat9; have HO9 := Lib.hid hown9; have HG9 := Lib.hid hg9; have HA9 := Lib.hid hat9; clear hown9 hg9 hat9)
      have HRW9 : Hid (RW w1.heap.size g w9 (.slice (some ⟨g9, 0, none⟩) (vs.length + 1) cap9) (vs ++ [.slice A1 wd c1]) (gAns P rows wd G N qs (k + 1))) := (show Hid _ from by
        rw [HNXT.out]
        exact (HRW2.out.below HG1.out ((Below.refl _ w3).alloc (Nat.le_refl _) _)).app HSX.out HO9.out HG9.out (fun q hq => by
          have e : g9 = q := by simpa [Value.ownBlock] using hq
          subst e; exact HA9.out))
      have HB9 : Hid (Below w1.heap.size w1 w9) := (show Hid _ from ((HB.out.trans (HB3.out.mono hzr)).alloc hz2 _).grown HG9.out (by simp; omega) (fun q hq => (HRW2.out.hdr.lt q hq).1))
      go_roundw
      case rel => exact ⟨k + 1, _, _, rfl, by omega, by go_num, HRW9.out, HB9.out⟩
      case measure => simp [intOf]; omega
    · have dk : decide (k < n) = false := decide_eq_false hlk
      have HRF : Hid (SLE g wr pv (gAns P rows wd G N qs n)) := (show Hid _ from by
        have h := HRW.out.sle HG1.out
        rw [show k = n by omega] at h; exact h)
      obtain ⟨Ao, co, eo⟩ := HRF.out.form
      subst eo
      rw [gAns_len] at HRF ⊢
      go_wp2_with fail
      go_ret
      exact ⟨Ao, co, rfl, HBw.out, HRF.out⟩
end Go.Proofs.YtoiabanpnkpbhaaGreatDoor

namespace Go.Proofs.YtoiabanpnkpbhaaGreatDoor
open Go.RowKit

theorem SE.swap {g z : Nat} {w w' : World} {v : Value} {l : List Int} (h : SE g w v l) (h2 : SE z w' v l) : SE g w' v l := by
  obtain ⟨A, c, rfl, hc, hm, hr, ha⟩ := h
  obtain ⟨A2, c2, e, _, _, _, ha2⟩ := h2
  injection e with e1 _ _
  subst e1
  refine ⟨A, c, rfl, hc, hm, hr, fun h0 => ?_⟩
  obtain ⟨b, off, e, _, hbg, _⟩ := ha h0
  obtain ⟨b2, off2, e2, hb2, _, hcell⟩ := ha2 h0
  rw [e] at e2
  injection e2 with e3
  injection e3 with e4 e5 _
  subst e4 e5
  exact ⟨b, off, e, hb2, hbg, hcell⟩
theorem SLE.swap {g z : Nat} {w w' : World} {v : Value} {rows : List (List Int)} (h : SLE g w v rows) (h2 : SLE z w' v rows) (hc : ∀ b off, z ≠ b → b < w.heap.size → w'.cell? ⟨b, off, none⟩ = w.cell? ⟨b, off, none⟩) : SLE g w' v rows := by
  obtain ⟨A, c, rfl, hcl, hm, ha⟩ := h
  obtain ⟨A2, c2, e, _, _, ha2⟩ := h2
  injection e with e1 _ _
  subst e1
  refine ⟨A, c, rfl, hcl, hm, fun h0 => ?_⟩
  obtain ⟨b, off, e, hb, hbg, hcell⟩ := ha h0
  obtain ⟨b2, off2, e2, hb2, hbz, hcell2⟩ := ha2 h0
  rw [e] at e2
  injection e2 with e3
  injection e3 with e4 e5 _
  subst e4 e5
  refine ⟨b, off, e, hb2, hbg, fun j hj => ?_⟩
  obtain ⟨B, d, h3, h4⟩ := hcell j hj
  obtain ⟨B2, d2, h5, h6⟩ := hcell2 j hj
  rw [hc b _ (fun e => hbz e.symm) hb, h3] at h5
  injection h5 with h7
  injection h7 with h8 _ h9
  subst h8 h9
  exact ⟨B, d, by rw [hc b _ (fun e => hbz e.symm) hb]; exact h3, h4.swap h6⟩
theorem SLE.set2 {g z : Nat} {w : World} {v : Value} {rows : List (List Int)} (h : SLE g w v rows) (h2 : SLE z w v rows) (u1 u2 : Value) : SLE g ((w.setCell ⟨z, 0, none⟩ u1).setCell ⟨z, 1, none⟩ u2) v rows := by
  have hg : w.grownBy ((w.setCell ⟨z, 0, none⟩ u1).setCell ⟨z, 1, none⟩ u2) (some z) := grownBy_setCell (g := z) (p := ⟨z, 1, none⟩) (grownBy_setCell (g := z) (p := ⟨z, 0, none⟩) (grownBy_refl _ _) (.inl rfl) _) (.inl rfl) _
  exact h.swap (h2.grown hg) fun b off hz hb => World.cell?_of_block (hg.block b hb (by simp; omega))
noncomputable def regWaC : Code := ((Tryz.f8.body.bind (regionOf 14)).getD .skip)
set_option maxRecDepth 1000000 in
set_option maxHeartbeats 4000000 in
theorem regWa (g F p n t G m i K : Nat) (P : Int) (vl : Value) (w : World) (hX : ∀ W, w.grownBy W (some g) → W.cell? ⟨F, 0, none⟩ = some (.int .i64 P) ∧ W.cell? ⟨p, 0, none⟩ = some (.int .i64 n) ∧ W.cell? ⟨p, 1, none⟩ = some (.int .i64 t) ∧ W.cell? ⟨p, 2, none⟩ = some (.int .i64 G)) (hD : Dk w g) (hS : ∀ W, w.grownBy W (some g) → Dk W g → Calls Tryz.prog 27 #[.pointer (some ⟨g, 0, none⟩), vl] W fun e w' => ∃ A1 c1 ns, e = .returned (.agg #[.slice A1 K c1, .int .i64 0]) ∧ ns.length = K ∧ els P ns = true ∧ SE g w' (.slice A1 K c1) ns ∧ Dk w' g ∧ W.grownBy w' (some g)) (hQ : ∀ W A1 c1 ns, ns.length = K → els P ns = true → SI W (.slice A1 K c1) ns → Calls Tryz.prog 22 #[.agg #[.int .i64 P], .agg #[.int .i64 n, .int .i64 t, .int .i64 G], .int .i64 m, .int .i64 i, .agg #[.slice A1 K c1, .int .i64 0]] W fun e w' => ∃ Aq cq A2 c2, e = .returned (.tuple #[.slice Aq n cq, .agg #[.slice A2 K c2, .int .i64 K], .int .i64 0]) ∧ Below W.heap.size W w' ∧ (∀ z, z < W.heap.size → SLE z w' (.slice Aq n cq) (gRows P i ns t G n m)))
    (s0 s1 s2 s3 s4 s8 s9 s10 s12 s14 s16 s17 s18 s19 s20 s21 s22 s23 s24 s25 s26 s27 s28 s29 s30 s31 s32 s33 s34 s35 s36 s37 s38 s39 s40 s41 s42 s43 s44 s45 s46 s47 s48 s49 s50 s51 s52 s53 s54 s55 s56 s57 s58 s59 s60 s61 s62 s63 s64 s65 s66 s67 s68 s69 s70 s71 s72 s73 s74 s75 s76 s77 s78 s79 s80 s81 s82 s83 s84 s85 s86 s87 s88 s89 s90 s91 s92 s93 s94 s95 s96 s97 s98 s99 s100 s101 s102 s103 s104 s105 s106 s107 s108 s109 s110 s111 s112 s113 s114 s115 s116 s117 s118 s119 s120 s121 s122 s123 s124 s125 s126 s127 s128 s129 s130 s131 s132 s133 s134 s135 s136 s137 s138 s139 s140 s141 s142 s143 s144 s145 s146 s147 s148 s149 s150 s151 s152 s153 s154 s155 s156 s157 s158 s159 s160 s161 s162 s163 s164 s165 s166 s167 s168 s169 s170 s171 s172 s173 s174 s175 s176 s177 s178 s179 s180 s181 s182 s183 s184 s185 s186 s187 s188 s189 s190 s191 s192 s193 s194 s195 s196 : Value) (Q : Exit → Act → World → Prop)
    (hK : ∀ (u16 u17 u79 u80 u81 u82 u83 u84 u85 u86 u87 u88 u89 u90 : Value) (ns : List Int) (w' : World), ns.length = K ∧ els P ns = true ∧ SLE g w' u16 (gRows P i ns t G n m) ∧ Dk w' g ∧ w.grownBy w' (some g) ∧ (∃ T vt, u17 = .pointer (some ⟨T, 0, none⟩) ∧ w'.heap[T]? = some (.cells #[vt, .int .i64 K] 45 (0, 0))) → Q .normal ⟨List.toArray (s0 :: s1 :: s2 :: s3 :: s4 :: (Value.pointer (some ⟨g, 0, none⟩)) :: (Value.pointer (some ⟨F, 0, none⟩)) :: (Value.pointer (some ⟨p, 0, none⟩)) :: s8 :: s9 :: s10 :: (Value.int .i64 (m : Int)) :: s12 :: (vl) :: s14 :: (Value.int .i64 (i : Int)) :: u16 :: u17 :: (Value.int .i64 0) :: s19 :: s20 :: s21 :: s22 :: s23 :: s24 :: s25 :: s26 :: s27 :: s28 :: s29 :: s30 :: s31 :: s32 :: s33 :: s34 :: s35 :: s36 :: s37 :: s38 :: s39 :: s40 :: s41 :: s42 :: s43 :: s44 :: s45 :: s46 :: s47 :: s48 :: s49 :: s50 :: s51 :: s52 :: s53 :: s54 :: s55 :: s56 :: s57 :: s58 :: s59 :: s60 :: s61 :: s62 :: s63 :: s64 :: s65 :: s66 :: s67 :: s68 :: s69 :: s70 :: s71 :: s72 :: s73 :: s74 :: s75 :: s76 :: s77 :: s78 :: u79 :: u80 :: u81 :: u82 :: u83 :: u84 :: u85 :: u86 :: u87 :: u88 :: u89 :: u90 :: s91 :: s92 :: s93 :: s94 :: s95 :: s96 :: s97 :: s98 :: s99 :: s100 :: s101 :: s102 :: s103 :: s104 :: s105 :: s106 :: s107 :: s108 :: s109 :: s110 :: s111 :: s112 :: s113 :: s114 :: s115 :: s116 :: s117 :: s118 :: s119 :: s120 :: s121 :: s122 :: s123 :: s124 :: s125 :: s126 :: s127 :: s128 :: s129 :: s130 :: s131 :: s132 :: s133 :: s134 :: s135 :: s136 :: s137 :: s138 :: s139 :: s140 :: s141 :: s142 :: s143 :: s144 :: s145 :: s146 :: s147 :: s148 :: s149 :: s150 :: s151 :: s152 :: s153 :: s154 :: s155 :: s156 :: s157 :: s158 :: s159 :: s160 :: s161 :: s162 :: s163 :: s164 :: s165 :: s166 :: s167 :: s168 :: s169 :: s170 :: s171 :: s172 :: s173 :: s174 :: s175 :: s176 :: s177 :: s178 :: s179 :: s180 :: s181 :: s182 :: s183 :: s184 :: s185 :: s186 :: s187 :: s188 :: s189 :: s190 :: s191 :: s192 :: s193 :: s194 :: s195 :: s196 :: []), []⟩ w') :
    Code.wp Tryz.prog regWaC Q ⟨List.toArray (s0 :: s1 :: s2 :: s3 :: s4 :: (Value.pointer (some ⟨g, 0, none⟩)) :: (Value.pointer (some ⟨F, 0, none⟩)) :: (Value.pointer (some ⟨p, 0, none⟩)) :: s8 :: s9 :: s10 :: (Value.int .i64 (m : Int)) :: s12 :: (vl) :: s14 :: (Value.int .i64 (i : Int)) :: s16 :: s17 :: s18 :: s19 :: s20 :: s21 :: s22 :: s23 :: s24 :: s25 :: s26 :: s27 :: s28 :: s29 :: s30 :: s31 :: s32 :: s33 :: s34 :: s35 :: s36 :: s37 :: s38 :: s39 :: s40 :: s41 :: s42 :: s43 :: s44 :: s45 :: s46 :: s47 :: s48 :: s49 :: s50 :: s51 :: s52 :: s53 :: s54 :: s55 :: s56 :: s57 :: s58 :: s59 :: s60 :: s61 :: s62 :: s63 :: s64 :: s65 :: s66 :: s67 :: s68 :: s69 :: s70 :: s71 :: s72 :: s73 :: s74 :: s75 :: s76 :: s77 :: s78 :: s79 :: s80 :: s81 :: s82 :: s83 :: s84 :: s85 :: s86 :: s87 :: s88 :: s89 :: s90 :: s91 :: s92 :: s93 :: s94 :: s95 :: s96 :: s97 :: s98 :: s99 :: s100 :: s101 :: s102 :: s103 :: s104 :: s105 :: s106 :: s107 :: s108 :: s109 :: s110 :: s111 :: s112 :: s113 :: s114 :: s115 :: s116 :: s117 :: s118 :: s119 :: s120 :: s121 :: s122 :: s123 :: s124 :: s125 :: s126 :: s127 :: s128 :: s129 :: s130 :: s131 :: s132 :: s133 :: s134 :: s135 :: s136 :: s137 :: s138 :: s139 :: s140 :: s141 :: s142 :: s143 :: s144 :: s145 :: s146 :: s147 :: s148 :: s149 :: s150 :: s151 :: s152 :: s153 :: s154 :: s155 :: s156 :: s157 :: s158 :: s159 :: s160 :: s161 :: s162 :: s163 :: s164 :: s165 :: s166 :: s167 :: s168 :: s169 :: s170 :: s171 :: s172 :: s173 :: s174 :: s175 :: s176 :: s177 :: s178 :: s179 :: s180 :: s181 :: s182 :: s183 :: s184 :: s185 :: s186 :: s187 :: s188 :: s189 :: s190 :: s191 :: s192 :: s193 :: s194 :: s195 :: s196 :: []), []⟩ w := by
  have HK := Lib.hid hK
  have HS := Lib.hid hS
  have HQ := Lib.hid hQ
  have HX := Lib.hid hX
  have HD := Lib.hid hD
  obtain ⟨f0, p0, p1, p2⟩ := hX w (grownBy_refl _ _)
  have HGZ : Hid (w.grownBy (w.alloc (.cells #[.slice none 0 0, .int .i64 0] 45)) (some g)) := (show Hid _ from grownBy_of_below ((Below.refl _ w).alloc (Nat.le_refl _) _) _)
  have HGZd : Hid (w.grownBy (w.alloc (.cells #[.slice none 0 0, .int .i64 0] 45)).drew (some g)) := (show Hid _ from grownBy_of_below ((Below.refl _ w).alloc (Nat.le_refl _) _).drew _)
  have HG0 : Hid (w.grownBy w (some g)) := (show Hid _ from grownBy_refl _ _)
  have HG0d : Hid (w.grownBy w.drew (some g)) := (show Hid _ from grownBy_of_below (Below.refl _ w).drew _)
  have HDZ : Hid (Dk (w.alloc (.cells #[.slice none 0 0, .int .i64 0] 45)) g) := (show Hid _ from hD.alloc _)
  have HZC : Hid (∀ U V : World, g < U.heap.size → (U.alloc (.cells #[.slice none 0 0, .int .i64 0] 45)).grownBy V (some g) → V.heap[U.heap.size]? = some (.cells #[.slice none 0 0, .int .i64 0] 45 (0, 0)) ∧ V.cell? ⟨U.heap.size, 0, none⟩ = some (.slice none 0 0) ∧ V.cell? ⟨U.heap.size, 1, none⟩ = some (.int .i64 0) ∧ V.frozen? ⟨U.heap.size, 0, none⟩ = false ∧ V.frozen? ⟨U.heap.size, 1, none⟩ = false) := (show Hid _ from fun U V hU hg => by
    have hv := (hg.block U.heap.size (by simp) (by simp; omega)).trans (heap_alloc_new U _)
    exact ⟨hv, cell_of_row V _ 0 _ _ _ hv, cell_of_row V _ 1 _ _ _ hv, frozen_of_row V _ 0 _ _ hv, frozen_of_row V _ 1 _ _ hv⟩)
  have hgw := hD.lt
  clear hK hS hQ hX hD
  conv => arg 2; whnf
  go_region_held3 (fun w' => w'.cell? ⟨F, 0, none⟩ = some (.int .i64 P) ∧ w'.cell? ⟨p, 0, none⟩ = some (.int .i64 n) ∧ w'.cell? ⟨p, 1, none⟩ = some (.int .i64 t) ∧ w'.cell? ⟨p, 2, none⟩ = some (.int .i64 G)) (first | exact ⟨f0, p0, p1, p2⟩ | exact HX.out _ (grownBy_own (grownBy_own HGF.out (grownBy_setCell (grownBy_refl _ _) (.inl rfl) _) (fun k hk => by injection hk with e; subst e; exact HZF.out)) (grownBy_setCell (grownBy_refl _ _) (.inl rfl) _) (fun k hk => by injection hk with e; subst e; exact HZF.out)) | exact HX.out _ (grownBy_trans HGF.out (grownBy_of_below ((Below.refl _ _).alloc (Nat.le_refl _) _) _)) | go_keep)
    (first
      | (go_at_call 27; refine (HS.out _ (by first | exact HGZ.out | exact HGZd.out) (by exact HDZ.out)).mono ?_; rintro e8 w8 ⟨A1, c1, ns, rfl, hnl, hel, hse, hd8, hg8⟩; have HNL := Lib.hid hnl; have HEL := Lib.hid hel; have HSE : Hid (SE g w8 (.slice A1 K c1) ns) := (show Hid _ from hse); have HD8 : Hid (Dk w8 g) := (show Hid _ from hd8); have HGz8 : Hid ((w.alloc (.cells #[.slice none 0 0, .int .i64 0] 45)).grownBy w8 (some g)) := (show Hid _ from ⟨hg8.os, hg8.tape, hg8.output, hg8.size, hg8.block⟩); have HG8 : Hid (w.grownBy w8 (some g)) := (show Hid _ from grownBy_trans HGZ.out HGz8.out); obtain ⟨hz0, z0, z1, y0, y1⟩ := HZC.out w w8 (by exact hgw) HGz8.out; clear hz0; obtain ⟨f0, p0, p1, p2⟩ := HX.out w8 HG8.out; clear hnl hel hse hd8 hg8)
      | (go_at_call 27; refine (HS.out _ (by first | exact HG0.out | exact HG0d.out) (by exact HD.out)).mono ?_; rintro e8 w8 ⟨A1, c1, ns, rfl, hnl, hel, hse, hd8, hg8⟩; have HNL := Lib.hid hnl; have HEL := Lib.hid hel; have HSE : Hid (SE g w8 (.slice A1 K c1) ns) := (show Hid _ from hse); have HD8 : Hid (Dk w8 g) := (show Hid _ from hd8); have HG8 : Hid (w.grownBy w8 (some g)) := (show Hid _ from ⟨hg8.os, hg8.tape, hg8.output, hg8.size, hg8.block⟩); have HBz8 : Hid (Below w8.heap.size w8 (w8.alloc (.cells #[.slice none 0 0, .int .i64 0] 45))) := (show Hid _ from (Below.refl _ w8).alloc (Nat.le_refl _) _); obtain ⟨f0, p0, p1, p2⟩ := HX.out w8 HG8.out; clear hnl hel hse hd8 hg8)
      | (revert HGz8; intro HGz8; go_at_call 22; refine (HQ.out w8 A1 c1 ns HNL.out HEL.out (by exact HSE.out.si)).mono ?_; rintro e9 w9 ⟨Aq, cq, A2, c2, rfl, hb9, hq9⟩; have HB9 : Hid (Below w8.heap.size w8 w9) := (show Hid _ from ⟨hb9.os, hb9.tape, hb9.output, hb9.size, hb9.block⟩); have HQ9 : Hid (∀ z, z < w8.heap.size → SLE z w9 (.slice Aq n cq) (gRows P i ns t G n m)) := (show Hid _ from hq9); have HG89 : Hid (w8.grownBy w9 (some g)) := (show Hid _ from grownBy_of_below HB9.out _); have HGF : Hid (w.grownBy w9 (some g)) := (show Hid _ from grownBy_trans HG8.out HG89.out); obtain ⟨hz0, z0, z1, y0, y1⟩ := HZC.out w w9 (by exact hgw) (grownBy_trans HGz8.out HG89.out); have HZF : Hid (w.heap.size ≤ w.heap.size) := (show Hid _ from Nat.le_refl _); have HZH := Lib.hid hz0; clear hz0; obtain ⟨f0, p0, p1, p2⟩ := HX.out w9 HGF.out; have HDF : Hid (Dk w9 g) := (show Hid _ from HD8.out.below HB9.out); clear hb9 hq9)
      | (go_at_call 22; refine (HQ.out w8 A1 c1 ns HNL.out HEL.out (by exact HSE.out.si)).mono ?_; rintro e9 w9 ⟨Aq, cq, A2, c2, rfl, hb9, hq9⟩; have HB9 : Hid (Below w8.heap.size w8 w9) := (show Hid _ from ⟨hb9.os, hb9.tape, hb9.output, hb9.size, hb9.block⟩); have HQ9 : Hid (∀ z, z < w8.heap.size → SLE z w9 (.slice Aq n cq) (gRows P i ns t G n m)) := (show Hid _ from hq9); have HG89 : Hid (w8.grownBy w9 (some g)) := (show Hid _ from grownBy_of_below HB9.out _); have HGF : Hid (w.grownBy w9 (some g)) := (show Hid _ from grownBy_trans HG8.out HG89.out); obtain ⟨f0, p0, p1, p2⟩ := HX.out w9 HGF.out; have HDF : Hid (Dk w9 g) := (show Hid _ from HD8.out.below HB9.out); clear hb9 hq9)
      | (go_at_call 22; refine (HQ.out (w8.alloc (.cells #[.slice none 0 0, .int .i64 0] 45)) A1 c1 ns HNL.out HEL.out (by exact (HSE.out.below HBz8.out).si)).mono ?_; rintro e9 w9 ⟨Aq, cq, A2, c2, rfl, hb9, hq9⟩; have HB9z : Hid (Below (w8.alloc (.cells #[.slice none 0 0, .int .i64 0] 45)).heap.size (w8.alloc (.cells #[.slice none 0 0, .int .i64 0] 45)) w9) := (show Hid _ from ⟨hb9.os, hb9.tape, hb9.output, hb9.size, hb9.block⟩); have HB9 : Hid (Below w8.heap.size w8 w9) := (show Hid _ from HBz8.out.trans (HB9z.out.mono HBz8.out.size)); have HQ9 : Hid (∀ z, z < (w8.alloc (.cells #[.slice none 0 0, .int .i64 0] 45)).heap.size → SLE z w9 (.slice Aq n cq) (gRows P i ns t G n m)) := (show Hid _ from hq9); have HG89 : Hid (w8.grownBy w9 (some g)) := (show Hid _ from grownBy_of_below HB9.out _); have HGF : Hid (w.grownBy w9 (some g)) := (show Hid _ from grownBy_trans HG8.out HG89.out); have HDF : Hid (Dk w9 g) := (show Hid _ from HD8.out.below HB9.out); obtain ⟨hz0, z0, z1, y0, y1⟩ := HZC.out w8 w9 (by exact HD8.out.lt) (grownBy_of_below HB9z.out _); have HZF : Hid (w.heap.size ≤ w8.heap.size) := (show Hid _ from HG8.out.size); have HZH := Lib.hid hz0; clear hz0; obtain ⟨f0, p0, p1, p2⟩ := HX.out w9 HGF.out; clear hb9 hq9))
  all_goals
    have hk := HK.out
    have hg8 := HD8.out.lt
    have hz8 := HG8.out.size
    refine hk _ _ _ _ _ _ _ _ _ _ _ _ _ _ ns _ ⟨HNL.out, HEL.out, ?_⟩
    first
      | exact ⟨(HQ9.out g (by first | omega | (simp; omega))).below ((Below.refl _ _).alloc (Nat.le_refl _) _), HDF.out.alloc _, grownBy_trans HGF.out (grownBy_of_below ((Below.refl _ _).alloc (Nat.le_refl _) _) _), _, _, rfl, heap_alloc_new w9 _⟩
      | exact ⟨(HQ9.out g (by first | omega | (simp; omega))).set2 (HQ9.out w8.heap.size (by simp)) _ _, HDF.out.set2 (by omega) _ _, grown_set2 HGF.out (by omega) _ _, _, _, rfl, store2 _ _ HZH.out⟩
      | exact ⟨(HQ9.out g (by first | omega | (simp; omega))).set2 (HQ9.out w.heap.size (by have h := HGz8.out.size; simp at h; omega)) _ _, HDF.out.set2 (by omega) _ _, grown_set2 HGF.out (by omega) _ _, _, _, rfl, store2 _ _ HZH.out⟩


noncomputable def regWbC : Code := ((Tryz.f8.body.bind (regionOf 19)).getD .skip)
set_option maxRecDepth 1000000 in
set_option maxHeartbeats 4000000 in
theorem regWb (g F p n t G wd wrong sp : Nat) (P : Int) (vr vq : Value) (all : List (List Int)) (R : Nat → List (Bool × List Int) → List Int → Prop) (w : World) (ws3 : IntKind.i64.wrap (2 * (wrong : Int)) = 2 * (wrong : Int)) (ws4 : IntKind.i64.wrap ((sp : Int) - 2 * (wrong : Int)) = (sp : Int) - 2 * (wrong : Int)) (ws5 : IntKind.i64.wrap ((sp : Int) - 2 * (wrong : Int) + 1) = (sp : Int) - 2 * (wrong : Int) + 1) (hX : ∀ W, w.grownBy W (some g) → W.cell? ⟨F, 0, none⟩ = some (.int .i64 P) ∧ W.cell? ⟨p, 0, none⟩ = some (.int .i64 n) ∧ W.cell? ⟨p, 1, none⟩ = some (.int .i64 t) ∧ W.cell? ⟨p, 2, none⟩ = some (.int .i64 G)) (hD : Dk w g) (hA : ∀ W, w.grownBy W (some g) → Calls Tryz.prog 36 #[.agg #[.int .i64 P], .agg #[.int .i64 n, .int .i64 t, .int .i64 G], .int .i64 wd, vr, vq] W fun e w' => ∃ Aa ca, e = .returned (.slice Aa n ca) ∧ Below W.heap.size W w' ∧ SLE g w' (.slice Aa n ca) all) (hN : ∀ W, Dk W g → Calls Tryz.prog 13 #[.pointer (some ⟨g, 0, none⟩), .int .i64 ((sp : Int) - 2 * (wrong : Int) + 1)] W fun e w' => ∃ silent : Nat, e = .returned (.int .i64 silent) ∧ silent + 2 * wrong ≤ sp ∧ Dk w' g ∧ W.grownBy w' (some g)) (hM : ∀ W v (silent : Nat), w.grownBy W (some g) → Dk W g → SLE g W v all → silent + 2 * wrong ≤ sp → Calls Tryz.prog 35 #[.pointer (some ⟨g, 0, none⟩), .agg #[.int .i64 P], v, .int .i64 wrong, .int .i64 silent] W fun e w' => ∃ A1 n1 c1 A2 n2 c2 L bad, e = .returned (.tuple #[.slice A1 n1 c1, .slice A2 n2 c2]) ∧ SAE g w' (.slice A1 n1 c1) L ∧ SE g w' (.slice A2 n2 c2) bad ∧ Dk w' g ∧ W.grownBy w' (some g) ∧ R silent L bad)
    (s0 s1 s2 s3 s4 s8 s11 s12 s13 s14 s15 s17 s18 s21 s22 s23 s24 s25 s26 s27 s28 s29 s30 s31 s32 s33 s34 s35 s36 s37 s38 s39 s40 s41 s42 s43 s44 s45 s46 s47 s48 s49 s50 s51 s52 s53 s54 s55 s56 s57 s58 s59 s60 s61 s62 s63 s64 s65 s66 s67 s68 s69 s70 s71 s72 s73 s74 s75 s76 s77 s78 s79 s80 s81 s82 s83 s84 s85 s86 s87 s88 s89 s90 s91 s92 s93 s94 s95 s96 s97 s98 s99 s100 s101 s102 s103 s104 s105 s106 s107 s108 s109 s110 s111 s112 s113 s114 s115 s116 s117 s118 s119 s120 s121 s122 s123 s124 s125 s126 s127 s128 s129 s130 s131 s132 s133 s134 s135 s136 s137 s138 s139 s140 s141 s142 s143 s144 s145 s146 s147 s148 s149 s150 s151 s152 s153 s154 s155 s156 s157 s158 s159 s160 s161 s162 s163 s164 s165 s166 s167 s168 s169 s170 s171 s172 s173 s174 s175 s176 s177 s178 s179 s180 s181 s182 s183 s184 s185 s186 s187 s188 s189 s190 s191 s192 s193 s194 s195 s196 : Value) (Q : Exit → Act → World → Prop)
    (hK : ∀ (u21 u22 u122 u123 u124 u125 u126 u127 u128 u129 u130 u131 u132 u133 u134 u135 u136 u137 u138 u139 u140 u141 : Value) (silent : Nat) (L : List (Bool × List Int)) (bad : List Int) (w' : World), silent + 2 * wrong ≤ sp ∧ SAE g w' u21 L ∧ SE g w' u22 bad ∧ Dk w' g ∧ w.grownBy w' (some g) ∧ R silent L bad → Q .normal ⟨List.toArray (s0 :: s1 :: s2 :: s3 :: s4 :: (Value.pointer (some ⟨g, 0, none⟩)) :: (Value.pointer (some ⟨F, 0, none⟩)) :: (Value.pointer (some ⟨p, 0, none⟩)) :: s8 :: (Value.int .i64 (wd : Int)) :: (vr) :: s11 :: s12 :: s13 :: s14 :: s15 :: (vq) :: s17 :: s18 :: (Value.int .i64 (sp : Int)) :: (Value.int .i64 (wrong : Int)) :: u21 :: u22 :: s23 :: s24 :: s25 :: s26 :: s27 :: s28 :: s29 :: s30 :: s31 :: s32 :: s33 :: s34 :: s35 :: s36 :: s37 :: s38 :: s39 :: s40 :: s41 :: s42 :: s43 :: s44 :: s45 :: s46 :: s47 :: s48 :: s49 :: s50 :: s51 :: s52 :: s53 :: s54 :: s55 :: s56 :: s57 :: s58 :: s59 :: s60 :: s61 :: s62 :: s63 :: s64 :: s65 :: s66 :: s67 :: s68 :: s69 :: s70 :: s71 :: s72 :: s73 :: s74 :: s75 :: s76 :: s77 :: s78 :: s79 :: s80 :: s81 :: s82 :: s83 :: s84 :: s85 :: s86 :: s87 :: s88 :: s89 :: s90 :: s91 :: s92 :: s93 :: s94 :: s95 :: s96 :: s97 :: s98 :: s99 :: s100 :: s101 :: s102 :: s103 :: s104 :: s105 :: s106 :: s107 :: s108 :: s109 :: s110 :: s111 :: s112 :: s113 :: s114 :: s115 :: s116 :: s117 :: s118 :: s119 :: s120 :: s121 :: u122 :: u123 :: u124 :: u125 :: u126 :: u127 :: u128 :: u129 :: u130 :: u131 :: u132 :: u133 :: u134 :: u135 :: u136 :: u137 :: u138 :: u139 :: u140 :: u141 :: s142 :: s143 :: s144 :: s145 :: s146 :: s147 :: s148 :: s149 :: s150 :: s151 :: s152 :: s153 :: s154 :: s155 :: s156 :: s157 :: s158 :: s159 :: s160 :: s161 :: s162 :: s163 :: s164 :: s165 :: s166 :: s167 :: s168 :: s169 :: s170 :: s171 :: s172 :: s173 :: s174 :: s175 :: s176 :: s177 :: s178 :: s179 :: s180 :: s181 :: s182 :: s183 :: s184 :: s185 :: s186 :: s187 :: s188 :: s189 :: s190 :: s191 :: s192 :: s193 :: s194 :: s195 :: s196 :: []), []⟩ w') :
    Code.wp Tryz.prog regWbC Q ⟨List.toArray (s0 :: s1 :: s2 :: s3 :: s4 :: (Value.pointer (some ⟨g, 0, none⟩)) :: (Value.pointer (some ⟨F, 0, none⟩)) :: (Value.pointer (some ⟨p, 0, none⟩)) :: s8 :: (Value.int .i64 (wd : Int)) :: (vr) :: s11 :: s12 :: s13 :: s14 :: s15 :: (vq) :: s17 :: s18 :: (Value.int .i64 (sp : Int)) :: (Value.int .i64 (wrong : Int)) :: s21 :: s22 :: s23 :: s24 :: s25 :: s26 :: s27 :: s28 :: s29 :: s30 :: s31 :: s32 :: s33 :: s34 :: s35 :: s36 :: s37 :: s38 :: s39 :: s40 :: s41 :: s42 :: s43 :: s44 :: s45 :: s46 :: s47 :: s48 :: s49 :: s50 :: s51 :: s52 :: s53 :: s54 :: s55 :: s56 :: s57 :: s58 :: s59 :: s60 :: s61 :: s62 :: s63 :: s64 :: s65 :: s66 :: s67 :: s68 :: s69 :: s70 :: s71 :: s72 :: s73 :: s74 :: s75 :: s76 :: s77 :: s78 :: s79 :: s80 :: s81 :: s82 :: s83 :: s84 :: s85 :: s86 :: s87 :: s88 :: s89 :: s90 :: s91 :: s92 :: s93 :: s94 :: s95 :: s96 :: s97 :: s98 :: s99 :: s100 :: s101 :: s102 :: s103 :: s104 :: s105 :: s106 :: s107 :: s108 :: s109 :: s110 :: s111 :: s112 :: s113 :: s114 :: s115 :: s116 :: s117 :: s118 :: s119 :: s120 :: s121 :: s122 :: s123 :: s124 :: s125 :: s126 :: s127 :: s128 :: s129 :: s130 :: s131 :: s132 :: s133 :: s134 :: s135 :: s136 :: s137 :: s138 :: s139 :: s140 :: s141 :: s142 :: s143 :: s144 :: s145 :: s146 :: s147 :: s148 :: s149 :: s150 :: s151 :: s152 :: s153 :: s154 :: s155 :: s156 :: s157 :: s158 :: s159 :: s160 :: s161 :: s162 :: s163 :: s164 :: s165 :: s166 :: s167 :: s168 :: s169 :: s170 :: s171 :: s172 :: s173 :: s174 :: s175 :: s176 :: s177 :: s178 :: s179 :: s180 :: s181 :: s182 :: s183 :: s184 :: s185 :: s186 :: s187 :: s188 :: s189 :: s190 :: s191 :: s192 :: s193 :: s194 :: s195 :: s196 :: []), []⟩ w := by
  have HK := Lib.hid hK
  have HX := Lib.hid hX
  have HD := Lib.hid hD
  have HA := Lib.hid hA
  have HN := Lib.hid hN
  have HM := Lib.hid hM
  obtain ⟨f0, p0, p1, p2⟩ := hX w (grownBy_refl _ _)
  have HG0 : Hid (w.grownBy w (some g)) := (show Hid _ from grownBy_refl _ _)
  have HG0d : Hid (w.grownBy w.drew (some g)) := (show Hid _ from grownBy_of_below (Below.refl _ w).drew _)
  clear hK hX hD hA hN hM
  conv => arg 2; whnf
  go_region_held3 (fun w' => w'.cell? ⟨F, 0, none⟩ = some (.int .i64 P) ∧ w'.cell? ⟨p, 0, none⟩ = some (.int .i64 n) ∧ w'.cell? ⟨p, 1, none⟩ = some (.int .i64 t) ∧ w'.cell? ⟨p, 2, none⟩ = some (.int .i64 G)) (first | exact ⟨f0, p0, p1, p2⟩ | go_keep)
    (first
      | (go_at_call 36; refine (HA.out _ (by first | exact HG0.out | exact HG0d.out)).mono ?_; rintro e8 w8 ⟨Aa, ca, rfl, hb8, hs8⟩; have HB8 : Hid (Below w.heap.size w w8) := (show Hid _ from ⟨hb8.os, hb8.tape, hb8.output, hb8.size, hb8.block⟩); have HS8 : Hid (SLE g w8 (.slice Aa n ca) all) := (show Hid _ from hs8); have HG8 : Hid (w.grownBy w8 (some g)) := (show Hid _ from grownBy_of_below HB8.out _); have HG8d : Hid (w.grownBy w8.drew (some g)) := (show Hid _ from grownBy_of_below HB8.out.drew _); have HD8 : Hid (Dk w8 g) := (show Hid _ from HD.out.below HB8.out); obtain ⟨f0, p0, p1, p2⟩ := HX.out w8 HG8.out; clear hb8 hs8)
      | (go_at_call 13; refine (HN.out _ (by exact HD8.out)).mono ?_; rintro e7 w7 ⟨silent, rfl, hsi, hd7, hg7⟩; have HSI := Lib.hid hsi; have HD7 : Hid (Dk w7 g) := (show Hid _ from hd7); have HG87 : Hid (w8.grownBy w7 (some g)) := (show Hid _ from ⟨hg7.os, hg7.tape, hg7.output, hg7.size, hg7.block⟩); have HG7 : Hid (w.grownBy w7 (some g)) := (show Hid _ from grownBy_trans HG8.out HG87.out); have HG7d : Hid (w.grownBy w7.drew (some g)) := (show Hid _ from grownBy_trans HG7.out (grownBy_of_below (Below.refl _ w7).drew _)); have HS7 : Hid (SLE g w7 (.slice Aa n ca) all) := (show Hid _ from HS8.out.grown HG87.out); obtain ⟨f0, p0, p1, p2⟩ := HX.out w7 HG7.out; clear hsi hd7 hg7)
      | (go_at_call 35; refine (HM.out _ _ _ (by first | exact HG7.out | exact HG7d.out) (by exact HD7.out) (by exact HS7.out) (by exact HSI.out)).mono ?_; rintro e9 w9 ⟨A1, n1, c1, A2, n2, c2, L, bad, rfl, hsa, hse, hd9, hg9, hr9⟩; have HSA : Hid (SAE g w9 (.slice A1 n1 c1) L) := (show Hid _ from hsa); have HSE : Hid (SE g w9 (.slice A2 n2 c2) bad) := (show Hid _ from hse); have HD9 : Hid (Dk w9 g) := (show Hid _ from hd9); have HG9 : Hid (w.grownBy w9 (some g)) := (show Hid _ from grownBy_trans HG7.out ⟨hg9.os, hg9.tape, hg9.output, hg9.size, hg9.block⟩); have HR9 : Hid (R silent L bad) := (show Hid _ from hr9); obtain ⟨f0, p0, p1, p2⟩ := HX.out w9 HG9.out; clear hsa hse hd9 hg9 hr9))
  all_goals
    have hk := HK.out
    first
      | exact hk _ _ _ _ _ _ _ _ _ _ _ _ _ _ _ _ _ _ _ _ _ _ silent L bad w9 ⟨HSI.out, HSA.out, HSE.out, HD9.out, HG9.out, HR9.out⟩
      | exact hk _ _ _ _ _ _ _ _ _ _ _ _ _ _ _ _ _ _ _ _ _ _ silent L bad w9.drew ⟨HSI.out, HSA.out, HSE.out, HD9.out, grownBy_trans HG9.out (grownBy_of_below (Below.refl _ w9).drew _), HR9.out⟩


end Go.Proofs.YtoiabanpnkpbhaaGreatDoor
