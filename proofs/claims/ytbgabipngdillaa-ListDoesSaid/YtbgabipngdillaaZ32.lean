/- Joined: Lc. -/
import Derived.Test.YtbgabipngdillaaZ31
namespace Go.Proofs.Ytbgabipngdillaa
open Go.RowKit Go.Shelf

theorem kn_rng {l : List (Int × Bool)} (hl : l.length ≤ 1000000) (hr : ∀ x ∈ l, i64r x.1) : ∀ t ∈ kn l, i64r t.1 ∧ i64r t.2 := fun t ht => by
  refine ⟨?_, ?_⟩
  · have := kn_at ht
    unfold i64r
    omega
  · have key : ∀ k, k ≤ l.length → ∀ t ∈ kn (l.take k), i64r t.2 := by
      intro k
      induction k with
      | zero => intro _ t ht; simp [kn, knF] at ht
      | succ k ih =>
        intro hk t ht
        rcases (kn_mem_step (by omega) t).1 ht with h | ⟨_, h⟩
        · exact ih (by omega) t h
        · rw [h]; exact hr _ (List.getElem_mem _)
    have h2 := key l.length (Nat.le_refl _)
    rw [List.take_length] at h2
    exact h2 t ht

theorem own_blw {w w' : World} {base n sz : Nat} {e : TypeId} {v : Value} {xs : List Value} (h : w.ownsRow base e sz v n xs) (hb : Below w.heap.size w w') : w'.ownsRow base e sz v n xs := by
  refine ⟨h.1, ?_⟩
  rcases h.2 with h0 | ⟨g, cap, cur, h1, h2, h3, h4⟩
  · exact .inl h0
  · exact .inr ⟨g, cap, cur, h1, h2, (hb.block g (heap_of_cells h3)).trans h3, h4⟩

def KwR (l : List (Int × Bool)) (w : World) (i v : Value) (wr : World) : Prop :=
  ∃ k : Nat, k ≤ l.length ∧ i = .int .i64 k ∧ wr.ownsRow w.heap.size 64 2 v (kn (l.take k)).length (((kn (l.take k)).flatMap pcs).map (Value.int .i64)) ∧ Below w.heap.size w wr
set_option maxRecDepth 100000 in
set_option maxHeartbeats 4000000 in
theorem rknown_any (l : List (Int × Bool)) (v : Value) (w : World) (h : SCl w v l) (hz : l.length ≤ 1000000) :
    Calls Try.prog 34 #[v] w fun e w' => ∃ v', e = .returned v' ∧ w'.ownsRow w.heap.size 64 2 v' (kn l).length (((kn l).flatMap pcs).map (Value.int .i64)) ∧ Below w.heap.size w w' := by
  obtain ⟨i0, hi0, hi1, hi2, hi3⟩ := info_parts shinfo'
  obtain ⟨A, c, rfl⟩ := h.form
  have HS := Lib.hid h
  clear h
  go_enter Try.func34, Try.ntmps34
  go_wp2_with fail
  go_loopw [8, 3] (fun i v wr => KwR l w i v wr) (fun i _ _ => l.length - (intOf i).toNat)
  case atStart => exact ⟨0, Nat.zero_le _, rfl, by simpa [kn, knF] using World.ownsRow_nil w w.heap.size 64 2, Below.refl _ _⟩
  case round =>
    obtain ⟨k, hk, rfl, hown, hbel⟩ := hrel
    have HO := Lib.hid hown
    have HB := Lib.hid hbel
    have hzr := hbel.size
    clear hown hbel
    by_cases hlt : k < l.length
    · have dk : decide ((k : Int) < (l.length : Int)) = true := decide_eq_true (by omega)
      have dkn : decide (k < l.length) = true := decide_eq_true hlt
      obtain ⟨b, off, eA, hbl, hcell⟩ := (HS.out.below HB.out).at0 (by omega)
      subst eA
      obtain ⟨c0, c1⟩ := hcell k hlt
      clear hcell
      obtain ⟨xv, exv⟩ : ∃ xv, xv = l[k].1 := ⟨_, rfl⟩
      obtain ⟨bv, ebv⟩ : ∃ bv, bv = l[k].2 := ⟨_, rfl⟩
      rw [← exv] at c0
      rw [← ebv] at c1
      have HSN := Lib.hid (kn_snoc l k hlt)
      have hDl : (kn (l.take k)).length ≤ k := by
        have := kn_len (l.take k) 0
        rw [List.length_take] at this
        unfold kn
        omega
      obtain ⟨D, hD⟩ : ∃ D, kn (l.take k) = D := ⟨_, rfl⟩
      rw [hD] at HO HSN hDl
      rw [← exv, ← ebv] at HSN
      clear exv ebv hD
      obtain ⟨X, eX⟩ : ∃ X, X = wr.heap.size := ⟨_, rfl⟩
      obtain ⟨wx, ewx⟩ : ∃ wx : World, wx = wr.alloc (.cells #[.int .i64 xv, .bool bv] 33) := ⟨_, rfl⟩
      have HWwx : Hid (wr.alloc (.cells #[.int .i64 xv, .bool bv] 33) = wx) := ewx.symm
      have HAwx : Hid (Below wr.heap.size wr wx) := (show Hid _ from by rw [ewx]; exact (Below.refl _ wr).alloc (Nat.le_refl _) _)
      have HX0wx : Hid (wx.heap[X]? = some (.cells #[.int .i64 xv, .bool bv] 33 (0, 0))) := (show Hid _ from by show _ = _; rw [ewx, eX]; exact heap_alloc_new wr _)
      have HXX : Hid (∀ W, Below wx.heap.size wx W → W.cell? ⟨X, 0, none⟩ = some (.int .i64 xv) ∧ W.cell? ⟨X, 1, none⟩ = some (.bool bv)) := (show Hid _ from fun W hg => by
        have hX0 := (hg.block X (heap_of_cells HX0wx.out)).trans HX0wx.out
        exact ⟨cell_of_row W X 0 _ _ _ hX0, cell_of_row W X 1 _ _ _ hX0⟩)
      have HBX : Hid (Below w.heap.size w wx) := (show Hid _ from HB.out.trans (HAwx.out.mono hzr))
      have HOX : Hid (wx.ownsRow w.heap.size 64 2 u3 D.length ((D.flatMap pcs).map (Value.int .i64))) := (show Hid _ from own_blw HO.out HAwx.out)
      have hzx : w.heap.size ≤ wx.heap.size := HBX.out.size
      go_upto_region 5 with fail
      rw [HWwx.out, ← eX]
      clear ewx eX
      obtain ⟨y0, y1⟩ := HXX.out wx (Below.refl _ _)
      clear c0 c1
      cases bv
      · have HSN2 : Hid (kn (l.take (k + 1)) = D) := (show Hid _ from by show _ = _; have h := HSN.out; simpa using h)
        go_wp2_with fail
        go_roundw
        case rel => exact ⟨k + 1, by omega, by go_num, by rw [HSN2.out]; exact HOX.out, HBX.out⟩
        case measure => simp [intOf]; omega
      · have HSN2 : Hid (kn (l.take (k + 1)) = D ++ [((k : Int) + 1, xv)]) := (show Hid _ from by show _ = _; have h := HSN.out; simpa using h)
        have k1 : IntKind.i64.wrap ((k : Int) + 1) = (k : Int) + 1 := by exact IntWalk.i64_in _ (by omega)
        go_wp2_with (at_builtin; refine wpList_append_own _ rfl _ _ 62 rfl w.heap.size 64 i0 _ 2 16 Try.underlying62 hi0 hi1 hi2 hi3 rfl (by omega) _ _ _ rfl (HOX.out.alloc _) ⟨wx.heap.size, 0, none⟩ 1 1 (List.map (Value.int .i64) (pcs ((k : Int) + 1, xv))) rfl rfl (cells_new wx _ _) (by intro u hu; simp [pcs] at hu; rcases hu with rfl | rfl <;> rfl) (by unfold maxLen; omega) (by omega) (by simp; omega) ?_; intro v3 w3 hown3 hg3 _; have HO3 := Lib.hid hown3; have HG3 := Lib.hid hg3; clear hown3 hg3)
        go_roundw
        case rel =>
          refine ⟨k + 1, by omega, by go_num, ?_, ?_⟩
          · rw [HSN2.out]
            simpa using HO3.out
          · exact (HBX.out.alloc hzx _).grown HG3.out (by simp; omega) (fun k hk => (HOX.out.lt k hk).1)
        case measure => simp [intOf]; omega
    · have hkk : k = l.length := by omega
      subst hkk
      have hd1 : decide ((l.length : Int) < (l.length : Int)) = false := decide_eq_false (by omega)
      rw [List.take_length] at HO
      go_wp2_with fail
      go_ret
      exact ⟨_, rfl, HO.out, HB.out⟩


set_option maxRecDepth 100000 in
set_option maxHeartbeats 4000000 in
theorem ragree_any (P : Int) (l : List (Int × Bool)) (p : List Int) (v vp : Value) (w : World) (hP : i64r P) (h : SCl w v l) (hz : l.length ≤ 1000000) (hp : SI w vp p) (hpl : p.length ≤ 1000000) :
    Calls Try.prog 17 #[.agg #[.int .i64 P], v, vp] w fun e w' => e = .returned (.tuple #[.int .i64 (agN P l p), .int .i64 (agE P l p)]) ∧ Below w.heap.size w w' := by
  obtain ⟨A, c, rfl⟩ := h.form
  obtain ⟨Ap, cp, rfl⟩ := hp.form
  have HS := Lib.hid h
  have HPp := Lib.hid hp
  clear h hp
  go_enter Try.func17, Try.ntmps17
  obtain ⟨F, eF⟩ : ∃ F, F = w.heap.size := ⟨_, rfl⟩
  obtain ⟨w1, ew1⟩ : ∃ w1 : World, w1 = w.alloc (.cells #[.int .i64 P] 26) := ⟨_, rfl⟩
  have HWw1 : Hid (w.alloc (.cells #[.int .i64 P] 26) = w1) := ew1.symm
  have HAw1 : Hid (Below w.heap.size w w1) := (show Hid _ from by rw [ew1]; exact (Below.refl _ w).alloc (Nat.le_refl _) _)
  have HF0w1 : Hid (w1.heap[F]? = some (.cells #[.int .i64 P] 26 (0, 0))) := (show Hid _ from by show _ = _; rw [ew1, eF]; exact heap_alloc_new w _)
  have HXC : Hid (∀ W, Below w1.heap.size w1 W → W.cell? ⟨F, 0, none⟩ = some (.int .i64 P)) := (show Hid _ from fun W hg => by
    have hF0 := (hg.block F (heap_of_cells HF0w1.out)).trans HF0w1.out
    exact (cell_of_row W F 0 _ _ _ hF0))
  have HBS : Hid (∀ W, Below w1.heap.size w1 W → Below w.heap.size w W) := (show Hid _ from fun W hW => HAw1.out.trans (hW.mono HAw1.out.size))
  go_upto_region 1 with fail
  rw [HWw1.out, ← eF]
  clear ew1 eF
  have x0 := HXC.out w1 (Below.refl _ _)
  go_wp2_with fail
  (with_reducible refine (rcells_any P l _ w1 hP (HS.out.below HAw1.out) hz).mono ?_)
  rintro e w2 ⟨rfl, hb2⟩
  have HB2 : Hid (Below w1.heap.size w1 w2) := (show Hid _ from hb2)
  clear hb2 x0
  by_cases hc : ceE P l = 0
  case' neg =>
    have hcz : (ceE P l != 0) = true := by rw [bne_iff_ne]; exact hc
    have HR := Lib.hid (ag_ce (p := p) hc)
    clear hc
    go_wp2_with fail
    refine bodyPost_ret (v := .tuple #[.int .i64 0, .int .i64 (ceE P l)]) (by simp [results, Try.results17, go_sem]) rfl ?_
    rw [HR.out.1, HR.out.2]
    exact ⟨rfl, HBS.out _ HB2.out⟩
  have hcz : (ceE P l != 0) = false := by rw [bne_eq_false_iff_eq]; exact hc
  have HCE := Lib.hid hc
  have x2 := HXC.out w2 HB2.out
  clear hc
  go_wp2_with fail
  (with_reducible refine (rTrim_any P p _ w2 hP (HPp.out.below (HBS.out _ HB2.out)) hpl).mono ?_)
  rintro e w3 ⟨v3, rfl, _, hb3⟩
  have HB3 : Hid (Below w1.heap.size w1 w3) := (show Hid _ from HB2.out.trans (hb3.mono HB2.out.size))
  clear hb3 x2
  by_cases ho : opE P [p] = 0
  case' neg =>
    have hoz : (opE P [p] != 0) = true := by rw [bne_iff_ne]; exact ho
    have HR := Lib.hid (ag_op HCE.out ho)
    clear ho
    go_wp2_with fail
    refine bodyPost_ret (v := .tuple #[.int .i64 0, .int .i64 (opE P [p])]) (by simp [results, Try.results17, go_sem]) rfl ?_
    rw [HR.out.1, HR.out.2]
    exact ⟨rfl, HBS.out _ HB3.out⟩
  have hoz : (opE P [p] != 0) = false := by rw [bne_eq_false_iff_eq]; exact ho
  have HR := Lib.hid (ag_0 HCE.out ho)
  have HOE := Lib.hid ho
  have hci := ceE_inv HCE.out
  have HPR : Hid (prB P = true) := (show Hid _ from hci.1)
  have hl32 : l.length ≤ 32 := hci.2.1
  have hlP : (l.length : Int) < P := hci.2.2.1
  clear ho hci
  go_wp2_with fail
  (with_reducible refine (rknown_any l _ w3 (HS.out.below (HBS.out _ HB3.out)) hz).mono ?_)
  rintro e w4 ⟨v4, rfl, hown, hb4⟩
  have HB4 : Hid (Below w1.heap.size w1 w4) := (show Hid _ from HB3.out.trans (hb4.mono HB3.out.size))
  have hkr := kn_rng hz HS.out.rng
  have hSG : SG pcs 2 w4.heap.size w4 v4 (kn l) := SG.of_own hown (fun x hx y hy => by
    have := hkr x hx
    simp [pcs] at hy
    rcases hy with rfl | rfl
    · exact this.1
    · exact this.2) (fun x _ => rfl)
  obtain ⟨n, hn⟩ : ∃ n, n = (kn l).length := ⟨_, rfl⟩
  have hnl : n ≤ l.length := by rw [hn]; exact kn_len l 0
  obtain ⟨A4, c4, rfl, hc4, hm4, _, hat⟩ := pcs_cells hSG
  have HAT := Lib.hid hat
  have HN := Lib.hid hn
  have HKR := Lib.hid hkr
  rw [← hn] at hc4 ⊢
  clear hb4 hown hSG hkr hat hn
  go_wp2_with fail
  go_loopw [34, 11] (fun iv nv wr => ∃ k : Nat, k ≤ n ∧ iv = .int .i64 k ∧ nv = .int .i64 ((((kn l).take k).filter (hit P p)).length : Nat) ∧ Below w4.heap.size w4 wr) (fun iv _ _ => n - (intOf iv).toNat)
  case atStart => exact ⟨0, Nat.zero_le _, rfl, rfl, Below.refl _ _⟩
  case round =>
    obtain ⟨k, hk, rfl, rfl, hbr⟩ := hrel
    have HBR := Lib.hid hbr
    clear hbr
    obtain ⟨cnt, hcnt⟩ : ∃ cnt, (((kn l).take k).filter (hit P p)).length = cnt := ⟨_, rfl⟩
    have hck : cnt ≤ k := by
      have h1 := List.length_filter_le (hit P p) ((kn l).take k)
      rw [List.length_take] at h1
      omega
    have HCN := Lib.hid hcnt
    rw [hcnt]
    clear hcnt
    by_cases hlk : k < n
    · have dk : decide ((k : Int) < (n : Int)) = true := decide_eq_true (by omega)
      have dkn : decide (k < n) = true := decide_eq_true hlk
      have hkl : k < (kn l).length := by rw [← HN.out]; exact hlk
      obtain ⟨b, off, eA, hbl, hcell⟩ := HAT.out (by omega)
      subst eA
      obtain ⟨c0, c1⟩ := hcell k hkl
      have d0 := (HBR.out.cell (p := ⟨b, off + k * 2, none⟩) hbl).trans c0
      have d1 := (HBR.out.cell (p := ⟨b, off + k * 2 + 1, none⟩) hbl).trans c1
      have hmem := List.getElem_mem hkl
      have hxr := kn_at hmem
      have hyr := HKR.out _ hmem
      obtain ⟨t, et⟩ : ∃ t, t = (kn l)[k] := ⟨_, rfl⟩
      rw [← et] at d0 d1 hxr hyr
      obtain ⟨xv, yv⟩ := t
      simp only at d0 d1 hxr hyr
      have HTK : Hid (((kn l).take (k + 1)).filter (hit P p) = ((kn l).take k).filter (hit P p) ++ if hit P p (xv, yv) = true then [(xv, yv)] else []) := (show Hid _ from by
        show _ = _
        rw [List.take_succ_eq_append_getElem hkl, List.filter_append, ← et]
        congr 1
        simp [List.filter_cons])
      have hxi : i64r xv := hyr.1
      clear c0 c1 hcell hmem et hyr
      obtain ⟨X, eX⟩ : ∃ X, X = wr.heap.size := ⟨_, rfl⟩
      obtain ⟨wx, ewx⟩ : ∃ wx : World, wx = wr.alloc (.cells #[.int .i64 xv, .int .i64 yv] 64) := ⟨_, rfl⟩
      have HWwx : Hid (wr.alloc (.cells #[.int .i64 xv, .int .i64 yv] 64) = wx) := ewx.symm
      have HAwx : Hid (Below wr.heap.size wr wx) := (show Hid _ from by rw [ewx]; exact (Below.refl _ wr).alloc (Nat.le_refl _) _)
      have HX0wx : Hid (wx.heap[X]? = some (.cells #[.int .i64 xv, .int .i64 yv] 64 (0, 0))) := (show Hid _ from by show _ = _; rw [ewx, eX]; exact heap_alloc_new wr _)
      have HXX : Hid (∀ W, Below wx.heap.size wx W → W.cell? ⟨X, 0, none⟩ = some (.int .i64 xv) ∧ W.cell? ⟨X, 1, none⟩ = some (.int .i64 yv)) := (show Hid _ from fun W hg => by
        have hX0 := (hg.block X (heap_of_cells HX0wx.out)).trans HX0wx.out
        exact ⟨cell_of_row W X 0 _ _ _ hX0, cell_of_row W X 1 _ _ _ hX0⟩)
      have HBX : Hid (Below w4.heap.size w4 wx) := (show Hid _ from HBR.out.trans (HAwx.out.mono HBR.out.size))
      have HB1X : Hid (Below w1.heap.size w1 wx) := (show Hid _ from HB4.out.trans (HBX.out.mono HB4.out.size))
      go_upto_region 11 with fail
      rw [HWwx.out, ← eX]
      clear ewx eX
      obtain ⟨y0, y1⟩ := HXX.out wx (Below.refl _ _)
      have x3 := HXC.out wx HB1X.out
      clear d0 d1
      go_wp2_with fail
      (with_reducible refine (rValue_any P xv p _ wx hP hxi (HPp.out.below (HBS.out _ HB1X.out)) hpl).mono ?_)
      rintro e w5 ⟨rfl, hb5⟩
      have HB5 : Hid (Below w4.heap.size w4 w5) := (show Hid _ from HBX.out.trans (hb5.mono HBX.out.size))
      obtain ⟨z0, z1⟩ := HXX.out w5 hb5
      have hin : inB P [xv] = true := by
        unfold inB
        rw [HPR.out]
        simp [els, el]
        omega
      have HE0 : Hid (rvE P xv p = 0) := (show Hid _ from by show _ = _; unfold rvE; rw [hin]; exact HOE.out)
      have HV0 : Hid (rvV P xv p = val P p xv) := (show Hid _ from by show _ = _; unfold rvV; rw [if_pos HE0.out])
      rw [HE0.out, HV0.out]
      clear hb5 y0 y1 x3 hin
      by_cases he : val P p xv = yv
      · have hez : (val P p xv == yv) = true := by rw [beq_iff_eq]; exact he
        have HT2 : Hid ((((kn l).take (k + 1)).filter (hit P p)).length = cnt + 1) := (show Hid _ from by
          show _ = _
          rw [HTK.out, if_pos (show hit P p (xv, yv) = true from hez), List.length_append, HCN.out]
          rfl)
        have k1 : IntKind.i64.wrap ((cnt : Int) + 1) = (cnt : Int) + 1 := by exact IntWalk.i64_in _ (by omega)
        clear he
        go_wp2_with fail
        go_roundw
        case rel => exact ⟨k + 1, by omega, by go_num, by rw [HT2.out]; go_num, HB5.out⟩
        case measure => simp [intOf]; omega
      · have hez : (val P p xv == yv) = false := by rw [beq_eq_false_iff_ne]; exact he
        have HT2 : Hid ((((kn l).take (k + 1)).filter (hit P p)).length = cnt) := (show Hid _ from by
          show _ = _
          rw [HTK.out, if_neg (show ¬ hit P p (xv, yv) = true from by unfold hit; rw [hez]; simp), List.append_nil, HCN.out])
        clear he
        go_wp2_with fail
        go_roundw
        case rel => exact ⟨k + 1, by omega, by go_num, by rw [HT2.out], HB5.out⟩
        case measure => simp [intOf]; omega
    · have dk : decide ((k : Int) < (n : Int)) = false := decide_eq_false (by omega)
      have dkn : decide (k < n) = false := decide_eq_false hlk
      have hkn : k = n := by omega
      have HRN : Hid (agC P l p = cnt) := (show Hid _ from by
        show _ = _
        rw [← HCN.out, hkn, HN.out, List.take_length]
        rfl)
      clear hkn
      go_wp2_with fail
      refine bodyPost_ret (v := .tuple #[.int .i64 cnt, .int .i64 0]) (by simp [results, Try.results17, go_sem]) rfl ?_
      rw [HR.out.1, HR.out.2, HRN.out]
      exact ⟨rfl, HBS.out _ (HB4.out.trans (HBR.out.mono HB4.out.size))⟩
end Go.Proofs.Ytbgabipngdillaa
