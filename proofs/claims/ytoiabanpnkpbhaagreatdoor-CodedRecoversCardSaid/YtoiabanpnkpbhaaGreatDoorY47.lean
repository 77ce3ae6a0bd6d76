/- Joined: Qa Ql Qb. -/
import Derived.Test.YtoiabanpnkpbhaaGreatDoorY07
import Derived.Test.YtoiabanpnkpbhaaGreatDoorY39
import Derived.Test.YtoiabanpnkpbhaaGreatDoorY05
import Derived.Test.YtoiabanpnkpbhaaGreatDoorY24
import Derived.Test.YtoiabanpnkpbhaaGreatDoorY25
import Derived.Test.YtoiabanpnkpbhaaGreatDoorY29
import Derived.Test.YtoiabanpnkpbhaaGreatDoorY14
import Derived.Test.YtoiabanpnkpbhaaGreatDoorY23
namespace Go.Proofs.YtoiabanpnkpbhaaGreatDoor
open Go.RowKit

def SLL (w : World) (v : Value) (hs : List (List (List Int))) : Prop :=
  ∃ A c, v = .slice A hs.length c ∧ hs.length ≤ c ∧ c ≤ 9223372036854775807 ∧ (0 < hs.length → ∃ b off, A = some ⟨b, off, none⟩ ∧ b < w.heap.size ∧ ∀ j (h : j < hs.length), ∃ B d, w.cell? ⟨b, off + j, none⟩ = some (.slice B hs[j].length d) ∧ SL w (.slice B hs[j].length d) hs[j])
theorem SLL.below {w w' : World} {v : Value} {hs : List (List (List Int))} (h : SLL w v hs) (hb : Below w.heap.size w w') : SLL w' v hs := by
  obtain ⟨A, c, rfl, hc, hm, ha⟩ := h
  refine ⟨A, c, rfl, hc, hm, fun h0 => ?_⟩
  obtain ⟨b, off, e, hbl, hcell⟩ := ha h0
  refine ⟨b, off, e, Nat.lt_of_lt_of_le hbl hb.size, fun j hj => ?_⟩
  obtain ⟨B, d, h1, h2⟩ := hcell j hj
  exact ⟨B, d, (hb.cell (p := ⟨b, off + j, none⟩) hbl).trans h1, h2.below hb⟩
theorem SLL.at {w : World} {v : Value} {hs : List (List (List Int))} (h : SLL w v hs) : ∃ A c, v = .slice A hs.length c ∧
    ∀ i (hi : i < hs.length), ∃ bh oh B d, A = some ⟨bh, oh, none⟩ ∧ ∀ W, Below w.heap.size w W → W.cell? ⟨bh, oh + i, none⟩ = some (.slice B hs[i].length d) ∧ SL W (.slice B hs[i].length d) hs[i] := by
  obtain ⟨A, c, rfl, _, _, ha⟩ := h
  refine ⟨A, c, rfl, fun i hi => ?_⟩
  obtain ⟨b, o, eA, hb, hc⟩ := ha (by omega)
  obtain ⟨B, d, h1, h2⟩ := hc i hi
  exact ⟨b, o, B, d, eA, fun W hW => ⟨(hW.cell (p := ⟨b, o + i, none⟩) hb).trans h1, h2.below hW⟩⟩
def g3 (hs : List (List (List Int))) (i : Nat) : List (List Int) := hs[i]?.getD []
theorem g3_lt {hs : List (List (List Int))} {i : Nat} (h : i < hs.length) : g3 hs i = hs[i] := by unfold g3; rw [List.getElem?_eq_getElem h]; rfl
def rcOne (n P wd : Int) (N : Nat) (sv : List Int) (hs : List (List (List Int))) (i : Nat) : Int :=
  if gd sv i < 1 ∨ n < gd sv i then 1 else if has (sv.take i).reverse (gd sv i) = true then 7 else if (g3 hs i).length ≠ N then 2 else if ((g3 hs i).all fun r => decide ((r.length : Int) = wd)) = false then 2 else if ((g3 hs i).all (els P)) = false then 9 else 0
def rcK (n P wd : Int) (N : Nat) (sv : List Int) (hs : List (List (List Int))) (k : Nat) : Int := (List.range k).foldl (fun e i => if e = 0 then rcOne n P wd N sv hs i else e) 0
theorem rcK_succ (n P wd : Int) (N : Nat) (sv : List Int) (hs : List (List (List Int))) (k : Nat) : rcK n P wd N sv hs (k + 1) = if rcK n P wd N sv hs k = 0 then rcOne n P wd N sv hs k else rcK n P wd N sv hs k := by
  unfold rcK; rw [List.range_succ, List.foldl_append]; rfl
theorem rcK_stop {n P wd : Int} {N : Nat} {sv : List Int} {hs : List (List (List Int))} {k : Nat} (h : rcK n P wd N sv hs k ≠ 0) : ∀ m, k ≤ m → rcK n P wd N sv hs m = rcK n P wd N sv hs k := by
  intro m
  induction m with
  | zero => intro hm; rw [show k = 0 by omega]
  | succ m ih =>
    intro hm
    rcases Nat.lt_or_ge m k with h1 | h1
    · rw [show m + 1 = k by omega]
    · have e := ih h1
      rw [rcK_succ, e, if_neg h]
theorem rcK_err {n P wd : Int} {N : Nat} {sv : List Int} {hs : List (List (List Int))} {k m : Nat} {e : Int} (h0 : rcK n P wd N sv hs k = 0) (h1 : rcOne n P wd N sv hs k = e) (he : e ≠ 0) (hm : k < m) : rcK n P wd N sv hs m = e := by
  have h2 : rcK n P wd N sv hs (k + 1) = e := by rw [rcK_succ, if_pos h0, h1]
  rw [rcK_stop (by rw [h2]; exact he) m (by omega), h2]
theorem rcK_ok {n P wd : Int} {N : Nat} {sv : List Int} {hs : List (List (List Int))} {k : Nat} (h0 : rcK n P wd N sv hs k = 0) (h1 : rcOne n P wd N sv hs k = 0) : rcK n P wd N sv hs (k + 1) = 0 := by rw [rcK_succ, if_pos h0, h1]
/-- all is well with each server before k -/
theorem rcK_all {n P wd : Int} {N : Nat} {sv : List Int} {hs : List (List (List Int))} : ∀ {k : Nat}, rcK n P wd N sv hs k = 0 → ∀ i, i < k → rcOne n P wd N sv hs i = 0
  | 0, _, i, hi => by omega
  | k + 1, h, i, hi => by
    rw [rcK_succ] at h
    by_cases h0 : rcK n P wd N sv hs k = 0
    · rw [if_pos h0] at h
      rcases Nat.lt_or_ge i k with h1 | h1
      · exact rcK_all h0 i h1
      · rw [show i = k by omega]; exact h
    · rw [if_neg h0] at h; exact absurd h h0
theorem rcOne_ok {n P wd : Int} {N : Nat} {sv : List Int} {hs : List (List (List Int))} {i : Nat} (h : rcOne n P wd N sv hs i = 0) : (1 ≤ gd sv i ∧ gd sv i ≤ n) ∧ has (sv.take i).reverse (gd sv i) = false ∧ (g3 hs i).length = N ∧ (∀ r ∈ g3 hs i, (r.length : Int) = wd ∧ els P r = true) := by
  unfold rcOne at h
  by_cases h1 : gd sv i < 1 ∨ n < gd sv i
  · rw [if_pos h1] at h; omega
  rw [if_neg h1] at h
  cases h2 : has (sv.take i).reverse (gd sv i) with
  | true => rw [if_pos h2] at h; omega
  | false =>
    rw [if_neg (by rw [h2]; simp)] at h
    by_cases h3 : (g3 hs i).length ≠ N
    · rw [if_pos h3] at h; omega
    rw [if_neg h3] at h
    by_cases h4 : ((g3 hs i).all fun r => decide ((r.length : Int) = wd)) = false
    · rw [if_pos h4] at h; omega
    rw [if_neg h4] at h
    by_cases h5 : ((g3 hs i).all (els P)) = false
    · rw [if_pos h5] at h; omega
    have h4' : ((g3 hs i).all fun r => decide ((r.length : Int) = wd)) = true := by simpa using h4
    have h5' : ((g3 hs i).all (els P)) = true := by simpa using h5
    rw [List.all_eq_true] at h4' h5'
    exact ⟨by omega, rfl, by omega, fun r hr => ⟨of_decide_eq_true (h4' r hr), h5' r hr⟩⟩
def Qa1 (n P wd : Int) (N : Nat) (sv : List Int) (hs : List (List (List Int))) (mb : Nat) (w2 : World) (iv : Value) (wr : World) : Prop :=
  ∃ k : Nat, k ≤ sv.length ∧ iv = .int .i64 k ∧ rcK n P wd N sv hs k = 0 ∧ BM Tryz.prog 3 4 wr mb k (sv.take k).reverse ∧ Below mb w2 wr
def Qa2 (P wd : Int) (rs : List (List Int)) (wo : World) (fv iv : Value) (wr : World) : Prop :=
  ∃ q : Nat, q ≤ rs.length ∧ iv = .int .i64 q ∧ fv = .bool ((rs.take q).all (els P)) ∧ ((rs.take q).all fun r => decide ((r.length : Int) = wd)) = true ∧ Below wo.heap.size wo wr
theorem all_snoc {α : Type} (p : α → Bool) (l : List α) (k : Nat) (h : k < l.length) : (l.take (k + 1)).all p = ((l.take k).all p && p l[k]) := by
  rw [List.take_succ_eq_append_getElem h, List.all_append]; simp
set_option maxRecDepth 100000 in
set_option maxHeartbeats 8000000 in
theorem recoverable_any (P n t wd : Int) (G N : Nat) (sv : List Int) (hs : List (List (List Int))) (vs vh : Value) (w : World) (hsv : SI w vs sv) (hh : SLL w vh hs) (hl : hs.length = sv.length) (hz : sv.length ≤ 1000000) (hNb : N ≤ 1000000) :
    Calls Tryz.prog 69 #[.agg #[.int .i64 P], .agg #[.int .i64 n, .int .i64 t, .int .i64 G], .int .i64 wd, .int .i64 N, vs, vh] w fun e w' => e = .returned (.int .i64 (rcK n P wd N sv hs sv.length)) ∧ Below w.heap.size w w' := by
  obtain ⟨Ah, ch, rfl, hat⟩ := hh.at
  obtain ⟨As, cs, rfl⟩ := hsv.form
  have HAT := Lib.hid hat
  have HSV := Lib.hid hsv
  obtain ⟨L, eL⟩ : ∃ L, L = sv.length := ⟨_, rfl⟩
  rw [hl, ← eL]
  rw [← eL] at hz
  rw [← eL] at HSV
  have HHL : Hid (hs.length = L) := (show Hid _ from by show _ = _; rw [hl, eL])
  have HL : Hid (sv.length = L) := eL.symm
  clear hat hsv hh hl eL
  go_enter Tryz.func69, Tryz.ntmps69
  obtain ⟨F, eF⟩ : ∃ F, F = w.heap.size := ⟨_, rfl⟩
  obtain ⟨w1, ew1⟩ : ∃ w1 : World, w1 = (w.alloc (.cells #[.int .i64 P] 31)).alloc (.cells #[.int .i64 n, .int .i64 t, .int .i64 G] 29) := ⟨_, rfl⟩
  have HWw1 : Hid ((w.alloc (.cells #[.int .i64 P] 31)).alloc (.cells #[.int .i64 n, .int .i64 t, .int .i64 G] 29) = w1) := ew1.symm
  have HAw1 : Hid (Below w.heap.size w w1) := (show Hid _ from by rw [ew1]; exact ((Below.refl _ w).alloc (Nat.le_refl _) _).alloc (by simp) _)
  have HF0w1 : Hid (w1.heap[F]? = some (.cells #[.int .i64 P] 31 (0, 0))) := (show Hid _ from by show _ = _; rw [ew1, eF, Below.heap_alloc _ _ _ (by simp)]; exact heap_alloc_new w _)
  have HF1w1 : Hid (w1.heap[F + 1]? = some (.cells #[.int .i64 n, .int .i64 t, .int .i64 G] 29 (0, 0))) := (show Hid _ from by show _ = _; rw [ew1, eF]; have := heap_alloc_new (w.alloc (.cells #[.int .i64 P] 31)) (.cells #[.int .i64 n, .int .i64 t, .int .i64 G] 29); simpa using this)
  have HXC : Hid (∀ W, Below w1.heap.size w1 W → W.cell? ⟨F, 0, none⟩ = some (.int .i64 P) ∧ W.cell? ⟨F + 1, 0, none⟩ = some (.int .i64 n) ∧ W.cell? ⟨F + 1, 1, none⟩ = some (.int .i64 t) ∧ W.cell? ⟨F + 1, 2, none⟩ = some (.int .i64 G)) := (show Hid _ from fun W hg => by
    have hF0 := (hg.block F (heap_of_cells HF0w1.out)).trans HF0w1.out
    have hF1 := (hg.block (F + 1) (heap_of_cells HF1w1.out)).trans HF1w1.out
    exact ⟨cell_of_row W F 0 _ _ _ hF0, cell_of_row W (F + 1) 0 _ _ _ hF1, cell_of_row W (F + 1) 1 _ _ _ hF1, cell_of_row W (F + 1) 2 _ _ _ hF1⟩)
  have HSV1 := Lib.hid (HSV.out.below HAw1.out)
  have hmf : (Instr.makeMap 142 none).run Tryz.prog w1 = .ok (.map (some w1.heap.size)) (w1.alloc (.map #[] 0)) := run_makeMap _ w1
  go_upto_region 1 with fail
  rw [HWw1.out, ← eF]
  clear ew1 eF
  obtain ⟨f0, s0, s1, s2⟩ := HXC.out w1 (Below.refl _ _)
  go_upto_region 3 with fail
  obtain ⟨mb, emb⟩ : ∃ mb, mb = w1.heap.size := ⟨_, rfl⟩
  obtain ⟨w2, ew2⟩ : ∃ w2 : World, w2 = w1.alloc (.map #[] 0) := ⟨_, rfl⟩
  have HB12 : Hid (Below w1.heap.size w1 w2) := (show Hid _ from by rw [ew2]; exact (Below.refl _ _).alloc (Nat.le_refl _) _)
  have HBM0 : Hid (BM Tryz.prog 3 4 w2 mb 0 []) := (show Hid _ from by rw [ew2, emb]; exact BM.made _ _ _ _)
  rw [← ew2, ← emb]
  have hmbw : mb < w2.heap.size := by rw [ew2, emb]; simp
  have HMB := Lib.hid emb
  clear ew2 hmf f0 s0 s1 s2 emb
  go_wp2_with fail
  go_loopw [25] (fun iv wr => Qa1 n P wd N sv hs mb w2 iv wr) (fun iv _ => L - (intOf iv).toNat)
  case atStart => exact ⟨0, Nat.zero_le _, rfl, rfl, HBM0.out, Below.refl _ _⟩
  case round =>
    obtain ⟨k, hk, rfl, hrc, hbm, hb⟩ := hrel
    have HRK := Lib.hid hrc
    have HBM := Lib.hid hbm
    have HB2 : Hid (Below mb w2 wr) := hb
    have HB : Hid (Below w1.heap.size w1 wr) := (show Hid _ from HB12.out.trans (by rw [← HMB.out]; exact hb.mono (Nat.le_refl _)))
    have HBw : Hid (Below w.heap.size w wr) := (show Hid _ from HAw1.out.trans (HB.out.mono HAw1.out.size))
    rw [HL.out] at hk
    clear hrc hbm hb
    by_cases hlk : k < L
    · have dk : decide (k < L) = true := decide_eq_true hlk
      have hks : k < sv.length := by rw [HL.out]; exact hlk
      have hkh : k < hs.length := by rw [HHL.out]; exact hlk
      obtain ⟨bs, os, eAs, cks⟩ := (HSV1.out.below HB.out).at hks
      subst eAs
      have hjr : i64r sv[k] := by
        obtain ⟨_, _, _, _, _, hr, _⟩ := HSV1.out
        exact hr _ (List.getElem_mem hks)
      have HGD : Hid (gd sv k = sv[k]) := gd_lt hks
      have HG3 : Hid (g3 hs k = hs[k]) := g3_lt hkh
      have HTK : Hid (sv.take (k + 1) = sv.take k ++ [sv[k]]) := List.take_succ_eq_append_getElem hks
      obtain ⟨j, ej⟩ : ∃ j, j = sv[k] := ⟨_, rfl⟩
      rw [← ej] at cks hjr HGD HTK
      obtain ⟨f0, s0, s1, s2⟩ := HXC.out wr HB.out
      obtain ⟨bh, oh, Bh, dh, eAh, hW⟩ := HAT.out k hkh
      subst eAh
      obtain ⟨ckh, hsl⟩ := hW wr HBw.out
      obtain ⟨rs, ers⟩ : ∃ rs, rs = hs[k] := ⟨_, rfl⟩
      rw [← ers] at ckh hsl HG3
      have HSL := Lib.hid hsl
      have HERR : Hid (∀ e, rcOne n P wd N sv hs k = e → e ≠ 0 → rcK n P wd N sv hs L = e) := (show Hid _ from fun e h1 h2 => rcK_err HRK.out h1 h2 hlk)
      have z1 : (0 : Int) ≤ (k : Int) := by omega
      have z2 : (k : Int) < (L : Int) := by omega
      clear ej ers hW hsl
      by_cases hj1 : j < 1 ∨ n < j
      · have HE := Lib.hid (HERR.out 1 (by unfold rcOne; rw [HGD.out, if_pos hj1]) (by omega))
        by_cases hj2 : j < 1
        · have d1 : decide (j < 1) = true := decide_eq_true hj2
          clear hj1 hj2
          go_wp2_with fail
          go_ret
          exact ⟨by rw [HE.out]; rfl, HBw.out⟩
        · have d1 : decide (j < 1) = false := decide_eq_false hj2
          have d2 : decide (n < j) = true := decide_eq_true (by omega)
          clear hj1 hj2
          go_wp2_with fail
          go_ret
          exact ⟨by rw [HE.out]; rfl, HBw.out⟩
      · have d1 : decide (j < 1) = false := decide_eq_false (by omega)
        have d2 : decide (n < j) = false := decide_eq_false (by omega)
        cases hhs : has (sv.take k).reverse j with
        | true =>
          have HE := Lib.hid (HERR.out 7 (by unfold rcOne; rw [HGD.out, if_neg hj1, if_pos hhs]) (by omega))
          have HH := Lib.hid hhs
          clear hj1 hhs
          go_wp2_with (at_lookup; refine wpList_lookup_BM _ rfl _ _ 142 rfl 3 4 Tryz.underlying142 Tryz.underlying3 Tryz.underlying4 (zeroB _) mb k _ rfl (by exact HBM.out) _ rfl hjr ?_; rw [HH.out])
          go_ret
          exact ⟨by rw [HE.out]; rfl, HBw.out⟩
        | false =>
          have HH := Lib.hid hhs
          have HE0 : Hid (∀ e, (if rs.length ≠ N then 2 else if (rs.all fun r => decide ((r.length : Int) = wd)) = false then 2 else if (rs.all (els P)) = false then 9 else 0) = e → rcOne n P wd N sv hs k = e) := (show Hid _ from fun e h => by unfold rcOne; rw [HGD.out, if_neg hj1, if_neg (by rw [HH.out]; simp), HG3.out]; exact h)
          clear hj1 hhs
          by_cases hN : rs.length = N
          · have d3 : ((rs.length : Int) != (N : Int)) = false := by rw [bne_eq_false_iff_eq]; omega
            have d3' : (rs.length != N) = false := by rw [bne_eq_false_iff_eq]; exact hN
            obtain ⟨rl, erl⟩ : ∃ rl, rl = rs.length := ⟨_, rfl⟩
            rw [← erl] at ckh d3 d3'
            have HRL := Lib.hid erl
            have HN := Lib.hid hN
            have hrlb : rl ≤ 1000000 := by omega
            clear erl hN
            go_upto_region 14 with (first
              | (at_lookup; refine wpList_lookup_BM _ rfl _ _ 142 rfl 3 4 Tryz.underlying142 Tryz.underlying3 Tryz.underlying4 (zeroB _) mb k _ rfl (by exact HBM.out) _ rfl hjr ?_; rw [HH.out])
              | (at_mapUpdate; refine wpList_update_BM _ rfl _ _ _ 142 rfl 3 4 Tryz.underlying142 Tryz.underlying3 Tryz.underlying4 mb k _ rfl (by exact HBM.out) (by unfold maxLen; omega) _ rfl hjr rfl ?_; intro w4 hbm4 hg4))
            have HBM4 : Hid (BM Tryz.prog 3 4 w4 mb (k + 1) (sv.take (k + 1)).reverse) := (show Hid _ from by rw [HTK.out, List.reverse_append]; exact hbm4)
            have HB24 : Hid (Below mb w2 w4) := (show Hid _ from HB2.out.grown hg4 (by have := HB2.out.size; omega) (fun q e => by cases e; exact Nat.le_refl _))
            have HB14 : Hid (Below w1.heap.size w1 w4) := (show Hid _ from HB12.out.trans (by rw [← HMB.out]; exact HB24.out.mono (Nat.le_refl _)))
            have HBw4 : Hid (Below w.heap.size w w4) := (show Hid _ from HAw1.out.trans (HB14.out.mono HAw1.out.size))
            clear hbm4 hg4 f0 s0 s1 s2 cks ckh d1 d2 d3 d3'
            obtain ⟨bh', oh', Bh', dh', eAh, hW⟩ := HAT.out k hkh
            injection eAh with eAh
            injection eAh with eb eo _
            subst eb eo
            obtain ⟨ckh, hsl⟩ := hW w4 HBw4.out
            have e3 := HG3.out
            rw [g3_lt hkh] at e3
            rw [e3, ← HRL.out] at ckh
            rw [e3] at hsl
            obtain ⟨Ar, cr, er, hrt⟩ := hsl.at
            rw [← HRL.out] at er
            injection er with er1 er2 er3
            subst er1 er3
            have HRT := Lib.hid hrt
            clear hsl hW e3 hrt HSL
            go_wp2_with fail
            go_loopw [17, 58] (fun fv iv wr => Qa2 P wd rs w4 fv iv wr) (fun _ iv _ => rl - (intOf iv).toNat)
            case atStart => exact ⟨0, Nat.zero_le _, rfl, by simp, by simp, Below.refl _ _⟩
            case round =>
              obtain ⟨q, hq, rfl, rfl, hwd, hb⟩ := hrel
              rw [← HRL.out] at hq
              have HWD := Lib.hid hwd
              have HB4 := Lib.hid hb
              have HBwr : Hid (Below w.heap.size w wr) := (show Hid _ from HBw4.out.trans (hb.mono HBw4.out.size))
              have HB1r : Hid (Below w1.heap.size w1 wr) := (show Hid _ from HB14.out.trans (hb.mono HB14.out.size))
              clear hwd hb
              by_cases hlq : q < rl
              · have dq : decide (q < rl) = true := decide_eq_true hlq
                have hqr : q < rs.length := by rw [← HRL.out]; exact hlq
                obtain ⟨b5, o5, B5, d5, eA5, hW5⟩ := HRT.out q hqr
                subst eA5
                obtain ⟨c5, h5⟩ := hW5 wr HB4.out
                have HS5 := Lib.hid h5
                obtain ⟨f0, s0, s1, s2⟩ := HXC.out wr HB1r.out
                have HSN := Lib.hid (all_snoc (els P) rs q hqr)
                have HSW := Lib.hid (all_snoc (fun r => decide ((r.length : Int) = wd)) rs q hqr)
                obtain ⟨ql, eql⟩ : ∃ ql, ql = rs[q].length := ⟨_, rfl⟩
                rw [← eql] at c5 HS5
                have HQL := Lib.hid eql
                clear hW5 h5 eql
                by_cases hw : (ql : Int) = wd
                · have d6 : ((ql : Int) != wd) = false := by rw [bne_eq_false_iff_eq]; exact hw
                  have HW2 : Hid (((rs.take (q + 1)).all fun r => decide ((r.length : Int) = wd)) = true) := (show Hid _ from by show _ = _; rw [HSW.out, HWD.out, ← HQL.out, decide_eq_true hw]; rfl)
                  clear hw
                  cases hfl : (rs.take q).all (els P) with
                  | true =>
                    have HF2 : Hid ((rs.take (q + 1)).all (els P) = els P rs[q]) := (show Hid _ from by show _ = _; rw [HSN.out, hfl]; rfl)
                    clear hfl
                    go_wp2_with fail
                    (with_reducible refine (all_any P rs[q] _ wr HS5.out).mono ?_)
                    rintro e w6 ⟨rfl, hb6⟩
                    have HB6 : Hid (Below w4.heap.size w4 w6) := (show Hid _ from HB4.out.trans (hb6.mono HB4.out.size))
                    clear hb6
                    go_wp2_with fail
                    go_roundw
                    case rel => exact ⟨q + 1, by rw [← HRL.out]; omega, by go_num, by rw [HF2.out], HW2.out, HB6.out⟩
                    case measure => simp [intOf]; omega
                  | false =>
                    have HF2 : Hid ((rs.take (q + 1)).all (els P) = false) := (show Hid _ from by show _ = _; rw [HSN.out, hfl]; rfl)
                    clear hfl
                    go_wp2_with fail
                    go_roundw
                    case rel => exact ⟨q + 1, by rw [← HRL.out]; omega, by go_num, by rw [HF2.out], HW2.out, HB4.out⟩
                    case measure => simp [intOf]; omega
                · have d6 : ((ql : Int) != wd) = true := by rw [bne_iff_ne]; exact hw
                  have HE := Lib.hid (HERR.out 2 (HE0.out 2 (by
                    rw [if_neg (by simp [HN.out]), if_pos]
                    exact all_no hqr (decide_eq_false (by rw [← HQL.out]; exact hw)))) (by omega))
                  clear hw
                  go_wp2_with fail
                  go_ret
                  exact ⟨by rw [HE.out]; rfl, HBwr.out⟩
              · have dq : decide (q < rl) = false := decide_eq_false hlq
                have hqr : rs.take q = rs := List.take_of_length_le (by rw [← HRL.out]; omega)
                rw [hqr]
                have HWD2 : Hid ((rs.all fun r => decide ((r.length : Int) = wd)) = true) := (show Hid _ from by have h := HWD.out; rw [hqr] at h; exact h)
                clear hqr
                cases hfl : rs.all (els P) with
                | true =>
                  have HOK : Hid (rcK n P wd N sv hs (k + 1) = 0) := (show Hid _ from rcK_ok HRK.out (HE0.out 0 (by rw [if_neg (by simp [HN.out]), if_neg (by rw [HWD2.out]; simp), if_neg (by rw [hfl]; simp)])))
                  have HBr : Hid (Below mb w2 wr) := (show Hid _ from HB24.out.trans (HB4.out.mono (by have := HB24.out.size; omega)))
                  have HBMr : Hid (BM Tryz.prog 3 4 wr mb (k + 1) (sv.take (k + 1)).reverse) := (show Hid _ from BM.kept HBM4.out (grownBy_of_below HB4.out none) (by simp))
                  clear hfl
                  go_wp2_with fail
                  go_roundw
                  case rel => exact ⟨k + 1, by rw [HL.out]; omega, by go_num, HOK.out, HBMr.out, HBr.out⟩
                  case measure => simp [intOf]; omega
                | false =>
                  have HE := Lib.hid (HERR.out 9 (HE0.out 9 (by rw [if_neg (by simp [HN.out]), if_neg (by rw [HWD2.out]; simp), if_pos hfl])) (by omega))
                  clear hfl
                  go_wp2_with fail
                  go_ret
                  exact ⟨by rw [HE.out]; rfl, HBwr.out⟩
          · have d3 : ((rs.length : Int) != (N : Int)) = true := by rw [bne_iff_ne]; omega
            have d3' : (rs.length != N) = true := by rw [bne_iff_ne]; exact hN
            have HE := Lib.hid (HERR.out 2 (HE0.out 2 (by rw [if_pos hN])) (by omega))
            obtain ⟨rl, erl⟩ : ∃ rl, rl = rs.length := ⟨_, rfl⟩
            rw [← erl] at ckh d3 d3'
            clear erl hN
            go_wp2_with (at_lookup; refine wpList_lookup_BM _ rfl _ _ 142 rfl 3 4 Tryz.underlying142 Tryz.underlying3 Tryz.underlying4 (zeroB _) mb k _ rfl (by exact HBM.out) _ rfl hjr ?_; rw [HH.out])
            go_ret
            exact ⟨by rw [HE.out]; rfl, HBw.out⟩
    · have dk : decide (k < L) = false := decide_eq_false hlk
      have HE : Hid (rcK n P wd N sv hs L = 0) := (show Hid _ from by have h := HRK.out; rw [show k = L by omega] at h; exact h)
      go_wp2_with fail
      go_ret
      exact ⟨by rw [HE.out]; rfl, HBw.out⟩
end Go.Proofs.YtoiabanpnkpbhaaGreatDoor

namespace Go.Proofs.YtoiabanpnkpbhaaGreatDoor
open Go.RowKit

def LoF1 (ps : List (List Int)) (G : Nat) (w : World) (v iv : Value) (wr : World) : Prop :=
  ∃ (i : Nat) (pv : Value) (vs : List Value) (rows : List (List Int)), pv = v ∧ i ≤ G ∧ iv = .int .i64 i ∧ rows = ((List.range i).map fun i => ps.map fun p => gd p i) ∧ wr.ownsRow w.heap.size 22 1 pv vs.length vs ∧ vs.length = rows.length ∧ (∀ g, g < w.heap.size → RW w.heap.size g wr pv vs rows) ∧ Below w.heap.size w wr
def LoF2 (ps : List (List Int)) (i : Nat) (wq : World) (v iv : Value) (wr : World) : Prop :=
  ∃ (j : Nat) (pv : Value) (ns : List Int), pv = v ∧ j ≤ ps.length ∧ iv = .int .i64 j ∧ ns = ((ps.take j).map fun p => gd p i) ∧ wr.ownsRow wq.heap.size 3 1 pv ns.length (ns.map (Value.int .i64)) ∧ Below wq.heap.size wq wr
set_option maxRecDepth 100000 in
set_option maxHeartbeats 8000000 in
theorem lowestF_ok (ps : List (List Int)) (G : Nat) (v : Value) (w : World) (h : SL w v ps) (hG : G ≤ 100) (hz : ps.length ≤ 10000) (hr : ∀ p ∈ ps, ∀ x ∈ p, i64r x) (hpl : ∀ p ∈ ps, p.length ≤ 1000000) :
    Calls Tryz.prog 67 #[v, .int .i64 G] w fun e w' => ∃ A c, e = .returned (.slice A G c) ∧ Below w.heap.size w w' ∧ (∀ g, g < w.heap.size → SLE g w' (.slice A G c) ((List.range G).map fun i => ps.map fun p => gd p i)) := by
  obtain ⟨A, c, rfl, hc, hm, ha⟩ := h
  have HA := Lib.hid ha
  have HR := Lib.hid hr
  have HPL := Lib.hid hpl
  clear hpl
  obtain ⟨n, en⟩ : ∃ n, n = ps.length := ⟨_, rfl⟩
  have HN := Lib.hid en
  rw [← en] at hc hz ⊢
  clear ha hr en
  go_enter Tryz.func67, Tryz.ntmps67
  go_wp2_with fail
  go_loopw [5, 11] (fun v iv wr => LoF1 ps G w v iv wr) (fun _ iv _ => G - (intOf iv).toNat)
  case atStart => exact ⟨0, _, [], [], rfl, Nat.zero_le _, rfl, rfl, World.ownsRow_nil _ _ _ _, rfl, fun g _ => RW.nil _ _ _, Below.refl _ _⟩
  case round =>
    obtain ⟨i, pv, vs, rows, rfl, hi, rfl, hrows, hown0, hlen0, hrw, hb⟩ := hrel
    have HOW := Lib.hid hown0
    have HRW := Lib.hid hrw
    have HB := Lib.hid hb
    have HRO := Lib.hid hrows
    have hvn : vs.length ≤ 100 := by have h1 := hlen0; rw [hrows] at h1; simp at h1; omega
    have HLN := Lib.hid hlen0
    clear hrw hb hrows hown0 hlen0
    by_cases hli : i < G
    · have di : decide (i < G) = true := decide_eq_true hli
      obtain ⟨wq, rfl⟩ : ∃ wq : World, wq = wr := ⟨_, rfl⟩
      have HZ : Hid (w.heap.size ≤ wq.heap.size) := HB.out.size
      go_wp2_with fail
      go_loopw [7, 16] (fun v iv wr => LoF2 ps i wq v iv wr) (fun _ iv _ => n - (intOf iv).toNat)
      case atStart => exact ⟨0, _, [], rfl, Nat.zero_le _, rfl, rfl, World.ownsRow_nil _ _ _ _, Below.refl _ _⟩
      case round =>
        obtain ⟨j, qv, ns, rfl, hj, rfl, hns, hown, hb2⟩ := hrel
        have HO := Lib.hid hown
        have HB2 := Lib.hid hb2
        have HNS := Lib.hid hns
        have hnl : ns.length = j := by rw [hns]; simp; omega
        have HNL := Lib.hid hnl
        have hnl' : ns.length ≤ 10000 := by have := HN.out; omega
        have hzr : wq.heap.size ≤ wr.heap.size := hb2.size
        have HBw : Hid (Below w.heap.size w wr) := HB.out.trans (hb2.mono HZ.out)
        clear hown hb2 hns hnl
        by_cases hlj : j < n
        · have dj : decide (j < n) = true := decide_eq_true hlj
          have hj' : j < ps.length := by rw [← HN.out]; exact hlj
          obtain ⟨b, off, rfl, hbw, hcell⟩ := HA.out (by omega)
          obtain ⟨B, d, c1, hs⟩ := hcell j hj'
          have HS : Hid (SI wr (.slice B ps[j].length d) ps[j]) := (show Hid _ from hs.below HBw.out)
          have c2 := (HBw.out.cell (p := ⟨b, off + j, none⟩) hbw).trans c1
          have HXI : Hid (i64r (gd ps[j] i)) := (show Hid _ from by
            show i64r _
            by_cases h : i < ps[j].length
            · rw [gd_lt h]; exact HR.out _ (List.getElem_mem hj') _ (List.getElem_mem h)
            · rw [gd_ge (Nat.le_of_not_lt h)]; unfold i64r; omega)
          have HLP : Hid (ps[j].length ≤ 1000000) := (show Hid _ from HPL.out _ (List.getElem_mem hj'))
          have HSN : Hid (((ps.take (j + 1)).map fun p => gd p i) = ns ++ [gd ps[j] i]) := (show Hid _ from by
            show _ = _
            rw [List.take_succ_eq_append_getElem hj', List.map_append, ← HNS.out]; rfl)
          generalize ps[j] = p at HS c2 HXI HSN HLP
          obtain ⟨x, ex⟩ : ∃ x, x = gd p i := ⟨_, rfl⟩
          have HX := Lib.hid ex
          rw [← ex] at HSN
          obtain ⟨lp, elp⟩ : ∃ l, l = p.length := ⟨_, rfl⟩
          rw [← elp] at HS c2
          have HELP := Lib.hid elp
          clear hcell c1 hs elp
          go_wp2_with fail
          (with_reducible refine (coef_any p i _ wr (by have h := HS.out; rw [HELP.out] at h; rw [HELP.out]; exact h) HLP.out).mono ?_)
          rintro e wz ⟨rfl, hwz⟩
          subst hwz
          rw [← ex]
          clear ex
          go_wp2_with (at_builtin; refine wpList_append_int1 _ rfl _ _ 22 rfl wq.heap.size 3 Tryz.underlying22 iinfo _ ns rfl HO.out x rfl (by omega) hzr ?_; intro v3 w3 hown3 hg3; have HO3 := Lib.hid hown3; have HG3 := Lib.hid hg3; clear hown3 hg3)
          go_roundw
          case rel => exact ⟨j + 1, _, ns ++ [x], rfl, by have := HN.out; omega, by go_num, HSN.out.symm, HO3.out, (HB2.out.alloc hzr _).grown HG3.out (by simp; omega) (fun q hq => (HO.out.lt q hq).1)⟩
          case measure => simp [intOf]; omega
        · have dj : decide (j < n) = false := decide_eq_false hlj
          have HNE : Hid (ns = ps.map fun p => gd p i) := (show Hid _ from by
            have e : ps.take j = ps := List.take_of_length_le (by have := HN.out; omega)
            show _ = _
            rw [HNS.out, e])
          obtain ⟨A1, c1, e1⟩ := own_sl' HO.out
          subst e1
          have HRWr : Hid (∀ g, g < w.heap.size → RW w.heap.size g wr pv vs rows) := (show Hid _ from fun g hg => (HRW.out g hg).below hg (HB2.out.mono (Nat.le_refl _)))
          have HOWr : Hid (wr.ownsRow w.heap.size 22 1 pv vs.length vs) := (show Hid _ from own_bel HOW.out HB2.out)
          have HSX : Hid (∀ g, g < w.heap.size → SX (wr.alloc (.cells #[.slice A1 ns.length c1] 22)) pv.ownBlock (some g) (.slice A1 ns.length c1) ns) := (show Hid _ from fun g hg => SX.of_own (HO.out.alloc _) (fun x hx => by
              rw [HNE.out] at hx
              obtain ⟨p, hp, rfl⟩ := List.mem_map.1 hx
              by_cases h : i < p.length
              · rw [gd_lt h]; exact HR.out p hp _ (List.getElem_mem h)
              · rw [gd_ge (Nat.le_of_not_lt h)]; unfold i64r; omega) (fun q hq => (HOW.out.lt q hq).2) (fun q hq => by injection hq with e; have := HZ.out; omega))
          have hwz : w.heap.size ≤ wr.heap.size := HBw.out.size
          obtain ⟨n1, en1⟩ : ∃ n1, n1 = ns.length := ⟨_, rfl⟩
          rw [← en1] at HSX ⊢
          clear en1
          go_wp2_with (at_builtin; refine wpList_append_one_at _ rfl _ _ 33 rfl w.heap.size 22 (.slice none 0 0) 24 Tryz.underlying33 ilinfo pv vs.length vs rfl (HOWr.out.alloc _) (.slice A1 n1 c1) rfl wr.heap.size rfl (cells_new wr [.slice A1 n1 c1] 22 0 _ rfl) (by omega) (by omega) rfl (by simp; omega) ?_; intro g9 cap9 w9 hown9 hg9 hat9; have HO9 := Lib.hid hown9; have HG9 := Lib.hid hg9; have HA9 := Lib.hid hat9; clear hown9 hg9 hat9)
          have HRW9 : Hid (∀ g, g < w.heap.size → RW w.heap.size g w9 (.slice (some ⟨g9, 0, none⟩) (vs.length + 1) cap9) (vs ++ [.slice A1 n1 c1]) (rows ++ [ns])) := (show Hid _ from fun g hg =>
            ((HRWr.out g hg).below hg ((Below.refl _ wr).alloc (Nat.le_refl _) _)).app (HSX.out g hg) HO9.out HG9.out (fun q hq => by
              have e : g9 = q := by simpa [Value.ownBlock] using hq
              subst e; exact HA9.out))
          go_roundw
          case rel =>
            refine ⟨i + 1, _, _, rows ++ [ns], rfl, by omega, by go_num, ?_, by simpa using HO9.out, by simp [HLN.out], HRW9.out, ?_⟩
            · rw [HRO.out, HNE.out, List.range_succ, List.map_append]; rfl
            · exact (HBw.out.alloc hwz _).grown HG9.out (by simp; omega) (fun q hq => (HOWr.out.lt q hq).1)
          case measure => simp [intOf]; omega
    · have di : decide (i < G) = false := decide_eq_false hli
      have hiG : G = i := by omega
      subst hiG
      have HSL : Hid (∀ g, g < w.heap.size → SLE g wr pv rows) := (show Hid _ from fun g hg => (HRW.out g hg).sle hg)
      have hvl : vs.length = G := by rw [HLN.out, HRO.out]; simp
      have how := HOW.out
      rw [hvl] at how
      obtain ⟨A5, c5, e5⟩ := own_sl' how
      subst e5
      clear hvl how
      go_wp2_with fail
      go_ret
      exact ⟨_, _, rfl, HB.out, by rw [← HRO.out]; exact HSL.out⟩
end Go.Proofs.YtoiabanpnkpbhaaGreatDoor

namespace Go.Proofs.YtoiabanpnkpbhaaGreatDoor
open Go.RowKit

/-- the header of row j of a slice of rows -/
def hdH (w : World) (A : Option Addr) (j : Nat) : Value := match A with
  | some a => (w.cell? ⟨a.block, a.off + j, none⟩).getD undef
  | none => undef
theorem SLE.hdrs {z n c : Nat} {w : World} {A : Option Addr} {rows : List (List Int)} (h : SLE z w (.slice A n c) rows) : n = rows.length ∧ SC w.heap.size w (.slice A n c) n 1 ((List.range n).map (hdH w A)) ∧ ∀ j (hj : j < rows.length), SE z w (hdH w A j) rows[j] ∧ (hdH w A j).oneCell' = true := by
  obtain ⟨A', c', e, hc, hm, ha⟩ := h
  injection e with e1 e2 e3
  subst e1 e2 e3
  refine ⟨rfl, ⟨_, _, rfl, by simp, fun h0 => ?_⟩, fun j hj => ?_⟩
  · obtain ⟨b, off, rfl, hb, _, hcell⟩ := ha h0
    refine ⟨b, off, rfl, hb, fun j u hu => ?_⟩
    rw [List.getElem?_map] at hu
    obtain ⟨q, hq, rfl⟩ := Option.map_eq_some_iff.1 hu
    obtain ⟨hj, rfl⟩ := List.getElem?_eq_some_iff.1 hq
    rw [List.getElem_range]
    have hj' : j < rows.length := by simpa using hj
    obtain ⟨B, d, h1, _⟩ := hcell j hj'
    show _ = some ((w.cell? ⟨b, off + j, none⟩).getD undef)
    rw [h1]; rfl
  · obtain ⟨b, off, rfl, hb, _, hcell⟩ := ha (by omega)
    obtain ⟨B, d, h1, h2⟩ := hcell j hj
    have e : hdH w (some ⟨b, off, none⟩) j = .slice B rows[j].length d := by
      show (w.cell? ⟨b, off + j, none⟩).getD undef = _
      rw [h1]; rfl
    rw [e]; exact ⟨h2, rfl⟩
theorem SX.of_SEs {b : Nat} {X : Option Nat} {w : World} {v : Value} {l : List Int} (h : ∀ q, X = some q → SE q w v l) (h2 : SE b w v l) : SX w X (some b) v l := by
  obtain ⟨A, c, rfl, hc, hm, hr, ha⟩ := h2
  refine ⟨A, c, rfl, hc, hm, hr, fun h0 => ?_⟩
  obtain ⟨bb, off, e, hb, hne, hcell⟩ := ha h0
  refine ⟨bb, off, e, hb, fun e2 => ?_, by simpa using hne, hcell⟩
  obtain ⟨A3, c3, e3, _, _, _, ha3⟩ := h bb e2.symm
  injection e3 with e31 _ _
  obtain ⟨b4, off4, e4, _, hne4, _⟩ := ha3 h0
  rw [← e31, e] at e4
  injection e4 with e4
  injection e4 with e5 _ _
  exact hne4 e5.symm
theorem RW.apps {G g : Nat} {W W' : World} {pv pv' : Value} {vs us : List Value} {ps qs : List (List Int)} (h : RW G g W pv vs ps) (hul : us.length = qs.length)
    (hx : ∀ j (h1 : j < us.length) (h2 : j < qs.length), SX W pv.ownBlock (some g) us[j] qs[j]) (ho : W'.ownsRow G 22 1 pv' (vs.length + us.length) (vs ++ us)) (hg : W.grownBy W' pv.ownBlock) (hat : ∀ q, pv'.ownBlock = some q → pv.ownBlock = some q ∨ q = W.heap.size) : RW G g W' pv' (vs ++ us) (ps ++ qs) := by
  have hk : ∀ b, b < W.heap.size → some b ≠ pv.ownBlock → some b ≠ some g → W'.heap[b]? = W.heap[b]? ∧ some b ≠ pv'.ownBlock ∧ some b ≠ some g := fun b hb h1 h2 =>
    ⟨hg.block b hb h1, fun e => by rcases hat b e.symm with h3 | h3; exact h1 h3.symm; omega, h2⟩
  refine ⟨by simp [h.len, hul], by simpa using ho, fun j h1 h2 => ?_⟩
  by_cases hj : j < vs.length
  · have hj' : j < ps.length := by rw [← h.len]; exact hj
    simp only [List.getElem_append_left hj, List.getElem_append_left hj']
    exact (h.row j hj hj').keep hg.size hk
  · have h1' : j - vs.length < us.length := by simp at h1; omega
    have h2' : j - ps.length < qs.length := by have := h.len; omega
    have e1 : (vs ++ us)[j]'h1 = us[j - vs.length] := List.getElem_append_right (by omega)
    have e2 : (ps ++ qs)[j]'h2 = qs[j - ps.length] := List.getElem_append_right (by have := h.len; omega)
    rw [e1, e2]
    have h3 := hx (j - vs.length) h1' (by rw [← hul]; exact h1')
    have e3 : qs[j - ps.length] = qs[j - vs.length]'(by rw [← hul]; exact h1') := by simp [h.len]
    rw [e3]
    exact h3.keep hg.size hk
theorem wpList_append_hdrs {P : Program} (w : World) {ops : Array Oper} {rest : List Oper} {o : Oper} {a : Act} {Q : Exit → Act → World → Prop} (hgd : o.guard = none) (s x : Operand) (t : TypeId)
    (ho : o.op = .call { callee := .builtin .append, args := #[s, x], argTypes := #[t, t] })
    (base : Nat) (e : TypeId) (z : Value) (by' : Nat) (ht : P.underlying t = some (.slice e)) (hinfo : (P.info? e).map (fun i => (i.zero, i.size, i.bytes)) = some (some z, 1, by'))
    (v : Value) (n : Nat) (xs : List Value) (hs : a.eval s = v) (hown : w.ownsRow base e 1 v n xs)
    (src : Value) (m : Nat) (news : List Value) (hx : a.eval x = src) (B : Nat) (hr : SC B w src m 1 news) (h1 : ∀ u ∈ news, u.oneCell' = true) (hm : 0 < m)
    (hbytes : (n + m) * by' ≤ 140737488355328) (hn : n + m ≤ 1000000) (hzs : z.cells.size = 1) (hbase : base ≤ w.heap.size)
    (h : ∀ g cap w', w'.ownsRow base e 1 (.slice (some ⟨g, 0, none⟩) (n + m) cap) (n + m) (xs ++ news) → w.grownBy w' v.ownBlock → (v.ownBlock = some g ∨ g = w.heap.size) → wpList P ops Q rest (a.put o.dst (.slice (some ⟨g, 0, none⟩) (n + m) cap)) w') :
    wpList P ops Q (o :: rest) a w := by
  obtain ⟨i0, hi0, hz0, hz1, hz2⟩ := info_parts hinfo
  obtain ⟨v', w', hrun, h2, h3, h4⟩ := run_append_sc_at (P := P) w base t o.type e i0 _ 1 by' ht hi0 hz0 hz1 hz2 hzs (by omega) v _ _ hown B src m news hr h1 (by unfold maxLen; omega) hbytes hbase
  rcases h2.2 with ⟨_, hn'⟩ | ⟨g, cap, cur, rfl, hb, hg, hnc, hcm, hcs, htake⟩
  · omega
  · refine Lib.wpList_append_run w hgd s x t t ho _ _ hs hx _ w' hrun (h g cap w' h2 h3 ?_)
    rcases h4 with h4 | h4
    · exact .inl h4.symm
    · exact .inr (by simpa [Value.ownBlock] using h4)
def rPts (sv : List Int) (hs : List (List (List Int))) (G g c : Nat) : List (Int × Int) := (List.range G).map fun i => (gd sv i, gd (gr (g3 hs i) g) c)
theorem rPts_succ (sv : List Int) (hs : List (List (List Int))) (i g c : Nat) : rPts sv hs (i + 1) g c = rPts sv hs i g c ++ [(gd sv i, gd (gr (g3 hs i) g) c)] := by unfold rPts; rw [List.range_succ, List.map_append]; rfl
def rPols (P : Int) (sv : List Int) (hs : List (List (List Int))) (G g k : Nat) : List (List Int) := (List.range k).map fun c => interp P (rPts sv hs G g c)
theorem rPols_succ (P : Int) (sv : List Int) (hs : List (List (List Int))) (G g k : Nat) : rPols P sv hs G g (k + 1) = rPols P sv hs G g k ++ [interp P (rPts sv hs G g k)] := by unfold rPols; rw [List.range_succ, List.map_append]; rfl
def rGrp (P : Int) (sv : List Int) (hs : List (List (List Int))) (G wd g : Nat) : List (List Int) := (List.range G).map fun i => (rPols P sv hs G g wd).map fun p => gd p i
def rAll (P : Int) (sv : List Int) (hs : List (List (List Int))) (G wd k : Nat) : List (List Int) := (List.range k).flatMap fun g => rGrp P sv hs G wd g
theorem rAll_succ (P : Int) (sv : List Int) (hs : List (List (List Int))) (G wd k : Nat) : rAll P sv hs G wd (k + 1) = rAll P sv hs G wd k ++ rGrp P sv hs G wd k := by unfold rAll; rw [List.range_succ, List.flatMap_append]; simp
theorem rAll_len (P : Int) (sv : List Int) (hs : List (List (List Int))) (G wd : Nat) : ∀ k, (rAll P sv hs G wd k).length = k * G
  | 0 => by simp [rAll]
  | k + 1 => by rw [rAll_succ, List.length_append, rAll_len P sv hs G wd k, Nat.add_mul]; simp [rGrp]
def reE (P n : Int) (G : Nat) (wd rows : Int) (sv : List Int) (hs : List (List (List Int))) : Int :=
  if wd < 0 ∨ 64 < wd ∨ rows < 0 ∨ 1024 < rows then 4 else if sv.length < G then 11 else if hs.length ≠ sv.length then 2 else rcK n P wd (ngr rows.toNat G) sv hs sv.length
def reO (P n : Int) (G : Nat) (wd rows : Int) (sv : List Int) (hs : List (List (List Int))) : List (List Int) :=
  if reE P n G wd rows sv hs = 0 then (rAll P sv hs G wd.toNat (ngr rows.toNat G)).take rows.toNat else []
theorem rPts_len (sv : List Int) (hs : List (List (List Int))) (G g c : Nat) : (rPts sv hs G g c).length = G := by simp [rPts]
theorem rPts_ok {P n wd : Int} {N : Nat} {sv : List Int} {hs : List (List (List Int))} {G g c : Nat} (hp : prB P = true) (hnP : n < P) (hG : G ≤ sv.length) (hG2 : G ≤ 500) (h : rcK n P wd N sv hs sv.length = 0) (hg : g < N) : inE P (rPts sv hs G g c) = 0 := by
  have hall := rcK_all h
  have hx : els P (shX (rPts sv hs G g c)) = true := els_of fun x hx => by
    simp only [shX, rPts, List.map_map, List.mem_map] at hx
    obtain ⟨i, hi, rfl⟩ := hx
    have hi' := List.mem_range.1 hi
    obtain ⟨h1, _⟩ := rcOne_ok (hall i (by omega))
    exact el_mk (show 0 ≤ gd sv i ∧ gd sv i < P by omega)
  have hy : els P (shY (rPts sv hs G g c)) = true := els_of fun x hx => by
    simp only [shY, rPts, List.map_map, List.mem_map] at hx
    obtain ⟨i, hi, rfl⟩ := hx
    have hi' := List.mem_range.1 hi
    obtain ⟨_, _, h3, h4⟩ := rcOne_ok (hall i (by omega))
    have e : gr (g3 hs i) g = (g3 hs i)[g]'(by omega) := by unfold gr; rw [List.getElem?_eq_getElem (by omega)]; rfl
    have h5 := h4 _ (List.getElem_mem (show g < (g3 hs i).length by omega))
    show el P (gd (gr (g3 hs i) g) c) = true
    rw [e]
    exact els_gd (prB_bd hp).1 h5.2 c
  have hop : opE P [shX (rPts sv hs G g c), shY (rPts sv hs G g c)] = 0 := by
    have hb : longB [shX (rPts sv hs G g c), shY (rPts sv hs G g c)] = false := by
      simp [longB, shX_len, shY_len, rPts_len]; omega
    unfold opE
    rw [hp, hb, if_neg (by simp), if_neg (by simp [hx, hy]), if_neg (by simp)]
  refine (inE_0 hop ?_).1
  rw [List.nodup_iff_pairwise_ne, List.pairwise_iff_getElem]
  intro i k hi hk hik e
  rw [shX_len, rPts_len] at hi hk
  have ei : (shX (rPts sv hs G g c))[i]'(by rw [shX_len, rPts_len]; exact hi) = gd sv i := by simp [shX, rPts]
  have ek : (shX (rPts sv hs G g c))[k]'(by rw [shX_len, rPts_len]; exact hk) = gd sv k := by simp [shX, rPts]
  rw [ei, ek] at e
  obtain ⟨_, h2, _⟩ := rcOne_ok (hall k (by omega))
  have : gd sv k ∈ sv.take k := by
    rw [← e, gd_lt (show i < sv.length by omega)]
    exact List.mem_iff_getElem.2 ⟨i, by simp; omega, by simp⟩
  simp [has] at h2
  exact h2 this
set_option maxRecDepth 100000 in
theorem wideB_any (n : Int) (w : World) : Calls Tryz.prog 46 #[.int .i64 n] w fun e w' => e = .returned (.bool (decide (0 ≤ n ∧ n ≤ 64))) ∧ w = w' := by
  by_cases h1 : 0 ≤ n
  · have d1 : decide (n ≥ 0) = true := decide_eq_true h1
    have d1' : decide (0 ≤ n) = true := decide_eq_true h1
    by_cases h2 : n ≤ 64
    · have d2 : decide (n ≤ 64) = true := decide_eq_true h2
      have hd : decide (0 ≤ n ∧ n ≤ 64) = true := decide_eq_true ⟨h1, h2⟩
      rw [hd]
      go_enter Tryz.func46, Tryz.ntmps46
      go_wp2_with fail
      go_ret
      exact ⟨rfl, rfl⟩
    · have d2 : decide (n ≤ 64) = false := decide_eq_false h2
      have hd : decide (0 ≤ n ∧ n ≤ 64) = false := decide_eq_false (by omega)
      rw [hd]
      go_enter Tryz.func46, Tryz.ntmps46
      go_wp2_with fail
      go_ret
      exact ⟨rfl, rfl⟩
  · have d1 : decide (n ≥ 0) = false := decide_eq_false (by omega)
    have d1' : decide (0 ≤ n) = false := decide_eq_false h1
    have hd : decide (0 ≤ n ∧ n ≤ 64) = false := decide_eq_false (by omega)
    rw [hd]
    go_enter Tryz.func46, Tryz.ntmps46
    go_wp2_with fail
    go_ret
    exact ⟨rfl, rfl⟩
def Qb1 (P : Int) (sv : List Int) (hs : List (List (List Int))) (G wd N F : Nat) (w5 : World) (v iv : Value) (wr : World) : Prop :=
  ∃ (k : Nat) (pv : Value) (vs : List Value), pv = v ∧ k ≤ N ∧ iv = .int .i64 k ∧ RW w5.heap.size F wr pv vs (rAll P sv hs G wd k) ∧ Below w5.heap.size w5 wr
def Qb2 (P : Int) (sv : List Int) (hs : List (List (List Int))) (G wd g F : Nat) (wq : World) (v iv : Value) (wr : World) : Prop :=
  ∃ (c : Nat) (pv : Value) (vs : List Value), pv = v ∧ c ≤ wd ∧ iv = .int .i64 c ∧ RW wq.heap.size F wr pv vs (rPols P sv hs G g c) ∧ Below wq.heap.size wq wr
def Qb3 (sv : List Int) (hs : List (List (List Int))) (G g c : Nat) (wc : World) (v iv : Value) (wr : World) : Prop :=
  ∃ (i : Nat) (pv : Value) (l : List (Int × Int)), pv = v ∧ i ≤ G ∧ iv = .int .i64 i ∧ l = rPts sv hs i g c ∧ wr.ownsRow wc.heap.size 114 2 pv l.length ((l.flatMap pcs).map (Value.int .i64)) ∧ Below wc.heap.size wc wr
end Go.Proofs.YtoiabanpnkpbhaaGreatDoor
