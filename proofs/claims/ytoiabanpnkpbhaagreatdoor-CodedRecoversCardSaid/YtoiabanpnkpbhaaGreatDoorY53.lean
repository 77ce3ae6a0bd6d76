/- Joined: Qn Op. -/
import Derived.Deep.Slices
import Derived.Test.YtoiabanpnkpbhaaGreatDoorY52
import Derived.Test.YtoiabanpnkpbhaaGreatDoorY51
import Derived.Test.YtoiabanpnkpbhaaGreatDoorY50
import Derived.Test.YtoiabanpnkpbhaaGreatDoorY32
import Derived.Test.YtoiabanpnkpbhaaGreatDoorY36
import Derived.Test.YtoiabanpnkpbhaaGreatDoorY29
import Derived.Test.YtoiabanpnkpbhaaGreatDoorY28
import Derived.Test.YtoiabanpnkpbhaaGreatDoorY47
namespace Go.Proofs.YtoiabanpnkpbhaaGreatDoor
open Go.RowKit

/-- the loop that lets every server hold its part -/
def Rcl (P : Int) (rows : List (List Int)) (wd G n N B g : Nat) (O : List Int) (w8 : World) (pw po iv : Value) (wr : World) : Prop :=
  ∃ (i : Nat) (vs : List Value), i ≤ n ∧ iv = .int .i64 i ∧ OW B g wr pw po ((O.take i).map (· + 1)) vs (((O.take i).map (· + 1)).map fun j => hRows P rows j wd G N) ∧ Below B w8 wr

set_option maxRecDepth 100000 in
set_option maxHeartbeats 16000000 in
theorem grecovers_any (l sv : List Int) (hs : List (List (List Int))) (wdr cnt : Int) (v vs vh : Value) (w : World) (h : SI w v l) (hsv : SI w vs sv) (hsh : SLL w vh hs) (_hwdr : i64r wdr) (hcnt : i64r cnt) (hE : EW w) :
    Calls Tryz.prog 9 #[v, vs, vh, .int .i64 wdr, .int .i64 cnt] w fun e w' => e = .returned (.bool true) ∧ Below w.heap.size w w' := by
  have HS := Lib.hid h
  have HE := Lib.hid hE
  have HSV := Lib.hid hsv
  have HSH := Lib.hid hsh
  obtain ⟨A, c, rfl⟩ := h.form
  obtain ⟨Av, cv, rfl⟩ := hsv.form
  obtain ⟨Ah, ch, rfl, hat⟩ := hsh.at
  have HAT := Lib.hid hat
  have hMb : hs.length ≤ 9223372036854775807 := by obtain ⟨_, _, _, h1, h2, _⟩ := hsh; omega
  have hLb : sv.length ≤ 9223372036854775807 := by obtain ⟨_, _, _, h1, h2, _⟩ := hsv; omega
  obtain ⟨M, eM⟩ : ∃ M, M = hs.length := ⟨_, rfl⟩
  obtain ⟨L, eL⟩ : ∃ L, L = sv.length := ⟨_, rfl⟩
  rw [← eM] at hMb HSH ⊢
  rw [← eL] at hLb HSV ⊢
  have HM := Lib.hid eM
  have HL := Lib.hid eL
  clear h hE hsv hsh hat eM eL
  go_enter Tryz.func9, Tryz.ntmps9
  go_wp2_with fail
  (with_reducible refine (sane_any _ HE.out).mono ?_)
  rintro e w1 ⟨rfl, hb1⟩
  have HB1 := Lib.hid hb1
  have HS1 := Lib.hid (HS.out.below hb1)
  clear hb1
  go_wp2_with fail
  go_loopw [11, 41] (fun nv iv wr => ∃ (k : Nat) (x : Int), k ≤ M ∧ iv = .int .i64 k ∧ nv = .int .i64 x ∧ w1 = wr) (fun _ iv _ => M - (intOf iv).toNat)
  case atStart => exact ⟨0, 0, Nat.zero_le _, rfl, rfl, rfl⟩
  case round =>
    obtain ⟨k, x, hk, rfl, rfl, rfl⟩ := hrel
    by_cases hlk : k < M
    · have dk : decide (k < M) = true := decide_eq_true hlk
      have hkh : k < hs.length := by rw [← HM.out]; exact hlk
      obtain ⟨bh, oh, Bh, dh, eAh, hW⟩ := HAT.out k hkh
      subst eAh
      obtain ⟨ckh, hsl⟩ := hW w1 HB1.out
      obtain ⟨rs, ers⟩ : ∃ rs, rs = hs[k] := ⟨_, rfl⟩
      rw [← ers] at ckh hsl
      have hrb : rs.length ≤ 9223372036854775807 := by obtain ⟨_, _, _, h1, h2, _⟩ := hsl; omega
      obtain ⟨Ar, cr, er, hrt⟩ := hsl.at
      injection er with er1 er2 er3
      subst er1 er3
      have HRT := Lib.hid hrt
      obtain ⟨rl, erl⟩ : ∃ rl, rl = rs.length := ⟨_, rfl⟩
      rw [← erl] at ckh hrb
      have HRL := Lib.hid erl
      clear hW hsl ers hrt erl er2
      go_wp2_with fail
      go_loopw [11, 47] (fun nv iv wr => ∃ (q : Nat) (x : Int), q ≤ rl ∧ iv = .int .i64 q ∧ nv = .int .i64 x ∧ w1 = wr) (fun _ iv _ => rl - (intOf iv).toNat)
      case atStart => exact ⟨0, x, Nat.zero_le _, rfl, rfl, rfl⟩
      case round =>
        obtain ⟨q, y, hq, rfl, rfl, rfl⟩ := hrel
        by_cases hlq : q < rl
        · have dq : decide (q < rl) = true := decide_eq_true hlq
          have hqr : q < rs.length := by rw [← HRL.out]; exact hlq
          obtain ⟨b5, o5, B5, d5, eA5, hW5⟩ := HRT.out q hqr
          subst eA5
          obtain ⟨c5, _⟩ := hW5 w1 (Below.refl _ _)
          clear hW5
          go_wp2_with fail
          go_roundw
          case rel => exact ⟨q + 1, _, by omega, by go_num, rfl, by simp⟩
          case measure => simp [intOf]; omega
        · have dq : decide (q < rl) = false := decide_eq_false hlq
          go_wp2_with fail
          go_roundw
          case rel => exact ⟨k + 1, _, by omega, by go_num, rfl, by simp⟩
          case measure => simp [intOf]; omega
    · have dk : decide (k < M) = false := decide_eq_false hlk
      clear hk
      go_wp2_with fail
      (with_reducible refine (few_any l _ w1 HS1.out).mono ?_)
      rintro e wz ⟨rfl, hwz⟩
      subst hwz
      by_cases h5 : l.length ≤ 500
      case' neg =>
        have d5 : decide (l.length ≤ 500) = false := decide_eq_false h5
        rw [d5]
        clear d5 h5
        go_wp2_with fail
        go_ret
        exact ⟨rfl, HB1.out⟩
      have d5 : decide (l.length ≤ 500) = true := decide_eq_true h5
      rw [d5]
      clear d5 h5
      by_cases hL4 : 40 < L
      case' pos =>
        have dl : decide (40 < L) = true := decide_eq_true hL4
        have di : decide ((40 : Int) < (L : Int)) = true := decide_eq_true (by omega)
        go_wp2_with fail
        go_ret
        exact ⟨rfl, HB1.out⟩
      have dl : decide (40 < L) = false := decide_eq_false hL4
      have dli : decide ((40 : Int) < (L : Int)) = false := decide_eq_false (by omega)
      by_cases hM4 : 40 < M
      case' pos =>
        have dm : decide (40 < M) = true := decide_eq_true hM4
        have dmi : decide ((40 : Int) < (M : Int)) = true := decide_eq_true (by omega)
        go_wp2_with fail
        go_ret
        exact ⟨rfl, HB1.out⟩
      have dm : decide (40 < M) = false := decide_eq_false hM4
      have dmi : decide ((40 : Int) < (M : Int)) = false := decide_eq_false (by omega)
      by_cases hx8 : 800 < x
      case' pos =>
        have dx : decide (800 < x) = true := decide_eq_true hx8
        go_wp2_with fail
        go_ret
        exact ⟨rfl, HB1.out⟩
      have dx : decide (800 < x) = false := decide_eq_false hx8
      go_wp2_with fail
      (with_reducible refine (new_any l _ w1 HS1.out).mono ?_)
      rintro e w2 ⟨rfl, hd2, hb2, hz2⟩
      obtain ⟨g, eg⟩ : ∃ g, g = w1.heap.size := ⟨_, rfl⟩
      rw [← eg] at hd2 ⊢
      have HD2 := Lib.hid hd2
      have HB2 : Hid (Below w.heap.size w w2) := HB1.out.trans (hb2.mono HB1.out.size)
      have HGW : Hid (w.heap.size ≤ g) := (show Hid _ from by rw [eg]; exact HB1.out.size)
      have HG2 : Hid (g < w2.heap.size) := hd2.lt
      clear hd2 hb2 hz2 eg dl dli dm dmi dx hlk dk
      go_wp2_with fail
      (with_reducible refine (storage_any g w2 HD2.out).mono ?_)
      rintro e w3 ⟨P, n0, t0', G0, rfl, hd3, hg3, hV, ht2, hG3⟩
      have hn2 := hV.n2
      have hn10 := hV.n10
      have hnP := hV.nP
      have ht1 := hV.t1
      have hG1 := hV.G1
      have hsum := hV.sum
      obtain ⟨n, rfl⟩ : ∃ n : Nat, n0 = n := ⟨n0.toNat, by omega⟩
      obtain ⟨t, rfl⟩ : ∃ t : Nat, t0' = t := ⟨t0'.toNat, by omega⟩
      obtain ⟨G, rfl⟩ : ∃ G : Nat, G0 = G := ⟨G0.toNat, by omega⟩
      have HV := Lib.hid hV
      have hPb := hV.pb
      have hPi : i64r P := by unfold i64r; omega
      obtain ⟨F, eF⟩ : ∃ F, F = w3.heap.size := ⟨_, rfl⟩
      obtain ⟨w4, ew4⟩ : ∃ w4 : World, w4 = (w3.alloc (.cells #[.int .i64 P] 31)).alloc (.cells #[.int .i64 n, .int .i64 t, .int .i64 G] 29) := ⟨_, rfl⟩
      have HWw4 : Hid ((w3.alloc (.cells #[.int .i64 P] 31)).alloc (.cells #[.int .i64 n, .int .i64 t, .int .i64 G] 29) = w4) := ew4.symm
      have HAw4 : Hid (Below w3.heap.size w3 w4) := (show Hid _ from by rw [ew4]; exact ((Below.refl _ w3).alloc (Nat.le_refl _) _).alloc (by simp) _)
      have HF0w4 : Hid (w4.heap[F]? = some (.cells #[.int .i64 P] 31 (0, 0))) := (show Hid _ from by show _ = _; rw [ew4, eF, Below.heap_alloc _ _ _ (by simp)]; exact heap_alloc_new w3 _)
      have HF1w4 : Hid (w4.heap[F + 1]? = some (.cells #[.int .i64 n, .int .i64 t, .int .i64 G] 29 (0, 0))) := (show Hid _ from by show _ = _; rw [ew4, eF]; have := heap_alloc_new (w3.alloc (.cells #[.int .i64 P] 31)) (.cells #[.int .i64 n, .int .i64 t, .int .i64 G] 29); simpa using this)
      have HGF : Hid (g < F) := (show Hid _ from by rw [eF]; have := hg3.size; have := HG2.out; show g < _; omega)
      have HXC : Hid (∀ W, w4.grownBy W (some g) → W.cell? ⟨F, 0, none⟩ = some (.int .i64 P) ∧ W.cell? ⟨F + 1, 0, none⟩ = some (.int .i64 n) ∧ W.cell? ⟨F + 1, 1, none⟩ = some (.int .i64 t) ∧ W.cell? ⟨F + 1, 2, none⟩ = some (.int .i64 G)) := (show Hid _ from fun W hg => by
        have hF0 := (hg.block F (heap_of_cells HF0w4.out) (by have := HGF.out; simp; omega)).trans HF0w4.out
        have hF1 := (hg.block (F + 1) (heap_of_cells HF1w4.out) (by have := HGF.out; simp; omega)).trans HF1w4.out
        exact ⟨cell_of_row W F 0 _ _ _ hF0, cell_of_row W (F + 1) 0 _ _ _ hF1, cell_of_row W (F + 1) 1 _ _ _ hF1, cell_of_row W (F + 1) 2 _ _ _ hF1⟩)
      have HD4 := Lib.hid (hd3.below HAw4.out)
      have HG24 : Hid (w2.grownBy w4 (some g)) := grownBy_trans hg3 (grownBy_of_below HAw4.out _)
      have HBF : Hid (∀ W, w4.grownBy W (some g) → Below w.heap.size w W) := (show Hid _ from fun W hg => HB2.out.grown (grownBy_trans HG24.out hg) HB2.out.size (fun k hk => by injection hk with e; subst e; exact HGW.out))
      clear hd3 hg3 hV
      go_upto_region 7 with fail
      rw [HWw4.out, ← eF]
      clear ew4 eF
      go_wp2_with fail
      (with_reducible refine (next_any 6 g w4 HD4.out (i64_s (by omega)) (by omega)).mono ?_)
      rintro e w5 ⟨y0, rfl, _, hy, hd5, hg5⟩
      obtain ⟨hy1, hy2⟩ := hy (by omega)
      obtain ⟨m, rfl⟩ : ∃ m : Nat, y0 = m := ⟨y0.toNat, by omega⟩
      have hm5 : m ≤ 5 := by omega
      have HD5 := Lib.hid hd5
      have HG45 : Hid (w4.grownBy w5 (some g)) := hg5
      clear hy hy1 hy2 hd5 hg5
      go_wp2_with fail
      (with_reducible refine (next_any 4 g w5 HD5.out (i64_s (by omega)) (by omega)).mono ?_)
      rintro e w6 ⟨y0, rfl, _, hy, hd6, hg6⟩
      obtain ⟨hy1, hy2⟩ := hy (by omega)
      obtain ⟨wd, rfl⟩ : ∃ wd : Nat, y0 = wd := ⟨y0.toNat, by omega⟩
      have hwd3 : wd ≤ 3 := by omega
      have HD6 := Lib.hid hd6
      have HG46 : Hid (w4.grownBy w6 (some g)) := (show Hid _ from grownBy_trans HG45.out hg6)
      clear hy hy1 hy2 hd6 hg6
      obtain ⟨f0, p0, p1, p2⟩ := HXC.out w6 HG46.out
      go_wp2_with fail
      (with_reducible refine (rows_any g m wd P w6 HD6.out (by omega) (by omega) (by omega)).mono ?_)
      rintro e w7 ⟨vr, rows, rfl, hrl, hrw, hsle, hd7, hg7⟩
      obtain ⟨Ar, cr, evr⟩ := hsle.form
      subst evr
      have HRW := Lib.hid hrw
      have HRS7 := Lib.hid hsle
      have HRL := Lib.hid hrl
      have HD7 := Lib.hid hd7
      have HG47 : Hid (w4.grownBy w7 (some g)) := (show Hid _ from grownBy_trans HG46.out hg7)
      clear f0 p0 p1 p2 hrw hsle hd7 hg7
      rw [hrl] at HRS7 ⊢
      clear hrl
      obtain ⟨f0, p0, p1, p2⟩ := HXC.out w7 HG47.out
      go_wp2_with fail
      (with_reducible refine (order_any n g w7 HD7.out (by omega)).mono ?_)
      rintro e w8 ⟨vo, O, rfl, hperm, hown, hd8, hg8⟩
      have hOl : O.length = n := by have := hperm.length_eq; simpa [nums] using this
      have HPM := Lib.hid hperm
      have HOO := Lib.hid hown
      have HOL := Lib.hid hOl
      have HD8 := Lib.hid hd8
      have HG48 : Hid (w4.grownBy w8 (some g)) := (show Hid _ from grownBy_trans HG47.out hg8)
      have HRS8 := Lib.hid (HRS7.out.grown hg8)
      have HON : Hid (O.Nodup) := (show Hid _ from hperm.nodup_iff.2 (nums_nodup n))
      have HOB : Hid (∀ j ∈ O, 0 ≤ j ∧ j < (n : Int)) := (show Hid _ from fun j hj => nums_bd n j (hperm.mem_iff.1 hj))
      rcases hown.2 with ⟨_, h0⟩ | ⟨bo, co, curO, hvo, hbo, _⟩
      · omega
      subst hvo
      obtain ⟨B, eB⟩ : ∃ B, B = w8.heap.size := ⟨_, rfl⟩
      have HEB := Lib.hid eB
      have HBO : Hid (bo < B) := (show Hid _ from by show _ < _; rw [eB]; exact (hown.lt bo rfl).2)
      have HGB : Hid (g < B) := (show Hid _ from by show _ < _; rw [eB]; exact hd8.lt)
      rw [hOl] at HOO ⊢
      clear f0 p0 p1 p2 hperm hown hOl hd8 hg8 hbo eB
      obtain ⟨N, eN⟩ : ∃ N, N = ngr m G := ⟨_, rfl⟩
      have HEN := Lib.hid eN
      clear eN
      go_wp2_with fail
      go_loopw [22, 23, 96] (fun pw po iv wr => Rcl P rows wd G n N B g O w8 pw po iv wr) (fun _ _ iv _ => n - (intOf iv).toNat)
      case atStart => exact ⟨0, [], Nat.zero_le _, rfl, OW.nil _ _ _, Below.refl _ _⟩
      case round =>
        obtain ⟨i, vs, hi, rfl, how, hbr⟩ := hrel
        have HOW := Lib.hid how
        have HBR := Lib.hid hbr
        have HG4r : Hid (w4.grownBy wr (some g)) := (show Hid _ from grownBy_trans HG48.out (grownBy_of_below (HEB.out ▸ hbr) _))
        have HRSr : Hid (SLE g wr (.slice Ar m cr) rows) := (show Hid _ from HRS8.out.below (HEB.out ▸ hbr))
        clear how hbr
        obtain ⟨f0, p0, p1, p2⟩ := HXC.out wr HG4r.out
        by_cases hli : i < n
        · have di : decide (i < n) = true := decide_eq_true hli
          have hiO : i < O.length := by rw [HOL.out]; exact hli
          have hjb := HOB.out O[i] (List.getElem_mem hiO)
          obtain ⟨jn, ejn⟩ : ∃ jn : Nat, O[i] = (jn : Int) := ⟨O[i].toNat, by omega⟩
          have hjn : jn < n := by omega
          have HTK : Hid (O.take (i + 1) = O.take i ++ [(jn : Int)]) := (show Hid _ from by show _ = _; rw [← List.take_append_getElem hiO, ejn])
          have cO : wr.cell? ⟨bo, i, none⟩ = some (.int .i64 (jn : Int)) := by
            have h2 := HOO.out.cellAt i (by omega)
            rw [(HBR.out.cell (p := ⟨bo, i, none⟩) HBO.out), h2, List.getElem?_map, List.getElem?_eq_getElem hiO, ejn]; rfl
          obtain ⟨jj, ejj⟩ : ∃ jj : Nat, (jj : Int) = (jn : Int) + 1 := ⟨jn + 1, by omega⟩
          have hjj : 1 ≤ jj ∧ jj ≤ n := by omega
          have wj : IntKind.i64.wrap ((jn : Int) + 1) = (jj : Int) := by rw [ejj]; exact IntWalk.i64_in _ (by omega)
          have HJJ := Lib.hid ejj
          clear hjb ejn hiO ejj
          go_wp2_with fail
          (with_reducible refine (rholdF_ok P n t G wd jj rows _ wr HV.out ⟨by omega, by omega⟩ (by omega) (by rw [HRL.out]; omega) HRW.out HRSr.out.sl).mono ?_)
          rintro e w9 ⟨Ax, cx, rfl, hb9, hx9⟩
          rw [HRL.out, ← HEN.out] at hx9 ⊢
          have HX9 := Lib.hid hx9
          have HB9 := Lib.hid hb9
          have HOW9 := Lib.hid (HOW.out.below hb9)
          have hwB : B ≤ w9.heap.size := Nat.le_trans (Nat.le_trans (Nat.le_of_eq HEB.out) HBR.out.size) hb9.size
          clear hx9 hb9
          have hwl : ((O.take i).map (· + 1)).length = i := by rw [List.length_map, List.length_take, HOL.out]; omega
          have hvl : vs.length = i := by rw [HOW.out.len, List.length_map, hwl]
          have HWL := Lib.hid hwl
          have HW0 : Hid (w9.ownsRow B 3 1 u22 i (((O.take i).map (· + 1)).map (Value.int .i64))) := (show Hid _ from by have h := HOW9.out.who; rw [hwl] at h; exact h)
          have HX0 : Hid (∀ z, (u22.ownBlock = some z ∨ u23.ownBlock = some z ∨ z = g) → z < wr.heap.size) := (show Hid _ from fun z hz => by
            rcases hz with h | h | h
            · exact (HOW.out.who.lt z h).2
            · exact (HOW.out.hdr.lt z h).2
            · rw [h]; exact Nat.lt_of_lt_of_le HGB.out (Nat.le_trans (Nat.le_of_eq HEB.out) HBR.out.size))
          have hz1 : B ≤ wr.heap.size := Nat.le_trans (Nat.le_of_eq HEB.out) HBR.out.size
          clear hwl
          go_wp2_with (at_builtin; first
            | (refine wpList_append_one_at _ rfl _ _ 22 rfl B 3 (.int .i64 0) 8 Tryz.underlying22 iinfo u22 i _ rfl (HW0.out.alloc _) (.int .i64 jj) rfl w9.heap.size rfl (cells_new w9 [.int .i64 jj] 3 0 _ rfl) (by omega) (by omega) rfl (by simp; omega) ?_; intro ga ca wa howna hga hata; have HOA := Lib.hid howna; have HGA := Lib.hid hga; have HAA := Lib.hid hata; clear howna hga hata; have HAS : Hid (w9.heap.size < wa.heap.size) := (show Hid _ from by have h := HGA.out.size; simp at h; exact h);
               have HOWa : Hid (OW B g wa (.slice (some ⟨ga, 0, none⟩) (i + 1) ca) u23 (((O.take i).map (· + 1)) ++ [(jj : Int)]) vs (((O.take i).map (· + 1)).map fun j => hRows P rows j wd G N)) := (show Hid _ from (HOW9.out.below ((Below.refl _ w9).alloc (Nat.le_refl _) _)).appW (x := (jj : Int)) (by have h := HOA.out; rw [HWL.out]; simpa using h) HGA.out fun q hq => by simp [Value.ownBlock] at hq; subst hq; exact HAA.out);
               have HDa : Hid (wa.ownsRow B 33 1 u23 i vs) := (show Hid _ from by have h := HOWa.out.hdr; rw [hvl] at h; exact h))
            | (refine wpList_append_one_at _ rfl _ _ 71 rfl B 33 (.slice none 0 0) 24 Tryz.underlying71 rowsinfo u23 i vs rfl (HDa.out.alloc _) (.slice Ax N cx) rfl wa.heap.size rfl (cells_new wa [.slice Ax N cx] 33 0 _ rfl) (by omega) (by omega) rfl (by have := HAS.out; simp; omega) ?_; intro gb cb wb hownb hgb hatb; have HOB2 := Lib.hid hownb; have HGB2 := Lib.hid hgb; have HAB2 := Lib.hid hatb; clear hownb hgb hatb))
          go_roundw
          case rel =>
            have b1 : Below B w8 w9 := HBR.out.trans (HB9.out.mono hz1)
            have b2 := b1.alloc hwB (.cells #[.int .i64 (jj : Int)] 3)
            have b3 : Below B w8 wa := b2.grown HGA.out (Nat.le_trans hwB (by simp)) fun k hk => (HOW.out.who.lt k hk).1
            have hz3 : B ≤ wa.heap.size := Nat.le_trans hwB (Nat.le_of_lt HAS.out)
            have b4 := b3.alloc hz3 (.cells #[.slice Ax N cx] 33)
            have hbz : Below B w8 wb := b4.grown HGB2.out (Nat.le_trans hz3 (by simp)) fun k hk => (HOW.out.hdr.lt k hk).1
            have k0 : ∀ z, (z < wr.heap.size ∨ (w9.alloc (.cells #[.int .i64 (jj : Int)] 3)).heap.size ≤ z) → SLE z (w9.alloc (.cells #[.int .i64 (jj : Int)] 3)) (.slice Ax N cx) (hRows P rows (jj : Int) wd G N) := fun z hz => by
              have q : ∀ y, y < wr.heap.size → SLE y (w9.alloc (.cells #[.int .i64 (jj : Int)] 3)) (.slice Ax N cx) (hRows P rows (jj : Int) wd G N) := fun y hy => (HX9.out y hy).below ((Below.refl _ w9).alloc (Nat.le_refl _) _)
              rcases hz with h | h
              · exact q z h
              · exact (q g (HX0.out g (.inr (.inr rfl)))).fresh h
            have k1 : ∀ z, (z < wr.heap.size ∨ (w9.alloc (.cells #[.int .i64 (jj : Int)] 3)).heap.size ≤ z) → SLE z wa (.slice Ax N cx) (hRows P rows (jj : Int) wd G N) := fun z hz => (k0 z hz).moves HGA.out fun q hq => k0 q (.inl (HX0.out q (.inl hq)))
            have k2 : ∀ z, ((Value.slice (some ⟨ga, 0, none⟩) (i + 1) ca).ownBlock = some z ∨ u23.ownBlock = some z ∨ z = g) → SLE z (wa.alloc (.cells #[.slice Ax N cx] 33)) (.slice Ax N cx) (hRows P rows (jj : Int) wd G N) := fun z hz => by
              refine SLE.below ?_ ((Below.refl _ wa).alloc (Nat.le_refl _) _)
              rcases hz with h | h | h
              · have h0 : ga = z := by simpa [Value.ownBlock] using h
                subst h0
                rcases HAA.out with h1 | h1
                · exact k1 _ (.inl (HX0.out _ (.inl h1)))
                · exact k1 _ (.inr (Nat.le_of_eq h1.symm))
              · exact k1 _ (.inl (HX0.out _ (.inr (.inl h))))
              · exact k1 _ (.inl (HX0.out _ (.inr (.inr h))))
            have k3 := (HOWa.out.below ((Below.refl _ wa).alloc (Nat.le_refl _) (.cells #[.slice Ax N cx] 33))).appO k2 (by have h := HOB2.out; rw [hvl]; exact h) HGB2.out fun q hq => by simp [Value.ownBlock] at hq; subst hq; exact HAB2.out
            have e1 : ([(jn : Int)]).map (· + 1) = [(jj : Int)] := by simp [HJJ.out]
            refine ⟨i + 1, vs ++ [.slice Ax N cx], by omega, by go_num, ?_, hbz⟩
            rw [HTK.out, List.map_append, e1, List.map_append]
            exact k3
          case measure => simp [intOf]; omega
        · have di : decide (i < n) = false := decide_eq_false hli
          have hin : i = n := by omega
          subst hin
          obtain ⟨Wl, eWl⟩ : ∃ Wl, Wl = O.map (· + 1) := ⟨_, rfl⟩
          obtain ⟨Hs, eHs⟩ : ∃ Hs, Hs = Wl.map fun j => hRows P rows j wd G N := ⟨_, rfl⟩
          have HOWn : Hid (OW B g wr u22 u23 Wl vs Hs) := (show Hid _ from by
            have h := HOW.out
            rw [List.take_of_length_le (Nat.le_of_eq HOL.out), ← eWl, ← eHs] at h
            exact h)
          have HWl := Lib.hid eWl
          have HHs := Lib.hid eHs
          have HWN : Hid (Wl.length = i) := (show Hid _ from by show _ = _; rw [eWl, List.length_map, HOL.out])
          have HHN : Hid (Hs.length = i) := (show Hid _ from by show _ = _; rw [eHs, List.length_map, HWN.out])
          have HWB : Hid (∀ j ∈ Wl, 1 ≤ j ∧ j ≤ (i : Int)) := (show Hid _ from fun j hj => by
            rw [eWl] at hj
            obtain ⟨u, hu, e⟩ := List.mem_map.1 hj
            have h := HOB.out u hu
            omega)
          have HWD : Hid (Wl.Nodup) := (show Hid _ from by
            rw [eWl]
            exact List.Pairwise.map _ (fun a b h e => h (by simpa using e)) HON.out)
          have HRE : Hid (∀ q : Nat, G ≤ q → q ≤ i → reE P i G wd m (Wl.take q) (Hs.take q) = 0 ∧ reO P i G wd m (Wl.take q) (Hs.take q) = rows) := (show Hid _ from fun q hq1 hq2 => by
            have hlen : (Wl.take q).length = q := by rw [List.length_take, HWN.out]; omega
            have hV := HV.out
            have h := rec_hold (P := P) (n := i) (G := G) (wd := wd) (table := rows) (who := Wl.take q) hV.pr hnP (by omega) (by omega) (fun j hj => HWB.out j (List.mem_of_mem_take hj)) (HWD.out.sublist (List.take_sublist _ _)) HRW.out (by omega) (by rw [HRL.out]; omega)
            rw [HRL.out, ← HEN.out, List.map_take, ← HHs.out] at h
            exact h)
          clear eWl eHs
          go_upto_region 27 with fail
          have HDr : Hid (Dk wr g) := (show Hid _ from HD8.out.below (HEB.out ▸ HBR.out))
          have HX27 : Hid (∀ W, wr.grownBy W (some g) → W.cell? ⟨F + 1, 0, none⟩ = some (.int .i64 i) ∧ W.cell? ⟨F + 1, 2, none⟩ = some (.int .i64 G)) := (show Hid _ from fun W hg => by
            obtain ⟨_, h0, _, h2⟩ := HXC.out W (grownBy_trans HG4r.out hg)
            exact ⟨h0, h2⟩)
          have HN27 : Hid (∀ W, Dk W g → Calls Tryz.prog 13 #[.pointer (some ⟨g, 0, none⟩), .int .i64 ((i : Int) - (G : Int) + 1)] W fun e w' => ∃ x, e = .returned (.int .i64 x) ∧ (0 ≤ x ∧ x ≤ (i : Int) - (G : Int)) ∧ Dk w' g ∧ W.grownBy w' (some g)) := (show Hid _ from fun W hd =>
            (next_any ((i : Int) - (G : Int) + 1) g W hd (by unfold i64r; omega) (by omega)).mono fun e w' ⟨x, h1, _, h3, h4, h5⟩ => ⟨x, h1, by have h6 := h3 (by omega); omega, h4, h5⟩)
          apply regZ27 g (F + 1) i G wr ⟨by omega, by omega, by omega⟩ HX27.out HDr.out HN27.out
          rintro u28 u120 u121 u122 u123 u124 u125 u126 u127 u128 u129 u130 kk w9 ⟨rfl, hkk, hd9, hg9⟩
          have HD9 := Lib.hid hd9
          have HG49 : Hid (w4.grownBy w9 (some g)) := (show Hid _ from grownBy_trans HG4r.out hg9)
          have HOW9 := Lib.hid (HOWn.out.grownG hg9 HGB.out)
          have HRS9 := Lib.hid (HRSr.out.grown hg9)
          clear hd9 hg9
          obtain ⟨Ao, co', epo, hco1, hco2, hslh⟩ := HOW9.out.slh
          subst epo
          have HSH9 := Lib.hid hslh
          have hsiw : SI w9 u22 Wl := SI.of_own HOW9.out.who (fun x hx => by have h := HWB.out x hx; unfold i64r; omega)
          obtain ⟨Aw, cw, epw⟩ := hsiw.form
          subst epw
          have hcw : i ≤ cw := by obtain ⟨_, _, e, hc, _⟩ := hsiw; injection e with e1 e2 e3; rw [← HWN.out, e3]; exact hc
          have hco : i ≤ co' := by rw [← HHN.out]; exact hco1
          rw [HWN.out] at hsiw
          rw [HHN.out] at hslh
          have HSH9 := Lib.hid hslh
          have HSW9 := Lib.hid hsiw
          clear hslh hsiw
          rw [HWN.out, HHN.out]
          go_upto_region 28 with fail
          have HX28 : Hid (∀ W, Below w9.heap.size w9 W → W.cell? ⟨F, 0, none⟩ = some (.int .i64 P) ∧ W.cell? ⟨F + 1, 0, none⟩ = some (.int .i64 i) ∧ W.cell? ⟨F + 1, 1, none⟩ = some (.int .i64 t) ∧ W.cell? ⟨F + 1, 2, none⟩ = some (.int .i64 G)) := (show Hid _ from fun W hb => HXC.out W (grownBy_trans HG49.out (grownBy_of_below hb _)))
          have HR28 : Hid (∀ W, Below w9.heap.size w9 W → Calls Tryz.prog 42 #[.agg #[.int .i64 P], .agg #[.int .i64 i, .int .i64 t, .int .i64 G], .int .i64 wd, .int .i64 m, .slice Aw kk cw, .slice Ao kk co'] W fun e w' => ∃ v, e = .returned (.tuple #[v, .int .i64 0]) ∧ Below W.heap.size W w' ∧ SL w' v rows) := (show Hid _ from fun W hb => by
            have hl1 : (Wl.take kk).length = kk := by rw [List.length_take, HWN.out]; omega
            have hl2 : (Hs.take kk).length = kk := by rw [List.length_take, HHN.out]; omega
            have h1 : SI W (.slice Aw kk cw) (Wl.take kk) := (HSW9.out.below hb).take (by rw [HWN.out]; omega)
            have h2 : SLL W (.slice Ao kk co') (Hs.take kk) := ((HSH9.out.below hb).take (k := kk) (c' := co') (by rw [HHN.out]; omega)).sll (by rw [hl2]; omega) hco2
            refine (grecover_ok P i t wd m G (Wl.take kk) (Hs.take kk) _ _ W HV.out (by unfold i64r; omega) h1 h2 (by omega) (by omega)).mono ?_
            rintro e w' ⟨v, h3, h4, h5⟩
            obtain ⟨h6, h7⟩ := HRE.out kk hkk.1 hkk.2
            rw [h6] at h3
            rw [h7] at h5
            exact ⟨v, h3, h4, h5⟩)
          apply regZ28 F (F + 1) i G i cw co' kk wd m P t Aw Ao rows w9 (by omega) (by omega) HX28.out HR28.out
          rintro u29 u131 u132 u133 u134 u135 u136 u137 u138 u139 u140 u141 u142 u143 u144 w10 ⟨hb10, hs10⟩
          have HD10 := Lib.hid (HD9.out.below hb10)
          have HG410 : Hid (w4.grownBy w10 (some g)) := (show Hid _ from grownBy_trans HG49.out (grownBy_of_below hb10 _))
          have HSH10 := Lib.hid (HSH9.out.below hb10)
          have HSW10 := Lib.hid (HSW9.out.below hb10)
          have HRS10 := Lib.hid (HRS9.out.below hb10)
          have HBK10 := Lib.hid hs10
          clear hb10 hs10 HX27 HN27 HX28 HR28
          go_wp2_with fail
          (with_reducible refine (sameRows_any rows rows _ _ w10 HBK10.out HRS10.out.sl).mono ?_)
          rintro e w11 ⟨rfl, hb11⟩
          have dsr : decide (rows = rows) = true := decide_eq_true rfl
          rw [dsr]
          have HD11 := Lib.hid (HD10.out.below hb11)
          have HG411 : Hid (w4.grownBy w11 (some g)) := (show Hid _ from grownBy_trans HG410.out (grownBy_of_below hb11 _))
          have HSH11 := Lib.hid (HSH10.out.below hb11)
          have HSW11 := Lib.hid (HSW10.out.below hb11)
          clear hb11 dsr
          go_upto_region 31 with fail
          have HX31 : Hid (∀ W, Below w11.heap.size w11 W → W.cell? ⟨F + 1, 2, none⟩ = some (.int .i64 G)) := (show Hid _ from fun W hb => (HXC.out W (grownBy_trans HG411.out (grownBy_of_below hb _))).2.2.2)
          obtain ⟨g1, eg1⟩ : ∃ g1 : Nat, (g1 : Int) = (G : Int) - 1 := ⟨G - 1, by omega⟩
          apply regZ31 (F + 1) G g1 L cv M ch i cw co' kk wd m wdr cnt (cnt % 8) Av Ah Aw Ao Wl vs Hs w11 (by omega) HWN.out HHN.out hcw hco (by omega) eg1 (by omega) HX31.out (fun W => mod_any cnt 8 W (by omega) (by omega)) HSW11.out HSH11.out
          rintro u153 u154 u155 u156 u157 u158 u159 u160 u161 u162 u163 u164 u165 u166 u167 u168 u169 u170 u171 u172 u173 u174 u175 u176 u177 u178 u179 u180 u181 u182 u183 u184 u185 u186 u187 u188 u189 u190 u191 u192 u193 u194 u195 u196 u197 u198 u199 u200 A5 A6 c5 c6 X w12 ⟨rfl, hb12, hx12, h5, h6, h7, h8⟩
          have HG412 : Hid (w4.grownBy w12 (some g)) := (show Hid _ from grownBy_trans HG411.out (grownBy_of_below hb12 _))
          have HX12 := Lib.hid hx12
          have HB12 := Lib.hid hb12
          have H5 := Lib.hid h5
          have H6 := Lib.hid h6
          clear hx12 hb12 h5 h6 HX31
          go_wp2_with fail
          have HZ : Hid (∀ W, Below w12.heap.size w12 W → ∀ q : Nat, q < 6 → ∃ (av ah : Option Addr) (nv cv' nh ch' : Nat) (aw ar : Int) (svx : List Int) (hsx : List (List (List Int))), W.cell? ⟨X, q * 4, none⟩ = some (.slice av nv cv') ∧ W.cell? ⟨X, q * 4 + 1, none⟩ = some (.slice ah nh ch') ∧ W.cell? ⟨X, q * 4 + 2, none⟩ = some (.int .i64 aw) ∧ W.cell? ⟨X, q * 4 + 3, none⟩ = some (.int .i64 ar) ∧ SI W (.slice av nv cv') svx ∧ SLL W (.slice ah nh ch') hsx ∧ svx.length ≤ 1000000 ∧ hsx.length ≤ 1000000 ∧ i64r ar) := (show Hid _ from fun W hbW q hq => by
            have hX := (hbW.block X (heap_of_cells HX12.out)).trans HX12.out
            have hb1W : Below w11.heap.size w11 W := HB12.out.trans (hbW.mono HB12.out.size)
            have hbw : Below w.heap.size w W := HBF.out _ (grownBy_trans HG412.out (grownBy_of_below hbW _))
            have s1 := HSV.out.below hbw
            have s2 := HSH.out.below hbw
            have s3 := HSW11.out.below hb1W
            have s4 := HSH11.out.below hb1W
            have s5 := H5.out.below hbW
            have s6 := H6.out.below hbW
            have lsv := HL.out
            have lhs := HM.out
            have lwl := HWN.out
            have lhh := HHN.out
            have r1 : i64r (wd : Int) := by unfold i64r; omega
            have r2 : i64r (m : Int) := by unfold i64r; omega
            have r3 : i64r (cnt % 8) := by unfold i64r; omega
            rcases q with _ | _ | _ | _ | _ | _ | q
            · exact ⟨Av, Ah, L, cv, M, ch, wdr, cnt, sv, hs, cell_of_row W X 0 _ _ _ hX, cell_of_row W X 1 _ _ _ hX, cell_of_row W X 2 _ _ _ hX, cell_of_row W X 3 _ _ _ hX, s1, s2, by omega, by omega, hcnt⟩
            · exact ⟨Aw, Ao, i, cw, i, co', wdr, cnt % 8, Wl, Hs, cell_of_row W X 4 _ _ _ hX, cell_of_row W X 5 _ _ _ hX, cell_of_row W X 6 _ _ _ hX, cell_of_row W X 7 _ _ _ hX, s3, by have := s4.sll (by omega) hco2; exact this, by omega, by omega, r3⟩
            · exact ⟨Av, Ao, L, cv, i, co', wd, m, sv, Hs, cell_of_row W X 8 _ _ _ hX, cell_of_row W X 9 _ _ _ hX, cell_of_row W X 10 _ _ _ hX, cell_of_row W X 11 _ _ _ hX, s1, by have := s4.sll (by omega) hco2; exact this, by omega, by omega, r2⟩
            · have t1 : SI W (.slice Aw g1 cw) (Wl.take g1) := s3.take (by omega)
              have t2 : SLH W (.slice Ao g1 co') (vs.take g1) (Hs.take g1) := s4.take (by omega)
              have t3 : (Hs.take g1).length = g1 := by rw [List.length_take]; omega
              have t4 : (Wl.take g1).length = g1 := by rw [List.length_take]; omega
              exact ⟨Aw, Ao, g1, cw, g1, co', wd, m, Wl.take g1, Hs.take g1, cell_of_row W X 12 _ _ _ hX, cell_of_row W X 13 _ _ _ hX, cell_of_row W X 14 _ _ _ hX, cell_of_row W X 15 _ _ _ hX, t1, t2.sll (by omega) hco2, by omega, by omega, r2⟩
            · have t3 : (Hs.take 1 ++ Hs).length = 1 + i := by rw [List.length_append, List.length_take]; omega
              have t4 : (Wl.take 1 ++ Wl).length = 1 + i := by rw [List.length_append, List.length_take]; omega
              exact ⟨A5, A6, 1 + i, c5, 1 + i, c6, wd, m, Wl.take 1 ++ Wl, Hs.take 1 ++ Hs, cell_of_row W X 16 _ _ _ hX, cell_of_row W X 17 _ _ _ hX, cell_of_row W X 18 _ _ _ hX, cell_of_row W X 19 _ _ _ hX, s5, s6.sll (by omega) h8, by omega, by omega, r2⟩
            · have t1 : SI W (.slice Aw kk cw) (Wl.take kk) := s3.take (by omega)
              have t4 : (Wl.take kk).length = kk := by rw [List.length_take]; omega
              exact ⟨Aw, Ah, kk, cw, M, ch, wd, m, Wl.take kk, hs, cell_of_row W X 20 _ _ _ hX, cell_of_row W X 21 _ _ _ hX, cell_of_row W X 22 _ _ _ hX, cell_of_row W X 23 _ _ _ hX, t1, s2, by omega, by omega, r2⟩
            · omega)
          go_loopw [202] (fun iv wr2 => ∃ q : Nat, q ≤ 6 ∧ iv = .int .i64 q ∧ Below w12.heap.size w12 wr2) (fun iv _ => 6 - (intOf iv).toNat)
          case atStart => exact ⟨0, Nat.zero_le _, rfl, Below.refl _ _⟩
          case round =>
            obtain ⟨q, hq, rfl, hbq⟩ := hrel
            by_cases hlq : q < 6
            · have dq : decide (q < 6) = true := decide_eq_true hlq
              obtain ⟨av, ah, nv, cv', nh, ch', aw, ar, svx, hsx, z0, z1, z2, z3, hz1, hz2, hz3, hz4, hz5⟩ := HZ.out wr hbq q hlq
              have HZ1 := Lib.hid hz1
              have HZ2 := Lib.hid hz2
              clear hz1 hz2
              obtain ⟨b, eb⟩ : ∃ b, b = wr.heap.size := ⟨_, rfl⟩
              obtain ⟨wz, ewz⟩ : ∃ wz : World, wz = wr.alloc (.cells #[.slice av nv cv', .slice ah nh ch', .int .i64 aw, .int .i64 ar] 77) := ⟨_, rfl⟩
              have hbz : Below wr.heap.size wr wz := by rw [ewz]; exact (Below.refl _ wr).alloc (Nat.le_refl _) _
              have hbz2 : Below w12.heap.size w12 wz := by rw [ewz]; exact hbq.alloc hbq.size _
              have hcz : wz.heap[b]? = some (.cells #[.slice av nv cv', .slice ah nh ch', .int .i64 aw, .int .i64 ar] 77 (0, 0)) := by rw [ewz, eb]; exact heap_alloc_new wr _
              have HWZ := Lib.hid ewz
              have HEb := Lib.hid eb
              have HBZ := Lib.hid hbz
              have HBZ2 := Lib.hid hbz2
              have HCZ : Hid (∀ W, Below wz.heap.size wz W → W.cell? ⟨b, 0, none⟩ = some (.slice av nv cv') ∧ W.cell? ⟨b, 1, none⟩ = some (.slice ah nh ch') ∧ W.cell? ⟨b, 2, none⟩ = some (.int .i64 aw) ∧ W.cell? ⟨b, 3, none⟩ = some (.int .i64 ar)) := (show Hid _ from fun W hbW => by
                have hX := (hbW.block b (heap_of_cells hcz)).trans hcz
                exact ⟨cell_of_row W b 0 _ _ _ hX, cell_of_row W b 1 _ _ _ hX, cell_of_row W b 2 _ _ _ hX, cell_of_row W b 3 _ _ _ hX⟩)
              obtain ⟨f0, p0, p1, p2⟩ := HXC.out wz (grownBy_trans HG412.out (grownBy_of_below hbz2 _))
              rw [ewz] at f0 p0 p1 p2
              clear hbz hbz2 hcz eb ewz
              go_wp2_with fail
              rw [← HWZ.out, ← HEb.out]
              clear f0 p0 p1 p2
              obtain ⟨hz3, hz4, hz5⟩ : svx.length ≤ 1000000 ∧ hsx.length ≤ 1000000 ∧ i64r ar := ⟨hz3, hz4, hz5⟩
              (with_reducible refine (grecover_ok P i t aw ar G svx hsx _ _ wz HV.out hz5 (HZ1.out.below HBZ.out) (HZ2.out.below HBZ.out) hz3 hz4).mono ?_)
              rintro e wa ⟨va, rfl, hba, hsa⟩
              have HBA := Lib.hid hba
              have HSA := Lib.hid hsa
              obtain ⟨f0, p0, p1, p2⟩ := HXC.out wa (grownBy_trans HG412.out (grownBy_of_below (HBZ2.out.trans (hba.mono HBZ2.out.size)) _))
              obtain ⟨y0, y1, y2, y3⟩ := HCZ.out wa hba
              clear hba hsa
              go_wp2_with fail
              have hz6 := HZ1.out.below (HBZ.out.trans (HBA.out.mono HBZ.out.size))
              have hz7 := HZ2.out.below (HBZ.out.trans (HBA.out.mono HBZ.out.size))
              (with_reducible refine (rrecover_ok P i t aw ar G svx hsx _ _ wa HV.out hz5 hz6 hz7 hz3 hz4).mono ?_)
              rintro e wc ⟨vc, rfl, hbc, hsc⟩
              have HBC := Lib.hid hbc
              have HSC := Lib.hid hsc
              have HSA2 := Lib.hid (HSA.out.below hbc)
              clear hbc hsc hz6 hz7
              go_wp2_with fail
              (with_reducible refine (sameRows_any (reO P i G aw ar svx hsx) (reO P i G aw ar svx hsx) va vc wc HSA2.out HSC.out).mono ?_)
              rintro e we ⟨rfl, hbe⟩
              have HBE := Lib.hid hbe
              have dsr : decide (reO P i G aw ar svx hsx = reO P i G aw ar svx hsx) = true := decide_eq_true rfl
              rw [dsr]
              clear hbe dsr
              go_wp2_with fail
              go_roundw
              case rel =>
                have b1 := HBZ2.out.trans (HBA.out.mono HBZ2.out.size)
                have b2 := b1.trans (HBC.out.mono b1.size)
                exact ⟨q + 1, by omega, by go_num, b2.trans (HBE.out.mono b2.size)⟩
              case measure => simp [intOf]; omega
            · have dq : decide (q < 6) = false := decide_eq_false hlq
              go_wp2_with fail
              go_ret
              exact ⟨rfl, HBF.out _ (grownBy_trans HG412.out (grownBy_of_below hbq _))⟩
end Go.Proofs.YtoiabanpnkpbhaaGreatDoor

namespace Go.Proofs.YtoiabanpnkpbhaaGreatDoor
open Go.RowKit Go.ChangeShapes Go.Deep

theorem addr_of_cell {w : World} {a : Addr} {v : Value} (h : w.cell? (a.add 0) = some v) : ∃ b off, a = ⟨b, off, none⟩ := by
  obtain ⟨b, o, s⟩ := a
  have hs : s = none := by simpa [Addr.add] using World.cell?_spot h
  subst hs
  exact ⟨b, o, rfl⟩

variable {H : Type} {enc : TypeId × Value → H} {w : World}
theorem trod_si {fuel : Nat} {v : Value} {x : DataW H × List MemPlace} (h : DataW.trod enc Tryz.prog w 0 (fun _ => true) true fuel 22 [v] = some x) :
    ∃ A n c l, v = .slice A n c ∧ l.length = n ∧ SI w v l := by
  rcases open_ints Tryz.underlying22 Tryz.underlying3 (by kernel_rfl) h with ⟨hcs, _⟩ | ⟨a, len, cap, zs, hcs, _, hl, hm, hz, _, hcell, hwz⟩
  · simp at hcs
    subst hcs
    exact ⟨none, 0, 0, [], rfl, rfl, none, 0, rfl, Nat.le_refl _, by omega, by simp, fun h => by simp at h⟩
  · simp at hcs
    subst hcs
    exact ⟨some a, len, cap, zs.take len, rfl, by rw [List.length_take]; simp at hz; omega, SI_row (.inr ⟨a, rfl, hl, hm, by simpa using hz, hcell, hwz⟩)⟩
theorem trod_sl {fuel : Nat} {v : Value} {x : DataW H × List MemPlace} (h : DataW.trod enc Tryz.prog w 0 (fun _ => true) true fuel 33 [v] = some x) :
    ∃ A n c ls, v = .slice A n c ∧ ls.length = n ∧ SL w v ls := by
  rcases open_slice1 Tryz.underlying33 (by kernel_rfl) h with ⟨hcs, _⟩ | ⟨a, len, cap, m, n, V, D, Pl, hcs, _, hl, hm, hmm, _, hx⟩
  · simp at hcs
    subst hcs
    exact ⟨none, 0, 0, [], rfl, rfl, none, 0, rfl, Nat.le_refl _, by omega, fun h => by simp at h⟩
  · simp at hcs
    subst hcs
    simp only [if_true] at hmm
    rw [hmm] at hx
    have key : ∀ i, i < len → ∃ l : List Int, ∃ A c, V i = .slice A l.length c ∧ SI w (V i) l := fun i hi => by
      obtain ⟨A, n', c, l, e, hl', hs⟩ := trod_si (hx i (by omega)).2
      exact ⟨l, A, c, by rw [e, hl'], hs⟩
    obtain ⟨L, hL⟩ : ∃ L : Nat → List Int, ∀ i, i < len → ∃ A c, V i = .slice A (L i).length c ∧ SI w (V i) (L i) := by
      refine ⟨fun i => if h : i < len then Classical.choose (key i h) else [], fun i hi => ?_⟩
      simp only [dif_pos hi]
      exact Classical.choose_spec (key i hi)
    refine ⟨some a, len, cap, (List.range len).map L, rfl, by simp, some a, cap, by simp, by simpa using hl, by simpa [maxLen] using hm, fun h0 => ?_⟩
    have h0' : 0 < len := by simpa using h0
    obtain ⟨b, off, rfl⟩ := addr_of_cell (hx 0 (by omega)).1
    refine ⟨b, off, rfl, World.block_lt_of_cell? w _ (hx 0 (by omega)).1, fun j hj => ?_⟩
    have hj' : j < len := by simpa using hj
    obtain ⟨A, c, e, hs⟩ := hL j hj'
    have hc := (hx j (by omega)).1
    rw [Go.WideShapes.add_plain, e] at hc
    rw [e] at hs
    exact ⟨A, c, by simpa using hc, by simpa using hs⟩
theorem trod_sll {fuel : Nat} {v : Value} {x : DataW H × List MemPlace} (h : DataW.trod enc Tryz.prog w 0 (fun _ => true) true fuel 71 [v] = some x) :
    ∃ A n c ls, v = .slice A n c ∧ ls.length = n ∧ SLL w v ls := by
  rcases open_slice1 Tryz.underlying71 (by kernel_rfl) h with ⟨hcs, _⟩ | ⟨a, len, cap, m, n, V, D, Pl, hcs, _, hl, hm, hmm, _, hx⟩
  · simp at hcs
    subst hcs
    exact ⟨none, 0, 0, [], rfl, rfl, none, 0, rfl, Nat.le_refl _, by omega, fun h => by simp at h⟩
  · simp at hcs
    subst hcs
    simp only [if_true] at hmm
    rw [hmm] at hx
    have key : ∀ i, i < len → ∃ l : List (List Int), ∃ A c, V i = .slice A l.length c ∧ SL w (V i) l := fun i hi => by
      obtain ⟨A, n', c, l, e, hl', hs⟩ := trod_sl (hx i (by omega)).2
      exact ⟨l, A, c, by rw [e, hl'], hs⟩
    obtain ⟨L, hL⟩ : ∃ L : Nat → List (List Int), ∀ i, i < len → ∃ A c, V i = .slice A (L i).length c ∧ SL w (V i) (L i) := by
      refine ⟨fun i => if h : i < len then Classical.choose (key i h) else [], fun i hi => ?_⟩
      simp only [dif_pos hi]
      exact Classical.choose_spec (key i hi)
    refine ⟨some a, len, cap, (List.range len).map L, rfl, by simp, some a, cap, by simp, by simpa using hl, by simpa [maxLen] using hm, fun h0 => ?_⟩
    have h0' : 0 < len := by simpa using h0
    obtain ⟨b, off, rfl⟩ := addr_of_cell (hx 0 (by omega)).1
    refine ⟨b, off, rfl, World.block_lt_of_cell? w _ (hx 0 (by omega)).1, fun j hj => ?_⟩
    have hj' : j < len := by simpa using hj
    obtain ⟨A, c, e, hs⟩ := hL j hj'
    have hc := (hx j (by omega)).1
    rw [Go.WideShapes.add_plain, e] at hc
    rw [e] at hs
    exact ⟨A, c, by simpa using hc, by simpa using hs⟩
end Go.Proofs.YtoiabanpnkpbhaaGreatDoor
