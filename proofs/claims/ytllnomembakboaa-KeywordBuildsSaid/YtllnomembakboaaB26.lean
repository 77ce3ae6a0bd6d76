/- Joined: Ng. -/
import Derived.Test.YtllnomembakboaaB21
import Derived.Test.YtllnomembakboaaB13
namespace Go.Proofs.Ytllnomembakboaa
open Go.RowKit

theorem SVo.sg {lo : Nat} {w : World} {v : Value} {ps : List (Int × Int)} {B : Int} (h : SVo hcs 2 lo w v ps) (hv : HV B ps) : SG pcs 2 w.heap.size w v ps := by
  obtain ⟨A, c, e, h1, h2, h3⟩ := h
  refine ⟨A, c, e, h1, h2, fun p hp y hy => ?_, fun h0 => ?_⟩
  · have := hv.in1 p hp
    simp [pcs] at hy
    unfold i64r
    omega
  · obtain ⟨b, off, e, _, hb, hc⟩ := h3 h0
    refine ⟨b, off, e, hb, fun j hj i hi => (hc j hj i hi).trans ?_⟩
    rcases i with _ | _ | i
    · rfl
    · rfl
    · omega
/-- a directory as Build makes it: the entries S, sorted, in the buckets that out tells -/
structure DirV (B : Nat) (ps : List (Int × Int)) (slots : Nat) (S : List (ByteArray × Int)) (out : List Int) : Prop where
  hv : HV B ps
  s1 : 1 ≤ slots
  s8 : slots ≤ 8
  env : EnV S
  asc : Asc S
  lex : LexF (hss B ps S) (fun _ => slots) out
theorem DirV.len {B : Nat} {ps : List (Int × Int)} {slots : Nat} {S : List (ByteArray × Int)} {out : List Int} (h : DirV B ps slots S out) : S.length = out.length := by rw [h.lex.asg.len, hss_len]
theorem DirV.row {B : Nat} {ps : List (Int × Int)} {slots : Nat} {S : List (ByteArray × Int)} {out : List Int} (h : DirV B ps slots S out) {b : Nat} (hb : b < (dist S out B).length) : ascB (dist S out B)[b] = true ∧ (dist S out B)[b].length ≤ slots ∧ EnV (dist S out B)[b] := by
  refine ⟨ascB_iff.2 ⟨fun e he => h.env.1 e ((dist_sub hb).subset he), dist_asc h.asc hb⟩, ?_, fun e he => h.env.1 e ((dist_sub hb).subset he), List.Pairwise.sublist (List.Sublist.map _ (dist_sub hb)) h.env.2⟩
  rw [dist_cnt h.len hb]
  exact h.lex.asg.cnt b
theorem Ens.env {es : List (ByteArray × Int)} (h : Ens es) : EnV es := ⟨h.val, h.1.2⟩
theorem Ens.size {es : List (ByteArray × Int)} (h : Ens es) : ∀ e ∈ es, e.1.size ≤ 9223372036854775807 := fun e he => by
  have := (h.1.1 e.1 (List.mem_map_of_mem he)).2
  omega
theorem EnV.perm {a b : List (ByteArray × Int)} (h : EnV a) (k : a.Perm b) : EnV b := ⟨fun e he => h.1 e (k.mem_iff.2 he), (k.map _).nodup_iff.1 h.2⟩
theorem lexF_nil (B : Nat) (ps : List (Int × Int)) (cap : Nat → Nat) : ∃ out, Asg (hss B ps []) cap out := ⟨[], rfl, fun i h => by simp at h, fun b => by simp⟩
theorem grown4 (w : World) (R : Nat) (a b c d : Value) : w.grownBy ((((w.setCell ⟨R, 0, none⟩ a).setCell ⟨R, 1, none⟩ b).setCell ⟨R, 2, none⟩ c).setCell ⟨R, 3, none⟩ d) (some R) := by
  have h0 := grownBy_setCell (a := w) (w := w) (g := R) (p := ⟨R, 0, none⟩) (grownBy_refl _ _) (.inl rfl) a
  have h1 := grownBy_setCell (p := ⟨R, 1, none⟩) h0 (.inl rfl) b
  have h2 := grownBy_setCell (p := ⟨R, 2, none⟩) h1 (.inl rfl) c
  exact grownBy_setCell (p := ⟨R, 3, none⟩) h2 (.inl rfl) d
/-- what mk.Directory answers -/
def MkDir (g : Nat) (w : World) (e : Ending) (w' : World) : Prop :=
  ∃ (B : Nat) (ps : List (Int × Int)) (slots : Nat) (S es : List (ByteArray × Int)) (out : List Int) (pv ev lv : Value), e = .returned (.tuple #[.agg #[.int .i64 B, pv, .int .i64 slots, ev], lv]) ∧
    DirV B ps slots S out ∧ slots ≤ 4 ∧ es.Perm S ∧ Ens es ∧ es.length ≤ 9 ∧ SVo hcs 2 w.heap.size w' pv ps ∧ SLo w.heap.size w' ev (dist S out B) ∧ SVo ecs 2 w.heap.size w' lv es ∧ Dk w' g ∧ w.grownBy w' (some g)
set_option maxRecDepth 100000 in
set_option maxHeartbeats 8000000 in
theorem directory_any (g : Nat) (w : World) (h : Dk w g) : Calls Try.prog 12 #[.pointer (some ⟨g, 0, none⟩)] w (MkDir g w) := by
  have hlg := h.lt
  go_enter Try.func12, Try.ntmps12
  obtain ⟨R, eR⟩ : ∃ R, R = w.heap.size := ⟨_, rfl⟩
  obtain ⟨w1, ew1⟩ : ∃ w1 : World, w1 = w.alloc (.cells #[.int .i64 0, .slice none 0 0, .int .i64 0, .slice none 0 0] 28) := ⟨_, rfl⟩
  have HWw1 : Hid (w.alloc (.cells #[.int .i64 0, .slice none 0 0, .int .i64 0, .slice none 0 0] 28) = w1) := ew1.symm
  have HAw1 : Hid (Below w.heap.size w w1) := (show Hid _ from by rw [ew1]; exact (Below.refl _ w).alloc (Nat.le_refl _) _)
  have HR0w1 : Hid (w1.heap[R]? = some (.cells #[.int .i64 0, .slice none 0 0, .int .i64 0, .slice none 0 0] 28 (0, 0))) := (show Hid _ from by show _ = _; rw [ew1, eR]; exact heap_alloc_new w _)
  have HRw := Lib.hid eR
  have hR1 : R < w1.heap.size := heap_of_cells HR0w1.out
  have HD1 := Lib.hid (h.below HAw1.out)
  have hz1 := HAw1.out.size
  clear h
  go_upto_region 1 with fail
  rw [HWw1.out, ← eR]
  clear ew1 eR
  go_wp2_with fail
  (with_reducible refine (hashing_any g w1 HD1.out).mono ?_)
  rintro e w2 ⟨B0, ps, pv, rfl, hv, ho2, hd2, hg2⟩
  obtain ⟨B, rfl⟩ : ∃ B : Nat, B0 = B := ⟨B0.toNat, by have := hv.b1; omega⟩
  have HV2 := Lib.hid hv
  have HO2 := Lib.hid ho2
  have HD2 := Lib.hid hd2
  have HG2 := Lib.hid hg2
  have hz2 := hg2.size
  obtain ⟨Ap, cp, rfl⟩ := own_sl ho2
  clear hv ho2 hd2 hg2
  go_wp2_with fail
  (with_reducible refine (next_any 4 g w2 HD2.out (by unfold i64r; omega) (by omega)).mono ?_)
  rintro e w3 ⟨x, rfl, _, hx, hd3, hg3⟩
  have hx := hx (by omega)
  obtain ⟨sl, hsl⟩ : ∃ sl : Nat, 1 + x = (sl : Int) := ⟨(1 + x).toNat, by omega⟩
  have wsl : IntKind.i64.wrap (1 + x) = (sl : Int) := by rw [hsl]; exact IntWalk.i64_in _ (by omega)
  have HD3 := Lib.hid hd3
  have HG3 := Lib.hid hg3
  have hz3 := hg3.size
  have hs1 : 1 ≤ sl := by omega
  have hs4 : sl ≤ 4 := by omega
  clear hd3 hg3 hsl
  go_wp2_with fail
  (with_reducible refine (entries_any 9 g w3 HD3.out (by omega) (by omega)).mono ?_)
  rintro e w4 ⟨es, lv, rfl, hes, hel, ho4, hd4, hg4⟩
  have HES := Lib.hid hes
  have HO4 := Lib.hid ho4
  have HD4 := Lib.hid hd4
  have HG4 := Lib.hid hg4
  have hz4 := hg4.size
  have hel9 : es.length ≤ 9 := by omega
  obtain ⟨Al, cl, rfl⟩ := own_sl ho4
  clear hes ho4 hd4 hg4 hel
  obtain ⟨H, eH⟩ : ∃ H, H = w4.heap.size := ⟨_, rfl⟩
  obtain ⟨w5, ew5⟩ : ∃ w5 : World, w5 = w4.alloc (.cells #[.int .i64 B, .slice Ap ps.length cp] 25) := ⟨_, rfl⟩
  have HWw5 : Hid (w4.alloc (.cells #[.int .i64 B, .slice Ap ps.length cp] 25) = w5) := ew5.symm
  have HAw5 : Hid (Below w4.heap.size w4 w5) := (show Hid _ from by rw [ew5]; exact (Below.refl _ w4).alloc (Nat.le_refl _) _)
  have HH0w5 : Hid (w5.heap[H]? = some (.cells #[.int .i64 B, .slice Ap ps.length cp] 25 (0, 0))) := (show Hid _ from by show _ = _; rw [ew5, eH]; exact heap_alloc_new w4 _)
  have HXH : Hid (∀ W, Below w5.heap.size w5 W → W.cell? ⟨H, 0, none⟩ = some (.int .i64 B) ∧ W.cell? ⟨H, 1, none⟩ = some (.slice Ap ps.length cp)) := (show Hid _ from fun W hg => by
    have hH0 := (hg.block H (heap_of_cells HH0w5.out)).trans HH0w5.out
    exact ⟨cell_of_row W H 0 _ _ _ hH0, cell_of_row W H 1 _ _ _ hH0⟩)
  have hH5 : H < w5.heap.size := heap_of_cells HH0w5.out
  have hH4 : w4.heap.size ≤ H := Nat.le_of_eq eH.symm
  have HGA : Hid (w1.grownBy w5 (some g)) := (show Hid _ from grownBy_trans HG2.out (grownBy_trans HG3.out (grownBy_trans HG4.out (grownBy_of_below HAw5.out _))))
  have HD5 := Lib.hid (HD4.out.below HAw5.out)
  have HPV5 : Hid (SVo hcs 2 w1.heap.size w5 (.slice Ap ps.length cp) ps) := (show Hid _ from (((SVo.of_own HO2.out (fun x _ => hcs_len x)).grown HG3.out (by omega)).grown HG4.out (by omega)).below HAw5.out)
  have HLV5 : Hid (SVo ecs 2 w3.heap.size w5 (.slice Al es.length cl) es) := (show Hid _ from (SVo.of_own HO4.out (fun x _ => ecs_len x)).below HAw5.out)
  go_upto_region 2 with fail
  rw [HWw5.out, ← eH]
  clear ew5 eH
  obtain ⟨x0, x1⟩ := HXH.out w5 (Below.refl _ _)
  go_wp2_with fail
  (with_reducible refine (rbuild_any B ps sl es _ _ w5 HV2.out hs1 (by omega) HES.out.size (by omega) (HPV5.out.sg HV2.out) HLV5.out.sv).mono ?_)
  rintro e w6 ⟨hb6, hres⟩
  have HB6 := Lib.hid hb6
  obtain ⟨y0, y1⟩ := HXH.out w6 hb6
  have hz6 := hb6.size
  have hz5 := HAw5.out.size
  have HD6 := Lib.hid (HD5.out.below hb6)
  have HG6 : Hid (w1.grownBy w6 (some g)) := (show Hid _ from grownBy_trans HGA.out (grownBy_of_below hb6 _))
  have HPV6 := Lib.hid (HPV5.out.below hb6)
  have HLV6 := Lib.hid (HLV5.out.below hb6)
  have HEC := Lib.hid (ecode_ok HES.out.env)
  have HR6 : Hid (w6.heap[R]? = some (.cells #[.int .i64 0, .slice none 0 0, .int .i64 0, .slice none 0 0] 28 (0, 0))) := (show Hid _ from (HG6.out.block R hR1 (by have := HRw.out; simp; omega)).trans HR0w1.out)
  clear hb6 x0 x1
  rcases hres with ⟨hne, _⟩ | ⟨_, S, hp, ha, hres⟩
  · exact absurd HEC.out hne
  have HP := Lib.hid hp
  have HA := Lib.hid ha
  clear hp ha
  rcases hres with ⟨_, rfl⟩ | ⟨out, pv2, ev, hlx, rfl, ho6, hsl6⟩
  · simp only [noDir]
    obtain ⟨D, eD⟩ : ∃ D, D = w6.heap.size := ⟨_, rfl⟩
    obtain ⟨w7, ew7⟩ : ∃ w7 : World, w7 = w6.alloc (.cells #[.int .i64 0, .slice none 0 0, .int .i64 0, .slice none 0 0] 28) := ⟨_, rfl⟩
    have HWw7 : Hid (w6.alloc (.cells #[.int .i64 0, .slice none 0 0, .int .i64 0, .slice none 0 0] 28) = w7) := ew7.symm
    have HAw7 : Hid (Below w6.heap.size w6 w7) := (show Hid _ from by rw [ew7]; exact (Below.refl _ w6).alloc (Nat.le_refl _) _)
    have HD0w7 : Hid (w7.heap[D]? = some (.cells #[.int .i64 0, .slice none 0 0, .int .i64 0, .slice none 0 0] 28 (0, 0))) := (show Hid _ from by show _ = _; rw [ew7, eD]; exact heap_alloc_new w6 _)
    have HR7 : Hid (w7.heap[R]? = some (.cells #[.int .i64 0, .slice none 0 0, .int .i64 0, .slice none 0 0] 28 (0, 0))) := (show Hid _ from (HAw7.out.block R (heap_of_cells HR6.out)).trans HR6.out)
    have hH6 : H < w6.heap.size := by omega
    have hw6D : w6.heap.size ≤ D := Nat.le_of_eq eD.symm
    go_upto_region 3 with fail
    rw [HWw7.out, ← eD]
    clear ew7 eD
    have HB7 : Hid (Below w5.heap.size w5 w7) := (show Hid _ from HB6.out.trans (HAw7.out.mono HB6.out.size))
    obtain ⟨x0, x1⟩ := HXH.out w7 HB7.out
    have HPV7 := Lib.hid (HPV6.out.below HAw7.out)
    clear y0 y1
    go_wp2_with fail
    (with_reducible refine (rbuild_any B ps sl [] _ (.slice none 0 0) w7 HV2.out hs1 (by omega) (fun e h => by simp at h) (by simp) (HPV7.out.sg HV2.out) (SV.nil _ _)).mono ?_)
    rintro e w8 ⟨hb8, hres⟩
    rcases hres with ⟨hne, _⟩ | ⟨_, S2, hp2, ha2, hres⟩
    · exact absurd rfl hne
    have hS2 : S2 = [] := hp2.eq_nil
    subst hS2
    rcases hres with ⟨hno, _⟩ | ⟨out, pv2, ev, hlx, rfl, ho8, hsl8⟩
    · exact absurd (lexF_nil _ _ _) hno
    obtain ⟨Ae, ce, rfl⟩ := hsl8.form
    obtain ⟨A2, c2, rfl⟩ := own_sl ho8
    have HLX := Lib.hid hlx
    have HO8 := Lib.hid ho8
    have HSL8 := Lib.hid hsl8
    have HB8 := Lib.hid hb8
    rw [dist_len]
    have hB1 := HV2.out.b1
    have hB2 := HV2.out.b2
    have hD7 : D < w7.heap.size := heap_of_cells HD0w7.out
    have HDz : Hid (w8.heap[D]? = some (.cells #[.int .i64 0, .slice none 0 0, .int .i64 0, .slice none 0 0] 28 (0, 0))) := (show Hid _ from (hb8.block D hD7).trans HD0w7.out)
    have HR8 : Hid (w8.heap[R]? = some (.cells #[.int .i64 0, .slice none 0 0, .int .i64 0, .slice none 0 0] 28 (0, 0))) := (show Hid _ from (hb8.block R (heap_of_cells HR7.out)).trans HR7.out)
    obtain ⟨d0, d1, d2, d3, e0, e1, e2, e3⟩ := dir_cells HDz.out
    obtain ⟨r0, r1, r2, r3, f0, f1, f2, f3⟩ := dir_cells HR8.out
    have hRw : w.heap.size ≤ R := Nat.le_of_eq HRw.out.symm
    have hRD : R ≠ D := by omega
    have hDR : D ≠ R := by omega
    clear hlx ho8 hsl8 hb8 x0 x1
    go_wp2_with fail
    refine bodyPost_ret (v := .tuple #[.agg #[.int .i64 B, .slice A2 ps.length c2, .int .i64 sl, .slice Ae B ce], .slice none 0 0]) (by simp [results, Try.results12, go_sem, r0, r1, r2, r3]) rfl ?_
    have hG1 := grown4 w8 D (.int .i64 B) (.slice A2 ps.length c2) (.int .i64 sl) (.slice Ae B ce)
    have hG2 := grown4 ((((w8.setCell ⟨D, 0, none⟩ (.int .i64 B)).setCell ⟨D, 1, none⟩ (.slice A2 ps.length c2)).setCell ⟨D, 2, none⟩ (.int .i64 sl)).setCell ⟨D, 3, none⟩ (.slice Ae B ce)) R (.int .i64 B) (.slice A2 ps.length c2) (.int .i64 sl) (.slice Ae B ce)
    have hz7 := HAw7.out.size
    have hz8 := HB8.out.size
    have h1 : SVo hcs 2 w7.heap.size w8 (.slice A2 ps.length c2) ps := SVo.of_own HO8.out (fun x _ => hcs_len x)
    have h2 : SLo w7.heap.size w8 (.slice Ae B ce) (dist [] out B) := by have h := HSL8.out; rwa [dist_len] at h
    have hDk := (((HD6.out.below HAw7.out).below HB8.out).grown hG1 (fun k hk => by injection hk with hk; have := HD6.out.lt; omega)).grown hG2 (fun k hk => by injection hk with hk; omega)
    refine ⟨B, ps, sl, [], [], out, _, _, _, rfl, ⟨HV2.out, hs1, by omega, EnV.nil, Asc.nil, HLX.out⟩, hs4, List.Perm.nil, ⟨⟨fun x hx => by simp at hx, by simp⟩, fun x hx => by simp at hx⟩, by simp, ((h1.grown hG1 hD7).grown hG2 (by omega)).lower (by omega), ((h2.grown hG1 hD7).grown hG2 (by omega)).lower (by omega), ⟨none, 0, rfl, Nat.le_refl _, by omega, fun h => by simp at h⟩, hDk, ?_⟩
    exact grownBy_own (grownBy_own (grownBy_trans (grownBy_of_below HAw1.out _) (grownBy_trans HG6.out (grownBy_trans (grownBy_of_below HAw7.out _) (grownBy_of_below HB8.out _)))) hG1 (fun k hk => by injection hk with hk; omega)) hG2 (fun k hk => by injection hk with hk; omega)
  · obtain ⟨Ae, ce, rfl⟩ := hsl6.form
    obtain ⟨A2, c2, rfl⟩ := own_sl ho6
    have HLX := Lib.hid hlx
    have HO6 := Lib.hid ho6
    have HSL6 := Lib.hid hsl6
    rw [dist_len]
    rw [dist_len] at hsl6
    have hB1 := HV2.out.b1
    have hB2 := HV2.out.b2
    clear hlx ho6 hsl6
    obtain ⟨D, eD⟩ : ∃ D, D = w6.heap.size := ⟨_, rfl⟩
    obtain ⟨w7, ew7⟩ : ∃ w7 : World, w7 = w6.alloc (.cells #[.int .i64 B, .slice A2 ps.length c2, .int .i64 sl, .slice Ae B ce] 28) := ⟨_, rfl⟩
    have HWw7 : Hid (w6.alloc (.cells #[.int .i64 B, .slice A2 ps.length c2, .int .i64 sl, .slice Ae B ce] 28) = w7) := ew7.symm
    have HAw7 : Hid (Below w6.heap.size w6 w7) := (show Hid _ from by rw [ew7]; exact (Below.refl _ w6).alloc (Nat.le_refl _) _)
    have HD0w7 : Hid (w7.heap[D]? = some (.cells #[.int .i64 B, .slice A2 ps.length c2, .int .i64 sl, .slice Ae B ce] 28 (0, 0))) := (show Hid _ from by show _ = _; rw [ew7, eD]; exact heap_alloc_new w6 _)
    have HXD : Hid (∀ W, Below w7.heap.size w7 W → W.cell? ⟨D, 0, none⟩ = some (.int .i64 B) ∧ W.cell? ⟨D, 1, none⟩ = some (.slice A2 ps.length c2) ∧ W.cell? ⟨D, 2, none⟩ = some (.int .i64 sl) ∧ W.cell? ⟨D, 3, none⟩ = some (.slice Ae B ce)) := (show Hid _ from fun W hg => by
      have hD0 := (hg.block D (heap_of_cells HD0w7.out)).trans HD0w7.out
      exact ⟨cell_of_row W D 0 _ _ _ hD0, cell_of_row W D 1 _ _ _ hD0, cell_of_row W D 2 _ _ _ hD0, cell_of_row W D 3 _ _ _ hD0⟩)
    have HR7 : Hid (w7.heap[R]? = some (.cells #[.int .i64 0, .slice none 0 0, .int .i64 0, .slice none 0 0] 28 (0, 0))) := (show Hid _ from (HAw7.out.block R (heap_of_cells HR6.out)).trans HR6.out)
    go_upto_region 3 with fail
    rw [HWw7.out, ← eD]
    clear ew7 eD
    obtain ⟨d0, d1, d2, d3⟩ := HXD.out w7 (Below.refl _ _)
    obtain ⟨r0, r1, r2, r3, f0, f1, f2, f3⟩ := dir_cells HR7.out
    clear y0 y1
    go_wp2_with fail
    refine bodyPost_ret (v := .tuple #[.agg #[.int .i64 B, .slice A2 ps.length c2, .int .i64 sl, .slice Ae B ce], .slice Al es.length cl]) (by simp [results, Try.results12, go_sem, r0, r1, r2, r3]) rfl ?_
    have hG := grown4 w7 R (.int .i64 B) (.slice A2 ps.length c2) (.int .i64 sl) (.slice Ae B ce)
    have hRw : w.heap.size ≤ R := Nat.le_of_eq HRw.out.symm
    have hw7 := HAw7.out.size
    have h1 : SVo hcs 2 w5.heap.size w7 (.slice A2 ps.length c2) ps := (SVo.of_own HO6.out (fun x _ => hcs_len x)).below HAw7.out
    have h2 : SLo w5.heap.size w7 (.slice Ae B ce) (dist S out B) := by have h := HSL6.out.below HAw7.out; rwa [dist_len] at h
    have h3 := HLV6.out.below HAw7.out
    have hD7 := (HD6.out.below HAw7.out).grown hG (fun k hk => by injection hk with hk; omega)
    refine ⟨B, ps, sl, S, es, out, _, _, _, rfl, ⟨HV2.out, hs1, by omega, HES.out.env.perm HP.out.symm, HA.out, HLX.out⟩, hs4, HP.out.symm, HES.out, hel9, (h1.grown hG (by omega)).lower (by omega), (h2.grown hG (by omega)).lower (by omega), (h3.grown hG (by omega)).lower (by omega), hD7, ?_⟩
    exact grownBy_own (grownBy_trans (grownBy_of_below HAw1.out _) (grownBy_trans HG6.out (grownBy_of_below HAw7.out _))) hG (fun k hk => by injection hk with hk; omega)
end Go.Proofs.Ytllnomembakboaa
