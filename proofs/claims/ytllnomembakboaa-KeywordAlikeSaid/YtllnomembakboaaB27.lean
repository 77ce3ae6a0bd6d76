/- Joined: Rd. -/
import Derived.Test.YtllnomembakboaaB22
import Derived.Test.YtllnomembakboaaB13
import Derived.Test.YtllnomembakboaaB25
import Derived.Test.YtllnomembakboaaB26
namespace Go.Proofs.Ytllnomembakboaa
open Go.RowKit

set_option maxRecDepth 100000 in
set_option maxHeartbeats 16000000 in
theorem alike_any (l : List Int) (v : Value) (key : ByteArray) (w : World) (h : SI w v l) (hks : key.size ≤ 9223372036854775807) : Calls Try.prog 8 #[v, .string key] w fun e w' => e = .returned (.bool true) ∧ Below w.heap.size w w' := by
  have HSI := Lib.hid h
  clear h
  go_enter Try.func8, Try.ntmps8
  go_wp2_with fail
  (with_reducible refine (sane_any w).mono ?_)
  rintro e w1 ⟨rfl, hb1⟩
  have HB1 := Lib.hid hb1
  have HSI1 : Hid (SI w1 v l) := (show Hid _ from HSI.out.below hb1)
  clear hb1
  go_wp2_with fail
  (with_reducible refine (few_any l _ w1 HSI1.out).mono ?_)
  rintro e w1' ⟨rfl, hw1⟩
  subst hw1
  by_cases hfew : l.length ≤ 500
  case' neg =>
    have d5 : decide (l.length ≤ 500) = false := decide_eq_false hfew
    rw [d5]
    clear d5 hfew
    go_wp2_with fail
    all_goals go_ret
    all_goals exact ⟨rfl, HB1.out⟩
  have d5 : decide (l.length ≤ 500) = true := decide_eq_true hfew
  rw [d5]
  clear d5 hfew
  go_wp2_with fail
  (with_reducible refine (new_any l _ w1 HSI1.out).mono ?_)
  rintro e w2 ⟨rfl, hd2, hb2, hz2⟩
  obtain ⟨g, eg⟩ : ∃ g, g = w1.heap.size := ⟨_, rfl⟩
  rw [← eg] at hd2 hz2
  rw [← eg]
  have HD2 := Lib.hid hd2
  have HB2 : Hid (Below w.heap.size w w2) := (show Hid _ from HB1.out.trans (hb2.mono HB1.out.size))
  have hgw : w.heap.size ≤ g := by rw [eg]; exact HB1.out.size
  clear hd2 hb2 eg
  go_wp2_with fail
  (with_reducible refine (directory_any g w2 HD2.out).mono ?_)
  rintro e w3 ⟨B, ps, sl, S, es, out, pv, ev, lv, rfl, hdv, hs4, hes, hens, hel, hpv, hev, hlv, hd3, hg3⟩
  obtain ⟨bs, ebs⟩ : ∃ bs, bs = dist S out B := ⟨_, rfl⟩
  rw [← ebs] at hev
  have HDV := Lib.hid hdv
  have hbl : bs.length = B := by rw [ebs, dist_len]
  have HROW : Hid (∀ b (h : b < bs.length), ascB bs[b] = true ∧ bs[b].length ≤ sl ∧ EnV bs[b]) := (show Hid _ from by subst ebs; exact fun b h => hdv.row h)
  have hB64 : B ≤ 64 := by have := hdv.hv.b2; omega
  have hs1 := hdv.s1
  have hs8 := hdv.s8
  obtain ⟨Ap, cp, rfl⟩ := hpv.form
  obtain ⟨Ae, ce, rfl⟩ := hev.form
  have HPV := Lib.hid hpv
  have HEV := Lib.hid hev
  have HB3 : Hid (Below w.heap.size w w3) := (show Hid _ from HB2.out.grown hg3 HB2.out.size (fun k hk => by injection hk with hk; omega))
  have HBL := Lib.hid hbl
  have hb64 : bs.length ≤ 64 := by omega
  clear hdv hes hens hpv hev hlv hd3 hg3 ebs hbl
  obtain ⟨D, eD⟩ : ∃ D, D = w3.heap.size := ⟨_, rfl⟩
  obtain ⟨w4, ew4⟩ : ∃ w4 : World, w4 = w3.alloc (.cells #[.int .i64 B, .slice Ap ps.length cp, .int .i64 sl, .slice Ae bs.length ce] 28) := ⟨_, rfl⟩
  have HWw4 : Hid (w3.alloc (.cells #[.int .i64 B, .slice Ap ps.length cp, .int .i64 sl, .slice Ae bs.length ce] 28) = w4) := ew4.symm
  have HAw4 : Hid (Below w3.heap.size w3 w4) := (show Hid _ from by rw [ew4]; exact (Below.refl _ w3).alloc (Nat.le_refl _) _)
  have HD0w4 : Hid (w4.heap[D]? = some (.cells #[.int .i64 B, .slice Ap ps.length cp, .int .i64 sl, .slice Ae bs.length ce] 28 (0, 0))) := (show Hid _ from by show _ = _; rw [ew4, eD]; exact heap_alloc_new w3 _)
  have HXD : Hid (∀ W, Below w4.heap.size w4 W → W.cell? ⟨D, 0, none⟩ = some (.int .i64 B) ∧ W.cell? ⟨D, 1, none⟩ = some (.slice Ap ps.length cp) ∧ W.cell? ⟨D, 2, none⟩ = some (.int .i64 sl) ∧ W.cell? ⟨D, 3, none⟩ = some (.slice Ae bs.length ce)) := (show Hid _ from fun W hg => by
    have hD0 := (hg.block D (heap_of_cells HD0w4.out)).trans HD0w4.out
    exact ⟨cell_of_row W D 0 _ _ _ hD0, cell_of_row W D 1 _ _ _ hD0, cell_of_row W D 2 _ _ _ hD0, cell_of_row W D 3 _ _ _ hD0⟩)
  have HB4 : Hid (Below w.heap.size w w4) := (show Hid _ from HB3.out.trans (HAw4.out.mono HB3.out.size))
  have HPV4 : Hid (SG pcs 2 w4.heap.size w4 (.slice Ap ps.length cp) ps) := (show Hid _ from (HPV.out.below HAw4.out).sg HDV.out.hv)
  have HEV4 := Lib.hid (HEV.out.below HAw4.out)
  have hz4 := HB4.out.size
  go_upto_region 6 with fail
  rw [HWw4.out, ← eD]
  clear ew4 eD
  obtain ⟨x0, x1, x2, x3⟩ := HXD.out w4 (Below.refl _ _)
  go_wp2_with fail
  clear x0 x1 x2 x3
  go_loopw [29] (fun iv wr => ∃ k : Nat, k ≤ bs.length ∧ iv = .int .i64 k ∧ Below w4.heap.size w4 wr) (fun iv _ => bs.length - (intOf iv).toNat)
  case atStart => exact ⟨0, Nat.zero_le _, rfl, Below.refl _ _⟩
  case round =>
    obtain ⟨k, hk, rfl, hb⟩ := hrel
    have HB := Lib.hid hb
    have hzr := hb.size
    obtain ⟨x0, x1, x2, x3⟩ := HXD.out wr hb
    clear hb
    by_cases hkt : k < bs.length
    · obtain ⟨_, b, off, Ar, cr, eA, _, hbl, c0', hrow⟩ := HEV4.out.row k hkt
      subst eA
      have hasc := HROW.out k hkt
      obtain ⟨row, erow⟩ : ∃ r, r = bs[k] := ⟨_, rfl⟩
      rw [← erow] at hasc hrow c0'
      have c0 : wr.cell? ⟨b, off + k, none⟩ = some (.slice Ar row.length cr) := (HB.out.cell (p := ⟨b, off + k, none⟩) hbl).trans c0'
      have HRW : Hid (SV ecs 2 wr.heap.size wr (.slice Ar row.length cr) row) := (show Hid _ from hrow.sv.on HB.out)
      have HASC := Lib.hid hasc
      have hrl := hasc.2.1
      have HKS : Hid (∀ e ∈ row, e.1.size ≤ 9223372036854775807) := (show Hid _ from fun e he => by
        have h1 := (ascB_iff.1 hasc.1).1 e he
        have h2 := ky_bd (s := e.1) (by simp [ven] at h1; exact h1.1.1)
        omega)
      have z0 : 0 ≤ (k : Int) := by omega
      have z1 : (k : Int) < (bs.length : Int) := by omega
      have wk : IntKind.i64.wrap ((k : Int) + 1) = (k : Int) + 1 := by exact IntWalk.i64_in _ (by omega)
      clear hasc hrow erow c0'
      go_wp2_with fail
      (with_reducible refine (kencode_any sl row _ wr HRW.out HKS.out).mono ?_)
      rintro e w5 ⟨rfl, hb5⟩
      rw [encV_ok ⟨hs1, hs8⟩ hrl HASC.out.1]
      obtain ⟨t, et⟩ : ∃ t, t = ByteArray.mk (encB sl row).toArray := ⟨_, rfl⟩
      have htd : t.data.toList = encB sl row := by rw [et]
      have hts : t.size = sl * 37 := by rw [et, ba_size, encB_len (ascB_iff.1 HASC.out.1).1 hrl]
      rw [← et]
      have HB5 : Hid (Below w4.heap.size w4 w5) := (show Hid _ from HB.out.trans (hb5.mono hzr))
      have HTD := Lib.hid htd
      have HRW5 := Lib.hid (HRW.out.on hb5)
      clear hb5 x0 x1 x2 x3 c0 et htd
      obtain ⟨x0, x1, x2, x3⟩ := HXD.out w5 HB5.out
      go_wp2_with fail
      (with_reducible refine (kdecode_any sl t w5).mono ?_)
      rintro e w6 ⟨hb6, h6⟩
      have hisb : IsB sl t.data.toList row := ⟨HASC.out.1, hrl, HTD.out.symm⟩
      rcases h6 with ⟨h, _⟩ | ⟨_, h, _⟩ | ⟨_, l6, v6, hl6, rfl, ho6⟩
      · omega
      · exact absurd ⟨row, by rw [Int.toNat_natCast]; exact hisb⟩ h
      obtain rfl : l6 = row := IsB.uniq (by rw [Int.toNat_natCast] at hl6; exact hl6) hisb
      obtain ⟨A6, c6, rfl⟩ := own_sl ho6
      have HSV6 : Hid (SV ecs 2 w6.heap.size w6 (.slice A6 l6.length c6) l6) := (show Hid _ from SV.of_own ho6 (fun x _ => ecs_len x))
      have HRW6 := Lib.hid (HRW5.out.on hb6)
      have HB6 : Hid (Below w4.heap.size w4 w6) := (show Hid _ from HB5.out.trans (hb6.mono HB5.out.size))
      have hti : (t.size : Int) = (sl : Int) * 37 := by omega
      have wsl : IntKind.i64.wrap ((sl : Int) * 37) = (sl : Int) * 37 := by exact IntWalk.i64_in _ (by omega)
      clear hb6 ho6 hl6 hisb x0 x1 x2 x3
      obtain ⟨x0, x1, x2, x3⟩ := HXD.out w6 HB6.out
      go_wp2_with fail
      (with_reducible refine (rsameE_any l6 l6 _ _ w6 HSV6.out HRW6.out (by omega) (by omega)).mono ?_)
      rintro e w7 ⟨rfl, hb7⟩
      have HB7 : Hid (Below w4.heap.size w4 w7) := (show Hid _ from HB6.out.trans (hb7.mono HB6.out.size))
      have d7 : decide (l6 = l6) = true := decide_eq_true rfl
      rw [d7]
      clear hb7 d7
      go_wp2_with fail
      go_roundw
      case rel => exact ⟨k + 1, hkt, by go_num, HB7.out⟩
      case measure => simp [intOf]; omega
    · have HBWr : Hid (Below w.heap.size w wr) := (show Hid _ from HB4.out.trans (HB.out.mono hz4))
      have HPVr : Hid (SG pcs 2 wr.heap.size wr (.slice Ap ps.length cp) ps) := (show Hid _ from (HPV4.out.below HB.out).more hzr)
      go_wp2_with fail
      (with_reducible refine (kHomes_ok B ps key _ wr HDV.out.hv hks HPVr.out).mono ?_)
      rintro e w5 ⟨h5, h5'⟩
      have hl1 := HDV.out.hv.l1
      cases hky : ky key
      · obtain ⟨rfl, hb5⟩ := h5' hky
        have hn : ¬ (1 ≤ key.size ∧ key.size ≤ 32) := by intro h; unfold ky at hky; simp [h] at hky
        have HB5 : Hid (Below w.heap.size w w5) := (show Hid _ from HBWr.out.trans (hb5.mono HBWr.out.size))
        clear hb5 h5 h5' hky
        by_cases h1 : key.size < 1
        · go_wp2_with fail
          all_goals go_ret
          all_goals exact ⟨rfl, HB5.out⟩
        · have h2 : 32 < key.size := by omega
          have d1 : decide ((key.size : Int) < 1) = false := decide_eq_false (by omega)
          have d2 : decide (32 < (key.size : Int)) = true := decide_eq_true (by omega)
          go_wp2_with fail
          all_goals go_ret
          all_goals exact ⟨rfl, HB5.out⟩
      · obtain ⟨v9, rfl, ho9, hb9⟩ := h5 hky
        have hkb := ky_bd hky
        rw [hms_len] at ho9
        obtain ⟨A9, c9, rfl⟩ := own_sl ho9
        have HB9 : Hid (Below w.heap.size w w5) := (show Hid _ from HBWr.out.trans (hb9.mono HBWr.out.size))
        have HX9 : Hid (Below w4.heap.size w4 w5) := (show Hid _ from HB.out.trans (hb9.mono hzr))
        clear hb9 ho9 h5 h5' hky x0 x1 x2 x3
        obtain ⟨x0, x1, x2, x3⟩ := HXD.out w5 HX9.out
        have d1 : decide ((key.size : Int) < 1) = false := decide_eq_false (by omega)
        have d2 : decide (32 < (key.size : Int)) = false := decide_eq_false (by omega)
        have d3 : ¬ (32 < key.size) := by omega
        have d4 : ¬ (key.size < 1) := by omega
        go_wp2_with fail
        all_goals go_ret
        all_goals exact ⟨rfl, HB9.out⟩
end Go.Proofs.Ytllnomembakboaa
