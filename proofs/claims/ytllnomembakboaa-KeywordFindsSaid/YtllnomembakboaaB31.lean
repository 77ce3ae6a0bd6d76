/- Joined: Og. -/
import Derived.Test.YtllnomembakboaaB22
import Derived.Test.YtllnomembakboaaB30
namespace Go.Proofs.Ytllnomembakboaa
open Go.RowKit

theorem posE_le (bs : List (List (ByteArray × Int))) (b : Nat) : posE bs b ≤ bs.flatten.length := by
  have e : bs.flatten = (bs.take b).flatten ++ (bs.drop b).flatten := by rw [← List.flatten_append, List.take_append_drop]
  rw [e, List.length_append]
  unfold posE
  omega
theorem SLo.sle {lo : Nat} {w : World} {v : Value} {bs : List (List (ByteArray × Int))} (h : SLo lo w v bs) : SLe w.heap.size w v bs := by
  obtain ⟨vs, h1, h2, h3⟩ := h
  exact ⟨vs, h1, h2.sv, fun j a b => (h3 j a b).sv⟩
set_option maxRecDepth 100000 in
set_option maxHeartbeats 16000000 in
theorem finds_any (l : List Int) (v : Value) (w : World) (h : SI w v l) : Calls Try.prog 4 #[v] w fun e w' => e = .returned (.bool true) ∧ Below w.heap.size w w' := by
  have HSI := Lib.hid h
  clear h
  go_enter Try.func4, Try.ntmps4
  go_wp2_with fail
  (with_reducible refine (sane_any w).mono ?_)
  rintro e w1 ⟨rfl, hb1⟩
  have HB1 := Lib.hid hb1
  have HSI1 : Hid (SI w1 v l) := (show Hid _ from HSI.out.below hb1)
  clear hb1
  go_wp2_with fail
  (with_reducible refine (few_any l _ w1 HSI1.out).mono ?_)
  rintro e w1' ⟨rfl, hw1⟩
  subst hw1
  cases hfew : decide (l.length ≤ 500)
  · go_wp2_with fail
    all_goals go_ret
    all_goals exact ⟨rfl, HB1.out⟩
  · clear hfew
    go_wp2_with fail
    (with_reducible refine (new_any l _ w1 HSI1.out).mono ?_)
    rintro e w2 ⟨rfl, hd2, hb2, hz2⟩
    obtain ⟨g, eg⟩ : ∃ g, g = w1.heap.size := ⟨_, rfl⟩
    rw [← eg] at hd2 hz2
    rw [← eg]
    have HD2 := Lib.hid hd2
    have HB2 : Hid (Below w.heap.size w w2) := (show Hid _ from HB1.out.trans (hb2.mono HB1.out.size))
    have hgw : w.heap.size ≤ g := by rw [eg]; exact HB1.out.size
    clear hd2 hb2 eg
    go_wp2_with fail
    (with_reducible refine (hashing_any g w2 HD2.out).mono ?_)
    rintro e w3 ⟨B0, ps, pv, rfl, hv, ho3, hd3, hg3⟩
    obtain ⟨B, rfl⟩ : ∃ B : Nat, B0 = B := ⟨B0.toNat, by have := hv.b1; omega⟩
    have HV := Lib.hid hv
    have HO3 := Lib.hid ho3
    have HD3 := Lib.hid hd3
    have HG3 := Lib.hid hg3
    have hz3 := hg3.size
    obtain ⟨Ap, cp, rfl⟩ := own_sl ho3
    clear hv ho3 hd3 hg3
    go_wp2_with fail
    (with_reducible refine (next_any 4 g w3 HD3.out (by unfold i64r; omega) (by omega)).mono ?_)
    rintro e w4 ⟨x, rfl, _, hx, hd4, hg4⟩
    have hx := hx (by omega)
    obtain ⟨sl, hsl⟩ : ∃ sl : Nat, 1 + x = (sl : Int) := ⟨(1 + x).toNat, by omega⟩
    have wsl : IntKind.i64.wrap (1 + x) = (sl : Int) := by rw [hsl]; exact IntWalk.i64_in _ (by omega)
    have HD4 := Lib.hid hd4
    have HG4 := Lib.hid hg4
    have hz4 := hg4.size
    have hs1 : 1 ≤ sl := by omega
    have hs4 : sl ≤ 4 := by omega
    clear hd4 hg4 hsl
    go_wp2_with fail
    (with_reducible refine (entries_any 9 g w4 HD4.out (by omega) (by omega)).mono ?_)
    rintro e w5 ⟨es, lv, rfl, hes, hel, ho5, hd5, hg5⟩
    have HES := Lib.hid hes
    have HO5 := Lib.hid ho5
    have HD5 := Lib.hid hd5
    have HG5 := Lib.hid hg5
    have hz5 := hg5.size
    have hel9 : es.length ≤ 9 := by omega
    obtain ⟨Al, cl, rfl⟩ := own_sl ho5
    clear hes ho5 hd5 hg5 hel
    obtain ⟨H, eH⟩ : ∃ H, H = w5.heap.size := ⟨_, rfl⟩
    obtain ⟨w6, ew6⟩ : ∃ w6 : World, w6 = w5.alloc (.cells #[.int .i64 B, .slice Ap ps.length cp] 25) := ⟨_, rfl⟩
    have HWw6 : Hid (w5.alloc (.cells #[.int .i64 B, .slice Ap ps.length cp] 25) = w6) := ew6.symm
    have HAw6 : Hid (Below w5.heap.size w5 w6) := (show Hid _ from by rw [ew6]; exact (Below.refl _ w5).alloc (Nat.le_refl _) _)
    have HH0w6 : Hid (w6.heap[H]? = some (.cells #[.int .i64 B, .slice Ap ps.length cp] 25 (0, 0))) := (show Hid _ from by show _ = _; rw [ew6, eH]; exact heap_alloc_new w5 _)
    have HXH : Hid (∀ W, Below w6.heap.size w6 W → W.cell? ⟨H, 0, none⟩ = some (.int .i64 B) ∧ W.cell? ⟨H, 1, none⟩ = some (.slice Ap ps.length cp)) := (show Hid _ from fun W hg => by
      have hH0 := (hg.block H (heap_of_cells HH0w6.out)).trans HH0w6.out
      exact ⟨cell_of_row W H 0 _ _ _ hH0, cell_of_row W H 1 _ _ _ hH0⟩)
    have hH6 : H < w6.heap.size := heap_of_cells HH0w6.out
    have hH5 : w5.heap.size ≤ H := Nat.le_of_eq eH.symm
    have HGA : Hid (w2.grownBy w6 (some g)) := (show Hid _ from grownBy_trans HG3.out (grownBy_trans HG4.out (grownBy_trans HG5.out (grownBy_of_below HAw6.out _))))
    have HD6 := Lib.hid (HD5.out.below HAw6.out)
    have HPV6 : Hid (SVo hcs 2 w2.heap.size w6 (.slice Ap ps.length cp) ps) := (show Hid _ from (((SVo.of_own HO3.out (fun x _ => hcs_len x)).grown HG4.out (by omega)).grown HG5.out (by omega)).below HAw6.out)
    have HLV6 : Hid (SVo ecs 2 w4.heap.size w6 (.slice Al es.length cl) es) := (show Hid _ from (SVo.of_own HO5.out (fun x _ => ecs_len x)).below HAw6.out)
    have HB6 : Hid (Below w.heap.size w w6) := (show Hid _ from HB2.out.grown HGA.out HB2.out.size (fun k hk => by injection hk with hk; omega))
    go_upto_region 7 with fail
    rw [HWw6.out, ← eH]
    clear ew6 eH
    obtain ⟨x0, x1⟩ := HXH.out w6 (Below.refl _ _)
    go_wp2_with fail
    (with_reducible refine (kbuild_any B ps sl es _ _ w6 HV.out hs1 (by omega) HES.out.size (by omega) (HPV6.out.sg HV.out) HLV6.out.sv).mono ?_)
    rintro e w7 ⟨hb7, hres⟩
    have HB7 := Lib.hid hb7
    have hz7 := hb7.size
    have HBW7 : Hid (Below w.heap.size w w7) := (show Hid _ from HB6.out.trans (hb7.mono HB6.out.size))
    have HD7 := Lib.hid (HD6.out.below hb7)
    have HPV7 := Lib.hid (HPV6.out.below hb7)
    have HLV7 := Lib.hid (HLV6.out.below hb7)
    have HEC := Lib.hid (ecode_ok HES.out.env)
    clear hb7 x0 x1
    rcases hres with ⟨hne, _⟩ | ⟨_, S, hp, ha, hres⟩
    · exact absurd HEC.out hne
    have HP := Lib.hid hp
    have HA := Lib.hid ha
    clear hp ha
    rcases hres with ⟨_, rfl⟩ | ⟨out, pv2, ev, hlx, rfl, ho7, hsl7⟩
    · simp only [noDir]
      go_wp2_with fail
      all_goals go_ret
      all_goals exact ⟨rfl, HBW7.out.alloc HBW7.out.size _⟩
    · obtain ⟨Aq, cq, rfl⟩ := own_sl ho7
      obtain ⟨Ae, ce, rfl⟩ := hsl7.form
      have HASG := Lib.hid hlx.asg
      have hkn : (S.map (·.1)).Nodup := ((HP.out.map _).nodup_iff).2 HES.out.env.2
      have HKN := Lib.hid hkn
      have hVS : ∀ e ∈ S, ven e = true := fun e he => HES.out.env.1 e (HP.out.mem_iff.1 he)
      have HOK : Hid (DirOK B ps sl (dist S out B)) := (show Hid _ from dist_ok hs1 (by omega) HA.out hVS hkn hlx.asg)
      obtain ⟨bs, ebs⟩ : ∃ bs, bs = dist S out B := ⟨_, rfl⟩
      rw [← ebs] at hsl7 HOK ⊢
      have HEB := Lib.hid ebs
      have HO7 := Lib.hid ho7
      have HSL7 := Lib.hid hsl7
      clear hlx ho7 hsl7 hkn hVS ebs
      have hfl : bs.flatten.length = es.length := by rw [HEB.out]; exact ((dist_perm HV.out.b1 HKN.out HASG.out).trans HP.out).length_eq
      have hbl : bs.length = B := by rw [HEB.out, dist_len]
      have HBL := Lib.hid hbl
      have hb64 : bs.length ≤ 64 := by have := HV.out.b2; omega
      clear hbl
      obtain ⟨D, eD⟩ : ∃ D, D = w7.heap.size := ⟨_, rfl⟩
      obtain ⟨w8, ew8⟩ : ∃ w8 : World, w8 = w7.alloc (.cells #[.int .i64 B, .slice Aq ps.length cq, .int .i64 sl, .slice Ae bs.length ce] 28) := ⟨_, rfl⟩
      have HWw8 : Hid (w7.alloc (.cells #[.int .i64 B, .slice Aq ps.length cq, .int .i64 sl, .slice Ae bs.length ce] 28) = w8) := ew8.symm
      have HAw8 : Hid (Below w7.heap.size w7 w8) := (show Hid _ from by rw [ew8]; exact (Below.refl _ w7).alloc (Nat.le_refl _) _)
      have HD0w8 : Hid (w8.heap[D]? = some (.cells #[.int .i64 B, .slice Aq ps.length cq, .int .i64 sl, .slice Ae bs.length ce] 28 (0, 0))) := (show Hid _ from by show _ = _; rw [ew8, eD]; exact heap_alloc_new w7 _)
      have HXD : Hid (∀ W, Below w8.heap.size w8 W → W.cell? ⟨D, 0, none⟩ = some (.int .i64 B) ∧ W.cell? ⟨D, 1, none⟩ = some (.slice Aq ps.length cq) ∧ W.cell? ⟨D, 2, none⟩ = some (.int .i64 sl) ∧ W.cell? ⟨D, 3, none⟩ = some (.slice Ae bs.length ce)) := (show Hid _ from fun W hg => by
        have hD0 := (hg.block D (heap_of_cells HD0w8.out)).trans HD0w8.out
        exact ⟨cell_of_row W D 0 _ _ _ hD0, cell_of_row W D 1 _ _ _ hD0, cell_of_row W D 2 _ _ _ hD0, cell_of_row W D 3 _ _ _ hD0⟩)
      have hD8 : D < w8.heap.size := heap_of_cells HD0w8.out
      have hD7 : w7.heap.size ≤ D := Nat.le_of_eq eD.symm
      go_upto_region 8 with fail
      rw [HWw8.out, ← eD]
      clear ew8 eD
      have HB8 : Hid (Below w.heap.size w w8) := (show Hid _ from HBW7.out.trans (HAw8.out.mono HBW7.out.size))
      have HSL8 : Hid (SLo w6.heap.size w8 (.slice Ae bs.length ce) bs) := (show Hid _ from HSL7.out.below HAw8.out)
      obtain ⟨y0, y1, y2, y3⟩ := HXD.out w8 (Below.refl _ _)
      have HKS : Hid (∀ l ∈ bs, ∀ e ∈ l, e.1.size ≤ 9223372036854775807) := (show Hid _ from fun l hl e he => by
        obtain ⟨b, hb, rfl⟩ := List.getElem_of_mem hl
        have h1 := (ascB_iff.1 (HOK.out.row b hb).2).1 e he
        have h2 := ky_bd (s := e.1) (by simp [ven] at h1; exact h1.1.1)
        omega)
      have HPV8 : Hid (SVo hcs 2 w2.heap.size w8 (.slice Ap ps.length cp) ps) := (show Hid _ from HPV7.out.below HAw8.out)
      have HPQ8 : Hid (SG pcs 2 w8.heap.size w8 (.slice Aq ps.length cq) ps) := (show Hid _ from ((SVo.of_own HO7.out (fun x _ => hcs_len x)).below HAw8.out).sg HV.out)
      have HLV8 : Hid (SVo ecs 2 w4.heap.size w8 (.slice Al es.length cl) es) := (show Hid _ from HLV7.out.below HAw8.out)
      have HD8 := Lib.hid (HD7.out.below HAw8.out)
      have hgH : g < H := by omega
      have hgD : g < D := by omega
      have hz8 := HAw8.out.size
      have HH8 : Hid (w8.heap[H]? = some (.cells #[.int .i64 B, .slice Ap ps.length cp] 25 (0, 0))) := (show Hid _ from (HAw8.out.block H (by omega)).trans ((HB7.out.block H hH6).trans HH0w6.out))
      go_wp2_with fail
      go_loopw [9, 60] (fun tv iv wr => ∃ k : Nat, k ≤ bs.length ∧ iv = .int .i64 k ∧ tv = .int .i64 (posE bs k : Nat) ∧ w8 = wr) (fun _ iv _ => bs.length - (intOf iv).toNat)
      case atStart => exact ⟨0, Nat.zero_le _, rfl, rfl, rfl⟩
      case round =>
        obtain ⟨k, hk, rfl, rfl, rfl⟩ := hrel
        by_cases hkt : k < bs.length
        · -- {A
          obtain ⟨_, b, off, Ar, cr, eA, _, _, c0, _⟩ := HSL8.out.row k hkt
          subst eA
          have hps := posE_succ hkt
          have hpl := posE_le bs (k + 1)
          obtain ⟨n, en⟩ : ∃ n : Nat, n = bs[k].length := ⟨_, rfl⟩
          rw [← en] at c0 hps
          have wt : IntKind.i64.wrap ((posE bs k : Int) + (n : Int)) = ((posE bs (k + 1) : Nat) : Int) := by rw [IntWalk.i64_in _ (by omega)]; omega
          have wk : IntKind.i64.wrap ((k : Int) + 1) = (k : Int) + 1 := by exact IntWalk.i64_in _ (by omega)
          have z0 : 0 ≤ (k : Int) := by omega
          have z1 : (k : Int) < (bs.length : Int) := by omega
          clear hps hpl en
          go_wp2_with fail
          go_roundw
          case rel => exact ⟨k + 1, hkt, by go_num, by first | rfl | trivial, by first | rfl | trivial⟩
          case measure => simp [intOf]; omega
          -- A}
        · have hke : k = bs.length := by omega
          subst hke
          rw [posE_all, hfl]
          have HSLE8 : Hid (SLe w8.heap.size w8 (.slice Ae bs.length ce) bs) := (show Hid _ from HSL8.out.sle)
          go_upto_region 16 with fail
          go_wp2_with fail
          (with_reducible refine (kcheck_ok B ps sl bs _ _ w8 HV.out HPQ8.out HSLE8.out HKS.out (by rw [hfl]; omega)).mono ?_)
          rintro e w9 ⟨r, rfl, hr, hb9⟩
          obtain rfl : r = true := hr.2 HOK.out
          have HB9 := Lib.hid hb9
          have hz9 := hb9.size
          have HD9 := Lib.hid (HD8.out.below hb9)
          clear hb9 hr y0 y1 y2 y3 hk hkt
          have HQ9 : Hid (SVo hcs 2 w6.heap.size w9 (.slice Aq ps.length cq) ps) := (show Hid _ from ((SVo.of_own HO7.out (fun x _ => hcs_len x)).below HAw8.out).below HB9.out)
          have HP9 := Lib.hid (HPV8.out.below HB9.out)
          have HL9 := Lib.hid (HLV8.out.below HB9.out)
          have HS9 := Lib.hid (HSL8.out.below HB9.out)
          have HH9 : Hid (w9.heap[H]? = some (.cells #[.int .i64 B, .slice Ap ps.length cp] 25 (0, 0))) := (show Hid _ from (HB9.out.block H (heap_of_cells HH8.out)).trans HH8.out)
          have HD9b : Hid (w9.heap[D]? = some (.cells #[.int .i64 B, .slice Aq ps.length cq, .int .i64 sl, .slice Ae bs.length ce] 28 (0, 0))) := (show Hid _ from (HB9.out.block D hD8).trans HD0w8.out)
          have hH9 := heap_of_cells HH9.out
          have hD9 := heap_of_cells HD9b.out
          have HBW9 : Hid (Below w.heap.size w w9) := (show Hid _ from HB8.out.trans (HB9.out.mono HB8.out.size))
          go_wp2_with fail
          (with_reducible refine (words_any 6 g w9 HD9.out (by omega) (by omega)).mono ?_)
          rintro e w10 ⟨ws, wv, rfl, hws, hwl, ho10, hd10, hg10⟩
          have hzw9 := HBW9.out.size
          have HBW10 : Hid (Below w.heap.size w w10) := (show Hid _ from HBW9.out.grown hg10 hzw9 (fun k hk => by injection hk with hk; omega))
          have hz10 := hg10.size
          have hFR : ∀ W, Below w9.heap.size w10 W → w9.heap.size ≤ W.heap.size ∧ ∀ p : Addr, g < p.block → p.block < w9.heap.size → W.cell? p = w9.cell? p := fun W hW => ⟨Nat.le_trans hz10 hW.size, fun p h1 h2 => (hW.cell h2).trans (hg10.cell_far p h2 (by simp; omega))⟩
          have hFB : ∀ W, Below w9.heap.size w10 W → ∀ k, g < k → k < w9.heap.size → W.heap[k]? = w9.heap[k]? := fun W hW k h1 h2 => (hW.block k h2).trans (hg10.block k h2 (by simp; omega))
          have HPW : Hid (∀ W, Below w9.heap.size w10 W → SG pcs 2 W.heap.size W (.slice Ap ps.length cp) ps) := (show Hid _ from fun W hW => (HP9.out.keep (hFR W hW).1 (fun p h1 h2 => (hFR W hW).2 p (by omega) h2)).sg HV.out)
          have HQW : Hid (∀ W, Below w9.heap.size w10 W → SG pcs 2 W.heap.size W (.slice Aq ps.length cq) ps) := (show Hid _ from fun W hW => (HQ9.out.keep (hFR W hW).1 (fun p h1 h2 => (hFR W hW).2 p (by omega) h2)).sg HV.out)
          have HLW : Hid (∀ W, Below w9.heap.size w10 W → SV ecs 2 W.heap.size W (.slice Al es.length cl) es) := (show Hid _ from fun W hW => (HL9.out.keep (hFR W hW).1 (fun p h1 h2 => (hFR W hW).2 p (by omega) h2)).sv)
          obtain ⟨vs, hvl, hvs, hrows⟩ := HS9.out
          have HVL := Lib.hid hvl
          have HVW : Hid (∀ W, Below w9.heap.size w10 W → SV one 1 W.heap.size W (.slice Ae bs.length ce) vs ∧ ∀ j (h1 : j < vs.length) (h2 : j < bs.length), SV ecs 2 W.heap.size W vs[j] bs[j]) := (show Hid _ from fun W hW => ⟨(hvs.keep (hFR W hW).1 (fun p h1 h2 => (hFR W hW).2 p (by omega) h2)).sv, fun j h1 h2 => ((hrows j h1 h2).keep (hFR W hW).1 (fun p h1 h2 => (hFR W hW).2 p (by omega) h2)).sv⟩)
          have HCW : Hid (∀ W, Below w9.heap.size w10 W → W.cell? ⟨H, 0, none⟩ = some (.int .i64 B) ∧ W.cell? ⟨H, 1, none⟩ = some (.slice Ap ps.length cp) ∧ W.cell? ⟨D, 0, none⟩ = some (.int .i64 B) ∧ W.cell? ⟨D, 1, none⟩ = some (.slice Aq ps.length cq) ∧ W.cell? ⟨D, 2, none⟩ = some (.int .i64 sl) ∧ W.cell? ⟨D, 3, none⟩ = some (.slice Ae bs.length ce)) := (show Hid _ from fun W hW => by
            have e1 := (hFB W hW H hgH hH9).trans HH9.out
            have e2 := (hFB W hW D hgD hD9).trans HD9b.out
            exact ⟨cell_of_row W H 0 _ _ _ e1, cell_of_row W H 1 _ _ _ e1, cell_of_row W D 0 _ _ _ e2, cell_of_row W D 1 _ _ _ e2, cell_of_row W D 2 _ _ _ e2, cell_of_row W D 3 _ _ _ e2⟩)
          have HWS := Lib.hid hws
          have HO10 := Lib.hid ho10
          obtain ⟨A10, c10, rfl⟩ := own_sl ho10
          clear hws ho10 hd10 hg10 hFR hFB hvs hrows hvl
          go_wp2_with (at_builtin; refine wpList_append_el scs _ rfl _ _ 39 rfl w9.heap.size 9 _ 1 16 Try.underlying39 sinfo rfl (by omega) (by omega) _ ws (by rfl) (by exact HO10.out) ⟨#[122, 122]⟩ rfl (scs_one _) (by rfl) ?c1 ?c2 ?_)
          case c1 => omega
          case c2 => exact hz10
          intro v12 w12 ho12 hg12
          have HO12 : Hid (w12.ownsRow w9.heap.size 9 1 v12 (ws ++ [(⟨#[122, 122]⟩ : ByteArray)]).length ((ws ++ [(⟨#[122, 122]⟩ : ByteArray)]).flatMap scs)) := (show Hid _ from by show World.ownsRow _ _ _ _ _ _ _; simpa using ho12)
          have HB12 : Hid (Below w9.heap.size w10 w12) := (show Hid _ from ((Below.refl w9.heap.size w10).alloc hz10 _).grown hg12 (by simp; omega) (fun k hk => (HO10.out.lt k hk).1))
          clear ho12 hg12
          obtain ⟨wz, ewz⟩ : ∃ wz, wz = ws ++ [(⟨#[122, 122]⟩ : ByteArray)] := ⟨_, rfl⟩
          rw [← ewz] at HO12
          have HWK : Hid (∀ s ∈ wz, ky s = true) := (show Hid _ from fun s hs => by
            rw [ewz] at hs
            rcases List.mem_append.1 hs with h1 | h1
            · have := HWS.out.1 s h1
              unfold wrd at this
              simp [ky]
              omega
            · rw [List.mem_singleton.1 h1]
              decide)
          have hwz7 : wz.length ≤ 7 := by rw [ewz]; simp; omega
          clear ewz
          go_wp2_with fail
          go_loopw [12, 84] (fun ov iv wr => ∃ k : Nat, k ≤ es.length ∧ iv = .int .i64 k ∧ wr.ownsRow w9.heap.size 9 1 ov (wz ++ (es.take k).map (·.1)).length ((wz ++ (es.take k).map (·.1)).flatMap scs) ∧ Below w9.heap.size w10 wr) (fun _ iv _ => es.length - (intOf iv).toNat)
          case atStart => exact ⟨0, Nat.zero_le _, rfl, by simpa using HO12.out, HB12.out⟩
          case round =>
            obtain ⟨k, hk, rfl, ho, hb⟩ := hrel
            have HO := Lib.hid ho
            have HB := Lib.hid hb
            have hzr : w9.heap.size ≤ wr.heap.size := Nat.le_trans hz10 hb.size
            clear ho hb
            by_cases hkt : k < es.length
            · -- {B
              obtain ⟨_, hat⟩ := (HLW.out wr HB.out).at
              obtain ⟨p, o, eA, hp, hcell⟩ := hat k hkt
              subst eA
              obtain ⟨key, ek⟩ : ∃ k', k' = es[k].1 := ⟨_, rfl⟩
              obtain ⟨x, ex⟩ : ∃ x, x = es[k].2 := ⟨_, rfl⟩
              have c0 : wr.cell? ⟨p, o + k * 2, none⟩ = some (.string key) := by rw [ek]; exact hcell wr (Below.refl _ _) 0 (by omega)
              have c1 : wr.cell? ⟨p, o + k * 2 + 1, none⟩ = some (.int .i64 x) := by rw [ex]; exact hcell wr (Below.refl _ _) 1 (by omega)
              have HEK := Lib.hid ek
              have z0 : 0 ≤ (k : Int) := by omega
              have z1 : (k : Int) < (es.length : Int) := by omega
              have wk : IntKind.i64.wrap ((k : Int) + 1) = (k : Int) + 1 := by exact IntWalk.i64_in _ (by omega)
              obtain ⟨Aw, cw, ew⟩ := own_sl HO.out
              clear hat hcell ek ex ew
              obtain ⟨X, eX⟩ : ∃ X, X = wr.heap.size := ⟨_, rfl⟩
              obtain ⟨wx, ewx⟩ : ∃ wx : World, wx = wr.alloc (.cells #[.string key, .int .i64 x] 41) := ⟨_, rfl⟩
              have HWwx : Hid (wr.alloc (.cells #[.string key, .int .i64 x] 41) = wx) := ewx.symm
              have HAwx : Hid (Below wr.heap.size wr wx) := (show Hid _ from by rw [ewx]; exact (Below.refl _ wr).alloc (Nat.le_refl _) _)
              have HX0wx : Hid (wx.heap[X]? = some (.cells #[.string key, .int .i64 x] 41 (0, 0))) := (show Hid _ from by show _ = _; rw [ewx, eX]; exact heap_alloc_new wr _)
              have HXX : Hid (∀ W, Below wx.heap.size wx W → W.cell? ⟨X, 0, none⟩ = some (.string key) ∧ W.cell? ⟨X, 1, none⟩ = some (.int .i64 x)) := (show Hid _ from fun W hg => by
                have hX0 := (hg.block X (heap_of_cells HX0wx.out)).trans HX0wx.out
                exact ⟨cell_of_row W X 0 _ _ _ hX0, cell_of_row W X 1 _ _ _ hX0⟩)
              have hzx := HAwx.out.size
              go_upto_region 22 with fail
              rw [HWwx.out, ← eX]
              clear ewx eX
              obtain ⟨k0, k1⟩ := HXX.out wx (Below.refl _ _)
              have HOx : Hid (wx.ownsRow w9.heap.size 9 1 u12 (wz ++ (es.take k).map (·.1)).length ((wz ++ (es.take k).map (·.1)).flatMap scs)) := (show Hid _ from HO.out.kept (grownBy_of_below HAwx.out (some wx.heap.size)) (.inr (fun e => by have := (HO.out.lt _ e).2; omega)))
              clear c0 c1
              go_wp2_with (at_builtin; refine wpList_append_el scs _ rfl _ _ 39 rfl w9.heap.size 9 _ 1 16 Try.underlying39 sinfo rfl (by omega) (by omega) _ (wz ++ (es.take k).map (·.1)) (by rfl) (by exact HOx.out) key rfl (scs_one _) (by rfl) ?c1 ?c2 ?_)
              case c1 => omega
              case c2 => omega
              intro v4 w4' ho4 hg4
              have HO4 : Hid (w4'.ownsRow w9.heap.size 9 1 v4 (wz ++ (es.take (k + 1)).map (·.1)).length ((wz ++ (es.take (k + 1)).map (·.1)).flatMap scs)) := (show Hid _ from by
                show World.ownsRow _ _ _ _ _ _ _
                rw [List.take_succ_eq_append_getElem hkt, List.map_append, List.map_singleton, ← HEK.out, ← List.append_assoc]
                rw [List.length_append, List.flatMap_append]
                have hmin : min k es.length = k := by omega
                simpa [hmin, Nat.add_assoc] using ho4)
              have HB4 : Hid (Below w9.heap.size w10 w4') := (show Hid _ from (((HB.out.trans (HAwx.out.mono hzr))).alloc (by omega) _).grown hg4 (by simp; omega) (fun k hk => (HOx.out.lt k hk).1))
              clear ho4 hg4
              go_wp2_with fail
              go_roundw
              case rel => exact ⟨k + 1, hkt, by go_num, HO4.out, HB4.out⟩
              case measure => simp [intOf]; omega
              -- B}
            · have hke : k = es.length := by omega
              subst hke
              rw [List.take_length] at HO
              obtain ⟨WS, eWS⟩ : ∃ WS, WS = wz ++ es.map (·.1) := ⟨_, rfl⟩
              rw [← eWS] at HO
              have HWK2 : Hid (∀ s ∈ WS, ky s = true) := (show Hid _ from fun s hs => by
                rw [eWS] at hs
                rcases List.mem_append.1 hs with h1 | h1
                · exact HWK.out s h1
                · obtain ⟨e, he, rfl⟩ := List.mem_map.1 h1
                  have h2 := HES.out.val e he
                  simp [ven] at h2
                  exact h2.1.1)
              have hWS : WS.length ≤ 20 := by rw [eWS]; simp; omega
              obtain ⟨Aw, cw, ew⟩ := own_sl HO.out
              subst ew
              obtain ⟨wm, rfl⟩ : ∃ wm : World, wm = wr := ⟨_, rfl⟩
              have HSW : Hid (SV scs 1 wm.heap.size wm (.slice Aw WS.length cw) WS) := (show Hid _ from SV.of_own HO.out (fun x _ => scs_len x))
              clear eWS hk hkt
              go_wp2_with fail
              go_loopw [96] (fun iv wr => ∃ k : Nat, k ≤ WS.length ∧ iv = .int .i64 k ∧ Below wm.heap.size wm wr) (fun iv _ => WS.length - (intOf iv).toNat)
              case atStart => exact ⟨0, Nat.zero_le _, rfl, Below.refl _ _⟩
              case round =>
                obtain ⟨k, hk, rfl, hb⟩ := hrel
                have HBm := Lib.hid hb
                have HBn : Hid (Below w9.heap.size w10 wr) := (show Hid _ from HB.out.trans (hb.mono hzr))
                have HBWr : Hid (Below w.heap.size w wr) := (show Hid _ from HBW10.out.trans (HBn.out.mono hzw9))
                clear hb
                by_cases hkt : k < WS.length
                · obtain ⟨_, hat⟩ := (HSW.out.on HBm.out).at
                  obtain ⟨p, o, eA, hp, hcell⟩ := hat k hkt
                  subst eA
                  obtain ⟨key, ek⟩ : ∃ s, s = WS[k] := ⟨_, rfl⟩
                  have c0 : wr.cell? ⟨p, o + k, none⟩ = some (.string key) := by
                    have := hcell wr (Below.refl _ _) 0 (by omega)
                    rw [ek]
                    simpa [scs] using this
                  have HKY : Hid (ky key = true) := (show Hid _ from by rw [ek]; exact HWK2.out _ (List.getElem_mem hkt))
                  have hkb := ky_bd HKY.out
                  have hks : key.size ≤ 9223372036854775807 := by omega
                  have z0 : 0 ≤ (k : Int) := by omega
                  have z1 : (k : Int) < (WS.length : Int) := by omega
                  have wk : IntKind.i64.wrap ((k : Int) + 1) = (k : Int) + 1 := by exact IntWalk.i64_in _ (by omega)
                  clear hat hcell ek
                  obtain ⟨wn, rfl⟩ : ∃ wn : World, wn = wr := ⟨_, rfl⟩
                  go_wp2_with fail
                  clear c0
                  go_loopw [17, 18, 102] (fun nv bv' iv wr => ∃ j : Nat, j ≤ es.length ∧ iv = .int .i64 j ∧ nv = .int .i64 ((pickE key (es.take j)).getD 0) ∧ bv' = .bool (pickE key (es.take j)).isSome ∧ Below wn.heap.size wn wr) (fun _ _ iv _ => es.length - (intOf iv).toNat)
                  case atStart => exact ⟨0, Nat.zero_le _, rfl, rfl, rfl, Below.refl _ _⟩
                  case round =>
                    obtain ⟨j, hj, rfl, rfl, rfl, hb⟩ := hrel
                    have HBq := Lib.hid hb
                    have HBq9 : Hid (Below w9.heap.size w10 wr) := (show Hid _ from HBn.out.trans (hb.mono (Nat.le_trans hz10 HBn.out.size)))
                    have hzq := hb.size
                    clear hb
                    by_cases hjt : j < es.length
                    · -- {C
                      obtain ⟨_, hat⟩ := (HLW.out wr HBq9.out).at
                      obtain ⟨p2, o2, eA, hp2, hcell⟩ := hat j hjt
                      subst eA
                      obtain ⟨ek, eek⟩ : ∃ k', k' = es[j].1 := ⟨_, rfl⟩
                      obtain ⟨x, ex⟩ : ∃ x, x = es[j].2 := ⟨_, rfl⟩
                      have c0 : wr.cell? ⟨p2, o2 + j * 2, none⟩ = some (.string ek) := by rw [eek]; exact hcell wr (Below.refl _ _) 0 (by omega)
                      have c1 : wr.cell? ⟨p2, o2 + j * 2 + 1, none⟩ = some (.int .i64 x) := by rw [ex]; exact hcell wr (Below.refl _ _) 1 (by omega)
                      have hst := pickE_step HES.out.env.2 hjt key
                      rw [← eek, ← ex] at hst
                      have HST := Lib.hid hst
                      have y0 : 0 ≤ (j : Int) := by omega
                      have y1 : (j : Int) < (es.length : Int) := by omega
                      have wj : IntKind.i64.wrap ((j : Int) + 1) = (j : Int) + 1 := by exact IntWalk.i64_in _ (by omega)
                      obtain ⟨po, epo⟩ : ∃ q, q = pickE key (es.take j) := ⟨_, rfl⟩
                      rw [← epo] at HST ⊢
                      clear hat hcell eek ex hst epo
                      obtain ⟨X, eX⟩ : ∃ X, X = wr.heap.size := ⟨_, rfl⟩
                      obtain ⟨wx, ewx⟩ : ∃ wx : World, wx = wr.alloc (.cells #[.string ek, .int .i64 x] 41) := ⟨_, rfl⟩
                      have HWwx : Hid (wr.alloc (.cells #[.string ek, .int .i64 x] 41) = wx) := ewx.symm
                      have HAwx : Hid (Below wr.heap.size wr wx) := (show Hid _ from by rw [ewx]; exact (Below.refl _ wr).alloc (Nat.le_refl _) _)
                      have HX0wx : Hid (wx.heap[X]? = some (.cells #[.string ek, .int .i64 x] 41 (0, 0))) := (show Hid _ from by show _ = _; rw [ewx, eX]; exact heap_alloc_new wr _)
                      have HXX : Hid (∀ W, Below wx.heap.size wx W → W.cell? ⟨X, 0, none⟩ = some (.string ek) ∧ W.cell? ⟨X, 1, none⟩ = some (.int .i64 x)) := (show Hid _ from fun W hg => by
                        have hX0 := (hg.block X (heap_of_cells HX0wx.out)).trans HX0wx.out
                        exact ⟨cell_of_row W X 0 _ _ _ hX0, cell_of_row W X 1 _ _ _ hX0⟩)
                      go_upto_region 31 with fail
                      rw [HWwx.out, ← eX]
                      clear ewx eX
                      obtain ⟨k0, k1⟩ := HXX.out wx (Below.refl _ _)
                      have HBx : Hid (Below wn.heap.size wn wx) := (show Hid _ from HBq.out.trans (HAwx.out.mono hzq))
                      clear c0 c1
                      by_cases hek : ek = key
                      · have bq : (ek.toList == key.toList) = true := by rw [hek]; exact beq_self_eq_true _
                        have hN : pickE key (es.take (j + 1)) = some x := by rw [HST.out, if_pos hek]
                        have HN := Lib.hid hN
                        clear hek hN
                        go_wp2_with fail
                        go_roundw
                        case rel => exact ⟨j + 1, hjt, by go_num, by rw [HN.out]; rfl, by rw [HN.out]; rfl, HBx.out⟩
                        case measure => simp [intOf]; omega
                      · have bq : (ek.toList == key.toList) = false := by rw [beq_eq_false_iff_ne]; exact fun e => hek (tl_inj e)
                        have hN : pickE key (es.take (j + 1)) = po := by rw [HST.out, if_neg hek]
                        have HN := Lib.hid hN
                        clear hek hN
                        go_wp2_with fail
                        go_roundw
                        case rel => exact ⟨j + 1, hjt, by go_num, by rw [HN.out], by rw [HN.out], HBx.out⟩
                        case measure => simp [intOf]; omega
                      -- C}
                    · have hje : j = es.length := by omega
                      subst hje
                      rw [List.take_length]
                      obtain ⟨po, epo⟩ : ∃ q, q = pickE key es := ⟨_, rfl⟩
                      rw [← epo]
                      have HPO := Lib.hid epo
                      have HFE := find_es (key := key) HV.out.b1 HKN.out HP.out HASG.out
                      rw [← HEB.out, ← epo] at HFE
                      have HFE' := Lib.hid HFE
                      clear epo HFE
                      obtain ⟨wq, rfl⟩ : ∃ wq : World, wq = wr := ⟨_, rfl⟩
                      obtain ⟨x0, x1, _⟩ := HCW.out wq HBq9.out
                      go_wp2_with fail
                      (with_reducible refine (kHomes_ok B ps key _ wq HV.out hks (HPW.out wq HBq9.out)).mono ?_)
                      rintro e w13 ⟨h13, _⟩
                      obtain ⟨v8, rfl, ho8, hb8⟩ := h13 HKY.out
                      obtain ⟨hl, ehl⟩ : ∃ l, l = hms B ps (dg key) := ⟨_, rfl⟩
                      rw [← ehl] at ho8 HFE'
                      have hll : hl.length = ps.length := by rw [ehl, hms_len]
                      have HHB : Hid (∀ x ∈ hl, 0 ≤ x ∧ x < (B : Int)) := (show Hid _ from by rw [ehl]; exact fun x hx => hms_bd HV.out.b1 hx)
                      have hl4 : hl.length ≤ 4 := by rw [hll]; exact HV.out.l2
                      obtain ⟨A8, c8, rfl⟩ := own_sl ho8
                      have HO8 := Lib.hid ho8
                      have HEHL := Lib.hid ehl
                      have HBs : Hid (Below wn.heap.size wn w13) := (show Hid _ from HBq.out.trans (hb8.mono hzq))
                      have HBs9 : Hid (Below w9.heap.size w10 w13) := (show Hid _ from HBq9.out.trans (hb8.mono (Nat.le_trans hz10 HBq9.out.size)))
                      have HLL := Lib.hid hll
                      clear ho8 hb8 h13 ehl x0 x1 hll
                      go_wp2_with fail
                      go_loopw [23, 121] (fun ov iv wr => F1 hl vs w13 ov iv wr) (fun _ iv _ => hl.length - (intOf iv).toNat)
                      case atStart => exact ⟨0, [], Nat.zero_le _, rfl, by simp, World.ownsRow_nil _ _ _ _, Below.refl _ _⟩
                      case round =>
                        obtain ⟨j, q, hj, rfl, hq, hoq, hbq⟩ := hrel
                        obtain ⟨Aq', cq', eq'⟩ := own_sl hoq
                        subst eq'
                        have HQ := Lib.hid hq
                        have HOQ := Lib.hid hoq
                        have HBQ := Lib.hid hbq
                        have hzq' := hbq.size
                        have hql : q.length = j := by rw [hq, List.length_map, List.length_take]; omega
                        have HQL := Lib.hid hql
                        have hz13 : w9.heap.size ≤ w13.heap.size := Nat.le_trans hz10 HBs9.out.size
                        have HBt9 : Hid (Below w9.heap.size w10 wr) := (show Hid _ from HBs9.out.trans (hbq.mono hz13))
                        have HBt : Hid (Below wn.heap.size wn wr) := (show Hid _ from HBs.out.trans (hbq.mono HBs.out.size))
                        clear hq hoq hbq hql
                        by_cases hjt : j < hl.length
                        · -- {D
                          have hx := HHB.out _ (List.getElem_mem hjt)
                          obtain ⟨g8, cap8, e5, _, _⟩ := own_form HO8.out (by omega)
                          injection e5 with e6 e7 e8
                          subst e6
                          have d0 : wr.cell? ⟨g8, j, none⟩ = some (.int .i64 hl[j]) := (HBQ.out.cell (p := ⟨g8, j, none⟩) (HO8.out.lt g8 rfl).2).trans (own_int HO8.out j hjt)
                          obtain ⟨x, ex⟩ : ∃ x, x = hl[j] := ⟨_, rfl⟩
                          rw [← ex] at d0 hx
                          obtain ⟨bn, rfl⟩ : ∃ bn : Nat, x = bn := ⟨x.toNat, by omega⟩
                          have hbn2 : bn < bs.length := by have := HBL.out; omega
                          have hbn : bn < vs.length := by rw [HVL.out]; exact hbn2
                          obtain ⟨hvw, hrw⟩ := HVW.out wr HBt9.out
                          obtain ⟨_, hat⟩ := (show SV one 1 wr.heap.size wr (.slice Ae vs.length ce) vs by rw [HVL.out]; exact hvw).at
                          obtain ⟨p, o, eA, hpl, hc⟩ := hat bn hbn
                          subst eA
                          have c0 : wr.cell? ⟨p, o + bn, none⟩ = some vs[bn] := by simpa [one] using hc wr (Below.refl _ _) 0 (by omega)
                          obtain ⟨Ar, cr, er⟩ := (hrw bn hbn hbn2).form
                          rw [er] at c0
                          obtain ⟨_, _, x0, x1, x2, x3⟩ := HCW.out wr HBt9.out
                          have hnx : q ++ [Value.slice Ar bs[bn].length cr] = (hl.take (j + 1)).map fun x => vs.getD x.toNat (.slice none 0 0) := by
                            rw [List.take_succ_eq_append_getElem hjt, List.map_append, ← HQ.out, List.map_singleton, ← ex, Int.toNat_natCast, ← er]
                            simp [hbn]
                          have HNX := Lib.hid hnx
                          have zk0 : 0 ≤ (j : Int) := by omega
                          have zk1 : (j : Int) < (hl.length : Int) := by omega
                          have zx0 : 0 ≤ (bn : Int) := by omega
                          have zx1 : (bn : Int) < (bs.length : Int) := by omega
                          have zx2 : decide ((bn : Int) < 0) = false := decide_eq_false (by omega)
                          have zx3 : decide ((bs.length : Int) ≤ (bn : Int)) = false := decide_eq_false (by omega)
                          have zx4 : decide (bs.length ≤ bn) = false := decide_eq_false (by omega)
                          have wk' : IntKind.i64.wrap ((j : Int) + 1) = (j : Int) + 1 := by exact IntWalk.i64_in _ (by omega)
                          have hq7 : q.length + 1 ≤ 1000000 := by have := HQL.out; omega
                          clear hnx hat hc ex e7 e8 er hvw hrw
                          go_wp2_with (at_builtin; refine wpList_append_el_at one _ rfl _ _ 26 rfl w13.heap.size 29 _ 1 24 Try.underlying26 elinfo rfl (by omega) (by omega) _ q (by rfl) (by exact HOQ.out) (.slice Ar bs[bn].length cr) rfl (by intro u hu; simp [one] at hu; subst hu; rfl) (by rfl) ?c1 ?c2 ?_)
                          intro g7 cap7 w7' ho7' hg7 hat7
                          have HO7' := Lib.hid ho7'
                          have HB7' : Hid (Below w13.heap.size w13 w7') := (show Hid _ from (HBQ.out.alloc hzq' _).grown hg7 (by simp; omega) (fun k hk => (HOQ.out.lt k hk).1))
                          clear ho7' hg7 hat7
                          go_wp2_with fail
                          go_roundw
                          case rel => exact ⟨j + 1, q ++ [Value.slice Ar bs[bn].length cr], hjt, by go_num, HNX.out, by simpa using HO7'.out, HB7'.out⟩
                          case measure => simp [intOf]; omega
                          -- D}
                        · have hje : j = hl.length := by omega
                          have hqe : q = hl.map fun x => vs.getD x.toNat (.slice none 0 0) := by rw [HQ.out, hje, List.take_length]
                          have HFE : Hid (∀ W, Below wr.heap.size wr W → SLe W.heap.size W (.slice Aq' q.length cq') (hl.map fun x => bs.getD x.toNat [])) := (show Hid _ from fun W hW => by
                            refine ⟨q, by rw [hqe]; simp, (SV.of_own HOQ.out (fun _ _ => rfl)).on hW, fun j h1 h2 => ?_⟩
                            have hjl : j < hl.length := by simpa using h2
                            have hx := HHB.out _ (List.getElem_mem hjl)
                            have hbn2 : hl[j].toNat < bs.length := by have := HBL.out; omega
                            have hbn : hl[j].toNat < vs.length := by rw [HVL.out]; exact hbn2
                            have e1 : q[j] = vs[hl[j].toNat] := by simp only [hqe]; simp [hbn]
                            have e2 : (hl.map fun x => bs.getD x.toNat [])[j] = bs[hl[j].toNat] := by simp [hbn2]
                            rw [e1, e2]
                            exact ((HVW.out wr HBt9.out).2 _ hbn hbn2).on hW)
                          have HSLW : Hid (∀ W, Below w9.heap.size w10 W → SLe W.heap.size W (.slice Ae bs.length ce) bs) := (show Hid _ from fun W hW => ⟨vs, HVL.out, (HVW.out W hW).1, (HVW.out W hW).2⟩)
                          clear hje hqe
                          obtain ⟨wl, rfl⟩ : ∃ wl : World, wl = wr := ⟨_, rfl⟩
                          obtain ⟨_, _, x0, x1, x2, x3⟩ := HCW.out wl HBt9.out
                          go_wp2_with fail
                          (with_reducible refine (find_any B ps sl bs _ _ key wl HV.out (HQW.out wl HBt9.out) (HSLW.out wl HBt9.out) HKS.out (by rw [hfl]; omega) hks).mono ?_)
                          rintro e w14 ⟨hb14, h14⟩
                          rcases h14 with ⟨h, _⟩ | ⟨_, rfl⟩
                          · exact absurd HOK.out h
                          have hfv : findV B ps bs key = pickV po := by unfold findV; rw [if_pos HKY.out, ← HEHL.out, HFE'.out]
                          rw [hfv]
                          have HB14 := Lib.hid hb14
                          have hz14 := hb14.size
                          have HFE14 := Lib.hid (HFE.out w14 hb14)
                          have HBu9 : Hid (Below w9.heap.size w10 w14) := (show Hid _ from HBt9.out.trans (hb14.mono (Nat.le_trans hz10 HBt9.out.size)))
                          have HBu : Hid (Below wn.heap.size wn w14) := (show Hid _ from HBt.out.trans (hb14.mono HBt.out.size))
                          clear hb14 hfv x0 x1 x2 x3
                          cases po with
                          | none =>
                            simp only [pickV]
                            go_wp2_with fail
                            (with_reducible refine (pick_any key _ _ w14 hks HFE14.out).mono ?_)
                            rintro e w15 ⟨rfl, hb15⟩
                            have HB15 : Hid (Below wm.heap.size wm w15) := (show Hid _ from HBm.out.trans ((HBu.out.trans (hb15.mono HBu.out.size)).mono HBm.out.size))
                            obtain ⟨x0, x1, _⟩ := HCW.out w15 (HBu9.out.trans (hb15.mono (Nat.le_trans hz10 HBu9.out.size)))
                            rw [if_pos HKY.out, HFE'.out]
                            simp only [pickV]
                            have hlp : ((hl.length : Nat) : Int) = (ps.length : Int) := by rw [HLL.out]
                            clear hb15
                            go_wp2_with fail
                            go_roundw
                            case rel => exact ⟨k + 1, hkt, by go_num, HB15.out⟩
                            case measure => simp [intOf]; omega
                          | some n =>
                            simp only [pickV]
                            go_wp2_with fail
                            (with_reducible refine (pick_any key _ _ w14 hks HFE14.out).mono ?_)
                            rintro e w15 ⟨rfl, hb15⟩
                            have HB15 : Hid (Below wm.heap.size wm w15) := (show Hid _ from HBm.out.trans ((HBu.out.trans (hb15.mono HBu.out.size)).mono HBm.out.size))
                            obtain ⟨x0, x1, _⟩ := HCW.out w15 (HBu9.out.trans (hb15.mono (Nat.le_trans hz10 HBu9.out.size)))
                            rw [if_pos HKY.out, HFE'.out]
                            simp only [pickV]
                            have hlp : ((hl.length : Nat) : Int) = (ps.length : Int) := by rw [HLL.out]
                            clear hb15
                            go_wp2_with fail
                            go_roundw
                            case rel => exact ⟨k + 1, hkt, by go_num, HB15.out⟩
                            case measure => simp [intOf]; omega
                · go_wp2_with fail
                  all_goals go_ret
                  all_goals exact ⟨rfl, HBWr.out⟩
end Go.Proofs.Ytllnomembakboaa
