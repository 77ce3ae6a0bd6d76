/- Joined: Re. -/
import Derived.Laws.RangeString
import Derived.Laws.RangeAny
import Derived.Test.YtllnomembakboaaB22
import Derived.Test.YtllnomembakboaaB13
import Derived.Test.YtllnomembakboaaB23
import Derived.Test.YtllnomembakboaaB26
namespace Go.Proofs.Ytllnomembakboaa
open Go.RowKit

/-- the headers of a list of lists, read -/
theorem SLo.heads {lo : Nat} {w : World} {v : Value} {bs : List (List (ByteArray × Int))} (h : SLo lo w v bs) (h0 : 0 < bs.length) : ∃ (b off c : Nat) (F : Nat → Value), v = .slice (some ⟨b, off, none⟩) bs.length c ∧ lo ≤ b ∧ b < w.heap.size ∧ (∀ k, k < bs.length → w.cell? ⟨b, off + k, none⟩ = some (F k)) ∧ (∀ k (hk : k < bs.length), SVo ecs 2 lo w (F k) bs[k]) := by
  obtain ⟨vs, h1, ⟨A0, c0, e, _, _, ha⟩, h3⟩ := h
  obtain ⟨b, off, rfl, hb0, hb, hcell⟩ := ha (by omega)
  refine ⟨b, off, c0, fun k => vs.getD k (.slice none 0 0), by rw [e, h1], hb0, hb, fun k hk => ?_, fun k hk => ?_⟩
  · have := hcell k (by omega) 0 (by omega)
    have e2 : vs.getD k (.slice none 0 0) = vs[k]'(by omega) := by simp [show k < vs.length by omega]
    show _ = some (vs.getD k (.slice none 0 0))
    rw [e2]
    simpa [one] using this
  · have e2 : vs.getD k (.slice none 0 0) = vs[k]'(by omega) := by simp [show k < vs.length by omega]
    show SVo ecs 2 lo w (vs.getD k (.slice none 0 0)) bs[k]
    rw [e2]
    exact h3 k (by omega) hk
theorem asc_size {l : List (ByteArray × Int)} (h : ascB l = true) : ∀ e ∈ l, e.1.size ≤ 9223372036854775807 := fun e he => by
  have h1 := (ascB_iff.1 h).1 e he
  have h2 := ky_bd (s := e.1) (by simp [ven] at h1; exact h1.1.1)
  omega
set_option maxRecDepth 100000 in
set_option maxHeartbeats 16000000 in
theorem pads_any (l : List Int) (v : Value) (sx : Nat) (w : World) (h : SI w v l) (hsx : sx < 256) : Calls Try.prog 6 #[v, .int .u8 sx] w fun e w' => e = .returned (.bool true) ∧ Below w.heap.size w w' := by
  have HSI := Lib.hid h
  clear h
  go_enter Try.func6, Try.ntmps6
  go_wp2_with fail
  (with_reducible refine (sane_any w).mono ?_)
  rintro e w1 ⟨rfl, hb1⟩
  have HB1 := Lib.hid hb1
  have HSI1 : Hid (SI w1 v l) := (show Hid _ from HSI.out.below hb1)
  clear hb1
  go_wp2_with fail
  (with_reducible refine (few_any l _ w1 HSI1.out).mono ?_)
  rintro e w1' ⟨rfl, hw1⟩
  subst hw1
  by_cases hfew : l.length ≤ 500
  case' neg =>
    have d5 : decide (l.length ≤ 500) = false := decide_eq_false hfew
    rw [d5]
    clear d5 hfew
    go_wp2_with fail
    all_goals go_ret
    all_goals exact ⟨rfl, HB1.out⟩
  have d5 : decide (l.length ≤ 500) = true := decide_eq_true hfew
  rw [d5]
  clear d5 hfew
  go_wp2_with fail
  (with_reducible refine (new_any l _ w1 HSI1.out).mono ?_)
  rintro e w2 ⟨rfl, hd2, hb2, hz2⟩
  obtain ⟨g, eg⟩ : ∃ g, g = w1.heap.size := ⟨_, rfl⟩
  rw [← eg] at hd2 hz2
  rw [← eg]
  have HD2 := Lib.hid hd2
  have HB2 : Hid (Below w.heap.size w w2) := (show Hid _ from HB1.out.trans (hb2.mono HB1.out.size))
  have hgw : w.heap.size ≤ g := by rw [eg]; exact HB1.out.size
  clear hd2 hb2 eg
  obtain ⟨N, eN⟩ : ∃ N, N = 1 + sx % 8 := ⟨_, rfl⟩
  have hN : 1 ≤ N ∧ N ≤ 8 := by omega
  go_upto_region 7 with fail
  rw [show (1 : Int) + (sx : Int) % 8 = (N : Int) by omega]
  clear eN
  go_wp2_with fail
  (with_reducible refine (directory_any g w2 HD2.out).mono ?_)
  rintro e w3 ⟨B1, p1, s1, S1, es1, out1, pv1, ev1, lv1, rfl, hdv1, _, _, _, _, hpv1, hev1, _, hd3, hg3⟩
  obtain ⟨b1, eb1⟩ : ∃ bs, bs = dist S1 out1 B1 := ⟨_, rfl⟩
  rw [← eb1] at hev1
  have HROW1 : Hid (∀ b (h : b < b1.length), ascB b1[b] = true) := (show Hid _ from by subst eb1; exact fun b h => (hdv1.row h).1)
  have hl1 : b1.length = B1 := by rw [eb1, dist_len]
  have hB1 : 1 ≤ b1.length ∧ b1.length ≤ 64 := by have h1 := hdv1.hv.b1; have h2 := hdv1.hv.b2; omega
  obtain ⟨A1, c1, rfl⟩ := hpv1.form
  obtain ⟨q1, o1, d1, F1, rfl, hq1, hq1', hF1, hR1⟩ := hev1.heads (by omega)
  have HF1 := Lib.hid hF1
  have HR1 := Lib.hid hR1
  have HD3 := Lib.hid hd3
  have hz3 := hg3.size
  have hwz3 : w.heap.size ≤ w3.heap.size := by have := HB2.out.size; omega
  have HB3 : Hid (Below w.heap.size w w3) := (show Hid _ from HB2.out.grown hg3 HB2.out.size (fun k hk => by injection hk with hk; omega))
  clear hdv1 hpv1 hev1 hd3 hg3 eb1 hl1 hF1 hR1
  obtain ⟨D, eD⟩ : ∃ D, D = w3.heap.size := ⟨_, rfl⟩
  obtain ⟨w4, ew4⟩ : ∃ w4 : World, w4 = w3.alloc (.cells #[.int .i64 B1, .slice A1 p1.length c1, .int .i64 s1, .slice (some ⟨q1, o1, none⟩) b1.length d1] 28) := ⟨_, rfl⟩
  have HWw4 : Hid (w3.alloc (.cells #[.int .i64 B1, .slice A1 p1.length c1, .int .i64 s1, .slice (some ⟨q1, o1, none⟩) b1.length d1] 28) = w4) := ew4.symm
  have HAw4 : Hid (Below w3.heap.size w3 w4) := (show Hid _ from by rw [ew4]; exact (Below.refl _ w3).alloc (Nat.le_refl _) _)
  have HD0w4 : Hid (w4.heap[D]? = some (.cells #[.int .i64 B1, .slice A1 p1.length c1, .int .i64 s1, .slice (some ⟨q1, o1, none⟩) b1.length d1] 28 (0, 0))) := (show Hid _ from by show _ = _; rw [ew4, eD]; exact heap_alloc_new w3 _)
  have HD4 := Lib.hid (HD3.out.below HAw4.out)
  have HDB4 := HD0w4
  have hD3 : w3.heap.size ≤ D := Nat.le_of_eq eD.symm
  have hD4 : D < w4.heap.size := heap_of_cells HD0w4.out
  have HB4 : Hid (Below w.heap.size w w4) := (show Hid _ from HB3.out.trans (HAw4.out.mono HB3.out.size))
  go_upto_region 8 with fail
  rw [HWw4.out, ← eD]
  clear ew4 eD
  go_wp2_with fail
  (with_reducible refine (directory_any g w4 HD4.out).mono ?_)
  rintro e w5 ⟨B2, p2, s2, S2, es2, out2, pv2, ev2, lv2, rfl, hdv2, _, _, _, _, hpv2, hev2, _, hd5, hg5⟩
  obtain ⟨b2, eb2⟩ : ∃ bs, bs = dist S2 out2 B2 := ⟨_, rfl⟩
  rw [← eb2] at hev2
  have HROW2 : Hid (∀ b (h : b < b2.length), ascB b2[b] = true) := (show Hid _ from by subst eb2; exact fun b h => (hdv2.row h).1)
  have hl2 : b2.length = B2 := by rw [eb2, dist_len]
  have hB2 : 1 ≤ b2.length ∧ b2.length ≤ 64 := by have h1 := hdv2.hv.b1; have h2 := hdv2.hv.b2; omega
  obtain ⟨A2, c2, rfl⟩ := hpv2.form
  obtain ⟨q2, o2, d2, F2, rfl, hq2, hq2', hF2, hR2⟩ := hev2.heads (by omega)
  have HF2 := Lib.hid hF2
  have HR2 := Lib.hid hR2
  have HD5 := Lib.hid hd5
  have hz5 := hg5.size
  have hz4 := HAw4.out.size
  have hgD : g < D := by omega
  have HB5 : Hid (Below w.heap.size w w5) := (show Hid _ from HB4.out.grown hg5 HB4.out.size (fun k hk => by injection hk with hk; omega))
  have HDB5 : Hid (w5.heap[D]? = some (.cells #[.int .i64 B1, .slice A1 p1.length c1, .int .i64 s1, .slice (some ⟨q1, o1, none⟩) b1.length d1] 28 (0, 0))) := (show Hid _ from (hg5.block D hD4 (by simp; omega)).trans HDB4.out)
  have HF15 : Hid (∀ k, k < b1.length → w5.cell? ⟨q1, o1 + k, none⟩ = some (F1 k)) := (show Hid _ from fun k hk => (hg5.cell_far ⟨q1, o1 + k, none⟩ (by show q1 < _; omega) (by simp; omega)).trans ((HAw4.out.cell (p := ⟨q1, o1 + k, none⟩) hq1').trans (HF1.out k hk)))
  have HR15 : Hid (∀ k (hk : k < b1.length), SVo ecs 2 w2.heap.size w5 (F1 k) b1[k]) := (show Hid _ from fun k hk => ((HR1.out k hk).below HAw4.out).grown hg5 (by omega))
  clear hdv2 hpv2 hev2 hd5 hg5 eb2 hl2 hF2 hR2
  obtain ⟨E, eE⟩ : ∃ E, E = w5.heap.size := ⟨_, rfl⟩
  obtain ⟨w6, ew6⟩ : ∃ w6 : World, w6 = w5.alloc (.cells #[.int .i64 B2, .slice A2 p2.length c2, .int .i64 s2, .slice (some ⟨q2, o2, none⟩) b2.length d2] 28) := ⟨_, rfl⟩
  have HWw6 : Hid (w5.alloc (.cells #[.int .i64 B2, .slice A2 p2.length c2, .int .i64 s2, .slice (some ⟨q2, o2, none⟩) b2.length d2] 28) = w6) := ew6.symm
  have HAw6 : Hid (Below w5.heap.size w5 w6) := (show Hid _ from by rw [ew6]; exact (Below.refl _ w5).alloc (Nat.le_refl _) _)
  have HE0w6 : Hid (w6.heap[E]? = some (.cells #[.int .i64 B2, .slice A2 p2.length c2, .int .i64 s2, .slice (some ⟨q2, o2, none⟩) b2.length d2] 28 (0, 0))) := (show Hid _ from by show _ = _; rw [ew6, eE]; exact heap_alloc_new w5 _)
  have HD6 := Lib.hid (HD5.out.below HAw6.out)
  have hE5 : w5.heap.size ≤ E := Nat.le_of_eq eE.symm
  have hE6 : E < w6.heap.size := heap_of_cells HE0w6.out
  have hz6 := HAw6.out.size
  have hD5 : D < w5.heap.size := by omega
  have HB6 : Hid (Below w.heap.size w w6) := (show Hid _ from HB5.out.trans (HAw6.out.mono HB5.out.size))
  have HLIMB : Hid (∀ W, w6.grownBy W (some g) → W.cell? ⟨D, 3, none⟩ = some (.slice (some ⟨q1, o1, none⟩) b1.length d1) ∧ W.cell? ⟨E, 3, none⟩ = some (.slice (some ⟨q2, o2, none⟩) b2.length d2) ∧ (∀ k, k < b1.length → W.cell? ⟨q1, o1 + k, none⟩ = some (F1 k)) ∧ (∀ k, k < b2.length → W.cell? ⟨q2, o2 + k, none⟩ = some (F2 k))) := (show Hid _ from fun W hW => by
    have e1 := (hW.block D (by omega) (by simp; omega)).trans ((HAw6.out.block D hD5).trans HDB5.out)
    have e2 := (hW.block E hE6 (by simp; omega)).trans HE0w6.out
    refine ⟨cell_of_row W D 3 _ _ _ e1, cell_of_row W E 3 _ _ _ e2, fun k hk => ?_, fun k hk => ?_⟩
    · exact (hW.cell_far ⟨q1, o1 + k, none⟩ (by show q1 < _; omega) (by simp; omega)).trans ((HAw6.out.cell (p := ⟨q1, o1 + k, none⟩) (by show q1 < _; omega)).trans (HF15.out k hk))
    · exact (hW.cell_far ⟨q2, o2 + k, none⟩ (by show q2 < _; omega) (by simp; omega)).trans ((HAw6.out.cell (p := ⟨q2, o2 + k, none⟩) hq2').trans (HF2.out k hk)))
  go_upto_region 9 with fail
  rw [HWw6.out, ← eE]
  clear ew6 eE
  obtain ⟨x1, x2, x3, x4⟩ := HLIMB.out w6 (grownBy_refl _ _)
  obtain ⟨n1, en1⟩ : ∃ n, n = b1.length := ⟨_, rfl⟩
  obtain ⟨n2, en2⟩ : ∃ n, n = b2.length := ⟨_, rfl⟩
  rw [← en1] at x1 x3 HLIMB hB1
  rw [← en2] at x2 x4 HLIMB hB2
  have HN1 := Lib.hid en1
  have HN2 := Lib.hid en2
  clear en1 en2
  go_region_held3 (fun w' => w'.cell? ⟨D, 3, none⟩ = some (.slice (some ⟨q1, o1, none⟩) n1 d1) ∧ w'.cell? ⟨E, 3, none⟩ = some (.slice (some ⟨q2, o2, none⟩) n2 d2) ∧ (∀ k, k < n1 → w'.cell? ⟨q1, o1 + k, none⟩ = some (F1 k)) ∧ (∀ k, k < n2 → w'.cell? ⟨q2, o2 + k, none⟩ = some (F2 k))) (first | exact ⟨x1, x2, x3, x4⟩ | exact ⟨y1, y2, y3, y4⟩ | go_keep)
    (first
      | (go_at_call 13; refine (next_any _ g _ (by first | exact HD8.out | exact HD8.out.below (Below.refl _ _).drew | exact HD6.out | exact HD6.out.below (Below.refl _ _).drew) (by unfold i64r; omega) (by omega)).mono ?_; rintro e7 w7 ⟨x7, rfl, _, hx7, hd7, hg7⟩; have hx7 := hx7 (by omega); have HD8 := Lib.hid hd7; have HG8 : Hid (w6.grownBy w7 (some g)) := (show Hid _ from by first | exact grownBy_trans HG8.out hg7 | exact ⟨hg7.os, hg7.tape, hg7.output, hg7.size, hg7.block⟩); obtain ⟨y1, y2, y3, y4⟩ := HLIMB.out _ HG8.out; (first | (have h9 : x7 < (n1 : Int) := hx7.2; obtain ⟨i, rfl⟩ : ∃ i : Nat, x7 = i := ⟨x7.toNat, (by omega)⟩; have hi1 : i < n1 := (by omega)) | (have h9 : x7 < (n2 : Int) := hx7.2; obtain ⟨j, rfl⟩ : ∃ i : Nat, x7 = i := ⟨x7.toNat, (by omega)⟩; have hj2 : j < n2 := (by omega))); clear hd7 hg7))
  have hzg := HG8.out.size
  have HB7 : Hid (Below w.heap.size w w7) := (show Hid _ from HB6.out.grown HG8.out HB6.out.size (fun k hk => by injection hk with hk; omega))
  have hz7 := HB7.out.size
  have hib : i < b1.length := by rw [← HN1.out]; exact hi1
  have hjb : j < b2.length := by rw [← HN2.out]; exact hj2
  have ha7 := ((HR15.out i hib).below HAw6.out).grown HG8.out (by omega)
  have hb7 := ((HR2.out j hjb).below HAw6.out).grown HG8.out (by omega)
  have has := HROW1.out i hib
  have hbs := HROW2.out j hjb
  obtain ⟨ra, era⟩ : ∃ r, r = b1[i] := ⟨_, rfl⟩
  obtain ⟨rb, erb⟩ : ∃ r, r = b2[j] := ⟨_, rfl⟩
  rw [← era] at ha7 has
  rw [← erb] at hb7 hbs
  obtain ⟨va, eva⟩ : ∃ va, va = F1 i := ⟨_, rfl⟩
  obtain ⟨vb, evb⟩ : ∃ vb, vb = F2 j := ⟨_, rfl⟩
  rw [← eva] at ha7 ⊢
  rw [← evb] at hb7 ⊢
  clear era erb eva evb
  obtain ⟨Aa, ca, rfl⟩ := ha7.form
  obtain ⟨Ab, cb, rfl⟩ := hb7.form
  have HSA : Hid (SV ecs 2 w7.heap.size w7 (.slice Aa ra.length ca) ra) := (show Hid _ from ha7.sv)
  have HSB : Hid (SV ecs 2 w7.heap.size w7 (.slice Ab rb.length cb) rb) := (show Hid _ from hb7.sv)
  have HAA := Lib.hid has
  have HAB := Lib.hid hbs
  have HKA : Hid (∀ e ∈ ra, e.1.size ≤ 9223372036854775807) := (show Hid _ from asc_size has)
  have HKB : Hid (∀ e ∈ rb, e.1.size ≤ 9223372036854775807) := (show Hid _ from asc_size hbs)
  clear ha7 hb7 has hbs hib hjb y1 y2 y3 y4
  by_cases hla : ra.length ≤ N
  case neg =>
    have d1 : decide ((N : Int) < (ra.length : Int)) = true := decide_eq_true (by omega)
    go_wp2_with fail
    all_goals go_ret
    all_goals exact ⟨rfl, HB7.out⟩
  have d1 : decide ((N : Int) < (ra.length : Int)) = false := decide_eq_false (by omega)
  have d1n : decide (N < ra.length) = false := decide_eq_false (by omega)
  by_cases hlb : rb.length ≤ N
  case neg =>
    have d2 : decide ((N : Int) < (rb.length : Int)) = true := decide_eq_true (by omega)
    go_wp2_with fail
    all_goals go_ret
    all_goals exact ⟨rfl, HB7.out⟩
  have d2 : decide ((N : Int) < (rb.length : Int)) = false := decide_eq_false (by omega)
  have d2n : decide (N < rb.length) = false := decide_eq_false (by omega)
  go_wp2_with fail
  (with_reducible refine (kencode_any N ra _ w7 HSA.out HKA.out).mono ?_)
  rintro e w8 ⟨rfl, hb8⟩
  rw [encV_ok hN hla HAA.out]
  obtain ⟨sa, esa⟩ : ∃ t, t = ByteArray.mk (encB N ra).toArray := ⟨_, rfl⟩
  rw [← esa]
  have HB8 := Lib.hid hb8
  have HSB8 := Lib.hid (HSB.out.on hb8)
  have hsa : sa.size = N * 37 := by rw [esa, ba_size, encB_len (ascB_iff.1 HAA.out).1 hla]
  have HESA := Lib.hid esa
  clear hb8 esa
  go_wp2_with fail
  (with_reducible refine (kencode_any N rb _ w8 HSB8.out HKB.out).mono ?_)
  rintro e w9 ⟨rfl, hb9⟩
  rw [encV_ok hN hlb HAB.out]
  obtain ⟨sb, esb⟩ : ∃ t, t = ByteArray.mk (encB N rb).toArray := ⟨_, rfl⟩
  rw [← esb]
  have HB9 : Hid (Below w7.heap.size w7 w9) := (show Hid _ from HB8.out.trans (hb9.mono HB8.out.size))
  have hsb : sb.size = N * 37 := by rw [esb, ba_size, encB_len (ascB_iff.1 HAB.out).1 hlb]
  have HESB := Lib.hid esb
  clear hb9 esb
  go_wp2_with fail
  (with_reducible refine (kencode_any N [] (.slice none 0 0) w9 (SV.nil _ _) (fun e he => by simp at he)).mono ?_)
  rintro e w10 ⟨rfl, hb10⟩
  rw [encV_ok hN (Nat.zero_le _) (by decide)]
  obtain ⟨se, ese⟩ : ∃ t, t = ByteArray.mk (encB N []).toArray := ⟨_, rfl⟩
  rw [← ese]
  have HB10 : Hid (Below w7.heap.size w7 w10) := (show Hid _ from HB9.out.trans (hb10.mono HB9.out.size))
  have hse : se.size = N * 37 := by rw [ese, ba_size, encB_len (by simp) (Nat.zero_le _)]
  have HZ : Hid (∀ k (h : k < se.size), se[k] = 0) := (show Hid _ from fun k h => by
    subst ese
    have e1 : (ByteArray.mk (encB N []).toArray)[k] = (encB N [])[k]'(by rw [encB_len (by simp) (Nat.zero_le _)]; omega) := rfl
    rw [e1]
    simp [encB_nil])
  have HESE := Lib.hid ese
  clear hb10 ese
  have hei : ((sa.size : Nat) : Int) = (sb.size : Int) := by omega
  have hei2 : ((sa.size : Nat) : Int) = (se.size : Int) := by omega
  have q1 : (sa.toList == sb.toList) = decide (ra = rb) := by
    by_cases e : ra = rb
    · have : sa = sb := by rw [HESA.out, HESB.out, e]
      rw [this, decide_eq_true e]
      exact beq_self_eq_true _
    · rw [decide_eq_false e, beq_eq_false_iff_ne]
      intro e2
      have e3 := tl_inj e2
      rw [HESA.out, HESB.out] at e3
      injection e3 with e3
      exact e (encB_inj (ascB_iff.1 HAA.out).1 (ascB_iff.1 HAB.out).1 hla hlb (by simpa using e3))
  have q2 : (sa.toList == se.toList) = decide ((ra.length : Int) = 0) := by
    by_cases e : ra = []
    · have : sa = se := by rw [HESA.out, HESE.out, e]
      rw [this, e]
      simp
    · have e0 : ¬ ((ra.length : Int) = 0) := by
        intro h
        exact e (List.eq_nil_of_length_eq_zero (by omega))
      rw [decide_eq_false e0, beq_eq_false_iff_ne]
      intro e2
      have e3 := tl_inj e2
      rw [HESA.out, HESE.out] at e3
      injection e3 with e3
      exact e (encB_inj (ascB_iff.1 HAA.out).1 (by simp) hla (Nat.zero_le _) (by simpa using e3))
  have Q1 := Lib.hid q1
  have Q2 := Lib.hid q2
  clear q1 q2
  go_wp2_with fail
  go_loopw [19] (fun _ wr => ∃ k : Nat, k ≤ N * 37 ∧ wr = w10.iter se k) (fun _ wr => se.size - wr.iterPos w10.heap.size)
  case atStart => exact ⟨0, Nat.zero_le _, rfl⟩
  case round =>
    obtain ⟨k, hk, rfl⟩ := hrel
    by_cases hkt : k < se.size
    · have hz := HZ.out k hkt
      have hnx := run_next_ascii (P := Try.prog) w10 se k 0 hkt (by rw [hz]; decide)
      rw [hz] at hnx
      have k0 : (0 : Int) ≤ (k : Int) := by omega
      have k1 : (k : Int) < (se.size : Int) := by omega
      go_wp2_with fail
      exact ⟨⟨k + 1, by omega, rfl⟩, by simp; omega⟩
    · have hnx := run_next_end (P := Try.prog) w10 se k 0 hkt
      obtain ⟨wE, ewE⟩ : ∃ wE : World, wE = w10.iter se k := ⟨_, rfl⟩
      have HBE : Hid (Below w7.heap.size w7 wE) := (show Hid _ from by rw [ewE]; exact HB10.out.alloc HB10.out.size _)
      have HSAE := Lib.hid (HSA.out.on HBE.out)
      have HSBE := Lib.hid (HSB.out.on HBE.out)
      rw [← ewE] at hnx ⊢
      clear ewE
      have q1 := Q1.out
      have q2 := Q2.out
      obtain ⟨p1, ep1⟩ : ∃ p, p = decide (ra = rb) := ⟨_, rfl⟩
      obtain ⟨p2, ep2⟩ : ∃ p, p = decide ((ra.length : Int) = 0) := ⟨_, rfl⟩
      rw [← ep1] at q1
      rw [← ep2] at q2
      have EP1 := Lib.hid ep1
      have q3 := ep2.symm
      have q4 : ((ra.length : Int) == 0) = p2 := by rw [ep2, Bool.eq_iff_iff]; simp
      clear ep1 ep2
      go_wp2_with fail
      (with_reducible refine (rsameE_any ra rb _ _ wE HSAE.out HSBE.out (by omega) (by omega)).mono ?_)
      rintro e w11 ⟨rfl, hb11⟩
      rw [← EP1.out]
      have HB11 : Hid (Below w.heap.size w w11) := (show Hid _ from HB7.out.trans ((HBE.out.trans (hb11.mono HBE.out.size)).mono hz7))
      clear hb11
      cases p1 <;> cases p2
      all_goals go_wp2_with fail
      all_goals go_ret
      all_goals exact ⟨rfl, HB11.out⟩
end Go.Proofs.Ytllnomembakboaa
