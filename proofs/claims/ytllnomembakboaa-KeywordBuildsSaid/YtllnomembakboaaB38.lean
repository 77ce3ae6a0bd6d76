/- Joined: Ri. -/
import Derived.Laws.Concat
import Derived.Test.YtllnomembakboaaB22
import Derived.Test.YtllnomembakboaaB13
import Derived.Test.YtllnomembakboaaB25
import Derived.Test.YtllnomembakboaaB37
import Derived.Test.YtllnomembakboaaB26
namespace Go.Proofs.Ytllnomembakboaa
open Go.RowKit

/-- the headers of a list of lists, read -/
theorem SLo.heads2 {lo : Nat} {w : World} {v : Value} {bs : List (List (ByteArray × Int))} (h : SLo lo w v bs) (h0 : 0 < bs.length) : ∃ (b off c : Nat) (F : Nat → Value), v = .slice (some ⟨b, off, none⟩) bs.length c ∧ lo ≤ b ∧ b < w.heap.size ∧ (∀ k, k < bs.length → w.cell? ⟨b, off + k, none⟩ = some (F k)) ∧ (∀ k (hk : k < bs.length), SVo ecs 2 lo w (F k) bs[k]) := by
  obtain ⟨vs, h1, ⟨A0, c0, e, _, _, ha⟩, h3⟩ := h
  obtain ⟨b, off, rfl, hb0, hb, hcell⟩ := ha (by omega)
  refine ⟨b, off, c0, fun k => vs.getD k (.slice none 0 0), by rw [e, h1], hb0, hb, fun k hk => ?_, fun k hk => ?_⟩
  · have := hcell k (by omega) 0 (by omega)
    have e2 : vs.getD k (.slice none 0 0) = vs[k]'(by omega) := by simp [show k < vs.length by omega]
    show _ = some (vs.getD k (.slice none 0 0))
    rw [e2]
    simpa [one] using this
  · have e2 : vs.getD k (.slice none 0 0) = vs[k]'(by omega) := by simp [show k < vs.length by omega]
    show SVo ecs 2 lo w (vs.getD k (.slice none 0 0)) bs[k]
    rw [e2]
    exact h3 k (by omega) hk
/-- the bytes of a text, in a block of their own -/
theorem bytes_of (w : World) (s : ByteArray) : ∃ (c : Nat) (w' : World), (convert 9 63 (.string s)).run Try.prog w = .ok (.slice (some ⟨w.heap.size, 0, none⟩) s.size c) w' ∧ Below w.heap.size w w' ∧ w.heap.size < w'.heap.size ∧ s.size ≤ c ∧
    ∀ j (h : j < s.size), w'.cell? ⟨w.heap.size, j, none⟩ = some (bv s[j]) ∧ w'.frozen? ⟨w.heap.size, j, none⟩ = false := by
  refine ⟨_, _, run_bytes_of_string w 9 63 5 s Try.underlying9 Try.underlying63 Try.underlying5, ((Below.refl _ w).drew).alloc (Nat.le_refl _) _, by simp, by have := grownCap_ge w s.size 0 5; omega, fun j h => ?_⟩
  have hn := heap_alloc_new w.drew (.cells (bytesRow s (grownCap w s.size 0 5)) 5 ((bytesRow s (grownCap w s.size 0 5)).size, (bytesRow s (grownCap w s.size 0 5)).size + 1))
  have hsz : s.size ≤ (bytesRow s (grownCap w s.size 0 5)).size := by
    unfold bytesRow
    simp
  constructor
  · refine (cell_of_row _ w.heap.size j _ _ _ hn).trans ?_
    rw [bytesRow_at s _ j h]
    rfl
  · simp only [World.frozen?]
    rw [show ((w.drew.alloc (.cells (bytesRow s (grownCap w s.size 0 5)) 5 ((bytesRow s (grownCap w s.size 0 5)).size, (bytesRow s (grownCap w s.size 0 5)).size + 1))).heap[w.heap.size]?) = _ from hn]
    simp
    omega
/-- two answers of Decode -/
theorem DcV.same {n : Int} {s : ByteArray} {w w1 w2 w3 : World} {e1 e2 : Ending} (h : DcV n s w e1 w1) (k : DcV n s w2 e2 w3) :
    ∃ (l : List (ByteArray × Int)) (A1 A2 : Option Addr) (c1 c2 : Nat) (cd : Int), e1 = .returned (.tuple #[.slice A1 l.length c1, .int .i64 cd]) ∧ e2 = .returned (.tuple #[.slice A2 l.length c2, .int .i64 cd]) ∧ l.length ≤ 8 ∧ SV ecs 2 w1.heap.size w1 (.slice A1 l.length c1) l ∧ SV ecs 2 w3.heap.size w3 (.slice A2 l.length c2) l := by
  obtain ⟨_, h⟩ := h
  obtain ⟨_, k⟩ := k
  rcases h with ⟨hn, rfl⟩ | ⟨hn, hno, rfl⟩ | ⟨hn, l, v, hl, rfl, ho⟩
  · rcases k with ⟨_, rfl⟩ | ⟨kn, _⟩ | ⟨kn, _⟩
    · exact ⟨[], none, none, 0, 0, 1, rfl, rfl, by simp, SV.nil _ _, SV.nil _ _⟩
    · exact absurd kn hn
    · exact absurd kn hn
  · rcases k with ⟨kn, _⟩ | ⟨_, _, rfl⟩ | ⟨_, l2, _, hl2, _⟩
    · exact absurd hn kn
    · exact ⟨[], none, none, 0, 0, 2, rfl, rfl, by simp, SV.nil _ _, SV.nil _ _⟩
    · exact absurd ⟨l2, hl2⟩ hno
  · rcases k with ⟨kn, _⟩ | ⟨_, hno, _⟩ | ⟨_, l2, v2, hl2, rfl, ho2⟩
    · exact absurd hn kn
    · exact absurd ⟨l, hl⟩ hno
    · obtain rfl := hl.uniq hl2
      obtain ⟨A1, c1, rfl⟩ := own_sl ho
      obtain ⟨A2, c2, rfl⟩ := own_sl ho2
      exact ⟨l, A1, A2, c1, c2, 0, rfl, rfl, by have := hl.2.1; omega, SV.of_own ho (fun x _ => ecs_len x), SV.of_own ho2 (fun x _ => ecs_len x)⟩
set_option maxRecDepth 100000 in
set_option maxHeartbeats 16000000 in
theorem bytes20_any (l : List Int) (v : Value) (n0 : Int) (es : List (ByteArray × Int)) (ev : Value) (s : ByteArray) (at' : Int) (by' : Nat) (w : World) (h : SI w v l) (he : SV ecs 2 w.heap.size w ev es) (hk : ∀ e ∈ es, e.1.size ≤ 9223372036854775807) (hs : s.size ≤ 9223372036854775807) (hby : by' < 256) :
    Calls Try.prog 7 #[v, .int .i64 n0, ev, .string s, .int .i64 at', .int .u8 by'] w fun e w' => e = .returned (.bool true) ∧ Below w.heap.size w w' := by
  have HSI := Lib.hid h
  obtain ⟨Ae, ce, rfl⟩ := he.form
  have HE := Lib.hid he
  have HK := Lib.hid hk
  clear h he hk
  go_enter Try.func7, Try.ntmps7
  go_wp2_with fail
  (with_reducible refine (sane_any w).mono ?_)
  rintro e w1 ⟨rfl, hb1⟩
  have HB1 := Lib.hid hb1
  have HSI1 : Hid (SI w1 v l) := (show Hid _ from HSI.out.below hb1)
  clear hb1
  go_wp2_with fail
  (with_reducible refine (few_any l _ w1 HSI1.out).mono ?_)
  rintro e w1' ⟨rfl, hw1⟩
  subst hw1
  by_cases hfew : l.length ≤ 500
  case' neg =>
    have d5 : decide (l.length ≤ 500) = false := decide_eq_false hfew
    rw [d5]
    clear d5 hfew
    go_wp2_with fail
    all_goals go_ret
    all_goals exact ⟨rfl, HB1.out⟩
  have d5 : decide (l.length ≤ 500) = true := decide_eq_true hfew
  rw [d5]
  clear d5 hfew
  by_cases he40 : es.length ≤ 40
  case' neg =>
    have d6 : decide (40 < (es.length : Int)) = true := decide_eq_true (by omega)
    have d6n : decide (40 < es.length) = true := decide_eq_true (by omega)
    go_wp2_with fail
    all_goals go_ret
    all_goals exact ⟨rfl, HB1.out⟩
  have d6 : decide (40 < (es.length : Int)) = false := decide_eq_false (by omega)
  have d6n : decide (40 < es.length) = false := decide_eq_false (by omega)
  by_cases hs10 : s.size ≤ 1000
  case' neg =>
    have d7 : decide (1000 < (s.size : Int)) = true := decide_eq_true (by omega)
    have d7n : decide (1000 < s.size) = true := decide_eq_true (by omega)
    go_wp2_with fail
    all_goals go_ret
    all_goals exact ⟨rfl, HB1.out⟩
  have d7 : decide (1000 < (s.size : Int)) = false := decide_eq_false (by omega)
  have d7n : decide (1000 < s.size) = false := decide_eq_false (by omega)
  go_wp2_with fail
  (with_reducible refine (new_any l _ w1 HSI1.out).mono ?_)
  rintro e w2 ⟨rfl, hd2, hb2, hz2⟩
  obtain ⟨g, eg⟩ : ∃ g, g = w1.heap.size := ⟨_, rfl⟩
  rw [← eg] at hd2 hz2
  rw [← eg]
  have HD2 := Lib.hid hd2
  have HB2 : Hid (Below w.heap.size w w2) := (show Hid _ from HB1.out.trans (hb2.mono HB1.out.size))
  have hgw : w.heap.size ≤ g := by rw [eg]; exact HB1.out.size
  clear hd2 hb2 eg d6 d6n d7 d7n
  go_wp2_with fail
  (with_reducible refine (directory_any g w2 HD2.out).mono ?_)
  rintro e w3 ⟨B1, p1, sl, S1, es1, out1, pv1, ev1, lv1, rfl, hdv1, hsl4, _, _, _, hpv1, hev1, _, hd3, hg3⟩
  obtain ⟨b1, eb1⟩ : ∃ bs, bs = dist S1 out1 B1 := ⟨_, rfl⟩
  rw [← eb1] at hev1
  have HROW1 : Hid (∀ b (h : b < b1.length), ascB b1[b] = true ∧ b1[b].length ≤ sl) := (show Hid _ from by subst eb1; exact fun b h => ⟨(hdv1.row h).1, (hdv1.row h).2.1⟩)
  have hl1 : b1.length = B1 := by rw [eb1, dist_len]
  have hB1 : 1 ≤ b1.length ∧ b1.length ≤ 64 := by have h1 := hdv1.hv.b1; have h2 := hdv1.hv.b2; omega
  have hsl1 := hdv1.s1
  obtain ⟨A1, c1, rfl⟩ := hpv1.form
  obtain ⟨q1, o1, d1, F1', rfl, hq1, hq1', hF1, hR1⟩ := hev1.heads2 (by omega)
  have HF1 := Lib.hid hF1
  have HR1 := Lib.hid hR1
  have HD3 := Lib.hid hd3
  have hz3 := hg3.size
  have HB3 : Hid (Below w.heap.size w w3) := (show Hid _ from HB2.out.grown hg3 HB2.out.size (fun k hk => by injection hk with hk; omega))
  clear hdv1 hpv1 hev1 hd3 hg3 eb1 hl1 hF1 hR1
  obtain ⟨D, eD⟩ : ∃ D, D = w3.heap.size := ⟨_, rfl⟩
  obtain ⟨w6, ew6⟩ : ∃ w6 : World, w6 = w3.alloc (.cells #[.int .i64 B1, .slice A1 p1.length c1, .int .i64 sl, .slice (some ⟨q1, o1, none⟩) b1.length d1] 28) := ⟨_, rfl⟩
  have HWw6 : Hid (w3.alloc (.cells #[.int .i64 B1, .slice A1 p1.length c1, .int .i64 sl, .slice (some ⟨q1, o1, none⟩) b1.length d1] 28) = w6) := ew6.symm
  have HAw6 : Hid (Below w3.heap.size w3 w6) := (show Hid _ from by rw [ew6]; exact (Below.refl _ w3).alloc (Nat.le_refl _) _)
  have HD0w6 : Hid (w6.heap[D]? = some (.cells #[.int .i64 B1, .slice A1 p1.length c1, .int .i64 sl, .slice (some ⟨q1, o1, none⟩) b1.length d1] 28 (0, 0))) := (show Hid _ from by show _ = _; rw [ew6, eD]; exact heap_alloc_new w3 _)
  have HD6 := Lib.hid (HD3.out.below HAw6.out)
  have hD3 : w3.heap.size ≤ D := Nat.le_of_eq eD.symm
  have hD6 : D < w6.heap.size := heap_of_cells HD0w6.out
  have hz6 := HAw6.out.size
  have hgD : g < D := by omega
  have HB6 : Hid (Below w.heap.size w w6) := (show Hid _ from HB3.out.trans (HAw6.out.mono HB3.out.size))
  obtain ⟨n1, en1⟩ : ∃ n, n = b1.length := ⟨_, rfl⟩
  have HN1 := Lib.hid en1
  have HLIMB : Hid (∀ W, w6.grownBy W (some g) → W.cell? ⟨D, 2, none⟩ = some (.int .i64 sl) ∧ W.cell? ⟨D, 3, none⟩ = some (.slice (some ⟨q1, o1, none⟩) n1 d1) ∧ (∀ k, k < n1 → W.cell? ⟨q1, o1 + k, none⟩ = some (F1' k))) := (show Hid _ from fun W hW => by
    have e1 := (hW.block D hD6 (by simp; omega)).trans HD0w6.out
    rw [en1]
    exact ⟨cell_of_row W D 2 _ _ _ e1, cell_of_row W D 3 _ _ _ e1, fun k hk => (hW.cell_far ⟨q1, o1 + k, none⟩ (by show q1 < _; omega) (by simp; omega)).trans ((HAw6.out.cell (p := ⟨q1, o1 + k, none⟩) hq1').trans (HF1.out k hk))⟩)
  rw [← en1] at hB1 ⊢
  have hn1 : 1 ≤ n1 ∧ n1 ≤ 64 := by omega
  clear en1
  go_upto_region 7 with fail
  rw [HN1.out, HWw6.out, ← HN1.out, ← eD]
  clear eD ew6
  obtain ⟨x0, x1, x2⟩ := HLIMB.out w6 (grownBy_refl _ _)
  go_region_held3 (fun w' => w'.cell? ⟨D, 3, none⟩ = some (.slice (some ⟨q1, o1, none⟩) n1 d1) ∧ (∀ k, k < n1 → w'.cell? ⟨q1, o1 + k, none⟩ = some (F1' k))) (first | exact ⟨x1, x2⟩ | exact ⟨y1, y2⟩ | go_keep)
    (first
      | (go_at_call 13; refine (next_any n1 g _ (by first | exact HD6.out | exact HD6.out.below (Below.refl _ _).drew) (by unfold i64r; omega) (by omega)).mono ?_; rintro e7 w7 ⟨x7, rfl, _, hx7, hd7, hg7⟩; have hx7 := hx7 (by omega); have HD8 := Lib.hid hd7; have HG8 : Hid (w6.grownBy w7 (some g)) := (show Hid _ from ⟨hg7.os, hg7.tape, hg7.output, hg7.size, hg7.block⟩); obtain ⟨y0, y1, y2⟩ := HLIMB.out _ HG8.out; obtain ⟨i, rfl⟩ : ∃ i : Nat, x7 = i := ⟨x7.toNat, (by omega)⟩; have hi1 : i < n1 := (by omega); clear hd7 hg7))
  have hzg := HG8.out.size
  have HB7 : Hid (Below w.heap.size w w7) := (show Hid _ from HB6.out.grown HG8.out HB6.out.size (fun k hk => by injection hk with hk; omega))
  have hz7 := HB7.out.size
  have hib : i < b1.length := by rw [← HN1.out]; exact hi1
  have ha7 := ((HR1.out i hib).below HAw6.out).grown HG8.out (by omega)
  have has := HROW1.out i hib
  obtain ⟨ra, era⟩ : ∃ r, r = b1[i] := ⟨_, rfl⟩
  rw [← era] at ha7 has
  obtain ⟨va, eva⟩ : ∃ va, va = F1' i := ⟨_, rfl⟩
  rw [← eva] at ha7 ⊢
  clear era eva
  obtain ⟨Aa, ca, rfl⟩ := ha7.form
  have HSA : Hid (SV ecs 2 w7.heap.size w7 (.slice Aa ra.length ca) ra) := (show Hid _ from ha7.sv)
  have HAA := Lib.hid has.1
  have hrl := has.2
  have HKA : Hid (∀ e ∈ ra, e.1.size ≤ 9223372036854775807) := (show Hid _ from fun e he => by
    have h1 := (ascB_iff.1 has.1).1 e he
    have h2 := ky_bd (s := e.1) (by simp [ven] at h1; exact h1.1.1)
    omega)
  have HD7b : Hid (∀ W, Below w7.heap.size w7 W → W.cell? ⟨D, 2, none⟩ = some (.int .i64 sl)) := (show Hid _ from fun W hW => (hW.cell (p := ⟨D, 2, none⟩) (by show D < _; omega)).trans y0)
  clear ha7 has hib y0 y1 y2 x0 x1 x2
  have x0 := HD7b.out w7 (Below.refl _ _)
  go_wp2_with fail
  (with_reducible refine (rencode_any sl ra _ w7 HSA.out HKA.out).mono ?_)
  rintro e w8 ⟨rfl, hb8⟩
  rw [encV_ok ⟨by omega, by omega⟩ hrl HAA.out]
  obtain ⟨sa, esa⟩ : ∃ t, t = ByteArray.mk (encB sl ra).toArray := ⟨_, rfl⟩
  rw [← esa]
  have HB8 := Lib.hid hb8
  have hsa : sa.size = sl * 37 := by rw [esa, ba_size, encB_len (ascB_iff.1 HAA.out).1 hrl]
  obtain ⟨cz, w9, hcv, hb9, hzl, hcz, hcz9⟩ := bytes_of w8 sa
  obtain ⟨Z, eZ⟩ : ∃ Z, Z = w8.heap.size := ⟨_, rfl⟩
  rw [← eZ] at hcv hzl hcz9
  have hZ7 : w7.heap.size ≤ Z := by rw [eZ]; exact HB8.out.size
  obtain ⟨m, em⟩ : ∃ m, m = sa.size := ⟨_, rfl⟩
  rw [← em] at hcv hcz
  have hm : 1 ≤ m ∧ m ≤ 148 := by omega
  obtain ⟨j, ej⟩ : ∃ j : Nat, (j : Int) = at' % (m : Int) := ⟨(at' % (m : Int)).toNat, by have := Int.emod_nonneg at' (b := (m : Int)) (by omega); omega⟩
  have hjm : j < m := by have := Int.emod_lt_of_pos at' (b := (m : Int)) (by omega); omega
  obtain ⟨g0, f0⟩ := hcz9 j (by omega)
  have HCZ := Lib.hid hcz9
  have HEM := Lib.hid em
  have HEJ := Lib.hid ej
  have HB9 : Hid (Below w7.heap.size w7 w9) := (show Hid _ from HB8.out.trans (hb9.mono HB8.out.size))
  obtain ⟨v0, ev0⟩ : ∃ v0, v0 = bv (sa[j]'(by omega)) := ⟨_, rfl⟩
  rw [← ev0] at g0
  have j0 : (0 : Int) ≤ (j : Int) := by omega
  have j1 : (j : Int) < (m : Int) := by omega
  have HSZ := Lib.hid hsa
  have hm4 : (m : Int) ≤ 4611686018427387904 := by omega
  have hm0 : (0 : Int) < (m : Int) := by omega
  clear x0 hb8 hb9 hcz9 eZ esa ev0 ej em hsa
  go_wp2_with fail
  (with_reducible refine (mod_any at' m w9 hm0 hm4).mono ?_)
  rintro e w9' ⟨rfl, hw9⟩
  subst hw9
  rw [← HEJ.out]
  obtain ⟨wa, ewa⟩ : ∃ wa : World, wa = w9.setCell ⟨Z, j, none⟩ (.int .u8 by') := ⟨_, rfl⟩
  have HGA : Hid (w9.grownBy wa (some Z)) := (show Hid _ from by rw [ewa]; exact grownBy_setCell (grownBy_refl _ _) (.inl rfl) _)
  have HBA : Hid (Below w7.heap.size w7 wa) := (show Hid _ from HB9.out.grown HGA.out HB9.out.size (fun k hk => by injection hk with hk; omega))
  obtain ⟨L, eL⟩ : ∃ L, L = sa.data.toList.set j (UInt8.ofNat by') := ⟨_, rfl⟩
  have hLl : L.length = m := by rw [eL, List.length_set, tl_len, HEM.out]
  have HCA : Hid (∀ W, Below wa.heap.size wa W → ∀ k (h : k < L.length), W.cell? ⟨Z, k, none⟩ = some (.int .u8 (L[k].toNat : Int))) := (show Hid _ from fun W hW k h => by
    have hZa : Z < wa.heap.size := by have := HGA.out.size; omega
    rw [hW.cell (p := ⟨Z, k, none⟩) hZa]
    subst eL
    have hk : k < sa.size := by rw [← HEM.out]; omega
    by_cases e : j = k
    · subst e
      rw [List.getElem_set_self, ewa]
      rw [show (((UInt8.ofNat by').toNat : Nat) : Int) = (by' : Int) by rw [UInt8.toNat_ofNat']; omega]
      exact World.cell?_setCell_same _ _ _ g0
    · rw [List.getElem_set_ne e, ewa]
      exact (World.cell?_setCell_other _ _ _ _ (fun h => e (by injection h with _ h _))).trans (HCZ.out k hk).1)
  clear hLl
  have wn8 : IntKind.i64.wrap (1 + n0 % 8) = 1 + n0 % 8 := by exact IntWalk.i64_in _ (by omega)
  have x0 := HD7b.out wa HBA.out
  go_upto_region 11 with fail
  rw [← ewa]
  clear ewa g0 f0
  go_region_held3 (fun w' => w'.cell? ⟨D, 2, none⟩ = some (.int .i64 sl)) (first | exact x0 | go_keep)
    (first
      | (go_at_call 25; refine (mod_any n0 8 _ (by omega) (by omega)).mono ?_; rintro e w5 ⟨rfl, hw5⟩; subst hw5))
  obtain ⟨wb, ewb⟩ : ∃ wb : World, wb = (wa.alloc (.cells #[.int .i64 n0, .int .i64 sl, .int .i64 (1 + n0 % 8)] 3)).drew := ⟨_, rfl⟩
  obtain ⟨NB, eNB⟩ : ∃ NB, NB = wa.heap.size := ⟨_, rfl⟩
  have HNB : Hid (wb.heap[NB]? = some (.cells #[.int .i64 n0, .int .i64 sl, .int .i64 (1 + n0 % 8)] 3 (0, 0))) := (show Hid _ from by rw [ewb, eNB]; exact heap_alloc_new wa _)
  have HBab : Hid (Below wa.heap.size wa wb) := (show Hid _ from by rw [ewb]; exact ((Below.refl _ wa).alloc (Nat.le_refl _) _).drew)
  have HB7b : Hid (Below w7.heap.size w7 wb) := (show Hid _ from HBA.out.trans (HBab.out.mono HBA.out.size))
  have HBWb : Hid (Below w.heap.size w wb) := (show Hid _ from HB7.out.trans (HB7b.out.mono hz7))
  rw [← ewb, ← eNB]
  clear ewb eNB x0 wn8
  obtain ⟨ns, ens⟩ : ∃ ns : List Int, ns = [n0, (sl : Int), 1 + n0 % 8] := ⟨_, rfl⟩
  have hns : ns.length = 3 := by rw [ens]; rfl
  have HNC : Hid (∀ W, Below wb.heap.size wb W → ∀ k (h : k < ns.length), W.cell? ⟨NB, k, none⟩ = some (.int .i64 ns[k])) := (show Hid _ from fun W hW k h => by
    have e1 := (hW.block NB (heap_of_cells HNB.out)).trans HNB.out
    rw [cell_of_row W NB k _ _ _ e1]
    subst ens
    have h3 : k < 3 := h
    obtain rfl | rfl | rfl : k = 0 ∨ k = 1 ∨ k = 2 := by omega
    · rfl
    · rfl
    · rfl)
  have HEb : Hid (∀ W, Below wb.heap.size wb W → SV ecs 2 W.heap.size W (.slice Ae es.length ce) es) := (show Hid _ from fun W hW => HE.out.on (HBWb.out.trans (hW.mono HBWb.out.size)))
  have HAb : Hid (∀ W, Below wb.heap.size wb W → SV ecs 2 W.heap.size W (.slice Aa ra.length ca) ra) := (show Hid _ from fun W hW => HSA.out.on (HB7b.out.trans (hW.mono HB7b.out.size)))
  have HLb : Hid (∀ W, Below wb.heap.size wb W → (convert 63 9 (.slice (some ⟨Z, 0, none⟩) m cz)).run Try.prog W = .ok (.string ⟨L.toArray⟩) W) := (show Hid _ from fun W hW => by
    have hLl : L.length = m := by rw [eL, List.length_set, tl_len, HEM.out]
    have h := run_convert_bytes_back (P := Try.prog) W 63 9 5 ⟨Z, 0, none⟩ cz L Try.underlying63 Try.underlying5 Try.underlying9 (fun j hj => by
      rw [addr_add]
      exact HCA.out W (HBab.out.trans (hW.mono HBab.out.size)) j hj)
    rw [hLl] at h
    exact h)
  clear ens eL
  go_wp2_with fail
  go_loopw [89] (fun iv wr => ∃ k : Nat, k ≤ ns.length ∧ iv = .int .i64 k ∧ Below wb.heap.size wb wr) (fun iv _ => ns.length - (intOf iv).toNat)
  case atStart => exact ⟨0, Nat.zero_le _, rfl, Below.refl _ _⟩
  case round =>
    obtain ⟨k, hk, rfl, hb⟩ := hrel
    have HBr := Lib.hid hb
    have hzr := hb.size
    have HBWr : Hid (Below w.heap.size w wr) := (show Hid _ from HBWb.out.trans (hb.mono HBWb.out.size))
    clear hb
    by_cases hkt : k < ns.length
    · have c0 := HNC.out wr HBr.out k hkt
      obtain ⟨n, en⟩ : ∃ n, n = ns[k] := ⟨_, rfl⟩
      rw [← en] at c0
      have z0 : 0 ≤ (k : Int) := by omega
      have z1 : (k : Int) < 3 := by omega
      have wk : IntKind.i64.wrap ((k : Int) + 1) = (k : Int) + 1 := by exact IntWalk.i64_in _ (by omega)
      clear en
      obtain ⟨wk0, rfl⟩ : ∃ wk0 : World, wk0 = wr := ⟨_, rfl⟩
      obtain ⟨MB, eMB⟩ : ∃ MB, MB = wk0.heap.size := ⟨_, rfl⟩
      obtain ⟨wc, ewc⟩ : ∃ wc : World, wc = wk0.alloc (.cells #[.slice Ae es.length ce, .slice Aa ra.length ca] 29) := ⟨_, rfl⟩
      have HWwc : Hid (wk0.alloc (.cells #[.slice Ae es.length ce, .slice Aa ra.length ca] 29) = wc) := ewc.symm
      have HAwc : Hid (Below wk0.heap.size wk0 wc) := (show Hid _ from by rw [ewc]; exact (Below.refl _ wk0).alloc (Nat.le_refl _) _)
      have HMB0wc : Hid (wc.heap[MB]? = some (.cells #[.slice Ae es.length ce, .slice Aa ra.length ca] 29 (0, 0))) := (show Hid _ from by show _ = _; rw [ewc, eMB]; exact heap_alloc_new wk0 _)
      have HM : Hid (∀ W, Below wc.heap.size wc W → W.cell? ⟨MB, 0, none⟩ = some (.slice Ae es.length ce) ∧ W.cell? ⟨MB, 1, none⟩ = some (.slice Aa ra.length ca)) := (show Hid _ from fun W hg => by
        have hMB0 := (hg.block MB (heap_of_cells HMB0wc.out)).trans HMB0wc.out
        exact ⟨cell_of_row W MB 0 _ _ _ hMB0, cell_of_row W MB 1 _ _ _ hMB0⟩)
      have HBbc : Hid (Below wb.heap.size wb wc) := (show Hid _ from HBr.out.trans (HAwc.out.mono hzr))
      have hzc := HBbc.out.size
      go_wp2_with fail
      rw [HWwc.out, ← eMB]
      clear eMB ewc c0
      go_loopw [97] (fun iv wr => ∃ i : Nat, i ≤ 2 ∧ iv = .int .i64 i ∧ Below wc.heap.size wc wr) (fun iv _ => 2 - (intOf iv).toNat)
      case atStart => exact ⟨0, by omega, rfl, Below.refl _ _⟩
      case round =>
        obtain ⟨i, hi, rfl, hb⟩ := hrel
        have HBi := Lib.hid hb
        have hzi := hb.size
        have HBbi : Hid (Below wb.heap.size wb wr) := (show Hid _ from HBbc.out.trans (hb.mono hzc))
        clear hb
        by_cases hit : i < 2
        · -- the list at hand
          obtain ⟨mm, Am, cm, hc0, hsm, hsz⟩ : ∃ (mm : List (ByteArray × Int)) (Am : Option Addr) (cm : Nat), wr.cell? ⟨MB, i, none⟩ = some (.slice Am mm.length cm) ∧ (∀ W, Below wb.heap.size wb W → SV ecs 2 W.heap.size W (.slice Am mm.length cm) mm) ∧ (∀ e ∈ mm, e.1.size ≤ 9223372036854775807) := by
            obtain ⟨m0, m1⟩ := HM.out wr HBi.out
            obtain rfl | rfl : i = 0 ∨ i = 1 := by omega
            · exact ⟨es, Ae, ce, m0, HEb.out, HK.out⟩
            · exact ⟨ra, Aa, ca, m1, HAb.out, HKA.out⟩
          have HSM := Lib.hid hsm
          have HSZM := Lib.hid hsz
          have y0 : 0 ≤ (i : Int) := by omega
          have y1 : (i : Int) < 2 := by omega
          have wi : IntKind.i64.wrap ((i : Int) + 1) = (i : Int) + 1 := by exact IntWalk.i64_in _ (by omega)
          clear hsm hsz
          go_wp2_with fail
          (with_reducible refine (kencode_any n mm _ wr (HSM.out wr HBbi.out) HSZM.out).mono ?_)
          rintro e w11 ⟨rfl, hb11⟩
          have HB11 : Hid (Below wb.heap.size wb w11) := (show Hid _ from HBbi.out.trans (hb11.mono HBbi.out.size))
          have HC11 : Hid (Below wc.heap.size wc w11) := (show Hid _ from HBi.out.trans (hb11.mono hzi))
          obtain ⟨b8, c8, e8⟩ : ∃ (b8 : ByteArray) (c8 : Int), encV n mm = .tuple #[.string b8, .int .i64 c8] := ⟨_, _, rfl⟩
          rw [e8]
          have HE8 := Lib.hid e8
          clear hb11 hc0 e8
          go_wp2_with fail
          (with_reducible refine (rencode_any n mm _ w11 (HSM.out w11 HB11.out) HSZM.out).mono ?_)
          rintro e w12 ⟨rfl, hb12⟩
          have HC12 : Hid (Below wc.heap.size wc w12) := (show Hid _ from HC11.out.trans (hb12.mono HC11.out.size))
          rw [HE8.out]
          have hq8 : (b8.toList == b8.toList) = true := beq_self_eq_true _
          clear hb12
          go_wp2_with fail
          go_roundw
          case rel => exact ⟨i + 1, by omega, by go_num, HC12.out⟩
          case measure => simp [intOf]; omega
        · obtain ⟨wi0, rfl⟩ : ∃ wi0 : World, wi0 = wr := ⟨_, rfl⟩
          have hcv2 := HLb.out wi0 HBbi.out
          obtain ⟨s3, e3⟩ : ∃ s3 : ByteArray, s3 = ⟨L.toArray⟩ := ⟨_, rfl⟩
          rw [← e3] at hcv2
          have hcat : ¬ (9223372036854775807 < sa.size + s.size) := by have := HSZ.out; omega
          have hcat2 : ¬ (maxLen < sa.size + s.size) := by have := HSZ.out; unfold maxLen; omega
          clear e3
          obtain ⟨YB, eYB⟩ : ∃ YB, YB = wi0.heap.size := ⟨_, rfl⟩
          obtain ⟨wd, ewd⟩ : ∃ wd : World, wd = wi0.alloc (.cells #[.string s, .string sa, .string s3, .string (sa ++ s)] 9) := ⟨_, rfl⟩
          have HWwd : Hid (wi0.alloc (.cells #[.string s, .string sa, .string s3, .string (sa ++ s)] 9) = wd) := ewd.symm
          have HAwd : Hid (Below wi0.heap.size wi0 wd) := (show Hid _ from by rw [ewd]; exact (Below.refl _ wi0).alloc (Nat.le_refl _) _)
          have HYB0wd : Hid (wd.heap[YB]? = some (.cells #[.string s, .string sa, .string s3, .string (sa ++ s)] 9 (0, 0))) := (show Hid _ from by show _ = _; rw [ewd, eYB]; exact heap_alloc_new wi0 _)
          have HY : Hid (∀ W, Below wd.heap.size wd W → W.cell? ⟨YB, 0, none⟩ = some (.string s) ∧ W.cell? ⟨YB, 1, none⟩ = some (.string sa) ∧ W.cell? ⟨YB, 2, none⟩ = some (.string s3) ∧ W.cell? ⟨YB, 3, none⟩ = some (.string (sa ++ s))) := (show Hid _ from fun W hg => by
            have hYB0 := (hg.block YB (heap_of_cells HYB0wd.out)).trans HYB0wd.out
            exact ⟨cell_of_row W YB 0 _ _ _ hYB0, cell_of_row W YB 1 _ _ _ hYB0, cell_of_row W YB 2 _ _ _ hYB0, cell_of_row W YB 3 _ _ _ hYB0⟩)
          have HCd : Hid (Below wc.heap.size wc wd) := (show Hid _ from HBi.out.trans (HAwd.out.mono hzi))
          go_wp2_with fail
          rw [HWwd.out, ← eYB]
          clear eYB ewd hcv2
          go_loopw [131] (fun iv wr => ∃ i : Nat, i ≤ 4 ∧ iv = .int .i64 i ∧ Below wd.heap.size wd wr) (fun iv _ => 4 - (intOf iv).toNat)
          case atStart => exact ⟨0, by omega, rfl, Below.refl _ _⟩
          case round =>
            obtain ⟨j, hj', rfl, hb⟩ := hrel
            have HBj := Lib.hid hb
            have hzj := hb.size
            have HCj : Hid (Below wc.heap.size wc wr) := (show Hid _ from HCd.out.trans (hb.mono HCd.out.size))
            clear hb
            by_cases hjt : j < 4
            · obtain ⟨y, hc0⟩ : ∃ y : ByteArray, wr.cell? ⟨YB, j, none⟩ = some (.string y) := by
                obtain ⟨m0, m1, m2, m3⟩ := HY.out wr HBj.out
                obtain rfl | rfl | rfl | rfl : j = 0 ∨ j = 1 ∨ j = 2 ∨ j = 3 := by omega
                · exact ⟨_, m0⟩
                · exact ⟨_, m1⟩
                · exact ⟨_, m2⟩
                · exact ⟨_, m3⟩
              have y0 : 0 ≤ (j : Int) := by omega
              have y1 : (j : Int) < 4 := by omega
              have wj : IntKind.i64.wrap ((j : Int) + 1) = (j : Int) + 1 := by exact IntWalk.i64_in _ (by omega)
              go_wp2_with fail
              (with_reducible refine (kdecode_any n y wr).mono ?_)
              rintro e w11 h11
              have hb11 := h11.1
              have HX11 := Lib.hid h11
              have HD11 : Hid (Below wd.heap.size wd w11) := (show Hid _ from HBj.out.trans (hb11.mono hzj))
              obtain ⟨k1, k2, hee, hk1⟩ : ∃ (k1 : Value) (k2 : Int), e = .returned (.tuple #[k1, .int .i64 k2]) ∧ (∃ A n c, k1 = .slice A n c) := by
                rcases h11.2 with ⟨_, h⟩ | ⟨_, _, h⟩ | ⟨_, l', v', _, h, ho⟩
                · exact ⟨_, _, h, _, _, _, rfl⟩
                · exact ⟨_, _, h, _, _, _, rfl⟩
                · obtain ⟨A, c, e⟩ := own_sl ho
                  exact ⟨_, _, h, _, _, _, e⟩
              obtain ⟨A0, n0', c0', rfl⟩ := hk1
              subst hee
              clear h11 hc0
              go_wp2_with fail
              (with_reducible refine (rdecode_any n y w11).mono ?_)
              rintro e w12 h12
              have hb12 := h12.1
              obtain ⟨l', A1, A2, c1', c2', cd, e1, e2, hl8, hs1', hs2'⟩ := HX11.out.same h12
              injection e1 with e1
              injection e1 with e1
              injection e1 with e1
              injection e1 with e1a e1b
              injection e1b with e1b _
              injection e1a with e1a e1c e1d
              injection e1b with _ e1b
              subst e1a e1c e1d e1b e2
              have HS1 := Lib.hid (hs1'.on hb12)
              have HS2 := Lib.hid hs2'
              have HC12 : Hid (Below wd.heap.size wd w12) := (show Hid _ from HD11.out.trans (hb12.mono HD11.out.size))
              clear h12 hb12 hb11 hs1' hs2'
              go_wp2_with fail
              (with_reducible refine (rsameE_any l' l' _ _ w12 HS1.out HS2.out (by omega) (by omega)).mono ?_)
              rintro e w13 ⟨rfl, hb13⟩
              have HC13 : Hid (Below wd.heap.size wd w13) := (show Hid _ from HC12.out.trans (hb13.mono HC12.out.size))
              rw [decide_eq_true (rfl : l' = l')]
              clear hb13
              go_wp2_with fail
              go_roundw
              case rel => exact ⟨j + 1, by omega, by go_num, HC13.out⟩
              case measure => simp [intOf]; omega
            · have HBfin : Hid (Below wb.heap.size wb wr) := (show Hid _ from HBbc.out.trans (HCj.out.mono hzc))
              go_wp2_with fail
              go_roundw
              case rel => exact ⟨k + 1, hkt, by go_num, HBfin.out⟩
              case measure => simp [intOf]; omega
    · go_wp2_with fail
      all_goals go_ret
      all_goals exact ⟨rfl, HBWr.out⟩
end Go.Proofs.Ytllnomembakboaa
