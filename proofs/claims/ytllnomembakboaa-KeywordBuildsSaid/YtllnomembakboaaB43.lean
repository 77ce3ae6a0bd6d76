/- Joined: Rp. -/
import Derived.Deep.CutRange
import Derived.BigRegion
import Derived.Test.YtllnomembakboaaB41
import Derived.Test.YtllnomembakboaaB22
import Derived.Test.YtllnomembakboaaB13
import Derived.Test.YtllnomembakboaaB26
import Derived.Test.YtllnomembakboaaB32
import Derived.Test.YtllnomembakboaaB42
import Derived.Test.YtllnomembakboaaB38
namespace Go.Proofs.Ytllnomembakboaa
open Go.RowKit

theorem bl_none {a b : World} (h : a.grownBy b none) : Below a.heap.size a b := (Below.refl _ _).grown h (Nat.le_refl _) (fun k hk => by simp at hk)
theorem SLe.onB {w w' : World} {v : Value} {bs : List (List (ByteArray × Int))} (h : SLe w.heap.size w v bs) (hb : Below w.heap.size w w') : SLe w'.heap.size w' v bs := by
  obtain ⟨vs, h1, h2, h3⟩ := h
  exact ⟨vs, h1, h2.on hb, fun j a b => (h3 j a b).on hb⟩
theorem SLo.sleB {lo : Nat} {w : World} {v : Value} {bs : List (List (ByteArray × Int))} (h : SLo lo w v bs) : SLe w.heap.size w v bs := by
  obtain ⟨vs, h1, h2, h3⟩ := h
  exact ⟨vs, h1, h2.sv, fun j a b => (h3 j a b).sv⟩
theorem SBD.onB {w w' : World} {v : Value} {l : List Int} (h : SBD (fun k => k < w.heap.size) w v l) (hb : Below w.heap.size w w') : SBD (fun k => k < w'.heap.size) w' v l := by
  obtain ⟨A, c, e, h1, h2, h3⟩ := h
  refine ⟨A, c, e, h1, h2, fun h0 => ?_⟩
  obtain ⟨b, off, ea, hd, hc⟩ := h3 h0
  exact ⟨b, off, ea, Nat.lt_of_lt_of_le hd hb.size, fun j hj => (hb.cell (p := ⟨b, off + j, Option.none⟩) hd).trans (hc j hj)⟩
theorem fiA_at (B : Int) (ps : List (Int × Int)) (slots : Int) (bs : List (List (ByteArray × Int))) (key : ByteArray) :
    ∃ (a : Int) (b : Bool) (c : Int), ∀ (w : World) (e : Ending) (w' : World), FiA B ps slots bs key w e w' → e = .returned (.tuple #[.int .i64 a, .bool b, .int .i64 c]) ∧ Below w.heap.size w w' := by
  by_cases hv : VD B ps slots bs
  · obtain ⟨a, b, c, h⟩ : ∃ (a : Int) (b : Bool) (c : Int), (if ky key = true then pickV (pickF key bs) else notF 1) = .tuple #[.int .i64 a, .bool b, .int .i64 c] := by
      split
      · cases pickF key bs
        · exact ⟨_, _, _, rfl⟩
        · exact ⟨_, _, _, rfl⟩
      · exact ⟨_, _, _, rfl⟩
    refine ⟨a, b, c, fun w e w' hf => ⟨?_, hf.1⟩⟩
    rcases hf.2 with ⟨hn, _⟩ | ⟨_, he⟩
    · exact absurd hv hn
    · rw [h] at he; exact he
  · refine ⟨0, false, 2, fun w e w' hf => ⟨?_, hf.1⟩⟩
    rcases hf.2 with ⟨_, he⟩ | ⟨hy, _⟩
    · exact he
    · exact absurd hy hv
theorem pick_at (key : ByteArray) (bs : List (List (ByteArray × Int))) :
    ∃ (a : Int) (b : Bool) (c : Int), (if ky key = true then pickV (pickF key bs) else .tuple #[.int .i64 0, .bool false, .int .i64 1]) = .tuple #[.int .i64 a, .bool b, .int .i64 c] := by
  split
  · cases pickF key bs
    · exact ⟨_, _, _, rfl⟩
    · exact ⟨_, _, _, rfl⟩
  · exact ⟨_, _, _, rfl⟩
theorem hoA_len {B : Int} {ps : List (Int × Int)} {key : ByteArray} {l : List Int} (h : l = (if hvB B ps = true ∧ ky key = true then hms B ps (dg key) else [])) : l.length ≤ 1000000 := by
  subst h
  split
  · rename_i h
    have h2 := (hvB_iff.1 h.1).l2
    rw [hms_len]
    omega
  · simp
theorem buA_form {B : Int} {ps : List (Int × Int)} {slots : Int} {es : List (ByteArray × Int)} {w w1 : World} {e : Ending} (hes : es.length ≤ 256) (h : BuA B ps slots es w e w1) :
    ∃ (B' : Int) (A1 : Option Addr) (n1 c1 : Nat) (sl' : Int) (A2 : Option Addr) (n2 c2 : Nat) (cd : Int), e = .returned (.tuple #[.agg #[.int .i64 B', .slice A1 n1 c1, .int .i64 sl', .slice A2 n2 c2], .int .i64 cd]) := by
  obtain ⟨v1, v2, B', ps', sl', bs', cd, h1, _, ⟨A1, c1, A2, c2, rfl, _⟩, _⟩ := BuA.same hes h h
  exact ⟨_, _, _, _, _, _, _, _, _, h1⟩
theorem buA_both {B : Int} {ps : List (Int × Int)} {slots : Int} {es : List (ByteArray × Int)} {w w1 w2 w3 : World} {x1 x2 : Value} {d1 d2 : Int} (hes : es.length ≤ 256) (h : BuA B ps slots es w (.returned (.tuple #[x1, .int .i64 d1])) w1) (k : BuA B ps slots es w2 (.returned (.tuple #[x2, .int .i64 d2])) w3) :
    d1 = d2 ∧ ∃ (B' : Int) (ps' : List (Int × Int)) (sl' : Int) (bs' : List (List (ByteArray × Int))), DiV w1 x1 B' ps' sl' bs' ∧ DiV w3 x2 B' ps' sl' bs' := by
  obtain ⟨v1, v2, B', ps', sl', bs', cd, h1, h2, h3, h4⟩ := BuA.same hes h k
  simp at h1 h2
  obtain ⟨rfl, rfl⟩ := h1
  obtain ⟨rfl, rfl⟩ := h2
  exact ⟨rfl, B', ps', sl', bs', h3, h4⟩
theorem ecs_one_fm (l : List (ByteArray × Int)) : ∀ u ∈ l.flatMap ecs, u.oneCell' = true := fun u hu => by
  obtain ⟨x, _, h⟩ := List.mem_flatMap.1 hu
  exact ecs_one x u h
theorem own_far {w w' : World} {base g n size : Nat} {e : TypeId} {v : Value} {xs : List Value} (h : w.ownsRow base e size v n xs) (hg : w.grownBy w' (some g)) (hb : g < base) : w'.ownsRow base e size v n xs :=
  h.kept hg (.inr fun e => by have := (h.lt g e).1; omega)
set_option maxRecDepth 100000 in
set_option maxHeartbeats 200000000 in
theorem builds_any (l : List Int) (v : Value) (B0 : Int) (p0 : List (Int × Int)) (s0 : Int) (b0 : List (List (ByteArray × Int))) (pv0 ev0 : Value) (n0 : Int) (es : List (ByteArray × Int)) (ev : Value) (key : ByteArray) (w : World)
    (h : SI w v l) (hp : SG pcs 2 w.heap.size w pv0 p0) (hb : SLe w.heap.size w ev0 b0) (hbk : ∀ l ∈ b0, ∀ e ∈ l, e.1.size ≤ 9223372036854775807) (he : SV ecs 2 w.heap.size w ev es) (hk : ∀ e ∈ es, e.1.size ≤ 9223372036854775807) (hks : key.size ≤ 9223372036854775807) :
    Calls Try.prog 3 #[v, .agg #[.int .i64 B0, pv0, .int .i64 s0, ev0], .int .i64 n0, ev, .string key] w fun e w' => e = .returned (.bool true) ∧ Below w.heap.size w w' := by
  have HSI := Lib.hid h
  obtain ⟨Ae, ce, rfl⟩ := he.form
  obtain ⟨Ap0, cp0, rfl⟩ : ∃ A c, pv0 = .slice A p0.length c := by obtain ⟨A, c, e, _⟩ := hp; exact ⟨A, c, e⟩
  obtain ⟨Ab0, cb0, rfl⟩ : ∃ A c, ev0 = .slice A b0.length c := by obtain ⟨vs, h1, h2, _⟩ := hb; obtain ⟨A, c, e⟩ := h2.form; exact ⟨A, c, by rw [e, h1]⟩
  have HE := Lib.hid he
  have HK := Lib.hid hk
  have HP0 := Lib.hid hp
  have HSB0 := Lib.hid hb
  have HBK0 := Lib.hid hbk
  clear h he hk hp hb hbk
  go_enter Try.func3, Try.ntmps3
  obtain ⟨R, eR⟩ : ∃ R, R = w.heap.size := ⟨_, rfl⟩
  obtain ⟨wr0, ewr0⟩ : ∃ wr0 : World, wr0 = w.alloc (.cells #[.int .i64 B0, .slice Ap0 p0.length cp0, .int .i64 s0, .slice Ab0 b0.length cb0] 28) := ⟨_, rfl⟩
  have HWwr0 : Hid (w.alloc (.cells #[.int .i64 B0, .slice Ap0 p0.length cp0, .int .i64 s0, .slice Ab0 b0.length cb0] 28) = wr0) := ewr0.symm
  have HAwr0 : Hid (Below w.heap.size w wr0) := (show Hid _ from by rw [ewr0]; exact (Below.refl _ w).alloc (Nat.le_refl _) _)
  have HR0wr0 : Hid (wr0.heap[R]? = some (.cells #[.int .i64 B0, .slice Ap0 p0.length cp0, .int .i64 s0, .slice Ab0 b0.length cb0] 28 (0, 0))) := (show Hid _ from by show _ = _; rw [ewr0, eR]; exact heap_alloc_new w _)
  have HRw := Lib.hid eR
  have hR0 : R < wr0.heap.size := heap_of_cells HR0wr0.out
  have HSI0 : Hid (SI wr0 v l) := (show Hid _ from HSI.out.below HAwr0.out)
  go_upto_region 1 with fail
  rw [HWwr0.out, ← eR]
  clear ewr0 eR
  go_wp2_with fail
  (with_reducible refine (sane_any wr0).mono ?_)
  rintro e w1 ⟨rfl, hb1⟩
  have HB1 : Hid (Below w.heap.size w w1) := (show Hid _ from HAwr0.out.trans (hb1.mono HAwr0.out.size))
  have HX1 := Lib.hid hb1
  have HSI1 : Hid (SI w1 v l) := (show Hid _ from HSI0.out.below hb1)
  have HR1 : Hid (w1.heap[R]? = some (.cells #[.int .i64 B0, .slice Ap0 p0.length cp0, .int .i64 s0, .slice Ab0 b0.length cb0] 28 (0, 0))) := (show Hid _ from (hb1.block R hR0).trans HR0wr0.out)
  have r1 := cell_of_row w1 R 1 _ _ _ HR1.out
  have r3 := cell_of_row w1 R 3 _ _ _ HR1.out
  clear hb1
  simp at r1 r3
  go_wp2_with fail
  clear r1 r3
  go_loopw [11, 57] (fun nv iv wr => ∃ (k : Nat) (z : Int), k ≤ b0.length ∧ iv = .int .i64 k ∧ nv = .int .i64 z ∧ w1 = wr) (fun _ iv _ => b0.length - (intOf iv).toNat)
  case atStart => exact ⟨0, _, Nat.zero_le _, rfl, rfl, rfl⟩
  case round =>
    obtain ⟨k, z, hk, rfl, rfl, rfl⟩ := hrel
    by_cases hkt : k < b0.length
    · obtain ⟨vs, hvl, hsv, hrows⟩ := HSB0.out
      obtain ⟨_, hat⟩ := hsv.at
      obtain ⟨p, o, eA, hpl, hc⟩ := hat k (by omega)
      subst eA
      obtain ⟨Ar, cr, er⟩ := (hrows k (by omega) hkt).form
      have c0 : w1.cell? ⟨p, o + k, none⟩ = some (.slice Ar b0[k].length cr) := by rw [← er]; simpa [one] using hc w1 HB1.out 0 (by omega)
      have z0 : 0 ≤ (k : Int) := by omega
      have z1 : (k : Int) < (b0.length : Int) := by omega
      have hbl : b0.length ≤ 9223372036854775807 := by obtain ⟨_, _, _, h1, h2, _⟩ := hsv; omega
      have wk : IntKind.i64.wrap ((k : Int) + 1) = (k : Int) + 1 := by exact IntWalk.i64_in _ (by omega)
      clear hat hc hrows hsv hvl er
      go_wp2_with fail
      go_roundw
      case rel => exact ⟨k + 1, _, hkt, by go_num, rfl, by first | rfl | trivial⟩
      case measure => simp [intOf]; omega
    · have hke : k = b0.length := by omega
      clear hke
      go_wp2_with fail
      (with_reducible refine (few_any l _ w1 HSI1.out).mono ?_)
      rintro e w1' ⟨rfl, hw1⟩
      subst hw1
      by_cases hfew : l.length ≤ 500
      case' neg =>
        have d5 : decide (l.length ≤ 500) = false := decide_eq_false hfew
        rw [d5]
        clear d5 hfew
        go_wp2_with fail
        all_goals go_ret
        all_goals exact ⟨rfl, HB1.out⟩
      have d5 : decide (l.length ≤ 500) = true := decide_eq_true hfew
      rw [d5]
      clear d5 hfew
      by_cases hz2 : 200 < z
      case' pos =>
        have d6 : decide (200 < z) = true := decide_eq_true hz2
        go_wp2_with fail
        all_goals go_ret
        all_goals exact ⟨rfl, HB1.out⟩
      have d6 : decide (200 < z) = false := decide_eq_false hz2
      by_cases he40 : es.length ≤ 40
      case' neg =>
        have d7 : decide (40 < (es.length : Int)) = true := decide_eq_true (by omega)
        have d7n : decide (40 < es.length) = true := decide_eq_true (by omega)
        go_wp2_with fail
        all_goals go_ret
        all_goals exact ⟨rfl, HB1.out⟩
      have d7 : decide (40 < (es.length : Int)) = false := decide_eq_false (by omega)
      have d7n : decide (40 < es.length) = false := decide_eq_false (by omega)
      by_cases hk2 : key.size ≤ 200
      case' neg =>
        have d8 : decide (200 < (key.size : Int)) = true := decide_eq_true (by omega)
        have d8n : decide (200 < key.size) = true := decide_eq_true (by omega)
        go_wp2_with fail
        all_goals go_ret
        all_goals exact ⟨rfl, HB1.out⟩
      have d8 : decide (200 < (key.size : Int)) = false := decide_eq_false (by omega)
      have d8n : decide (200 < key.size) = false := decide_eq_false (by omega)
      go_wp2_with fail
      (with_reducible refine (new_any l _ w1 HSI1.out).mono ?_)
      rintro e w2 ⟨rfl, hd2, hb2, hz2'⟩
      obtain ⟨g, eg⟩ : ∃ g, g = w1.heap.size := ⟨_, rfl⟩
      rw [← eg] at hd2 hz2'
      rw [← eg]
      have HD2 := Lib.hid hd2
      have HB2 : Hid (Below w.heap.size w w2) := (show Hid _ from HB1.out.trans (hb2.mono HB1.out.size))
      have HR2 : Hid (w2.heap[R]? = some (.cells #[.int .i64 B0, .slice Ap0 p0.length cp0, .int .i64 s0, .slice Ab0 b0.length cb0] 28 (0, 0))) := (show Hid _ from (hb2.block R (heap_of_cells HR1.out)).trans HR1.out)
      have hgw : w.heap.size ≤ g := by rw [eg]; exact HB1.out.size
      have hRg : R < g := by rw [eg]; exact heap_of_cells HR1.out
      clear hd2 hb2 eg d6 d7 d7n d8 d8n hz2
      go_wp2_with fail
      (with_reducible refine (directory_any g w2 HD2.out).mono ?_)
      rintro e w3 ⟨B1, p1, sl, S1, ow, out1, pv1, ev1, lv1, rfl, hdv1, hsl4, _, hens, hol, hpv1, hev1, hlv1, hd3, hg3⟩
      have hHV := hdv1.hv
      have HKB1 : Hid (∀ l ∈ dist S1 out1 B1, ∀ e ∈ l, e.1.size ≤ 9223372036854775807) := (show Hid _ from by
        intro l hl e he
        obtain ⟨b, hb, rfl⟩ := List.mem_iff_getElem.1 hl
        have h1 := (ascB_iff.1 (hdv1.row hb).1).1 e he
        have h2 := ky_bd (s := e.1) (by simp [ven] at h1; exact h1.1.1)
        omega)
      have HRWL : Hid (∀ l ∈ dist S1 out1 B1, l.length ≤ 4) := (show Hid _ from by
        intro l hl
        obtain ⟨b, hb, rfl⟩ := List.mem_iff_getElem.1 hl
        exact Nat.le_trans (hdv1.row hb).2.1 hsl4)
      obtain ⟨b1, eb1⟩ : ∃ bs, bs = dist S1 out1 B1 := ⟨_, rfl⟩
      rw [← eb1] at hev1 HKB1 HRWL
      have hl1 : b1.length = B1 := by rw [eb1, dist_len]
      have hB1 : 1 ≤ b1.length ∧ b1.length ≤ 64 := by have h1 := hHV.b1; have h2 := hHV.b2; omega
      obtain ⟨A1, c1, rfl⟩ := hpv1.form
      obtain ⟨Ao, co, rfl⟩ := hlv1.form
      obtain ⟨vs1, hvl, hvsv, hrows⟩ := hev1
      obtain ⟨A2, c2, rfl⟩ := hvsv.form
      have HPV3 : Hid (SG pcs 2 w3.heap.size w3 (.slice A1 p1.length c1) p1) := (show Hid _ from hpv1.sg hHV)
      have HLV3 := Lib.hid hlv1
      have HPO3 := Lib.hid hpv1
      have HVS3 := Lib.hid hvsv
      have HRW3 := Lib.hid hrows
      have HVL := Lib.hid hvl
      have HDV := Lib.hid hdv1
      have HOW : Hid (∀ e ∈ ow, e.1.size ≤ 9223372036854775807) := (show Hid _ from hens.size)
      have HD3 := Lib.hid hd3
      have HG3 := Lib.hid hg3
      have hz3 := hg3.size
      have HB3 : Hid (Below w.heap.size w w3) := (show Hid _ from HB2.out.grown hg3 HB2.out.size (fun k hk => by injection hk with hk; omega))
      have HR3 : Hid (w3.heap[R]? = some (.cells #[.int .i64 B0, .slice Ap0 p0.length cp0, .int .i64 s0, .slice Ab0 b0.length cb0] 28 (0, 0))) := (show Hid _ from (hg3.block R (heap_of_cells HR2.out) (by simp; omega)).trans HR2.out)
      clear hdv1 hpv1 hlv1 hd3 hg3 eb1 hl1 hrows hvsv hens
      obtain ⟨D, eD⟩ : ∃ D, D = w3.heap.size := ⟨_, rfl⟩
      obtain ⟨w4, ew4⟩ : ∃ w4 : World, w4 = w3.alloc (.cells #[.int .i64 B1, .slice A1 p1.length c1, .int .i64 sl, .slice A2 b1.length c2] 28) := ⟨_, rfl⟩
      have HWw4 : Hid (w3.alloc (.cells #[.int .i64 B1, .slice A1 p1.length c1, .int .i64 sl, .slice A2 b1.length c2] 28) = w4) := ew4.symm
      have HAw4 : Hid (Below w3.heap.size w3 w4) := (show Hid _ from by rw [ew4]; exact (Below.refl _ w3).alloc (Nat.le_refl _) _)
      have HD0w4 : Hid (w4.heap[D]? = some (.cells #[.int .i64 B1, .slice A1 p1.length c1, .int .i64 sl, .slice A2 b1.length c2] 28 (0, 0))) := (show Hid _ from by show _ = _; rw [ew4, eD]; exact heap_alloc_new w3 _)
      have HDw4 := Lib.hid eD
      have eDl : Hid (w3.heap.size ≤ D) := (show Hid _ from Nat.le_of_eq eD.symm)
      obtain ⟨E, eE⟩ : ∃ E, E = w4.heap.size := ⟨_, rfl⟩
      obtain ⟨w5, ew5⟩ : ∃ w5 : World, w5 = w4.alloc (.cells #[.int .i64 B1, .slice A1 p1.length c1, .int .i64 sl, .slice A2 b1.length c2] 28) := ⟨_, rfl⟩
      have HWw5 : Hid (w4.alloc (.cells #[.int .i64 B1, .slice A1 p1.length c1, .int .i64 sl, .slice A2 b1.length c2] 28) = w5) := ew5.symm
      have HAw5 : Hid (Below w4.heap.size w4 w5) := (show Hid _ from by rw [ew5]; exact (Below.refl _ w4).alloc (Nat.le_refl _) _)
      have HE0w5 : Hid (w5.heap[E]? = some (.cells #[.int .i64 B1, .slice A1 p1.length c1, .int .i64 sl, .slice A2 b1.length c2] 28 (0, 0))) := (show Hid _ from by show _ = _; rw [ew5, eE]; exact heap_alloc_new w4 _)
      have HDw5 := Lib.hid eE
      go_upto_region 14 with fail
      have HD5 := Lib.hid ((HD3.out.below HAw4.out).below HAw5.out)
      have hb35 := HAw4.out.trans (HAw5.out.mono HAw4.out.size)
      have HB35 := Lib.hid hb35
      have hz5 := hb35.size
      have hDE : D < E := by have := heap_of_cells HD0w4.out; omega
      have hE5 : E < w5.heap.size := heap_of_cells HE0w5.out
      have hgD : g < D := by have := HD3.out.lt; omega
      have HDD5 : Hid (w5.heap[D]? = some (.cells #[.int .i64 B1, .slice A1 p1.length c1, .int .i64 sl, .slice A2 b1.length c2] 28 (0, 0))) := (show Hid _ from (HAw5.out.block D (heap_of_cells HD0w4.out)).trans HD0w4.out)
      have HEE5 := Lib.hid HE0w5.out
      have HR5 : Hid (w5.heap[R]? = some (.cells #[.int .i64 B0, .slice Ap0 p0.length cp0, .int .i64 s0, .slice Ab0 b0.length cb0] 28 (0, 0))) := (show Hid _ from (hb35.block R (heap_of_cells HR3.out)).trans HR3.out)
      have HB5 : Hid (Below w.heap.size w w5) := (show Hid _ from HB3.out.trans (hb35.mono HB3.out.size))
      have HSC5 : Hid (SC w5.heap.size w5 (.slice A2 b1.length c2) b1.length 1 (vs1.flatMap one)) := (show Hid _ from by
        have h1 := (SV.sc (enc := one) (sz := 1) (HVS3.out.below hb35).sv (by omega) (fun _ => rfl))
        rw [HVL.out] at h1
        exact h1)
      have HON : Hid (∀ u ∈ vs1.flatMap one, u.oneCell' = true) := (show Hid _ from by
        intro u hu
        obtain ⟨x, hx, hu⟩ := List.mem_flatMap.1 hu
        obtain ⟨j, hj, rfl⟩ := List.mem_iff_getElem.1 hx
        obtain ⟨A, c, e⟩ := (HRW3.out j hj (by have := HVL.out; omega)).form
        rw [List.mem_singleton.1 hu, e]
        rfl)
      have eE3 : E = w3.heap.size + 1 := by rw [HDw5.out, ← HWw4.out]; simp
      rw [HWw4.out, HWw5.out, ← eE3, ← HDw4.out]
      obtain ⟨i0, hi0, hi1, hi2, hi3⟩ := info_parts elinfo
      have d0 := cell_of_row w5 D 3 _ _ _ HDD5.out
      have e0 := cell_of_row w5 E 3 _ _ _ HEE5.out
      simp at d0 e0
      clear hb35 hvl eD eE ew4 ew5 eE3
      go_wp2_with (at_builtin; refine wpList_append_sc _ rfl _ _ 26 rfl w5.heap.size 29 i0 _ 1 24 Try.underlying26 hi0 hi1 hi2 hi3 rfl (by omega) _ 0 [] rfl (World.ownsRow_nil _ _ _ _) w5.heap.size _ b1.length (vs1.flatMap one) rfl HSC5.out HON.out (by unfold maxLen; omega) (by omega) (by omega) ?_; intro v6 w6 hown6 hg6; have hg6 : w5.grownBy w6 none := hg6; rw [Nat.zero_add, List.nil_append] at hown6; obtain ⟨A6, c6, rfl⟩ := own_sl hown6; have HO6 := Lib.hid hown6; have HG6 := Lib.hid hg6; have hz6 := hg6.size; have HEE6 : Hid (w6.heap[E]? = _) := (show Hid _ from (hg6.block E hE5 (by simp)).trans HEE5.out); have e1 := cell_of_row w6 E 3 _ _ _ HEE6.out; simp at e1; have fr1 : w6.frozen? ⟨E, 3, none⟩ = false := frozen_of_row w6 E 3 _ _ HEE6.out; clear hown6 hg6 d0 e0)
      obtain ⟨w7, ew7⟩ : ∃ w7 : World, w7 = w6.setCell ⟨E, 3, none⟩ (.slice A6 b1.length c6) := ⟨_, rfl⟩
      rw [← ew7]
      have HG67 : Hid (w6.grownBy w7 (some E)) := (show Hid _ from by rw [ew7]; exact grownBy_setCell (p := ⟨E, 3, none⟩) (grownBy_refl _ _) (.inl rfl) _)
      have HE7 : Hid (w7.cell? ⟨E, 0, none⟩ = some (.int .i64 B1) ∧ w7.cell? ⟨E, 1, none⟩ = some (.slice A1 p1.length c1) ∧ w7.cell? ⟨E, 2, none⟩ = some (.int .i64 sl) ∧ w7.cell? ⟨E, 3, none⟩ = some (.slice A6 b1.length c6)) := (show Hid _ from by
        rw [ew7]
        refine ⟨?_, ?_, ?_, World.cell?_setCell_same _ _ _ e1⟩
        · exact (World.cell?_setCell_other _ _ _ _ (fun h => by injection h with _ h _; omega)).trans (cell_of_row w6 E 0 _ _ _ HEE6.out)
        · exact (World.cell?_setCell_other _ _ _ _ (fun h => by injection h with _ h _; omega)).trans (cell_of_row w6 E 1 _ _ _ HEE6.out)
        · exact (World.cell?_setCell_other _ _ _ _ (fun h => by injection h with _ h _; omega)).trans (cell_of_row w6 E 2 _ _ _ HEE6.out))
      obtain ⟨N, rfl⟩ : ∃ N, A6 = some ⟨N, 0, none⟩ := by
        rcases HO6.out.2 with ⟨e, hn⟩ | ⟨gg, cap, cur, e, _⟩
        · omega
        · injection e with e _ _; exact ⟨_, e⟩
      have hNl := HO6.out.lt N rfl
      have HNC : Hid (∀ k (h : k < vs1.length), w7.cell? ⟨N, k, none⟩ = some vs1[k]) := (show Hid _ from fun k h => by
        have h1 := HO6.out.cellAt k (by have := HVL.out; omega)
        rw [World.cell?_of_block (HG67.out.block N hNl.2 (by simp; omega)), h1]
        rw [show vs1.flatMap one = vs1 from List.flatMap_singleton' vs1]
        exact List.getElem?_eq_getElem h)
      have HNF : Hid (∀ k, w7.frozen? ⟨N, k, none⟩ = false) := (show Hid _ from fun k => by
        have h1 := HO6.out.frozenAt k
        simp only [World.frozen?] at h1 ⊢
        rw [HG67.out.block N hNl.2 (by simp; omega)]
        exact h1)
      have hz7 := HG67.out.size
      have HD7 : Hid (Dk w7 g) := (show Hid _ from (HD5.out.grown HG6.out (fun k hk => by simp at hk)).grown HG67.out (fun k hk => by injection hk with hk; omega))
      have hNg : E < N := by omega
      have x3 := HE7.out.2.2.2
      clear ew7 e1 fr1
      have hb67 : Below w5.heap.size w5 w6 := (Below.refl _ _).grown HG6.out (Nat.le_refl _) (fun k hk => by simp at hk)
      have HB37 : Hid (Below w3.heap.size w3 w7) := (show Hid _ from (HB35.out.trans (hb67.mono hz5)).grown HG67.out (by omega) (fun k hk => by injection hk with hk; have := eDl.out; omega))
      (with_reducible refine (next_any b1.length g w7 HD7.out (by unfold i64r; omega) (by omega)).mono ?_)
      rintro e w8 ⟨x8, rfl, _, hx8, hd8, hg8⟩
      have hx8 := hx8 (by omega)
      obtain ⟨i, rfl⟩ : ∃ i : Nat, x8 = i := ⟨x8.toNat, by omega⟩
      have hi : i < b1.length := by omega
      have hz8 := hg8.size
      have HD8 := Lib.hid hd8
      have HG8 := Lib.hid hg8
      clear hx8 hd8 hg8 x3 hb67
      have HKP : Hid (∀ W, w8.grownBy W (some g) → w3.heap.size ≤ W.heap.size ∧ ∀ p : Addr, w2.heap.size ≤ p.block → p.block < w3.heap.size → W.cell? p = w3.cell? p) := (show Hid _ from fun W hW => ⟨by have := HB37.out.size; have := hW.size; omega, fun p h1 h2 => by
        rw [hW.cell_far p (by have := HB37.out.size; omega) (by simp; omega), HG8.out.cell_far p (by have := HB37.out.size; omega) (by simp; omega)]
        exact HB37.out.cell h2⟩)
      have hiv : i < vs1.length := by have := HVL.out; omega
      obtain ⟨Aa, ca, era⟩ := (HRW3.out i hiv hi).form
      obtain ⟨ra, era2⟩ : ∃ ra, ra = b1[i] := ⟨_, rfl⟩
      rw [← era2] at era
      have HRA : Hid (∀ W, w8.grownBy W (some g) → SV ecs 2 W.heap.size W (.slice Aa ra.length ca) ra) := (show Hid _ from fun W hW => by
        have h1 := (HRW3.out i hiv hi).keep (HKP.out W hW).1 (HKP.out W hW).2
        rw [era, ← era2] at h1
        exact h1.sv)
      have HCE : Hid (∀ W, w8.grownBy W (some g) → W.cell? ⟨E, 3, none⟩ = some (.slice (some ⟨N, 0, none⟩) b1.length c6) ∧ W.cell? ⟨N, i, none⟩ = some (.slice Aa ra.length ca) ∧ W.frozen? ⟨N, i, none⟩ = false) := (show Hid _ from fun W hW => by
        have hEl : E < w7.heap.size := by omega
        have hb1 := fun (b : Nat) (h1 : b < w7.heap.size) (h2 : g < b) => (hW.block b (by omega) (by simp; omega)).trans (HG8.out.block b h1 (by simp; omega))
        refine ⟨(World.cell?_of_block (hb1 E hEl (by omega))).trans HE7.out.2.2.2, (World.cell?_of_block (hb1 N (by omega) (by omega))).trans ((HNC.out i hiv).trans (by rw [era])), ?_⟩
        have h1 := HNF.out i
        simp only [World.frozen?] at h1 ⊢
        rw [hb1 N (by omega) (by omega)]
        exact h1)
      have hrl : ra.length ≤ 300 := by have := HRWL.out ra (by rw [era2]; exact List.getElem_mem hi); omega
      have HRL := Lib.hid hrl
      have HIV := Lib.hid hiv
      have HER := Lib.hid era
      have HER2 := Lib.hid era2
      clear era era2
      go_upto_region 16 with fail
      go_cut [] from 101 to 113 (fun wx => ∃ (m2 : List (ByteArray × Int)) (v9 : Value) (wy : World), m2.length ≤ 2 ∧ (∀ e ∈ m2, e.1.size ≤ 9223372036854775807) ∧ w8.grownBy wy (some g) ∧ Dk wy g ∧ wy.ownsRow w8.heap.size 41 2 v9 (ra ++ m2).length ((ra ++ m2).flatMap ecs) ∧ wx = wy.setCell ⟨N, i, none⟩ v9)
      case first =>
-- {A
        obtain ⟨x0, x1, x2⟩ := HCE.out w8 (grownBy_refl _ _)
        have i0 : (0 : Int) ≤ (i : Int) := by omega
        have i1 : (i : Int) < (b1.length : Int) := by omega
        have hg8 : g < w8.heap.size := HD8.out.lt
        have HSA : Hid (∀ W, w8.grownBy W (some g) → SC W.heap.size W (.slice Aa ra.length ca) ra.length 2 (ra.flatMap ecs)) := (show Hid _ from fun W hW => SV.sc (HRA.out W hW) (by omega) (fun x => ecs_len x))
        go_region_law
          (first
            | (go_simp; go_at_call 14; refine (entries_any 2 g _ (by first | exact HD8.out | exact HDb.out) (by omega) (by omega)).mono ?_; rintro e9 w9 ⟨m2, v9, rfl, hen9, hl9, ho9, hd9, hg9⟩; have HG9 : Hid (w8.grownBy w9 (some g)) := (show Hid _ from by first | exact ⟨hg9.os, hg9.tape, hg9.output, hg9.size, hg9.block⟩ | exact grownBy_trans HGb.out ⟨hg9.os, hg9.tape, hg9.output, hg9.size, hg9.block⟩); obtain ⟨y0, y1, y2⟩ := HCE.out w9 HG9.out; have hz9 := HG9.out.size; have HD9 := Lib.hid hd9; have HE9 := Lib.hid hen9; have HM9 := Lib.hid (SV.of_own ho9 (fun x _ => ecs_len x)); have HG9' := Lib.hid hg9; have hl9 : m2.length ≤ 2 := (by omega); clear hd9 hen9 ho9 hg9)
            | (refine step_append_src ecs _ (by rfl) (.tmp 109) (.tmp 111) 29 (by rfl) w8.heap.size 41 _ 24 Try.underlying29 einfo rfl (by omega) (by omega) _ ra (by rfl) (by first | exact HOb.out | exact own_far HOb.out HG9'.out hg8) m2 _ _ (by rfl) (by first | exact SV.sc HM9.out (by omega) (fun x => ecs_len x) | exact SV.sc (HM9.out.on (bl_none HGb'.out)) (by omega) (fun x => ecs_len x)) (ecs_one_fm _) (by omega) (by first | exact HG9.out.size | exact HGb.out.size) ?_; intro Az cz wz hoz hgz; have HGz : Hid (w8.grownBy wz (some g)) := (show Hid _ from by first | exact grownBy_own HG9.out ⟨hgz.os, hgz.tape, hgz.output, hgz.size, hgz.block⟩ (fun k hk => (HOb.out.lt k hk).1) | exact grownBy_own HGb.out ⟨hgz.os, hgz.tape, hgz.output, hgz.size, hgz.block⟩ (fun k hk => (HOb.out.lt k hk).1)); obtain ⟨t0, t1, t2⟩ := HCE.out wz HGz.out; have hzz := HGz.out.size; have HDz : Hid (Dk wz g) := (show Hid _ from by first | exact HD9.out.grown ⟨hgz.os, hgz.tape, hgz.output, hgz.size, hgz.block⟩ (fun k hk => by have := (HOb.out.lt k hk).1; omega) | exact (HD9.out.below (bl_none HGb'.out)).grown ⟨hgz.os, hgz.tape, hgz.output, hgz.size, hgz.block⟩ (fun k hk => by have := (HOb.out.lt k hk).1; omega)); have HOz := Lib.hid hoz; clear hoz hgz)
            | (refine step_append_all ecs _ (by rfl) _ _ 29 (by rfl) w8.heap.size 41 _ 2 24 Try.underlying29 einfo rfl (by omega) (by omega) (by rfl) ra _ _ (by rfl) (by first | exact HSA.out w8 (grownBy_refl _ _) | exact HSA.out w9 HG9.out) (ecs_one_fm _) (by omega) (by first | exact Nat.le_refl _ | exact HG9.out.size) ?_; intro Ab cb wb hob hgb hab; have HGb : Hid (w8.grownBy wb (some g)) := (show Hid _ from by first | exact World.grownBy.but (a := w8) ⟨hgb.os, hgb.tape, hgb.output, hgb.size, hgb.block⟩ (some g) | exact grownBy_own HG9.out ⟨hgb.os, hgb.tape, hgb.output, hgb.size, hgb.block⟩ (fun k hk => by simp at hk)); obtain ⟨z0, z1, z2⟩ := HCE.out wb HGb.out; have hzb := HGb.out.size; have HOb := Lib.hid hob; have HGb' := Lib.hid hgb; try (have HDb : Hid (Dk wb g) := (show Hid _ from HD8.out.below (bl_none (a := w8) ⟨hgb.os, hgb.tape, hgb.output, hgb.size, hgb.block⟩))); clear hob hgb hab))
        all_goals (go_wp2_with fail; go_meet; case rel => exact ⟨m2, .slice Az (ra ++ m2).length cz, wz, hl9, HE9.out.size, HGz.out, HDz.out, HOz.out, by rw [List.length_append]⟩)
-- A}
      case rest =>
        obtain ⟨wd, rfl⟩ : ∃ wd : World, wd = wc := ⟨_, rfl⟩
        obtain ⟨m2, v9, wy, hl2, hm2, hgy, hdy, hoy, ewc⟩ := hcut
        obtain ⟨A9, c9, rfl⟩ := own_sl hoy
        have hzy := hgy.size
        have HGC : Hid (wy.grownBy wd (some N)) := (show Hid _ from by rw [ewc]; exact grownBy_setCell (p := ⟨N, i, none⟩) (grownBy_refl _ _) (.inl rfl) _)
        have hzc := HGC.out.size
        have hb37 := HB37.out.size
        have h3D := eDl.out
        -- blocks that lie still
        have hfar : ∀ b, b < w7.heap.size → b ≠ g → b ≠ N → wd.heap[b]? = w7.heap[b]? := fun b h1 h2 h3 => (HGC.out.block b (by omega) (by simp; omega)).trans ((hgy.block b (by omega) (by simp; omega)).trans (HG8.out.block b h1 (by simp; omega)))
        have HFAR := Lib.hid hfar
        have HDc : Hid (Dk wd g) := (show Hid _ from hdy.grown HGC.out (fun k hk => by injection hk with hk; omega))
        have HBc : Hid (Below w.heap.size w wd) := (show Hid _ from (((HB3.out.trans (HB37.out.mono HB3.out.size)).grown HG8.out (by omega) (fun k hk => by injection hk with hk; omega)).grown hgy (by omega) (fun k hk => by injection hk with hk; omega)).grown HGC.out (by have := HB3.out.size; omega) (fun k hk => by injection hk with hk; have := HB3.out.size; omega))
        have HKC : Hid (w3.heap.size ≤ wd.heap.size ∧ ∀ p : Addr, w2.heap.size ≤ p.block → p.block < w3.heap.size → wd.cell? p = w3.cell? p) := (show Hid _ from ⟨by omega, fun p h1 h2 => (World.cell?_of_block (hfar p.block (by omega) (by omega) (by omega))).trans (HB37.out.cell h2)⟩)
        have hDR : D < w7.heap.size ∧ E < w7.heap.size ∧ R < w7.heap.size := by omega
        have HDcD : Hid (wd.heap[D]? = some (.cells #[.int .i64 B1, .slice A1 p1.length c1, .int .i64 sl, .slice A2 b1.length c2] 28 (0, 0))) := (show Hid _ from (hfar D hDR.1 (by omega) (by omega)).trans ((HG67.out.block D (by omega) (by simp; omega)).trans ((HG6.out.block D (by omega) (by simp)).trans HDD5.out)))
        have HRcR : Hid (wd.heap[R]? = some (.cells #[.int .i64 B0, .slice Ap0 p0.length cp0, .int .i64 s0, .slice Ab0 b0.length cb0] 28 (0, 0))) := (show Hid _ from (hfar R hDR.2.2 (by omega) (by omega)).trans ((HG67.out.block R (by omega) (by simp; omega)).trans ((HG6.out.block R (by omega) (by simp)).trans HR5.out)))
        have HEcE : Hid (wd.cell? ⟨E, 0, none⟩ = some (.int .i64 B1) ∧ wd.cell? ⟨E, 1, none⟩ = some (.slice A1 p1.length c1) ∧ wd.cell? ⟨E, 2, none⟩ = some (.int .i64 sl) ∧ wd.cell? ⟨E, 3, none⟩ = some (.slice (some ⟨N, 0, none⟩) b1.length c6)) := (show Hid _ from by
          have h := hfar E hDR.2.1 (by omega) (by omega)
          exact ⟨(World.cell?_of_block h).trans HE7.out.1, (World.cell?_of_block h).trans HE7.out.2.1, (World.cell?_of_block h).trans HE7.out.2.2.1, (World.cell?_of_block h).trans HE7.out.2.2.2⟩)
        have HP4 : Hid (SVo hcs 2 w2.heap.size wd (.slice A1 p1.length c1) p1) := (show Hid _ from HPO3.out.keep HKC.out.1 HKC.out.2)
        have HL4 : Hid (SVo ecs 2 w2.heap.size wd (.slice Ao ow.length co) ow) := (show Hid _ from HLV3.out.keep HKC.out.1 HKC.out.2)
        have HX4 : Hid (SLo w2.heap.size wd (.slice A2 b1.length c2) b1) := (show Hid _ from ⟨vs1, HVL.out, by have := HVS3.out.keep HKC.out.1 HKC.out.2; rwa [HVL.out] at this, fun j h1 h2 => (HRW3.out j h1 h2).keep HKC.out.1 HKC.out.2⟩)
        obtain ⟨b2, eb2⟩ : ∃ b2, b2 = b1.set i (ra ++ m2) := ⟨_, rfl⟩
        have hb2 : b2.length = b1.length := by rw [eb2, List.length_set]
        have HN4 : Hid (SLo w2.heap.size wd (.slice (some ⟨N, 0, none⟩) b1.length c6) b2) := (show Hid _ from by
          refine ⟨vs1.set i (.slice A9 (ra ++ m2).length c9), by rw [List.length_set, hb2, HVL.out], ?_, fun j h1 h2 => ?_⟩
          · obtain ⟨A', c', e', g1, g2, _⟩ := SV.of_own (enc := one) (l := vs1) (by rw [HVL.out]; exact HO6.out) (fun _ _ => rfl)
            injection e' with _ _ e3
            subst e3
            refine ⟨_, _, by rw [List.length_set, HVL.out], by rw [List.length_set]; exact g1, g2, fun _ => ⟨N, 0, rfl, by omega, by omega, fun j hj k hk => ?_⟩⟩
            obtain rfl : k = 0 := by omega
            rw [List.length_set] at hj
            have hc : wd.cell? ⟨N, j, none⟩ = some ((vs1.set i (.slice A9 (ra ++ m2).length c9))[j]'(by rw [List.length_set]; exact hj)) := by
              have hold : ∀ k (h : k < vs1.length), wy.cell? ⟨N, k, none⟩ = some vs1[k] := fun k h => (hgy.cell_far ⟨N, k, none⟩ (by show N < _; omega) (by simp; omega)).trans ((HG8.out.cell_far ⟨N, k, none⟩ (by show N < _; omega) (by simp; omega)).trans (HNC.out k h))
              rw [ewc]
              by_cases e : i = j
              · subst e
                rw [List.getElem_set_self]
                exact World.cell?_setCell_same _ _ _ (hold i hj)
              · rw [List.getElem_set_ne e]
                exact (World.cell?_setCell_other _ _ _ _ (fun h => e (by injection h with _ h _))).trans (hold j hj)
            simpa [one] using hc
          · rw [List.length_set] at h1
            by_cases e : i = j
            · subst e
              have h3 : (b1.set i (ra ++ m2))[i]'(by rw [List.length_set]; exact hi) = ra ++ m2 := List.getElem_set_self _
              have h4 : SVo ecs 2 w2.heap.size wd (.slice A9 (ra ++ m2).length c9) (ra ++ m2) := by
                refine ((SVo.of_own hoy (fun x _ => ecs_len x)).keep hzc (fun p h5 h6 => ?_)).lower (by omega)
                exact HGC.out.cell_far p h6 (by simp; omega)
              subst eb2
              rw [List.getElem_set_self, h3]
              exact h4
            · subst eb2
              rw [List.getElem_set_ne e, List.getElem_set_ne e]
              exact (HRW3.out j h1 (by have := HVL.out; omega)).keep HKC.out.1 HKC.out.2)
        have HKB2 : Hid (∀ l ∈ b2, ∀ e ∈ l, e.1.size ≤ 9223372036854775807) := (show Hid _ from fun l hl e he => by
          rw [eb2] at hl
          rcases List.mem_or_eq_of_mem_set hl with h | h
          · exact HKB1.out l h e he
          · subst h
            rcases List.mem_append.1 he with h | h
            · exact HKB1.out ra (by rw [HER2.out]; exact List.getElem_mem hi) e h
            · exact hm2 e h)
        have hgc : g < wd.heap.size := HDc.out.lt
        clear hfar hgy hdy hoy ewc hm2 eb2
        go_wp2_with fail
        (with_reducible refine (word_any g wd HDc.out).mono ?_)
        rintro e w10 ⟨sw, rfl, hsw, hd10, hg10⟩
        have hz10 := hg10.size
        have HD10 := Lib.hid hd10
        have HG10 := Lib.hid hg10
        have hsw9 : sw.size ≤ 9223372036854775807 := by unfold wrd at hsw; omega
        clear hd10 hg10 hsw
        obtain ⟨WB, eWB⟩ : ∃ WB, WB = w10.heap.size := ⟨_, rfl⟩
        obtain ⟨w11, ew11⟩ : ∃ w11 : World, w11 = w10.alloc (.cells #[.string key, .string sw] 9) := ⟨_, rfl⟩
        have HWw11 : Hid (w10.alloc (.cells #[.string key, .string sw] 9) = w11) := ew11.symm
        have HAw11 : Hid (Below w10.heap.size w10 w11) := (show Hid _ from by rw [ew11]; exact (Below.refl _ w10).alloc (Nat.le_refl _) _)
        have HWB0w11 : Hid (w11.heap[WB]? = some (.cells #[.string key, .string sw] 9 (0, 0))) := (show Hid _ from by show _ = _; rw [ew11, eWB]; exact heap_alloc_new w10 _)
        have HWB := Lib.hid eWB
        have HD11 := Lib.hid (HD10.out.below HAw11.out)
        have HG11 : Hid (wd.grownBy w11 (some g)) := (show Hid _ from grownBy_own HG10.out (grownBy_of_below HAw11.out none) (fun k hk => by simp at hk))
        have hz11 := HG11.out.size
        have HWO : Hid (w11.ownsRow w10.heap.size 9 1 (.slice (some ⟨WB, 0, none⟩) 2 2) 2 ([key, sw].flatMap scs)) := (show Hid _ from ⟨rfl, .inr ⟨WB, 2, _, rfl, Nat.le_of_eq eWB.symm, HWB0w11.out, Nat.le_refl _, by unfold maxLen; omega, rfl, rfl⟩⟩)
        have HL11 : Hid (SVo ecs 2 w2.heap.size w11 (.slice Ao ow.length co) ow) := (show Hid _ from HL4.out.grown HG11.out (by omega))
        go_upto_if 120 with fail
        rw [HWw11.out, ← HWB.out]
        clear eWB ew11
        go_cut [19] from 118 to 131 (fun v19 wx => ∃ ws : List ByteArray, SVo scs 1 w2.heap.size wx v19 ws ∧ ws.length ≤ 3 ∧ (∀ k ∈ ws, k.size ≤ 9223372036854775807) ∧ wd.grownBy wx (some g) ∧ Dk wx g)
        case first =>
-- {B
          by_cases h0 : ow.length = 0
          · have q0 : decide (0 < (ow.length : Int)) = false := decide_eq_false (by omega)
            have q0n : decide (0 < ow.length) = false := decide_eq_false (by omega)
            go_wp2_with fail
            go_meet
            case rel => exact ⟨[key, sw], (SVo.of_own HWO.out (fun x _ => scs_len x)).lower (by omega), by simp, by simp [hks, hsw9], HG11.out, HD11.out⟩
          · have q0 : decide (0 < (ow.length : Int)) = true := decide_eq_true (by omega)
            have q0n : decide (0 < ow.length) = true := decide_eq_true (by omega)
            go_wp2_with fail
            (with_reducible refine (next_any ow.length g w11 HD11.out (by unfold i64r; omega) (by omega)).mono ?_)
            rintro e w12 ⟨x12, rfl, _, hx12, hd12, hg12⟩
            have hx12 := hx12 (by omega)
            obtain ⟨j, rfl⟩ : ∃ j : Nat, x12 = j := ⟨x12.toNat, by omega⟩
            have hj : j < ow.length := by omega
            have hz12 := hg12.size
            have HD12 := Lib.hid hd12
            have HG12 := Lib.hid hg12
            have HL12 := Lib.hid (HL11.out.grown hg12 (by omega))
            have HWO12 := Lib.hid (own_far HWO.out hg12 (by omega))
            obtain ⟨A', c', e', hc1, hc2, hc3⟩ := HL12.out
            injection e' with e1 _ e3
            subst e1 e3
            obtain ⟨bo, oo, rfl, hbo1, hbo2, hbo3⟩ := hc3 (by omega)
            have c0 := hbo3 j hj 0 (by omega)
            simp [ecs] at c0
            obtain ⟨kj, ekj⟩ : ∃ kj, kj = ow[j].1 := ⟨_, rfl⟩
            rw [← ekj] at c0
            have hkj : kj.size ≤ 9223372036854775807 := by rw [ekj]; exact HOW.out _ (List.getElem_mem hj)
            have j0 : (0 : Int) ≤ (j : Int) := by omega
            have j1 : (j : Int) < (ow.length : Int) := by omega
            clear hx12 hd12 hg12 hc3 hbo3 ekj
            go_wp2_with (at_builtin; refine wpList_append_el scs _ rfl _ _ 39 rfl w10.heap.size 9 _ 1 16 Try.underlying39 sinfo rfl (by omega) (by omega) _ [key, sw] (by rfl) (by exact HWO12.out) kj rfl (scs_one _) (by rfl) ?c1 ?c2 ?_)
            case c1 => simp
            case c2 => have := HAw11.out.size; omega
            intro v13 w13 hown13 hg13
            have HG13 : Hid (wd.grownBy w13 (some g)) := (show Hid _ from grownBy_own (grownBy_alloc' (grownBy_trans HG11.out HG12.out) _) hg13 (fun k hk => by have := (HWO12.out.lt k hk).1; omega))
            have HD13 : Hid (Dk w13 g) := (show Hid _ from (HD12.out.alloc _).grown hg13 (fun k hk => by have := (HWO12.out.lt k hk).1; omega))
            have HO13 := Lib.hid hown13
            clear hown13 hg13
            go_wp2_with fail
            go_meet
            case rel => exact ⟨[key, sw] ++ [kj], (SVo.of_own HO13.out (fun x _ => scs_len x)).lower (by omega), by simp, by simp [hks, hsw9, hkj], HG13.out, HD13.out⟩
-- B}
        case rest =>
          obtain ⟨ws, hws, hwl, hwk, hgx, hdx⟩ := hcut
          obtain ⟨Aw, cw, rfl⟩ := hws.form
          have hzx := hgx.size
          obtain ⟨r0, r1, r2, r3⟩ : wc.cell? ⟨R, 0, none⟩ = some (.int .i64 B0) ∧ wc.cell? ⟨R, 1, none⟩ = some (.slice Ap0 p0.length cp0) ∧ wc.cell? ⟨R, 2, none⟩ = some (.int .i64 s0) ∧ wc.cell? ⟨R, 3, none⟩ = some (.slice Ab0 b0.length cb0) := by
            have h := (hgx.block R (by omega) (by simp; omega)).trans HRcR.out
            exact ⟨cell_of_row wc R 0 _ _ _ h, cell_of_row wc R 1 _ _ _ h, cell_of_row wc R 2 _ _ _ h, cell_of_row wc R 3 _ _ _ h⟩
          obtain ⟨d0, d1, d2, d3⟩ : wc.cell? ⟨D, 0, none⟩ = some (.int .i64 B1) ∧ wc.cell? ⟨D, 1, none⟩ = some (.slice A1 p1.length c1) ∧ wc.cell? ⟨D, 2, none⟩ = some (.int .i64 sl) ∧ wc.cell? ⟨D, 3, none⟩ = some (.slice A2 b1.length c2) := by
            have h := (hgx.block D (by omega) (by simp; omega)).trans HDcD.out
            exact ⟨cell_of_row wc D 0 _ _ _ h, cell_of_row wc D 1 _ _ _ h, cell_of_row wc D 2 _ _ _ h, cell_of_row wc D 3 _ _ _ h⟩
          obtain ⟨f0, f1, f2, f3⟩ : wc.cell? ⟨E, 0, none⟩ = some (.int .i64 B1) ∧ wc.cell? ⟨E, 1, none⟩ = some (.slice A1 p1.length c1) ∧ wc.cell? ⟨E, 2, none⟩ = some (.int .i64 sl) ∧ wc.cell? ⟨E, 3, none⟩ = some (.slice (some ⟨N, 0, none⟩) b1.length c6) := by
            have h := hgx.block E (by omega) (by simp; omega)
            exact ⟨(World.cell?_of_block h).trans HEcE.out.1, (World.cell?_of_block h).trans HEcE.out.2.1, (World.cell?_of_block h).trans HEcE.out.2.2.1, (World.cell?_of_block h).trans HEcE.out.2.2.2⟩
          have HPx := Lib.hid (HP4.out.grown hgx (by omega))
          have HLx := Lib.hid (HL4.out.grown hgx (by omega))
          have HXx := Lib.hid (HX4.out.grown hgx (by omega))
          have HNx := Lib.hid (HN4.out.grown hgx (by omega))
          have HWx := Lib.hid hws
          have HWK := Lib.hid hwk
          have HDx := Lib.hid hdx
          have HGx := Lib.hid hgx
          have HBx : Hid (Below w.heap.size w wc) := (show Hid _ from HBc.out.grown hgx HBc.out.size (fun k hk => by injection hk with hk; omega))
          clear hws hwk hdx hgx
          obtain ⟨Y, eY⟩ : ∃ Y, Y = wc.heap.size := ⟨_, rfl⟩
          obtain ⟨w14, ew14⟩ : ∃ w14 : World, w14 = wc.alloc (.cells #[.int .i64 B0, .slice Ap0 p0.length cp0, .int .i64 s0, .slice Ab0 b0.length cb0, .int .i64 B1, .slice A1 p1.length c1, .int .i64 sl, .slice A2 b1.length c2, .int .i64 B1, .slice A1 p1.length c1, .int .i64 sl, .slice (some ⟨N, 0, none⟩) b1.length c6] 28) := ⟨_, rfl⟩
          have HWw14 : Hid (wc.alloc (.cells #[.int .i64 B0, .slice Ap0 p0.length cp0, .int .i64 s0, .slice Ab0 b0.length cb0, .int .i64 B1, .slice A1 p1.length c1, .int .i64 sl, .slice A2 b1.length c2, .int .i64 B1, .slice A1 p1.length c1, .int .i64 sl, .slice (some ⟨N, 0, none⟩) b1.length c6] 28) = w14) := ew14.symm
          have HAw14 : Hid (Below wc.heap.size wc w14) := (show Hid _ from by rw [ew14]; exact (Below.refl _ wc).alloc (Nat.le_refl _) _)
          have HY0w14 : Hid (w14.heap[Y]? = some (.cells #[.int .i64 B0, .slice Ap0 p0.length cp0, .int .i64 s0, .slice Ab0 b0.length cb0, .int .i64 B1, .slice A1 p1.length c1, .int .i64 sl, .slice A2 b1.length c2, .int .i64 B1, .slice A1 p1.length c1, .int .i64 sl, .slice (some ⟨N, 0, none⟩) b1.length c6] 28 (0, 0))) := (show Hid _ from by show _ = _; rw [ew14, eY]; exact heap_alloc_new wc _)
          have HYw := Lib.hid eY
          have hzY := HAw14.out.size
          have hYl : Y < w14.heap.size := heap_of_cells HY0w14.out
          have hgY : g < Y := by have := HDx.out.lt; omega
          go_upto_region 21 with fail
          rw [HWw14.out, ← HYw.out]
          clear eY ew14 r0 r1 r2 r3 d0 d1 d2 d3 f0 f1 f2 f3
          have hz14 := HAw14.out.size
          have hlx : w2.heap.size ≤ wc.heap.size := by omega
          have HBL : Hid (∀ W, w14.grownBy W (some g) → Below w.heap.size w W) := (show Hid _ from fun W hW => (HBx.out.trans (HAw14.out.mono HBx.out.size)).grown hW (by have := HBx.out.size; omega) (fun k hk => by injection hk with hk; omega))
          have HWS : Hid (∀ W, w14.grownBy W (some g) → SVo scs 1 w2.heap.size W (.slice Aw ws.length cw) ws) := (show Hid _ from fun W hW => (HWx.out.below HAw14.out).grown hW (by omega))
          have HES : Hid (∀ W, w14.grownBy W (some g) → SV ecs 2 W.heap.size W (.slice Ae es.length ce) es) := (show Hid _ from fun W hW => HE.out.on (HBL.out W hW))
          have HOS : Hid (∀ W, w14.grownBy W (some g) → SV ecs 2 W.heap.size W (.slice Ao ow.length co) ow) := (show Hid _ from fun W hW => ((HLx.out.below HAw14.out).grown hW (by omega)).sv)
          have HYS : Hid (∀ k, k < 3 → ∃ (B : Int) (ps : List (Int × Int)) (sv : Int) (bs : List (List (ByteArray × Int))) (Ap Ab : Option Addr) (cp cb : Nat), (∀ W, w14.grownBy W (some g) → W.cell? ⟨Y, k * 4, none⟩ = some (.int .i64 B) ∧ W.cell? ⟨Y, k * 4 + 1, none⟩ = some (.slice Ap ps.length cp) ∧ W.cell? ⟨Y, k * 4 + 2, none⟩ = some (.int .i64 sv) ∧ W.cell? ⟨Y, k * 4 + 3, none⟩ = some (.slice Ab bs.length cb)) ∧ (∀ W, w14.grownBy W (some g) → SG pcs 2 W.heap.size W (.slice Ap ps.length cp) ps ∧ SLe W.heap.size W (.slice Ab bs.length cb) bs) ∧ (∀ l ∈ bs, ∀ e ∈ l, e.1.size ≤ 9223372036854775807)) := (show Hid _ from by
            have hrow : ∀ W, w14.grownBy W (some g) → W.heap[Y]? = _ := fun W hW => (hW.block Y hYl (by simp; omega)).trans HY0w14.out
            have hP := fun (W : World) (hW : w14.grownBy W (some g)) => ((HPx.out.below HAw14.out).grown hW (by omega)).sg hHV
            intro k hk
            obtain rfl | rfl | rfl : k = 0 ∨ k = 1 ∨ k = 2 := by omega
            · exact ⟨B0, p0, s0, b0, Ap0, Ab0, cp0, cb0, fun W hW => ⟨cell_of_row W Y 0 _ _ _ (hrow W hW), cell_of_row W Y 1 _ _ _ (hrow W hW), cell_of_row W Y 2 _ _ _ (hrow W hW), cell_of_row W Y 3 _ _ _ (hrow W hW)⟩, fun W hW => ⟨(HP0.out.below (HBL.out W hW)).more (HBL.out W hW).size, HSB0.out.onB (HBL.out W hW)⟩, HBK0.out⟩
            · exact ⟨B1, p1, sl, b1, A1, A2, c1, c2, fun W hW => ⟨cell_of_row W Y 4 _ _ _ (hrow W hW), cell_of_row W Y 5 _ _ _ (hrow W hW), cell_of_row W Y 6 _ _ _ (hrow W hW), cell_of_row W Y 7 _ _ _ (hrow W hW)⟩, fun W hW => ⟨hP W hW, ((HXx.out.below HAw14.out).grown hW (by omega)).sleB⟩, HKB1.out⟩
            · exact ⟨B1, p1, sl, b2, A1, some ⟨N, 0, none⟩, c1, c6, fun W hW => ⟨cell_of_row W Y 8 _ _ _ (hrow W hW), cell_of_row W Y 9 _ _ _ (hrow W hW), cell_of_row W Y 10 _ _ _ (hrow W hW), by rw [hb2]; exact cell_of_row W Y 11 _ _ _ (hrow W hW)⟩, fun W hW => ⟨hP W hW, by rw [hb2]; exact ((HNx.out.below HAw14.out).grown hW (by omega)).sleB⟩, HKB2.out⟩)
          have HDY := Lib.hid (HDx.out.below HAw14.out)
          go_wp2_with fail
          go_loopw [137] (fun iv wr => ∃ k : Nat, k ≤ 3 ∧ iv = .int .i64 k ∧ w14.grownBy wr (some g) ∧ Dk wr g) (fun iv _ => 3 - (intOf iv).toNat)
          case atStart => exact ⟨0, Nat.zero_le _, rfl, grownBy_refl _ _, HDY.out⟩
          case round =>
            obtain ⟨ky, hky, rfl, hgr, hdr⟩ := hrel
            have HGR := Lib.hid hgr
            have HDR := Lib.hid hdr
            have hzr := hgr.size
            clear hgr hdr
            by_cases hkt : ky < 3
            · obtain ⟨B, ps, sv, bs, Ap, Ab, cp, cb, hcl, hsg, hkb⟩ := HYS.out ky hkt
              obtain ⟨q0, q1, q2, q3⟩ := hcl wr HGR.out
              have HSGs := Lib.hid hsg
              have HKBs := Lib.hid hkb
              have z0 : 0 ≤ (ky : Int) := by omega
              have z1 : (ky : Int) < 3 := by omega
              have wk : IntKind.i64.wrap ((ky : Int) + 1) = (ky : Int) + 1 := by exact IntWalk.i64_in _ (by omega)
              clear hcl hsg hkb
              obtain ⟨wk0, rfl⟩ : ∃ wk0 : World, wk0 = wr := ⟨_, rfl⟩
              obtain ⟨L, eL⟩ : ∃ L, L = wk0.heap.size := ⟨_, rfl⟩
              obtain ⟨w15, ew15⟩ : ∃ w15 : World, w15 = wk0.alloc (.cells #[.int .i64 B, .slice Ap ps.length cp, .int .i64 sv, .slice Ab bs.length cb] 28) := ⟨_, rfl⟩
              have HWw15 : Hid (wk0.alloc (.cells #[.int .i64 B, .slice Ap ps.length cp, .int .i64 sv, .slice Ab bs.length cb] 28) = w15) := ew15.symm
              have HAw15 : Hid (Below wk0.heap.size wk0 w15) := (show Hid _ from by rw [ew15]; exact (Below.refl _ wk0).alloc (Nat.le_refl _) _)
              have HL0w15 : Hid (w15.heap[L]? = some (.cells #[.int .i64 B, .slice Ap ps.length cp, .int .i64 sv, .slice Ab bs.length cb] 28 (0, 0))) := (show Hid _ from by show _ = _; rw [ew15, eL]; exact heap_alloc_new wk0 _)
              have HLw := Lib.hid eL
              go_upto_region 23 with fail
              rw [HWw15.out, ← HLw.out]
              clear eL ew15 q0 q1 q2 q3
              have hz15 := HAw15.out.size
              have hgL : g < L := by have := HDR.out.lt; rw [HLw.out]; exact this
              have HG15 : Hid (w14.grownBy w15 (some g)) := (show Hid _ from grownBy_trans HGR.out (grownBy_of_below HAw15.out _))
              have HD15 := Lib.hid (HDR.out.below HAw15.out)
              have hLl : L < w15.heap.size := heap_of_cells HL0w15.out
              have HLC : Hid (∀ W, w15.grownBy W (some g) → W.cell? ⟨L, 0, none⟩ = some (.int .i64 B) ∧ W.cell? ⟨L, 1, none⟩ = some (.slice Ap ps.length cp) ∧ W.cell? ⟨L, 2, none⟩ = some (.int .i64 sv) ∧ W.cell? ⟨L, 3, none⟩ = some (.slice Ab bs.length cb)) := (show Hid _ from fun W hW => by
                have h := (hW.block L hLl (by simp; omega)).trans HL0w15.out
                exact ⟨cell_of_row W L 0 _ _ _ h, cell_of_row W L 1 _ _ _ h, cell_of_row W L 2 _ _ _ h, cell_of_row W L 3 _ _ _ h⟩)
              have HSG15 : Hid (∀ W, w15.grownBy W (some g) → SG pcs 2 W.heap.size W (.slice Ap ps.length cp) ps ∧ SLe W.heap.size W (.slice Ab bs.length cb) bs) := (show Hid _ from fun W hW => HSGs.out W (grownBy_trans HG15.out hW))
              obtain ⟨ck, hck⟩ : ∃ ck : Int, ∀ (W : World) (e : Ending) (w' : World), ChA B ps sv bs W e w' → e = .returned (.int .i64 ck) ∧ Below W.heap.size W w' := by
                by_cases h : VD B ps sv bs
                · exact ⟨0, fun W e w' ⟨r, he, hr, hb⟩ => by rw [hr.2 h] at he; exact ⟨he, hb⟩⟩
                · refine ⟨2, fun W e w' ⟨r, he, hr, hb⟩ => ?_⟩
                  cases r
                  · exact ⟨he, hb⟩
                  · exact absurd (hr.1 rfl) h
              have HC1 : Hid (∀ p : BW w15, Calls Try.prog 16 #[.agg #[.int .i64 B, .slice Ap ps.length cp, .int .i64 sv, .slice Ab bs.length cb]] p.on fun e w' => e = .returned (.int .i64 ck) ∧ Below p.on.heap.size p.on w') := (show Hid _ from fun p => by
                obtain ⟨h1, h2⟩ := HSG15.out p.on (grownBy_of_below p.ok _)
                exact (kcheck_all B ps sv bs _ _ p.on h1 h2 HKBs.out).mono fun e w' h => hck _ e w' h)
              have HC2 : Hid (∀ p : BW w15, Calls Try.prog 17 #[.agg #[.int .i64 B, .slice Ap ps.length cp, .int .i64 sv, .slice Ab bs.length cb]] p.on fun e w' => e = .returned (.int .i64 ck) ∧ Below p.on.heap.size p.on w') := (show Hid _ from fun p => by
                obtain ⟨h1, h2⟩ := HSG15.out p.on (grownBy_of_below p.ok _)
                exact (rcheck_all B ps sv bs _ _ p.on h1 h2 HKBs.out).mono fun e w' h => hck _ e w' h)
              have a0 : ∀ p : BW w15, p.on.cell? ⟨L, 0, none⟩ = some (.int .i64 B) := fun p => (HLC.out p.on (grownBy_of_below p.ok _)).1
              have a1 : ∀ p : BW w15, p.on.cell? ⟨L, 1, none⟩ = some (.slice Ap ps.length cp) := fun p => (HLC.out p.on (grownBy_of_below p.ok _)).2.1
              have a2 : ∀ p : BW w15, p.on.cell? ⟨L, 2, none⟩ = some (.int .i64 sv) := fun p => (HLC.out p.on (grownBy_of_below p.ok _)).2.2.1
              have a3 : ∀ p : BW w15, p.on.cell? ⟨L, 3, none⟩ = some (.slice Ab bs.length cb) := fun p => (HLC.out p.on (grownBy_of_below p.ok _)).2.2.2
              clear hck
              refine wp_region_bw (by kernel_rfl) (by kernel_rfl) ?_
              repeat (go_big_quiet_step (first | (go_at_call 16; exact Calls.bw_of (HC1.out _)) | (go_at_call 17; exact Calls.bw_of (HC2.out _))))
              refine wpQuiet_nil ?_
              intro _ hw'
              obtain ⟨pq, rfl⟩ := hw'
              obtain ⟨w16, HBw16, hpq⟩ : ∃ (x : World) (_ : Hid (Below w15.heap.size w15 x)), pq.on = x := ⟨_, pq.h, rfl⟩
              rw [hpq]
              clear hpq pq
              clear a0 a1 a2 a3 HC1 HC2
              have HG16 : Hid (w15.grownBy w16 (some g)) := (show Hid _ from grownBy_of_below HBw16.out _)
              have HD16 := Lib.hid (HD15.out.below HBw16.out)
              have hz16 := HBw16.out.size
              go_wp2_with fail
              go_loopw [148] (fun iv wr => ∃ j : Nat, j ≤ ws.length ∧ iv = .int .i64 j ∧ Below w16.heap.size w16 wr) (fun iv _ => ws.length - (intOf iv).toNat)
              case atStart => exact ⟨0, Nat.zero_le _, rfl, Below.refl _ _⟩
              case round =>
                obtain ⟨j, hj, rfl, hb⟩ := hrel
                have HBr := Lib.hid hb
                clear hb
                by_cases hjt : j < ws.length
                ·
                  -- {C
                  have HGr : Hid (w15.grownBy wr (some g)) := (show Hid _ from grownBy_trans HG16.out (grownBy_of_below HBr.out _))
                  obtain ⟨A', c', e', hc1, hc2, hc3⟩ := HWS.out wr (grownBy_trans HG15.out HGr.out)
                  injection e' with e1 _ e3
                  subst e1 e3
                  obtain ⟨bw, ofw, rfl, hbw1, hbw2, hbw3⟩ := hc3 (by omega)
                  have c0 := hbw3 j hjt 0 (by omega)
                  simp [scs] at c0
                  obtain ⟨kw, ekw⟩ : ∃ kw, kw = ws[j] := ⟨_, rfl⟩
                  rw [← ekw] at c0
                  have hkw : kw.size ≤ 9223372036854775807 := by rw [ekw]; exact HWK.out _ (List.getElem_mem hjt)
                  have j0 : (0 : Int) ≤ (j : Int) := by omega
                  have j1 : (j : Int) < (ws.length : Int) := by omega
                  have hwl9 : (ws.length : Int) ≤ 3 := by omega
                  have wj : IntKind.i64.wrap ((j : Int) + 1) = (j : Int) + 1 := by exact IntWalk.i64_in _ (by omega)
                  obtain ⟨fa, fb, fc, hfi⟩ := fiA_at B ps sv bs kw
                  obtain ⟨pa, pb, pc, hpk⟩ := pick_at kw bs
                  have HFI := Lib.hid hfi
                  have HPK := Lib.hid hpk
                  have HCLS : Hid (∀ W, Below wr.heap.size wr W → Below w16.heap.size w16 W ∧ (SG pcs 2 W.heap.size W (.slice Ap ps.length cp) ps ∧ SLe W.heap.size W (.slice Ab bs.length cb) bs) ∧ (W.cell? ⟨L, 0, none⟩ = some (.int .i64 B) ∧ W.cell? ⟨L, 1, none⟩ = some (.slice Ap ps.length cp) ∧ W.cell? ⟨L, 2, none⟩ = some (.int .i64 sv) ∧ W.cell? ⟨L, 3, none⟩ = some (.slice Ab bs.length cb))) := (show Hid _ from fun W hW => by
                    have h1 : w15.grownBy W (some g) := grownBy_trans HGr.out (grownBy_of_below hW _)
                    exact ⟨HBr.out.trans (hW.mono HBr.out.size), HSG15.out W h1, HLC.out W h1⟩)
                  obtain ⟨_, ⟨g0, g1⟩, m0, m1, m2', m3⟩ := HCLS.out wr (Below.refl _ _)
                  clear hc3 hbw3 ekw hfi hpk
                  go_wp2_with fail
                  (with_reducible refine (kfind_all B ps sv bs _ _ kw wr g0 g1 HKBs.out hkw).mono ?_)
                  rintro e w17 hf
                  obtain ⟨rfl, hb17⟩ := HFI.out _ _ _ hf
                  have HB17 := Lib.hid hb17
                  clear hf hb17 g0 g1 m0 m1 m2' m3
                  obtain ⟨_, ⟨g0, g1⟩, m0, m1, m2', m3⟩ := HCLS.out w17 HB17.out
                  go_wp2_with fail
                  (with_reducible refine (rfind_all B ps sv bs _ _ kw w17 g0 g1 HKBs.out hkw).mono ?_)
                  rintro e w18 hf
                  obtain ⟨rfl, hb18⟩ := HFI.out _ _ _ hf
                  have HB18 : Hid (Below wr.heap.size wr w18) := (show Hid _ from HB17.out.trans (hb18.mono HB17.out.size))
                  clear hf hb18 g0 g1 m0 m1 m2' m3
                  obtain ⟨_, ⟨g0, g1⟩, m0, m1, m2', m3⟩ := HCLS.out w18 HB18.out
                  go_wp2_with fail
                  (with_reducible refine (pick_any kw bs _ w18 hkw g1).mono ?_)
                  rintro e w19 ⟨rfl, hb19⟩
                  rw [HPK.out]
                  have HB19 : Hid (Below wr.heap.size wr w19) := (show Hid _ from HB18.out.trans (hb19.mono HB18.out.size))
                  clear hb19 g0 g1 m0 m1 m2' m3
                  obtain ⟨_, ⟨g0, g1⟩, m0, m1, m2', m3⟩ := HCLS.out w19 HB19.out
                  go_wp2_with fail
                  (with_reducible refine (rpick_any kw bs _ w19 hkw g1).mono ?_)
                  rintro e w20 ⟨rfl, hb20⟩
                  rw [HPK.out]
                  have HB20 : Hid (Below wr.heap.size wr w20) := (show Hid _ from HB19.out.trans (hb20.mono HB19.out.size))
                  clear hb20 g0 g1 m0 m1 m2' m3
                  obtain ⟨_, ⟨g0, g1⟩, m0, m1, m2', m3⟩ := HCLS.out w20 HB20.out
                  go_wp2_with fail
                  (with_reducible refine (khomes_all B ps kw _ w20 hkw g0).mono ?_)
                  rintro e w21 ⟨v1, l1, cd1, rfl, hs1, hb21, hcd1, hl1⟩
                  have HB21 : Hid (Below wr.heap.size wr w21) := (show Hid _ from HB20.out.trans (hb21.mono HB20.out.size))
                  have HS1 := Lib.hid hs1
                  have HC1 := Lib.hid hcd1
                  have HL1 := Lib.hid hl1
                  clear hb21 g0 g1 m0 m1 m2' m3 hs1 hcd1 hl1
                  obtain ⟨_, ⟨g0, g1⟩, m0, m1, m2', m3⟩ := HCLS.out w21 HB21.out
                  go_wp2_with fail
                  (with_reducible refine (rhomes_all B ps kw _ w21 hkw g0).mono ?_)
                  rintro e w22 ⟨v2, l2, cd2, rfl, hs2, hb22, hcd2, hl2⟩
                  obtain rfl : cd2 = cd1 := by rw [hcd2, HC1.out]
                  obtain rfl : l2 = l1 := by rw [hl2, HL1.out]
                  have HB22 : Hid (Below wr.heap.size wr w22) := (show Hid _ from HB21.out.trans (hb22.mono HB21.out.size))
                  have HS1' := Lib.hid (HS1.out.onB hb22)
                  have HS2 := Lib.hid hs2
                  have hll := hoA_len hl2
                  clear hb22 g0 g1 m0 m1 m2' m3 hs2 hcd2 hl2
                  go_wp2_with fail
                  (with_reducible refine (same_any l2 l2 _ _ w22 HS1'.out HS2.out hll hll).mono ?_)
                  rintro e w23 ⟨rfl, hb23⟩
                  have dt : decide (l2 = l2) = true := decide_eq_true rfl
                  rw [dt]
                  have HB23 : Hid (Below wr.heap.size wr w23) := (show Hid _ from HB22.out.trans (hb23.mono HB22.out.size))
                  clear hb23 dt hll
                  go_wp2_with fail
                  go_roundw
                  case rel => exact ⟨j + 1, hjt, by go_num, HBr.out.trans (HB23.out.mono HBr.out.size)⟩
                  case measure => simp [intOf]; omega
                  -- C}
                · have hje : j = ws.length := by omega
                  clear hje
                  go_wp2_with fail
                  (with_reducible refine (mod_any n0 3 wr (by omega) (by omega)).mono ?_)
                  rintro e w24' ⟨rfl, hw24⟩
                  subst hw24
                  have HG24 : Hid (w15.grownBy wr (some g)) := (show Hid _ from grownBy_trans HG16.out (grownBy_of_below HBr.out _))
                  have HD24 := Lib.hid (HD16.out.below HBr.out)
                  have wn3 : IntKind.i64.wrap (1 + n0 % 3) = 1 + n0 % 3 := by exact IntWalk.i64_in _ (by omega)
                  obtain ⟨wk1, rfl⟩ : ∃ wk1 : World, wk1 = wr := ⟨_, rfl⟩
                  obtain ⟨SB, eSB⟩ : ∃ SB, SB = wk1.heap.size := ⟨_, rfl⟩
                  obtain ⟨w25, ew25⟩ : ∃ w25 : World, w25 = wk1.alloc (.cells #[.int .i64 n0, .int .i64 (1 + n0 % 3)] 3) := ⟨_, rfl⟩
                  have HWw25 : Hid (wk1.alloc (.cells #[.int .i64 n0, .int .i64 (1 + n0 % 3)] 3) = w25) := ew25.symm
                  have HAw25 : Hid (Below wk1.heap.size wk1 w25) := (show Hid _ from by rw [ew25]; exact (Below.refl _ wk1).alloc (Nat.le_refl _) _)
                  have HSB0w25 : Hid (w25.heap[SB]? = some (.cells #[.int .i64 n0, .int .i64 (1 + n0 % 3)] 3 (0, 0))) := (show Hid _ from by show _ = _; rw [ew25, eSB]; exact heap_alloc_new wk1 _)
                  have HSBw := Lib.hid eSB
                  have HG25 : Hid (w15.grownBy w25 (some g)) := (show Hid _ from grownBy_trans HG24.out (grownBy_of_below HAw25.out _))
                  have HD25 := Lib.hid (HD24.out.below HAw25.out)
                  have hSBl : SB < w25.heap.size := heap_of_cells HSB0w25.out
                  have hgS : g < SB := by have := HD24.out.lt; rw [HSBw.out]; exact this
                  have HSC : Hid (∀ W, w25.grownBy W (some g) → W.cell? ⟨SB, 0, none⟩ = some (.int .i64 n0) ∧ W.cell? ⟨SB, 1, none⟩ = some (.int .i64 (1 + n0 % 3))) := (show Hid _ from fun W hW => by
                    have h := (hW.block SB hSBl (by simp; omega)).trans HSB0w25.out
                    exact ⟨cell_of_row W SB 0 _ _ _ h, cell_of_row W SB 1 _ _ _ h⟩)
                  go_upto_region 38 with fail
                  rw [HWw25.out, ← HSBw.out]
                  clear eSB ew25 wn3
                  go_wp2_with fail
                  go_loopw [242] (fun iv wr => ∃ m : Nat, m ≤ 2 ∧ iv = .int .i64 m ∧ w25.grownBy wr (some g) ∧ Dk wr g) (fun iv _ => 2 - (intOf iv).toNat)
                  case atStart => exact ⟨0, by omega, rfl, grownBy_refl _ _, HD25.out⟩
                  case round =>
                    obtain ⟨m, hm, rfl, hgm, hdm⟩ := hrel
                    have HGM := Lib.hid hgm
                    have HDM := Lib.hid hdm
                    clear hgm hdm
                    by_cases hmt : m < 2
                    · obtain ⟨sn, s1⟩ : ∃ sn, wr.cell? ⟨SB, m, none⟩ = some (.int .i64 sn) := by
                        obtain ⟨h0, h1⟩ := HSC.out wr HGM.out
                        obtain rfl | rfl : m = 0 ∨ m = 1 := by omega
                        · exact ⟨_, h0⟩
                        · exact ⟨_, h1⟩
                      have m0 : (0 : Int) ≤ (m : Int) := by omega
                      have m1 : (m : Int) < 2 := by omega
                      have wm : IntKind.i64.wrap ((m : Int) + 1) = (m : Int) + 1 := by exact IntWalk.i64_in _ (by omega)
                      have HGM15 : Hid (w15.grownBy wr (some g)) := (show Hid _ from grownBy_trans HG25.out HGM.out)
                      have HGM14 : Hid (w14.grownBy wr (some g)) := (show Hid _ from grownBy_trans HG15.out HGM15.out)
                      have hcl : ow.length ≤ co ∧ co ≤ 9223372036854775807 := by obtain ⟨A', c', e', h1, h2, _⟩ := HOS.out wr HGM14.out; injection e' with _ _ e3; subst e3; exact ⟨h1, h2⟩
                      have u0 : (0 : Int) ≤ (ow.length : Int) := by omega
                      have u1 : (ow.length : Int) ≤ (co : Int) := by omega
                      have HTK : Hid (∀ W, w14.grownBy W (some g) → SV ecs 2 W.heap.size W (.slice Ao ow.length ow.length) ow) := (show Hid _ from fun W hW => by
                        have h := (HOS.out W hW).take (Nat.le_refl _)
                        rwa [List.take_length] at h)
                      go_upto_region 40 with fail
                      go_region_held3 (fun w' => True) (first | exact trivial)
                        (first
                          | (go_at_call 14; refine (entries_any 3 g _ (by first | exact HDM.out | exact HDM.out.below (Below.refl _ _).drew) (by omega) (by omega)).mono ?_; rintro e26 w26 ⟨m3, v26, rfl, hen26, hl26, ho26, hd26, hg26⟩; have HG26 : Hid (wr.grownBy w26 (some g)) := (show Hid _ from ⟨hg26.os, hg26.tape, hg26.output, hg26.size, hg26.block⟩); have HD26 := Lib.hid hd26; have HE26 := Lib.hid hen26; have HM26 := Lib.hid (SV.of_own ho26 (fun x _ => ecs_len x)); have hl26 : m3.length ≤ 3 := (by omega); clear hd26 hen26 ho26 hg26)
                          | (refine step_append_cutE ecs _ (by rfl) (.tmp 253) (.tmp 255) 29 (by rfl) 41 _ 24 Try.underlying29 einfo (by omega) (by omega) ecs_len ecs_one Ao ow.length v26 ow m3 (by rfl) (by rfl) rfl (by exact HTK.out w26 (grownBy_trans HGM14.out HG26.out)) (by exact HM26.out) (by omega) ?_; intro A27 c27 w27 hb27 hs27; have HB27 : Hid (Below w26.heap.size w26 w27) := (show Hid _ from ⟨hb27.os, hb27.tape, hb27.output, hb27.size, hb27.block⟩); have HS27 := Lib.hid hs27; clear hb27 hs27)
                          | fail)
                      obtain ⟨w28, ew28⟩ : ∃ w28 : World, w28 = w27.alloc (.cells #[.slice Ae es.length ce, .slice Ao ow.length co, .slice A27 (ow.length + m3.length) c27] 29) := ⟨_, rfl⟩
                      obtain ⟨LB, eLB⟩ : ∃ LB, LB = w27.heap.size := ⟨_, rfl⟩
                      have HLB0 : Hid (w28.heap[LB]? = some (.cells #[.slice Ae es.length ce, .slice Ao ow.length co, .slice A27 (ow.length + m3.length) c27] 29 (0, 0))) := (show Hid _ from by rw [ew28, eLB]; exact heap_alloc_new w27 _)
                      have HB78 : Hid (Below w27.heap.size w27 w28) := (show Hid _ from by rw [ew28]; exact (Below.refl _ _).alloc (Nat.le_refl _) _)
                      rw [← ew28, ← eLB]
                      clear ew28 eLB s1 m0 m1 u0 u1 hcl
                      have HG28 : Hid (wr.grownBy w28 (some g)) := (show Hid _ from grownBy_trans (grownBy_trans HG26.out (grownBy_of_below HB27.out _)) (grownBy_of_below HB78.out _))
                      have HD28 : Hid (Dk w28 g) := (show Hid _ from (HD26.out.below HB27.out).below HB78.out)
                      have HK28 : Hid (∀ W, Below w28.heap.size w28 W → w15.grownBy W (some g)) := (show Hid _ from fun W hW => grownBy_trans (grownBy_trans HGM15.out HG28.out) (grownBy_of_below hW _))
                      have hLBl : LB < w28.heap.size := heap_of_cells HLB0.out
                      have HLS : Hid (∀ q, q < 3 → ∃ (mm : List (ByteArray × Int)) (Am : Option Addr) (cm : Nat), (∀ W, Below w28.heap.size w28 W → W.cell? ⟨LB, q, none⟩ = some (.slice Am mm.length cm)) ∧ (∀ W, Below w28.heap.size w28 W → SV ecs 2 W.heap.size W (.slice Am mm.length cm) mm) ∧ (∀ e ∈ mm, e.1.size ≤ 9223372036854775807) ∧ mm.length ≤ 256) := (show Hid _ from by
                        have hrow : ∀ W, Below w28.heap.size w28 W → W.heap[LB]? = _ := fun W hW => (hW.block LB hLBl).trans HLB0.out
                        intro q hq
                        obtain rfl | rfl | rfl : q = 0 ∨ q = 1 ∨ q = 2 := by omega
                        · exact ⟨es, Ae, ce, fun W hW => cell_of_row W LB 0 _ _ _ (hrow W hW), fun W hW => HES.out W (grownBy_trans HG15.out (HK28.out W hW)), HK.out, by omega⟩
                        · exact ⟨ow, Ao, co, fun W hW => cell_of_row W LB 1 _ _ _ (hrow W hW), fun W hW => HOS.out W (grownBy_trans HG15.out (HK28.out W hW)), HOW.out, by omega⟩
                        · refine ⟨ow ++ m3, A27, c27, fun W hW => by rw [List.length_append]; exact cell_of_row W LB 2 _ _ _ (hrow W hW), fun W hW => HS27.out.on (HB78.out.trans (hW.mono HB78.out.size)), fun e he => ?_, by rw [List.length_append]; omega⟩
                          rcases List.mem_append.1 he with h | h
                          · exact HOW.out e h
                          · exact HE26.out.size e h)
                      go_wp2_with fail
                      go_loopw [259] (fun iv wr => ∃ q : Nat, q ≤ 3 ∧ iv = .int .i64 q ∧ Below w28.heap.size w28 wr) (fun iv _ => 3 - (intOf iv).toNat)
                      case atStart => exact ⟨0, by omega, rfl, Below.refl _ _⟩
                      case round =>
                        obtain ⟨q, hq, rfl, hb⟩ := hrel
                        have HBq := Lib.hid hb
                        clear hb
                        by_cases hqt : q < 3
                        · obtain ⟨mm, Am, cm, hlc, hls, hlk, hlm⟩ := HLS.out q hqt
                          have t0 := hlc wr HBq.out
                          have HLSV := Lib.hid hls
                          have HLK := Lib.hid hlk
                          have q0 : (0 : Int) ≤ (q : Int) := by omega
                          have q1 : (q : Int) < 3 := by omega
                          have wq : IntKind.i64.wrap ((q : Int) + 1) = (q : Int) + 1 := by exact IntWalk.i64_in _ (by omega)
                          have HCLS : Hid (∀ W, Below wr.heap.size wr W → Below w28.heap.size w28 W ∧ (SG pcs 2 W.heap.size W (.slice Ap ps.length cp) ps ∧ SLe W.heap.size W (.slice Ab bs.length cb) bs) ∧ (W.cell? ⟨L, 0, none⟩ = some (.int .i64 B) ∧ W.cell? ⟨L, 1, none⟩ = some (.slice Ap ps.length cp) ∧ W.cell? ⟨L, 2, none⟩ = some (.int .i64 sv) ∧ W.cell? ⟨L, 3, none⟩ = some (.slice Ab bs.length cb))) := (show Hid _ from fun W hW => by
                            have h0 : Below w28.heap.size w28 W := HBq.out.trans (hW.mono HBq.out.size)
                            exact ⟨h0, HSG15.out W (HK28.out W h0), HLC.out W (HK28.out W h0)⟩)
                          obtain ⟨_, ⟨g0, _⟩, m0, m1, m2', m3'⟩ := HCLS.out wr (Below.refl _ _)
                          clear hlc hls hlk
                          go_wp2_with fail
                          (with_reducible refine (kbuild_all B ps sn mm _ _ wr HLK.out hlm g0 (HLSV.out wr HBq.out)).mono ?_)
                          rintro e w29 hbu
                          obtain ⟨B', A1', n1', c1', sl', A2', n2', c2', cd, rfl⟩ := buA_form hlm hbu
                          have HBU := Lib.hid hbu
                          have HB29 : Hid (Below wr.heap.size wr w29) := (show Hid _ from hbu.1)
                          clear hbu g0 m0 m1 m2' m3' t0
                          obtain ⟨V1, eV1⟩ : ∃ V1, V1 = w29.heap.size := ⟨_, rfl⟩
                          obtain ⟨w30, ew30⟩ : ∃ w30 : World, w30 = w29.alloc (.cells #[.int .i64 B', .slice A1' n1' c1', .int .i64 sl', .slice A2' n2' c2'] 28) := ⟨_, rfl⟩
                          have HWw30 : Hid (w29.alloc (.cells #[.int .i64 B', .slice A1' n1' c1', .int .i64 sl', .slice A2' n2' c2'] 28) = w30) := ew30.symm
                          have HAw30 : Hid (Below w29.heap.size w29 w30) := (show Hid _ from by rw [ew30]; exact (Below.refl _ w29).alloc (Nat.le_refl _) _)
                          have HV10w30 : Hid (w30.heap[V1]? = some (.cells #[.int .i64 B', .slice A1' n1' c1', .int .i64 sl', .slice A2' n2' c2'] 28 (0, 0))) := (show Hid _ from by show _ = _; rw [ew30, eV1]; exact heap_alloc_new w29 _)
                          have hV1 : V1 < w30.heap.size := heap_of_cells HV10w30.out
                          have HB30 : Hid (Below wr.heap.size wr w30) := (show Hid _ from HB29.out.trans (HAw30.out.mono HB29.out.size))
                          obtain ⟨hx30, ⟨g0, _⟩, m0, m1, m2', m3'⟩ := HCLS.out w30 HB30.out
                          have HX30 := Lib.hid hx30
                          clear hx30
                          go_upto_region 44 with fail
                          rw [HWw30.out, ← eV1]
                          clear ew30 eV1
                          go_wp2_with fail
                          (with_reducible refine (rbuild_all B ps sn mm _ _ w30 HLK.out hlm g0 (HLSV.out w30 HX30.out)).mono ?_)
                          rintro e w31 hbu2
                          obtain ⟨B2', A3', n3', c3', sl2', A4', n4', c4', cd2, rfl⟩ := buA_form hlm hbu2
                          obtain ⟨hcd, Bz, pz, slz, bz, ⟨A1z, c1z, A2z, c2z, e1, hd1⟩, ⟨A3z, c3z, A4z, c4z, e2, hd2⟩⟩ := buA_both hlm HBU.out hbu2
                          have hb31 := hbu2.1
                          have HB31 : Hid (Below wr.heap.size wr w31) := (show Hid _ from HB30.out.trans (hb31.mono HB30.out.size))
                          have HB301 := Lib.hid hb31
                          clear HBU hbu2 hb31
                          simp at e1 e2
                          obtain ⟨eB, ⟨eA1, en1, ec1⟩, es1, eA2, en2, ec2⟩ := e1
                          obtain ⟨eB2, ⟨eA3, en3, ec3⟩, es2, eA4, en4, ec4⟩ := e2
                          subst eB eA1 en1 ec1 es1 eA2 en2 ec2 eA3 en3 ec3 eA4 en4 ec4
                          have eB2 := eB2.symm
                          have es2 := es2.symm
                          have hcd := hcd.symm
                          subst eB2 es2 hcd
                          have HZ1 := Lib.hid hd1
                          have HZ2 := Lib.hid hd2
                          clear hd1 hd2 g0 m0 m1 m2' m3'
                          obtain ⟨V2, eV2⟩ : ∃ V2, V2 = w31.heap.size := ⟨_, rfl⟩
                          obtain ⟨w32, ew32⟩ : ∃ w32 : World, w32 = w31.alloc (.cells #[.int .i64 B', .slice A3' pz.length c3', .int .i64 sl', .slice A4' bz.length c4'] 28) := ⟨_, rfl⟩
                          have HWw32 : Hid (w31.alloc (.cells #[.int .i64 B', .slice A3' pz.length c3', .int .i64 sl', .slice A4' bz.length c4'] 28) = w32) := ew32.symm
                          have HAw32 : Hid (Below w31.heap.size w31 w32) := (show Hid _ from by rw [ew32]; exact (Below.refl _ w31).alloc (Nat.le_refl _) _)
                          have HV20w32 : Hid (w32.heap[V2]? = some (.cells #[.int .i64 B', .slice A3' pz.length c3', .int .i64 sl', .slice A4' bz.length c4'] 28 (0, 0))) := (show Hid _ from by show _ = _; rw [ew32, eV2]; exact heap_alloc_new w31 _)
                          have HB12 := Lib.hid (HB301.out.trans (HAw32.out.mono HB301.out.size))
                          have HB32 : Hid (Below wr.heap.size wr w32) := (show Hid _ from HB31.out.trans (HAw32.out.mono HB31.out.size))
                          have hV1b : w32.heap[V1]? = some (.cells #[.int .i64 B', .slice A1' pz.length c1', .int .i64 sl', .slice A2' bz.length c2'] 28 (0, 0)) := (HB12.out.block V1 hV1).trans HV10w30.out
                          have a0 := cell_of_row w32 V1 0 _ _ _ hV1b
                          have a1 := cell_of_row w32 V1 1 _ _ _ hV1b
                          have a2 := cell_of_row w32 V1 2 _ _ _ hV1b
                          have a3 := cell_of_row w32 V1 3 _ _ _ hV1b
                          have k0 := cell_of_row w32 V2 0 _ _ _ HV20w32.out
                          have k1 := cell_of_row w32 V2 1 _ _ _ HV20w32.out
                          have k2 := cell_of_row w32 V2 2 _ _ _ HV20w32.out
                          have k3 := cell_of_row w32 V2 3 _ _ _ HV20w32.out
                          simp at a0 a1 a2 a3 k0 k1 k2 k3
                          clear hV1b
                          go_upto_region 45 with fail
                          rw [HWw32.out, ← eV2]
                          clear ew32 eV2
                          go_wp2_with fail
                          (with_reducible refine (rsameD_any B' B' sl' sl' pz pz bz bz _ _ _ _ w32 (HZ1.out.1.on (HAw30.out.trans (HB12.out.mono HAw30.out.size))) (HZ2.out.1.on HAw32.out) (HZ1.out.2.1.onB (HAw30.out.trans (HB12.out.mono HAw30.out.size))) (HZ2.out.2.1.onB HAw32.out) HZ1.out.2.2.1 HZ1.out.2.2.2.1 HZ1.out.2.2.2.2 HZ1.out.2.2.2.2).mono ?_)
                          rintro e w33 ⟨rfl, hb33⟩
                          rw [show DirE (B', pz, sl', bz) (B', pz, sl', bz) = true from dirE_yes rfl rfl rfl rfl]
                          have HB33 : Hid (Below wr.heap.size wr w33) := (show Hid _ from HB32.out.trans (hb33.mono HB32.out.size))
                          clear hb33 a0 a1 a2 a3 k0 k1 k2 k3
                          go_wp2_with fail
                          go_roundw
                          case rel => exact ⟨q + 1, hqt, by go_num, HBq.out.trans (HB33.out.mono HBq.out.size)⟩
                          case measure => simp [intOf]; omega
                        · have hqe : q = 3 := by omega
                          subst hqe
                          go_wp2_with fail
                          go_roundw
                          case rel => exact ⟨m + 1, hmt, by go_num, grownBy_trans (grownBy_trans HGM.out HG28.out) (grownBy_of_below HBq.out _), HD28.out.below HBq.out⟩
                          case measure => simp [intOf]; omega
                    · have hme : m = 2 := by omega
                      subst hme
                      go_wp2_with fail
                      go_roundw
                      case rel => exact ⟨ky + 1, hkt, by go_num, grownBy_trans (grownBy_trans HG15.out HG25.out) HGM.out, HDM.out⟩
                      case measure => simp [intOf]; omega
            · have hke : ky = 3 := by omega
              subst hke
              go_wp2_with fail
              go_ret
              exact ⟨rfl, HBL.out _ HGR.out⟩
end Go.Proofs.Ytllnomembakboaa
