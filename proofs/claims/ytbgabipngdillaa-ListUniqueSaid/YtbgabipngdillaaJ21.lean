/- Joined: Ri Rj La Lb Lc Lx Va Vb. -/
import Derived.Lib.RabinKarpLaws
import Derived.Stop.Asserts
import Derived.LaidEql
import Derived.RowKitTokens
import Derived.Laws.EntriesVeiled
import Derived.Deep.RegionHeld3
import Derived.Deep.QuietTactic
import Derived.BigQuiet
import Derived.Deep.DeepCutAuto
import Derived.Lib.Hide
import Derived.Deep.RegionWith
import Derived.Deep.RegionLaw
import Derived.BigRegion
import Derived.Sort.OwnSortedInts
import Derived.Lib.SlicesCompact
import Derived.Test.YtbgabipngdillaaJ20
import Derived.Test.YtbgabipngdillaaJ15
import Derived.Test.YtbgabipngdillaaJ14
import Derived.Test.YtbgabipngdillaaJ09
import Derived.Test.YtbgabipngdillaaJ03
import Derived.Test.YtbgabipngdillaaJ18
import Derived.Test.YtbgabipngdillaaJ17
import Derived.Test.YtbgabipngdillaaJ16
import Derived.Test.YtbgabipngdillaaJ19
import Derived.Test.YtbgabipngdillaaJ04
import Derived.Test.YtbgabipngdillaaJ01
import Derived.Test.YtbgabipngdillaaJ07
import Derived.Test.YtbgabipngdillaaJ06
import Derived.Test.YtbgabipngdillaaJ05
import Derived.Test.YtbgabipngdillaaJ08
import Derived.Test.YtbgabipngdillaaJ11
import Derived.Test.YtbgabipngdillaaJ10
namespace Go.Proofs.Ytbgabipngdillaa
open Go.RowKit

theorem SI.capB {w : World} {A : Option Addr} {n c : Nat} {l : List Int} (h : SI w (.slice A n c) l) : l.length ≤ c := by
  obtain ⟨A2, c2, e, hc, _⟩ := h
  injection e with _ _ e3
  omega
def PwG (P a : Int) (n : Nat) (w1 : World) (xv av nv : Value) (wr : World) : Prop :=
  ∃ (x b : Int) (k : Nat), xv = .int .i64 x ∧ av = .int .i64 b ∧ nv = .int .i64 k ∧ k ≤ 70000 ∧ 0 ≤ x ∧ x < P ∧ 0 ≤ b ∧ b < P ∧ P ∣ x * b ^ k - a ^ n ∧ w1 = wr
set_option maxRecDepth 100000 in
set_option maxHeartbeats 4000000 in
theorem rpowG_any (P a : Int) (n : Nat) (w : World) (hP : 2 ≤ P ∧ P ≤ 65521) (ha : 0 ≤ a ∧ a < P) (hn : n ≤ 70000) :
    Calls Try.prog 60 #[.agg #[.int .i64 P], .int .i64 a, .int .i64 n] w fun e w' => e = .returned (.int .i64 (a ^ n % P)) ∧ Below w.heap.size w w' := by
  go_enter Try.func60, Try.ntmps60
  obtain ⟨F, eF⟩ : ∃ F, F = w.heap.size := ⟨_, rfl⟩
  obtain ⟨w1, ew1⟩ : ∃ w1 : World, w1 = w.alloc (.cells #[.int .i64 P] 26) := ⟨_, rfl⟩
  have HWw1 : Hid (w.alloc (.cells #[.int .i64 P] 26) = w1) := ew1.symm
  have HAw1 : Hid (Below w.heap.size w w1) := (show Hid _ from by rw [ew1]; exact (Below.refl _ w).alloc (Nat.le_refl _) _)
  have HF0w1 : Hid (w1.heap[F]? = some (.cells #[.int .i64 P] 26 (0, 0))) := (show Hid _ from by show _ = _; rw [ew1, eF]; exact heap_alloc_new w _)
  go_upto_region 1 with fail
  rw [HWw1.out, ← eF]
  clear ew1 eF
  have f0 : w1.cell? ⟨F, 0, none⟩ = some (.int .i64 P) := cell_of_row w1 F 0 _ _ _ HF0w1.out
  have hP0 : ¬ P = 0 := by omega
  have h1 : (1 : Int).tmod P = 1 := by rw [Int.tmod_eq_emod_of_nonneg (by omega)]; exact Int.emod_eq_of_lt (by omega) (by omega)
  go_wp2_with fail
  go_loopw [7, 1, 2] (fun xv av nv wr => PwG P a n w1 xv av nv wr) (fun _ _ nv _ => (intOf nv).toNat)
  case atStart => exact ⟨1, a, n, by first | rfl | simp [h1], rfl, rfl, hn, by omega, by omega, ha.1, ha.2, ⟨0, by simp⟩, rfl⟩
  case round =>
    obtain ⟨x, b, k, rfl, rfl, rfl, hk, hx1, hx2, hb1, hb2, hd, rfl⟩ := hrel
    have HD := Lib.hid hd
    clear hd h1
    by_cases hk0 : k = 0
    · subst hk0
      have HX : Hid (x = a ^ n % P) := (show Hid _ from by
        have h := HD.out
        rw [Int.pow_zero, Int.mul_one] at h
        have h1 := Int.emod_eq_emod_iff_emod_sub_eq_zero.2 (Int.emod_eq_zero_of_dvd h)
        rw [Int.emod_eq_of_lt hx1 hx2] at h1
        exact h1)
      go_wp2_with fail
      go_ret
      exact ⟨by rw [HX.out]; rfl, HAw1.out⟩
    · have hxb : 0 ≤ x * b % P ∧ x * b % P < P := ⟨Int.emod_nonneg _ (by omega), Int.emod_lt_of_pos _ (by omega)⟩
      have hbb : 0 ≤ b * b % P ∧ b * b % P < P := ⟨Int.emod_nonneg _ (by omega), Int.emod_lt_of_pos _ (by omega)⟩
      have m1 := mul_bd ⟨hx1, hx2⟩ ⟨hb1, hb2⟩ hP.2
      have m2 := mul_bd ⟨hb1, hb2⟩ ⟨hb1, hb2⟩ hP.2
      have w1_ : IntKind.i64.wrap (x * b) = x * b := by exact IntWalk.i64_in _ (by omega)
      have w2_ : IntKind.i64.wrap (b * b) = b * b := by exact IntWalk.i64_in _ (by omega)
      have t1_ : (x * b).tmod P = x * b % P := Int.tmod_eq_emod_of_nonneg (by omega)
      have t2_ : (b * b).tmod P = b * b % P := Int.tmod_eq_emod_of_nonneg (by omega)
      have w3_ : IntKind.i64.wrap (x * b % P) = x * b % P := by exact IntWalk.i64_in _ (by omega)
      have w4_ : IntKind.i64.wrap (b * b % P) = b * b % P := by exact IntWalk.i64_in _ (by omega)
      have HEV : Hid (∀ m : Nat, k = 2 * m → P ∣ x * (b * b % P) ^ m - a ^ n) := (show Hid _ from fun m hm => by
        have h1 := pw_even P x b m
        rw [← hm] at h1
        exact dvd_of_eq' (Int.dvd_add h1 HD.out) (by omega))
      have HOD : Hid (∀ m : Nat, k = 2 * m + 1 → P ∣ (x * b % P) * (b * b % P) ^ m - a ^ n) := (show Hid _ from fun m hm => by
        have h1 := pw_odd P x b m
        rw [← hm] at h1
        exact dvd_of_eq' (Int.dvd_add h1 HD.out) (by omega))
      have hb1' := and_one k (by omega)
      obtain ⟨q, eq⟩ : ∃ q, q = k / 2 := ⟨_, rfl⟩
      have s1_ : (k : Int) / 2 = (q : Int) := by omega
      have s2_ : IntKind.i64.wrap (q : Int) = (q : Int) := by exact IntWalk.i64_in _ (by omega)
      have hkz : decide ((0 : Int) < (k : Int)) = true := decide_eq_true (by omega)
      have hkz' : decide (0 < k) = true := decide_eq_true (by omega)
      obtain ⟨r, er⟩ : ∃ r, r = k % 2 := ⟨_, rfl⟩
      rw [← er] at hb1'
      have hqk : q < k := by omega
      have hqb : q ≤ 70000 := by omega
      rcases Nat.lt_or_ge r 1 with h0 | h0
      · have hr : r = 0 := by omega
        subst hr
        have HE2 := Lib.hid (HEV.out q (by omega))
        clear HD m1 m2 HEV HOD hk0 eq er hk
        go_wp2_with fail
        exact ⟨⟨_, _, q, rfl, rfl, by first | rfl | simp [s1_], hqb, hx1, hx2, hbb.1, hbb.2, HE2.out, rfl⟩, by simp [intOf]; omega⟩
      · have hr : r = 1 := by omega
        subst hr
        have HE2 := Lib.hid (HOD.out q (by omega))
        clear HD m1 m2 HEV HOD hk0 eq er hk
        go_wp2_with fail
        exact ⟨⟨_, _, q, rfl, rfl, by first | rfl | simp [s1_], hqb, hxb.1, hxb.2, hbb.1, hbb.2, HE2.out, rfl⟩, by simp [intOf]; omega⟩
theorem inv_pow {P a : Int} (hP : 2 ≤ P) (ha : 0 ≤ a ∧ a < P) (h2 : P = 2 → a ≠ 0) : a ^ (P.toNat - 2) % P = inv P a := by
  unfold inv
  by_cases h : a % P = 0
  · rw [if_pos h]
    have ha0 : a = 0 := by rw [Int.emod_eq_of_lt ha.1 ha.2] at h; exact h
    have hP2 : ¬ P = 2 := fun e => h2 e ha0
    obtain ⟨k, hk⟩ : ∃ k, P.toNat - 2 = k + 1 := ⟨P.toNat - 3, by omega⟩
    rw [ha0, hk, Int.pow_succ]; simp
  · rw [if_neg h]
set_option maxRecDepth 100000 in
set_option maxHeartbeats 2000000 in
theorem rinv_any (P a : Int) (w : World) (hP : 2 ≤ P ∧ P ≤ 65521) (ha : 0 ≤ a ∧ a < P) (h2 : P = 2 → a ≠ 0) :
    Calls Try.prog 50 #[.agg #[.int .i64 P], .int .i64 a] w fun e w' => e = .returned (.int .i64 (inv P a)) ∧ Below w.heap.size w w' := by
  go_enter Try.func50, Try.ntmps50
  obtain ⟨F, eF⟩ : ∃ F, F = w.heap.size := ⟨_, rfl⟩
  obtain ⟨w1, ew1⟩ : ∃ w1 : World, w1 = w.alloc (.cells #[.int .i64 P] 26) := ⟨_, rfl⟩
  have HWw1 : Hid (w.alloc (.cells #[.int .i64 P] 26) = w1) := ew1.symm
  have HAw1 : Hid (Below w.heap.size w w1) := (show Hid _ from by rw [ew1]; exact (Below.refl _ w).alloc (Nat.le_refl _) _)
  have HF0w1 : Hid (w1.heap[F]? = some (.cells #[.int .i64 P] 26 (0, 0))) := (show Hid _ from by show _ = _; rw [ew1, eF]; exact heap_alloc_new w _)
  go_upto_region 1 with fail
  rw [HWw1.out, ← eF]
  clear ew1 eF
  have f0 : w1.cell? ⟨F, 0, none⟩ = some (.int .i64 P) := cell_of_row w1 F 0 _ _ _ HF0w1.out
  obtain ⟨n, en⟩ : ∃ n : Nat, (n : Int) = P - 2 := ⟨(P - 2).toNat, by omega⟩
  have wn : IntKind.i64.wrap (P - 2) = (n : Int) := by rw [en]; exact IntWalk.i64_in _ (by omega)
  have HI : Hid (a ^ n % P = inv P a) := (show Hid _ from by
    have h := inv_pow hP.1 ha h2
    rw [show P.toNat - 2 = n by omega] at h; exact h)
  have hn : n ≤ 70000 := by omega
  clear en h2
  go_wp2_with fail
  (with_reducible refine (rpowG_any P a n w1 hP ha hn).mono ?_)
  rintro e w2 ⟨rfl, hb2⟩
  rw [HI.out]
  have HB := Lib.hid (HAw1.out.trans (hb2.mono HAw1.out.size))
  clear hb2
  go_wp2_with fail
  go_ret
  exact ⟨rfl, HB.out⟩
set_option maxRecDepth 100000 in
set_option maxHeartbeats 2000000 in
theorem rvalue_any (P x : Int) (p : List Int) (v : Value) (w : World) (hP : 2 ≤ P ∧ P ≤ 65521) (hx : 0 ≤ x ∧ x < P) (he : els P p = true) (hl : p.length ≤ 1000000) (h : SI w v p) :
    Calls Try.prog 49 #[.agg #[.int .i64 P], v, .int .i64 x] w fun e w' => e = .returned (.int .i64 (val P p x)) ∧ Below w.heap.size w w' := by
  have HE := Lib.hid he
  obtain ⟨A, c, rfl⟩ := h.form
  have HS := Lib.hid h
  clear he h
  go_enter Try.func49, Try.ntmps49
  obtain ⟨F, eF⟩ : ∃ F, F = w.heap.size := ⟨_, rfl⟩
  obtain ⟨w1, ew1⟩ : ∃ w1 : World, w1 = w.alloc (.cells #[.int .i64 P] 26) := ⟨_, rfl⟩
  have HWw1 : Hid (w.alloc (.cells #[.int .i64 P] 26) = w1) := ew1.symm
  have HAw1 : Hid (Below w.heap.size w w1) := (show Hid _ from by rw [ew1]; exact (Below.refl _ w).alloc (Nat.le_refl _) _)
  have HF0w1 : Hid (w1.heap[F]? = some (.cells #[.int .i64 P] 26 (0, 0))) := (show Hid _ from by show _ = _; rw [ew1, eF]; exact heap_alloc_new w _)
  have HXC : Hid (∀ W, Below w1.heap.size w1 W → W.cell? ⟨F, 0, none⟩ = some (.int .i64 P)) := (show Hid _ from fun W hg => by
    have hF0 := (hg.block F (heap_of_cells HF0w1.out)).trans HF0w1.out
    exact (cell_of_row W F 0 _ _ _ hF0))
  have HS1 := Lib.hid (HS.out.below HAw1.out)
  go_upto_region 1 with fail
  rw [HWw1.out, ← eF]
  clear ew1 eF
  go_wp2_with fail
  go_loopw [7, 8] (fun nv iv wr => ∃ k : Nat, k ≤ p.length ∧ nv = .int .i64 (val P (p.drop k) x) ∧ iv = .int .i64 ((k : Int) - 1) ∧ Below w1.heap.size w1 wr) (fun _ iv _ => ((intOf iv) + 1).toNat)
  case atStart => exact ⟨p.length, Nat.le_refl _, by rw [List.drop_length]; rfl, by go_num, Below.refl _ _⟩
  case round =>
    obtain ⟨k, hk, rfl, rfl, hb⟩ := hrel
    have HB := Lib.hid hb
    clear hb
    by_cases hk0 : k = 0
    · subst hk0
      rw [List.drop_zero]
      have d0 : decide (((0 : Nat) : Int) - 1 ≥ 0) = false := decide_eq_false (by omega)
      have d0' : decide ((0 : Int) ≤ ((0 : Nat) : Int) - 1) = false := decide_eq_false (by omega)
      go_wp2_with fail
      go_ret
      exact ⟨rfl, HAw1.out.trans (HB.out.mono HAw1.out.size)⟩
    · obtain ⟨j, rfl⟩ : ∃ j, k = j + 1 := ⟨k - 1, by omega⟩
      have hjl : j < p.length := by omega
      have ej : ((j + 1 : Nat) : Int) - 1 = (j : Int) := by omega
      rw [ej]
      have f0 := HXC.out wr HB.out
      obtain ⟨bb, ob, eA, ck⟩ := (HS1.out.below HB.out).at hjl
      subst eA
      have HV : Hid (val P (p.drop j) x = (val P (p.drop (j + 1)) x * x + p[j]) % P) := val_drop hjl x
      have hvb := val_bd hP.1 (p.drop (j + 1)) x
      have hel := el_t (els_all HE.out _ (List.getElem_mem hjl))
      obtain ⟨s, es⟩ : ∃ s, s = val P (p.drop (j + 1)) x := ⟨_, rfl⟩
      obtain ⟨y, ey⟩ : ∃ y, y = p[j] := ⟨_, rfl⟩
      rw [← es] at HV hvb ⊢
      rw [← ey] at HV hel ck
      have hsx := mul_bd hvb hx hP.2
      have w1_ : IntKind.i64.wrap (s * x) = s * x := by exact IntWalk.i64_in _ (by omega)
      have w2_ : IntKind.i64.wrap (s * x + y) = s * x + y := by exact IntWalk.i64_in _ (by omega)
      have t1_ : (s * x + y).tmod P = (s * x + y) % P := Int.tmod_eq_emod_of_nonneg (by omega)
      have hm := Int.emod_nonneg (s * x + y) (show P ≠ 0 by omega)
      have hm2 := Int.emod_lt_of_pos (s * x + y) (show 0 < P by omega)
      have w3_ : IntKind.i64.wrap ((s * x + y) % P) = (s * x + y) % P := by exact IntWalk.i64_in _ (by omega)
      have w4_ : IntKind.i64.wrap ((j : Int) - 1) = (j : Int) - 1 := by exact IntWalk.i64_in _ (by omega)
      have hP0 : ¬ P = 0 := by omega
      have d0 : decide ((j : Int) ≥ 0) = true := decide_eq_true (by omega)
      have d0' : decide ((0 : Int) ≤ (j : Int)) = true := decide_eq_true (by omega)
      have z1 : (0 : Int) ≤ (j : Int) := by omega
      have z2 : (j : Int) < (p.length : Int) := by omega
      clear es ey hsx hm hm2 ej
      go_upto_region 5 with fail
      go_quiet (fail)
      go_wp2_with fail
      go_roundw
      case rel => exact ⟨j, by omega, by rw [HV.out], rfl, by first | exact HB.out | exact Below.drewN HB.out _⟩
      case measure => (simp [intOf]; try omega)
set_option maxRecDepth 100000 in
set_option maxHeartbeats 2000000 in
theorem rtrim_any (l : List Int) (v : Value) (w : World) (h : SI w v l) (hl : l.length ≤ 1000000) :
    Calls Try.prog 51 #[v] w fun e w' => ∃ v', e = .returned v' ∧ w'.ownsRow w.heap.size 3 1 v' (trim l).length ((trim l).map (Value.int .i64)) ∧ Below w.heap.size w w' := by
  obtain ⟨A, c, rfl⟩ := h.form
  have HS := Lib.hid h
  clear h
  go_enter Try.func51, Try.ntmps51
  go_wp2_with fail
  go_loopw [0] (fun pv wr => ∃ n : Nat, n ≤ l.length ∧ pv = .slice A n c ∧ (∀ k, n ≤ k → gd l k = 0) ∧ w = wr) (fun pv _ => match pv with | .slice _ n _ => n | _ => 0)
  case atStart => exact ⟨l.length, Nat.le_refl _, rfl, fun k hk => gd_ge hk, rfl⟩
  case round =>
    obtain ⟨n, hn, rfl, hz, rfl⟩ := hrel
    have HZ := Lib.hid hz
    clear hz
    have HT : Hid ((n = 0 ∨ gd l (n - 1) ≠ 0) → trim l = l.take n) := (show Hid _ from fun h => trim_take hn HZ.out h)
    have HFIN : Hid (trim l = l.take n → ∀ (X : Value) (W : World), W.ownsRow w.heap.size 3 1 X ([] ++ l.take n).length (([] ++ l.take n).map (Value.int .i64)) → W.ownsRow w.heap.size 3 1 X (trim l).length ((trim l).map (Value.int .i64))) := (show Hid _ from fun e X W h => by rw [e]; simpa using h)
    have HTK : Hid (SI w (.slice A n c) (l.take n)) := (show Hid _ from HS.out.take hn)
    by_cases hn0 : n = 0
    · have e := HT.out (.inl hn0)
      have HE := Lib.hid e
      clear e
      have d0 : decide ((0 : Int) < (n : Int)) = false := decide_eq_false (by omega)
      have d0' : decide (0 < n) = false := decide_eq_false (by omega)
      go_wp2_with (at_builtin; refine wpList_append_ints _ rfl _ _ 22 rfl w.heap.size 3 Try.underlying22 iinfo (.slice none 0 0) [] rfl (World.ownsRow_nil _ _ _ _) _ _ (l.take n) rfl HTK.out (by simp; omega) (Nat.le_refl _) ?_; intro v2 w2 hown2 hg2; have HO2 := Lib.hid hown2; have HG2 := Lib.hid hg2; clear hown2 hg2)
      go_ret
      exact ⟨_, rfl, HFIN.out HE.out _ _ HO2.out, (Below.refl _ w).grown HG2.out (Nat.le_refl _) (fun k hk => by simp [Value.ownBlock] at hk)⟩
    · have d0 : decide ((0 : Int) < (n : Int)) = true := decide_eq_true (by omega)
      have d0' : decide (0 < n) = true := decide_eq_true (by omega)
      obtain ⟨j, rfl⟩ : ∃ j, n = j + 1 := ⟨n - 1, by omega⟩
      have hjl : j < l.length := by omega
      obtain ⟨bb, ob, eA, ck⟩ := HS.out.at hjl
      subst eA
      have w1_ : IntKind.i64.wrap (((j + 1 : Nat) : Int) - 1) = (j : Int) := by rw [show ((j + 1 : Nat) : Int) - 1 = (j : Int) by omega]; exact IntWalk.i64_in _ (by omega)
      have w2_ : IntKind.i64.wrap ((j : Int) + 1 - 1) = (j : Int) := by rw [show (j : Int) + 1 - 1 = (j : Int) by omega]; exact IntWalk.i64_in _ (by omega)
      have z1 : (0 : Int) ≤ (j : Int) := by omega
      have z2 : (j : Int) < (j : Int) + 1 := by omega
      have z3 : (j : Int) ≤ (c : Int) := by have := HS.out.capB; omega
      have hg : gd l j = l[j] := gd_lt hjl
      by_cases hy : l[j] = 0
      · rw [hy] at ck
        go_wp2_with fail
        go_roundw
        case rel => exact ⟨j, by omega, rfl, fun k hk => by
          rcases Nat.lt_or_ge j k with h | h
          · exact HZ.out k (by omega)
          · rw [show k = j by omega, hg, hy], by simp⟩
        case measure => simp
      · have hne : gd l (j + 1 - 1) ≠ 0 := by rw [Nat.add_sub_cancel, hg]; exact hy
        have HE := Lib.hid (HT.out (.inr hne))
        obtain ⟨y, ey⟩ : ∃ y, y = l[j] := ⟨_, rfl⟩
        rw [← ey] at ck hy
        have dy : (y == 0) = false := by rw [beq_eq_false_iff_ne]; exact hy
        clear hne hg ey
        go_wp2_with (at_builtin; refine wpList_append_ints _ rfl _ _ 22 rfl w.heap.size 3 Try.underlying22 iinfo (.slice none 0 0) [] rfl (World.ownsRow_nil _ _ _ _) _ _ (l.take (j + 1)) rfl HTK.out (by simp; omega) (Nat.le_refl _) ?_; intro v2 w2 hown2 hg2; have HO2 := Lib.hid hown2; have HG2 := Lib.hid hg2; clear hown2 hg2)
        go_ret
        exact ⟨_, rfl, HFIN.out HE.out _ _ HO2.out, (Below.refl _ w).grown HG2.out (Nat.le_refl _) (fun k hk => by simp [Value.ownBlock] at hk)⟩
end Go.Proofs.Ytbgabipngdillaa

namespace Go.Proofs.Ytbgabipngdillaa
open Go.RowKit

set_option maxRecDepth 100000 in
set_option maxHeartbeats 4000000 in
theorem rlists_any (P : Int) (ls : List (List Int)) (v : Value) (w : World) (hP : i64r P) (h : SL w v ls) (hz : ls.length ≤ 1000000) :
    Calls Try.prog 48 #[.agg #[.int .i64 P], v] w fun e w' => e = .returned (.int .i64 (opE P ls)) ∧ Below w.heap.size w w' := by
  obtain ⟨Ar, cr, rfl, hat⟩ := h.at
  have HAT := Lib.hid hat
  clear hat h
  go_enter Try.func48, Try.ntmps48
  obtain ⟨F, eF⟩ : ∃ F, F = w.heap.size := ⟨_, rfl⟩
  obtain ⟨w1, ew1⟩ : ∃ w1 : World, w1 = w.alloc (.cells #[.int .i64 P] 26) := ⟨_, rfl⟩
  have HWw1 : Hid (w.alloc (.cells #[.int .i64 P] 26) = w1) := ew1.symm
  have HAw1 : Hid (Below w.heap.size w w1) := (show Hid _ from by rw [ew1]; exact (Below.refl _ w).alloc (Nat.le_refl _) _)
  have HF0w1 : Hid (w1.heap[F]? = some (.cells #[.int .i64 P] 26 (0, 0))) := (show Hid _ from by show _ = _; rw [ew1, eF]; exact heap_alloc_new w _)
  have HXC : Hid (∀ W, Below w1.heap.size w1 W → W.cell? ⟨F, 0, none⟩ = some (.int .i64 P)) := (show Hid _ from fun W hg => by
    have hF0 := (hg.block F (heap_of_cells HF0w1.out)).trans HF0w1.out
    exact (cell_of_row W F 0 _ _ _ hF0))
  go_upto_region 1 with fail
  rw [HWw1.out, ← eF]
  clear ew1 eF
  have f0 := HXC.out w1 (Below.refl _ _)
  go_wp2_with fail
  (with_reducible refine (rcheck_any P _ hP).mono ?_)
  rintro e w2 ⟨rfl, hb2⟩
  have HB2 : Hid (Below w1.heap.size w1 w2) := hb2
  clear hb2 f0
  cases hp : prB P with
  | false =>
    have hrc : rcE P = 9 := rcE_f hp
    have HE : Hid (opE P ls = 9) := (opE_p hp).1
    rw [hrc]
    clear hp hrc
    go_wp2_with fail
    go_ret
    exact ⟨by rw [HE.out]; rfl, HAw1.out.trans (HB2.out.mono HAw1.out.size)⟩
  | true =>
    have hrc : rcE P = 0 := rcE_t hp
    have HP := Lib.hid hp
    rw [hrc]
    clear hp hrc
    go_wp2_with fail
    go_loopw [17] (fun iv wr => ∃ k : Nat, k ≤ ls.length ∧ iv = .int .i64 k ∧ (∀ j (_ : j < k) (h : j < ls.length), els P ls[j] = true) ∧ Below w1.heap.size w1 wr) (fun iv _ => ls.length - (intOf iv).toNat)
    case atStart => exact ⟨0, Nat.zero_le _, rfl, fun j hj => by omega, HB2.out⟩
    case round =>
      obtain ⟨k, hk, rfl, hel, hb⟩ := hrel
      have HEL := Lib.hid hel
      have HB := Lib.hid hb
      clear hel hb
      by_cases hlk : k < ls.length
      · have dk : decide (k < ls.length) = true := decide_eq_true hlk
        obtain ⟨bh, oh, B, d, eA, hW⟩ := HAT.out k hlk
        subst eA
        obtain ⟨ck, hsk⟩ := hW wr (HAw1.out.trans (HB.out.mono HAw1.out.size))
        have HSK := Lib.hid hsk
        have f0 := HXC.out wr HB.out
        obtain ⟨q, eq⟩ : ∃ q, q = ls[k].length := ⟨_, rfl⟩
        rw [← eq] at ck HSK
        clear hW hsk eq
        go_wp2_with fail
        (with_reducible refine (rin_any P _ _ wr hP HSK.out).mono ?_)
        rintro e w3 ⟨rfl, hb3⟩
        have HB3 : Hid (Below w1.heap.size w1 w3) := (show Hid _ from HB.out.trans (hb3.mono HB.out.size))
        clear hb3 f0 ck
        have hin : inB P ls[k] = els P ls[k] := by unfold inB; rw [HP.out]; rfl
        rw [hin]
        cases he : els P ls[k] with
        | false =>
          have HE : Hid (opE P ls = 9) := (opE_n HP.out hlk he).1
          clear he hin
          go_wp2_with fail
          go_ret
          exact ⟨by rw [HE.out]; rfl, HAw1.out.trans (HB3.out.mono HAw1.out.size)⟩
        | true =>
          have HE := Lib.hid he
          clear he hin
          go_wp2_with fail
          go_roundw
          case rel => exact ⟨k + 1, by omega, by go_num, fun j hj h => by
            rcases Nat.lt_or_ge j k with h1 | h1
            · exact HEL.out j h1 h
            · have e : j = k := by omega
              subst e; exact HE.out, HB3.out⟩
          case measure => simp [intOf]; omega
      · have dk : decide (k < ls.length) = false := decide_eq_false hlk
        have HEND := Lib.hid (opE_end (P := P) HP.out fun j h => HEL.out j (by omega) h)
        clear hk
        go_wp2_with fail
        go_loopw [28] (fun iv wz => ∃ j : Nat, j ≤ ls.length ∧ iv = .int .i64 j ∧ longB (ls.take j) = false ∧ wr = wz) (fun iv _ => ls.length - (intOf iv).toNat)
        case atStart => exact ⟨0, Nat.zero_le _, rfl, by simp [longB], rfl⟩
        case round =>
          obtain ⟨j, hj, rfl, hlg, rfl⟩ := hrel
          have HLG := Lib.hid hlg
          clear hlg
          by_cases hlj : j < ls.length
          · have dj : decide (j < ls.length) = true := decide_eq_true hlj
            obtain ⟨bh, oh, B, d, eA, hW⟩ := HAT.out j hlj
            subst eA
            obtain ⟨ck, _⟩ := hW wr (HAw1.out.trans (HB.out.mono HAw1.out.size))
            have HSN := Lib.hid (longB_snoc ls j hlj)
            obtain ⟨q, eq⟩ : ∃ q, q = ls[j].length := ⟨_, rfl⟩
            rw [← eq] at ck HSN
            clear hW eq
            by_cases hq : 512 < q
            · have dq : decide ((512 : Int) < (q : Int)) = true := decide_eq_true (by omega)
              have dq' : decide (512 < q) = true := decide_eq_true hq
              have HE : Hid (opE P ls = 4) := (show Hid _ from (HEND.out.1 (by
                have h1 := HSN.out
                rw [dq', Bool.or_true] at h1
                unfold longB at h1 ⊢
                rw [List.any_eq_true] at h1 ⊢
                obtain ⟨x, hx, h2⟩ := h1
                exact ⟨x, List.mem_of_mem_take hx, h2⟩)).1)
              clear hq
              go_wp2_with fail
              go_ret
              exact ⟨by rw [HE.out]; rfl, HAw1.out.trans (HB.out.mono HAw1.out.size)⟩
            · have dq : decide ((512 : Int) < (q : Int)) = false := decide_eq_false (by omega)
              have dq' : decide (512 < q) = false := decide_eq_false hq
              have HL2 : Hid (longB (ls.take (j + 1)) = false) := (show Hid _ from by show _ = _; rw [HSN.out, HLG.out, dq']; rfl)
              clear hq
              go_wp2_with fail
              go_roundw
              case rel => exact ⟨j + 1, by omega, by go_num, HL2.out, by simp⟩
              case measure => simp [intOf]; omega
          · have dj : decide (j < ls.length) = false := decide_eq_false hlj
            have HE : Hid (opE P ls = 0) := (show Hid _ from (HEND.out.2 (by
              have h := HLG.out
              rw [List.take_of_length_le (by omega)] at h; exact h)).1)
            go_wp2_with fail
            go_ret
            exact ⟨by rw [HE.out]; rfl, HAw1.out.trans (HB.out.mono HAw1.out.size)⟩

/-- one more factor of the node polynomial, as the reference reckons it -/
theorem wide_step {P x v : Int} (t : List Int) (k : Nat) (hk : k + 1 < t.length) :
    (t.set (k + 1) ((gd t (k + 1) + v) % P)).set k ((gd t k + (P - x) * v) % P) = addT P t k v [(0 - x + P) % P, 1] := by
  refine list_ext_gd (by simp [addT_len]) fun j hj => ?_
  have hj' : j < t.length := by simpa using hj
  rw [addT_gd _ _ _ _ _ (by simp; omega), gd_set _ _ _ _ (by simp; omega), gd_set _ _ _ _ (by omega)]
  have hx1 : (P : Int) ∣ v * ((0 - x + P) % P) - (P - x) * v := by
    have h := Int.emod_add_mul_ediv (0 - x + P) P
    refine ⟨-(v * ((0 - x + P) / P)), ?_⟩
    have e : (0 - x + P) % P = (P - x) - P * ((0 - x + P) / P) := by omega
    rw [e, Int.mul_sub, Int.mul_neg, Int.mul_comm v (P - x), Int.mul_left_comm v P]
    omega
  by_cases h1 : j = k
  · subst h1
    rw [if_pos rfl, if_pos (by simp)]
    have e : gd [(0 - x + P) % P, 1] (j - j) = (0 - x + P) % P := by rw [Nat.sub_self]; rfl
    rw [e]
    exact (Int.emod_eq_emod_iff_emod_sub_eq_zero.2 (Int.emod_eq_zero_of_dvd (by
      have e2 : gd t j + (P - x) * v - (gd t j + v * ((0 - x + P) % P)) = -(v * ((0 - x + P) % P) - (P - x) * v) := by omega
      rw [e2]; exact Int.dvd_neg.2 hx1)))
  · rw [if_neg h1]
    by_cases h2 : j = k + 1
    · subst h2
      rw [if_pos rfl, if_pos (by simp)]
      have e : gd [(0 - x + P) % P, 1] (k + 1 - k) = 1 := by rw [Nat.add_sub_cancel_left]; rfl
      rw [e, Int.mul_one]
    · rw [if_neg h2, if_neg (by simp; omega)]
theorem nz2 {l : List (Int × Int)} (hn : (shX l).Nodup) (he : els 2 (shX l) = true) {k : Nat} (hk : k < l.length) : val 2 (newt 2 (l.take k)).2 l[k].1 ≠ 0 := by
  have hX : ∀ j (h : j < l.length), 0 ≤ l[j].1 ∧ l[j].1 < 2 := fun j h => el_t (els_all he _ (List.mem_map.2 ⟨l[j], List.getElem_mem h, rfl⟩))
  have hD : ∀ i j (hi : i < l.length) (hj : j < l.length), i ≠ j → l[i].1 ≠ l[j].1 := fun i j hi hj hne e => by
    have h1 : (shX l)[i]'(by rw [shX_len]; exact hi) = (shX l)[j]'(by rw [shX_len]; exact hj) := by simp [shX, e]
    exact hne ((List.getElem_inj hn).1 h1)
  match k, hk with
  | 0, hk => simp [newt, val]
  | 1, hk =>
    have e : l.take 1 = [l[0]] := by
      rw [List.take_succ_eq_append_getElem (by omega)]; rfl
    have h0 := hX 0 (by omega)
    have h1 := hX 1 hk
    have hne := hD 1 0 hk (by omega) (by omega)
    rw [e]
    obtain ⟨a, ea⟩ : ∃ a, a = l[0] := ⟨_, rfl⟩
    obtain ⟨x, ex⟩ : ∃ x, x = l[1].1 := ⟨_, rfl⟩
    rw [← ea] at h0 hne ⊢
    rw [← ex] at h1 hne ⊢
    obtain ⟨a1, a2⟩ := a
    have hc : (a1 = 0 ∧ x = 1) ∨ (a1 = 1 ∧ x = 0) := by
      have h3 : a1 ≠ x := fun e => hne e.symm
      have h4 : 0 ≤ a1 ∧ a1 < 2 := h0
      omega
    rcases hc with ⟨rfl, rfl⟩ | ⟨rfl, rfl⟩ <;> simp [newt, stepN, timesP, addT, val, zeros, gd, List.range_succ]
  | k + 2, hk =>
    exfalso
    have h0 := hX 0 (by omega)
    have h1 := hX 1 (by omega)
    have h2 := hX 2 (by omega)
    have d1 := hD 0 1 (by omega) (by omega) (by omega)
    have d2 := hD 0 2 (by omega) (by omega) (by omega)
    have d3 := hD 1 2 (by omega) (by omega) (by omega)
    omega
def Rj2 (xs : List Int) (w4 : World) (iv : Value) (wr : World) : Prop :=
  ∃ k : Nat, k ≤ xs.length ∧ iv = .int .i64 k ∧ (xs.take k).Nodup ∧ Below w4.heap.size w4 wr
def Rj3 (P x : Int) (s2 : List Int) (b : Nat) (w6 : World) (iv : Value) (wr : World) : Prop :=
  ∃ k : Nat, k ≤ s2.length ∧ iv = .int .i64 k ∧ BK wr b (timesK P s2 [(0 - x + P) % P, 1] k) ∧ Below w6.heap.size w6 wr
theorem BK.si0 {w : World} {b : Nat} {l : List Int} (h : BK w b l) (hr : ∀ x ∈ l, i64r x) (hl : l.length ≤ 1000000) : SI w (.slice (some ⟨b, 0, none⟩) l.length l.length) l := SI.of_own (BK.own h (base := 0) (by omega) hl) hr
theorem SI_nil' (w : World) : SI w (.slice none 0 0) [] := SI.of_own (base := 0) (e := 3) (World.ownsRow_nil _ _ _ _) (fun x hx => by simp at hx)
theorem mul_bd' {a b P : Int} (ha : 0 ≤ a ∧ a ≤ P) (hb : 0 ≤ b ∧ b < P) (hP : P ≤ 65521) : 0 ≤ a * b ∧ a * b ≤ 4293001441 := by
  have h0 : 0 ≤ a * b := Int.mul_nonneg ha.1 hb.1
  have h1 : a * b ≤ P * P := Int.mul_le_mul ha.2 (by omega) hb.1 (by omega)
  have h2 : P * P ≤ 65521 * 65521 := Int.mul_le_mul hP hP (by omega) (by omega)
  omega
theorem cell_blk {w : World} {a : Addr} {v : Value} (h : w.cell? a = some v) : a.block < w.heap.size := by
  unfold World.cell? at h
  split at h
  · rename_i e; exact (Array.getElem?_eq_some_iff.1 e).1
  · cases h
theorem nodup_take {xs : List Int} {k : Nat} (hk : k < xs.length) (h : (xs.take k).Nodup) (hn : ∀ j (hj : j < k), xs[k] ≠ xs[j]'(by omega)) : (xs.take (k + 1)).Nodup := by
  rw [List.take_succ_eq_append_getElem hk]
  refine List.nodup_append.2 ⟨h, by simp, fun a ha b hb e => ?_⟩
  simp at hb
  subst hb
  rw [List.mem_iff_getElem] at ha
  obtain ⟨j, hj, rfl⟩ := ha
  have hj' : j < k := by simp at hj; omega
  have := hn j hj'
  simp at e
  exact this e.symm
set_option maxRecDepth 100000 in
set_option maxHeartbeats 16000000 in
theorem rinterp_any (P : Int) (l : List (Int × Int)) (v : Value) (w : World) (hP : i64r P) (h : SG pcs 2 w.heap.size w v l) (hlen : l.length ≤ 1000000) :
    Calls Try.prog 28 #[.agg #[.int .i64 P], v] w fun e w' => ∃ v', e = .returned (.tuple #[v', .int .i64 (inE P l)]) ∧ w'.ownsRow w.heap.size 3 1 v' (inP P l).length ((inP P l).map (Value.int .i64)) ∧ Below w.heap.size w w' := by
  obtain ⟨A, c, rfl, hc, hm, hr, ha⟩ := pcs_cells h
  have HA := Lib.hid ha
  have HR := Lib.hid hr
  clear ha hr h hc hm
  go_enter Try.func28, Try.ntmps28
  obtain ⟨F, eF⟩ : ∃ F, F = w.heap.size := ⟨_, rfl⟩
  obtain ⟨w1, ew1⟩ : ∃ w1 : World, w1 = w.alloc (.cells #[.int .i64 P] 26) := ⟨_, rfl⟩
  have HWw1 : Hid (w.alloc (.cells #[.int .i64 P] 26) = w1) := ew1.symm
  have HAw1 : Hid (Below w.heap.size w w1) := (show Hid _ from by rw [ew1]; exact (Below.refl _ w).alloc (Nat.le_refl _) _)
  have HF0w1 : Hid (w1.heap[F]? = some (.cells #[.int .i64 P] 26 (0, 0))) := (show Hid _ from by show _ = _; rw [ew1, eF]; exact heap_alloc_new w _)
  have HXC : Hid (∀ W, Below w1.heap.size w1 W → W.cell? ⟨F, 0, none⟩ = some (.int .i64 P)) := (show Hid _ from fun W hg => by
    have hF0 := (hg.block F (heap_of_cells HF0w1.out)).trans HF0w1.out
    exact (cell_of_row W F 0 _ _ _ hF0))
  have hz1 : w.heap.size < w1.heap.size := by rw [ew1]; simp
  go_upto_region 2 with fail
  rw [HWw1.out, ← eF]
  clear ew1 eF
  go_wp2_with fail
  go_loopw [27, 6, 7] (fun i v6 v7 wr => InR1 l w1.heap.size w1 i v6 v7 wr) (fun i _ _ _ => l.length - (intOf i).toNat)
  case atStart => exact ⟨0, Nat.zero_le _, rfl, ⟨World.ownsRow_nil _ _ _ _, World.ownsRow_nil _ _ _ _, fun k hk => by simp [Value.ownBlock] at hk⟩, Below.refl _ _⟩
  case round =>
    obtain ⟨k, hk, rfl, hT, hB⟩ := hrel
    have HT := Lib.hid hT
    have HB := Lib.hid hB
    have hzr := hB.size
    clear hT hB
    by_cases hlt : k < l.length
    · obtain ⟨b, off, rfl, hb, hcell⟩ := HA.out (by omega)
      obtain ⟨k0, k1⟩ := hcell k hlt
      have e0 := (HB.out.cell (p := ⟨b, off + k * 2, none⟩) (by show b < _; omega)).trans ((HAw1.out.cell hb).trans k0)
      have e1 := (HB.out.cell (p := ⟨b, off + k * 2 + 1, none⟩) (by show b < _; omega)).trans ((HAw1.out.cell hb).trans k1)
      have HX := Lib.hid (shX_snoc l k hlt)
      have HY := Lib.hid (shY_snoc l k hlt)
      have hxl : (shX (l.take k)).length ≤ k := by rw [shX_len]; exact List.length_take_le _ _
      have hyl : (shY (l.take k)).length ≤ k := by rw [shY_len]; exact List.length_take_le _ _
      have hd1 : decide ((k : Int) < (l.length : Int)) = true := decide_eq_true (by omega)
      have hd2 : decide (k < l.length) = true := decide_eq_true hlt
      clear hcell k0 k1
      go_upto_region 5 with fail
      obtain ⟨wG, ew⟩ : ∃ wG : World, wG = wr.alloc (.cells #[.int .i64 l[k].1, .int .i64 l[k].2] 64) := ⟨_, rfl⟩
      have hbG : Below wr.heap.size wr wG := by rw [ew]; exact (Below.refl _ _).alloc (Nat.le_refl _) _
      have hzG : wr.heap.size < wG.heap.size := by rw [ew]; simp
      have x0 : wG.cell? ⟨wr.heap.size, 0, none⟩ = some (.int .i64 l[k].1) := by rw [ew]; exact cell_of_row _ _ 0 _ _ (0, 0) (heap_alloc_new wr _)
      have x1 : wG.cell? ⟨wr.heap.size, 1, none⟩ = some (.int .i64 l[k].2) := by rw [ew]; exact cell_of_row _ _ 1 _ _ (0, 0) (heap_alloc_new wr _)
      have HTG : Hid (TwoR w1.heap.size wG u6 (shX (l.take k)) u7 (shY (l.take k))) := by show TwoR _ _ _ _ _ _; rw [ew]; exact HT.out.alloc _
      have HG : Hid (∀ q, u6.ownBlock = some q ∨ u7.ownBlock = some q → q ≠ wr.heap.size) := fun q hq => by
        rcases hq with hq | hq
        · have := (HT.out.1.lt q hq).2; omega
        · have := (HT.out.2.1.lt q hq).2; omega
      rw [← ew]
      clear ew
      apply regI5 w1.heap.size wr.heap.size l[k].1 l[k].2 (shX (l.take k)) (shY (l.take k)) u6 u7 wG HTG.out x0 x1 HG.out hzG (by omega) (by omega) (by omega)
      intro q27 q28 q29 q30 q31 q32 q33 q34 q35 q36 v6 v7 w2 hT2 hb2
      have HT2 := Lib.hid hT2
      have HB2 : Hid (Below w1.heap.size w1 w2) := (show Hid _ from (HB.out.trans (hbG.mono hzr)).trans hb2)
      clear hT2 x0 x1 hbG hb2
      go_wp2_with fail
      go_roundw
      case rel => exact ⟨k + 1, by omega, by go_num, by rw [HX.out, HY.out]; exact HT2.out, HB2.out⟩
      case measure => simp [intOf]; omega
    · have hkk : k = l.length := by omega
      have HTT : Hid (TwoR w1.heap.size wr u6 (shX l) u7 (shY l)) := by show TwoR _ _ _ _ _ _; have := HT.out; rwa [hkk, List.take_length] at this
      have hd1 : decide ((k : Int) < (l.length : Int)) = false := decide_eq_false (by omega)
      have hd2 : decide (k < l.length) = false := decide_eq_false hlt
      have hSX : SI wr u6 (shX l) := SI.of_own HTT.out.1 (fun x hx => by
        simp only [shX, List.mem_map] at hx
        obtain ⟨p, hp, rfl⟩ := hx
        exact (HR.out p hp).1)
      have hSY : SI wr u7 (shY l) := SI.of_own HTT.out.2.1 (fun x hx => by
        simp only [shY, List.mem_map] at hx
        obtain ⟨p, hp, rfl⟩ := hx
        exact (HR.out p hp).2)
      obtain ⟨AX, cX, rfl⟩ := hSX.form
      obtain ⟨AY, cY, rfl⟩ := hSY.form
      have HSL := Lib.hid (SL.two hSX hSY 22)
      have HSX := Lib.hid hSX
      have HSY := Lib.hid hSY
      have f0 := HXC.out wr HB.out
      clear hkk hSX hSY hk HT HTT
      obtain ⟨L, eL⟩ : ∃ L, L = l.length := ⟨_, rfl⟩
      rw [shX_len, shY_len] at *
      rw [← eL] at HSL HSX HSY hd1 hd2 hlt ⊢
      have HEL := Lib.hid eL
      have hLb : L ≤ 1000000 := by omega
      clear eL
      go_wp2_with fail
      (with_reducible refine (rlists_any P [shX l, shY l] _ _ hP HSL.out (by simp)).mono ?_)
      rintro e w2 ⟨rfl, hb2⟩
      have hbr2 : Below wr.heap.size wr w2 := ((Below.refl _ _).alloc (Nat.le_refl _) _).trans (hb2.mono (by simp))
      have HB2 : Hid (Below w1.heap.size w1 w2) := (show Hid _ from HB.out.trans (hbr2.mono HB.out.size))
      have HSX2 := Lib.hid (SI.below HSX.out hbr2)
      have HSY2 := Lib.hid (SI.below HSY.out hbr2)
      have HBw2 : Hid (Below w.heap.size w w2) := (show Hid _ from HAw1.out.trans (HB2.out.mono HAw1.out.size))
      obtain ⟨oe, eoe⟩ : ∃ oe, opE P [shX l, shY l] = oe := ⟨_, rfl⟩
      rw [eoe]
      have EOE := Lib.hid eoe
      clear eoe hbr2 hb2 hd1 hd2 f0 hlt
      by_cases h0 : oe = 0
      · subst h0
        obtain ⟨hp, heX, heY, hl1, hl2⟩ := opE_two EOE.out
        have HP := Lib.hid hp
        have HEX := Lib.hid heX
        have HEY := Lib.hid heY
        have hPb := prB_bd hp
        rw [shX_len, ← HEL.out] at hl1
        clear hp heX heY hl2
        have HXL : Hid ((shX l).length = L) := (show Hid _ from by show _ = _; rw [shX_len, HEL.out])
        go_wp2_with fail
        go_loopw [52] (fun i wr => Rj2 (shX l) w2 i wr) (fun i _ => L - (intOf i).toNat)
        case atStart => exact ⟨0, Nat.zero_le _, rfl, by simp, Below.refl _ _⟩
        case round =>
          obtain ⟨k2, hk2, rfl, hnd, hB3⟩ := hrel
          have HND := Lib.hid hnd
          have HB3 := Lib.hid hB3
          have HSXr := Lib.hid (HSX2.out.below hB3)
          rw [HXL.out] at hk2
          clear hnd hB3
          by_cases hlt2 : k2 < L
          · have hd3 : decide (k2 < L) = true := decide_eq_true hlt2
            have hk2x : k2 < (shX l).length := by rw [HXL.out]; exact hlt2
            obtain ⟨bx, ox, eAX, ck⟩ := HSXr.out.at hk2x
            subst eAX
            obtain ⟨xk, exk⟩ : ∃ xk, xk = (shX l)[k2] := ⟨_, rfl⟩
            rw [← exk] at ck
            have HXK := Lib.hid exk
            have hcx := HSXr.out.capB
            rw [HXL.out] at hcx
            have z0 : (0 : Int) ≤ (k2 : Int) := by omega
            have z1 : (k2 : Int) ≤ (cX : Int) := by omega
            have HCX : Hid (∀ W, Below wr.heap.size wr W → W.cell? ⟨bx, ox + k2, none⟩ = some (.int .i64 xk)) := (show Hid _ from fun W hb => (hb.cell (cell_blk ck)).trans ck)
            obtain ⟨wo, ewo⟩ : ∃ wo : World, wo = wr := ⟨_, rfl⟩
            rw [← ewo] at HSXr HB3 HCX ⊢
            clear exk ck ewo
            go_wp2_with fail
            go_loopw [59] (fun i wr => ∃ j : Nat, j ≤ k2 ∧ i = .int .i64 j ∧ (∀ q (hq : q < j) (h : q < (shX l).length), xk ≠ (shX l)[q]) ∧ Below wo.heap.size wo wr) (fun i _ => k2 - (intOf i).toNat)
            case atStart => exact ⟨0, Nat.zero_le _, rfl, fun q hq => by omega, Below.refl _ _⟩
            case round =>
              obtain ⟨j, hj, rfl, hne, hb4⟩ := hrel
              have HNE := Lib.hid hne
              have HB4 := Lib.hid hb4
              clear hne hb4
              by_cases hlj : j < k2
              · have dj : decide (j < k2) = true := decide_eq_true hlj
                have hjx : j < (shX l).length := by rw [HXL.out]; omega
                obtain ⟨bx', ox', eAX, cj⟩ := (HSXr.out.below HB4.out).at hjx
                injection eAX with eAX
                injection eAX with ebx eox _
                subst ebx eox
                have ck := HCX.out wr HB4.out
                obtain ⟨xj, exj⟩ : ∃ xj, xj = (shX l)[j] := ⟨_, rfl⟩
                rw [← exj] at cj
                have HXJ := Lib.hid exj
                have z3 : (0 : Int) ≤ (j : Int) := by omega
                have z4 : (j : Int) < (L : Int) := by omega
                have z5 : (k2 : Int) < (L : Int) := by omega
                clear exj
                by_cases hxx : xk = xj
                · have dx : (xk == xj) = true := by rw [beq_iff_eq]; exact hxx
                  have HE := Lib.hid (inE_7 EOE.out (fun hnd => by
                    have h1 : (shX l)[k2]'(by rw [HXL.out]; exact hlt2) = (shX l)[j] := by rw [← HXK.out, ← HXJ.out]; exact hxx
                    have h2 := (List.getElem_inj hnd).1 h1
                    omega))
                  have HBf : Hid (Below w.heap.size w wr) := (show Hid _ from HBw2.out.trans ((HB3.out.trans (HB4.out.mono HB3.out.size)).mono HBw2.out.size))
                  go_upto_region 16 with fail
                  go_quiet (fail)
                  go_wp2_with fail
                  go_ret2
                  refine ⟨.slice none 0 0, by rw [HE.out.1]; rfl, by rw [HE.out.2]; exact World.ownsRow_nil _ _ _ _, by first | exact HBf.out | exact Below.drewN HBf.out _⟩
                · have dx : (xk == xj) = false := by rw [beq_eq_false_iff_ne]; exact hxx
                  have hxxh := Lib.hid hxx
                  clear hxx
                  go_upto_region 16 with fail
                  go_quiet (fail)
                  go_wp2_with fail
                  go_roundw
                  case rel => exact ⟨j + 1, by omega, by go_num, fun q hq h => by
                    rcases Nat.lt_or_ge q j with h1 | h1
                    · exact HNE.out q h1 h
                    · have e : q = j := by omega
                      subst e; rw [← HXJ.out]; exact hxxh.out, by first | exact HB4.out | exact Below.drewN HB4.out _⟩
                  case measure => simp [intOf]; omega
              · have dj : decide (j < k2) = false := decide_eq_false hlj
                have HN2 : Hid (((shX l).take (k2 + 1)).Nodup) := (show Hid _ from nodup_take (by rw [HXL.out]; exact hlt2) HND.out fun q hq => by
                  rw [← HXK.out]; exact HNE.out q (by omega) (by rw [HXL.out]; omega))
                go_wp2_with fail
                go_roundw
                case rel => exact ⟨k2 + 1, by rw [HXL.out]; omega, by go_num, HN2.out, HB3.out.trans (HB4.out.mono HB3.out.size)⟩
                case measure => simp [intOf]; omega
          · have hd3 : decide (k2 < L) = false := decide_eq_false hlt2
            have HNO : Hid ((shX l).Nodup) := (show Hid _ from by
              have h := HND.out
              rw [List.take_of_length_le (by rw [HXL.out]; omega)] at h; exact h)
            have HSYr := Lib.hid (HSY2.out.below HB3.out)
            have HBw3 : Hid (Below w1.heap.size w1 wr) := (show Hid _ from HB2.out.trans (HB3.out.mono HB2.out.size))
            obtain ⟨w3, ew3⟩ : ∃ w3 : World, w3 = wr.alloc (.cells #[.int .i64 1] 3) := ⟨_, rfl⟩
            have HW3 : Hid (wr.alloc (.cells #[.int .i64 1] 3) = w3) := ew3.symm
            have HA3 : Hid (Below wr.heap.size wr w3) := (show Hid _ from by rw [ew3]; exact (Below.refl _ _).alloc (Nat.le_refl _) _)
            have HK3 : Hid (BK w3 wr.heap.size [1]) := (show Hid _ from by rw [ew3]; exact heap_alloc_new wr _)
            have HN3 : Hid (SI w3 (.slice (some ⟨wr.heap.size, 0, none⟩) 1 1) [1]) := (show Hid _ from HK3.out.si0 (fun x hx => by simp at hx; subst hx; unfold i64r; omega) (by simp))
            have HSX3 := Lib.hid (HSXr.out.below HA3.out)
            have HSY3 := Lib.hid (HSYr.out.below HA3.out)
            have HB13 : Hid (Below w1.heap.size w1 w3) := (show Hid _ from HBw3.out.trans (HA3.out.mono HBw3.out.size))
            clear ew3
            go_upto_region 22 with fail
            rw [HW3.out]
            go_wp2_with fail
            clear HSL HSX HSY HSX2 HSY2 HSXr HSYr HND HB3 hd3
            go_loopw [76, 13, 14] (fun i vp vn wr => InR3 P l w3.heap.size w3 i vp vn wr) (fun i _ _ _ => L - (intOf i).toNat)
            case atStart => exact ⟨0, Nat.zero_le _, rfl, SI_nil' _, HN3.out, Below.refl _ _⟩
            case round =>
              obtain ⟨k, hk, rfl, hvp, hvn, hb⟩ := hrel
              rw [← HEL.out] at hk
              have HVP := Lib.hid hvp
              have HVN := Lib.hid hvn
              have HB := Lib.hid hb
              have HB1r : Hid (Below w1.heap.size w1 wr) := (show Hid _ from HB13.out.trans (hb.mono HB13.out.size))
              obtain ⟨AP, cp, evp⟩ := hvp.form
              obtain ⟨AN, cn, evn⟩ := hvn.form
              subst evp evn
              clear hvp hvn hb
              have hn1 := newt_len P (l.take k)
              have hlk : (l.take k).length = k := by rw [List.length_take, ← HEL.out]; omega
              rw [hlk] at hn1
              obtain ⟨he1, he2⟩ := newt_els hPb.1 (l.take k)
              have HE1 := Lib.hid he1
              have HE2 := Lib.hid he2
              by_cases hlt : k < L
              · have hd4 : decide (k < L) = true := decide_eq_true hlt
                have hkl : k < l.length := by rw [← HEL.out]; exact hlt
                have HNW := Lib.hid (newt_snoc P l k hkl)
                have hsX : (shX l)[k]'(by rw [HXL.out]; exact hlt) = l[k].1 := by simp [shX]
                have hsY : (shY l)[k]'(by rw [shY_len]; exact hkl) = l[k].2 := by simp [shY]
                have hex := el_t (els_all HEX.out l[k].1 (by rw [← hsX]; exact List.getElem_mem _))
                have hey := el_t (els_all HEY.out l[k].2 (by rw [← hsY]; exact List.getElem_mem _))
                obtain ⟨bx, ox, eAX, cxk⟩ := (HSX3.out.below HB.out).at (k := k) (by rw [HXL.out]; exact hlt)
                obtain ⟨by_, oy, eAY, cyk⟩ := HSY3.out.at (k := k) (by rw [shY_len]; exact hkl)
                subst eAX eAY
                rw [hsX] at cxk
                rw [hsY] at cyk
                have HNZ : Hid (P = 2 → val P (newt P (l.take k)).2 l[k].1 ≠ 0) := (show Hid _ from fun e => by
                  have h := HEX.out
                  subst e
                  exact nz2 HNO.out h hkl)
                have HCY : Hid (∀ W, Below w3.heap.size w3 W → W.cell? ⟨by_, oy + k, none⟩ = some (.int .i64 l[k].2)) := (show Hid _ from fun W hb => (hb.cell (cell_blk cyk)).trans cyk)
                have HBYN : Hid (byN P (newt P (l.take k)) l[k] = (l[k].2 - val P (newt P (l.take k)).1 l[k].1 + P) % P * inv P (val P (newt P (l.take k)).2 l[k].1) % P) := rfl
                obtain ⟨s, es⟩ : ∃ s, s = newt P (l.take k) := ⟨_, rfl⟩
                rw [← es] at HNW HVP HVN HE1 HE2 HNZ HBYN hn1 ⊢
                have HNWS : Hid (newt P (l.take (k + 1)) = (addT P (padd s.1 s.2.length) 0 (byN P s l[k]) s.2, timesP P s.2 [(0 - l[k].1 + P) % P, 1])) := HNW.out
                obtain ⟨s1, s2⟩ := s
                obtain ⟨x, ex⟩ : ∃ x, x = l[k].1 := ⟨_, rfl⟩
                obtain ⟨y, ey⟩ : ∃ y, y = l[k].2 := ⟨_, rfl⟩
                obtain ⟨c', ec⟩ : ∃ c', c' = byN P (s1, s2) l[k] := ⟨_, rfl⟩
                simp only [] at HNWS HVP HVN HE1 HE2 HNZ HBYN hn1 ⊢
                rw [← ex] at hex cxk HNZ HBYN HNWS
                rw [← ey] at hey HCY HBYN
                rw [← ec] at HBYN HNWS
                obtain ⟨yv, eyv⟩ : ∃ yv, yv = val P s1 x := ⟨_, rfl⟩
                obtain ⟨zv, ezv⟩ : ∃ zv, zv = val P s2 x := ⟨_, rfl⟩
                rw [← eyv] at HBYN
                rw [← ezv] at HBYN HNZ
                have hyv : 0 ≤ yv ∧ yv < P := by rw [eyv]; exact val_bd hPb.1 _ _
                have hzv : 0 ≤ zv ∧ zv < P := by rw [ezv]; exact val_bd hPb.1 _ _
                obtain ⟨n1, en1⟩ : ∃ n1, n1 = s1.length := ⟨_, rfl⟩
                obtain ⟨n2, en2⟩ : ∃ n2, n2 = s2.length := ⟨_, rfl⟩
                rw [← en1, ← en2] at hn1
                rw [← en1] at HVP ⊢
                rw [← en2] at HVN ⊢
                have hn1a : n1 ≤ k := by have := hn1.1; split at this <;> omega
                have hn2a : n2 = k + 1 := hn1.2
                have hn2b : n2 ≤ 513 := by omega
                have hn1b : n1 ≤ n2 := by omega
                clear hn1a hn2a
                have HL1 : Hid (s1.length = n1) := en1.symm
                have HL2 : Hid (s2.length = n2) := en2.symm
                have HV : Hid (∀ W a r, Below wr.heap.size wr W → (a = .slice AP n1 cp ∧ r = yv ∨ a = .slice AN n2 cn ∧ r = zv) → Calls Try.prog 49 #[.agg #[.int .i64 P], a, .int .i64 x] W fun e w' => e = .returned (.int .i64 r) ∧ Below W.heap.size W w') := (show Hid _ from fun W a r hb h => by
                  rcases h with ⟨rfl, rfl⟩ | ⟨rfl, rfl⟩
                  · rw [eyv]; exact rvalue_any P x s1 _ W hPb hex HE1.out (by omega) (HVP.out.below hb)
                  · rw [ezv]; exact rvalue_any P x s2 _ W hPb hex HE2.out (by omega) (HVN.out.below hb))
                have HX0 : Hid (∀ W, Below wr.heap.size wr W → W.cell? ⟨F, 0, none⟩ = some (.int .i64 P)) := (show Hid _ from fun W hb => HXC.out W (HB1r.out.trans (hb.mono HB1r.out.size)))
                clear es ex ey ec eyv ezv en1 en2 hsX hsY he1 he2 cyk hn1 HNW
                have z0 : (0 : Int) ≤ (k : Int) := by omega
                have z1 : (k : Int) < (L : Int) := by omega
                go_upto_region 25 with fail
                apply regI25 F P x yv zv (.slice AP n1 cp) (.slice AN n2 cn) wr HX0.out HV.out
                intro q81 q82 q83 q84 q85 q86 q87 q88 w5 hb5
                have HB5 := Lib.hid hb5
                have hP0 : ¬ P = 0 := by omega
                obtain ⟨m, em⟩ : ∃ m, m = (y + P - yv) % P := ⟨_, rfl⟩
                have hm : 0 ≤ m ∧ m < P := by rw [em]; exact ⟨Int.emod_nonneg _ (by omega), Int.emod_lt_of_pos _ (by omega)⟩
                obtain ⟨iv, eiv⟩ : ∃ iv, iv = inv P zv := ⟨_, rfl⟩
                have hiv : 0 ≤ iv ∧ iv < P := by rw [eiv]; exact inv_bd hPb.1 _
                have hmi := mul_bd hm hiv hPb.2
                have a1 : IntKind.i64.wrap (y + P) = y + P := by exact IntWalk.i64_in _ (by omega)
                have a2 : IntKind.i64.wrap (y + P - yv) = y + P - yv := by exact IntWalk.i64_in _ (by omega)
                have a3 : (y + P - yv).tmod P = m := by rw [em]; exact Int.tmod_eq_emod_of_nonneg (by omega)
                have a5 : IntKind.i64.wrap (m * iv) = m * iv := by exact IntWalk.i64_in _ (by omega)
                have a6 : (m * iv).tmod P = c' := by
                  rw [HBYN.out, ← eiv, show y - yv + P = y + P - yv by omega, ← em]
                  exact Int.tmod_eq_emod_of_nonneg (by omega)
                have hc' : 0 ≤ c' ∧ c' < P := by rw [HBYN.out]; exact ⟨Int.emod_nonneg _ (by omega), Int.emod_lt_of_pos _ (by omega)⟩
                have HXY : Hid (∀ W, Below w5.heap.size w5 W → W.cell? ⟨F, 0, none⟩ = some (.int .i64 P) ∧ W.cell? ⟨by_, oy + k, none⟩ = some (.int .i64 y)) := (show Hid _ from fun W hb => ⟨HX0.out W (HB5.out.trans (hb.mono HB5.out.size)), HCY.out W (HB.out.trans ((HB5.out.trans (hb.mono HB5.out.size)).mono HB.out.size))⟩)
                have HINV : Hid (∀ W, Below w5.heap.size w5 W → Calls Try.prog 50 #[.agg #[.int .i64 P], .int .i64 zv] W fun e w' => e = .returned (.int .i64 iv) ∧ Below W.heap.size W w') := (show Hid _ from fun W _ => by rw [eiv]; exact rinv_any P zv W hPb hzv HNZ.out)
                clear hb5 em eiv hmi hm hiv cxk
                go_upto_region 26 with fail
                apply regI26 F by_ oy L cY k P y yv zv iv m c' w5 hlt hP0 a1 a2 a3 a5 a6 HXY.out HINV.out
                intro q89 q90 q91 q92 q93 q94 q95 q96 q97 q98 q99 q100 q101 q102 q103 q104 q105 q106 q107 w6 hb6
                have HB6 : Hid (Below wr.heap.size wr w6) := (show Hid _ from HB5.out.trans (hb6.mono HB5.out.size))
                have HVP6 := Lib.hid (HVP.out.below HB6.out)
                have HVN6 := Lib.hid (HVN.out.below HB6.out)
                have HB16 : Hid (Below w1.heap.size w1 w6) := (show Hid _ from HB1r.out.trans (HB6.out.mono HB1r.out.size))
                have HB36 : Hid (Below w3.heap.size w3 w6) := (show Hid _ from HB.out.trans (HB6.out.mono HB.out.size))
                obtain ⟨y6, ey6⟩ : ∃ y6 : World, y6 = w6 := ⟨_, rfl⟩
                rw [← ey6] at HVP6 HVN6 HB16 HB36 ⊢
                clear hb6 a1 a2 a3 a5 a6 HXY HINV HX0 HV HCY HNZ hyv hzv hey HB5 HB6 ey6
                obtain ⟨wA, eA⟩ : ∃ wA : World, wA = y6.alloc (.cells ((zeros n2).map (Value.int .i64)).toArray 3) := ⟨_, rfl⟩
                have hbA : Below y6.heap.size y6 wA := by rw [eA]; exact (Below.refl _ _).alloc (Nat.le_refl _) _
                have HKA : Hid (wA.heap[y6.heap.size]? = some (.cells ((zeros n2).map (Value.int .i64)).toArray 3 (0, 0))) := (show Hid _ from by rw [eA]; exact heap_alloc_new y6 _)
                have HVPA := Lib.hid (HVP6.out.below hbA)
                have HPOS : Hid (0 < (s1.map (Value.int .i64)).length → some (⟨y6.heap.size, 0, none⟩ : Addr) = some ⟨y6.heap.size, 0, none⟩ ∧ ∃ ad, AP = some ad ∧ ∀ j v, (s1.map (Value.int .i64))[j]? = some v → wA.cell? (ad.add j) = some v) := fun h0 => by
                  refine ⟨rfl, ?_⟩
                  obtain ⟨b, off, e, _, hcs⟩ := SB.cells HVPA.out (by simpa using h0)
                  refine ⟨⟨b, off, none⟩, e, fun j v hv => ?_⟩
                  rw [List.getElem?_map] at hv
                  obtain ⟨q, hq, rfl⟩ := Option.map_eq_some_iff.1 hv
                  obtain ⟨hj, rfl⟩ := List.getElem?_eq_some_iff.1 hq
                  rw [Addr.add_lit]
                  exact hcs j hj
                have hs3 : s1.length ≤ n2 := by rw [HL1.out]; omega
                have HS3 := Lib.hid hs3
                clear hs3
                go_wp2_with (first
                  | (at_make; refine wpList_make_ints _ rfl _ _ 22 rfl 3 Try.underlying22 iinfo _ n2 rfl rfl rfl (by omega) ?_; rw [← eA]; clear eA)
                  | (with_reducible refine wpList_copy_splice rfl (.tmp 111) (.tmp 112) 22 22 rfl 3 Try.underlying22 isz (some ⟨y6.heap.size, 0, none⟩) AP n2 n2 n1 cp rfl rfl y6.heap.size 0 ((zeros n2).map (Value.int .i64)) 3 HKA.out (s1.map (Value.int .i64)) (by rw [List.length_map, HL1.out]; have := HS3.out; rw [HL1.out] at this; exact (Nat.min_eq_left this).symm) (by exact HPOS.out) (by simp [zeros]; exact HS3.out) (one_ints s1) y6.heap.size y6 hbA (Nat.le_refl _) ?_; intro w7 hg7 hb7))
                have HB7 : Hid (BK w7 y6.heap.size (padd s1 n2)) := by
                  show w7.heap[y6.heap.size]? = _
                  rw [← splice_pad s1 n2 HS3.out]; exact hg7.out
                have HB67 : Hid (Below y6.heap.size y6 w7) := hb7
                have hpe : els P (padd s1 n2) = true := by
                  refine els_of fun z hz => ?_
                  simp only [padd, List.mem_append] at hz
                  rcases hz with hz | hz
                  · exact els_all HE1.out z hz
                  · exact els_all (zeros_els hPb.1 _) z hz
                have HPE := Lib.hid hpe
                have hpl : (padd s1 n2).length = n2 := by have := HS3.out; simp [padd, zeros]; omega
                have HPL := Lib.hid hpl
                obtain ⟨pp, epp⟩ : ∃ pp, pp = padd s1 n2 := ⟨_, rfl⟩
                have HNW2 : Hid (newt P (l.take (k + 1)) = (addT P pp 0 c' s2, timesP P s2 [(0 - x + P) % P, 1])) := (show Hid _ from by show _ = _; rw [HNWS.out, HL2.out, epp])
                rw [← epp] at HB7 HPE HPL
                clear hg7 hpe hpl hb7 HKA HVPA HPOS hbA HNWS epp HBYN
                obtain ⟨b, eb⟩ : ∃ b, b = y6.heap.size := ⟨_, rfl⟩
                rw [← eb] at HB7 ⊢
                have HEB := Lib.hid eb
                clear eb
                go_wp2_with fail
                go_loopw [116] (fun iv wr => Cm4 P pp c' s2 b y6 iv wr) (fun iv _ => n2 - (intOf iv).toNat)
                case atStart => exact ⟨0, Nat.zero_le _, rfl, by rw [List.take_zero, addT_zero]; exact HB7.out, HB67.out⟩
                case round =>
                  obtain ⟨j, hj, rfl, hbk, hb8⟩ := hrel
                  have HBKk := Lib.hid hbk
                  have HBk := Lib.hid hb8
                  have HBk1 : Hid (Below w1.heap.size w1 wr) := (show Hid _ from HB16.out.trans (hb8.mono HB16.out.size))
                  rw [HL2.out] at hj
                  clear hbk hb8
                  by_cases hlj : j < n2
                  · have dk : decide (j < n2) = true := decide_eq_true hlj
                    have hjl : j < s2.length := by rw [HL2.out]; exact hlj
                    obtain ⟨bb, ob, eB, ck⟩ := (HVN6.out.below HBk.out).at hjl
                    subst eB
                    have f0 := HXC.out wr HBk1.out
                    have hlen2 : (addT P pp 0 c' (s2.take j)).length = n2 := by rw [addT_len]; exact HPL.out
                    have htk := HBKk.out.cell (j := j) (by rw [hlen2]; omega)
                    have hfk := HBKk.out.frozen j
                    have hel := el_t (els_gd hPb.1 (addT_els hPb.1 HPE.out 0 c' (s2.take j)) j)
                    have hel2 := el_t (els_all HE2.out _ (List.getElem_mem hjl))
                    rw [← gd_lt] at htk
                    obtain ⟨t', ht⟩ : ∃ t', t' = gd (addT P pp 0 c' (s2.take j)) j := ⟨_, rfl⟩
                    rw [← ht] at htk hel
                    obtain ⟨u, hu⟩ : ∃ u, u = s2[j] := ⟨_, rfl⟩
                    rw [← hu] at ck hel2
                    have HST : Hid (addT P pp 0 c' (s2.take (j + 1)) = (addT P pp 0 c' (s2.take j)).set j ((t' + c' * u) % P)) := by
                      have h := addT_step P pp 0 c' s2 j hjl (by rw [HPL.out, HL2.out]; omega)
                      rw [Nat.zero_add] at h
                      show _ = _
                      rw [ht, hu]; exact h
                    have hxy := mul_bd hc' hel2 hPb.2
                    have w1_ : IntKind.i64.wrap (c' * u) = c' * u := by exact IntWalk.i64_in _ (by omega)
                    have w2_ : IntKind.i64.wrap (t' + c' * u) = t' + c' * u := by exact IntWalk.i64_in _ (by omega)
                    have w3_ : (t' + c' * u).tmod P = (t' + c' * u) % P := Int.tmod_eq_emod_of_nonneg (by omega)
                    have w4_ : IntKind.i64.wrap ((t' + c' * u) % P) = (t' + c' * u) % P := by
                      have h1 := Int.emod_nonneg (t' + c' * u) (show P ≠ 0 by omega)
                      have h2 := Int.emod_lt_of_pos (t' + c' * u) (show 0 < P by omega)
                      exact IntWalk.i64_in _ (by omega)
                    have z1 : (0 : Int) ≤ (j : Int) := by omega
                    have z2 : (j : Int) < (n2 : Int) := by omega
                    clear ht hu hlen2 hel hel2 hxy
                    go_upto_region 32 with fail
                    go_region
                    all_goals
                      go_wp2_with fail
                      go_roundw
                      case rel => exact ⟨j + 1, by rw [HL2.out]; omega, by go_num, by rw [HST.out]; exact HBKk.out.set _ _, by first | exact HBk.out.setCell (by have := HEB.out; show _ ≤ b; omega) _ | exact (Below.drewN (HBk.out.setCell (by have := HEB.out; show _ ≤ b; omega) _) _)⟩
                      case measure => simp [intOf]; omega
                  · have dk : decide (j < n2) = false := decide_eq_false hlj
                    have HFK : Hid (BK wr b (newt P (l.take (k + 1))).1) := (show Hid _ from by
                      have h := HBKk.out
                      rw [List.take_of_length_le (by rw [HL2.out]; omega)] at h
                      rw [HNW2.out]; exact h)
                    have HPN : Hid (SI wr (.slice (some ⟨b, 0, none⟩) n2 n2) (newt P (l.take (k + 1))).1) := (show Hid _ from by
                      have h := HFK.out.si0 (els_r hPb.2 (newt_els hPb.1 _).1) (by rw [HNW2.out]; show (addT P pp 0 c' s2).length ≤ _; rw [addT_len, HPL.out]; omega)
                      have e : (newt P (l.take (k + 1))).1.length = n2 := by rw [HNW2.out]; show (addT P pp 0 c' s2).length = _; rw [addT_len, HPL.out]
                      rw [e] at h; exact h)
                    have HVNr := Lib.hid (HVN6.out.below HBk.out)
                    obtain ⟨wz, ewz⟩ : ∃ wz : World, wz = wr := ⟨_, rfl⟩
                    rw [← ewz] at HPN HVNr HBk HBk1 ⊢
                    clear ewz HFK HBKk
                    obtain ⟨b2, eb2⟩ : ∃ b2, b2 = wz.heap.size := ⟨_, rfl⟩
                    obtain ⟨n3, en3⟩ : ∃ n3, n3 = n2 + 1 := ⟨_, rfl⟩
                    have wn3 : IntKind.i64.wrap ((n2 : Int) + 1) = (n3 : Int) := by rw [en3]; exact IntWalk.i64_in _ (by omega)
                    obtain ⟨wB, eB⟩ : ∃ wB : World, wB = wz.alloc (.cells ((zeros n3).map (Value.int .i64)).toArray 3) := ⟨_, rfl⟩
                    have HBB : Hid (Below wz.heap.size wz wB) := (show Hid _ from by rw [eB]; exact (Below.refl _ _).alloc (Nat.le_refl _) _)
                    have HKB : Hid (BK wB b2 (timesK P s2 [(0 - x + P) % P, 1] 0)) := (show Hid _ from by
                      have e : timesK P s2 [(0 - x + P) % P, 1] 0 = zeros n3 := by
                        show zeros (s2.length + 2 - 1) = _
                        rw [HL2.out, en3]; rfl
                      rw [e, eB, eb2]; exact heap_alloc_new wz _)
                    have HEB2 := Lib.hid eb2
                    have hn3b : n3 ≤ 1000000 := by omega
                    have HN3E := Lib.hid en3
                    clear en3
                    go_wp2_with (at_make; refine wpList_make_ints _ rfl _ _ 22 rfl 3 Try.underlying22 iinfo _ n3 (by first | rfl | simp [wn3]) (by first | rfl | simp [wn3]) rfl (by omega) ?_; rw [← eB, ← eb2]; clear eB eb2)
                    go_loopw [144] (fun iv wr => Rj3 P x s2 b2 wz iv wr) (fun iv _ => n2 - (intOf iv).toNat)
                    case atStart => exact ⟨0, Nat.zero_le _, rfl, HKB.out, HBB.out⟩
                    case round =>
                      obtain ⟨i, hi, rfl, hbk, hb9⟩ := hrel
                      have HBK2 := Lib.hid hbk
                      have HB2 := Lib.hid hb9
                      have HB21 : Hid (Below w1.heap.size w1 wr) := (show Hid _ from HBk1.out.trans (hb9.mono HBk1.out.size))
                      rw [HL2.out] at hi
                      clear hbk hb9
                      by_cases hli : i < n2
                      · have di : decide (i < n2) = true := decide_eq_true hli
                        have his : i < s2.length := by rw [HL2.out]; exact hli
                        obtain ⟨bb, ob, eB, ck⟩ := (HVNr.out.below HB2.out).at his
                        subst eB
                        have f0 := HXC.out wr HB21.out
                        have HBQ : Hid (wz.heap.size ≤ b2) := (show Hid _ from by show _ ≤ _; rw [HEB2.out]; exact Nat.le_refl _)
                        obtain ⟨ll, ell⟩ : ∃ ll, ll = timesK P s2 [(0 - x + P) % P, 1] i := ⟨_, rfl⟩
                        rw [← ell] at HBK2
                        have hlen : ll.length = n3 := by rw [ell, timesK_len, HL2.out, HN3E.out]; rfl
                        have hell : els P ll = true := by rw [ell]; exact timesK_els hPb.1 ..
                        obtain ⟨i1, ei1⟩ : ∃ i1, i1 = i + 1 := ⟨_, rfl⟩
                        obtain ⟨u, eu⟩ : ∃ u, u = s2[i] := ⟨_, rfl⟩
                        have hub := el_t (els_all HE2.out _ (List.getElem_mem his))
                        rw [← eu] at ck hub
                        have HNX : Hid (timesK P s2 [(0 - x + P) % P, 1] (i + 1) = (ll.set i1 ((gd ll i1 + u) % P)).set i ((gd ll i + (P - x) * u) % P)) := (show Hid _ from by
                          show _ = _
                          rw [timesK_succ, ← ell, gd_lt his, ← eu, ei1]
                          exact (wide_step ll i (by have := HN3E.out; omega)).symm)
                        have hg1 := el_t (els_gd hPb.1 hell i1)
                        have hg2 := el_t (els_gd hPb.1 hell i)
                        have ct1 : wr.cell? ⟨b2, i1, none⟩ = some (.int .i64 (gd ll i1)) := by
                          have h : i1 < ll.length := by have := HN3E.out; omega
                          rw [gd_lt h]; exact HBK2.out.cell h
                        have cf1 := HBK2.out.frozen i1
                        obtain ⟨t1, et1⟩ : ∃ t1, t1 = gd ll i1 := ⟨_, rfl⟩
                        obtain ⟨t2, et2⟩ : ∃ t2, t2 = gd ll i := ⟨_, rfl⟩
                        rw [← et1] at ct1 hg1 HNX
                        rw [← et2] at hg2 HNX
                        obtain ⟨v1, ev1⟩ : ∃ v1, v1 = (t1 + u) % P := ⟨_, rfl⟩
                        have hv1 : 0 ≤ v1 ∧ v1 < P := by rw [ev1]; exact ⟨Int.emod_nonneg _ (by omega), Int.emod_lt_of_pos _ (by omega)⟩
                        have w1_ : IntKind.i64.wrap (t1 + u) = t1 + u := by exact IntWalk.i64_in _ (by omega)
                        have w2_ : (t1 + u).tmod P = v1 := by rw [ev1]; exact Int.tmod_eq_emod_of_nonneg (by omega)
                        have w3_ : IntKind.i64.wrap v1 = v1 := by exact IntWalk.i64_in _ (by omega)
                        have wi1 : IntKind.i64.wrap ((i : Int) + 1) = (i1 : Int) := by rw [show (i : Int) + 1 = (i1 : Int) by omega]; exact IntWalk.i64_in _ (by omega)
                        rw [← ev1] at HNX
                        have z1 : (0 : Int) ≤ (i1 : Int) := by omega
                        have z2 : (i1 : Int) < (n3 : Int) := by have := HN3E.out; omega
                        have z3 : (0 : Int) ≤ (i : Int) := by omega
                        have z4 : (i : Int) < (n3 : Int) := by have := HN3E.out; omega
                        have z5 : (i : Int) < (n2 : Int) := by omega
                        have HI1 := Lib.hid ei1
                        have HLN := Lib.hid hlen
                        have HGT : Hid (t2 = gd ll i) := et2
                        clear ell eu et1 et2 ev1 ei1 hlen hell
                        go_upto_region 39 with fail
                        go_region
                        obtain ⟨w7', ew7⟩ : ∃ w7' : World, w7' = (wr.setCell ⟨b2, i1, none⟩ (.int .i64 v1)).drew := ⟨_, rfl⟩
                        have HBK7 : Hid (BK w7' b2 (ll.set i1 v1)) := (show Hid _ from by rw [ew7]; exact HBK2.out.set i1 v1)
                        have HB7' : Hid (Below wz.heap.size wz w7') := (show Hid _ from by rw [ew7]; exact (HB2.out.setCell (by exact HBQ.out) _).drew)
                        rw [← ew7]
                        clear ew7 f0 ct1 cf1 ck w1_ w2_ w3_ wi1 z1 z2
                        have hln := HLN.out
                        have hgi : gd (ll.set i1 v1) i = t2 := by rw [gd_set _ _ _ _ (by have := HI1.out; have := HN3E.out; omega), if_neg (by have := HI1.out; omega), HGT.out]
                        obtain ⟨l2, el2⟩ : ∃ l2, l2 = ll.set i1 v1 := ⟨_, rfl⟩
                        rw [← el2] at HBK7 HNX hgi
                        have hl2 : l2.length = n3 := by rw [el2, List.length_set]; exact hln
                        have ct : w7'.cell? ⟨b2, i, none⟩ = some (.int .i64 t2) := by
                          have h : i < l2.length := by have := HN3E.out; omega
                          rw [← hgi, gd_lt h]; exact HBK7.out.cell h
                        have cf := HBK7.out.frozen i
                        have f0 := HXC.out w7' (HBk1.out.trans (HB7'.out.mono HBk1.out.size))
                        obtain ⟨m, em⟩ : ∃ m, m = (P - x) * u := ⟨_, rfl⟩
                        have hm := mul_bd' (a := P - x) (b := u) (P := P) (by omega) hub hPb.2
                        rw [← em] at hm HNX
                        obtain ⟨v2, ev2⟩ : ∃ v2, v2 = (t2 + m) % P := ⟨_, rfl⟩
                        have hv2 : 0 ≤ v2 ∧ v2 < P := by rw [ev2]; exact ⟨Int.emod_nonneg _ (by omega), Int.emod_lt_of_pos _ (by omega)⟩
                        have w0_ : IntKind.i64.wrap (P - x) = P - x := by exact IntWalk.i64_in _ (by omega)
                        have w1_ : IntKind.i64.wrap ((P - x) * u) = m := by rw [← em]; exact IntWalk.i64_in _ (by omega)
                        have w2_ : IntKind.i64.wrap (t2 + m) = t2 + m := by exact IntWalk.i64_in _ (by omega)
                        have w3_ : (t2 + m).tmod P = v2 := by rw [ev2]; exact Int.tmod_eq_emod_of_nonneg (by omega)
                        have w4_ : IntKind.i64.wrap v2 = v2 := by exact IntWalk.i64_in _ (by omega)
                        rw [← ev2] at HNX
                        clear em ev2 el2 hgi hl2 hln
                        go_upto_region 40 with fail
                        go_region
                        all_goals
                          go_wp2_with fail
                          go_roundw
                          case rel => exact ⟨i + 1, by rw [HL2.out]; omega, by go_num, by rw [HNX.out]; exact HBK7.out.set _ _, by first | exact HB7'.out.setCell (by exact HBQ.out) _ | exact Below.drewN (HB7'.out.setCell (by exact HBQ.out) _) _⟩
                          case measure => simp [intOf]; omega
                      · have di : decide (i < n2) = false := decide_eq_false hli
                        have hin : i = n2 := by omega
                        have HNN : Hid (SI wr (.slice (some ⟨b2, 0, none⟩) n3 n3) (newt P (l.take (k + 1))).2) := (show Hid _ from by
                          have h := HBK2.out
                          have e : timesK P s2 [(0 - x + P) % P, 1] i = (newt P (l.take (k + 1))).2 := by rw [HNW2.out, hin, ← HL2.out]; rfl
                          rw [e] at h
                          have e2 : (newt P (l.take (k + 1))).2.length = n3 := by rw [← e, timesK_len, HL2.out, HN3E.out]; rfl
                          have h2 := h.si0 (els_r hPb.2 (newt_els hPb.1 _).2) (by rw [e2]; exact hn3b)
                          rw [e2] at h2; exact h2)
                        have HPNr := Lib.hid (HPN.out.below HB2.out)
                        have HBf : Hid (Below w3.heap.size w3 wr) := (show Hid _ from HB36.out.trans ((HBk.out.trans (HB2.out.mono HBk.out.size)).mono HB36.out.size))
                        clear hin
                        go_wp2_with fail
                        go_roundw
                        case rel => exact ⟨k + 1, by rw [← HEL.out]; omega, by go_num, HPNr.out, HNN.out, HBf.out⟩
                        case measure => simp [intOf]; omega
              · have hd4 : decide (k < L) = false := decide_eq_false hlt
                have hkL : l.take k = l := List.take_of_length_le (by rw [← HEL.out]; omega)
                rw [hkL] at HVP hn1
                have HVPf := HVP
                have hpl : (newt P l).1.length ≤ 1000000 := by have := hn1.1; split at this <;> omega
                have HE := Lib.hid (inE_0 EOE.out HNO.out)
                rw [hkL]
                clear hkL hn1 hlk
                go_wp2_with fail
                (with_reducible refine (rtrim_any (newt P l).1 _ wr HVPf.out hpl).mono ?_)
                rintro e w9 ⟨v', rfl, ho9, hb9⟩
                have HO9 := Lib.hid ho9
                have HB9 : Hid (Below w1.heap.size w1 w9) := (show Hid _ from HB1r.out.trans (hb9.mono HB1r.out.size))
                have hbs : w.heap.size ≤ wr.heap.size := by have := HB1r.out.size; omega
                clear ho9 hb9
                go_wp2_with fail
                go_ret2
                refine ⟨v', by rw [HE.out.1]; rfl, ?_, HAw1.out.trans (HB9.out.mono HAw1.out.size)⟩
                rw [HE.out.2]
                exact own_lower HO9.out hbs
      · have HE := Lib.hid (inE_op (by rw [EOE.out]; exact h0))
        have d0 : (oe != 0) = true := by rw [bne_iff_ne]; exact h0
        have HEE := EOE.out
        have HE1 : Hid (inE P l = oe) := (show Hid _ from by show _ = _; rw [HE.out.1, HEE])
        clear HEE h0
        go_wp2_with fail
        go_ret2
        exact ⟨.slice none 0 0, by rw [HE1.out]; rfl, by rw [HE.out.2]; exact World.ownsRow_nil _ _ _ _, HBw2.out⟩
end Go.Proofs.Ytbgabipngdillaa

namespace Go.Proofs.Ytbgabipngdillaa
open Go.RowKit Go.Shelf

def tmV (P : Int) (l : List Int) : List Int := if opE P [l] = 0 then trim l else []
theorem opE_1 {P : Int} {l : List Int} (h : opE P [l] = 0) : prB P = true ∧ els P l = true := by
  unfold opE at h
  by_cases h1 : prB P = true
  · by_cases h2 : els P l = true
    · exact ⟨h1, h2⟩
    · simp [h1, h2] at h
  · simp [h1] at h

theorem own_base {w : World} {b b' : Nat} {e : TypeId} {sz n : Nat} {v : Value} {xs : List Value} (h : w.ownsRow b e sz v n xs) (hb : b' ≤ b) : w.ownsRow b' e sz v n xs := by
  refine ⟨h.1, ?_⟩
  rcases h.2 with h0 | ⟨g, cap, cur, h1, h2, h3⟩
  · exact .inl h0
  · exact .inr ⟨g, cap, cur, h1, by omega, h3⟩

set_option maxRecDepth 100000 in
set_option maxHeartbeats 4000000 in
theorem rTrim_any (P : Int) (l : List Int) (v : Value) (w : World) (hP : i64r P) (h : SI w v l) (hl : l.length ≤ 1000000) :
    Calls Try.prog 29 #[.agg #[.int .i64 P], v] w fun e w' => ∃ v', e = .returned (.tuple #[v', .int .i64 (opE P [l])]) ∧ w'.ownsRow w.heap.size 3 1 v' (tmV P l).length ((tmV P l).map (Value.int .i64)) ∧ Below w.heap.size w w' := by
  obtain ⟨A, c, rfl⟩ := h.form
  have HS := Lib.hid h
  clear h
  go_enter Try.func29, Try.ntmps29
  obtain ⟨F, eF⟩ : ∃ F, F = w.heap.size := ⟨_, rfl⟩
  obtain ⟨w1, ew1⟩ : ∃ w1 : World, w1 = w.alloc (.cells #[.int .i64 P] 26) := ⟨_, rfl⟩
  have HWw1 : Hid (w.alloc (.cells #[.int .i64 P] 26) = w1) := ew1.symm
  have HAw1 : Hid (Below w.heap.size w w1) := (show Hid _ from by rw [ew1]; exact (Below.refl _ w).alloc (Nat.le_refl _) _)
  have HF0w1 : Hid (w1.heap[F]? = some (.cells #[.int .i64 P] 26 (0, 0))) := (show Hid _ from by show _ = _; rw [ew1, eF]; exact heap_alloc_new w _)
  have HXC : Hid (∀ W, Below w1.heap.size w1 W → W.cell? ⟨F, 0, none⟩ = some (.int .i64 P)) := (show Hid _ from fun W hg => by
    have hF0 := (hg.block F (heap_of_cells HF0w1.out)).trans HF0w1.out
    exact (cell_of_row W F 0 _ _ _ hF0))
  have hz1 : w.heap.size ≤ w1.heap.size := HAw1.out.size
  have HS1 : Hid (SI w1 (.slice A l.length c) l) := (show Hid _ from HS.out.below HAw1.out)
  have HSL : Hid (SL (w1.alloc (.cells #[.slice A l.length c] 22)) (.slice (some ⟨w1.heap.size, 0, none⟩) 1 1) [l]) := (show Hid _ from SL.one HS1.out _)
  have HB1 : Hid (Below w.heap.size w (w1.alloc (.cells #[.slice A l.length c] 22))) := (show Hid _ from HAw1.out.alloc hz1 _)
  go_upto_region 1 with fail
  rw [HWw1.out, ← eF]
  clear ew1 eF
  have x0 := HXC.out w1 (Below.refl _ _)
  go_wp2_with fail
  (with_reducible refine (rlists_any P [l] _ _ hP HSL.out (by simp)).mono ?_)
  rintro e w2 ⟨rfl, hb2⟩
  have HB2 : Hid (Below w.heap.size w w2) := (show Hid _ from HB1.out.trans (hb2.mono HB1.out.size))
  clear hb2 x0
  by_cases he : opE P [l] = 0
  · have hez : (opE P [l] != 0) = false := by rw [bne_eq_false_iff_eq]; exact he
    have HT : Hid (tmV P l = trim l) := (show Hid _ from if_pos he)
    have HE := Lib.hid he
    clear he
    go_wp2_with fail
    (with_reducible refine (rtrim_any l _ w2 (HS.out.below HB2.out) hl).mono ?_)
    rintro e w3 ⟨v', rfl, ho, hb3⟩
    have HO := Lib.hid ho
    have HB3 : Hid (Below w.heap.size w w3) := (show Hid _ from HB2.out.trans (hb3.mono HB2.out.size))
    clear ho hb3
    go_wp2_with fail
    refine bodyPost_ret (v := .tuple #[v', .int .i64 0]) (by simp [results, Try.results29, go_sem]) rfl ?_
    rw [HT.out, HE.out]
    exact ⟨v', rfl, own_base HO.out HB2.out.size, HB3.out⟩
  · have hez : (opE P [l] != 0) = true := by rw [bne_iff_ne]; exact he
    have HT : Hid (tmV P l = []) := (show Hid _ from if_neg he)
    clear he
    go_wp2_with fail
    refine bodyPost_ret (v := .tuple #[.slice none 0 0, .int .i64 (opE P [l])]) (by simp [results, Try.results29, go_sem]) rfl ?_
    rw [HT.out]
    exact ⟨_, rfl, World.ownsRow_nil _ _ _ _, HB2.out⟩

/-- the error of the reference's Value -/
def rvE (P x : Int) (l : List Int) : Int := if inB P [x] = false then 9 else opE P [l]
def rvV (P x : Int) (l : List Int) : Int := if rvE P x l = 0 then val P l x else 0

set_option maxRecDepth 100000 in
set_option maxHeartbeats 4000000 in
theorem rValue_any (P x : Int) (l : List Int) (v : Value) (w : World) (hP : i64r P) (hx : i64r x) (h : SI w v l) (hl : l.length ≤ 1000000) :
    Calls Try.prog 40 #[.agg #[.int .i64 P], v, .int .i64 x] w fun e w' => e = .returned (.tuple #[.int .i64 (rvV P x l), .int .i64 (rvE P x l)]) ∧ Below w.heap.size w w' := by
  obtain ⟨A, c, rfl⟩ := h.form
  have HS := Lib.hid h
  clear h
  go_enter Try.func40, Try.ntmps40
  obtain ⟨F, eF⟩ : ∃ F, F = w.heap.size := ⟨_, rfl⟩
  obtain ⟨w1, ew1⟩ : ∃ w1 : World, w1 = w.alloc (.cells #[.int .i64 P] 26) := ⟨_, rfl⟩
  have HWw1 : Hid (w.alloc (.cells #[.int .i64 P] 26) = w1) := ew1.symm
  have HAw1 : Hid (Below w.heap.size w w1) := (show Hid _ from by rw [ew1]; exact (Below.refl _ w).alloc (Nat.le_refl _) _)
  have HF0w1 : Hid (w1.heap[F]? = some (.cells #[.int .i64 P] 26 (0, 0))) := (show Hid _ from by show _ = _; rw [ew1, eF]; exact heap_alloc_new w _)
  have HXC : Hid (∀ W, Below w1.heap.size w1 W → W.cell? ⟨F, 0, none⟩ = some (.int .i64 P)) := (show Hid _ from fun W hg => by
    have hF0 := (hg.block F (heap_of_cells HF0w1.out)).trans HF0w1.out
    exact (cell_of_row W F 0 _ _ _ hF0))
  have hz1 : w.heap.size ≤ w1.heap.size := HAw1.out.size
  have HLI : Hid (SI (w1.alloc (.cells #[.int .i64 x] 3)) (.slice (some ⟨w1.heap.size, 0, none⟩) 1 1) [x]) := (show Hid _ from by
    refine ⟨some ⟨w1.heap.size, 0, none⟩, 1, rfl, Nat.le_refl _, by omega, fun y hy => by simp at hy; subst hy; exact hx, fun _ => ⟨w1.heap.size, 0, rfl, by simp, fun j hj => ?_⟩⟩
    have hj0 : j = 0 := by simp at hj; omega
    subst hj0
    exact cell_of_row _ _ 0 _ _ (0, 0) (heap_alloc_new w1 _))
  have HB1 : Hid (Below w.heap.size w (w1.alloc (.cells #[.int .i64 x] 3))) := (show Hid _ from HAw1.out.alloc hz1 _)
  go_upto_region 1 with fail
  rw [HWw1.out, ← eF]
  clear ew1 eF
  have x0 := HXC.out w1 (Below.refl _ _)
  go_wp2_with fail
  (with_reducible refine (rin_any P [x] _ _ hP HLI.out).mono ?_)
  rintro e w2 ⟨rfl, hb2⟩
  have HB2 : Hid (Below w.heap.size w w2) := (show Hid _ from HB1.out.trans (hb2.mono HB1.out.size))
  have HX2 : Hid (∀ W, Below w2.heap.size w2 W → W.cell? ⟨F, 0, none⟩ = some (.int .i64 P)) := (show Hid _ from fun W hW => HXC.out W (((Below.refl _ w1).alloc (Nat.le_refl _) _).trans ((hb2.mono (by simp)).trans (hW.mono (by have := hb2.size; simp at this; omega)))))
  clear hb2 x0
  by_cases hi : inB P [x] = true
  · rw [hi]
    have hel := hi
    unfold inB at hel
    simp only [Bool.and_eq_true] at hel
    have hpr := hel.1
    have hx2 : 0 ≤ x ∧ x < P := by have := hel.2; simp [els, el] at this; exact this
    have HI : Hid (rvE P x l = opE P [l]) := (show Hid _ from by show _ = _; unfold rvE; rw [hi]; rfl)
    have HSL : Hid (SL (w2.alloc (.cells #[.slice A l.length c] 22)) (.slice (some ⟨w2.heap.size, 0, none⟩) 1 1) [l]) := (show Hid _ from SL.one (HS.out.below HB2.out) _)
    have HB3 : Hid (Below w.heap.size w (w2.alloc (.cells #[.slice A l.length c] 22))) := (show Hid _ from HB2.out.alloc HB2.out.size _)
    have x0 := HX2.out w2 (Below.refl _ _)
    clear hi hel
    go_wp2_with fail
    (with_reducible refine (rlists_any P [l] _ _ hP HSL.out (by simp)).mono ?_)
    rintro e w4 ⟨rfl, hb4⟩
    have HB4 : Hid (Below w.heap.size w w4) := (show Hid _ from HB3.out.trans (hb4.mono HB3.out.size))
    have x4 := HX2.out w4 (((Below.refl _ w2).alloc (Nat.le_refl _) _).trans (hb4.mono (by simp)))
    clear hb4 x0
    by_cases he : opE P [l] = 0
    · have hez : (opE P [l] != 0) = false := by rw [bne_eq_false_iff_eq]; exact he
      have HV : Hid (rvV P x l = val P l x) := (show Hid _ from by show _ = _; unfold rvV; rw [HI.out, if_pos he])
      have hE := opE_1 he
      have HE := Lib.hid he
      clear he
      go_wp2_with fail
      (with_reducible refine (rvalue_any P x l _ w4 (prB_bd hE.1) hx2 hE.2 hl (HS.out.below HB4.out)).mono ?_)
      rintro e w5 ⟨rfl, hb5⟩
      have HB5 : Hid (Below w.heap.size w w5) := (show Hid _ from HB4.out.trans (hb5.mono HB4.out.size))
      clear hb5
      go_wp2_with fail
      refine bodyPost_ret (v := .tuple #[.int .i64 (val P l x), .int .i64 0]) (by simp [results, Try.results40, go_sem]) rfl ?_
      rw [HV.out, HI.out, HE.out]
      exact ⟨rfl, HB5.out⟩
    · have hez : (opE P [l] != 0) = true := by rw [bne_iff_ne]; exact he
      have HV : Hid (rvV P x l = 0) := (show Hid _ from by show _ = _; unfold rvV; rw [HI.out, if_neg he])
      clear he
      go_wp2_with fail
      refine bodyPost_ret (v := .tuple #[.int .i64 0, .int .i64 (opE P [l])]) (by simp [results, Try.results40, go_sem]) rfl ?_
      rw [HV.out, HI.out]
      exact ⟨rfl, HB4.out⟩
  · have hi2 : inB P [x] = false := by simpa using hi
    rw [hi2]
    have HI : Hid (rvE P x l = 9) := (show Hid _ from by show _ = _; unfold rvE; rw [hi2]; rfl)
    have HV : Hid (rvV P x l = 0) := (show Hid _ from by show _ = _; unfold rvV; rw [HI.out]; rfl)
    clear hi hi2
    go_wp2_with fail
    refine bodyPost_ret (v := .tuple #[.int .i64 0, .int .i64 9]) (by simp [results, Try.results40, go_sem]) rfl ?_
    rw [HV.out, HI.out]
    exact ⟨rfl, HB2.out⟩
end Go.Proofs.Ytbgabipngdillaa

namespace Go.Proofs.Ytbgabipngdillaa
open Go.RowKit Go.Shelf

def KnE (P : Int) (l : List (Int × Bool)) (k : Nat) : Prop := ∀ t ∈ kn (l.take k), el P t.2 = true
theorem kn_mem_step {l : List (Int × Bool)} {k : Nat} (h : k < l.length) (t : Int × Int) : t ∈ kn (l.take (k + 1)) ↔ t ∈ kn (l.take k) ∨ (l[k].2 = true ∧ t = ((k : Int) + 1, l[k].1)) := by
  rw [kn_snoc l k h]
  by_cases hb : l[k].2 = true
  · rw [if_pos hb]; simp [hb]
  · rw [if_neg hb]; simp [hb]
theorem KnE.step {P : Int} {l : List (Int × Bool)} {k : Nat} (h : KnE P l k) (hk : k < l.length) (he : l[k].2 = true → el P l[k].1 = true) : KnE P l (k + 1) := fun t ht => by
  rcases (kn_mem_step hk t).1 ht with h1 | ⟨h1, h2⟩
  · exact h t h1
  · rw [h2]; exact he h1
theorem ce_ok {P : Int} {l : List (Int × Bool)} (h : prB P = true) (h2 : ¬ (32 < l.length ∨ P ≤ l.length)) (h3 : KnE P l l.length) : ceE P l = 0 := by
  unfold ceE
  rw [if_neg (by rw [h]; simp), if_neg h2, if_pos]
  rw [List.all_eq_true]
  have := h3
  unfold KnE at this
  rw [List.take_length] at this
  exact this
theorem ce_bad {P : Int} {l : List (Int × Bool)} {k : Nat} (h : prB P = true) (h2 : ¬ (32 < l.length ∨ P ≤ l.length)) (hk : k < l.length) (h3 : l[k].2 = true) (h4 : el P l[k].1 = false) : ceE P l = 9 := by
  unfold ceE
  rw [if_neg (by rw [h]; simp), if_neg h2, if_neg]
  intro ha
  rw [List.all_eq_true] at ha
  have hm : ((k : Int) + 1, l[k].1) ∈ kn l := by
    have h5 := (kn_mem_step hk ((k : Int) + 1, l[k].1)).2 (.inr ⟨h3, rfl⟩)
    rw [kn_pre] at h5
    exact List.mem_of_mem_take h5
  have := ha _ hm
  rw [h4] at this
  cases this

set_option maxRecDepth 100000 in
set_option maxHeartbeats 4000000 in
theorem rcells_any (P : Int) (l : List (Int × Bool)) (v : Value) (w : World) (hP : i64r P) (h : SCl w v l) (hz : l.length ≤ 1000000) :
    Calls Try.prog 39 #[.agg #[.int .i64 P], v] w fun e w' => e = .returned (.int .i64 (ceE P l)) ∧ Below w.heap.size w w' := by
  obtain ⟨A, c, rfl⟩ := h.form
  have HS := Lib.hid h
  clear h
  go_enter Try.func39, Try.ntmps39
  obtain ⟨F, eF⟩ : ∃ F, F = w.heap.size := ⟨_, rfl⟩
  obtain ⟨w1, ew1⟩ : ∃ w1 : World, w1 = w.alloc (.cells #[.int .i64 P] 26) := ⟨_, rfl⟩
  have HWw1 : Hid (w.alloc (.cells #[.int .i64 P] 26) = w1) := ew1.symm
  have HAw1 : Hid (Below w.heap.size w w1) := (show Hid _ from by rw [ew1]; exact (Below.refl _ w).alloc (Nat.le_refl _) _)
  have HF0w1 : Hid (w1.heap[F]? = some (.cells #[.int .i64 P] 26 (0, 0))) := (show Hid _ from by show _ = _; rw [ew1, eF]; exact heap_alloc_new w _)
  have HXC : Hid (∀ W, Below w1.heap.size w1 W → W.cell? ⟨F, 0, none⟩ = some (.int .i64 P)) := (show Hid _ from fun W hg => by
    have hF0 := (hg.block F (heap_of_cells HF0w1.out)).trans HF0w1.out
    exact (cell_of_row W F 0 _ _ _ hF0))
  go_upto_region 1 with fail
  rw [HWw1.out, ← eF]
  clear ew1 eF
  have x0 := HXC.out w1 (Below.refl _ _)
  go_wp2_with fail
  (with_reducible refine (rcheck_any P w1 hP).mono ?_)
  rintro e w2 ⟨rfl, hb2⟩
  have HB2 : Hid (Below w1.heap.size w1 w2) := (show Hid _ from hb2)
  have HBw : Hid (Below w.heap.size w w2) := (show Hid _ from HAw1.out.trans (hb2.mono HAw1.out.size))
  clear hb2 x0
  by_cases hp : prB P = true
  case' neg =>
    have hpf : prB P = false := by simpa using hp
    have HR : Hid (ceE P l = 9) := (show Hid _ from by show _ = _; unfold ceE; rw [if_pos hpf])
    rw [rcE_f hpf]
    go_wp2_with fail
    go_ret
    rw [HR.out]
    exact ⟨rfl, HBw.out⟩
  rw [rcE_t hp]
  have HP := Lib.hid hp
  have hPb := prB_bd hp
  have x2 := HXC.out w2 HB2.out
  clear hp
  by_cases h32 : 32 < l.length
  case' pos =>
    have dz : decide ((32 : Int) < (l.length : Int)) = true := decide_eq_true (by omega)
    have HR : Hid (ceE P l = 4) := (show Hid _ from by show _ = _; unfold ceE; rw [if_neg (by rw [HP.out]; simp), if_pos (.inl h32)])
    go_wp2_with fail
    go_ret
    rw [HR.out]
    exact ⟨rfl, HBw.out⟩
  have dz : decide ((32 : Int) < (l.length : Int)) = false := decide_eq_false (by omega)
  by_cases hPl : P ≤ l.length
  case' pos =>
    have dz2 : decide (P ≤ (l.length : Int)) = true := decide_eq_true hPl
    have HR : Hid (ceE P l = 4) := (show Hid _ from by show _ = _; unfold ceE; rw [if_neg (by rw [HP.out]; simp), if_pos (.inr hPl)])
    go_wp2_with fail
    go_ret
    rw [HR.out]
    exact ⟨rfl, HBw.out⟩
  have dz2 : decide (P ≤ (l.length : Int)) = false := decide_eq_false hPl
  have HN : Hid (¬ (32 < l.length ∨ P ≤ l.length)) := (show Hid _ from by rintro (h | h) <;> omega)
  go_wp2_with fail
  go_loopw [25] (fun iv wr => ∃ k : Nat, k ≤ l.length ∧ iv = .int .i64 k ∧ Below w1.heap.size w1 wr ∧ KnE P l k) (fun iv _ => l.length - (intOf iv).toNat)
  case atStart => exact ⟨0, Nat.zero_le _, rfl, HB2.out, fun t ht => by simp [kn, knF] at ht⟩
  case round =>
    obtain ⟨k, hk, rfl, hbr, hke⟩ := hrel
    have HBR := Lib.hid hbr
    have HKE := Lib.hid hke
    clear hbr hke x2
    by_cases hlk : k < l.length
    · have dk : decide ((k : Int) < (l.length : Int)) = true := decide_eq_true (by omega)
      have dkn : decide (k < l.length) = true := decide_eq_true hlk
      have hsr := HS.out.below (HAw1.out.trans (HBR.out.mono HAw1.out.size))
      obtain ⟨b, off, eA, hbl, hcell⟩ := hsr.at0 (by omega)
      subst eA
      obtain ⟨c0, c1⟩ := hcell k hlk
      clear hcell hsr
      obtain ⟨xv, exv⟩ : ∃ xv, xv = l[k].1 := ⟨_, rfl⟩
      obtain ⟨bv, ebv⟩ : ∃ bv, bv = l[k].2 := ⟨_, rfl⟩
      rw [← exv] at c0
      rw [← ebv] at c1
      have hxr : i64r xv := by rw [exv]; exact HS.out.rng _ (List.getElem_mem hlk)
      have HXV := Lib.hid exv
      have HBV := Lib.hid ebv
      clear exv ebv
      obtain ⟨X, eX⟩ : ∃ X, X = wr.heap.size := ⟨_, rfl⟩
      obtain ⟨wx, ewx⟩ : ∃ wx : World, wx = wr.alloc (.cells #[.int .i64 xv, .bool bv] 33) := ⟨_, rfl⟩
      have HWwx : Hid (wr.alloc (.cells #[.int .i64 xv, .bool bv] 33) = wx) := ewx.symm
      have HAwx : Hid (Below wr.heap.size wr wx) := (show Hid _ from by rw [ewx]; exact (Below.refl _ wr).alloc (Nat.le_refl _) _)
      have HX0wx : Hid (wx.heap[X]? = some (.cells #[.int .i64 xv, .bool bv] 33 (0, 0))) := (show Hid _ from by show _ = _; rw [ewx, eX]; exact heap_alloc_new wr _)
      have HXX : Hid (∀ W, Below wx.heap.size wx W → W.cell? ⟨X, 0, none⟩ = some (.int .i64 xv) ∧ W.cell? ⟨X, 1, none⟩ = some (.bool bv)) := (show Hid _ from fun W hg => by
        have hX0 := (hg.block X (heap_of_cells HX0wx.out)).trans HX0wx.out
        exact ⟨cell_of_row W X 0 _ _ _ hX0, cell_of_row W X 1 _ _ _ hX0⟩)
      have HBX : Hid (Below w1.heap.size w1 wx) := (show Hid _ from HBR.out.trans (HAwx.out.mono HBR.out.size))
      have HLI : Hid (SI (wx.alloc (.cells #[.int .i64 xv] 3)) (.slice (some ⟨wx.heap.size, 0, none⟩) 1 1) [xv]) := (show Hid _ from by
        refine ⟨some ⟨wx.heap.size, 0, none⟩, 1, rfl, Nat.le_refl _, by omega, fun y hy => by simp at hy; subst hy; exact hxr, fun _ => ⟨wx.heap.size, 0, rfl, by simp, fun j hj => ?_⟩⟩
        have hj0 : j = 0 := by simp at hj; omega
        subst hj0
        exact cell_of_row _ _ 0 _ _ (0, 0) (heap_alloc_new wx _))
      go_upto_region 9 with fail
      rw [HWwx.out, ← eX]
      clear ewx eX
      obtain ⟨y0, y1⟩ := HXX.out wx (Below.refl _ _)
      have x3 := HXC.out wx HBX.out
      clear c0 c1
      cases bv
      · go_wp2_with fail
        go_roundw
        case rel => exact ⟨k + 1, by omega, by go_num, HBX.out, HKE.out.step hlk (fun h => by rw [← HBV.out] at h; cases h)⟩
        case measure => simp [intOf]; omega
      · go_wp2_with fail
        (with_reducible refine (rin_any P [xv] _ _ hP HLI.out).mono ?_)
        rintro e w4 ⟨rfl, hb4⟩
        have HB4 : Hid (Below w1.heap.size w1 w4) := (show Hid _ from (HBX.out.alloc HBX.out.size _).trans (hb4.mono (by have := HBX.out.size; simp; omega)))
        have HIN : Hid (inB P [xv] = el P xv) := (show Hid _ from by show _ = _; unfold inB; rw [HP.out]; simp [els])
        clear hb4 y0 y1 x3
        rw [HIN.out]
        by_cases he : el P xv = true
        · rw [he]
          have HE := Lib.hid he
          clear he
          go_wp2_with fail
          go_roundw
          case rel => exact ⟨k + 1, by omega, by go_num, HB4.out, HKE.out.step hlk (fun _ => by rw [← HXV.out]; exact HE.out)⟩
          case measure => simp [intOf]; omega
        · have he2 : el P xv = false := by simpa using he
          rw [he2]
          have HR : Hid (ceE P l = 9) := (show Hid _ from ce_bad HP.out HN.out hlk HBV.out.symm (by rw [← HXV.out]; exact he2))
          clear he he2
          go_wp2_with fail
          go_ret
          rw [HR.out]
          exact ⟨rfl, HAw1.out.trans (HB4.out.mono HAw1.out.size)⟩
    · have dk : decide ((k : Int) < (l.length : Int)) = false := decide_eq_false (by omega)
      have dkn : decide (k < l.length) = false := decide_eq_false hlk
      have hkl : k = l.length := by omega
      have HR : Hid (ceE P l = 0) := (show Hid _ from ce_ok HP.out HN.out (hkl ▸ HKE.out))
      clear hkl
      go_wp2_with fail
      go_ret
      rw [HR.out]
      exact ⟨rfl, HAw1.out.trans (HBR.out.mono HAw1.out.size)⟩
end Go.Proofs.Ytbgabipngdillaa

namespace Go.Proofs.Ytbgabipngdillaa
open Go.RowKit Go.Shelf

theorem kn_rng {l : List (Int × Bool)} (hl : l.length ≤ 1000000) (hr : ∀ x ∈ l, i64r x.1) : ∀ t ∈ kn l, i64r t.1 ∧ i64r t.2 := fun t ht => by
  refine ⟨?_, ?_⟩
  · have := kn_at ht
    unfold i64r
    omega
  · have key : ∀ k, k ≤ l.length → ∀ t ∈ kn (l.take k), i64r t.2 := by
      intro k
      induction k with
      | zero => intro _ t ht; simp [kn, knF] at ht
      | succ k ih =>
        intro hk t ht
        rcases (kn_mem_step (by omega) t).1 ht with h | ⟨_, h⟩
        · exact ih (by omega) t h
        · rw [h]; exact hr _ (List.getElem_mem _)
    have h2 := key l.length (Nat.le_refl _)
    rw [List.take_length] at h2
    exact h2 t ht

theorem own_blw {w w' : World} {base n sz : Nat} {e : TypeId} {v : Value} {xs : List Value} (h : w.ownsRow base e sz v n xs) (hb : Below w.heap.size w w') : w'.ownsRow base e sz v n xs := by
  refine ⟨h.1, ?_⟩
  rcases h.2 with h0 | ⟨g, cap, cur, h1, h2, h3, h4⟩
  · exact .inl h0
  · exact .inr ⟨g, cap, cur, h1, h2, (hb.block g (heap_of_cells h3)).trans h3, h4⟩

def KwR (l : List (Int × Bool)) (w : World) (i v : Value) (wr : World) : Prop :=
  ∃ k : Nat, k ≤ l.length ∧ i = .int .i64 k ∧ wr.ownsRow w.heap.size 64 2 v (kn (l.take k)).length (((kn (l.take k)).flatMap pcs).map (Value.int .i64)) ∧ Below w.heap.size w wr
set_option maxRecDepth 100000 in
set_option maxHeartbeats 4000000 in
theorem rknown_any (l : List (Int × Bool)) (v : Value) (w : World) (h : SCl w v l) (hz : l.length ≤ 1000000) :
    Calls Try.prog 34 #[v] w fun e w' => ∃ v', e = .returned v' ∧ w'.ownsRow w.heap.size 64 2 v' (kn l).length (((kn l).flatMap pcs).map (Value.int .i64)) ∧ Below w.heap.size w w' := by
  obtain ⟨i0, hi0, hi1, hi2, hi3⟩ := info_parts shinfo'
  obtain ⟨A, c, rfl⟩ := h.form
  have HS := Lib.hid h
  clear h
  go_enter Try.func34, Try.ntmps34
  go_wp2_with fail
  go_loopw [8, 3] (fun i v wr => KwR l w i v wr) (fun i _ _ => l.length - (intOf i).toNat)
  case atStart => exact ⟨0, Nat.zero_le _, rfl, by simpa [kn, knF] using World.ownsRow_nil w w.heap.size 64 2, Below.refl _ _⟩
  case round =>
    obtain ⟨k, hk, rfl, hown, hbel⟩ := hrel
    have HO := Lib.hid hown
    have HB := Lib.hid hbel
    have hzr := hbel.size
    clear hown hbel
    by_cases hlt : k < l.length
    · have dk : decide ((k : Int) < (l.length : Int)) = true := decide_eq_true (by omega)
      have dkn : decide (k < l.length) = true := decide_eq_true hlt
      obtain ⟨b, off, eA, hbl, hcell⟩ := (HS.out.below HB.out).at0 (by omega)
      subst eA
      obtain ⟨c0, c1⟩ := hcell k hlt
      clear hcell
      obtain ⟨xv, exv⟩ : ∃ xv, xv = l[k].1 := ⟨_, rfl⟩
      obtain ⟨bv, ebv⟩ : ∃ bv, bv = l[k].2 := ⟨_, rfl⟩
      rw [← exv] at c0
      rw [← ebv] at c1
      have HSN := Lib.hid (kn_snoc l k hlt)
      have hDl : (kn (l.take k)).length ≤ k := by
        have := kn_len (l.take k) 0
        rw [List.length_take] at this
        unfold kn
        omega
      obtain ⟨D, hD⟩ : ∃ D, kn (l.take k) = D := ⟨_, rfl⟩
      rw [hD] at HO HSN hDl
      rw [← exv, ← ebv] at HSN
      clear exv ebv hD
      obtain ⟨X, eX⟩ : ∃ X, X = wr.heap.size := ⟨_, rfl⟩
      obtain ⟨wx, ewx⟩ : ∃ wx : World, wx = wr.alloc (.cells #[.int .i64 xv, .bool bv] 33) := ⟨_, rfl⟩
      have HWwx : Hid (wr.alloc (.cells #[.int .i64 xv, .bool bv] 33) = wx) := ewx.symm
      have HAwx : Hid (Below wr.heap.size wr wx) := (show Hid _ from by rw [ewx]; exact (Below.refl _ wr).alloc (Nat.le_refl _) _)
      have HX0wx : Hid (wx.heap[X]? = some (.cells #[.int .i64 xv, .bool bv] 33 (0, 0))) := (show Hid _ from by show _ = _; rw [ewx, eX]; exact heap_alloc_new wr _)
      have HXX : Hid (∀ W, Below wx.heap.size wx W → W.cell? ⟨X, 0, none⟩ = some (.int .i64 xv) ∧ W.cell? ⟨X, 1, none⟩ = some (.bool bv)) := (show Hid _ from fun W hg => by
        have hX0 := (hg.block X (heap_of_cells HX0wx.out)).trans HX0wx.out
        exact ⟨cell_of_row W X 0 _ _ _ hX0, cell_of_row W X 1 _ _ _ hX0⟩)
      have HBX : Hid (Below w.heap.size w wx) := (show Hid _ from HB.out.trans (HAwx.out.mono hzr))
      have HOX : Hid (wx.ownsRow w.heap.size 64 2 u3 D.length ((D.flatMap pcs).map (Value.int .i64))) := (show Hid _ from own_blw HO.out HAwx.out)
      have hzx : w.heap.size ≤ wx.heap.size := HBX.out.size
      go_upto_region 5 with fail
      rw [HWwx.out, ← eX]
      clear ewx eX
      obtain ⟨y0, y1⟩ := HXX.out wx (Below.refl _ _)
      clear c0 c1
      cases bv
      · have HSN2 : Hid (kn (l.take (k + 1)) = D) := (show Hid _ from by show _ = _; have h := HSN.out; simpa using h)
        go_wp2_with fail
        go_roundw
        case rel => exact ⟨k + 1, by omega, by go_num, by rw [HSN2.out]; exact HOX.out, HBX.out⟩
        case measure => simp [intOf]; omega
      · have HSN2 : Hid (kn (l.take (k + 1)) = D ++ [((k : Int) + 1, xv)]) := (show Hid _ from by show _ = _; have h := HSN.out; simpa using h)
        have k1 : IntKind.i64.wrap ((k : Int) + 1) = (k : Int) + 1 := by exact IntWalk.i64_in _ (by omega)
        go_wp2_with (at_builtin; refine wpList_append_own _ rfl _ _ 62 rfl w.heap.size 64 i0 _ 2 16 Try.underlying62 hi0 hi1 hi2 hi3 rfl (by omega) _ _ _ rfl (HOX.out.alloc _) ⟨wx.heap.size, 0, none⟩ 1 1 (List.map (Value.int .i64) (pcs ((k : Int) + 1, xv))) rfl rfl (cells_new wx _ _) (by intro u hu; simp [pcs] at hu; rcases hu with rfl | rfl <;> rfl) (by unfold maxLen; omega) (by omega) (by simp; omega) ?_; intro v3 w3 hown3 hg3 _; have HO3 := Lib.hid hown3; have HG3 := Lib.hid hg3; clear hown3 hg3)
        go_roundw
        case rel =>
          refine ⟨k + 1, by omega, by go_num, ?_, ?_⟩
          · rw [HSN2.out]
            simpa using HO3.out
          · exact (HBX.out.alloc hzx _).grown HG3.out (by simp; omega) (fun k hk => (HOX.out.lt k hk).1)
        case measure => simp [intOf]; omega
    · have hkk : k = l.length := by omega
      subst hkk
      have hd1 : decide ((l.length : Int) < (l.length : Int)) = false := decide_eq_false (by omega)
      rw [List.take_length] at HO
      go_wp2_with fail
      go_ret
      exact ⟨_, rfl, HO.out, HB.out⟩


set_option maxRecDepth 100000 in
set_option maxHeartbeats 4000000 in
theorem ragree_any (P : Int) (l : List (Int × Bool)) (p : List Int) (v vp : Value) (w : World) (hP : i64r P) (h : SCl w v l) (hz : l.length ≤ 1000000) (hp : SI w vp p) (hpl : p.length ≤ 1000000) :
    Calls Try.prog 17 #[.agg #[.int .i64 P], v, vp] w fun e w' => e = .returned (.tuple #[.int .i64 (agN P l p), .int .i64 (agE P l p)]) ∧ Below w.heap.size w w' := by
  obtain ⟨A, c, rfl⟩ := h.form
  obtain ⟨Ap, cp, rfl⟩ := hp.form
  have HS := Lib.hid h
  have HPp := Lib.hid hp
  clear h hp
  go_enter Try.func17, Try.ntmps17
  obtain ⟨F, eF⟩ : ∃ F, F = w.heap.size := ⟨_, rfl⟩
  obtain ⟨w1, ew1⟩ : ∃ w1 : World, w1 = w.alloc (.cells #[.int .i64 P] 26) := ⟨_, rfl⟩
  have HWw1 : Hid (w.alloc (.cells #[.int .i64 P] 26) = w1) := ew1.symm
  have HAw1 : Hid (Below w.heap.size w w1) := (show Hid _ from by rw [ew1]; exact (Below.refl _ w).alloc (Nat.le_refl _) _)
  have HF0w1 : Hid (w1.heap[F]? = some (.cells #[.int .i64 P] 26 (0, 0))) := (show Hid _ from by show _ = _; rw [ew1, eF]; exact heap_alloc_new w _)
  have HXC : Hid (∀ W, Below w1.heap.size w1 W → W.cell? ⟨F, 0, none⟩ = some (.int .i64 P)) := (show Hid _ from fun W hg => by
    have hF0 := (hg.block F (heap_of_cells HF0w1.out)).trans HF0w1.out
    exact (cell_of_row W F 0 _ _ _ hF0))
  have HBS : Hid (∀ W, Below w1.heap.size w1 W → Below w.heap.size w W) := (show Hid _ from fun W hW => HAw1.out.trans (hW.mono HAw1.out.size))
  go_upto_region 1 with fail
  rw [HWw1.out, ← eF]
  clear ew1 eF
  have x0 := HXC.out w1 (Below.refl _ _)
  go_wp2_with fail
  (with_reducible refine (rcells_any P l _ w1 hP (HS.out.below HAw1.out) hz).mono ?_)
  rintro e w2 ⟨rfl, hb2⟩
  have HB2 : Hid (Below w1.heap.size w1 w2) := (show Hid _ from hb2)
  clear hb2 x0
  by_cases hc : ceE P l = 0
  case' neg =>
    have hcz : (ceE P l != 0) = true := by rw [bne_iff_ne]; exact hc
    have HR := Lib.hid (ag_ce (p := p) hc)
    clear hc
    go_wp2_with fail
    refine bodyPost_ret (v := .tuple #[.int .i64 0, .int .i64 (ceE P l)]) (by simp [results, Try.results17, go_sem]) rfl ?_
    rw [HR.out.1, HR.out.2]
    exact ⟨rfl, HBS.out _ HB2.out⟩
  have hcz : (ceE P l != 0) = false := by rw [bne_eq_false_iff_eq]; exact hc
  have HCE := Lib.hid hc
  have x2 := HXC.out w2 HB2.out
  clear hc
  go_wp2_with fail
  (with_reducible refine (rTrim_any P p _ w2 hP (HPp.out.below (HBS.out _ HB2.out)) hpl).mono ?_)
  rintro e w3 ⟨v3, rfl, _, hb3⟩
  have HB3 : Hid (Below w1.heap.size w1 w3) := (show Hid _ from HB2.out.trans (hb3.mono HB2.out.size))
  clear hb3 x2
  by_cases ho : opE P [p] = 0
  case' neg =>
    have hoz : (opE P [p] != 0) = true := by rw [bne_iff_ne]; exact ho
    have HR := Lib.hid (ag_op HCE.out ho)
    clear ho
    go_wp2_with fail
    refine bodyPost_ret (v := .tuple #[.int .i64 0, .int .i64 (opE P [p])]) (by simp [results, Try.results17, go_sem]) rfl ?_
    rw [HR.out.1, HR.out.2]
    exact ⟨rfl, HBS.out _ HB3.out⟩
  have hoz : (opE P [p] != 0) = false := by rw [bne_eq_false_iff_eq]; exact ho
  have HR := Lib.hid (ag_0 HCE.out ho)
  have HOE := Lib.hid ho
  have hci := ceE_inv HCE.out
  have HPR : Hid (prB P = true) := (show Hid _ from hci.1)
  have hl32 : l.length ≤ 32 := hci.2.1
  have hlP : (l.length : Int) < P := hci.2.2.1
  clear ho hci
  go_wp2_with fail
  (with_reducible refine (rknown_any l _ w3 (HS.out.below (HBS.out _ HB3.out)) hz).mono ?_)
  rintro e w4 ⟨v4, rfl, hown, hb4⟩
  have HB4 : Hid (Below w1.heap.size w1 w4) := (show Hid _ from HB3.out.trans (hb4.mono HB3.out.size))
  have hkr := kn_rng hz HS.out.rng
  have hSG : SG pcs 2 w4.heap.size w4 v4 (kn l) := SG.of_own hown (fun x hx y hy => by
    have := hkr x hx
    simp [pcs] at hy
    rcases hy with rfl | rfl
    · exact this.1
    · exact this.2) (fun x _ => rfl)
  obtain ⟨n, hn⟩ : ∃ n, n = (kn l).length := ⟨_, rfl⟩
  have hnl : n ≤ l.length := by rw [hn]; exact kn_len l 0
  obtain ⟨A4, c4, rfl, hc4, hm4, _, hat⟩ := pcs_cells hSG
  have HAT := Lib.hid hat
  have HN := Lib.hid hn
  have HKR := Lib.hid hkr
  rw [← hn] at hc4 ⊢
  clear hb4 hown hSG hkr hat hn
  go_wp2_with fail
  go_loopw [34, 11] (fun iv nv wr => ∃ k : Nat, k ≤ n ∧ iv = .int .i64 k ∧ nv = .int .i64 ((((kn l).take k).filter (hit P p)).length : Nat) ∧ Below w4.heap.size w4 wr) (fun iv _ _ => n - (intOf iv).toNat)
  case atStart => exact ⟨0, Nat.zero_le _, rfl, rfl, Below.refl _ _⟩
  case round =>
    obtain ⟨k, hk, rfl, rfl, hbr⟩ := hrel
    have HBR := Lib.hid hbr
    clear hbr
    obtain ⟨cnt, hcnt⟩ : ∃ cnt, (((kn l).take k).filter (hit P p)).length = cnt := ⟨_, rfl⟩
    have hck : cnt ≤ k := by
      have h1 := List.length_filter_le (hit P p) ((kn l).take k)
      rw [List.length_take] at h1
      omega
    have HCN := Lib.hid hcnt
    rw [hcnt]
    clear hcnt
    by_cases hlk : k < n
    · have dk : decide ((k : Int) < (n : Int)) = true := decide_eq_true (by omega)
      have dkn : decide (k < n) = true := decide_eq_true hlk
      have hkl : k < (kn l).length := by rw [← HN.out]; exact hlk
      obtain ⟨b, off, eA, hbl, hcell⟩ := HAT.out (by omega)
      subst eA
      obtain ⟨c0, c1⟩ := hcell k hkl
      have d0 := (HBR.out.cell (p := ⟨b, off + k * 2, none⟩) hbl).trans c0
      have d1 := (HBR.out.cell (p := ⟨b, off + k * 2 + 1, none⟩) hbl).trans c1
      have hmem := List.getElem_mem hkl
      have hxr := kn_at hmem
      have hyr := HKR.out _ hmem
      obtain ⟨t, et⟩ : ∃ t, t = (kn l)[k] := ⟨_, rfl⟩
      rw [← et] at d0 d1 hxr hyr
      obtain ⟨xv, yv⟩ := t
      simp only at d0 d1 hxr hyr
      have HTK : Hid (((kn l).take (k + 1)).filter (hit P p) = ((kn l).take k).filter (hit P p) ++ if hit P p (xv, yv) = true then [(xv, yv)] else []) := (show Hid _ from by
        show _ = _
        rw [List.take_succ_eq_append_getElem hkl, List.filter_append, ← et]
        congr 1
        simp [List.filter_cons])
      have hxi : i64r xv := hyr.1
      clear c0 c1 hcell hmem et hyr
      obtain ⟨X, eX⟩ : ∃ X, X = wr.heap.size := ⟨_, rfl⟩
      obtain ⟨wx, ewx⟩ : ∃ wx : World, wx = wr.alloc (.cells #[.int .i64 xv, .int .i64 yv] 64) := ⟨_, rfl⟩
      have HWwx : Hid (wr.alloc (.cells #[.int .i64 xv, .int .i64 yv] 64) = wx) := ewx.symm
      have HAwx : Hid (Below wr.heap.size wr wx) := (show Hid _ from by rw [ewx]; exact (Below.refl _ wr).alloc (Nat.le_refl _) _)
      have HX0wx : Hid (wx.heap[X]? = some (.cells #[.int .i64 xv, .int .i64 yv] 64 (0, 0))) := (show Hid _ from by show _ = _; rw [ewx, eX]; exact heap_alloc_new wr _)
      have HXX : Hid (∀ W, Below wx.heap.size wx W → W.cell? ⟨X, 0, none⟩ = some (.int .i64 xv) ∧ W.cell? ⟨X, 1, none⟩ = some (.int .i64 yv)) := (show Hid _ from fun W hg => by
        have hX0 := (hg.block X (heap_of_cells HX0wx.out)).trans HX0wx.out
        exact ⟨cell_of_row W X 0 _ _ _ hX0, cell_of_row W X 1 _ _ _ hX0⟩)
      have HBX : Hid (Below w4.heap.size w4 wx) := (show Hid _ from HBR.out.trans (HAwx.out.mono HBR.out.size))
      have HB1X : Hid (Below w1.heap.size w1 wx) := (show Hid _ from HB4.out.trans (HBX.out.mono HB4.out.size))
      go_upto_region 11 with fail
      rw [HWwx.out, ← eX]
      clear ewx eX
      obtain ⟨y0, y1⟩ := HXX.out wx (Below.refl _ _)
      have x3 := HXC.out wx HB1X.out
      clear d0 d1
      go_wp2_with fail
      (with_reducible refine (rValue_any P xv p _ wx hP hxi (HPp.out.below (HBS.out _ HB1X.out)) hpl).mono ?_)
      rintro e w5 ⟨rfl, hb5⟩
      have HB5 : Hid (Below w4.heap.size w4 w5) := (show Hid _ from HBX.out.trans (hb5.mono HBX.out.size))
      obtain ⟨z0, z1⟩ := HXX.out w5 hb5
      have hin : inB P [xv] = true := by
        unfold inB
        rw [HPR.out]
        simp [els, el]
        omega
      have HE0 : Hid (rvE P xv p = 0) := (show Hid _ from by show _ = _; unfold rvE; rw [hin]; exact HOE.out)
      have HV0 : Hid (rvV P xv p = val P p xv) := (show Hid _ from by show _ = _; unfold rvV; rw [if_pos HE0.out])
      rw [HE0.out, HV0.out]
      clear hb5 y0 y1 x3 hin
      by_cases he : val P p xv = yv
      · have hez : (val P p xv == yv) = true := by rw [beq_iff_eq]; exact he
        have HT2 : Hid ((((kn l).take (k + 1)).filter (hit P p)).length = cnt + 1) := (show Hid _ from by
          show _ = _
          rw [HTK.out, if_pos (show hit P p (xv, yv) = true from hez), List.length_append, HCN.out]
          rfl)
        have k1 : IntKind.i64.wrap ((cnt : Int) + 1) = (cnt : Int) + 1 := by exact IntWalk.i64_in _ (by omega)
        clear he
        go_wp2_with fail
        go_roundw
        case rel => exact ⟨k + 1, by omega, by go_num, by rw [HT2.out]; go_num, HB5.out⟩
        case measure => simp [intOf]; omega
      · have hez : (val P p xv == yv) = false := by rw [beq_eq_false_iff_ne]; exact he
        have HT2 : Hid ((((kn l).take (k + 1)).filter (hit P p)).length = cnt) := (show Hid _ from by
          show _ = _
          rw [HTK.out, if_neg (show ¬ hit P p (xv, yv) = true from by unfold hit; rw [hez]; simp), List.append_nil, HCN.out])
        clear he
        go_wp2_with fail
        go_roundw
        case rel => exact ⟨k + 1, by omega, by go_num, by rw [HT2.out], HB5.out⟩
        case measure => simp [intOf]; omega
    · have dk : decide ((k : Int) < (n : Int)) = false := decide_eq_false (by omega)
      have dkn : decide (k < n) = false := decide_eq_false hlk
      have hkn : k = n := by omega
      have HRN : Hid (agC P l p = cnt) := (show Hid _ from by
        show _ = _
        rw [← HCN.out, hkn, HN.out, List.take_length]
        rfl)
      clear hkn
      go_wp2_with fail
      refine bodyPost_ret (v := .tuple #[.int .i64 cnt, .int .i64 0]) (by simp [results, Try.results17, go_sem]) rfl ?_
      rw [HR.out.1, HR.out.2, HRN.out]
      exact ⟨rfl, HBS.out _ (HB4.out.trans (HBR.out.mono HB4.out.size))⟩
end Go.Proofs.Ytbgabipngdillaa

namespace Go.Proofs.Ytbgabipngdillaa
open Go.RowKit Go.Shelf

def cvs (x : Int × Bool) : List Value := [.int .i64 x.1, .bool x.2]
/-- cells that nothing but their own block's change can turn: a deck at g may go on -/
def SCE (g : Nat) (w : World) (v : Value) (l : List (Int × Bool)) : Prop := ∀ W, w.grownBy W (some g) → SCl W v l
theorem SCE.scl {g : Nat} {w : World} {v : Value} {l : List (Int × Bool)} (h : SCE g w v l) : SCl w v l := h w (grownBy_refl _ _)
theorem SCE.grown {g : Nat} {w w' : World} {v : Value} {l : List (Int × Bool)} (h : SCE g w v l) (hg : w.grownBy w' (some g)) : SCE g w' v l := fun W hW => h W (grownBy_trans hg hW)
theorem SCE.below {g : Nat} {w w' : World} {v : Value} {l : List (Int × Bool)} (h : SCE g w v l) (hb : Below w.heap.size w w') : SCE g w' v l := h.grown (grownBy_of_below hb _)
theorem own_grn {w w' : World} {base e size n g : Nat} {v : Value} {xs : List Value} (h : w.ownsRow base e size v n xs) (hg : w.grownBy w' (some g)) (hgb : g < base) : w'.ownsRow base e size v n xs := by
  refine ⟨h.1, ?_⟩
  rcases h.2 with h0 | ⟨b, cap, cur, h1, h2, h3, h4⟩
  · exact .inl h0
  · exact .inr ⟨b, cap, cur, h1, h2, (hg.block b (heap_of_cells h3) (by simp; omega)).trans h3, h4⟩
theorem grn_own {a w w' : World} {r s : Option Nat} (h : a.grownBy w r) (hg : w.grownBy w' s) (hs : ∀ k, s = some k → a.heap.size ≤ k) : a.grownBy w' r :=
  ⟨hg.os.trans h.os, hg.tape.trans h.tape, hg.output.trans h.output, Nat.le_trans h.size hg.size, fun k hk hne => (hg.block k (Nat.lt_of_lt_of_le hk h.size) fun e => by have := hs k e.symm; omega).trans (h.block k hk hne)⟩
theorem cvs_get (l : List (Int × Bool)) : ∀ j (h : j < l.length), (l.flatMap cvs)[j * 2]? = some (.int .i64 l[j].1) ∧ (l.flatMap cvs)[j * 2 + 1]? = some (.bool l[j].2) := by
  induction l with
  | nil => intro j h; simp at h
  | cons x l ih =>
    intro j h
    cases j with
    | zero => simp [cvs]
    | succ j =>
      have := ih j (by simpa using h)
      have e1 : (j + 1) * 2 = j * 2 + 1 + 1 := by omega
      rw [e1]
      simpa [cvs] using this
theorem SCl.of_own {w : World} {base e : Nat} {v : Value} {l : List (Int × Bool)} (h : w.ownsRow base e 2 v l.length (l.flatMap cvs)) (hr : ∀ x ∈ l, i64r x.1) : SCl w v l := by
  rcases h.2 with ⟨rfl, hn⟩ | ⟨g, cap, cur, rfl, hb, hg, hnc, hcm, hcs, htake⟩
  · have : l = [] := List.eq_nil_of_length_eq_zero hn
    subst this
    exact ⟨none, 0, rfl, Nat.le_refl _, by omega, hr, fun h => by simp at h⟩
  · refine ⟨_, cap, rfl, hnc, by simpa [maxLen] using hcm, hr, fun h0 => ⟨g, 0, rfl, heap_of_cells hg, fun j hj => ?_⟩⟩
    obtain ⟨h1, h2⟩ := cvs_get l j hj
    have c1 := h.cellAt (j * 2) (by omega)
    have c2 := h.cellAt (j * 2 + 1) (by omega)
    rw [Nat.zero_add]
    rw [h1] at c1
    rw [h2] at c2
    exact ⟨c1, c2⟩
theorem SCE.of_own {g : Nat} {w : World} {base e : Nat} {v : Value} {l : List (Int × Bool)} (h : w.ownsRow base e 2 v l.length (l.flatMap cvs)) (hr : ∀ x ∈ l, i64r x.1) (hg : g < base) : SCE g w v l :=
  fun _ hW => SCl.of_own (own_grn h hW hg) hr
theorem clinfo : (Try.prog.info? 33).map (fun i => (i.zero, i.size, i.bytes)) = some (some (.agg #[.int .i64 0, .bool false]), 2, 16) := by kernel_rfl

def CeR (g : Nat) (P : Int) (n : Nat) (w3 : World) (v iv : Value) (wr : World) : Prop :=
  ∃ (i : Nat) (l : List (Int × Bool)), i ≤ n ∧ l.length + i = n ∧ iv = .int .i64 ((i : Int) - 1) ∧ (∀ x ∈ l, el P x.1 = true) ∧ wr.ownsRow w3.heap.size 33 2 v l.length (l.flatMap cvs) ∧ Dk wr g ∧ w3.grownBy wr (some g)
set_option maxRecDepth 100000 in
set_option maxHeartbeats 4000000 in
theorem lcells_any (g : Nat) (w : World) (hD : Dk w g) :
    Calls Try.prog 10 #[.pointer (some ⟨g, 0, none⟩)] w fun e w' => ∃ P v l, e = .returned (.tuple #[.agg #[.int .i64 P], v]) ∧ prB P = true ∧ 8 < P ∧ 1 ≤ l.length ∧ l.length ≤ 8 ∧ (∀ x ∈ l, el P x.1 = true) ∧ SCE g w' v l ∧ Dk w' g ∧ w.grownBy w' (some g) := by
  obtain ⟨i0, hi0, hi1, hi2, hi3⟩ := info_parts clinfo
  have HD := Lib.hid hD
  have hgw : g < w.heap.size := hD.lt
  clear hD
  go_enter Try.func10, Try.ntmps10
  obtain ⟨F, eF⟩ : ∃ F, F = w.heap.size := ⟨_, rfl⟩
  obtain ⟨w1, ew1⟩ : ∃ w1 : World, w1 = w.alloc (.cells #[.int .i64 0] 26) := ⟨_, rfl⟩
  have HWw1 : Hid (w.alloc (.cells #[.int .i64 0] 26) = w1) := ew1.symm
  have HAw1 : Hid (Below w.heap.size w w1) := (show Hid _ from by rw [ew1]; exact (Below.refl _ w).alloc (Nat.le_refl _) _)
  have HF0w1 : Hid (w1.heap[F]? = some (.cells #[.int .i64 0] 26 (0, 0))) := (show Hid _ from by show _ = _; rw [ew1, eF]; exact heap_alloc_new w _)
  have HF0 : Hid (F = w.heap.size) := eF
  go_upto_region 1 with fail
  rw [HWw1.out, ← eF]
  clear ew1 eF
  have HD1 : Hid (Dk w1 g) := (show Hid _ from HD.out.below HAw1.out)
  go_wp2_with fail
  (with_reducible refine (big_any g 8 w1 HD1.out (by omega) (by omega)).mono ?_)
  rintro e w2 ⟨P, rfl, hd2, hg2, hp, hP8⟩
  have HP := Lib.hid hp
  have hPb := prB_bd hp
  have HG2 : Hid (w1.grownBy w2 (some g)) := (show Hid _ from hg2)
  clear hp
  obtain ⟨B, eB⟩ : ∃ B, B = w2.heap.size := ⟨_, rfl⟩
  obtain ⟨w3, ew3⟩ : ∃ w3 : World, w3 = w2.alloc (.cells #[.int .i64 P] 26) := ⟨_, rfl⟩
  have HWw3 : Hid (w2.alloc (.cells #[.int .i64 P] 26) = w3) := ew3.symm
  have HAw3 : Hid (Below w2.heap.size w2 w3) := (show Hid _ from by rw [ew3]; exact (Below.refl _ w2).alloc (Nat.le_refl _) _)
  have HB0w3 : Hid (w3.heap[B]? = some (.cells #[.int .i64 P] 26 (0, 0))) := (show Hid _ from by show _ = _; rw [ew3, eB]; exact heap_alloc_new w2 _)
  have HD3 : Hid (Dk w3 g) := (show Hid _ from hd2.below HAw3.out)
  have HG3 : Hid (w1.grownBy w3 (some g)) := (show Hid _ from grownBy_trans hg2 (grownBy_of_below HAw3.out _))
  have hgB : g < B := by rw [eB]; exact hd2.lt
  have HGB : Hid (g < w3.heap.size) := HD3.out.lt
  have HXC : Hid (∀ W, w3.grownBy W (some g) → W.cell? ⟨B, 0, none⟩ = some (.int .i64 P)) := (show Hid _ from fun W hg => by
    have hB0 := (hg.block B (heap_of_cells HB0w3.out) (by have := HGB.out; simp; omega)).trans HB0w3.out
    exact (cell_of_row W B 0 _ _ _ hB0))
  have HXF : Hid (∀ W, w1.grownBy W (some g) → W.cell? ⟨F, 0, none⟩ = some (.int .i64 0) ∧ W.frozen? ⟨F, 0, none⟩ = false) := (show Hid _ from fun W hg => by
    have hF := (hg.block F (heap_of_cells HF0w1.out) (by have := HF0.out; simp; omega)).trans HF0w1.out
    exact ⟨cell_of_row W F 0 _ _ _ hF, by simp [World.frozen?, hF]⟩)
  clear hd2 hg2
  go_upto_region 2 with fail
  rw [HWw3.out, ← eB]
  clear ew3 eB
  go_wp2_with fail
  (with_reducible refine (next_any 8 g w3 HD3.out (by unfold i64r; omega) (by omega)).mono ?_)
  rintro e w4 ⟨n0, rfl, _, hn, hd4, hg4⟩
  obtain ⟨n, hnn⟩ : ∃ n : Nat, (n : Int) - 1 = n0 := ⟨(n0 + 1).toNat, by have := hn (by omega); omega⟩
  have hn8 : 1 ≤ n ∧ n ≤ 8 := by have := hn (by omega); omega
  subst hnn
  have HD4 := Lib.hid hd4
  have HG4 := Lib.hid hg4
  clear hn hd4 hg4
  go_wp2_with fail
  go_loopw [5, 6] (fun v iv wr => CeR g P n w3 v iv wr) (fun _ iv _ => (intOf iv + 1).toNat)
  case atStart => exact ⟨n, [], Nat.le_refl _, by simp, rfl, fun x hx => by simp at hx, World.ownsRow_nil _ _ _ _, HD4.out, HG4.out⟩
  case round =>
    obtain ⟨i, l, hi, hli, rfl, hel, hown, hdr, hgr⟩ := hrel
    have HO := Lib.hid hown
    have HEL := Lib.hid hel
    have HDr := Lib.hid hdr
    have HGr := Lib.hid hgr
    clear hown hdr hgr hel
    have x0 := HXC.out wr HGr.out
    by_cases h0 : 1 ≤ i
    · have d0 : decide ((0 : Int) ≤ (i : Int) - 1) = true := decide_eq_true (by omega)
      have hmin : min P 5 = 5 := by omega
      go_wp2_with fail
      (with_reducible refine (next_any 5 g wr HDr.out (by unfold i64r; omega) (by omega)).mono ?_)
      rintro e w5 ⟨xv, rfl, _, hx, hd5, hg5⟩
      have hxv := hx (by omega)
      have HD5 := Lib.hid hd5
      have HG5 := Lib.hid (grownBy_trans HGr.out hg5)
      have HO5 := Lib.hid (own_grn HO.out hg5 HGB.out)
      clear hx hd5 hg5
      go_wp2_with fail
      (with_reducible refine (next_any 6 g w5 HD5.out (by unfold i64r; omega) (by omega)).mono ?_)
      rintro e w6 ⟨yv, rfl, _, hy, hd6, hg6⟩
      have hyv := hy (by omega)
      have HD6 := Lib.hid hd6
      have HG6 : Hid (w3.grownBy w6 (some g)) := (show Hid _ from grownBy_trans HG5.out hg6)
      have HO6 := Lib.hid (own_grn HO5.out hg6 HGB.out)
      have hz36 : w3.heap.size ≤ w6.heap.size := HG6.out.size
      have hl8 : l.length ≤ 8 := by omega
      clear hy hd6 hg6 HO5 HG5 HO
      obtain ⟨bv, ebv⟩ : ∃ bv : Bool, bv = decide (0 < yv) := ⟨_, rfl⟩
      have HBV : Hid (decide (0 < yv) = bv) := (show Hid _ from ebv.symm)
      have hbv2 : decide (0 < yv) = bv := ebv.symm
      clear ebv
      go_wp2_with (at_builtin; refine wpList_append_own _ rfl _ _ 27 rfl w3.heap.size 33 i0 _ 2 16 Try.underlying27 hi0 hi1 hi2 hi3 rfl (by omega) _ _ _ rfl (HO6.out.alloc _) ⟨w6.heap.size, 0, none⟩ 1 1 (cvs (xv, bv)) rfl rfl (cells_new w6 _ _) (by intro u hu; simp [cvs] at hu; rcases hu with rfl | rfl <;> rfl) (by unfold maxLen; omega) (by omega) (by simp; omega) ?_; intro v3 w7 hown7 hg7 _; have HO7 := Lib.hid hown7; have HG7 := Lib.hid hg7; clear hown7 hg7)
      go_roundw
      case rel =>
        have hA : Below w6.heap.size w6 (w6.alloc (.cells #[.int .i64 xv, .bool bv] 33)) := (Below.refl _ w6).alloc (Nat.le_refl _) _
        have hG := grn_own (grownBy_trans HG6.out (grownBy_of_below hA (some g))) HG7.out (fun k hk => (HO6.out.lt k hk).1)
        refine ⟨i - 1, l ++ [(xv, bv)], by omega, by simp; omega, by first | rfl | go_num | (congr 1; omega), ?_, by simpa using HO7.out, ?_, hG⟩
        · intro x hx
          rcases List.mem_append.1 hx with h | h
          · exact HEL.out x h
          · simp at h
            subst h
            simp [el]
            omega
        · exact (HD6.out.below hA).grown HG7.out (fun k hk => by have := (HO6.out.lt k hk).1; have := HGB.out; omega)
      case measure => simp [intOf]; omega
    · have d0 : decide ((0 : Int) ≤ (i : Int) - 1) = false := decide_eq_false (by omega)
      have hF := HXF.out wr (grownBy_trans HG3.out HGr.out)
      obtain ⟨f0, f1⟩ := hF
      go_wp2_with fail
      refine bodyPost_ret (v := .tuple #[.agg #[.int .i64 P], u5]) (by simp [results, Try.results10, go_sem, f0]) rfl ?_
      have hl : l.length = n := by omega
      have hz3 := HGr.out.size
      refine ⟨P, u5, l, rfl, HP.out, hP8, by omega, by omega, HEL.out, ?_, ?_, ?_⟩
      · exact SCE.of_own (own_setCell' HO.out (by have := HF0.out; have := HG3.out.size; have := heap_of_cells HF0w1.out; show F < _; omega)) (fun x hx => el_r hPb.2 (HEL.out x hx)) HGB.out
      · have hne : ¬ F = g := by have := HF0.out; omega
        exact HDr.out.of fun k hk => heap_setCell_other wr ⟨F, 0, none⟩ k _ (by show ¬ _ = _; have := HF0.out; show ¬ _; intro e; simp only at e; omega)
      · exact grownBy_setCell (grownBy_trans (grownBy_of_below HAw1.out _) (grownBy_trans HG3.out HGr.out)) (.inr (by show _ ≤ F; have := HF0.out; omega)) _
end Go.Proofs.Ytbgabipngdillaa

namespace Go.Proofs.Ytbgabipngdillaa
open Go.RowKit

def RuB (C : Nat) (cl rl : List Int) (B : Nat) (w1 : World) (hv iv : Value) (wr : World) : Prop :=
  ∃ (k : Nat) (bs cs : Nat → Nat), iv = .int .i64 k ∧ BR B wr hv (C + 1) k bs cs (eqM cl rl C k) ∧ Below B w1 wr
/-- what the elimination has come to: rows in memory, the leading columns as a list beside them -/
structure LQ (P : Int) (C R : Nat) (M0 : List (List Int)) (B G k r : Nat) (bs cs : Nat → Nat) (M : List (List Int)) (ld Lq : List Int) (lv : Value) (w : World) : Prop where
  rm : RM B w G (C + 1) R bs cs M
  ge : GE P C M0 M r k ld
  len : Lq.length = r
  at' : ∀ n (h : n < Lq.length), ∃ c : Nat, c < k ∧ Lq[n] = c ∧ gd ld c = (n : Int) + 1
  own : w.ownsRow B 3 1 lv Lq.length (Lq.map (Value.int .i64))
  apart : ∀ b, lv.ownBlock = some b → b ≠ G ∧ ∀ i, i < R → b ≠ bs i
theorem LQ.none {P : Int} {C R : Nat} {M0 : List (List Int)} {B G k r : Nat} {bs cs : Nat → Nat} {M : List (List Int)} {ld Lq : List Int} {lv : Value} {w : World} (h : LQ P C R M0 B G k r bs cs M ld Lq lv w) (h0 : ∀ m, r ≤ m → m < M.length → gd (gr M m) k = 0) : LQ P C R M0 B G (k + 1) r bs cs M ld Lq lv w :=
  ⟨h.rm, h.ge.none h0, h.len, fun n hn => by obtain ⟨c, h1, h2⟩ := h.at' n hn; exact ⟨c, by omega, h2⟩, h.own, h.apart⟩
theorem LQ.full {P : Int} {C R : Nat} {M0 : List (List Int)} {B G r : Nat} {bs cs : Nat → Nat} {M : List (List Int)} {ld Lq : List Int} {lv : Value} {w : World} : ∀ {k : Nat}, LQ P C R M0 B G k r bs cs M ld Lq lv w → k ≤ C → M.length ≤ r → LQ P C R M0 B G C r bs cs M ld Lq lv w := by
  intro k h hk hr
  obtain ⟨n, hn⟩ : ∃ n, n = C - k := ⟨_, rfl⟩
  induction n generalizing k with
  | zero =>
    obtain rfl : k = C := by omega
    exact h
  | succ n ih => exact ih (h.none fun m h1 h2 => by omega) (by omega) (by omega)
theorem sw_comm (f : Nat → Nat) (r i : Nat) : sw f i r = sw f r i := by
  funext j
  unfold sw
  by_cases h1 : j = i
  · by_cases h2 : j = r
    · subst h1; subst h2; rfl
    · rw [if_neg h2, if_pos h1, if_pos h1]
  · by_cases h2 : j = r
    · rw [if_pos h2, if_neg h1, if_pos h2]
    · rw [if_neg h2, if_neg h1, if_neg h1, if_neg h2]
theorem swp_comm (M : List (List Int)) {r i : Nat} (hr : r < M.length) (hi : i < M.length) : swp M i r = swp M r i := gr_ext (by rw [swp_len, swp_len]) fun j hj => by
  rw [gr_swp hi hr, gr_swp hr hi]
  by_cases h1 : j = i
  · by_cases h2 : j = r
    · subst h1; subst h2; rfl
    · rw [if_neg h2, if_pos h1, if_pos h1]
  · by_cases h2 : j = r
    · rw [if_pos h2, if_neg h1, if_pos h2]
    · rw [if_neg h2, if_neg h1, if_neg h1, if_neg h2]
theorem RM.swap2 {base : Nat} {w : World} {G n m : Nat} {bs cs : Nat → Nat} {M : List (List Int)} (h : RM base w G n m bs cs M) {r i : Nat} (hr : r < m) (hi : i < m) :
    RM base ((w.setCell ⟨G, i, none⟩ (hd n bs cs r)).setCell ⟨G, r, none⟩ (hd n bs cs i)) G n m (sw bs r i) (sw cs r i) (swp M r i) := by
  have h1 := h.swap hi hr rfl
  rw [sw_comm bs, sw_comm cs, swp_comm M (by rw [h.len]; exact hr) (by rw [h.len]; exact hi)] at h1
  exact h1
theorem apart_sw {bs : Nat → Nat} {r j R G : Nat} {lv : Value} (hr : r < R) (hj : j < R) (h : ∀ b, lv.ownBlock = some b → b ≠ G ∧ ∀ i, i < R → b ≠ bs i) : ∀ b, lv.ownBlock = some b → b ≠ G ∧ ∀ i, i < R → b ≠ sw bs r j i := fun b hb => by
  obtain ⟨h1, h2⟩ := h b hb
  refine ⟨h1, fun i hi => ?_⟩
  unfold sw
  split
  · exact h2 r hr
  · split
    · exact h2 j hj
    · exact h2 i hi
theorem RM.kept {base : Nat} {w w' : World} {G n m : Nat} {bs cs : Nat → Nat} {M : List (List Int)} (h : RM base w G n m bs cs M) (hG : w'.heap[G]? = w.heap[G]?) (hk : ∀ i, i < m → w'.heap[bs i]? = w.heap[bs i]?) : RM base w' G n m bs cs M := by
  obtain ⟨L, h1, h2⟩ := h.hdr
  refine ⟨⟨L, hG.trans h1, h2⟩, h.len, h.gb, fun i hi => ?_, h.apart⟩
  obtain ⟨⟨tl, r1⟩, r2, r3, r4, r5, r6⟩ := h.row i hi
  exact ⟨⟨tl, (hk i hi).trans r1⟩, r2, r3, r4, r5, r6⟩
theorem lq_next {P : Int} {C R : Nat} {M0 : List (List Int)} {B G k r cap9 g9 : Nat} {bs cs bs' cs' : Nat → Nat} {M M' : List (List Int)} {ld Lq : List Int} {lv : Value} {w wr w10 : World} {o : Obj}
    (h : LQ P C R M0 B G k r bs cs M ld Lq lv w) (hge : GE P C M0 M' (r + 1) (k + 1) (ld.set k ((r : Int) + 1))) (hrm : RM B wr G (C + 1) R bs' cs' M') (hap : ∀ b, lv.ownBlock = some b → b ≠ G ∧ ∀ i, i < R → b ≠ bs' i)
    (hg : (wr.alloc o).grownBy w10 lv.ownBlock) (ha : lv.ownBlock = some g9 ∨ g9 = (wr.alloc o).heap.size)
    (ho : w10.ownsRow B 3 1 (.slice (some ⟨g9, 0, none⟩) (r + 1) cap9) (r + 1) (Lq.map (Value.int .i64) ++ [.int .i64 k])) (hkC : k < C) (hC : C ≤ 32) :
    LQ P C R M0 B G (k + 1) (r + 1) bs' cs' M' (ld.set k ((r : Int) + 1)) (Lq ++ [(k : Int)]) (.slice (some ⟨g9, 0, none⟩) (r + 1) cap9) w10 := by
  have hlen : Lq.length = r := h.len
  have hld : ld.length = 32 := h.ge.ldl
  refine ⟨?_, hge, by simp [hlen], fun n hn => ?_, by simpa [hlen] using ho, fun b hb => ?_⟩
  · refine hrm.kept ?_ fun i hi => ?_
    · have hl := hrm.lt
      rw [hg.block G (by simp; omega) (fun e => (hap G e.symm).1 rfl), Below.heap_alloc wr o G hl]
    · have hl := (hrm.row i hi).1.lt
      rw [hg.block (bs' i) (by simp; omega) (fun e => (hap _ e.symm).2 i hi rfl), Below.heap_alloc wr o _ hl]
  · by_cases e : n < Lq.length
    · obtain ⟨c, h1, h2, h3⟩ := h.at' n e
      refine ⟨c, by omega, by rw [List.getElem_append_left e]; exact h2, ?_⟩
      rw [gd_set _ _ _ _ (by omega), if_neg (by omega)]
      exact h3
    · have en : n = Lq.length := by simp at hn; omega
      subst en
      refine ⟨k, by omega, by simp, ?_⟩
      rw [gd_set _ _ _ _ (by omega), if_pos rfl, hlen]
  · have e : g9 = b := by simpa [Value.ownBlock] using hb
    subst e
    rcases ha with h1 | h1
    · exact hap _ h1
    · have hl := hrm.lt
      refine ⟨by rw [h1]; simp; omega, fun i hi => ?_⟩
      have hl2 := (hrm.row i hi).1.lt
      rw [h1]; simp; omega
def RuL (P : Int) (C R : Nat) (M0 : List (List Int)) (B G : Nat) (w1 : World) (lv kv : Value) (wr : World) : Prop :=
  ∃ (k r : Nat) (bs cs : Nat → Nat) (M : List (List Int)) (ld Lq : List Int), k ≤ C ∧ kv = .int .i64 k ∧ LQ P C R M0 B G k r bs cs M ld Lq lv wr ∧ Below B w1 wr
theorem ra_lt {wa : World} {B0 g0 n m cap e : Nat} {xs : List Value} (h : wa.ownsRow B0 e 1 (.slice (some ⟨g0, 0, none⟩) n cap) m xs) : B0 ≤ g0 ∧ g0 < wa.heap.size := h.lt g0 rfl
theorem ra_own {wa : World} {B B0 g0 n cap : Nat} {PR : List Int} (h : wa.ownsRow B0 3 1 (.slice (some ⟨g0, 0, none⟩) ([] ++ PR).length cap) ([] ++ PR).length (([] ++ PR).map (Value.int .i64))) (hpl : PR.length = n) (hB : B ≤ B0) :
    wa.ownsRow B 3 1 (.slice (some ⟨g0, 0, none⟩) n cap) PR.length (PR.map (Value.int .i64)) := by
  subst hpl
  exact own_lo h hB
theorem ra_own0 {wa : World} {B0 g0 cap : Nat} {PR : List Int} (h : wa.ownsRow B0 3 1 (.slice (some ⟨g0, 0, none⟩) ([] ++ PR).length cap) ([] ++ PR).length (([] ++ PR).map (Value.int .i64))) :
    wa.ownsRow B0 3 1 (.slice (some ⟨g0, 0, none⟩) (([] : List Int) ++ PR).length cap) PR.length (PR.map (Value.int .i64)) := h
theorem ra_bel {wr wa : World} (h : wr.grownBy wa (Value.slice none 0 0).ownBlock) : Below wr.heap.size wr wa := below_grown h (Nat.le_refl _) (fun b hb => by simp [Value.ownBlock] at hb)
theorem ra_bel1 {wr wa wb : World} {g0 n cap : Nat} {o : Obj} (h : Below wr.heap.size wr wa) (hg : (wa.alloc o).grownBy wb (Value.slice (some ⟨g0, 0, none⟩) n cap).ownBlock) (h0 : wr.heap.size ≤ g0) : Below wr.heap.size wr wb :=
  (h.alloc h.size o).grown hg (by have := h.size; simp; omega) (fun b hb => by
    have e : g0 = b := by simpa [Value.ownBlock] using hb
    omega)
theorem BR.push2 {base : Nat} {w w1 w2 : World} {hv : Value} {n k : Nat} {bs cs : Nat → Nat} {M : List (List Int)} (h : BR base w hv n k bs cs M) {row : List Int} {y : Int} {g1 cap1 g2 cap2 : Nat} {o2 : Obj}
    (hw : ∀ b, b < w.heap.size → w1.heap[b]? = w.heap[b]?) (hws : w.heap.size ≤ w1.heap.size) (hn : row.length + 1 = n)
    (ho1 : w1.ownsRow base 3 1 (.slice (some ⟨g1, 0, none⟩) (row ++ [y]).length cap1) (row ++ [y]).length ((row ++ [y]).map (Value.int .i64))) (hg1lo : w.heap.size ≤ g1)
    (hg2 : (w1.alloc o2).grownBy w2 hv.ownBlock) (ho2 : w2.ownsRow base 22 1 (.slice (some ⟨g2, 0, none⟩) (k + 1) cap2) (k + 1) ((List.range k).map (hd n bs cs) ++ [.slice (some ⟨g1, 0, none⟩) (row ++ [y]).length cap1])) (ha2 : hv.ownBlock = some g2 ∨ g2 = (w1.alloc o2).heap.size) :
    BR base w2 (.slice (some ⟨g2, 0, none⟩) (k + 1) cap2) n (k + 1) (upd bs k g1) (upd cs k cap1) (M ++ [row ++ [y]]) := by
  have hl : (row ++ [y]).length = n := by simp; omega
  rw [hl] at ho1 ho2
  obtain ⟨r1, r2, r3, r4⟩ := RB.of_own ho1 rfl
  have hlM := h.len
  have hs2 := hg2.size
  simp at hs2
  have hvl := h.own.lt
  have hg1hi : g1 < w1.heap.size := r1.lt
  -- old blocks through both growths
  have old : ∀ b, b < w.heap.size → hv.ownBlock ≠ some b → w2.heap[b]? = w.heap[b]? := by
    intro b hb hne
    rw [hg2.block b (by simp; omega) (fun e => hne e.symm), Below.heap_alloc w1 o2 b (by omega)]
    exact hw b hb
  have hrow : ∀ i, i < k → bs i < w.heap.size := fun i hi => (h.row i hi).1.lt
  have hhv2 : ∀ b, (Value.slice (some ⟨g2, 0, none⟩) (k + 1) cap2).ownBlock = some b → hv.ownBlock = some b ∨ w1.heap.size ≤ b := by
    intro b hb
    have e : g2 = b := by injection hb
    subst e
    rcases ha2 with e2 | e2
    · exact .inl e2
    · right; rw [e2]; simp
  refine ⟨?_, by simp [hlM], fun i hi => ?_, fun i j hi hj hij => ?_⟩
  · have : (List.range (k + 1)).map (hd n (upd bs k g1) (upd cs k cap1)) = (List.range k).map (hd n bs cs) ++ [.slice (some ⟨g1, 0, none⟩) n cap1] := by
      rw [List.range_succ, List.map_append]
      congr 1
      · apply List.map_congr_left
        intro i hi
        have : i ≠ k := by have := List.mem_range.1 hi; omega
        simp [hd, upd, this]
      · simp [hd, upd]
    rw [this]; exact ho2
  · by_cases e : i = k
    · subst e
      have hgr : gr (M ++ [row ++ [y]]) i = row ++ [y] := by rw [gr_lt (by simp; omega)]; simp [hlM.symm]
      rw [hgr]
      simp only [upd, ↓reduceIte]
      refine ⟨?_, hl, r3, by simpa [maxLen] using r4, r2, fun e2 => ?_⟩
      · obtain ⟨tl, r1⟩ := r1
        refine ⟨tl, ?_⟩
        rw [hg2.block g1 (by simp; omega) (fun e2 => by have := (hvl g1 e2.symm).2; omega), Below.heap_alloc w1 o2 g1 hg1hi]
        exact r1
      · rcases hhv2 g1 e2 with e3 | e3
        · have := (hvl g1 e3).2; omega
        · omega
    · have hik : i < k := by omega
      obtain ⟨⟨tl, q1⟩, q2, q3, q4, q5, q6⟩ := h.row i hik
      have hgr : gr (M ++ [row ++ [y]]) i = gr M i := by
        unfold gr; rw [List.getElem?_append_left (by omega)]
      rw [hgr]
      simp only [upd]
      rw [if_neg e, if_neg e]
      refine ⟨⟨tl, (old _ (hrow i hik) q6).trans q1⟩, q2, q3, q4, q5, fun e2 => ?_⟩
      rcases hhv2 _ e2 with e3 | e3
      · exact q6 e3
      · have := hrow i hik; omega
  · simp only [upd] at hij
    by_cases ei : i = k
    · by_cases ej : j = k
      · omega
      · rw [if_pos ei, if_neg ej] at hij
        have := hrow j (by omega); omega
    · by_cases ej : j = k
      · rw [if_neg ei, if_pos ej] at hij
        have := hrow i (by omega); omega
      · rw [if_neg ei, if_neg ej] at hij
        exact h.apart i j (by omega) (by omega) hij
theorem ra_belL {wr wa : World} {o : Obj} (h : (wr.alloc o).grownBy wa (Value.slice none 0 0).ownBlock) : Below wr.heap.size wr wa :=
  ((Below.refl _ wr).alloc (Nat.le_refl _) o).grown h (by simp) (fun b hb => by simp [Value.ownBlock] at hb)
theorem ra_lit {wr wa : World} {y : Int} (h : (wr.alloc (.cells #[.int .i64 y] 3)).grownBy wa (Value.slice none 0 0).ownBlock) : wa.cell? ⟨wr.heap.size, 0, none⟩ = some (.int .i64 y) := by
  have h1 := h.block wr.heap.size (by simp) (by simp [Value.ownBlock])
  exact cell_of_row wa wr.heap.size 0 _ _ _ (h1.trans (heap_alloc_new wr _))
theorem ra_bel3 {w1 wb wd : World} {o : Obj} {v : Value} (h : Below w1.heap.size w1 wb) (hg : (wb.alloc o).grownBy wd v.ownBlock) (h0 : ∀ b, v.ownBlock = some b → w1.heap.size ≤ b) : Below w1.heap.size w1 wd :=
  (h.alloc h.size o).grown hg (by have := h.size; simp; omega) h0
theorem ra_bel2 {wr wa wb : World} {g0 n cap : Nat} (h : Below wr.heap.size wr wa) (hg : wa.grownBy wb (Value.slice (some ⟨g0, 0, none⟩) n cap).ownBlock) (h0 : wr.heap.size ≤ g0) : Below wr.heap.size wr wb :=
  h.grown hg h.size (fun b hb => by
    have e : g0 = b := by simpa [Value.ownBlock] using hb
    omega)
set_option maxRecDepth 100000 in
set_option maxHeartbeats 8000000 in
theorem rreduce_any (P : Int) (R C : Nat) (cl rl : List Int) (vc vr : Value) (w : World) (hp : prB P = true) (hR : R ≤ 32) (hR1 : 1 ≤ R) (hC : C ≤ 32) (hC1 : 1 ≤ C) (h1 : cl.length = R * C) (h2 : rl.length = R) (he1 : els P cl = true) (he2 : els P rl = true) (hc : SI w vc cl) (hr : SI w vr rl) :
    Calls Try.prog 62 #[.agg #[.int .i64 P, .int .i64 R, .int .i64 C, vc, vr]] w fun e w' => ∃ (G c r : Nat) (bs cs : Nat → Nat) (M : List (List Int)) (ld Lq : List Int) (lv : Value) (B : Nat), e = .returned (.tuple #[.slice (some ⟨G, 0, none⟩) R c, lv]) ∧ R ≤ c ∧ w.heap.size ≤ B ∧ LQ P C R (eqM cl rl C R) B G C r bs cs M ld Lq lv w' ∧ Below w.heap.size w w' := by
  have HP := Lib.hid hp
  have HC := Lib.hid hc
  have HR := Lib.hid hr
  have E1 := Lib.hid he1
  have E2 := Lib.hid he2
  have L1 := Lib.hid h1
  have L2 := Lib.hid h2
  obtain ⟨A1, c1, rfl, hcc, hcm, _⟩ := hc
  obtain ⟨A2, c2, rfl, _⟩ := hr
  have hRC : R * C ≤ 1024 := Nat.mul_le_mul hR hC
  obtain ⟨nc, enc⟩ : ∃ n, n = cl.length := ⟨_, rfl⟩
  obtain ⟨nr, enr⟩ : ∃ n, n = rl.length := ⟨_, rfl⟩
  have hnr : nr = R := by omega
  have hnc : nc ≤ 1024 := by omega
  rw [← enc] at HC hcc L1 ⊢
  rw [← enr] at HR L2 ⊢
  have HNC := Lib.hid enc
  have HNR := Lib.hid enr
  have HNR2 := Lib.hid hnr
  clear h1 h2 he1 he2 hp enc enr hnr
  go_enter Try.func62, Try.ntmps62
  obtain ⟨E, eE⟩ : ∃ E, E = w.heap.size := ⟨_, rfl⟩
  obtain ⟨w1, ew1⟩ : ∃ w1 : World, w1 = w.alloc (.cells #[.int .i64 P, .int .i64 R, .int .i64 C, .slice A1 nc c1, .slice A2 nr c2] 76) := ⟨_, rfl⟩
  have HWw1 : Hid (w.alloc (.cells #[.int .i64 P, .int .i64 R, .int .i64 C, .slice A1 nc c1, .slice A2 nr c2] 76) = w1) := ew1.symm
  have HAw1 : Hid (Below w.heap.size w w1) := (show Hid _ from by rw [ew1]; exact (Below.refl _ w).alloc (Nat.le_refl _) _)
  have HE0w1 : Hid (w1.heap[E]? = some (.cells #[.int .i64 P, .int .i64 R, .int .i64 C, .slice A1 nc c1, .slice A2 nr c2] 76 (0, 0))) := (show Hid _ from by show _ = _; rw [ew1, eE]; exact heap_alloc_new w _)
  have HXE : Hid (∀ W, Below w1.heap.size w1 W → W.cell? ⟨E, 0, none⟩ = some (.int .i64 P) ∧ W.cell? ⟨E, 1, none⟩ = some (.int .i64 R) ∧ W.cell? ⟨E, 2, none⟩ = some (.int .i64 C) ∧ W.cell? ⟨E, 3, none⟩ = some (.slice A1 nc c1) ∧ W.cell? ⟨E, 4, none⟩ = some (.slice A2 nr c2)) := (show Hid _ from fun W hg => by
    have hE0 := (hg.block E (heap_of_cells HE0w1.out)).trans HE0w1.out
    exact ⟨cell_of_row W E 0 _ _ _ hE0, cell_of_row W E 1 _ _ _ hE0, cell_of_row W E 2 _ _ _ hE0, cell_of_row W E 3 _ _ _ hE0, cell_of_row W E 4 _ _ _ hE0⟩)
  have hz1 : w.heap.size < w1.heap.size := by rw [ew1]; simp
  have HE1 : Hid (E < w1.heap.size) := (show Hid _ from by rw [eE]; exact hz1)
  go_upto_region 1 with fail
  rw [HWw1.out, ← eE]
  clear ew1 eE
  obtain ⟨B, eB⟩ : ∃ B, B = w1.heap.size := ⟨_, rfl⟩
  have HB := Lib.hid eB
  obtain ⟨x0, x1, x2, x3, x4⟩ := HXE.out w1 (Below.refl _ _)
  go_wp2_with fail
  clear x0 x1 x2 x3 x4
  go_loopw [5, 6] (fun hv iv wr => ∃ k : Nat, k ≤ R ∧ RuB C cl rl w1.heap.size w1 hv iv wr ∧ iv = .int .i64 k) (fun _ iv _ => R - (intOf iv).toNat)
  case atStart => exact ⟨0, Nat.zero_le _, ⟨0, fun _ => 0, fun _ => 0, rfl, BR.nil _ _ _ _ _, Below.refl _ _⟩, rfl⟩
  case round =>
    obtain ⟨k, hk, ⟨k', bs, cs, ek, hBR, hbel⟩, rfl⟩ := hrel
    obtain rfl : k = k' := by injection ek with _ e; omega
    have HBR := Lib.hid hBR
    have HBel := Lib.hid hbel
    have hzr := hbel.size
    obtain ⟨x0, x1, x2, x3, x4⟩ := HXE.out wr hbel
    have HW1 : Hid (Below w.heap.size w wr) := (show Hid _ from HAw1.out.trans (hbel.mono (by omega)))
    have HCr : Hid (SI wr (.slice A1 nc c1) cl) := (show Hid _ from HC.out.below HW1.out)
    have HRr : Hid (SI wr (.slice A2 nr c2) rl) := (show Hid _ from HR.out.below HW1.out)
    clear hBR hbel ek
    by_cases hkR : k < R
    · have dk : decide ((k : Int) < (R : Int)) = true := decide_eq_true (by omega)
      have dkn : decide (k < R) = true := decide_eq_true hkR
      obtain ⟨kc, ekc⟩ : ∃ kc, kc = k * C := ⟨_, rfl⟩
      have hkc1 : kc + C ≤ nc := by rw [L1.out, ekc]; have := Nat.mul_le_mul_right C (by omega : k + 1 ≤ R); rwa [Nat.add_mul, Nat.one_mul] at this
      have q1 : (k : Int) * (C : Int) = (kc : Int) := by rw [ekc]; simp
      have q2 : ((k : Int) + 1) * (C : Int) = (kc : Int) + (C : Int) := by rw [Int.add_mul, q1]; simp
      have HKC := Lib.hid ekc
      clear ekc
      obtain ⟨b1, off1, eA1, hb1, hcell1⟩ := HCr.out.cells (by rw [← HNC.out]; omega)
      subst eA1
      clear hcell1
      have x5 : (0 : Int) ≤ (kc : Int) := by omega
      have x6 : (kc : Int) ≤ (kc : Int) + (C : Int) := by omega
      have x7 : (kc : Int) + (C : Int) ≤ (c1 : Int) := by omega
      have x8 : (0 : Int) ≤ (kc : Int) + (C : Int) := by omega
      have x9 : ((kc : Int) + (C : Int)).toNat = kc + C := by omega
      have w1' : IntKind.i64.wrap (kc : Int) = (kc : Int) := by exact IntWalk.i64_in _ (by omega)
      have w2' : IntKind.i64.wrap ((kc : Int) + (C : Int)) = (kc : Int) + (C : Int) := by exact IntWalk.i64_in _ (by omega)
      have w3' : IntKind.i64.wrap ((k : Int) + 1) = (k : Int) + 1 := by exact IntWalk.i64_in _ (by omega)
      have hne1 : ¬ c1 = kc := by omega
      obtain ⟨PR, ePR⟩ : ∃ l, l = (cl.drop kc).take C := ⟨_, rfl⟩
      have hpl : PR.length = C := by rw [ePR]; simp; have := HNC.out; omega
      have HPCW : Hid (∀ W, Below wr.heap.size wr W → SB wr.heap.size W (.slice (some ⟨b1, off1 + kc, none⟩) C (c1 - kc)) PR) := (show Hid _ from fun W hW => by
        have h1 : SI wr (.slice (some ⟨b1, off1, none⟩) cl.length c1) cl := by rw [← HNC.out]; exact HCr.out
        have h2 := h1.part (lo := kc) (k := C) (by rw [← HNC.out]; omega)
        rw [ePR]
        exact SB.below h2 hW)
      have hnrR := HNR2.out
      have hkr : k < rl.length := by rw [← HNR.out]; omega
      obtain ⟨b2, off2, eA2, hb2, hcell2⟩ := HR.out.cells (by omega)
      subst eA2
      obtain ⟨y, ey⟩ : ∃ y, y = rl[k] := ⟨_, rfl⟩
      have HLW1 : Hid (∀ W, Below w1.heap.size w1 W → W.cell? ⟨E, 2, none⟩ = some (.int .i64 C) ∧ W.cell? ⟨E, 3, none⟩ = some (.slice (some ⟨b1, off1, none⟩) nc c1) ∧ W.cell? ⟨E, 4, none⟩ = some (.slice (some ⟨b2, off2, none⟩) nr c2) ∧ W.cell? ⟨b2, off2 + k, none⟩ = some (.int .i64 y)) := (show Hid _ from fun W hW => by
        obtain ⟨y0, y1, y2, y3, y4⟩ := HXE.out W hW
        exact ⟨y2, y3, y4, by rw [ey]; exact ((HAw1.out.trans (hW.mono HAw1.out.size)).cell (p := ⟨b2, off2 + k, none⟩) hb2).trans (hcell2 k hkr)⟩)
      have HLW : Hid (∀ W, Below wr.heap.size wr W → W.cell? ⟨E, 2, none⟩ = some (.int .i64 C) ∧ W.cell? ⟨E, 3, none⟩ = some (.slice (some ⟨b1, off1, none⟩) nc c1) ∧ W.cell? ⟨E, 4, none⟩ = some (.slice (some ⟨b2, off2, none⟩) nr c2) ∧ W.cell? ⟨b2, off2 + k, none⟩ = some (.int .i64 y)) := (show Hid _ from fun W hW => HLW1.out W (HBel.out.trans (hW.mono hzr)))
      obtain ⟨A, ch, ehv⟩ := own_slice HBR.out.own
      subst ehv
      obtain ⟨x2', x3', x4', xr⟩ := HLW.out wr (Below.refl _ _)
      have z1 : (0 : Int) ≤ (k : Int) := by omega
      have z2 : (k : Int) < (nr : Int) := by omega
      have HEP := Lib.hid ePR
      have HEY : Hid (y = gd rl k) := (show Hid _ from by show _ = _; rw [ey, gd_lt hkr])
      obtain ⟨vs, evs⟩ : ∃ vs, vs = (List.range k).map (hd (C + 1) bs cs) := ⟨_, rfl⟩
      have HEV := Lib.hid evs
      have HOW : Hid (wr.ownsRow w1.heap.size 22 1 (.slice A k ch) k vs) := (show Hid _ from by rw [evs]; exact HBR.out.own)
      have HOL : Hid (∀ b, (Value.slice A k ch).ownBlock = some b → w1.heap.size ≤ b ∧ b < wr.heap.size) := (show Hid _ from HBR.out.own.lt)
      clear hcell2 ey ePR evs x0 x2 x3 x4 hnrR
      have HBLd : Hid (Below wr.heap.size wr (wr.alloc (.cells #[.int .i64 y] 3)).drew) := (show Hid _ from ((Below.refl _ wr).alloc (Nat.le_refl _) _).drew)
      have HSLd : Hid (wr.heap.size ≤ (wr.alloc (.cells #[.int .i64 y] 3)).drew.heap.size) := (show Hid _ from HBLd.out.size)
      have HSw := Lib.hid (HLW.out wr (Below.refl _ _))
      have HSL := Lib.hid (HLW.out _ HBLd.out)
      go_upto_region 6 with fail
      go_region_held3 (fun w' => w'.cell? ⟨E, 2, none⟩ = some (.int .i64 C) ∧ w'.cell? ⟨E, 3, none⟩ = some (.slice (some ⟨b1, off1, none⟩) nc c1) ∧ w'.cell? ⟨E, 4, none⟩ = some (.slice (some ⟨b2, off2, none⟩) nr c2) ∧ w'.cell? ⟨b2, off2 + k, none⟩ = some (.int .i64 y))
        (first | exact HSw.out | exact HSL.out | exact HSa.out | exact HSaL.out | exact HSb.out | exact HSbL.out | exact HSd.out | go_keep)
        (first
        | (refine step_append_ints_at _ (by rfl) (.const (.slice none 0 0)) _ 22 (by rfl) wr.heap.size 3 Try.underlying22 iinfo (.slice none 0 0) [] (by rfl) (by exact World.ownsRow_nil _ _ _ _) wr.heap.size (.slice (some ⟨b1, off1 + kc, none⟩) C (c1 - kc)) PR (by rfl) (by exact HPCW.out _ (Below.refl _ wr).drew) (by omega) (by simp; omega) (by exact Nat.le_refl _) ?_; intro g0 cap0 wa hown0 hg0 hat0; have HBa : Hid (Below wr.heap.size wr wa) := (show Hid _ from ra_bel ⟨hg0.os, hg0.tape, hg0.output, hg0.size, hg0.block⟩); have HSa := Lib.hid (HLW.out wa HBa.out); have HSaL := Lib.hid (HLW.out _ (HBa.out.alloc HBa.out.size (.cells #[.int .i64 y] 3))); have HG0 := Lib.hid (ra_lt hown0); have HO0 := Lib.hid (ra_own hown0 hpl (Nat.le_refl _)); clear hown0 hg0 hat0)
        | (refine step_append_ints_at _ (by rfl) (.const (.slice none 0 0)) _ 22 (by rfl) wr.heap.size 3 Try.underlying22 iinfo (.slice none 0 0) [] (by rfl) (by exact World.ownsRow_nil _ _ _ _) wr.heap.size (.slice (some ⟨b1, off1 + kc, none⟩) C (c1 - kc)) PR (by rfl) (by exact HPCW.out _ HBLd.out) (by omega) (by simp; omega) (by exact HSLd.out) ?_; intro g0 cap0 wa hown0 hg0 hat0; have HBa : Hid (Below wr.heap.size wr wa) := (show Hid _ from ra_belL ⟨hg0.os, hg0.tape, hg0.output, hg0.size, hg0.block⟩); have HLIT : Hid (wa.cell? ⟨wr.heap.size, 0, none⟩ = some (.int .i64 y)) := (show Hid _ from ra_lit ⟨hg0.os, hg0.tape, hg0.output, hg0.size, hg0.block⟩); have HSa := Lib.hid (HLW.out wa HBa.out); have HSaL := Lib.hid (HLW.out _ (HBa.out.alloc HBa.out.size (.cells #[.int .i64 y] 3))); have HG0 := Lib.hid (ra_lt hown0); have HO0 := Lib.hid (ra_own hown0 hpl (Nat.le_refl _)); have HO0b := Lib.hid (ra_own0 hown0); clear hown0 hg0 hat0)
        | (revert HLIT; intro HLIT; refine step_append_int1_at _ (by rfl) (.tmp 38) _ 22 (by rfl) wr.heap.size 3 Try.underlying22 iinfo (.slice (some ⟨g0, 0, none⟩) (([] : List Int) ++ PR).length cap0) PR (by rfl) (by first | exact HO0b.out | exact HO0b.out.drew) y wr.heap.size (by rfl) (by exact HLIT.out) (by omega) (by exact HBa.out.size) ?_; intro g1 cap1 wb hown1 hg1 hat1; have HBb : Hid (Below wr.heap.size wr wb) := (show Hid _ from ra_bel2 HBa.out ⟨hg1.os, hg1.tape, hg1.output, hg1.size, hg1.block⟩ HG0.out.1); have HSb := Lib.hid (HLW.out wb HBb.out); have HSbL := Lib.hid (HLW.out _ (HBb.out.alloc HBb.out.size (.cells #[.slice (some ⟨g1, 0, none⟩) (C + 1) cap1] 22))); have HG1 := Lib.hid (ra_lt hown1); have HO1 := Lib.hid hown1; have HVb : Hid (wb.ownsRow w1.heap.size 22 1 (.slice A k ch) k vs) := (show Hid _ from own_blk HOW.out (fun b hb => HBb.out.block b (HOL.out b hb).2)); have hzc : w1.heap.size ≤ wb.heap.size := Nat.le_trans hzr HBb.out.size; clear hown1 hg1 hat1 HLIT)
        | (refine step_append_int1_at _ (by rfl) (.tmp 38) _ 22 (by rfl) wr.heap.size 3 Try.underlying22 iinfo (.slice (some ⟨g0, 0, none⟩) C cap0) PR (by rfl) (by first | exact HO0.out.alloc (.cells #[.int .i64 y] 3) | exact (HO0.out.alloc (.cells #[.int .i64 y] 3)).drew) y wa.heap.size (by rfl) (by exact cells_new wa [.int .i64 y] 3 0 _ rfl) (by omega) (by have := HBa.out.size; simp; omega) ?_; intro g1 cap1 wb hown1 hg1 hat1; have HBb : Hid (Below wr.heap.size wr wb) := (show Hid _ from ra_bel1 HBa.out ⟨hg1.os, hg1.tape, hg1.output, hg1.size, hg1.block⟩ HG0.out.1); have HSb := Lib.hid (HLW.out wb HBb.out); have HSbL := Lib.hid (HLW.out _ (HBb.out.alloc HBb.out.size (.cells #[.slice (some ⟨g1, 0, none⟩) (C + 1) cap1] 22))); have HG1 := Lib.hid (ra_lt hown1); have HO1 := Lib.hid hown1; have HVb : Hid (wb.ownsRow w1.heap.size 22 1 (.slice A k ch) k vs) := (show Hid _ from own_blk HOW.out (fun b hb => HBb.out.block b (HOL.out b hb).2)); have hzc : w1.heap.size ≤ wb.heap.size := Nat.le_trans hzr HBb.out.size; clear hown1 hg1 hat1)
        | (refine step_append_one_at _ (by rfl) (.tmp 25) _ 34 (by rfl) w1.heap.size 22 (.slice none 0 0) 24 Try.underlying34 ilinfo (.slice A k ch) k vs (by rfl) (by first | exact HVb.out.alloc (.cells #[.slice (some ⟨g1, 0, none⟩) (C + 1) cap1] 22) | exact (HVb.out.alloc (.cells #[.slice (some ⟨g1, 0, none⟩) (C + 1) cap1] 22)).drew) (.slice (some ⟨g1, 0, none⟩) (C + 1) cap1) (by rfl) wb.heap.size (by rfl) (by exact cells_new wb [.slice (some ⟨g1, 0, none⟩) (C + 1) cap1] 22 0 _ rfl) (by omega) (by omega) (by rfl) (by simp; omega) ?_; intro g2 cap2 wd hown2 hg2 hat2; have HG2 : Hid ((wb.alloc (.cells #[.slice (some ⟨g1, 0, none⟩) (C + 1) cap1] 22)).grownBy wd (Value.slice A k ch).ownBlock) := (show Hid _ from ⟨hg2.os, hg2.tape, hg2.output, hg2.size, hg2.block⟩); have HA2 : Hid ((Value.slice A k ch).ownBlock = some g2 ∨ g2 = (wb.alloc (.cells #[.slice (some ⟨g1, 0, none⟩) (C + 1) cap1] 22)).heap.size) := (show Hid _ from hat2); have HBd : Hid (Below w1.heap.size w1 wd) := (show Hid _ from ra_bel3 (HBel.out.trans (HBb.out.mono hzr)) HG2.out (fun b hb => (HOL.out b hb).1)); have HSd := Lib.hid (HLW1.out wd HBd.out); have HO2 := Lib.hid hown2; clear hown2 hg2 hat2))
      all_goals
        go_wp2_with fail
        go_roundw
        case rel =>
          have hrl : (PR ++ [y]).length = C + 1 := by simp; omega
          have ho2 := HO2.out
          rw [← hrl, HEV.out] at ho2
          have hpush := BR.push2 HBR.out (fun b hb => HBb.out.block b hb) HBb.out.size (by omega) (own_lo HO1.out hzr) HG1.out.1 HG2.out ho2 HA2.out
          have hM : eqM cl rl C k ++ [PR ++ [y]] = eqM cl rl C (k + 1) := by rw [eqM_succ, eqRow, ← HEY.out, HEP.out, HKC.out]
          rw [hM] at hpush
          exact ⟨k + 1, by omega, ⟨k + 1, _, _, by go_num, hpush, HBd.out⟩, by go_num⟩
        case measure => simp [intOf]; omega
    · have dk : decide ((k : Int) < (R : Int)) = false := decide_eq_false (by omega)
      have dkn : decide (k < R) = false := decide_eq_false hkR
      obtain rfl : R = k := by omega
      obtain ⟨G, c, ehv, hRc, hRM⟩ := HBR.out.rm (by omega)
      subst ehv
      have hL0 : LQ P C R (eqM cl rl C R) w1.heap.size G 0 0 bs cs (eqM cl rl C R) (zeros 32) [] (.slice none 0 0) wr := ⟨hRM, GE.start fun i hi => by
        rw [eqM_len] at hi
        rw [eqM_gr hi]
        exact ⟨eqRow_len (by rw [← HNC.out]; exact L1.out) hi, eqRow_els (prB_bd HP.out).1 C i E1.out E2.out⟩, rfl, fun n h => by simp at h, World.ownsRow_nil _ _ _ _, fun b hb => by simp [Value.ownBlock] at hb⟩
      have HL0 := Lib.hid hL0
      obtain ⟨wz, rfl⟩ : ∃ wz : World, wz = wr := ⟨_, rfl⟩
      have HXZ : Hid (∀ W, Below w1.heap.size wz W → W.cell? ⟨E, 0, none⟩ = some (.int .i64 P) ∧ W.cell? ⟨E, 2, none⟩ = some (.int .i64 C)) := (show Hid _ from fun W hW => by
        obtain ⟨y0, y1, y2, y3, y4⟩ := HXE.out W (HBel.out.trans hW)
        exact ⟨y0, y2⟩)
      have HBz : Hid (∀ W, Below w1.heap.size wz W → Below w.heap.size w W) := (show Hid _ from fun W hW => HAw1.out.trans ((HBel.out.trans hW).mono (by omega)))
      have hP := prB_bd HP.out
      have hzz : w1.heap.size ≤ wz.heap.size := hzr
      clear hL0 hRM HBR HCr HRr HXE HC HR
      go_wp2_with fail
      clear x0 x1 x2 x3 x4
      go_loopw [7, 8] (fun lv kv wr => RuL P C R (eqM cl rl C R) w1.heap.size G wz lv kv wr) (fun _ kv _ => C - (intOf kv).toNat)
      case atStart => exact ⟨0, 0, bs, cs, _, _, _, Nat.zero_le _, rfl, HL0.out, Below.refl _ _⟩
      case round =>
        obtain ⟨k, r, bs, cs, M, ld, Lq, hkC0, rfl, hLQ, hbz⟩ := hrel
        have HLQ := Lib.hid hLQ
        have HBQ := Lib.hid hbz
        have hlq := hLQ.len
        have hrR : r ≤ R := by have := hLQ.ge.rk; have := hLQ.rm.len; omega
        obtain ⟨AL, cL, eLv⟩ := own_slice hLQ.own
        rw [hlq] at eLv
        subst eLv
        obtain ⟨z0, z2⟩ := HXZ.out wr hbz
        have hzq := hbz.size
        clear hLQ hbz
        by_cases hkC : k < C
        case' neg =>
          have dk : decide ((k : Int) < (C : Int)) = false := decide_eq_false (by omega)
          have dkn : decide (k < C) = false := decide_eq_false hkC
          obtain rfl : C = k := by omega
          go_wp2_with fail
          refine bodyPost_ret (v := .tuple #[.slice (some ⟨G, 0, none⟩) R c, .slice AL r cL]) (by simp [results, Try.results62, go_sem]) rfl ?_
          exact ⟨G, c, r, bs, cs, M, ld, Lq, _, w1.heap.size, rfl, hRc, by omega, HLQ.out, HBz.out _ HBQ.out⟩
        have dk : decide ((k : Int) < (C : Int)) = true := decide_eq_true (by omega)
        have dkn : decide (k < C) = true := decide_eq_true hkC
        by_cases hrf : r < R
        case' neg =>
          have dr : decide ((r : Int) < (R : Int)) = false := decide_eq_false (by omega)
          have drn : decide (r < R) = false := decide_eq_false hrf
          have HLF : Hid (LQ P C R (eqM cl rl C R) w1.heap.size G C r bs cs M ld Lq (.slice AL r cL) wr) := (show Hid _ from HLQ.out.full (by omega) (by have := HLQ.out.rm.len; omega))
          go_wp2_with fail
          refine bodyPost_ret (v := .tuple #[.slice (some ⟨G, 0, none⟩) R c, .slice AL r cL]) (by simp [results, Try.results62, go_sem]) rfl ?_
          exact ⟨G, c, r, bs, cs, M, ld, Lq, _, w1.heap.size, rfl, hRc, by omega, HLF.out, HBz.out _ HBQ.out⟩
        have dr : decide ((r : Int) < (R : Int)) = true := decide_eq_true (by omega)
        have drn : decide (r < R) = true := decide_eq_true hrf
        go_wp2_with fail
        go_loopw [10] (fun iv wx => ∃ j : Nat, r ≤ j ∧ j ≤ R ∧ iv = .int .i64 j ∧ Hid (∀ q, r ≤ q → q < j → gd (gr M q) k = 0) ∧ wx = wr) (fun iv _ => R - (intOf iv).toNat)
        case atStart => exact ⟨r, Nat.le_refl _, hrR, rfl, (show Hid _ from fun q h1 h2 => by omega), rfl⟩
        case round =>
          obtain ⟨j, hj1, hj2, rfl, HZ, hwx⟩ := hrel
          subst hwx
          by_cases hjm : j < R
          · have dj : decide ((j : Int) < (R : Int)) = true := decide_eq_true (by omega)
            have djn : decide (j < R) = true := decide_eq_true hjm
            have cj := HLQ.out.rm.cell hjm
            have ej := HLQ.out.rm.el (i := j) (j := k) hjm (by omega)
            obtain ⟨x, hx⟩ : ∃ x, x = gd (gr M j) k := ⟨_, rfl⟩
            rw [← hx] at ej
            by_cases h0 : x = 0
            · subst h0
              have HZ2 : Hid (∀ q, r ≤ q → q < j + 1 → gd (gr M q) k = 0) := (show Hid _ from fun q h1 h2 => by
                by_cases e : q = j
                · rw [e]; exact hx.symm
                · exact HZ.out q h1 (by omega))
              clear hx HZ
              go_wp2_with fail
              go_roundw
              case rel => exact ⟨j + 1, by omega, by omega, by go_num, HZ2, by first | trivial | rfl⟩
              case measure => simp [intOf]; omega
            · have hb0 : (x == 0) = false := by simp [h0]
              have HX : Hid (gd (gr M j) k ≠ 0) := (show Hid _ from by rw [← hx]; exact h0)
              have hjb : ((j : Int) == (R : Int)) = false := by rw [beq_eq_false_iff_ne]; omega
              have hjbn : (j == R) = false := by rw [beq_eq_false_iff_ne]; omega
              have cr := HLQ.out.rm.cell hrf
              have fj := HLQ.out.rm.frozen j
              have fr := HLQ.out.rm.frozen r
              have y1 : (0 : Int) ≤ (j : Int) := by omega
              have y2 : (j : Int) < (R : Int) := by omega
              have y3 : (0 : Int) ≤ (r : Int) := by omega
              have y4 : (r : Int) < (R : Int) := by omega
              have HZE := HXZ
              go_upto_region 16 with fail
              go_cut [] (fun wx => RM w1.heap.size wx G (C + 1) R (sw bs r j) (sw cs r j) (swp M r j) ∧ wx.ownsRow w1.heap.size 3 1 (.slice AL r cL) Lq.length (Lq.map (Value.int .i64)) ∧ Below w1.heap.size wz wx)
              case first =>
                have HMj := Lib.hid (HLQ.out.rm.swap2 hrf hjm)
                have hGb : w1.heap.size ≤ G := HLQ.out.rm.gb
                have hap := HLQ.out.apart
                have HOj : Hid (((wr.setCell ⟨G, j, none⟩ (hd (C + 1) bs cs r)).setCell ⟨G, r, none⟩ (hd (C + 1) bs cs j)).ownsRow w1.heap.size 3 1 (.slice AL r cL) Lq.length (Lq.map (Value.int .i64))) := (show Hid _ from own_blk HLQ.out.own (fun b hb => (heap_setCell_other _ ⟨G, r, none⟩ b _ (hap b hb).1).trans (heap_setCell_other wr ⟨G, j, none⟩ b _ (hap b hb).1)))
                have HBj : Hid (Below w1.heap.size wz ((wr.setCell ⟨G, j, none⟩ (hd (C + 1) bs cs r)).setCell ⟨G, r, none⟩ (hd (C + 1) bs cs j))) := (show Hid _ from (HBQ.out.setCell (p := ⟨G, j, none⟩) hGb _).setCell (p := ⟨G, r, none⟩) hGb _)
                clear hap
                by_cases hne : j = r
                · subst hne
                  go_region
                  all_goals
                    go_wp2_with fail
                    go_meet
                    exact ⟨HMj.out.drew, HOj.out, HBj.out.drew⟩
                · go_region
                  all_goals
                    go_wp2_with fail
                    go_meet
                    exact ⟨HMj.out.drew, HOj.out, HBj.out.drew⟩
              case rest =>
                obtain ⟨hM1, hO1, hB1⟩ := hcut
                have HM1 := Lib.hid hM1
                have HO1 := Lib.hid hO1
                have HB1 := Lib.hid hB1
                have HAP := Lib.hid (apart_sw (r := r) (j := j) hrf hjm HLQ.out.apart)
                have hzc : w1.heap.size ≤ wc.heap.size := Nat.le_trans hzz hB1.size
                clear cj ej cr fj fr z0 z2
                have cr := hM1.cell hrf
                have er := hM1.el (i := r) (j := k) hrf (by omega)
                have HMl : Hid (M.length = R) := (show Hid _ from HLQ.out.rm.len)
                have HG1 : Hid (gr (swp M r j) r = gr M j) := (show Hid _ from by
                  show _ = _
                  rw [gr_swp (by rw [HMl.out]; exact hrf) (by rw [HMl.out]; exact hjm)]
                  by_cases e : r = j
                  · rw [if_pos e, e]
                  · rw [if_neg e, if_pos rfl])
                rw [HG1.out] at er
                have hrow := HLQ.out.rm.row j hjm
                have hel : els P (gr M j) = true := (HLQ.out.ge.row j (by rw [HMl.out]; exact hjm)).2
                have hxb := el_t (els_gd hP.1 hel k)
                rw [← hx] at er hxb
                obtain ⟨iv', eiv⟩ : ∃ v, v = inv P x := ⟨_, rfl⟩
                have hiv := inv_bd hP.1 x
                rw [← eiv] at hiv
                have EX := Lib.hid hx
                have EIV := Lib.hid eiv
                have HEL := Lib.hid hel
                have hlenj : Hid ((gr M j).length = C + 1) := (show Hid _ from hrow.2.1)
                obtain ⟨r1, r2, r3, r4, r5, r6⟩ := hM1.row r hrf
                obtain ⟨b0, eb0⟩ : ∃ b, b = sw bs r j r := ⟨_, rfl⟩
                obtain ⟨c0, ec0⟩ : ∃ b, b = sw cs r j r := ⟨_, rfl⟩
                rw [← eb0] at cr er r5 r6 r1
                rw [← ec0] at cr r3 r4
                rw [HG1.out] at r1
                have HB0 := Lib.hid eb0
                have HC0 := Lib.hid ec0
                have HRB := Lib.hid r1
                obtain ⟨e0, _⟩ := HXZ.out wc hB1
                have HSW : Hid (∀ W, Below wc.heap.size wc W → W.cell? ⟨E, 0, none⟩ = some (.int .i64 P) ∧ W.cell? ⟨G, r, none⟩ = some (.slice (some ⟨b0, 0, none⟩) (C + 1) c0) ∧ W.cell? ⟨b0, k, none⟩ = some (.int .i64 x)) := (show Hid _ from fun W hW => by
                  have hGl := HM1.out.lt
                  have hbl := HRB.out.lt
                  exact ⟨(HXZ.out W (HB1.out.trans (hW.mono hzc))).1, (hW.cell (p := ⟨G, r, none⟩) hGl).trans cr, (hW.cell (p := ⟨b0, k, none⟩) hbl).trans er⟩)
                have hx0 : x ≠ 0 := h0
                clear hM1 hO1 hB1 eiv hel hrow r2 eb0 ec0 r1 hx h0 hb0
                have y5 : (0 : Int) ≤ (k : Int) := by omega
                have y6 : (k : Int) < (C : Int) + 1 := by omega
                go_wp2_with fail
                go_region_held3 (fun w' => w'.cell? ⟨E, 0, none⟩ = some (.int .i64 P) ∧ w'.cell? ⟨G, r, none⟩ = some (.slice (some ⟨b0, 0, none⟩) (C + 1) c0) ∧ w'.cell? ⟨b0, k, none⟩ = some (.int .i64 x)) (first | exact ⟨e0, cr, er⟩ | exact HS9.out | go_keep)
                  ((go_at_call 50; refine (rinv_any P x _ hP hxb (fun _ => hx0)).mono ?_; rintro e w9 ⟨rfl, hb9⟩; rw [← EIV.out]; have HB9 : Hid (Below wc.heap.size wc w9) := (show Hid _ from ⟨hb9.os, hb9.tape, hb9.output, hb9.size, hb9.block⟩); have HS9 := Lib.hid (HSW.out w9 HB9.out); clear hb9))
                clear cr er e0
                obtain ⟨e0, cr, er⟩ := HS9.out
                have HM2 : Hid (RM w1.heap.size w9 G (C + 1) R (sw bs r j) (sw cs r j) (swp M r j)) := (show Hid _ from HM1.out.below HB9.out)
                have HO2 : Hid (w9.ownsRow w1.heap.size 3 1 (.slice AL r cL) Lq.length (Lq.map (Value.int .i64))) := (show Hid _ from own_blw HO1.out HB9.out)
                have HB2 : Hid (Below w1.heap.size wz w9) := (show Hid _ from HB1.out.trans (HB9.out.mono hzc))
                have HRB2 : Hid (RB w9 b0 (gr M j)) := (show Hid _ from HRB.out.below HB9.out HRB.out.lt)
                have HCR := Lib.hid cr
                clear HM1 HO1 HB1 HRB HSW HS9 er e0
                have hz9 : w1.heap.size ≤ w9.heap.size := Nat.le_trans hzz HB2.out.size
                go_wp2_with fail
                clear cr
                go_loopw [113] (fun iv wr => ∃ q : Nat, q ≤ C + 1 ∧ iv = .int .i64 q ∧ Hid (RB wr b0 (scp P iv' (gr M j) q)) ∧ Hid (w9.grownBy wr (some b0))) (fun iv _ => (C + 1) - (intOf iv).toNat)
                case atStart => exact ⟨0, Nat.zero_le _, by go_num, (show Hid _ from by rw [scp_zero]; exact HRB2.out), (show Hid _ from grownBy_refl _ _)⟩
                case round =>
                  obtain ⟨q, hq, rfl, HQ, HQG⟩ := hrel
                  have cr := HQG.out.cell HCR.out (by simp; omega)
                  by_cases hqn : q < C + 1
                  · have dq : decide ((q : Int) < (C : Int) + 1) = true := decide_eq_true (by omega)
                    have dqn : decide (q < C + 1) = true := decide_eq_true hqn
                    have hql : q < (scp P iv' (gr M j) q).length := by rw [scp_len, hlenj.out]; exact hqn
                    have cq := HQ.out.cell hql
                    have fq := HQ.out.frozen q
                    have hy := el_t (els_gd hP.1 HEL.out q)
                    obtain ⟨y, ey⟩ : ∃ y, y = gd (gr M j) q := ⟨_, rfl⟩
                    have HY : Hid (RB (wr.setCell ⟨b0, q, none⟩ (.int .i64 (y * iv' % P))) b0 (scp P iv' (gr M j) (q + 1))) := (show Hid _ from by
                      have := HQ.out.set hql (y * iv' % P)
                      rw [ey, scp_set _ _ _ _ (by rw [hlenj.out]; exact hqn)] at this
                      rw [ey]; exact this)
                    have HYG : Hid (w9.grownBy (wr.setCell ⟨b0, q, none⟩ (.int .i64 (y * iv' % P))) (some b0)) := (show Hid _ from grownBy_setCell HQG.out (.inl rfl) _)
                    rw [← gd_lt, scp_gd _ _ _ _ _ (by rw [hlenj.out]; exact hqn), if_neg (by omega), ← ey] at cq
                    rw [← ey] at hy
                    have hxy := mul_bd hy hiv hP.2
                    have u1 : IntKind.i64.wrap (y * iv') = y * iv' := by exact IntWalk.i64_in _ (by omega)
                    have u2 : (y * iv').tmod P = y * iv' % P := Int.tmod_eq_emod_of_nonneg (by omega)
                    have hm1 : 0 ≤ y * iv' % P := Int.emod_nonneg _ (by omega)
                    have hm2 : y * iv' % P < P := Int.emod_lt_of_pos _ (by omega)
                    have u3 : IntKind.i64.wrap (y * iv' % P) = y * iv' % P := by exact IntWalk.i64_in _ (by omega)
                    have hP0 : ¬ P = 0 := by omega
                    have y7 : (0 : Int) ≤ (q : Int) := by omega
                    have y8 : (q : Int) < (C : Int) + 1 := by omega
                    have hbG : ¬ b0 = G := r6
                    have hGb : ¬ G = b0 := fun e => r6 e.symm
                    clear ey hql hxy hm1 hm2
                    go_upto_region 21 with fail
                    go_region
                    all_goals
                      go_wp2_with fail
                      go_roundw
                      case rel => exact ⟨q + 1, by omega, by go_num, by first | exact HY | exact (show Hid _ from HY.out.drew), by first | exact HYG | exact (show Hid _ from ⟨HYG.out.os, HYG.out.tape, HYG.out.output, HYG.out.size, HYG.out.block⟩)⟩
                      case measure => simp [intOf]; omega
                  · have dq : decide ((q : Int) < (C : Int) + 1) = false := decide_eq_false (by omega)
                    have dqn : decide (q < C + 1) = false := decide_eq_false hqn
                    obtain rfl : q = C + 1 := by omega
                    have HF : Hid (scp P iv' (gr M j) (C + 1) = led1 P k j M) := (show Hid _ from by
                      show _ = _
                      have := scp_end P iv' (gr M j)
                      rw [hlenj.out] at this
                      rw [this, EIV.out, EX.out]; rfl)
                    have HFl : Hid ((led1 P k j M).length = C + 1) := (show Hid _ from by show _ = _; rw [led1, scl_len]; exact hlenj.out)
                    have HFe : Hid (els P (led1 P k j M) = true) := (show Hid _ from scl_els hP.1 _ _)
                    obtain ⟨F, eF⟩ : ∃ F, F = led1 P k j M := ⟨_, rfl⟩
                    rw [← eF] at HF HFl HFe
                    have HM3 : Hid (RM w1.heap.size wr G (C + 1) R (sw bs r j) (sw cs r j) ((swp M r j).set r F)) := (show Hid _ from by
                      refine HM2.out.upd hrf HFl.out ?_ ?_
                      · rw [← HB0.out]; exact HQG.out
                      · rw [← HB0.out, ← HF.out]; exact HQ.out)
                    have HO3 : Hid (wr.ownsRow w1.heap.size 3 1 (.slice AL r cL) Lq.length (Lq.map (Value.int .i64))) := (show Hid _ from own_blk HO2.out (fun b hb => HQG.out.block b (HO2.out.lt b hb).2 (fun e => (HAP.out b hb).2 r hrf (by rw [← HB0.out]; injection e))))
                    have HB3 : Hid (Below w1.heap.size wz wr) := (show Hid _ from HB2.out.trans (below_of_grownBy HQG.out r5 hz9))
                    have HEF := Lib.hid eF
                    have hFn : F.length = C + 1 := HFl.out
                    have HFL := Lib.hid hFn
                    go_wp2_with fail
                    obtain ⟨wy, ewy⟩ : ∃ wy, wy = wr := ⟨_, rfl⟩
                    rw [← ewy] at HM3 HO3 HB3 ⊢
                    clear cr HQ HQG HM2 HO2 HB2 HRB2 eF HF ewy HCR dq dqn hqn hq hFn
                    go_loopw [136] (fun iv wr => ∃ q : Nat, q ≤ R ∧ iv = .int .i64 q ∧ Hid (RM w1.heap.size wr G (C + 1) R (sw bs r j) (sw cs r j) (elN P k r F ((swp M r j).set r F) q)) ∧ Hid (wr.ownsRow w1.heap.size 3 1 (.slice AL r cL) Lq.length (Lq.map (Value.int .i64))) ∧ Hid (Below w1.heap.size wz wr)) (fun iv _ => R - (intOf iv).toNat)
                    case atStart => exact ⟨0, Nat.zero_le _, by go_num, (show Hid _ from by rw [elN_zero]; exact HM3.out), HO3, HB3⟩
                    case round =>
                      obtain ⟨q, hq, rfl, HMq, HOq, HBq⟩ := hrel
                      by_cases hqm : q < R
                      · have dq : decide ((q : Int) < (R : Int)) = true := decide_eq_true (by omega)
                        have dqn : decide (q < R) = true := decide_eq_true hqm
                        have cq := HMq.out.cell hqm
                        have eq := HMq.out.el (i := q) (j := k) hqm (by omega)
                        have HMsl : Hid (((swp M r j).set r F).length = R) := (show Hid _ from by show _ = _; rw [List.length_set, swp_len]; exact HMl.out)
                        have hgq : gr (elN P k r F ((swp M r j).set r F) q) q = gr ((swp M r j).set r F) q := by rw [gr_elN (by rw [HMsl.out]; exact hqm), if_neg (by omega)]
                        rw [hgq] at eq
                        obtain ⟨Rw, eR⟩ : ∃ Rw, Rw = gr ((swp M r j).set r F) q := ⟨_, rfl⟩
                        rw [← eR] at eq hgq
                        have z5 : (0 : Int) ≤ (q : Int) := by omega
                        have z6 : (q : Int) < (R : Int) := by omega
                        obtain ⟨y, ey⟩ : ∃ y, y = gd Rw k := ⟨_, rfl⟩
                        rw [← ey] at eq
                        by_cases hqr : q = r
                        · subst hqr
                          have HSK : Hid (elN P k q F ((swp M q j).set q F) (q + 1) = elN P k q F ((swp M q j).set q F) q) := (show Hid _ from elN_skip _ _ _ _ _ _ (.inl rfl))
                          have hnb : ((q : Int) != (q : Int)) = false := by simp
                          clear hgq eR ey
                          go_wp2_with fail
                          go_roundw
                          case rel => exact ⟨q + 1, by omega, by go_num, (show Hid _ from by rw [HSK.out]; exact HMq.out), HOq, HBq⟩
                          case measure => simp [intOf]; omega
                        · have hne : ((q : Int) != (r : Int)) = true := by simp; omega
                          have hneN : (q != r) = true := by rw [bne_iff_ne]; exact hqr
                          by_cases hy0 : y = 0
                          · subst hy0
                            have HSK : Hid (elN P k r F ((swp M r j).set r F) (q + 1) = elN P k r F ((swp M r j).set r F) q) := (show Hid _ from elN_skip _ _ _ _ _ _ (.inr (by rw [← eR]; exact ey.symm)))
                            clear hgq eR ey
                            go_wp2_with fail
                            go_roundw
                            case rel => exact ⟨q + 1, by omega, by go_num, (show Hid _ from by rw [HSK.out]; exact HMq.out), HOq, HBq⟩
                            case measure => simp [intOf]; omega
                          · have hy1 : (y != 0) = true := by simp [hy0]
                            obtain ⟨q1, q2, q3, q4, q5, q6⟩ := HMq.out.row q hqm
                            obtain ⟨s1, s2, s3, s4, s5, s6⟩ := HMq.out.row r hrf
                            have hap' : sw bs r j q ≠ b0 := fun e => hqr (HMq.out.apart q r hqm hrf (by rw [e, HB0.out]))
                            have hFr : gr (elN P k r F ((swp M r j).set r F) q) r = F := by
                              rw [gr_elN (by rw [HMsl.out]; exact hrf), if_neg (by omega), gr_set (by rw [swp_len, HMl.out]; exact hrf), if_pos rfl]
                            have hRe : els P Rw = true := by
                              rw [eR, gr_set (by rw [swp_len, HMl.out]; exact hrf), if_neg hqr, gr_swp (by rw [HMl.out]; exact hrf) (by rw [HMl.out]; exact hjm)]
                              split
                              · exact (HLQ.out.ge.row r (by rw [HMl.out]; exact hrf)).2
                              · exact (HLQ.out.ge.row q (by rw [HMl.out]; exact hqm)).2
                            have hyb : 0 ≤ y ∧ y < P := by rw [ey]; exact el_t (els_gd hP.1 hRe k)
                            rw [hgq] at q1 q2
                            rw [hFr, ← HB0.out] at s1
                            have cr := HMq.out.cell hrf
                            rw [← HB0.out, ← HC0.out] at cr
                            obtain ⟨bq, ebq⟩ : ∃ b, b = sw bs r j q := ⟨_, rfl⟩
                            obtain ⟨cq', ecq⟩ : ∃ b, b = sw cs r j q := ⟨_, rfl⟩
                            rw [← ebq] at cq eq q1 q5 q6 hap'
                            rw [← ecq] at cq
                            obtain ⟨sb, esb⟩ : ∃ v, v = P - y := ⟨_, rfl⟩
                            have hsb : 0 ≤ sb ∧ sb < P := by omega
                            have wsb : IntKind.i64.wrap (P - y) = sb := by rw [esb]; exact IntWalk.i64_in _ (by omega)
                            have hmodsb : (0 - y + P) % P = sb := by rw [show 0 - y + P = sb by omega]; exact Int.emod_eq_of_lt hsb.1 hsb.2
                            have HST : Hid (elN P k r F ((swp M r j).set r F) (q + 1) = (elN P k r F ((swp M r j).set r F) q).set q (addT P Rw 0 sb F)) := (show Hid _ from by
                              show _ = _
                              rw [elN_step _ _ _ _ _ _ (by rw [HMsl.out]; exact hqm) hqr, ← eR, el1, if_neg (by rw [← ey]; exact hy0), ← ey, hmodsb])
                            have HQ1 := Lib.hid q1
                            have HS1 := Lib.hid s1
                            have HRl : Hid (Rw.length = C + 1) := (show Hid _ from q2)
                            have HRe := Lib.hid hRe
                            have HEB := Lib.hid ebq
                            have HCQ := Lib.hid cq
                            have HCR' := Lib.hid cr
                            have hyP : y ≠ 0 := hy0
                            obtain ⟨wv, ewv⟩ : ∃ wv, wv = wr := ⟨_, rfl⟩
                            have HAPq : Hid (∀ b, (Value.slice AL r cL).ownBlock = some b → b ≠ bq) := (show Hid _ from fun b hb => by rw [ebq]; exact (HAP.out b hb).2 q hqm)
                            clear hgq eR ey esb hFr hRe q1 q2 q3 q4 s1 s2 s3 s4 s5 s6 ecq ebq hmodsb hy0
                            go_wp2_with fail
                            rw [← ewv] at HMq HOq HBq HQ1 HS1 HCQ HCR' ⊢
                            clear ewv cq cr eq
                            go_loopw [158] (fun iv wr => ∃ t : Nat, t ≤ C + 1 ∧ iv = .int .i64 t ∧ Hid (RB wr bq (addT P Rw 0 sb (F.take t))) ∧ Hid (wv.grownBy wr (some bq))) (fun iv _ => (C + 1) - (intOf iv).toNat)
                            case atStart => exact ⟨0, Nat.zero_le _, by go_num, (show Hid _ from by rw [List.take_zero, addT_zero]; exact HQ1.out), (show Hid _ from grownBy_refl _ _)⟩
                            case round =>
                              obtain ⟨t, ht, rfl, HQt, HGt⟩ := hrel
                              have cq := HGt.out.cell HCQ.out (by simp; omega)
                              have cr := HGt.out.cell HCR'.out (by simp; omega)
                              by_cases htn : t < C + 1
                              · have dt : decide ((t : Int) < (C : Int) + 1) = true := decide_eq_true (by omega)
                                have dtn : decide (t < C + 1) = true := decide_eq_true htn
                                have htF : t < F.length := by rw [HFL.out]; exact htn
                                have cF := HGt.out.cell (HS1.out.cell htF) (by simp; omega)
                                have hlen2 : (addT P Rw 0 sb (F.take t)).length = C + 1 := by rw [addT_len]; exact HRl.out
                                have cQ := HQt.out.cell (j := t) (by rw [hlen2]; exact htn)
                                have fQ := HQt.out.frozen t
                                have hel := el_t (els_gd hP.1 (addT_els hP.1 HRe.out 0 sb (F.take t)) t)
                                have hel2 := el_t (els_all HFe.out _ (List.getElem_mem htF))
                                rw [← gd_lt] at cQ
                                obtain ⟨z, ez⟩ : ∃ z, z = gd (addT P Rw 0 sb (F.take t)) t := ⟨_, rfl⟩
                                rw [← ez] at cQ hel
                                obtain ⟨u, eu⟩ : ∃ u, u = F[t] := ⟨_, rfl⟩
                                rw [← eu] at cF hel2
                                have HSTt : Hid (addT P Rw 0 sb (F.take (t + 1)) = (addT P Rw 0 sb (F.take t)).set t ((z + sb * u) % P)) := (show Hid _ from by
                                  have h := addT_step P Rw 0 sb F t htF (by rw [HRl.out, HFL.out]; omega)
                                  rw [Nat.zero_add] at h
                                  show _ = _
                                  rw [ez, eu]; exact h)
                                have HY : Hid (RB (wr.setCell ⟨bq, t, none⟩ (.int .i64 ((z + sb * u) % P))) bq (addT P Rw 0 sb (F.take (t + 1)))) := (show Hid _ from by rw [HSTt.out]; exact HQt.out.set (by rw [hlen2]; exact htn) _)
                                have HYG : Hid (wv.grownBy (wr.setCell ⟨bq, t, none⟩ (.int .i64 ((z + sb * u) % P))) (some bq)) := (show Hid _ from grownBy_setCell HGt.out (.inl rfl) _)
                                have hxy := mul_bd hsb hel2 hP.2
                                have u1 : IntKind.i64.wrap (sb * u) = sb * u := by exact IntWalk.i64_in _ (by omega)
                                have u2 : IntKind.i64.wrap (z + sb * u) = z + sb * u := by exact IntWalk.i64_in _ (by omega)
                                have u3 : (z + sb * u).tmod P = (z + sb * u) % P := Int.tmod_eq_emod_of_nonneg (by omega)
                                have u4 : IntKind.i64.wrap ((z + sb * u) % P) = (z + sb * u) % P := by
                                  have h1 := Int.emod_nonneg (z + sb * u) (show P ≠ 0 by omega)
                                  have h2 := Int.emod_lt_of_pos (z + sb * u) (show 0 < P by omega)
                                  exact IntWalk.i64_in _ (by omega)
                                have hP0 : ¬ P = 0 := by omega
                                have y7 : (0 : Int) ≤ (t : Int) := by omega
                                have y8 : (t : Int) < (C : Int) + 1 := by omega
                                have hbG : ¬ bq = G := q6
                                have hGb : ¬ G = bq := fun e => q6 e.symm
                                have hb0 : ¬ bq = b0 := hap'
                                have hb0' : ¬ b0 = bq := fun e => hap' e.symm
                                clear ez eu hlen2 hel hel2 hxy htF
                                go_upto_region 31 with fail
                                go_region
                                all_goals
                                  go_wp2_with fail
                                  go_roundw
                                  case rel => exact ⟨t + 1, by omega, by go_num, by first | exact HY | exact (show Hid _ from HY.out.drew), by first | exact HYG | exact (show Hid _ from ⟨HYG.out.os, HYG.out.tape, HYG.out.output, HYG.out.size, HYG.out.block⟩)⟩
                                  case measure => simp [intOf]; omega
                              · have dt : decide ((t : Int) < (C : Int) + 1) = false := decide_eq_false (by omega)
                                have dtn : decide (t < C + 1) = false := decide_eq_false htn
                                have hFt : F.take t = F := List.take_of_length_le (by rw [HFL.out]; omega)
                                have HRMn : Hid (RM w1.heap.size wr G (C + 1) R (sw bs r j) (sw cs r j) (elN P k r F ((swp M r j).set r F) (q + 1))) := (show Hid _ from by
                                  show RM _ _ _ _ _ _ _ _
                                  rw [HST.out]
                                  have h1 := HQt.out
                                  rw [hFt] at h1
                                  exact HMq.out.upd hqm (by rw [addT_len]; exact HRl.out) (by rw [← HEB.out]; exact HGt.out) (by rw [← HEB.out]; exact h1))
                                have HOn : Hid (wr.ownsRow w1.heap.size 3 1 (.slice AL r cL) Lq.length (Lq.map (Value.int .i64))) := (show Hid _ from own_blk HOq.out (fun b hb => HGt.out.block b (HOq.out.lt b hb).2 (fun e => HAPq.out b hb (by injection e))))
                                have HBn : Hid (Below w1.heap.size wz wr) := (show Hid _ from HBq.out.trans (below_of_grownBy HGt.out q5 (Nat.le_trans hzz HBq.out.size)))
                                clear hFt
                                go_wp2_with fail
                                go_roundw
                                case rel => exact ⟨q + 1, by omega, by go_num, HRMn, HOn, HBn⟩
                                case measure => simp [intOf]; omega
                      · have dq : decide ((q : Int) < (R : Int)) = false := decide_eq_false (by omega)
                        have dqn : decide (q < R) = false := decide_eq_false hqm
                        have hqR : q = R := by omega
                        have HMq2 : Hid (RM w1.heap.size wr G (C + 1) R (sw bs r j) (sw cs r j) (elN P k r F ((swp M r j).set r F) R)) := (show Hid _ from by have h9 := HMq.out; rw [hqR] at h9; exact h9)
                        have hLql : Lq.length = r := hlq
                        have HOq2 : Hid (wr.ownsRow w1.heap.size 3 1 (.slice AL r cL) r (Lq.map (Value.int .i64))) := (show Hid _ from by have h9 := HOq.out; rw [hLql] at h9; exact h9)
                        have HLQL := Lib.hid hLql
                        have hr32 : r ≤ 32 := by omega
                        have hzx : w1.heap.size ≤ wr.heap.size := Nat.le_trans hzz HBq.out.size
                        clear hLql hqR
                        go_wp2_with (at_builtin; refine wpList_append_one_at _ rfl _ _ 22 rfl w1.heap.size 3 (.int .i64 0) 8 Try.underlying22 iinfo _ r (Lq.map (Value.int .i64)) rfl (HOq2.out.alloc _) (.int .i64 k) rfl wr.heap.size rfl (cells_new wr [.int .i64 k] 3 0 _ rfl) (by omega) (by omega) rfl (by simp; omega) ?_; intro g9 cap9 w10 hown9 hg9 hat9; have HO9 := Lib.hid hown9; have HG9 : Hid ((wr.alloc (.cells #[.int .i64 k] 3)).grownBy w10 (Value.slice AL r cL).ownBlock) := (show Hid _ from hg9); have HA9 : Hid ((Value.slice AL r cL).ownBlock = some g9 ∨ g9 = (wr.alloc (.cells #[.int .i64 k] 3)).heap.size) := (show Hid _ from hat9); clear hown9 hg9 hat9)
                        have HGE := HLQ.out.ge.lead HP.out hkC hC hj1 (by rw [HMl.out]; exact hjm) HX.out
                        rw [leadM, ← HEF.out, HMl.out] at HGE
                        have HB10 : Hid (Below w1.heap.size wz w10) := (show Hid _ from (HBq.out.alloc hzx _).grown HG9.out (by simp; omega) (fun b hb => (HOq2.out.lt b hb).1))
                        have HLQ10 : Hid (LQ P C R (eqM cl rl C R) w1.heap.size G (k + 1) (r + 1) (sw bs r j) (sw cs r j) (elN P k r F ((swp M r j).set r F) R) (ld.set k ((r : Int) + 1)) (Lq ++ [(k : Int)]) (.slice (some ⟨g9, 0, none⟩) (r + 1) cap9) w10) := (show Hid _ from lq_next HLQ.out HGE HMq2.out HAP.out HG9.out HA9.out HO9.out hkC hC)
                        go_roundw
                        case rel => exact ⟨k + 1, r + 1, _, _, _, _, _, by omega, by go_num, HLQ10.out, HB10.out⟩
                        case measure => simp [intOf]; omega
          · have dj : decide ((j : Int) < (R : Int)) = false := decide_eq_false (by omega)
            have djn : decide (j < R) = false := decide_eq_false hjm
            have hjb : ((j : Int) == (R : Int)) = true := by rw [beq_iff_eq]; omega
            have hjbn : (j == R) = true := by rw [beq_iff_eq]; omega
            have HLN : Hid (LQ P C R (eqM cl rl C R) w1.heap.size G (k + 1) r bs cs M ld Lq (.slice AL r cL) wr) := (show Hid _ from HLQ.out.none fun q h1 h2 => HZ.out q h1 (by have := HLQ.out.rm.len; omega))
            go_wp2_with fail
            go_roundw
            case rel => exact ⟨k + 1, r, bs, cs, M, ld, Lq, by omega, by go_num, HLN.out, HBQ.out⟩
            case measure => simp [intOf]; omega
end Go.Proofs.Ytbgabipngdillaa

namespace Go.Proofs.Ytbgabipngdillaa
open Go.RowKit

set_option maxRecDepth 100000 in
set_option maxHeartbeats 4000000 in
theorem rscheck_any (P : Int) (R C : Nat) (cl rl : List Int) (vc vr : Value) (w : World) (hp : prB P = true) (hR : R ≤ 32) (hC : C ≤ 32) (h1 : cl.length = R * C) (h2 : rl.length = R) (he1 : els P cl = true) (he2 : els P rl = true) (hc : SI w vc cl) (hr : SI w vr rl) :
    Calls Try.prog 61 #[.agg #[.int .i64 P, .int .i64 R, .int .i64 C, vc, vr]] w fun e w' => e = .returned (.int .i64 0) ∧ Below w.heap.size w w' := by
  have HP := Lib.hid hp
  have hPb := prB_bd hp
  have hPi : i64r P := by unfold i64r; omega
  have HC := Lib.hid hc
  have HR := Lib.hid hr
  have E1 := Lib.hid he1
  have E2 := Lib.hid he2
  obtain ⟨A1, c1, rfl⟩ := hc.form
  obtain ⟨A2, c2, rfl⟩ := hr.form
  have hRC : R * C ≤ 1024 := Nat.mul_le_mul hR hC
  obtain ⟨nc, enc⟩ : ∃ n, n = cl.length := ⟨_, rfl⟩
  obtain ⟨nr, enr⟩ : ∃ n, n = rl.length := ⟨_, rfl⟩
  have HNC := Lib.hid enc
  have HNR := Lib.hid enr
  rw [← enc] at HC h1 ⊢
  rw [← enr] at HR h2 ⊢
  have wRC : IntKind.i64.wrap ((R : Int) * (C : Int)) = (nc : Int) := by
    have e : (R : Int) * (C : Int) = (nc : Int) := by rw [h1]; simp
    rw [e]; exact IntWalk.i64_in _ (by omega)
  have d1 : decide ((R : Int) < 0) = false := decide_eq_false (by omega)
  have d2 : decide ((32 : Int) < (R : Int)) = false := decide_eq_false (by omega)
  have d3 : decide ((C : Int) < 0) = false := decide_eq_false (by omega)
  have d4 : decide ((32 : Int) < (C : Int)) = false := decide_eq_false (by omega)
  have d2n : decide (32 < R) = false := decide_eq_false (by omega)
  have d4n : decide (32 < C) = false := decide_eq_false (by omega)
  have d5 : ((nc : Int) != (nc : Int)) = false := by simp
  have d6 : ((nr : Int) != (R : Int)) = false := by rw [bne_eq_false_iff_eq]; omega
  have d6n : (nr != R) = false := by rw [bne_eq_false_iff_eq]; exact h2
  have hin1 : inB P cl = true := by unfold inB; rw [hp, he1]; rfl
  have hin2 : inB P rl = true := by unfold inB; rw [hp, he2]; rfl
  have HI1 := Lib.hid hin1
  have HI2 := Lib.hid hin2
  have hrc : rcE P = 0 := if_pos hp
  have HRC := Lib.hid hrc
  clear hc hr he1 he2 hp enc enr h1 h2 hin1 hin2 hrc
  go_enter Try.func61, Try.ntmps61
  obtain ⟨E, eE⟩ : ∃ E, E = w.heap.size := ⟨_, rfl⟩
  obtain ⟨w1, ew1⟩ : ∃ w1 : World, w1 = w.alloc (.cells #[.int .i64 P, .int .i64 R, .int .i64 C, .slice A1 nc c1, .slice A2 nr c2] 76) := ⟨_, rfl⟩
  have HWw1 : Hid (w.alloc (.cells #[.int .i64 P, .int .i64 R, .int .i64 C, .slice A1 nc c1, .slice A2 nr c2] 76) = w1) := ew1.symm
  have HAw1 : Hid (Below w.heap.size w w1) := (show Hid _ from by rw [ew1]; exact (Below.refl _ w).alloc (Nat.le_refl _) _)
  have HE0w1 : Hid (w1.heap[E]? = some (.cells #[.int .i64 P, .int .i64 R, .int .i64 C, .slice A1 nc c1, .slice A2 nr c2] 76 (0, 0))) := (show Hid _ from by show _ = _; rw [ew1, eE]; exact heap_alloc_new w _)
  have HXE : Hid (∀ W, Below w1.heap.size w1 W → W.cell? ⟨E, 0, none⟩ = some (.int .i64 P) ∧ W.cell? ⟨E, 1, none⟩ = some (.int .i64 R) ∧ W.cell? ⟨E, 2, none⟩ = some (.int .i64 C) ∧ W.cell? ⟨E, 3, none⟩ = some (.slice A1 nc c1) ∧ W.cell? ⟨E, 4, none⟩ = some (.slice A2 nr c2)) := (show Hid _ from fun W hg => by
    have hE0 := (hg.block E (heap_of_cells HE0w1.out)).trans HE0w1.out
    exact ⟨cell_of_row W E 0 _ _ _ hE0, cell_of_row W E 1 _ _ _ hE0, cell_of_row W E 2 _ _ _ hE0, cell_of_row W E 3 _ _ _ hE0, cell_of_row W E 4 _ _ _ hE0⟩)
  go_upto_region 1 with fail
  rw [HWw1.out, ← eE]
  clear ew1 eE
  obtain ⟨x0, x1, x2, x3, x4⟩ := HXE.out w1 (Below.refl _ _)
  go_wp2_with fail
  (with_reducible refine (rcheck_any P w1 hPi).mono ?_)
  rintro e w2 ⟨rfl, hb2⟩
  rw [HRC.out]
  have HB2 : Hid (Below w1.heap.size w1 w2) := (show Hid _ from hb2)
  clear x0 x1 x2 x3 x4 hb2
  obtain ⟨x0, x1, x2, x3, x4⟩ := HXE.out w2 HB2.out
  go_wp2_with fail
  (with_reducible refine (rin_any P cl _ w2 hPi ((HC.out.below HAw1.out).below HB2.out)).mono ?_)
  rintro e w3 ⟨rfl, hb3⟩
  rw [HI1.out]
  have HB3 : Hid (Below w1.heap.size w1 w3) := (show Hid _ from HB2.out.trans (hb3.mono HB2.out.size))
  clear x0 x1 x2 x3 x4 hb3
  obtain ⟨x0, x1, x2, x3, x4⟩ := HXE.out w3 HB3.out
  go_wp2_with fail
  (with_reducible refine (rin_any P rl _ w3 hPi ((HR.out.below HAw1.out).below HB3.out)).mono ?_)
  rintro e w4 ⟨rfl, hb4⟩
  rw [HI2.out]
  have HB4 : Hid (Below w.heap.size w w4) := (show Hid _ from HAw1.out.trans ((HB3.out.trans (hb4.mono HB3.out.size)).mono HAw1.out.size))
  clear hb4
  go_wp2_with fail
  go_ret
  exact ⟨rfl, HB4.out⟩
/-- the solution under construction: the first i leading columns are laid -/
def xK (C : Nat) (M : List (List Int)) (ld : List Int) (i : Nat) : List Int := (List.range C).map fun c => if gd ld c = 0 then 0 else if (gd ld c - 1).toNat < i then gd (gr M (gd ld c - 1).toNat) C else 0
theorem xK_len (C : Nat) (M : List (List Int)) (ld : List Int) (i : Nat) : (xK C M ld i).length = C := by simp [xK]
theorem xK_gd {C : Nat} {M : List (List Int)} {ld : List Int} {i c : Nat} (h : c < C) : gd (xK C M ld i) c = if gd ld c = 0 then 0 else if (gd ld c - 1).toNat < i then gd (gr M (gd ld c - 1).toNat) C else 0 := by
  rw [gd_lt (by rw [xK_len]; exact h)]; simp [xK]
theorem xK_zero (C : Nat) (M : List (List Int)) (ld : List Int) : xK C M ld 0 = zeros C := list_ext_gd (by rw [xK_len]; simp [zeros]) fun c hc => by
  rw [xK_len] at hc
  rw [xK_gd hc, show gd (zeros C) c = 0 by unfold gd zeros; simp [hc]]
  split
  · rfl
  · rw [if_neg (by omega)]
theorem xK_end {P : Int} {C r : Nat} {M0 M : List (List Int)} {ld : List Int} (h : GE P C M0 M r C ld) : xK C M ld r = solX C M ld := list_ext_gd (by rw [xK_len, solX_len]) fun c hc => by
  rw [xK_len] at hc
  rw [xK_gd hc, solX_gd hc]
  by_cases h0 : gd ld c = 0
  · rw [if_pos h0, if_pos h0]
  · obtain ⟨n, h1, h2, _⟩ := h.led c hc h0
    rw [if_neg h0, if_neg h0, if_pos (by omega)]
theorem xK_step {P : Int} {C r : Nat} {M0 M : List (List Int)} {ld : List Int} (h : GE P C M0 M r C ld) {i c : Nat} (hc : c < C) (hl : gd ld c = (i : Int) + 1) : xK C M ld (i + 1) = (xK C M ld i).set c (gd (gr M i) C) := list_ext_gd (by rw [List.length_set, xK_len, xK_len]) fun d hd => by
  rw [xK_len] at hd
  rw [gd_set _ _ _ _ (by rw [xK_len]; exact hc), xK_gd hd, xK_gd hd]
  by_cases e : d = c
  · subst e
    rw [if_pos rfl, if_neg (by omega), if_pos (by omega), show (gd ld d - 1).toNat = i by omega]
  · rw [if_neg e]
    by_cases h0 : gd ld d = 0
    · rw [if_pos h0, if_pos h0]
    · rw [if_neg h0, if_neg h0]
      obtain ⟨n, h1, h2, _⟩ := h.led d hd h0
      have hne : n ≠ i := fun e2 => e (h.inj d c hd hc (by rw [h1, hl, e2]) h0)
      by_cases hni : n < i
      · rw [if_pos (by omega), if_pos (by omega)]
      · rw [if_neg (by omega), if_neg (by omega)]

theorem lq_rng {P : Int} {C R : Nat} {M0 : List (List Int)} {B G k r : Nat} {bs cs : Nat → Nat} {M : List (List Int)} {ld Lq : List Int} {lv : Value} {w : World} (h : LQ P C R M0 B G k r bs cs M ld Lq lv w) : ∀ x ∈ Lq, i64r x := fun x hx => by
  obtain ⟨n, hn, rfl⟩ := List.getElem_of_mem hx
  obtain ⟨c, h1, h2, h3⟩ := h.at' n hn
  rw [h2]
  have : k ≤ 1000000 ∨ 1000000 < k := by omega
  have hld := h.ge.ldl
  have : c < 32 := by
    apply Classical.byContradiction
    intro hc
    have : gd ld c = 0 := by unfold gd; rw [List.getElem?_eq_none (by omega)]; rfl
    omega
  unfold i64r
  omega
set_option maxRecDepth 100000 in
set_option maxHeartbeats 8000000 in
theorem rsolve_any (P : Int) (R C : Nat) (cl rl : List Int) (vc vr : Value) (w : World) (hp : prB P = true) (hR : R ≤ 32) (hR1 : 1 ≤ R) (hC : C ≤ 32) (hC1 : 1 ≤ C) (h1 : cl.length = R * C) (h2 : rl.length = R) (he1 : els P cl = true) (he2 : els P rl = true) (hc : SI w vc cl) (hr : SI w vr rl) :
    Calls Try.prog 36 #[.agg #[.int .i64 P, .int .i64 R, .int .i64 C, vc, vr]] w (SoP P R C cl rl w) := by
  have HP := Lib.hid hp
  have HC := Lib.hid hc
  have HR := Lib.hid hr
  have E1 := Lib.hid he1
  have E2 := Lib.hid he2
  have L1 := Lib.hid h1
  have L2 := Lib.hid h2
  clear h1 h2 he1 he2 hp hc hr
  go_enter Try.func36, Try.ntmps36
  obtain ⟨E, eE⟩ : ∃ E, E = w.heap.size := ⟨_, rfl⟩
  obtain ⟨w1, ew1⟩ : ∃ w1 : World, w1 = w.alloc (.cells #[.int .i64 P, .int .i64 R, .int .i64 C, vc, vr] 76) := ⟨_, rfl⟩
  have HWw1 : Hid (w.alloc (.cells #[.int .i64 P, .int .i64 R, .int .i64 C, vc, vr] 76) = w1) := ew1.symm
  have HAw1 : Hid (Below w.heap.size w w1) := (show Hid _ from by rw [ew1]; exact (Below.refl _ w).alloc (Nat.le_refl _) _)
  have HE0w1 : Hid (w1.heap[E]? = some (.cells #[.int .i64 P, .int .i64 R, .int .i64 C, vc, vr] 76 (0, 0))) := (show Hid _ from by show _ = _; rw [ew1, eE]; exact heap_alloc_new w _)
  have HXE : Hid (∀ W, Below w1.heap.size w1 W → W.cell? ⟨E, 0, none⟩ = some (.int .i64 P) ∧ W.cell? ⟨E, 1, none⟩ = some (.int .i64 R) ∧ W.cell? ⟨E, 2, none⟩ = some (.int .i64 C) ∧ W.cell? ⟨E, 3, none⟩ = some (vc) ∧ W.cell? ⟨E, 4, none⟩ = some (vr)) := (show Hid _ from fun W hg => by
    have hE0 := (hg.block E (heap_of_cells HE0w1.out)).trans HE0w1.out
    exact ⟨cell_of_row W E 0 _ _ _ hE0, cell_of_row W E 1 _ _ _ hE0, cell_of_row W E 2 _ _ _ hE0, cell_of_row W E 3 _ _ _ hE0, cell_of_row W E 4 _ _ _ hE0⟩)
  go_upto_region 1 with fail
  rw [HWw1.out, ← eE]
  clear ew1 eE
  obtain ⟨x0, x1, x2, x3, x4⟩ := HXE.out w1 (Below.refl _ _)
  go_wp2_with fail
  (with_reducible refine (rscheck_any P R C cl rl vc vr w1 HP.out hR hC L1.out L2.out E1.out E2.out (HC.out.below HAw1.out) (HR.out.below HAw1.out)).mono ?_)
  rintro e w2 ⟨rfl, hb2⟩
  have HB2 : Hid (Below w1.heap.size w1 w2) := (show Hid _ from hb2)
  clear x0 x1 x2 x3 x4 hb2
  obtain ⟨x0, x1, x2, x3, x4⟩ := HXE.out w2 HB2.out
  go_wp2_with fail
  (with_reducible refine (rreduce_any P R C cl rl vc vr w2 HP.out hR hR1 hC hC1 L1.out L2.out E1.out E2.out ((HC.out.below HAw1.out).below HB2.out) ((HR.out.below HAw1.out).below HB2.out)).mono ?_)
  rintro e w3 ⟨G, c, r, bs, cs, M, ld, Lq, lv, B, rfl, hRc, hwB, hLQ, hb3⟩
  have HLQ := Lib.hid hLQ
  have HB3 : Hid (Below w1.heap.size w1 w3) := (show Hid _ from HB2.out.trans (hb3.mono HB2.out.size))
  have hlq := hLQ.len
  have hrR : r ≤ R := by have := hLQ.ge.rk; have := hLQ.rm.len; omega
  obtain ⟨AL, cL, eLv⟩ := own_slice hLQ.own
  rw [hlq] at eLv
  subst eLv
  have HMl : Hid (M.length = R) := (show Hid _ from hLQ.rm.len)
  clear x0 x1 x2 x3 x4 hLQ hb3
  have y1 : (0 : Int) ≤ (r : Int) := by omega
  have y2 : (r : Int) ≤ (R : Int) := by omega
  have y3 : (R : Int) ≤ (c : Int) := by omega
  have y4 : (r : Int) ≤ (c : Int) := by omega
  obtain ⟨AQ, eAQ⟩ : ∃ AQ, (if c = r then (some ⟨G, 0, none⟩ : Option Addr) else some ⟨G, r, none⟩) = AQ := ⟨_, rfl⟩
  go_wp2_with fail
  obtain ⟨D, eD⟩ : ∃ D, D = R - r := ⟨_, rfl⟩
  obtain ⟨cD, ecD⟩ : ∃ cD, cD = c - r := ⟨_, rfl⟩
  rw [← eD, ← ecD]
  have hD : r + D ≤ R ∧ R ≤ r + D := by omega
  have hAQ : 0 < D → AQ = some ⟨G, r, none⟩ := fun h => by rw [← eAQ, if_neg (by omega)]
  have HAQ := Lib.hid hAQ
  have HB3w : Hid (Below w.heap.size w w3) := (show Hid _ from HAw1.out.trans (HB3.out.mono HAw1.out.size))
  clear eD ecD eAQ hAQ
  go_loopw [27] (fun iv wr => ∃ i : Nat, i ≤ D ∧ iv = .int .i64 i ∧ Hid (∀ q, r ≤ q → q < r + i → gd (gr M q) C = 0) ∧ wr = w3) (fun iv _ => D - (intOf iv).toNat)
  case atStart => exact ⟨0, Nat.zero_le _, rfl, (show Hid _ from fun q h1 h2 => by omega), rfl⟩
  case round =>
    obtain ⟨i, hi, rfl, HZ, hwr⟩ := hrel
    subst hwr
    obtain ⟨x0, x1, x2, x3, x4⟩ := HXE.out wr HB3.out
    by_cases hiD : i < D
    · have di : decide ((i : Int) < (D : Int)) = true := decide_eq_true (by omega)
      have din : decide (i < D) = true := decide_eq_true hiD
      have eAQ := HAQ.out (by omega)
      subst eAQ
      have hri : r + i < R := by omega
      have cG := HLQ.out.rm.cell hri
      have cX := HLQ.out.rm.el (i := r + i) (j := C) hri (Nat.lt_succ_self C)
      obtain ⟨x, ex⟩ : ∃ x, x = gd (gr M (r + i)) C := ⟨_, rfl⟩
      rw [← ex] at cX
      have HEX := Lib.hid ex
      have z1 : (0 : Int) ≤ (i : Int) := by omega
      have z2 : (i : Int) < (D : Int) := by omega
      have z3 : (0 : Int) ≤ (C : Int) := by omega
      have z4 : (C : Int) < (C : Int) + 1 := by omega
      clear ex
      by_cases h0 : x = 0
      · subst h0
        have HZ2 : Hid (∀ q, r ≤ q → q < r + (i + 1) → gd (gr M q) C = 0) := (show Hid _ from fun q h1 h2 => by
          by_cases e : q = r + i
          · rw [e]; exact HEX.out.symm
          · exact HZ.out q h1 (by omega))
        go_wp2_with fail
        go_roundw
        case rel => exact ⟨i + 1, by omega, by go_num, HZ2, by first | trivial | rfl⟩
        case measure => simp [intOf]; omega
      · have hx0 : (x != 0) = true := by rw [bne_iff_ne]; exact h0
        have HX0 := Lib.hid h0
        clear h0
        go_wp2_with fail
        refine bodyPost_ret (v := .tuple #[.slice none 0 0, .int .i64 6]) (by simp [results, Try.results36, go_sem]) rfl ?_
        refine ⟨6, _, [], rfl, HB3w.out, .inr ⟨rfl, rfl, ?_⟩⟩
        rintro ⟨x', hx, hsx⟩
        exact HLQ.out.ge.no (prB_bd HP.out).1 (m := r + i) (by omega) (by rw [HMl.out]; exact hri) (by rw [← HEX.out]; exact HX0.out) ⟨x', hx, fun i hi => by rw [eqM_len] at hi; rw [eqM_gr hi]; exact hsx i hi⟩
    · have di : decide ((i : Int) < (D : Int)) = false := decide_eq_false (by omega)
      have din : decide (i < D) = false := decide_eq_false hiD
      obtain ⟨wv, rfl⟩ : ∃ wv : World, wv = wr := ⟨_, rfl⟩
      have hyes := HLQ.out.ge.yes (prB_bd HP.out).1 fun m hm hml => HZ.out m hm (by rw [HMl.out] at hml; omega)
      have HXe : Hid (els P (solX C M ld) = true) := (show Hid _ from hyes.1)
      have HXs : Hid (SolE P R C cl rl (solX C M ld)) := (show Hid _ from eqM_sol (solX_len _ _ _) hyes.2)
      obtain ⟨w4, ew4⟩ : ∃ w4 : World, w4 = wv.alloc (.cells ((zeros C).map (Value.int .i64)).toArray 3) := ⟨_, rfl⟩
      obtain ⟨b, eb⟩ : ∃ b, b = wv.heap.size := ⟨_, rfl⟩
      have HBK : Hid (BK w4 b (xK C M ld 0)) := (show Hid _ from by rw [xK_zero, ew4, eb]; exact heap_alloc_new wv _)
      have HB4 : Hid (Below wv.heap.size wv w4) := (show Hid _ from by rw [ew4]; exact (Below.refl _ wv).alloc (Nat.le_refl _) _)
      have HW4 : Hid (wv.alloc (.cells ((zeros C).map (Value.int .i64)).toArray 3) = w4) := (show Hid _ from ew4.symm)
      have HRM4 : Hid (RM B w4 G (C + 1) R bs cs M) := (show Hid _ from HLQ.out.rm.below HB4.out)
      have HLS : Hid (SI w4 (.slice AL r cL) Lq) := (show Hid _ from by
        have h9 := SI.of_own HLQ.out.own (lq_rng HLQ.out)
        exact h9.below HB4.out)
      have hGb : G < b := by have := HLQ.out.rm.lt; omega
      have HBB : Hid (∀ i, i < R → bs i < b) := (show Hid _ from fun i hi => by have := (HLQ.out.rm.row i hi).1.lt; omega)
      have HLb : Hid (∀ q, (Value.slice AL r cL).ownBlock = some q → q < b) := (show Hid _ from fun q hq => by have := (HLQ.out.own.lt q hq).2; omega)
      have HEb := Lib.hid eb
      clear hyes ew4 eb
      go_wp2_with (at_make; refine wpList_make_ints _ rfl _ _ 22 rfl 3 Try.underlying22 iinfo _ C rfl rfl rfl (by omega) ?_; rw [HW4.out, ← HEb.out])
      clear x0 x1 x2 x3 x4
      go_loopw [43] (fun iv wr => ∃ i : Nat, i ≤ r ∧ iv = .int .i64 i ∧ Hid (BK wr b (xK C M ld i)) ∧ Hid (w4.grownBy wr (some b))) (fun iv _ => r - (intOf iv).toNat)
      case atStart => exact ⟨0, Nat.zero_le _, rfl, HBK, (show Hid _ from grownBy_refl _ _)⟩
      case round =>
        obtain ⟨i2, hi2, rfl, HK, HGR⟩ := hrel
        have HBq : Hid (Below wv.heap.size wv wr) := (show Hid _ from HB4.out.trans (below_of_grownBy HGR.out (by rw [HEb.out]; exact Nat.le_refl _) HB4.out.size))
        obtain ⟨x0, x1, x2, x3, x4⟩ := HXE.out wr (HB3.out.trans (HBq.out.mono HB3.out.size))
        by_cases hir : i2 < r
        · have di2 : decide ((i2 : Int) < (r : Int)) = true := decide_eq_true (by omega)
          have di2n : decide (i2 < r) = true := decide_eq_true hir
          have hiR : i2 < R := by omega
          obtain ⟨bl, ol, eAL, cl0⟩ := HLS.out.at (k := i2) (by rw [hlq]; exact hir)
          subst eAL
          have cL0 := HGR.out.cell cl0 (by have := HLb.out bl rfl; simp; omega)
          obtain ⟨c2, hc2, hq2, hl2⟩ := HLQ.out.at' i2 (by rw [hlq]; exact hir)
          rw [hq2] at cL0
          have cG := HGR.out.cell (HRM4.out.cell hiR) (by simp; omega)
          have cX := HGR.out.cell (HRM4.out.el (i := i2) (j := C) hiR (Nat.lt_succ_self C)) (by have := HBB.out i2 hiR; simp; omega)
          obtain ⟨x, ex⟩ : ∃ x, x = gd (gr M i2) C := ⟨_, rfl⟩
          rw [← ex] at cX
          have HST : Hid (BK (wr.setCell ⟨b, c2, none⟩ (.int .i64 x)) b (xK C M ld (i2 + 1))) := (show Hid _ from by
            have := HK.out.set c2 x
            rw [ex, ← xK_step HLQ.out.ge hc2 hl2] at this
            rw [ex]; exact this)
          have HGT : Hid (w4.grownBy (wr.setCell ⟨b, c2, none⟩ (.int .i64 x)) (some b)) := (show Hid _ from grownBy_setCell HGR.out (.inl rfl) _)
          have cB := HK.out.cell (j := c2) (by rw [xK_len]; exact hc2)
          have fB := HK.out.frozen c2
          have z1 : (0 : Int) ≤ (i2 : Int) := by omega
          have z2 : (i2 : Int) < (r : Int) := by omega
          have z3 : (0 : Int) ≤ (C : Int) := by omega
          have z4 : (C : Int) < (C : Int) + 1 := by omega
          have z5 : (0 : Int) ≤ (c2 : Int) := by omega
          have z6 : (c2 : Int) < (C : Int) := by omega
          have z7 : (i2 : Int) < (R : Int) := by omega
          have ebs : ¬ bs i2 = b := by have := HBB.out i2 hiR; omega
          have ebG : ¬ G = b := by omega
          clear hq2 hl2 ex cl0 x0 x1 x3 x4
          go_upto_region 15 with fail
          go_region
          all_goals
            go_wp2_with fail
            go_roundw
            case rel => exact ⟨i2 + 1, by omega, by go_num, by first | exact HST | exact (show Hid _ from HST.out), by first | exact HGT | exact (show Hid _ from ⟨HGT.out.os, HGT.out.tape, HGT.out.output, HGT.out.size, HGT.out.block⟩)⟩
            case measure => simp [intOf]; omega
        · have di2 : decide ((i2 : Int) < (r : Int)) = false := decide_eq_false (by omega)
          have di2n : decide (i2 < r) = false := decide_eq_false hir
          have ei2 : i2 = r := by omega
          have HKE : Hid (BK wr b (solX C M ld)) := (show Hid _ from by have h9 := HK.out; rw [ei2, xK_end HLQ.out.ge] at h9; exact h9)
          have hbw : w.heap.size ≤ b := by rw [HEb.out]; exact HB3w.out.size
          clear ei2 x0 x1 x2 x3 x4
          go_wp2_with fail
          refine bodyPost_ret (v := .tuple #[.slice (some ⟨b, 0, none⟩) C C, .int .i64 0]) (by simp [results, Try.results36, go_sem]) rfl ?_
          refine ⟨0, _, solX C M ld, rfl, HB3w.out.trans (HBq.out.mono HB3w.out.size), .inl ⟨rfl, HXs.out, HXe.out, ?_⟩⟩
          have h9 := HKE.out.own hbw (by rw [solX_len]; omega)
          rw [solX_len] at h9
          rw [solX_len]
          exact h9
end Go.Proofs.Ytbgabipngdillaa
