/- Joined: Ri. -/
import Derived.Lib.RabinKarpLaws
import Derived.Stop.Asserts
import Derived.LaidEql
import Derived.RowKitTokens
import Derived.Laws.EntriesVeiled
import Derived.Deep.RegionHeld3
import Derived.Deep.QuietTactic
import Derived.BigQuiet
import Derived.Deep.DeepCutAuto
import Derived.Lib.Hide
import Derived.Deep.RegionWith
import Derived.Deep.RegionLaw
import Derived.BigRegion
import Derived.Sort.OwnSortedInts
import Derived.Lib.SlicesCompact
import Derived.Test.YtbgabipngdillaaZ26
import Derived.Test.YtbgabipngdillaaZ20
import Derived.Test.YtbgabipngdillaaZ21
import Derived.Test.YtbgabipngdillaaZ24
import Derived.Test.YtbgabipngdillaaZ22
import Derived.Test.YtbgabipngdillaaZ23
import Derived.Test.YtbgabipngdillaaZ25
import Derived.Test.YtbgabipngdillaaZ02
import Derived.Test.YtbgabipngdillaaZ01
import Derived.Test.YtbgabipngdillaaZ05
import Derived.Test.YtbgabipngdillaaZ04
import Derived.Test.YtbgabipngdillaaZ03
import Derived.Test.YtbgabipngdillaaZ07
import Derived.Test.YtbgabipngdillaaZ06
import Derived.Test.YtbgabipngdillaaZ18
namespace Go.Proofs.Ytbgabipngdillaa
open Go.RowKit

theorem SI.capB {w : World} {A : Option Addr} {n c : Nat} {l : List Int} (h : SI w (.slice A n c) l) : l.length ≤ c := by
  obtain ⟨A2, c2, e, hc, _⟩ := h
  injection e with _ _ e3
  omega
def PwG (P a : Int) (n : Nat) (w1 : World) (xv av nv : Value) (wr : World) : Prop :=
  ∃ (x b : Int) (k : Nat), xv = .int .i64 x ∧ av = .int .i64 b ∧ nv = .int .i64 k ∧ k ≤ 70000 ∧ 0 ≤ x ∧ x < P ∧ 0 ≤ b ∧ b < P ∧ P ∣ x * b ^ k - a ^ n ∧ w1 = wr
set_option maxRecDepth 100000 in
set_option maxHeartbeats 4000000 in
theorem rpowG_any (P a : Int) (n : Nat) (w : World) (hP : 2 ≤ P ∧ P ≤ 65521) (ha : 0 ≤ a ∧ a < P) (hn : n ≤ 70000) :
    Calls Try.prog 60 #[.agg #[.int .i64 P], .int .i64 a, .int .i64 n] w fun e w' => e = .returned (.int .i64 (a ^ n % P)) ∧ Below w.heap.size w w' := by
  go_enter Try.func60, Try.ntmps60
  obtain ⟨F, eF⟩ : ∃ F, F = w.heap.size := ⟨_, rfl⟩
  obtain ⟨w1, ew1⟩ : ∃ w1 : World, w1 = w.alloc (.cells #[.int .i64 P] 26) := ⟨_, rfl⟩
  have HWw1 : Hid (w.alloc (.cells #[.int .i64 P] 26) = w1) := ew1.symm
  have HAw1 : Hid (Below w.heap.size w w1) := (show Hid _ from by rw [ew1]; exact (Below.refl _ w).alloc (Nat.le_refl _) _)
  have HF0w1 : Hid (w1.heap[F]? = some (.cells #[.int .i64 P] 26 (0, 0))) := (show Hid _ from by show _ = _; rw [ew1, eF]; exact heap_alloc_new w _)
  go_upto_region 1 with fail
  rw [HWw1.out, ← eF]
  clear ew1 eF
  have f0 : w1.cell? ⟨F, 0, none⟩ = some (.int .i64 P) := cell_of_row w1 F 0 _ _ _ HF0w1.out
  have hP0 : ¬ P = 0 := by omega
  have h1 : (1 : Int).tmod P = 1 := by rw [Int.tmod_eq_emod_of_nonneg (by omega)]; exact Int.emod_eq_of_lt (by omega) (by omega)
  go_wp2_with fail
  go_loopw [7, 1, 2] (fun xv av nv wr => PwG P a n w1 xv av nv wr) (fun _ _ nv _ => (intOf nv).toNat)
  case atStart => exact ⟨1, a, n, by first | rfl | simp [h1], rfl, rfl, hn, by omega, by omega, ha.1, ha.2, ⟨0, by simp⟩, rfl⟩
  case round =>
    obtain ⟨x, b, k, rfl, rfl, rfl, hk, hx1, hx2, hb1, hb2, hd, rfl⟩ := hrel
    have HD := Lib.hid hd
    clear hd h1
    by_cases hk0 : k = 0
    · subst hk0
      have HX : Hid (x = a ^ n % P) := (show Hid _ from by
        have h := HD.out
        rw [Int.pow_zero, Int.mul_one] at h
        have h1 := Int.emod_eq_emod_iff_emod_sub_eq_zero.2 (Int.emod_eq_zero_of_dvd h)
        rw [Int.emod_eq_of_lt hx1 hx2] at h1
        exact h1)
      go_wp2_with fail
      go_ret
      exact ⟨by rw [HX.out]; rfl, HAw1.out⟩
    · have hxb : 0 ≤ x * b % P ∧ x * b % P < P := ⟨Int.emod_nonneg _ (by omega), Int.emod_lt_of_pos _ (by omega)⟩
      have hbb : 0 ≤ b * b % P ∧ b * b % P < P := ⟨Int.emod_nonneg _ (by omega), Int.emod_lt_of_pos _ (by omega)⟩
      have m1 := mul_bd ⟨hx1, hx2⟩ ⟨hb1, hb2⟩ hP.2
      have m2 := mul_bd ⟨hb1, hb2⟩ ⟨hb1, hb2⟩ hP.2
      have w1_ : IntKind.i64.wrap (x * b) = x * b := by exact IntWalk.i64_in _ (by omega)
      have w2_ : IntKind.i64.wrap (b * b) = b * b := by exact IntWalk.i64_in _ (by omega)
      have t1_ : (x * b).tmod P = x * b % P := Int.tmod_eq_emod_of_nonneg (by omega)
      have t2_ : (b * b).tmod P = b * b % P := Int.tmod_eq_emod_of_nonneg (by omega)
      have w3_ : IntKind.i64.wrap (x * b % P) = x * b % P := by exact IntWalk.i64_in _ (by omega)
      have w4_ : IntKind.i64.wrap (b * b % P) = b * b % P := by exact IntWalk.i64_in _ (by omega)
      have HEV : Hid (∀ m : Nat, k = 2 * m → P ∣ x * (b * b % P) ^ m - a ^ n) := (show Hid _ from fun m hm => by
        have h1 := pw_even P x b m
        rw [← hm] at h1
        exact dvd_of_eq' (Int.dvd_add h1 HD.out) (by omega))
      have HOD : Hid (∀ m : Nat, k = 2 * m + 1 → P ∣ (x * b % P) * (b * b % P) ^ m - a ^ n) := (show Hid _ from fun m hm => by
        have h1 := pw_odd P x b m
        rw [← hm] at h1
        exact dvd_of_eq' (Int.dvd_add h1 HD.out) (by omega))
      have hb1' := and_one k (by omega)
      obtain ⟨q, eq⟩ : ∃ q, q = k / 2 := ⟨_, rfl⟩
      have s1_ : (k : Int) / 2 = (q : Int) := by omega
      have s2_ : IntKind.i64.wrap (q : Int) = (q : Int) := by exact IntWalk.i64_in _ (by omega)
      have hkz : decide ((0 : Int) < (k : Int)) = true := decide_eq_true (by omega)
      have hkz' : decide (0 < k) = true := decide_eq_true (by omega)
      obtain ⟨r, er⟩ : ∃ r, r = k % 2 := ⟨_, rfl⟩
      rw [← er] at hb1'
      have hqk : q < k := by omega
      have hqb : q ≤ 70000 := by omega
      rcases Nat.lt_or_ge r 1 with h0 | h0
      · have hr : r = 0 := by omega
        subst hr
        have HE2 := Lib.hid (HEV.out q (by omega))
        clear HD m1 m2 HEV HOD hk0 eq er hk
        go_wp2_with fail
        exact ⟨⟨_, _, q, rfl, rfl, by first | rfl | simp [s1_], hqb, hx1, hx2, hbb.1, hbb.2, HE2.out, rfl⟩, by simp [intOf]; omega⟩
      · have hr : r = 1 := by omega
        subst hr
        have HE2 := Lib.hid (HOD.out q (by omega))
        clear HD m1 m2 HEV HOD hk0 eq er hk
        go_wp2_with fail
        exact ⟨⟨_, _, q, rfl, rfl, by first | rfl | simp [s1_], hqb, hxb.1, hxb.2, hbb.1, hbb.2, HE2.out, rfl⟩, by simp [intOf]; omega⟩
theorem inv_pow {P a : Int} (hP : 2 ≤ P) (ha : 0 ≤ a ∧ a < P) (h2 : P = 2 → a ≠ 0) : a ^ (P.toNat - 2) % P = inv P a := by
  unfold inv
  by_cases h : a % P = 0
  · rw [if_pos h]
    have ha0 : a = 0 := by rw [Int.emod_eq_of_lt ha.1 ha.2] at h; exact h
    have hP2 : ¬ P = 2 := fun e => h2 e ha0
    obtain ⟨k, hk⟩ : ∃ k, P.toNat - 2 = k + 1 := ⟨P.toNat - 3, by omega⟩
    rw [ha0, hk, Int.pow_succ]; simp
  · rw [if_neg h]
set_option maxRecDepth 100000 in
set_option maxHeartbeats 2000000 in
theorem rinv_any (P a : Int) (w : World) (hP : 2 ≤ P ∧ P ≤ 65521) (ha : 0 ≤ a ∧ a < P) (h2 : P = 2 → a ≠ 0) :
    Calls Try.prog 50 #[.agg #[.int .i64 P], .int .i64 a] w fun e w' => e = .returned (.int .i64 (inv P a)) ∧ Below w.heap.size w w' := by
  go_enter Try.func50, Try.ntmps50
  obtain ⟨F, eF⟩ : ∃ F, F = w.heap.size := ⟨_, rfl⟩
  obtain ⟨w1, ew1⟩ : ∃ w1 : World, w1 = w.alloc (.cells #[.int .i64 P] 26) := ⟨_, rfl⟩
  have HWw1 : Hid (w.alloc (.cells #[.int .i64 P] 26) = w1) := ew1.symm
  have HAw1 : Hid (Below w.heap.size w w1) := (show Hid _ from by rw [ew1]; exact (Below.refl _ w).alloc (Nat.le_refl _) _)
  have HF0w1 : Hid (w1.heap[F]? = some (.cells #[.int .i64 P] 26 (0, 0))) := (show Hid _ from by show _ = _; rw [ew1, eF]; exact heap_alloc_new w _)
  go_upto_region 1 with fail
  rw [HWw1.out, ← eF]
  clear ew1 eF
  have f0 : w1.cell? ⟨F, 0, none⟩ = some (.int .i64 P) := cell_of_row w1 F 0 _ _ _ HF0w1.out
  obtain ⟨n, en⟩ : ∃ n : Nat, (n : Int) = P - 2 := ⟨(P - 2).toNat, by omega⟩
  have wn : IntKind.i64.wrap (P - 2) = (n : Int) := by rw [en]; exact IntWalk.i64_in _ (by omega)
  have HI : Hid (a ^ n % P = inv P a) := (show Hid _ from by
    have h := inv_pow hP.1 ha h2
    rw [show P.toNat - 2 = n by omega] at h; exact h)
  have hn : n ≤ 70000 := by omega
  clear en h2
  go_wp2_with fail
  (with_reducible refine (rpowG_any P a n w1 hP ha hn).mono ?_)
  rintro e w2 ⟨rfl, hb2⟩
  rw [HI.out]
  have HB := Lib.hid (HAw1.out.trans (hb2.mono HAw1.out.size))
  clear hb2
  go_wp2_with fail
  go_ret
  exact ⟨rfl, HB.out⟩
set_option maxRecDepth 100000 in
set_option maxHeartbeats 2000000 in
theorem rvalue_any (P x : Int) (p : List Int) (v : Value) (w : World) (hP : 2 ≤ P ∧ P ≤ 65521) (hx : 0 ≤ x ∧ x < P) (he : els P p = true) (hl : p.length ≤ 1000000) (h : SI w v p) :
    Calls Try.prog 49 #[.agg #[.int .i64 P], v, .int .i64 x] w fun e w' => e = .returned (.int .i64 (val P p x)) ∧ Below w.heap.size w w' := by
  have HE := Lib.hid he
  obtain ⟨A, c, rfl⟩ := h.form
  have HS := Lib.hid h
  clear he h
  go_enter Try.func49, Try.ntmps49
  obtain ⟨F, eF⟩ : ∃ F, F = w.heap.size := ⟨_, rfl⟩
  obtain ⟨w1, ew1⟩ : ∃ w1 : World, w1 = w.alloc (.cells #[.int .i64 P] 26) := ⟨_, rfl⟩
  have HWw1 : Hid (w.alloc (.cells #[.int .i64 P] 26) = w1) := ew1.symm
  have HAw1 : Hid (Below w.heap.size w w1) := (show Hid _ from by rw [ew1]; exact (Below.refl _ w).alloc (Nat.le_refl _) _)
  have HF0w1 : Hid (w1.heap[F]? = some (.cells #[.int .i64 P] 26 (0, 0))) := (show Hid _ from by show _ = _; rw [ew1, eF]; exact heap_alloc_new w _)
  have HXC : Hid (∀ W, Below w1.heap.size w1 W → W.cell? ⟨F, 0, none⟩ = some (.int .i64 P)) := (show Hid _ from fun W hg => by
    have hF0 := (hg.block F (heap_of_cells HF0w1.out)).trans HF0w1.out
    exact (cell_of_row W F 0 _ _ _ hF0))
  have HS1 := Lib.hid (HS.out.below HAw1.out)
  go_upto_region 1 with fail
  rw [HWw1.out, ← eF]
  clear ew1 eF
  go_wp2_with fail
  go_loopw [7, 8] (fun nv iv wr => ∃ k : Nat, k ≤ p.length ∧ nv = .int .i64 (val P (p.drop k) x) ∧ iv = .int .i64 ((k : Int) - 1) ∧ Below w1.heap.size w1 wr) (fun _ iv _ => ((intOf iv) + 1).toNat)
  case atStart => exact ⟨p.length, Nat.le_refl _, by rw [List.drop_length]; rfl, by go_num, Below.refl _ _⟩
  case round =>
    obtain ⟨k, hk, rfl, rfl, hb⟩ := hrel
    have HB := Lib.hid hb
    clear hb
    by_cases hk0 : k = 0
    · subst hk0
      rw [List.drop_zero]
      have d0 : decide (((0 : Nat) : Int) - 1 ≥ 0) = false := decide_eq_false (by omega)
      have d0' : decide ((0 : Int) ≤ ((0 : Nat) : Int) - 1) = false := decide_eq_false (by omega)
      go_wp2_with fail
      go_ret
      exact ⟨rfl, HAw1.out.trans (HB.out.mono HAw1.out.size)⟩
    · obtain ⟨j, rfl⟩ : ∃ j, k = j + 1 := ⟨k - 1, by omega⟩
      have hjl : j < p.length := by omega
      have ej : ((j + 1 : Nat) : Int) - 1 = (j : Int) := by omega
      rw [ej]
      have f0 := HXC.out wr HB.out
      obtain ⟨bb, ob, eA, ck⟩ := (HS1.out.below HB.out).at hjl
      subst eA
      have HV : Hid (val P (p.drop j) x = (val P (p.drop (j + 1)) x * x + p[j]) % P) := val_drop hjl x
      have hvb := val_bd hP.1 (p.drop (j + 1)) x
      have hel := el_t (els_all HE.out _ (List.getElem_mem hjl))
      obtain ⟨s, es⟩ : ∃ s, s = val P (p.drop (j + 1)) x := ⟨_, rfl⟩
      obtain ⟨y, ey⟩ : ∃ y, y = p[j] := ⟨_, rfl⟩
      rw [← es] at HV hvb ⊢
      rw [← ey] at HV hel ck
      have hsx := mul_bd hvb hx hP.2
      have w1_ : IntKind.i64.wrap (s * x) = s * x := by exact IntWalk.i64_in _ (by omega)
      have w2_ : IntKind.i64.wrap (s * x + y) = s * x + y := by exact IntWalk.i64_in _ (by omega)
      have t1_ : (s * x + y).tmod P = (s * x + y) % P := Int.tmod_eq_emod_of_nonneg (by omega)
      have hm := Int.emod_nonneg (s * x + y) (show P ≠ 0 by omega)
      have hm2 := Int.emod_lt_of_pos (s * x + y) (show 0 < P by omega)
      have w3_ : IntKind.i64.wrap ((s * x + y) % P) = (s * x + y) % P := by exact IntWalk.i64_in _ (by omega)
      have w4_ : IntKind.i64.wrap ((j : Int) - 1) = (j : Int) - 1 := by exact IntWalk.i64_in _ (by omega)
      have hP0 : ¬ P = 0 := by omega
      have d0 : decide ((j : Int) ≥ 0) = true := decide_eq_true (by omega)
      have d0' : decide ((0 : Int) ≤ (j : Int)) = true := decide_eq_true (by omega)
      have z1 : (0 : Int) ≤ (j : Int) := by omega
      have z2 : (j : Int) < (p.length : Int) := by omega
      clear es ey hsx hm hm2 ej
      go_upto_region 5 with fail
      go_quiet (fail)
      go_wp2_with fail
      go_roundw
      case rel => exact ⟨j, by omega, by rw [HV.out], rfl, by first | exact HB.out | exact Below.drewN HB.out _⟩
      case measure => (simp [intOf]; try omega)
set_option maxRecDepth 100000 in
set_option maxHeartbeats 2000000 in
theorem rtrim_any (l : List Int) (v : Value) (w : World) (h : SI w v l) (hl : l.length ≤ 1000000) :
    Calls Try.prog 51 #[v] w fun e w' => ∃ v', e = .returned v' ∧ w'.ownsRow w.heap.size 3 1 v' (trim l).length ((trim l).map (Value.int .i64)) ∧ Below w.heap.size w w' := by
  obtain ⟨A, c, rfl⟩ := h.form
  have HS := Lib.hid h
  clear h
  go_enter Try.func51, Try.ntmps51
  go_wp2_with fail
  go_loopw [0] (fun pv wr => ∃ n : Nat, n ≤ l.length ∧ pv = .slice A n c ∧ (∀ k, n ≤ k → gd l k = 0) ∧ w = wr) (fun pv _ => match pv with | .slice _ n _ => n | _ => 0)
  case atStart => exact ⟨l.length, Nat.le_refl _, rfl, fun k hk => gd_ge hk, rfl⟩
  case round =>
    obtain ⟨n, hn, rfl, hz, rfl⟩ := hrel
    have HZ := Lib.hid hz
    clear hz
    have HT : Hid ((n = 0 ∨ gd l (n - 1) ≠ 0) → trim l = l.take n) := (show Hid _ from fun h => trim_take hn HZ.out h)
    have HFIN : Hid (trim l = l.take n → ∀ (X : Value) (W : World), W.ownsRow w.heap.size 3 1 X ([] ++ l.take n).length (([] ++ l.take n).map (Value.int .i64)) → W.ownsRow w.heap.size 3 1 X (trim l).length ((trim l).map (Value.int .i64))) := (show Hid _ from fun e X W h => by rw [e]; simpa using h)
    have HTK : Hid (SI w (.slice A n c) (l.take n)) := (show Hid _ from HS.out.take hn)
    by_cases hn0 : n = 0
    · have e := HT.out (.inl hn0)
      have HE := Lib.hid e
      clear e
      have d0 : decide ((0 : Int) < (n : Int)) = false := decide_eq_false (by omega)
      have d0' : decide (0 < n) = false := decide_eq_false (by omega)
      go_wp2_with (at_builtin; refine wpList_append_ints _ rfl _ _ 22 rfl w.heap.size 3 Try.underlying22 iinfo (.slice none 0 0) [] rfl (World.ownsRow_nil _ _ _ _) _ _ (l.take n) rfl HTK.out (by simp; omega) (Nat.le_refl _) ?_; intro v2 w2 hown2 hg2; have HO2 := Lib.hid hown2; have HG2 := Lib.hid hg2; clear hown2 hg2)
      go_ret
      exact ⟨_, rfl, HFIN.out HE.out _ _ HO2.out, (Below.refl _ w).grown HG2.out (Nat.le_refl _) (fun k hk => by simp [Value.ownBlock] at hk)⟩
    · have d0 : decide ((0 : Int) < (n : Int)) = true := decide_eq_true (by omega)
      have d0' : decide (0 < n) = true := decide_eq_true (by omega)
      obtain ⟨j, rfl⟩ : ∃ j, n = j + 1 := ⟨n - 1, by omega⟩
      have hjl : j < l.length := by omega
      obtain ⟨bb, ob, eA, ck⟩ := HS.out.at hjl
      subst eA
      have w1_ : IntKind.i64.wrap (((j + 1 : Nat) : Int) - 1) = (j : Int) := by rw [show ((j + 1 : Nat) : Int) - 1 = (j : Int) by omega]; exact IntWalk.i64_in _ (by omega)
      have w2_ : IntKind.i64.wrap ((j : Int) + 1 - 1) = (j : Int) := by rw [show (j : Int) + 1 - 1 = (j : Int) by omega]; exact IntWalk.i64_in _ (by omega)
      have z1 : (0 : Int) ≤ (j : Int) := by omega
      have z2 : (j : Int) < (j : Int) + 1 := by omega
      have z3 : (j : Int) ≤ (c : Int) := by have := HS.out.capB; omega
      have hg : gd l j = l[j] := gd_lt hjl
      by_cases hy : l[j] = 0
      · rw [hy] at ck
        go_wp2_with fail
        go_roundw
        case rel => exact ⟨j, by omega, rfl, fun k hk => by
          rcases Nat.lt_or_ge j k with h | h
          · exact HZ.out k (by omega)
          · rw [show k = j by omega, hg, hy], by simp⟩
        case measure => simp
      · have hne : gd l (j + 1 - 1) ≠ 0 := by rw [Nat.add_sub_cancel, hg]; exact hy
        have HE := Lib.hid (HT.out (.inr hne))
        obtain ⟨y, ey⟩ : ∃ y, y = l[j] := ⟨_, rfl⟩
        rw [← ey] at ck hy
        have dy : (y == 0) = false := by rw [beq_eq_false_iff_ne]; exact hy
        clear hne hg ey
        go_wp2_with (at_builtin; refine wpList_append_ints _ rfl _ _ 22 rfl w.heap.size 3 Try.underlying22 iinfo (.slice none 0 0) [] rfl (World.ownsRow_nil _ _ _ _) _ _ (l.take (j + 1)) rfl HTK.out (by simp; omega) (Nat.le_refl _) ?_; intro v2 w2 hown2 hg2; have HO2 := Lib.hid hown2; have HG2 := Lib.hid hg2; clear hown2 hg2)
        go_ret
        exact ⟨_, rfl, HFIN.out HE.out _ _ HO2.out, (Below.refl _ w).grown HG2.out (Nat.le_refl _) (fun k hk => by simp [Value.ownBlock] at hk)⟩
end Go.Proofs.Ytbgabipngdillaa
