/- Joined: Ri Rk. -/
import Derived.Lib.RabinKarpLaws
import Derived.Test.YtoiabanpnkpbhaaGreatDoorY39
import Derived.Test.YtoiabanpnkpbhaaGreatDoorY05
namespace Go.Proofs.YtoiabanpnkpbhaaGreatDoor
open Go.RowKit

theorem SI.capB {w : World} {A : Option Addr} {n c : Nat} {l : List Int} (h : SI w (.slice A n c) l) : l.length ≤ c := by
  obtain ⟨A2, c2, e, hc, _⟩ := h
  injection e with _ _ e3
  omega
def PwG (P a : Int) (n : Nat) (w1 : World) (xv av nv : Value) (wr : World) : Prop :=
  ∃ (x b : Int) (k : Nat), xv = .int .i64 x ∧ av = .int .i64 b ∧ nv = .int .i64 k ∧ k ≤ 70000 ∧ 0 ≤ x ∧ x < P ∧ 0 ≤ b ∧ b < P ∧ P ∣ x * b ^ k - a ^ n ∧ w1 = wr
set_option maxRecDepth 100000 in
set_option maxHeartbeats 4000000 in
theorem rpowG_any (P a : Int) (n : Nat) (w : World) (hP : 2 ≤ P ∧ P ≤ 65521) (ha : 0 ≤ a ∧ a < P) (hn : n ≤ 70000) :
    Calls Tryz.prog 63 #[.agg #[.int .i64 P], .int .i64 a, .int .i64 n] w fun e w' => e = .returned (.int .i64 (a ^ n % P)) ∧ Below w.heap.size w w' := by
  go_enter Tryz.func63, Tryz.ntmps63
  obtain ⟨F, eF⟩ : ∃ F, F = w.heap.size := ⟨_, rfl⟩
  obtain ⟨w1, ew1⟩ : ∃ w1 : World, w1 = w.alloc (.cells #[.int .i64 P] 31) := ⟨_, rfl⟩
  have HWw1 : Hid (w.alloc (.cells #[.int .i64 P] 31) = w1) := ew1.symm
  have HAw1 : Hid (Below w.heap.size w w1) := (show Hid _ from by rw [ew1]; exact (Below.refl _ w).alloc (Nat.le_refl _) _)
  have HF0w1 : Hid (w1.heap[F]? = some (.cells #[.int .i64 P] 31 (0, 0))) := (show Hid _ from by show _ = _; rw [ew1, eF]; exact heap_alloc_new w _)
  go_upto_region 1 with fail
  rw [HWw1.out, ← eF]
  clear ew1 eF
  have f0 : w1.cell? ⟨F, 0, none⟩ = some (.int .i64 P) := cell_of_row w1 F 0 _ _ _ HF0w1.out
  have hP0 : ¬ P = 0 := by omega
  have h1 : (1 : Int).tmod P = 1 := by rw [Int.tmod_eq_emod_of_nonneg (by omega)]; exact Int.emod_eq_of_lt (by omega) (by omega)
  go_wp2_with fail
  go_loopw [7, 1, 2] (fun xv av nv wr => PwG P a n w1 xv av nv wr) (fun _ _ nv _ => (intOf nv).toNat)
  case atStart => exact ⟨1, a, n, by first | rfl | simp [h1], rfl, rfl, hn, by omega, by omega, ha.1, ha.2, ⟨0, by simp⟩, rfl⟩
  case round =>
    obtain ⟨x, b, k, rfl, rfl, rfl, hk, hx1, hx2, hb1, hb2, hd, rfl⟩ := hrel
    have HD := Lib.hid hd
    clear hd h1
    by_cases hk0 : k = 0
    · subst hk0
      have HX : Hid (x = a ^ n % P) := (show Hid _ from by
        have h := HD.out
        rw [Int.pow_zero, Int.mul_one] at h
        have h1 := Int.emod_eq_emod_iff_emod_sub_eq_zero.2 (Int.emod_eq_zero_of_dvd h)
        rw [Int.emod_eq_of_lt hx1 hx2] at h1
        exact h1)
      go_wp2_with fail
      go_ret
      exact ⟨by rw [HX.out]; rfl, HAw1.out⟩
    · have hxb : 0 ≤ x * b % P ∧ x * b % P < P := ⟨Int.emod_nonneg _ (by omega), Int.emod_lt_of_pos _ (by omega)⟩
      have hbb : 0 ≤ b * b % P ∧ b * b % P < P := ⟨Int.emod_nonneg _ (by omega), Int.emod_lt_of_pos _ (by omega)⟩
      have m1 := mul_bd ⟨hx1, hx2⟩ ⟨hb1, hb2⟩ hP.2
      have m2 := mul_bd ⟨hb1, hb2⟩ ⟨hb1, hb2⟩ hP.2
      have w1_ : IntKind.i64.wrap (x * b) = x * b := by exact IntWalk.i64_in _ (by omega)
      have w2_ : IntKind.i64.wrap (b * b) = b * b := by exact IntWalk.i64_in _ (by omega)
      have t1_ : (x * b).tmod P = x * b % P := Int.tmod_eq_emod_of_nonneg (by omega)
      have t2_ : (b * b).tmod P = b * b % P := Int.tmod_eq_emod_of_nonneg (by omega)
      have w3_ : IntKind.i64.wrap (x * b % P) = x * b % P := by exact IntWalk.i64_in _ (by omega)
      have w4_ : IntKind.i64.wrap (b * b % P) = b * b % P := by exact IntWalk.i64_in _ (by omega)
      have HEV : Hid (∀ m : Nat, k = 2 * m → P ∣ x * (b * b % P) ^ m - a ^ n) := (show Hid _ from fun m hm => by
        have h1 := pw_even P x b m
        rw [← hm] at h1
        exact dvd_of_eq' (Int.dvd_add h1 HD.out) (by omega))
      have HOD : Hid (∀ m : Nat, k = 2 * m + 1 → P ∣ (x * b % P) * (b * b % P) ^ m - a ^ n) := (show Hid _ from fun m hm => by
        have h1 := pw_odd P x b m
        rw [← hm] at h1
        exact dvd_of_eq' (Int.dvd_add h1 HD.out) (by omega))
      have hb1' := and_one k (by omega)
      obtain ⟨q, eq⟩ : ∃ q, q = k / 2 := ⟨_, rfl⟩
      have s1_ : (k : Int) / 2 = (q : Int) := by omega
      have s2_ : IntKind.i64.wrap (q : Int) = (q : Int) := by exact IntWalk.i64_in _ (by omega)
      have hkz : decide ((0 : Int) < (k : Int)) = true := decide_eq_true (by omega)
      have hkz' : decide (0 < k) = true := decide_eq_true (by omega)
      obtain ⟨r, er⟩ : ∃ r, r = k % 2 := ⟨_, rfl⟩
      rw [← er] at hb1'
      have hqk : q < k := by omega
      have hqb : q ≤ 70000 := by omega
      rcases Nat.lt_or_ge r 1 with h0 | h0
      · have hr : r = 0 := by omega
        subst hr
        have HE2 := Lib.hid (HEV.out q (by omega))
        clear HD m1 m2 HEV HOD hk0 eq er hk
        go_wp2_with fail
        exact ⟨⟨_, _, q, rfl, rfl, by first | rfl | simp [s1_], hqb, hx1, hx2, hbb.1, hbb.2, HE2.out, rfl⟩, by simp [intOf]; omega⟩
      · have hr : r = 1 := by omega
        subst hr
        have HE2 := Lib.hid (HOD.out q (by omega))
        clear HD m1 m2 HEV HOD hk0 eq er hk
        go_wp2_with fail
        exact ⟨⟨_, _, q, rfl, rfl, by first | rfl | simp [s1_], hqb, hxb.1, hxb.2, hbb.1, hbb.2, HE2.out, rfl⟩, by simp [intOf]; omega⟩
theorem inv_pow {P a : Int} (hP : 2 ≤ P) (ha : 0 ≤ a ∧ a < P) (h2 : P = 2 → a ≠ 0) : a ^ (P.toNat - 2) % P = inv P a := by
  unfold inv
  by_cases h : a % P = 0
  · rw [if_pos h]
    have ha0 : a = 0 := by rw [Int.emod_eq_of_lt ha.1 ha.2] at h; exact h
    have hP2 : ¬ P = 2 := fun e => h2 e ha0
    obtain ⟨k, hk⟩ : ∃ k, P.toNat - 2 = k + 1 := ⟨P.toNat - 3, by omega⟩
    rw [ha0, hk, Int.pow_succ]; simp
  · rw [if_neg h]
set_option maxRecDepth 100000 in
set_option maxHeartbeats 2000000 in
theorem rinv_any (P a : Int) (w : World) (hP : 2 ≤ P ∧ P ≤ 65521) (ha : 0 ≤ a ∧ a < P) (h2 : P = 2 → a ≠ 0) :
    Calls Tryz.prog 96 #[.agg #[.int .i64 P], .int .i64 a] w fun e w' => e = .returned (.int .i64 (inv P a)) ∧ Below w.heap.size w w' := by
  go_enter Tryz.func96, Tryz.ntmps96
  obtain ⟨F, eF⟩ : ∃ F, F = w.heap.size := ⟨_, rfl⟩
  obtain ⟨w1, ew1⟩ : ∃ w1 : World, w1 = w.alloc (.cells #[.int .i64 P] 31) := ⟨_, rfl⟩
  have HWw1 : Hid (w.alloc (.cells #[.int .i64 P] 31) = w1) := ew1.symm
  have HAw1 : Hid (Below w.heap.size w w1) := (show Hid _ from by rw [ew1]; exact (Below.refl _ w).alloc (Nat.le_refl _) _)
  have HF0w1 : Hid (w1.heap[F]? = some (.cells #[.int .i64 P] 31 (0, 0))) := (show Hid _ from by show _ = _; rw [ew1, eF]; exact heap_alloc_new w _)
  go_upto_region 1 with fail
  rw [HWw1.out, ← eF]
  clear ew1 eF
  have f0 : w1.cell? ⟨F, 0, none⟩ = some (.int .i64 P) := cell_of_row w1 F 0 _ _ _ HF0w1.out
  obtain ⟨n, en⟩ : ∃ n : Nat, (n : Int) = P - 2 := ⟨(P - 2).toNat, by omega⟩
  have wn : IntKind.i64.wrap (P - 2) = (n : Int) := by rw [en]; exact IntWalk.i64_in _ (by omega)
  have HI : Hid (a ^ n % P = inv P a) := (show Hid _ from by
    have h := inv_pow hP.1 ha h2
    rw [show P.toNat - 2 = n by omega] at h; exact h)
  have hn : n ≤ 70000 := by omega
  clear en h2
  go_wp2_with fail
  (with_reducible refine (rpowG_any P a n w1 hP ha hn).mono ?_)
  rintro e w2 ⟨rfl, hb2⟩
  rw [HI.out]
  have HB := Lib.hid (HAw1.out.trans (hb2.mono HAw1.out.size))
  clear hb2
  go_wp2_with fail
  go_ret
  exact ⟨rfl, HB.out⟩
set_option maxRecDepth 100000 in
set_option maxHeartbeats 2000000 in
theorem rvalue_any (P x : Int) (p : List Int) (v : Value) (w : World) (hP : 2 ≤ P ∧ P ≤ 65521) (hx : 0 ≤ x ∧ x < P) (he : els P p = true) (hl : p.length ≤ 1000000) (h : SI w v p) :
    Calls Tryz.prog 85 #[.agg #[.int .i64 P], v, .int .i64 x] w fun e w' => e = .returned (.int .i64 (val P p x)) ∧ Below w.heap.size w w' := by
  have HE := Lib.hid he
  obtain ⟨A, c, rfl⟩ := h.form
  have HS := Lib.hid h
  clear he h
  go_enter Tryz.func85, Tryz.ntmps85
  obtain ⟨F, eF⟩ : ∃ F, F = w.heap.size := ⟨_, rfl⟩
  obtain ⟨w1, ew1⟩ : ∃ w1 : World, w1 = w.alloc (.cells #[.int .i64 P] 31) := ⟨_, rfl⟩
  have HWw1 : Hid (w.alloc (.cells #[.int .i64 P] 31) = w1) := ew1.symm
  have HAw1 : Hid (Below w.heap.size w w1) := (show Hid _ from by rw [ew1]; exact (Below.refl _ w).alloc (Nat.le_refl _) _)
  have HF0w1 : Hid (w1.heap[F]? = some (.cells #[.int .i64 P] 31 (0, 0))) := (show Hid _ from by show _ = _; rw [ew1, eF]; exact heap_alloc_new w _)
  have HXC : Hid (∀ W, Below w1.heap.size w1 W → W.cell? ⟨F, 0, none⟩ = some (.int .i64 P)) := (show Hid _ from fun W hg => by
    have hF0 := (hg.block F (heap_of_cells HF0w1.out)).trans HF0w1.out
    exact (cell_of_row W F 0 _ _ _ hF0))
  have HS1 := Lib.hid (HS.out.below HAw1.out)
  go_upto_region 1 with fail
  rw [HWw1.out, ← eF]
  clear ew1 eF
  go_wp2_with fail
  go_loopw [7, 8] (fun nv iv wr => ∃ k : Nat, k ≤ p.length ∧ nv = .int .i64 (val P (p.drop k) x) ∧ iv = .int .i64 ((k : Int) - 1) ∧ Below w1.heap.size w1 wr) (fun _ iv _ => ((intOf iv) + 1).toNat)
  case atStart => exact ⟨p.length, Nat.le_refl _, by rw [List.drop_length]; rfl, by go_num, Below.refl _ _⟩
  case round =>
    obtain ⟨k, hk, rfl, rfl, hb⟩ := hrel
    have HB := Lib.hid hb
    clear hb
    by_cases hk0 : k = 0
    · subst hk0
      rw [List.drop_zero]
      have d0 : decide (((0 : Nat) : Int) - 1 ≥ 0) = false := decide_eq_false (by omega)
      have d0' : decide ((0 : Int) ≤ ((0 : Nat) : Int) - 1) = false := decide_eq_false (by omega)
      go_wp2_with fail
      go_ret
      exact ⟨rfl, HAw1.out.trans (HB.out.mono HAw1.out.size)⟩
    · obtain ⟨j, rfl⟩ : ∃ j, k = j + 1 := ⟨k - 1, by omega⟩
      have hjl : j < p.length := by omega
      have ej : ((j + 1 : Nat) : Int) - 1 = (j : Int) := by omega
      rw [ej]
      have f0 := HXC.out wr HB.out
      obtain ⟨bb, ob, eA, ck⟩ := (HS1.out.below HB.out).at hjl
      subst eA
      have HV : Hid (val P (p.drop j) x = (val P (p.drop (j + 1)) x * x + p[j]) % P) := val_drop hjl x
      have hvb := val_bd hP.1 (p.drop (j + 1)) x
      have hel := el_t (els_all HE.out _ (List.getElem_mem hjl))
      obtain ⟨s, es⟩ : ∃ s, s = val P (p.drop (j + 1)) x := ⟨_, rfl⟩
      obtain ⟨y, ey⟩ : ∃ y, y = p[j] := ⟨_, rfl⟩
      rw [← es] at HV hvb ⊢
      rw [← ey] at HV hel ck
      have hsx := mul_bd hvb hx hP.2
      have w1_ : IntKind.i64.wrap (s * x) = s * x := by exact IntWalk.i64_in _ (by omega)
      have w2_ : IntKind.i64.wrap (s * x + y) = s * x + y := by exact IntWalk.i64_in _ (by omega)
      have t1_ : (s * x + y).tmod P = (s * x + y) % P := Int.tmod_eq_emod_of_nonneg (by omega)
      have hm := Int.emod_nonneg (s * x + y) (show P ≠ 0 by omega)
      have hm2 := Int.emod_lt_of_pos (s * x + y) (show 0 < P by omega)
      have w3_ : IntKind.i64.wrap ((s * x + y) % P) = (s * x + y) % P := by exact IntWalk.i64_in _ (by omega)
      have w4_ : IntKind.i64.wrap ((j : Int) - 1) = (j : Int) - 1 := by exact IntWalk.i64_in _ (by omega)
      have hP0 : ¬ P = 0 := by omega
      have d0 : decide ((j : Int) ≥ 0) = true := decide_eq_true (by omega)
      have d0' : decide ((0 : Int) ≤ (j : Int)) = true := decide_eq_true (by omega)
      have z1 : (0 : Int) ≤ (j : Int) := by omega
      have z2 : (j : Int) < (p.length : Int) := by omega
      clear es ey hsx hm hm2 ej
      go_upto_region 5 with fail
      go_quiet (fail)
      go_wp2_with fail
      go_roundw
      case rel => exact ⟨j, by omega, by rw [HV.out], rfl, by first | exact HB.out | exact Below.drewN HB.out _⟩
      case measure => (simp [intOf]; try omega)
set_option maxRecDepth 100000 in
set_option maxHeartbeats 2000000 in
theorem rtrim_any (l : List Int) (v : Value) (w : World) (h : SI w v l) (hl : l.length ≤ 1000000) :
    Calls Tryz.prog 97 #[v] w fun e w' => ∃ v', e = .returned v' ∧ w'.ownsRow w.heap.size 3 1 v' (trim l).length ((trim l).map (Value.int .i64)) ∧ Below w.heap.size w w' := by
  obtain ⟨A, c, rfl⟩ := h.form
  have HS := Lib.hid h
  clear h
  go_enter Tryz.func97, Tryz.ntmps97
  go_wp2_with fail
  go_loopw [0] (fun pv wr => ∃ n : Nat, n ≤ l.length ∧ pv = .slice A n c ∧ (∀ k, n ≤ k → gd l k = 0) ∧ w = wr) (fun pv _ => match pv with | .slice _ n _ => n | _ => 0)
  case atStart => exact ⟨l.length, Nat.le_refl _, rfl, fun k hk => gd_ge hk, rfl⟩
  case round =>
    obtain ⟨n, hn, rfl, hz, rfl⟩ := hrel
    have HZ := Lib.hid hz
    clear hz
    have HT : Hid ((n = 0 ∨ gd l (n - 1) ≠ 0) → trim l = l.take n) := (show Hid _ from fun h => trim_take hn HZ.out h)
    have HFIN : Hid (trim l = l.take n → ∀ (X : Value) (W : World), W.ownsRow w.heap.size 3 1 X ([] ++ l.take n).length (([] ++ l.take n).map (Value.int .i64)) → W.ownsRow w.heap.size 3 1 X (trim l).length ((trim l).map (Value.int .i64))) := (show Hid _ from fun e X W h => by rw [e]; simpa using h)
    have HTK : Hid (SI w (.slice A n c) (l.take n)) := (show Hid _ from HS.out.take hn)
    by_cases hn0 : n = 0
    · have e := HT.out (.inl hn0)
      have HE := Lib.hid e
      clear e
      have d0 : decide ((0 : Int) < (n : Int)) = false := decide_eq_false (by omega)
      have d0' : decide (0 < n) = false := decide_eq_false (by omega)
      go_wp2_with (at_builtin; refine wpList_append_ints _ rfl _ _ 22 rfl w.heap.size 3 Tryz.underlying22 iinfo (.slice none 0 0) [] rfl (World.ownsRow_nil _ _ _ _) _ _ (l.take n) rfl HTK.out (by simp; omega) (Nat.le_refl _) ?_; intro v2 w2 hown2 hg2; have HO2 := Lib.hid hown2; have HG2 := Lib.hid hg2; clear hown2 hg2)
      go_ret
      exact ⟨_, rfl, HFIN.out HE.out _ _ HO2.out, (Below.refl _ w).grown HG2.out (Nat.le_refl _) (fun k hk => by simp [Value.ownBlock] at hk)⟩
    · have d0 : decide ((0 : Int) < (n : Int)) = true := decide_eq_true (by omega)
      have d0' : decide (0 < n) = true := decide_eq_true (by omega)
      obtain ⟨j, rfl⟩ : ∃ j, n = j + 1 := ⟨n - 1, by omega⟩
      have hjl : j < l.length := by omega
      obtain ⟨bb, ob, eA, ck⟩ := HS.out.at hjl
      subst eA
      have w1_ : IntKind.i64.wrap (((j + 1 : Nat) : Int) - 1) = (j : Int) := by rw [show ((j + 1 : Nat) : Int) - 1 = (j : Int) by omega]; exact IntWalk.i64_in _ (by omega)
      have w2_ : IntKind.i64.wrap ((j : Int) + 1 - 1) = (j : Int) := by rw [show (j : Int) + 1 - 1 = (j : Int) by omega]; exact IntWalk.i64_in _ (by omega)
      have z1 : (0 : Int) ≤ (j : Int) := by omega
      have z2 : (j : Int) < (j : Int) + 1 := by omega
      have z3 : (j : Int) ≤ (c : Int) := by have := HS.out.capB; omega
      have hg : gd l j = l[j] := gd_lt hjl
      by_cases hy : l[j] = 0
      · rw [hy] at ck
        go_wp2_with fail
        go_roundw
        case rel => exact ⟨j, by omega, rfl, fun k hk => by
          rcases Nat.lt_or_ge j k with h | h
          · exact HZ.out k (by omega)
          · rw [show k = j by omega, hg, hy], by simp⟩
        case measure => simp
      · have hne : gd l (j + 1 - 1) ≠ 0 := by rw [Nat.add_sub_cancel, hg]; exact hy
        have HE := Lib.hid (HT.out (.inr hne))
        obtain ⟨y, ey⟩ : ∃ y, y = l[j] := ⟨_, rfl⟩
        rw [← ey] at ck hy
        have dy : (y == 0) = false := by rw [beq_eq_false_iff_ne]; exact hy
        clear hne hg ey
        go_wp2_with (at_builtin; refine wpList_append_ints _ rfl _ _ 22 rfl w.heap.size 3 Tryz.underlying22 iinfo (.slice none 0 0) [] rfl (World.ownsRow_nil _ _ _ _) _ _ (l.take (j + 1)) rfl HTK.out (by simp; omega) (Nat.le_refl _) ?_; intro v2 w2 hown2 hg2; have HO2 := Lib.hid hown2; have HG2 := Lib.hid hg2; clear hown2 hg2)
        go_ret
        exact ⟨_, rfl, HFIN.out HE.out _ _ HO2.out, (Below.refl _ w).grown HG2.out (Nat.le_refl _) (fun k hk => by simp [Value.ownBlock] at hk)⟩
end Go.Proofs.YtoiabanpnkpbhaaGreatDoor

namespace Go.Proofs.YtoiabanpnkpbhaaGreatDoor
open Go.RowKit

noncomputable def regI5C : Code := ((Tryz.f71.body.bind (regionOf 5)).getD .skip)
set_option maxRecDepth 1000000 in
set_option maxHeartbeats 4000000 in
theorem regI5 (B G : Nat) (x y : Int) (xs ys : List Int) (v6 v7 : Value) (w : World) (hT : TwoR B w v6 xs v7 ys) (hx0 : w.cell? ⟨G, 0, none⟩ = some (.int .i64 x)) (hx1 : w.cell? ⟨G, 1, none⟩ = some (.int .i64 y)) (hG : ∀ k, v6.ownBlock = some k ∨ v7.ownBlock = some k → k ≠ G) (hGl : G < w.heap.size) (hB : B ≤ w.heap.size) (hxl : xs.length + 1 ≤ 17592186044416) (hyl : ys.length + 1 ≤ 17592186044416)
    (s0 s1 s2 s3 s4 s5 s8 s10 s11 s12 s13 s14 s15 s16 s17 s18 s19 s20 s21 s22 s23 s24 s25 s26 s27 s28 s29 s30 s31 s32 s33 s34 s35 s36 s37 s38 s39 s40 s41 s42 s43 s44 s45 s46 s47 s48 s49 s50 s51 s52 s53 s54 s55 s56 s57 s58 s59 s60 s61 s62 s63 s64 s65 s66 s67 s68 s69 s70 s71 s72 s73 s74 s75 s76 s77 s78 s79 s80 s81 s82 s83 s84 s85 s86 s87 s88 s89 s90 s91 s92 s93 s94 s95 s96 s97 s98 s99 s100 s101 s102 s103 s104 s105 s106 s107 s108 s109 s110 s111 s112 s113 s114 s115 s116 s117 s118 s119 s120 s121 s122 s123 s124 s125 s126 s127 s128 s129 s130 s131 s132 s133 s134 s135 s136 s137 s138 s139 s140 s141 s142 s143 s144 s145 s146 s147 s148 s149 s150 s151 s152 s153 s154 s155 s156 s157 s158 s159 s160 s161 s162 s163 s164 s165 s166 s167 s168 s169 s170 s171 s172 s173 s174 s175 s176 s177 s178 s179 s180 s181 s182 s183 s184 : Value) (Q : Exit → Act → World → Prop)
    (hK : ∀ (u31 u32 u33 u34 u35 u36 u37 u38 u39 u40 : Value) (v6' v7' : Value) (w' : World), TwoR B w' v6' (xs ++ [x]) v7' (ys ++ [y]) → Below B w w' → Q .normal ⟨List.toArray (s0 :: s1 :: s2 :: s3 :: s4 :: s5 :: (v6') :: (v7') :: s8 :: (Value.pointer (some ⟨G, 0, none⟩)) :: s10 :: s11 :: s12 :: s13 :: s14 :: s15 :: s16 :: s17 :: s18 :: s19 :: s20 :: s21 :: s22 :: s23 :: s24 :: s25 :: s26 :: s27 :: s28 :: s29 :: s30 :: u31 :: u32 :: u33 :: u34 :: u35 :: u36 :: u37 :: u38 :: u39 :: u40 :: s41 :: s42 :: s43 :: s44 :: s45 :: s46 :: s47 :: s48 :: s49 :: s50 :: s51 :: s52 :: s53 :: s54 :: s55 :: s56 :: s57 :: s58 :: s59 :: s60 :: s61 :: s62 :: s63 :: s64 :: s65 :: s66 :: s67 :: s68 :: s69 :: s70 :: s71 :: s72 :: s73 :: s74 :: s75 :: s76 :: s77 :: s78 :: s79 :: s80 :: s81 :: s82 :: s83 :: s84 :: s85 :: s86 :: s87 :: s88 :: s89 :: s90 :: s91 :: s92 :: s93 :: s94 :: s95 :: s96 :: s97 :: s98 :: s99 :: s100 :: s101 :: s102 :: s103 :: s104 :: s105 :: s106 :: s107 :: s108 :: s109 :: s110 :: s111 :: s112 :: s113 :: s114 :: s115 :: s116 :: s117 :: s118 :: s119 :: s120 :: s121 :: s122 :: s123 :: s124 :: s125 :: s126 :: s127 :: s128 :: s129 :: s130 :: s131 :: s132 :: s133 :: s134 :: s135 :: s136 :: s137 :: s138 :: s139 :: s140 :: s141 :: s142 :: s143 :: s144 :: s145 :: s146 :: s147 :: s148 :: s149 :: s150 :: s151 :: s152 :: s153 :: s154 :: s155 :: s156 :: s157 :: s158 :: s159 :: s160 :: s161 :: s162 :: s163 :: s164 :: s165 :: s166 :: s167 :: s168 :: s169 :: s170 :: s171 :: s172 :: s173 :: s174 :: s175 :: s176 :: s177 :: s178 :: s179 :: s180 :: s181 :: s182 :: s183 :: s184 :: []), []⟩ w') :
    Code.wp Tryz.prog regI5C Q ⟨List.toArray (s0 :: s1 :: s2 :: s3 :: s4 :: s5 :: (v6) :: (v7) :: s8 :: (Value.pointer (some ⟨G, 0, none⟩)) :: s10 :: s11 :: s12 :: s13 :: s14 :: s15 :: s16 :: s17 :: s18 :: s19 :: s20 :: s21 :: s22 :: s23 :: s24 :: s25 :: s26 :: s27 :: s28 :: s29 :: s30 :: s31 :: s32 :: s33 :: s34 :: s35 :: s36 :: s37 :: s38 :: s39 :: s40 :: s41 :: s42 :: s43 :: s44 :: s45 :: s46 :: s47 :: s48 :: s49 :: s50 :: s51 :: s52 :: s53 :: s54 :: s55 :: s56 :: s57 :: s58 :: s59 :: s60 :: s61 :: s62 :: s63 :: s64 :: s65 :: s66 :: s67 :: s68 :: s69 :: s70 :: s71 :: s72 :: s73 :: s74 :: s75 :: s76 :: s77 :: s78 :: s79 :: s80 :: s81 :: s82 :: s83 :: s84 :: s85 :: s86 :: s87 :: s88 :: s89 :: s90 :: s91 :: s92 :: s93 :: s94 :: s95 :: s96 :: s97 :: s98 :: s99 :: s100 :: s101 :: s102 :: s103 :: s104 :: s105 :: s106 :: s107 :: s108 :: s109 :: s110 :: s111 :: s112 :: s113 :: s114 :: s115 :: s116 :: s117 :: s118 :: s119 :: s120 :: s121 :: s122 :: s123 :: s124 :: s125 :: s126 :: s127 :: s128 :: s129 :: s130 :: s131 :: s132 :: s133 :: s134 :: s135 :: s136 :: s137 :: s138 :: s139 :: s140 :: s141 :: s142 :: s143 :: s144 :: s145 :: s146 :: s147 :: s148 :: s149 :: s150 :: s151 :: s152 :: s153 :: s154 :: s155 :: s156 :: s157 :: s158 :: s159 :: s160 :: s161 :: s162 :: s163 :: s164 :: s165 :: s166 :: s167 :: s168 :: s169 :: s170 :: s171 :: s172 :: s173 :: s174 :: s175 :: s176 :: s177 :: s178 :: s179 :: s180 :: s181 :: s182 :: s183 :: s184 :: []), []⟩ w := by
  have HK := Lib.hid hK
  have T := Lib.hid hT
  have T0 := T
  have x0 := hx0
  have x1 := hx1
  have hz := Nat.le_refl w.heap.size
  have L := Lib.hid (LB.of (Below.refl B w))
  have hGG := Lib.hid hG
  have hGl2 := hGl
  clear hK hT hx0 hx1 hG
  conv => arg 2; whnf
  go_region_held3 (fun w' => w'.cell? ⟨G, 0, none⟩ = some (.int .i64 x) ∧ w'.cell? ⟨G, 1, none⟩ = some (.int .i64 y)) (first | exact ⟨x0, x1⟩ | go_keep)
    (first
      | (refine step_append_int1_at _ (by rfl) (.tmp 31) _ 22 (by rfl) B 3 Tryz.underlying22 iinfo _ xs (by rfl) (by first | exact T.out.1 | exact (T.out.alloc _).1 | exact ((T.out.alloc _).alloc _).1) x _ (by rfl) (by first | exact n1 | (simp [go_sem]; done)) hxl (by first | omega | (simp; omega)) ?_; intro g2 cap2 w2 hown2 hg2 hat2; have x0 := hg2.cell (a := ⟨G, 0, none⟩) (by first | exact x0 | exact cell_al _ x0 | exact cell_al _ (cell_al _ x0)) (fun e => hGG.out _ (.inl e.symm) rfl); have x1 := hg2.cell (a := ⟨G, 1, none⟩) (by first | exact x1 | exact cell_al _ x1 | exact cell_al _ (cell_al _ x1)) (fun e => hGG.out _ (.inl e.symm) rfl); have L2 := Lib.hid (LB.gr (by first | exact L.out | exact L.out.al hB _ | exact (L.out.al hB _).al hB _) hB hg2 (fun k hk => (T.out.1.lt k hk).1)); have T := Lib.hid (TwoR.app1 (by first | exact T.out | exact T.out.alloc _ | exact (T.out.alloc _).alloc _) hown2 hg2 hat2); have L := L2; have hsz2 : w.heap.size ≤ w2.heap.size := L.out.2.2.2.1; first | have n2 := hg2.cell (a := ⟨w.heap.size, 0, none⟩) (v := .int .i64 y) (cell_al _ (cells_new w [.int .i64 y] 3 0 _ rfl)) (ne_own T0.out.1 (Nat.le_refl _)) | have n2 := hg2.cell (a := ⟨w.heap.size + 1, 0, none⟩) (v := .int .i64 y) (cells_next w (.cells #[.int .i64 x] 3) (.int .i64 y) 3) (ne_own T0.out.1 (Nat.le_succ _)) | skip)
      | (refine step_append_int1_at _ (by rfl) (.tmp 36) _ 22 (by rfl) B 3 Tryz.underlying22 iinfo _ ys (by rfl) (by first | exact T.out.2.1 | exact (T.out.alloc _).2.1 | exact ((T.out.alloc _).alloc _).2.1) y _ (by rfl) (by first | exact n2 | (simp [go_sem]; done)) hyl (by first | omega | (simp; omega)) ?_; intro g3 cap3 w3 hown3 hg3 hat3; have x0 := hg3.cell (a := ⟨G, 0, none⟩) (by first | exact x0 | exact cell_al _ x0 | exact cell_al _ (cell_al _ x0)) (fun e => hGG.out _ (.inr e.symm) rfl); have x1 := hg3.cell (a := ⟨G, 1, none⟩) (by first | exact x1 | exact cell_al _ x1 | exact cell_al _ (cell_al _ x1)) (fun e => hGG.out _ (.inr e.symm) rfl); have L2 := Lib.hid (LB.gr (by first | exact L.out | exact L.out.al hB _ | exact (L.out.al hB _).al hB _) hB hg3 (fun k hk => (T.out.2.1.lt k hk).1)); have T := Lib.hid (TwoR.swap (TwoR.app1 (by first | exact T.out.swap | exact (T.out.alloc _).swap | exact ((T.out.alloc _).alloc _).swap) hown3 hg3 hat3)); have L := L2; have hsz3 : w.heap.size ≤ w3.heap.size := L.out.2.2.2.1; first | have n1 := hg3.cell (a := ⟨w.heap.size, 0, none⟩) (v := .int .i64 x) (cell_al _ (cells_new w [.int .i64 x] 3 0 _ rfl)) (ne_own T0.out.2.1 (Nat.le_refl _)) | have n1 := hg3.cell (a := ⟨w.heap.size + 1, 0, none⟩) (v := .int .i64 x) (cells_next w (.cells #[.int .i64 y] 3) (.int .i64 x) 3) (ne_own T0.out.2.1 (Nat.le_succ _)) | skip))
  all_goals
    have t := T.out
    simp only [List.length_append, List.length_singleton] at t
    exact HK.out _ _ _ _ _ _ _ _ _ _ _ _ _ t L.out.to

noncomputable def regI25C : Code := ((Tryz.f71.body.bind (regionOf 25)).getD .skip)
set_option maxRecDepth 1000000 in
set_option maxHeartbeats 4000000 in
theorem regI25 (F : Nat) (P x y z : Int) (vp vn : Value) (w : World) (hX : ∀ W, Below w.heap.size w W → W.cell? ⟨F, 0, none⟩ = some (.int .i64 P)) (hV : ∀ W a r, Below w.heap.size w W → (a = vp ∧ r = y ∨ a = vn ∧ r = z) → Calls Tryz.prog 85 #[.agg #[.int .i64 P], a, .int .i64 x] W fun e w' => e = .returned (.int .i64 r) ∧ Below W.heap.size W w')
    (s0 s1 s3 s4 s5 s6 s7 s8 s9 s10 s11 s12 s15 s17 s18 s19 s20 s21 s22 s23 s24 s25 s26 s27 s28 s29 s30 s31 s32 s33 s34 s35 s36 s37 s38 s39 s40 s41 s42 s43 s44 s45 s46 s47 s48 s49 s50 s51 s52 s53 s54 s55 s56 s57 s58 s59 s60 s61 s62 s63 s64 s65 s66 s67 s68 s69 s70 s71 s72 s73 s74 s75 s76 s77 s78 s79 s80 s81 s82 s83 s84 s85 s86 s87 s88 s89 s90 s91 s92 s93 s94 s95 s96 s97 s98 s99 s100 s101 s102 s103 s104 s105 s106 s107 s108 s109 s110 s111 s112 s113 s114 s115 s116 s117 s118 s119 s120 s121 s122 s123 s124 s125 s126 s127 s128 s129 s130 s131 s132 s133 s134 s135 s136 s137 s138 s139 s140 s141 s142 s143 s144 s145 s146 s147 s148 s149 s150 s151 s152 s153 s154 s155 s156 s157 s158 s159 s160 s161 s162 s163 s164 s165 s166 s167 s168 s169 s170 s171 s172 s173 s174 s175 s176 s177 s178 s179 s180 s181 s182 s183 s184 : Value) (Q : Exit → Act → World → Prop)
    (hK : ∀ (u81 u82 u83 u84 u85 u86 u87 u88 : Value) (w' : World), Below w.heap.size w w' → Q .normal ⟨List.toArray (s0 :: s1 :: (Value.pointer (some ⟨F, 0, none⟩)) :: s3 :: s4 :: s5 :: s6 :: s7 :: s8 :: s9 :: s10 :: s11 :: s12 :: (vp) :: (vn) :: s15 :: (Value.int .i64 x) :: (Value.int .i64 y) :: (Value.int .i64 z) :: s19 :: s20 :: s21 :: s22 :: s23 :: s24 :: s25 :: s26 :: s27 :: s28 :: s29 :: s30 :: s31 :: s32 :: s33 :: s34 :: s35 :: s36 :: s37 :: s38 :: s39 :: s40 :: s41 :: s42 :: s43 :: s44 :: s45 :: s46 :: s47 :: s48 :: s49 :: s50 :: s51 :: s52 :: s53 :: s54 :: s55 :: s56 :: s57 :: s58 :: s59 :: s60 :: s61 :: s62 :: s63 :: s64 :: s65 :: s66 :: s67 :: s68 :: s69 :: s70 :: s71 :: s72 :: s73 :: s74 :: s75 :: s76 :: s77 :: s78 :: s79 :: s80 :: u81 :: u82 :: u83 :: u84 :: u85 :: u86 :: u87 :: u88 :: s89 :: s90 :: s91 :: s92 :: s93 :: s94 :: s95 :: s96 :: s97 :: s98 :: s99 :: s100 :: s101 :: s102 :: s103 :: s104 :: s105 :: s106 :: s107 :: s108 :: s109 :: s110 :: s111 :: s112 :: s113 :: s114 :: s115 :: s116 :: s117 :: s118 :: s119 :: s120 :: s121 :: s122 :: s123 :: s124 :: s125 :: s126 :: s127 :: s128 :: s129 :: s130 :: s131 :: s132 :: s133 :: s134 :: s135 :: s136 :: s137 :: s138 :: s139 :: s140 :: s141 :: s142 :: s143 :: s144 :: s145 :: s146 :: s147 :: s148 :: s149 :: s150 :: s151 :: s152 :: s153 :: s154 :: s155 :: s156 :: s157 :: s158 :: s159 :: s160 :: s161 :: s162 :: s163 :: s164 :: s165 :: s166 :: s167 :: s168 :: s169 :: s170 :: s171 :: s172 :: s173 :: s174 :: s175 :: s176 :: s177 :: s178 :: s179 :: s180 :: s181 :: s182 :: s183 :: s184 :: []), []⟩ w') :
    Code.wp Tryz.prog regI25C Q ⟨List.toArray (s0 :: s1 :: (Value.pointer (some ⟨F, 0, none⟩)) :: s3 :: s4 :: s5 :: s6 :: s7 :: s8 :: s9 :: s10 :: s11 :: s12 :: (vp) :: (vn) :: s15 :: (Value.int .i64 x) :: s17 :: s18 :: s19 :: s20 :: s21 :: s22 :: s23 :: s24 :: s25 :: s26 :: s27 :: s28 :: s29 :: s30 :: s31 :: s32 :: s33 :: s34 :: s35 :: s36 :: s37 :: s38 :: s39 :: s40 :: s41 :: s42 :: s43 :: s44 :: s45 :: s46 :: s47 :: s48 :: s49 :: s50 :: s51 :: s52 :: s53 :: s54 :: s55 :: s56 :: s57 :: s58 :: s59 :: s60 :: s61 :: s62 :: s63 :: s64 :: s65 :: s66 :: s67 :: s68 :: s69 :: s70 :: s71 :: s72 :: s73 :: s74 :: s75 :: s76 :: s77 :: s78 :: s79 :: s80 :: s81 :: s82 :: s83 :: s84 :: s85 :: s86 :: s87 :: s88 :: s89 :: s90 :: s91 :: s92 :: s93 :: s94 :: s95 :: s96 :: s97 :: s98 :: s99 :: s100 :: s101 :: s102 :: s103 :: s104 :: s105 :: s106 :: s107 :: s108 :: s109 :: s110 :: s111 :: s112 :: s113 :: s114 :: s115 :: s116 :: s117 :: s118 :: s119 :: s120 :: s121 :: s122 :: s123 :: s124 :: s125 :: s126 :: s127 :: s128 :: s129 :: s130 :: s131 :: s132 :: s133 :: s134 :: s135 :: s136 :: s137 :: s138 :: s139 :: s140 :: s141 :: s142 :: s143 :: s144 :: s145 :: s146 :: s147 :: s148 :: s149 :: s150 :: s151 :: s152 :: s153 :: s154 :: s155 :: s156 :: s157 :: s158 :: s159 :: s160 :: s161 :: s162 :: s163 :: s164 :: s165 :: s166 :: s167 :: s168 :: s169 :: s170 :: s171 :: s172 :: s173 :: s174 :: s175 :: s176 :: s177 :: s178 :: s179 :: s180 :: s181 :: s182 :: s183 :: s184 :: []), []⟩ w := by
  have HK := Lib.hid hK
  have HX := Lib.hid hX
  have HV := Lib.hid hV
  have f0 := hX w (Below.refl _ w)
  have HB0 : Hid (Below w.heap.size w w) := (show Hid _ from Below.refl _ _)
  have HB0d : Hid (Below w.heap.size w w.drew) := (show Hid _ from (Below.refl _ w).drew)
  clear hK hX hV
  conv => arg 2; whnf
  go_region_held3 (fun w' => w'.cell? ⟨F, 0, none⟩ = some (.int .i64 P)) (first | exact f0 | go_keep)
    (first
      | (go_simp; go_at_call 85; refine (HV.out _ _ _ (by first | exact HBc.out | exact HBc.out.drew | exact HB0.out | exact HB0d.out) (by first | exact .inl ⟨rfl, rfl⟩ | exact .inr ⟨rfl, rfl⟩)).mono ?_; rintro e9 w9 ⟨rfl, hb9⟩; have HBc : Hid (Below w.heap.size w w9) := (show Hid _ from by first | exact HBc.out.trans ((show Below _ _ w9 from ⟨hb9.os, hb9.tape, hb9.output, hb9.size, hb9.block⟩).mono HBc.out.size) | exact ⟨hb9.os, hb9.tape, hb9.output, hb9.size, hb9.block⟩); have f0 := HX.out w9 HBc.out; clear hb9))
  all_goals
    have hk := HK.out
    first
      | exact hk _ _ _ _ _ _ _ _ _ HBc.out
      | exact hk _ _ _ _ _ _ _ _ _ HBc.out.drew

noncomputable def regI26C : Code := ((Tryz.f71.body.bind (regionOf 26)).getD .skip)
set_option maxRecDepth 1000000 in
set_option maxHeartbeats 4000000 in
theorem regI26 (F bv ov n cv i : Nat) (P vi y z iv m c : Int) (w : World) (hin : i < n) (hP0 : ¬ P = 0) (a1 : IntKind.i64.wrap (vi + P) = vi + P) (a2 : IntKind.i64.wrap (vi + P - y) = vi + P - y) (a3 : (vi + P - y).tmod P = m) (a5 : IntKind.i64.wrap (m * iv) = m * iv) (a6 : (m * iv).tmod P = c) (hX : ∀ W, Below w.heap.size w W → W.cell? ⟨F, 0, none⟩ = some (.int .i64 P) ∧ W.cell? ⟨bv, ov + i, none⟩ = some (.int .i64 vi)) (hI : ∀ W, Below w.heap.size w W → Calls Tryz.prog 96 #[.agg #[.int .i64 P], .int .i64 z] W fun e w' => e = .returned (.int .i64 iv) ∧ Below W.heap.size W w')
    (s0 s1 s3 s4 s5 s6 s8 s9 s10 s11 s12 s13 s14 s16 s19 s20 s21 s22 s23 s24 s25 s26 s27 s28 s29 s30 s31 s32 s33 s34 s35 s36 s37 s38 s39 s40 s41 s42 s43 s44 s45 s46 s47 s48 s49 s50 s51 s52 s53 s54 s55 s56 s57 s58 s59 s60 s61 s62 s63 s64 s65 s66 s67 s68 s69 s70 s71 s72 s73 s74 s75 s76 s77 s78 s79 s80 s81 s82 s83 s84 s85 s86 s87 s88 s89 s90 s91 s92 s93 s94 s95 s96 s97 s98 s99 s100 s101 s102 s103 s104 s105 s106 s107 s108 s109 s110 s111 s112 s113 s114 s115 s116 s117 s118 s119 s120 s121 s122 s123 s124 s125 s126 s127 s128 s129 s130 s131 s132 s133 s134 s135 s136 s137 s138 s139 s140 s141 s142 s143 s144 s145 s146 s147 s148 s149 s150 s151 s152 s153 s154 s155 s156 s157 s158 s159 s160 s161 s162 s163 s164 s165 s166 s167 s168 s169 s170 s171 s172 s173 s174 s175 s176 s177 s178 s179 s180 s181 s182 s183 s184 : Value) (Q : Exit → Act → World → Prop)
    (hK : ∀ (u89 u90 u91 u92 u93 u94 u95 u96 u97 u98 u99 u100 u101 u102 u103 u104 u105 u106 u107 : Value) (w' : World), Below w.heap.size w w' → Q .normal ⟨List.toArray (s0 :: s1 :: (Value.pointer (some ⟨F, 0, none⟩)) :: s3 :: s4 :: s5 :: s6 :: (Value.slice (some ⟨bv, ov, none⟩) n cv) :: s8 :: s9 :: s10 :: s11 :: s12 :: s13 :: s14 :: (Value.int .i64 (i : Int)) :: s16 :: (Value.int .i64 y) :: (Value.int .i64 z) :: (Value.int .i64 c) :: s20 :: s21 :: s22 :: s23 :: s24 :: s25 :: s26 :: s27 :: s28 :: s29 :: s30 :: s31 :: s32 :: s33 :: s34 :: s35 :: s36 :: s37 :: s38 :: s39 :: s40 :: s41 :: s42 :: s43 :: s44 :: s45 :: s46 :: s47 :: s48 :: s49 :: s50 :: s51 :: s52 :: s53 :: s54 :: s55 :: s56 :: s57 :: s58 :: s59 :: s60 :: s61 :: s62 :: s63 :: s64 :: s65 :: s66 :: s67 :: s68 :: s69 :: s70 :: s71 :: s72 :: s73 :: s74 :: s75 :: s76 :: s77 :: s78 :: s79 :: s80 :: s81 :: s82 :: s83 :: s84 :: s85 :: s86 :: s87 :: s88 :: u89 :: u90 :: u91 :: u92 :: u93 :: u94 :: u95 :: u96 :: u97 :: u98 :: u99 :: u100 :: u101 :: u102 :: u103 :: u104 :: u105 :: u106 :: u107 :: s108 :: s109 :: s110 :: s111 :: s112 :: s113 :: s114 :: s115 :: s116 :: s117 :: s118 :: s119 :: s120 :: s121 :: s122 :: s123 :: s124 :: s125 :: s126 :: s127 :: s128 :: s129 :: s130 :: s131 :: s132 :: s133 :: s134 :: s135 :: s136 :: s137 :: s138 :: s139 :: s140 :: s141 :: s142 :: s143 :: s144 :: s145 :: s146 :: s147 :: s148 :: s149 :: s150 :: s151 :: s152 :: s153 :: s154 :: s155 :: s156 :: s157 :: s158 :: s159 :: s160 :: s161 :: s162 :: s163 :: s164 :: s165 :: s166 :: s167 :: s168 :: s169 :: s170 :: s171 :: s172 :: s173 :: s174 :: s175 :: s176 :: s177 :: s178 :: s179 :: s180 :: s181 :: s182 :: s183 :: s184 :: []), []⟩ w') :
    Code.wp Tryz.prog regI26C Q ⟨List.toArray (s0 :: s1 :: (Value.pointer (some ⟨F, 0, none⟩)) :: s3 :: s4 :: s5 :: s6 :: (Value.slice (some ⟨bv, ov, none⟩) n cv) :: s8 :: s9 :: s10 :: s11 :: s12 :: s13 :: s14 :: (Value.int .i64 (i : Int)) :: s16 :: (Value.int .i64 y) :: (Value.int .i64 z) :: s19 :: s20 :: s21 :: s22 :: s23 :: s24 :: s25 :: s26 :: s27 :: s28 :: s29 :: s30 :: s31 :: s32 :: s33 :: s34 :: s35 :: s36 :: s37 :: s38 :: s39 :: s40 :: s41 :: s42 :: s43 :: s44 :: s45 :: s46 :: s47 :: s48 :: s49 :: s50 :: s51 :: s52 :: s53 :: s54 :: s55 :: s56 :: s57 :: s58 :: s59 :: s60 :: s61 :: s62 :: s63 :: s64 :: s65 :: s66 :: s67 :: s68 :: s69 :: s70 :: s71 :: s72 :: s73 :: s74 :: s75 :: s76 :: s77 :: s78 :: s79 :: s80 :: s81 :: s82 :: s83 :: s84 :: s85 :: s86 :: s87 :: s88 :: s89 :: s90 :: s91 :: s92 :: s93 :: s94 :: s95 :: s96 :: s97 :: s98 :: s99 :: s100 :: s101 :: s102 :: s103 :: s104 :: s105 :: s106 :: s107 :: s108 :: s109 :: s110 :: s111 :: s112 :: s113 :: s114 :: s115 :: s116 :: s117 :: s118 :: s119 :: s120 :: s121 :: s122 :: s123 :: s124 :: s125 :: s126 :: s127 :: s128 :: s129 :: s130 :: s131 :: s132 :: s133 :: s134 :: s135 :: s136 :: s137 :: s138 :: s139 :: s140 :: s141 :: s142 :: s143 :: s144 :: s145 :: s146 :: s147 :: s148 :: s149 :: s150 :: s151 :: s152 :: s153 :: s154 :: s155 :: s156 :: s157 :: s158 :: s159 :: s160 :: s161 :: s162 :: s163 :: s164 :: s165 :: s166 :: s167 :: s168 :: s169 :: s170 :: s171 :: s172 :: s173 :: s174 :: s175 :: s176 :: s177 :: s178 :: s179 :: s180 :: s181 :: s182 :: s183 :: s184 :: []), []⟩ w := by
  have HK := Lib.hid hK
  have HX := Lib.hid hX
  have HI := Lib.hid hI
  obtain ⟨f0, v0⟩ := hX w (Below.refl _ w)
  have HB0d : Hid (Below w.heap.size w w.drew) := (show Hid _ from (Below.refl _ w).drew)
  have z1 : (0 : Int) ≤ (i : Int) := by omega
  have z2 : (i : Int) < (n : Int) := by omega
  clear hK hX hI
  conv => arg 2; whnf
  go_region_held3 (fun w' => w'.cell? ⟨F, 0, none⟩ = some (.int .i64 P) ∧ w'.cell? ⟨bv, ov + i, none⟩ = some (.int .i64 vi)) (first | exact ⟨f0, v0⟩ | go_keep)
    (first
      | (go_simp; go_at_call 96; refine (HI.out _ (by first | exact HB0d.out | exact Below.refl _ _)).mono ?_; rintro e9 w9 ⟨rfl, hb9⟩; have HB9 : Hid (Below w.heap.size w w9) := (show Hid _ from by first | exact (HB0d.out).trans ((show Below _ _ w9 from ⟨hb9.os, hb9.tape, hb9.output, hb9.size, hb9.block⟩).mono HB0d.out.size) | exact ⟨hb9.os, hb9.tape, hb9.output, hb9.size, hb9.block⟩); obtain ⟨f0, v0⟩ := HX.out w9 HB9.out; clear hb9))
  all_goals
    have hk := HK.out
    first
      | exact hk _ _ _ _ _ _ _ _ _ _ _ _ _ _ _ _ _ _ _ _ HB9.out
      | exact hk _ _ _ _ _ _ _ _ _ _ _ _ _ _ _ _ _ _ _ _ HB9.out.drew

end Go.Proofs.YtoiabanpnkpbhaaGreatDoor
