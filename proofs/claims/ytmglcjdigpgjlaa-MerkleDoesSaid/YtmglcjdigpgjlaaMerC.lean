/- What Check of merkle and of privatefetchref12, and the statements' own leaves, return. -/
import Derived.Test.YtmglcjdigpgjlaaMerD
import Derived.Test.YtmglcjdigpgjlaaMake
namespace Go.Proofs.Ytmglcjdigpgjlaa
open Go.RowKit

/-- the error of Check -/
def ckE (C I : Int) (ds : List Int) (d rt : Int) : Int := if ldE C I ds d ≠ 0 then ldE C I ds d else if ldV C I ds d ≠ rt then 13 else 0

theorem pckp_any (C I d rt : Int) (ds : List Int) (vd : Value) (w : World) (hC : i64r C) (hI : i64r I) (hd : i64r d) (h : SI w vd ds) (hlen : ds.length ≤ 100000) :
    Calls Try.prog 35 #[.agg #[.int .i64 I, .int .i64 C, vd], .int .i64 d, .int .i64 rt] w fun e w' => e = .returned (.int .i64 (ckE C I ds d rt)) ∧ Below w.heap.size w w' := by
  have hS := h
  obtain ⟨A, c, rfl, hcc, hmm, hr, ha⟩ := h
  clear ha hr
  have hb0 : Below w.heap.size w (w.alloc (.cells #[.int .i64 I, .int .i64 C, .slice A ds.length c] 46)) := (Below.refl _ _).alloc (Nat.le_refl _) _
  by_cases h0 : ldE C I ds d = 0
  · by_cases h1 : ldV C I ds d = rt
    · have HE := Lib.hid (show ckE C I ds d rt = 0 by unfold ckE; rw [if_neg (by simp [h0]), if_neg (by simp [h1])])
      have hd1 : (ldE C I ds d == 0) = true := by simp [h0]
      have hd2 : (ldE C I ds d != 0) = false := by simp [h0]
      have hd3 : (ldV C I ds d != rt) = false := by simp [h1]
      have H0 := Lib.hid h0
      clear h0 h1
      go_enter Try.func35, Try.ntmps35
      go_wp2_with ((with_reducible refine (plead_any _ _ _ ds _ _ hC hI hd (SI.below hS hb0) hlen).mono ?_); rintro e w1 ⟨rfl, hb1⟩)
      go_ret
      exact ⟨ret_int (by first | exact HE.out.symm | exact H0.out.trans HE.out.symm), hb0.trans (hb1.mono hb0.size)⟩
    · have HE := Lib.hid (show ckE C I ds d rt = 13 by unfold ckE; rw [if_neg (by simp [h0]), if_pos h1])
      have hd1 : (ldE C I ds d == 0) = true := by simp [h0]
      have hd2 : (ldE C I ds d != 0) = false := by simp [h0]
      have hd3 : (ldV C I ds d != rt) = true := by simpa using h1
      clear h0 h1
      go_enter Try.func35, Try.ntmps35
      go_wp2_with ((with_reducible refine (plead_any _ _ _ ds _ _ hC hI hd (SI.below hS hb0) hlen).mono ?_); rintro e w1 ⟨rfl, hb1⟩)
      go_ret
      exact ⟨ret_int HE.out.symm, hb0.trans (hb1.mono hb0.size)⟩
  · have HE := Lib.hid (show ckE C I ds d rt = ldE C I ds d by unfold ckE; rw [if_pos h0])
    have hd1 : (ldE C I ds d == 0) = false := by simpa using h0
    have hd2 : (ldE C I ds d != 0) = true := by simpa using h0
    clear h0
    go_enter Try.func35, Try.ntmps35
    go_wp2_with ((with_reducible refine (plead_any _ _ _ ds _ _ hC hI hd (SI.below hS hb0) hlen).mono ?_); rintro e w1 ⟨rfl, hb1⟩)
    go_ret
    exact ⟨ret_int HE.out.symm, hb0.trans (hb1.mono hb0.size)⟩

theorem rckp_any (C I d rt : Int) (ds : List Int) (vd : Value) (w : World) (hC : i64r C) (hI : i64r I) (hd : i64r d) (h : SI w vd ds) (hlen : ds.length ≤ 100000) :
    Calls Try.prog 36 #[.agg #[.int .i64 I, .int .i64 C, vd], .int .i64 d, .int .i64 rt] w fun e w' => e = .returned (.int .i64 (ckE C I ds d rt)) ∧ Below w.heap.size w w' := by
  have hS := h
  obtain ⟨A, c, rfl, hcc, hmm, hr, ha⟩ := h
  clear ha hr
  have hb0 : Below w.heap.size w (w.alloc (.cells #[.int .i64 I, .int .i64 C, .slice A ds.length c] 46)) := (Below.refl _ _).alloc (Nat.le_refl _) _
  by_cases h0 : ldE C I ds d = 0
  · by_cases h1 : ldV C I ds d = rt
    · have HE := Lib.hid (show ckE C I ds d rt = 0 by unfold ckE; rw [if_neg (by simp [h0]), if_neg (by simp [h1])])
      have hd1 : (ldE C I ds d == 0) = true := by simp [h0]
      have hd2 : (ldE C I ds d != 0) = false := by simp [h0]
      have hd3 : (ldV C I ds d != rt) = false := by simp [h1]
      have H0 := Lib.hid h0
      clear h0 h1
      go_enter Try.func36, Try.ntmps36
      go_wp2_with ((with_reducible refine (rlead_any _ _ _ ds _ _ hC hI hd (SI.below hS hb0) hlen).mono ?_); rintro e w1 ⟨rfl, hb1⟩)
      go_ret
      exact ⟨ret_int (by first | exact HE.out.symm | exact H0.out.trans HE.out.symm), hb0.trans (hb1.mono hb0.size)⟩
    · have HE := Lib.hid (show ckE C I ds d rt = 13 by unfold ckE; rw [if_neg (by simp [h0]), if_pos h1])
      have hd1 : (ldE C I ds d == 0) = true := by simp [h0]
      have hd2 : (ldE C I ds d != 0) = false := by simp [h0]
      have hd3 : (ldV C I ds d != rt) = true := by simpa using h1
      clear h0 h1
      go_enter Try.func36, Try.ntmps36
      go_wp2_with ((with_reducible refine (rlead_any _ _ _ ds _ _ hC hI hd (SI.below hS hb0) hlen).mono ?_); rintro e w1 ⟨rfl, hb1⟩)
      go_ret
      exact ⟨ret_int HE.out.symm, hb0.trans (hb1.mono hb0.size)⟩
  · have HE := Lib.hid (show ckE C I ds d rt = ldE C I ds d by unfold ckE; rw [if_pos h0])
    have hd1 : (ldE C I ds d == 0) = false := by simpa using h0
    have hd2 : (ldE C I ds d != 0) = true := by simpa using h0
    clear h0
    go_enter Try.func36, Try.ntmps36
    go_wp2_with ((with_reducible refine (rlead_any _ _ _ ds _ _ hC hI hd (SI.below hS hb0) hlen).mono ?_); rintro e w1 ⟨rfl, hb1⟩)
    go_ret
    exact ⟨ret_int HE.out.symm, hb0.trans (hb1.mono hb0.size)⟩

/-- leaves: any digests -/
def LvRel (w : World) (g : Nat) (v kv : Value) (wr : World) : Prop :=
  ∃ (l : List Int) (k : Nat), kv = .int .i64 k ∧ l.length + k ≤ 19 ∧ (∀ x ∈ l, dg x = true) ∧ wr.ownsRow w.heap.size 3 1 v l.length (l.map (Value.int .i64)) ∧ Dk wr g ∧ w.grownBy wr (some g)
theorem dg_r {x : Int} (h : dg x = true) : i64r x := by have := dg_t h; unfold i64r; omega
theorem leaves_any (g : Nat) (w : World) (h : Dk w g) :
    Calls Try.prog 27 #[.pointer (some ⟨g, 0, none⟩)] w fun e w' => ∃ v, ∃ l : List Int, e = .returned v ∧ l.length ≤ 19 ∧ (∀ x ∈ l, dg x = true) ∧ w'.ownsRow w.heap.size 3 1 v l.length (l.map (Value.int .i64)) ∧ Dk w' g ∧ w.grownBy w' (some g) := by
  have hgl := h.lt
  go_enter Try.func27, Try.ntmps27
  go_wp2_with fail
  (with_reducible refine (next_any 20 g _ h (by unfold i64r; omega) (by omega)).mono ?_); rintro e w1 ⟨x, rfl, _, hx, hdk1, hg1⟩
  have hx' := hx (by omega)
  clear hx
  obtain ⟨n, rfl⟩ : ∃ n : Nat, x = n := ⟨x.toNat, by omega⟩
  have hz1 := hg1.size
  go_wp2_with fail
  go_loopw [3, 4] (fun v k wr => LvRel w g v k wr) (fun _ k _ => (intOf k).toNat)
  case atStart => exact ⟨[], n, rfl, by simp; omega, by simp, World.ownsRow_nil _ _ _ _, hdk1, hg1⟩
  case round =>
    obtain ⟨l, k, rfl, hlk, hall, hown, hdk, hgr⟩ := hrel
    have hz := hgr.size
    have HA := Lib.hid hall
    have hnb : ∀ k, u3.ownBlock = some k → w.heap.size ≤ k := fun k hk => (hown.lt k hk).1
    have HNB := Lib.hid hnb
    clear hall hnb
    by_cases hlt : 0 < k
    · go_wp2_with fail
      (with_reducible refine (next_any 2147483647 g _ hdk (by unfold i64r; omega) (by omega)).mono ?_); rintro e w2 ⟨y, rfl, _, hy, hdk2, hg2⟩
      have hy' := hy (by omega)
      have hdy := Lib.hid (show dg y = true from decide_eq_true hy')
      have hown2 := hown.kept hg2 (.inr fun e => by have := HNB.out _ e; omega)
      have hz2 := hg2.size
      clear hy
      go_wp2_with (at_builtin; refine wpList_append_int1 _ rfl (.tmp 11) (.tmp 14) 22 rfl w.heap.size 3 Try.underlying22 iinfo _ l rfl hown2 y rfl (by omega) (by omega) ?_; intro v3 w3 hown3 hg3)
      have hdk3 := (hdk2.alloc (.cells #[.int .i64 y] 3)).grown hg3 (fun k hk => by have := HNB.out k hk; omega)
      have hgr3 := grownBy_own (grownBy_alloc' (grownBy_trans hgr hg2) (.cells #[.int .i64 y] 3)) hg3 HNB.out
      go_roundw
      case rel =>
        refine ⟨l ++ [y], k - 1, int_eq (by omega), by rw [List.length_append]; simp; omega, fun x hx => ?_, hown3, hdk3, hgr3⟩
        rcases List.mem_append.1 hx with hx | hx
        · exact HA.out x hx
        · simp at hx; subst hx; exact hdy.out
      case measure => simp [intOf]; omega
    · go_wp2_with fail
      go_ret
      exact ⟨_, l, rfl, by omega, HA.out, hown, hdk, hgr⟩
end Go.Proofs.Ytmglcjdigpgjlaa
