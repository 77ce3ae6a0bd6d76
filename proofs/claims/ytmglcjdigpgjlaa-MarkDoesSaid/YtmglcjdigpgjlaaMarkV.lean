/- What Sign and Verify of the packages mark and privatefetchref22 return. -/
import Derived.Test.YtmglcjdigpgjlaaMarkF
import Derived.Test.YtmglcjdigpgjlaaApp
namespace Go.Proofs.Ytmglcjdigpgjlaa
open Go.RowKit Go.Maps

theorem ret_two {a b c d : Int} {k k' : IntKind} (h : a = b) (h' : c = d) : Ending.returned (.tuple #[.int k a, .int k' c]) = .returned (.tuple #[.int k b, .int k' d]) := by rw [h, h']
theorem iinfo : (Try.prog.info? 3).map (fun i => (i.zero, i.size, i.bytes)) = some (some (.int .i64 0), 1, 8) := by kernel_rfl

/-- the mark of numbers under a secret, and the error -/
def sgnE (s : Int) (l : List Int) : Int := if wi s = false then 1 else if 16384 < l.length then 4 else 0
def sgn (s : Int) (l : List Int) : Int := if sgnE s l = 0 then rowd (s :: l) else 0

set_option maxHeartbeats 1000000 in
theorem msign_any (s : Int) (l : List Int) (v : Value) (w : World) (h : SI w v l) (hs : i64r s) :
    Calls Try.prog 25 #[.int .i64 s, v] w fun e w' => e = .returned (.tuple #[.int .i64 (sgn s l), .int .i64 (sgnE s l)]) ∧ Below w.heap.size w w' := by
  by_cases hw : wi s = true
  · by_cases hl : 16384 < l.length
    · have HE := Lib.hid (show sgnE s l = 4 by unfold sgnE; rw [if_neg (by simp [hw]), if_pos hl])
      have HS := Lib.hid (show sgn s l = 0 by unfold sgn; rw [if_neg (by rw [HE.out]; omega)])
      obtain ⟨A, c, rfl, hc, hm, hr, ha⟩ := id h
      go_enter Try.func25, Try.ntmps25
      go_wp2_with ((with_reducible refine (within_t _ _ hw).mono ?_); rintro e w' ⟨rfl, rfl⟩)
      go_ret2
      exact ⟨ret_two HS.out.symm HE.out.symm, Below.refl _ _⟩
    · have HE := Lib.hid (show sgnE s l = 0 by unfold sgnE; rw [if_neg (by simp [hw]), if_neg hl])
      have HS := Lib.hid (show sgn s l = rowd (s :: l) by unfold sgn; rw [if_pos HE.out])
      obtain ⟨A, c, rfl, hc, hm, hr, ha⟩ := id h
      go_enter Try.func25, Try.ntmps25
      have hh := Lib.hid h
      have hlt : l.length ≤ 16384 := by omega
      clear ha hr h
      go_wp2_with (first | (at_builtin; refine wpList_append_ints _ rfl _ _ 22 rfl w.heap.size 3 Try.underlying22 iinfo _ [s] rfl (own_lit (base := w.heap.size) w 3 [.int .i64 s] (Nat.le_refl _) (by simp [maxLen])) w.heap.size _ l rfl (SB.below hh.out ((Below.refl _ _).alloc (Nat.le_refl _) _)) (by simp; omega) (by simp) ?_; intro v2 w2 hown2 hg2) | ((with_reducible refine (within_t _ _ hw).mono ?_); rintro e w' ⟨rfl, rfl⟩))
      have hS : SI w2 v2 (s :: l) := SI.of_own hown2 (by intro x hx; simp at hx; rcases hx with rfl | hx; exact hs; exact (by obtain ⟨_, _, _, _, _, hr, _⟩ := hh.out; exact hr x hx))
      refine (prow_any _ _ _ hS).mono ?_; rintro e w' ⟨rfl, rfl⟩
      go_wp2_with fail
      go_ret2
      exact ⟨ret_two HS.out.symm HE.out.symm, ((Below.refl _ _).alloc (Nat.le_refl _) _).grown hg2 (by simp) (fun k hk => by injection hk with hk; exact Nat.le_of_eq hk)⟩
  · have hwf : wi s = false := by simpa using hw
    have HE := Lib.hid (show sgnE s l = 1 by unfold sgnE; rw [if_pos hwf])
    have HS := Lib.hid (show sgn s l = 0 by unfold sgn; rw [if_neg (by rw [HE.out]; omega)])
    go_enter Try.func25, Try.ntmps25
    go_wp2_with ((with_reducible refine (within_f _ _ hwf).mono ?_); rintro e w' ⟨rfl, rfl⟩)
    go_ret2
    exact ⟨ret_two HS.out.symm HE.out.symm, Below.refl _ _⟩
set_option maxHeartbeats 1000000 in
theorem rsign_any (s : Int) (l : List Int) (v : Value) (w : World) (h : SI w v l) (hs : i64r s) :
    Calls Try.prog 22 #[.int .i64 s, v] w fun e w' => e = .returned (.tuple #[.int .i64 (sgn s l), .int .i64 (sgnE s l)]) ∧ Below w.heap.size w w' := by
  by_cases hw : wi s = true
  · by_cases hl : 16384 < l.length
    · have HE := Lib.hid (show sgnE s l = 4 by unfold sgnE; rw [if_neg (by simp [hw]), if_pos hl])
      have HS := Lib.hid (show sgn s l = 0 by unfold sgn; rw [if_neg (by rw [HE.out]; omega)])
      obtain ⟨A, c, rfl, hc, hm, hr, ha⟩ := id h
      go_enter Try.func22, Try.ntmps22
      go_wp2_with ((with_reducible refine (number_t _ _ hw).mono ?_); rintro e w' ⟨rfl, rfl⟩)
      go_ret2
      exact ⟨ret_two HS.out.symm HE.out.symm, Below.refl _ _⟩
    · have HE := Lib.hid (show sgnE s l = 0 by unfold sgnE; rw [if_neg (by simp [hw]), if_neg hl])
      have HS := Lib.hid (show sgn s l = rowd (s :: l) by unfold sgn; rw [if_pos HE.out])
      obtain ⟨A, c, rfl, hc, hm, hr, ha⟩ := id h
      go_enter Try.func22, Try.ntmps22
      have hh := Lib.hid h
      have hlt : l.length ≤ 16384 := by omega
      clear ha hr h
      go_wp2_with (first | (at_builtin; refine wpList_append_ints _ rfl _ _ 22 rfl w.heap.size 3 Try.underlying22 iinfo _ [s] rfl (own_lit (base := w.heap.size) w 3 [.int .i64 s] (Nat.le_refl _) (by simp [maxLen])) w.heap.size _ l rfl (SB.below hh.out ((Below.refl _ _).alloc (Nat.le_refl _) _)) (by simp; omega) (by simp) ?_; intro v2 w2 hown2 hg2) | ((with_reducible refine (number_t _ _ hw).mono ?_); rintro e w' ⟨rfl, rfl⟩))
      have hS : SI w2 v2 (s :: l) := SI.of_own hown2 (by intro x hx; simp at hx; rcases hx with rfl | hx; exact hs; exact (by obtain ⟨_, _, _, _, _, hr, _⟩ := hh.out; exact hr x hx))
      refine (rrow_any _ _ _ hS).mono ?_; rintro e w' ⟨rfl, rfl⟩
      go_wp2_with fail
      go_ret2
      exact ⟨ret_two HS.out.symm HE.out.symm, ((Below.refl _ _).alloc (Nat.le_refl _) _).grown hg2 (by simp) (fun k hk => by injection hk with hk; exact Nat.le_of_eq hk)⟩
  · have hwf : wi s = false := by simpa using hw
    have HE := Lib.hid (show sgnE s l = 1 by unfold sgnE; rw [if_pos hwf])
    have HS := Lib.hid (show sgn s l = 0 by unfold sgn; rw [if_neg (by rw [HE.out]; omega)])
    go_enter Try.func22, Try.ntmps22
    go_wp2_with ((with_reducible refine (number_f _ _ hwf).mono ?_); rintro e w' ⟨rfl, rfl⟩)
    go_ret2
    exact ⟨ret_two HS.out.symm HE.out.symm, Below.refl _ _⟩

/-- does a mark verify -/
def vfy (l : List (Int × Int)) (pid : Int) (n : List Int) (m : Int) : Bool := match fnd l pid with
  | some p => decide (sgnE p.2 n = 0 ∧ m = sgn p.2 n)
  | none => false
theorem fnd_r {l : List (Int × Int)} {pid : Int} {p : Int × Int} (h : fnd l pid = some p) : chk l = 0 ∧ p ∈ l ∧ p.1 = pid ∧ wi p.2 = true := by
  unfold fnd at h
  split at h
  · rename_i h0
    have h1 := List.mem_of_find?_eq_some h
    have h2 := List.find?_some h
    obtain ⟨k, hk, rfl⟩ := List.mem_iff_getElem.1 h1
    exact ⟨h0, h1, by simpa using h2, (bad_z hk ((chk_all h0).2 k hk)).2.1⟩
  · cases h

set_option maxHeartbeats 1000000 in
theorem mverify_any (l : List (Int × Int)) (v : Value) (pid : Int) (n : List Int) (vn : Value) (m : Int) (w : World) (h : SP w.heap.size w v l) (hn : SI w vn n) :
    Calls Try.prog 23 #[v, .int .i64 pid, vn, .int .i64 m] w fun e w' => e = .returned (.bool (vfy l pid n m)) ∧ Below w.heap.size w w' := by
  cases hp : fnd l pid with
  | none =>
    have HV := Lib.hid (show vfy l pid n m = false by unfold vfy; rw [hp])
    have HF := Lib.hid (show frs l pid = .tuple #[.agg #[.int .i64 0, .int .i64 0], .bool false] by unfold frs; rw [hp])
    clear hp
    go_enter Try.func23, Try.ntmps23
    go_wp2_with fail
    refine (mfind_any l v pid w h).mono ?_; rintro e w1 ⟨rfl, hb1⟩
    rw [HF.out]
    go_wp2_with fail
    go_ret
    exact ⟨ret_bool HV.out.symm, hb1.alloc hb1.size _⟩
  | some p =>
    have HV := Lib.hid (show vfy l pid n m = decide (sgnE p.2 n = 0 ∧ m = sgn p.2 n) by unfold vfy; rw [hp])
    have HF := Lib.hid (show frs l pid = .tuple #[.agg #[.int .i64 p.1, .int .i64 p.2], .bool true] by unfold frs; rw [hp])
    have hwi := wi_t (fnd_r hp).2.2.2
    clear hp
    have hb0 : ∀ w1 o, Below w.heap.size w w1 → Below w.heap.size w (w1.alloc o) := fun w1 o hb => hb.alloc hb.size o
    by_cases h0 : sgnE p.2 n = 0
    · have hd : (sgnE p.2 n == 0) = true := by simpa using h0
      by_cases h1 : m = sgn p.2 n
      · have hd2 : (m == sgn p.2 n) = true := by simp [h1]
        have HV2 := Lib.hid (HV.out.trans (by simp [h0, h1] : _ = true))
        clear h1 h0
        go_enter Try.func23, Try.ntmps23
        go_wp2_with fail
        refine (mfind_any l v pid w h).mono ?_; rintro e w1 ⟨rfl, hb1⟩
        rw [HF.out]
        go_wp2_with fail
        refine (msign_any p.2 n vn _ (SI.below hn (hb0 _ _ hb1)) (by unfold i64r; omega)).mono ?_; rintro e w2 ⟨rfl, hb2⟩
        go_wp2_with fail
        go_ret
        exact ⟨ret_bool HV2.out.symm, (hb0 _ _ hb1).trans (hb2.mono (hb0 _ _ hb1).size)⟩
      · have hd2 : (m == sgn p.2 n) = false := by simp; omega
        have HV2 := Lib.hid (HV.out.trans (by simp [h1] : _ = false))
        clear h1 h0
        go_enter Try.func23, Try.ntmps23
        go_wp2_with fail
        refine (mfind_any l v pid w h).mono ?_; rintro e w1 ⟨rfl, hb1⟩
        rw [HF.out]
        go_wp2_with fail
        refine (msign_any p.2 n vn _ (SI.below hn (hb0 _ _ hb1)) (by unfold i64r; omega)).mono ?_; rintro e w2 ⟨rfl, hb2⟩
        go_wp2_with fail
        go_ret
        exact ⟨ret_bool HV2.out.symm, (hb0 _ _ hb1).trans (hb2.mono (hb0 _ _ hb1).size)⟩
    · have hd : (sgnE p.2 n == 0) = false := by simpa using h0
      have HV2 := Lib.hid (HV.out.trans (by simp [h0] : _ = false))
      clear h0
      go_enter Try.func23, Try.ntmps23
      go_wp2_with fail
      refine (mfind_any l v pid w h).mono ?_; rintro e w1 ⟨rfl, hb1⟩
      rw [HF.out]
      go_wp2_with fail
      refine (msign_any p.2 n vn _ (SI.below hn (hb0 _ _ hb1)) (by unfold i64r; omega)).mono ?_; rintro e w2 ⟨rfl, hb2⟩
      go_wp2_with fail
      go_ret
      exact ⟨ret_bool HV2.out.symm, (hb0 _ _ hb1).trans (hb2.mono (hb0 _ _ hb1).size)⟩

set_option maxHeartbeats 1000000 in
theorem rverify_any (l : List (Int × Int)) (v : Value) (pid : Int) (n : List Int) (vn : Value) (m : Int) (w : World) (h : SP w.heap.size w v l) (hn : SI w vn n) :
    Calls Try.prog 24 #[v, .int .i64 pid, vn, .int .i64 m] w fun e w' => e = .returned (.bool (vfy l pid n m)) ∧ Below w.heap.size w w' := by
  cases hp : fnd l pid with
  | none =>
    have HV := Lib.hid (show vfy l pid n m = false by unfold vfy; rw [hp])
    have HF := Lib.hid (show frs l pid = .tuple #[.agg #[.int .i64 0, .int .i64 0], .bool false] by unfold frs; rw [hp])
    clear hp
    go_enter Try.func24, Try.ntmps24
    go_wp2_with fail
    refine (rfind_any l v pid w h).mono ?_; rintro e w1 ⟨rfl, hb1⟩
    rw [HF.out]
    go_wp2_with fail
    go_ret
    exact ⟨ret_bool HV.out.symm, hb1.alloc hb1.size _⟩
  | some p =>
    have HV := Lib.hid (show vfy l pid n m = decide (sgnE p.2 n = 0 ∧ m = sgn p.2 n) by unfold vfy; rw [hp])
    have HF := Lib.hid (show frs l pid = .tuple #[.agg #[.int .i64 p.1, .int .i64 p.2], .bool true] by unfold frs; rw [hp])
    have hwi := wi_t (fnd_r hp).2.2.2
    clear hp
    have hb0 : ∀ w1 o, Below w.heap.size w w1 → Below w.heap.size w (w1.alloc o) := fun w1 o hb => hb.alloc hb.size o
    by_cases h0 : sgnE p.2 n = 0
    · have hd : (sgnE p.2 n == 0) = true := by simpa using h0
      by_cases h1 : m = sgn p.2 n
      · have hd2 : (sgn p.2 n == m) = true := by simp [h1]
        have HV2 := Lib.hid (HV.out.trans (by simp [h0, h1] : _ = true))
        clear h1 h0
        go_enter Try.func24, Try.ntmps24
        go_wp2_with fail
        refine (rfind_any l v pid w h).mono ?_; rintro e w1 ⟨rfl, hb1⟩
        rw [HF.out]
        go_wp2_with fail
        refine (rsign_any p.2 n vn _ (SI.below hn (hb0 _ _ hb1)) (by unfold i64r; omega)).mono ?_; rintro e w2 ⟨rfl, hb2⟩
        go_wp2_with fail
        go_ret
        exact ⟨ret_bool HV2.out.symm, (hb0 _ _ hb1).trans (hb2.mono (hb0 _ _ hb1).size)⟩
      · have hd2 : (sgn p.2 n == m) = false := by simp; omega
        have HV2 := Lib.hid (HV.out.trans (by simp [h1] : _ = false))
        clear h1 h0
        go_enter Try.func24, Try.ntmps24
        go_wp2_with fail
        refine (rfind_any l v pid w h).mono ?_; rintro e w1 ⟨rfl, hb1⟩
        rw [HF.out]
        go_wp2_with fail
        refine (rsign_any p.2 n vn _ (SI.below hn (hb0 _ _ hb1)) (by unfold i64r; omega)).mono ?_; rintro e w2 ⟨rfl, hb2⟩
        go_wp2_with fail
        go_ret
        exact ⟨ret_bool HV2.out.symm, (hb0 _ _ hb1).trans (hb2.mono (hb0 _ _ hb1).size)⟩
    · have hd : (sgnE p.2 n == 0) = false := by simpa using h0
      have HV2 := Lib.hid (HV.out.trans (by simp [h0] : _ = false))
      clear h0
      go_enter Try.func24, Try.ntmps24
      go_wp2_with fail
      refine (rfind_any l v pid w h).mono ?_; rintro e w1 ⟨rfl, hb1⟩
      rw [HF.out]
      go_wp2_with fail
      refine (rsign_any p.2 n vn _ (SI.below hn (hb0 _ _ hb1)) (by unfold i64r; omega)).mono ?_; rintro e w2 ⟨rfl, hb2⟩
      go_wp2_with fail
      go_ret
      exact ⟨ret_bool HV2.out.symm, (hb0 _ _ hb1).trans (hb2.mono (hb0 _ _ hb1).size)⟩
end Go.Proofs.Ytmglcjdigpgjlaa
