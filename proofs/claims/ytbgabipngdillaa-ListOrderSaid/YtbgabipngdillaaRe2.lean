/- Inverses, trimming, and tests of whole lists, of the package residue. -/
import Derived.Test.YtbgabipngdillaaRes
import Derived.Test.YtbgabipngdillaaEu
namespace Go.Proofs.Ytbgabipngdillaa
open Go.RowKit

theorem tmod_emod (n m : Int) (hm : 0 < m) : n.tmod m % m = n % m := by
  rcases tmod_cases n m hm with h | ⟨_, _, h⟩
  · rw [h, Int.emod_emod_of_dvd _ (Int.dvd_refl m)]
  · rw [h, Int.sub_emod_right, Int.emod_emod_of_dvd _ (Int.dvd_refl m)]
set_option maxHeartbeats 1000000 in
theorem inverse_any (P a : Int) (w : World) (hp : prB P = true) (ha : 0 ≤ a ∧ a < P) :
    Calls Try.prog 75 #[.int .i64 P, .int .i64 a] w fun e w' => e = .returned (.int .i64 (inv P a)) ∧ w = w' := by
  obtain ⟨hP1, hP2⟩ := prB_bd hp
  have hne : (P == 0) = false := by simp; omega
  have HP := Lib.hid hp
  have HS := Lib.hid (IS.start hP1 ha)
  clear hp
  by_cases ha0 : 0 < a
  case neg =>
    obtain rfl : a = 0 := by omega
    have HI := Lib.hid (inv_z (P := P) (a := 0) (Int.zero_emod P))
    go_enter Try.func75, Try.ntmps75
    go_wp2_with fail
    go_loop [5, 6, 7, 8] (fun rv sv xv yv => rv = .int .i64 P ∧ sv = .int .i64 0 ∧ xv = .int .i64 0 ∧ yv = .int .i64 1) (fun _ _ _ _ => 0)
    case atStart => exact ⟨rfl, rfl, rfl, rfl⟩
    case round =>
      obtain ⟨rfl, rfl, rfl, rfl⟩ := hrel
      go_wp2_with fail
      go_ret
      exact ⟨ret_int (by rw [HI.out]), rfl⟩
  go_enter Try.func75, Try.ntmps75
  go_wp2_with fail
  go_loop [5, 6, 7, 8] (fun rv sv xv yv => ∃ r s x y : Int, rv = .int .i64 r ∧ sv = .int .i64 s ∧ xv = .int .i64 x ∧ yv = .int .i64 y ∧ IS P a r s x y) (fun _ sv _ _ => (intOf sv).toNat)
  case atStart => exact ⟨P, a, 0, 1, rfl, rfl, rfl, rfl, HS.out⟩
  case round =>
    obtain ⟨r, s, x, y, rfl, rfl, rfl, rfl, hI⟩ := hrel
    have hbx := hI.bx
    have hr := hI.1
    have hr2 := hI.2.1
    have hs := hI.2.2.1
    have hs2 := hI.2.2.2.1
    have HI := Lib.hid hI
    clear hI
    by_cases h0 : s = 0
    · have hb1 : (s != 0) = false := by simp [h0]
      have hfin : x % P = inv P a := IS.fin HP.out ⟨ha0, ha.2⟩ HI.out h0
      have HF := Lib.hid hfin
      have HT := Lib.hid (tmod_emod x P (by omega))
      have hb := tmod_bd x P (by omega)
      have H0 := Lib.hid h0
      clear h0 hfin
      go_wp2_with fail
      go_ret
      exact ⟨ret_int (by rw [← HF.out, ← HT.out]), rfl⟩
    · have hb1 : (s != 0) = true := by simp [h0]
      have hb2 : (s == 0) = false := by simp [h0]
      obtain ⟨g1, g2, g3, g4, g5⟩ := HI.out.step (by omega)
      have HG := Lib.hid g1
      clear g1
      go_wp2_with fail
      go_round
      case rel => exact ⟨_, _, _, _, rfl, rfl, rfl, rfl, HG.out⟩
      case measure => simp [intOf]; omega

theorem SI.take {w : World} {A : Option Addr} {n c : Nat} {l : List Int} (h : SI w (.slice A n c) l) {m : Nat} (hm : m ≤ l.length) : SI w (.slice A m c) (l.take m) := by
  obtain ⟨A', c', e, hc, hmx, hr, ha⟩ := h
  injection e with e1 e2 e3
  subst e1 e2 e3
  have hl : (l.take m).length = m := by rw [List.length_take]; omega
  refine ⟨A, c, by rw [hl], by omega, hmx, fun x hx => hr x (List.mem_of_mem_take hx), fun h0 => ?_⟩
  obtain ⟨b, off, rfl, hb, hcell⟩ := ha (by omega)
  refine ⟨b, off, rfl, hb, fun j hj => ?_⟩
  rw [hcell j (by omega)]
  simp
/-- from which place on all are 0 -/
def trRel (l : List Int) (v : Value) : Prop := ∃ n : Nat, n ≤ l.length ∧ v = .int .i64 n ∧ ∀ k, n ≤ k → gd l k = 0
set_option maxHeartbeats 1000000 in
theorem trim_any (l : List Int) (A : Option Addr) (c : Nat) (w : World) (h : SI w (.slice A l.length c) l) :
    Calls Try.prog 70 #[.slice A l.length c] w fun e w' => e = .returned (.slice A (trim l).length c) ∧ trim l = l.take (trim l).length ∧ w = w' := by
  have HS := Lib.hid h
  obtain ⟨A', c', e, hcc, hm, hr, ha⟩ := h
  injection e with e1 e2 e3
  subst e1 e3
  have HA := Lib.hid ha
  clear hr ha
  go_enter Try.func70, Try.ntmps70
  go_wp2_with fail
  go_loop [3] (fun v => trRel l v) (fun v => (intOf v).toNat)
  case atStart => exact ⟨l.length, Nat.le_refl _, rfl, fun k hk => gd_ge hk⟩
  case round =>
    obtain ⟨n, hn, rfl, hz⟩ := hrel
    have HZ := Lib.hid hz
    clear hz
    by_cases h0 : n = 0
    · subst h0
      have HT := Lib.hid (trim_take (l := l) (n := 0) (Nat.zero_le _) HZ.out (.inl rfl))
      go_wp2_with fail
      go_ret
      exact ⟨by rw [HT.out]; rfl, by rw [HT.out]; rfl, rfl⟩
    · obtain ⟨b, off, rfl, hb, hcell⟩ := HA.out (by omega)
      have hck := hcell (n - 1) (by omega)
      have hnl : n - 1 < l.length := by omega
      have hn1 : 0 < n := by omega
      have hd : decide ((0 : Int) < (n : Int)) = true := decide_eq_true (by omega)
      have hd' : decide (0 < n) = true := decide_eq_true (by omega)
      have z1 : (0 : Int) ≤ (n : Int) - 1 := by omega
      have z2 : (n : Int) - 1 < (l.length : Int) := by omega
      have z3 : ((n : Int) - 1).toNat = n - 1 := by omega
      clear hcell
      by_cases hl : l[n - 1]'hnl = 0
      · have hb1 : (l[n - 1]'hnl == 0) = true := by rw [beq_iff_eq]; exact hl
        have HL := Lib.hid hl
        clear hl
        go_wp2_with fail
        go_round
        case rel =>
          refine ⟨n - 1, by omega, by congr 1; omega, fun k hk => ?_⟩
          by_cases hkn : k = n - 1
          · subst hkn; rw [gd_lt (by omega)]; exact HL.out
          · exact HZ.out k (by omega)
        case measure => simp [intOf]; omega
      · have hb1 : (l[n - 1]'hnl == 0) = false := by rw [beq_eq_false_iff_ne]; exact hl
        have HT := Lib.hid (trim_take (l := l) (n := n) hn HZ.out (.inr (by rw [gd_lt (by omega)]; exact hl)))
        have HL : Hid ((trim l).length = n) := by show (trim l).length = n; rw [HT.out, List.length_take]; omega
        clear hl
        go_wp2_with fail
        go_ret
        exact ⟨by rw [HL.out]; rfl, by rw [HL.out]; exact HT.out, rfl⟩
end Go.Proofs.Ytbgabipngdillaa
