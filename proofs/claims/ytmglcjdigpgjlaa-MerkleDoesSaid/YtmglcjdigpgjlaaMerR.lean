/- What Root of merkle and of privatefetchref12 return. -/
import Derived.Test.YtmglcjdigpgjlaaMerU
import Derived.Laws.EntriesVeiled
namespace Go.Proofs.Ytmglcjdigpgjlaa
open Go.RowKit

/-- the root, and the error -/
def rtE (l : List Int) : Int := if lsE l = 0 then root l else 0

set_option maxHeartbeats 1000000 in
theorem root1_any (n : Nat) : ∀ (l : List Int) (v : Value) (cb : Nat) (w : World), l.length ≤ n → l.length ≤ 100000 → SI w v l → w.cell? ⟨cb, 0, none⟩ = some (.func (.func 48) #[] #[.pointer (some ⟨cb, 0, none⟩)]) →
    Calls Try.prog 48 #[v, .pointer (some ⟨cb, 0, none⟩)] w fun e w' => e = .returned (.int .i64 (root l)) ∧ Below w.heap.size w w' := by
  induction n with
  | zero =>
    intro l v cb w hn hl h hc
    obtain ⟨A, c, rfl, hcc, hm, hr, ha⟩ := h
    have HF := Lib.hid (show root l = 0 by rw [root_small (by omega), List.getElem?_eq_none (by omega)]; rfl)
    have hd : ((l.length : Int) == 0) = true := by rw [beq_iff_eq]; omega
    go_enter Try.func48, Try.ntmps48
    go_wp2_with fail
    go_ret
    exact ⟨ret_int HF.out.symm, Below.refl _ _⟩
  | succ n ih =>
    intro l v cb w hn hl h hc
    have IH := Lib.hid ih
    clear ih
    have hS := h
    obtain ⟨A, c, rfl, hcc, hm, hr, ha⟩ := h
    by_cases h0 : l.length = 0
    · have HF := Lib.hid (show root l = 0 by rw [root_small (by omega), List.getElem?_eq_none (by omega)]; rfl)
      have hd : ((l.length : Int) == 0) = true := by rw [beq_iff_eq]; omega
      clear h0
      go_enter Try.func48, Try.ntmps48
      go_wp2_with fail
      go_ret
      exact ⟨ret_int HF.out.symm, Below.refl _ _⟩
    · have hd : ((l.length : Int) == 0) = false := by rw [beq_eq_false_iff_ne]; omega
      by_cases h1 : l.length = 1
      · obtain ⟨b, off, rfl, hb, hcell⟩ := ha (by omega)
        have hlp : 0 < l.length := by omega
        have c0 := hcell 0 hlp
        simp only [Nat.add_zero] at c0
        have HF := Lib.hid (show root l = l[0]'hlp by rw [root_small (by omega), List.getElem?_eq_getElem (by omega)]; rfl)
        have hd1 : ((l.length : Int) == 1) = true := by rw [beq_iff_eq]; omega
        clear h0 h1 hcell ha
        go_enter Try.func48, Try.ntmps48
        go_wp2_with fail
        go_ret
        exact ⟨ret_int HF.out.symm, Below.refl _ _⟩
      · have hd1 : ((l.length : Int) == 1) = false := by rw [beq_eq_false_iff_ne]; omega
        have HF := Lib.hid (root_up (show 1 < l.length by omega))
        have hul := up_len l
        have hcb := World.block_lt_of_cell? w _ hc
        have HS := Lib.hid hS
        have hu1 : (up l).length ≤ n := by omega
        have hu2 : (up l).length ≤ 100000 := by omega
        clear h0 h1 ha hr hul hS
        go_enter Try.func48, Try.ntmps48
        go_wp2_with fail
        go_region_held3 (fun w' => w'.cell? ⟨cb, 0, none⟩ = some (.func (.func 48) #[] #[.pointer (some ⟨cb, 0, none⟩)])) (first | exact hc | exact q1 | exact q2 | go_keep)
          (first
            | (go_at_call 49
               refine (above_any l _ _ (by exact HS.out) hl).mono ?_
               rintro e w1 ⟨v1, rfl, hS1, hb1⟩
               have hz1 := hb1.size
               have q1 := (hb1.cell (p := ⟨cb, 0, none⟩) (by exact hcb)).trans hc)
            | (go_at_call 48
               refine (IH.out (up l) _ cb _ hu1 hu2 hS1 q1).mono ?_
               rintro e w2 ⟨rfl, hb2⟩
               have q2 := (hb2.cell (p := ⟨cb, 0, none⟩) (by show cb < _; exact Nat.lt_of_lt_of_le hcb hz1)).trans q1))
        go_wp2_with fail
        go_ret
        exact ⟨ret_int HF.out.symm, (hb1.drew_left.trans (hb2.mono hz1))⟩

theorem proot_any (l : List Int) (v : Value) (w : World) (h : SI w v l) :
    Calls Try.prog 28 #[v] w fun e w' => e = .returned (.tuple #[.int .i64 (rtE l), .int .i64 (lsE l)]) ∧ Below w.heap.size w w' := by
  by_cases h0 : lsE l = 0
  · have HE := Lib.hid (show rtE l = root l by unfold rtE; rw [if_pos h0])
    have hlen : l.length ≤ 1024 := by unfold lsE at h0; split at h0 <;> omega
    have hmf : ∀ (fn : Fn) (first cap : Array Value) (w : World), (Instr.makeFunc fn first cap).run Try.prog w = .ok (.func fn first cap) w := fun _ _ _ _ => rfl
    have hd : (lsE l != 0) = false := by simp [h0]
    have H0 := Lib.hid h0
    clear h0
    go_enter Try.func28, Try.ntmps28
    go_wp2_with fail
    (with_reducible refine (pchk_any l _ _ h).mono ?_); rintro e w' ⟨rfl, rfl⟩
    go_wp2_with fail
    (with_reducible refine (root1_any l.length l v _ _ (Nat.le_refl _) (by omega) (SI.below h ((Below.refl _ _).alloc (Nat.le_refl _) _)) (by simp [go_sem])).mono ?_); rintro e w2 ⟨rfl, hb2⟩
    go_wp2_with fail
    go_ret2
    exact ⟨ret_two HE.out.symm H0.out.symm, ((Below.refl _ _).alloc (Nat.le_refl _) _).trans (hb2.mono (by simp))⟩
  · have HE := Lib.hid (show rtE l = 0 by unfold rtE; rw [if_neg h0])
    have hd : (lsE l != 0) = true := by simpa using h0
    clear h0
    go_enter Try.func28, Try.ntmps28
    go_wp2_with fail
    (with_reducible refine (pchk_any l _ _ h).mono ?_); rintro e w' ⟨rfl, rfl⟩
    go_wp2_with fail
    go_ret2
    exact ⟨ret_two HE.out.symm rfl, Below.refl _ _⟩

def lenV : Value → Nat | .slice _ n _ => n | _ => 0
theorem SI.len {w : World} {v : Value} {l : List Int} (h : SI w v l) : lenV v = l.length := by
  obtain ⟨A, c, rfl, _⟩ := h
  rfl
/-- the list at the head of a round has the same root -/
def RtRel (w : World) (l : List Int) (v : Value) (wr : World) : Prop := ∃ m : List Int, SI wr v m ∧ root m = root l ∧ 1 ≤ m.length ∧ m.length ≤ l.length ∧ Below w.heap.size w wr
theorem rroot_any (l : List Int) (v : Value) (w : World) (h : SI w v l) :
    Calls Try.prog 29 #[v] w fun e w' => e = .returned (.tuple #[.int .i64 (rtE l), .int .i64 (lsE l)]) ∧ Below w.heap.size w w' := by
  by_cases h0 : lsE l = 0
  · have HE := Lib.hid (show rtE l = root l by unfold rtE; rw [if_pos h0])
    have hlen : l.length ≤ 1024 := by unfold lsE at h0; split at h0 <;> omega
    have hd : (lsE l != 0) = false := by simp [h0]
    have H0 := Lib.hid h0
    clear h0
    have hS := h
    obtain ⟨A, c, rfl, hcc, hm, hr, ha⟩ := h
    by_cases h1 : l.length = 0
    · have HF := Lib.hid (show root l = 0 by rw [root_small (by omega), List.getElem?_eq_none (by omega)]; rfl)
      have hd0 : ((l.length : Int) == 0) = true := by rw [beq_iff_eq]; omega
      clear h1
      go_enter Try.func29, Try.ntmps29
      go_wp2_with fail
      (with_reducible refine (rchk_any l _ _ hS).mono ?_); rintro e w' ⟨rfl, rfl⟩
      go_wp2_with fail
      go_ret2
      exact ⟨ret_two (HF.out.symm.trans HE.out.symm) H0.out.symm, Below.refl _ _⟩
    · have hd0 : ((l.length : Int) == 0) = false := by rw [beq_eq_false_iff_ne]; omega
      have hlp : 1 ≤ l.length := by omega
      clear h1
      go_enter Try.func29, Try.ntmps29
      go_wp2_with fail
      (with_reducible refine (rchk_any l _ _ hS).mono ?_); rintro e w' ⟨rfl, rfl⟩
      clear ha hr
      go_wp2_with fail
      go_loopw [0] (fun v wr => RtRel w l v wr) (fun v _ => lenV v)
      case atStart => exact ⟨l, hS, rfl, hlp, Nat.le_refl _, Below.refl _ _⟩
      case round =>
        obtain ⟨m, hSm, hrm, hm1, hm2, hbl⟩ := hrel
        have HR := Lib.hid hrm
        have HS := Lib.hid hSm
        obtain ⟨A1, c1, rfl, hcc1, hmm1, _, ha1⟩ := hSm
        clear hrm
        by_cases hlt : 1 < m.length
        · have hul := up_len m
          have HU := Lib.hid (root_up hlt)
          go_wp2_with fail
          (with_reducible refine (rup_any m _ _ HS.out (by omega)).mono ?_); rintro e w1 ⟨v1, rfl, hS1, hb1⟩
          have hvl := hS1.len
          have HV := Lib.hid hvl
          clear hvl
          have HUL := Lib.hid hul
          clear hul
          go_wp2_with fail
          go_roundw
          case rel => exact ⟨up m, hS1, by rw [← HU.out]; exact HR.out, by have := HUL.out; omega, by have := HUL.out; omega, hbl.trans (hb1.mono hbl.size)⟩
          case measure => show lenV v1 < m.length; rw [HV.out, HUL.out]; omega
        · have hm1' : m.length = 1 := by omega
          obtain ⟨b, off, rfl, hb, hcell⟩ := ha1 (by omega)
          have hmp : 0 < m.length := by omega
          have c0 := hcell 0 hmp
          simp only [Nat.add_zero] at c0
          have HF := Lib.hid (show root m = m[0]'hmp by rw [root_small (by omega), List.getElem?_eq_getElem hmp]; rfl)
          clear hcell ha1 hm1'
          go_wp2_with fail
          go_ret2
          exact ⟨ret_two (by rw [HE.out, ← HR.out, HF.out]) H0.out.symm, hbl⟩
  · have HE := Lib.hid (show rtE l = 0 by unfold rtE; rw [if_neg h0])
    have hd : (lsE l != 0) = true := by simpa using h0
    clear h0
    go_enter Try.func29, Try.ntmps29
    go_wp2_with fail
    (with_reducible refine (rchk_any l _ _ h).mono ?_); rintro e w' ⟨rfl, rfl⟩
    go_wp2_with fail
    go_ret2
    exact ⟨ret_two HE.out.symm rfl, Below.refl _ _⟩
end Go.Proofs.Ytmglcjdigpgjlaa
