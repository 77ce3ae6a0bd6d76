/- Joined: Ck Dy Rf3. -/
import Derived.Test.YtoiabanpnkpbhaaGreatDoorY18
import Derived.Test.YtoiabanpnkpbhaaGreatDoorY02
import Derived.Test.YtoiabanpnkpbhaaGreatDoorY19
import Derived.Test.YtoiabanpnkpbhaaGreatDoorY06
namespace Go.Proofs.YtoiabanpnkpbhaaGreatDoor
open Go.RowKit

def knL (l : List (Bool × List Int)) : Nat := (l.filter fun a => a.1).length
def wdB (width : Int) (l : List (Bool × List Int)) : Bool := l.all fun a => !a.1 || decide ((a.2.length : Int) = width)
def elB (P : Int) (l : List (Bool × List Int)) : Bool := l.all fun a => !a.1 || els P a.2
/-- what Check returns -/
def ckE (P width servers need : Int) (l : List (Bool × List Int)) : Int :=
  if width < 0 ∨ 64 < width then 4 else if (l.length : Int) ≠ servers then 2 else if wdB width l = false then 2 else if elB P l = false then 9 else if (knL l : Int) < need then 11 else 0
theorem take_all {p : Bool × List Int → Bool} {l : List (Bool × List Int)} {k : Nat} (h : k < l.length) : (l.take (k + 1)).all p = ((l.take k).all p && p l[k]) := by
  rw [← List.take_append_getElem h, List.all_append]; simp
theorem take_kn {l : List (Bool × List Int)} {k : Nat} (h : k < l.length) : knL (l.take (k + 1)) = knL (l.take k) + if l[k].1 then 1 else 0 := by
  unfold knL
  rw [← List.take_append_getElem h, List.filter_append, List.length_append]
  cases e : l[k].1 <;> simp [e]
theorem wdB_no {width : Int} {l : List (Bool × List Int)} {k : Nat} (h : k < l.length) (h1 : l[k].1 = true) (h2 : (l[k].2.length : Int) ≠ width) : wdB width l = false := by
  cases e : wdB width l with
  | false => rfl
  | true =>
    unfold wdB at e
    rw [List.all_eq_true] at e
    have := e _ (List.getElem_mem h)
    simp [h1] at this
    exact absurd this h2
def CkR (P width : Int) (l : List (Bool × List Int)) (w1 : World) (kv bv iv : Value) (wr : World) : Prop :=
  ∃ i : Nat, i ≤ l.length ∧ iv = .int .i64 i ∧ kv = .int .i64 (knL (l.take i)) ∧ bv = .bool (elB P (l.take i)) ∧ wdB width (l.take i) = true ∧ Below w1.heap.size w1 wr
set_option maxRecDepth 100000 in
set_option maxHeartbeats 4000000 in
theorem ccheck2_any (P width servers need : Int) (l : List (Bool × List Int)) (v : Value) (w : World) (h : SAn w v l) (hz : l.length ≤ 1000000) :
    Calls Tryz.prog 64 #[.agg #[.int .i64 P], .int .i64 width, .int .i64 servers, .int .i64 need, v] w fun e w' => e = .returned (.int .i64 (ckE P width servers need l)) ∧ Below w.heap.size w w' := by
  have HS := Lib.hid h
  obtain ⟨A, c, rfl⟩ := h.form
  clear h
  obtain ⟨F, eF⟩ : ∃ F, F = w.heap.size := ⟨_, rfl⟩
  obtain ⟨w1, ew1⟩ : ∃ w1 : World, w1 = w.alloc (.cells #[.int .i64 P] 31) := ⟨_, rfl⟩
  have HW1 : Hid (w.alloc (.cells #[.int .i64 P] 31) = w1) := ew1.symm
  have HF1 : Hid (w1.heap[F]? = some (.cells #[.int .i64 P] 31 (0, 0))) := (show Hid _ from by show _ = _; rw [ew1, eF]; exact heap_alloc_new w _)
  have HB1 : Hid (Below w.heap.size w w1) := (show Hid _ from by rw [ew1]; exact (Below.refl _ w).alloc (Nat.le_refl _) _)
  have HEF := Lib.hid eF
  clear ew1
  go_enter Tryz.func64, Tryz.ntmps64
  go_upto_region 1 with fail
  rw [HW1.out, ← eF]
  clear eF
  by_cases h1 : width < 0
  · have d1 : decide (width < 0) = true := decide_eq_true h1
    have HR : Hid (ckE P width servers need l = 4) := by show _ = _; unfold ckE; rw [if_pos (.inl h1)]
    clear h1
    go_wp2_with fail
    go_ret
    exact ⟨by rw [HR.out] <;> rfl, HB1.out⟩
  · have d1 : decide (width < 0) = false := decide_eq_false h1
    by_cases h2 : 64 < width
    · have d2 : decide (64 < width) = true := decide_eq_true h2
      have HR : Hid (ckE P width servers need l = 4) := by show _ = _; unfold ckE; rw [if_pos (.inr h2)]
      clear h1 h2
      go_wp2_with fail
      go_ret
      exact ⟨by rw [HR.out] <;> rfl, HB1.out⟩
    · have d2 : decide (64 < width) = false := decide_eq_false h2
      have HWD : Hid (¬ (width < 0 ∨ 64 < width)) := (show Hid _ from fun h => h.elim h1 h2)
      by_cases h3 : (l.length : Int) = servers
      · have d3 : ((l.length : Int) != servers) = false := by rw [bne_eq_false_iff_eq]; exact h3
        have HL := Lib.hid h3
        clear h1 h2 h3
        go_wp2_with fail
        go_loopw [11, 12, 27] (fun kv bv iv wr => CkR P width l w1 kv bv iv wr) (fun _ _ iv _ => l.length - (intOf iv).toNat)
        case atStart => exact ⟨0, Nat.zero_le _, rfl, by simp [knL], by simp [elB], by simp [wdB], Below.refl _ _⟩
        case round =>
          obtain ⟨i, hi, rfl, rfl, rfl, hwd, hbel⟩ := hrel
          have HWX := Lib.hid hwd
          have HBE := Lib.hid hbel
          have HBw : Hid (Below w.heap.size w wr) := (show Hid _ from HB1.out.trans (HBE.out.mono HB1.out.size))
          clear hwd hbel
          have hkn : knL (l.take i) ≤ i := by
            unfold knL
            have h1 := List.length_filter_le (fun a : Bool × List Int => a.1) (l.take i)
            rw [List.length_take] at h1; omega
          by_cases hlt : i < l.length
          · have dl : decide (i < l.length) = true := decide_eq_true hlt
            obtain ⟨A', c', e, _, _, ha⟩ := HS.out
            injection e with e1 e2 e3
            subst e1
            obtain ⟨b, off, rfl, hb, hcell⟩ := ha (by omega)
            obtain ⟨c1, vr, c2, hsr⟩ := hcell i hlt
            have c1 := (HBw.out.cell (p := ⟨b, off + i * 2, none⟩) hb).trans c1
            have c2 := (HBw.out.cell (p := ⟨b, off + i * 2 + 1, none⟩) hb).trans c2
            have HTW := Lib.hid (take_all (p := fun a => !a.1 || decide ((a.2.length : Int) = width)) hlt)
            have HTE := Lib.hid (take_all (p := fun a => !a.1 || els P a.2) hlt)
            have HTK := Lib.hid (take_kn hlt)
            have HNO : Hid (l[i].1 = true → (l[i].2.length : Int) ≠ width → wdB width l = false) := (show Hid _ from fun x y => wdB_no hlt x y)
            obtain ⟨row, er⟩ : ∃ row, row = l[i].2 := ⟨_, rfl⟩
            obtain ⟨kb, ekb⟩ : ∃ kb, kb = l[i].1 := ⟨_, rfl⟩
            have HSR := Lib.hid (hsr.below HBw.out)
            obtain ⟨Ar, cr, rfl⟩ := hsr.form
            rw [← er] at c2 HSR HTW HTE HNO
            rw [← ekb] at c1 HTW HTE HTK HNO
            obtain ⟨kn, ekn⟩ : ∃ kn, kn = knL (l.take i) := ⟨_, rfl⟩
            rw [← ekn] at HTK hkn ⊢
            obtain ⟨eb, eeb⟩ : ∃ eb, eb = elB P (l.take i) := ⟨_, rfl⟩
            have HEB := Lib.hid eeb
            rw [← eeb]
            have wk : IntKind.i64.wrap ((kn : Int) + 1) = (kn : Int) + 1 := by exact IntWalk.i64_in _ (by omega)
            clear ha hcell e2 e3 er ekb hsr ekn eeb
            obtain ⟨wx, ewx⟩ : ∃ wx : World, wx = wr.alloc (.cells #[.bool kb, .slice Ar row.length cr] 61) := ⟨_, rfl⟩
            have HWX2 : Hid (wr.alloc (.cells #[.bool kb, .slice Ar row.length cr] 61) = wx) := ewx.symm
            have HAX : Hid (wx.heap[wr.heap.size]? = some (.cells #[.bool kb, .slice Ar row.length cr] 61 (0, 0))) := (show Hid _ from by show _ = _; rw [ewx]; exact heap_alloc_new wr _)
            have HBX : Hid (Below wr.heap.size wr wx) := (show Hid _ from by rw [ewx]; exact (Below.refl _ wr).alloc (Nat.le_refl _) _)
            have hzr : w1.heap.size ≤ wr.heap.size := HBE.out.size
            have HBX1 : Hid (Below w1.heap.size w1 wx) := (show Hid _ from HBE.out.trans (HBX.out.mono hzr))
            have HFX : Hid (wx.heap[F]? = some (.cells #[.int .i64 P] 31 (0, 0))) := (show Hid _ from (HBX1.out.block F (heap_of_cells HF1.out)).trans HF1.out)
            obtain ⟨Q, eQ⟩ : ∃ Q, Q = wr.heap.size := ⟨_, rfl⟩
            rw [← eQ] at HAX
            go_upto_region 9 with fail
            rw [HWX2.out, ← eQ]
            clear ewx eQ c1 c2
            have a0 : wx.cell? ⟨Q, 0, none⟩ = some (.bool kb) := cell_of_row wx Q 0 _ _ _ HAX.out
            have a1 : wx.cell? ⟨Q, 1, none⟩ = some (.slice Ar row.length cr) := cell_of_row wx Q 1 _ _ _ HAX.out
            have f0 : wx.cell? ⟨F, 0, none⟩ = some (.int .i64 P) := cell_of_row wx F 0 _ _ _ HFX.out
            cases kb with
            | false =>
              go_wp2_with fail
              go_roundw
              case rel => exact ⟨i + 1, by omega, by go_num, by rw [HTK.out]; rfl, by unfold elB; rw [HTE.out, HEB.out]; simp [elB], by unfold wdB; rw [HTW.out]; have := HWX.out; unfold wdB at this; rw [this]; rfl, HBX1.out⟩
              case measure => simp [intOf]; omega
            | true =>
              by_cases hw : (row.length : Int) = width
              · have dw : ((row.length : Int) != width) = false := by rw [bne_eq_false_iff_eq]; exact hw
                have HWI := Lib.hid hw
                clear hw
                have HSX : Hid (SI wx (.slice Ar row.length cr) row) := (show Hid _ from HSR.out.below HBX.out)
                cases eb with
                | false =>
                  go_wp2_with fail
                  go_roundw
                  case rel => exact ⟨i + 1, by omega, by go_num, by rw [HTK.out]; simp, by unfold elB; rw [HTE.out]; have := HEB.out; unfold elB at this; rw [← this]; rfl, by unfold wdB; rw [HTW.out]; have := HWX.out; unfold wdB at this; rw [this]; simp [HWI.out], HBX1.out⟩
                  case measure => simp [intOf]; omega
                | true =>
                  go_wp2_with fail
                  (with_reducible refine (all_any P row _ _ HSX.out).mono ?_)
                  rintro e w9 ⟨rfl, hb9⟩
                  have HB9 : Hid (Below w1.heap.size w1 w9) := (show Hid _ from HBX1.out.trans (hb9.mono HBX1.out.size))
                  clear hb9
                  go_wp2_with fail
                  go_roundw
                  case rel => exact ⟨i + 1, by omega, by go_num, by rw [HTK.out]; simp, by unfold elB; rw [HTE.out]; have := HEB.out; unfold elB at this; rw [← this]; simp, by unfold wdB; rw [HTW.out]; have := HWX.out; unfold wdB at this; rw [this]; simp [HWI.out], HB9.out⟩
                  case measure => simp [intOf]; omega
              · have dw : ((row.length : Int) != width) = true := by rw [bne_iff_ne]; exact hw
                have HR : Hid (ckE P width servers need l = 2) := by show _ = _; unfold ckE; rw [if_neg HWD.out, if_neg (by rw [HL.out]; simp), if_pos (HNO.out rfl hw)]
                clear hw
                go_wp2_with fail
                go_ret
                exact ⟨by rw [HR.out] <;> rfl, HB1.out.trans (HBX1.out.mono HB1.out.size)⟩
          · have dl : decide (i < l.length) = false := decide_eq_false hlt
            have hil : l.take i = l := List.take_of_length_le (by omega)
            rw [hil] at HWX ⊢
            have HW : Hid (¬ wdB width l = false) := by show ¬ _; rw [HWX.out]; simp
            obtain ⟨eb, eeb⟩ : ∃ eb, eb = elB P l := ⟨_, rfl⟩
            obtain ⟨kn, ekn⟩ : ∃ kn, kn = knL l := ⟨_, rfl⟩
            have HEB := Lib.hid eeb
            have HKN := Lib.hid ekn
            rw [← eeb, ← ekn]
            clear hil eeb ekn hkn
            cases eb with
            | false =>
              have HR : Hid (ckE P width servers need l = 9) := by show _ = _; unfold ckE; rw [if_neg HWD.out, if_neg (by rw [HL.out]; simp), if_neg HW.out, if_pos HEB.out.symm]
              go_wp2_with fail
              go_ret
              exact ⟨by rw [HR.out] <;> rfl, HBw.out⟩
            | true =>
              by_cases hk : (kn : Int) < need
              · have dk : decide ((kn : Int) < need) = true := decide_eq_true hk
                have HR : Hid (ckE P width servers need l = 11) := by show _ = _; unfold ckE; rw [if_neg HWD.out, if_neg (by rw [HL.out]; simp), if_neg HW.out, if_neg (by rw [← HEB.out]; simp), if_pos (by rw [← HKN.out]; exact hk)]
                clear hk
                go_wp2_with fail
                go_ret
                exact ⟨by rw [HR.out] <;> rfl, HBw.out⟩
              · have dk : decide ((kn : Int) < need) = false := decide_eq_false hk
                have HR : Hid (ckE P width servers need l = 0) := by show _ = _; unfold ckE; rw [if_neg HWD.out, if_neg (by rw [HL.out]; simp), if_neg HW.out, if_neg (by rw [← HEB.out]; simp), if_neg (by rw [← HKN.out]; exact hk)]
                clear hk
                go_wp2_with fail
                go_ret
                exact ⟨by rw [HR.out] <;> rfl, HBw.out⟩
      · have d3 : ((l.length : Int) != servers) = true := by rw [bne_iff_ne]; exact h3
        have HR : Hid (ckE P width servers need l = 2) := by show _ = _; unfold ckE; rw [if_neg HWD.out, if_pos h3]
        clear h1 h2 h3
        go_wp2_with fail
        go_ret
        exact ⟨by rw [HR.out] <;> rfl, HB1.out⟩
end Go.Proofs.YtoiabanpnkpbhaaGreatDoor

namespace Go.Proofs.YtoiabanpnkpbhaaGreatDoor
open Go.RowKit

theorem ckE_ok {P width servers need : Int} {l : List (Bool × List Int)} (h : ckE P width servers need l = 0) : 0 ≤ width ∧ width ≤ 64 ∧ (l.length : Int) = servers ∧ wdB width l = true ∧ elB P l = true ∧ need ≤ (knL l : Int) := by
  unfold ckE at h
  by_cases h1 : width < 0 ∨ 64 < width
  · rw [if_pos h1] at h; omega
  · rw [if_neg h1] at h
    by_cases h2 : (l.length : Int) ≠ servers
    · rw [if_pos h2] at h; omega
    · rw [if_neg h2] at h
      cases h3 : wdB width l with
      | false => rw [h3] at h; simp at h
      | true =>
        rw [h3, if_neg (by simp)] at h
        cases h4 : elB P l with
        | false => rw [h4] at h; simp at h
        | true =>
          rw [h4, if_neg (by simp)] at h
          by_cases h5 : (knL l : Int) < need
          · rw [if_pos h5] at h; omega
          · exact ⟨by omega, by omega, by omega, rfl, rfl, by omega⟩
theorem wdB_at {width : Int} {l : List (Bool × List Int)} (h : wdB width l = true) : ∀ a ∈ l, a.1 = true → (a.2.length : Int) = width := fun a ha h1 => by
  unfold wdB at h
  rw [List.all_eq_true] at h
  have := h a ha
  simpa [h1] using this
theorem alR_wr {P k : Int} {l : List (Bool × List Int)} {n : Nat} {ps : List (List Int)} {ws : List Int} (h : AlR P k l n ps ws) : ∀ x ∈ ws, 1 ≤ x ∧ x ≤ (l.length : Int) := fun x hx => by
  have h1 := h.2.2
  rw [h1] at hx
  exact wrA_bd P l ps x (((srt_spec _).2 x).1 hx)
end Go.Proofs.YtoiabanpnkpbhaaGreatDoor

namespace Go.Proofs.YtoiabanpnkpbhaaGreatDoor
open Go.RowKit

def rcE (P : Int) : Int := if prB P = true then 0 else 9
theorem rcE_t {P : Int} (h : prB P = true) : rcE P = 0 := if_pos h
theorem rcE_f {P : Int} (h : prB P = false) : rcE P = 9 := by unfold rcE; rw [h]; rfl
set_option maxHeartbeats 2000000 in
theorem rcheck_any (P : Int) (w : World) (hP : i64r P) :
    Calls Tryz.prog 61 #[.agg #[.int .i64 P]] w fun e w' => e = .returned (.int .i64 (rcE P)) ∧ Below w.heap.size w w' := by
  obtain ⟨hP1, hP2⟩ := hP
  by_cases h1 : P < 2
  · have HB := Lib.hid (prB_f (.inl h1))
    have d1 : decide (P < 2) = true := decide_eq_true h1
    go_enter Tryz.func61, Tryz.ntmps61
    go_wp2_with fail
    go_ret
    exact ⟨by rw [rcE_f HB.out]; first | rfl | simp, (Below.refl _ _).alloc (Nat.le_refl _) _⟩
  by_cases h2 : 65521 < P
  · have HB := Lib.hid (prB_f (.inr h2))
    have d1 : decide (P < 2) = false := decide_eq_false h1
    have d2 : decide (65521 < P) = true := decide_eq_true h2
    go_enter Tryz.func61, Tryz.ntmps61
    go_wp2_with fail
    go_ret
    exact ⟨by rw [rcE_f HB.out]; first | rfl | simp, (Below.refl _ _).alloc (Nat.le_refl _) _⟩
  have h3 : 2 ≤ P := by omega
  have h4 : P ≤ 65521 := by omega
  have d1 : decide (P < 2) = false := decide_eq_false h1
  have d2 : decide (65521 < P) = false := decide_eq_false h2
  clear h1 h2
  go_enter Tryz.func61, Tryz.ntmps61
  obtain ⟨F, eF⟩ : ∃ F, F = w.heap.size := ⟨_, rfl⟩
  obtain ⟨w1, ew⟩ : ∃ w1 : World, w1 = w.alloc (.cells #[.int .i64 P] 31) := ⟨_, rfl⟩
  have HW1 : Hid (w.alloc (.cells #[.int .i64 P] 31) = w1) := ew.symm
  have HB1 : Hid (Below w.heap.size w w1) := (show Hid _ from by rw [ew]; exact (Below.refl _ w).alloc (Nat.le_refl _) _)
  have HF1 : Hid (w1.heap[F]? = some (.cells #[.int .i64 P] 31 (0, 0))) := (show Hid _ from by show _ = _; rw [ew, eF]; exact heap_alloc_new w _)
  go_upto_region 1 with fail
  rw [HW1.out, ← eF]
  clear ew eF
  have f0 : w1.cell? ⟨F, 0, none⟩ = some (.int .i64 P) := cell_of_row w1 F 0 _ _ _ HF1.out
  go_wp2_with fail
  go_loopw [3] (fun i wr => ∃ d : Nat, 2 ≤ d ∧ d ≤ 256 ∧ i = .int .i64 d ∧ (∀ e : Nat, 2 ≤ e → e < d → P % e ≠ 0) ∧ w1 = wr) (fun i _ => 300 - (intOf i).toNat)
  case atStart => exact ⟨2, by omega, by omega, rfl, fun e h1 h2 => absurd h1 (by omega), rfl⟩
  case round =>
    obtain ⟨d, hd1, hd2, rfl, hno, rfl⟩ := hrel
    have HN := Lib.hid hno
    clear hno
    have hdd : (d : Int) * d ≤ 65536 := by
      have : (d : Int) * d ≤ 256 * 256 := Int.mul_le_mul (by omega) (by omega) (by omega) (by omega)
      omega
    have hdn : 0 ≤ (d : Int) * d := Int.mul_nonneg (by omega) (by omega)
    have wdd : IntKind.i64.wrap ((d : Int) * d) = (d : Int) * d := by exact IntWalk.i64_in _ (by omega)
    have wdp : IntKind.i64.wrap ((d : Int) + 1) = (d : Int) + 1 := by exact IntWalk.i64_in _ (by omega)
    have wP : IntKind.i64.wrap (P % (d : Int)) = P % (d : Int) := by
      have h1 := Int.emod_nonneg P (show (d : Int) ≠ 0 by omega)
      have h2 := Int.emod_lt_of_pos P (show (0 : Int) < d by omega)
      exact IntWalk.i64_in _ (by omega)
    have wtm : P.tmod (d : Int) = P % (d : Int) := Int.tmod_eq_emod_of_nonneg (by omega)
    have hd0 : ¬ d = 0 := by omega
    have hd0' : ¬ (d : Int) = 0 := by omega
    by_cases hc : (d : Int) * d ≤ P
    · have dc : decide ((d : Int) * d ≤ P) = true := decide_eq_true hc
      have hd3 : d < 256 := by
        rcases Nat.lt_or_ge d 256 with h | h
        · exact h
        · have h5 : (256 : Int) * 256 ≤ (d : Int) * d := Int.mul_le_mul (by omega) (by omega) (by omega) (by omega)
          omega
      by_cases hm : P % d = 0
      · have HB := Lib.hid (prB_div hd1 hc hm)
        have hb1 : (P % (d : Int) == 0) = true := by rw [beq_iff_eq]; exact hm
        clear hm
        go_wp2_with fail
        go_ret
        exact ⟨by rw [rcE_f HB.out]; first | rfl | simp, HB1.out⟩
      · have hb1 : (P % (d : Int) == 0) = false := by rw [beq_eq_false_iff_ne]; exact hm
        have HM := Lib.hid hm
        clear hm
        go_wp2_with fail
        go_roundw
        case rel => exact ⟨d + 1, by omega, by omega, by go_num, fun e h1 h2 => by
          by_cases h : e = d
          · subst h; exact HM.out
          · exact HN.out e h1 (by omega), by first | trivial | rfl⟩
        case measure => simp [intOf]; omega
    · have dc : decide ((d : Int) * d ≤ P) = false := decide_eq_false hc
      have HB : Hid (prB P = true) := prB_of h3 h4 (fun e h1 h2 => by
        refine HN.out e h1 ?_
        rcases Nat.lt_or_ge e d with h | h
        · exact h
        · have h5 : (d : Int) * d ≤ (e : Int) * e := Int.mul_le_mul (by omega) (by omega) (by omega) (by omega)
          omega)
      clear hc
      go_wp2_with fail
      go_ret
      exact ⟨by rw [rcE_t HB.out]; first | rfl | simp, HB1.out⟩
def inB (P : Int) (l : List Int) : Bool := prB P && els P l
theorem els_take_succ {P : Int} {l : List Int} {j : Nat} (h : j < l.length) : els P (l.take (j + 1)) = (els P (l.take j) && el P l[j]) := by
  rw [← List.take_append_getElem h]
  unfold els
  rw [List.all_append]; simp
set_option maxHeartbeats 2000000 in
theorem rin_any (P : Int) (l : List Int) (v : Value) (w : World) (hP : i64r P) (h : SI w v l) :
    Calls Tryz.prog 62 #[.agg #[.int .i64 P], v] w fun e w' => e = .returned (.bool (inB P l)) ∧ Below w.heap.size w w' := by
  obtain ⟨A, c, rfl, hcl, hcm, hr, ha⟩ := h
  have HA := Lib.hid ha
  clear ha hr
  go_enter Tryz.func62, Tryz.ntmps62
  obtain ⟨F, eF⟩ : ∃ F, F = w.heap.size := ⟨_, rfl⟩
  obtain ⟨w1, ew⟩ : ∃ w1 : World, w1 = w.alloc (.cells #[.int .i64 P] 31) := ⟨_, rfl⟩
  have HW1 : Hid (w.alloc (.cells #[.int .i64 P] 31) = w1) := ew.symm
  have HB1 : Hid (Below w.heap.size w w1) := (show Hid _ from by rw [ew]; exact (Below.refl _ w).alloc (Nat.le_refl _) _)
  have HF1 : Hid (w1.heap[F]? = some (.cells #[.int .i64 P] 31 (0, 0))) := (show Hid _ from by show _ = _; rw [ew, eF]; exact heap_alloc_new w _)
  go_upto_region 1 with fail
  rw [HW1.out, ← eF]
  clear ew eF
  have f0 : w1.cell? ⟨F, 0, none⟩ = some (.int .i64 P) := cell_of_row w1 F 0 _ _ _ HF1.out
  go_wp2_with fail
  (with_reducible refine (rcheck_any P _ hP).mono ?_)
  rintro e w2 ⟨rfl, hb2⟩
  have HBw : Hid (Below w.heap.size w w2) := HB1.out.trans (hb2.mono HB1.out.size)
  have HF2 : Hid (w2.heap[F]? = some (.cells #[.int .i64 P] 31 (0, 0))) := (hb2.block F (heap_of_cells HF1.out)).trans HF1.out
  clear hb2 f0
  cases hp : prB P with
  | false =>
    have HP' : Hid (inB P l = false) := (show Hid _ from by show _ = _; unfold inB; rw [hp]; rfl)
    rw [rcE_f hp]
    have d0 : ((9 : Int) != 0) = true := rfl
    clear hp
    go_wp2_with fail
    go_ret
    exact ⟨by rw [HP'.out]; first | rfl | simp, HBw.out⟩
  | true =>
    have HP := Lib.hid hp
    rw [rcE_t hp]
    have d0 : ((0 : Int) != 0) = false := rfl
    clear hp
    have f0 : w2.cell? ⟨F, 0, none⟩ = some (.int .i64 P) := cell_of_row w2 F 0 _ _ _ HF2.out
    go_wp2_with fail
    go_loopw [12] (fun iv wr => ∃ j : Nat, j ≤ l.length ∧ iv = .int .i64 j ∧ els P (l.take j) = true ∧ w2 = wr) (fun iv _ => l.length - (intOf iv).toNat)
    case atStart => exact ⟨0, Nat.zero_le _, rfl, by simp [els], rfl⟩
    case round =>
      obtain ⟨j, hj, rfl, hel, rfl⟩ := hrel
      have HEL := Lib.hid hel
      clear hel
      by_cases hlj : j < l.length
      · have dj : decide (j < l.length) = true := decide_eq_true hlj
        obtain ⟨b, off, rfl, hbw, hc⟩ := HA.out (by omega)
        have cj := (HBw.out.cell (p := ⟨b, off + j, none⟩) hbw).trans (hc j hlj)
        obtain ⟨x, ex⟩ : ∃ x, x = l[j] := ⟨_, rfl⟩
        rw [← ex] at cj
        have HX := Lib.hid ex
        clear hc ex
        by_cases hx0 : x < 0
        · have HN : Hid (inB P l = false) := (show Hid _ from by
            show _ = _
            unfold inB
            rw [els_no hlj (by rw [← HX.out]; unfold el; simp; omega), Bool.and_false])
          have d1 : decide (x < 0) = true := decide_eq_true hx0
          go_wp2_with fail
          go_ret
          exact ⟨by rw [HN.out]; first | rfl | simp, HBw.out⟩
        · have d1 : decide (x < 0) = false := decide_eq_false hx0
          by_cases hxP : P ≤ x
          · have HN : Hid (inB P l = false) := (show Hid _ from by
              show _ = _
              unfold inB
              rw [els_no hlj (by rw [← HX.out]; unfold el; simp; omega), Bool.and_false])
            have d2 : decide (P ≤ x) = true := decide_eq_true hxP
            go_wp2_with fail
            go_ret
            exact ⟨by rw [HN.out]; first | rfl | simp, HBw.out⟩
          · have d2 : decide (P ≤ x) = false := decide_eq_false hxP
            go_wp2_with fail
            go_roundw
            case rel => exact ⟨j + 1, by omega, by go_num, by rw [els_take_succ hlj, HEL.out, ← HX.out]; unfold el; simp; omega, by first | trivial | rfl⟩
            case measure => simp [intOf]; omega
      · have dj : decide (j < l.length) = false := decide_eq_false hlj
        have hjl : j = l.length := by omega
        have HY : Hid (inB P l = true) := (show Hid _ from by
          have h := HEL.out
          rw [hjl, List.take_length] at h
          show _ = _
          unfold inB; rw [HP.out, h]; rfl)
        clear hjl
        go_wp2_with fail
        go_ret
        exact ⟨by rw [HY.out]; first | rfl | simp, HBw.out⟩
end Go.Proofs.YtoiabanpnkpbhaaGreatDoor
