/- Joined: St Rf3 Cm. -/
import Derived.Stop.Asserts
import Derived.LaidEql
import Derived.RowKitTokens
import Derived.Laws.EntriesVeiled
import Derived.Deep.RegionHeld3
import Derived.Deep.QuietTactic
import Derived.BigQuiet
import Derived.Deep.DeepCutAuto
import Derived.Lib.Hide
import Derived.Deep.RegionWith
import Derived.Deep.RegionLaw
import Derived.BigRegion
import Derived.Sort.OwnSortedInts
import Derived.Lib.SlicesCompact
import Derived.Test.YtbgabipngdillaaJ17
import Derived.Test.YtbgabipngdillaaJ03
import Derived.Test.YtbgabipngdillaaJ09
import Derived.Test.YtbgabipngdillaaJ15
import Derived.Test.YtbgabipngdillaaJ14
import Derived.Test.YtbgabipngdillaaJ16
import Derived.Test.YtbgabipngdillaaJ05
import Derived.Test.YtbgabipngdillaaJ04
import Derived.Test.YtbgabipngdillaaJ01
import Derived.Test.YtbgabipngdillaaJ07
import Derived.Test.YtbgabipngdillaaJ06
import Derived.Test.YtbgabipngdillaaJ08
import Derived.Test.YtbgabipngdillaaJ11
import Derived.Test.YtbgabipngdillaaJ10
namespace Go.Proofs.Ytbgabipngdillaa
open Go.RowKit

/-- a slice of ints outside the blocks X and Y -/
def SX (W : World) (X Y : Option Nat) (v : Value) (l : List Int) : Prop :=
  ∃ A c, v = .slice A l.length c ∧ l.length ≤ c ∧ c ≤ 9223372036854775807 ∧ (∀ x ∈ l, i64r x) ∧
    (0 < l.length → ∃ b off, A = some ⟨b, off, none⟩ ∧ b < W.heap.size ∧ some b ≠ X ∧ some b ≠ Y ∧ ∀ j (h : j < l.length), W.cell? ⟨b, off + j, none⟩ = some (.int .i64 l[j]))
theorem SX.keep {W W' : World} {X Y X' Y' : Option Nat} {v : Value} {l : List Int} (h : SX W X Y v l) (hs : W.heap.size ≤ W'.heap.size)
    (hb : ∀ b, b < W.heap.size → some b ≠ X → some b ≠ Y → W'.heap[b]? = W.heap[b]? ∧ some b ≠ X' ∧ some b ≠ Y') : SX W' X' Y' v l := by
  obtain ⟨A, c, rfl, hc, hm, hr, ha⟩ := h
  refine ⟨A, c, rfl, hc, hm, hr, fun h0 => ?_⟩
  obtain ⟨b, off, rfl, hbl, hx, hy, hcell⟩ := ha h0
  obtain ⟨e, hx', hy'⟩ := hb b hbl hx hy
  exact ⟨b, off, rfl, by omega, hx', hy', fun j hj => (World.cell?_of_block e).trans (hcell j hj)⟩
theorem own_blk {w w' : World} {base e size n : Nat} {v : Value} {xs : List Value} (h : w.ownsRow base e size v n xs) (hk : ∀ b, v.ownBlock = some b → w'.heap[b]? = w.heap[b]?) : w'.ownsRow base e size v n xs := by
  refine ⟨h.1, ?_⟩
  rcases h.2 with hn | ⟨b, cap, cur, rfl, hb, hg, rest⟩
  · exact .inl hn
  · exact .inr ⟨b, cap, cur, rfl, hb, (hk b rfl).trans hg, rest⟩
end Go.Proofs.Ytbgabipngdillaa

namespace Go.Proofs.Ytbgabipngdillaa
open Go.RowKit

def rcE (P : Int) : Int := if prB P = true then 0 else 9
theorem rcE_t {P : Int} (h : prB P = true) : rcE P = 0 := if_pos h
theorem rcE_f {P : Int} (h : prB P = false) : rcE P = 9 := by unfold rcE; rw [h]; rfl
set_option maxHeartbeats 2000000 in
theorem rcheck_any (P : Int) (w : World) (hP : i64r P) :
    Calls Try.prog 63 #[.agg #[.int .i64 P]] w fun e w' => e = .returned (.int .i64 (rcE P)) ∧ Below w.heap.size w w' := by
  obtain ⟨hP1, hP2⟩ := hP
  by_cases h1 : P < 2
  · have HB := Lib.hid (prB_f (.inl h1))
    have d1 : decide (P < 2) = true := decide_eq_true h1
    go_enter Try.func63, Try.ntmps63
    go_wp2_with fail
    go_ret
    exact ⟨by rw [rcE_f HB.out]; first | rfl | simp, (Below.refl _ _).alloc (Nat.le_refl _) _⟩
  by_cases h2 : 65521 < P
  · have HB := Lib.hid (prB_f (.inr h2))
    have d1 : decide (P < 2) = false := decide_eq_false h1
    have d2 : decide (65521 < P) = true := decide_eq_true h2
    go_enter Try.func63, Try.ntmps63
    go_wp2_with fail
    go_ret
    exact ⟨by rw [rcE_f HB.out]; first | rfl | simp, (Below.refl _ _).alloc (Nat.le_refl _) _⟩
  have h3 : 2 ≤ P := by omega
  have h4 : P ≤ 65521 := by omega
  have d1 : decide (P < 2) = false := decide_eq_false h1
  have d2 : decide (65521 < P) = false := decide_eq_false h2
  clear h1 h2
  go_enter Try.func63, Try.ntmps63
  obtain ⟨F, eF⟩ : ∃ F, F = w.heap.size := ⟨_, rfl⟩
  obtain ⟨w1, ew⟩ : ∃ w1 : World, w1 = w.alloc (.cells #[.int .i64 P] 26) := ⟨_, rfl⟩
  have HW1 : Hid (w.alloc (.cells #[.int .i64 P] 26) = w1) := ew.symm
  have HB1 : Hid (Below w.heap.size w w1) := (show Hid _ from by rw [ew]; exact (Below.refl _ w).alloc (Nat.le_refl _) _)
  have HF1 : Hid (w1.heap[F]? = some (.cells #[.int .i64 P] 26 (0, 0))) := (show Hid _ from by show _ = _; rw [ew, eF]; exact heap_alloc_new w _)
  go_upto_region 1 with fail
  rw [HW1.out, ← eF]
  clear ew eF
  have f0 : w1.cell? ⟨F, 0, none⟩ = some (.int .i64 P) := cell_of_row w1 F 0 _ _ _ HF1.out
  go_wp2_with fail
  go_loopw [3] (fun i wr => ∃ d : Nat, 2 ≤ d ∧ d ≤ 256 ∧ i = .int .i64 d ∧ (∀ e : Nat, 2 ≤ e → e < d → P % e ≠ 0) ∧ w1 = wr) (fun i _ => 300 - (intOf i).toNat)
  case atStart => exact ⟨2, by omega, by omega, rfl, fun e h1 h2 => absurd h1 (by omega), rfl⟩
  case round =>
    obtain ⟨d, hd1, hd2, rfl, hno, rfl⟩ := hrel
    have HN := Lib.hid hno
    clear hno
    have hdd : (d : Int) * d ≤ 65536 := by
      have : (d : Int) * d ≤ 256 * 256 := Int.mul_le_mul (by omega) (by omega) (by omega) (by omega)
      omega
    have hdn : 0 ≤ (d : Int) * d := Int.mul_nonneg (by omega) (by omega)
    have wdd : IntKind.i64.wrap ((d : Int) * d) = (d : Int) * d := by exact IntWalk.i64_in _ (by omega)
    have wdp : IntKind.i64.wrap ((d : Int) + 1) = (d : Int) + 1 := by exact IntWalk.i64_in _ (by omega)
    have wP : IntKind.i64.wrap (P % (d : Int)) = P % (d : Int) := by
      have h1 := Int.emod_nonneg P (show (d : Int) ≠ 0 by omega)
      have h2 := Int.emod_lt_of_pos P (show (0 : Int) < d by omega)
      exact IntWalk.i64_in _ (by omega)
    have wtm : P.tmod (d : Int) = P % (d : Int) := Int.tmod_eq_emod_of_nonneg (by omega)
    have hd0 : ¬ d = 0 := by omega
    have hd0' : ¬ (d : Int) = 0 := by omega
    by_cases hc : (d : Int) * d ≤ P
    · have dc : decide ((d : Int) * d ≤ P) = true := decide_eq_true hc
      have hd3 : d < 256 := by
        rcases Nat.lt_or_ge d 256 with h | h
        · exact h
        · have h5 : (256 : Int) * 256 ≤ (d : Int) * d := Int.mul_le_mul (by omega) (by omega) (by omega) (by omega)
          omega
      by_cases hm : P % d = 0
      · have HB := Lib.hid (prB_div hd1 hc hm)
        have hb1 : (P % (d : Int) == 0) = true := by rw [beq_iff_eq]; exact hm
        clear hm
        go_wp2_with fail
        go_ret
        exact ⟨by rw [rcE_f HB.out]; first | rfl | simp, HB1.out⟩
      · have hb1 : (P % (d : Int) == 0) = false := by rw [beq_eq_false_iff_ne]; exact hm
        have HM := Lib.hid hm
        clear hm
        go_wp2_with fail
        go_roundw
        case rel => exact ⟨d + 1, by omega, by omega, by go_num, fun e h1 h2 => by
          by_cases h : e = d
          · subst h; exact HM.out
          · exact HN.out e h1 (by omega), by first | trivial | rfl⟩
        case measure => simp [intOf]; omega
    · have dc : decide ((d : Int) * d ≤ P) = false := decide_eq_false hc
      have HB : Hid (prB P = true) := prB_of h3 h4 (fun e h1 h2 => by
        refine HN.out e h1 ?_
        rcases Nat.lt_or_ge e d with h | h
        · exact h
        · have h5 : (d : Int) * d ≤ (e : Int) * e := Int.mul_le_mul (by omega) (by omega) (by omega) (by omega)
          omega)
      clear hc
      go_wp2_with fail
      go_ret
      exact ⟨by rw [rcE_t HB.out]; first | rfl | simp, HB1.out⟩
def inB (P : Int) (l : List Int) : Bool := prB P && els P l
theorem els_take_succ {P : Int} {l : List Int} {j : Nat} (h : j < l.length) : els P (l.take (j + 1)) = (els P (l.take j) && el P l[j]) := by
  rw [← List.take_append_getElem h]
  unfold els
  rw [List.all_append]; simp
set_option maxHeartbeats 2000000 in
theorem rin_any (P : Int) (l : List Int) (v : Value) (w : World) (hP : i64r P) (h : SI w v l) :
    Calls Try.prog 64 #[.agg #[.int .i64 P], v] w fun e w' => e = .returned (.bool (inB P l)) ∧ Below w.heap.size w w' := by
  obtain ⟨A, c, rfl, hcl, hcm, hr, ha⟩ := h
  have HA := Lib.hid ha
  clear ha hr
  go_enter Try.func64, Try.ntmps64
  obtain ⟨F, eF⟩ : ∃ F, F = w.heap.size := ⟨_, rfl⟩
  obtain ⟨w1, ew⟩ : ∃ w1 : World, w1 = w.alloc (.cells #[.int .i64 P] 26) := ⟨_, rfl⟩
  have HW1 : Hid (w.alloc (.cells #[.int .i64 P] 26) = w1) := ew.symm
  have HB1 : Hid (Below w.heap.size w w1) := (show Hid _ from by rw [ew]; exact (Below.refl _ w).alloc (Nat.le_refl _) _)
  have HF1 : Hid (w1.heap[F]? = some (.cells #[.int .i64 P] 26 (0, 0))) := (show Hid _ from by show _ = _; rw [ew, eF]; exact heap_alloc_new w _)
  go_upto_region 1 with fail
  rw [HW1.out, ← eF]
  clear ew eF
  have f0 : w1.cell? ⟨F, 0, none⟩ = some (.int .i64 P) := cell_of_row w1 F 0 _ _ _ HF1.out
  go_wp2_with fail
  (with_reducible refine (rcheck_any P _ hP).mono ?_)
  rintro e w2 ⟨rfl, hb2⟩
  have HBw : Hid (Below w.heap.size w w2) := HB1.out.trans (hb2.mono HB1.out.size)
  have HF2 : Hid (w2.heap[F]? = some (.cells #[.int .i64 P] 26 (0, 0))) := (hb2.block F (heap_of_cells HF1.out)).trans HF1.out
  clear hb2 f0
  cases hp : prB P with
  | false =>
    have HP' : Hid (inB P l = false) := (show Hid _ from by show _ = _; unfold inB; rw [hp]; rfl)
    rw [rcE_f hp]
    have d0 : ((9 : Int) != 0) = true := rfl
    clear hp
    go_wp2_with fail
    go_ret
    exact ⟨by rw [HP'.out]; first | rfl | simp, HBw.out⟩
  | true =>
    have HP := Lib.hid hp
    rw [rcE_t hp]
    have d0 : ((0 : Int) != 0) = false := rfl
    clear hp
    have f0 : w2.cell? ⟨F, 0, none⟩ = some (.int .i64 P) := cell_of_row w2 F 0 _ _ _ HF2.out
    go_wp2_with fail
    go_loopw [12] (fun iv wr => ∃ j : Nat, j ≤ l.length ∧ iv = .int .i64 j ∧ els P (l.take j) = true ∧ w2 = wr) (fun iv _ => l.length - (intOf iv).toNat)
    case atStart => exact ⟨0, Nat.zero_le _, rfl, by simp [els], rfl⟩
    case round =>
      obtain ⟨j, hj, rfl, hel, rfl⟩ := hrel
      have HEL := Lib.hid hel
      clear hel
      by_cases hlj : j < l.length
      · have dj : decide (j < l.length) = true := decide_eq_true hlj
        obtain ⟨b, off, rfl, hbw, hc⟩ := HA.out (by omega)
        have cj := (HBw.out.cell (p := ⟨b, off + j, none⟩) hbw).trans (hc j hlj)
        obtain ⟨x, ex⟩ : ∃ x, x = l[j] := ⟨_, rfl⟩
        rw [← ex] at cj
        have HX := Lib.hid ex
        clear hc ex
        by_cases hx0 : x < 0
        · have HN : Hid (inB P l = false) := (show Hid _ from by
            show _ = _
            unfold inB
            rw [els_no hlj (by rw [← HX.out]; unfold el; simp; omega), Bool.and_false])
          have d1 : decide (x < 0) = true := decide_eq_true hx0
          go_wp2_with fail
          go_ret
          exact ⟨by rw [HN.out]; first | rfl | simp, HBw.out⟩
        · have d1 : decide (x < 0) = false := decide_eq_false hx0
          by_cases hxP : P ≤ x
          · have HN : Hid (inB P l = false) := (show Hid _ from by
              show _ = _
              unfold inB
              rw [els_no hlj (by rw [← HX.out]; unfold el; simp; omega), Bool.and_false])
            have d2 : decide (P ≤ x) = true := decide_eq_true hxP
            go_wp2_with fail
            go_ret
            exact ⟨by rw [HN.out]; first | rfl | simp, HBw.out⟩
          · have d2 : decide (P ≤ x) = false := decide_eq_false hxP
            go_wp2_with fail
            go_roundw
            case rel => exact ⟨j + 1, by omega, by go_num, by rw [els_take_succ hlj, HEL.out, ← HX.out]; unfold el; simp; omega, by first | trivial | rfl⟩
            case measure => simp [intOf]; omega
      · have dj : decide (j < l.length) = false := decide_eq_false hlj
        have hjl : j = l.length := by omega
        have HY : Hid (inB P l = true) := (show Hid _ from by
          have h := HEL.out
          rw [hjl, List.take_length] at h
          show _ = _
          unfold inB; rw [HP.out, h]; rfl)
        clear hjl
        go_wp2_with fail
        go_ret
        exact ⟨by rw [HY.out]; first | rfl | simp, HBw.out⟩
end Go.Proofs.Ytbgabipngdillaa

namespace Go.Proofs.Ytbgabipngdillaa
open Go.RowKit

def Cm4 (P : Int) (L : List Int) (x : Int) (r : List Int) (b : Nat) (w5 : World) (iv : Value) (wr : World) : Prop :=
  ∃ k : Nat, k ≤ r.length ∧ iv = .int .i64 k ∧ BK wr b (addT P L 0 x (r.take k)) ∧ Below w5.heap.size w5 wr
end Go.Proofs.Ytbgabipngdillaa
