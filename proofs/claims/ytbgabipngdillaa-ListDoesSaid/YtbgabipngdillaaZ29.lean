/- Joined: Rj. -/
import Derived.Stop.Asserts
import Derived.LaidEql
import Derived.RowKitTokens
import Derived.Laws.EntriesVeiled
import Derived.Deep.RegionHeld3
import Derived.Deep.QuietTactic
import Derived.BigQuiet
import Derived.Deep.DeepCutAuto
import Derived.Lib.Hide
import Derived.Deep.RegionWith
import Derived.Deep.RegionLaw
import Derived.BigRegion
import Derived.Sort.OwnSortedInts
import Derived.Lib.SlicesCompact
import Derived.Test.YtbgabipngdillaaZ27
import Derived.Test.YtbgabipngdillaaZ26
import Derived.Test.YtbgabipngdillaaZ20
import Derived.Test.YtbgabipngdillaaZ21
import Derived.Test.YtbgabipngdillaaZ24
import Derived.Test.YtbgabipngdillaaZ22
import Derived.Test.YtbgabipngdillaaZ23
import Derived.Test.YtbgabipngdillaaZ25
import Derived.Test.YtbgabipngdillaaZ28
import Derived.Test.YtbgabipngdillaaZ02
import Derived.Test.YtbgabipngdillaaZ01
import Derived.Test.YtbgabipngdillaaZ05
import Derived.Test.YtbgabipngdillaaZ04
import Derived.Test.YtbgabipngdillaaZ03
import Derived.Test.YtbgabipngdillaaZ07
import Derived.Test.YtbgabipngdillaaZ06
import Derived.Test.YtbgabipngdillaaZ18
namespace Go.Proofs.Ytbgabipngdillaa
open Go.RowKit

set_option maxRecDepth 100000 in
set_option maxHeartbeats 4000000 in
theorem rlists_any (P : Int) (ls : List (List Int)) (v : Value) (w : World) (hP : i64r P) (h : SL w v ls) (hz : ls.length ≤ 1000000) :
    Calls Try.prog 48 #[.agg #[.int .i64 P], v] w fun e w' => e = .returned (.int .i64 (opE P ls)) ∧ Below w.heap.size w w' := by
  obtain ⟨Ar, cr, rfl, hat⟩ := h.at
  have HAT := Lib.hid hat
  clear hat h
  go_enter Try.func48, Try.ntmps48
  obtain ⟨F, eF⟩ : ∃ F, F = w.heap.size := ⟨_, rfl⟩
  obtain ⟨w1, ew1⟩ : ∃ w1 : World, w1 = w.alloc (.cells #[.int .i64 P] 26) := ⟨_, rfl⟩
  have HWw1 : Hid (w.alloc (.cells #[.int .i64 P] 26) = w1) := ew1.symm
  have HAw1 : Hid (Below w.heap.size w w1) := (show Hid _ from by rw [ew1]; exact (Below.refl _ w).alloc (Nat.le_refl _) _)
  have HF0w1 : Hid (w1.heap[F]? = some (.cells #[.int .i64 P] 26 (0, 0))) := (show Hid _ from by show _ = _; rw [ew1, eF]; exact heap_alloc_new w _)
  have HXC : Hid (∀ W, Below w1.heap.size w1 W → W.cell? ⟨F, 0, none⟩ = some (.int .i64 P)) := (show Hid _ from fun W hg => by
    have hF0 := (hg.block F (heap_of_cells HF0w1.out)).trans HF0w1.out
    exact (cell_of_row W F 0 _ _ _ hF0))
  go_upto_region 1 with fail
  rw [HWw1.out, ← eF]
  clear ew1 eF
  have f0 := HXC.out w1 (Below.refl _ _)
  go_wp2_with fail
  (with_reducible refine (rcheck_any P _ hP).mono ?_)
  rintro e w2 ⟨rfl, hb2⟩
  have HB2 : Hid (Below w1.heap.size w1 w2) := hb2
  clear hb2 f0
  cases hp : prB P with
  | false =>
    have hrc : rcE P = 9 := rcE_f hp
    have HE : Hid (opE P ls = 9) := (opE_p hp).1
    rw [hrc]
    clear hp hrc
    go_wp2_with fail
    go_ret
    exact ⟨by rw [HE.out]; rfl, HAw1.out.trans (HB2.out.mono HAw1.out.size)⟩
  | true =>
    have hrc : rcE P = 0 := rcE_t hp
    have HP := Lib.hid hp
    rw [hrc]
    clear hp hrc
    go_wp2_with fail
    go_loopw [17] (fun iv wr => ∃ k : Nat, k ≤ ls.length ∧ iv = .int .i64 k ∧ (∀ j (_ : j < k) (h : j < ls.length), els P ls[j] = true) ∧ Below w1.heap.size w1 wr) (fun iv _ => ls.length - (intOf iv).toNat)
    case atStart => exact ⟨0, Nat.zero_le _, rfl, fun j hj => by omega, HB2.out⟩
    case round =>
      obtain ⟨k, hk, rfl, hel, hb⟩ := hrel
      have HEL := Lib.hid hel
      have HB := Lib.hid hb
      clear hel hb
      by_cases hlk : k < ls.length
      · have dk : decide (k < ls.length) = true := decide_eq_true hlk
        obtain ⟨bh, oh, B, d, eA, hW⟩ := HAT.out k hlk
        subst eA
        obtain ⟨ck, hsk⟩ := hW wr (HAw1.out.trans (HB.out.mono HAw1.out.size))
        have HSK := Lib.hid hsk
        have f0 := HXC.out wr HB.out
        obtain ⟨q, eq⟩ : ∃ q, q = ls[k].length := ⟨_, rfl⟩
        rw [← eq] at ck HSK
        clear hW hsk eq
        go_wp2_with fail
        (with_reducible refine (rin_any P _ _ wr hP HSK.out).mono ?_)
        rintro e w3 ⟨rfl, hb3⟩
        have HB3 : Hid (Below w1.heap.size w1 w3) := (show Hid _ from HB.out.trans (hb3.mono HB.out.size))
        clear hb3 f0 ck
        have hin : inB P ls[k] = els P ls[k] := by unfold inB; rw [HP.out]; rfl
        rw [hin]
        cases he : els P ls[k] with
        | false =>
          have HE : Hid (opE P ls = 9) := (opE_n HP.out hlk he).1
          clear he hin
          go_wp2_with fail
          go_ret
          exact ⟨by rw [HE.out]; rfl, HAw1.out.trans (HB3.out.mono HAw1.out.size)⟩
        | true =>
          have HE := Lib.hid he
          clear he hin
          go_wp2_with fail
          go_roundw
          case rel => exact ⟨k + 1, by omega, by go_num, fun j hj h => by
            rcases Nat.lt_or_ge j k with h1 | h1
            · exact HEL.out j h1 h
            · have e : j = k := by omega
              subst e; exact HE.out, HB3.out⟩
          case measure => simp [intOf]; omega
      · have dk : decide (k < ls.length) = false := decide_eq_false hlk
        have HEND := Lib.hid (opE_end (P := P) HP.out fun j h => HEL.out j (by omega) h)
        clear hk
        go_wp2_with fail
        go_loopw [28] (fun iv wz => ∃ j : Nat, j ≤ ls.length ∧ iv = .int .i64 j ∧ longB (ls.take j) = false ∧ wr = wz) (fun iv _ => ls.length - (intOf iv).toNat)
        case atStart => exact ⟨0, Nat.zero_le _, rfl, by simp [longB], rfl⟩
        case round =>
          obtain ⟨j, hj, rfl, hlg, rfl⟩ := hrel
          have HLG := Lib.hid hlg
          clear hlg
          by_cases hlj : j < ls.length
          · have dj : decide (j < ls.length) = true := decide_eq_true hlj
            obtain ⟨bh, oh, B, d, eA, hW⟩ := HAT.out j hlj
            subst eA
            obtain ⟨ck, _⟩ := hW wr (HAw1.out.trans (HB.out.mono HAw1.out.size))
            have HSN := Lib.hid (longB_snoc ls j hlj)
            obtain ⟨q, eq⟩ : ∃ q, q = ls[j].length := ⟨_, rfl⟩
            rw [← eq] at ck HSN
            clear hW eq
            by_cases hq : 512 < q
            · have dq : decide ((512 : Int) < (q : Int)) = true := decide_eq_true (by omega)
              have dq' : decide (512 < q) = true := decide_eq_true hq
              have HE : Hid (opE P ls = 4) := (show Hid _ from (HEND.out.1 (by
                have h1 := HSN.out
                rw [dq', Bool.or_true] at h1
                unfold longB at h1 ⊢
                rw [List.any_eq_true] at h1 ⊢
                obtain ⟨x, hx, h2⟩ := h1
                exact ⟨x, List.mem_of_mem_take hx, h2⟩)).1)
              clear hq
              go_wp2_with fail
              go_ret
              exact ⟨by rw [HE.out]; rfl, HAw1.out.trans (HB.out.mono HAw1.out.size)⟩
            · have dq : decide ((512 : Int) < (q : Int)) = false := decide_eq_false (by omega)
              have dq' : decide (512 < q) = false := decide_eq_false hq
              have HL2 : Hid (longB (ls.take (j + 1)) = false) := (show Hid _ from by show _ = _; rw [HSN.out, HLG.out, dq']; rfl)
              clear hq
              go_wp2_with fail
              go_roundw
              case rel => exact ⟨j + 1, by omega, by go_num, HL2.out, by simp⟩
              case measure => simp [intOf]; omega
          · have dj : decide (j < ls.length) = false := decide_eq_false hlj
            have HE : Hid (opE P ls = 0) := (show Hid _ from (HEND.out.2 (by
              have h := HLG.out
              rw [List.take_of_length_le (by omega)] at h; exact h)).1)
            go_wp2_with fail
            go_ret
            exact ⟨by rw [HE.out]; rfl, HAw1.out.trans (HB.out.mono HAw1.out.size)⟩

/-- one more factor of the node polynomial, as the reference reckons it -/
theorem wide_step {P x v : Int} (t : List Int) (k : Nat) (hk : k + 1 < t.length) :
    (t.set (k + 1) ((gd t (k + 1) + v) % P)).set k ((gd t k + (P - x) * v) % P) = addT P t k v [(0 - x + P) % P, 1] := by
  refine list_ext_gd (by simp [addT_len]) fun j hj => ?_
  have hj' : j < t.length := by simpa using hj
  rw [addT_gd _ _ _ _ _ (by simp; omega), gd_set _ _ _ _ (by simp; omega), gd_set _ _ _ _ (by omega)]
  have hx1 : (P : Int) ∣ v * ((0 - x + P) % P) - (P - x) * v := by
    have h := Int.emod_add_mul_ediv (0 - x + P) P
    refine ⟨-(v * ((0 - x + P) / P)), ?_⟩
    have e : (0 - x + P) % P = (P - x) - P * ((0 - x + P) / P) := by omega
    rw [e, Int.mul_sub, Int.mul_neg, Int.mul_comm v (P - x), Int.mul_left_comm v P]
    omega
  by_cases h1 : j = k
  · subst h1
    rw [if_pos rfl, if_pos (by simp)]
    have e : gd [(0 - x + P) % P, 1] (j - j) = (0 - x + P) % P := by rw [Nat.sub_self]; rfl
    rw [e]
    exact (Int.emod_eq_emod_iff_emod_sub_eq_zero.2 (Int.emod_eq_zero_of_dvd (by
      have e2 : gd t j + (P - x) * v - (gd t j + v * ((0 - x + P) % P)) = -(v * ((0 - x + P) % P) - (P - x) * v) := by omega
      rw [e2]; exact Int.dvd_neg.2 hx1)))
  · rw [if_neg h1]
    by_cases h2 : j = k + 1
    · subst h2
      rw [if_pos rfl, if_pos (by simp)]
      have e : gd [(0 - x + P) % P, 1] (k + 1 - k) = 1 := by rw [Nat.add_sub_cancel_left]; rfl
      rw [e, Int.mul_one]
    · rw [if_neg h2, if_neg (by simp; omega)]
theorem nz2 {l : List (Int × Int)} (hn : (shX l).Nodup) (he : els 2 (shX l) = true) {k : Nat} (hk : k < l.length) : val 2 (newt 2 (l.take k)).2 l[k].1 ≠ 0 := by
  have hX : ∀ j (h : j < l.length), 0 ≤ l[j].1 ∧ l[j].1 < 2 := fun j h => el_t (els_all he _ (List.mem_map.2 ⟨l[j], List.getElem_mem h, rfl⟩))
  have hD : ∀ i j (hi : i < l.length) (hj : j < l.length), i ≠ j → l[i].1 ≠ l[j].1 := fun i j hi hj hne e => by
    have h1 : (shX l)[i]'(by rw [shX_len]; exact hi) = (shX l)[j]'(by rw [shX_len]; exact hj) := by simp [shX, e]
    exact hne ((List.getElem_inj hn).1 h1)
  match k, hk with
  | 0, hk => simp [newt, val]
  | 1, hk =>
    have e : l.take 1 = [l[0]] := by
      rw [List.take_succ_eq_append_getElem (by omega)]; rfl
    have h0 := hX 0 (by omega)
    have h1 := hX 1 hk
    have hne := hD 1 0 hk (by omega) (by omega)
    rw [e]
    obtain ⟨a, ea⟩ : ∃ a, a = l[0] := ⟨_, rfl⟩
    obtain ⟨x, ex⟩ : ∃ x, x = l[1].1 := ⟨_, rfl⟩
    rw [← ea] at h0 hne ⊢
    rw [← ex] at h1 hne ⊢
    obtain ⟨a1, a2⟩ := a
    have hc : (a1 = 0 ∧ x = 1) ∨ (a1 = 1 ∧ x = 0) := by
      have h3 : a1 ≠ x := fun e => hne e.symm
      have h4 : 0 ≤ a1 ∧ a1 < 2 := h0
      omega
    rcases hc with ⟨rfl, rfl⟩ | ⟨rfl, rfl⟩ <;> simp [newt, stepN, timesP, addT, val, zeros, gd, List.range_succ]
  | k + 2, hk =>
    exfalso
    have h0 := hX 0 (by omega)
    have h1 := hX 1 (by omega)
    have h2 := hX 2 (by omega)
    have d1 := hD 0 1 (by omega) (by omega) (by omega)
    have d2 := hD 0 2 (by omega) (by omega) (by omega)
    have d3 := hD 1 2 (by omega) (by omega) (by omega)
    omega
def Rj2 (xs : List Int) (w4 : World) (iv : Value) (wr : World) : Prop :=
  ∃ k : Nat, k ≤ xs.length ∧ iv = .int .i64 k ∧ (xs.take k).Nodup ∧ Below w4.heap.size w4 wr
def Rj3 (P x : Int) (s2 : List Int) (b : Nat) (w6 : World) (iv : Value) (wr : World) : Prop :=
  ∃ k : Nat, k ≤ s2.length ∧ iv = .int .i64 k ∧ BK wr b (timesK P s2 [(0 - x + P) % P, 1] k) ∧ Below w6.heap.size w6 wr
theorem BK.si0 {w : World} {b : Nat} {l : List Int} (h : BK w b l) (hr : ∀ x ∈ l, i64r x) (hl : l.length ≤ 1000000) : SI w (.slice (some ⟨b, 0, none⟩) l.length l.length) l := SI.of_own (BK.own h (base := 0) (by omega) hl) hr
theorem SI_nil' (w : World) : SI w (.slice none 0 0) [] := SI.of_own (base := 0) (e := 3) (World.ownsRow_nil _ _ _ _) (fun x hx => by simp at hx)
theorem mul_bd' {a b P : Int} (ha : 0 ≤ a ∧ a ≤ P) (hb : 0 ≤ b ∧ b < P) (hP : P ≤ 65521) : 0 ≤ a * b ∧ a * b ≤ 4293001441 := by
  have h0 : 0 ≤ a * b := Int.mul_nonneg ha.1 hb.1
  have h1 : a * b ≤ P * P := Int.mul_le_mul ha.2 (by omega) hb.1 (by omega)
  have h2 : P * P ≤ 65521 * 65521 := Int.mul_le_mul hP hP (by omega) (by omega)
  omega
theorem cell_blk {w : World} {a : Addr} {v : Value} (h : w.cell? a = some v) : a.block < w.heap.size := by
  unfold World.cell? at h
  split at h
  · rename_i e; exact (Array.getElem?_eq_some_iff.1 e).1
  · cases h
theorem nodup_take {xs : List Int} {k : Nat} (hk : k < xs.length) (h : (xs.take k).Nodup) (hn : ∀ j (hj : j < k), xs[k] ≠ xs[j]'(by omega)) : (xs.take (k + 1)).Nodup := by
  rw [List.take_succ_eq_append_getElem hk]
  refine List.nodup_append.2 ⟨h, by simp, fun a ha b hb e => ?_⟩
  simp at hb
  subst hb
  rw [List.mem_iff_getElem] at ha
  obtain ⟨j, hj, rfl⟩ := ha
  have hj' : j < k := by simp at hj; omega
  have := hn j hj'
  simp at e
  exact this e.symm
set_option maxRecDepth 100000 in
set_option maxHeartbeats 16000000 in
theorem rinterp_any (P : Int) (l : List (Int × Int)) (v : Value) (w : World) (hP : i64r P) (h : SG pcs 2 w.heap.size w v l) (hlen : l.length ≤ 1000000) :
    Calls Try.prog 28 #[.agg #[.int .i64 P], v] w fun e w' => ∃ v', e = .returned (.tuple #[v', .int .i64 (inE P l)]) ∧ w'.ownsRow w.heap.size 3 1 v' (inP P l).length ((inP P l).map (Value.int .i64)) ∧ Below w.heap.size w w' := by
  obtain ⟨A, c, rfl, hc, hm, hr, ha⟩ := pcs_cells h
  have HA := Lib.hid ha
  have HR := Lib.hid hr
  clear ha hr h hc hm
  go_enter Try.func28, Try.ntmps28
  obtain ⟨F, eF⟩ : ∃ F, F = w.heap.size := ⟨_, rfl⟩
  obtain ⟨w1, ew1⟩ : ∃ w1 : World, w1 = w.alloc (.cells #[.int .i64 P] 26) := ⟨_, rfl⟩
  have HWw1 : Hid (w.alloc (.cells #[.int .i64 P] 26) = w1) := ew1.symm
  have HAw1 : Hid (Below w.heap.size w w1) := (show Hid _ from by rw [ew1]; exact (Below.refl _ w).alloc (Nat.le_refl _) _)
  have HF0w1 : Hid (w1.heap[F]? = some (.cells #[.int .i64 P] 26 (0, 0))) := (show Hid _ from by show _ = _; rw [ew1, eF]; exact heap_alloc_new w _)
  have HXC : Hid (∀ W, Below w1.heap.size w1 W → W.cell? ⟨F, 0, none⟩ = some (.int .i64 P)) := (show Hid _ from fun W hg => by
    have hF0 := (hg.block F (heap_of_cells HF0w1.out)).trans HF0w1.out
    exact (cell_of_row W F 0 _ _ _ hF0))
  have hz1 : w.heap.size < w1.heap.size := by rw [ew1]; simp
  go_upto_region 2 with fail
  rw [HWw1.out, ← eF]
  clear ew1 eF
  go_wp2_with fail
  go_loopw [27, 6, 7] (fun i v6 v7 wr => InR1 l w1.heap.size w1 i v6 v7 wr) (fun i _ _ _ => l.length - (intOf i).toNat)
  case atStart => exact ⟨0, Nat.zero_le _, rfl, ⟨World.ownsRow_nil _ _ _ _, World.ownsRow_nil _ _ _ _, fun k hk => by simp [Value.ownBlock] at hk⟩, Below.refl _ _⟩
  case round =>
    obtain ⟨k, hk, rfl, hT, hB⟩ := hrel
    have HT := Lib.hid hT
    have HB := Lib.hid hB
    have hzr := hB.size
    clear hT hB
    by_cases hlt : k < l.length
    · obtain ⟨b, off, rfl, hb, hcell⟩ := HA.out (by omega)
      obtain ⟨k0, k1⟩ := hcell k hlt
      have e0 := (HB.out.cell (p := ⟨b, off + k * 2, none⟩) (by show b < _; omega)).trans ((HAw1.out.cell hb).trans k0)
      have e1 := (HB.out.cell (p := ⟨b, off + k * 2 + 1, none⟩) (by show b < _; omega)).trans ((HAw1.out.cell hb).trans k1)
      have HX := Lib.hid (shX_snoc l k hlt)
      have HY := Lib.hid (shY_snoc l k hlt)
      have hxl : (shX (l.take k)).length ≤ k := by rw [shX_len]; exact List.length_take_le _ _
      have hyl : (shY (l.take k)).length ≤ k := by rw [shY_len]; exact List.length_take_le _ _
      have hd1 : decide ((k : Int) < (l.length : Int)) = true := decide_eq_true (by omega)
      have hd2 : decide (k < l.length) = true := decide_eq_true hlt
      clear hcell k0 k1
      go_upto_region 5 with fail
      obtain ⟨wG, ew⟩ : ∃ wG : World, wG = wr.alloc (.cells #[.int .i64 l[k].1, .int .i64 l[k].2] 64) := ⟨_, rfl⟩
      have hbG : Below wr.heap.size wr wG := by rw [ew]; exact (Below.refl _ _).alloc (Nat.le_refl _) _
      have hzG : wr.heap.size < wG.heap.size := by rw [ew]; simp
      have x0 : wG.cell? ⟨wr.heap.size, 0, none⟩ = some (.int .i64 l[k].1) := by rw [ew]; exact cell_of_row _ _ 0 _ _ (0, 0) (heap_alloc_new wr _)
      have x1 : wG.cell? ⟨wr.heap.size, 1, none⟩ = some (.int .i64 l[k].2) := by rw [ew]; exact cell_of_row _ _ 1 _ _ (0, 0) (heap_alloc_new wr _)
      have HTG : Hid (TwoR w1.heap.size wG u6 (shX (l.take k)) u7 (shY (l.take k))) := by show TwoR _ _ _ _ _ _; rw [ew]; exact HT.out.alloc _
      have HG : Hid (∀ q, u6.ownBlock = some q ∨ u7.ownBlock = some q → q ≠ wr.heap.size) := fun q hq => by
        rcases hq with hq | hq
        · have := (HT.out.1.lt q hq).2; omega
        · have := (HT.out.2.1.lt q hq).2; omega
      rw [← ew]
      clear ew
      apply regI5 w1.heap.size wr.heap.size l[k].1 l[k].2 (shX (l.take k)) (shY (l.take k)) u6 u7 wG HTG.out x0 x1 HG.out hzG (by omega) (by omega) (by omega)
      intro q27 q28 q29 q30 q31 q32 q33 q34 q35 q36 v6 v7 w2 hT2 hb2
      have HT2 := Lib.hid hT2
      have HB2 : Hid (Below w1.heap.size w1 w2) := (show Hid _ from (HB.out.trans (hbG.mono hzr)).trans hb2)
      clear hT2 x0 x1 hbG hb2
      go_wp2_with fail
      go_roundw
      case rel => exact ⟨k + 1, by omega, by go_num, by rw [HX.out, HY.out]; exact HT2.out, HB2.out⟩
      case measure => simp [intOf]; omega
    · have hkk : k = l.length := by omega
      have HTT : Hid (TwoR w1.heap.size wr u6 (shX l) u7 (shY l)) := by show TwoR _ _ _ _ _ _; have := HT.out; rwa [hkk, List.take_length] at this
      have hd1 : decide ((k : Int) < (l.length : Int)) = false := decide_eq_false (by omega)
      have hd2 : decide (k < l.length) = false := decide_eq_false hlt
      have hSX : SI wr u6 (shX l) := SI.of_own HTT.out.1 (fun x hx => by
        simp only [shX, List.mem_map] at hx
        obtain ⟨p, hp, rfl⟩ := hx
        exact (HR.out p hp).1)
      have hSY : SI wr u7 (shY l) := SI.of_own HTT.out.2.1 (fun x hx => by
        simp only [shY, List.mem_map] at hx
        obtain ⟨p, hp, rfl⟩ := hx
        exact (HR.out p hp).2)
      obtain ⟨AX, cX, rfl⟩ := hSX.form
      obtain ⟨AY, cY, rfl⟩ := hSY.form
      have HSL := Lib.hid (SL.two hSX hSY 22)
      have HSX := Lib.hid hSX
      have HSY := Lib.hid hSY
      have f0 := HXC.out wr HB.out
      clear hkk hSX hSY hk HT HTT
      obtain ⟨L, eL⟩ : ∃ L, L = l.length := ⟨_, rfl⟩
      rw [shX_len, shY_len] at *
      rw [← eL] at HSL HSX HSY hd1 hd2 hlt ⊢
      have HEL := Lib.hid eL
      have hLb : L ≤ 1000000 := by omega
      clear eL
      go_wp2_with fail
      (with_reducible refine (rlists_any P [shX l, shY l] _ _ hP HSL.out (by simp)).mono ?_)
      rintro e w2 ⟨rfl, hb2⟩
      have hbr2 : Below wr.heap.size wr w2 := ((Below.refl _ _).alloc (Nat.le_refl _) _).trans (hb2.mono (by simp))
      have HB2 : Hid (Below w1.heap.size w1 w2) := (show Hid _ from HB.out.trans (hbr2.mono HB.out.size))
      have HSX2 := Lib.hid (SI.below HSX.out hbr2)
      have HSY2 := Lib.hid (SI.below HSY.out hbr2)
      have HBw2 : Hid (Below w.heap.size w w2) := (show Hid _ from HAw1.out.trans (HB2.out.mono HAw1.out.size))
      obtain ⟨oe, eoe⟩ : ∃ oe, opE P [shX l, shY l] = oe := ⟨_, rfl⟩
      rw [eoe]
      have EOE := Lib.hid eoe
      clear eoe hbr2 hb2 hd1 hd2 f0 hlt
      by_cases h0 : oe = 0
      · subst h0
        obtain ⟨hp, heX, heY, hl1, hl2⟩ := opE_two EOE.out
        have HP := Lib.hid hp
        have HEX := Lib.hid heX
        have HEY := Lib.hid heY
        have hPb := prB_bd hp
        rw [shX_len, ← HEL.out] at hl1
        clear hp heX heY hl2
        have HXL : Hid ((shX l).length = L) := (show Hid _ from by show _ = _; rw [shX_len, HEL.out])
        go_wp2_with fail
        go_loopw [52] (fun i wr => Rj2 (shX l) w2 i wr) (fun i _ => L - (intOf i).toNat)
        case atStart => exact ⟨0, Nat.zero_le _, rfl, by simp, Below.refl _ _⟩
        case round =>
          obtain ⟨k2, hk2, rfl, hnd, hB3⟩ := hrel
          have HND := Lib.hid hnd
          have HB3 := Lib.hid hB3
          have HSXr := Lib.hid (HSX2.out.below hB3)
          rw [HXL.out] at hk2
          clear hnd hB3
          by_cases hlt2 : k2 < L
          · have hd3 : decide (k2 < L) = true := decide_eq_true hlt2
            have hk2x : k2 < (shX l).length := by rw [HXL.out]; exact hlt2
            obtain ⟨bx, ox, eAX, ck⟩ := HSXr.out.at hk2x
            subst eAX
            obtain ⟨xk, exk⟩ : ∃ xk, xk = (shX l)[k2] := ⟨_, rfl⟩
            rw [← exk] at ck
            have HXK := Lib.hid exk
            have hcx := HSXr.out.capB
            rw [HXL.out] at hcx
            have z0 : (0 : Int) ≤ (k2 : Int) := by omega
            have z1 : (k2 : Int) ≤ (cX : Int) := by omega
            have HCX : Hid (∀ W, Below wr.heap.size wr W → W.cell? ⟨bx, ox + k2, none⟩ = some (.int .i64 xk)) := (show Hid _ from fun W hb => (hb.cell (cell_blk ck)).trans ck)
            obtain ⟨wo, ewo⟩ : ∃ wo : World, wo = wr := ⟨_, rfl⟩
            rw [← ewo] at HSXr HB3 HCX ⊢
            clear exk ck ewo
            go_wp2_with fail
            go_loopw [59] (fun i wr => ∃ j : Nat, j ≤ k2 ∧ i = .int .i64 j ∧ (∀ q (hq : q < j) (h : q < (shX l).length), xk ≠ (shX l)[q]) ∧ Below wo.heap.size wo wr) (fun i _ => k2 - (intOf i).toNat)
            case atStart => exact ⟨0, Nat.zero_le _, rfl, fun q hq => by omega, Below.refl _ _⟩
            case round =>
              obtain ⟨j, hj, rfl, hne, hb4⟩ := hrel
              have HNE := Lib.hid hne
              have HB4 := Lib.hid hb4
              clear hne hb4
              by_cases hlj : j < k2
              · have dj : decide (j < k2) = true := decide_eq_true hlj
                have hjx : j < (shX l).length := by rw [HXL.out]; omega
                obtain ⟨bx', ox', eAX, cj⟩ := (HSXr.out.below HB4.out).at hjx
                injection eAX with eAX
                injection eAX with ebx eox _
                subst ebx eox
                have ck := HCX.out wr HB4.out
                obtain ⟨xj, exj⟩ : ∃ xj, xj = (shX l)[j] := ⟨_, rfl⟩
                rw [← exj] at cj
                have HXJ := Lib.hid exj
                have z3 : (0 : Int) ≤ (j : Int) := by omega
                have z4 : (j : Int) < (L : Int) := by omega
                have z5 : (k2 : Int) < (L : Int) := by omega
                clear exj
                by_cases hxx : xk = xj
                · have dx : (xk == xj) = true := by rw [beq_iff_eq]; exact hxx
                  have HE := Lib.hid (inE_7 EOE.out (fun hnd => by
                    have h1 : (shX l)[k2]'(by rw [HXL.out]; exact hlt2) = (shX l)[j] := by rw [← HXK.out, ← HXJ.out]; exact hxx
                    have h2 := (List.getElem_inj hnd).1 h1
                    omega))
                  have HBf : Hid (Below w.heap.size w wr) := (show Hid _ from HBw2.out.trans ((HB3.out.trans (HB4.out.mono HB3.out.size)).mono HBw2.out.size))
                  go_upto_region 16 with fail
                  go_quiet (fail)
                  go_wp2_with fail
                  go_ret2
                  refine ⟨.slice none 0 0, by rw [HE.out.1]; rfl, by rw [HE.out.2]; exact World.ownsRow_nil _ _ _ _, by first | exact HBf.out | exact Below.drewN HBf.out _⟩
                · have dx : (xk == xj) = false := by rw [beq_eq_false_iff_ne]; exact hxx
                  have hxxh := Lib.hid hxx
                  clear hxx
                  go_upto_region 16 with fail
                  go_quiet (fail)
                  go_wp2_with fail
                  go_roundw
                  case rel => exact ⟨j + 1, by omega, by go_num, fun q hq h => by
                    rcases Nat.lt_or_ge q j with h1 | h1
                    · exact HNE.out q h1 h
                    · have e : q = j := by omega
                      subst e; rw [← HXJ.out]; exact hxxh.out, by first | exact HB4.out | exact Below.drewN HB4.out _⟩
                  case measure => simp [intOf]; omega
              · have dj : decide (j < k2) = false := decide_eq_false hlj
                have HN2 : Hid (((shX l).take (k2 + 1)).Nodup) := (show Hid _ from nodup_take (by rw [HXL.out]; exact hlt2) HND.out fun q hq => by
                  rw [← HXK.out]; exact HNE.out q (by omega) (by rw [HXL.out]; omega))
                go_wp2_with fail
                go_roundw
                case rel => exact ⟨k2 + 1, by rw [HXL.out]; omega, by go_num, HN2.out, HB3.out.trans (HB4.out.mono HB3.out.size)⟩
                case measure => simp [intOf]; omega
          · have hd3 : decide (k2 < L) = false := decide_eq_false hlt2
            have HNO : Hid ((shX l).Nodup) := (show Hid _ from by
              have h := HND.out
              rw [List.take_of_length_le (by rw [HXL.out]; omega)] at h; exact h)
            have HSYr := Lib.hid (HSY2.out.below HB3.out)
            have HBw3 : Hid (Below w1.heap.size w1 wr) := (show Hid _ from HB2.out.trans (HB3.out.mono HB2.out.size))
            obtain ⟨w3, ew3⟩ : ∃ w3 : World, w3 = wr.alloc (.cells #[.int .i64 1] 3) := ⟨_, rfl⟩
            have HW3 : Hid (wr.alloc (.cells #[.int .i64 1] 3) = w3) := ew3.symm
            have HA3 : Hid (Below wr.heap.size wr w3) := (show Hid _ from by rw [ew3]; exact (Below.refl _ _).alloc (Nat.le_refl _) _)
            have HK3 : Hid (BK w3 wr.heap.size [1]) := (show Hid _ from by rw [ew3]; exact heap_alloc_new wr _)
            have HN3 : Hid (SI w3 (.slice (some ⟨wr.heap.size, 0, none⟩) 1 1) [1]) := (show Hid _ from HK3.out.si0 (fun x hx => by simp at hx; subst hx; unfold i64r; omega) (by simp))
            have HSX3 := Lib.hid (HSXr.out.below HA3.out)
            have HSY3 := Lib.hid (HSYr.out.below HA3.out)
            have HB13 : Hid (Below w1.heap.size w1 w3) := (show Hid _ from HBw3.out.trans (HA3.out.mono HBw3.out.size))
            clear ew3
            go_upto_region 22 with fail
            rw [HW3.out]
            go_wp2_with fail
            clear HSL HSX HSY HSX2 HSY2 HSXr HSYr HND HB3 hd3
            go_loopw [76, 13, 14] (fun i vp vn wr => InR3 P l w3.heap.size w3 i vp vn wr) (fun i _ _ _ => L - (intOf i).toNat)
            case atStart => exact ⟨0, Nat.zero_le _, rfl, SI_nil' _, HN3.out, Below.refl _ _⟩
            case round =>
              obtain ⟨k, hk, rfl, hvp, hvn, hb⟩ := hrel
              rw [← HEL.out] at hk
              have HVP := Lib.hid hvp
              have HVN := Lib.hid hvn
              have HB := Lib.hid hb
              have HB1r : Hid (Below w1.heap.size w1 wr) := (show Hid _ from HB13.out.trans (hb.mono HB13.out.size))
              obtain ⟨AP, cp, evp⟩ := hvp.form
              obtain ⟨AN, cn, evn⟩ := hvn.form
              subst evp evn
              clear hvp hvn hb
              have hn1 := newt_len P (l.take k)
              have hlk : (l.take k).length = k := by rw [List.length_take, ← HEL.out]; omega
              rw [hlk] at hn1
              obtain ⟨he1, he2⟩ := newt_els hPb.1 (l.take k)
              have HE1 := Lib.hid he1
              have HE2 := Lib.hid he2
              by_cases hlt : k < L
              · have hd4 : decide (k < L) = true := decide_eq_true hlt
                have hkl : k < l.length := by rw [← HEL.out]; exact hlt
                have HNW := Lib.hid (newt_snoc P l k hkl)
                have hsX : (shX l)[k]'(by rw [HXL.out]; exact hlt) = l[k].1 := by simp [shX]
                have hsY : (shY l)[k]'(by rw [shY_len]; exact hkl) = l[k].2 := by simp [shY]
                have hex := el_t (els_all HEX.out l[k].1 (by rw [← hsX]; exact List.getElem_mem _))
                have hey := el_t (els_all HEY.out l[k].2 (by rw [← hsY]; exact List.getElem_mem _))
                obtain ⟨bx, ox, eAX, cxk⟩ := (HSX3.out.below HB.out).at (k := k) (by rw [HXL.out]; exact hlt)
                obtain ⟨by_, oy, eAY, cyk⟩ := HSY3.out.at (k := k) (by rw [shY_len]; exact hkl)
                subst eAX eAY
                rw [hsX] at cxk
                rw [hsY] at cyk
                have HNZ : Hid (P = 2 → val P (newt P (l.take k)).2 l[k].1 ≠ 0) := (show Hid _ from fun e => by
                  have h := HEX.out
                  subst e
                  exact nz2 HNO.out h hkl)
                have HCY : Hid (∀ W, Below w3.heap.size w3 W → W.cell? ⟨by_, oy + k, none⟩ = some (.int .i64 l[k].2)) := (show Hid _ from fun W hb => (hb.cell (cell_blk cyk)).trans cyk)
                have HBYN : Hid (byN P (newt P (l.take k)) l[k] = (l[k].2 - val P (newt P (l.take k)).1 l[k].1 + P) % P * inv P (val P (newt P (l.take k)).2 l[k].1) % P) := rfl
                obtain ⟨s, es⟩ : ∃ s, s = newt P (l.take k) := ⟨_, rfl⟩
                rw [← es] at HNW HVP HVN HE1 HE2 HNZ HBYN hn1 ⊢
                have HNWS : Hid (newt P (l.take (k + 1)) = (addT P (padd s.1 s.2.length) 0 (byN P s l[k]) s.2, timesP P s.2 [(0 - l[k].1 + P) % P, 1])) := HNW.out
                obtain ⟨s1, s2⟩ := s
                obtain ⟨x, ex⟩ : ∃ x, x = l[k].1 := ⟨_, rfl⟩
                obtain ⟨y, ey⟩ : ∃ y, y = l[k].2 := ⟨_, rfl⟩
                obtain ⟨c', ec⟩ : ∃ c', c' = byN P (s1, s2) l[k] := ⟨_, rfl⟩
                simp only [] at HNWS HVP HVN HE1 HE2 HNZ HBYN hn1 ⊢
                rw [← ex] at hex cxk HNZ HBYN HNWS
                rw [← ey] at hey HCY HBYN
                rw [← ec] at HBYN HNWS
                obtain ⟨yv, eyv⟩ : ∃ yv, yv = val P s1 x := ⟨_, rfl⟩
                obtain ⟨zv, ezv⟩ : ∃ zv, zv = val P s2 x := ⟨_, rfl⟩
                rw [← eyv] at HBYN
                rw [← ezv] at HBYN HNZ
                have hyv : 0 ≤ yv ∧ yv < P := by rw [eyv]; exact val_bd hPb.1 _ _
                have hzv : 0 ≤ zv ∧ zv < P := by rw [ezv]; exact val_bd hPb.1 _ _
                obtain ⟨n1, en1⟩ : ∃ n1, n1 = s1.length := ⟨_, rfl⟩
                obtain ⟨n2, en2⟩ : ∃ n2, n2 = s2.length := ⟨_, rfl⟩
                rw [← en1, ← en2] at hn1
                rw [← en1] at HVP ⊢
                rw [← en2] at HVN ⊢
                have hn1a : n1 ≤ k := by have := hn1.1; split at this <;> omega
                have hn2a : n2 = k + 1 := hn1.2
                have hn2b : n2 ≤ 513 := by omega
                have hn1b : n1 ≤ n2 := by omega
                clear hn1a hn2a
                have HL1 : Hid (s1.length = n1) := en1.symm
                have HL2 : Hid (s2.length = n2) := en2.symm
                have HV : Hid (∀ W a r, Below wr.heap.size wr W → (a = .slice AP n1 cp ∧ r = yv ∨ a = .slice AN n2 cn ∧ r = zv) → Calls Try.prog 49 #[.agg #[.int .i64 P], a, .int .i64 x] W fun e w' => e = .returned (.int .i64 r) ∧ Below W.heap.size W w') := (show Hid _ from fun W a r hb h => by
                  rcases h with ⟨rfl, rfl⟩ | ⟨rfl, rfl⟩
                  · rw [eyv]; exact rvalue_any P x s1 _ W hPb hex HE1.out (by omega) (HVP.out.below hb)
                  · rw [ezv]; exact rvalue_any P x s2 _ W hPb hex HE2.out (by omega) (HVN.out.below hb))
                have HX0 : Hid (∀ W, Below wr.heap.size wr W → W.cell? ⟨F, 0, none⟩ = some (.int .i64 P)) := (show Hid _ from fun W hb => HXC.out W (HB1r.out.trans (hb.mono HB1r.out.size)))
                clear es ex ey ec eyv ezv en1 en2 hsX hsY he1 he2 cyk hn1 HNW
                have z0 : (0 : Int) ≤ (k : Int) := by omega
                have z1 : (k : Int) < (L : Int) := by omega
                go_upto_region 25 with fail
                apply regI25 F P x yv zv (.slice AP n1 cp) (.slice AN n2 cn) wr HX0.out HV.out
                intro q81 q82 q83 q84 q85 q86 q87 q88 w5 hb5
                have HB5 := Lib.hid hb5
                have hP0 : ¬ P = 0 := by omega
                obtain ⟨m, em⟩ : ∃ m, m = (y + P - yv) % P := ⟨_, rfl⟩
                have hm : 0 ≤ m ∧ m < P := by rw [em]; exact ⟨Int.emod_nonneg _ (by omega), Int.emod_lt_of_pos _ (by omega)⟩
                obtain ⟨iv, eiv⟩ : ∃ iv, iv = inv P zv := ⟨_, rfl⟩
                have hiv : 0 ≤ iv ∧ iv < P := by rw [eiv]; exact inv_bd hPb.1 _
                have hmi := mul_bd hm hiv hPb.2
                have a1 : IntKind.i64.wrap (y + P) = y + P := by exact IntWalk.i64_in _ (by omega)
                have a2 : IntKind.i64.wrap (y + P - yv) = y + P - yv := by exact IntWalk.i64_in _ (by omega)
                have a3 : (y + P - yv).tmod P = m := by rw [em]; exact Int.tmod_eq_emod_of_nonneg (by omega)
                have a5 : IntKind.i64.wrap (m * iv) = m * iv := by exact IntWalk.i64_in _ (by omega)
                have a6 : (m * iv).tmod P = c' := by
                  rw [HBYN.out, ← eiv, show y - yv + P = y + P - yv by omega, ← em]
                  exact Int.tmod_eq_emod_of_nonneg (by omega)
                have hc' : 0 ≤ c' ∧ c' < P := by rw [HBYN.out]; exact ⟨Int.emod_nonneg _ (by omega), Int.emod_lt_of_pos _ (by omega)⟩
                have HXY : Hid (∀ W, Below w5.heap.size w5 W → W.cell? ⟨F, 0, none⟩ = some (.int .i64 P) ∧ W.cell? ⟨by_, oy + k, none⟩ = some (.int .i64 y)) := (show Hid _ from fun W hb => ⟨HX0.out W (HB5.out.trans (hb.mono HB5.out.size)), HCY.out W (HB.out.trans ((HB5.out.trans (hb.mono HB5.out.size)).mono HB.out.size))⟩)
                have HINV : Hid (∀ W, Below w5.heap.size w5 W → Calls Try.prog 50 #[.agg #[.int .i64 P], .int .i64 zv] W fun e w' => e = .returned (.int .i64 iv) ∧ Below W.heap.size W w') := (show Hid _ from fun W _ => by rw [eiv]; exact rinv_any P zv W hPb hzv HNZ.out)
                clear hb5 em eiv hmi hm hiv cxk
                go_upto_region 26 with fail
                apply regI26 F by_ oy L cY k P y yv zv iv m c' w5 hlt hP0 a1 a2 a3 a5 a6 HXY.out HINV.out
                intro q89 q90 q91 q92 q93 q94 q95 q96 q97 q98 q99 q100 q101 q102 q103 q104 q105 q106 q107 w6 hb6
                have HB6 : Hid (Below wr.heap.size wr w6) := (show Hid _ from HB5.out.trans (hb6.mono HB5.out.size))
                have HVP6 := Lib.hid (HVP.out.below HB6.out)
                have HVN6 := Lib.hid (HVN.out.below HB6.out)
                have HB16 : Hid (Below w1.heap.size w1 w6) := (show Hid _ from HB1r.out.trans (HB6.out.mono HB1r.out.size))
                have HB36 : Hid (Below w3.heap.size w3 w6) := (show Hid _ from HB.out.trans (HB6.out.mono HB.out.size))
                obtain ⟨y6, ey6⟩ : ∃ y6 : World, y6 = w6 := ⟨_, rfl⟩
                rw [← ey6] at HVP6 HVN6 HB16 HB36 ⊢
                clear hb6 a1 a2 a3 a5 a6 HXY HINV HX0 HV HCY HNZ hyv hzv hey HB5 HB6 ey6
                obtain ⟨wA, eA⟩ : ∃ wA : World, wA = y6.alloc (.cells ((zeros n2).map (Value.int .i64)).toArray 3) := ⟨_, rfl⟩
                have hbA : Below y6.heap.size y6 wA := by rw [eA]; exact (Below.refl _ _).alloc (Nat.le_refl _) _
                have HKA : Hid (wA.heap[y6.heap.size]? = some (.cells ((zeros n2).map (Value.int .i64)).toArray 3 (0, 0))) := (show Hid _ from by rw [eA]; exact heap_alloc_new y6 _)
                have HVPA := Lib.hid (HVP6.out.below hbA)
                have HPOS : Hid (0 < (s1.map (Value.int .i64)).length → some (⟨y6.heap.size, 0, none⟩ : Addr) = some ⟨y6.heap.size, 0, none⟩ ∧ ∃ ad, AP = some ad ∧ ∀ j v, (s1.map (Value.int .i64))[j]? = some v → wA.cell? (ad.add j) = some v) := fun h0 => by
                  refine ⟨rfl, ?_⟩
                  obtain ⟨b, off, e, _, hcs⟩ := SB.cells HVPA.out (by simpa using h0)
                  refine ⟨⟨b, off, none⟩, e, fun j v hv => ?_⟩
                  rw [List.getElem?_map] at hv
                  obtain ⟨q, hq, rfl⟩ := Option.map_eq_some_iff.1 hv
                  obtain ⟨hj, rfl⟩ := List.getElem?_eq_some_iff.1 hq
                  rw [Addr.add_lit]
                  exact hcs j hj
                have hs3 : s1.length ≤ n2 := by rw [HL1.out]; omega
                have HS3 := Lib.hid hs3
                clear hs3
                go_wp2_with (first
                  | (at_make; refine wpList_make_ints _ rfl _ _ 22 rfl 3 Try.underlying22 iinfo _ n2 rfl rfl rfl (by omega) ?_; rw [← eA]; clear eA)
                  | (with_reducible refine wpList_copy_splice rfl (.tmp 111) (.tmp 112) 22 22 rfl 3 Try.underlying22 isz (some ⟨y6.heap.size, 0, none⟩) AP n2 n2 n1 cp rfl rfl y6.heap.size 0 ((zeros n2).map (Value.int .i64)) 3 HKA.out (s1.map (Value.int .i64)) (by rw [List.length_map, HL1.out]; have := HS3.out; rw [HL1.out] at this; exact (Nat.min_eq_left this).symm) (by exact HPOS.out) (by simp [zeros]; exact HS3.out) (one_ints s1) y6.heap.size y6 hbA (Nat.le_refl _) ?_; intro w7 hg7 hb7))
                have HB7 : Hid (BK w7 y6.heap.size (padd s1 n2)) := by
                  show w7.heap[y6.heap.size]? = _
                  rw [← splice_pad s1 n2 HS3.out]; exact hg7.out
                have HB67 : Hid (Below y6.heap.size y6 w7) := hb7
                have hpe : els P (padd s1 n2) = true := by
                  refine els_of fun z hz => ?_
                  simp only [padd, List.mem_append] at hz
                  rcases hz with hz | hz
                  · exact els_all HE1.out z hz
                  · exact els_all (zeros_els hPb.1 _) z hz
                have HPE := Lib.hid hpe
                have hpl : (padd s1 n2).length = n2 := by have := HS3.out; simp [padd, zeros]; omega
                have HPL := Lib.hid hpl
                obtain ⟨pp, epp⟩ : ∃ pp, pp = padd s1 n2 := ⟨_, rfl⟩
                have HNW2 : Hid (newt P (l.take (k + 1)) = (addT P pp 0 c' s2, timesP P s2 [(0 - x + P) % P, 1])) := (show Hid _ from by show _ = _; rw [HNWS.out, HL2.out, epp])
                rw [← epp] at HB7 HPE HPL
                clear hg7 hpe hpl hb7 HKA HVPA HPOS hbA HNWS epp HBYN
                obtain ⟨b, eb⟩ : ∃ b, b = y6.heap.size := ⟨_, rfl⟩
                rw [← eb] at HB7 ⊢
                have HEB := Lib.hid eb
                clear eb
                go_wp2_with fail
                go_loopw [116] (fun iv wr => Cm4 P pp c' s2 b y6 iv wr) (fun iv _ => n2 - (intOf iv).toNat)
                case atStart => exact ⟨0, Nat.zero_le _, rfl, by rw [List.take_zero, addT_zero]; exact HB7.out, HB67.out⟩
                case round =>
                  obtain ⟨j, hj, rfl, hbk, hb8⟩ := hrel
                  have HBKk := Lib.hid hbk
                  have HBk := Lib.hid hb8
                  have HBk1 : Hid (Below w1.heap.size w1 wr) := (show Hid _ from HB16.out.trans (hb8.mono HB16.out.size))
                  rw [HL2.out] at hj
                  clear hbk hb8
                  by_cases hlj : j < n2
                  · have dk : decide (j < n2) = true := decide_eq_true hlj
                    have hjl : j < s2.length := by rw [HL2.out]; exact hlj
                    obtain ⟨bb, ob, eB, ck⟩ := (HVN6.out.below HBk.out).at hjl
                    subst eB
                    have f0 := HXC.out wr HBk1.out
                    have hlen2 : (addT P pp 0 c' (s2.take j)).length = n2 := by rw [addT_len]; exact HPL.out
                    have htk := HBKk.out.cell (j := j) (by rw [hlen2]; omega)
                    have hfk := HBKk.out.frozen j
                    have hel := el_t (els_gd hPb.1 (addT_els hPb.1 HPE.out 0 c' (s2.take j)) j)
                    have hel2 := el_t (els_all HE2.out _ (List.getElem_mem hjl))
                    rw [← gd_lt] at htk
                    obtain ⟨t', ht⟩ : ∃ t', t' = gd (addT P pp 0 c' (s2.take j)) j := ⟨_, rfl⟩
                    rw [← ht] at htk hel
                    obtain ⟨u, hu⟩ : ∃ u, u = s2[j] := ⟨_, rfl⟩
                    rw [← hu] at ck hel2
                    have HST : Hid (addT P pp 0 c' (s2.take (j + 1)) = (addT P pp 0 c' (s2.take j)).set j ((t' + c' * u) % P)) := by
                      have h := addT_step P pp 0 c' s2 j hjl (by rw [HPL.out, HL2.out]; omega)
                      rw [Nat.zero_add] at h
                      show _ = _
                      rw [ht, hu]; exact h
                    have hxy := mul_bd hc' hel2 hPb.2
                    have w1_ : IntKind.i64.wrap (c' * u) = c' * u := by exact IntWalk.i64_in _ (by omega)
                    have w2_ : IntKind.i64.wrap (t' + c' * u) = t' + c' * u := by exact IntWalk.i64_in _ (by omega)
                    have w3_ : (t' + c' * u).tmod P = (t' + c' * u) % P := Int.tmod_eq_emod_of_nonneg (by omega)
                    have w4_ : IntKind.i64.wrap ((t' + c' * u) % P) = (t' + c' * u) % P := by
                      have h1 := Int.emod_nonneg (t' + c' * u) (show P ≠ 0 by omega)
                      have h2 := Int.emod_lt_of_pos (t' + c' * u) (show 0 < P by omega)
                      exact IntWalk.i64_in _ (by omega)
                    have z1 : (0 : Int) ≤ (j : Int) := by omega
                    have z2 : (j : Int) < (n2 : Int) := by omega
                    clear ht hu hlen2 hel hel2 hxy
                    go_upto_region 32 with fail
                    go_region
                    all_goals
                      go_wp2_with fail
                      go_roundw
                      case rel => exact ⟨j + 1, by rw [HL2.out]; omega, by go_num, by rw [HST.out]; exact HBKk.out.set _ _, by first | exact HBk.out.setCell (by have := HEB.out; show _ ≤ b; omega) _ | exact (Below.drewN (HBk.out.setCell (by have := HEB.out; show _ ≤ b; omega) _) _)⟩
                      case measure => simp [intOf]; omega
                  · have dk : decide (j < n2) = false := decide_eq_false hlj
                    have HFK : Hid (BK wr b (newt P (l.take (k + 1))).1) := (show Hid _ from by
                      have h := HBKk.out
                      rw [List.take_of_length_le (by rw [HL2.out]; omega)] at h
                      rw [HNW2.out]; exact h)
                    have HPN : Hid (SI wr (.slice (some ⟨b, 0, none⟩) n2 n2) (newt P (l.take (k + 1))).1) := (show Hid _ from by
                      have h := HFK.out.si0 (els_r hPb.2 (newt_els hPb.1 _).1) (by rw [HNW2.out]; show (addT P pp 0 c' s2).length ≤ _; rw [addT_len, HPL.out]; omega)
                      have e : (newt P (l.take (k + 1))).1.length = n2 := by rw [HNW2.out]; show (addT P pp 0 c' s2).length = _; rw [addT_len, HPL.out]
                      rw [e] at h; exact h)
                    have HVNr := Lib.hid (HVN6.out.below HBk.out)
                    obtain ⟨wz, ewz⟩ : ∃ wz : World, wz = wr := ⟨_, rfl⟩
                    rw [← ewz] at HPN HVNr HBk HBk1 ⊢
                    clear ewz HFK HBKk
                    obtain ⟨b2, eb2⟩ : ∃ b2, b2 = wz.heap.size := ⟨_, rfl⟩
                    obtain ⟨n3, en3⟩ : ∃ n3, n3 = n2 + 1 := ⟨_, rfl⟩
                    have wn3 : IntKind.i64.wrap ((n2 : Int) + 1) = (n3 : Int) := by rw [en3]; exact IntWalk.i64_in _ (by omega)
                    obtain ⟨wB, eB⟩ : ∃ wB : World, wB = wz.alloc (.cells ((zeros n3).map (Value.int .i64)).toArray 3) := ⟨_, rfl⟩
                    have HBB : Hid (Below wz.heap.size wz wB) := (show Hid _ from by rw [eB]; exact (Below.refl _ _).alloc (Nat.le_refl _) _)
                    have HKB : Hid (BK wB b2 (timesK P s2 [(0 - x + P) % P, 1] 0)) := (show Hid _ from by
                      have e : timesK P s2 [(0 - x + P) % P, 1] 0 = zeros n3 := by
                        show zeros (s2.length + 2 - 1) = _
                        rw [HL2.out, en3]; rfl
                      rw [e, eB, eb2]; exact heap_alloc_new wz _)
                    have HEB2 := Lib.hid eb2
                    have hn3b : n3 ≤ 1000000 := by omega
                    have HN3E := Lib.hid en3
                    clear en3
                    go_wp2_with (at_make; refine wpList_make_ints _ rfl _ _ 22 rfl 3 Try.underlying22 iinfo _ n3 (by first | rfl | simp [wn3]) (by first | rfl | simp [wn3]) rfl (by omega) ?_; rw [← eB, ← eb2]; clear eB eb2)
                    go_loopw [144] (fun iv wr => Rj3 P x s2 b2 wz iv wr) (fun iv _ => n2 - (intOf iv).toNat)
                    case atStart => exact ⟨0, Nat.zero_le _, rfl, HKB.out, HBB.out⟩
                    case round =>
                      obtain ⟨i, hi, rfl, hbk, hb9⟩ := hrel
                      have HBK2 := Lib.hid hbk
                      have HB2 := Lib.hid hb9
                      have HB21 : Hid (Below w1.heap.size w1 wr) := (show Hid _ from HBk1.out.trans (hb9.mono HBk1.out.size))
                      rw [HL2.out] at hi
                      clear hbk hb9
                      by_cases hli : i < n2
                      · have di : decide (i < n2) = true := decide_eq_true hli
                        have his : i < s2.length := by rw [HL2.out]; exact hli
                        obtain ⟨bb, ob, eB, ck⟩ := (HVNr.out.below HB2.out).at his
                        subst eB
                        have f0 := HXC.out wr HB21.out
                        have HBQ : Hid (wz.heap.size ≤ b2) := (show Hid _ from by show _ ≤ _; rw [HEB2.out]; exact Nat.le_refl _)
                        obtain ⟨ll, ell⟩ : ∃ ll, ll = timesK P s2 [(0 - x + P) % P, 1] i := ⟨_, rfl⟩
                        rw [← ell] at HBK2
                        have hlen : ll.length = n3 := by rw [ell, timesK_len, HL2.out, HN3E.out]; rfl
                        have hell : els P ll = true := by rw [ell]; exact timesK_els hPb.1 ..
                        obtain ⟨i1, ei1⟩ : ∃ i1, i1 = i + 1 := ⟨_, rfl⟩
                        obtain ⟨u, eu⟩ : ∃ u, u = s2[i] := ⟨_, rfl⟩
                        have hub := el_t (els_all HE2.out _ (List.getElem_mem his))
                        rw [← eu] at ck hub
                        have HNX : Hid (timesK P s2 [(0 - x + P) % P, 1] (i + 1) = (ll.set i1 ((gd ll i1 + u) % P)).set i ((gd ll i + (P - x) * u) % P)) := (show Hid _ from by
                          show _ = _
                          rw [timesK_succ, ← ell, gd_lt his, ← eu, ei1]
                          exact (wide_step ll i (by have := HN3E.out; omega)).symm)
                        have hg1 := el_t (els_gd hPb.1 hell i1)
                        have hg2 := el_t (els_gd hPb.1 hell i)
                        have ct1 : wr.cell? ⟨b2, i1, none⟩ = some (.int .i64 (gd ll i1)) := by
                          have h : i1 < ll.length := by have := HN3E.out; omega
                          rw [gd_lt h]; exact HBK2.out.cell h
                        have cf1 := HBK2.out.frozen i1
                        obtain ⟨t1, et1⟩ : ∃ t1, t1 = gd ll i1 := ⟨_, rfl⟩
                        obtain ⟨t2, et2⟩ : ∃ t2, t2 = gd ll i := ⟨_, rfl⟩
                        rw [← et1] at ct1 hg1 HNX
                        rw [← et2] at hg2 HNX
                        obtain ⟨v1, ev1⟩ : ∃ v1, v1 = (t1 + u) % P := ⟨_, rfl⟩
                        have hv1 : 0 ≤ v1 ∧ v1 < P := by rw [ev1]; exact ⟨Int.emod_nonneg _ (by omega), Int.emod_lt_of_pos _ (by omega)⟩
                        have w1_ : IntKind.i64.wrap (t1 + u) = t1 + u := by exact IntWalk.i64_in _ (by omega)
                        have w2_ : (t1 + u).tmod P = v1 := by rw [ev1]; exact Int.tmod_eq_emod_of_nonneg (by omega)
                        have w3_ : IntKind.i64.wrap v1 = v1 := by exact IntWalk.i64_in _ (by omega)
                        have wi1 : IntKind.i64.wrap ((i : Int) + 1) = (i1 : Int) := by rw [show (i : Int) + 1 = (i1 : Int) by omega]; exact IntWalk.i64_in _ (by omega)
                        rw [← ev1] at HNX
                        have z1 : (0 : Int) ≤ (i1 : Int) := by omega
                        have z2 : (i1 : Int) < (n3 : Int) := by have := HN3E.out; omega
                        have z3 : (0 : Int) ≤ (i : Int) := by omega
                        have z4 : (i : Int) < (n3 : Int) := by have := HN3E.out; omega
                        have z5 : (i : Int) < (n2 : Int) := by omega
                        have HI1 := Lib.hid ei1
                        have HLN := Lib.hid hlen
                        have HGT : Hid (t2 = gd ll i) := et2
                        clear ell eu et1 et2 ev1 ei1 hlen hell
                        go_upto_region 39 with fail
                        go_region
                        obtain ⟨w7', ew7⟩ : ∃ w7' : World, w7' = (wr.setCell ⟨b2, i1, none⟩ (.int .i64 v1)).drew := ⟨_, rfl⟩
                        have HBK7 : Hid (BK w7' b2 (ll.set i1 v1)) := (show Hid _ from by rw [ew7]; exact HBK2.out.set i1 v1)
                        have HB7' : Hid (Below wz.heap.size wz w7') := (show Hid _ from by rw [ew7]; exact (HB2.out.setCell (by exact HBQ.out) _).drew)
                        rw [← ew7]
                        clear ew7 f0 ct1 cf1 ck w1_ w2_ w3_ wi1 z1 z2
                        have hln := HLN.out
                        have hgi : gd (ll.set i1 v1) i = t2 := by rw [gd_set _ _ _ _ (by have := HI1.out; have := HN3E.out; omega), if_neg (by have := HI1.out; omega), HGT.out]
                        obtain ⟨l2, el2⟩ : ∃ l2, l2 = ll.set i1 v1 := ⟨_, rfl⟩
                        rw [← el2] at HBK7 HNX hgi
                        have hl2 : l2.length = n3 := by rw [el2, List.length_set]; exact hln
                        have ct : w7'.cell? ⟨b2, i, none⟩ = some (.int .i64 t2) := by
                          have h : i < l2.length := by have := HN3E.out; omega
                          rw [← hgi, gd_lt h]; exact HBK7.out.cell h
                        have cf := HBK7.out.frozen i
                        have f0 := HXC.out w7' (HBk1.out.trans (HB7'.out.mono HBk1.out.size))
                        obtain ⟨m, em⟩ : ∃ m, m = (P - x) * u := ⟨_, rfl⟩
                        have hm := mul_bd' (a := P - x) (b := u) (P := P) (by omega) hub hPb.2
                        rw [← em] at hm HNX
                        obtain ⟨v2, ev2⟩ : ∃ v2, v2 = (t2 + m) % P := ⟨_, rfl⟩
                        have hv2 : 0 ≤ v2 ∧ v2 < P := by rw [ev2]; exact ⟨Int.emod_nonneg _ (by omega), Int.emod_lt_of_pos _ (by omega)⟩
                        have w0_ : IntKind.i64.wrap (P - x) = P - x := by exact IntWalk.i64_in _ (by omega)
                        have w1_ : IntKind.i64.wrap ((P - x) * u) = m := by rw [← em]; exact IntWalk.i64_in _ (by omega)
                        have w2_ : IntKind.i64.wrap (t2 + m) = t2 + m := by exact IntWalk.i64_in _ (by omega)
                        have w3_ : (t2 + m).tmod P = v2 := by rw [ev2]; exact Int.tmod_eq_emod_of_nonneg (by omega)
                        have w4_ : IntKind.i64.wrap v2 = v2 := by exact IntWalk.i64_in _ (by omega)
                        rw [← ev2] at HNX
                        clear em ev2 el2 hgi hl2 hln
                        go_upto_region 40 with fail
                        go_region
                        all_goals
                          go_wp2_with fail
                          go_roundw
                          case rel => exact ⟨i + 1, by rw [HL2.out]; omega, by go_num, by rw [HNX.out]; exact HBK7.out.set _ _, by first | exact HB7'.out.setCell (by exact HBQ.out) _ | exact Below.drewN (HB7'.out.setCell (by exact HBQ.out) _) _⟩
                          case measure => simp [intOf]; omega
                      · have di : decide (i < n2) = false := decide_eq_false hli
                        have hin : i = n2 := by omega
                        have HNN : Hid (SI wr (.slice (some ⟨b2, 0, none⟩) n3 n3) (newt P (l.take (k + 1))).2) := (show Hid _ from by
                          have h := HBK2.out
                          have e : timesK P s2 [(0 - x + P) % P, 1] i = (newt P (l.take (k + 1))).2 := by rw [HNW2.out, hin, ← HL2.out]; rfl
                          rw [e] at h
                          have e2 : (newt P (l.take (k + 1))).2.length = n3 := by rw [← e, timesK_len, HL2.out, HN3E.out]; rfl
                          have h2 := h.si0 (els_r hPb.2 (newt_els hPb.1 _).2) (by rw [e2]; exact hn3b)
                          rw [e2] at h2; exact h2)
                        have HPNr := Lib.hid (HPN.out.below HB2.out)
                        have HBf : Hid (Below w3.heap.size w3 wr) := (show Hid _ from HB36.out.trans ((HBk.out.trans (HB2.out.mono HBk.out.size)).mono HB36.out.size))
                        clear hin
                        go_wp2_with fail
                        go_roundw
                        case rel => exact ⟨k + 1, by rw [← HEL.out]; omega, by go_num, HPNr.out, HNN.out, HBf.out⟩
                        case measure => simp [intOf]; omega
              · have hd4 : decide (k < L) = false := decide_eq_false hlt
                have hkL : l.take k = l := List.take_of_length_le (by rw [← HEL.out]; omega)
                rw [hkL] at HVP hn1
                have HVPf := HVP
                have hpl : (newt P l).1.length ≤ 1000000 := by have := hn1.1; split at this <;> omega
                have HE := Lib.hid (inE_0 EOE.out HNO.out)
                rw [hkL]
                clear hkL hn1 hlk
                go_wp2_with fail
                (with_reducible refine (rtrim_any (newt P l).1 _ wr HVPf.out hpl).mono ?_)
                rintro e w9 ⟨v', rfl, ho9, hb9⟩
                have HO9 := Lib.hid ho9
                have HB9 : Hid (Below w1.heap.size w1 w9) := (show Hid _ from HB1r.out.trans (hb9.mono HB1r.out.size))
                have hbs : w.heap.size ≤ wr.heap.size := by have := HB1r.out.size; omega
                clear ho9 hb9
                go_wp2_with fail
                go_ret2
                refine ⟨v', by rw [HE.out.1]; rfl, ?_, HAw1.out.trans (HB9.out.mono HAw1.out.size)⟩
                rw [HE.out.2]
                exact own_lower HO9.out hbs
      · have HE := Lib.hid (inE_op (by rw [EOE.out]; exact h0))
        have d0 : (oe != 0) = true := by rw [bne_iff_ne]; exact h0
        have HEE := EOE.out
        have HE1 : Hid (inE P l = oe) := (show Hid _ from by show _ = _; rw [HE.out.1, HEE])
        clear HEE h0
        go_wp2_with fail
        go_ret2
        exact ⟨.slice none 0 0, by rw [HE1.out]; rfl, by rw [HE.out.2]; exact World.ownsRow_nil _ _ _ _, HBw2.out⟩
end Go.Proofs.Ytbgabipngdillaa
