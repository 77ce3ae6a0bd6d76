/- Joined: Fx Qi Md. -/
import Derived.Stop.Asserts
import Derived.LaidEql
import Derived.RowKitTokens
import Derived.Laws.EntriesVeiled
import Derived.Deep.RegionHeld3
import Derived.Deep.QuietTactic
import Derived.BigQuiet
import Derived.Deep.DeepCutAuto
import Derived.Lib.Hide
import Derived.Deep.RegionWith
import Derived.Deep.RegionLaw
import Derived.BigRegion
import Derived.Sort.OwnSortedInts
import Derived.Lib.SlicesCompact
import Derived.Deep.AppendSrc
import Derived.Deep.Upon
import Derived.Test.YtbgabipngdillaaJ20
import Derived.Test.YtbgabipngdillaaJ18
import Derived.Test.YtbgabipngdillaaJ17
import Derived.Test.YtbgabipngdillaaJ03
import Derived.Test.YtbgabipngdillaaJ09
import Derived.Test.YtbgabipngdillaaJ15
import Derived.Test.YtbgabipngdillaaJ14
import Derived.Test.YtbgabipngdillaaJ16
import Derived.Test.YtbgabipngdillaaJ19
import Derived.Test.YtbgabipngdillaaJ05
import Derived.Test.YtbgabipngdillaaJ04
import Derived.Test.YtbgabipngdillaaJ01
import Derived.Test.YtbgabipngdillaaJ07
import Derived.Test.YtbgabipngdillaaJ06
import Derived.Test.YtbgabipngdillaaJ08
import Derived.Test.YtbgabipngdillaaJ11
import Derived.Test.YtbgabipngdillaaJ10
namespace Go.Proofs.Ytbgabipngdillaa
open Go.RowKit

/-- the headers of rows outside a block, for all worlds behind -/
theorem SLE.view {g : Nat} {w : World} {v : Value} {rows : List (List Int)} (h : SLE g w v rows) (h0 : 0 < rows.length) : ∃ (ba oa c : Nat) (H : Nat → Value), v = .slice (some ⟨ba, oa, none⟩) rows.length c ∧ ba < w.heap.size ∧
    ∀ W, w.grownBy W (some g) → ∀ j (hj : j < rows.length), W.cell? ⟨ba, oa + j, none⟩ = some (H j) ∧ SE g W (H j) rows[j] ∧ ∃ B d, H j = .slice B rows[j].length d := by
  obtain ⟨A, c, rfl, hc, hm, ha⟩ := h
  obtain ⟨b, off, rfl, hb, hbg, hcell⟩ := ha h0
  refine ⟨b, off, c, fun j => (w.cell? ⟨b, off + j, none⟩).getD undef, rfl, hb, fun W hg j hj => ?_⟩
  obtain ⟨B, d, h1, h2⟩ := hcell j hj
  have e : (w.cell? ⟨b, off + j, none⟩).getD undef = .slice B rows[j].length d := by rw [h1]; rfl
  refine ⟨?_, ?_, B, d, e⟩
  · show _ = some ((w.cell? ⟨b, off + j, none⟩).getD undef)
    rw [e]; exact (World.cell?_of_block (hg.block b hb (by simp; exact hbg))).trans h1
  · show SE g W ((w.cell? ⟨b, off + j, none⟩).getD undef) _
    rw [e]; exact h2.grown hg
end Go.Proofs.Ytbgabipngdillaa

namespace Go.Proofs.Ytbgabipngdillaa
open Go.RowKit

theorem ez_take (a : List Int) (k : Nat) (h : k < a.length) (x : Int) : ez (a.take (k + 1)) x = ez (a.take k) x + x ^ k * gd a k := by
  rw [List.take_succ_eq_append_getElem h, ez_snoc, List.length_take, Nat.min_eq_left (by omega), gd_lt h]
theorem ez_td (l : List Int) (n : Nat) (hn : n ≤ l.length) (x : Int) : ez l x = ez (l.take n) x + x ^ n * ez (l.drop n) x := by
  have h := ez_app (l.take n) (l.drop n) x
  rw [List.take_append_drop, List.length_take, Nat.min_eq_left hn] at h
  exact h
theorem addT_ezF {P y : Int} {T b : List Int} {o : Nat} (h : o + b.length ≤ T.length) (x : Int) : P ∣ ez (addT P T o y b) x - (ez T x + y * (x ^ o * ez b x)) := by
  have h1 := addT_ez (P := P) (y := y) h x
  have e1 := ez_td (addT P T o y b) (o + b.length) (by rw [addT_len]; exact h) x
  have e2 := ez_td T (o + b.length) h x
  have e3 : (addT P T o y b).drop (o + b.length) = T.drop (o + b.length) := by
    refine list_ext_gd (by simp [addT_len]) fun k hk => ?_
    have g : ∀ l : List Int, gd (l.drop (o + b.length)) k = gd l (o + b.length + k) := fun l => by unfold gd; rw [List.getElem?_drop]
    rw [g, g, addT_gd _ _ _ _ _ h, if_neg (by omega)]
  rw [e3] at e1
  refine dvd_of_eq' h1 ?_
  omega
theorem timesK_ez (P : Int) (a b : List Int) (x : Int) : ∀ k, k ≤ a.length → P ∣ ez (timesK P a b k) x - ez (a.take k) x * ez b x
  | 0, _ => by
    show P ∣ ez (zeros _) x - ez (List.take 0 a) x * ez b x
    rw [ez_zeros, List.take_zero, ez_nil]; exact ⟨0, by simp⟩
  | k + 1, h => by
    have ih := timesK_ez P a b x k (by omega)
    have h2 := addT_ezF (P := P) (y := gd a k) (T := timesK P a b k) (b := b) (o := k) (by rw [timesK_len]; omega) x
    rw [timesK_succ, ez_take a k (by omega)]
    refine dvd_of_eq' (Int.dvd_add h2 ih) ?_
    rw [Int.add_mul, Int.mul_assoc, Int.mul_left_comm (gd a k) (x ^ k)]
    omega
theorem timesP_ez (P : Int) (a b : List Int) (x : Int) : P ∣ ez (timesP P a b) x - ez a x * ez b x := by
  have h := timesK_ez P a b x a.length (Nat.le_refl _)
  rw [List.take_length] at h; exact h
theorem padd_ez (a : List Int) (n : Nat) (x : Int) : ez (padd a n) x = ez a x := by unfold padd; rw [ez_app, ez_zeros]; omega
theorem newt_inv {P : Int} (hp : prB P = true) (l : List (Int × Int)) (hd : ∀ i j (hi : i < l.length) (hj : j < l.length), i ≠ j → ¬ P ∣ l[i].1 - l[j].1) : ∀ k (hk : k ≤ l.length),
    (∀ i (hi : i < k), P ∣ ez (newt P (l.take k)).1 (l[i]'(by omega)).1 - (l[i]'(by omega)).2) ∧ (∀ i (hi : i < k), P ∣ ez (newt P (l.take k)).2 (l[i]'(by omega)).1) ∧ (∀ z, (∀ i (hi : i < k), ¬ P ∣ z - (l[i]'(by omega)).1) → ¬ P ∣ ez (newt P (l.take k)).2 z)
  | 0, _ => by
    have hP := prB_bd hp
    refine ⟨fun i hi => by omega, fun i hi => by omega, fun z _ h => ?_⟩
    have e : ez (newt P (l.take 0)).2 z = 1 := by simp [newt, ez]
    rw [e] at h
    obtain ⟨q, hq⟩ := h
    have h1 : (1 : Int) % P = 0 := by rw [hq]; exact Int.mul_emod_right P q
    rw [Int.emod_eq_of_lt (by omega) (by omega)] at h1
    omega
  | k + 1, hk => by
    have hP := prB_bd hp
    obtain ⟨i1, i2, i3⟩ := newt_inv hp l hd k (by omega)
    have hkl : k < l.length := by omega
    have hn := newt_snoc P l k hkl
    obtain ⟨s, es⟩ : ∃ s, s = newt P (l.take k) := ⟨_, rfl⟩
    have hs := newt_len P (l.take k)
    rw [← es] at i1 i2 i3 hn hs
    obtain ⟨t, et⟩ : ∃ t, t = l[k] := ⟨_, rfl⟩
    rw [← et] at hn
    have e1 : (newt P (l.take (k + 1))).1 = addT P (padd s.1 s.2.length) 0 (byN P s t) s.2 := by rw [hn]; rfl
    have e2 : (newt P (l.take (k + 1))).2 = timesP P s.2 [(0 - t.1 + P) % P, 1] := by rw [hn]; rfl
    have hpl : (padd s.1 s.2.length).length = s.2.length := by
      have h1 := hs.1; have h2 := hs.2
      have : s.1.length ≤ s.2.length := by rw [h1, h2]; split <;> omega
      simp [padd, zeros]; omega
    have hA : ∀ z, P ∣ ez (newt P (l.take (k + 1))).1 z - (ez s.1 z + byN P s t * ez s.2 z) := fun z => by
      have h := addT_ezF (P := P) (y := byN P s t) (T := padd s.1 s.2.length) (b := s.2) (o := 0) (by omega) z
      rw [e1]
      rw [padd_ez, Int.pow_zero, Int.one_mul] at h
      refine dvd_of_eq' h ?_
      omega
    have hB : ∀ z, P ∣ ez (newt P (l.take (k + 1))).2 z - ez s.2 z * (z - t.1) := fun z => by
      have h := timesP_ez P s.2 [(0 - t.1 + P) % P, 1] z
      have hm := mod_dvd P (0 - t.1 + P)
      have e : ez [(0 - t.1 + P) % P, 1] z = (0 - t.1 + P) % P + z := by simp [ez]
      rw [e] at h
      rw [e2]
      have h2 := dvr (k := ez s.2 z) hm
      have h3 : P ∣ ez s.2 z * P := Int.dvd_mul_left _ _
      refine dvd_of_eq' (Int.dvd_add (Int.dvd_add h h2) h3) ?_
      rw [Int.mul_add, Int.mul_sub, Int.mul_sub, Int.mul_add, Int.mul_sub]
      omega
    have ht : ¬ P ∣ ez s.2 t.1 := i3 t.1 fun i hi h => by rw [et] at h; exact hd k i hkl (by omega) (by omega) h
    have hv2 : val P s.2 t.1 % P ≠ 0 := fun h => ht (by
      rw [val_ez, Int.emod_emod_of_dvd _ (Int.dvd_refl P)] at h
      exact Int.dvd_of_emod_eq_zero h)
    refine ⟨fun i hi => ?_, fun i hi => ?_, fun z hz h => ?_⟩
    · rcases Nat.lt_or_ge i k with h1 | h1
      · have h2 := hA (l[i]'(by omega)).1
        have h3 := i1 i h1
        have h4 := dvr (k := byN P s t) (i2 i h1)
        refine dvd_of_eq' (Int.dvd_add (Int.dvd_add h2 h3) h4) ?_
        omega
      · have ei : i = k := by omega
        subst ei
        rw [← et]
        have h2 := hA t.1
        have hc : P ∣ byN P s t * ez s.2 t.1 - (t.2 - ez s.1 t.1) := by
          have hi := inv_mul hp (val P s.2 t.1) hv2
          have h3 := mod_dvd P ((t.2 - val P s.1 t.1 + P) % P * inv P (val P s.2 t.1))
          have h4 := mod_dvd P (t.2 - val P s.1 t.1 + P)
          have h5 := mod_dvd P (inv P (val P s.2 t.1) * val P s.2 t.1)
          rw [hi] at h5
          have h6 : P ∣ val P s.2 t.1 - ez s.2 t.1 := by rw [val_ez]; exact mod_dvd P _
          have h7 : P ∣ val P s.1 t.1 - ez s.1 t.1 := by rw [val_ez]; exact mod_dvd P _
          show P ∣ (t.2 - val P s.1 t.1 + P) % P * inv P (val P s.2 t.1) % P * ez s.2 t.1 - (t.2 - ez s.1 t.1)
          generalize (t.2 - val P s.1 t.1 + P) % P = a at *
          generalize inv P (val P s.2 t.1) = iv at *
          generalize val P s.2 t.1 = v at *
          generalize ez s.2 t.1 = E at *
          generalize val P s.1 t.1 = u at *
          generalize ez s.1 t.1 = U at *
          generalize a * iv % P = b at *
          obtain ⟨q3, q3e⟩ := h3
          obtain ⟨q4, q4e⟩ := h4
          obtain ⟨q5, q5e⟩ := h5
          obtain ⟨q6, q6e⟩ := h6
          obtain ⟨q7, q7e⟩ := h7
          have eb : b = a * iv + P * q3 := by omega
          have ea : a = t.2 - u + P + P * q4 := by omega
          have ev : E = v - P * q6 := by omega
          have eiv : iv * v = 1 - P * q5 := by omega
          have eu : u = U + P * q7 := by omega
          refine ⟨-(a * q5) + q3 * v - b * q6 + 1 + q4 - q7, ?_⟩
          have e9 : b * E = a * (iv * v) + P * q3 * v - b * (P * q6) := by
            rw [ev, Int.mul_sub]
            have e10 : b * v = a * iv * v + P * q3 * v := by rw [eb, Int.add_mul]
            rw [e10, Int.mul_assoc a iv v]
          rw [e9, eiv, Int.mul_sub, Int.mul_one]
          have e11 : a - (t.2 - U) = P * (1 + q4 - q7) := by
            rw [Int.mul_sub, Int.mul_add, Int.mul_one]; omega
          have e12 : a * (P * q5) = P * (a * q5) := Int.mul_left_comm a P q5
          have e13 : P * q3 * v = P * (q3 * v) := Int.mul_assoc P q3 v
          have e14 : b * (P * q6) = P * (b * q6) := Int.mul_left_comm b P q6
          rw [e12, e13, e14]
          have e15 : P * (-(a * q5) + q3 * v - b * q6 + 1 + q4 - q7) = -(P * (a * q5)) + P * (q3 * v) - P * (b * q6) + P * (1 + q4 - q7) := by
            simp only [Int.mul_add, Int.mul_sub, Int.mul_neg, Int.mul_one]
            omega
          rw [e15]
          omega
        refine dvd_of_eq' (Int.dvd_add h2 hc) ?_
        omega
    · rcases Nat.lt_or_ge i k with h1 | h1
      · have h2 := hB (l[i]'(by omega)).1
        have h3 := dvl (k := (l[i]'(by omega)).1 - t.1) (i2 i h1)
        refine dvd_of_eq' (Int.dvd_add h2 h3) ?_
        omega
      · have ei : i = k := by omega
        subst ei
        rw [← et]
        have h2 := hB t.1
        rw [Int.sub_self, Int.mul_zero] at h2
        refine dvd_of_eq' h2 ?_
        omega
    · have h2 := hB z
      have h3 : P ∣ ez s.2 z * (z - t.1) := by
        have := Int.dvd_sub h h2
        refine dvd_of_eq' this ?_
        omega
      rcases pr_euclid hp _ _ h3 with h4 | h4
      · exact i3 z (fun i hi => hz i (by omega)) h4
      · refine hz k (by omega) ?_
        rw [← et]; exact h4
theorem interp_pt {P : Int} (hp : prB P = true) (l : List (Int × Int)) (hd : ∀ i j (hi : i < l.length) (hj : j < l.length), i ≠ j → ¬ P ∣ l[i].1 - l[j].1) {i : Nat} (hi : i < l.length) : P ∣ ez (interp P l) l[i].1 - l[i].2 := by
  have h := (newt_inv hp l hd l.length (Nat.le_refl _)).1 i hi
  rw [List.take_length] at h
  unfold interp
  rw [ez_trim]
  exact h
end Go.Proofs.Ytbgabipngdillaa

namespace Go.Proofs.Ytbgabipngdillaa
open Go.RowKit

theorem madeBools (n : Nat) : madeCells (Value.bool false).cells n = ((List.range n).map fun (j : Nat) => Value.bool (decide (j ∈ ([] : List Nat)))).toArray := by
  apply Array.toList_inj.1
  show (madeCells #[Value.bool false] n).toList = _
  rw [toList_madeCells_one]
  refine List.ext_getElem (by simp) fun j h1 h2 => by simp
/-- make([]bool, n) -/
theorem wpList_make_bools {P : Program} (w : World) {ops : Array Oper} {rest : List Oper} {o : Oper} {a : Act} {Q : Exit → Act → World → Prop}
    (hg : o.guard = none) (l c : Operand) (t : TypeId) (hop : o.op = Op.makeSlice t l c) (e : TypeId) (ht : P.underlying t = some (.slice e)) (hinfo : (P.info? e).map (fun i => (i.zero, i.size, i.bytes)) = some (some (.bool false), 1, 1))
    (L : Int) (n : Nat) (hl : a.eval l = .int .i64 L) (hc : a.eval c = .int .i64 L) (hL : L = (n : Int)) (hn : n ≤ 10000000)
    (hK : wpList P ops Q rest (a.put o.dst (.slice (some ⟨w.heap.size, 0, none⟩) n n)) (w.alloc (.cells ((List.range n).map fun (j : Nat) => Value.bool (decide (j ∈ ([] : List Nat)))).toArray e))) :
    wpList P ops Q (o :: rest) a w := by
  obtain ⟨i0, hi0, hz0, hz1, hz2⟩ := info_parts hinfo
  subst hL
  have hrun := run_makeSlice (P := P) w t e i0 _ ht hi0 hz0 .i64 .i64 n n (by omega) (Int.le_refl _) (by rw [hz1]; simp; omega) (by rw [hz2]; omega) (by omega)
  simp only [Int.toNat_natCast] at hrun
  rw [hz1, Nat.mul_one, madeBools n] at hrun
  refine wpList_plain hg fun K hK' => ?_
  unfold Oper.wp
  simp only [execOp, hop, hl, hc, hrun, Result.andThen, Sem.run_bind, Sem.run_pure]
  first
    | exact hK' _ _ hK
    | (simp [hrun, Result.andThen]; exact hK' _ _ hK)
end Go.Proofs.Ytbgabipngdillaa
