/- Joined: In3 Kn Up Kp Dv Rk. -/
import Derived.Laws.CopyOwn
import Derived.Deep.CutRange
import Derived.Test.YtbgabipngdillaaJ07
import Derived.Test.YtbgabipngdillaaJ08
import Derived.Test.YtbgabipngdillaaJ03
import Derived.Test.YtbgabipngdillaaJ06
import Derived.Test.YtbgabipngdillaaJ05
import Derived.Test.YtbgabipngdillaaJ04
import Derived.Test.YtbgabipngdillaaJ01
namespace Go.Proofs.Ytbgabipngdillaa
open Go.RowKit Go.Maps

theorem zeroB (w : World) : (zeroValue 4).run Try.prog w = .ok (.bool false) w := Try.zeroValue4 w
def shX (l : List (Int × Int)) : List Int := l.map (·.1)
def shY (l : List (Int × Int)) : List Int := l.map (·.2)
/-- the error of Interpolate, and what it finds -/
def inE (P : Int) (l : List (Int × Int)) : Int := if opE P [shX l, shY l] = 0 then (if (shX l).Nodup then 0 else 7) else opE P [shX l, shY l]
def inP (P : Int) (l : List (Int × Int)) : List Int := if inE P l = 0 then interp P l else []
theorem shX_snoc (l : List (Int × Int)) (k : Nat) (h : k < l.length) : shX (l.take (k + 1)) = shX (l.take k) ++ [l[k].1] := by
  unfold shX; rw [List.take_succ_eq_append_getElem h, List.map_append]; rfl
theorem shY_snoc (l : List (Int × Int)) (k : Nat) (h : k < l.length) : shY (l.take (k + 1)) = shY (l.take k) ++ [l[k].2] := by
  unfold shY; rw [List.take_succ_eq_append_getElem h, List.map_append]; rfl
theorem shX_len (l : List (Int × Int)) : (shX l).length = l.length := by simp [shX]
theorem shY_len (l : List (Int × Int)) : (shY l).length = l.length := by simp [shY]
theorem inE_op {P : Int} {l : List (Int × Int)} (h : opE P [shX l, shY l] ≠ 0) : inE P l = opE P [shX l, shY l] ∧ inP P l = [] := by
  have e : inE P l = opE P [shX l, shY l] := if_neg h
  exact ⟨e, if_neg (by rw [e]; exact h)⟩
theorem inE_7 {P : Int} {l : List (Int × Int)} (h : opE P [shX l, shY l] = 0) (h2 : ¬ (shX l).Nodup) : inE P l = 7 ∧ inP P l = [] := by
  have e : inE P l = 7 := by unfold inE; rw [if_pos h, if_neg h2]
  exact ⟨e, if_neg (by rw [e]; omega)⟩
theorem inE_0 {P : Int} {l : List (Int × Int)} (h : opE P [shX l, shY l] = 0) (h2 : (shX l).Nodup) : inE P l = 0 ∧ inP P l = interp P l := by
  have e : inE P l = 0 := by unfold inE; rw [if_pos h, if_pos h2]
  exact ⟨e, if_pos e⟩
theorem opE_two {P : Int} {a b : List Int} (h : opE P [a, b] = 0) : prB P = true ∧ els P a = true ∧ els P b = true ∧ a.length ≤ 512 ∧ b.length ≤ 512 := by
  unfold opE at h
  by_cases h1 : prB P = false
  · rw [if_pos h1] at h; omega
  rw [if_neg h1] at h
  by_cases h2 : ([a, b].all (els P)) = false
  · rw [if_pos h2] at h; omega
  rw [if_neg h2] at h
  by_cases h3 : longB [a, b] = true
  · rw [if_pos h3] at h; omega
  simp [longB] at h1 h2 h3
  exact ⟨h1, h2.1, h2.2, by omega, by omega⟩
/-- minus a number -/
def ngv (P x : Int) : Int := (0 - x + P) % P
theorem ngv_any (P x : Int) (w : World) (hP : 2 ≤ P ∧ P ≤ 65521) (hx : 0 ≤ x ∧ x < P) :
    Calls Try.prog 74 #[.int .i64 P, .int .i64 0, .int .i64 x] w fun e w' => e = .returned (.int .i64 (ngv P x)) ∧ w = w' :=
  sub_any P 0 x w hP (by omega) hx
theorem SI.own_lt {w : World} {v : Value} {l : List Int} (h : SI w v l) (hl : 0 < l.length) : ∀ k, v.ownBlock = some k → k < w.heap.size := by
  obtain ⟨A, c, rfl, _, _, _, ha⟩ := h
  obtain ⟨b, off, rfl, hb, _⟩ := ha hl
  intro k hk
  simp [Value.ownBlock] at hk
  omega
theorem own_lower {w : World} {base base' : Nat} {e : TypeId} {size n : Nat} {v : Value} {xs : List Value} (h : w.ownsRow base e size v n xs) (hb : base' ≤ base) : w.ownsRow base' e size v n xs := by
  refine ⟨h.1, ?_⟩
  rcases h.2 with ⟨e1, e2⟩ | ⟨g, cap, cur, e1, hg, rest⟩
  · exact .inl ⟨e1, e2⟩
  · exact .inr ⟨g, cap, cur, e1, Nat.le_trans hb hg, rest⟩
theorem isz : (Try.prog.info? 3).map (·.size) = some 1 := by kernel_rfl
theorem splice_pad (l : List Int) (n : Nat) (_h : l.length ≤ n) : splice ((zeros n).map (Value.int .i64)) 0 (l.map (Value.int .i64)) = (padd l n).map (Value.int .i64) := by
  simp [splice, padd, zeros, List.map_append, List.drop_replicate]
def InR1 (l : List (Int × Int)) (B : Nat) (w1 : World) (i v6 v7 : Value) (wr : World) : Prop :=
  ∃ k : Nat, k ≤ l.length ∧ i = .int .i64 k ∧ TwoR B wr v6 (shX (l.take k)) v7 (shY (l.take k)) ∧ Below B w1 wr
def InR2 (xs : List Int) (mb : Nat) (B : Nat) (w1 : World) (i : Value) (wr : World) : Prop :=
  ∃ k : Nat, k ≤ xs.length ∧ i = .int .i64 k ∧ BM Try.prog 3 4 wr mb k (xs.take k).reverse ∧ (xs.take k).Nodup ∧ Below B w1 wr
def InR3 (P : Int) (l : List (Int × Int)) (B : Nat) (w1 : World) (i vp vn : Value) (wr : World) : Prop :=
  ∃ k : Nat, k ≤ l.length ∧ i = .int .i64 k ∧ SI wr vp (newt P (l.take k)).1 ∧ SI wr vn (newt P (l.take k)).2 ∧ Below B w1 wr
theorem pcs_cells {w : World} {v : Value} {l : List (Int × Int)} (h : SG pcs 2 w.heap.size w v l) : ∃ A c, v = .slice A l.length c ∧ l.length ≤ c ∧ c ≤ 9223372036854775807 ∧ (∀ x ∈ l, i64r x.1 ∧ i64r x.2) ∧
    (0 < l.length → ∃ b off, A = some ⟨b, off, none⟩ ∧ b < w.heap.size ∧ ∀ j (h : j < l.length), w.cell? ⟨b, off + j * 2, none⟩ = some (.int .i64 l[j].1) ∧ w.cell? ⟨b, off + j * 2 + 1, none⟩ = some (.int .i64 l[j].2)) := by
  obtain ⟨A, c, rfl, hc, hm, hr, ha⟩ := h
  refine ⟨A, c, rfl, hc, hm, fun x hx => ⟨hr x hx x.1 (by simp [pcs]), hr x hx x.2 (by simp [pcs])⟩, fun h0 => ?_⟩
  obtain ⟨b, off, rfl, hb, hcell⟩ := ha h0
  exact ⟨b, off, rfl, hb, fun j hj => ⟨hcell j hj 0 (by omega), hcell j hj 1 (by omega)⟩⟩

set_option maxRecDepth 100000 in
set_option maxHeartbeats 4000000 in
theorem interp_any (P : Int) (l : List (Int × Int)) (v : Value) (w : World) (hP : i64r P) (h : SG pcs 2 w.heap.size w v l) (hlen : l.length ≤ 1000000) :
    Calls Try.prog 53 #[.agg #[.int .i64 P], v] w fun e w' => ∃ v', e = .returned (.tuple #[v', .int .i64 (inE P l)]) ∧ w'.ownsRow w.heap.size 3 1 v' (inP P l).length ((inP P l).map (Value.int .i64)) ∧ Below w.heap.size w w' := by
  obtain ⟨A, c, rfl, hc, hm, hr, ha⟩ := pcs_cells h
  have HA := Lib.hid ha
  have HR := Lib.hid hr
  clear ha hr h
  go_enter Try.func53, Try.ntmps53
  go_wp2_with fail
  obtain ⟨w1, ew⟩ : ∃ w1 : World, w1 = w.alloc (.cells #[.int .i64 P] 26) := ⟨_, rfl⟩
  have hW1 : Below w.heap.size w w1 := by rw [ew]; exact (Below.refl _ _).alloc (Nat.le_refl _) _
  have hz1 : w.heap.size < w1.heap.size := by rw [ew]; simp
  have c0 : w1.cell? ⟨w.heap.size, 0, none⟩ = some (.int .i64 P) := by rw [ew]; exact cell_of_row _ _ 0 _ _ (0, 0) (heap_alloc_new w _)
  rw [← ew]
  clear ew
  go_loopw [23, 6, 7] (fun i v6 v7 wr => InR1 l w1.heap.size w1 i v6 v7 wr) (fun i _ _ _ => l.length - (intOf i).toNat)
  case atStart => exact ⟨0, Nat.zero_le _, rfl, ⟨World.ownsRow_nil _ _ _ _, World.ownsRow_nil _ _ _ _, fun k hk => by simp [Value.ownBlock] at hk⟩, Below.refl _ _⟩
  case round =>
    obtain ⟨k, hk, rfl, hT, hB⟩ := hrel
    have HT := Lib.hid hT
    have hzr := hB.size
    clear hT
    by_cases hlt : k < l.length
    · obtain ⟨b, off, rfl, hb, hcell⟩ := HA.out (by omega)
      obtain ⟨k0, k1⟩ := hcell k hlt
      have e0 := (hB.cell (p := ⟨b, off + k * 2, none⟩) (by show b < _; omega)).trans ((hW1.cell hb).trans k0)
      have e1 := (hB.cell (p := ⟨b, off + k * 2 + 1, none⟩) (by show b < _; omega)).trans ((hW1.cell hb).trans k1)
      have HX := Lib.hid (shX_snoc l k hlt)
      have HY := Lib.hid (shY_snoc l k hlt)
      have hxl : (shX (l.take k)).length ≤ k := by rw [shX_len]; exact List.length_take_le _ _
      have hyl : (shY (l.take k)).length ≤ k := by rw [shY_len]; exact List.length_take_le _ _
      have hd1 : decide ((k : Int) < (l.length : Int)) = true := decide_eq_true (by omega)
      have hd2 : decide (k < l.length) = true := decide_eq_true hlt
      clear hcell k0 k1
      go_upto_region 5 with fail
      obtain ⟨wG, ew⟩ : ∃ wG : World, wG = wr.alloc (.cells #[.int .i64 l[k].1, .int .i64 l[k].2] 64) := ⟨_, rfl⟩
      have hbG : Below wr.heap.size wr wG := by rw [ew]; exact (Below.refl _ _).alloc (Nat.le_refl _) _
      have hzG : wr.heap.size < wG.heap.size := by rw [ew]; simp
      have x0 : wG.cell? ⟨wr.heap.size, 0, none⟩ = some (.int .i64 l[k].1) := by rw [ew]; exact cell_of_row _ _ 0 _ _ (0, 0) (heap_alloc_new wr _)
      have x1 : wG.cell? ⟨wr.heap.size, 1, none⟩ = some (.int .i64 l[k].2) := by rw [ew]; exact cell_of_row _ _ 1 _ _ (0, 0) (heap_alloc_new wr _)
      have HTG : Hid (TwoR w1.heap.size wG u6 (shX (l.take k)) u7 (shY (l.take k))) := by show TwoR _ _ _ _ _ _; rw [ew]; exact HT.out.alloc _
      have HG : Hid (∀ q, u6.ownBlock = some q ∨ u7.ownBlock = some q → q ≠ wr.heap.size) := fun q hq => by
        rcases hq with hq | hq
        · have := (HT.out.1.lt q hq).2; omega
        · have := (HT.out.2.1.lt q hq).2; omega
      rw [← ew]
      clear ew
      apply reg5 w1.heap.size wr.heap.size l[k].1 l[k].2 (shX (l.take k)) (shY (l.take k)) u6 u7 wG HTG.out x0 x1 HG.out hzG (by omega) (by omega) (by omega)
      intro q27 q28 q29 q30 q31 q32 q33 q34 q35 q36 v6 v7 w2 hT2 hb2
      have HT2 := Lib.hid hT2
      clear hT2 x0 x1
      go_wp2_with fail
      go_roundw
      case rel => exact ⟨k + 1, by omega, by go_num, by rw [HX.out, HY.out]; exact HT2.out, (hB.trans (hbG.mono hzr)).trans hb2⟩
      case measure => simp [intOf]; omega
    · have hkk : k = l.length := by omega
      have HTT : Hid (TwoR w1.heap.size wr u6 (shX l) u7 (shY l)) := by show TwoR _ _ _ _ _ _; have := HT.out; rwa [hkk, List.take_length] at this
      have hd1 : decide ((k : Int) < (l.length : Int)) = false := decide_eq_false (by omega)
      have hd2 : decide (k < l.length) = false := decide_eq_false hlt
      have cP := (hB.cell (p := ⟨w.heap.size, 0, none⟩) hz1).trans c0
      have hSX : SI wr u6 (shX l) := SI.of_own HTT.out.1 (fun x hx => by
        simp only [shX, List.mem_map] at hx
        obtain ⟨p, hp, rfl⟩ := hx
        exact (HR.out p hp).1)
      have hSY : SI wr u7 (shY l) := SI.of_own HTT.out.2.1 (fun x hx => by
        simp only [shY, List.mem_map] at hx
        obtain ⟨p, hp, rfl⟩ := hx
        exact (HR.out p hp).2)
      obtain ⟨AX, cX, rfl⟩ := hSX.form
      obtain ⟨AY, cY, rfl⟩ := hSY.form
      have HSL := Lib.hid (SL.two hSX hSY 22)
      have HSX := Lib.hid hSX
      have HSY := Lib.hid hSY
      have hWr := hW1.trans (hB.mono (by omega))
      clear hkk hSX hSY
      rw [shX_len, shY_len] at *
      go_wp2_with fail
      (with_reducible refine (open_any P [shX l, shY l] _ _ hP HSL.out).mono ?_); rintro e w2 ⟨rfl, hb2⟩
      have hbr2 : Below wr.heap.size wr w2 := ((Below.refl _ _).alloc (Nat.le_refl _) _).trans (hb2.mono (by simp))
      have hW2 := hWr.trans (hbr2.mono hWr.size)
      have hz2 := hbr2.size
      obtain ⟨oe, eoe⟩ : ∃ oe, opE P [shX l, shY l] = oe := ⟨_, rfl⟩
      obtain ⟨ov, eov⟩ : ∃ ov, opV P [shX l, shY l] = ov := ⟨_, rfl⟩
      rw [eoe, eov]
      have EOE := Lib.hid eoe
      have EOV := Lib.hid eov
      clear eoe eov
      by_cases h0 : oe = 0
      · subst h0
        obtain ⟨hp, heX, heY, hl1, hl2⟩ := opE_two EOE.out
        have hov : ov = P := by rw [← EOV.out]; exact if_pos EOE.out
        subst hov
        have HP := Lib.hid hp
        have HEX := Lib.hid heX
        have HEY := Lib.hid heY
        have hPb := prB_bd hp
        have HSX2 := Lib.hid (SI.below HSX.out hbr2)
        have HSY2 := Lib.hid (SI.below HSY.out hbr2)
        clear hp heX heY
        have hmf : (Instr.makeMap 121 none).run Try.prog w2 = .ok (.map (some w2.heap.size)) (w2.alloc (.map #[] 0)) := run_makeMap _ w2
        have hxl := shX_len l
        go_wp2_with fail
        obtain ⟨w3, ew⟩ : ∃ w3 : World, w3 = w2.alloc (.map #[] 0) := ⟨_, rfl⟩
        have hb23 : Below w2.heap.size w2 w3 := by rw [ew]; exact (Below.refl _ _).alloc (Nat.le_refl _) _
        have hz23 : w2.heap.size < w3.heap.size := by rw [ew]; simp
        have hBM0 : BM Try.prog 3 4 w3 w2.heap.size 0 [] := by rw [ew]; exact BM.made _ _ _ _
        have HBM0 := Lib.hid hBM0
        rw [← ew]
        clear ew hBM0 hmf
        go_loopw [52] (fun i wr => InR2 (shX l) w2.heap.size w2.heap.size w3 i wr) (fun i _ => (shX l).length - (intOf i).toNat)
        case atStart => exact ⟨0, Nat.zero_le _, rfl, HBM0.out, by simp, Below.refl _ _⟩
        case round =>
          obtain ⟨k2, hk2, rfl, hbm, hnd, hB3⟩ := hrel
          have HBM := Lib.hid hbm
          have HND := Lib.hid hnd
          have hb2r := hb23.trans hB3
          have HSXr := Lib.hid (SI.below HSX2.out hb2r)
          clear hbm hnd
          by_cases hlt2 : k2 < (shX l).length
          · have hxl2 : k2 < l.length := by omega
            have hcx := SB.cells (n := l.length) HSXr.out (by omega)
            obtain ⟨bx, ox, rfl, hbx, hcell⟩ := hcx
            have hck := hcell k2 hlt2
            have hr : i64r (shX l)[k2] := by
              obtain ⟨_, _, _, _, _, hr, _⟩ := HSXr.out
              exact hr _ (List.getElem_mem hlt2)
            have hd3 : decide ((k2 : Int) < (l.length : Int)) = true := decide_eq_true (by omega)
            have hd4 : decide (k2 < l.length) = true := decide_eq_true hxl2
            have HTK : Hid ((shX l).take (k2 + 1) = (shX l).take k2 ++ [(shX l)[k2]]) := List.take_succ_eq_append_getElem hlt2
            have HX := Lib.hid hxl
            clear hcell hxl
            cases hh : has ((shX l).take k2).reverse (shX l)[k2] with
            | true =>
              have HNN : Hid (¬ (shX l).Nodup) := fun hn => by
                have h1 : (shX l)[k2] ∈ (shX l).take k2 := by simpa [has] using hh
                obtain ⟨j, hj, e⟩ := List.mem_iff_getElem.1 h1
                rw [List.nodup_iff_pairwise_ne, List.pairwise_iff_getElem] at hn
                simp at hj e
                exact hn j k2 (by omega) hlt2 (by omega) e
              have HE := Lib.hid (inE_7 EOE.out HNN.out)
              have HH := Lib.hid hh
              clear hh
              go_wp2_with (at_lookup; refine wpList_lookup_BM _ rfl _ _ 121 rfl 3 4 Try.underlying121 Try.underlying3 Try.underlying4 (zeroB _) w2.heap.size k2 _ rfl (by exact HBM.out) _ rfl hr ?_; rw [HH.out])
              go_ret2
              exact ⟨.slice none 0 0, by rw [HE.out.1]; rfl, by rw [HE.out.2]; exact World.ownsRow_nil _ _ _ _, hW2.trans (hb2r.mono hW2.size)⟩
            | false =>
              have HNN : Hid (((shX l).take (k2 + 1)).Nodup) := by
                show List.Nodup _
                rw [HTK.out, List.nodup_append]
                refine ⟨HND.out, by simp, fun a ha b hb e => ?_⟩
                simp at hb
                subst hb e
                simp [has] at hh
                exact hh ha
              have HH := Lib.hid hh
              clear hh
              go_wp2_with (first
                | (at_lookup; refine wpList_lookup_BM _ rfl _ _ 121 rfl 3 4 Try.underlying121 Try.underlying3 Try.underlying4 (zeroB _) w2.heap.size k2 _ rfl (by exact HBM.out) _ rfl hr ?_; rw [HH.out])
                | (at_mapUpdate; refine wpList_update_BM _ rfl _ _ _ 121 rfl 3 4 Try.underlying121 Try.underlying3 Try.underlying4 w2.heap.size k2 _ rfl (by exact HBM.out) (by unfold maxLen; omega) _ rfl hr rfl ?_; intro w4 hbm4 hg4))
              have HBM4 := Lib.hid hbm4
              clear hbm4
              go_roundw
              case rel => exact ⟨k2 + 1, by omega, by go_num, by rw [HTK.out, List.reverse_append]; exact HBM4.out, HNN.out, Below.grown hB3 hg4 (Nat.le_trans hb23.size hB3.size) (fun q e => by cases e; exact Nat.le_refl _)⟩
              case measure => simp [intOf]; omega
          · have hkk2 : k2 = (shX l).length := by omega
            have HNN : Hid ((shX l).Nodup) := by show List.Nodup _; have := HND.out; rwa [hkk2, List.take_length] at this
            have hd3 : decide ((k2 : Int) < (l.length : Int)) = false := decide_eq_false (by omega)
            have hd4 : decide (k2 < l.length) = false := decide_eq_false (by omega)
            have HSYr := Lib.hid (SI.below HSY2.out hb2r)
            have HE := Lib.hid (inE_0 EOE.out HNN.out)
            have hWr2 := hW2.trans (hb2r.mono hW2.size)
            have HX := Lib.hid hxl
            clear hkk2 hxl
            go_wp2_with fail
            obtain ⟨wN, ew⟩ : ∃ wN : World, wN = wr.alloc (.cells #[.int .i64 1] 3) := ⟨_, rfl⟩
            have hbN : Below wr.heap.size wr wN := by rw [ew]; exact (Below.refl _ _).alloc (Nat.le_refl _) _
            have hzN : wr.heap.size < wN.heap.size := by rw [ew]; simp
            have hS1 : SI wN (.slice (some ⟨wr.heap.size, 0, none⟩) 1 1) [1] := ⟨_, 1, rfl, Nat.le_refl _, by omega, by intro x hx; simp at hx; subst hx; unfold i64r; omega, fun _ => ⟨wr.heap.size, 0, rfl, hzN, fun j hj => by
              have hj0 : j = 0 := by simp at hj; omega
              subst hj0
              rw [ew]
              exact cell_of_row _ _ 0 _ _ (0, 0) (heap_alloc_new wr _)⟩⟩
            have HS1 := Lib.hid hS1
            rw [← ew]
            clear ew hS1
            have HSXN := Lib.hid (SI.below HSXr.out hbN)
            have HSYN := Lib.hid (SI.below HSYr.out hbN)
            have hWN := hWr2.trans (hbN.mono hWr2.size)
            obtain ⟨wo, rfl⟩ : ∃ wo : World, wo = wr := ⟨_, rfl⟩
            go_loopw [65, 15, 16] (fun i vp vn wr => InR3 ov l wN.heap.size wN i vp vn wr) (fun i _ _ _ => l.length - (intOf i).toNat)
            case atStart => exact ⟨0, Nat.zero_le _, rfl, ⟨none, 0, rfl, Nat.le_refl _, by omega, by simp [newt], fun h => by simp [newt] at h⟩, HS1.out, Below.refl _ _⟩
            case round =>
              obtain ⟨k3, hk3, rfl, hvp, hvn, hB5⟩ := hrel
              have HVP := Lib.hid hvp
              have HVN := Lib.hid hvn
              have hzr5 := hB5.size
              clear hvp hvn
              by_cases hlt3 : k3 < l.length
              · have hkx : k3 < (shX l).length := by rw [HX.out]; exact hlt3
                have hky : k3 < (shY l).length := by rw [shY_len]; exact hlt3
                have HSX5 := Lib.hid (SI.below HSXN.out hB5)
                have HSY5 := Lib.hid (SI.below HSYN.out hB5)
                have hcx := SB.cells (n := l.length) HSX5.out (by omega)
                obtain ⟨bx, ox, rfl, hbx, hcell⟩ := hcx
                have hckx := hcell k3 hkx
                have hcy := SB.cells (n := l.length) HSY5.out (by omega)
                obtain ⟨bY, oY, rfl, hbY, hcelly⟩ := hcy
                have hcky := hcelly k3 hky
                clear hcell hcelly
                rw [show (shX l)[k3] = l[k3].1 from by simp [shX]] at hckx
                rw [show (shY l)[k3] = l[k3].2 from by simp [shY]] at hcky
                have hex := el_t (els_all HEX.out l[k3].1 (by simp [shX]; exact ⟨_, List.getElem_mem hlt3⟩))
                have hey := el_t (els_all HEY.out l[k3].2 (by simp [shY]; exact ⟨_, List.getElem_mem hlt3⟩))
                have HNW := Lib.hid (newt_snoc ov l k3 hlt3)
                have hnl := newt_len ov (l.take k3)
                have hne := newt_els (P := ov) hPb.1 (l.take k3)
                have HN1 := Lib.hid hne.1
                have HN2 := Lib.hid hne.2
                rw [List.length_take, Nat.min_eq_left (by omega)] at hnl
                have hn1 : (newt ov (l.take k3)).1.length = k3 := by rw [hnl.1]; split <;> omega
                have hn2 : (newt ov (l.take k3)).2.length = k3 + 1 := hnl.2
                clear hnl hne
                generalize newt ov (l.take k3) = s at HVP HVN HNW HN1 HN2 hn1 hn2
                obtain ⟨AP, cp, rfl⟩ := HVP.out.form
                obtain ⟨AN, cn, rfl⟩ := HVN.out.form
                have hs1 : s.1.length ≤ 512 := by omega
                have hs2 : s.2.length ≤ 513 := by omega
                have hs3 : s.1.length ≤ s.2.length := by omega
                have hs4 : 1 ≤ s.2.length := by omega
                clear hn1 hn2
                have hd5 : decide ((k3 : Int) < (l.length : Int)) = true := decide_eq_true (by omega)
                have hd6 : decide (k3 < l.length) = true := decide_eq_true hlt3
                go_upto_region 23 with fail
                apply reg23 ov l[k3].1 l[k3].2 s.1 s.2 (.slice AP s.1.length cp) (.slice AN s.2.length cn) bY oY l.length cY k3 wr HP.out hex hey HN1.out HN2.out (by omega) (by omega) HVP.out HVN.out hlt3 hbY hcky
                intro q70 q71 q72 q73 q74 q75 q76 q77 q78 q79 q80 q81 q82 q83 q84 q85 q86 q87 w6 hb6
                have HBY : Hid (byN ov (s.1, s.2) (l[k3].1, l[k3].2) = byN ov s l[k3]) := rfl
                have hby : 0 ≤ byN ov s l[k3] ∧ byN ov s l[k3] < ov := ⟨Int.emod_nonneg _ (by omega), Int.emod_lt_of_pos _ (by omega)⟩
                rw [HBY.out]
                have HNW2 : Hid (newt ov (l.take (k3 + 1)) = (addT ov (padd s.1 s.2.length) 0 (byN ov s l[k3]) s.2, timesP ov s.2 [ngv ov l[k3].1, 1])) := HNW.out
                generalize byN ov s l[k3] = by_ at hby HNW2 ⊢
                generalize l[k3].1 = x at *
                generalize l[k3].2 = y at *
                clear HBY HNW
                have HVP6 := Lib.hid (SI.below HVP.out hb6)
                have HVN6 := Lib.hid (SI.below HVN.out hb6)
                have hz6 := hb6.size
                obtain ⟨wA, eA⟩ : ∃ wA : World, wA = w6.alloc (.cells ((zeros s.2.length).map (Value.int .i64)).toArray 3) := ⟨_, rfl⟩
                have hbA : Below w6.heap.size w6 wA := by rw [eA]; exact (Below.refl _ _).alloc (Nat.le_refl _) _
                have hKA : wA.heap[w6.heap.size]? = some (.cells ((zeros s.2.length).map (Value.int .i64)).toArray 3 (0, 0)) := by rw [eA]; exact heap_alloc_new w6 _
                have HKA := Lib.hid hKA
                have HVPA := Lib.hid (SI.below HVP6.out hbA)
                clear hKA
                have HPOS : Hid (0 < (s.1.map (Value.int .i64)).length → some (⟨w6.heap.size, 0, none⟩ : Addr) = some ⟨w6.heap.size, 0, none⟩ ∧ ∃ ad, AP = some ad ∧ ∀ j v, (s.1.map (Value.int .i64))[j]? = some v → wA.cell? (ad.add j) = some v) := fun h0 => by
                  refine ⟨rfl, ?_⟩
                  obtain ⟨b, off, e, _, hcs⟩ := SB.cells HVPA.out (by simpa using h0)
                  refine ⟨⟨b, off, none⟩, e, fun j v hv => ?_⟩
                  rw [List.getElem?_map] at hv
                  obtain ⟨q, hq, rfl⟩ := Option.map_eq_some_iff.1 hv
                  obtain ⟨hj, rfl⟩ := List.getElem?_eq_some_iff.1 hq
                  rw [Addr.add_lit]
                  exact hcs j hj
                go_wp2_with (first
                  | (at_make; refine wpList_make_ints _ rfl _ _ 22 rfl 3 Try.underlying22 iinfo _ s.2.length rfl rfl rfl (by omega) ?_; rw [← eA]; clear eA)
                  | (with_reducible refine wpList_copy_splice rfl (.tmp 91) (.tmp 92) 22 22 rfl 3 Try.underlying22 isz (some ⟨w6.heap.size, 0, none⟩) AP s.2.length s.2.length s.1.length cp rfl rfl w6.heap.size 0 ((zeros s.2.length).map (Value.int .i64)) 3 HKA.out (s.1.map (Value.int .i64)) (by rw [List.length_map]; exact (Nat.min_eq_left hs3).symm) (by exact HPOS.out) (by simp [zeros]; omega) (one_ints s.1) w6.heap.size w6 hbA (Nat.le_refl _) ?_; intro w7 hg7 hb7))
                have HB7 : Hid (BK w7 w6.heap.size (padd s.1 s.2.length)) := by
                  show w7.heap[w6.heap.size]? = _
                  rw [← splice_pad s.1 s.2.length hs3]; exact hg7.out
                have HVN7 := Lib.hid (SI.below HVN6.out hb7)
                have HNE : Hid (∀ q, (Value.slice AN s.2.length cn).ownBlock = some q → q ≠ w6.heap.size) := fun q hq => by
                  have := HVN6.out.own_lt (by omega) q hq
                  omega
                have hpe : els ov (padd s.1 s.2.length) = true := by
                  refine els_of fun z hz => ?_
                  simp only [padd, List.mem_append] at hz
                  rcases hz with hz | hz
                  · exact els_all HN1.out z hz
                  · exact els_all (zeros_els hPb.1 _) z hz
                have HPE := Lib.hid hpe
                have hpl : (padd s.1 s.2.length).length = s.2.length := by simp [padd, zeros]; omega
                have HPL := Lib.hid hpl
                clear hg7 hpe hpl
                (with_reducible refine (addTimes_any ov w6.heap.size 0 _ _ (padd s.1 s.2.length) by_ s.2 _ _ hPb hby HPE.out HN2.out HB7.out HVN7.out HNE.out (Nat.le_refl _) (by rw [HPL.out]; omega)).mono ?_); rintro e w8 ⟨⟨v8, rfl⟩, hb8, hg8⟩
                have HB8 := Lib.hid hb8
                have hg78 := hg8
                have hz7 := hb7.size
                have hz8 := hg8.size
                have hL68 : Below w6.heap.size w6 w8 := Below.grown hb7 hg8 hz7 (fun q e => by cases e; exact Nat.le_refl _)
                have HVN8 := Lib.hid (SI.below HVN6.out hL68)
                have hbw8 : w6.heap.size < w8.heap.size := HB8.out.lt
                clear hb8 hg8 hg78
                go_wp2_with fail
                (with_reducible refine (ngv_any ov x _ hPb hex).mono ?_); rintro e w' ⟨rfl, rfl⟩
                have hng : 0 ≤ ngv ov x ∧ ngv ov x < ov := ⟨Int.emod_nonneg _ (by omega), Int.emod_lt_of_pos _ (by omega)⟩
                generalize ngv ov x = nx at hng HNW2 ⊢
                go_wp2_with fail
                obtain ⟨w9, e9⟩ : ∃ w9 : World, w9 = w8.alloc (.cells #[.int .i64 nx, .int .i64 1] 3) := ⟨_, rfl⟩
                have hb9 : Below w8.heap.size w8 w9 := by rw [e9]; exact (Below.refl _ _).alloc (Nat.le_refl _) _
                have hz9 : w8.heap.size < w9.heap.size := by rw [e9]; simp
                have hS2 : SI w9 (.slice (some ⟨w8.heap.size, 0, none⟩) 2 2) [nx, 1] := ⟨_, 2, rfl, Nat.le_refl _, by omega, by intro z hz; simp at hz; rcases hz with rfl | rfl <;> (unfold i64r; omega), fun _ => ⟨w8.heap.size, 0, rfl, hz9, fun j hj => by
                  rw [e9]
                  have hj2 : j = 0 ∨ j = 1 := by simp at hj; omega
                  rcases hj2 with rfl | rfl
                  · exact cell_of_row _ _ 0 _ _ (0, 0) (heap_alloc_new w8 _)
                  · exact cell_of_row _ _ 1 _ _ (0, 0) (heap_alloc_new w8 _)⟩⟩
                rw [← e9]
                clear e9
                have HS2 := Lib.hid hS2
                have HVN9 := Lib.hid (SI.below HVN8.out hb9)
                have HE2 : Hid (els ov [nx, 1] = true) := els_of fun z hz => by
                  simp at hz
                  rcases hz with rfl | rfl
                  · exact el_mk hng
                  · exact el_mk (by omega)
                clear hS2
                (with_reducible refine (times_any ov s.2 [nx, 1] _ _ _ hPb HVN9.out HS2.out HN2.out HE2.out hs4 (by simp) (by omega) (by simp)).mono ?_); rintro e w10 ⟨g10, rfl, hb10, hg10, hL10⟩
                have hz10 := hL10.size
                have hk8 : BK w10 w6.heap.size (addT ov (padd s.1 s.2.length) 0 by_ s.2) := BK.below (BK.below HB8.out hb9 hbw8) hL10 (by omega)
                have hTl : (timesP ov s.2 [nx, 1]).length = s.2.length + 1 := by have := timesK_len ov s.2 [nx, 1] s.2.length; simpa [timesP, timesK] using this
                have hAl : (addT ov (padd s.1 s.2.length) 0 by_ s.2).length = s.2.length := by rw [addT_len]; exact HPL.out
                have hSa : SI w10 (.slice (some ⟨w6.heap.size, 0, none⟩) s.2.length s.2.length) (addT ov (padd s.1 s.2.length) 0 by_ s.2) := by
                  have := hk8.si (o := 0) (els_r hPb.2 (addT_els hPb.1 HPE.out 0 by_ s.2)) (by omega) (Nat.zero_le _)
                  rw [hAl] at this
                  simpa using this
                have hSt : SI w10 (.slice (some ⟨g10, 0, none⟩) (timesP ov s.2 [nx, 1]).length (timesP ov s.2 [nx, 1]).length) (timesP ov s.2 [nx, 1]) := by
                  have := hb10.si (o := 0) (els_r hPb.2 (timesK_els hPb.1 s.2 [nx, 1] s.2.length)) (by omega) (Nat.zero_le _)
                  simpa using this
                have HSA := Lib.hid hSa
                have HST := Lib.hid hSt
                clear hk8 hTl hAl hSa hSt hb10
                go_wp2_with fail
                go_roundw
                case rel =>
                  refine ⟨k3 + 1, by omega, by go_num, ?_, ?_, ?_⟩
                  · rw [HNW2.out]; exact HSA.out
                  · rw [HNW2.out]; exact HST.out
                  · exact hB5.trans (((hb6.trans (hL68.mono hz6)).trans ((hb9.trans (hL10.mono hb9.size)).mono (by omega))).mono hzr5)
                case measure => simp [intOf]; omega
              · have hkk3 : k3 = l.length := by omega
                have hd5 : decide ((k3 : Int) < (l.length : Int)) = false := decide_eq_false (by omega)
                have hd6 : decide (k3 < l.length) = false := decide_eq_false hlt3
                have hVF : SI wr u15 (newt ov l).1 := by have := HVP.out; rwa [hkk3, List.take_length] at this
                have HVF := Lib.hid hVF
                have hlF : (newt ov l).1.length ≤ 1000000 := by
                  have := (newt_len ov l).1
                  split at this <;> omega
                clear hkk3 hVF
                go_wp2_with fail
                (with_reducible refine (own_any (newt ov l).1 _ _ HVF.out hlF).mono ?_); rintro e w6 ⟨v6, rfl, hown6, hb6⟩
                have HO6 := Lib.hid hown6
                clear hown6
                go_wp2_with fail
                go_ret2
                refine ⟨v6, by rw [HE.out.1]; rfl, ?_, hWN.trans ((hB5.trans (hb6.mono hzr5)).mono hWN.size)⟩
                rw [HE.out.2]
                exact own_lower HO6.out (by have := hWN.size; omega)
      · have HE := Lib.hid (inE_op (P := P) (l := l) (by rw [EOE.out]; exact h0))
        have hb1 : (oe != 0) = true := by rw [bne_iff_ne]; exact h0
        have H0 := Lib.hid h0
        clear h0
        go_wp2_with fail
        go_ret2
        exact ⟨.slice none 0 0, by rw [HE.out.1, EOE.out]; rfl, by rw [HE.out.2]; exact World.ownsRow_nil _ _ _ _, hW2⟩
end Go.Proofs.Ytbgabipngdillaa

namespace Go.Proofs.Ytbgabipngdillaa
open Go.RowKit Go.Shelf
attribute [local go_sem] Oper.semAt_some

/-- A slice of cells: a value, and whether it is known. -/
def SCl (w : World) (v : Value) (l : List (Int × Bool)) : Prop :=
  ∃ A c, v = .slice A l.length c ∧ l.length ≤ c ∧ c ≤ 9223372036854775807 ∧ (∀ x ∈ l, i64r x.1) ∧
    (0 < l.length → ∃ b off, A = some ⟨b, off, none⟩ ∧ b < w.heap.size ∧ ∀ j (h : j < l.length), w.cell? ⟨b, off + j * 2, none⟩ = some (.int .i64 l[j].1) ∧ w.cell? ⟨b, off + j * 2 + 1, none⟩ = some (.bool l[j].2))
theorem SCl.below {w w' : World} {v : Value} {l : List (Int × Bool)} (h : SCl w v l) (hb : Below w.heap.size w w') : SCl w' v l := by
  obtain ⟨A, c, rfl, hc, hm, hr, ha⟩ := h
  refine ⟨A, c, rfl, hc, hm, hr, fun h0 => ?_⟩
  obtain ⟨b, off, rfl, hbl, hcell⟩ := ha h0
  exact ⟨b, off, rfl, by have := hb.size; omega, fun j hj => ⟨(hb.cell hbl).trans (hcell j hj).1, (hb.cell hbl).trans (hcell j hj).2⟩⟩
theorem SCl.form {w : World} {v : Value} {l : List (Int × Bool)} (h : SCl w v l) : ∃ A c, v = .slice A l.length c := by
  obtain ⟨A, c, rfl, _⟩ := h
  exact ⟨A, c, rfl⟩
/-- the known cells, as shares -/
def knF : Nat → List (Int × Bool) → List (Int × Int)
  | _, [] => []
  | i, c :: t => (if c.2 = true then [((i : Int) + 1, c.1)] else []) ++ knF (i + 1) t
def kn (l : List (Int × Bool)) : List (Int × Int) := knF 0 l
theorem knF_app (a b : List (Int × Bool)) : ∀ i, knF i (a ++ b) = knF i a ++ knF (i + a.length) b := by
  induction a with
  | nil => intro i; rfl
  | cons c a ih => intro i; simp only [List.cons_append, knF, ih, List.length_cons, List.append_assoc, Nat.add_assoc, Nat.add_comm 1]
theorem kn_snoc (l : List (Int × Bool)) (k : Nat) (h : k < l.length) : kn (l.take (k + 1)) = kn (l.take k) ++ (if l[k].2 = true then [((k : Int) + 1, l[k].1)] else []) := by
  unfold kn
  rw [List.take_succ_eq_append_getElem h, knF_app]
  simp only [knF, List.append_nil, List.length_take, Nat.zero_add, Nat.min_eq_left (Nat.le_of_lt h)]
theorem kn_pre (l : List (Int × Bool)) (k : Nat) : kn (l.take k) = (kn l).take (kn (l.take k)).length := by
  have : kn l = kn (l.take k) ++ knF (0 + (l.take k).length) (l.drop k) := by
    conv => lhs; rw [← List.take_append_drop k l]
    exact knF_app _ _ 0
  rw [this, List.take_left]
theorem kn_len (l : List (Int × Bool)) : ∀ i, (knF i l).length ≤ l.length := by
  induction l with
  | nil => intro i; exact Nat.le_refl _
  | cons c l ih => intro i; have := ih (i + 1); simp only [knF, List.length_append, List.length_cons]; split <;> simp <;> omega
theorem kn_next (l : List (Int × Bool)) (k : Nat) (h : k < l.length) (hk : l[k].2 = true) : ∃ hj : (kn (l.take k)).length < (kn l).length, (kn l)[(kn (l.take k)).length] = ((k : Int) + 1, l[k].1) := by
  have h1 := kn_snoc l k h
  rw [if_pos hk] at h1
  have h2 := kn_pre l (k + 1)
  rw [h1] at h2
  have hl : (kn (l.take k)).length < (kn l).length := by
    have := congrArg List.length h2
    simp at this
    omega
  refine ⟨hl, ?_⟩
  have h3 := congrArg (fun t => t[(kn (l.take k)).length]?) h2
  simp only [List.length_append, List.length_singleton] at h3
  rw [List.getElem?_append_right (Nat.le_refl _), Nat.sub_self] at h3
  simp [hl] at h3
  exact h3.symm
/-- the first k places -/
def upA (n k : Nat) : List (Fin n) := (List.range k).filterMap fun i => if h : i < n then some ⟨i, h⟩ else none
theorem upA_succ {n k : Nat} (h : k < n) : upA n (k + 1) = upA n k ++ [⟨k, h⟩] := by
  unfold upA
  rw [List.range_succ, List.filterMap_append]
  simp [h]
theorem upA_length {n k : Nat} (h : k ≤ n) : (upA n k).length = k := by
  induction k with
  | zero => rfl
  | succ k ih => rw [upA_succ (by omega), List.length_append, ih (by omega)]; rfl

set_option maxRecDepth 100000 in
set_option maxHeartbeats 4000000 in
theorem kn1_in (n : Nat) (hn : 1 ≤ n) (lr Bs b off c : Nat) (K : Nat → Prop) (l : List (Int × Bool)) (hb : K b) (hz : l.length ≤ 1000000) (J Jx : List (Fin (kn l).length) → World → Prop)
    (W : World) (hK : ∀ k, K k → k < W.heap.size) (hJ : AbidesFrom W.heap.size J)
    (hY : ∀ pre x W, J pre W → pre.length < (kn l).length → YieldAt Fence.wide (n - 1) Try.prog lr #[.int .i64 (kn l)[x].1, .int .i64 (kn l)[x].2] W fun e W' =>
      (e = .returned (.bool true) ∧ J (pre ++ [x]) W' ∧ KB K W W') ∨ (e = .returned (.bool false) ∧ Jx (pre ++ [x]) W'))
    (hBs : W.cell? ⟨Bs, 0, none⟩ = some (.slice (some ⟨b, off, none⟩) l.length c)) (hc : ∀ j (h : j < l.length), W.cell? ⟨b, off + j * 2, none⟩ = some (.int .i64 l[j].1) ∧ W.cell? ⟨b, off + j * 2 + 1, none⟩ = some (.bool l[j].2)) (h0 : J [] W) :
    CallsIn Fence.wide n Try.prog 83 #[.func (.yield lr) #[] #[], .pointer (some ⟨Bs, 0, none⟩)] W fun e W' => (∃ v, e = .returned v) ∧
      ((∃ ys, ys = upA (kn l).length (kn l).length ∧ J ys W') ∨ (∃ pre, (∃ k, k ≤ (kn l).length ∧ pre = upA (kn l).length k) ∧ Jx pre W')) := by
  refine callsIn_of_wp Try.func83 rfl trivial ?_ rfl
  simp only [Try.ntmps83, List.size_toArray, List.length_cons, List.length_nil, Nat.reduceAdd, Nat.reduceSub, Array.replicate_succ, Array.replicate_zero, List.push_toArray, List.append_toArray, List.nil_append, List.cons_append]
  have HC := Lib.hid hc
  have HY := Lib.hid hY
  have HJ := Lib.hid hJ
  clear hc hY hJ
  gi_wp2_with fail
  gi_loopw [7] (fun i wr => ∃ k : Nat, k ≤ l.length ∧ i = .int .i64 k ∧ J (upA (kn l).length (kn (l.take k)).length) wr ∧ KB K W wr) (fun i _ => l.length - (intOf i).toNat)
  case atStart => exact ⟨0, Nat.zero_le _, rfl, h0, KB.refl _ _⟩
  case round =>
    obtain ⟨k, hk, rfl, hJs, hnx⟩ := hrel
    have HN := Lib.hid hnx
    have hzr := hnx.1
    by_cases hlt : k < l.length
    · have e0 := (hnx.2 ⟨b, off + k * 2, none⟩ hb).trans (HC.out k hlt).1
      have e1 := (hnx.2 ⟨b, off + k * 2 + 1, none⟩ hb).trans (HC.out k hlt).2
      have HSN := Lib.hid (kn_snoc l k hlt)
      have hd1 : decide ((k : Int) < (l.length : Int)) = true := decide_eq_true (by omega)
      have hd2 : decide (k < l.length) = true := decide_eq_true hlt
      have hJA : J (upA (kn l).length (kn (l.take k)).length) (wr.alloc (.cells #[.int .i64 l[k].1, .bool l[k].2] 33)) := HJ.out _ _ _ none hJs (World.grownBy_alloc wr _ none) (by simp)
      have hkA : KB K wr (wr.alloc (.cells #[.int .i64 l[k].1, .bool l[k].2] 33)) := KB.of ((Below.refl wr.heap.size wr).alloc (Nat.le_refl _) _) (fun q hq => by have := hK q hq; omega)
      have HKA := Lib.hid hkA
      clear hnx hkA
      cases hkk : l[k].2 with
      | false =>
        rw [hkk] at e1 hJA HKA
        have HS2 : Hid (kn (l.take (k + 1)) = kn (l.take k)) := by show _ = _; rw [HSN.out, hkk]; simp
        have HKK := Lib.hid hkk
        clear hkk
        gi_wp2
        refine ⟨fun _ h => (by cases h), ?_⟩
        gi_wp2
        go_roundw
        case rel => exact ⟨k + 1, by omega, by go_num, by rw [HS2.out]; exact hJA, KB_t HN.out HKA.out⟩
        case measure => simp [intOf]; omega
      | true =>
        rw [hkk] at e1 hJA HKA
        obtain ⟨hj, hjx⟩ := kn_next l k hlt hkk
        have HS2 : Hid (upA (kn l).length (kn (l.take (k + 1))).length = upA (kn l).length (kn (l.take k)).length ++ [⟨_, hj⟩]) := by
          show _ = _
          rw [HSN.out, if_pos hkk, List.length_append]
          exact upA_succ hj
        obtain ⟨fn, tmps, assign, body, hy, hR⟩ := HY.out _ ⟨_, hj⟩ _ hJA (by rw [upA_length (Nat.le_of_lt hj)]; exact hj)
        simp only [Fin.getElem_fin, hjx] at hy
        have HJX := Lib.hid hjx
        have HKK := Lib.hid hkk
        clear hkk hjx
        gi_wp2
        refine hR.mono ?_
        rintro e W3 (⟨rfl, hJ3, hk3⟩ | ⟨rfl, hJx3⟩)
        · gi_wp2
          go_roundw
          case rel => exact ⟨k + 1, by omega, by go_num, by rw [HS2.out]; exact hJ3, KB_t (KB_t HN.out HKA.out) hk3⟩
          case measure => simp [intOf]; omega
        · gi_wp2
          refine bodyPost_ret (results_none rfl _ _ _) rfl ?_
          exact ⟨⟨_, rfl⟩, .inr ⟨_, ⟨(kn (l.take (k + 1))).length, by rw [HSN.out, List.length_append]; rw [if_pos HKK.out]; exact hj, HS2.out.symm⟩, hJx3⟩⟩
    · obtain rfl : k = l.length := by omega
      have HT : Hid (J (upA (kn l).length (kn l).length) wr) := by show J _ _; rwa [List.take_length] at hJs
      have hd1 : decide (((l.length : Nat) : Int) < (l.length : Int)) = false := decide_eq_false (by omega)
      clear hnx hJs
      gi_wp2
      go_end0
      exact ⟨⟨_, rfl⟩, .inl ⟨_, rfl, HT.out⟩⟩
end Go.Proofs.Ytbgabipngdillaa

namespace Go.Proofs.Ytbgabipngdillaa

theorem sm_split (n m : Nat) (f : Nat → Int) : sm (n + m) f = sm n f + sm m (fun j => f (n + j)) := by
  induction m with
  | zero => simp [sm]
  | succ m ih => rw [← Nat.add_assoc]; simp only [sm]; rw [ih]; omega
theorem sm_shift (n : Nat) (f : Nat → Int) : sm (n + 1) f = f 0 + sm n (fun j => f (j + 1)) := by
  rw [Nat.add_comm, sm_split]
  simp only [sm]
  have : (fun j => f (1 + j)) = fun j => f (j + 1) := by funext j; rw [Nat.add_comm]
  rw [this]; omega
theorem sm_scale (a : Int) (n : Nat) (f : Nat → Int) : sm n (fun j => a * f j) = a * sm n f := by
  induction n with
  | zero => simp [sm]
  | succ n ih => simp only [sm, ih, Int.mul_add]
theorem ez_sm (l : List Int) (x : Int) : ez l x = sm l.length fun j => gd l j * x ^ j := by
  induction l with
  | nil => rfl
  | cons c l ih =>
    rw [ez_cons, List.length_cons, sm_shift, ih]
    have h0 : gd (c :: l) 0 * x ^ 0 = c := by simp [gd]
    rw [h0]
    congr 1
    rw [← sm_scale]
    refine sm_ext fun k _ => ?_
    have : gd (c :: l) (k + 1) = gd l k := by simp [gd]
    rw [this, Int.pow_succ, Int.mul_left_comm, Int.mul_comm x]
theorem mod_dvd (P a : Int) : P ∣ a % P - a := by
  have : P ∣ a - a % P := mod_dvd' _ _
  have h := Int.dvd_neg.2 this
  have e : -(a - a % P) = a % P - a := by omega
  rwa [e] at h
theorem dvd_of_eq' {P a b : Int} (h : P ∣ a) (e : a = b) : P ∣ b := e ▸ h
theorem val_dvd {P y : Int} {p : List Int} {x : Int} (h : val P p x = y) : P ∣ ez p x - y := by
  rw [val_ez] at h
  rw [← h]
  have := Int.dvd_neg.2 (mod_dvd P (ez p x))
  exact dvd_of_eq' this (by omega)
theorem add_gd (l m : List Int) (k : Nat) : gd (az_add l m) k = gd l k + gd m k := by
  induction l generalizing m k with
  | nil => cases m <;> simp [az_add, gd]
  | cons c l ih => cases m with
    | nil => simp [az_add, gd]
    | cons d m => cases k with
      | zero => simp [az_add, gd]
      | succ k => have := ih m k; simpa [az_add, gd] using this
theorem zmul_gd (a : Int) (l : List Int) (k : Nat) : gd (zmul a l) k = a * gd l k := by
  unfold gd zmul
  rw [List.getElem?_map]
  cases l[k]? <;> simp
theorem ez_app (l m : List Int) (x : Int) : ez (l ++ m) x = ez l x + x ^ l.length * ez m x := by
  induction l with
  | nil => simp [ez]
  | cons c l ih =>
    rw [List.cons_append, ez_cons, ez_cons, ih, List.length_cons, Int.pow_succ, Int.mul_add, Int.mul_comm (x ^ l.length) x, Int.mul_assoc]; omega
theorem ez_zeros (n : Nat) (x : Int) : ez (zeros n) x = 0 := by
  unfold zeros
  induction n with
  | zero => rfl
  | succ n ih => rw [List.replicate_succ, ez_cons, ih]; simp
theorem pts_roots {P : Int} (hp : prB P = true) {K : List (Int × Int)} (hK : K.Pairwise fun a b => ¬ P ∣ a.1 - b.1) (l : List Int) (hl : l.length ≤ K.length) (h : ∀ t ∈ K, P ∣ ez l t.1) : az P l := by
  refine roots hp (K.map Prod.fst) l (by simpa using hl) ?_ ?_
  · rw [List.pairwise_map]; exact hK
  · intro x hx
    obtain ⟨t, ht, rfl⟩ := List.mem_map.1 hx
    exact h t ht
theorem az_gd {P : Int} {l : List Int} (h : az P l) (k : Nat) : P ∣ gd l k := by
  by_cases hk : k < l.length
  · rw [gd_lt hk]; exact h _ (List.getElem_mem hk)
  · rw [gd_ge (by omega)]; exact ⟨0, by simp⟩
theorem trim_same {p q : List Int} (hp : trim p = p) (hq : trim q = q) (h : ∀ k, gd p k = gd q k) : p = q := by
  have key : ∀ (p q : List Int), (∀ k, gd p k = gd q k) → trim p = trim q := by
    intro p
    induction p with
    | nil =>
      intro q h
      exact (trim_zeros fun k => by rw [← h k]; simp [gd]).symm
    | cons c p ih =>
      intro q h
      cases q with
      | nil => exact trim_zeros fun k => by rw [h k]; simp [gd]
      | cons d q =>
        have h0 : c = d := by have := h 0; simpa [gd] using this
        have h1 := ih q fun k => by have := h (k + 1); simpa [gd] using this
        rw [trim_cons, trim_cons, h0, h1]
  rw [← hp, ← hq]
  exact key p q h
theorem els_cong {P : Int} {p q : List Int} (hP : 2 ≤ P) (hp : els P p = true) (hq : els P q = true) (h : ∀ k, P ∣ gd p k - gd q k) : ∀ k, gd p k = gd q k := by
  intro k
  have h1 := el_t (els_gd hP hp k)
  have h2 := el_t (els_gd hP hq k)
  have h3 := Int.emod_emod_of_dvd (gd p k) (Int.dvd_refl P)
  have h4 := Int.emod_eq_emod_iff_emod_sub_eq_zero.2 (Int.emod_eq_zero_of_dvd (h k))
  rw [Int.emod_eq_of_lt h1.1 h1.2, Int.emod_eq_of_lt h2.1 h2.2] at h4
  exact h4
end Go.Proofs.Ytbgabipngdillaa

namespace Go.Proofs.Ytbgabipngdillaa
open Go.RowKit

theorem dvd_pow (P b : Int) : ∀ m : Nat, P ∣ (b % P) ^ m - b ^ m
  | 0 => ⟨0, by simp⟩
  | m + 1 => by
    rw [Int.pow_succ, Int.pow_succ]
    have h1 := dvl (k := b % P) (dvd_pow P b m)
    have h2 := dvr (k := b ^ m) (mod_dvd P b)
    refine dvd_of_eq' (Int.dvd_add h1 h2) ?_
    rw [Int.sub_mul, Int.mul_sub]; omega
theorem pw_even (P x a : Int) (m : Nat) : P ∣ x * (a * a % P) ^ m - x * a ^ (2 * m) := by
  have h := dvr (k := x) (dvd_pow P (a * a) m)
  have e : (a * a) ^ m = a ^ (2 * m) := by rw [Int.pow_mul]; congr 1; rw [Int.pow_succ, Int.pow_succ, Int.pow_zero, Int.one_mul]
  rw [e] at h
  refine dvd_of_eq' h ?_
  rw [Int.mul_sub]
theorem pw_odd (P x a : Int) (m : Nat) : P ∣ (x * a % P) * (a * a % P) ^ m - x * a ^ (2 * m + 1) := by
  have h1 := pw_even P (x * a % P) a m
  have h2 := dvl (k := a ^ (2 * m)) (mod_dvd P (x * a))
  refine dvd_of_eq' (Int.dvd_add h1 h2) ?_
  rw [Int.sub_mul, Int.pow_succ, Int.mul_assoc x a, Int.mul_comm a (a ^ (2 * m))]; omega
end Go.Proofs.Ytbgabipngdillaa

namespace Go.Proofs.Ytbgabipngdillaa

theorem take_ez (T : List Int) (m : Nat) (h : m ≤ T.length) (x : Int) : ez (T.take m) x = sm m fun j => gd T j * x ^ j := by
  rw [ez_sm, List.length_take, Nat.min_eq_left h]
  exact sm_ext fun k hk => by rw [gd_take, if_pos hk]
theorem addT_ez {P y : Int} {T b : List Int} {o : Nat} (h : o + b.length ≤ T.length) (x : Int) :
    P ∣ ez ((addT P T o y b).take (o + b.length)) x - (ez (T.take (o + b.length)) x + y * (x ^ o * ez b x)) := by
  rw [take_ez _ _ (by rw [addT_len]; exact h), take_ez _ _ h, sm_split, sm_split]
  have e1 : (sm o fun j => gd (addT P T o y b) j * x ^ j) = sm o fun j => gd T j * x ^ j := sm_ext fun k hk => by
    rw [addT_gd P T o y b h, if_neg (by omega)]
  have e2 : P ∣ (sm b.length fun j => gd (addT P T o y b) (o + j) * x ^ (o + j)) - ((sm b.length fun j => gd T (o + j) * x ^ (o + j)) + y * sm b.length fun j => x ^ o * (gd b j * x ^ j)) := by
    refine sm_lin fun k hk => ?_
    rw [addT_gd P T o y b h, if_pos (by omega)]
    have e3 : o + k - o = k := by omega
    rw [e3]
    refine dvd_of_eq' (dvl (k := x ^ (o + k)) (mod_dvd P (gd T (o + k) + y * gd b k))) ?_
    have e4 : y * (x ^ o * (gd b k * x ^ k)) = y * gd b k * x ^ (o + k) := by
      rw [Int.pow_add, Int.mul_assoc y, Int.mul_left_comm (x ^ o)]
    rw [e4, Int.sub_mul, Int.add_mul]
  rw [e1, ez_sm b]
  rw [sm_scale] at e2
  refine dvd_of_eq' e2 ?_
  omega
end Go.Proofs.Ytbgabipngdillaa

namespace Go.Proofs.Ytbgabipngdillaa
open Go.RowKit

noncomputable def regI5C : Code := ((Try.f28.body.bind (regionOf 5)).getD .skip)
set_option maxRecDepth 1000000 in
set_option maxHeartbeats 4000000 in
theorem regI5 (B G : Nat) (x y : Int) (xs ys : List Int) (v6 v7 : Value) (w : World) (hT : TwoR B w v6 xs v7 ys) (hx0 : w.cell? ⟨G, 0, none⟩ = some (.int .i64 x)) (hx1 : w.cell? ⟨G, 1, none⟩ = some (.int .i64 y)) (hG : ∀ k, v6.ownBlock = some k ∨ v7.ownBlock = some k → k ≠ G) (hGl : G < w.heap.size) (hB : B ≤ w.heap.size) (hxl : xs.length + 1 ≤ 17592186044416) (hyl : ys.length + 1 ≤ 17592186044416)
    (s0 s1 s2 s3 s4 s5 s8 s10 s11 s12 s13 s14 s15 s16 s17 s18 s19 s20 s21 s22 s23 s24 s25 s26 s27 s28 s29 s30 s31 s32 s33 s34 s35 s36 s37 s38 s39 s40 s41 s42 s43 s44 s45 s46 s47 s48 s49 s50 s51 s52 s53 s54 s55 s56 s57 s58 s59 s60 s61 s62 s63 s64 s65 s66 s67 s68 s69 s70 s71 s72 s73 s74 s75 s76 s77 s78 s79 s80 s81 s82 s83 s84 s85 s86 s87 s88 s89 s90 s91 s92 s93 s94 s95 s96 s97 s98 s99 s100 s101 s102 s103 s104 s105 s106 s107 s108 s109 s110 s111 s112 s113 s114 s115 s116 s117 s118 s119 s120 s121 s122 s123 s124 s125 s126 s127 s128 s129 s130 s131 s132 s133 s134 s135 s136 s137 s138 s139 s140 s141 s142 s143 s144 s145 s146 s147 s148 s149 s150 s151 s152 s153 s154 s155 s156 s157 s158 s159 s160 s161 s162 s163 s164 s165 s166 s167 s168 s169 s170 s171 s172 s173 s174 s175 s176 s177 s178 s179 s180 s181 s182 s183 s184 : Value) (Q : Exit → Act → World → Prop)
    (hK : ∀ (u31 u32 u33 u34 u35 u36 u37 u38 u39 u40 : Value) (v6' v7' : Value) (w' : World), TwoR B w' v6' (xs ++ [x]) v7' (ys ++ [y]) → Below B w w' → Q .normal ⟨List.toArray (s0 :: s1 :: s2 :: s3 :: s4 :: s5 :: (v6') :: (v7') :: s8 :: (Value.pointer (some ⟨G, 0, none⟩)) :: s10 :: s11 :: s12 :: s13 :: s14 :: s15 :: s16 :: s17 :: s18 :: s19 :: s20 :: s21 :: s22 :: s23 :: s24 :: s25 :: s26 :: s27 :: s28 :: s29 :: s30 :: u31 :: u32 :: u33 :: u34 :: u35 :: u36 :: u37 :: u38 :: u39 :: u40 :: s41 :: s42 :: s43 :: s44 :: s45 :: s46 :: s47 :: s48 :: s49 :: s50 :: s51 :: s52 :: s53 :: s54 :: s55 :: s56 :: s57 :: s58 :: s59 :: s60 :: s61 :: s62 :: s63 :: s64 :: s65 :: s66 :: s67 :: s68 :: s69 :: s70 :: s71 :: s72 :: s73 :: s74 :: s75 :: s76 :: s77 :: s78 :: s79 :: s80 :: s81 :: s82 :: s83 :: s84 :: s85 :: s86 :: s87 :: s88 :: s89 :: s90 :: s91 :: s92 :: s93 :: s94 :: s95 :: s96 :: s97 :: s98 :: s99 :: s100 :: s101 :: s102 :: s103 :: s104 :: s105 :: s106 :: s107 :: s108 :: s109 :: s110 :: s111 :: s112 :: s113 :: s114 :: s115 :: s116 :: s117 :: s118 :: s119 :: s120 :: s121 :: s122 :: s123 :: s124 :: s125 :: s126 :: s127 :: s128 :: s129 :: s130 :: s131 :: s132 :: s133 :: s134 :: s135 :: s136 :: s137 :: s138 :: s139 :: s140 :: s141 :: s142 :: s143 :: s144 :: s145 :: s146 :: s147 :: s148 :: s149 :: s150 :: s151 :: s152 :: s153 :: s154 :: s155 :: s156 :: s157 :: s158 :: s159 :: s160 :: s161 :: s162 :: s163 :: s164 :: s165 :: s166 :: s167 :: s168 :: s169 :: s170 :: s171 :: s172 :: s173 :: s174 :: s175 :: s176 :: s177 :: s178 :: s179 :: s180 :: s181 :: s182 :: s183 :: s184 :: []), []⟩ w') :
    Code.wp Try.prog regI5C Q ⟨List.toArray (s0 :: s1 :: s2 :: s3 :: s4 :: s5 :: (v6) :: (v7) :: s8 :: (Value.pointer (some ⟨G, 0, none⟩)) :: s10 :: s11 :: s12 :: s13 :: s14 :: s15 :: s16 :: s17 :: s18 :: s19 :: s20 :: s21 :: s22 :: s23 :: s24 :: s25 :: s26 :: s27 :: s28 :: s29 :: s30 :: s31 :: s32 :: s33 :: s34 :: s35 :: s36 :: s37 :: s38 :: s39 :: s40 :: s41 :: s42 :: s43 :: s44 :: s45 :: s46 :: s47 :: s48 :: s49 :: s50 :: s51 :: s52 :: s53 :: s54 :: s55 :: s56 :: s57 :: s58 :: s59 :: s60 :: s61 :: s62 :: s63 :: s64 :: s65 :: s66 :: s67 :: s68 :: s69 :: s70 :: s71 :: s72 :: s73 :: s74 :: s75 :: s76 :: s77 :: s78 :: s79 :: s80 :: s81 :: s82 :: s83 :: s84 :: s85 :: s86 :: s87 :: s88 :: s89 :: s90 :: s91 :: s92 :: s93 :: s94 :: s95 :: s96 :: s97 :: s98 :: s99 :: s100 :: s101 :: s102 :: s103 :: s104 :: s105 :: s106 :: s107 :: s108 :: s109 :: s110 :: s111 :: s112 :: s113 :: s114 :: s115 :: s116 :: s117 :: s118 :: s119 :: s120 :: s121 :: s122 :: s123 :: s124 :: s125 :: s126 :: s127 :: s128 :: s129 :: s130 :: s131 :: s132 :: s133 :: s134 :: s135 :: s136 :: s137 :: s138 :: s139 :: s140 :: s141 :: s142 :: s143 :: s144 :: s145 :: s146 :: s147 :: s148 :: s149 :: s150 :: s151 :: s152 :: s153 :: s154 :: s155 :: s156 :: s157 :: s158 :: s159 :: s160 :: s161 :: s162 :: s163 :: s164 :: s165 :: s166 :: s167 :: s168 :: s169 :: s170 :: s171 :: s172 :: s173 :: s174 :: s175 :: s176 :: s177 :: s178 :: s179 :: s180 :: s181 :: s182 :: s183 :: s184 :: []), []⟩ w := by
  have HK := Lib.hid hK
  have T := Lib.hid hT
  have T0 := T
  have x0 := hx0
  have x1 := hx1
  have hz := Nat.le_refl w.heap.size
  have L := Lib.hid (LB.of (Below.refl B w))
  have hGG := Lib.hid hG
  have hGl2 := hGl
  clear hK hT hx0 hx1 hG
  conv => arg 2; whnf
  go_region_held3 (fun w' => w'.cell? ⟨G, 0, none⟩ = some (.int .i64 x) ∧ w'.cell? ⟨G, 1, none⟩ = some (.int .i64 y)) (first | exact ⟨x0, x1⟩ | go_keep)
    (first
      | (refine step_append_int1_at _ (by rfl) (.tmp 31) _ 22 (by rfl) B 3 Try.underlying22 iinfo _ xs (by rfl) (by first | exact T.out.1 | exact (T.out.alloc _).1 | exact ((T.out.alloc _).alloc _).1) x _ (by rfl) (by first | exact n1 | (simp [go_sem]; done)) hxl (by first | omega | (simp; omega)) ?_; intro g2 cap2 w2 hown2 hg2 hat2; have x0 := hg2.cell (a := ⟨G, 0, none⟩) (by first | exact x0 | exact cell_al _ x0 | exact cell_al _ (cell_al _ x0)) (fun e => hGG.out _ (.inl e.symm) rfl); have x1 := hg2.cell (a := ⟨G, 1, none⟩) (by first | exact x1 | exact cell_al _ x1 | exact cell_al _ (cell_al _ x1)) (fun e => hGG.out _ (.inl e.symm) rfl); have L2 := Lib.hid (LB.gr (by first | exact L.out | exact L.out.al hB _ | exact (L.out.al hB _).al hB _) hB hg2 (fun k hk => (T.out.1.lt k hk).1)); have T := Lib.hid (TwoR.app1 (by first | exact T.out | exact T.out.alloc _ | exact (T.out.alloc _).alloc _) hown2 hg2 hat2); have L := L2; have hsz2 : w.heap.size ≤ w2.heap.size := L.out.2.2.2.1; first | have n2 := hg2.cell (a := ⟨w.heap.size, 0, none⟩) (v := .int .i64 y) (cell_al _ (cells_new w [.int .i64 y] 3 0 _ rfl)) (ne_own T0.out.1 (Nat.le_refl _)) | have n2 := hg2.cell (a := ⟨w.heap.size + 1, 0, none⟩) (v := .int .i64 y) (cells_next w (.cells #[.int .i64 x] 3) (.int .i64 y) 3) (ne_own T0.out.1 (Nat.le_succ _)) | skip)
      | (refine step_append_int1_at _ (by rfl) (.tmp 36) _ 22 (by rfl) B 3 Try.underlying22 iinfo _ ys (by rfl) (by first | exact T.out.2.1 | exact (T.out.alloc _).2.1 | exact ((T.out.alloc _).alloc _).2.1) y _ (by rfl) (by first | exact n2 | (simp [go_sem]; done)) hyl (by first | omega | (simp; omega)) ?_; intro g3 cap3 w3 hown3 hg3 hat3; have x0 := hg3.cell (a := ⟨G, 0, none⟩) (by first | exact x0 | exact cell_al _ x0 | exact cell_al _ (cell_al _ x0)) (fun e => hGG.out _ (.inr e.symm) rfl); have x1 := hg3.cell (a := ⟨G, 1, none⟩) (by first | exact x1 | exact cell_al _ x1 | exact cell_al _ (cell_al _ x1)) (fun e => hGG.out _ (.inr e.symm) rfl); have L2 := Lib.hid (LB.gr (by first | exact L.out | exact L.out.al hB _ | exact (L.out.al hB _).al hB _) hB hg3 (fun k hk => (T.out.2.1.lt k hk).1)); have T := Lib.hid (TwoR.swap (TwoR.app1 (by first | exact T.out.swap | exact (T.out.alloc _).swap | exact ((T.out.alloc _).alloc _).swap) hown3 hg3 hat3)); have L := L2; have hsz3 : w.heap.size ≤ w3.heap.size := L.out.2.2.2.1; first | have n1 := hg3.cell (a := ⟨w.heap.size, 0, none⟩) (v := .int .i64 x) (cell_al _ (cells_new w [.int .i64 x] 3 0 _ rfl)) (ne_own T0.out.2.1 (Nat.le_refl _)) | have n1 := hg3.cell (a := ⟨w.heap.size + 1, 0, none⟩) (v := .int .i64 x) (cells_next w (.cells #[.int .i64 y] 3) (.int .i64 x) 3) (ne_own T0.out.2.1 (Nat.le_succ _)) | skip))
  all_goals
    have t := T.out
    simp only [List.length_append, List.length_singleton] at t
    exact HK.out _ _ _ _ _ _ _ _ _ _ _ _ _ t L.out.to


noncomputable def regI25C : Code := ((Try.f28.body.bind (regionOf 25)).getD .skip)
set_option maxRecDepth 1000000 in
set_option maxHeartbeats 4000000 in
theorem regI25 (F : Nat) (P x y z : Int) (vp vn : Value) (w : World) (hX : ∀ W, Below w.heap.size w W → W.cell? ⟨F, 0, none⟩ = some (.int .i64 P)) (hV : ∀ W a r, Below w.heap.size w W → (a = vp ∧ r = y ∨ a = vn ∧ r = z) → Calls Try.prog 49 #[.agg #[.int .i64 P], a, .int .i64 x] W fun e w' => e = .returned (.int .i64 r) ∧ Below W.heap.size W w')
    (s0 s1 s3 s4 s5 s6 s7 s8 s9 s10 s11 s12 s15 s17 s18 s19 s20 s21 s22 s23 s24 s25 s26 s27 s28 s29 s30 s31 s32 s33 s34 s35 s36 s37 s38 s39 s40 s41 s42 s43 s44 s45 s46 s47 s48 s49 s50 s51 s52 s53 s54 s55 s56 s57 s58 s59 s60 s61 s62 s63 s64 s65 s66 s67 s68 s69 s70 s71 s72 s73 s74 s75 s76 s77 s78 s79 s80 s81 s82 s83 s84 s85 s86 s87 s88 s89 s90 s91 s92 s93 s94 s95 s96 s97 s98 s99 s100 s101 s102 s103 s104 s105 s106 s107 s108 s109 s110 s111 s112 s113 s114 s115 s116 s117 s118 s119 s120 s121 s122 s123 s124 s125 s126 s127 s128 s129 s130 s131 s132 s133 s134 s135 s136 s137 s138 s139 s140 s141 s142 s143 s144 s145 s146 s147 s148 s149 s150 s151 s152 s153 s154 s155 s156 s157 s158 s159 s160 s161 s162 s163 s164 s165 s166 s167 s168 s169 s170 s171 s172 s173 s174 s175 s176 s177 s178 s179 s180 s181 s182 s183 s184 : Value) (Q : Exit → Act → World → Prop)
    (hK : ∀ (u81 u82 u83 u84 u85 u86 u87 u88 : Value) (w' : World), Below w.heap.size w w' → Q .normal ⟨List.toArray (s0 :: s1 :: (Value.pointer (some ⟨F, 0, none⟩)) :: s3 :: s4 :: s5 :: s6 :: s7 :: s8 :: s9 :: s10 :: s11 :: s12 :: (vp) :: (vn) :: s15 :: (Value.int .i64 x) :: (Value.int .i64 y) :: (Value.int .i64 z) :: s19 :: s20 :: s21 :: s22 :: s23 :: s24 :: s25 :: s26 :: s27 :: s28 :: s29 :: s30 :: s31 :: s32 :: s33 :: s34 :: s35 :: s36 :: s37 :: s38 :: s39 :: s40 :: s41 :: s42 :: s43 :: s44 :: s45 :: s46 :: s47 :: s48 :: s49 :: s50 :: s51 :: s52 :: s53 :: s54 :: s55 :: s56 :: s57 :: s58 :: s59 :: s60 :: s61 :: s62 :: s63 :: s64 :: s65 :: s66 :: s67 :: s68 :: s69 :: s70 :: s71 :: s72 :: s73 :: s74 :: s75 :: s76 :: s77 :: s78 :: s79 :: s80 :: u81 :: u82 :: u83 :: u84 :: u85 :: u86 :: u87 :: u88 :: s89 :: s90 :: s91 :: s92 :: s93 :: s94 :: s95 :: s96 :: s97 :: s98 :: s99 :: s100 :: s101 :: s102 :: s103 :: s104 :: s105 :: s106 :: s107 :: s108 :: s109 :: s110 :: s111 :: s112 :: s113 :: s114 :: s115 :: s116 :: s117 :: s118 :: s119 :: s120 :: s121 :: s122 :: s123 :: s124 :: s125 :: s126 :: s127 :: s128 :: s129 :: s130 :: s131 :: s132 :: s133 :: s134 :: s135 :: s136 :: s137 :: s138 :: s139 :: s140 :: s141 :: s142 :: s143 :: s144 :: s145 :: s146 :: s147 :: s148 :: s149 :: s150 :: s151 :: s152 :: s153 :: s154 :: s155 :: s156 :: s157 :: s158 :: s159 :: s160 :: s161 :: s162 :: s163 :: s164 :: s165 :: s166 :: s167 :: s168 :: s169 :: s170 :: s171 :: s172 :: s173 :: s174 :: s175 :: s176 :: s177 :: s178 :: s179 :: s180 :: s181 :: s182 :: s183 :: s184 :: []), []⟩ w') :
    Code.wp Try.prog regI25C Q ⟨List.toArray (s0 :: s1 :: (Value.pointer (some ⟨F, 0, none⟩)) :: s3 :: s4 :: s5 :: s6 :: s7 :: s8 :: s9 :: s10 :: s11 :: s12 :: (vp) :: (vn) :: s15 :: (Value.int .i64 x) :: s17 :: s18 :: s19 :: s20 :: s21 :: s22 :: s23 :: s24 :: s25 :: s26 :: s27 :: s28 :: s29 :: s30 :: s31 :: s32 :: s33 :: s34 :: s35 :: s36 :: s37 :: s38 :: s39 :: s40 :: s41 :: s42 :: s43 :: s44 :: s45 :: s46 :: s47 :: s48 :: s49 :: s50 :: s51 :: s52 :: s53 :: s54 :: s55 :: s56 :: s57 :: s58 :: s59 :: s60 :: s61 :: s62 :: s63 :: s64 :: s65 :: s66 :: s67 :: s68 :: s69 :: s70 :: s71 :: s72 :: s73 :: s74 :: s75 :: s76 :: s77 :: s78 :: s79 :: s80 :: s81 :: s82 :: s83 :: s84 :: s85 :: s86 :: s87 :: s88 :: s89 :: s90 :: s91 :: s92 :: s93 :: s94 :: s95 :: s96 :: s97 :: s98 :: s99 :: s100 :: s101 :: s102 :: s103 :: s104 :: s105 :: s106 :: s107 :: s108 :: s109 :: s110 :: s111 :: s112 :: s113 :: s114 :: s115 :: s116 :: s117 :: s118 :: s119 :: s120 :: s121 :: s122 :: s123 :: s124 :: s125 :: s126 :: s127 :: s128 :: s129 :: s130 :: s131 :: s132 :: s133 :: s134 :: s135 :: s136 :: s137 :: s138 :: s139 :: s140 :: s141 :: s142 :: s143 :: s144 :: s145 :: s146 :: s147 :: s148 :: s149 :: s150 :: s151 :: s152 :: s153 :: s154 :: s155 :: s156 :: s157 :: s158 :: s159 :: s160 :: s161 :: s162 :: s163 :: s164 :: s165 :: s166 :: s167 :: s168 :: s169 :: s170 :: s171 :: s172 :: s173 :: s174 :: s175 :: s176 :: s177 :: s178 :: s179 :: s180 :: s181 :: s182 :: s183 :: s184 :: []), []⟩ w := by
  have HK := Lib.hid hK
  have HX := Lib.hid hX
  have HV := Lib.hid hV
  have f0 := hX w (Below.refl _ w)
  have HB0 : Hid (Below w.heap.size w w) := (show Hid _ from Below.refl _ _)
  have HB0d : Hid (Below w.heap.size w w.drew) := (show Hid _ from (Below.refl _ w).drew)
  clear hK hX hV
  conv => arg 2; whnf
  go_region_held3 (fun w' => w'.cell? ⟨F, 0, none⟩ = some (.int .i64 P)) (first | exact f0 | go_keep)
    (first
      | (go_simp; go_at_call 49; refine (HV.out _ _ _ (by first | exact HBc.out | exact HBc.out.drew | exact HB0.out | exact HB0d.out) (by first | exact .inl ⟨rfl, rfl⟩ | exact .inr ⟨rfl, rfl⟩)).mono ?_; rintro e9 w9 ⟨rfl, hb9⟩; have HBc : Hid (Below w.heap.size w w9) := (show Hid _ from by first | exact HBc.out.trans ((show Below _ _ w9 from ⟨hb9.os, hb9.tape, hb9.output, hb9.size, hb9.block⟩).mono HBc.out.size) | exact ⟨hb9.os, hb9.tape, hb9.output, hb9.size, hb9.block⟩); have f0 := HX.out w9 HBc.out; clear hb9))
  all_goals
    have hk := HK.out
    first
      | exact hk _ _ _ _ _ _ _ _ _ HBc.out
      | exact hk _ _ _ _ _ _ _ _ _ HBc.out.drew


noncomputable def regI26C : Code := ((Try.f28.body.bind (regionOf 26)).getD .skip)
set_option maxRecDepth 1000000 in
set_option maxHeartbeats 4000000 in
theorem regI26 (F bv ov n cv i : Nat) (P vi y z iv m c : Int) (w : World) (hin : i < n) (hP0 : ¬ P = 0) (a1 : IntKind.i64.wrap (vi + P) = vi + P) (a2 : IntKind.i64.wrap (vi + P - y) = vi + P - y) (a3 : (vi + P - y).tmod P = m) (a5 : IntKind.i64.wrap (m * iv) = m * iv) (a6 : (m * iv).tmod P = c) (hX : ∀ W, Below w.heap.size w W → W.cell? ⟨F, 0, none⟩ = some (.int .i64 P) ∧ W.cell? ⟨bv, ov + i, none⟩ = some (.int .i64 vi)) (hI : ∀ W, Below w.heap.size w W → Calls Try.prog 50 #[.agg #[.int .i64 P], .int .i64 z] W fun e w' => e = .returned (.int .i64 iv) ∧ Below W.heap.size W w')
    (s0 s1 s3 s4 s5 s6 s8 s9 s10 s11 s12 s13 s14 s16 s19 s20 s21 s22 s23 s24 s25 s26 s27 s28 s29 s30 s31 s32 s33 s34 s35 s36 s37 s38 s39 s40 s41 s42 s43 s44 s45 s46 s47 s48 s49 s50 s51 s52 s53 s54 s55 s56 s57 s58 s59 s60 s61 s62 s63 s64 s65 s66 s67 s68 s69 s70 s71 s72 s73 s74 s75 s76 s77 s78 s79 s80 s81 s82 s83 s84 s85 s86 s87 s88 s89 s90 s91 s92 s93 s94 s95 s96 s97 s98 s99 s100 s101 s102 s103 s104 s105 s106 s107 s108 s109 s110 s111 s112 s113 s114 s115 s116 s117 s118 s119 s120 s121 s122 s123 s124 s125 s126 s127 s128 s129 s130 s131 s132 s133 s134 s135 s136 s137 s138 s139 s140 s141 s142 s143 s144 s145 s146 s147 s148 s149 s150 s151 s152 s153 s154 s155 s156 s157 s158 s159 s160 s161 s162 s163 s164 s165 s166 s167 s168 s169 s170 s171 s172 s173 s174 s175 s176 s177 s178 s179 s180 s181 s182 s183 s184 : Value) (Q : Exit → Act → World → Prop)
    (hK : ∀ (u89 u90 u91 u92 u93 u94 u95 u96 u97 u98 u99 u100 u101 u102 u103 u104 u105 u106 u107 : Value) (w' : World), Below w.heap.size w w' → Q .normal ⟨List.toArray (s0 :: s1 :: (Value.pointer (some ⟨F, 0, none⟩)) :: s3 :: s4 :: s5 :: s6 :: (Value.slice (some ⟨bv, ov, none⟩) n cv) :: s8 :: s9 :: s10 :: s11 :: s12 :: s13 :: s14 :: (Value.int .i64 (i : Int)) :: s16 :: (Value.int .i64 y) :: (Value.int .i64 z) :: (Value.int .i64 c) :: s20 :: s21 :: s22 :: s23 :: s24 :: s25 :: s26 :: s27 :: s28 :: s29 :: s30 :: s31 :: s32 :: s33 :: s34 :: s35 :: s36 :: s37 :: s38 :: s39 :: s40 :: s41 :: s42 :: s43 :: s44 :: s45 :: s46 :: s47 :: s48 :: s49 :: s50 :: s51 :: s52 :: s53 :: s54 :: s55 :: s56 :: s57 :: s58 :: s59 :: s60 :: s61 :: s62 :: s63 :: s64 :: s65 :: s66 :: s67 :: s68 :: s69 :: s70 :: s71 :: s72 :: s73 :: s74 :: s75 :: s76 :: s77 :: s78 :: s79 :: s80 :: s81 :: s82 :: s83 :: s84 :: s85 :: s86 :: s87 :: s88 :: u89 :: u90 :: u91 :: u92 :: u93 :: u94 :: u95 :: u96 :: u97 :: u98 :: u99 :: u100 :: u101 :: u102 :: u103 :: u104 :: u105 :: u106 :: u107 :: s108 :: s109 :: s110 :: s111 :: s112 :: s113 :: s114 :: s115 :: s116 :: s117 :: s118 :: s119 :: s120 :: s121 :: s122 :: s123 :: s124 :: s125 :: s126 :: s127 :: s128 :: s129 :: s130 :: s131 :: s132 :: s133 :: s134 :: s135 :: s136 :: s137 :: s138 :: s139 :: s140 :: s141 :: s142 :: s143 :: s144 :: s145 :: s146 :: s147 :: s148 :: s149 :: s150 :: s151 :: s152 :: s153 :: s154 :: s155 :: s156 :: s157 :: s158 :: s159 :: s160 :: s161 :: s162 :: s163 :: s164 :: s165 :: s166 :: s167 :: s168 :: s169 :: s170 :: s171 :: s172 :: s173 :: s174 :: s175 :: s176 :: s177 :: s178 :: s179 :: s180 :: s181 :: s182 :: s183 :: s184 :: []), []⟩ w') :
    Code.wp Try.prog regI26C Q ⟨List.toArray (s0 :: s1 :: (Value.pointer (some ⟨F, 0, none⟩)) :: s3 :: s4 :: s5 :: s6 :: (Value.slice (some ⟨bv, ov, none⟩) n cv) :: s8 :: s9 :: s10 :: s11 :: s12 :: s13 :: s14 :: (Value.int .i64 (i : Int)) :: s16 :: (Value.int .i64 y) :: (Value.int .i64 z) :: s19 :: s20 :: s21 :: s22 :: s23 :: s24 :: s25 :: s26 :: s27 :: s28 :: s29 :: s30 :: s31 :: s32 :: s33 :: s34 :: s35 :: s36 :: s37 :: s38 :: s39 :: s40 :: s41 :: s42 :: s43 :: s44 :: s45 :: s46 :: s47 :: s48 :: s49 :: s50 :: s51 :: s52 :: s53 :: s54 :: s55 :: s56 :: s57 :: s58 :: s59 :: s60 :: s61 :: s62 :: s63 :: s64 :: s65 :: s66 :: s67 :: s68 :: s69 :: s70 :: s71 :: s72 :: s73 :: s74 :: s75 :: s76 :: s77 :: s78 :: s79 :: s80 :: s81 :: s82 :: s83 :: s84 :: s85 :: s86 :: s87 :: s88 :: s89 :: s90 :: s91 :: s92 :: s93 :: s94 :: s95 :: s96 :: s97 :: s98 :: s99 :: s100 :: s101 :: s102 :: s103 :: s104 :: s105 :: s106 :: s107 :: s108 :: s109 :: s110 :: s111 :: s112 :: s113 :: s114 :: s115 :: s116 :: s117 :: s118 :: s119 :: s120 :: s121 :: s122 :: s123 :: s124 :: s125 :: s126 :: s127 :: s128 :: s129 :: s130 :: s131 :: s132 :: s133 :: s134 :: s135 :: s136 :: s137 :: s138 :: s139 :: s140 :: s141 :: s142 :: s143 :: s144 :: s145 :: s146 :: s147 :: s148 :: s149 :: s150 :: s151 :: s152 :: s153 :: s154 :: s155 :: s156 :: s157 :: s158 :: s159 :: s160 :: s161 :: s162 :: s163 :: s164 :: s165 :: s166 :: s167 :: s168 :: s169 :: s170 :: s171 :: s172 :: s173 :: s174 :: s175 :: s176 :: s177 :: s178 :: s179 :: s180 :: s181 :: s182 :: s183 :: s184 :: []), []⟩ w := by
  have HK := Lib.hid hK
  have HX := Lib.hid hX
  have HI := Lib.hid hI
  obtain ⟨f0, v0⟩ := hX w (Below.refl _ w)
  have HB0d : Hid (Below w.heap.size w w.drew) := (show Hid _ from (Below.refl _ w).drew)
  have z1 : (0 : Int) ≤ (i : Int) := by omega
  have z2 : (i : Int) < (n : Int) := by omega
  clear hK hX hI
  conv => arg 2; whnf
  go_region_held3 (fun w' => w'.cell? ⟨F, 0, none⟩ = some (.int .i64 P) ∧ w'.cell? ⟨bv, ov + i, none⟩ = some (.int .i64 vi)) (first | exact ⟨f0, v0⟩ | go_keep)
    (first
      | (go_simp; go_at_call 50; refine (HI.out _ (by first | exact HB0d.out | exact Below.refl _ _)).mono ?_; rintro e9 w9 ⟨rfl, hb9⟩; have HB9 : Hid (Below w.heap.size w w9) := (show Hid _ from by first | exact (HB0d.out).trans ((show Below _ _ w9 from ⟨hb9.os, hb9.tape, hb9.output, hb9.size, hb9.block⟩).mono HB0d.out.size) | exact ⟨hb9.os, hb9.tape, hb9.output, hb9.size, hb9.block⟩); obtain ⟨f0, v0⟩ := HX.out w9 HB9.out; clear hb9))
  all_goals
    have hk := HK.out
    first
      | exact hk _ _ _ _ _ _ _ _ _ _ _ _ _ _ _ _ _ _ _ _ HB9.out
      | exact hk _ _ _ _ _ _ _ _ _ _ _ _ _ _ _ _ _ _ _ _ HB9.out.drew


end Go.Proofs.Ytbgabipngdillaa
