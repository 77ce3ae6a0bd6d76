/- Joined: Kc Kd. -/
import Derived.Deep.RegionHeld3
import Derived.Test.YtllnomembakboaaB03
namespace Go.Proofs.Ytllnomembakboaa
open Go.RowKit

/-- a list of homes that the call makes -/
def HmR (B n : Int) (ps : List (Int × Int)) (w : World) (e : Ending) (w' : World) : Prop :=
  ∃ v', e = .returned (.tuple #[v', .int .i64 0]) ∧ w'.ownsRow w.heap.size 3 1 v' (hms B ps n).length ((hms B ps n).map (Value.int .i64)) ∧ Below w.heap.size w w'
set_option maxHeartbeats 4000000 in
theorem cHomes_ok (B n : Int) (ps : List (Int × Int)) (v : Value) (w : World) (hv : HV B ps) (hn0 : 0 ≤ n) (hn1 : n < 2147483647) (h : SG pcs 2 w.heap.size w v ps) :
    Calls Try.prog 60 #[.agg #[.int .i64 B, v], .int .i64 n] w (HmR B n ps w) := by
  have HS := Lib.hid h
  have d1 : (decide (0 ≤ n) && decide (n < 2147483647)) = true := by rw [decide_eq_true hn0, decide_eq_true hn1]; rfl
  go_enter Try.func60, Try.ntmps60
  obtain ⟨F, eF⟩ : ∃ F, F = w.heap.size := ⟨_, rfl⟩
  obtain ⟨w1, ew1⟩ : ∃ w1 : World, w1 = w.alloc (.cells #[.int .i64 B, v] 25) := ⟨_, rfl⟩
  have HWw1 : Hid (w.alloc (.cells #[.int .i64 B, v] 25) = w1) := ew1.symm
  have HAw1 : Hid (Below w.heap.size w w1) := (show Hid _ from by rw [ew1]; exact (Below.refl _ w).alloc (Nat.le_refl _) _)
  have HF0w1 : Hid (w1.heap[F]? = some (.cells #[.int .i64 B, v] 25 (0, 0))) := (show Hid _ from by show _ = _; rw [ew1, eF]; exact heap_alloc_new w _)
  have HX : Hid (∀ W, Below w1.heap.size w1 W → W.cell? ⟨F, 0, none⟩ = some (.int .i64 B) ∧ W.cell? ⟨F, 1, none⟩ = some (v)) := (show Hid _ from fun W hg => by
    have hF0 := (hg.block F (heap_of_cells HF0w1.out)).trans HF0w1.out
    exact ⟨cell_of_row W F 0 _ _ _ hF0, cell_of_row W F 1 _ _ _ hF0⟩)
  have hF1 : F < w1.heap.size := heap_of_cells HF0w1.out
  go_upto_region 1 with fail
  rw [HWw1.out, ← eF]
  clear ew1 eF
  obtain ⟨x0, x1⟩ := HX.out w1 (Below.refl _ _)
  have HS1 := Lib.hid ((HS.out.below HAw1.out).more HAw1.out.size)
  clear h
  go_wp2_with fail
  (with_reducible refine (hcheck_ok B ps v w1 hv HS1.out).mono ?_)
  rintro e w2 ⟨rfl, hb2⟩
  have HB2 := Lib.hid hb2
  have HS2 := Lib.hid ((HS1.out.below hb2).more hb2.size)
  obtain ⟨x0, x1⟩ := HX.out w2 hb2
  clear hb2
  go_wp2_with fail
  (with_reducible refine (item_any n w2).mono ?_)
  rintro e wz ⟨rfl, rfl⟩
  rw [d1]
  go_wp2_with fail
  (with_reducible refine (homes_ok B n ps v w2 hv hn0 hn1 HS2.out).mono ?_)
  rintro e w3 ⟨v', rfl, ho, hb3⟩
  have HO := Lib.hid ho
  have HB3 := Lib.hid hb3
  clear ho hb3
  go_wp2_with fail
  refine bodyPost_ret (v := .tuple #[v', .int .i64 0]) (by simp [results, Try.results60, go_sem]) rfl ?_
  have hb : Below w.heap.size w w2 := HAw1.out.trans (HB2.out.mono HAw1.out.size)
  exact ⟨v', rfl, own_lo HO.out hb.size, hb.trans (HB3.out.mono hb.size)⟩

set_option maxHeartbeats 8000000 in
theorem khomes_ok (B : Int) (ps : List (Int × Int)) (s : ByteArray) (v : Value) (w : World) (hv : HV B ps) (hs : s.size ≤ 9223372036854775807) (h : SG pcs 2 w.heap.size w v ps) :
    Calls Try.prog 41 #[.agg #[.int .i64 B, v], .string s] w fun e w' => ∃ v', e = .returned v' ∧ w'.ownsRow w.heap.size 3 1 v' (hms B ps (dg s)).length ((hms B ps (dg s)).map (Value.int .i64)) ∧ Below w.heap.size w w' := by
  have HS := Lib.hid h
  have hd := dg_bd s
  go_enter Try.func41, Try.ntmps41
  obtain ⟨F, eF⟩ : ∃ F, F = w.heap.size := ⟨_, rfl⟩
  obtain ⟨w1, ew1⟩ : ∃ w1 : World, w1 = w.alloc (.cells #[.int .i64 B, v] 25) := ⟨_, rfl⟩
  have HWw1 : Hid (w.alloc (.cells #[.int .i64 B, v] 25) = w1) := ew1.symm
  have HAw1 : Hid (Below w.heap.size w w1) := (show Hid _ from by rw [ew1]; exact (Below.refl _ w).alloc (Nat.le_refl _) _)
  have HF0w1 : Hid (w1.heap[F]? = some (.cells #[.int .i64 B, v] 25 (0, 0))) := (show Hid _ from by show _ = _; rw [ew1, eF]; exact heap_alloc_new w _)
  have HX : Hid (∀ W, Below w1.heap.size w1 W → W.cell? ⟨F, 0, none⟩ = some (.int .i64 B) ∧ W.cell? ⟨F, 1, none⟩ = some (v)) := (show Hid _ from fun W hg => by
    have hF0 := (hg.block F (heap_of_cells HF0w1.out)).trans HF0w1.out
    exact ⟨cell_of_row W F 0 _ _ _ hF0, cell_of_row W F 1 _ _ _ hF0⟩)
  have hF1 : F < w1.heap.size := heap_of_cells HF0w1.out
  go_upto_region 1 with fail
  rw [HWw1.out, ← eF]
  clear ew1 eF
  have x0 := HX.out w1 (Below.refl _ _)
  have HS1 := Lib.hid ((HS.out.below HAw1.out).more HAw1.out.size)
  clear h
  obtain ⟨x0, x1⟩ := x0
  go_region_with (first
      | (go_at_call 61; refine (dSum_any s _ hs).mono ?_; rintro e8 w8 ⟨rfl, rfl⟩)
      | (go_at_call 60; refine (cHomes_ok B (dg s) ps v _ hv hd.1 hd.2 (by exact HS1.out.below (Below.refl _ w1).drew)).mono ?_; rintro e8 w8 ⟨v8, rfl, ho8, hb8⟩))
  all_goals
    have hb9 : Below w1.heap.size w1 w8 := Below.drew_left hb8
    have HO8 := Lib.hid ho8
    have HB8 := Lib.hid hb9
    clear ho8 hb8 hb9 x0 x1
    go_wp2_with fail
    refine bodyPost_ret (v := v8) (by simp [results, Try.results41, go_sem]) rfl ?_
    exact ⟨v8, rfl, own_lo HO8.out HAw1.out.size, HAw1.out.trans (HB8.out.mono HAw1.out.size)⟩

set_option maxHeartbeats 8000000 in
theorem kHomes_ok (B : Int) (ps : List (Int × Int)) (s : ByteArray) (v : Value) (w : World) (hv : HV B ps) (hs : s.size ≤ 9223372036854775807) (h : SG pcs 2 w.heap.size w v ps) :
    Calls Try.prog 22 #[.agg #[.int .i64 B, v], .string s] w fun e w' =>
      (ky s = true → HmR B (dg s) ps w e w') ∧ (ky s = false → e = .returned (.tuple #[.slice none 0 0, .int .i64 1]) ∧ Below w.heap.size w w') := by
  have HS := Lib.hid h
  go_enter Try.func22, Try.ntmps22
  obtain ⟨F, eF⟩ : ∃ F, F = w.heap.size := ⟨_, rfl⟩
  obtain ⟨w1, ew1⟩ : ∃ w1 : World, w1 = w.alloc (.cells #[.int .i64 B, v] 25) := ⟨_, rfl⟩
  have HWw1 : Hid (w.alloc (.cells #[.int .i64 B, v] 25) = w1) := ew1.symm
  have HAw1 : Hid (Below w.heap.size w w1) := (show Hid _ from by rw [ew1]; exact (Below.refl _ w).alloc (Nat.le_refl _) _)
  have HF0w1 : Hid (w1.heap[F]? = some (.cells #[.int .i64 B, v] 25 (0, 0))) := (show Hid _ from by show _ = _; rw [ew1, eF]; exact heap_alloc_new w _)
  have HX : Hid (∀ W, Below w1.heap.size w1 W → W.cell? ⟨F, 0, none⟩ = some (.int .i64 B) ∧ W.cell? ⟨F, 1, none⟩ = some (v)) := (show Hid _ from fun W hg => by
    have hF0 := (hg.block F (heap_of_cells HF0w1.out)).trans HF0w1.out
    exact ⟨cell_of_row W F 0 _ _ _ hF0, cell_of_row W F 1 _ _ _ hF0⟩)
  go_upto_region 1 with fail
  rw [HWw1.out, ← eF]
  clear ew1 eF
  obtain ⟨x0, x1⟩ := HX.out w1 (Below.refl _ _)
  have HS1 := Lib.hid ((HS.out.below HAw1.out).more HAw1.out.size)
  clear h
  go_wp2_with fail
  (with_reducible refine (hcheck_ok B ps v w1 hv HS1.out).mono ?_)
  rintro e w2 ⟨rfl, hb2⟩
  have HB2 := Lib.hid hb2
  have HS2 := Lib.hid ((HS1.out.below hb2).more hb2.size)
  have HBA : Hid (Below w.heap.size w w2) := (show Hid _ from HAw1.out.trans (hb2.mono HAw1.out.size))
  obtain ⟨x0, x1⟩ := HX.out w2 hb2
  clear hb2
  go_wp2_with fail
  (with_reducible refine (proper_any s w2 hs).mono ?_)
  rintro e wz ⟨rfl, rfl⟩
  cases hk : ky s
  · go_wp2_with fail
    refine bodyPost_ret (v := .tuple #[.slice none 0 0, .int .i64 1]) (by simp [results, Try.results22, go_sem]) rfl ?_
    exact ⟨fun h => absurd (hk.symm.trans h) (by decide), fun _ => ⟨rfl, HBA.out⟩⟩
  · go_wp2_with fail
    (with_reducible refine (khomes_ok B ps s v w2 hv hs HS2.out).mono ?_)
    rintro e w3 ⟨v', rfl, ho, hb3⟩
    have HO := Lib.hid ho
    have HB3 := Lib.hid hb3
    clear ho hb3
    go_wp2_with fail
    refine bodyPost_ret (v := .tuple #[v', .int .i64 0]) (by simp [results, Try.results22, go_sem]) rfl ?_
    exact ⟨fun _ => ⟨v', rfl, own_lo HO.out HBA.out.size, HBA.out.trans (HB3.out.mono HBA.out.size)⟩, fun h => absurd (hk.symm.trans h) (by decide)⟩
end Go.Proofs.Ytllnomembakboaa

namespace Go.Proofs.Ytllnomembakboaa
open Go.RowKit

set_option maxHeartbeats 8000000 in
theorem r19Homes_ok (B n : Int) (ps : List (Int × Int)) (v : Value) (w : World) (hv : HV B ps) (hn0 : 0 ≤ n) (hn1 : n < 2147483647) (h : SG pcs 2 w.heap.size w v ps) :
    Calls Try.prog 47 #[.agg #[.int .i64 B, v], .int .i64 n] w (HmR B n ps w) := by
  have HS := Lib.hid h
  have HV := Lib.hid hv
  obtain ⟨A, c, rfl, _, _, _, _⟩ := h
  obtain ⟨b1, b2, l1, l2, hin⟩ := hv
  have HI := Lib.hid hin
  have dn1 : decide (n < 0) = false := decide_eq_false (by omega)
  have dn2 : decide (2147483647 ≤ n) = false := decide_eq_false (by omega)
  clear hin
  go_enter Try.func47, Try.ntmps47
  obtain ⟨F, eF⟩ : ∃ F, F = w.heap.size := ⟨_, rfl⟩
  obtain ⟨w1, ew1⟩ : ∃ w1 : World, w1 = w.alloc (.cells #[.int .i64 B, .slice A ps.length c] 25) := ⟨_, rfl⟩
  have HWw1 : Hid (w.alloc (.cells #[.int .i64 B, .slice A ps.length c] 25) = w1) := ew1.symm
  have HAw1 : Hid (Below w.heap.size w w1) := (show Hid _ from by rw [ew1]; exact (Below.refl _ w).alloc (Nat.le_refl _) _)
  have HF0w1 : Hid (w1.heap[F]? = some (.cells #[.int .i64 B, .slice A ps.length c] 25 (0, 0))) := (show Hid _ from by show _ = _; rw [ew1, eF]; exact heap_alloc_new w _)
  have HX : Hid (∀ W, Below w1.heap.size w1 W → W.cell? ⟨F, 0, none⟩ = some (.int .i64 B) ∧ W.cell? ⟨F, 1, none⟩ = some (.slice A ps.length c)) := (show Hid _ from fun W hg => by
    have hF0 := (hg.block F (heap_of_cells HF0w1.out)).trans HF0w1.out
    exact ⟨cell_of_row W F 0 _ _ _ hF0, cell_of_row W F 1 _ _ _ hF0⟩)
  have hF1 : F < w1.heap.size := heap_of_cells HF0w1.out
  go_upto_region 1 with fail
  rw [HWw1.out, ← eF]
  clear ew1 eF
  obtain ⟨x0, x1⟩ := HX.out w1 (Below.refl _ _)
  have HS1 := Lib.hid ((HS.out.below HAw1.out).more HAw1.out.size)
  go_wp2_with fail
  (with_reducible refine (rcheck_ok B ps _ w1 HV.out HS1.out).mono ?_)
  rintro e w2 ⟨rfl, hb2⟩
  have HB2 := Lib.hid hb2
  have HBA : Hid (Below w.heap.size w w2) := (show Hid _ from HAw1.out.trans (hb2.mono HAw1.out.size))
  obtain ⟨x0, x1⟩ := HX.out w2 hb2
  clear hb2
  go_wp2_with fail
  clear x0 x1 dn1 dn2
  go_loopw [7, 24] (fun ov iv wr => ∃ k : Nat, k ≤ ps.length ∧ iv = .int .i64 k ∧ wr.ownsRow w2.heap.size 3 1 ov (hms B (ps.take k) n).length ((hms B (ps.take k) n).map (Value.int .i64)) ∧ Below w2.heap.size w2 wr) (fun _ iv _ => ps.length - (intOf iv).toNat)
  case atStart => exact ⟨0, Nat.zero_le _, rfl, World.ownsRow_nil _ _ _ _, Below.refl _ _⟩
  case round =>
    obtain ⟨k, hk, rfl, hown, hb1⟩ := hrel
    have HBx := Lib.hid hb1
    have hbel : Below w.heap.size w wr := HBA.out.trans (hb1.mono HBA.out.size)
    have HB := Lib.hid hbel
    clear hb1
    by_cases hlt : k < ps.length
    · obtain ⟨_, _, e, _, _, _, ha⟩ := HS.out
      injection e with e1 e2 e3
      subst e1 e3
      obtain ⟨b, off, rfl, hb, hcell⟩ := ha (by omega)
      have c0 : wr.cell? ⟨b, off + k * 2, none⟩ = some (.int .i64 ps[k].1) := (hbel.cell (p := ⟨b, off + k * 2, none⟩) hb).trans (hcell k hlt 0 (by omega))
      have c1 : wr.cell? ⟨b, off + k * 2 + 1, none⟩ = some (.int .i64 ps[k].2) := (hbel.cell (p := ⟨b, off + k * 2 + 1, none⟩) hb).trans (hcell k hlt 1 (by omega))
      have hin := HI.out _ (List.getElem_mem hlt)
      have HSN := Lib.hid (hms_snoc B ps n k hlt)
      obtain ⟨x, hx⟩ : ∃ x, x = ps[k].1 := ⟨_, rfl⟩
      obtain ⟨y, hy⟩ : ∃ y, y = ps[k].2 := ⟨_, rfl⟩
      rw [← hx] at c0 hin HSN
      rw [← hy] at c1 hin HSN
      have wk : IntKind.i64.wrap ((k : Int) + 1) = (k : Int) + 1 := by exact IntWalk.i64_in _ (by omega)
      have HW := Lib.hid (hm_wrap x y n B ⟨hin.1, hin.2.1⟩ ⟨hin.2.2.1, hin.2.2.2⟩ ⟨hn0, hn1⟩ b1)
      have hne : (B == 0) = false := by rw [beq_eq_false_iff_ne]; omega
      obtain ⟨x0, x1⟩ := HX.out wr (HB2.out.trans (HBx.out.mono HB2.out.size))
      clear hcell ha hx hy hbel
      obtain ⟨X, eX⟩ : ∃ X, X = wr.heap.size := ⟨_, rfl⟩
      obtain ⟨wx, ewx⟩ : ∃ wx : World, wx = wr.alloc (.cells #[.int .i64 x, .int .i64 y] 69) := ⟨_, rfl⟩
      have HWx : Hid (wr.alloc (.cells #[.int .i64 x, .int .i64 y] 69) = wx) := ewx.symm
      have HAx : Hid (Below wr.heap.size wr wx) := (show Hid _ from by rw [ewx]; exact (Below.refl _ wr).alloc (Nat.le_refl _) _)
      have z0 : wx.cell? ⟨X, 0, none⟩ = some (.int .i64 x) := by rw [ewx, eX, cell_of_row _ _ 0 _ _ _ (heap_alloc_new wr _)]; rfl
      have z1 : wx.cell? ⟨X, 1, none⟩ = some (.int .i64 y) := by rw [ewx, eX, cell_of_row _ _ 1 _ _ _ (heap_alloc_new wr _)]; rfl
      have y0 : wx.cell? ⟨F, 0, none⟩ = some (.int .i64 B) := (HX.out wx (HB2.out.trans ((HBx.out.trans (HAx.out.mono HBx.out.size)).mono HB2.out.size))).1
      have HOx : Hid (wx.ownsRow w2.heap.size 3 1 u7 (hms B (ps.take k) n).length ((hms B (ps.take k) n).map (Value.int .i64))) := (show Hid _ from by rw [ewx]; exact hown.alloc _)
      have HBxx : Hid (Below w2.heap.size w2 wx) := (show Hid _ from HBx.out.trans (HAx.out.mono HBx.out.size))
      have hsz := HBxx.out.size
      clear hown
      go_upto_region 10 with fail
      rw [HWx.out, ← eX]
      clear ewx eX x0 x1
      go_wp2_with (at_builtin; refine wpList_append_int1 _ rfl _ _ 22 rfl w2.heap.size 3 Try.underlying22 iinfo _ (hms B (ps.take k) n) (by rfl) (by exact HOx.out) _ (by rfl) ?c1 ?c2 ?_)
      case c1 => rw [hms_len, List.length_take]; omega
      intro v2 w9 ho2 hg2
      have HO2 : Hid (w9.ownsRow w2.heap.size 3 1 v2 (hms B (ps.take (k + 1)) n).length ((hms B (ps.take (k + 1)) n).map (Value.int .i64))) := (show Hid _ from by show World.ownsRow _ _ _ _ _ _ _; rw [HSN.out, ← HW.out]; simpa using ho2)
      have HB9 : Hid (Below w2.heap.size w2 w9) := (show Hid _ from (HBxx.out.alloc hsz _).grown hg2 (by simp; omega) (fun q hq => (HOx.out.lt q hq).1))
      clear ho2 hg2
      go_wp2_with fail
      go_roundw
      case rel => exact ⟨k + 1, by omega, by go_num, HO2.out, HB9.out⟩
      case measure => simp [intOf]; omega
    · obtain rfl : k = ps.length := by omega
      rw [List.take_length] at hown
      have HO := Lib.hid hown
      clear hown hbel
      go_wp2_with fail
      refine bodyPost_ret (v := .tuple #[u7, .int .i64 0]) (by simp [results, Try.results47, go_sem]) rfl ?_
      exact ⟨u7, rfl, own_lo HO.out HBA.out.size, HB.out⟩

set_option maxHeartbeats 8000000 in
theorem r20Homes_ok (B : Int) (ps : List (Int × Int)) (s : ByteArray) (v : Value) (w : World) (hv : HV B ps) (hs : s.size ≤ 9223372036854775807) (h : SG pcs 2 w.heap.size w v ps) :
    Calls Try.prog 23 #[.agg #[.int .i64 B, v], .string s] w fun e w' =>
      (ky s = true → HmR B (dg s) ps w e w') ∧ (ky s = false → e = .returned (.tuple #[.slice none 0 0, .int .i64 1]) ∧ Below w.heap.size w w') := by
  have HS := Lib.hid h
  have hd := dg_bd s
  go_enter Try.func23, Try.ntmps23
  obtain ⟨F, eF⟩ : ∃ F, F = w.heap.size := ⟨_, rfl⟩
  obtain ⟨w1, ew1⟩ : ∃ w1 : World, w1 = w.alloc (.cells #[.int .i64 B, v] 25) := ⟨_, rfl⟩
  have HWw1 : Hid (w.alloc (.cells #[.int .i64 B, v] 25) = w1) := ew1.symm
  have HAw1 : Hid (Below w.heap.size w w1) := (show Hid _ from by rw [ew1]; exact (Below.refl _ w).alloc (Nat.le_refl _) _)
  have HF0w1 : Hid (w1.heap[F]? = some (.cells #[.int .i64 B, v] 25 (0, 0))) := (show Hid _ from by show _ = _; rw [ew1, eF]; exact heap_alloc_new w _)
  have HX : Hid (∀ W, Below w1.heap.size w1 W → W.cell? ⟨F, 0, none⟩ = some (.int .i64 B) ∧ W.cell? ⟨F, 1, none⟩ = some (v)) := (show Hid _ from fun W hg => by
    have hF0 := (hg.block F (heap_of_cells HF0w1.out)).trans HF0w1.out
    exact ⟨cell_of_row W F 0 _ _ _ hF0, cell_of_row W F 1 _ _ _ hF0⟩)
  go_upto_region 1 with fail
  rw [HWw1.out, ← eF]
  clear ew1 eF
  obtain ⟨x0, x1⟩ := HX.out w1 (Below.refl _ _)
  have HS1 := Lib.hid ((HS.out.below HAw1.out).more HAw1.out.size)
  clear h
  go_wp2_with fail
  (with_reducible refine (rcheck_ok B ps v w1 hv HS1.out).mono ?_)
  rintro e w2 ⟨rfl, hb2⟩
  have HB2 := Lib.hid hb2
  have HS2 := Lib.hid ((HS1.out.below hb2).more hb2.size)
  have HBA : Hid (Below w.heap.size w w2) := (show Hid _ from HAw1.out.trans (hb2.mono HAw1.out.size))
  obtain ⟨x0, x1⟩ := HX.out w2 hb2
  clear hb2
  go_wp2_with fail
  (with_reducible refine (rkey_any s w2 hs).mono ?_)
  rintro e wz ⟨rfl, rfl⟩
  cases hk : ky s
  · go_wp2_with fail
    refine bodyPost_ret (v := .tuple #[.slice none 0 0, .int .i64 1]) (by simp [results, Try.results23, go_sem]) rfl ?_
    exact ⟨fun h => absurd (hk.symm.trans h) (by decide), fun _ => ⟨rfl, HBA.out⟩⟩
  · go_wp2_with fail
    go_region_with (first
      | (go_at_call 48; refine (rSum_any s _ hs).mono ?_; rintro e8 w8 ⟨rfl, rfl⟩)
      | (go_at_call 47; refine (r19Homes_ok B (dg s) ps v _ hv hd.1 hd.2 (by exact HS2.out.below (Below.refl _ w2).drew)).mono ?_; rintro e8 w8 ⟨v8, rfl, ho8, hb8⟩))
    all_goals
      have hb9 : Below w2.heap.size w2 w8 := Below.drew_left hb8
      have HO8 := Lib.hid ho8
      have HB8 := Lib.hid hb9
      clear ho8 hb8 hb9 x0 x1
      go_wp2_with fail
      refine bodyPost_ret (v := .tuple #[v8, .int .i64 0]) (by simp [results, Try.results23, go_sem]) rfl ?_
      exact ⟨fun _ => ⟨v8, rfl, own_lo HO8.out HBA.out.size, HBA.out.trans (HB8.out.mono HBA.out.size)⟩, fun h => absurd (hk.symm.trans h) (by decide)⟩
end Go.Proofs.Ytllnomembakboaa
