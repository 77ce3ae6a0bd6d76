/- Joined: Ka Kb. -/
import Derived.Deep.DeepCutAuto
import Derived.Deep.RegionWith
import Derived.Test.YtllnomembakboaaB01
import Derived.Test.YtllnomembakboaaB02
namespace Go.Proofs.Ytllnomembakboaa
open Go.RowKit

theorem own_lo {w : World} {base base' e size n : Nat} {v : Value} {xs : List Value} (h : w.ownsRow base e size v n xs) (hb : base' ≤ base) : w.ownsRow base' e size v n xs := by
  refine ⟨h.1, ?_⟩
  rcases h.2 with hn | ⟨g, cap, cur, rfl, hbg, rest⟩
  · exact .inl hn
  · exact .inr ⟨g, cap, cur, rfl, by omega, rest⟩
/-- the digest of bytes, begun at d -/
def dgs (l : List UInt8) (d : Int) : Int := l.foldl (fun d b => (d * 1000003 + (b.toNat : Int) + 1) % 2147483647) d
def dg (s : ByteArray) : Int := dgs s.data.toList 1
theorem dgs_bd (l : List UInt8) : ∀ d : Int, 0 ≤ d → d < 2147483647 → 0 ≤ dgs l d ∧ dgs l d < 2147483647 := by
  induction l with
  | nil => intro d h1 h2; exact ⟨h1, h2⟩
  | cons b l ih =>
    intro d h1 h2
    exact ih _ (Int.emod_nonneg _ (by omega)) (Int.emod_lt_of_pos _ (by omega))
theorem dg_bd (s : ByteArray) : 0 ≤ dg s ∧ dg s < 2147483647 := dgs_bd _ _ (by omega) (by omega)
theorem dgs_snoc (l : List UInt8) (b : UInt8) (d : Int) : dgs (l ++ [b]) d = (dgs l d * 1000003 + (b.toNat : Int) + 1) % 2147483647 := by
  unfold dgs; rw [List.foldl_append]; rfl

theorem dgs_wrap (x b : Int) (hx : 0 ≤ x ∧ x < 2147483647) (hb : 0 ≤ b ∧ b < 256) : (wrap64 (wrap64 (x * 1000003 + wrap64 b) + 1)).tmod 2147483647 = (x * 1000003 + b + 1) % 2147483647 := by
  rw [IntWalk.wrap64_in b (by omega), IntWalk.wrap64_in (x * 1000003 + b) (by omega), IntWalk.wrap64_in _ (by omega), Int.tmod_eq_emod_of_nonneg (by omega)]
theorem byte_bd (b : UInt8) : 0 ≤ (b.toNat : Int) ∧ (b.toNat : Int) < 256 := by have := b.toNat_lt; omega
theorem str_take (s : ByteArray) (k : Nat) (h : k < s.size) : s.data.toList.take (k + 1) = s.data.toList.take k ++ [s[k]] := by
  rw [List.take_succ_eq_append_getElem (by simpa using h)]
  rfl
theorem str_all (s : ByteArray) : s.data.toList.take s.size = s.data.toList := List.take_of_length_le (by simp)

set_option maxHeartbeats 1000000 in
theorem dsum_any (s : ByteArray) (d : Int) (w : World) (h0 : 0 ≤ d) (h1 : d < 2147483647) (hs : s.size ≤ 9223372036854775807) :
    Calls Try.prog 74 #[.string s, .int .i64 d] w fun e w' => e = .returned (.int .i64 (dgs s.data.toList d)) ∧ w = w' := by
  go_enter Try.func74, Try.ntmps74
  go_wp2
  go_loopw [1, 8] (fun dv iv wr => ∃ k : Nat, k ≤ s.size ∧ iv = .int .i64 k ∧ dv = .int .i64 (dgs (s.data.toList.take k) d) ∧ wr = w) (fun _ iv _ => s.size - (intOf iv).toNat)
  case atStart => exact ⟨0, Nat.zero_le _, rfl, rfl, rfl⟩
  case round =>
    obtain ⟨k, hk, rfl, rfl, rfl⟩ := hrel
    by_cases hlt : k < s.size
    · have hb := dgs_bd (s.data.toList.take k) d h0 h1
      obtain ⟨x, hx⟩ : ∃ x, x = dgs (s.data.toList.take k) d := ⟨_, rfl⟩
      rw [← hx] at hb ⊢
      have HX := Lib.hid hx
      clear hx
      go_wp2_with fail
      refine ⟨⟨k + 1, by omega, rfl, ?_, trivial⟩, by simp [intOf]; omega⟩
      rw [dgs_wrap _ _ hb (byte_bd _), str_take s k hlt, dgs_snoc, ← HX.out]
    · obtain rfl : k = s.size := by omega
      go_wp2_with fail
      go_ret
      exact ⟨by rw [str_all]; rfl, rfl⟩
theorem dSum_any (s : ByteArray) (w : World) (hs : s.size ≤ 9223372036854775807) :
    Calls Try.prog 61 #[.string s] w fun e w' => e = .returned (.int .i64 (dg s)) ∧ w = w' := by
  go_enter Try.func61, Try.ntmps61
  go_wp2_with fail
  (with_reducible refine (dsum_any s 1 w (by omega) (by omega) hs).mono ?_)
  rintro e w' ⟨rfl, rfl⟩
  go_wp2_with fail
  go_ret
  exact ⟨rfl, rfl⟩
set_option maxHeartbeats 1000000 in
theorem rSum_any (s : ByteArray) (w : World) (hs : s.size ≤ 9223372036854775807) :
    Calls Try.prog 48 #[.string s] w fun e w' => e = .returned (.int .i64 (dg s)) ∧ w = w' := by
  go_enter Try.func48, Try.ntmps48
  go_wp2
  go_loopw [3, 4] (fun dv iv wr => ∃ k : Nat, k ≤ s.size ∧ iv = .int .i64 k ∧ dv = .int .i64 (dgs (s.data.toList.take k) 1) ∧ wr = w) (fun _ iv _ => s.size - (intOf iv).toNat)
  case atStart => exact ⟨0, Nat.zero_le _, rfl, rfl, rfl⟩
  case round =>
    obtain ⟨k, hk, rfl, rfl, rfl⟩ := hrel
    by_cases hlt : k < s.size
    · have hb := dgs_bd (s.data.toList.take k) 1 (by omega) (by omega)
      obtain ⟨x, hx⟩ : ∃ x, x = dgs (s.data.toList.take k) 1 := ⟨_, rfl⟩
      rw [← hx] at hb ⊢
      have HX := Lib.hid hx
      clear hx
      go_wp2_with fail
      refine ⟨⟨k + 1, by omega, rfl, ?_, trivial⟩, by simp [intOf]; omega⟩
      rw [dgs_wrap _ _ hb (byte_bd _), str_take s k hlt, dgs_snoc, ← HX.out]
    · obtain rfl : k = s.size := by omega
      go_wp2_with fail
      go_ret
      exact ⟨by rw [str_all]; rfl, rfl⟩
/-- is a text a key -/
def ky (s : ByteArray) : Bool := decide (1 ≤ s.size) && decide (s.size ≤ 32)
theorem ky_bd {s : ByteArray} (h : ky s = true) : 1 ≤ s.size ∧ s.size ≤ 32 := by simpa [ky] using h
theorem proper_any (s : ByteArray) (w : World) (hs : s.size ≤ 9223372036854775807) :
    Calls Try.prog 45 #[.string s] w fun e w' => e = .returned (.bool (ky s)) ∧ w = w' := by
  go_enter Try.func45, Try.ntmps45
  go_wp2
  all_goals
    go_ret
    exact ⟨ret_bool (by rw [Bool.eq_iff_iff]; simp [ky]; omega), rfl⟩
theorem rkey_any (s : ByteArray) (w : World) (hs : s.size ≤ 9223372036854775807) :
    Calls Try.prog 46 #[.string s] w fun e w' => e = .returned (.bool (ky s)) ∧ w = w' := by
  go_enter Try.func46, Try.ntmps46
  go_wp2
  all_goals
    go_ret
    exact ⟨ret_bool (by rw [Bool.eq_iff_iff]; simp [ky]; omega), rfl⟩
theorem slotted_any (n : Int) (w : World) :
    Calls Try.prog 38 #[.int .i64 n] w fun e w' => e = .returned (.bool (decide (1 ≤ n) && decide (n ≤ 8))) ∧ w = w' := by
  go_enter Try.func38, Try.ntmps38
  go_wp2
  all_goals
    go_ret
    exact ⟨ret_bool (by simp; omega), rfl⟩
theorem item_any (n : Int) (w : World) :
    Calls Try.prog 72 #[.int .i64 n] w fun e w' => e = .returned (.bool (decide (0 ≤ n) && decide (n < 2147483647))) ∧ w = w' := by
  go_enter Try.func72, Try.ntmps72
  go_wp2
  all_goals
    go_ret
    exact ⟨ret_bool (by simp; omega), rfl⟩
/-- is an entry valid -/
def ven (e : ByteArray × Int) : Bool := ky e.1 && decide (0 ≤ e.2) && decide (e.2 < 2147483647)
set_option maxHeartbeats 1000000 in
theorem valid_any (s : ByteArray) (x : Int) (w : World) (hs : s.size ≤ 9223372036854775807) :
    Calls Try.prog 49 #[.agg #[.string s, .int .i64 x]] w fun e w' => e = .returned (.bool (ven (s, x))) ∧ Below w.heap.size w w' := by
  go_enter Try.func49, Try.ntmps49
  obtain ⟨F, eF⟩ : ∃ F, F = w.heap.size := ⟨_, rfl⟩
  obtain ⟨w1, ew1⟩ : ∃ w1 : World, w1 = w.alloc (.cells #[.string s, .int .i64 x] 41) := ⟨_, rfl⟩
  have HWw1 : Hid (w.alloc (.cells #[.string s, .int .i64 x] 41) = w1) := ew1.symm
  have HAw1 : Hid (Below w.heap.size w w1) := (show Hid _ from by rw [ew1]; exact (Below.refl _ w).alloc (Nat.le_refl _) _)
  have HF0w1 : Hid (w1.heap[F]? = some (.cells #[.string s, .int .i64 x] 41 (0, 0))) := (show Hid _ from by show _ = _; rw [ew1, eF]; exact heap_alloc_new w _)
  have HX : Hid (∀ W, Below w1.heap.size w1 W → W.cell? ⟨F, 0, none⟩ = some (.string s) ∧ W.cell? ⟨F, 1, none⟩ = some (.int .i64 x)) := (show Hid _ from fun W hg => by
    have hF0 := (hg.block F (heap_of_cells HF0w1.out)).trans HF0w1.out
    exact ⟨cell_of_row W F 0 _ _ _ hF0, cell_of_row W F 1 _ _ _ hF0⟩)
  go_upto_region 1 with fail
  rw [HWw1.out, ← eF]
  clear ew1 eF
  obtain ⟨x0, x1⟩ := HX.out w1 (Below.refl _ _)
  go_wp2_with fail
  (with_reducible refine (proper_any s _ hs).mono ?_)
  rintro e w' ⟨rfl, rfl⟩
  cases hk : ky s
  · go_wp2_with fail
    go_ret
    exact ⟨ret_bool (by unfold ven; rw [hk]; rfl), HAw1.out⟩
  · by_cases h0 : 0 ≤ x
    · by_cases h1 : x < 2147483647
      · go_wp2_with fail
        go_ret
        exact ⟨ret_bool (by unfold ven; rw [hk]; simp; omega), HAw1.out⟩
      · go_wp2_with fail
        go_ret
        exact ⟨ret_bool (by unfold ven; rw [hk]; simp; omega), HAw1.out⟩
    · go_wp2_with fail
      go_ret
      exact ⟨ret_bool (by unfold ven; rw [hk]; simp; omega), HAw1.out⟩
set_option maxHeartbeats 1000000 in
theorem rvalid_any (s : ByteArray) (x : Int) (w : World) (hs : s.size ≤ 9223372036854775807) :
    Calls Try.prog 43 #[.agg #[.string s, .int .i64 x]] w fun e w' => e = .returned (.bool (ven (s, x))) ∧ Below w.heap.size w w' := by
  go_enter Try.func43, Try.ntmps43
  obtain ⟨F, eF⟩ : ∃ F, F = w.heap.size := ⟨_, rfl⟩
  obtain ⟨w1, ew1⟩ : ∃ w1 : World, w1 = w.alloc (.cells #[.string s, .int .i64 x] 41) := ⟨_, rfl⟩
  have HWw1 : Hid (w.alloc (.cells #[.string s, .int .i64 x] 41) = w1) := ew1.symm
  have HAw1 : Hid (Below w.heap.size w w1) := (show Hid _ from by rw [ew1]; exact (Below.refl _ w).alloc (Nat.le_refl _) _)
  have HF0w1 : Hid (w1.heap[F]? = some (.cells #[.string s, .int .i64 x] 41 (0, 0))) := (show Hid _ from by show _ = _; rw [ew1, eF]; exact heap_alloc_new w _)
  have HX : Hid (∀ W, Below w1.heap.size w1 W → W.cell? ⟨F, 0, none⟩ = some (.string s) ∧ W.cell? ⟨F, 1, none⟩ = some (.int .i64 x)) := (show Hid _ from fun W hg => by
    have hF0 := (hg.block F (heap_of_cells HF0w1.out)).trans HF0w1.out
    exact ⟨cell_of_row W F 0 _ _ _ hF0, cell_of_row W F 1 _ _ _ hF0⟩)
  go_upto_region 1 with fail
  rw [HWw1.out, ← eF]
  clear ew1 eF
  obtain ⟨x0, x1⟩ := HX.out w1 (Below.refl _ _)
  go_wp2_with fail
  (with_reducible refine (rkey_any s _ hs).mono ?_)
  rintro e w' ⟨rfl, rfl⟩
  cases hk : ky s
  · go_wp2_with fail
    go_ret
    exact ⟨ret_bool (by unfold ven; rw [hk]; rfl), HAw1.out⟩
  · by_cases h0 : 0 ≤ x
    · by_cases h1 : x < 2147483647
      · go_wp2_with fail
        go_ret
        exact ⟨ret_bool (by unfold ven; rw [hk]; simp; omega), HAw1.out⟩
      · go_wp2_with fail
        go_ret
        exact ⟨ret_bool (by unfold ven; rw [hk]; simp; omega), HAw1.out⟩
    · go_wp2_with fail
      go_ret
      exact ⟨ret_bool (by unfold ven; rw [hk]; simp; omega), HAw1.out⟩
end Go.Proofs.Ytllnomembakboaa

namespace Go.Proofs.Ytllnomembakboaa
open Go.RowKit

/-- a valid hashing -/
structure HV (B : Int) (ps : List (Int × Int)) : Prop where
  b1 : 1 ≤ B
  b2 : B ≤ 64
  l1 : 1 ≤ ps.length
  l2 : ps.length ≤ 4
  in1 : ∀ p ∈ ps, 0 ≤ p.1 ∧ p.1 < 2147483647 ∧ 0 ≤ p.2 ∧ p.2 < 2147483647
/-- the homes of a number -/
def hms (B : Int) (ps : List (Int × Int)) (n : Int) : List Int := ps.map fun p => (p.1 * n + p.2) % 2147483647 % B
theorem hms_len (B : Int) (ps : List (Int × Int)) (n : Int) : (hms B ps n).length = ps.length := by unfold hms; simp
theorem hms_bd {B : Int} {ps : List (Int × Int)} {n x : Int} (hB : 1 ≤ B) (h : x ∈ hms B ps n) : 0 ≤ x ∧ x < B := by
  unfold hms at h
  obtain ⟨p, _, rfl⟩ := List.mem_map.1 h
  exact ⟨Int.emod_nonneg _ (by omega), Int.emod_lt_of_pos _ (by omega)⟩
theorem hms_snoc (B : Int) (ps : List (Int × Int)) (n : Int) (k : Nat) (h : k < ps.length) : hms B (ps.take (k + 1)) n = hms B (ps.take k) n ++ [(ps[k].1 * n + ps[k].2) % 2147483647 % B] := by
  unfold hms; rw [List.take_succ_eq_append_getElem h, List.map_append]; rfl
theorem hm_wrap (a b n B : Int) (ha : 0 ≤ a ∧ a < 2147483647) (hb : 0 ≤ b ∧ b < 2147483647) (hn : 0 ≤ n ∧ n < 2147483647) (_hB : 1 ≤ B) :
    ((wrap64 (wrap64 (a * n) + b)).tmod 2147483647).tmod B = (a * n + b) % 2147483647 % B := by
  have h1 : 0 ≤ a * n := Int.mul_nonneg ha.1 hn.1
  have h2 : a * n ≤ 2147483647 * 2147483647 := Int.mul_le_mul (by omega) (by omega) hn.1 (by omega)
  obtain ⟨x, hx⟩ : ∃ x, x = a * n := ⟨_, rfl⟩
  rw [← hx] at h1 h2 ⊢
  rw [IntWalk.wrap64_in x (by omega), IntWalk.wrap64_in _ (by omega), Int.tmod_eq_emod_of_nonneg (a := x + b) (by omega), Int.tmod_eq_emod_of_nonneg (Int.emod_nonneg _ (by omega))]

set_option maxHeartbeats 4000000 in
theorem hcheck_ok (B : Int) (ps : List (Int × Int)) (v : Value) (w : World) (hv : HV B ps) (h : SG pcs 2 w.heap.size w v ps) :
    Calls Try.prog 37 #[.agg #[.int .i64 B, v]] w fun e w' => e = .returned (.int .i64 0) ∧ Below w.heap.size w w' := by
  have HS := Lib.hid h
  have HV := Lib.hid hv
  obtain ⟨A, c, rfl, _, _, _, _⟩ := h
  obtain ⟨b1, b2, l1, l2, hin⟩ := hv
  have HI := Lib.hid hin
  clear hin
  have d1 : decide (B < 1) = false := decide_eq_false (by omega)
  have d2 : decide (64 < B) = false := decide_eq_false (by omega)
  have d3 : decide ((ps.length : Int) < 1) = false := decide_eq_false (by omega)
  have d4 : decide (4 < (ps.length : Int)) = false := decide_eq_false (by omega)
  have d3n : decide (ps.length < 1) = false := decide_eq_false (by omega)
  have d4n : decide (4 < ps.length) = false := decide_eq_false (by omega)
  go_enter Try.func37, Try.ntmps37
  obtain ⟨F, eF⟩ : ∃ F, F = w.heap.size := ⟨_, rfl⟩
  obtain ⟨w1, ew1⟩ : ∃ w1 : World, w1 = w.alloc (.cells #[.int .i64 B, .slice A ps.length c] 25) := ⟨_, rfl⟩
  have HWw1 : Hid (w.alloc (.cells #[.int .i64 B, .slice A ps.length c] 25) = w1) := ew1.symm
  have HAw1 : Hid (Below w.heap.size w w1) := (show Hid _ from by rw [ew1]; exact (Below.refl _ w).alloc (Nat.le_refl _) _)
  have HF0w1 : Hid (w1.heap[F]? = some (.cells #[.int .i64 B, .slice A ps.length c] 25 (0, 0))) := (show Hid _ from by show _ = _; rw [ew1, eF]; exact heap_alloc_new w _)
  have HX : Hid (∀ W, Below w1.heap.size w1 W → W.cell? ⟨F, 0, none⟩ = some (.int .i64 B) ∧ W.cell? ⟨F, 1, none⟩ = some (.slice A ps.length c)) := (show Hid _ from fun W hg => by
    have hF0 := (hg.block F (heap_of_cells HF0w1.out)).trans HF0w1.out
    exact ⟨cell_of_row W F 0 _ _ _ hF0, cell_of_row W F 1 _ _ _ hF0⟩)
  go_upto_region 1 with fail
  rw [HWw1.out, ← eF]
  clear ew1 eF
  obtain ⟨x0, x1⟩ := HX.out w1 (Below.refl _ _)
  go_wp2_with fail
  clear x0 x1
  go_loopw [28] (fun iv wr => ∃ k : Nat, k ≤ ps.length ∧ iv = .int .i64 k ∧ Below w.heap.size w wr) (fun iv _ => ps.length - (intOf iv).toNat)
  case atStart => exact ⟨0, Nat.zero_le _, rfl, HAw1.out⟩
  case round =>
    obtain ⟨k, hk, rfl, hbel⟩ := hrel
    have HB := Lib.hid hbel
    by_cases hlt : k < ps.length
    · obtain ⟨_, _, e, _, _, _, ha⟩ := HS.out
      injection e with e1 e2 e3
      subst e1 e3
      obtain ⟨b, off, rfl, hb, hcell⟩ := ha (by omega)
      have c0 : wr.cell? ⟨b, off + k * 2, none⟩ = some (.int .i64 ps[k].1) := (hbel.cell (p := ⟨b, off + k * 2, none⟩) hb).trans (hcell k hlt 0 (by omega))
      have c1 : wr.cell? ⟨b, off + k * 2 + 1, none⟩ = some (.int .i64 ps[k].2) := (hbel.cell (p := ⟨b, off + k * 2 + 1, none⟩) hb).trans (hcell k hlt 1 (by omega))
      have hin := HI.out _ (List.getElem_mem hlt)
      obtain ⟨x, hx⟩ : ∃ x, x = ps[k].1 := ⟨_, rfl⟩
      obtain ⟨y, hy⟩ : ∃ y, y = ps[k].2 := ⟨_, rfl⟩
      rw [← hx] at c0 hin
      rw [← hy] at c1 hin
      have e1 : decide (x < 0) = false := decide_eq_false (by omega)
      have e2 : decide (2147483647 ≤ x) = false := decide_eq_false (by omega)
      have e3 : decide (y < 0) = false := decide_eq_false (by omega)
      have e4 : decide (2147483647 ≤ y) = false := decide_eq_false (by omega)
      have wk : IntKind.i64.wrap ((k : Int) + 1) = (k : Int) + 1 := by exact IntWalk.i64_in _ (by omega)
      clear hcell ha hx hy hbel
      go_wp2_with fail
      go_roundw
      case rel => exact ⟨k + 1, by omega, by go_num, HB.out.alloc HB.out.size _⟩
      case measure => simp [intOf]; omega
    · go_wp2_with fail
      go_ret
      exact ⟨rfl, HB.out⟩
set_option maxHeartbeats 4000000 in
theorem rcheck_ok (B : Int) (ps : List (Int × Int)) (v : Value) (w : World) (hv : HV B ps) (h : SG pcs 2 w.heap.size w v ps) :
    Calls Try.prog 42 #[.agg #[.int .i64 B, v]] w fun e w' => e = .returned (.int .i64 0) ∧ Below w.heap.size w w' := by
  have HS := Lib.hid h
  have HV := Lib.hid hv
  obtain ⟨A, c, rfl, _, _, _, _⟩ := h
  obtain ⟨b1, b2, l1, l2, hin⟩ := hv
  have HI := Lib.hid hin
  clear hin
  have d1 : decide (B < 1) = false := decide_eq_false (by omega)
  have d2 : decide (64 < B) = false := decide_eq_false (by omega)
  have d3 : decide ((ps.length : Int) < 1) = false := decide_eq_false (by omega)
  have d4 : decide (4 < (ps.length : Int)) = false := decide_eq_false (by omega)
  have d3n : decide (ps.length < 1) = false := decide_eq_false (by omega)
  have d4n : decide (4 < ps.length) = false := decide_eq_false (by omega)
  go_enter Try.func42, Try.ntmps42
  obtain ⟨F, eF⟩ : ∃ F, F = w.heap.size := ⟨_, rfl⟩
  obtain ⟨w1, ew1⟩ : ∃ w1 : World, w1 = w.alloc (.cells #[.int .i64 B, .slice A ps.length c] 25) := ⟨_, rfl⟩
  have HWw1 : Hid (w.alloc (.cells #[.int .i64 B, .slice A ps.length c] 25) = w1) := ew1.symm
  have HAw1 : Hid (Below w.heap.size w w1) := (show Hid _ from by rw [ew1]; exact (Below.refl _ w).alloc (Nat.le_refl _) _)
  have HF0w1 : Hid (w1.heap[F]? = some (.cells #[.int .i64 B, .slice A ps.length c] 25 (0, 0))) := (show Hid _ from by show _ = _; rw [ew1, eF]; exact heap_alloc_new w _)
  have HX : Hid (∀ W, Below w1.heap.size w1 W → W.cell? ⟨F, 0, none⟩ = some (.int .i64 B) ∧ W.cell? ⟨F, 1, none⟩ = some (.slice A ps.length c)) := (show Hid _ from fun W hg => by
    have hF0 := (hg.block F (heap_of_cells HF0w1.out)).trans HF0w1.out
    exact ⟨cell_of_row W F 0 _ _ _ hF0, cell_of_row W F 1 _ _ _ hF0⟩)
  go_upto_region 1 with fail
  rw [HWw1.out, ← eF]
  clear ew1 eF
  obtain ⟨x0, x1⟩ := HX.out w1 (Below.refl _ _)
  go_wp2_with fail
  clear x0 x1
  go_loopw [28] (fun iv wr => ∃ k : Nat, k ≤ ps.length ∧ iv = .int .i64 k ∧ Below w.heap.size w wr) (fun iv _ => ps.length - (intOf iv).toNat)
  case atStart => exact ⟨0, Nat.zero_le _, rfl, HAw1.out⟩
  case round =>
    obtain ⟨k, hk, rfl, hbel⟩ := hrel
    have HB := Lib.hid hbel
    by_cases hlt : k < ps.length
    · obtain ⟨_, _, e, _, _, _, ha⟩ := HS.out
      injection e with e1 e2 e3
      subst e1 e3
      obtain ⟨b, off, rfl, hb, hcell⟩ := ha (by omega)
      have c0 : wr.cell? ⟨b, off + k * 2, none⟩ = some (.int .i64 ps[k].1) := (hbel.cell (p := ⟨b, off + k * 2, none⟩) hb).trans (hcell k hlt 0 (by omega))
      have c1 : wr.cell? ⟨b, off + k * 2 + 1, none⟩ = some (.int .i64 ps[k].2) := (hbel.cell (p := ⟨b, off + k * 2 + 1, none⟩) hb).trans (hcell k hlt 1 (by omega))
      have hin := HI.out _ (List.getElem_mem hlt)
      obtain ⟨x, hx⟩ : ∃ x, x = ps[k].1 := ⟨_, rfl⟩
      obtain ⟨y, hy⟩ : ∃ y, y = ps[k].2 := ⟨_, rfl⟩
      rw [← hx] at c0 hin
      rw [← hy] at c1 hin
      have e1 : decide (x < 0) = false := decide_eq_false (by omega)
      have e2 : decide (2147483647 ≤ x) = false := decide_eq_false (by omega)
      have e3 : decide (y < 0) = false := decide_eq_false (by omega)
      have e4 : decide (2147483647 ≤ y) = false := decide_eq_false (by omega)
      have wk : IntKind.i64.wrap ((k : Int) + 1) = (k : Int) + 1 := by exact IntWalk.i64_in _ (by omega)
      clear hcell ha hx hy hbel
      go_wp2_with fail
      go_roundw
      case rel => exact ⟨k + 1, by omega, by go_num, HB.out.alloc HB.out.size _⟩
      case measure => simp [intOf]; omega
    · go_wp2_with fail
      go_ret
      exact ⟨rfl, HB.out⟩

set_option maxHeartbeats 4000000 in
theorem homes_ok (B n : Int) (ps : List (Int × Int)) (v : Value) (w : World) (hv : HV B ps) (hn0 : 0 ≤ n) (hn1 : n < 2147483647) (h : SG pcs 2 w.heap.size w v ps) :
    Calls Try.prog 73 #[.agg #[.int .i64 B, v], .int .i64 n] w fun e w' => ∃ v', e = .returned v' ∧ w'.ownsRow w.heap.size 3 1 v' (hms B ps n).length ((hms B ps n).map (Value.int .i64)) ∧ Below w.heap.size w w' := by
  have HS := Lib.hid h
  obtain ⟨A, c, rfl, _, _, _, _⟩ := h
  obtain ⟨b1, b2, l1, l2, hin⟩ := hv
  have HI := Lib.hid hin
  clear hin
  go_enter Try.func73, Try.ntmps73
  obtain ⟨F, eF⟩ : ∃ F, F = w.heap.size := ⟨_, rfl⟩
  obtain ⟨w1, ew1⟩ : ∃ w1 : World, w1 = w.alloc (.cells #[.int .i64 B, .slice A ps.length c] 25) := ⟨_, rfl⟩
  have HWw1 : Hid (w.alloc (.cells #[.int .i64 B, .slice A ps.length c] 25) = w1) := ew1.symm
  have HAw1 : Hid (Below w.heap.size w w1) := (show Hid _ from by rw [ew1]; exact (Below.refl _ w).alloc (Nat.le_refl _) _)
  have HF0w1 : Hid (w1.heap[F]? = some (.cells #[.int .i64 B, .slice A ps.length c] 25 (0, 0))) := (show Hid _ from by show _ = _; rw [ew1, eF]; exact heap_alloc_new w _)
  have HX : Hid (∀ W, Below w1.heap.size w1 W → W.cell? ⟨F, 0, none⟩ = some (.int .i64 B) ∧ W.cell? ⟨F, 1, none⟩ = some (.slice A ps.length c)) := (show Hid _ from fun W hg => by
    have hF0 := (hg.block F (heap_of_cells HF0w1.out)).trans HF0w1.out
    exact ⟨cell_of_row W F 0 _ _ _ hF0, cell_of_row W F 1 _ _ _ hF0⟩)
  have hF1 : F < w1.heap.size := heap_of_cells HF0w1.out
  go_upto_region 1 with fail
  rw [HWw1.out, ← eF]
  clear ew1 eF
  obtain ⟨x0, x1⟩ := HX.out w1 (Below.refl _ _)
  go_wp2_with fail
  clear x0 x1
  go_loopw [5, 11] (fun ov iv wr => ∃ k : Nat, k ≤ ps.length ∧ iv = .int .i64 k ∧ wr.ownsRow w1.heap.size 3 1 ov (hms B (ps.take k) n).length ((hms B (ps.take k) n).map (Value.int .i64)) ∧ Below w1.heap.size w1 wr) (fun _ iv _ => ps.length - (intOf iv).toNat)
  case atStart => exact ⟨0, Nat.zero_le _, rfl, World.ownsRow_nil _ _ _ _, Below.refl _ _⟩
  case round =>
    obtain ⟨k, hk, rfl, hown, hb1⟩ := hrel
    have HBx := Lib.hid hb1
    have hbel : Below w.heap.size w wr := HAw1.out.trans (hb1.mono HAw1.out.size)
    have HB := Lib.hid hbel
    clear hb1
    by_cases hlt : k < ps.length
    · obtain ⟨_, _, e, _, _, _, ha⟩ := HS.out
      injection e with e1 e2 e3
      subst e1 e3
      obtain ⟨b, off, rfl, hb, hcell⟩ := ha (by omega)
      have c0 : wr.cell? ⟨b, off + k * 2, none⟩ = some (.int .i64 ps[k].1) := (hbel.cell (p := ⟨b, off + k * 2, none⟩) hb).trans (hcell k hlt 0 (by omega))
      have c1 : wr.cell? ⟨b, off + k * 2 + 1, none⟩ = some (.int .i64 ps[k].2) := (hbel.cell (p := ⟨b, off + k * 2 + 1, none⟩) hb).trans (hcell k hlt 1 (by omega))
      have hin := HI.out _ (List.getElem_mem hlt)
      have HSN := Lib.hid (hms_snoc B ps n k hlt)
      obtain ⟨x, hx⟩ : ∃ x, x = ps[k].1 := ⟨_, rfl⟩
      obtain ⟨y, hy⟩ : ∃ y, y = ps[k].2 := ⟨_, rfl⟩
      rw [← hx] at c0 hin HSN
      rw [← hy] at c1 hin HSN
      have wk : IntKind.i64.wrap ((k : Int) + 1) = (k : Int) + 1 := by exact IntWalk.i64_in _ (by omega)
      have HW := Lib.hid (hm_wrap x y n B ⟨hin.1, hin.2.1⟩ ⟨hin.2.2.1, hin.2.2.2⟩ ⟨hn0, hn1⟩ b1)
      have hne : (B == 0) = false := by rw [beq_eq_false_iff_ne]; omega
      obtain ⟨x0, x1⟩ := HX.out wr HBx.out
      clear hcell ha hx hy hbel
      obtain ⟨X, eX⟩ : ∃ X, X = wr.heap.size := ⟨_, rfl⟩
      obtain ⟨wx, ewx⟩ : ∃ wx : World, wx = wr.alloc (.cells #[.int .i64 x, .int .i64 y] 69) := ⟨_, rfl⟩
      have HWx : Hid (wr.alloc (.cells #[.int .i64 x, .int .i64 y] 69) = wx) := ewx.symm
      have HAx : Hid (Below wr.heap.size wr wx) := (show Hid _ from by rw [ewx]; exact (Below.refl _ wr).alloc (Nat.le_refl _) _)
      have z0 : wx.cell? ⟨X, 0, none⟩ = some (.int .i64 x) := by rw [ewx, eX, cell_of_row _ _ 0 _ _ _ (heap_alloc_new wr _)]; rfl
      have z1 : wx.cell? ⟨X, 1, none⟩ = some (.int .i64 y) := by rw [ewx, eX, cell_of_row _ _ 1 _ _ _ (heap_alloc_new wr _)]; rfl
      have y0 : wx.cell? ⟨F, 0, none⟩ = some (.int .i64 B) := (HX.out wx (HBx.out.trans (HAx.out.mono HBx.out.size))).1
      have HOx : Hid (wx.ownsRow w1.heap.size 3 1 u5 (hms B (ps.take k) n).length ((hms B (ps.take k) n).map (Value.int .i64))) := (show Hid _ from by rw [ewx]; exact hown.alloc _)
      have HBxx : Hid (Below w1.heap.size w1 wx) := (show Hid _ from HBx.out.trans (HAx.out.mono HBx.out.size))
      have hsz := HBxx.out.size
      clear hown
      go_upto_region 5 with fail
      rw [HWx.out, ← eX]
      clear ewx eX x0 x1
      go_wp2_with (at_builtin; refine wpList_append_int1 _ rfl _ _ 22 rfl w1.heap.size 3 Try.underlying22 iinfo _ (hms B (ps.take k) n) (by rfl) (by exact HOx.out) _ (by rfl) ?c1 ?c2 ?_)
      case c1 => rw [hms_len, List.length_take]; omega
      intro v2 w2 ho2 hg2
      have HO2 : Hid (w2.ownsRow w1.heap.size 3 1 v2 (hms B (ps.take (k + 1)) n).length ((hms B (ps.take (k + 1)) n).map (Value.int .i64))) := (show Hid _ from by show World.ownsRow _ _ _ _ _ _ _; rw [HSN.out, ← HW.out]; simpa using ho2)
      have HB2 : Hid (Below w1.heap.size w1 w2) := (show Hid _ from (HBxx.out.alloc hsz _).grown hg2 (by simp; omega) (fun q hq => (HOx.out.lt q hq).1))
      clear ho2 hg2
      go_wp2_with fail
      go_roundw
      case rel => exact ⟨k + 1, by omega, by go_num, HO2.out, HB2.out⟩
      case measure => simp [intOf]; omega
    · obtain rfl : k = ps.length := by omega
      rw [List.take_length] at hown
      have HO := Lib.hid hown
      clear hown hbel
      go_wp2_with fail
      go_ret
      exact ⟨_, rfl, own_lo HO.out HAw1.out.size, HB.out⟩
end Go.Proofs.Ytllnomembakboaa
