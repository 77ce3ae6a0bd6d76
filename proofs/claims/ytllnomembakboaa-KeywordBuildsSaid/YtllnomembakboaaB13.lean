/- Joined: Ne Oj Oi. -/
import Derived.Sort.Grow
import Derived.Test.YtllnomembakboaaB10
import Derived.Test.YtllnomembakboaaB05
import Derived.Test.YtllnomembakboaaB01
namespace Go.Proofs.Ytllnomembakboaa
open Go.RowKit

/-- w' is w after some draws, with some blocks behind -/
def Grw (w w' : World) : Prop := ∃ q os, w' = Go.Sort.grow (w.drewN q) os
theorem Grw.refl (w : World) : Grw w w := ⟨0, #[], by rw [Go.Sort.grow_empty]; rfl⟩
theorem Grw.trans {a b c : World} (h : Grw a b) (k : Grw b c) : Grw a c := by
  obtain ⟨q, os, rfl⟩ := h
  obtain ⟨q', os', rfl⟩ := k
  exact ⟨q + q', os ++ os', by show Go.Sort.grow (Go.Sort.grow ((a.drewN q).drewN q') os) os' = _; rw [Go.Sort.grow_grow, World.drewN_drewN]⟩
theorem Grw.alloc {a b : World} (h : Grw a b) (o : Obj) : Grw a (b.alloc o) := h.trans ⟨0, #[o], by rw [Go.Sort.alloc_eq_grow]; rfl⟩
theorem Grw.drew {a b : World} (h : Grw a b) : Grw a b.drew := h.trans ⟨1, #[], by rw [Go.Sort.grow_empty]; rfl⟩
theorem Grw.drewN {a b : World} (h : Grw a b) (n : Nat) : Grw a (b.drewN n) := h.trans ⟨n, #[], by rw [Go.Sort.grow_empty]⟩
theorem Grw.below {a b : World} (h : Grw a b) : Below a.heap.size a b := by
  obtain ⟨q, os, rfl⟩ := h
  exact ⟨rfl, rfl, rfl, by simp [Go.Sort.grow, World.drewN], fun k hk => by simp [Go.Sort.grow, World.drewN, Array.getElem?_append, hk]⟩
/-- how two keys compare -/
def cmpS (x y : ByteArray) : Int := if klt x y = true then -1 else if klt y x = true then 1 else 0
theorem cmpS_lt {x y : ByteArray} (h : klt x y = true) : cmpS x y = -1 := by simp [cmpS, h]
theorem cmpS_gt {x y : ByteArray} (h : klt y x = true) : cmpS x y = 1 := by simp [cmpS, h, klt_asymm h]
theorem cmpS_eq (x : ByteArray) : cmpS x x = 0 := by simp [cmpS, klt_irrefl]
theorem cmpS_neg (x y : ByteArray) : decide (cmpS x y < 0) = klt x y := by
  unfold cmpS
  cases klt x y <;> cases klt y x <;> simp
theorem cmpS_ge (x y : ByteArray) : decide (0 ≤ cmpS x y) = !klt x y := by
  unfold cmpS
  cases klt x y <;> cases klt y x <;> simp
theorem nan_any (s : ByteArray) (w : World) : Calls Try.prog 101 #[.string s] w fun e w' => e = .returned (.bool false) ∧ w' = w := by
  go_enter Try.func101, Try.ntmps101
  go_wp2
  go_ret
  exact ⟨ret_bool (by simp), rfl⟩
theorem compare_any (x y : ByteArray) (w : World) : Calls Try.prog 78 #[.string x, .string y] w fun e w' => e = .returned (.int .i64 (cmpS x y)) ∧ w' = w := by
  go_enter Try.func78, Try.ntmps78
  go_wp2_with fail
  (with_reducible refine (nan_any x w).mono ?_)
  rintro e w1 ⟨rfl, rfl⟩
  go_wp2_with fail
  (with_reducible refine (nan_any y w1).mono ?_)
  rintro e w2 ⟨rfl, rfl⟩
  cases h1 : klt x y
  · have d1 : Op.bytesLess x.toList y.toList = false := h1
    cases h2 : klt y x
    · have d2 : (x.toList == y.toList) = true := by
        have h := kgt_eq x y
        rw [h2, d1] at h
        simpa using h
      go_wp2_with fail
      go_ret
      exact ⟨by rw [cmpS, h1, h2]; rfl, rfl⟩
    · have d2 : (x.toList == y.toList) = false := by
        have h := kgt_eq x y
        rw [h2, d1] at h
        simpa using h
      go_wp2_with fail
      go_ret
      exact ⟨by rw [cmpS, h1, h2]; rfl, rfl⟩
  · have d1 : Op.bytesLess x.toList y.toList = true := h1
    go_wp2_with fail
    go_ret
    exact ⟨by rw [cmpS, h1]; rfl, rfl⟩
theorem okey_any (s : ByteArray) (x : Int) (w : World) : Calls Try.prog 66 #[.agg #[.string s, .int .i64 x]] w fun e w' => e = .returned (.string s) ∧ Grw w w' := by
  go_enter Try.func66, Try.ntmps66
  obtain ⟨F, eF⟩ : ∃ F, F = w.heap.size := ⟨_, rfl⟩
  obtain ⟨w1, ew1⟩ : ∃ w1 : World, w1 = w.alloc (.cells #[.string s, .int .i64 x] 41) := ⟨_, rfl⟩
  have HWw1 : Hid (w.alloc (.cells #[.string s, .int .i64 x] 41) = w1) := ew1.symm
  have HAw1 : Hid (Below w.heap.size w w1) := (show Hid _ from by rw [ew1]; exact (Below.refl _ w).alloc (Nat.le_refl _) _)
  have HF0w1 : Hid (w1.heap[F]? = some (.cells #[.string s, .int .i64 x] 41 (0, 0))) := (show Hid _ from by show _ = _; rw [ew1, eF]; exact heap_alloc_new w _)
  have HX : Hid (∀ W, Below w1.heap.size w1 W → W.cell? ⟨F, 0, none⟩ = some (.string s) ∧ W.cell? ⟨F, 1, none⟩ = some (.int .i64 x)) := (show Hid _ from fun W hg => by
    have hF0 := (hg.block F (heap_of_cells HF0w1.out)).trans HF0w1.out
    exact ⟨cell_of_row W F 0 _ _ _ hF0, cell_of_row W F 1 _ _ _ hF0⟩)
  go_upto_region 1 with fail
  rw [HWw1.out, ← eF]
  clear ew1 eF
  obtain ⟨x0, x1⟩ := HX.out w1 (Below.refl _ _)
  go_wp2_with fail
  go_ret
  exact ⟨rfl, by rw [← HWw1.out]; exact (Grw.refl _).alloc _⟩
theorem cell_lt {w : World} {a : Addr} {v : Value} (h : w.cell? a = some v) : a.block < w.heap.size := by
  unfold World.cell? at h
  split at h
  · rename_i hb; exact (Array.getElem?_eq_some_iff.1 hb).1
  · cases h
set_option maxRecDepth 100000 in
set_option maxHeartbeats 4000000 in
theorem by1_any (s1 s2 : ByteArray) (n1 n2 : Int) (p : Nat) (w : World) (hp : w.cell? ⟨p, 0, none⟩ = some (.func (.func 66) #[] #[])) :
    Calls Try.prog 77 #[.agg #[.string s1, .int .i64 n1], .agg #[.string s2, .int .i64 n2], .pointer (some ⟨p, 0, none⟩)] w fun e w' => e = .returned (.int .i64 (cmpS s1 s2)) ∧ Grw w w' := by
  have hpl : p < w.heap.size := cell_lt hp
  go_enter Try.func77, Try.ntmps77
  obtain ⟨F, eF⟩ : ∃ F, F = w.heap.size := ⟨_, rfl⟩
  obtain ⟨w1, ew1⟩ : ∃ w1 : World, w1 = (w.alloc (.cells #[.string s1, .int .i64 n1] 41)).alloc (.cells #[.string s2, .int .i64 n2] 41) := ⟨_, rfl⟩
  have HWw1 : Hid ((w.alloc (.cells #[.string s1, .int .i64 n1] 41)).alloc (.cells #[.string s2, .int .i64 n2] 41) = w1) := ew1.symm
  have HAw1 : Hid (Below w.heap.size w w1) := (show Hid _ from by rw [ew1]; exact ((Below.refl _ w).alloc (Nat.le_refl _) _).alloc (by simp) _)
  have HF0w1 : Hid (w1.heap[F]? = some (.cells #[.string s1, .int .i64 n1] 41 (0, 0))) := (show Hid _ from by show _ = _; rw [ew1, eF, Below.heap_alloc _ _ _ (by simp)]; exact heap_alloc_new w _)
  have HF1w1 : Hid (w1.heap[F + 1]? = some (.cells #[.string s2, .int .i64 n2] 41 (0, 0))) := (show Hid _ from by show _ = _; rw [ew1, eF]; have := heap_alloc_new (w.alloc (.cells #[.string s1, .int .i64 n1] 41)) (.cells #[.string s2, .int .i64 n2] 41); simpa using this)
  have HX : Hid (∀ W, Below w1.heap.size w1 W → W.cell? ⟨F, 0, none⟩ = some (.string s1) ∧ W.cell? ⟨F, 1, none⟩ = some (.int .i64 n1) ∧ W.cell? ⟨F + 1, 0, none⟩ = some (.string s2) ∧ W.cell? ⟨F + 1, 1, none⟩ = some (.int .i64 n2)) := (show Hid _ from fun W hg => by
    have hF0 := (hg.block F (heap_of_cells HF0w1.out)).trans HF0w1.out
    have hF1 := (hg.block (F + 1) (heap_of_cells HF1w1.out)).trans HF1w1.out
    exact ⟨cell_of_row W F 0 _ _ _ hF0, cell_of_row W F 1 _ _ _ hF0, cell_of_row W (F + 1) 0 _ _ _ hF1, cell_of_row W (F + 1) 1 _ _ _ hF1⟩)
  have hp1 : Hid (w1.cell? ⟨p, 0, none⟩ = some (.func (.func 66) #[] #[])) := (show Hid _ from (HAw1.out.cell (p := ⟨p, 0, none⟩) hpl).trans hp)
  have HP : Hid (∀ W, Below w1.heap.size w1 W → W.cell? ⟨p, 0, none⟩ = some (.func (.func 66) #[] #[])) := (show Hid _ from fun W hW => (hW.cell (p := ⟨p, 0, none⟩) (Nat.lt_of_lt_of_le hpl HAw1.out.size)).trans hp1.out)
  clear hp
  go_upto_region 1 with fail
  rw [HWw1.out, ← eF]
  clear ew1 eF
  obtain ⟨x0, x1, x2, x3⟩ := HX.out w1 (Below.refl _ _)
  have hq := HP.out w1 (Below.refl _ _)
  go_region_held3 (fun w' => w'.cell? ⟨p, 0, none⟩ = some (.func (.func 66) #[] #[]) ∧ w'.cell? ⟨F, 0, none⟩ = some (.string s1) ∧ w'.cell? ⟨F, 1, none⟩ = some (.int .i64 n1) ∧ w'.cell? ⟨F + 1, 0, none⟩ = some (.string s2) ∧ w'.cell? ⟨F + 1, 1, none⟩ = some (.int .i64 n2)) (first | exact ⟨hq, x0, x1, x2, x3⟩ | exact ⟨H5, H6, H7, H8, H9⟩ | go_keep)
    (first
      | (go_at_call 66; refine (okey_any s1 n1 _).mono ?_; rintro e w5 ⟨rfl, hb5⟩; have HB5 : Hid (Grw w1 w5) := (show Hid _ from (by first | exact HB5.out.trans hb5 | exact (Grw.refl w1).drew.trans hb5 | exact ((Grw.refl w1).drewN _).trans hb5)); clear hb5; obtain ⟨H6, H7, H8, H9⟩ := HX.out w5 HB5.out.below; have H5 := HP.out w5 HB5.out.below)
      | (go_at_call 66; refine (okey_any s2 n2 _).mono ?_; rintro e w5 ⟨rfl, hb5⟩; have HB5 : Hid (Grw w1 w5) := (show Hid _ from (by first | exact HB5.out.trans hb5 | exact (Grw.refl w1).drew.trans hb5 | exact ((Grw.refl w1).drewN _).trans hb5)); clear hb5; obtain ⟨H6, H7, H8, H9⟩ := HX.out w5 HB5.out.below; have H5 := HP.out w5 HB5.out.below)
      | (go_at_call 78; refine (compare_any s1 s2 _).mono ?_; rintro e w5 ⟨rfl, rfl⟩))
  go_wp2_with fail
  go_ret
  exact ⟨rfl, Grw.trans (by rw [← HWw1.out]; exact ((Grw.refl _).alloc _).alloc _) HB5.out⟩
theorem by_any (w : World) : Calls Try.prog 65 #[.func (.func 66) #[] #[]] w fun e w' =>
    e = .returned (.func (.func 77) #[] #[.pointer (some ⟨w.heap.size, 0, none⟩)]) ∧ Grw w w' ∧ w'.cell? ⟨w.heap.size, 0, none⟩ = some (.func (.func 66) #[] #[]) := by
  go_enter Try.func65, Try.ntmps65
  go_wp2_with fail
  go_ret
  exact ⟨rfl, (Grw.refl _).alloc _, cell_of_row _ w.heap.size 0 _ _ _ (heap_alloc_new w _)⟩
set_option maxRecDepth 100000 in
set_option maxHeartbeats 4000000 in
theorem order_grw (s1 s2 : ByteArray) (n1 n2 : Int) (w : World) :
    Calls Try.prog 52 #[.agg #[.string s1, .int .i64 n1], .agg #[.string s2, .int .i64 n2]] w fun e w' => e = .returned (.int .i64 (cmpS s1 s2)) ∧ Grw w w' := by
  go_enter Try.func52, Try.ntmps52
  obtain ⟨F, eF⟩ : ∃ F, F = w.heap.size := ⟨_, rfl⟩
  obtain ⟨w1, ew1⟩ : ∃ w1 : World, w1 = (w.alloc (.cells #[.string s1, .int .i64 n1] 41)).alloc (.cells #[.string s2, .int .i64 n2] 41) := ⟨_, rfl⟩
  have HWw1 : Hid ((w.alloc (.cells #[.string s1, .int .i64 n1] 41)).alloc (.cells #[.string s2, .int .i64 n2] 41) = w1) := ew1.symm
  have HAw1 : Hid (Below w.heap.size w w1) := (show Hid _ from by rw [ew1]; exact ((Below.refl _ w).alloc (Nat.le_refl _) _).alloc (by simp) _)
  have HF0w1 : Hid (w1.heap[F]? = some (.cells #[.string s1, .int .i64 n1] 41 (0, 0))) := (show Hid _ from by show _ = _; rw [ew1, eF, Below.heap_alloc _ _ _ (by simp)]; exact heap_alloc_new w _)
  have HF1w1 : Hid (w1.heap[F + 1]? = some (.cells #[.string s2, .int .i64 n2] 41 (0, 0))) := (show Hid _ from by show _ = _; rw [ew1, eF]; have := heap_alloc_new (w.alloc (.cells #[.string s1, .int .i64 n1] 41)) (.cells #[.string s2, .int .i64 n2] 41); simpa using this)
  have HX : Hid (∀ W, Below w1.heap.size w1 W → W.cell? ⟨F, 0, none⟩ = some (.string s1) ∧ W.cell? ⟨F, 1, none⟩ = some (.int .i64 n1) ∧ W.cell? ⟨F + 1, 0, none⟩ = some (.string s2) ∧ W.cell? ⟨F + 1, 1, none⟩ = some (.int .i64 n2)) := (show Hid _ from fun W hg => by
    have hF0 := (hg.block F (heap_of_cells HF0w1.out)).trans HF0w1.out
    have hF1 := (hg.block (F + 1) (heap_of_cells HF1w1.out)).trans HF1w1.out
    exact ⟨cell_of_row W F 0 _ _ _ hF0, cell_of_row W F 1 _ _ _ hF0, cell_of_row W (F + 1) 0 _ _ _ hF1, cell_of_row W (F + 1) 1 _ _ _ hF1⟩)
  go_upto_region 1 with fail
  rw [HWw1.out, ← eF]
  clear ew1 eF
  obtain ⟨x0, x1, x2, x3⟩ := HX.out w1 (Below.refl _ _)
  go_region_held3 (fun w' => w'.cell? ⟨F, 0, none⟩ = some (.string s1) ∧ w'.cell? ⟨F, 1, none⟩ = some (.int .i64 n1) ∧ w'.cell? ⟨F + 1, 0, none⟩ = some (.string s2) ∧ w'.cell? ⟨F + 1, 1, none⟩ = some (.int .i64 n2)) (first | exact ⟨x0, x1, x2, x3⟩ | exact ⟨H6, H7, H8, H9⟩ | go_keep)
    (first
      | (go_at_call 65; refine (by_any _).mono ?_; rintro e w5 ⟨rfl, hb5, hc5⟩; have HB5 : Hid (Grw w1 w5) := (show Hid _ from (by first | exact (Grw.refl w1).drew.trans hb5 | exact ((Grw.refl w1).drewN _).trans hb5)); clear hb5; obtain ⟨H6, H7, H8, H9⟩ := HX.out w5 HB5.out.below; have HC5 := Lib.hid hc5; clear hc5)
      | (go_at_call 77; refine (by1_any s1 s2 n1 n2 _ _ (by exact HC5.out)).mono ?_; rintro e w6 ⟨rfl, hb6⟩; have HB6 := Lib.hid hb6; clear hb6; have HB7 : Hid (Grw w1 w6) := (show Hid _ from HB5.out.trans HB6.out); obtain ⟨H6, H7, H8, H9⟩ := HX.out w6 HB7.out.below))
  go_wp2_with fail
  go_ret
  exact ⟨rfl, Grw.trans (by rw [← HWw1.out]; exact ((Grw.refl _).alloc _).alloc _) HB7.out⟩
theorem order_any (s1 s2 : ByteArray) (n1 n2 : Int) (w : World) :
    Calls Try.prog 52 #[.agg #[.string s1, .int .i64 n1], .agg #[.string s2, .int .i64 n2]] w fun e w' => e = .returned (.int .i64 (cmpS s1 s2)) ∧ Below w.heap.size w w' :=
  (order_grw s1 s2 n1 n2 w).mono fun _ _ h => ⟨h.1, h.2.below⟩
instance (l : List (ByteArray × Int)) : Decidable (Asc l) := inferInstanceAs (Decidable (List.Pairwise _ l))
/-- entries are valid, and ascend -/
def ascB (l : List (ByteArray × Int)) : Bool := l.all ven && decide (Asc l)
theorem ascB_iff {l : List (ByteArray × Int)} : ascB l = true ↔ (∀ e ∈ l, ven e = true) ∧ Asc l := by simp [ascB]
theorem ascB_val {l : List (ByteArray × Int)} {i : Nat} (hi : i < l.length) (h : ven l[i] = false) : ascB l = false := by
  rw [Bool.eq_false_iff]
  intro h2
  have := (ascB_iff.1 h2).1 _ (List.getElem_mem hi)
  rw [h] at this
  cases this
theorem ascB_lt {l : List (ByteArray × Int)} {i : Nat} (hi : i < l.length) (h0 : 0 < i) (h : klt l[i - 1].1 l[i].1 = false) : ascB l = false := by
  rw [Bool.eq_false_iff]
  intro h2
  have := List.pairwise_iff_getElem.1 (ascB_iff.1 h2).2 (i - 1) i (by omega) hi (by omega)
  rw [h] at this
  cases this
theorem ascB_step {l : List (ByteArray × Int)} {i : Nat} (h : ascB (l.take i) = true) (hi : i < l.length) (hv : ven l[i] = true) (hl : 0 < i → klt l[i - 1].1 l[i].1 = true) : ascB (l.take (i + 1)) = true := by
  obtain ⟨h1, h2⟩ := ascB_iff.1 h
  refine ascB_iff.2 ⟨fun e he => ?_, ?_⟩
  · rw [List.take_succ_eq_append_getElem hi] at he
    rcases List.mem_append.1 he with h3 | h3
    · exact h1 e h3
    · obtain rfl := List.mem_singleton.1 h3; exact hv
  · refine List.pairwise_iff_getElem.2 fun a b ha hb hab => ?_
    rw [List.length_take] at ha hb
    simp only [List.getElem_take]
    rcases Nat.lt_or_ge b i with h3 | h3
    · have := List.pairwise_iff_getElem.1 h2 a b (by simp; omega) (by simp; omega) hab
      simpa only [List.getElem_take] using this
    · have : b = i := by omega
      subst this
      rcases Nat.lt_or_ge a (b - 1) with h4 | h4
      · have := List.pairwise_iff_getElem.1 h2 a (b - 1) (by simp; omega) (by simp; omega) h4
        simp only [List.getElem_take] at this
        exact klt_trans this (hl (by omega))
      · have : a = b - 1 := by omega
        subst this
        exact hl (by omega)
set_option maxRecDepth 100000 in
set_option maxHeartbeats 8000000 in
theorem ascends_any (l : List (ByteArray × Int)) (v : Value) (w : World) (h : SV ecs 2 w.heap.size w v l) (hk : ∀ e ∈ l, e.1.size ≤ 9223372036854775807) :
    Calls Try.prog 39 #[v] w fun e w' => e = .returned (.bool (ascB l)) ∧ Below w.heap.size w w' := by
  obtain ⟨A, c, rfl⟩ := h.form
  have HS := Lib.hid h
  have HK := Lib.hid hk
  have hll : l.length ≤ 9223372036854775807 := by obtain ⟨_, _, _, h1, h2, _⟩ := h; omega
  clear h hk
  go_enter Try.func39, Try.ntmps39
  go_wp2_with fail
  go_loopw [7] (fun iv wr => ∃ i : Nat, i ≤ l.length ∧ iv = .int .i64 i ∧ Below w.heap.size w wr ∧ ascB (l.take i) = true) (fun iv _ => l.length - (intOf iv).toNat)
  case atStart => exact ⟨0, Nat.zero_le _, rfl, Below.refl _ _, rfl⟩
  case round =>
    obtain ⟨i, hi, rfl, hb, has⟩ := hrel
    have HB := Lib.hid hb
    have HAS := Lib.hid has
    have hz := hb.size
    clear hb has
    by_cases hlt : i < l.length
    · have HSr : Hid (SV ecs 2 wr.heap.size wr (.slice A l.length c) l) := (show Hid _ from (HS.out.below HB.out).more hz)
      obtain ⟨_, hat⟩ := HSr.out.at
      obtain ⟨b, off, rfl, hbl, hcell⟩ := hat i hlt
      obtain ⟨key, ekey⟩ : ∃ key, key = l[i].1 := ⟨_, rfl⟩
      obtain ⟨x, ex⟩ : ∃ x, x = l[i].2 := ⟨_, rfl⟩
      have c0 : wr.cell? ⟨b, off + i * 2, none⟩ = some (.string key) := by rw [ekey]; exact hcell wr (Below.refl _ _) 0 (by omega)
      have c1 : wr.cell? ⟨b, off + i * 2 + 1, none⟩ = some (.int .i64 x) := by rw [ex]; exact hcell wr (Below.refl _ _) 1 (by omega)
      have hei : l[i] = (key, x) := by rw [ekey, ex]
      have HEI := Lib.hid hei
      have hks : key.size ≤ 9223372036854775807 := by rw [ekey]; exact HK.out _ (List.getElem_mem hlt)
      have HPRE : Hid (0 < i → ∃ key2 x2, l[i - 1]'(by omega) = (key2, x2) ∧ ∀ W, Below wr.heap.size wr W → W.cell? ⟨b, off + (i - 1) * 2, none⟩ = some (.string key2) ∧ W.cell? ⟨b, off + (i - 1) * 2 + 1, none⟩ = some (.int .i64 x2)) := (show Hid _ from fun h0 => by
        obtain ⟨b', off', e, _, hcell2⟩ := hat (i - 1) (by omega)
        injection e with e
        injection e with e1 e2
        subst e1 e2
        exact ⟨_, _, rfl, fun W hW => ⟨hcell2 W hW 0 (by omega), hcell2 W hW 1 (by omega)⟩⟩)
      have wi : IntKind.i64.wrap ((i : Int) + 1) = (i : Int) + 1 := by exact IntWalk.i64_in _ (by omega)
      have zi0 : 0 ≤ (i : Int) := by omega
      clear hat hcell ekey ex hei
      obtain ⟨X, eX⟩ : ∃ X, X = wr.heap.size := ⟨_, rfl⟩
      obtain ⟨wx, ewx⟩ : ∃ wx : World, wx = wr.alloc (.cells #[.string key, .int .i64 x] 41) := ⟨_, rfl⟩
      have HWwx : Hid (wr.alloc (.cells #[.string key, .int .i64 x] 41) = wx) := ewx.symm
      have HAwx : Hid (Below wr.heap.size wr wx) := (show Hid _ from by rw [ewx]; exact (Below.refl _ wr).alloc (Nat.le_refl _) _)
      have HX0wx : Hid (wx.heap[X]? = some (.cells #[.string key, .int .i64 x] 41 (0, 0))) := (show Hid _ from by show _ = _; rw [ewx, eX]; exact heap_alloc_new wr _)
      have HX : Hid (∀ W, Below wx.heap.size wx W → W.cell? ⟨X, 0, none⟩ = some (.string key) ∧ W.cell? ⟨X, 1, none⟩ = some (.int .i64 x)) := (show Hid _ from fun W hg => by
        have hX0 := (hg.block X (heap_of_cells HX0wx.out)).trans HX0wx.out
        exact ⟨cell_of_row W X 0 _ _ _ hX0, cell_of_row W X 1 _ _ _ hX0⟩)
      go_upto_region 4 with fail
      rw [HWwx.out, ← eX]
      clear ewx eX
      obtain ⟨k0, k1⟩ := HX.out wx (Below.refl _ _)
      clear c0 c1
      have q0 : ∀ p : BW wx, p.on.cell? ⟨X, 0, none⟩ = some (.string key) := fun p => (HX.out p.on p.ok).1
      have q1 : ∀ p : BW wx, p.on.cell? ⟨X, 1, none⟩ = some (.int .i64 x) := fun p => (HX.out p.on p.ok).2
      clear k0 k1
      cases hv : ven (key, x)
      · have HV := Lib.hid hv
        have HVC : Hid (∀ W, Calls Try.prog 49 #[.agg #[.string key, .int .i64 x]] W fun e w' => e = .returned (.bool false) ∧ Below W.heap.size W w') := (show Hid _ from fun W => by have h := valid_any key x W hks; rwa [hv] at h)
        clear hv
        refine wp_region_bw (by kernel_rfl) (by kernel_rfl) ?_
        repeat (go_big_quiet_step (first | (go_at_call 49; exact Calls.bw_of (HVC.out _))))
        refine wpQuiet_nil ?_
        intro _ hw'
        obtain ⟨pq, rfl⟩ := hw'
        obtain ⟨wy, HBwy, hpq⟩ : ∃ (x : World) (_ : Hid (Below wx.heap.size wx x)), pq.on = x := ⟨_, pq.h, rfl⟩
        rw [hpq]
        clear hpq pq
        go_wp2_with fail
        refine bodyPost_ret (v := .bool false) (by simp [results, Try.results39, go_sem]) rfl ?_
        exact ⟨by rw [ascB_val hlt (by rw [HEI.out]; exact HV.out)], HB.out.trans ((HAwx.out.trans (HBwy.out.mono HAwx.out.size)).mono hz)⟩
      · have HV := Lib.hid hv
        have HVC : Hid (∀ W, Calls Try.prog 49 #[.agg #[.string key, .int .i64 x]] W fun e w' => e = .returned (.bool true) ∧ Below W.heap.size W w') := (show Hid _ from fun W => by have h := valid_any key x W hks; rwa [hv] at h)
        clear hv
        by_cases h0 : 0 < i
        · obtain ⟨key2, x2, hpe, hpc⟩ := HPRE.out h0
          have HPE := Lib.hid hpe
          have HPC : Hid (∀ W, Below wx.heap.size wx W → W.cell? ⟨b, off + (i - 1) * 2, none⟩ = some (.string key2) ∧ W.cell? ⟨b, off + (i - 1) * 2 + 1, none⟩ = some (.int .i64 x2)) := (show Hid _ from fun W hW => hpc W (HAwx.out.trans (hW.mono HAwx.out.size)))
          have q2 : ∀ p : BW wx, p.on.cell? ⟨b, off + (i - 1) * 2, none⟩ = some (.string key2) := fun p => (HPC.out p.on p.ok).1
          have q3 : ∀ p : BW wx, p.on.cell? ⟨b, off + (i - 1) * 2 + 1, none⟩ = some (.int .i64 x2) := fun p => (HPC.out p.on p.ok).2
          have HOC : Hid (∀ W, Calls Try.prog 52 #[.agg #[.string key2, .int .i64 x2], .agg #[.string key, .int .i64 x]] W fun e w' => e = .returned (.int .i64 (cmpS key2 key)) ∧ Below W.heap.size W w') := (show Hid _ from fun W => order_any key2 key x2 x W)
          have d0 : decide (0 < (i : Int)) = true := decide_eq_true (by omega)
          have d0n : decide (0 < i) = true := decide_eq_true h0
          have y0 : 0 ≤ (i : Int) - 1 := by omega
          have y1 : (i : Int) - 1 < (l.length : Int) := by omega
          have y2 : IntKind.i64.wrap ((i : Int) - 1) = (i : Int) - 1 := by exact IntWalk.i64_in _ (by omega)
          have y3 : ((i : Int) - 1).toNat = i - 1 := by omega
          have hge := cmpS_ge key2 key
          have HPE2 : Hid (l[i - 1].1 = key2 ∧ l[i].1 = key) := (show Hid _ from ⟨by rw [HPE.out], by rw [HEI.out]⟩)
          clear hpe hpc
          cases hkk : klt key2 key
          · rw [hkk] at hge
            have HKK := Lib.hid hkk
            clear hkk
            refine wp_region_bw (by kernel_rfl) (by kernel_rfl) ?_
            repeat (go_big_quiet_step (first | (go_at_call 49; exact Calls.bw_of (HVC.out _)) | (go_at_call 52; exact Calls.bw_of (HOC.out _))))
            refine wpQuiet_nil ?_
            intro _ hw'
            obtain ⟨pq, rfl⟩ := hw'
            obtain ⟨wy, HBwy, hpq⟩ : ∃ (x : World) (_ : Hid (Below wx.heap.size wx x)), pq.on = x := ⟨_, pq.h, rfl⟩
            rw [hpq]
            clear hpq pq
            go_wp2_with fail
            refine bodyPost_ret (v := .bool false) (by simp [results, Try.results39, go_sem]) rfl ?_
            exact ⟨by rw [ascB_lt hlt h0 (by rw [HPE2.out.1, HPE2.out.2]; exact HKK.out)], HB.out.trans ((HAwx.out.trans (HBwy.out.mono HAwx.out.size)).mono hz)⟩
          · rw [hkk] at hge
            have HKK := Lib.hid hkk
            clear hkk
            refine wp_region_bw (by kernel_rfl) (by kernel_rfl) ?_
            repeat (go_big_quiet_step (first | (go_at_call 49; exact Calls.bw_of (HVC.out _)) | (go_at_call 52; exact Calls.bw_of (HOC.out _))))
            refine wpQuiet_nil ?_
            intro _ hw'
            obtain ⟨pq, rfl⟩ := hw'
            obtain ⟨wy, HBwy, hpq⟩ : ∃ (x : World) (_ : Hid (Below wx.heap.size wx x)), pq.on = x := ⟨_, pq.h, rfl⟩
            rw [hpq]
            clear hpq pq
            go_wp2_with fail
            go_roundw
            case rel => exact ⟨i + 1, hlt, by go_num, HB.out.trans ((HAwx.out.trans (HBwy.out.mono HAwx.out.size)).mono hz), ascB_step HAS.out hlt (by rw [HEI.out]; exact HV.out) (fun _ => by rw [HPE2.out.1, HPE2.out.2]; exact HKK.out)⟩
            case measure => simp [intOf]; omega
        · have d0 : decide (0 < (i : Int)) = false := decide_eq_false (by omega)
          have d0n : decide (0 < i) = false := decide_eq_false h0
          refine wp_region_bw (by kernel_rfl) (by kernel_rfl) ?_
          repeat (go_big_quiet_step (first | (go_at_call 49; exact Calls.bw_of (HVC.out _))))
          refine wpQuiet_nil ?_
          intro _ hw'
          obtain ⟨pq, rfl⟩ := hw'
          obtain ⟨wy, HBwy, hpq⟩ : ∃ (x : World) (_ : Hid (Below wx.heap.size wx x)), pq.on = x := ⟨_, pq.h, rfl⟩
          rw [hpq]
          clear hpq pq
          go_wp2_with fail
          go_roundw
          case rel => exact ⟨i + 1, hlt, by go_num, HB.out.trans ((HAwx.out.trans (HBwy.out.mono HAwx.out.size)).mono hz), ascB_step HAS.out hlt (by rw [HEI.out]; exact HV.out) (fun h => absurd h h0)⟩
          case measure => simp [intOf]; omega
    · have hie : i = l.length := by omega
      go_wp2_with fail
      refine bodyPost_ret (v := .bool true) (by simp [results, Try.results39, go_sem]) rfl ?_
      have h := HAS.out
      rw [hie, List.take_length] at h
      exact ⟨by rw [h], HB.out⟩
end Go.Proofs.Ytllnomembakboaa

namespace Go.Proofs.Ytllnomembakboaa
open Go.RowKit

theorem take_upE {α : Type} {a b : List α} {k : Nat} (h : a.take k = b.take k) (h1 : k < a.length) (h2 : k < b.length) (e : a[k] = b[k]) : a.take (k + 1) = b.take (k + 1) := by
  rw [List.take_succ_eq_append_getElem h1, List.take_succ_eq_append_getElem h2, h, e]
set_option maxRecDepth 100000 in
set_option maxHeartbeats 2000000 in
theorem rsameE_any (a b : List (ByteArray × Int)) (va vb : Value) (w : World) (ha : SV ecs 2 w.heap.size w va a) (hb : SV ecs 2 w.heap.size w vb b) (hl : a.length ≤ 1000000) (hl2 : b.length ≤ 1000000) :
    Calls Try.prog 33 #[va, vb] w fun e w' => e = .returned (.bool (decide (a = b))) ∧ Below w.heap.size w w' := by
  obtain ⟨Aa, ca, rfl⟩ := ha.form
  obtain ⟨Ab, cb, rfl⟩ := hb.form
  have HA := Lib.hid ha
  have HB := Lib.hid hb
  clear ha hb
  go_enter Try.func33, Try.ntmps33
  by_cases hlen : a.length = b.length
  · have HL := Lib.hid hlen
    rw [← hlen]
    clear hlen
    go_wp2_with fail
    go_loopw [13] (fun iv wr => ∃ k : Nat, k ≤ a.length ∧ iv = .int .i64 k ∧ a.take k = b.take k ∧ Below w.heap.size w wr) (fun iv _ => a.length - (intOf iv).toNat)
    case atStart => exact ⟨0, Nat.zero_le _, rfl, by simp, Below.refl _ _⟩
    case round =>
      obtain ⟨k, hk, rfl, htk, hbw⟩ := hrel
      have HTK := Lib.hid htk
      have HBW := Lib.hid hbw
      have hzw := hbw.size
      clear htk hbw
      by_cases hkt : k < a.length
      · have hkb : k < b.length := by rw [← HL.out]; exact hkt
        obtain ⟨_, hat1⟩ := HA.out.at
        obtain ⟨_, hat2⟩ := HB.out.at
        obtain ⟨p, o, rfl, hp, d1⟩ := hat1 k hkt
        obtain ⟨q, r, rfl, hq, d2⟩ := hat2 k hkb
        obtain ⟨x, ex⟩ : ∃ x, x = a[k].1 := ⟨_, rfl⟩
        obtain ⟨m, em⟩ : ∃ m, m = a[k].2 := ⟨_, rfl⟩
        obtain ⟨y, ey⟩ : ∃ y, y = b[k].1 := ⟨_, rfl⟩
        obtain ⟨n, en⟩ : ∃ n, n = b[k].2 := ⟨_, rfl⟩
        have k0 : wr.cell? ⟨p, o + k * 2, none⟩ = some (.string x) := by rw [ex]; exact d1 wr HBW.out 0 (by omega)
        have k1 : wr.cell? ⟨p, o + k * 2 + 1, none⟩ = some (.int .i64 m) := by rw [em]; exact d1 wr HBW.out 1 (by omega)
        have k2 : wr.cell? ⟨q, r + k * 2, none⟩ = some (.string y) := by rw [ey]; exact d2 wr HBW.out 0 (by omega)
        have k3 : wr.cell? ⟨q, r + k * 2 + 1, none⟩ = some (.int .i64 n) := by rw [en]; exact d2 wr HBW.out 1 (by omega)
        have HEA : Hid (a[k] = (x, m)) := (show Hid _ from by rw [ex, em]; exact rfl)
        have HEB : Hid (b[k] = (y, n)) := (show Hid _ from by rw [ey, en]; exact rfl)
        have z0 : 0 ≤ (k : Int) := by omega
        have z1 : (k : Int) < (a.length : Int) := by omega
        have wk : IntKind.i64.wrap ((k : Int) + 1) = (k : Int) + 1 := by exact IntWalk.i64_in _ (by omega)
        clear hat1 hat2 d1 d2 ex em ey en
        have HFIN : Hid (∀ W : World, W.heap = wr.heap → W.os = wr.os → W.tape = wr.tape → W.output = wr.output → Below w.heap.size w W) := (show Hid _ from fun W h1 h2 h3 h4 => ⟨h2.trans HBW.out.os, h3.trans HBW.out.tape, h4.trans HBW.out.output, by rw [h1]; exact HBW.out.size, fun k hk => by rw [h1]; exact HBW.out.block k hk⟩)
        by_cases hx : x = y
        · have bx : (x.toList == y.toList) = true := by rw [hx]; exact beq_self_eq_true _
          by_cases hm : m = n
          · subst hm
            subst hx
            clear bx
            go_upto_region 6 with fail
            go_quiet (fail)
            go_wp2_with fail
            go_roundw
            case rel => exact ⟨k + 1, hkt, by go_num, take_upE HTK.out hkt hkb (by rw [HEA.out, HEB.out]), HFIN.out _ rfl rfl rfl rfl⟩
            case measure => simp [intOf]; omega
          · have bm : (m == n) = false := by rw [beq_eq_false_iff_ne]; exact hm
            have HNE := Lib.hid hm
            subst hx
            clear bx
            go_upto_region 6 with fail
            go_quiet (fail)
            go_wp2_with fail
            go_ret
            have e1 : decide (a = b) = false := decide_eq_false (fun e => by subst e; have h1 := HEA.out.symm.trans HEB.out; injection h1 with h2 h3; exact HNE.out h3)
            exact ⟨by rw [e1]; rfl, HFIN.out _ rfl rfl rfl rfl⟩
        · have bx : (x.toList == y.toList) = false := by rw [beq_eq_false_iff_ne]; exact fun e => hx (tl_inj e)
          have HNE := Lib.hid hx
          go_upto_region 6 with fail
          go_quiet (fail)
          go_wp2_with fail
          go_ret
          have e1 : decide (a = b) = false := decide_eq_false (fun e => by subst e; have h1 := HEA.out.symm.trans HEB.out; injection h1 with h2 h3; exact HNE.out h2)
          exact ⟨by rw [e1]; rfl, HFIN.out _ rfl rfl rfl rfl⟩
      · have hke : k = a.length := by omega
        go_wp2_with fail
        go_ret
        have e1 : decide (a = b) = true := decide_eq_true (by have h := HTK.out; rw [hke, List.take_length, HL.out, List.take_length] at h; exact h)
        exact ⟨by rw [e1]; rfl, HBW.out⟩
  · have HL := Lib.hid hlen
    have h1 : ¬ ((a.length : Int) = (b.length : Int)) := by omega
    go_wp2_with fail
    go_ret
    have e1 : decide (a = b) = false := decide_eq_false (fun e => HL.out (by rw [e]))
    exact ⟨by rw [e1]; rfl, Below.refl _ _⟩
/-- two directories are the same -/
def DirE (A : Int × List (Int × Int) × Int × List (List (ByteArray × Int))) (B : Int × List (Int × Int) × Int × List (List (ByteArray × Int))) : Bool := decide (A = B)
theorem dirE_no {Ba Bb sa sb : Int} {pa pb : List (Int × Int)} {ba bb : List (List (ByteArray × Int))} (h : ¬ (Ba = Bb ∧ pa = pb ∧ sa = sb ∧ ba = bb)) : DirE (Ba, pa, sa, ba) (Bb, pb, sb, bb) = false := by
  unfold DirE
  rw [decide_eq_false_iff_not]
  intro e
  injection e with e1 e2
  injection e2 with e2 e3
  injection e3 with e3 e4
  exact h ⟨e1, e2, e3, e4⟩
theorem dirE_yes {Ba Bb sa sb : Int} {pa pb : List (Int × Int)} {ba bb : List (List (ByteArray × Int))} (h1 : Ba = Bb) (h2 : pa = pb) (h3 : sa = sb) (h4 : ba = bb) : DirE (Ba, pa, sa, ba) (Bb, pb, sb, bb) = true := by
  subst h1 h2 h3 h4
  simp [DirE]
set_option maxRecDepth 100000 in
set_option maxHeartbeats 4000000 in
theorem rsameD_any (Ba Bb sa sb : Int) (pa pb : List (Int × Int)) (ba bb : List (List (ByteArray × Int))) (pva pvb eva evb : Value) (w : World)
    (hpa : SV hcs 2 w.heap.size w pva pa) (hpb : SV hcs 2 w.heap.size w pvb pb) (hea : SLe w.heap.size w eva ba) (heb : SLe w.heap.size w evb bb)
    (lp : pa.length ≤ 1000000) (lb : ba.length ≤ 1000000) (lr : ∀ l ∈ ba, l.length ≤ 1000000) (lr2 : ∀ l ∈ bb, l.length ≤ 1000000) :
    Calls Try.prog 28 #[.agg #[.int .i64 Ba, pva, .int .i64 sa, eva], .agg #[.int .i64 Bb, pvb, .int .i64 sb, evb]] w fun e w' => e = .returned (.bool (DirE (Ba, pa, sa, ba) (Bb, pb, sb, bb))) ∧ Below w.heap.size w w' := by
  obtain ⟨Apa, cpa, rfl⟩ := hpa.form
  obtain ⟨Apb, cpb, rfl⟩ := hpb.form
  obtain ⟨Aea, cea, rfl⟩ : ∃ A c, eva = .slice A ba.length c := by obtain ⟨vs, h1, h2, _⟩ := hea; obtain ⟨A, c, e⟩ := h2.form; exact ⟨A, c, by rw [e, h1]⟩
  obtain ⟨Aeb, ceb, rfl⟩ : ∃ A c, evb = .slice A bb.length c := by obtain ⟨vs, h1, h2, _⟩ := heb; obtain ⟨A, c, e⟩ := h2.form; exact ⟨A, c, by rw [e, h1]⟩
  have HPA := Lib.hid hpa
  have HPB := Lib.hid hpb
  have HEA := Lib.hid hea
  have HEB := Lib.hid heb
  have HLR := Lib.hid lr
  have HLR2 := Lib.hid lr2
  clear hpa hpb hea heb lr lr2
  go_enter Try.func28, Try.ntmps28
  obtain ⟨F, eF⟩ : ∃ F, F = w.heap.size := ⟨_, rfl⟩
  obtain ⟨w1, ew1⟩ : ∃ w1 : World, w1 = (w.alloc (.cells #[.int .i64 Ba, .slice Apa pa.length cpa, .int .i64 sa, .slice Aea ba.length cea] 28)).alloc (.cells #[.int .i64 Bb, .slice Apb pb.length cpb, .int .i64 sb, .slice Aeb bb.length ceb] 28) := ⟨_, rfl⟩
  have HWw1 : Hid ((w.alloc (.cells #[.int .i64 Ba, .slice Apa pa.length cpa, .int .i64 sa, .slice Aea ba.length cea] 28)).alloc (.cells #[.int .i64 Bb, .slice Apb pb.length cpb, .int .i64 sb, .slice Aeb bb.length ceb] 28) = w1) := ew1.symm
  have HAw1 : Hid (Below w.heap.size w w1) := (show Hid _ from by rw [ew1]; exact ((Below.refl _ w).alloc (Nat.le_refl _) _).alloc (by simp) _)
  have HF0w1 : Hid (w1.heap[F]? = some (.cells #[.int .i64 Ba, .slice Apa pa.length cpa, .int .i64 sa, .slice Aea ba.length cea] 28 (0, 0))) := (show Hid _ from by show _ = _; rw [ew1, eF, Below.heap_alloc _ _ _ (by simp)]; exact heap_alloc_new w _)
  have HF1w1 : Hid (w1.heap[F + 1]? = some (.cells #[.int .i64 Bb, .slice Apb pb.length cpb, .int .i64 sb, .slice Aeb bb.length ceb] 28 (0, 0))) := (show Hid _ from by show _ = _; rw [ew1, eF]; have := heap_alloc_new (w.alloc (.cells #[.int .i64 Ba, .slice Apa pa.length cpa, .int .i64 sa, .slice Aea ba.length cea] 28)) (.cells #[.int .i64 Bb, .slice Apb pb.length cpb, .int .i64 sb, .slice Aeb bb.length ceb] 28); simpa using this)
  have HX : Hid (∀ W, Below w1.heap.size w1 W → W.cell? ⟨F, 0, none⟩ = some (.int .i64 Ba) ∧ W.cell? ⟨F, 1, none⟩ = some (.slice Apa pa.length cpa) ∧ W.cell? ⟨F, 2, none⟩ = some (.int .i64 sa) ∧ W.cell? ⟨F, 3, none⟩ = some (.slice Aea ba.length cea) ∧ W.cell? ⟨F + 1, 0, none⟩ = some (.int .i64 Bb) ∧ W.cell? ⟨F + 1, 1, none⟩ = some (.slice Apb pb.length cpb) ∧ W.cell? ⟨F + 1, 2, none⟩ = some (.int .i64 sb) ∧ W.cell? ⟨F + 1, 3, none⟩ = some (.slice Aeb bb.length ceb)) := (show Hid _ from fun W hg => by
    have hF0 := (hg.block F (heap_of_cells HF0w1.out)).trans HF0w1.out
    have hF1 := (hg.block (F + 1) (heap_of_cells HF1w1.out)).trans HF1w1.out
    exact ⟨cell_of_row W F 0 _ _ _ hF0, cell_of_row W F 1 _ _ _ hF0, cell_of_row W F 2 _ _ _ hF0, cell_of_row W F 3 _ _ _ hF0, cell_of_row W (F + 1) 0 _ _ _ hF1, cell_of_row W (F + 1) 1 _ _ _ hF1, cell_of_row W (F + 1) 2 _ _ _ hF1, cell_of_row W (F + 1) 3 _ _ _ hF1⟩)
  go_upto_region 1 with fail
  rw [HWw1.out, ← eF]
  clear ew1 eF
  obtain ⟨x0, x1, x2, x3, y0, y1, y2, y3⟩ := HX.out w1 (Below.refl _ _)
  by_cases h1 : Ba = Bb
  case neg =>
    have HN := Lib.hid h1
    go_wp2_with fail
    all_goals go_ret
    all_goals exact ⟨by rw [dirE_no fun h => HN.out h.1]; exact rfl, HAw1.out⟩
  subst h1
  by_cases h2 : pa.length = pb.length
  case neg =>
    have HN := Lib.hid h2
    have h2i : ¬ ((pa.length : Int) = (pb.length : Int)) := by omega
    go_wp2_with fail
    all_goals go_ret
    all_goals exact ⟨by rw [dirE_no fun h => HN.out (by rw [h.2.1])]; exact rfl, HAw1.out⟩
  have HL := Lib.hid h2
  rw [← h2] at y1
  by_cases h3 : sa = sb
  case neg =>
    have HN := Lib.hid h3
    clear h2
    go_wp2_with fail
    all_goals go_ret
    all_goals exact ⟨by rw [dirE_no fun h => HN.out h.2.2.1]; exact rfl, HAw1.out⟩
  subst h3
  by_cases h4 : ba.length = bb.length
  case neg =>
    have HN := Lib.hid h4
    have h4i : ¬ ((ba.length : Int) = (bb.length : Int)) := by omega
    clear h2
    go_wp2_with fail
    all_goals go_ret
    all_goals exact ⟨by rw [dirE_no fun h => HN.out (by rw [h.2.2.2])]; exact rfl, HAw1.out⟩
  have HL4 := Lib.hid h4
  rw [← h4] at y3
  have HXB : Hid (∀ W, Below w1.heap.size w1 W → W.cell? ⟨F, 1, none⟩ = some (.slice Apa pa.length cpa) ∧ W.cell? ⟨F, 3, none⟩ = some (.slice Aea ba.length cea) ∧ W.cell? ⟨F + 1, 1, none⟩ = some (.slice Apb pa.length cpb) ∧ W.cell? ⟨F + 1, 3, none⟩ = some (.slice Aeb ba.length ceb)) := (show Hid _ from fun W hW => by
    obtain ⟨a0, a1, a2, a3, b0, b1, b2, b3⟩ := HX.out W hW
    rw [HL.out, HL4.out]
    rw [HL.out] at a1
    rw [HL4.out] at a3
    exact ⟨a1, a3, b1, b3⟩)
  clear h2 h4
  go_wp2_with fail
  clear x0 x1 x2 x3 y0 y1 y2 y3
  go_loopw [45] (fun iv wr => ∃ k : Nat, k ≤ pa.length ∧ iv = .int .i64 k ∧ pa.take k = pb.take k ∧ Below w1.heap.size w1 wr) (fun iv _ => pa.length - (intOf iv).toNat)
  case atStart => exact ⟨0, Nat.zero_le _, rfl, by simp, Below.refl _ _⟩
  case round =>
    obtain ⟨k, hk, rfl, htk, hbw⟩ := hrel
    have HTK := Lib.hid htk
    have HBW := Lib.hid hbw
    have hzw := hbw.size
    have HBF : Hid (Below w.heap.size w wr) := (show Hid _ from HAw1.out.trans (hbw.mono HAw1.out.size))
    clear htk hbw
    obtain ⟨x1, x3, y1, y3⟩ := HXB.out wr HBW.out
    by_cases hkt : k < pa.length
    · have hkb : k < pb.length := by rw [← HL.out]; exact hkt
      obtain ⟨_, hat1⟩ := HPA.out.at
      obtain ⟨_, hat2⟩ := HPB.out.at
      obtain ⟨p, o, rfl, hp, d1⟩ := hat1 k hkt
      obtain ⟨q, r, rfl, hq, d2⟩ := hat2 k hkb
      obtain ⟨x, ex⟩ : ∃ x, x = pa[k].1 := ⟨_, rfl⟩
      obtain ⟨m, em⟩ : ∃ m, m = pa[k].2 := ⟨_, rfl⟩
      obtain ⟨y, ey⟩ : ∃ y, y = pb[k].1 := ⟨_, rfl⟩
      obtain ⟨n, en⟩ : ∃ n, n = pb[k].2 := ⟨_, rfl⟩
      have k0 : wr.cell? ⟨p, o + k * 2, none⟩ = some (.int .i64 x) := by rw [ex]; exact d1 wr HBF.out 0 (by omega)
      have k1 : wr.cell? ⟨p, o + k * 2 + 1, none⟩ = some (.int .i64 m) := by rw [em]; exact d1 wr HBF.out 1 (by omega)
      have k2 : wr.cell? ⟨q, r + k * 2, none⟩ = some (.int .i64 y) := by rw [ey]; exact d2 wr HBF.out 0 (by omega)
      have k3 : wr.cell? ⟨q, r + k * 2 + 1, none⟩ = some (.int .i64 n) := by rw [en]; exact d2 wr HBF.out 1 (by omega)
      have HEQ : Hid (pa[k] = (x, m) ∧ pb[k] = (y, n)) := (show Hid _ from by rw [ex, em, ey, en]; exact ⟨rfl, rfl⟩)
      have z0 : 0 ≤ (k : Int) := by omega
      have z1 : (k : Int) < (pa.length : Int) := by omega
      have wk : IntKind.i64.wrap ((k : Int) + 1) = (k : Int) + 1 := by exact IntWalk.i64_in _ (by omega)
      have HFIN : Hid (∀ W : World, W.heap = wr.heap → W.os = wr.os → W.tape = wr.tape → W.output = wr.output → Below w1.heap.size w1 W) := (show Hid _ from fun W h1 h2 h3 h4 => ⟨h2.trans HBW.out.os, h3.trans HBW.out.tape, h4.trans HBW.out.output, by rw [h1]; exact HBW.out.size, fun k hk => by rw [h1]; exact HBW.out.block k hk⟩)
      have HFINW : Hid (∀ W : World, W.heap = wr.heap → W.os = wr.os → W.tape = wr.tape → W.output = wr.output → Below w.heap.size w W) := (show Hid _ from fun W h1 h2 h3 h4 => HAw1.out.trans ((HFIN.out W h1 h2 h3 h4).mono HAw1.out.size))
      clear hat1 hat2 d1 d2 ex em ey en
      by_cases hx : x = y
      · by_cases hm : m = n
        · subst hm
          subst hx
          go_upto_region 6 with fail
          go_quiet (fail)
          go_wp2_with fail
          go_roundw
          case rel => exact ⟨k + 1, hkt, by go_num, take_upE HTK.out hkt hkb (by rw [HEQ.out.1, HEQ.out.2]), HFIN.out _ rfl rfl rfl rfl⟩
          case measure => simp [intOf]; omega
        · have bm : (m == n) = false := by rw [beq_eq_false_iff_ne]; exact hm
          have HNE := Lib.hid hm
          subst hx
          go_upto_region 6 with fail
          go_quiet (fail)
          go_wp2_with fail
          go_ret
          have e1 : DirE (Ba, pa, sa, ba) (Ba, pb, sa, bb) = false := dirE_no fun e => by have e2 := e.2.1; subst e2; have h1 := HEQ.out.1.symm.trans HEQ.out.2; injection h1 with h2 h3; exact HNE.out h3
          exact ⟨by rw [e1]; rfl, HFINW.out _ rfl rfl rfl rfl⟩
      · have bx : (x == y) = false := by rw [beq_eq_false_iff_ne]; exact hx
        have HNE := Lib.hid hx
        go_upto_region 6 with fail
        go_quiet (fail)
        go_wp2_with fail
        go_ret
        have e1 : DirE (Ba, pa, sa, ba) (Ba, pb, sa, bb) = false := dirE_no fun e => by have e2 := e.2.1; subst e2; have h1 := HEQ.out.1.symm.trans HEQ.out.2; injection h1 with h2 h3; exact HNE.out h2
        exact ⟨by rw [e1]; rfl, HFINW.out _ rfl rfl rfl rfl⟩
    · have hke : k = pa.length := by omega
      have HPE : Hid (pa = pb) := (show Hid _ from by have h := HTK.out; rw [hke, List.take_length, HL.out, List.take_length] at h; exact h)
      obtain ⟨wm, rfl⟩ : ∃ wm : World, wm = wr := ⟨_, rfl⟩
      clear hke
      go_wp2_with fail
      clear x1 x3 y1 y3
      go_loopw [65] (fun iv wr => ∃ k : Nat, k ≤ ba.length ∧ iv = .int .i64 k ∧ ba.take k = bb.take k ∧ Below w1.heap.size w1 wr) (fun iv _ => ba.length - (intOf iv).toNat)
      case atStart => exact ⟨0, Nat.zero_le _, rfl, by simp, HBW.out⟩
      case round =>
        obtain ⟨i, hi, rfl, hti, hbi⟩ := hrel
        have HTI := Lib.hid hti
        have HBI := Lib.hid hbi
        have hzi := hbi.size
        have HBFi : Hid (Below w.heap.size w wr) := (show Hid _ from HAw1.out.trans (hbi.mono HAw1.out.size))
        clear hti hbi
        obtain ⟨x1, x3, y1, y3⟩ := HXB.out wr HBI.out
        by_cases hit : i < ba.length
        · have hib : i < bb.length := by rw [← HL4.out]; exact hit
          obtain ⟨vsa, hva, hsa, hra⟩ := HEA.out
          obtain ⟨vsb, hvb, hsb, hrb⟩ := HEB.out
          obtain ⟨_, hat1⟩ := hsa.at
          obtain ⟨_, hat2⟩ := hsb.at
          obtain ⟨p, o, rfl, hp, d1⟩ := hat1 i (by omega)
          obtain ⟨q, r, rfl, hq, d2⟩ := hat2 i (by omega)
          have hr1 := hra i (by omega) hit
          have hr2 := hrb i (by omega) hib
          obtain ⟨Ar, cr, er⟩ := hr1.form
          obtain ⟨As, cs, es⟩ := hr2.form
          rw [er] at hr1
          rw [es] at hr2
          obtain ⟨ra, era⟩ : ∃ r, r = ba[i] := ⟨_, rfl⟩
          obtain ⟨rb, erb⟩ : ∃ r, r = bb[i] := ⟨_, rfl⟩
          rw [← era] at hr1 er
          rw [← erb] at hr2 es
          have q0 : ∀ p' : BW wr, p'.on.cell? ⟨p, o + i, none⟩ = some (.slice Ar ra.length cr) := fun p' => by rw [← er]; simpa [one] using d1 p'.on (HBFi.out.trans (p'.ok.mono HBFi.out.size)) 0 (by omega)
          have q1 : ∀ p' : BW wr, p'.on.cell? ⟨q, r + i, none⟩ = some (.slice As rb.length cs) := fun p' => by rw [← es]; simpa [one] using d2 p'.on (HBFi.out.trans (p'.ok.mono HBFi.out.size)) 0 (by omega)
          have q2 : ∀ p' : BW wr, p'.on.cell? ⟨F, 3, none⟩ = some (.slice (some ⟨p, o, none⟩) ba.length cea) := fun p' => (HXB.out p'.on (HBI.out.trans (p'.ok.mono HBI.out.size))).2.1
          have q3 : ∀ p' : BW wr, p'.on.cell? ⟨F + 1, 3, none⟩ = some (.slice (some ⟨q, r, none⟩) ba.length ceb) := fun p' => (HXB.out p'.on (HBI.out.trans (p'.ok.mono HBI.out.size))).2.2.2
          have HC : Hid (∀ p' : BW wr, Calls Try.prog 33 #[.slice Ar ra.length cr, .slice As rb.length cs] p'.on fun e w' => e = .returned (.bool (decide (ra = rb))) ∧ Below p'.on.heap.size p'.on w') := (show Hid _ from fun p' => by
            have hb : Below w.heap.size w p'.on := HBFi.out.trans (p'.ok.mono HBFi.out.size)
            exact rsameE_any ra rb _ _ p'.on (hr1.on hb) (hr2.on hb) (by rw [era]; exact HLR.out _ (List.getElem_mem hit)) (by rw [erb]; exact HLR2.out _ (List.getElem_mem hib)))
          have HEQ : Hid (ba[i] = ra ∧ bb[i] = rb) := (show Hid _ from ⟨era.symm, erb.symm⟩)
          have z0 : 0 ≤ (i : Int) := by omega
          have z1 : (i : Int) < (ba.length : Int) := by omega
          have wi : IntKind.i64.wrap ((i : Int) + 1) = (i : Int) + 1 := by exact IntWalk.i64_in _ (by omega)
          clear hra hrb hat1 hat2 d1 d2 er es era erb hr1 hr2 hsa hsb hva hvb x1 x3 y1 y3
          by_cases hab : ra = rb
          · have HAB := Lib.hid hab
            rw [decide_eq_true hab] at HC
            clear hab
            go_upto_region 12 with fail
            refine wp_region_bw (by kernel_rfl) (by kernel_rfl) ?_
            repeat (go_big_quiet_step (first | (go_at_call 33; exact Calls.bw_of (HC.out _))))
            refine wpQuiet_nil ?_
            intro _ hw'
            obtain ⟨pq, rfl⟩ := hw'
            obtain ⟨wy, HBwy, hpq⟩ : ∃ (x : World) (_ : Hid (Below wr.heap.size wr x)), pq.on = x := ⟨_, pq.h, rfl⟩
            rw [hpq]
            clear hpq pq
            have HBy : Hid (Below w1.heap.size w1 wy) := (show Hid _ from HBI.out.trans (HBwy.out.mono HBI.out.size))
            go_wp2_with fail
            go_roundw
            case rel => exact ⟨i + 1, hit, by go_num, take_upE HTI.out hit hib (by rw [HEQ.out.1, HEQ.out.2]; exact HAB.out), HBy.out⟩
            case measure => simp [intOf]; omega
          · have HAB := Lib.hid hab
            rw [decide_eq_false hab] at HC
            clear hab
            go_upto_region 12 with fail
            refine wp_region_bw (by kernel_rfl) (by kernel_rfl) ?_
            repeat (go_big_quiet_step (first | (go_at_call 33; exact Calls.bw_of (HC.out _))))
            refine wpQuiet_nil ?_
            intro _ hw'
            obtain ⟨pq, rfl⟩ := hw'
            obtain ⟨wy, HBwy, hpq⟩ : ∃ (x : World) (_ : Hid (Below wr.heap.size wr x)), pq.on = x := ⟨_, pq.h, rfl⟩
            rw [hpq]
            clear hpq pq
            have HBy : Hid (Below w.heap.size w wy) := (show Hid _ from HBFi.out.trans (HBwy.out.mono HBFi.out.size))
            go_wp2_with fail
            go_ret
            have e1 : DirE (Ba, pa, sa, ba) (Ba, pb, sa, bb) = false := dirE_no fun e => by have e2 := e.2.2.2; subst e2; exact HAB.out (HEQ.out.1.symm.trans HEQ.out.2)
            exact ⟨by rw [e1]; rfl, HBy.out⟩
        · have hie : i = ba.length := by omega
          go_wp2_with fail
          go_ret
          have e1 : DirE (Ba, pa, sa, ba) (Ba, pb, sa, bb) = true := dirE_yes rfl HPE.out rfl (by have h := HTI.out; rw [hie, List.take_length, HL4.out, List.take_length] at h; exact h)
          exact ⟨by rw [e1]; rfl, HBFi.out⟩
end Go.Proofs.Ytllnomembakboaa

namespace Go.Proofs.Ytllnomembakboaa
open Go.RowKit

/-- a byte of a number -/
def byt (v : Int) : UInt8 := UInt8.ofNat (v % 256).toNat
theorem byt_nat (v : Int) : ((byt v).toNat : Int) = v % 256 := by
  have h0 : 0 ≤ v % 256 := Int.emod_nonneg _ (by omega)
  have h1 : v % 256 < 256 := Int.emod_lt_of_pos _ (by omega)
  unfold byt
  rw [UInt8.toNat_ofNat']
  omega
/-- the bytes of an entry -/
def encE (e : ByteArray × Int) : List UInt8 := (byt (e.1.size : Int) :: e.1.data.toList) ++ List.replicate (32 - e.1.size) 0 ++ [byt e.2, byt (e.2 / 256), byt (e.2 / 65536), byt (e.2 / 16777216)]
/-- the bytes of a bucket -/
def encB (slots : Nat) (l : List (ByteArray × Int)) : List UInt8 := l.flatMap encE ++ List.replicate ((slots - l.length) * 37) 0
theorem tl_len (s : ByteArray) : s.data.toList.length = s.size := by rw [Array.length_toList]; rfl
theorem encE_len {e : ByteArray × Int} (h : ven e = true) : (encE e).length = 37 := by
  have hk := ky_bd (s := e.1) (by simp [ven] at h; exact h.1.1)
  unfold encE
  simp
  omega
theorem encL_len {l : List (ByteArray × Int)} (h : ∀ e ∈ l, ven e = true) : (l.flatMap encE).length = l.length * 37 := by
  induction l with
  | nil => rfl
  | cons e l ih =>
    rw [List.flatMap_cons, List.length_append, encE_len (h e (by simp)), ih (fun x hx => h x (by simp [hx])), List.length_cons]
    omega
theorem encB_len {slots : Nat} {l : List (ByteArray × Int)} (h : ∀ e ∈ l, ven e = true) (hl : l.length ≤ slots) : (encB slots l).length = slots * 37 := by
  unfold encB
  rw [List.length_append, encL_len h, List.length_replicate, ← Nat.add_mul]
  congr 1
  omega
/-- byte 37 * i + k of a bucket -/
theorem encB_at {slots : Nat} {l : List (ByteArray × Int)} (h : ∀ e ∈ l, ven e = true) (i k : Nat) (hi : i < l.length) (hk : k < 37) : (encB slots l).getD (37 * i + k) 0 = (encE l[i]).getD k 0 := by
  have e1 : l.flatMap encE = (l.take i).flatMap encE ++ (encE l[i] ++ (l.drop (i + 1)).flatMap encE) := by
    have e2 : l = l.take i ++ l[i] :: l.drop (i + 1) := by simp
    have e3 := congrArg (List.flatMap encE) e2
    rw [List.flatMap_append, List.flatMap_cons] at e3
    exact e3
  have h1 : ((l.take i).flatMap encE).length = i * 37 := by
    rw [encL_len (fun e he => h e (List.mem_of_mem_take he)), List.length_take, Nat.min_eq_left (by omega)]
  have h2 := encE_len (h _ (List.getElem_mem hi))
  unfold encB
  rw [e1, List.append_assoc, List.getD_eq_getElem?_getD, List.getElem?_append_right (by omega), h1, List.append_assoc, List.getElem?_append_left (by omega), ← List.getD_eq_getElem?_getD]
  congr 1
  omega
theorem encB_zero {slots : Nat} {l : List (ByteArray × Int)} (h : ∀ e ∈ l, ven e = true) (j : Nat) (hj : l.length * 37 ≤ j) : (encB slots l).getD j 0 = 0 := by
  unfold encB
  rw [List.getD_eq_getElem?_getD, List.getElem?_append_right (by rw [encL_len h]; exact hj), List.getElem?_replicate]
  split <;> rfl
/-- what bytes say of slot i -/
def nAt (b : List UInt8) (i : Nat) : Nat := (b.getD (37 * i) 0).toNat
def kAt (b : List UInt8) (i : Nat) : ByteArray := ⟨((b.drop (37 * i + 1)).take (nAt b i)).toArray⟩
def bAt (b : List UInt8) (j : Nat) : Int := ((b.getD j 0).toNat : Int)
def vAt (b : List UInt8) (i : Nat) : Int := bAt b (37 * i + 33) + 256 * bAt b (37 * i + 34) + 65536 * bAt b (37 * i + 35) + 16777216 * bAt b (37 * i + 36)
def eAt (b : List UInt8) (i : Nat) : ByteArray × Int := (kAt b i, vAt b i)
theorem nAt_enc {slots : Nat} {l : List (ByteArray × Int)} (h : ∀ e ∈ l, ven e = true) {i : Nat} (hi : i < l.length) : nAt (encB slots l) i = l[i].1.size := by
  have hv := h _ (List.getElem_mem hi)
  have hk := ky_bd (s := l[i].1) (by simp [ven] at hv; exact hv.1.1)
  have h1 := encB_at (slots := slots) h i 0 hi (by omega)
  have h2 := byt_nat (l[i].1.size : Int)
  unfold nAt
  rw [Nat.add_zero] at h1
  rw [h1]
  show (byt (l[i].1.size : Int)).toNat = _
  omega
theorem nAt_end {slots : Nat} {l : List (ByteArray × Int)} (h : ∀ e ∈ l, ven e = true) {i : Nat} (hi : l.length ≤ i) : nAt (encB slots l) i = 0 := by
  unfold nAt
  rw [encB_zero h _ (by omega)]
  rfl
theorem encE_hi {e : ByteArray × Int} (h : ven e = true) (k : Nat) (hk : k < 4) : (encE e).getD (33 + k) 0 = [byt e.2, byt (e.2 / 256), byt (e.2 / 65536), byt (e.2 / 16777216)].getD k 0 := by
  have hb := ky_bd (s := e.1) (by simp [ven] at h; exact h.1.1)
  unfold encE
  rw [List.getD_eq_getElem?_getD, List.getElem?_append_right (by simp; omega), List.getD_eq_getElem?_getD]
  congr 2
  simp
  omega
theorem vAt_enc {slots : Nat} {l : List (ByteArray × Int)} (h : ∀ e ∈ l, ven e = true) {i : Nat} (hi : i < l.length) : vAt (encB slots l) i = l[i].2 := by
  have hv := h _ (List.getElem_mem hi)
  have hb : 0 ≤ l[i].2 ∧ l[i].2 < 2147483647 := by simp [ven] at hv; omega
  have k0 := encE_hi hv 0 (by omega)
  have k1 := encE_hi hv 1 (by omega)
  have k2 := encE_hi hv 2 (by omega)
  have k3 := encE_hi hv 3 (by omega)
  unfold vAt bAt
  rw [encB_at h i 33 hi (by omega), encB_at h i 34 hi (by omega), encB_at h i 35 hi (by omega), encB_at h i 36 hi (by omega), k0, k1, k2, k3]
  show ((byt l[i].2).toNat : Int) + 256 * ((byt (l[i].2 / 256)).toNat : Int) + 65536 * ((byt (l[i].2 / 65536)).toNat : Int) + 16777216 * ((byt (l[i].2 / 16777216)).toNat : Int) = _
  rw [byt_nat, byt_nat, byt_nat, byt_nat]
  omega
theorem kAt_enc {slots : Nat} {l : List (ByteArray × Int)} (h : ∀ e ∈ l, ven e = true) {i : Nat} (hi : i < l.length) : kAt (encB slots l) i = l[i].1 := by
  have hv := h _ (List.getElem_mem hi)
  have hb := ky_bd (s := l[i].1) (by simp [ven] at hv; exact hv.1.1)
  have hn := nAt_enc (slots := slots) h hi
  unfold kAt
  rw [hn]
  have e2 : ((encB slots l).drop (37 * i + 1)).take l[i].1.size = l[i].1.data.toList := by
    apply List.ext_getElem?
    intro j
    rw [List.getElem?_take]
    by_cases hj : j < l[i].1.size
    · rw [if_pos hj, List.getElem?_drop]
      have hlt : 37 * i + 1 + j < (encB slots l).length := by
        unfold encB
        rw [List.length_append, encL_len h]
        omega
      have h1 := encB_at (slots := slots) h i (1 + j) hi (by omega)
      rw [← Nat.add_assoc] at h1
      rw [List.getD_eq_getElem?_getD, List.getElem?_eq_getElem hlt] at h1
      have h3 : (encE l[i]).getD (1 + j) 0 = l[i].1.data.toList[j]'(by rw [tl_len]; exact hj) := by
        unfold encE
        rw [List.append_assoc, List.getD_eq_getElem?_getD, List.getElem?_append_left (by simp; omega), Nat.add_comm 1 j, List.getElem?_cons_succ, List.getElem?_eq_getElem (by rw [tl_len]; exact hj)]
        rfl
      rw [h3] at h1
      rw [List.getElem?_eq_getElem hlt, List.getElem?_eq_getElem (by rw [tl_len]; exact hj)]
      exact congrArg some h1
    · rw [if_neg hj, List.getElem?_eq_none (by rw [tl_len]; omega)]
  rw [e2]
theorem eAt_enc {slots : Nat} {l : List (ByteArray × Int)} (h : ∀ e ∈ l, ven e = true) {i : Nat} (hi : i < l.length) : eAt (encB slots l) i = l[i] := by
  unfold eAt
  rw [kAt_enc h hi, vAt_enc h hi]
/-- what the program reads: slots up to the first that is empty -/
def scanP (b : List UInt8) (i : Nat) : List (ByteArray × Int) := (List.range i).map (eAt b)
theorem scanP_succ (b : List UInt8) (i : Nat) : scanP b (i + 1) = scanP b i ++ [eAt b i] := by unfold scanP; rw [List.range_succ, List.map_append]; rfl
theorem scanP_len (b : List UInt8) (i : Nat) : (scanP b i).length = i := by simp [scanP]
theorem scanP_enc {slots i : Nat} {l : List (ByteArray × Int)} (h : ∀ e ∈ l, ven e = true) (hl : l.length ≤ slots) (hi : i ≤ slots) (hp : ∀ j, j < i → 1 ≤ nAt (encB slots l) j) (he : i = slots ∨ nAt (encB slots l) i = 0) : scanP (encB slots l) i = l := by
  have e : i = l.length := by
    rcases Nat.lt_trichotomy i l.length with h1 | h1 | h1
    · rcases he with h2 | h2
      · omega
      · rw [nAt_enc h h1] at h2
        have hv := h _ (List.getElem_mem h1)
        have hb := ky_bd (s := l[i].1) (by simp [ven] at hv; exact hv.1.1)
        omega
    · exact h1
    · have := hp l.length h1
      rw [nAt_end h (Nat.le_refl _)] at this
      omega
  subst e
  apply List.ext_getElem
  · rw [scanP_len]
  · intro j h1 h2
    have e3 : (scanP (encB slots l) l.length)[j] = eAt (encB slots l) j := by simp [scanP]
    rw [e3]
    exact eAt_enc h h2
/-- what the reference reads: all slots that say something -/
def scanR (b : List UInt8) (i : Nat) : List (ByteArray × Int) := ((List.range i).filter fun j => decide (1 ≤ nAt b j ∧ nAt b j ≤ 32)).map (eAt b)
theorem scanR_yes {b : List UInt8} {i : Nat} (h : 1 ≤ nAt b i ∧ nAt b i ≤ 32) : scanR b (i + 1) = scanR b i ++ [eAt b i] := by
  unfold scanR
  rw [List.range_succ, List.filter_append, List.map_append]
  simp [h]
theorem scanR_no {b : List UInt8} {i : Nat} (h : ¬ (1 ≤ nAt b i ∧ nAt b i ≤ 32)) : scanR b (i + 1) = scanR b i := by
  unfold scanR
  rw [List.range_succ, List.filter_append, List.map_append, List.filter_cons_of_neg (by simpa using h)]
  simp
theorem scanR_len (b : List UInt8) (i : Nat) : (scanR b i).length ≤ i := by
  unfold scanR
  rw [List.length_map]
  exact Nat.le_trans (List.length_filter_le _ _) (by simp)
theorem scanR_enc {slots : Nat} {l : List (ByteArray × Int)} (h : ∀ e ∈ l, ven e = true) (hl : l.length ≤ slots) : scanR (encB slots l) slots = l := by
  have key : ∀ i, scanR (encB slots l) i = l.take i := by
    intro i
    induction i with
    | zero => simp [scanR]
    | succ i ih =>
      rcases Nat.lt_or_ge i l.length with h1 | h1
      · have hv := h _ (List.getElem_mem h1)
        have hb := ky_bd (s := l[i].1) (by simp [ven] at hv; exact hv.1.1)
        rw [scanR_yes (by rw [nAt_enc h h1]; exact hb), ih, eAt_enc h h1, List.take_succ_eq_append_getElem h1]
      · rw [scanR_no (by rw [nAt_end h h1]; omega), ih, List.take_of_length_le h1, List.take_of_length_le (by omega)]
  rw [key, List.take_of_length_le hl]
/-- different buckets have different bytes -/
theorem encB_inj {slots : Nat} {l m : List (ByteArray × Int)} (h : ∀ e ∈ l, ven e = true) (k : ∀ e ∈ m, ven e = true) (hl : l.length ≤ slots) (hm : m.length ≤ slots) (e : encB slots l = encB slots m) : l = m := by
  rw [← scanR_enc h hl, e, scanR_enc k hm]
theorem encB_nil (slots : Nat) : encB slots [] = List.replicate (slots * 37) 0 := by simp [encB]
/-- the bytes s are those of a bucket -/
def IsB (slots : Nat) (s : List UInt8) (l : List (ByteArray × Int)) : Prop := ascB l = true ∧ l.length ≤ slots ∧ encB slots l = s
theorem IsB.uniq {slots : Nat} {s : List UInt8} {l m : List (ByteArray × Int)} (h : IsB slots s l) (k : IsB slots s m) : l = m := encB_inj (ascB_iff.1 h.1).1 (ascB_iff.1 k.1).1 h.2.1 k.2.1 (h.2.2.trans k.2.2.symm)
theorem ba_size (l : List UInt8) : (ByteArray.mk l.toArray).size = l.length := by show l.toArray.size = _; simp
end Go.Proofs.Ytllnomembakboaa
