/- Joined: Hi. -/
import Derived.Test.YtbgabipngdillaaGreatDoorZ16
import Derived.Test.YtbgabipngdillaaGreatDoorZ17
import Derived.Test.YtbgabipngdillaaGreatDoorZ18
namespace Go.Proofs.YtbgabipngdillaaGreatDoor
open Go.RowKit

theorem i64_3 : i64r 3 := by unfold i64r; omega
theorem i64_2 : i64r 2 := by unfold i64r; omega
/-- make([]int, n) as one step -/
theorem mk_ints (n : Nat) (hn : n ≤ 1000000) (W : World) : (Instr.makeSlice 22 (.int .i64 (n : Int)) (.int .i64 (n : Int))).run Tryz.prog W = .ok (.slice (some ⟨W.heap.size, 0, none⟩) n n) (W.alloc (.cells ((zeros n).map (Value.int .i64)).toArray 3)) := by
  obtain ⟨i0, hi0, hz0, hz1, hz2⟩ := info_parts (P := Tryz.prog) (e := 3) iinfo
  have hrun := run_makeSlice (P := Tryz.prog) W 22 3 i0 _ Tryz.underlying22 hi0 hz0 .i64 .i64 n n (by omega) (Int.le_refl _) (by rw [hz1]; simp; omega) (by rw [hz2]; omega) (by omega)
  simp only [Int.toNat_natCast] at hrun
  rw [hz1, Nat.mul_one] at hrun
  have hm : madeCells (Value.int .i64 0).cells n = ((zeros n).map (Value.int .i64)).toArray := madeInts n
  rw [hm] at hrun
  exact hrun
/-- two blocks of ints, known whole, above B; everything below B as before -/
def Two (B : Nat) (w0 : World) (T : Nat) (x y : List Int) (o1 o2 : Value) (w : World) : Prop :=
  ∃ b1 b2, o1 = .slice (some ⟨b1, 0, none⟩) T T ∧ o2 = .slice (some ⟨b2, 0, none⟩) T T ∧ b1 ≠ b2 ∧ B ≤ b1 ∧ B ≤ b2 ∧ BK w b1 x ∧ BK w b2 y ∧ Below B w0 w
theorem two_start (w : World) (T : Nat) : ∃ w', w' = ((w.alloc (.cells ((zeros T).map (Value.int .i64)).toArray 3)).alloc (.cells ((zeros T).map (Value.int .i64)).toArray 3)).drew ∧
    BK w' w.heap.size (zeros T) ∧ BK w' (w.heap.size + 1) (zeros T) ∧ Below w.heap.size w w' := by
  refine ⟨_, rfl, ?_, ?_, ?_⟩
  · show ((w.alloc (.cells ((zeros T).map (Value.int .i64)).toArray 3)).alloc (.cells ((zeros T).map (Value.int .i64)).toArray 3)).heap[w.heap.size]? = _
    rw [Below.heap_alloc _ _ _ (by simp)]; exact heap_alloc_new w _
  · show ((w.alloc (.cells ((zeros T).map (Value.int .i64)).toArray 3)).alloc (.cells ((zeros T).map (Value.int .i64)).toArray 3)).heap[w.heap.size + 1]? = _
    have := heap_alloc_new (w.alloc (.cells ((zeros T).map (Value.int .i64)).toArray 3)) (.cells ((zeros T).map (Value.int .i64)).toArray 3)
    simpa using this
  · exact (((Below.refl _ w).alloc (Nat.le_refl _) _).alloc (by simp) _).drew
theorem queriesF0_any (P n t m want : Int) (l : List Int) (v : Value) (w : World) (hP : i64r P) (hm : i64r m) (h : SI w v l) :
    Calls Tryz.prog 17 #[.agg #[.int .i64 P], .agg #[.int .i64 n, .int .i64 t], .int .i64 m, .int .i64 want, .agg #[v, .int .i64 0]] w fun e w' => ∃ vq v1 a1, e = .returned (.tuple #[vq, .agg #[v1, .int .i64 a1], .int .i64 (quE P n t m want l 0)]) ∧ Below w.heap.size w w' ∧
      (quE P n t m want l 0 = 0 → SI w' v1 l ∧ QRv w.heap.size w' vq (qRows P want (l.take (m * t).toNat) t.toNat n.toNat m.toNat)) :=
  (queriesF_any P n t m want l 0 v w hP hm h).mono fun _ _ ⟨vq, v1, a1, h1, h2, h3, _⟩ => ⟨vq, v1, a1, h1, h2, fun h0 => ⟨(h3 h0).2.1, (h3 h0).2.2⟩⟩
/-- the queries of one tape in memory -/
def QP (i : Int) (D : List Int) (S t n : Nat) (w12 : World) (s e : Value) (w : World) : Prop := e = .int .i64 0 ∧ QRv w12.heap.size w s (qRows 5 i D t S n) ∧ Below w12.heap.size w12 w
theorem QP.fin1 {i : Int} {D : List Int} {S t n : Nat} {w12 w : World} {s : Value} (hq : QRv w12.heap.size w s (qRows 5 i D t S n)) (hb : Below w12.heap.size w12 w) (o : Obj) : QP i D S t n w12 s (.int .i64 0) (w.alloc o) :=
  ⟨rfl, hq.below ((Below.refl _ w).alloc (Nat.le_refl _) o), hb.alloc hb.size o⟩
theorem QP.fin2 {i : Int} {D : List Int} {S t n : Nat} {w12 w : World} {s : Value} {z : Nat} (hz : z = w12.heap.size) (hq : QRv (z + 1) w s (qRows 5 i D t S n)) (hb : Below w12.heap.size w12 w) (u1 u2 : Value) : QP i D S t n w12 s (.int .i64 0) ((w.setCell ⟨z, 0, none⟩ u1).setCell ⟨z, 1, none⟩ u2) := by
  subst hz
  have h1 := (hq.set3 (p := ⟨w12.heap.size, 0, none⟩) (by show w12.heap.size < w12.heap.size + 1; omega) u1).set3 (p := ⟨w12.heap.size, 1, none⟩) (by show w12.heap.size < w12.heap.size + 1; omega) u2
  obtain ⟨G, vs, hB, e, hq', hr, hm⟩ := h1
  exact ⟨rfl, ⟨G, vs, by omega, e, hq', hr, hm⟩, (hb.setCell (p := ⟨w12.heap.size, 0, none⟩) (Nat.le_refl _) u1).setCell (p := ⟨w12.heap.size, 1, none⟩) (Nat.le_refl _) u2⟩
theorem QP.drew {i : Int} {D : List Int} {S t n : Nat} {w12 w : World} {s e : Value} (h : QP i D S t n w12 s e w) : QP i D S t n w12 s e w.drew := ⟨h.1, h.2.1.below (Below.refl _ _).drew, h.2.2.drew⟩
/-- the elements of fresh queries, each read out of memory -/
theorem QRv_el {P want : Int} {D : List Int} {t S n B G : Nat} {w : World} (h : QRv B w (.slice (some ⟨G, 0, none⟩) S S) (qRows P want D t S n)) (hn : 0 < n) (hS : 0 < S) :
    ∀ j, j < S → ∃ b2 o2 d2, w.cell? ⟨G, j, none⟩ = some (.slice (some ⟨b2, o2, none⟩) n d2) ∧ ∀ q, q < n → w.cell? ⟨b2, o2 + q, none⟩ = some (.int .i64 (qPt P want D t q j)) := by
  obtain ⟨A, c, e, _, _, hs, hl, hh, ha⟩ := h.sl.heads
  rw [qRows_len] at e hl ha
  injection e with e1 e2 e3
  obtain ⟨b, off, eA, hb, hc⟩ := ha hS
  rw [← e1] at eA
  injection eA with eA
  injection eA with eb eo
  subst eb eo
  intro j hj
  have := rows_el hl hh hc hb (Below.refl _ w) hn j hj
  rwa [Nat.zero_add] at this
theorem cell_lt {w : World} {a : Addr} {v : Value} (h : w.cell? a = some v) : a.block < w.heap.size := by
  unfold World.cell? at h
  split at h
  · rename_i e; exact (Array.getElem?_eq_some_iff.1 e).1
  · cases h
theorem QRv_elB {P want : Int} {D : List Int} {t S n B G : Nat} {w : World} (h : QRv B w (.slice (some ⟨G, 0, none⟩) S S) (qRows P want D t S n)) (hn : 0 < n) (hS : 0 < S) :
    ∀ j, j < S → ∃ b2 o2 d2, ∀ W, Below w.heap.size w W → W.cell? ⟨G, j, none⟩ = some (.slice (some ⟨b2, o2, none⟩) n d2) ∧ ∀ q, q < n → W.cell? ⟨b2, o2 + q, none⟩ = some (.int .i64 (qPt P want D t q j)) := fun j hj => by
  obtain ⟨b2, o2, d2, h1, h2⟩ := QRv_el h hn hS j hj
  exact ⟨b2, o2, d2, fun W hb => ⟨(hb.cell (cell_lt h1)).trans h1, fun q hq => (hb.cell (cell_lt (h2 q hq))).trans (h2 q hq)⟩⟩
def cl (f : Nat → Nat) (T k : Nat) : List Int := (List.range T).map fun u => (cn f k u : Int)
theorem cl_len (f : Nat → Nat) (T k : Nat) : (cl f T k).length = T := by simp [cl]
theorem cl_get (f : Nat → Nat) (T k u : Nat) (h : u < (cl f T k).length) : (cl f T k)[u] = (cn f k u : Int) := by simp [cl]
theorem cl_zero (f : Nat → Nat) (T : Nat) : cl f T 0 = zeros T := by
  refine List.ext_getElem (by rw [cl_len]; simp [zeros]) fun u h1 h2 => ?_
  rw [cl_get]; simp [cn, zeros]
theorem cl_set (f : Nat → Nat) (T k : Nat) : (cl f T k).set (f k) ((cn f k (f k) : Int) + 1) = cl f T (k + 1) := by
  refine List.ext_getElem (by rw [List.length_set, cl_len, cl_len]) fun u h1 h2 => ?_
  rw [cl_get, cn_succ, List.getElem_set]
  by_cases h : f k = u
  · rw [if_pos h, if_pos h, h]; omega
  · rw [if_neg h, if_neg h, cl_get]; omega
theorem cn_le (f : Nat → Nat) (k u : Nat) : cn f k u ≤ k := by
  unfold cn
  have := List.count_le_length (a := u) (l := (List.range k).map f)
  simpa using this
theorem v5_small {L : List Int} (h : els 5 L = true) (hl : L.length ≤ 4) : 0 ≤ v5 L ∧ v5 L ≤ 625 := by
  have h1 := v5_bd L h
  have h2 := five_le hl
  omega
def Hi1 (B b1 b2 : Nat) (w0 : World) (f1 f2 : Nat → Nat) (T : Nat) (kv : Value) (wr : World) : Prop :=
  ∃ k : Nat, k ≤ T ∧ kv = .int .i64 k ∧ BK wr b1 (cl f1 T k) ∧ BK wr b2 (cl f2 T k) ∧ Below B w0 wr
theorem dg_small {i : Int} {D : List Int} {t n x m jn : Nat} {who : List Int} (hx : x < t) (ht : t ≤ 2) (hn : n ≤ 2) (hm : m ≤ n) : 0 ≤ v5 (dgt i D t n (who.take x) ++ row5 i D t m jn) ∧ v5 (dgt i D t n (who.take x) ++ row5 i D t m jn) ≤ 625 := by
  refine v5_small (els_of fun y hy => ?_) ?_
  · rcases List.mem_append.1 hy with h | h
    · exact els_all (dgt_els ..) y h
    · exact els_all (row5_els ..) y h
  · rw [List.length_append, dgt_len, row5_len, List.length_take]
    have h1 : min x who.length * n ≤ 1 * n := Nat.mul_le_mul_right n (by omega)
    omega
theorem dg_step (i : Int) (D : List Int) (t n x jn : Nat) (who : List Int) (hx : x < who.length) (hj : who[x] = (jn : Int)) : dgt i D t n (who.take (x + 1)) = dgt i D t n (who.take x) ++ row5 i D t n jn := by
  rw [← List.take_append_getElem hx, dgt_snoc, hj, Int.toNat_natCast]
theorem dg_row (i : Int) (D : List Int) (t n x m jn : Nat) (who : List Int) : v5 (dgt i D t n (who.take x) ++ row5 i D t (m + 1) jn) = v5 (dgt i D t n (who.take x) ++ row5 i D t m jn) * 5 + qPt 5 i D t m jn := by
  rw [row5_succ, ← List.append_assoc, v5_snoc]
theorem dg_zero (i : Int) (D : List Int) (t n x jn : Nat) (who : List Int) : v5 (dgt i D t n (who.take x)) = v5 (dgt i D t n (who.take x) ++ row5 i D t 0 jn) := by simp [row5]
def Hi2 (ia ib : Nat) (D : List Int) (t n : Nat) (who : List Int) (we : World) (u v iv : Value) (wz : World) : Prop :=
  ∃ x : Nat, x ≤ t ∧ iv = .int .i64 x ∧ u = .int .i64 (v5 (dgt ia D t n (who.take x))) ∧ v = .int .i64 (v5 (dgt ib D t n (who.take x))) ∧ Below we.heap.size we wz
def Hi3 (ia ib : Nat) (D : List Int) (t n x jn : Nat) (who : List Int) (we : World) (u v iv : Value) (wz : World) : Prop :=
  ∃ m : Nat, m ≤ n ∧ iv = .int .i64 m ∧ u = .int .i64 (v5 (dgt ia D t n (who.take x) ++ row5 ia D t m jn)) ∧ v = .int .i64 (v5 (dgt ib D t n (who.take x) ++ row5 ib D t m jn)) ∧ Below we.heap.size we wz
set_option maxRecDepth 100000 in
set_option maxHeartbeats 8000000 in
theorem hides_any (l : List Int) (a b : Nat) (v : Value) (w : World) (ha : a < 256) (hb : b < 256) (h : SI w v l) (hE : EW w) :
    Calls Tryz.prog 3 #[v, .int .u8 a, .int .u8 b] w fun e w' => e = .returned (.bool true) ∧ Below w.heap.size w w' := by
  have HS := Lib.hid h
  have HE := Lib.hid hE
  obtain ⟨A, c, rfl⟩ := h.form
  clear h hE
  go_enter Tryz.func3, Tryz.ntmps3
  go_wp2_with fail
  (with_reducible refine (sane_any _ HE.out).mono ?_)
  rintro e w1 ⟨rfl, hb1⟩
  have HB1 := Lib.hid hb1
  have HS1 := Lib.hid (HS.out.below hb1)
  clear hb1
  go_wp2_with fail
  (with_reducible refine (few_any l _ w1 HS1.out).mono ?_)
  rintro e wz ⟨rfl, hwz⟩
  subst hwz
  by_cases h5 : l.length ≤ 500
  · have d5 : decide (l.length ≤ 500) = true := decide_eq_true h5
    rw [d5]
    clear d5 h5
    go_wp2_with fail
    (with_reducible refine (new_any l _ w1 HS1.out).mono ?_)
    rintro e w2 ⟨rfl, hd2, hb2, hz2⟩
    obtain ⟨g, eg⟩ : ∃ g, g = w1.heap.size := ⟨_, rfl⟩
    rw [← eg] at hd2 ⊢
    have HD2 := Lib.hid hd2
    have HB2 : Hid (Below w.heap.size w w2) := HB1.out.trans (hb2.mono HB1.out.size)
    have HGW : Hid (w.heap.size ≤ g) := (show Hid _ from by rw [eg]; exact HB1.out.size)
    have HG2 : Hid (g < w2.heap.size) := hd2.lt
    clear hd2 hb2 hz2 eg
    go_wp2_with fail
    (with_reducible refine (next_any 3 g w2 HD2.out i64_3 (by omega)).mono ?_)
    rintro e w3 ⟨x, rfl, _, hx, hd3, hg3⟩
    obtain ⟨hx1, hx2⟩ := hx (by omega)
    obtain ⟨S, eS⟩ : ∃ S : Nat, (S : Int) = 2 + x := ⟨(2 + x).toNat, by omega⟩
    have hS2 : 2 ≤ S := by omega
    have hS4 : S ≤ 4 := by omega
    have wS : IntKind.i64.wrap (2 + x) = (S : Int) := by rw [eS]; exact IntWalk.i64_in _ (by omega)
    have HD3 := Lib.hid hd3
    have HG23 : Hid (w2.grownBy w3 (some g)) := hg3
    obtain ⟨p, ep⟩ : ∃ p, p = w3.heap.size := ⟨_, rfl⟩
    obtain ⟨w4, ew4⟩ : ∃ w4 : World, w4 = w3.alloc (.cells #[.int .i64 S, .int .i64 0] 29) := ⟨_, rfl⟩
    have HW4 : Hid (w3.alloc (.cells #[.int .i64 S, .int .i64 0] 29) = w4) := ew4.symm
    have HP4 : Hid (w4.heap[p]? = some (.cells #[.int .i64 S, .int .i64 0] 29 (0, 0))) := (show Hid _ from by show _ = _; rw [ew4, ep]; exact heap_alloc_new w3 _)
    have HB34 : Hid (Below w3.heap.size w3 w4) := (show Hid _ from by rw [ew4]; exact (Below.refl _ w3).alloc (Nat.le_refl _) _)
    have HD4 := Lib.hid (hd3.below HB34.out)
    have HG24 : Hid (w2.grownBy w4 (some g)) := grownBy_trans hg3 (grownBy_of_below HB34.out _)
    have HGP : Hid (g < p) := (show Hid _ from by rw [ep]; have := hg3.size; have := HG2.out; show g < _; omega)
    have hz4 : p < w4.heap.size := heap_of_cells HP4.out
    have HPP := Lib.hid ep
    clear hd3 hg3 hx eS hx1 hx2
    go_upto_region 7 with fail
    rw [HW4.out, ← ep]
    clear ew4 ep wS
    have p0 : w4.cell? ⟨p, 0, none⟩ = some (.int .i64 S) := cell_of_row w4 p 0 _ _ _ HP4.out
    have wS1 : IntKind.i64.wrap ((S : Int) - 1) = (S : Int) - 1 := by exact IntWalk.i64_in _ (by omega)
    go_wp2_with fail
    obtain ⟨mn, emn⟩ : ∃ mn : Int, mn = min 2 ((S : Int) - 1) := ⟨_, rfl⟩
    have hmn : 1 ≤ mn ∧ mn ≤ 2 ∧ mn ≤ (S : Int) - 1 := by omega
    rw [← emn]
    (with_reducible refine (next_any mn g w4 HD4.out (by unfold i64r; omega) (by omega)).mono ?_)
    rintro e w5 ⟨y, rfl, _, hy, hd5, hg5⟩
    obtain ⟨hy1, hy2⟩ := hy (by omega)
    obtain ⟨t, et⟩ : ∃ t : Nat, (t : Int) = 1 + y := ⟨(1 + y).toNat, by omega⟩
    have ht1 : 1 ≤ t := by omega
    have ht2 : t ≤ 2 := by omega
    have htS : t < S := by omega
    have wt : IntKind.i64.wrap (1 + y) = (t : Int) := by rw [et]; exact IntWalk.i64_in _ (by omega)
    have HD5 := Lib.hid hd5
    have HG25 : Hid (w2.grownBy w5 (some g)) := grownBy_trans HG24.out hg5
    have HP5 : Hid (w5.heap[p]? = some (.cells #[.int .i64 S, .int .i64 0] 29 (0, 0))) := (show Hid _ from (hg5.block p (heap_of_cells HP4.out) (by have := HGP.out; simp; omega)).trans HP4.out)
    clear hy hy1 hy2 hd5 hg5 et emn hmn p0 wS1
    have p1 : w5.cell? ⟨p, 1, none⟩ = some (.int .i64 0) := cell_of_row w5 p 1 _ _ _ HP5.out
    have fp1 : w5.frozen? ⟨p, 1, none⟩ = false := frozen_of_row w5 p 1 _ _ HP5.out
    obtain ⟨w6, ew6⟩ : ∃ w6 : World, w6 = w5.setCell ⟨p, 1, none⟩ (.int .i64 t) := ⟨_, rfl⟩
    have HP6 : Hid (w6.heap[p]? = some (.cells #[.int .i64 S, .int .i64 t] 29 (0, 0))) := (show Hid _ from by
      show _ = _
      rw [ew6]
      have := heap_setCell_same w5 p 1 _ _ (.int .i64 t) HP5.out
      simpa using this)
    have hG56 : w5.grownBy w6 (some p) := by rw [ew6]; exact grownBy_setCell (g := p) (p := ⟨p, 1, none⟩) (grownBy_refl _ _) (.inl rfl) _
    have HD6 : Hid (Dk w6 g) := HD5.out.grown hG56 (fun k hk => by injection hk with e; have := HGP.out; omega)
    have hp2 : w2.heap.size ≤ p := by have := HPP.out; have := HG23.out.size; omega
    have HG26 : Hid (w2.grownBy w6 (some g)) := grownBy_own HG25.out hG56 (fun k hk => by injection hk with e; omega)
    obtain ⟨F, eF⟩ : ∃ F, F = w6.heap.size := ⟨_, rfl⟩
    obtain ⟨w7, ew7⟩ : ∃ w7 : World, w7 = w6.alloc (.cells #[.int .i64 5] 31) := ⟨_, rfl⟩
    have HW7 : Hid ((w5.setCell ⟨p, 1, none⟩ (.int .i64 t)).alloc (.cells #[.int .i64 5] 31) = w7) := (show Hid _ from by show _ = _; rw [ew7, ew6])
    have HF7 : Hid (w7.heap[F]? = some (.cells #[.int .i64 5] 31 (0, 0))) := (show Hid _ from by show _ = _; rw [ew7, eF]; exact heap_alloc_new w6 _)
    have HB67 : Hid (Below w6.heap.size w6 w7) := (show Hid _ from by rw [ew7]; exact (Below.refl _ w6).alloc (Nat.le_refl _) _)
    have HP7 : Hid (w7.heap[p]? = some (.cells #[.int .i64 S, .int .i64 t] 29 (0, 0))) := (show Hid _ from (HB67.out.block p (heap_of_cells HP6.out)).trans HP6.out)
    have HD7 := Lib.hid (HD6.out.below HB67.out)
    have HG27 : Hid (w2.grownBy w7 (some g)) := grownBy_trans HG26.out (grownBy_of_below HB67.out _)
    have HpF : Hid (p < F) := (show Hid _ from by rw [eF]; exact heap_of_cells HP6.out)
    have hF56 : w6.heap.size = w5.heap.size := by rw [ew6]; simp [World.setCell]
    have HF5 : Hid (w5.heap.size = F) := (show Hid _ from by show _ = _; rw [eF, hF56])
    go_upto_region 9 with fail
    rw [HW7.out, HF5.out]
    clear ew6 ew7 eF hF56 hG56 p1 fp1 wt
    go_wp2_with fail
    (with_reducible refine (next_any 2 g w7 HD7.out i64_2 (by omega)).mono ?_)
    rintro e w8 ⟨z, rfl, _, hz, hd8, hg8⟩
    obtain ⟨hz1, hz2⟩ := hz (by omega)
    obtain ⟨n, en⟩ : ∃ n : Nat, (n : Int) = 1 + z := ⟨(1 + z).toNat, by omega⟩
    have hn1 : 1 ≤ n := by omega
    have hn2 : n ≤ 2 := by omega
    have wn : IntKind.i64.wrap (1 + z) = (n : Int) := by rw [en]; exact IntWalk.i64_in _ (by omega)
    have HD8 := Lib.hid hd8
    have HG28 : Hid (w2.grownBy w8 (some g)) := grownBy_trans HG27.out hg8
    have HP8 : Hid (w8.heap[p]? = some (.cells #[.int .i64 S, .int .i64 t] 29 (0, 0))) := (show Hid _ from (hg8.block p (heap_of_cells HP7.out) (by have := HGP.out; simp; omega)).trans HP7.out)
    have HF8 : Hid (w8.heap[F]? = some (.cells #[.int .i64 5] 31 (0, 0))) := (show Hid _ from (hg8.block F (heap_of_cells HF7.out) (by have := HGP.out; have := HpF.out; simp; omega)).trans HF7.out)
    clear hz hz1 hz2 hd8 hg8 en
    have f0 : w8.cell? ⟨F, 0, none⟩ = some (.int .i64 5) := cell_of_row w8 F 0 _ _ _ HF8.out
    have p0 : w8.cell? ⟨p, 0, none⟩ = some (.int .i64 S) := cell_of_row w8 p 0 _ _ _ HP8.out
    have p1 : w8.cell? ⟨p, 1, none⟩ = some (.int .i64 t) := cell_of_row w8 p 1 _ _ _ HP8.out
    go_wp2_with fail
    (with_reducible refine (limits_any 5 S t n w8 (by unfold i64r; omega)).mono ?_)
    rintro e w9 ⟨vl, rfl, hb9, hok9, _⟩
    obtain ⟨K, eK⟩ : ∃ K, K = n * t := ⟨_, rfl⟩
    have hcc : ccE 5 S t n = 0 := by
      have hv : vaB S t = true := decide_eq_true ⟨by omega, by omega, by omega, by omega⟩
      have hc : cuE 5 S t = 0 := by unfold cuE; rw [if_neg (by rw [pr5]; simp), if_neg (by rw [hv]; simp; omega)]
      unfold ccE; rw [if_neg (by omega), hc]
    rw [hcc]
    have hol := hok9 hcc
    have hKi : ((n : Int) * (t : Int)).toNat = K := by rw [eK, ← Int.natCast_mul]; rfl
    rw [hKi] at hol
    have hK4 : K ≤ 4 := by
      rw [eK]
      have := Nat.mul_le_mul hn2 ht2
      omega
    have HKM : Hid ((K : Int) = (n : Int) * (t : Int)) := (show Hid _ from by show _ = _; rw [eK, Int.natCast_mul])
    have HKN : Hid (n * t = K) := eK.symm
    have HG8g : Hid (g < w8.heap.size) := (show Hid _ from by have := HG28.out.size; have := HG2.out; show g < _; omega)
    have HSE9 : Hid (SE g w9 vl (List.replicate K 5)) := (show Hid _ from SE.of_own hol (fun x hx => by rw [(List.mem_replicate.1 hx).2]; unfold i64r; omega) HG8g.out)
    have HP9 : Hid (w9.heap[p]? = some (.cells #[.int .i64 S, .int .i64 t] 29 (0, 0))) := (show Hid _ from (hb9.block p (heap_of_cells HP8.out)).trans HP8.out)
    have HF9 : Hid (w9.heap[F]? = some (.cells #[.int .i64 5] 31 (0, 0))) := (show Hid _ from (hb9.block F (heap_of_cells HF8.out)).trans HF8.out)
    have HD9 := Lib.hid (HD8.out.below hb9)
    have HG29 : Hid (w2.grownBy w9 (some g)) := grownBy_trans HG28.out (grownBy_of_below hb9 _)
    clear hb9 hok9 hol eK hcc hKi f0 p0 p1
    obtain ⟨Al, cal, evl⟩ := HSE9.out.form
    subst evl
    rw [List.length_replicate] at HSE9 ⊢
    go_wp2_with fail
    (with_reducible refine (count5_any K _ w9 hK4 HSE9.out.si).mono ?_)
    rintro e wz ⟨rfl, hwz⟩
    subst hwz
    have hT1 := five_le hK4
    have hT0 := five_pos K
    obtain ⟨T, eT⟩ : ∃ T : Nat, (T : Int) = 5 ^ K := ⟨5 ^ K, by simp⟩
    have HT := Lib.hid eT
    rw [← eT] at hT1 hT0 ⊢
    clear eT
    have dT : decide (1000 < (T : Int)) = false := decide_eq_false (by omega)
    have dT2 : decide (1000 < T) = false := decide_eq_false (by omega)
    have p0 : w9.cell? ⟨p, 0, none⟩ = some (.int .i64 S) := cell_of_row w9 p 0 _ _ _ HP9.out
    have p1 : w9.cell? ⟨p, 1, none⟩ = some (.int .i64 t) := cell_of_row w9 p 1 _ _ _ HP9.out
    go_upto_region 14 with fail
    have HORD : Hid (∀ W : World, Dk W g → Calls Tryz.prog 15 #[.pointer (some ⟨g, 0, none⟩), .int .i64 S] W fun e w' => ∃ (v : Value) (O : List Int), e = .returned v ∧ O.Perm (nums S) ∧ w'.ownsRow W.heap.size 3 1 v O.length (O.map (Value.int .i64)) ∧ Dk w' g ∧ W.grownBy w' (some g)) := (show Hid _ from fun W h => order_any S g W h (by omega))
    have HX10 : Hid (∀ W : World, w9.grownBy W (some g) → W.heap[p]? = some (.cells #[.int .i64 S, .int .i64 t] 29 (0, 0)) ∧ W.heap[F]? = some (.cells #[.int .i64 5] 31 (0, 0)) ∧ SE g W (.slice Al K cal) (List.replicate K 5)) := (show Hid _ from fun W hg => ⟨(hg.block p (heap_of_cells HP9.out) (by have := HGP.out; simp; omega)).trans HP9.out, (hg.block F (heap_of_cells HF9.out) (by have := HGP.out; have := HpF.out; simp; omega)).trans HF9.out, HSE9.out.grown hg⟩)
    have zt0 : (0 : Int) ≤ (t : Int) := by omega
    have HG9g : Hid (g < w9.heap.size) := (show Hid _ from HD9.out.lt)
    clear dT dT2
    go_region_held3 (fun w' => w'.cell? ⟨p, 0, none⟩ = some (.int .i64 S) ∧ w'.cell? ⟨p, 1, none⟩ = some (.int .i64 t)) (first | exact ⟨p0, p1⟩ | exact ⟨q0, q1⟩ | go_keep)
      (first | (go_at_call 15; refine (HORD.out _ (by exact HD9.out)).mono ?_; rintro e9 w10 ⟨vo, O, rfl, hperm, hown, hd10, hg10⟩; have HG10 : Hid (w9.grownBy w10 (some g)) := (show Hid _ from ⟨hg10.os, hg10.tape, hg10.output, hg10.size, hg10.block⟩); have HPM := Lib.hid hperm; have HSO : Hid (SE g w10 vo O) := (show Hid _ from SE.of_own hown (fun x hx => nums_r (by omega) x (hperm.mem_iff.1 hx)) HG9g.out); obtain ⟨hP10, hF10, hL10⟩ := HX10.out w10 HG10.out; have HP10 := Lib.hid hP10; have HF10 := Lib.hid hF10; have HSL10 := Lib.hid hL10; have q0 : w10.cell? ⟨p, 0, none⟩ = some (.int .i64 S) := cell_of_row w10 p 0 _ _ _ hP10; have q1 : w10.cell? ⟨p, 1, none⟩ = some (.int .i64 t) := cell_of_row w10 p 1 _ _ _ hP10; obtain ⟨Ao, co, rfl, hco, hcm, _, _⟩ := HSO.out; have zt : (t : Int) ≤ (co : Int) := (by have h1 := HPM.out.length_eq; rw [nums_len] at h1; omega); clear hperm hown hd10 hg10 hP10 hF10 hL10))
    all_goals
      obtain ⟨who, ewho⟩ : ∃ who, who = O.take t := ⟨_, rfl⟩
      have hOl : O.length = S := by have h1 := HPM.out.length_eq; rwa [nums_len] at h1
      have HWL : Hid (who.length = t) := (show Hid _ from by show _ = _; rw [ewho, List.length_take]; omega)
      have HWN : Hid (who.Nodup) := (show Hid _ from by rw [ewho]; exact List.Sublist.nodup (List.take_sublist t O) (HPM.out.nodup_iff.2 (nums_nodup S)))
      have HWB : Hid (∀ j ∈ who, 0 ≤ j ∧ j < (S : Int)) := (show Hid _ from fun j hj => nums_bd S j (HPM.out.mem_iff.1 (List.mem_of_mem_take (by rw [ewho] at hj; exact hj))))
      have HWS : Hid (SI w10 (.slice Ao t co) who) := (show Hid _ from by
        obtain ⟨A2, c2, e2, hcl2, hcm2, hr2, ha2⟩ := HSO.out
        injection e2 with e21 e22 e23
        subst e23
        have htl : (O.take t).length = t := by rw [List.length_take]; omega
        rw [ewho]
        refine ⟨Ao, co, by rw [htl], by rw [htl]; omega, by omega, fun x hx => hr2 x (List.mem_of_mem_take hx), fun h0 => ?_⟩
        obtain ⟨b2, o2, e3, hb2, _, hc2⟩ := ha2 (by omega)
        refine ⟨b2, o2, by rw [e21]; exact e3, hb2, fun j hj => ?_⟩
        rw [hc2 j (by rw [htl] at hj; omega)]
        simp)
      have HBw10 : Hid (Below w.heap.size w w10) := (show Hid _ from HB2.out.grown (grownBy_trans HG29.out HG10.out) (HB2.out.size) (fun k hk => by injection hk with e; subst e; exact HGW.out))
      have HSL : Hid (SI w10 (.slice Al K cal) (List.replicate K 5)) := HSL10.out.si
      clear ewho hOl q0 q1 p0 p1 zt zt0 hco hcm
      have hmk := mk_ints T (by omega)
      go_upto_region 15 with fail
      go_cut [16, 17] (fun o1 o2 wx => Two w10.heap.size w10 T (zeros T) (zeros T) o1 o2 wx)
      case first =>
        obtain ⟨w11, ew11, hk1, hk2, hb11⟩ := two_start w10 T
        have HWE : Hid (((w10.alloc (.cells ((zeros T).map (Value.int .i64)).toArray 3)).alloc (.cells ((zeros T).map (Value.int .i64)).toArray 3)).drew = w11) := ew11.symm
        have HTA : Hid (Two w10.heap.size w10 T (zeros T) (zeros T) (.slice (some ⟨w10.heap.size, 0, none⟩) T T) (.slice (some ⟨w10.heap.size + 1, 0, none⟩) T T) w11) := (show Hid _ from ⟨_, _, rfl, rfl, by omega, by omega, by omega, hk1, hk2, hb11⟩)
        have HTB : Hid (Two w10.heap.size w10 T (zeros T) (zeros T) (.slice (some ⟨w10.heap.size + 1, 0, none⟩) T T) (.slice (some ⟨w10.heap.size, 0, none⟩) T T) w11) := (show Hid _ from ⟨_, _, rfl, rfl, by omega, by omega, by omega, hk2, hk1, hb11⟩)
        clear ew11 hk1 hk2 hb11
        go_region
        all_goals
          rw [HWE.out]
          go_wp2_with fail
          go_meet
          first | exact HTA.out | exact HTB.out
      case rest =>
        obtain ⟨b1, b2, e1, e2, hne, hB1, hB2, hk1, hk2, hbel⟩ := hcut
        subst e1 e2
        have hn0 : ¬ n = 0 := by omega
        have hn0' : ¬ (n : Int) = 0 := by omega
        obtain ⟨ea1, ea2⟩ := u8_tmod a n (by omega)
        obtain ⟨eb1, eb2⟩ := u8_tmod b n (by omega)
        rw [Int.toNat_natCast] at ea1 ea2 eb1 eb2
        obtain ⟨ia, eia⟩ : ∃ i, i = a % n := ⟨_, rfl⟩
        obtain ⟨ib, eib⟩ : ∃ i, i = b % n := ⟨_, rfl⟩
        rw [← eia] at ea1 ea2
        rw [← eib] at eb1 eb2
        have wi : IntKind.i64.wrap ((ia : Nat) : Int) = (ia : Int) := by exact IntWalk.i64_in _ (by omega)
        have wk : IntKind.i64.wrap ((ib : Nat) : Int) = (ib : Int) := by exact IntWalk.i64_in _ (by omega)
        have wa_ : IntKind.i64.wrap ((a : Nat) : Int) = (a : Int) := by exact IntWalk.i64_in _ (by omega)
        have wb_ : IntKind.i64.wrap ((b : Nat) : Int) = (b : Int) := by exact IntWalk.i64_in _ (by omega)
        have HIA := Lib.hid eia
        have HIB := Lib.hid eib
        clear eia eib
        obtain ⟨B, eB⟩ : ∃ B, B = w10.heap.size := ⟨_, rfl⟩
        have HBW : Hid (w.heap.size ≤ B) := (show Hid _ from by rw [eB]; exact HBw10.out.size)
        rw [← eB] at hB1 hB2 hbel
        have HSLB : Hid (SB B w10 (.slice Al K cal) (List.replicate K 5)) := (show Hid _ from by rw [eB]; exact HSL.out)
        have HWSB : Hid (SB B w10 (.slice Ao t co) who) := (show Hid _ from by rw [eB]; exact HWS.out)
        have hpB : p < B := by rw [eB]; exact heap_of_cells HP10.out
        have hFB : F < B := by rw [eB]; exact heap_of_cells HF10.out
        have HBB := Lib.hid eB
        have HK1 := Lib.hid hk1
        have HK2 := Lib.hid hk2
        have HBEL := Lib.hid hbel
        clear hk1 hk2 hbel eB hmk
        go_wp2_with fail
        go_loopw [18] (fun kv wr => Hi1 B b1 b2 w10 (fvw ia t n who) (fvw ib t n who) T kv wr) (fun kv _ => T - (intOf kv).toNat)
        case atStart => exact ⟨0, Nat.zero_le _, rfl, by rw [cl_zero]; exact HK1.out, by rw [cl_zero]; exact HK2.out, HBEL.out⟩
        case round =>
          obtain ⟨k, hk, rfl, hk1, hk2, hbel⟩ := hrel
          have HK1r := Lib.hid hk1
          have HK2r := Lib.hid hk2
          have HBr := Lib.hid hbel
          clear hk1 hk2 hbel
          by_cases hlk : k < T
          · have dk : decide (k < T) = true := decide_eq_true hlk
            have HBwr : Hid (Below w.heap.size w wr) := HBw10.out.trans (HBr.out.mono HBW.out)
            have HAT := Lib.hid (at5_any K k (.slice Al K cal) wr hK4 (by rw [← HT.out]; omega) ((HSLB.out.below HBr.out).si (by have := HBr.out.size; rw [← HBB.out] at this; exact this)))
            have HPr : Hid (wr.heap[p]? = some (.cells #[.int .i64 S, .int .i64 t] 29 (0, 0))) := (show Hid _ from (HBr.out.block p hpB).trans HP10.out)
            have HFr : Hid (wr.heap[F]? = some (.cells #[.int .i64 5] 31 (0, 0))) := (show Hid _ from (HBr.out.block F hFB).trans HF10.out)
            go_wp2_with fail
            (with_reducible refine HAT.out.mono ?_)
            rintro e w11 ⟨v1, rfl, hb11, hown⟩
            have HSD11 : Hid (SI w11 v1 (digs K k)) := (show Hid _ from SI.of_own hown (fun x hx => by have := el_t (els_all (digs_els K k) x hx); unfold i64r; omega))
            obtain ⟨A1, c1, ev1⟩ := HSD11.out.form'
            subst ev1
            obtain ⟨D, eD⟩ : ∃ D, D = digs K k := ⟨_, rfl⟩
            have hDl : D.length = K := by rw [eD, digs_len]
            have HDL := Lib.hid hDl
            rw [digs_len] at HSD11 ⊢
            rw [← eD] at HSD11
            have HDE : Hid (els 5 D = true) := (show Hid _ from by rw [eD]; exact digs_els K k)
            have HDD := Lib.hid eD
            have HP11 : Hid (w11.heap[p]? = some (.cells #[.int .i64 S, .int .i64 t] 29 (0, 0))) := (show Hid _ from (hb11.block p (heap_of_cells HPr.out)).trans HPr.out)
            have HF11 : Hid (w11.heap[F]? = some (.cells #[.int .i64 5] 31 (0, 0))) := (show Hid _ from (hb11.block F (heap_of_cells HFr.out)).trans HFr.out)
            have HB11 := Lib.hid hb11
            clear hb11 hown eD hDl HAT
            obtain ⟨q, eq⟩ : ∃ q, q = w11.heap.size := ⟨_, rfl⟩
            obtain ⟨w12, ew12⟩ : ∃ w12 : World, w12 = w11.alloc (.cells #[.slice A1 K c1, .int .i64 0] 39) := ⟨_, rfl⟩
            have HW12 : Hid (w11.alloc (.cells #[.slice A1 K c1, .int .i64 0] 39) = w12) := ew12.symm
            have HQ12 : Hid (w12.heap[q]? = some (.cells #[.slice A1 K c1, .int .i64 0] 39 (0, 0))) := (show Hid _ from by show _ = _; rw [ew12, eq]; exact heap_alloc_new w11 _)
            have HB12' : Hid (Below w11.heap.size w11 w12) := (show Hid _ from by rw [ew12]; exact (Below.refl _ w11).alloc (Nat.le_refl _) _)
            have HB12 : Hid (Below wr.heap.size wr w12) := (show Hid _ from HB11.out.trans (HB12'.out.mono HB11.out.size))
            have HP12 : Hid (w12.heap[p]? = some (.cells #[.int .i64 S, .int .i64 t] 29 (0, 0))) := (show Hid _ from (HB12'.out.block p (heap_of_cells HP11.out)).trans HP11.out)
            have HF12 : Hid (w12.heap[F]? = some (.cells #[.int .i64 5] 31 (0, 0))) := (show Hid _ from (HB12'.out.block F (heap_of_cells HF11.out)).trans HF11.out)
            have HSD12 := Lib.hid (HSD11.out.below HB12'.out)
            have HQQ := Lib.hid eq
            go_upto_region 20 with fail
            rw [HW12.out, ← eq]
            clear eq ew12
            have HQA : Hid (∀ W vv, SI W vv D → Calls Tryz.prog 17 #[.agg #[.int .i64 5], .agg #[.int .i64 S, .int .i64 t], .int .i64 n, .int .i64 ia, .agg #[vv, .int .i64 0]] W fun e w' => ∃ Aq cq A1 c1 a1, e = .returned (.tuple #[.slice Aq S cq, .agg #[.slice A1 K c1, .int .i64 a1], .int .i64 0]) ∧ Below W.heap.size W w' ∧ QRv W.heap.size w' (.slice Aq S cq) (qRows 5 ia D t S n)) := (show Hid _ from fun W vv hs => (queriesF0_any 5 S t n ia D vv W (by unfold i64r; omega) (by unfold i64r; omega) hs).mono fun e w' ⟨vq, v1, a1, h1, h2, h3⟩ => by
              obtain ⟨_, hq0⟩ := quE_zero (P := 5) (n := S) (t := t) (m := n) (i := ia) (ns := D) pr5 (by omega) (by omega) (by omega) (by omega) (by omega) (by omega) (by omega) ea2 (by rw [HDL.out]; exact HKM.out) HDE.out
              rw [hq0] at h1 h3
              obtain ⟨h5, h6⟩ := h3 rfl
              have htk : D.take ((n : Int) * (t : Int)).toNat = D := by rw [← HKM.out, Int.toNat_natCast, ← HDL.out, List.take_length]
              rw [htk] at h6
              simp only [Int.toNat_natCast] at h6
              obtain ⟨A1, c1, ev1⟩ := h5.form'
              rw [HDL.out] at ev1
              subst ev1
              obtain ⟨G, vs, hB, evq, hq, hr, hm⟩ := h6
              rw [qRows_len] at evq
              subst evq
              exact ⟨_, _, A1, c1, a1, h1, h2, G, vs, hB, by rw [qRows_len], hq, hr, hm⟩)
            have HQB : Hid (∀ W vv, SI W vv D → Calls Tryz.prog 17 #[.agg #[.int .i64 5], .agg #[.int .i64 S, .int .i64 t], .int .i64 n, .int .i64 ib, .agg #[vv, .int .i64 0]] W fun e w' => ∃ Aq cq A1 c1 a1, e = .returned (.tuple #[.slice Aq S cq, .agg #[.slice A1 K c1, .int .i64 a1], .int .i64 0]) ∧ Below W.heap.size W w' ∧ QRv W.heap.size w' (.slice Aq S cq) (qRows 5 ib D t S n)) := (show Hid _ from fun W vv hs => (queriesF0_any 5 S t n ib D vv W (by unfold i64r; omega) (by unfold i64r; omega) hs).mono fun e w' ⟨vq, v1, a1, h1, h2, h3⟩ => by
              obtain ⟨_, hq0⟩ := quE_zero (P := 5) (n := S) (t := t) (m := n) (i := ib) (ns := D) pr5 (by omega) (by omega) (by omega) (by omega) (by omega) (by omega) (by omega) eb2 (by rw [HDL.out]; exact HKM.out) HDE.out
              rw [hq0] at h1 h3
              obtain ⟨h5, h6⟩ := h3 rfl
              have htk : D.take ((n : Int) * (t : Int)).toNat = D := by rw [← HKM.out, Int.toNat_natCast, ← HDL.out, List.take_length]
              rw [htk] at h6
              simp only [Int.toNat_natCast] at h6
              obtain ⟨A1, c1, ev1⟩ := h5.form'
              rw [HDL.out] at ev1
              subst ev1
              obtain ⟨G, vs, hB, evq, hq, hr, hm⟩ := h6
              rw [qRows_len] at evq
              subst evq
              exact ⟨_, _, A1, c1, a1, h1, h2, G, vs, hB, by rw [qRows_len], hq, hr, hm⟩)
            have f0 : w12.cell? ⟨F, 0, none⟩ = some (.int .i64 5) := cell_of_row w12 F 0 _ _ _ HF12.out
            have p0 : w12.cell? ⟨p, 0, none⟩ = some (.int .i64 S) := cell_of_row w12 p 0 _ _ _ HP12.out
            have p1 : w12.cell? ⟨p, 1, none⟩ = some (.int .i64 t) := cell_of_row w12 p 1 _ _ _ HP12.out
            have q0 : w12.cell? ⟨q, 0, none⟩ = some (.slice A1 K c1) := cell_of_row w12 q 0 _ _ _ HQ12.out
            have q1 : w12.cell? ⟨q, 1, none⟩ = some (.int .i64 0) := cell_of_row w12 q 1 _ _ _ HQ12.out
            have HXC : Hid (∀ W, Below w12.heap.size w12 W → W.cell? ⟨F, 0, none⟩ = some (.int .i64 5) ∧ W.cell? ⟨p, 0, none⟩ = some (.int .i64 S) ∧ W.cell? ⟨p, 1, none⟩ = some (.int .i64 t) ∧ W.cell? ⟨q, 0, none⟩ = some (.slice A1 K c1) ∧ W.cell? ⟨q, 1, none⟩ = some (.int .i64 0)) := (show Hid _ from fun W hb => by
              have h1 := (hb.block F (heap_of_cells HF12.out)).trans HF12.out
              have h2 := (hb.block p (heap_of_cells HP12.out)).trans HP12.out
              have h3 := (hb.block q (heap_of_cells HQ12.out)).trans HQ12.out
              exact ⟨cell_of_row W F 0 _ _ _ h1, cell_of_row W p 0 _ _ _ h2, cell_of_row W p 1 _ _ _ h2, cell_of_row W q 0 _ _ _ h3, cell_of_row W q 1 _ _ _ h3⟩)
            have hqs : q < w12.heap.size := heap_of_cells HQ12.out
            have hps : p < w12.heap.size := heap_of_cells HP12.out
            have hFs : F < w12.heap.size := heap_of_cells HF12.out
            obtain ⟨z, ez⟩ : ∃ z, z = w12.heap.size := ⟨_, rfl⟩
            obtain ⟨wz, ewz⟩ : ∃ wz : World, wz = w12.alloc (.cells #[.slice none 0 0, .int .i64 0] 39) := ⟨_, rfl⟩
            have HWZ : Hid (w12.alloc (.cells #[.slice none 0 0, .int .i64 0] 39) = wz) := ewz.symm
            have HZ : Hid (wz.heap[z]? = some (.cells #[.slice none 0 0, .int .i64 0] 39 (0, 0))) := (show Hid _ from by show _ = _; rw [ewz, ez]; exact heap_alloc_new w12 _)
            have HZS : Hid (wz.heap.size = z + 1) := (show Hid _ from by show _ = _; rw [ewz, ez]; simp)
            have HBWZ : Hid (Below w12.heap.size w12 wz) := (show Hid _ from by rw [ewz]; exact (Below.refl _ w12).alloc (Nat.le_refl _) _)
            have HEZ := Lib.hid ez
            have HSDn : Hid (SI w12 (.slice A1 K c1) D) := HSD12
            have HSDz : Hid (SI (w12.alloc (.cells #[.slice none 0 0, .int .i64 0] 39)) (.slice A1 K c1) D) := (show Hid _ from by rw [HWZ.out]; exact HSDn.out.below HBWZ.out)
            have HZC : Hid (∀ V, Below (w12.alloc (.cells #[.slice none 0 0, .int .i64 0] 39)).heap.size (w12.alloc (.cells #[.slice none 0 0, .int .i64 0] 39)) V → V.cell? ⟨w12.heap.size, 0, none⟩ = some (.slice none 0 0) ∧ V.cell? ⟨w12.heap.size, 1, none⟩ = some (.int .i64 0) ∧ V.frozen? ⟨w12.heap.size, 0, none⟩ = false ∧ V.frozen? ⟨w12.heap.size, 1, none⟩ = false) := (show Hid _ from fun V hb => by
              rw [HWZ.out] at hb
              have hv := (hb.block z (heap_of_cells HZ.out)).trans HZ.out
              rw [← HEZ.out]
              exact ⟨cell_of_row V z 0 _ _ _ hv, cell_of_row V z 1 _ _ _ hv, frozen_of_row V z 0 _ _ hv, frozen_of_row V z 1 _ _ hv⟩)
            clear ez ewz
            have HZA : Hid (∀ V, Below (w12.alloc (.cells #[.slice none 0 0, .int .i64 0] 39)).heap.size (w12.alloc (.cells #[.slice none 0 0, .int .i64 0] 39)) V → Hid (Below w12.heap.size w12 V) ∧ (V.cell? ⟨F, 0, none⟩ = some (.int .i64 5) ∧ V.cell? ⟨p, 0, none⟩ = some (.int .i64 S) ∧ V.cell? ⟨p, 1, none⟩ = some (.int .i64 t) ∧ V.cell? ⟨q, 0, none⟩ = some (.slice A1 K c1) ∧ V.cell? ⟨q, 1, none⟩ = some (.int .i64 0))) := (show Hid _ from fun V hb => by
              rw [HWZ.out] at hb
              have h1 : Below w12.heap.size w12 V := HBWZ.out.trans (hb.mono HBWZ.out.size)
              exact ⟨h1, HXC.out V h1⟩)
            have HQZ : Hid (∀ V (v : Value), QRv (w12.alloc (.cells #[.slice none 0 0, .int .i64 0] 39)).heap.size V v (qRows 5 ia D t S n) → Hid (QRv (w12.heap.size + 1) V v (qRows 5 ia D t S n))) := (show Hid _ from fun V v h => by
              rw [HWZ.out, HZS.out, HEZ.out] at h; exact h)
            have hEA : (a : Int) % (n : Int) = (ia : Int) := by rw [HIA.out]; simp
            have hEB : (b : Int) % (n : Int) = (ib : Int) := by rw [HIB.out]; simp
            have hnn : 0 < n ∧ n < 256 := by omega
            apply reg20 n ia S t a F p q D (.slice A1 K c1) w12 hnn ha hEA HXC.out HSD12.out (by rw [HDL.out]; exact HQA.out)
            rintro u21 u22 u100 u101 u102 u103 u104 u105 u106 u107 u108 u109 u110 u111 u112 wd ⟨hbd, hqv⟩
            obtain ⟨Gq, vsq, hGq, eq21, hz1, hz2, hz3⟩ := id hqv
            rw [qRows_len] at eq21
            subst eq21
            have HQVd := Lib.hid hqv
            have HBd : Hid (Below w12.heap.size w12 wd) := hbd
            have HSDd := Lib.hid (HSD12.out.below hbd)
            have HXD : Hid (∀ W, Below wd.heap.size wd W → W.cell? ⟨F, 0, none⟩ = some (.int .i64 5) ∧ W.cell? ⟨p, 0, none⟩ = some (.int .i64 S) ∧ W.cell? ⟨p, 1, none⟩ = some (.int .i64 t) ∧ W.cell? ⟨q, 0, none⟩ = some (.slice A1 K c1) ∧ W.cell? ⟨q, 1, none⟩ = some (.int .i64 0)) := (show Hid _ from fun W hb => HXC.out W (HBd.out.trans (hb.mono HBd.out.size)))
            clear hqv hbd f0 p0 p1 q0 q1 hGq hz1 hz2 hz3 HXC HZA HQZ HZC HSDn HSDz HBWZ HZS HZ HWZ HEZ HQA
            go_upto_region 21 with fail
            apply reg21 n ib S t b F p q D (.slice A1 K c1) wd hnn hb hEB HXD.out HSDd.out (by rw [HDL.out]; exact HQB.out)
            rintro u24 u25 u113 u114 u115 u116 u117 u118 u119 u120 u121 u122 u123 u124 u125 we ⟨hbe, hqv⟩
            obtain ⟨Gr, vsr, hGr, eq24, hz1, hz2, hz3⟩ := id hqv
            rw [qRows_len] at eq24
            subst eq24
            have HBe : Hid (Below wd.heap.size wd we) := hbe
            have HEQ : Hid (∀ j, j < S → ∃ b2 o2 d2, ∀ W, Below we.heap.size we W → W.cell? ⟨Gq, j, none⟩ = some (.slice (some ⟨b2, o2, none⟩) n d2) ∧ ∀ q, q < n → W.cell? ⟨b2, o2 + q, none⟩ = some (.int .i64 (qPt 5 ia D t q j))) := (show Hid _ from QRv_elB (HQVd.out.below hbe) (by omega) (by omega))
            have HER : Hid (∀ j, j < S → ∃ b2 o2 d2, ∀ W, Below we.heap.size we W → W.cell? ⟨Gr, j, none⟩ = some (.slice (some ⟨b2, o2, none⟩) n d2) ∧ ∀ q, q < n → W.cell? ⟨b2, o2 + q, none⟩ = some (.int .i64 (qPt 5 ib D t q j))) := (show Hid _ from QRv_elB hqv (by omega) (by omega))
            have HBre : Hid (Below wr.heap.size wr we) := (show Hid _ from (HB12.out.trans (HBd.out.mono HB12.out.size)).trans (hbe.mono (HB12.out.trans (HBd.out.mono HB12.out.size)).size))
            have HF0 : Hid (∀ W, Below we.heap.size we W → W.cell? ⟨F, 0, none⟩ = some (.int .i64 5)) := (show Hid _ from fun W hb => (HXD.out W (HBe.out.trans (hb.mono HBe.out.size))).1)
            obtain ⟨f0, p0, p1, q0, q1⟩ := HXD.out we HBe.out
            have HWe : Hid (SI we (.slice Ao t co) who) := (show Hid _ from ((HWSB.out.below HBr.out).si (by have := HBr.out.size; rw [← HBB.out] at this; exact this)).below HBre.out)
            obtain ⟨A2, c2, e2, hcl2, hcm2, hr2, ha2⟩ := HWe.out
            injection e2 with e21 e22 e23
            subst e21 e23
            obtain ⟨bo, oo, eAo, hbo, hcw⟩ := ha2 (by rw [HWL.out]; omega)
            subst eAo
            have HCW : Hid (∀ W, Below we.heap.size we W → ∀ x (h : x < who.length), W.cell? ⟨bo, oo + x, none⟩ = some (.int .i64 who[x])) := (show Hid _ from fun W hb x h => (hb.cell (cell_lt (hcw x h))).trans (hcw x h))
            have HK1e : Hid (BK we b1 (cl (fvw ia t n who) T k)) := (show Hid _ from HK1r.out.below HBre.out HK1r.out.lt)
            have HK2e : Hid (BK we b2 (cl (fvw ib t n who) T k)) := (show Hid _ from HK2r.out.below HBre.out HK2r.out.lt)
            obtain ⟨wo, ewo⟩ : ∃ wo : World, wo = wr := ⟨_, rfl⟩
            have HBe10 : Hid (Below B w10 we) := (show Hid _ from HBr.out.trans (HBre.out.mono (by have := HBr.out.size; rw [← HBB.out] at this; exact this)))
            clear hqv hbe hGr hz1 hz2 hz3 HXD HQB p1 q0 q1 hcw ha2 hr2 hcl2 hcm2 e22 ewo HPr HFr HB11 HP11 HF11 HSD11 HB12' HB12 HP12 HF12 HQ12 HSD12 HQQ HW12 HBd HQVd HSDd HWe HBwr
            go_wp2_with fail
            go_loopw [27, 28, 148] (fun u v iv wz => Hi2 ia ib D t n who we u v iv wz) (fun _ _ iv _ => t - (intOf iv).toNat)
            case atStart => exact ⟨0, Nat.zero_le _, rfl, by simp [dgt, v5], by simp [dgt, v5], Below.refl _ _⟩
            case round =>
              obtain ⟨x, hx, rfl, rfl, rfl, hbx⟩ := hrel
              have HBX := Lib.hid hbx
              clear hbx f0 p0
              by_cases hlx : x < t
              · have dx : decide (x < t) = true := decide_eq_true hlx
                have hxw : x < who.length := by rw [HWL.out]; exact hlx
                have hwb := HWB.out who[x] (List.getElem_mem hxw)
                obtain ⟨jn, ejn⟩ : ∃ jn : Nat, who[x] = (jn : Int) := ⟨who[x].toNat, by omega⟩
                have hjS : jn < S := by omega
                have cw := HCW.out _ HBX.out x hxw
                rw [ejn] at cw
                have HJN := Lib.hid ejn
                obtain ⟨bq, oq, dq, hcq⟩ := HEQ.out jn hjS
                obtain ⟨br, or_, dr, hcr⟩ := HER.out jn hjS
                have HCQ := Lib.hid hcq
                have HCR := Lib.hid hcr
                have cq0 := (HCQ.out _ HBX.out).1
                have cr0 := (HCR.out _ HBX.out).1
                clear hcq hcr ejn hwb
                rw [dg_zero ia D t n x jn who, dg_zero ib D t n x jn who]
                go_wp2_with fail
                clear cw cq0 cr0
                obtain ⟨wx, ewx⟩ : ∃ wx : World, wx = wr := ⟨_, rfl⟩
                rw [← ewx] at HBX ⊢
                clear ewx
                go_loopw [27, 28, 173] (fun u v iv wz => Hi3 ia ib D t n x jn who we u v iv wz) (fun _ _ iv _ => n - (intOf iv).toNat)
                case atStart => exact ⟨0, Nat.zero_le _, rfl, rfl, rfl, HBX.out⟩
                case round =>
                  obtain ⟨m, hm, rfl, rfl, rfl, hbm⟩ := hrel
                  have HBM := Lib.hid hbm
                  clear hbm
                  by_cases hlm : m < n
                  · have dm : decide (m < n) = true := decide_eq_true hlm
                    have f0 := HF0.out _ HBM.out
                    have cq0 := (HCQ.out _ HBM.out).1
                    have cr0 := (HCR.out _ HBM.out).1
                    have cx := (HCQ.out _ HBM.out).2 m hlm
                    have cy := (HCR.out _ HBM.out).2 m hlm
                    have sx := dg_small (i := ia) (D := D) (jn := jn) (who := who) hlx ht2 hn2 hm
                    have sy := dg_small (i := ib) (D := D) (jn := jn) (who := who) hlx ht2 hn2 hm
                    have hxb := qPt_r (P := 5) (want := ia) (by omega) D t m jn
                    have hyb := qPt_r (P := 5) (want := ib) (by omega) D t m jn
                    have HRX := Lib.hid (dg_row ia D t n x m jn who)
                    have HRY := Lib.hid (dg_row ib D t n x m jn who)
                    obtain ⟨X, eX⟩ : ∃ X, X = v5 (dgt ia D t n (who.take x) ++ row5 ia D t m jn) := ⟨_, rfl⟩
                    obtain ⟨Y, eY⟩ : ∃ Y, Y = v5 (dgt ib D t n (who.take x) ++ row5 ib D t m jn) := ⟨_, rfl⟩
                    obtain ⟨x1, ex1⟩ : ∃ x1, x1 = qPt 5 ia D t m jn := ⟨_, rfl⟩
                    obtain ⟨y1, ey1⟩ : ∃ y1, y1 = qPt 5 ib D t m jn := ⟨_, rfl⟩
                    rw [← eX] at sx HRX ⊢
                    rw [← eY] at sy HRY ⊢
                    rw [← ex1] at cx hxb HRX
                    rw [← ey1] at cy hyb HRY
                    have wx1 : IntKind.i64.wrap (X * 5) = X * 5 := by exact IntWalk.i64_in _ (by omega)
                    have wy1 : IntKind.i64.wrap (Y * 5) = Y * 5 := by exact IntWalk.i64_in _ (by omega)
                    have wx2 : IntKind.i64.wrap (X * 5 + x1) = X * 5 + x1 := by exact IntWalk.i64_in _ (by omega)
                    have wy2 : IntKind.i64.wrap (Y * 5 + y1) = Y * 5 + y1 := by exact IntWalk.i64_in _ (by omega)
                    clear eX eY ex1 ey1 sx sy hxb hyb
                    go_upto_region 33 with fail
                    go_quiet (fail)
                    go_wp2_with fail
                    go_roundw
                    case rel => exact ⟨m + 1, by omega, by go_num, by rw [HRX.out], by rw [HRY.out], by first | exact HBM.out | exact Below.drewN HBM.out _⟩
                    case measure => simp [intOf]; omega
                  · have dm : decide (m < n) = false := decide_eq_false hlm
                    have hmn : m = n := by omega
                    have HMN := Lib.hid hmn
                    clear hmn
                    go_wp2_with fail
                    go_roundw
                    case rel => exact ⟨x + 1, by omega, by go_num, by rw [HMN.out, dg_step _ _ _ _ _ _ _ hxw HJN.out], by rw [HMN.out, dg_step _ _ _ _ _ _ _ hxw HJN.out], HBM.out⟩
                    case measure => simp [intOf]; omega
              · have dx : decide (x < t) = false := decide_eq_false hlx
                have hxt : who.take x = who := List.take_of_length_le (by rw [HWL.out]; omega)
                rw [hxt]
                obtain ⟨fa, efa⟩ : ∃ fa, fa = fvw ia t n who k := ⟨_, rfl⟩
                obtain ⟨fb, efb⟩ : ∃ fb, fb = fvw ib t n who k := ⟨_, rfl⟩
                obtain ⟨hfa, hfa2⟩ := fvw_bd (i := ia) (n := n) HWL.out k
                obtain ⟨hfb, hfb2⟩ := fvw_bd (i := ib) (n := n) HWL.out k
                rw [HKN.out, ← HDD.out, ← efa] at hfa2
                rw [HKN.out, ← HDD.out, ← efb] at hfb2
                rw [hfa2, hfb2]
                have hTn : T = 5 ^ K := by have := HT.out; have h2 : ((5 ^ K : Nat) : Int) = (5 : Int) ^ K := by simp
                                           omega
                have hfaT : fa < T := by rw [hTn, ← HKN.out, efa]; exact hfa
                have hfbT : fb < T := by rw [hTn, ← HKN.out, efb]; exact hfb
                have HFA := Lib.hid efa
                have HFB := Lib.hid efb
                clear hxt efa efb hfa hfb hfa2 hfb2 hTn
                have da1 : decide ((fa : Int) < 0) = false := decide_eq_false (by omega)
                have db1 : decide ((fb : Int) < 0) = false := decide_eq_false (by omega)
                have da2 : decide ((fa : Int) ≥ (T : Int)) = false := decide_eq_false (by omega)
                have db2 : decide ((fb : Int) ≥ (T : Int)) = false := decide_eq_false (by omega)
                have da3 : decide ((T : Int) ≤ (fa : Int)) = false := decide_eq_false (by omega)
                have db3 : decide ((T : Int) ≤ (fb : Int)) = false := decide_eq_false (by omega)
                have da4 : decide (T ≤ fa) = false := decide_eq_false (by omega)
                have db4 : decide (T ≤ fb) = false := decide_eq_false (by omega)
                have HK1w : Hid (BK wr b1 (cl (fvw ia t n who) T k)) := (show Hid _ from HK1e.out.below HBX.out HK1e.out.lt)
                have HK2w : Hid (BK wr b2 (cl (fvw ib t n who) T k)) := (show Hid _ from HK2e.out.below HBX.out HK2e.out.lt)
                obtain ⟨ca, eca⟩ : ∃ ca : Nat, ca = cn (fvw ia t n who) k fa := ⟨_, rfl⟩
                obtain ⟨cb, ecb⟩ : ∃ cb : Nat, cb = cn (fvw ib t n who) k fb := ⟨_, rfl⟩
                have hcak : ca ≤ k := by rw [eca]; exact cn_le _ _ _
                have hcbk : cb ≤ k := by rw [ecb]; exact cn_le _ _ _
                have ka : wr.cell? ⟨b1, fa, none⟩ = some (.int .i64 (ca : Int)) := by
                  have h1 := HK1w.out.cell (j := fa) (by rw [cl_len]; exact hfaT)
                  rw [cl_get, ← eca] at h1; exact h1
                have kfa : wr.frozen? ⟨b1, fa, none⟩ = false := HK1w.out.frozen fa
                have wca : IntKind.i64.wrap ((ca : Int) + 1) = (ca : Int) + 1 := by exact IntWalk.i64_in _ (by omega)
                have wcb : IntKind.i64.wrap ((cb : Int) + 1) = (cb : Int) + 1 := by exact IntWalk.i64_in _ (by omega)
                have ha1 : (0 : Int) ≤ (fa : Int) := by omega
                have ha2 : (fa : Int) < (T : Int) := by omega
                have hb1 : (0 : Int) ≤ (fb : Int) := by omega
                have hb2 : (fb : Int) < (T : Int) := by omega
                obtain ⟨ws, ews⟩ : ∃ ws : World, ws = wr.setCell ⟨b1, fa, none⟩ (.int .i64 ((ca : Int) + 1)) := ⟨_, rfl⟩
                have HWS2 : Hid (wr.setCell ⟨b1, fa, none⟩ (.int .i64 ((ca : Int) + 1)) = ws) := ews.symm
                have HKs1 : Hid (BK ws b1 (cl (fvw ia t n who) T (k + 1))) := (show Hid _ from by
                  rw [ews, ← cl_set, ← HFA.out, ← eca]; exact HK1w.out.set fa _)
                have HKs2 : Hid (BK ws b2 (cl (fvw ib t n who) T k)) := (show Hid _ from by
                  show _ = _
                  rw [ews, heap_setCell_other _ _ b2 _ (by show b2 ≠ b1; exact fun e => hne e.symm)]; exact HK2w.out)
                have HBs : Hid (Below B w10 ws) := (show Hid _ from by
                  rw [ews]
                  exact (HBe10.out.trans (HBX.out.mono (by have := HBe10.out.size; rw [← HBB.out] at this; exact this))).setCell (by exact hB1) _)
                have kb : ws.cell? ⟨b2, fb, none⟩ = some (.int .i64 (cb : Int)) := by
                  have h1 := HKs2.out.cell (j := fb) (by rw [cl_len]; exact hfbT)
                  rw [cl_get, ← ecb] at h1; exact h1
                have kfb : ws.frozen? ⟨b2, fb, none⟩ = false := HKs2.out.frozen fb
                have HKs3 : Hid (BK (ws.setCell ⟨b2, fb, none⟩ (.int .i64 ((cb : Int) + 1))) b2 (cl (fvw ib t n who) T (k + 1))) := (show Hid _ from by
                  rw [← cl_set, ← HFB.out, ← ecb]; exact HKs2.out.set fb _)
                clear eca ecb ews
                have HREL : Hid (Hi1 B b1 b2 w10 (fvw ia t n who) (fvw ib t n who) T (Value.int .i64 ((k : Int) + 1)) (ws.setCell ⟨b2, fb, none⟩ (.int .i64 ((cb : Int) + 1)))) := (show Hid _ from
                  ⟨k + 1, by omega, by go_num, by
                    show _ = _
                    rw [heap_setCell_other _ _ b1 _ (by show b1 ≠ b2; exact hne)]; exact HKs1.out, HKs3.out, HBs.out.setCell (by exact hB2) _⟩)
                go_upto_region 39 with fail
                rw [HWS2.out]
                go_wp2_with fail
                exact ⟨HREL.out, by simp [intOf]; omega⟩
          · have dk : decide (k < T) = false := decide_eq_false hlk
            have hkT : k = T := by omega
            subst hkT
            have HBwr : Hid (Below w.heap.size w wr) := HBw10.out.trans (HBr.out.mono HBW.out)
            have hkn : k = 5 ^ (n * t) := by
              have := HT.out; have h2 : ((5 ^ K : Nat) : Int) = (5 : Int) ^ K := by simp
              rw [HKN.out]; omega
            have hbw : ∀ j ∈ who, 0 ≤ j ∧ j < 4 := fun j hj => by have := HWB.out j hj; omega
            have HC1 : Hid (∀ j, j < k → wr.cell? ⟨b1, j, none⟩ = some (.int .i64 1)) := (show Hid _ from fun j hj => by
              have h1 := HK1r.out.cell (j := j) (by rw [cl_len]; exact hj)
              rw [cl_get, cn_one (fun x hx => by have := (fvw_bd (i := ia) (n := n) HWL.out x).1; omega) (fun x x' hx hx' e => fvw_inj HWL.out HWN.out hbw (by omega) (by omega) e) hj] at h1
              exact h1)
            have HC2 : Hid (∀ j, j < k → wr.cell? ⟨b2, j, none⟩ = some (.int .i64 1)) := (show Hid _ from fun j hj => by
              have h1 := HK2r.out.cell (j := j) (by rw [cl_len]; exact hj)
              rw [cl_get, cn_one (fun x hx => by have := (fvw_bd (i := ib) (n := n) HWL.out x).1; omega) (fun x x' hx hx' e => fvw_inj HWL.out HWN.out hbw (by omega) (by omega) e) hj] at h1
              exact h1)
            clear hkn hbw HK1r HK2r
            obtain ⟨wq, ewq⟩ : ∃ wq : World, wq = wr := ⟨_, rfl⟩
            rw [← ewq] at HC1 HC2 HBwr ⊢
            clear ewq
            go_wp2_with fail
            go_loopw [232] (fun iv wz => ∃ j : Nat, j ≤ k ∧ iv = .int .i64 j ∧ wq = wz) (fun iv _ => k - (intOf iv).toNat)
            case atStart => exact ⟨0, Nat.zero_le _, rfl, rfl⟩
            case round =>
              obtain ⟨j, hj, rfl, rfl⟩ := hrel
              by_cases hlj : j < k
              · have dj : decide (j < k) = true := decide_eq_true hlj
                have k1 := HC1.out j hlj
                have k2 := HC2.out j hlj
                go_wp2_with fail
                go_roundw
                case rel => exact ⟨j + 1, by omega, by go_num, by simp⟩
                case measure => simp [intOf]; omega
              · have dj : decide (j < k) = false := decide_eq_false hlj
                go_wp2_with fail
                go_ret
                exact ⟨rfl, HBwr.out⟩
  · have d5 : decide (l.length ≤ 500) = false := decide_eq_false h5
    rw [d5]
    clear d5 h5
    go_wp2_with fail
    go_ret
    exact ⟨rfl, HB1.out⟩
end Go.Proofs.YtbgabipngdillaaGreatDoor
