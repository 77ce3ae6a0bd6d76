/- Joined: Hd. -/
import Derived.Test.YtoiabanpnkpbhaaGreatDoorZ42
import Derived.Test.YtoiabanpnkpbhaaGreatDoorZ43
import Derived.Test.YtoiabanpnkpbhaaGreatDoorZ32
import Derived.Test.YtoiabanpnkpbhaaGreatDoorZ27
import Derived.Test.YtoiabanpnkpbhaaGreatDoorZ22
import Derived.Test.YtoiabanpnkpbhaaGreatDoorZ29
import Derived.Test.YtoiabanpnkpbhaaGreatDoorZ33
namespace Go.Proofs.YtoiabanpnkpbhaaGreatDoor
open Go.RowKit

theorem i64_3 : i64r 3 := by unfold i64r; omega
theorem i64_2 : i64r 2 := by unfold i64r; omega
/-- two blocks of ints, known whole, above B; everything below B as before -/
def Two (B : Nat) (w0 : World) (T : Nat) (x y : List Int) (o1 o2 : Value) (w : World) : Prop :=
  ∃ b1 b2, o1 = .slice (some ⟨b1, 0, none⟩) T T ∧ o2 = .slice (some ⟨b2, 0, none⟩) T T ∧ b1 ≠ b2 ∧ B ≤ b1 ∧ B ≤ b2 ∧ BK w b1 x ∧ BK w b2 y ∧ Below B w0 w
theorem two_start (w : World) (T : Nat) : ∃ w', w' = ((w.alloc (.cells ((zeros T).map (Value.int .i64)).toArray 3)).alloc (.cells ((zeros T).map (Value.int .i64)).toArray 3)).drew ∧
    BK w' w.heap.size (zeros T) ∧ BK w' (w.heap.size + 1) (zeros T) ∧ Below w.heap.size w w' := by
  refine ⟨_, rfl, ?_, ?_, ?_⟩
  · show ((w.alloc (.cells ((zeros T).map (Value.int .i64)).toArray 3)).alloc (.cells ((zeros T).map (Value.int .i64)).toArray 3)).heap[w.heap.size]? = _
    rw [Below.heap_alloc _ _ _ (by simp)]; exact heap_alloc_new w _
  · show ((w.alloc (.cells ((zeros T).map (Value.int .i64)).toArray 3)).alloc (.cells ((zeros T).map (Value.int .i64)).toArray 3)).heap[w.heap.size + 1]? = _
    have := heap_alloc_new (w.alloc (.cells ((zeros T).map (Value.int .i64)).toArray 3)) (.cells ((zeros T).map (Value.int .i64)).toArray 3)
    simpa using this
  · exact (((Below.refl _ w).alloc (Nat.le_refl _) _).alloc (by simp) _).drew
theorem cell_lt {w : World} {a : Addr} {v : Value} (h : w.cell? a = some v) : a.block < w.heap.size := by
  unfold World.cell? at h
  split at h
  · rename_i e; exact (Array.getElem?_eq_some_iff.1 e).1
  · cases h
def cl (f : Nat → Nat) (T k : Nat) : List Int := (List.range T).map fun u => (cn f k u : Int)
theorem cl_len (f : Nat → Nat) (T k : Nat) : (cl f T k).length = T := by simp [cl]
theorem cl_get (f : Nat → Nat) (T k u : Nat) (h : u < (cl f T k).length) : (cl f T k)[u] = (cn f k u : Int) := by simp [cl]
theorem cl_zero (f : Nat → Nat) (T : Nat) : cl f T 0 = zeros T := by
  refine List.ext_getElem (by rw [cl_len]; simp [zeros]) fun u h1 h2 => ?_
  rw [cl_get]; simp [cn, zeros]
theorem cl_set (f : Nat → Nat) (T k : Nat) : (cl f T k).set (f k) ((cn f k (f k) : Int) + 1) = cl f T (k + 1) := by
  refine List.ext_getElem (by rw [List.length_set, cl_len, cl_len]) fun u h1 h2 => ?_
  rw [cl_get, cn_succ, List.getElem_set]
  by_cases h : f k = u
  · rw [if_pos h, if_pos h, h]; omega
  · rw [if_neg h, if_neg h, cl_get]; omega
theorem cn_le (f : Nat → Nat) (k u : Nat) : cn f k u ≤ k := by
  unfold cn
  have := List.count_le_length (a := u) (l := (List.range k).map f)
  simpa using this
theorem v7_small {L : List Int} (h : els 7 L = true) (hl : L.length ≤ 4) : 0 ≤ v7 L ∧ v7 L ≤ 2401 := by
  have h1 := v7_bd L h
  have h2 := seven_le hl
  omega
def Hi1 (B b1 b2 : Nat) (w0 : World) (f1 f2 : Nat → Nat) (T : Nat) (kv : Value) (wr : World) : Prop :=
  ∃ k : Nat, k ≤ T ∧ kv = .int .i64 k ∧ BK wr b1 (cl f1 T k) ∧ BK wr b2 (cl f2 T k) ∧ Below B w0 wr
theorem dg_small {i : Int} {D : List Int} {t G n x m jn : Nat} {who : List Int} (hx : x < t) (ht : t ≤ 2) (hn : n ≤ 2) (hm : m ≤ n) : 0 ≤ v7 (dgt i D t G n (who.take x) ++ row7 i D t G m jn) ∧ v7 (dgt i D t G n (who.take x) ++ row7 i D t G m jn) ≤ 2401 := by
  refine v7_small (els_of fun y hy => ?_) ?_
  · rcases List.mem_append.1 hy with h | h
    · exact els_all (dgt_els ..) y h
    · exact els_all (row7_els ..) y h
  · rw [List.length_append, dgt_len, row7_len, List.length_take]
    have h1 : min x who.length * n ≤ 1 * n := Nat.mul_le_mul_right n (by omega)
    omega
theorem dg_step (i : Int) (D : List Int) (t G n x jn : Nat) (who : List Int) (hx : x < who.length) (hj : who[x] = (jn : Int)) : dgt i D t G n (who.take (x + 1)) = dgt i D t G n (who.take x) ++ row7 i D t G n jn := by
  rw [← List.take_append_getElem hx, dgt_snoc, hj, Int.toNat_natCast]
theorem dg_row (i : Int) (D : List Int) (t G n x m jn : Nat) (who : List Int) : v7 (dgt i D t G n (who.take x) ++ row7 i D t G (m + 1) jn) = v7 (dgt i D t G n (who.take x) ++ row7 i D t G m jn) * 7 + gPt 7 i D t G m ((jn : Int) + 1) := by
  rw [row7_succ, ← List.append_assoc, v7_snoc]
theorem dg_zero (i : Int) (D : List Int) (t G n x jn : Nat) (who : List Int) : v7 (dgt i D t G n (who.take x)) = v7 (dgt i D t G n (who.take x) ++ row7 i D t G 0 jn) := by simp [row7]
def Hi2 (ia ib : Nat) (D : List Int) (t G n : Nat) (who : List Int) (we : World) (u v iv : Value) (wz : World) : Prop :=
  ∃ x : Nat, x ≤ t ∧ iv = .int .i64 x ∧ u = .int .i64 (v7 (dgt ia D t G n (who.take x))) ∧ v = .int .i64 (v7 (dgt ib D t G n (who.take x))) ∧ Below we.heap.size we wz
def Hi3 (ia ib : Nat) (D : List Int) (t G n x jn : Nat) (who : List Int) (we : World) (u v iv : Value) (wz : World) : Prop :=
  ∃ m : Nat, m ≤ n ∧ iv = .int .i64 m ∧ u = .int .i64 (v7 (dgt ia D t G n (who.take x) ++ row7 ia D t G m jn)) ∧ v = .int .i64 (v7 (dgt ib D t G n (who.take x) ++ row7 ib D t G m jn)) ∧ Below we.heap.size we wz
theorem seven_le2 {k : Nat} (h : k ≤ 2) : (7 : Int) ^ k ≤ 49 := by
  match k, h with
  | 0, _ => decide
  | 1, _ => decide
  | 2, _ => decide
/-- the elements of the queries, each read out of memory, whatever comes behind -/
theorem sle_elB {P want : Int} {D : List Int} {t G n m c g : Nat} {w : World} {A : Option Addr} (h : SLE g w (.slice A n c) (gRows P want D t G n m)) (hn : 0 < n) (hm : 0 < m) :
    ∃ b o, A = some ⟨b, o, none⟩ ∧ ∀ j, j < n → ∃ b2 o2 d2, ∀ W, Below w.heap.size w W → W.cell? ⟨b, o + j, none⟩ = some (.slice (some ⟨b2, o2, none⟩) m d2) ∧ ∀ q, q < m → W.cell? ⟨b2, o2 + q, none⟩ = some (.int .i64 (gPt P want D t G q ((j : Int) + 1))) := by
  obtain ⟨b, o, e, hh⟩ := sle_el h hn hm
  refine ⟨b, o, e, fun j hj => ?_⟩
  obtain ⟨b2, o2, d2, h1, h2⟩ := hh j hj
  exact ⟨b2, o2, d2, fun W hb => ⟨(hb.cell (cell_lt h1)).trans h1, fun q hq => (hb.cell (cell_lt (h2 q hq))).trans (h2 q hq)⟩⟩
theorem pr7p : prB 7 = true := by kernel_rfl
set_option maxRecDepth 100000 in
set_option maxHeartbeats 16000000 in
theorem ghides_any (l : List Int) (a b : Nat) (v : Value) (w : World) (ha : a < 256) (hb : b < 256) (h : SI w v l) (hE : EW w) :
    Calls Tryz.prog 4 #[v, .int .u8 a, .int .u8 b] w fun e w' => e = .returned (.bool true) ∧ Below w.heap.size w w' := by
  have HS := Lib.hid h
  have HE := Lib.hid hE
  obtain ⟨A, c, rfl⟩ := h.form
  clear h hE
  go_enter Tryz.func4, Tryz.ntmps4
  go_wp2_with fail
  (with_reducible refine (sane_any _ HE.out).mono ?_)
  rintro e w1 ⟨rfl, hb1⟩
  have HB1 := Lib.hid hb1
  have HS1 := Lib.hid (HS.out.below hb1)
  clear hb1
  go_wp2_with fail
  (with_reducible refine (few_any l _ w1 HS1.out).mono ?_)
  rintro e wz ⟨rfl, hwz⟩
  subst hwz
  by_cases h5 : l.length ≤ 500
  case' neg =>
    have d5 : decide (l.length ≤ 500) = false := decide_eq_false h5
    rw [d5]
    clear d5 h5
    go_wp2_with fail
    go_ret
    exact ⟨rfl, HB1.out⟩
  have d5 : decide (l.length ≤ 500) = true := decide_eq_true h5
  rw [d5]
  clear d5 h5
  go_wp2_with fail
  (with_reducible refine (new_any l _ w1 HS1.out).mono ?_)
  rintro e w2 ⟨rfl, hd2, hb2, hz2⟩
  obtain ⟨g, eg⟩ : ∃ g, g = w1.heap.size := ⟨_, rfl⟩
  rw [← eg] at hd2 ⊢
  have HD2 := Lib.hid hd2
  have HB2 : Hid (Below w.heap.size w w2) := HB1.out.trans (hb2.mono HB1.out.size)
  have HGW : Hid (w.heap.size ≤ g) := (show Hid _ from by rw [eg]; exact HB1.out.size)
  have HG2 : Hid (g < w2.heap.size) := hd2.lt
  clear hd2 hb2 hz2 eg
  go_wp2_with fail
  (with_reducible refine (next_any 2 g w2 HD2.out i64_2 (by omega)).mono ?_)
  rintro e w3 ⟨x, rfl, _, hx, hd3, hg3⟩
  obtain ⟨hx1, hx2⟩ := hx (by omega)
  obtain ⟨t, et⟩ : ∃ t : Nat, (t : Int) = 1 + x := ⟨(1 + x).toNat, by omega⟩
  have ht1 : 1 ≤ t := by omega
  have ht2 : t ≤ 2 := by omega
  have m1 : IntKind.i64.wrap (1 + x) = (t : Int) := by rw [et]; exact IntWalk.i64_in _ (by omega)
  have HD3 := Lib.hid hd3
  have HG23 : Hid (w2.grownBy w3 (some g)) := hg3
  clear hx hx1 hx2 hd3 hg3 et
  go_wp2_with fail
  (with_reducible refine (next_any 2 g w3 HD3.out i64_2 (by omega)).mono ?_)
  rintro e w4 ⟨y, rfl, _, hy, hd4, hg4⟩
  obtain ⟨hy1, hy2⟩ := hy (by omega)
  obtain ⟨G, eG⟩ : ∃ G : Nat, (G : Int) = 1 + y := ⟨(1 + y).toNat, by omega⟩
  have hG1 : 1 ≤ G := by omega
  have hG2 : G ≤ 2 := by omega
  have m2 : IntKind.i64.wrap (1 + y) = (G : Int) := by rw [eG]; exact IntWalk.i64_in _ (by omega)
  have HD4 := Lib.hid hd4
  have HG24 : Hid (w2.grownBy w4 (some g)) := (show Hid _ from grownBy_trans HG23.out hg4)
  clear hy hy1 hy2 hd4 hg4 eG
  obtain ⟨p, ep⟩ : ∃ p, p = w4.heap.size := ⟨_, rfl⟩
  obtain ⟨w5, ew5⟩ : ∃ w5 : World, w5 = w4.alloc (.cells #[.int .i64 0, .int .i64 t, .int .i64 G] 29) := ⟨_, rfl⟩
  have HWw5 : Hid (w4.alloc (.cells #[.int .i64 0, .int .i64 t, .int .i64 G] 29) = w5) := ew5.symm
  have HAw5 : Hid (Below w4.heap.size w4 w5) := (show Hid _ from by rw [ew5]; exact (Below.refl _ w4).alloc (Nat.le_refl _) _)
  have Hp0w5 : Hid (w5.heap[p]? = some (.cells #[.int .i64 0, .int .i64 t, .int .i64 G] 29 (0, 0))) := (show Hid _ from by show _ = _; rw [ew5, ep]; exact heap_alloc_new w4 _)
  have HGP : Hid (g < p) := (show Hid _ from by rw [ep]; exact HD4.out.lt)
  have HD5 := Lib.hid (HD4.out.below HAw5.out)
  have HG25 : Hid (w2.grownBy w5 (some g)) := (show Hid _ from grownBy_trans HG24.out (grownBy_of_below HAw5.out _))
  have HPP := Lib.hid ep
  go_upto_region 7 with fail
  first | rw [HWw5.out, ← ep] | rw [m1, m2, HWw5.out, ← ep] | rw [m2, HWw5.out, ← ep]
  clear ep ew5 m1 m2
  have HN5 : Hid (∀ W : World, Dk W g → Calls Tryz.prog 13 #[.pointer (some ⟨g, 0, none⟩), .int .i64 2] W fun e w' => ∃ x, e = .returned (.int .i64 x) ∧ (0 ≤ x ∧ x ≤ 1) ∧ Dk w' g ∧ W.grownBy w' (some g)) := (show Hid _ from fun W h => (next_any 2 g W h i64_2 (by omega)).mono fun e w' ⟨x, h1, _, h2, h3, h4⟩ => by
    obtain ⟨h5, h6⟩ := h2 (by omega)
    exact ⟨x, h1, ⟨h5, by omega⟩, h3, h4⟩)
  apply regHx7 g p t G w5 ⟨hG1, hG2⟩ ⟨ht1, ht2⟩ HGP.out Hp0w5.out HD5.out HN5.out
  rintro u47 u48 u49 u50 u51 u52 u53 u54 u55 u56 u57 u58 S w5b w6 ⟨⟨hS6, hSv⟩, hp6, hd6, hg5b, hg6⟩
  have hSt : t ≤ S := by omega
  have HP6 : Hid (w6.heap[p]? = some (.cells #[.int .i64 S, .int .i64 t, .int .i64 G] 29 (0, 0))) := (show Hid _ from hp6)
  have HD6 := Lib.hid hd6
  have hp2 : w2.heap.size ≤ p := by have := HPP.out; have := HG24.out.size; omega
  have HG26 : Hid (w2.grownBy w6 (some g)) := (show Hid _ from grownBy_own (grownBy_trans HG25.out hg5b) hg6 (fun k hk => by injection hk with e; omega))
  clear hp6 hd6 hg5b hg6 HN5
  obtain ⟨F, eF⟩ : ∃ F, F = w6.heap.size := ⟨_, rfl⟩
  obtain ⟨w7, ew7⟩ : ∃ w7 : World, w7 = w6.alloc (.cells #[.int .i64 7] 31) := ⟨_, rfl⟩
  have HWw7 : Hid (w6.alloc (.cells #[.int .i64 7] 31) = w7) := ew7.symm
  have HAw7 : Hid (Below w6.heap.size w6 w7) := (show Hid _ from by rw [ew7]; exact (Below.refl _ w6).alloc (Nat.le_refl _) _)
  have HF0w7 : Hid (w7.heap[F]? = some (.cells #[.int .i64 7] 31 (0, 0))) := (show Hid _ from by show _ = _; rw [ew7, eF]; exact heap_alloc_new w6 _)
  have HP7 : Hid (w7.heap[p]? = some (.cells #[.int .i64 S, .int .i64 t, .int .i64 G] 29 (0, 0))) := (show Hid _ from (HAw7.out.block p (heap_of_cells HP6.out)).trans HP6.out)
  have HD7 := Lib.hid (HD6.out.below HAw7.out)
  have HG27 : Hid (w2.grownBy w7 (some g)) := grownBy_trans HG26.out (grownBy_of_below HAw7.out _)
  have HpF : Hid (p < F) := (show Hid _ from by rw [eF]; exact heap_of_cells HP6.out)
  go_upto_region 9 with fail
  rw [HWw7.out, ← eF]
  clear ew7 eF
  have HXP : Hid (∀ W, w7.grownBy W (some g) → W.cell? ⟨F, 0, none⟩ = some (.int .i64 7) ∧ W.cell? ⟨p, 0, none⟩ = some (.int .i64 S) ∧ W.cell? ⟨p, 1, none⟩ = some (.int .i64 t) ∧ W.cell? ⟨p, 2, none⟩ = some (.int .i64 G) ∧ W.heap[p]? = some (.cells #[.int .i64 S, .int .i64 t, .int .i64 G] 29 (0, 0)) ∧ W.heap[F]? = some (.cells #[.int .i64 7] 31 (0, 0))) := (show Hid _ from fun W hg => by
    have h1 := (hg.block p (heap_of_cells HP7.out) (by have := HGP.out; simp; omega)).trans HP7.out
    have h2 := (hg.block F (heap_of_cells HF0w7.out) (by have := HGP.out; have := HpF.out; simp; omega)).trans HF0w7.out
    exact ⟨cell_of_row W F 0 _ _ _ h2, cell_of_row W p 0 _ _ _ h1, cell_of_row W p 1 _ _ _ h1, cell_of_row W p 2 _ _ _ h1, h1, h2⟩)
  obtain ⟨f0, p0, p1, p2, _, _⟩ := HXP.out w7 (grownBy_refl _ _)
  obtain ⟨z3, ez3⟩ : ∃ z3 : Int, z3 = 3 - (t : Int) := ⟨_, rfl⟩
  have m3 : IntKind.i64.wrap (3 - (t : Int)) = z3 := by rw [ez3]; exact IntWalk.i64_in _ (by omega)
  have hz3 : 1 ≤ z3 ∧ z3 ≤ 2 ∧ (t = 2 → z3 = 1) := by omega
  clear ez3
  go_wp2_with fail
  (with_reducible refine (next_any z3 g w7 HD7.out (by unfold i64r; omega) (by omega)).mono ?_)
  rintro e w8 ⟨z, rfl, _, hz, hd8, hg8⟩
  obtain ⟨hz1, hz2⟩ := hz (by omega)
  obtain ⟨n, en⟩ : ∃ n : Nat, (n : Int) = 1 + z := ⟨(1 + z).toNat, by omega⟩
  have hn1 : 1 ≤ n := by omega
  have hn2 : n ≤ 2 := by omega
  have hnt : t = 2 → n = 1 := by omega
  have wn : IntKind.i64.wrap (1 + z) = (n : Int) := by rw [en]; exact IntWalk.i64_in _ (by omega)
  have HD8 := Lib.hid hd8
  have HG78 : Hid (w7.grownBy w8 (some g)) := hg8
  have HG28 : Hid (w2.grownBy w8 (some g)) := grownBy_trans HG27.out hg8
  clear hz hz1 hz2 hd8 hg8 en hz3 m3 f0 p0 p1 p2
  obtain ⟨f0, p0, p1, p2, _, _⟩ := HXP.out w8 HG78.out
  have HSV : Hid (SV 7 S t G) := (show Hid _ from ⟨pr7p, by omega, by omega, by omega, by omega, by omega, by omega⟩)
  obtain ⟨K, eK⟩ : ∃ K, K = n * t := ⟨_, rfl⟩
  have hK2 : K ≤ 2 := by
    rw [eK]
    rcases Nat.lt_or_ge t 2 with h1 | h1
    · have e1 : t = 1 := by omega
      rw [e1]; omega
    · rw [hnt (by omega)]; omega
  have hK4 : K ≤ 4 := by omega
  have HKM : Hid (K = n * t) := eK
  have HKN : Hid (n * t = K) := eK.symm
  go_wp2_with fail
  (with_reducible refine (glimits_ok 7 S t G n K t w8 HSV.out ⟨by omega, by omega⟩ rfl eK).mono ?_)
  rintro e w9 ⟨Al, cal, rfl, hb9, hol9⟩
  have HSE9 : Hid (SE g w9 (.slice Al K cal) (List.replicate K 7)) := (show Hid _ from SE.of_own hol9 (fun x hx => by rw [(List.mem_replicate.1 hx).2]; unfold i64r; omega) HD8.out.lt)
  have HG79 : Hid (w7.grownBy w9 (some g)) := (show Hid _ from grownBy_trans HG78.out (grownBy_of_below hb9 _))
  have HD9 := Lib.hid (HD8.out.below hb9)
  have HG29 : Hid (w2.grownBy w9 (some g)) := grownBy_trans HG28.out (grownBy_of_below hb9 _)
  clear hb9 hol9 eK f0 p0 p1 p2 hnt
  go_wp2_with fail
  (with_reducible refine (count7_any K _ w9 hK4 HSE9.out.si).mono ?_)
  rintro e wz ⟨rfl, hwz⟩
  subst hwz
  have hT1 := seven_le2 hK2
  have hT0 := seven_pos K
  obtain ⟨T, eT⟩ : ∃ T : Nat, (T : Int) = 7 ^ K := ⟨7 ^ K, by simp⟩
  have HT := Lib.hid eT
  rw [← eT] at hT1 hT0 ⊢
  clear eT
  have dT : decide (1000 < (T : Int)) = false := decide_eq_false (by omega)
  have dT2 : decide (1000 < T) = false := decide_eq_false (by omega)
  obtain ⟨f0, p0, p1, p2, hp9, hf9⟩ := HXP.out w9 HG79.out
  have HP9 := Lib.hid hp9
  have HF9 := Lib.hid hf9
  clear hp9 hf9
  go_upto_region 14 with fail
  clear dT dT2 f0 p0 p1 p2
  have HORD : Hid (∀ W : World, Dk W g → Calls Tryz.prog 16 #[.pointer (some ⟨g, 0, none⟩), .int .i64 S] W fun e w' => ∃ (v : Value) (O : List Int), e = .returned v ∧ O.Perm (nums S) ∧ w'.ownsRow W.heap.size 3 1 v O.length (O.map (Value.int .i64)) ∧ Dk w' g ∧ W.grownBy w' (some g)) := (show Hid _ from fun W h => order_any S g W h (by omega))
  have HX9 : Hid (∀ W, w9.grownBy W (some g) → W.cell? ⟨p, 0, none⟩ = some (.int .i64 S) ∧ W.cell? ⟨p, 1, none⟩ = some (.int .i64 t)) := (show Hid _ from fun W hg => by
    obtain ⟨_, h1, h2, _⟩ := HXP.out W (grownBy_trans HG79.out hg)
    exact ⟨h1, h2⟩)
  apply regHx14 g p S t w9 ⟨ht1, hSt, by omega⟩ HX9.out HD9.out HORD.out
  rintro u15 u88 u89 u90 u91 u92 u93 u94 Ao co O w10 ⟨rfl, hperm, hS10, hd10, hg10⟩
  have HG10 : Hid (w9.grownBy w10 (some g)) := hg10
  obtain ⟨_, _, _, _, hp10, hf10⟩ := HXP.out w10 (grownBy_trans HG79.out hg10)
  have HP10 := Lib.hid hp10
  have HF10 := Lib.hid hf10
  have HSL : Hid (SI w10 (.slice Al K cal) (List.replicate K 7)) := (show Hid _ from (HSE9.out.grown hg10).si)
  obtain ⟨who, ewho⟩ : ∃ who, who = O.take t := ⟨_, rfl⟩
  have hOl : O.length = S := by have h1 := hperm.length_eq; rwa [nums_len] at h1
  have HWL : Hid (who.length = t) := (show Hid _ from by show _ = _; rw [ewho, List.length_take]; omega)
  have HWN : Hid (who.Nodup) := (show Hid _ from by rw [ewho]; exact List.Sublist.nodup (List.take_sublist t O) (hperm.nodup_iff.2 (nums_nodup S)))
  have HWB : Hid (∀ j ∈ who, 0 ≤ j ∧ j < (S : Int)) := (show Hid _ from fun j hj => nums_bd S j (hperm.mem_iff.1 (List.mem_of_mem_take (by rw [ewho] at hj; exact hj))))
  have HWS : Hid (SI w10 (.slice Ao t co) who) := (show Hid _ from by rw [ewho]; exact hS10.si)
  have HBw10 : Hid (Below w.heap.size w w10) := (show Hid _ from HB2.out.grown (grownBy_trans HG29.out HG10.out) (HB2.out.size) (fun k hk => by injection hk with e; subst e; exact HGW.out))
  have HG10g : Hid (g < w10.heap.size) := (show Hid _ from hd10.lt)
  clear ewho hOl hperm hS10 hd10 hg10 hp10 hf10 HORD HX9
  have hmk := mk_ints T (by omega)
  go_upto_region 15 with fail
  go_cut [16, 17] (fun o1 o2 wx => Two w10.heap.size w10 T (zeros T) (zeros T) o1 o2 wx)
  case first =>
    obtain ⟨w11, ew11, hk1, hk2, hb11⟩ := two_start w10 T
    have HWE : Hid (((w10.alloc (.cells ((zeros T).map (Value.int .i64)).toArray 3)).alloc (.cells ((zeros T).map (Value.int .i64)).toArray 3)).drew = w11) := ew11.symm
    have HTA : Hid (Two w10.heap.size w10 T (zeros T) (zeros T) (.slice (some ⟨w10.heap.size, 0, none⟩) T T) (.slice (some ⟨w10.heap.size + 1, 0, none⟩) T T) w11) := (show Hid _ from ⟨_, _, rfl, rfl, by omega, by omega, by omega, hk1, hk2, hb11⟩)
    have HTB : Hid (Two w10.heap.size w10 T (zeros T) (zeros T) (.slice (some ⟨w10.heap.size + 1, 0, none⟩) T T) (.slice (some ⟨w10.heap.size, 0, none⟩) T T) w11) := (show Hid _ from ⟨_, _, rfl, rfl, by omega, by omega, by omega, hk2, hk1, hb11⟩)
    clear ew11 hk1 hk2 hb11
    go_region
    all_goals
      rw [HWE.out]
      go_wp2_with fail
      go_meet
      first | exact HTA.out | exact HTB.out
  case rest =>
    obtain ⟨b1, b2, e1, e2, hne, hB1, hB2, hk1, hk2, hbel⟩ := hcut
    subst e1 e2
    have hn0 : ¬ n = 0 := by omega
    have hn0' : ¬ (n : Int) = 0 := by omega
    obtain ⟨ea1, ea2⟩ := u8_tmod a n (by omega)
    obtain ⟨eb1, eb2⟩ := u8_tmod b n (by omega)
    rw [Int.toNat_natCast] at ea1 ea2 eb1 eb2
    obtain ⟨ia, eia⟩ : ∃ i, i = a % n := ⟨_, rfl⟩
    obtain ⟨ib, eib⟩ : ∃ i, i = b % n := ⟨_, rfl⟩
    rw [← eia] at ea1 ea2
    rw [← eib] at eb1 eb2
    have wi : IntKind.i64.wrap ((ia : Nat) : Int) = (ia : Int) := by exact IntWalk.i64_in _ (by omega)
    have wk : IntKind.i64.wrap ((ib : Nat) : Int) = (ib : Int) := by exact IntWalk.i64_in _ (by omega)
    have wa_ : IntKind.i64.wrap ((a : Nat) : Int) = (a : Int) := by exact IntWalk.i64_in _ (by omega)
    have wb_ : IntKind.i64.wrap ((b : Nat) : Int) = (b : Int) := by exact IntWalk.i64_in _ (by omega)
    have HIA := Lib.hid eia
    have HIB := Lib.hid eib
    clear eia eib
    obtain ⟨B, eB⟩ : ∃ B, B = w10.heap.size := ⟨_, rfl⟩
    have HBW : Hid (w.heap.size ≤ B) := (show Hid _ from by rw [eB]; exact HBw10.out.size)
    rw [← eB] at hB1 hB2 hbel
    have HSLB : Hid (SB B w10 (.slice Al K cal) (List.replicate K 7)) := (show Hid _ from by rw [eB]; exact HSL.out)
    have HWSB : Hid (SB B w10 (.slice Ao t co) who) := (show Hid _ from by rw [eB]; exact HWS.out)
    have hpB : p < B := by rw [eB]; exact heap_of_cells HP10.out
    have hFB : F < B := by rw [eB]; exact heap_of_cells HF10.out
    have HBB := Lib.hid eB
    have HK1 := Lib.hid hk1
    have HK2 := Lib.hid hk2
    have HBEL := Lib.hid hbel
    clear hk1 hk2 hbel eB hmk
    go_wp2_with fail
    go_loopw [18] (fun kv wr => Hi1 B b1 b2 w10 (fvw ia t G n who) (fvw ib t G n who) T kv wr) (fun kv _ => T - (intOf kv).toNat)
    case atStart => exact ⟨0, Nat.zero_le _, rfl, by rw [cl_zero]; exact HK1.out, by rw [cl_zero]; exact HK2.out, HBEL.out⟩
    case round =>
      obtain ⟨k, hk, rfl, hk1, hk2, hbel⟩ := hrel
      have HK1r := Lib.hid hk1
      have HK2r := Lib.hid hk2
      have HBr := Lib.hid hbel
      clear hk1 hk2 hbel
      by_cases hlk : k < T
      · have dk : decide (k < T) = true := decide_eq_true hlk
        have HBwr : Hid (Below w.heap.size w wr) := HBw10.out.trans (HBr.out.mono HBW.out)
        have HAT := Lib.hid (at7_any K k (.slice Al K cal) wr hK4 (by rw [← HT.out]; omega) ((HSLB.out.below HBr.out).si (by have := HBr.out.size; rw [← HBB.out] at this; exact this)))
        have HPr : Hid (wr.heap[p]? = some (.cells #[.int .i64 S, .int .i64 t, .int .i64 G] 29 (0, 0))) := (show Hid _ from (HBr.out.block p hpB).trans HP10.out)
        have HFr : Hid (wr.heap[F]? = some (.cells #[.int .i64 7] 31 (0, 0))) := (show Hid _ from (HBr.out.block F hFB).trans HF10.out)
        go_wp2_with fail
        (with_reducible refine HAT.out.mono ?_)
        rintro e w11 ⟨v1, rfl, hb11, hown⟩
        have HSD11 : Hid (SI w11 v1 (digs K k)) := (show Hid _ from SI.of_own hown (fun x hx => by have := el_t (els_all (digs_els K k) x hx); unfold i64r; omega))
        obtain ⟨A1, c1, ev1⟩ := HSD11.out.form'
        subst ev1
        obtain ⟨D, eD⟩ : ∃ D, D = digs K k := ⟨_, rfl⟩
        have hDl : D.length = K := by rw [eD, digs_len]
        have HDL := Lib.hid hDl
        rw [digs_len] at HSD11 ⊢
        rw [← eD] at HSD11
        have HDE : Hid (els 7 D = true) := (show Hid _ from by rw [eD]; exact digs_els K k)
        have HDD := Lib.hid eD
        have HP11 : Hid (w11.heap[p]? = some (.cells #[.int .i64 S, .int .i64 t, .int .i64 G] 29 (0, 0))) := (show Hid _ from (hb11.block p (heap_of_cells HPr.out)).trans HPr.out)
        have HF11 : Hid (w11.heap[F]? = some (.cells #[.int .i64 7] 31 (0, 0))) := (show Hid _ from (hb11.block F (heap_of_cells HFr.out)).trans HFr.out)
        have HB11 := Lib.hid hb11
        clear hb11 hown eD hDl HAT
        obtain ⟨q, eq⟩ : ∃ q, q = w11.heap.size := ⟨_, rfl⟩
        obtain ⟨w12, ew12⟩ : ∃ w12 : World, w12 = w11.alloc (.cells #[.slice A1 K c1, .int .i64 0] 45) := ⟨_, rfl⟩
        have HW12 : Hid (w11.alloc (.cells #[.slice A1 K c1, .int .i64 0] 45) = w12) := ew12.symm
        have HQ12 : Hid (w12.heap[q]? = some (.cells #[.slice A1 K c1, .int .i64 0] 45 (0, 0))) := (show Hid _ from by show _ = _; rw [ew12, eq]; exact heap_alloc_new w11 _)
        have HB12' : Hid (Below w11.heap.size w11 w12) := (show Hid _ from by rw [ew12]; exact (Below.refl _ w11).alloc (Nat.le_refl _) _)
        have HB12 : Hid (Below wr.heap.size wr w12) := (show Hid _ from HB11.out.trans (HB12'.out.mono HB11.out.size))
        have HP12 : Hid (w12.heap[p]? = some (.cells #[.int .i64 S, .int .i64 t, .int .i64 G] 29 (0, 0))) := (show Hid _ from (HB12'.out.block p (heap_of_cells HP11.out)).trans HP11.out)
        have HF12 : Hid (w12.heap[F]? = some (.cells #[.int .i64 7] 31 (0, 0))) := (show Hid _ from (HB12'.out.block F (heap_of_cells HF11.out)).trans HF11.out)
        have HSD12 := Lib.hid (HSD11.out.below HB12'.out)
        have HQQ := Lib.hid eq
        go_upto_region 20 with fail
        rw [HW12.out, ← eq]
        clear eq ew12
        have HQA : Hid (∀ W vv, SI W vv D → Calls Tryz.prog 22 #[.agg #[.int .i64 7], .agg #[.int .i64 S, .int .i64 t, .int .i64 G], .int .i64 n, .int .i64 ia, .agg #[vv, .int .i64 0]] W fun e w' => ∃ Aq cq A1 c1 a1, e = .returned (.tuple #[.slice Aq S cq, .agg #[.slice A1 D.length c1, .int .i64 a1], .int .i64 0]) ∧ Below W.heap.size W w' ∧ (∀ z, z < W.heap.size → SLE z w' (.slice Aq S cq) (gRows 7 ia D t G S n))) := (show Hid _ from fun W vv hs =>
          (gqueriesF_ok 7 S t G n K ia D vv W HSV.out ⟨by omega, by omega⟩ (by omega) HDL.out HKM.out HDE.out hs).mono fun e w' ⟨Aq, cq, A2, c2, h1, h2, h3, _⟩ => ⟨Aq, cq, A2, c2, _, by rw [HDL.out]; exact h1, h2, h3⟩)
        have HQB : Hid (∀ W vv, SI W vv D → Calls Tryz.prog 22 #[.agg #[.int .i64 7], .agg #[.int .i64 S, .int .i64 t, .int .i64 G], .int .i64 n, .int .i64 ib, .agg #[vv, .int .i64 0]] W fun e w' => ∃ Aq cq A1 c1 a1, e = .returned (.tuple #[.slice Aq S cq, .agg #[.slice A1 D.length c1, .int .i64 a1], .int .i64 0]) ∧ Below W.heap.size W w' ∧ (∀ z, z < W.heap.size → SLE z w' (.slice Aq S cq) (gRows 7 ib D t G S n))) := (show Hid _ from fun W vv hs =>
          (gqueriesF_ok 7 S t G n K ib D vv W HSV.out ⟨by omega, by omega⟩ (by omega) HDL.out HKM.out HDE.out hs).mono fun e w' ⟨Aq, cq, A2, c2, h1, h2, h3, _⟩ => ⟨Aq, cq, A2, c2, _, by rw [HDL.out]; exact h1, h2, h3⟩)
        have HXC : Hid (∀ W, Below w12.heap.size w12 W → W.cell? ⟨F, 0, none⟩ = some (.int .i64 7) ∧ W.cell? ⟨p, 0, none⟩ = some (.int .i64 S) ∧ W.cell? ⟨p, 1, none⟩ = some (.int .i64 t) ∧ W.cell? ⟨p, 2, none⟩ = some (.int .i64 G) ∧ W.cell? ⟨q, 0, none⟩ = some (.slice A1 K c1) ∧ W.cell? ⟨q, 1, none⟩ = some (.int .i64 0)) := (show Hid _ from fun W hb => by
          have h1 := (hb.block F (heap_of_cells HF12.out)).trans HF12.out
          have h2 := (hb.block p (heap_of_cells HP12.out)).trans HP12.out
          have h3 := (hb.block q (heap_of_cells HQ12.out)).trans HQ12.out
          exact ⟨cell_of_row W F 0 _ _ _ h1, cell_of_row W p 0 _ _ _ h2, cell_of_row W p 1 _ _ _ h2, cell_of_row W p 2 _ _ _ h2, cell_of_row W q 0 _ _ _ h3, cell_of_row W q 1 _ _ _ h3⟩)
        have hEA : (a : Int) % (n : Int) = (ia : Int) := by rw [HIA.out]; simp
        have hEB : (b : Int) % (n : Int) = (ib : Int) := by rw [HIB.out]; simp
        have hnn : 0 < n ∧ n < 256 := by omega
        have HGwr : Hid (g < wr.heap.size) := (show Hid _ from by have := HBr.out.size; have := HBB.out; have := HG10g.out; show g < _; omega)
        have HG12g : Hid (g < w12.heap.size) := (show Hid _ from by have := HB12.out.size; have := HGwr.out; show g < _; omega)
        apply regHx20 n ia S t G a F p q g D (.slice A1 K c1) w12 hnn ha HG12g.out hEA HXC.out HSD12.out HQA.out
        rintro u21 u22 u110 u111 u112 u113 u114 u115 u116 u117 u118 u119 u120 u121 u122 wd ⟨hbd, hqv⟩
        obtain ⟨Aq, cq, eq21⟩ := hqv.form
        rw [gRows_len] at eq21
        subst eq21
        have HQVd := Lib.hid hqv
        have HBd : Hid (Below w12.heap.size w12 wd) := hbd
        have HSDd := Lib.hid (HSD12.out.below hbd)
        have HXD : Hid (∀ W, Below wd.heap.size wd W → W.cell? ⟨F, 0, none⟩ = some (.int .i64 7) ∧ W.cell? ⟨p, 0, none⟩ = some (.int .i64 S) ∧ W.cell? ⟨p, 1, none⟩ = some (.int .i64 t) ∧ W.cell? ⟨p, 2, none⟩ = some (.int .i64 G) ∧ W.cell? ⟨q, 0, none⟩ = some (.slice A1 K c1) ∧ W.cell? ⟨q, 1, none⟩ = some (.int .i64 0)) := (show Hid _ from fun W hb => HXC.out W (HBd.out.trans (hb.mono HBd.out.size)))
        have HGdg : Hid (g < wd.heap.size) := (show Hid _ from by have := hbd.size; have := HG12g.out; show g < _; omega)
        clear hqv hbd HXC HQA
        go_upto_region 21 with fail
        apply regHx21 n ib S t G b F p q g D (.slice A1 K c1) wd hnn hb HGdg.out hEB HXD.out HSDd.out HQB.out
        rintro u24 u25 u123 u124 u125 u126 u127 u128 u129 u130 u131 u132 u133 u134 u135 we ⟨hbe, hqv⟩
        obtain ⟨Ar, cr, eq24⟩ := hqv.form
        rw [gRows_len] at eq24
        subst eq24
        have HBe : Hid (Below wd.heap.size wd we) := hbe
        obtain ⟨Gq, og, eAq, hEQ⟩ := sle_elB (HQVd.out.below hbe) (by omega) (by omega)
        obtain ⟨Gr, oh, eAr, hER⟩ := sle_elB hqv (by omega) (by omega)
        subst eAq eAr
        have HEQ := Lib.hid hEQ
        have HER := Lib.hid hER
        have HBre : Hid (Below wr.heap.size wr we) := (show Hid _ from (HB12.out.trans (HBd.out.mono HB12.out.size)).trans (hbe.mono (HB12.out.trans (HBd.out.mono HB12.out.size)).size))
        have HF0 : Hid (∀ W, Below we.heap.size we W → W.cell? ⟨F, 0, none⟩ = some (.int .i64 7)) := (show Hid _ from fun W hb => (HXD.out W (HBe.out.trans (hb.mono HBe.out.size))).1)
        obtain ⟨f0, p0, p1, p2, q0, q1⟩ := HXD.out we HBe.out
        have HWe : Hid (SI we (.slice Ao t co) who) := (show Hid _ from ((HWSB.out.below HBr.out).si (by have := HBr.out.size; rw [← HBB.out] at this; exact this)).below HBre.out)
        clear hEQ hER
        obtain ⟨A2, c2, e2, hcl2, hcm2, hr2, ha2⟩ := HWe.out
        injection e2 with e21 e22 e23
        subst e21 e23
        obtain ⟨bo, oo, eAo, hbo, hcw⟩ := ha2 (by rw [HWL.out]; omega)
        subst eAo
        have HCW : Hid (∀ W, Below we.heap.size we W → ∀ x (h : x < who.length), W.cell? ⟨bo, oo + x, none⟩ = some (.int .i64 who[x])) := (show Hid _ from fun W hb x h => (hb.cell (cell_lt (hcw x h))).trans (hcw x h))
        have HK1e : Hid (BK we b1 (cl (fvw ia t G n who) T k)) := (show Hid _ from HK1r.out.below HBre.out HK1r.out.lt)
        have HK2e : Hid (BK we b2 (cl (fvw ib t G n who) T k)) := (show Hid _ from HK2r.out.below HBre.out HK2r.out.lt)
        obtain ⟨wo, ewo⟩ : ∃ wo : World, wo = wr := ⟨_, rfl⟩
        have HBe10 : Hid (Below B w10 we) := (show Hid _ from HBr.out.trans (HBre.out.mono (by have := HBr.out.size; rw [← HBB.out] at this; exact this)))
        clear hqv hbe HXD HQB p1 p2 q0 q1 hcw ha2 hr2 hcl2 hcm2 e22 ewo HPr HFr HB11 HP11 HF11 HSD11 HB12' HB12 HP12 HF12 HQ12 HSD12 HQQ HW12 HBd HQVd HSDd HWe HBwr
        go_wp2_with fail
        go_loopw [27, 28, 158] (fun u v iv wz => Hi2 ia ib D t G n who we u v iv wz) (fun _ _ iv _ => t - (intOf iv).toNat)
        case atStart => exact ⟨0, Nat.zero_le _, rfl, by simp [dgt, v7], by simp [dgt, v7], Below.refl _ _⟩
        case round =>
          obtain ⟨x, hx, rfl, rfl, rfl, hbx⟩ := hrel
          have HBX := Lib.hid hbx
          clear hbx f0 p0
          by_cases hlx : x < t
          · have dx : decide (x < t) = true := decide_eq_true hlx
            have hxw : x < who.length := by rw [HWL.out]; exact hlx
            have hwb := HWB.out who[x] (List.getElem_mem hxw)
            obtain ⟨jn, ejn⟩ : ∃ jn : Nat, who[x] = (jn : Int) := ⟨who[x].toNat, by omega⟩
            have hjS : jn < S := by omega
            have cw := HCW.out _ HBX.out x hxw
            rw [ejn] at cw
            have HJN := Lib.hid ejn
            obtain ⟨bq, oq, dq, hcq⟩ := HEQ.out jn hjS
            obtain ⟨br, or_, dr, hcr⟩ := HER.out jn hjS
            have HCQ := Lib.hid hcq
            have HCR := Lib.hid hcr
            have cq0 := (HCQ.out _ HBX.out).1
            have cr0 := (HCR.out _ HBX.out).1
            clear hcq hcr ejn hwb
            rw [dg_zero ia D t G n x jn who, dg_zero ib D t G n x jn who]
            go_wp2_with fail
            clear cw cq0 cr0
            obtain ⟨wx, ewx⟩ : ∃ wx : World, wx = wr := ⟨_, rfl⟩
            rw [← ewx] at HBX ⊢
            clear ewx
            go_loopw [27, 28, 183] (fun u v iv wz => Hi3 ia ib D t G n x jn who we u v iv wz) (fun _ _ iv _ => n - (intOf iv).toNat)
            case atStart => exact ⟨0, Nat.zero_le _, rfl, rfl, rfl, HBX.out⟩
            case round =>
              obtain ⟨m, hm, rfl, rfl, rfl, hbm⟩ := hrel
              have HBM := Lib.hid hbm
              clear hbm
              by_cases hlm : m < n
              · have dm : decide (m < n) = true := decide_eq_true hlm
                have f0 := HF0.out _ HBM.out
                have cq0 := (HCQ.out _ HBM.out).1
                have cr0 := (HCR.out _ HBM.out).1
                have cx := (HCQ.out _ HBM.out).2 m hlm
                have cy := (HCR.out _ HBM.out).2 m hlm
                have sx := dg_small (i := ia) (D := D) (G := G) (jn := jn) (who := who) hlx ht2 hn2 hm
                have sy := dg_small (i := ib) (D := D) (G := G) (jn := jn) (who := who) hlx ht2 hn2 hm
                have hxb := gPt_bd (P := 7) (by omega) ia D t G m ((jn : Int) + 1)
                have hyb := gPt_bd (P := 7) (by omega) ib D t G m ((jn : Int) + 1)
                have HRX := Lib.hid (dg_row ia D t G n x m jn who)
                have HRY := Lib.hid (dg_row ib D t G n x m jn who)
                obtain ⟨X, eX⟩ : ∃ X, X = v7 (dgt ia D t G n (who.take x) ++ row7 ia D t G m jn) := ⟨_, rfl⟩
                obtain ⟨Y, eY⟩ : ∃ Y, Y = v7 (dgt ib D t G n (who.take x) ++ row7 ib D t G m jn) := ⟨_, rfl⟩
                obtain ⟨x1, ex1⟩ : ∃ x1, x1 = gPt 7 ia D t G m ((jn : Int) + 1) := ⟨_, rfl⟩
                obtain ⟨y1, ey1⟩ : ∃ y1, y1 = gPt 7 ib D t G m ((jn : Int) + 1) := ⟨_, rfl⟩
                rw [← eX] at sx HRX ⊢
                rw [← eY] at sy HRY ⊢
                rw [← ex1] at cx hxb HRX
                rw [← ey1] at cy hyb HRY
                have wx1 : IntKind.i64.wrap (X * 7) = X * 7 := by exact IntWalk.i64_in _ (by omega)
                have wy1 : IntKind.i64.wrap (Y * 7) = Y * 7 := by exact IntWalk.i64_in _ (by omega)
                have wx2 : IntKind.i64.wrap (X * 7 + x1) = X * 7 + x1 := by exact IntWalk.i64_in _ (by omega)
                have wy2 : IntKind.i64.wrap (Y * 7 + y1) = Y * 7 + y1 := by exact IntWalk.i64_in _ (by omega)
                clear eX eY ex1 ey1 sx sy hxb hyb
                go_upto_region 33 with fail
                go_quiet (fail)
                go_wp2_with fail
                go_roundw
                case rel => exact ⟨m + 1, by omega, by go_num, by rw [HRX.out], by rw [HRY.out], by first | exact HBM.out | exact Below.drewN HBM.out _⟩
                case measure => simp [intOf]; omega
              · have dm : decide (m < n) = false := decide_eq_false hlm
                have hmn : m = n := by omega
                have HMN := Lib.hid hmn
                clear hmn
                go_wp2_with fail
                go_roundw
                case rel => exact ⟨x + 1, by omega, by go_num, by rw [HMN.out, dg_step _ _ _ _ _ _ _ _ hxw HJN.out], by rw [HMN.out, dg_step _ _ _ _ _ _ _ _ hxw HJN.out], HBM.out⟩
                case measure => simp [intOf]; omega
          · have dx : decide (x < t) = false := decide_eq_false hlx
            have hxt : who.take x = who := List.take_of_length_le (by rw [HWL.out]; omega)
            rw [hxt]
            obtain ⟨fa, efa⟩ : ∃ fa, fa = fvw ia t G n who k := ⟨_, rfl⟩
            obtain ⟨fb, efb⟩ : ∃ fb, fb = fvw ib t G n who k := ⟨_, rfl⟩
            obtain ⟨hfa, hfa2⟩ := fvw_bd (i := ia) (G := G) (n := n) HWL.out k
            obtain ⟨hfb, hfb2⟩ := fvw_bd (i := ib) (G := G) (n := n) HWL.out k
            rw [HKN.out, ← HDD.out, ← efa] at hfa2
            rw [HKN.out, ← HDD.out, ← efb] at hfb2
            rw [hfa2, hfb2]
            have hTn : T = 7 ^ K := by have := HT.out; have h2 : ((7 ^ K : Nat) : Int) = (7 : Int) ^ K := by simp
                                       omega
            have hfaT : fa < T := by rw [hTn, ← HKN.out, efa]; exact hfa
            have hfbT : fb < T := by rw [hTn, ← HKN.out, efb]; exact hfb
            have HFA := Lib.hid efa
            have HFB := Lib.hid efb
            clear hxt efa efb hfa hfb hfa2 hfb2 hTn
            have da1 : decide ((fa : Int) < 0) = false := decide_eq_false (by omega)
            have db1 : decide ((fb : Int) < 0) = false := decide_eq_false (by omega)
            have da2 : decide ((fa : Int) ≥ (T : Int)) = false := decide_eq_false (by omega)
            have db2 : decide ((fb : Int) ≥ (T : Int)) = false := decide_eq_false (by omega)
            have da3 : decide ((T : Int) ≤ (fa : Int)) = false := decide_eq_false (by omega)
            have db3 : decide ((T : Int) ≤ (fb : Int)) = false := decide_eq_false (by omega)
            have da4 : decide (T ≤ fa) = false := decide_eq_false (by omega)
            have db4 : decide (T ≤ fb) = false := decide_eq_false (by omega)
            have HK1w : Hid (BK wr b1 (cl (fvw ia t G n who) T k)) := (show Hid _ from HK1e.out.below HBX.out HK1e.out.lt)
            have HK2w : Hid (BK wr b2 (cl (fvw ib t G n who) T k)) := (show Hid _ from HK2e.out.below HBX.out HK2e.out.lt)
            obtain ⟨ca, eca⟩ : ∃ ca : Nat, ca = cn (fvw ia t G n who) k fa := ⟨_, rfl⟩
            obtain ⟨cb, ecb⟩ : ∃ cb : Nat, cb = cn (fvw ib t G n who) k fb := ⟨_, rfl⟩
            have hcak : ca ≤ k := by rw [eca]; exact cn_le _ _ _
            have hcbk : cb ≤ k := by rw [ecb]; exact cn_le _ _ _
            have ka : wr.cell? ⟨b1, fa, none⟩ = some (.int .i64 (ca : Int)) := by
              have h1 := HK1w.out.cell (j := fa) (by rw [cl_len]; exact hfaT)
              rw [cl_get, ← eca] at h1; exact h1
            have kfa : wr.frozen? ⟨b1, fa, none⟩ = false := HK1w.out.frozen fa
            have wca : IntKind.i64.wrap ((ca : Int) + 1) = (ca : Int) + 1 := by exact IntWalk.i64_in _ (by omega)
            have wcb : IntKind.i64.wrap ((cb : Int) + 1) = (cb : Int) + 1 := by exact IntWalk.i64_in _ (by omega)
            have ha1 : (0 : Int) ≤ (fa : Int) := by omega
            have ha2 : (fa : Int) < (T : Int) := by omega
            have hb1 : (0 : Int) ≤ (fb : Int) := by omega
            have hb2 : (fb : Int) < (T : Int) := by omega
            obtain ⟨ws, ews⟩ : ∃ ws : World, ws = wr.setCell ⟨b1, fa, none⟩ (.int .i64 ((ca : Int) + 1)) := ⟨_, rfl⟩
            have HWS2 : Hid (wr.setCell ⟨b1, fa, none⟩ (.int .i64 ((ca : Int) + 1)) = ws) := ews.symm
            have HKs1 : Hid (BK ws b1 (cl (fvw ia t G n who) T (k + 1))) := (show Hid _ from by
              rw [ews, ← cl_set, ← HFA.out, ← eca]; exact HK1w.out.set fa _)
            have HKs2 : Hid (BK ws b2 (cl (fvw ib t G n who) T k)) := (show Hid _ from by
              show _ = _
              rw [ews, heap_setCell_other _ _ b2 _ (by show b2 ≠ b1; exact fun e => hne e.symm)]; exact HK2w.out)
            have HBs : Hid (Below B w10 ws) := (show Hid _ from by
              rw [ews]
              exact (HBe10.out.trans (HBX.out.mono (by have := HBe10.out.size; rw [← HBB.out] at this; exact this))).setCell (by exact hB1) _)
            have kb : ws.cell? ⟨b2, fb, none⟩ = some (.int .i64 (cb : Int)) := by
              have h1 := HKs2.out.cell (j := fb) (by rw [cl_len]; exact hfbT)
              rw [cl_get, ← ecb] at h1; exact h1
            have kfb : ws.frozen? ⟨b2, fb, none⟩ = false := HKs2.out.frozen fb
            have HKs3 : Hid (BK (ws.setCell ⟨b2, fb, none⟩ (.int .i64 ((cb : Int) + 1))) b2 (cl (fvw ib t G n who) T (k + 1))) := (show Hid _ from by
              rw [← cl_set, ← HFB.out, ← ecb]; exact HKs2.out.set fb _)
            clear eca ecb ews
            have HREL : Hid (Hi1 B b1 b2 w10 (fvw ia t G n who) (fvw ib t G n who) T (Value.int .i64 ((k : Int) + 1)) (ws.setCell ⟨b2, fb, none⟩ (.int .i64 ((cb : Int) + 1)))) := (show Hid _ from
              ⟨k + 1, by omega, by go_num, by
                show _ = _
                rw [heap_setCell_other _ _ b1 _ (by show b1 ≠ b2; exact hne)]; exact HKs1.out, HKs3.out, HBs.out.setCell (by exact hB2) _⟩)
            go_upto_region 39 with fail
            rw [HWS2.out]
            go_wp2_with fail
            exact ⟨HREL.out, by simp [intOf]; omega⟩
      · have dk : decide (k < T) = false := decide_eq_false hlk
        have hkT : k = T := by omega
        subst hkT
        have HBwr : Hid (Below w.heap.size w wr) := HBw10.out.trans (HBr.out.mono HBW.out)
        have hkn : k = 7 ^ (n * t) := by
          have := HT.out; have h2 : ((7 ^ K : Nat) : Int) = (7 : Int) ^ K := by simp
          rw [HKN.out]; omega
        have hbw : ∀ j ∈ who, 0 ≤ j ∧ j < 6 := fun j hj => by have := HWB.out j hj; omega
        have HC1 : Hid (∀ j, j < k → wr.cell? ⟨b1, j, none⟩ = some (.int .i64 1)) := (show Hid _ from fun j hj => by
          have h1 := HK1r.out.cell (j := j) (by rw [cl_len]; exact hj)
          rw [cl_get, cn_one (fun x hx => by have := (fvw_bd (i := ia) (G := G) (n := n) HWL.out x).1; omega) (fun x x' hx hx' e => fvw_inj HWL.out HWN.out hbw (by omega) (by omega) e) hj] at h1
          exact h1)
        have HC2 : Hid (∀ j, j < k → wr.cell? ⟨b2, j, none⟩ = some (.int .i64 1)) := (show Hid _ from fun j hj => by
          have h1 := HK2r.out.cell (j := j) (by rw [cl_len]; exact hj)
          rw [cl_get, cn_one (fun x hx => by have := (fvw_bd (i := ib) (G := G) (n := n) HWL.out x).1; omega) (fun x x' hx hx' e => fvw_inj HWL.out HWN.out hbw (by omega) (by omega) e) hj] at h1
          exact h1)
        clear hkn hbw HK1r HK2r
        obtain ⟨wq, ewq⟩ : ∃ wq : World, wq = wr := ⟨_, rfl⟩
        rw [← ewq] at HC1 HC2 HBwr ⊢
        clear ewq
        go_wp2_with fail
        go_loopw [242] (fun iv wz => ∃ j : Nat, j ≤ k ∧ iv = .int .i64 j ∧ wq = wz) (fun iv _ => k - (intOf iv).toNat)
        case atStart => exact ⟨0, Nat.zero_le _, rfl, rfl⟩
        case round =>
          obtain ⟨j, hj, rfl, rfl⟩ := hrel
          by_cases hlj : j < k
          · have dj : decide (j < k) = true := decide_eq_true hlj
            have k1 := HC1.out j hlj
            have k2 := HC2.out j hlj
            go_wp2_with fail
            go_roundw
            case rel => exact ⟨j + 1, by omega, by go_num, by simp⟩
            case measure => simp [intOf]; omega
          · have dj : decide (j < k) = false := decide_eq_false hlj
            go_wp2_with fail
            go_ret
            exact ⟨rfl, HBwr.out⟩
end Go.Proofs.YtoiabanpnkpbhaaGreatDoor
