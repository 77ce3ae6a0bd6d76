/- Joined: Ce Ag. -/
import Derived.Sort.CutIn
import Derived.Test.YtbgabipngdillaaJ09
import Derived.Test.YtbgabipngdillaaJ06
namespace Go.Proofs.Ytbgabipngdillaa
open Go.RowKit Go.Shelf
attribute [local go_sem] Oper.semAt_some

set_option maxRecDepth 100000 in
set_option maxHeartbeats 2000000 in
theorem kn1_nil (n lr Bs c : Nat) (A : Option Addr) (J : World → Prop) (W : World) (hBs : W.cell? ⟨Bs, 0, none⟩ = some (.slice A 0 c)) (h0 : J W) :
    CallsIn Fence.wide n Try.prog 83 #[.func (.yield lr) #[] #[], .pointer (some ⟨Bs, 0, none⟩)] W fun e W' => (∃ v, e = .returned v) ∧ J W' := by
  refine callsIn_of_wp Try.func83 rfl trivial ?_ rfl
  simp only [Try.ntmps83, List.size_toArray, List.length_cons, List.length_nil, Nat.reduceAdd, Nat.reduceSub, Array.replicate_succ, Array.replicate_zero, List.push_toArray, List.append_toArray, List.nil_append, List.cons_append]
  gi_wp2_with fail
  gi_loopw [7] (fun i wr => i = .int .i64 0 ∧ J wr) (fun _ _ => 0)
  case atStart => exact ⟨rfl, h0⟩
  case round =>
    obtain ⟨rfl, hJs⟩ := hrel
    gi_wp2
    go_end0
    exact ⟨⟨_, rfl⟩, hJs⟩
theorem kn_stops (n : Nat) (hn : 1 ≤ n) (Bs : Nat) (K : Nat → Prop) (l : List (Int × Bool)) (A : Option Addr) (c : Nat) (hz : l.length ≤ 1000000) (w : World) (hK : ∀ k, K k → k < w.heap.size) (hBl : Bs < w.heap.size)
    (hBs : w.cell? ⟨Bs, 0, none⟩ = some (.slice A l.length c)) (h : 0 < l.length → ∃ b off, A = some ⟨b, off, none⟩ ∧ K b ∧ ∀ j (h : j < l.length), w.cell? ⟨b, off + j * 2, none⟩ = some (.int .i64 l[j].1) ∧ w.cell? ⟨b, off + j * 2 + 1, none⟩ = some (.bool l[j].2)) :
    SeqStopsK Fence.wide n Try.prog 83 #[.pointer (some ⟨Bs, 0, none⟩)] (fun x : Fin (kn l).length => #[.int .i64 (kn l)[x].1, .int .i64 (kn l)[x].2]) (KB K) (fun ys => ys = upA (kn l).length (kn l).length) (fun pre => ∃ k, k ≤ (kn l).length ∧ pre = upA (kn l).length k) (kn l).length w := fun lr J Jx W hW hJ _ hY h0 => by
  have hBs' := (hW.cell (p := ⟨Bs, 0, none⟩) hBl).trans hBs
  by_cases hl : l.length = 0
  · have hln : l = [] := List.eq_nil_of_length_eq_zero hl
    subst hln
    exact (kn1_nil n lr Bs c A (J []) W hBs' h0).mono fun e W' ⟨he, hj⟩ => ⟨he, .inl ⟨[], rfl, hj⟩⟩
  · obtain ⟨b, off, rfl, hKb, hc⟩ := h (by omega)
    exact kn1_in n hn lr Bs b off c K l hKb hz J Jx W (fun k hk => by have := hK k hk; have := hW.size; omega) hJ hY hBs' (fun j hj => ⟨(hW.cell (p := ⟨b, off + j * 2, none⟩) (hK _ hKb)).trans (hc j hj).1, (hW.cell (p := ⟨b, off + j * 2 + 1, none⟩) (hK _ hKb)).trans (hc j hj).2⟩) h0
theorem known_any (A : Option Addr) (n c : Nat) (w : World) :
    Calls Try.prog 67 #[.slice A n c] w fun e w' => e = .returned (.func (.func 83) #[] #[.pointer (some ⟨w.heap.size, 0, none⟩)]) ∧ w' = w.alloc (.cells #[.slice A n c] 27) := by
  go_enter Try.func67, Try.ntmps67
  go_wp2
  go_ret
  exact ⟨rfl, rfl⟩

/-- the error of cells -/
def ceE (P : Int) (l : List (Int × Bool)) : Int := if prB P = false then 9 else if 32 < l.length ∨ P ≤ l.length then 4 else if ((kn l).all fun p => el P p.2) = true then 0 else 9
def ceP (P : Int) (l : List (Int × Bool)) : Int := if ceE P l = 0 then P else 0
def ceN (P : Int) (l : List (Int × Bool)) : Int := if ceE P l = 0 then ((kn l).length : Int) else 0
theorem ce_p {P : Int} {l : List (Int × Bool)} (h : prB P = false) : ceE P l = 9 ∧ ceP P l = 0 ∧ ceN P l = 0 := by
  have e : ceE P l = 9 := if_pos h
  exact ⟨e, if_neg (by rw [e]; omega), if_neg (by rw [e]; omega)⟩
theorem ce_4 {P : Int} {l : List (Int × Bool)} (h : prB P = true) (h2 : 32 < l.length ∨ P ≤ l.length) : ceE P l = 4 ∧ ceP P l = 0 ∧ ceN P l = 0 := by
  have e : ceE P l = 4 := by unfold ceE; rw [if_neg (by rw [h]; simp), if_pos h2]
  exact ⟨e, if_neg (by rw [e]; omega), if_neg (by rw [e]; omega)⟩
theorem ce_9 {P : Int} {l : List (Int × Bool)} (h : prB P = true) (h2 : ¬ (32 < l.length ∨ P ≤ l.length)) (j : Fin (kn l).length) (h3 : el P (kn l)[j].2 = false) : ceE P l = 9 ∧ ceP P l = 0 ∧ ceN P l = 0 := by
  have e : ceE P l = 9 := by
    unfold ceE
    rw [if_neg (by rw [h]; simp), if_neg h2, if_neg]
    intro ha
    rw [List.all_eq_true] at ha
    have := ha _ (List.getElem_mem j.2)
    simp only [Fin.getElem_fin] at h3
    rw [h3] at this
    cases this
  exact ⟨e, if_neg (by rw [e]; omega), if_neg (by rw [e]; omega)⟩
theorem ce_0 {P : Int} {l : List (Int × Bool)} (h : prB P = true) (h2 : ¬ (32 < l.length ∨ P ≤ l.length)) (h3 : ∀ j ∈ upA (kn l).length (kn l).length, el P (kn l)[j].2 = true) : ceE P l = 0 ∧ ceP P l = P ∧ ceN P l = (kn l).length := by
  have e : ceE P l = 0 := by
    unfold ceE
    rw [if_neg (by rw [h]; simp), if_neg h2, if_pos]
    rw [List.all_eq_true]
    intro x hx
    obtain ⟨j, hj, rfl⟩ := List.mem_iff_getElem.1 hx
    have := h3 ⟨j, hj⟩ (by unfold upA; rw [List.mem_filterMap]; exact ⟨j, by simpa using hj, by simp [hj]⟩)
    simpa using this
  exact ⟨e, if_pos e, if_pos e⟩

theorem set3 {w : World} {n : Nat} {a b c a' b' c' : Value} (k1 : w.cell? ⟨n + 1, 0, none⟩ = some a') (k2 : w.cell? ⟨n + 2, 0, none⟩ = some b') (k3 : w.cell? ⟨n + 3, 0, none⟩ = some c') :
    (((w.setCell ⟨n + 1, 0, none⟩ a).setCell ⟨n + 2, 0, none⟩ b).setCell ⟨n + 3, 0, none⟩ c).cell? ⟨n + 1, 0, none⟩ = some a ∧ (((w.setCell ⟨n + 1, 0, none⟩ a).setCell ⟨n + 2, 0, none⟩ b).setCell ⟨n + 3, 0, none⟩ c).cell? ⟨n + 2, 0, none⟩ = some b ∧
      (((w.setCell ⟨n + 1, 0, none⟩ a).setCell ⟨n + 2, 0, none⟩ b).setCell ⟨n + 3, 0, none⟩ c).cell? ⟨n + 3, 0, none⟩ = some c := by
  have h12 : (⟨n + 1, 0, none⟩ : Addr) ≠ ⟨n + 2, 0, none⟩ := by simp
  have h13 : (⟨n + 1, 0, none⟩ : Addr) ≠ ⟨n + 3, 0, none⟩ := by simp
  have h23 : (⟨n + 2, 0, none⟩ : Addr) ≠ ⟨n + 3, 0, none⟩ := by simp
  refine ⟨?_, ?_, ?_⟩
  · rw [World.cell?_setCell_other _ _ _ _ h13.symm, World.cell?_setCell_other _ _ _ _ h12.symm]
    exact World.cell?_setCell_same _ _ _ k1
  · rw [World.cell?_setCell_other _ _ _ _ h23.symm]
    exact World.cell?_setCell_same _ _ _ ((World.cell?_setCell_other _ _ _ _ h12).trans k2)
  · exact World.cell?_setCell_same _ _ _ ((World.cell?_setCell_other _ _ _ _ h23).trans ((World.cell?_setCell_other _ _ _ _ h13).trans k3))
theorem below3 {w w' : World} {a b c : Value} (h : Below w.heap.size w w') : Below w.heap.size w (((w'.setCell ⟨w.heap.size + 1, 0, none⟩ a).setCell ⟨w.heap.size + 2, 0, none⟩ b).setCell ⟨w.heap.size + 3, 0, none⟩ c) :=
  ((h.setCell (p := ⟨w.heap.size + 1, 0, none⟩) (by show _ ≤ w.heap.size + 1; omega) _).setCell (p := ⟨w.heap.size + 2, 0, none⟩) (by show _ ≤ w.heap.size + 2; omega) _).setCell (p := ⟨w.heap.size + 3, 0, none⟩) (by show _ ≤ w.heap.size + 3; omega) _
theorem setOther {W : World} {p q : Addr} {v u : Value} (h : W.cell? q = some u) (hne : p.block ≠ q.block) : (W.setCell p v).cell? q = some u :=
  (World.cell?_setCell_other W p q v (fun e => hne (by rw [e]))).trans h
set_option maxRecDepth 100000 in
set_option maxHeartbeats 4000000 in
theorem cells_in (P : Int) (l : List (Int × Bool)) (v : Value) (w : World) (hP : i64r P) (h : SCl w v l) (hz : l.length ≤ 1000000) :
    CallsIn Fence.wide 5 Try.prog 52 #[.agg #[.int .i64 P], v] w fun e w' => e = .returned (.tuple #[.int .i64 (ceP P l), .int .i64 (ceN P l), .int .i64 (ceE P l)]) ∧ Below w.heap.size w w' := by
  obtain ⟨A, c, rfl, hcc, hm, hr, ha⟩ := h
  have HA := Lib.hid ha
  clear hr ha
  refine callsIn_of_wp_marks Try.func52 rfl trivial ?_ rfl
  simp only [Try.ntmps52, List.size_toArray, List.length_cons, List.length_nil, Nat.reduceAdd, Nat.reduceSub, Array.replicate_succ, Array.replicate_zero, List.push_toArray, List.append_toArray, List.nil_append, List.cons_append]
  gi_wp2_with fail
  obtain ⟨w0, ew⟩ : ∃ w0 : World, w0 = (((w.alloc (.cells #[.int .i64 P] 26)).alloc (.cells #[.int .i64 0] 95)).alloc (.cells #[.int .i64 0] 3)).alloc (.cells #[.int .i64 0] 35) := ⟨_, rfl⟩
  have hB0 : Below w.heap.size w w0 := by rw [ew]; exact ((((Below.refl _ _).alloc (Nat.le_refl _) _).alloc (by simp) _).alloc (by simp; omega) _).alloc (by simp; omega) _
  have hz0 : w.heap.size + 3 < w0.heap.size := by rw [ew]; simp
  have b0 : w0.cell? ⟨w.heap.size, 0, none⟩ = some (.int .i64 P) := by rw [ew]; simp [go_sem]
  have b1 : w0.cell? ⟨w.heap.size + 1, 0, none⟩ = some (.int .i64 0) := by rw [ew]; simp [go_sem]
  have b2 : w0.cell? ⟨w.heap.size + 2, 0, none⟩ = some (.int .i64 0) := by rw [ew]; simp [go_sem]
  have b3 : w0.cell? ⟨w.heap.size + 3, 0, none⟩ = some (.int .i64 0) := by rw [ew]; simp [go_sem]
  have f1 : w0.frozen? ⟨w.heap.size + 1, 0, none⟩ = false := by rw [ew]; simp [go_sem]
  have f2 : w0.frozen? ⟨w.heap.size + 2, 0, none⟩ = false := by rw [ew]; simp [go_sem]
  have f3 : w0.frozen? ⟨w.heap.size + 3, 0, none⟩ = false := by rw [ew]; simp [go_sem]
  refine ⟨trivial, (callsIn_wide.2 (of_any P _ hP)).mono ?_⟩
  rintro e w1 ⟨rfl, hb1⟩
  rw [← ew] at hb1
  clear ew
  have c0 := (hb1.cell (p := ⟨w.heap.size, 0, none⟩) (by show w.heap.size < _; omega)).trans b0
  have c1 := (hb1.cell (p := ⟨w.heap.size + 1, 0, none⟩) (by show w.heap.size + 1 < _; omega)).trans b1
  have c2 := (hb1.cell (p := ⟨w.heap.size + 2, 0, none⟩) (by show w.heap.size + 2 < _; omega)).trans b2
  have c3 := (hb1.cell (p := ⟨w.heap.size + 3, 0, none⟩) (by show w.heap.size + 3 < _; omega)).trans b3
  have g1 := (hb1.frozen (p := ⟨w.heap.size + 1, 0, none⟩) (by show w.heap.size + 1 < _; omega)).trans f1
  have g2 := (hb1.frozen (p := ⟨w.heap.size + 2, 0, none⟩) (by show w.heap.size + 2 < _; omega)).trans f2
  have g3 := (hb1.frozen (p := ⟨w.heap.size + 3, 0, none⟩) (by show w.heap.size + 3 < _; omega)).trans f3
  have hz1 := hb1.size
  have hB1 := hB0.trans (hb1.mono hB0.size)
  clear b0 b1 b2 b3 f1 f2 f3
  rw [show w.heap.size + 1 + 1 + 1 = w.heap.size + 3 from rfl, show w.heap.size + 1 + 1 = w.heap.size + 2 from rfl]
  obtain ⟨op, eop⟩ : ∃ q, ofP P = q := ⟨_, rfl⟩
  rw [eop]
  have HOP := Lib.hid eop
  clear eop
  obtain ⟨pb, hpb⟩ : ∃ q, prB P = q := ⟨_, rfl⟩
  rw [hpb]
  have HPB := Lib.hid hpb
  clear hpb
  gi_upto_region 2 with fail
  obtain ⟨w2, ew⟩ : ∃ w2 : World, w2 = w1.alloc (.cells #[.int .i64 op] 95) := ⟨_, rfl⟩
  have hb2 : Below w1.heap.size w1 w2 := by rw [ew]; exact (Below.refl _ _).alloc (Nat.le_refl _) _
  have hz2 : w1.heap.size < w2.heap.size := by rw [ew]; simp
  have k0 := (hb2.cell (p := ⟨w.heap.size, 0, none⟩) (by show w.heap.size < _; omega)).trans c0
  have k1 := (hb2.cell (p := ⟨w.heap.size + 1, 0, none⟩) (by show w.heap.size + 1 < _; omega)).trans c1
  have k2 := (hb2.cell (p := ⟨w.heap.size + 2, 0, none⟩) (by show w.heap.size + 2 < _; omega)).trans c2
  have k3 := (hb2.cell (p := ⟨w.heap.size + 3, 0, none⟩) (by show w.heap.size + 3 < _; omega)).trans c3
  have k7 : w2.cell? ⟨w1.heap.size, 0, none⟩ = some (.int .i64 op) := by rw [ew]; exact cell_of_row _ _ 0 _ _ (0, 0) (heap_alloc_new w1 _)
  have m1 := (hb2.frozen (p := ⟨w.heap.size + 1, 0, none⟩) (by show w.heap.size + 1 < _; omega)).trans g1
  have m2 := (hb2.frozen (p := ⟨w.heap.size + 2, 0, none⟩) (by show w.heap.size + 2 < _; omega)).trans g2
  have m3 := (hb2.frozen (p := ⟨w.heap.size + 3, 0, none⟩) (by show w.heap.size + 3 < _; omega)).trans g3
  have hB2 := hB1.trans (hb2.mono hB1.size)
  rw [← ew]
  clear ew c0 c1 c2 c3 g1 g2 g3
  cases pb with
  | false =>
    have HE := Lib.hid (ce_p (l := l) HPB.out)
    gi_wp2_with fail
    obtain ⟨q1, q2, q3⟩ := set3 (a := .int .i64 0) (b := .int .i64 0) (c := .int .i64 9) k1 k2 k3
    exact ⟨.tuple #[.int .i64 0, .int .i64 0, .int .i64 9], by simp [results, Try.results52, go_sem, q1, q2, q3], by rw [HE.out.1, HE.out.2.1, HE.out.2.2], below3 hB2⟩
  | true =>
    have hPb := prB_bd HPB.out
    by_cases hbad : 32 < l.length ∨ P ≤ l.length
    · have HE := Lib.hid (ce_4 HPB.out hbad)
      by_cases hb32 : 32 < l.length
      · have hd1 : decide ((32 : Int) < (l.length : Int)) = true := decide_eq_true (by omega)
        have hd2 : decide (32 < l.length) = true := decide_eq_true hb32
        gi_wp2_with fail
        obtain ⟨q1, q2, q3⟩ := set3 (a := .int .i64 0) (b := .int .i64 0) (c := .int .i64 4) k1 k2 k3
        exact ⟨.tuple #[.int .i64 0, .int .i64 0, .int .i64 4], by simp [results, Try.results52, go_sem, q1, q2, q3], by rw [HE.out.1, HE.out.2.1, HE.out.2.2], below3 hB2⟩
      · have hd1 : decide ((32 : Int) < (l.length : Int)) = false := decide_eq_false (by omega)
        have hd2 : decide (32 < l.length) = false := decide_eq_false hb32
        have hd3 : decide (P ≤ (l.length : Int)) = true := decide_eq_true (by omega)
        gi_wp2_with fail
        obtain ⟨q1, q2, q3⟩ := set3 (a := .int .i64 0) (b := .int .i64 0) (c := .int .i64 4) k1 k2 k3
        exact ⟨.tuple #[.int .i64 0, .int .i64 0, .int .i64 4], by simp [results, Try.results52, go_sem, q1, q2, q3], by rw [HE.out.1, HE.out.2.1, HE.out.2.2], below3 hB2⟩
    · have hd1 : decide ((32 : Int) < (l.length : Int)) = false := decide_eq_false (by omega)
      have hd2 : decide (32 < l.length) = false := decide_eq_false (by omega)
      have hd3 : decide (P ≤ (l.length : Int)) = false := decide_eq_false (by omega)
      have hop : op = P := by rw [← HOP.out]; exact ofP_t HPB.out
      subst hop
      gi_upto_region 7 with fail
      obtain ⟨w3, ew⟩ : ∃ w3 : World, w3 = w2.alloc (.cells #[.int .i64 0] 3) := ⟨_, rfl⟩
      have hb3 : Below w2.heap.size w2 w3 := by rw [ew]; exact (Below.refl _ _).alloc (Nat.le_refl _) _
      have hz3 : w2.heap.size < w3.heap.size := by rw [ew]; simp
      have n1 := (hb3.cell (p := ⟨w.heap.size + 1, 0, none⟩) (by show w.heap.size + 1 < _; omega)).trans k1
      have n2 := (hb3.cell (p := ⟨w.heap.size + 2, 0, none⟩) (by show w.heap.size + 2 < _; omega)).trans k2
      have n3 := (hb3.cell (p := ⟨w.heap.size + 3, 0, none⟩) (by show w.heap.size + 3 < _; omega)).trans k3
      have n7 := (hb3.cell (p := ⟨w1.heap.size, 0, none⟩) hz2).trans k7
      have n9 : w3.cell? ⟨w2.heap.size, 0, none⟩ = some (.int .i64 0) := by rw [ew]; exact cell_of_row _ _ 0 _ _ (0, 0) (heap_alloc_new w2 _)
      have j1 := (hb3.frozen (p := ⟨w.heap.size + 1, 0, none⟩) (by show w.heap.size + 1 < _; omega)).trans m1
      have j2 := (hb3.frozen (p := ⟨w.heap.size + 2, 0, none⟩) (by show w.heap.size + 2 < _; omega)).trans m2
      have j3 := (hb3.frozen (p := ⟨w.heap.size + 3, 0, none⟩) (by show w.heap.size + 3 < _; omega)).trans m3
      have j9 : w3.frozen? ⟨w2.heap.size, 0, none⟩ = false := by rw [ew]; exact frozen_of_row _ _ 0 _ _ (heap_alloc_new w2 _)
      have hB3 := hB2.trans (hb3.mono hB2.size)
      rw [← ew]
      clear ew k0 k1 k2 k3 k7 m1 m2 m3
      gi_wp2_with fail
      refine ⟨trivial, (callsIn_wide.2 (known_any _ _ _ _)).mono ?_⟩
      rintro e w' ⟨rfl, rfl⟩
      gi_wp2_with fail
      obtain ⟨W0, eW⟩ : ∃ W0 : World, W0 = w3.alloc (.cells #[.slice A l.length c] 27) := ⟨_, rfl⟩
      have hbW : Below w3.heap.size w3 W0 := by rw [eW]; exact (Below.refl _ _).alloc (Nat.le_refl _) _
      have hzW : w3.heap.size < W0.heap.size := by rw [eW]; simp
      have cS : W0.cell? ⟨w3.heap.size, 0, none⟩ = some (.slice A l.length c) := by rw [eW]; exact cell_of_row _ _ 0 _ _ (0, 0) (heap_alloc_new w3 _)
      have hBW := hB3.trans (hbW.mono hB3.size)
      have y1 := (hbW.cell (p := ⟨w.heap.size + 1, 0, none⟩) (by show w.heap.size + 1 < _; omega)).trans n1
      have y2 := (hbW.cell (p := ⟨w.heap.size + 2, 0, none⟩) (by show w.heap.size + 2 < _; omega)).trans n2
      have y3 := (hbW.cell (p := ⟨w.heap.size + 3, 0, none⟩) (by show w.heap.size + 3 < _; omega)).trans n3
      have y7 := (hbW.cell (p := ⟨w1.heap.size, 0, none⟩) (by show w1.heap.size < _; omega)).trans n7
      have y9 := (hbW.cell (p := ⟨w2.heap.size, 0, none⟩) hz3).trans n9
      have x1 := (hbW.frozen (p := ⟨w.heap.size + 1, 0, none⟩) (by show w.heap.size + 1 < _; omega)).trans j1
      have x2 := (hbW.frozen (p := ⟨w.heap.size + 2, 0, none⟩) (by show w.heap.size + 2 < _; omega)).trans j2
      have x3 := (hbW.frozen (p := ⟨w.heap.size + 3, 0, none⟩) (by show w.heap.size + 3 < _; omega)).trans j3
      have x9 := (hbW.frozen (p := ⟨w2.heap.size, 0, none⟩) hz3).trans j9
      rw [← eW]
      clear eW n1 n2 n3 n7 n9 j1 j2 j3 j9
      refine wpIn_rangeFunc_ownG rfl (by omega) (gf := 83) (lb := #[.pointer (some ⟨w3.heap.size, 0, none⟩)]) rfl trivial (enters_of Try.func83 (by kernel_rfl) rfl)
        (kn_stops 4 (by omega) w3.heap.size (fun b => b < w.heap.size) l A c hz W0 (fun k hk => by omega) hzW cS
          (fun h0 => by
            obtain ⟨b, off, e, hb, hc⟩ := HA.out h0
            exact ⟨b, off, e, hb, fun j hj => ⟨(hBW.cell (p := ⟨b, off + j * 2, none⟩) hb).trans (hc j hj).1, (hBW.cell (p := ⟨b, off + j * 2 + 1, none⟩) hb).trans (hc j hj).2⟩⟩))
        KB_t (KB_b (fun k hk => by omega)) (Below.refl _ _) (fun _ => rfl)
        (fun pre W => (W.cell? ⟨w.heap.size + 1, 0, none⟩ = some (.int .i64 0) ∧ W.cell? ⟨w.heap.size + 2, 0, none⟩ = some (.int .i64 0) ∧ W.cell? ⟨w.heap.size + 3, 0, none⟩ = some (.int .i64 0) ∧ W.cell? ⟨w1.heap.size, 0, none⟩ = some (.int .i64 op) ∧ W.cell? ⟨w2.heap.size, 0, none⟩ = some (.int .i64 pre.length) ∧
            W.frozen? ⟨w.heap.size + 1, 0, none⟩ = false ∧ W.frozen? ⟨w.heap.size + 2, 0, none⟩ = false ∧ W.frozen? ⟨w.heap.size + 3, 0, none⟩ = false ∧ W.frozen? ⟨w2.heap.size, 0, none⟩ = false ∧ (∀ j ∈ pre, el op (kn l)[j].2 = true)) ∧ Below w.heap.size w W)
        (fun c pre W => (c = .ret ∧ W.cell? ⟨w.heap.size + 1, 0, none⟩ = some (.int .i64 0) ∧ W.cell? ⟨w.heap.size + 2, 0, none⟩ = some (.int .i64 0) ∧ W.cell? ⟨w.heap.size + 3, 0, none⟩ = some (.int .i64 9) ∧ ∃ j : Fin (kn l).length, el op (kn l)[j].2 = false) ∧ Below w.heap.size w W)
        (OwnFrom.and (Own.from (fun s A B row hs hg hr => ⟨cell_kept hs.1 hg hr, cell_kept hs.2.1 hg hr, cell_kept hs.2.2.1 hg hr, cell_kept hs.2.2.2.1 hg hr, cell_kept hs.2.2.2.2.1 hg hr, (frozen_kept hs.1 hg hr).trans hs.2.2.2.2.2.1, (frozen_kept hs.2.1 hg hr).trans hs.2.2.2.2.2.2.1, (frozen_kept hs.2.2.1 hg hr).trans hs.2.2.2.2.2.2.2.1, (frozen_kept hs.2.2.2.2.1 hg hr).trans hs.2.2.2.2.2.2.2.2.1, hs.2.2.2.2.2.2.2.2.2⟩) _) (ownFrom_below (Nat.le_refl _) (by omega)))
        (fun c => OwnFrom.and (Own.from (fun s A B row hs hg hr => ⟨hs.1, cell_kept hs.2.1 hg hr, cell_kept hs.2.2.1 hg hr, cell_kept hs.2.2.2.1 hg hr, hs.2.2.2.2⟩) _) (ownFrom_below (Nat.le_refl _) (by omega)))
        ⟨⟨y1, y2, y3, y7, y9, x1, x2, x3, x9, fun j hj => by cases hj⟩, hBW⟩
        (fun j => { tmps := #[.agg #[.int .i64 op], .slice A l.length c, .pointer (some ⟨w.heap.size, 0, none⟩), undef, .pointer (some ⟨w.heap.size + 1, 0, none⟩), .pointer (some ⟨w.heap.size + 2, 0, none⟩), .pointer (some ⟨w.heap.size + 3, 0, none⟩), .pointer (some ⟨w1.heap.size, 0, none⟩), .bool true, .pointer (some ⟨w2.heap.size, 0, none⟩), undef, .int .i64 (kn l)[j].2, .tuple #[.int .i64 op, .bool true], .agg #[.int .i64 op], .tuple #[.int .i64 op, .bool true], .int .i64 op, .bool true, .bool true, .bool false, .slice A l.length c, .int .i64 l.length, .bool false, .bool false, .slice A l.length c, .int .i64 l.length, .pointer (some ⟨w.heap.size, 0, none⟩), .int .i64 op, .bool false, .bool false, .slice A l.length c, .func (.func 83) #[] #[.pointer (some ⟨w3.heap.size, 0, none⟩)], .int .i64 (kn l)[j].1, .int .i64 (kn l)[j].2, undef, undef, undef, undef, undef, undef, undef, undef], defers := [] }) ?assign ?body ?done ?stop
      case assign =>
        intro lr x W K hK
        gi_wp2
        exact hK
      case body =>
        rintro lr pre j W ⟨⟨p1, p2, p3, p7, p9, r1, r2, r3, r9, hok⟩, hB⟩ hpl
        have HOK := Lib.hid hok
        have hpl2 : pre.length ≤ 1000000 := by
          have h1 : (kn l).length ≤ l.length := kn_len l 0
          omega
        clear hok hpl y1 y2 y3 y7 y9 x1 x2 x3 x9 cS
        simp only [Fin.getElem_fin]
        obtain ⟨y, ey⟩ : ∃ y, (kn l)[j.1].2 = y := ⟨_, rfl⟩
        rw [ey]
        have EY := Lib.hid ey
        clear ey
        gi_wp2_with fail
        refine ⟨trivial, (CallsIn.inRound lr (callsIn_wide.2 (has_any _ _ _))).mono ?_⟩
        rintro e w' ⟨rfl, rfl⟩
        cases he : el op y with
        | true =>
          have HE := Lib.hid he
          clear he
          gi_wp2_with fail
          have hne1 : w2.heap.size ≠ w.heap.size + 1 := by omega
          have hne2 : w2.heap.size ≠ w.heap.size + 2 := by omega
          have hne3 : w2.heap.size ≠ w.heap.size + 3 := by omega
          have hne7 : w2.heap.size ≠ w1.heap.size := by omega
          refine ⟨(KeepsOthers.setCell _ _ _).from _, ⟨by simp [World.setCell], fun p hp => World.cell?_setCell_other _ _ _ _ (fun e => by rw [← e] at hp; have h5 : w2.heap.size < w.heap.size := hp; omega)⟩, ⟨setOther p1 hne1, setOther p2 hne2, setOther p3 hne3, setOther p7 hne7, ?_, by rw [World.frozen?_setCell]; exact r1, by rw [World.frozen?_setCell]; exact r2, by rw [World.frozen?_setCell]; exact r3, by rw [World.frozen?_setCell]; exact r9, fun q hq => ?_⟩, hB.setCell (p := ⟨w2.heap.size, 0, none⟩) (by show w.heap.size ≤ w2.heap.size; omega) _⟩
          · rw [World.cell?_setCell_same _ _ _ p9, List.length_append]
            rfl
          · rcases List.mem_append.1 hq with hq | hq
            · exact HOK.out q hq
            · simp at hq
              subst hq
              show el op (kn l)[q.1].2 = true
              rw [EY.out]
              exact HE.out
        | false =>
          have HE := Lib.hid he
          clear he
          gi_wp2_with fail
          obtain ⟨q1, q2, q3⟩ := set3 (a := .int .i64 0) (b := .int .i64 0) (c := .int .i64 9) p1 p2 p3
          exact ⟨(((KeepsOthers.setCell _ _ _).trans (KeepsOthers.setCell _ _ _)).trans (KeepsOthers.setCell _ _ _)).from _, ⟨rfl, q1, q2, q3, j, by show el op (kn l)[j.1].2 = false; rw [EY.out]; exact HE.out⟩, below3 hB⟩
      case done =>
        rintro D ys W hD rfl ⟨⟨p1, p2, p3, p7, p9, r1, r2, r3, r9, hok⟩, hB⟩ hK
        have HE := Lib.hid (ce_0 HPB.out hbad hok)
        rw [upA_length (Nat.le_refl _)] at p9
        clear hok y1 y2 y3 y7 y9 x1 x2 x3 x9 cS
        have HK := Lib.hid hK
        have hfo : Try.prog.follows .mixedOrders = true := by kernel_rfl
        clear hK
        gi_wp2_with fail
        gi_region_with_o (fail)
        all_goals
          gi_wp2_with fail
          obtain ⟨q1, q2, q3⟩ := set3 (a := .int .i64 op) (b := .int .i64 (kn l).length) (c := .int .i64 0) p1 p2 p3
          have hk1 := (((KeepsOthers.setCell W ⟨w.heap.size + 1, 0, none⟩ (.int .i64 op)).trans (KeepsOthers.setCell _ ⟨w.heap.size + 2, 0, none⟩ (.int .i64 (kn l).length))).trans (KeepsOthers.setCell _ ⟨w.heap.size + 3, 0, none⟩ (.int .i64 0))).same D _ HK.out rfl
          have hB9 := below3 (a := .int .i64 op) (b := .int .i64 (kn l).length) (c := .int .i64 0) hB
          generalize ((W.setCell ⟨w.heap.size + 1, 0, none⟩ (.int .i64 op)).setCell ⟨w.heap.size + 2, 0, none⟩ (.int .i64 (kn l).length)).setCell ⟨w.heap.size + 3, 0, none⟩ (.int .i64 0) = WX at q1 q2 q3 hk1 hB9 ⊢
          have hk2 : WX.drew.heap[D]? = some (.deferred (some [])) := hk1
          refine ⟨by simp, .inl ⟨_, _, rfl, run_takeDeferred hk2, ?_⟩⟩
          have z1 := cell_kept (W := WX.drew) q1 (grownBy_putObj' WX.drew D (.deferred none)) (fun r e => by cases e; exact ⟨_, hk2, rfl⟩)
          have z2 := cell_kept (W := WX.drew) q2 (grownBy_putObj' WX.drew D (.deferred none)) (fun r e => by cases e; exact ⟨_, hk2, rfl⟩)
          have z3 := cell_kept (W := WX.drew) q3 (grownBy_putObj' WX.drew D (.deferred none)) (fun r e => by cases e; exact ⟨_, hk2, rfl⟩)
          exact ⟨.tuple #[.int .i64 op, .int .i64 (kn l).length, .int .i64 0], by simp [results, Try.results52, go_sem, z1, z2, z3], by rw [HE.out.1, HE.out.2.1, HE.out.2.2], hB9.drew.trans (belowK_b (w := w) (Nat.le_refl _) WX.drew D _ _ (by omega) hk2 rfl rfl)⟩
      case stop =>
        rintro D c pre W hD _ ⟨⟨rfl, p1, p2, p3, j, hj⟩, hB⟩ hK
        have HE := Lib.hid (ce_9 HPB.out hbad j hj)
        have HJ := Lib.hid hj
        clear hj
        gi_wp2
        refine ⟨by simp, .inl ⟨_, _, rfl, run_takeDeferred hK, ?_⟩⟩
        have q1 := cell_kept p1 (grownBy_putObj' W D (.deferred none)) (fun r e => by cases e; exact ⟨_, hK, rfl⟩)
        have q2 := cell_kept p2 (grownBy_putObj' W D (.deferred none)) (fun r e => by cases e; exact ⟨_, hK, rfl⟩)
        have q3 := cell_kept p3 (grownBy_putObj' W D (.deferred none)) (fun r e => by cases e; exact ⟨_, hK, rfl⟩)
        exact ⟨.tuple #[.int .i64 0, .int .i64 0, .int .i64 9], by simp [results, Try.results52, go_sem, q1, q2, q3], by rw [HE.out.1, HE.out.2.1, HE.out.2.2], hB.trans (belowK_b (w := w) (Nat.le_refl _) W D _ _ (by omega) hK rfl rfl)⟩
theorem cells_any (P : Int) (l : List (Int × Bool)) (v : Value) (w : World) (hP : i64r P) (h : SCl w v l) (hz : l.length ≤ 1000000) :
    Calls Try.prog 52 #[.agg #[.int .i64 P], v] w fun e w' => e = .returned (.tuple #[.int .i64 (ceP P l), .int .i64 (ceN P l), .int .i64 (ceE P l)]) ∧ Below w.heap.size w w' :=
  callsIn_wide.1 (cells_in P l v w hP h hz)
theorem knF_at (l : List (Int × Bool)) : ∀ i, ∀ t ∈ knF i l, (i : Int) + 1 ≤ t.1 ∧ t.1 ≤ (i : Int) + l.length := by
  induction l with
  | nil => intro i t h; simp [knF] at h
  | cons c l ih =>
    intro i t h
    simp only [knF, List.mem_append, List.length_cons] at h ⊢
    rcases h with h | h
    · split at h
      · simp at h; subst h; simp; omega
      · simp at h
    · have := ih (i + 1) t h
      omega
theorem kn_at {l : List (Int × Bool)} {t : Int × Int} (h : t ∈ kn l) : 1 ≤ t.1 ∧ t.1 ≤ l.length := by
  have := knF_at l 0 t h
  omega
end Go.Proofs.Ytbgabipngdillaa

namespace Go.Proofs.Ytbgabipngdillaa
open Go.RowKit Go.Shelf
attribute [local go_sem] Oper.semAt_some

/-- does the polynomial run through a share -/
def hit (P : Int) (p : List Int) (t : Int × Int) : Bool := val P p t.1 == t.2
def agC (P : Int) (l : List (Int × Bool)) (p : List Int) : Nat := ((kn l).filter (hit P p)).length
def agE (P : Int) (l : List (Int × Bool)) (p : List Int) : Int := if ceE P l = 0 then opE P [p] else ceE P l
def agN (P : Int) (l : List (Int × Bool)) (p : List Int) : Int := if agE P l p = 0 then (agC P l p : Int) else 0
theorem ag_ce {P : Int} {l : List (Int × Bool)} {p : List Int} (h : ceE P l ≠ 0) : agE P l p = ceE P l ∧ agN P l p = 0 := by
  have e : agE P l p = ceE P l := if_neg h
  exact ⟨e, if_neg (by rw [e]; exact h)⟩
theorem ag_op {P : Int} {l : List (Int × Bool)} {p : List Int} (h : ceE P l = 0) (h2 : opE P [p] ≠ 0) : agE P l p = opE P [p] ∧ agN P l p = 0 := by
  have e : agE P l p = opE P [p] := if_pos h
  exact ⟨e, if_neg (by rw [e]; exact h2)⟩
theorem ag_0 {P : Int} {l : List (Int × Bool)} {p : List Int} (h : ceE P l = 0) (h2 : opE P [p] = 0) : agE P l p = 0 ∧ agN P l p = agC P l p := by
  have e : agE P l p = 0 := by unfold agE; rw [if_pos h, h2]
  exact ⟨e, if_pos e⟩
theorem ceE_inv {P : Int} {l : List (Int × Bool)} (h : ceE P l = 0) : prB P = true ∧ l.length ≤ 32 ∧ (l.length : Int) < P ∧ ∀ t ∈ kn l, el P t.2 = true := by
  unfold ceE at h
  by_cases h1 : prB P = false
  · rw [if_pos h1] at h; omega
  rw [if_neg h1] at h
  by_cases h2 : 32 < l.length ∨ P ≤ l.length
  · rw [if_pos h2] at h; omega
  rw [if_neg h2] at h
  by_cases h3 : ((kn l).all fun p => el P p.2) = true
  · exact ⟨by simpa using h1, by omega, by omega, fun t ht => List.all_eq_true.1 h3 t ht⟩
  · rw [if_neg h3] at h; omega
theorem opE_one {P : Int} {a : List Int} (h : opE P [a] = 0) : prB P = true ∧ els P a = true ∧ a.length ≤ 512 := by
  unfold opE at h
  by_cases h1 : prB P = false
  · rw [if_pos h1] at h; omega
  rw [if_neg h1] at h
  by_cases h2 : ([a].all (els P)) = false
  · rw [if_pos h2] at h; omega
  rw [if_neg h2] at h
  by_cases h3 : longB [a] = true
  · rw [if_pos h3] at h; omega
  simp [longB] at h1 h2 h3
  exact ⟨h1, h2, by omega⟩
/-- how many of some places are hit -/
def hits (P : Int) (l : List (Int × Bool)) (p : List Int) (pre : List (Fin (kn l).length)) : Nat := (pre.filter fun j => hit P p (kn l)[j]).length
theorem hits_snoc (P : Int) (l : List (Int × Bool)) (p : List Int) (pre : List (Fin (kn l).length)) (j : Fin (kn l).length) : hits P l p (pre ++ [j]) = hits P l p pre + if hit P p (kn l)[j] = true then 1 else 0 := by
  unfold hits
  rw [List.filter_append, List.length_append, List.filter_cons]
  split <;> rfl
theorem hits_one (P : Int) (l : List (Int × Bool)) (p : List Int) (pre : List (Fin (kn l).length)) (j : Fin (kn l).length) : (hit P p (kn l)[j.1] = true → hits P l p (pre ++ [j]) = hits P l p pre + 1) ∧ (hit P p (kn l)[j.1] = false → hits P l p (pre ++ [j]) = hits P l p pre) := by
  constructor
  · intro h
    rw [hits_snoc, if_pos (by simpa using h)]
  · intro h
    rw [hits_snoc, if_neg (by simp [h])]; rfl
theorem hits_upA (P : Int) (l : List (Int × Bool)) (p : List Int) (k : Nat) (h : k ≤ (kn l).length) : hits P l p (upA (kn l).length k) = (((kn l).take k).filter (hit P p)).length := by
  induction k with
  | zero => simp [upA, hits]
  | succ k ih =>
    rw [upA_succ (by omega), hits_snoc, ih (by omega), List.take_succ_eq_append_getElem (by omega), List.filter_append, List.length_append, List.filter_cons]
    simp only [Fin.getElem_fin]
    split <;> rfl
theorem hits_all (P : Int) (l : List (Int × Bool)) (p : List Int) : hits P l p (upA (kn l).length (kn l).length) = agC P l p := by
  rw [hits_upA P l p _ (Nat.le_refl _), List.take_length]; rfl
theorem hits_le (P : Int) (l : List (Int × Bool)) (p : List Int) (pre : List (Fin (kn l).length)) : hits P l p pre ≤ pre.length := List.length_filter_le _ _

set_option maxRecDepth 100000 in
set_option maxHeartbeats 4000000 in
theorem agree_in (P : Int) (l : List (Int × Bool)) (p : List Int) (v vp : Value) (w : World) (hP : i64r P) (h : SCl w v l) (hz : l.length ≤ 1000000) (hp : SI w vp p) :
    CallsIn Fence.wide 8 Try.prog 44 #[.agg #[.int .i64 P], v, vp] w fun e w' => e = .returned (.tuple #[.int .i64 (agN P l p), .int .i64 (agE P l p)]) ∧ Below w.heap.size w w' := by
  have HS := Lib.hid h
  have HSP := Lib.hid hp
  obtain ⟨A, c, rfl⟩ := h.form
  obtain ⟨AP, cp, rfl⟩ := hp.form
  clear h hp
  refine callsIn_of_wp_marks Try.func44 rfl trivial ?_ rfl
  simp only [Try.ntmps44, List.size_toArray, List.length_cons, List.length_nil, Nat.reduceAdd, Nat.reduceSub, Array.replicate_succ, Array.replicate_zero, List.push_toArray, List.append_toArray, List.nil_append, List.cons_append]
  gi_upto_region 1 with fail
  obtain ⟨w0, ew⟩ : ∃ w0 : World, w0 = (w.alloc (.cells #[.int .i64 P] 26)).alloc (.cells #[.slice AP p.length cp] 22) := ⟨_, rfl⟩
  have hB0 : Below w.heap.size w w0 := by rw [ew]; exact ((Below.refl _ _).alloc (Nat.le_refl _) _).alloc (by simp) _
  have hz0 : w.heap.size + 1 < w0.heap.size := by rw [ew]; simp
  have b0 : w0.cell? ⟨w.heap.size, 0, none⟩ = some (.int .i64 P) := by rw [ew]; simp [go_sem]
  have b1 : w0.cell? ⟨w.heap.size + 1, 0, none⟩ = some (.slice AP p.length cp) := by rw [ew]; simp [go_sem]
  rw [← ew]
  clear ew
  have HS0 := Lib.hid (HS.out.below hB0)
  gi_wp2_with fail
  refine ⟨trivial, (callsIn_wide.2 (cells_any P l _ _ hP HS0.out hz)).mono ?_⟩
  rintro e w1 ⟨rfl, hb1⟩
  have hB1 := hB0.trans (hb1.mono hB0.size)
  have hz1 := hb1.size
  have c0 := (hb1.cell (p := ⟨w.heap.size, 0, none⟩) (by show w.heap.size < _; omega)).trans b0
  have c1 := (hb1.cell (p := ⟨w.heap.size + 1, 0, none⟩) (by show w.heap.size + 1 < _; omega)).trans b1
  clear b0 b1
  by_cases h0 : ceE P l = 0
  · obtain ⟨hp, hl32, hlP, hkn⟩ := ceE_inv h0
    have hcp : ceP P l = P := if_pos h0
    have hPb := prB_bd hp
    have HCE := Lib.hid h0
    have HKN := Lib.hid hkn
    rw [h0, hcp]
    generalize ceN P l = cn
    clear h0 hcp hkn hp
    gi_upto_region 4 with fail
    obtain ⟨w2, ew⟩ : ∃ w2 : World, w2 = w1.alloc (.cells #[.int .i64 P] 95) := ⟨_, rfl⟩
    have hb2 : Below w1.heap.size w1 w2 := by rw [ew]; exact (Below.refl _ _).alloc (Nat.le_refl _) _
    have hz2 : w1.heap.size < w2.heap.size := by rw [ew]; simp
    have d0 := (hb2.cell (p := ⟨w.heap.size, 0, none⟩) (by show w.heap.size < _; omega)).trans c0
    have d1 := (hb2.cell (p := ⟨w.heap.size + 1, 0, none⟩) (by show w.heap.size + 1 < _; omega)).trans c1
    have d8 : w2.cell? ⟨w1.heap.size, 0, none⟩ = some (.int .i64 P) := by rw [ew]; exact cell_of_row _ _ 0 _ _ (0, 0) (heap_alloc_new w1 _)
    have hB2 := hB1.trans (hb2.mono hB1.size)
    have HSP2 := Lib.hid (SI.below HSP.out hB2)
    rw [← ew]
    clear ew c0 c1
    gi_wp2_with fail
    refine ⟨trivial, (callsIn_wide.2 (degree_any P p _ _ hP HSP2.out)).mono ?_⟩
    rintro e w3 ⟨rfl, hb3⟩
    have hB3 := hB2.trans (hb3.mono hB2.size)
    have hz3 := hb3.size
    have e0 := (hb3.cell (p := ⟨w.heap.size, 0, none⟩) (by show w.heap.size < _; omega)).trans d0
    have e1 := (hb3.cell (p := ⟨w.heap.size + 1, 0, none⟩) (by show w.heap.size + 1 < _; omega)).trans d1
    have e8 := (hb3.cell (p := ⟨w1.heap.size, 0, none⟩) hz2).trans d8
    clear d0 d1 d8
    generalize dgV P p = dv
    by_cases h1 : opE P [p] = 0
    · obtain ⟨_, hep, hpl⟩ := opE_one h1
      have HOP := Lib.hid h1
      have HEP := Lib.hid hep
      rw [h1]
      clear h1 hep
      gi_upto_region 8 with fail
      obtain ⟨w4, ew⟩ : ∃ w4 : World, w4 = w3.alloc (.cells #[.int .i64 0] 3) := ⟨_, rfl⟩
      have hb4 : Below w3.heap.size w3 w4 := by rw [ew]; exact (Below.refl _ _).alloc (Nat.le_refl _) _
      have hz4 : w3.heap.size < w4.heap.size := by rw [ew]; simp
      have f1 := (hb4.cell (p := ⟨w.heap.size + 1, 0, none⟩) (by show w.heap.size + 1 < _; omega)).trans e1
      have f8 := (hb4.cell (p := ⟨w1.heap.size, 0, none⟩) (by show w1.heap.size < _; omega)).trans e8
      have f13 : w4.cell? ⟨w3.heap.size, 0, none⟩ = some (.int .i64 0) := by rw [ew]; exact cell_of_row _ _ 0 _ _ (0, 0) (heap_alloc_new w3 _)
      have g13 : w4.frozen? ⟨w3.heap.size, 0, none⟩ = false := by rw [ew]; exact frozen_of_row _ _ 0 _ _ (heap_alloc_new w3 _)
      have hB4 := hB3.trans (hb4.mono hB3.size)
      rw [← ew]
      clear ew e0 e1 e8
      gi_wp2_with fail
      refine ⟨trivial, (callsIn_wide.2 (known_any _ _ _ _)).mono ?_⟩
      rintro e w' ⟨rfl, rfl⟩
      gi_wp2_with fail
      obtain ⟨W0, eW⟩ : ∃ W0 : World, W0 = w4.alloc (.cells #[.slice A l.length c] 27) := ⟨_, rfl⟩
      have hbW : Below w4.heap.size w4 W0 := by rw [eW]; exact (Below.refl _ _).alloc (Nat.le_refl _) _
      have hzW : w4.heap.size < W0.heap.size := by rw [eW]; simp
      have cS : W0.cell? ⟨w4.heap.size, 0, none⟩ = some (.slice A l.length c) := by rw [eW]; exact cell_of_row _ _ 0 _ _ (0, 0) (heap_alloc_new w4 _)
      have hBW := hB4.trans (hbW.mono hB4.size)
      have y1 := (hbW.cell (p := ⟨w.heap.size + 1, 0, none⟩) (by show w.heap.size + 1 < _; omega)).trans f1
      have y8 := (hbW.cell (p := ⟨w1.heap.size, 0, none⟩) (by show w1.heap.size < _; omega)).trans f8
      have y13 := (hbW.cell (p := ⟨w3.heap.size, 0, none⟩) hz4).trans f13
      have x13 := (hbW.frozen (p := ⟨w3.heap.size, 0, none⟩) hz4).trans g13
      rw [← eW]
      clear eW f1 f8 f13 g13
      have HA := Lib.hid HS.out
      refine wpIn_rangeFunc_ownG rfl (by omega) (gf := 83) (lb := #[.pointer (some ⟨w4.heap.size, 0, none⟩)]) rfl trivial (enters_of Try.func83 (by kernel_rfl) rfl)
        (kn_stops 7 (by omega) w4.heap.size (fun b => b < w.heap.size) l A c hz W0 (fun k hk => by omega) hzW cS
          (fun h0 => by
            obtain ⟨A', c', e, _, _, _, ha⟩ := HS.out
            injection e with e1 e2 e3
            subst e1
            obtain ⟨b, off, e, hb, hc⟩ := ha h0
            exact ⟨b, off, e, hb, fun j hj => ⟨(hBW.cell (p := ⟨b, off + j * 2, none⟩) hb).trans (hc j hj).1, (hBW.cell (p := ⟨b, off + j * 2 + 1, none⟩) hb).trans (hc j hj).2⟩⟩))
        KB_t (KB_b (fun k hk => by omega)) (Below.refl _ _) (fun _ => rfl)
        (fun pre W => (W.cell? ⟨w.heap.size + 1, 0, none⟩ = some (.slice AP p.length cp) ∧ W.cell? ⟨w1.heap.size, 0, none⟩ = some (.int .i64 P) ∧ W.cell? ⟨w3.heap.size, 0, none⟩ = some (.int .i64 (hits P l p pre)) ∧ W.frozen? ⟨w3.heap.size, 0, none⟩ = false ∧ W0.heap.size ≤ W.heap.size) ∧ Below w.heap.size w W)
        (fun _ _ _ => False)
        (OwnFrom.and (Own.from (fun s A B row hs hg hr => ⟨cell_kept hs.1 hg hr, cell_kept hs.2.1 hg hr, cell_kept hs.2.2.1 hg hr, (frozen_kept hs.2.2.1 hg hr).trans hs.2.2.2.1, Nat.le_trans hs.2.2.2.2 hg.size⟩) _) (ownFrom_below (Nat.le_refl _) (by omega)))
        (fun _ _ _ _ _ hs _ _ => hs)
        ⟨⟨y1, y8, y13, x13, Nat.le_refl _⟩, hBW⟩
        (fun j => { tmps := #[.agg #[.int .i64 P], .slice A l.length c, .slice AP p.length cp, .pointer (some ⟨w.heap.size, 0, none⟩), undef, .pointer (some ⟨w.heap.size + 1, 0, none⟩), .int .i64 0, .int .i64 0, .pointer (some ⟨w1.heap.size, 0, none⟩), .int .i64 cn, .int .i64 0, .int .i64 dv, .int .i64 0, .pointer (some ⟨w3.heap.size, 0, none⟩), .int .i64 (kn l)[j].1, .int .i64 (kn l)[j].2, .tuple #[.int .i64 P, .int .i64 cn, .int .i64 0], .agg #[.int .i64 P], .slice A l.length c, .tuple #[.int .i64 P, .int .i64 cn, .int .i64 0], .int .i64 P, .int .i64 cn, .int .i64 0, .int .i64 0, .bool false, undef, .tuple #[.int .i64 dv, .int .i64 0], .agg #[.int .i64 P], .slice AP p.length cp, .tuple #[.int .i64 dv, .int .i64 0], .int .i64 dv, .int .i64 0, .int .i64 0, .bool false, undef, .slice A l.length c, .func (.func 83) #[] #[.pointer (some ⟨w4.heap.size, 0, none⟩)], .int .i64 (kn l)[j].1, .int .i64 (kn l)[j].2, undef, undef, undef, undef, undef, undef, undef, undef, undef], defers := [] }) ?assign ?body ?done ?stop
      case assign =>
        intro lr x W K hK
        gi_wp2
        exact hK
      case body =>
        rintro lr pre j W ⟨⟨p1, p8, p13, r13, hzz⟩, hB⟩ hpl2
        have hlen2 : pre.length ≤ 1000000 := by
          have h1 : (kn l).length ≤ l.length := kn_len l 0
          omega
        have hhl := hits_le P l p pre
        have hx := kn_at (List.getElem_mem j.2)
        have HHS := Lib.hid (hits_one P l p pre j)
        have HSPW := Lib.hid (SI.below HSP.out hB)
        clear y1 y8 y13 x13 cS hpl2
        simp only [Fin.getElem_fin] at HHS ⊢
        obtain ⟨t, et⟩ : ∃ t, (kn l)[j.1] = t := ⟨_, rfl⟩
        rw [et] at HHS hx ⊢
        clear et
        have hxP : 0 ≤ t.1 ∧ t.1 < P := by omega
        gi_wp2_with fail
        refine ⟨trivial, (CallsIn.inRound lr (callsIn_wide.2 (value_any P t.1 p _ _ hPb hxP HEP.out (by omega) HSPW.out))).mono ?_⟩
        rintro e w5 ⟨rfl, hb5⟩
        have hz5 := hb5.size
        have hkf : KeepsFrom W0.heap.size W w5 := KeepsFrom.of_grownBy (grownBy_of_below hb5 none) (fun j e => by cases e)
        have hkb : KB (fun b => b < w.heap.size) W w5 := KB.of hb5 (fun k hk => by have := hB.size; omega)
        have q1 := (hb5.cell (p := ⟨w.heap.size + 1, 0, none⟩) (by show w.heap.size + 1 < _; omega)).trans p1
        have q8 := (hb5.cell (p := ⟨w1.heap.size, 0, none⟩) (by show w1.heap.size < _; omega)).trans p8
        have q13 := (hb5.cell (p := ⟨w3.heap.size, 0, none⟩) (by show w3.heap.size < _; omega)).trans p13
        have s13 := (hb5.frozen (p := ⟨w3.heap.size, 0, none⟩) (by show w3.heap.size < _; omega)).trans r13
        have hB5 := hB.trans (hb5.mono hB.size)
        clear p1 p8 p13 r13
        cases hh : hit P p t with
        | true =>
          have hv : (val P p t.1 == t.2) = true := hh
          have HH := Lib.hid hh
          clear hh
          gi_wp2_with fail
          have hne : w3.heap.size ≠ w.heap.size + 1 := by omega
          have hne8 : w3.heap.size ≠ w1.heap.size := by omega
          have hk2 : KB (fun b => b < w.heap.size) w5 (w5.setCell ⟨w3.heap.size, 0, none⟩ (.int .i64 ((hits P l p pre : Int) + 1))) := ⟨by simp [World.setCell], fun p hp => World.cell?_setCell_other _ _ _ _ (fun e => by rw [← e] at hp; have h5 : w3.heap.size < w.heap.size := hp; omega)⟩
          refine ⟨hkf.trans ((KeepsOthers.setCell _ _ _).from _), KB_t hkb hk2, ⟨setOther q1 hne, setOther q8 hne8, ?_, by rw [World.frozen?_setCell]; exact s13, ?_⟩, hB5.setCell (p := ⟨w3.heap.size, 0, none⟩) (by show w.heap.size ≤ w3.heap.size; omega) _⟩
          · rw [World.cell?_setCell_same _ _ _ q13, HHS.out.1 HH.out]
            rfl
          · have := (KeepsOthers.setCell w5 ⟨w3.heap.size, 0, none⟩ (.int .i64 ((hits P l p pre : Int) + 1))).size
            omega
        | false =>
          have hv : (val P p t.1 == t.2) = false := hh
          have HH := Lib.hid hh
          clear hh
          gi_wp2_with fail
          exact ⟨hkf, hkb, ⟨q1, q8, by rw [HHS.out.2 HH.out]; exact q13, s13, by omega⟩, hB5⟩
      case done =>
        rintro D ys W hD rfl ⟨⟨p1, p8, p13, r13, hzz⟩, hB⟩ hK
        have HE := Lib.hid (ag_0 HCE.out HOP.out)
        rw [hits_all] at p13
        clear y1 y8 y13 x13 cS
        gi_wp2
        refine ⟨by simp, .inl ⟨_, _, rfl, run_takeDeferred hK, ?_⟩⟩
        exact ⟨_, results_tmp2 rfl _ _ _, by rw [HE.out.1, HE.out.2]; rfl, hB.trans (belowK_b (w := w) (Nat.le_refl _) W D _ _ (by omega) hK rfl rfl)⟩
      case stop =>
        rintro D c pre W _ _ h _
        exact h.elim
    · have HE := Lib.hid (ag_op HCE.out h1)
      have hb : (opE P [p] != 0) = true := by rw [bne_iff_ne]; exact h1
      have H1 := Lib.hid h1
      clear h1
      gi_wp2_with fail
      exact ⟨_, results_tmp2 rfl _ _ _, by rw [HE.out.1, HE.out.2]; rfl, hB3⟩
  · have HE := Lib.hid (ag_ce (p := p) h0)
    have hb : (ceE P l != 0) = true := by rw [bne_iff_ne]; exact h0
    have H0 := Lib.hid h0
    clear h0
    gi_wp2_with fail
    exact ⟨_, results_tmp2 rfl _ _ _, by rw [HE.out.1, HE.out.2]; rfl, hB1.trans (((Below.refl _ _).alloc (Nat.le_refl _) _).mono hB1.size)⟩
theorem agree_any (P : Int) (l : List (Int × Bool)) (p : List Int) (v vp : Value) (w : World) (hP : i64r P) (h : SCl w v l) (hz : l.length ≤ 1000000) (hp : SI w vp p) :
    Calls Try.prog 44 #[.agg #[.int .i64 P], v, vp] w fun e w' => e = .returned (.tuple #[.int .i64 (agN P l p), .int .i64 (agE P l p)]) ∧ Below w.heap.size w w' :=
  callsIn_wide.1 (agree_in P l p v vp w hP h hz hp)
end Go.Proofs.Ytbgabipngdillaa
