/- Joined: Ce Fi. -/
import Derived.Sort.CutIn
import Derived.Maps.OwnIn
import Derived.Test.YtbgabipngdillaaZ05
namespace Go.Proofs.Ytbgabipngdillaa
open Go.RowKit Go.Shelf
attribute [local go_sem] Oper.semAt_some

set_option maxRecDepth 100000 in
set_option maxHeartbeats 2000000 in
theorem kn1_nil (n lr Bs c : Nat) (A : Option Addr) (J : World → Prop) (W : World) (hBs : W.cell? ⟨Bs, 0, none⟩ = some (.slice A 0 c)) (h0 : J W) :
    CallsIn Fence.wide n Try.prog 83 #[.func (.yield lr) #[] #[], .pointer (some ⟨Bs, 0, none⟩)] W fun e W' => (∃ v, e = .returned v) ∧ J W' := by
  refine callsIn_of_wp Try.func83 rfl trivial ?_ rfl
  simp only [Try.ntmps83, List.size_toArray, List.length_cons, List.length_nil, Nat.reduceAdd, Nat.reduceSub, Array.replicate_succ, Array.replicate_zero, List.push_toArray, List.append_toArray, List.nil_append, List.cons_append]
  gi_wp2_with fail
  gi_loopw [7] (fun i wr => i = .int .i64 0 ∧ J wr) (fun _ _ => 0)
  case atStart => exact ⟨rfl, h0⟩
  case round =>
    obtain ⟨rfl, hJs⟩ := hrel
    gi_wp2
    go_end0
    exact ⟨⟨_, rfl⟩, hJs⟩
theorem kn_stops (n : Nat) (hn : 1 ≤ n) (Bs : Nat) (K : Nat → Prop) (l : List (Int × Bool)) (A : Option Addr) (c : Nat) (hz : l.length ≤ 1000000) (w : World) (hK : ∀ k, K k → k < w.heap.size) (hBl : Bs < w.heap.size)
    (hBs : w.cell? ⟨Bs, 0, none⟩ = some (.slice A l.length c)) (h : 0 < l.length → ∃ b off, A = some ⟨b, off, none⟩ ∧ K b ∧ ∀ j (h : j < l.length), w.cell? ⟨b, off + j * 2, none⟩ = some (.int .i64 l[j].1) ∧ w.cell? ⟨b, off + j * 2 + 1, none⟩ = some (.bool l[j].2)) :
    SeqStopsK Fence.wide n Try.prog 83 #[.pointer (some ⟨Bs, 0, none⟩)] (fun x : Fin (kn l).length => #[.int .i64 (kn l)[x].1, .int .i64 (kn l)[x].2]) (KB K) (fun ys => ys = upA (kn l).length (kn l).length) (fun pre => ∃ k, k ≤ (kn l).length ∧ pre = upA (kn l).length k) (kn l).length w := fun lr J Jx W hW hJ _ hY h0 => by
  have hBs' := (hW.cell (p := ⟨Bs, 0, none⟩) hBl).trans hBs
  by_cases hl : l.length = 0
  · have hln : l = [] := List.eq_nil_of_length_eq_zero hl
    subst hln
    exact (kn1_nil n lr Bs c A (J []) W hBs' h0).mono fun e W' ⟨he, hj⟩ => ⟨he, .inl ⟨[], rfl, hj⟩⟩
  · obtain ⟨b, off, rfl, hKb, hc⟩ := h (by omega)
    exact kn1_in n hn lr Bs b off c K l hKb hz J Jx W (fun k hk => by have := hK k hk; have := hW.size; omega) hJ hY hBs' (fun j hj => ⟨(hW.cell (p := ⟨b, off + j * 2, none⟩) (hK _ hKb)).trans (hc j hj).1, (hW.cell (p := ⟨b, off + j * 2 + 1, none⟩) (hK _ hKb)).trans (hc j hj).2⟩) h0
theorem known_any (A : Option Addr) (n c : Nat) (w : World) :
    Calls Try.prog 67 #[.slice A n c] w fun e w' => e = .returned (.func (.func 83) #[] #[.pointer (some ⟨w.heap.size, 0, none⟩)]) ∧ w' = w.alloc (.cells #[.slice A n c] 27) := by
  go_enter Try.func67, Try.ntmps67
  go_wp2
  go_ret
  exact ⟨rfl, rfl⟩

/-- the error of cells -/
def ceE (P : Int) (l : List (Int × Bool)) : Int := if prB P = false then 9 else if 32 < l.length ∨ P ≤ l.length then 4 else if ((kn l).all fun p => el P p.2) = true then 0 else 9
def ceP (P : Int) (l : List (Int × Bool)) : Int := if ceE P l = 0 then P else 0
def ceN (P : Int) (l : List (Int × Bool)) : Int := if ceE P l = 0 then ((kn l).length : Int) else 0
theorem ce_p {P : Int} {l : List (Int × Bool)} (h : prB P = false) : ceE P l = 9 ∧ ceP P l = 0 ∧ ceN P l = 0 := by
  have e : ceE P l = 9 := if_pos h
  exact ⟨e, if_neg (by rw [e]; omega), if_neg (by rw [e]; omega)⟩
theorem ce_4 {P : Int} {l : List (Int × Bool)} (h : prB P = true) (h2 : 32 < l.length ∨ P ≤ l.length) : ceE P l = 4 ∧ ceP P l = 0 ∧ ceN P l = 0 := by
  have e : ceE P l = 4 := by unfold ceE; rw [if_neg (by rw [h]; simp), if_pos h2]
  exact ⟨e, if_neg (by rw [e]; omega), if_neg (by rw [e]; omega)⟩
theorem ce_9 {P : Int} {l : List (Int × Bool)} (h : prB P = true) (h2 : ¬ (32 < l.length ∨ P ≤ l.length)) (j : Fin (kn l).length) (h3 : el P (kn l)[j].2 = false) : ceE P l = 9 ∧ ceP P l = 0 ∧ ceN P l = 0 := by
  have e : ceE P l = 9 := by
    unfold ceE
    rw [if_neg (by rw [h]; simp), if_neg h2, if_neg]
    intro ha
    rw [List.all_eq_true] at ha
    have := ha _ (List.getElem_mem j.2)
    simp only [Fin.getElem_fin] at h3
    rw [h3] at this
    cases this
  exact ⟨e, if_neg (by rw [e]; omega), if_neg (by rw [e]; omega)⟩
theorem ce_0 {P : Int} {l : List (Int × Bool)} (h : prB P = true) (h2 : ¬ (32 < l.length ∨ P ≤ l.length)) (h3 : ∀ j ∈ upA (kn l).length (kn l).length, el P (kn l)[j].2 = true) : ceE P l = 0 ∧ ceP P l = P ∧ ceN P l = (kn l).length := by
  have e : ceE P l = 0 := by
    unfold ceE
    rw [if_neg (by rw [h]; simp), if_neg h2, if_pos]
    rw [List.all_eq_true]
    intro x hx
    obtain ⟨j, hj, rfl⟩ := List.mem_iff_getElem.1 hx
    have := h3 ⟨j, hj⟩ (by unfold upA; rw [List.mem_filterMap]; exact ⟨j, by simpa using hj, by simp [hj]⟩)
    simpa using this
  exact ⟨e, if_pos e, if_pos e⟩

theorem set3 {w : World} {n : Nat} {a b c a' b' c' : Value} (k1 : w.cell? ⟨n + 1, 0, none⟩ = some a') (k2 : w.cell? ⟨n + 2, 0, none⟩ = some b') (k3 : w.cell? ⟨n + 3, 0, none⟩ = some c') :
    (((w.setCell ⟨n + 1, 0, none⟩ a).setCell ⟨n + 2, 0, none⟩ b).setCell ⟨n + 3, 0, none⟩ c).cell? ⟨n + 1, 0, none⟩ = some a ∧ (((w.setCell ⟨n + 1, 0, none⟩ a).setCell ⟨n + 2, 0, none⟩ b).setCell ⟨n + 3, 0, none⟩ c).cell? ⟨n + 2, 0, none⟩ = some b ∧
      (((w.setCell ⟨n + 1, 0, none⟩ a).setCell ⟨n + 2, 0, none⟩ b).setCell ⟨n + 3, 0, none⟩ c).cell? ⟨n + 3, 0, none⟩ = some c := by
  have h12 : (⟨n + 1, 0, none⟩ : Addr) ≠ ⟨n + 2, 0, none⟩ := by simp
  have h13 : (⟨n + 1, 0, none⟩ : Addr) ≠ ⟨n + 3, 0, none⟩ := by simp
  have h23 : (⟨n + 2, 0, none⟩ : Addr) ≠ ⟨n + 3, 0, none⟩ := by simp
  refine ⟨?_, ?_, ?_⟩
  · rw [World.cell?_setCell_other _ _ _ _ h13.symm, World.cell?_setCell_other _ _ _ _ h12.symm]
    exact World.cell?_setCell_same _ _ _ k1
  · rw [World.cell?_setCell_other _ _ _ _ h23.symm]
    exact World.cell?_setCell_same _ _ _ ((World.cell?_setCell_other _ _ _ _ h12).trans k2)
  · exact World.cell?_setCell_same _ _ _ ((World.cell?_setCell_other _ _ _ _ h23).trans ((World.cell?_setCell_other _ _ _ _ h13).trans k3))
theorem below3 {w w' : World} {a b c : Value} (h : Below w.heap.size w w') : Below w.heap.size w (((w'.setCell ⟨w.heap.size + 1, 0, none⟩ a).setCell ⟨w.heap.size + 2, 0, none⟩ b).setCell ⟨w.heap.size + 3, 0, none⟩ c) :=
  ((h.setCell (p := ⟨w.heap.size + 1, 0, none⟩) (by show _ ≤ w.heap.size + 1; omega) _).setCell (p := ⟨w.heap.size + 2, 0, none⟩) (by show _ ≤ w.heap.size + 2; omega) _).setCell (p := ⟨w.heap.size + 3, 0, none⟩) (by show _ ≤ w.heap.size + 3; omega) _
theorem setOther {W : World} {p q : Addr} {v u : Value} (h : W.cell? q = some u) (hne : p.block ≠ q.block) : (W.setCell p v).cell? q = some u :=
  (World.cell?_setCell_other W p q v (fun e => hne (by rw [e]))).trans h
set_option maxRecDepth 100000 in
set_option maxHeartbeats 4000000 in
theorem cells_in (P : Int) (l : List (Int × Bool)) (v : Value) (w : World) (hP : i64r P) (h : SCl w v l) (hz : l.length ≤ 1000000) :
    CallsIn Fence.wide 5 Try.prog 52 #[.agg #[.int .i64 P], v] w fun e w' => e = .returned (.tuple #[.int .i64 (ceP P l), .int .i64 (ceN P l), .int .i64 (ceE P l)]) ∧ Below w.heap.size w w' := by
  obtain ⟨A, c, rfl, hcc, hm, hr, ha⟩ := h
  have HA := Lib.hid ha
  clear hr ha
  refine callsIn_of_wp_marks Try.func52 rfl trivial ?_ rfl
  simp only [Try.ntmps52, List.size_toArray, List.length_cons, List.length_nil, Nat.reduceAdd, Nat.reduceSub, Array.replicate_succ, Array.replicate_zero, List.push_toArray, List.append_toArray, List.nil_append, List.cons_append]
  gi_wp2_with fail
  obtain ⟨w0, ew⟩ : ∃ w0 : World, w0 = (((w.alloc (.cells #[.int .i64 P] 26)).alloc (.cells #[.int .i64 0] 95)).alloc (.cells #[.int .i64 0] 3)).alloc (.cells #[.int .i64 0] 35) := ⟨_, rfl⟩
  have hB0 : Below w.heap.size w w0 := by rw [ew]; exact ((((Below.refl _ _).alloc (Nat.le_refl _) _).alloc (by simp) _).alloc (by simp; omega) _).alloc (by simp; omega) _
  have hz0 : w.heap.size + 3 < w0.heap.size := by rw [ew]; simp
  have b0 : w0.cell? ⟨w.heap.size, 0, none⟩ = some (.int .i64 P) := by rw [ew]; simp [go_sem]
  have b1 : w0.cell? ⟨w.heap.size + 1, 0, none⟩ = some (.int .i64 0) := by rw [ew]; simp [go_sem]
  have b2 : w0.cell? ⟨w.heap.size + 2, 0, none⟩ = some (.int .i64 0) := by rw [ew]; simp [go_sem]
  have b3 : w0.cell? ⟨w.heap.size + 3, 0, none⟩ = some (.int .i64 0) := by rw [ew]; simp [go_sem]
  have f1 : w0.frozen? ⟨w.heap.size + 1, 0, none⟩ = false := by rw [ew]; simp [go_sem]
  have f2 : w0.frozen? ⟨w.heap.size + 2, 0, none⟩ = false := by rw [ew]; simp [go_sem]
  have f3 : w0.frozen? ⟨w.heap.size + 3, 0, none⟩ = false := by rw [ew]; simp [go_sem]
  refine ⟨trivial, (callsIn_wide.2 (of_any P _ hP)).mono ?_⟩
  rintro e w1 ⟨rfl, hb1⟩
  rw [← ew] at hb1
  clear ew
  have c0 := (hb1.cell (p := ⟨w.heap.size, 0, none⟩) (by show w.heap.size < _; omega)).trans b0
  have c1 := (hb1.cell (p := ⟨w.heap.size + 1, 0, none⟩) (by show w.heap.size + 1 < _; omega)).trans b1
  have c2 := (hb1.cell (p := ⟨w.heap.size + 2, 0, none⟩) (by show w.heap.size + 2 < _; omega)).trans b2
  have c3 := (hb1.cell (p := ⟨w.heap.size + 3, 0, none⟩) (by show w.heap.size + 3 < _; omega)).trans b3
  have g1 := (hb1.frozen (p := ⟨w.heap.size + 1, 0, none⟩) (by show w.heap.size + 1 < _; omega)).trans f1
  have g2 := (hb1.frozen (p := ⟨w.heap.size + 2, 0, none⟩) (by show w.heap.size + 2 < _; omega)).trans f2
  have g3 := (hb1.frozen (p := ⟨w.heap.size + 3, 0, none⟩) (by show w.heap.size + 3 < _; omega)).trans f3
  have hz1 := hb1.size
  have hB1 := hB0.trans (hb1.mono hB0.size)
  clear b0 b1 b2 b3 f1 f2 f3
  rw [show w.heap.size + 1 + 1 + 1 = w.heap.size + 3 from rfl, show w.heap.size + 1 + 1 = w.heap.size + 2 from rfl]
  obtain ⟨op, eop⟩ : ∃ q, ofP P = q := ⟨_, rfl⟩
  rw [eop]
  have HOP := Lib.hid eop
  clear eop
  obtain ⟨pb, hpb⟩ : ∃ q, prB P = q := ⟨_, rfl⟩
  rw [hpb]
  have HPB := Lib.hid hpb
  clear hpb
  gi_upto_region 2 with fail
  obtain ⟨w2, ew⟩ : ∃ w2 : World, w2 = w1.alloc (.cells #[.int .i64 op] 95) := ⟨_, rfl⟩
  have hb2 : Below w1.heap.size w1 w2 := by rw [ew]; exact (Below.refl _ _).alloc (Nat.le_refl _) _
  have hz2 : w1.heap.size < w2.heap.size := by rw [ew]; simp
  have k0 := (hb2.cell (p := ⟨w.heap.size, 0, none⟩) (by show w.heap.size < _; omega)).trans c0
  have k1 := (hb2.cell (p := ⟨w.heap.size + 1, 0, none⟩) (by show w.heap.size + 1 < _; omega)).trans c1
  have k2 := (hb2.cell (p := ⟨w.heap.size + 2, 0, none⟩) (by show w.heap.size + 2 < _; omega)).trans c2
  have k3 := (hb2.cell (p := ⟨w.heap.size + 3, 0, none⟩) (by show w.heap.size + 3 < _; omega)).trans c3
  have k7 : w2.cell? ⟨w1.heap.size, 0, none⟩ = some (.int .i64 op) := by rw [ew]; exact cell_of_row _ _ 0 _ _ (0, 0) (heap_alloc_new w1 _)
  have m1 := (hb2.frozen (p := ⟨w.heap.size + 1, 0, none⟩) (by show w.heap.size + 1 < _; omega)).trans g1
  have m2 := (hb2.frozen (p := ⟨w.heap.size + 2, 0, none⟩) (by show w.heap.size + 2 < _; omega)).trans g2
  have m3 := (hb2.frozen (p := ⟨w.heap.size + 3, 0, none⟩) (by show w.heap.size + 3 < _; omega)).trans g3
  have hB2 := hB1.trans (hb2.mono hB1.size)
  rw [← ew]
  clear ew c0 c1 c2 c3 g1 g2 g3
  cases pb with
  | false =>
    have HE := Lib.hid (ce_p (l := l) HPB.out)
    gi_wp2_with fail
    obtain ⟨q1, q2, q3⟩ := set3 (a := .int .i64 0) (b := .int .i64 0) (c := .int .i64 9) k1 k2 k3
    exact ⟨.tuple #[.int .i64 0, .int .i64 0, .int .i64 9], by simp [results, Try.results52, go_sem, q1, q2, q3], by rw [HE.out.1, HE.out.2.1, HE.out.2.2], below3 hB2⟩
  | true =>
    have hPb := prB_bd HPB.out
    by_cases hbad : 32 < l.length ∨ P ≤ l.length
    · have HE := Lib.hid (ce_4 HPB.out hbad)
      by_cases hb32 : 32 < l.length
      · have hd1 : decide ((32 : Int) < (l.length : Int)) = true := decide_eq_true (by omega)
        have hd2 : decide (32 < l.length) = true := decide_eq_true hb32
        gi_wp2_with fail
        obtain ⟨q1, q2, q3⟩ := set3 (a := .int .i64 0) (b := .int .i64 0) (c := .int .i64 4) k1 k2 k3
        exact ⟨.tuple #[.int .i64 0, .int .i64 0, .int .i64 4], by simp [results, Try.results52, go_sem, q1, q2, q3], by rw [HE.out.1, HE.out.2.1, HE.out.2.2], below3 hB2⟩
      · have hd1 : decide ((32 : Int) < (l.length : Int)) = false := decide_eq_false (by omega)
        have hd2 : decide (32 < l.length) = false := decide_eq_false hb32
        have hd3 : decide (P ≤ (l.length : Int)) = true := decide_eq_true (by omega)
        gi_wp2_with fail
        obtain ⟨q1, q2, q3⟩ := set3 (a := .int .i64 0) (b := .int .i64 0) (c := .int .i64 4) k1 k2 k3
        exact ⟨.tuple #[.int .i64 0, .int .i64 0, .int .i64 4], by simp [results, Try.results52, go_sem, q1, q2, q3], by rw [HE.out.1, HE.out.2.1, HE.out.2.2], below3 hB2⟩
    · have hd1 : decide ((32 : Int) < (l.length : Int)) = false := decide_eq_false (by omega)
      have hd2 : decide (32 < l.length) = false := decide_eq_false (by omega)
      have hd3 : decide (P ≤ (l.length : Int)) = false := decide_eq_false (by omega)
      have hop : op = P := by rw [← HOP.out]; exact ofP_t HPB.out
      subst hop
      gi_upto_region 7 with fail
      obtain ⟨w3, ew⟩ : ∃ w3 : World, w3 = w2.alloc (.cells #[.int .i64 0] 3) := ⟨_, rfl⟩
      have hb3 : Below w2.heap.size w2 w3 := by rw [ew]; exact (Below.refl _ _).alloc (Nat.le_refl _) _
      have hz3 : w2.heap.size < w3.heap.size := by rw [ew]; simp
      have n1 := (hb3.cell (p := ⟨w.heap.size + 1, 0, none⟩) (by show w.heap.size + 1 < _; omega)).trans k1
      have n2 := (hb3.cell (p := ⟨w.heap.size + 2, 0, none⟩) (by show w.heap.size + 2 < _; omega)).trans k2
      have n3 := (hb3.cell (p := ⟨w.heap.size + 3, 0, none⟩) (by show w.heap.size + 3 < _; omega)).trans k3
      have n7 := (hb3.cell (p := ⟨w1.heap.size, 0, none⟩) hz2).trans k7
      have n9 : w3.cell? ⟨w2.heap.size, 0, none⟩ = some (.int .i64 0) := by rw [ew]; exact cell_of_row _ _ 0 _ _ (0, 0) (heap_alloc_new w2 _)
      have j1 := (hb3.frozen (p := ⟨w.heap.size + 1, 0, none⟩) (by show w.heap.size + 1 < _; omega)).trans m1
      have j2 := (hb3.frozen (p := ⟨w.heap.size + 2, 0, none⟩) (by show w.heap.size + 2 < _; omega)).trans m2
      have j3 := (hb3.frozen (p := ⟨w.heap.size + 3, 0, none⟩) (by show w.heap.size + 3 < _; omega)).trans m3
      have j9 : w3.frozen? ⟨w2.heap.size, 0, none⟩ = false := by rw [ew]; exact frozen_of_row _ _ 0 _ _ (heap_alloc_new w2 _)
      have hB3 := hB2.trans (hb3.mono hB2.size)
      rw [← ew]
      clear ew k0 k1 k2 k3 k7 m1 m2 m3
      gi_wp2_with fail
      refine ⟨trivial, (callsIn_wide.2 (known_any _ _ _ _)).mono ?_⟩
      rintro e w' ⟨rfl, rfl⟩
      gi_wp2_with fail
      obtain ⟨W0, eW⟩ : ∃ W0 : World, W0 = w3.alloc (.cells #[.slice A l.length c] 27) := ⟨_, rfl⟩
      have hbW : Below w3.heap.size w3 W0 := by rw [eW]; exact (Below.refl _ _).alloc (Nat.le_refl _) _
      have hzW : w3.heap.size < W0.heap.size := by rw [eW]; simp
      have cS : W0.cell? ⟨w3.heap.size, 0, none⟩ = some (.slice A l.length c) := by rw [eW]; exact cell_of_row _ _ 0 _ _ (0, 0) (heap_alloc_new w3 _)
      have hBW := hB3.trans (hbW.mono hB3.size)
      have y1 := (hbW.cell (p := ⟨w.heap.size + 1, 0, none⟩) (by show w.heap.size + 1 < _; omega)).trans n1
      have y2 := (hbW.cell (p := ⟨w.heap.size + 2, 0, none⟩) (by show w.heap.size + 2 < _; omega)).trans n2
      have y3 := (hbW.cell (p := ⟨w.heap.size + 3, 0, none⟩) (by show w.heap.size + 3 < _; omega)).trans n3
      have y7 := (hbW.cell (p := ⟨w1.heap.size, 0, none⟩) (by show w1.heap.size < _; omega)).trans n7
      have y9 := (hbW.cell (p := ⟨w2.heap.size, 0, none⟩) hz3).trans n9
      have x1 := (hbW.frozen (p := ⟨w.heap.size + 1, 0, none⟩) (by show w.heap.size + 1 < _; omega)).trans j1
      have x2 := (hbW.frozen (p := ⟨w.heap.size + 2, 0, none⟩) (by show w.heap.size + 2 < _; omega)).trans j2
      have x3 := (hbW.frozen (p := ⟨w.heap.size + 3, 0, none⟩) (by show w.heap.size + 3 < _; omega)).trans j3
      have x9 := (hbW.frozen (p := ⟨w2.heap.size, 0, none⟩) hz3).trans j9
      rw [← eW]
      clear eW n1 n2 n3 n7 n9 j1 j2 j3 j9
      refine wpIn_rangeFunc_ownG rfl (by omega) (gf := 83) (lb := #[.pointer (some ⟨w3.heap.size, 0, none⟩)]) rfl trivial (enters_of Try.func83 (by kernel_rfl) rfl)
        (kn_stops 4 (by omega) w3.heap.size (fun b => b < w.heap.size) l A c hz W0 (fun k hk => by omega) hzW cS
          (fun h0 => by
            obtain ⟨b, off, e, hb, hc⟩ := HA.out h0
            exact ⟨b, off, e, hb, fun j hj => ⟨(hBW.cell (p := ⟨b, off + j * 2, none⟩) hb).trans (hc j hj).1, (hBW.cell (p := ⟨b, off + j * 2 + 1, none⟩) hb).trans (hc j hj).2⟩⟩))
        KB_t (KB_b (fun k hk => by omega)) (Below.refl _ _) (fun _ => rfl)
        (fun pre W => (W.cell? ⟨w.heap.size + 1, 0, none⟩ = some (.int .i64 0) ∧ W.cell? ⟨w.heap.size + 2, 0, none⟩ = some (.int .i64 0) ∧ W.cell? ⟨w.heap.size + 3, 0, none⟩ = some (.int .i64 0) ∧ W.cell? ⟨w1.heap.size, 0, none⟩ = some (.int .i64 op) ∧ W.cell? ⟨w2.heap.size, 0, none⟩ = some (.int .i64 pre.length) ∧
            W.frozen? ⟨w.heap.size + 1, 0, none⟩ = false ∧ W.frozen? ⟨w.heap.size + 2, 0, none⟩ = false ∧ W.frozen? ⟨w.heap.size + 3, 0, none⟩ = false ∧ W.frozen? ⟨w2.heap.size, 0, none⟩ = false ∧ (∀ j ∈ pre, el op (kn l)[j].2 = true)) ∧ Below w.heap.size w W)
        (fun c pre W => (c = .ret ∧ W.cell? ⟨w.heap.size + 1, 0, none⟩ = some (.int .i64 0) ∧ W.cell? ⟨w.heap.size + 2, 0, none⟩ = some (.int .i64 0) ∧ W.cell? ⟨w.heap.size + 3, 0, none⟩ = some (.int .i64 9) ∧ ∃ j : Fin (kn l).length, el op (kn l)[j].2 = false) ∧ Below w.heap.size w W)
        (OwnFrom.and (Own.from (fun s A B row hs hg hr => ⟨cell_kept hs.1 hg hr, cell_kept hs.2.1 hg hr, cell_kept hs.2.2.1 hg hr, cell_kept hs.2.2.2.1 hg hr, cell_kept hs.2.2.2.2.1 hg hr, (frozen_kept hs.1 hg hr).trans hs.2.2.2.2.2.1, (frozen_kept hs.2.1 hg hr).trans hs.2.2.2.2.2.2.1, (frozen_kept hs.2.2.1 hg hr).trans hs.2.2.2.2.2.2.2.1, (frozen_kept hs.2.2.2.2.1 hg hr).trans hs.2.2.2.2.2.2.2.2.1, hs.2.2.2.2.2.2.2.2.2⟩) _) (ownFrom_below (Nat.le_refl _) (by omega)))
        (fun c => OwnFrom.and (Own.from (fun s A B row hs hg hr => ⟨hs.1, cell_kept hs.2.1 hg hr, cell_kept hs.2.2.1 hg hr, cell_kept hs.2.2.2.1 hg hr, hs.2.2.2.2⟩) _) (ownFrom_below (Nat.le_refl _) (by omega)))
        ⟨⟨y1, y2, y3, y7, y9, x1, x2, x3, x9, fun j hj => by cases hj⟩, hBW⟩
        (fun j => { tmps := #[.agg #[.int .i64 op], .slice A l.length c, .pointer (some ⟨w.heap.size, 0, none⟩), undef, .pointer (some ⟨w.heap.size + 1, 0, none⟩), .pointer (some ⟨w.heap.size + 2, 0, none⟩), .pointer (some ⟨w.heap.size + 3, 0, none⟩), .pointer (some ⟨w1.heap.size, 0, none⟩), .bool true, .pointer (some ⟨w2.heap.size, 0, none⟩), undef, .int .i64 (kn l)[j].2, .tuple #[.int .i64 op, .bool true], .agg #[.int .i64 op], .tuple #[.int .i64 op, .bool true], .int .i64 op, .bool true, .bool true, .bool false, .slice A l.length c, .int .i64 l.length, .bool false, .bool false, .slice A l.length c, .int .i64 l.length, .pointer (some ⟨w.heap.size, 0, none⟩), .int .i64 op, .bool false, .bool false, .slice A l.length c, .func (.func 83) #[] #[.pointer (some ⟨w3.heap.size, 0, none⟩)], .int .i64 (kn l)[j].1, .int .i64 (kn l)[j].2, undef, undef, undef, undef, undef, undef, undef, undef], defers := [] }) ?assign ?body ?done ?stop
      case assign =>
        intro lr x W K hK
        gi_wp2
        exact hK
      case body =>
        rintro lr pre j W ⟨⟨p1, p2, p3, p7, p9, r1, r2, r3, r9, hok⟩, hB⟩ hpl
        have HOK := Lib.hid hok
        have hpl2 : pre.length ≤ 1000000 := by
          have h1 : (kn l).length ≤ l.length := kn_len l 0
          omega
        clear hok hpl y1 y2 y3 y7 y9 x1 x2 x3 x9 cS
        simp only [Fin.getElem_fin]
        obtain ⟨y, ey⟩ : ∃ y, (kn l)[j.1].2 = y := ⟨_, rfl⟩
        rw [ey]
        have EY := Lib.hid ey
        clear ey
        gi_wp2_with fail
        refine ⟨trivial, (CallsIn.inRound lr (callsIn_wide.2 (has_any _ _ _))).mono ?_⟩
        rintro e w' ⟨rfl, rfl⟩
        cases he : el op y with
        | true =>
          have HE := Lib.hid he
          clear he
          gi_wp2_with fail
          have hne1 : w2.heap.size ≠ w.heap.size + 1 := by omega
          have hne2 : w2.heap.size ≠ w.heap.size + 2 := by omega
          have hne3 : w2.heap.size ≠ w.heap.size + 3 := by omega
          have hne7 : w2.heap.size ≠ w1.heap.size := by omega
          refine ⟨(KeepsOthers.setCell _ _ _).from _, ⟨by simp [World.setCell], fun p hp => World.cell?_setCell_other _ _ _ _ (fun e => by rw [← e] at hp; have h5 : w2.heap.size < w.heap.size := hp; omega)⟩, ⟨setOther p1 hne1, setOther p2 hne2, setOther p3 hne3, setOther p7 hne7, ?_, by rw [World.frozen?_setCell]; exact r1, by rw [World.frozen?_setCell]; exact r2, by rw [World.frozen?_setCell]; exact r3, by rw [World.frozen?_setCell]; exact r9, fun q hq => ?_⟩, hB.setCell (p := ⟨w2.heap.size, 0, none⟩) (by show w.heap.size ≤ w2.heap.size; omega) _⟩
          · rw [World.cell?_setCell_same _ _ _ p9, List.length_append]
            rfl
          · rcases List.mem_append.1 hq with hq | hq
            · exact HOK.out q hq
            · simp at hq
              subst hq
              show el op (kn l)[q.1].2 = true
              rw [EY.out]
              exact HE.out
        | false =>
          have HE := Lib.hid he
          clear he
          gi_wp2_with fail
          obtain ⟨q1, q2, q3⟩ := set3 (a := .int .i64 0) (b := .int .i64 0) (c := .int .i64 9) p1 p2 p3
          exact ⟨(((KeepsOthers.setCell _ _ _).trans (KeepsOthers.setCell _ _ _)).trans (KeepsOthers.setCell _ _ _)).from _, ⟨rfl, q1, q2, q3, j, by show el op (kn l)[j.1].2 = false; rw [EY.out]; exact HE.out⟩, below3 hB⟩
      case done =>
        rintro D ys W hD rfl ⟨⟨p1, p2, p3, p7, p9, r1, r2, r3, r9, hok⟩, hB⟩ hK
        have HE := Lib.hid (ce_0 HPB.out hbad hok)
        rw [upA_length (Nat.le_refl _)] at p9
        clear hok y1 y2 y3 y7 y9 x1 x2 x3 x9 cS
        have HK := Lib.hid hK
        have hfo : Try.prog.follows .mixedOrders = true := by kernel_rfl
        clear hK
        gi_wp2_with fail
        gi_region_with_o (fail)
        all_goals
          gi_wp2_with fail
          obtain ⟨q1, q2, q3⟩ := set3 (a := .int .i64 op) (b := .int .i64 (kn l).length) (c := .int .i64 0) p1 p2 p3
          have hk1 := (((KeepsOthers.setCell W ⟨w.heap.size + 1, 0, none⟩ (.int .i64 op)).trans (KeepsOthers.setCell _ ⟨w.heap.size + 2, 0, none⟩ (.int .i64 (kn l).length))).trans (KeepsOthers.setCell _ ⟨w.heap.size + 3, 0, none⟩ (.int .i64 0))).same D _ HK.out rfl
          have hB9 := below3 (a := .int .i64 op) (b := .int .i64 (kn l).length) (c := .int .i64 0) hB
          generalize ((W.setCell ⟨w.heap.size + 1, 0, none⟩ (.int .i64 op)).setCell ⟨w.heap.size + 2, 0, none⟩ (.int .i64 (kn l).length)).setCell ⟨w.heap.size + 3, 0, none⟩ (.int .i64 0) = WX at q1 q2 q3 hk1 hB9 ⊢
          have hk2 : WX.drew.heap[D]? = some (.deferred (some [])) := hk1
          refine ⟨by simp, .inl ⟨_, _, rfl, run_takeDeferred hk2, ?_⟩⟩
          have z1 := cell_kept (W := WX.drew) q1 (grownBy_putObj' WX.drew D (.deferred none)) (fun r e => by cases e; exact ⟨_, hk2, rfl⟩)
          have z2 := cell_kept (W := WX.drew) q2 (grownBy_putObj' WX.drew D (.deferred none)) (fun r e => by cases e; exact ⟨_, hk2, rfl⟩)
          have z3 := cell_kept (W := WX.drew) q3 (grownBy_putObj' WX.drew D (.deferred none)) (fun r e => by cases e; exact ⟨_, hk2, rfl⟩)
          exact ⟨.tuple #[.int .i64 op, .int .i64 (kn l).length, .int .i64 0], by simp [results, Try.results52, go_sem, z1, z2, z3], by rw [HE.out.1, HE.out.2.1, HE.out.2.2], hB9.drew.trans (belowK_b (w := w) (Nat.le_refl _) WX.drew D _ _ (by omega) hk2 rfl rfl)⟩
      case stop =>
        rintro D c pre W hD _ ⟨⟨rfl, p1, p2, p3, j, hj⟩, hB⟩ hK
        have HE := Lib.hid (ce_9 HPB.out hbad j hj)
        have HJ := Lib.hid hj
        clear hj
        gi_wp2
        refine ⟨by simp, .inl ⟨_, _, rfl, run_takeDeferred hK, ?_⟩⟩
        have q1 := cell_kept p1 (grownBy_putObj' W D (.deferred none)) (fun r e => by cases e; exact ⟨_, hK, rfl⟩)
        have q2 := cell_kept p2 (grownBy_putObj' W D (.deferred none)) (fun r e => by cases e; exact ⟨_, hK, rfl⟩)
        have q3 := cell_kept p3 (grownBy_putObj' W D (.deferred none)) (fun r e => by cases e; exact ⟨_, hK, rfl⟩)
        exact ⟨.tuple #[.int .i64 0, .int .i64 0, .int .i64 9], by simp [results, Try.results52, go_sem, q1, q2, q3], by rw [HE.out.1, HE.out.2.1, HE.out.2.2], hB.trans (belowK_b (w := w) (Nat.le_refl _) W D _ _ (by omega) hK rfl rfl)⟩
theorem cells_any (P : Int) (l : List (Int × Bool)) (v : Value) (w : World) (hP : i64r P) (h : SCl w v l) (hz : l.length ≤ 1000000) :
    Calls Try.prog 52 #[.agg #[.int .i64 P], v] w fun e w' => e = .returned (.tuple #[.int .i64 (ceP P l), .int .i64 (ceN P l), .int .i64 (ceE P l)]) ∧ Below w.heap.size w w' :=
  callsIn_wide.1 (cells_in P l v w hP h hz)
theorem knF_at (l : List (Int × Bool)) : ∀ i, ∀ t ∈ knF i l, (i : Int) + 1 ≤ t.1 ∧ t.1 ≤ (i : Int) + l.length := by
  induction l with
  | nil => intro i t h; simp [knF] at h
  | cons c l ih =>
    intro i t h
    simp only [knF, List.mem_append, List.length_cons] at h ⊢
    rcases h with h | h
    · split at h
      · simp at h; subst h; simp; omega
      · simp at h
    · have := ih (i + 1) t h
      omega
theorem kn_at {l : List (Int × Bool)} {t : Int × Int} (h : t ∈ kn l) : 1 ≤ t.1 ∧ t.1 ≤ l.length := by
  have := knF_at l 0 t h
  omega
end Go.Proofs.Ytbgabipngdillaa

namespace Go.Proofs.Ytbgabipngdillaa
open Go.RowKit Go.Shelf
attribute [local go_sem] Oper.semAt_some

theorem shinfo : (Try.prog.info? 64).map (fun i => (i.zero, i.size, i.bytes)) = some (some (.agg #[.int .i64 0, .int .i64 0]), 2, 16) := by kernel_rfl
/-- the shares at some places -/
def shs (l : List (Int × Bool)) (pre : List (Fin (kn l).length)) : List (Int × Int) := pre.map fun j => (kn l)[j]
theorem shs_len (l : List (Int × Bool)) (pre : List (Fin (kn l).length)) : (shs l pre).length = pre.length := List.length_map _
theorem shs_snoc (l : List (Int × Bool)) (pre : List (Fin (kn l).length)) (j : Fin (kn l).length) : shs l (pre ++ [j]) = shs l pre ++ [(kn l)[j]] := by simp [shs]
theorem shs_upA (l : List (Int × Bool)) (k : Nat) (h : k ≤ (kn l).length) : shs l (upA (kn l).length k) = (kn l).take k := by
  induction k with
  | zero => simp [shs, upA]
  | succ k ih => rw [upA_succ (by omega), shs_snoc, ih (by omega), List.take_succ_eq_append_getElem (by omega)]; rfl
theorem own_keptR {w w' : World} {base e size n : Nat} {v : Value} {xs : List Value} {row : Option Nat} (h : w.ownsRow base e size v n xs) (hg : w.grownBy w' row) (hr : ∀ r, row = some r → ∃ o : Obj, w.heap[r]? = some o ∧ o.isCells = false) : w'.ownsRow base e size v n xs := by
  refine h.kept hg ?_
  rcases h.2 with ⟨rfl, _⟩ | ⟨g, cap, cur, rfl, hb, hgg, _⟩
  · exact .inl rfl
  · refine .inr fun e => ?_
    obtain ⟨o, ho, hc⟩ := hr g e.symm
    rw [hgg] at ho
    cases ho
    cases hc
theorem own_slice {w : World} {base e size n : Nat} {v : Value} {xs : List Value} (h : w.ownsRow base e size v n xs) : ∃ A c, v = .slice A n c := by
  rcases h.2 with ⟨rfl, rfl⟩ | ⟨g, cap, cur, rfl, _⟩
  · exact ⟨_, _, rfl⟩
  · exact ⟨_, _, rfl⟩
theorem own_row {w : World} {base e size n g : Nat} {v : Value} {xs : List Value} (h : w.ownsRow base e size v n xs) (hg : v.ownBlock = some g) : ∃ o : Obj, w.heap[g]? = some o ∧ o.isCells = true := by
  rcases h.2 with ⟨rfl, _⟩ | ⟨g', cap, cur, rfl, hb, hgg, _⟩
  · cases hg
  · cases hg
    exact ⟨_, hgg, rfl⟩
/-- a row of the call's own that grew keeps what is no cells -/
theorem keepsFrom_own {W Wa W3 : World} {base e size n B : Nat} {v : Value} {xs : List Value} {o : Obj} (ea : Wa = W.alloc o) (h : W.ownsRow base e size v n xs) (hg : Wa.grownBy W3 v.ownBlock) : KeepsFrom B W W3 := by
  subst ea
  have h1 : W.heap.size ≤ (W.alloc o).heap.size := by simp
  refine ⟨Nat.le_trans h1 hg.size, fun k o' _ hk hc => ?_⟩
  have hlt := (Array.getElem?_eq_some_iff.1 hk).1
  rw [hg.block k (by omega) (fun e => ?_), ((Below.refl _ W).alloc (Nat.le_refl _) o).block k hlt]
  · exact hk
  · obtain ⟨o2, h2, h3⟩ := own_row h e.symm
    rw [hk] at h2
    cases h2
    rw [hc] at h3
    cases h3
theorem own_setCell {w : World} {base e size n : Nat} {v u : Value} {xs : List Value} {p : Addr} (h : w.ownsRow base e size v n xs) (hp : p.block < base) : (w.setCell p u).ownsRow base e size v n xs := by
  refine ⟨h.1, ?_⟩
  rcases h.2 with hn | ⟨g, cap, cur, rfl, hb, hgg, rest⟩
  · exact .inl hn
  · refine .inr ⟨g, cap, cur, rfl, hb, ?_, rest⟩
    rw [← hgg]
    have hne : ¬ p.block = g := by omega
    simp [World.setCell, Array.getElem?_modify, hne]
/-- what the slot of the shares holds -/
def FO (w W : World) (k : Int) (sh : List (Int × Int)) (v : Value) : Prop := W.cell? ⟨w.heap.size, 0, none⟩ = some (.int .i64 k) ∧ W.cell? ⟨w.heap.size + 1, 0, none⟩ = some v ∧ W.frozen? ⟨w.heap.size + 1, 0, none⟩ = false ∧
  W.ownsRow (w.heap.size + 2) 64 2 v sh.length ((sh.flatMap pcs).map (Value.int .i64)) ∧ w.heap.size + 2 ≤ W.heap.size
theorem FO.kept {w A B : World} {k : Int} {sh : List (Int × Int)} {v : Value} {row : Option Nat} (h : FO w A k sh v) (hg : A.grownBy B row) (hr : ∀ r, row = some r → ∃ o : Obj, A.heap[r]? = some o ∧ o.isCells = false) : FO w B k sh v :=
  ⟨cell_kept h.1 hg hr, cell_kept h.2.1 hg hr, (frozen_kept h.2.1 hg hr).trans h.2.2.1, own_keptR h.2.2.2.1 hg hr, Nat.le_trans h.2.2.2.2 hg.size⟩

set_option maxRecDepth 100000 in
set_option maxHeartbeats 4000000 in
theorem first_in (l : List (Int × Bool)) (k : Nat) (v : Value) (w : World) (hk : 1 ≤ k) (hkl : k ≤ (kn l).length) (h : SCl w v l) (hz : l.length ≤ 1000000) :
    CallsIn Fence.wide 8 Try.prog 54 #[v, .int .i64 k] w fun e w' => ∃ v', e = .returned v' ∧ w'.ownsRow (w.heap.size + 2) 64 2 v' ((kn l).take k).length ((((kn l).take k).flatMap pcs).map (Value.int .i64)) ∧ Below w.heap.size w w' := by
  have HS := Lib.hid h
  obtain ⟨A, c, rfl⟩ := h.form
  clear h
  obtain ⟨i0, hi0, hi1, hi2, hi3⟩ := info_parts shinfo
  have hknl : (kn l).length ≤ l.length := kn_len l 0
  refine callsIn_of_wp_marks Try.func54 rfl trivial ?_ rfl
  simp only [Try.ntmps54, List.size_toArray, List.length_cons, List.length_nil, Nat.reduceAdd, Nat.reduceSub, Array.replicate_succ, Array.replicate_zero, List.push_toArray, List.append_toArray, List.nil_append, List.cons_append]
  gi_upto_region 2 with fail
  obtain ⟨w0, ew⟩ : ∃ w0 : World, w0 = (w.alloc (.cells #[.int .i64 k] 3)).alloc (.cells #[.slice none 0 0] 62) := ⟨_, rfl⟩
  have hB0 : Below w.heap.size w w0 := by rw [ew]; exact ((Below.refl _ _).alloc (Nat.le_refl _) _).alloc (by simp) _
  have hz0 : w.heap.size + 1 < w0.heap.size := by rw [ew]; simp
  have b0 : w0.cell? ⟨w.heap.size, 0, none⟩ = some (.int .i64 k) := by rw [ew]; simp [go_sem]
  have b1 : w0.cell? ⟨w.heap.size + 1, 0, none⟩ = some (.slice none 0 0) := by rw [ew]; simp [go_sem]
  have b2 : w0.frozen? ⟨w.heap.size + 1, 0, none⟩ = false := by rw [ew]; simp [go_sem]
  rw [← ew]
  clear ew
  gi_wp2_with fail
  refine ⟨trivial, (callsIn_wide.2 (known_any _ _ _ _)).mono ?_⟩
  rintro e w' ⟨rfl, rfl⟩
  gi_wp2_with fail
  obtain ⟨W0, eW⟩ : ∃ W0 : World, W0 = w0.alloc (.cells #[.slice A l.length c] 27) := ⟨_, rfl⟩
  have hbW : Below w0.heap.size w0 W0 := by rw [eW]; exact (Below.refl _ _).alloc (Nat.le_refl _) _
  have hzW : w0.heap.size < W0.heap.size := by rw [eW]; simp
  have cS : W0.cell? ⟨w0.heap.size, 0, none⟩ = some (.slice A l.length c) := by rw [eW]; exact cell_of_row _ _ 0 _ _ (0, 0) (heap_alloc_new w0 _)
  have hBW := hB0.trans (hbW.mono hB0.size)
  have hF0 : FO w W0 k (shs l []) (.slice none 0 0) := ⟨(hbW.cell (p := ⟨w.heap.size, 0, none⟩) (by show w.heap.size < _; omega)).trans b0, (hbW.cell (p := ⟨w.heap.size + 1, 0, none⟩) hz0).trans b1,
    (hbW.frozen (p := ⟨w.heap.size + 1, 0, none⟩) hz0).trans b2, World.ownsRow_nil _ _ _ _, by omega⟩
  rw [← eW]
  clear eW b0 b1 b2
  refine wpIn_rangeFunc_ownG rfl (by omega) (gf := 83) (lb := #[.pointer (some ⟨w0.heap.size, 0, none⟩)]) rfl trivial (enters_of Try.func83 (by kernel_rfl) rfl)
    (kn_stops 7 (by omega) w0.heap.size (fun b => b < w.heap.size) l A c hz W0 (fun k hk => by omega) hzW cS
      (fun h0 => by
        obtain ⟨A', c', e, _, _, _, ha⟩ := HS.out
        injection e with e1 e2 e3
        subst e1
        obtain ⟨b, off, e, hb, hc⟩ := ha h0
        exact ⟨b, off, e, hb, fun j hj => ⟨(hBW.cell (p := ⟨b, off + j * 2, none⟩) hb).trans (hc j hj).1, (hBW.cell (p := ⟨b, off + j * 2 + 1, none⟩) hb).trans (hc j hj).2⟩⟩))
    KB_t (KB_b (fun k hk => by omega)) (Below.refl _ _) (fun _ => rfl)
    (fun pre W => ((∃ v, FO w W k (shs l pre) v) ∧ pre.length ≤ k ∧ W0.heap.size ≤ W.heap.size) ∧ Below w.heap.size w W)
    (fun c pre W => (c = .exit 0 ∧ (∃ v, FO w W k (shs l pre.dropLast) v) ∧ pre.length = k + 1) ∧ Below w.heap.size w W)
    (OwnFrom.and (Own.from (fun s A B row hs hg hr => ⟨hs.1.imp fun v hv => hv.kept hg hr, hs.2.1, Nat.le_trans hs.2.2 hg.size⟩) _) (ownFrom_below (Nat.le_refl _) (by omega)))
    (fun c => OwnFrom.and (Own.from (fun s A B row hs hg hr => ⟨hs.1, hs.2.1.imp fun v hv => hv.kept hg hr, hs.2.2⟩) _) (ownFrom_below (Nat.le_refl _) (by omega)))
    ⟨⟨⟨_, hF0⟩, Nat.zero_le _, Nat.le_refl _⟩, hBW⟩
    (fun j => { tmps := #[.slice A l.length c, .int .i64 k, undef, .pointer (some ⟨w.heap.size, 0, none⟩), .slice none 0 0, .pointer (some ⟨w.heap.size + 1, 0, none⟩), .int .i64 (kn l)[j].1, .int .i64 (kn l)[j].2, .slice A l.length c, .func (.func 83) #[] #[.pointer (some ⟨w0.heap.size, 0, none⟩)], .int .i64 (kn l)[j].1, .int .i64 (kn l)[j].2, undef, undef, undef, undef, undef, undef, undef, undef, undef, undef, undef], defers := [] }) ?assign ?body ?done ?stop
  case assign =>
    intro lr x W K hK
    gi_wp2
    exact hK
  case body =>
    rintro lr pre j W ⟨⟨⟨v, hFO⟩, hpk, hzz⟩, hB⟩ hpl
    obtain ⟨p0, p1, r1, hown, hz2⟩ := hFO
    have HS1 := Lib.hid (shs_snoc l pre j)
    have hsl := shs_len l pre
    simp only [Fin.getElem_fin] at HS1 ⊢
    generalize (kn l)[j.1] = t at HS1 ⊢
    clear hF0 cS
    rw [hsl] at hown
    obtain ⟨Av, cv, rfl⟩ := own_slice hown
    have HO := Lib.hid hown
    have hnb : ∀ g, (Value.slice Av pre.length cv).ownBlock = some g → w.heap.size + 2 ≤ g := fun g e => (HO.out.lt g e).1
    have HNB := Lib.hid hnb
    clear hsl hown hnb
    by_cases he : pre.length = k
    · have hd : ((pre.length : Int) == (k : Int)) = true := by rw [he]; simp
      gi_wp2_with fail
      exact ⟨KeepsFrom.refl _ _, ⟨rfl, ⟨_, by rw [List.dropLast_concat]; exact ⟨p0, p1, r1, by rw [shs_len]; exact HO.out, hz2⟩⟩, by simp; omega⟩, hB⟩
    · have hd : ((pre.length : Int) == (k : Int)) = false := by simp; omega
      gi_wp2_with (gi_at_builtin; refine wpListIn_append_own_at _ rfl _ _ 62 rfl (w.heap.size + 2) 64 i0 _ 2 16 Try.underlying62 hi0 hi1 hi2 hi3 rfl (by omega) _ _ _ rfl (HO.out.alloc _) ⟨W.heap.size, 0, none⟩ 1 1 (List.map (Value.int .i64) (pcs t)) rfl rfl ?c1 ?c2 ?c3 ?c4 ?c5 ?_)
      case c1 => exact cells_new W _ _
      case c2 => intro u hu; simp [pcs] at hu; rcases hu with rfl | rfl <;> rfl
      case c3 => unfold maxLen; omega
      case c4 => omega
      case c5 => simp; omega
      intro v3 w3 hown3 hg3 _ _
      obtain ⟨A3, c3, rfl⟩ := own_slice hown3
      obtain ⟨Wa, eWa⟩ : ∃ Wa : World, Wa = W.alloc (.cells (List.map (Value.int .i64) (pcs t)).toArray 64) := ⟨_, rfl⟩
      have hga : Wa.grownBy w3 (Value.slice Av pre.length cv).ownBlock := by rw [eWa]; exact hg3
      have hkf : KeepsFrom W0.heap.size W w3 := keepsFrom_own eWa HO.out hga
      have hza : W.heap.size < Wa.heap.size := by rw [eWa]; simp
      have hba : Below W.heap.size W Wa := by rw [eWa]; exact (Below.refl _ _).alloc (Nat.le_refl _) _
      have hz3 := hga.size
      have q0 : w3.cell? ⟨w.heap.size, 0, none⟩ = some (.int .i64 k) := (hga.cell_far ⟨w.heap.size, 0, none⟩ (by show w.heap.size < _; omega) (fun e => by have h5 : w.heap.size + 2 ≤ w.heap.size := HNB.out _ e.symm; omega)).trans ((hba.cell (p := ⟨w.heap.size, 0, none⟩) (by show w.heap.size < _; omega)).trans p0)
      have q1 : w3.cell? ⟨w.heap.size + 1, 0, none⟩ = some (.slice Av pre.length cv) := (hga.cell_far ⟨w.heap.size + 1, 0, none⟩ (by show w.heap.size + 1 < _; omega) (fun e => by have h5 : w.heap.size + 2 ≤ w.heap.size + 1 := HNB.out _ e.symm; omega)).trans ((hba.cell (p := ⟨w.heap.size + 1, 0, none⟩) (by show w.heap.size + 1 < _; omega)).trans p1)
      have s1 : w3.frozen? ⟨w.heap.size + 1, 0, none⟩ = false := (hga.frozen_far ⟨w.heap.size + 1, 0, none⟩ (by show w.heap.size + 1 < _; omega) (fun e => by have h5 : w.heap.size + 2 ≤ w.heap.size + 1 := HNB.out _ e.symm; omega)).trans ((hba.frozen (p := ⟨w.heap.size + 1, 0, none⟩) (by show w.heap.size + 1 < _; omega)).trans r1)
      have hB3 : Below w.heap.size w w3 := (hB.trans (hba.mono hB.size)).grown hga (by omega) (fun g e => by have := HNB.out _ e; omega)
      have hkb : KB (fun b => b < w.heap.size) W w3 := KB_t (KB.of hba (fun b hb => by omega)) (KB.grown hga (fun b hb => ⟨by omega, fun e => by have := HNB.out _ e.symm; omega⟩))
      clear hg3 hga eWa p0 p1 r1
      have HO3 := Lib.hid hown3
      clear hown3
      gi_wp2_with fail
      have hk2 : KB (fun b => b < w.heap.size) w3 (w3.setCell ⟨w.heap.size + 1, 0, none⟩ (.slice A3 (pre.length + 1) c3)) := ⟨by simp [World.setCell], fun p hp => World.cell?_setCell_other _ _ _ _ (fun e => by rw [← e] at hp; have h5 : w.heap.size + 1 < w.heap.size := hp; omega)⟩
      have hs3 : w3.heap.size ≤ (w3.setCell ⟨w.heap.size + 1, 0, none⟩ (.slice A3 (pre.length + 1) c3)).heap.size := by simp [World.setCell]
      refine ⟨hkf.trans ((KeepsOthers.setCell _ _ _).from _), KB_t hkb hk2, ⟨⟨_, setOther q0 (by show w.heap.size + 1 ≠ w.heap.size; omega), World.cell?_setCell_same _ _ _ q1, by rw [World.frozen?_setCell]; exact s1, ?_, by omega⟩, by simp; omega, by omega⟩, hB3.setCell (p := ⟨w.heap.size + 1, 0, none⟩) (by show w.heap.size ≤ w.heap.size + 1; omega) _⟩
      rw [HS1.out, List.length_append, shs_len, List.flatMap_append, List.map_append]
      refine own_setCell ?_ (by show w.heap.size + 1 < _; omega)
      have := HO3.out
      simpa using this
  case done =>
    rintro D ys W hD rfl ⟨⟨⟨v, hFO⟩, hpk, hzz⟩, hB⟩ hK
    rw [upA_length (Nat.le_refl _)] at hpk
    obtain rfl : k = (kn l).length := by omega
    rw [shs_upA l _ (Nat.le_refl _)] at hFO
    obtain ⟨p0, p1, r1, hown, hz2⟩ := hFO
    have HO := Lib.hid hown
    clear hF0 cS hown
    gi_wp2_with fail
    refine ⟨by simp, .inl ⟨_, _, rfl, run_takeDeferred hK, ?_⟩⟩
    exact ⟨_, results_tmp rfl _ _ _, _, rfl, own_keptR HO.out (grownBy_putObj' W D (.deferred none)) (fun r e => by cases e; exact ⟨_, hK, rfl⟩), hB.trans (belowK_b (w := w) (Nat.le_refl _) W D _ _ (by omega) hK rfl rfl)⟩
  case stop =>
    rintro D c pre W hD ⟨m, hm, rfl⟩ ⟨⟨rfl, ⟨v, hFO⟩, hpk⟩, hB⟩ hK
    rw [upA_length hm] at hpk
    subst hpk
    rw [upA_succ (by omega), List.dropLast_concat, shs_upA l _ hkl] at hFO
    obtain ⟨p0, p1, r1, hown, hz2⟩ := hFO
    have HO := Lib.hid hown
    clear hF0 cS hown
    gi_wp2_with fail
    refine ⟨by simp, .inl ⟨_, _, rfl, run_takeDeferred hK, ?_⟩⟩
    exact ⟨_, results_tmp rfl _ _ _, _, rfl, own_keptR HO.out (grownBy_putObj' W D (.deferred none)) (fun r e => by cases e; exact ⟨_, hK, rfl⟩), hB.trans (belowK_b (w := w) (Nat.le_refl _) W D _ _ (by omega) hK rfl rfl)⟩
theorem first_any (l : List (Int × Bool)) (k : Nat) (v : Value) (w : World) (hk : 1 ≤ k) (hkl : k ≤ (kn l).length) (h : SCl w v l) (hz : l.length ≤ 1000000) :
    Calls Try.prog 54 #[v, .int .i64 k] w fun e w' => ∃ v', e = .returned v' ∧ w'.ownsRow (w.heap.size + 2) 64 2 v' ((kn l).take k).length ((((kn l).take k).flatMap pcs).map (Value.int .i64)) ∧ Below w.heap.size w w' :=
  callsIn_wide.1 (first_in l k v w hk hkl h hz)
end Go.Proofs.Ytbgabipngdillaa
