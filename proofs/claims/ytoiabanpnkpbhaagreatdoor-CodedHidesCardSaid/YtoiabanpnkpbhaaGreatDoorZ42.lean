/- Joined: Ha Hb. -/
import Derived.Test.YtoiabanpnkpbhaaGreatDoorZ22
import Derived.Test.YtoiabanpnkpbhaaGreatDoorZ09
import Derived.Test.YtoiabanpnkpbhaaGreatDoorZ23
import Derived.Test.YtoiabanpnkpbhaaGreatDoorZ29
namespace Go.Proofs.YtoiabanpnkpbhaaGreatDoor
open Go.RowKit

theorem rep_get (K j : Nat) (h : j < (List.replicate K (7 : Int)).length) : (List.replicate K (7 : Int))[j] = 7 := by simp
theorem seven_le {k : Nat} (h : k ≤ 4) : (7 : Int) ^ k ≤ 2401 := by
  match k, h with
  | 0, _ => decide
  | 1, _ => decide
  | 2, _ => decide
  | 3, _ => decide
  | 4, _ => decide
theorem seven_pos (k : Nat) : (1 : Int) ≤ 7 ^ k := by
  induction k with
  | zero => decide
  | succ k ih => rw [Int.pow_succ]; omega
theorem rep_cells {w : World} {A : Option Addr} {n c K : Nat} (h : SI w (.slice A n c) (List.replicate K 7)) (h0 : 0 < K) : ∃ b off, A = some ⟨b, off, none⟩ ∧ b < w.heap.size ∧ ∀ j, j < K → w.cell? ⟨b, off + j, none⟩ = some (.int .i64 7) := by
  obtain ⟨b, off, e, hb, hc⟩ := SB.cells h (by simpa using h0)
  exact ⟨b, off, e, hb, fun j hj => by rw [hc j (by simpa using hj), rep_get]⟩
set_option maxRecDepth 100000 in
theorem count7_any (K : Nat) (v : Value) (w : World) (hK : K ≤ 4) (h : SI w v (List.replicate K 7)) :
    Calls Tryz.prog 20 #[v] w fun e w' => e = .returned (.tuple #[.int .i64 (7 ^ K), .int .i64 0]) ∧ w = w' := by
  have HS := Lib.hid h
  obtain ⟨A, c, rfl⟩ := h.form'
  rw [List.length_replicate] at HS ⊢
  clear h
  have d1 : decide (16384 < (K : Int)) = false := decide_eq_false (by omega)
  have d2 : decide (16384 < K) = false := decide_eq_false (by omega)
  go_enter Tryz.func20, Tryz.ntmps20
  go_wp2_with fail
  go_loopw [4, 12] (fun s i wr => ∃ k : Nat, k ≤ K ∧ i = .int .i64 k ∧ s = .int .i64 (7 ^ k) ∧ w = wr) (fun _ i _ => K - (intOf i).toNat)
  case atStart => exact ⟨0, Nat.zero_le _, rfl, rfl, rfl⟩
  case round =>
    obtain ⟨k, hk, rfl, rfl, rfl⟩ := hrel
    by_cases hlt : k < K
    · have dk : decide (k < K) = true := decide_eq_true hlt
      obtain ⟨b, off, rfl, hb, hcell⟩ := rep_cells HS.out (by omega)
      have ck := hcell k hlt
      have HP : Hid ((7 : Int) ^ k * 7 = 7 ^ (k + 1)) := (Int.pow_succ 7 k).symm
      have hp1 := seven_le (k := k) (by omega)
      have hp2 := seven_pos k
      obtain ⟨p, ep⟩ : ∃ p : Int, p = 7 ^ k := ⟨_, rfl⟩
      rw [← ep] at HP hp1 hp2 ⊢
      have hq : Int.tdiv 1099511627776 7 = 157073089682 := by decide
      have d3 : decide (157073089682 < p) = false := decide_eq_false (by omega)
      have w1 : IntKind.i64.wrap (p * 7) = p * 7 := by exact IntWalk.i64_in _ (by omega)
      clear hcell ep
      go_wp2_with fail
      go_roundw
      case rel => exact ⟨k + 1, by omega, by go_num, by rw [HP.out], by simp⟩
      case measure => simp [intOf]; omega
    · have dk : decide (k < K) = false := decide_eq_false hlt
      obtain rfl : k = K := by omega
      go_wp2_with fail
      refine bodyPost_ret (results_tmp2 rfl _ _ _) rfl ?_
      exact ⟨rfl, rfl⟩

def digs (K N : Nat) : List Int := (List.range K).map fun j => ((N / 7 ^ j % 7 : Nat) : Int)
theorem digs_len (K N : Nat) : (digs K N).length = K := by simp [digs]
theorem digs_succ (K N : Nat) : digs (K + 1) N = digs K N ++ [((N / 7 ^ K % 7 : Nat) : Int)] := by
  unfold digs
  rw [List.range_succ, List.map_append]; rfl
theorem digs_els (K N : Nat) : els 7 (digs K N) = true := els_of fun x hx => by
  obtain ⟨j, _, rfl⟩ := List.mem_map.1 hx
  have := Nat.mod_lt (N / 7 ^ j) (show 0 < 7 by omega)
  exact decide_eq_true ⟨by omega, by omega⟩
def AtR (K N O : Nat) (w2 : World) (nv iv : Value) (wr : World) : Prop :=
  ∃ (k : Nat) (v : Value), k ≤ K ∧ iv = .int .i64 k ∧ nv = .int .i64 ((N / 7 ^ k : Nat) : Int) ∧ TAc O v (digs k N) wr ∧ Below O w2 wr
set_option maxRecDepth 100000 in
set_option maxHeartbeats 4000000 in
theorem at7_any (K N : Nat) (v : Value) (w : World) (hK : K ≤ 4) (hN : (N : Int) < 7 ^ K) (h : SI w v (List.replicate K 7)) :
    Calls Tryz.prog 21 #[v, .int .i64 N] w fun e w' => ∃ v1, e = .returned (.tuple #[.agg #[v1, .int .i64 0], .int .i64 0]) ∧ Below w.heap.size w w' ∧ w'.ownsRow w.heap.size 3 1 v1 (digs K N).length ((digs K N).map (Value.int .i64)) := by
  have HS := Lib.hid h
  obtain ⟨A, c, rfl⟩ := h.form'
  rw [List.length_replicate] at HS ⊢
  have hN7 := seven_le hK
  obtain ⟨T, eT⟩ : ∃ T : Int, T = 7 ^ K := ⟨_, rfl⟩
  rw [← eT] at hN hN7
  have HT := Lib.hid eT
  clear h eT
  have d1 : decide ((N : Int) < 0) = false := decide_eq_false (by omega)
  have d2 : decide (T ≤ (N : Int)) = false := decide_eq_false (by omega)
  go_enter Tryz.func21, Tryz.ntmps21
  obtain ⟨R, eR⟩ : ∃ R, R = w.heap.size := ⟨_, rfl⟩
  obtain ⟨w1, ew1⟩ : ∃ w1 : World, w1 = w.alloc (.cells #[.slice none 0 0, .int .i64 0] 45) := ⟨_, rfl⟩
  have HW1 : Hid (w.alloc (.cells #[.slice none 0 0, .int .i64 0] 45) = w1) := ew1.symm
  have HR1 : Hid (w1.heap[R]? = some (.cells #[.slice none 0 0, .int .i64 0] 45 (0, 0))) := (show Hid _ from by show _ = _; rw [ew1, eR]; exact heap_alloc_new w _)
  have HB1 : Hid (Below w.heap.size w w1) := (show Hid _ from by rw [ew1]; exact (Below.refl _ w).alloc (Nat.le_refl _) _)
  have hz1 : w1.heap.size = R + 1 := by rw [ew1, eR]; simp
  have HS1 := Lib.hid (HS.out.below HB1.out)
  have HER := Lib.hid eR
  have HZ1 := Lib.hid hz1
  clear ew1 hz1
  go_upto_region 1 with fail
  rw [HW1.out, ← eR]
  clear eR
  go_wp2_with fail
  (with_reducible refine (count7_any K _ w1 hK HS1.out).mono ?_)
  rintro e wz ⟨rfl, hwz⟩
  subst hwz
  rw [← HT.out]
  go_wp2_with fail
  obtain ⟨O, eO⟩ : ∃ O, O = w1.heap.size := ⟨_, rfl⟩
  obtain ⟨w2, ew2⟩ : ∃ w2 : World, w2 = w1.alloc (.cells #[.slice none 0 0, .int .i64 0] 45) := ⟨_, rfl⟩
  have HW2 : Hid (w1.alloc (.cells #[.slice none 0 0, .int .i64 0] 45) = w2) := ew2.symm
  have HK2 : Hid (TAc O (.slice none 0 0) [] w2) := (show Hid _ from by
    rw [ew2, eO]
    exact ⟨heap_alloc_new w1 _, World.ownsRow_nil _ _ _ _⟩)
  have HB2 : Hid (Below w1.heap.size w1 w2) := (show Hid _ from by rw [ew2]; exact (Below.refl _ w1).alloc (Nat.le_refl _) _)
  have hOR : O = R + 1 := by rw [eO]; exact HZ1.out
  have HOR := Lib.hid hOR
  have hRO : R < O := by omega
  rw [HW2.out, ← eO]
  have HEO := Lib.hid eO
  clear ew2 eO hOR
  go_loopw [1, 30] (fun s i wr => AtR K N O w2 s i wr) (fun _ i _ => K - (intOf i).toNat)
  case atStart => exact ⟨0, .slice none 0 0, Nat.zero_le _, rfl, by simp, HK2.out, Below.refl _ _⟩
  case round =>
    obtain ⟨k, va, hk, rfl, rfl, hTA, hBel⟩ := hrel
    have HTA := Lib.hid hTA
    have HBel := Lib.hid hBel
    clear hTA hBel
    by_cases hlt : k < K
    · obtain ⟨b, off, rfl, hb, hcell⟩ := rep_cells HS1.out (by omega)
      have k1 := hcell k hlt
      have HB2r : Hid (Below w1.heap.size w1 wr) := (show Hid _ from HB2.out.trans (HBel.out.mono (by rw [← HEO.out]; exact Nat.le_refl _)))
      have c1 := (HB2r.out.cell (p := ⟨b, off + k, none⟩) hb).trans k1
      have HSN : Hid (digs (k + 1) N = digs k N ++ [((N / 7 ^ k % 7 : Nat) : Int)]) := digs_succ k N
      have hnb : N / 7 ^ k ≤ 2401 := Nat.le_trans (Nat.div_le_self _ _) (by omega)
      have hs' : N / 7 ^ (k + 1) = N / 7 ^ k / 7 := by rw [Nat.pow_succ, ← Nat.div_div_eq_div_mul]
      obtain ⟨s, es⟩ : ∃ s, s = N / 7 ^ k := ⟨_, rfl⟩
      obtain ⟨s2, es2⟩ : ∃ s, s = N / 7 ^ (k + 1) := ⟨_, rfl⟩
      have HS2 := Lib.hid es2
      rw [← es, ← es2] at hs'
      rw [← es] at HSN hnb ⊢
      have HDV : Hid ((s : Int).tdiv 7 = (s2 : Int)) := (show Hid _ from by
        show _ = _
        rw [Int.tdiv_eq_ediv_of_nonneg (by omega)]; omega)
      obtain ⟨y, ey⟩ : ∃ y : Int, y = ((s % 7 : Nat) : Int) := ⟨_, rfl⟩
      have m3 : (s : Int).tmod 7 = y := by rw [ey, Int.tmod_eq_emod_of_nonneg (by omega)]; omega
      rw [← ey] at HSN
      obtain ⟨ns, ens⟩ : ∃ ns, ns = digs k N := ⟨_, rfl⟩
      have hnl : ns.length ≤ 4 := by rw [ens, digs_len]; omega
      rw [← ens] at HTA HSN
      obtain ⟨dv, edv⟩ : ∃ dv : Int, dv = (s : Int).tdiv 7 := ⟨_, rfl⟩
      have m4 : (s : Int).tdiv 7 = dv := edv.symm
      have m5 : IntKind.i64.wrap dv = dv := by rw [edv, HDV.out]; exact IntWalk.i64_in _ (by omega)
      rw [m4] at HDV
      have cO0 : wr.cell? ⟨O, 0, none⟩ = some va := cell_of_row wr O 0 _ _ _ HTA.out.1
      have fO0 : wr.frozen? ⟨O, 0, none⟩ = false := frozen_of_row wr O 0 _ _ HTA.out.1
      have hOr : O < wr.heap.size := HTA.out.lt
      have hbr : b < wr.heap.size := by have := HB2r.out.size; omega
      have HREL : Hid (∀ (g9 cap9 : Nat) (w9 : World), (wr.alloc (.cells #[.int .i64 y] 3)).grownBy w9 va.ownBlock → w9.ownsRow (O + 1) 3 1 (.slice (some ⟨g9, 0, none⟩) (ns ++ [y]).length cap9) (ns ++ [y]).length ((ns ++ [y]).map (Value.int .i64)) → AtR K N O w2 (.int .i64 dv) (.int .i64 ((k : Int) + 1)) (w9.setCell ⟨O, 0, none⟩ (.slice (some ⟨g9, 0, none⟩) (ns.length + 1) cap9))) := (show Hid _ from fun g9 cap9 w9 hg ho => by
        obtain ⟨q1, q2⟩ := HTA.out.step HBel.out hg ho
        exact ⟨k + 1, _, by omega, by simp, by rw [HDV.out, HS2.out], by rw [HSN.out]; exact q1, q2⟩)
      have HFZ : Hid (∀ w9 : World, (wr.alloc (.cells #[.int .i64 y] 3)).grownBy w9 va.ownBlock → w9.frozen? ⟨O, 0, none⟩ = false) := (show Hid _ from fun w9 hg => HTA.out.frozen hg)
      have HNE : Hid (some O ≠ va.ownBlock) := HTA.out.ne
      have HOV : Hid (wr.ownsRow (O + 1) 3 1 va ns.length (ns.map (Value.int .i64))) := HTA.out.2
      have z3 : decide (k < K) = true := decide_eq_true hlt
      clear k1 hcell es es2 hs' ey ens edv
      go_upto_region 10 with fail
      go_region_law (refine step_append_int1_at _ (by rfl) (.tmp 35) _ 22 (by rfl) (O + 1) 3 Tryz.underlying22 iinfo va ns (by rfl) (by first | exact HOV.out.alloc (.cells #[.int .i64 y] 3) | exact (HOV.out.alloc (.cells #[.int .i64 y] 3)).drew) y wr.heap.size (by rfl) (by exact cells_new wr [.int .i64 y] 3 0 _ rfl) (by omega) (by simp; omega) ?_; intro g9 cap9 w9 hown9 hg9 hat9; have HG9 : Hid ((wr.alloc (.cells #[.int .i64 y] 3)).grownBy w9 va.ownBlock) := (show Hid _ from ⟨hg9.os, hg9.tape, hg9.output, hg9.size, hg9.block⟩); have HO9 := Lib.hid hown9; have cO0 : w9.cell? ⟨O, 0, none⟩ = some va := hg9.cell (cell_al (.cells #[.int .i64 y] 3) cO0) HNE.out; have fO0 : w9.frozen? ⟨O, 0, none⟩ = false := HFZ.out w9 HG9.out; clear hg9 hown9 hat9)
      all_goals
        go_wp2_with fail
        go_roundw
        case rel => exact HREL.out g9 cap9 w9 HG9.out HO9.out
        case measure => simp [intOf]; omega
    · have z3 : decide (k < K) = false := decide_eq_false hlt
      have hkK : k = K := by omega
      rw [hkK] at HTA
      obtain ⟨Av, cv, ev⟩ := own_sl HTA.out.2
      subst ev
      rw [digs_len] at HTA
      have cO0 : wr.cell? ⟨O, 0, none⟩ = some (.slice Av K cv) := cell_of_row wr O 0 _ _ _ HTA.out.1
      have cO1 : wr.cell? ⟨O, 1, none⟩ = some (.int .i64 0) := cell_of_row wr O 1 _ _ _ HTA.out.1
      have HRr : Hid (wr.heap[R]? = some (.cells #[.slice none 0 0, .int .i64 0] 45 (0, 0))) := (show Hid _ from (HBel.out.block R (by omega)).trans ((HB2.out.block R (by rw [HZ1.out]; omega)).trans HR1.out))
      have cR0 : wr.cell? ⟨R, 0, none⟩ = some (.slice none 0 0) := cell_of_row wr R 0 _ _ _ HRr.out
      have cR1 : wr.cell? ⟨R, 1, none⟩ = some (.int .i64 0) := cell_of_row wr R 1 _ _ _ HRr.out
      have fR0 : wr.frozen? ⟨R, 0, none⟩ = false := frozen_of_row wr R 0 _ _ HRr.out
      have fR1 : wr.frozen? ⟨R, 1, none⟩ = false := frozen_of_row wr R 1 _ _ HRr.out
      clear hkK
      go_wp2_with fail
      have HW := store2 (.slice Av K cv) (.int .i64 0) HRr.out
      have q0 := cell_of_row _ R 0 _ _ _ HW
      have q1 := cell_of_row _ R 1 _ _ _ HW
      simp only [List.getElem?_toArray, List.getElem?_cons_zero, List.getElem?_cons_succ] at q0 q1
      refine bodyPost_ret (v := .tuple #[.agg #[.slice Av K cv, .int .i64 0], .int .i64 0]) (by simp [results, Tryz.results21, go_sem, q0, q1]) rfl ⟨_, rfl, ?_, ?_⟩
      · have hb : Below w.heap.size w wr := (HB1.out.trans (HB2.out.mono HB1.out.size)).trans (HBel.out.mono (by have := HER.out; omega))
        exact (hb.setCell (by show _ ≤ R; have := HER.out; omega) _).setCell (by show _ ≤ R; have := HER.out; omega) _
      · have ho := HTA.out.2
        rw [digs_len] at ho ⊢
        exact own_lo (base := O + 1) (own_set3 (own_set3 ho (p := ⟨R, 0, none⟩) (by show R < O + 1; omega) _) (p := ⟨R, 1, none⟩) (by show R < O + 1; omega) _) (by have := HER.out; omega)
end Go.Proofs.YtoiabanpnkpbhaaGreatDoor

namespace Go.Proofs.YtoiabanpnkpbhaaGreatDoor

theorem pr7 : prB 7 = true := by kernel_rfl
/-- a list of digits as a number -/
def v7 (L : List Int) : Int := L.foldl (fun u x => u * 7 + x) 0
theorem v7_snoc (L : List Int) (x : Int) : v7 (L ++ [x]) = v7 L * 7 + x := by unfold v7; rw [List.foldl_append]; rfl
theorem v7_bd (L : List Int) (h : els 7 L = true) : 0 ≤ v7 L ∧ v7 L < 7 ^ L.length := by
  have key : ∀ (L : List Int) (a : Int) (k : Nat), (∀ x ∈ L, 0 ≤ x ∧ x < 7) → 0 ≤ a → a < 7 ^ k → 0 ≤ L.foldl (fun u x => u * 7 + x) a ∧ L.foldl (fun u x => u * 7 + x) a < 7 ^ (k + L.length) := by
    intro L
    induction L with
    | nil => intro a k _ h0 h1; exact ⟨h0, h1⟩
    | cons x L ih =>
      intro a k hx h0 h1
      have hx0 := hx x (by simp)
      have h2 : (7 : Int) ^ (k + 1) = 7 ^ k * 7 := Int.pow_succ 7 k
      have := ih (a * 7 + x) (k + 1) (fun y hy => hx y (by simp [hy])) (by omega) (by omega)
      have e : k + 1 + L.length = k + (x :: L).length := by simp; omega
      rw [e] at this
      exact this
  have := key L 0 0 (fun x hx => el_t (els_all h x hx)) (by omega) (by decide)
  simpa [v7] using this
theorem v7_inj {A B : List Int} (hl : A.length = B.length) (ha : els 7 A = true) (hb : els 7 B = true) (h : v7 A = v7 B) : A = B := by
  have key : ∀ (A B : List Int) (a b : Int), A.length = B.length → (∀ x ∈ A, 0 ≤ x ∧ x < 7) → (∀ x ∈ B, 0 ≤ x ∧ x < 7) → A.foldl (fun u x => u * 7 + x) a = B.foldl (fun u x => u * 7 + x) b → a = b ∧ A = B := by
    intro A
    induction A with
    | nil =>
      intro B a b hl _ _ h
      have : B = [] := List.eq_nil_of_length_eq_zero (by simpa using hl.symm)
      subst this
      exact ⟨h, rfl⟩
    | cons x A ih =>
      intro B a b hl hA hB h
      match B, hl with
      | y :: B, hl =>
        obtain ⟨h1, h2⟩ := ih B (a * 7 + x) (b * 7 + y) (by simpa using hl) (fun z hz => hA z (by simp [hz])) (fun z hz => hB z (by simp [hz])) h
        have hx := hA x (by simp)
        have hy := hB y (by simp)
        exact ⟨by omega, by rw [h2, show x = y by omega]⟩
  exact (key A B 0 0 hl (fun x hx => el_t (els_all ha x hx)) (fun x hx => el_t (els_all hb x hx)) h).2
/-- what the servers who see, as digits -/
def row7 (i : Int) (D : List Int) (t G n j : Nat) : List Int := (List.range n).map fun m => gPt 7 i D t G m ((j : Int) + 1)
def dgt (i : Int) (D : List Int) (t G n : Nat) (who : List Int) : List Int := who.flatMap fun j => row7 i D t G n j.toNat
theorem row7_len (i : Int) (D : List Int) (t G n j : Nat) : (row7 i D t G n j).length = n := by simp [row7]
theorem row7_succ (i : Int) (D : List Int) (t G n j : Nat) : row7 i D t G (n + 1) j = row7 i D t G n j ++ [gPt 7 i D t G n ((j : Int) + 1)] := by
  unfold row7; rw [List.range_succ, List.map_append]; rfl
theorem dgt_snoc (i : Int) (D : List Int) (t G n : Nat) (who : List Int) (j : Int) : dgt i D t G n (who ++ [j]) = dgt i D t G n who ++ row7 i D t G n j.toNat := by simp [dgt]
theorem dgt_len (i : Int) (D : List Int) (t G n : Nat) : ∀ who : List Int, (dgt i D t G n who).length = who.length * n
  | [] => by simp [dgt]
  | j :: who => by
    have := dgt_len i D t G n who
    show (row7 i D t G n j.toNat ++ dgt i D t G n who).length = (who.length + 1) * n
    rw [List.length_append, row7_len, this, Nat.add_mul]; omega
theorem row7_els (i : Int) (D : List Int) (t G n j : Nat) : els 7 (row7 i D t G n j) = true := els_of fun x hx => by
  obtain ⟨m, _, rfl⟩ := List.mem_map.1 hx
  exact decide_eq_true (gPt_bd (by omega) i D t G m _)
theorem dgt_els (i : Int) (D : List Int) (t G n : Nat) (who : List Int) : els 7 (dgt i D t G n who) = true := els_of fun x hx => by
  obtain ⟨j, _, hj⟩ := List.mem_flatMap.1 hx
  exact els_all (row7_els i D t G n j.toNat) x hj
theorem dgt_inj {i : Int} {D D' : List Int} {t G n : Nat} : ∀ {who : List Int}, dgt i D t G n who = dgt i D' t G n who → ∀ j ∈ who, ∀ m, m < n → gPt 7 i D t G m ((j.toNat : Int) + 1) = gPt 7 i D' t G m ((j.toNat : Int) + 1)
  | [], _, j, hj, _, _ => by cases hj
  | k :: who, h, j, hj, m, hm => by
    have h' : row7 i D t G n k.toNat ++ dgt i D t G n who = row7 i D' t G n k.toNat ++ dgt i D' t G n who := h
    obtain ⟨h1, h2⟩ := List.append_inj h' (by rw [row7_len, row7_len])
    rcases List.mem_cons.1 hj with rfl | hj
    · have h3 : (row7 i D t G n j.toNat)[m]? = (row7 i D' t G n j.toNat)[m]? := by rw [h1]
      simpa [row7, hm] using h3
    · exact dgt_inj h2 j hj m hm
theorem piece_eq {A B X : List Int} (hA : A.length = X.length) (hB : B.length = X.length) (ea : els 7 A = true) (eb : els 7 B = true) (hX : X.Pairwise fun a b => ¬ (7 : Int) ∣ a - b) (h : ∀ x ∈ X, (7 : Int) ∣ ez A x - ez B x) : A = B := by
  have haz : az 7 (az_add A (zmul (-1) B)) := roots pr7 X _ (by rw [add_len, zmul_len]; omega) hX fun x hx => by
    have h1 := h x hx
    rw [add_ez, zmul_ez]
    have e : ez A x + -1 * ez B x = ez A x - ez B x := by omega
    rw [e]; exact h1
  have hg : ∀ k, gd A k = gd B k := els_cong (by omega) ea eb fun k => by
    have := az_gd haz k
    rw [add_gd, zmul_gd] at this
    have e : gd A k + -1 * gd B k = gd A k - gd B k := by omega
    rwa [e] at this
  refine List.ext_getElem (by omega) fun k h1 h2 => ?_
  have := hg k
  rwa [gd_lt h1, gd_lt h2] at this
theorem gPt_inj {want : Nat} {D D' : List Int} {t G g : Nat} {j : Int} (hj : ¬ (7 : Int) ∣ j) (h : gPt 7 want D t G g j = gPt 7 want D' t G g j) : (7 : Int) ∣ ez (gSl D t g) j - ez (gSl D' t g) j := by
  have h1 := gPt_ez 7 want D t G g j
  have h2 := gPt_ez 7 want D' t G g j
  rw [h] at h1
  have h3 : (7 : Int) ∣ j ^ G * (ez (gSl D t g) j - ez (gSl D' t g) j) := by
    have e : j ^ G * (ez (gSl D t g) j - ez (gSl D' t g) j) = (gPt 7 want D' t G g j - (dlt want g + j ^ G * ez (gSl D' t g) j)) - (gPt 7 want D' t G g j - (dlt want g + j ^ G * ez (gSl D t g) j)) := by rw [Int.mul_sub]; omega
    rw [e]; exact Int.dvd_sub h2 h1
  rcases pr_euclid pr7 _ _ h3 with h4 | h4
  · exfalso
    have key : ∀ k : Nat, ¬ (7 : Int) ∣ j ^ k := by
      intro k
      induction k with
      | zero => intro hd; rw [Int.pow_zero] at hd; omega
      | succ k ih =>
        intro hd
        rw [Int.pow_succ] at hd
        rcases pr_euclid pr7 _ _ hd with h | h
        · exact ih h
        · exact hj h
    exact key G h4
  · exact h4
/-- equal views: equal tapes -/
theorem view_inj {i : Nat} {D D' : List Int} {t G n : Nat} {who : List Int} (hw : who.length = t) (hd : who.Nodup) (hb : ∀ j ∈ who, 0 ≤ j ∧ j < 6) (hD : D.length = n * t) (hD' : D'.length = n * t) (e : els 7 D = true) (e' : els 7 D' = true)
    (h : dgt i D t G n who = dgt i D' t G n who) : D = D' := by
  have hp : ∀ m, m < n → (D.drop (m * t)).take t = (D'.drop (m * t)).take t := fun m hm => by
    have hmt : m * t + t ≤ n * t := by
      have := Nat.mul_le_mul_right t (show m + 1 ≤ n by omega)
      rw [Nat.add_mul] at this; omega
    refine piece_eq (X := who.map fun j => ((j.toNat : Nat) : Int) + 1) (by simp; omega) (by simp; omega) (els_of fun x hx => els_all e x (List.mem_of_mem_drop (List.mem_of_mem_take hx))) (els_of fun x hx => els_all e' x (List.mem_of_mem_drop (List.mem_of_mem_take hx))) ?_ ?_
    · rw [List.pairwise_map]
      refine List.Pairwise.imp_of_mem (fun {a b} ha hb' hne => ?_) hd
      have h1 := hb a ha
      have h2 := hb b hb'
      have h3 : a ≠ b := hne
      intro hdv
      omega
    · intro x hx
      obtain ⟨j, hj, rfl⟩ := List.mem_map.1 hx
      have h1 := hb j hj
      exact gPt_inj (g := m) (by omega) (dgt_inj h j hj m hm)
  refine List.ext_getElem (by omega) fun k h1 h2 => ?_
  rcases Nat.eq_zero_or_pos t with ht | ht
  · subst ht; rw [hD] at h1; omega
  have hm : k / t < n := (Nat.div_lt_iff_lt_mul ht).2 (by omega)
  have h3 := hp (k / t) hm
  have hk : k / t * t + k % t = k := by have := Nat.div_add_mod k t; rw [Nat.mul_comm] at this; exact this
  have hr : k % t < t := Nat.mod_lt _ ht
  have h4 : ((D.drop (k / t * t)).take t)[k % t]? = ((D'.drop (k / t * t)).take t)[k % t]? := by rw [h3]
  rw [List.getElem?_take_of_lt hr, List.getElem?_take_of_lt hr, List.getElem?_drop, List.getElem?_drop, hk, List.getElem?_eq_getElem h1, List.getElem?_eq_getElem h2] at h4
  injection h4
theorem digs_inj {K : Nat} : ∀ {N N' : Nat}, N < 7 ^ K → N' < 7 ^ K → digs K N = digs K N' → N = N' := by
  intro N N' h h' e
  have hj : ∀ j, j < K → N / 7 ^ j % 7 = N' / 7 ^ j % 7 := fun j hj => by
    have hg : ∀ M : Nat, (digs K M)[j]? = some ((M / 7 ^ j % 7 : Nat) : Int) := fun M => by
      unfold digs
      rw [List.getElem?_map, List.getElem?_range hj]; rfl
    have h1 : some ((N / 7 ^ j % 7 : Nat) : Int) = some ((N' / 7 ^ j % 7 : Nat) : Int) := by rw [← hg, ← hg, e]
    injection h1 with h1
    exact Int.natCast_inj.1 h1
  have key : ∀ k, k ≤ K → N / 7 ^ (K - k) = N' / 7 ^ (K - k) := by
    intro k
    induction k with
    | zero => intro _; rw [Nat.sub_zero, Nat.div_eq_of_lt h, Nat.div_eq_of_lt h']
    | succ k ih =>
      intro hk
      have h1 := ih (by omega)
      have h2 := hj (K - (k + 1)) (by omega)
      have e1 : K - k = (K - (k + 1)) + 1 := by omega
      rw [e1, Nat.pow_succ, ← Nat.div_div_eq_div_mul, ← Nat.div_div_eq_div_mul] at h1
      omega
  have := key K (Nat.le_refl _)
  simpa using this
/-- the code of the view of tape number N -/
def fvw (i : Nat) (t G n : Nat) (who : List Int) (N : Nat) : Nat := (v7 (dgt i (digs (n * t) N) t G n who)).toNat
theorem fvw_bd {i : Nat} {t G n : Nat} {who : List Int} (hw : who.length = t) (N : Nat) : fvw i t G n who N < 7 ^ (n * t) ∧ v7 (dgt i (digs (n * t) N) t G n who) = (fvw i t G n who N : Int) := by
  have h1 := v7_bd _ (dgt_els i (digs (n * t) N) t G n who)
  have hlen : (dgt i (digs (n * t) N) t G n who).length = n * t := by rw [dgt_len, hw, Nat.mul_comm]
  rw [hlen] at h1
  unfold fvw
  refine ⟨?_, by omega⟩
  have : ((7 : Nat) ^ (n * t) : Nat) = ((7 : Int) ^ (n * t)) := by simp
  omega
theorem fvw_inj {i : Nat} {t G n : Nat} {who : List Int} (hw : who.length = t) (hd : who.Nodup) (hb : ∀ j ∈ who, 0 ≤ j ∧ j < 6) {N N' : Nat} (hN : N < 7 ^ (n * t)) (hN' : N' < 7 ^ (n * t)) (h : fvw i t G n who N = fvw i t G n who N') : N = N' := by
  have h1 := (fvw_bd (i := i) (G := G) (n := n) hw N).2
  have h2 := (fvw_bd (i := i) (G := G) (n := n) hw N').2
  have h3 : dgt i (digs (n * t) N) t G n who = dgt i (digs (n * t) N') t G n who := v7_inj (by rw [dgt_len, dgt_len]) (dgt_els ..) (dgt_els ..) (by rw [h1, h2, h])
  exact digs_inj hN hN' (view_inj hw hd hb (digs_len _ _) (digs_len _ _) (digs_els _ _) (digs_els _ _) h3)
/-- how often each number is met -/
def cn (f : Nat → Nat) (k u : Nat) : Nat := ((List.range k).map f).count u
theorem cn_succ (f : Nat → Nat) (k u : Nat) : cn f (k + 1) u = cn f k u + if f k = u then 1 else 0 := by
  unfold cn
  rw [List.range_succ, List.map_append, List.count_append]
  by_cases h : f k = u
  · simp [h]
  · simp [h]
theorem pigeon : ∀ (N : Nat) (L : List Nat), L.Nodup → (∀ x ∈ L, x < N) → L.length ≤ N
  | 0, L, _, h => by
    cases L with
    | nil => simp
    | cons x L => exact absurd (h x (by simp)) (by omega)
  | N + 1, L, hd, h => by
    have h1 := pigeon N (L.erase N) (hd.erase N) fun x hx => by
      have h2 := h x (List.mem_of_mem_erase hx)
      have h3 : x ≠ N := ((List.Nodup.mem_erase_iff hd).1 hx).1
      omega
    have h4 : L.length ≤ (L.erase N).length + 1 := by
      by_cases hm : N ∈ L
      · rw [List.length_erase_of_mem hm]; omega
      · rw [List.erase_of_not_mem hm]; omega
    omega
theorem cn_one {f : Nat → Nat} {N : Nat} (hb : ∀ k, k < N → f k < N) (hi : ∀ k k', k < N → k' < N → f k = f k' → k = k') {u : Nat} (hu : u < N) : cn f N u = 1 := by
  have hd : ((List.range N).map f).Nodup := by
    rw [List.Nodup, List.pairwise_map]
    refine List.Pairwise.imp_of_mem (fun {a b} ha hb' hne e => ?_) List.nodup_range
    exact hne (hi a b (List.mem_range.1 ha) (List.mem_range.1 hb') e)
  have hm : u ∈ (List.range N).map f := by
    by_cases hm : u ∈ (List.range N).map f
    · exact hm
    · exfalso
      have h1 := pigeon N (u :: (List.range N).map f) (List.nodup_cons.2 ⟨hm, hd⟩) fun x hx => by
        rcases List.mem_cons.1 hx with rfl | hx
        · exact hu
        · obtain ⟨k, hk, rfl⟩ := List.mem_map.1 hx
          exact hb k (List.mem_range.1 hk)
      simp at h1
      omega
  unfold cn
  have h1 := List.nodup_iff_count.1 hd u
  have h2 := List.count_pos_iff.2 hm
  omega
end Go.Proofs.YtoiabanpnkpbhaaGreatDoor
