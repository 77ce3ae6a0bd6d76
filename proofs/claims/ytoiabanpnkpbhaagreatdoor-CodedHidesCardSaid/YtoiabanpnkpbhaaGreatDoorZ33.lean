/- Joined: Kw. -/
import Derived.Test.YtoiabanpnkpbhaaGreatDoorZ32
import Derived.Test.YtoiabanpnkpbhaaGreatDoorZ36
import Derived.Test.YtoiabanpnkpbhaaGreatDoorZ27
import Derived.Test.YtoiabanpnkpbhaaGreatDoorZ22
import Derived.Test.YtoiabanpnkpbhaaGreatDoorZ28
namespace Go.Proofs.YtoiabanpnkpbhaaGreatDoor
open Go.RowKit

/-- the elements of the queries, each read out of memory -/
theorem sle_el {P want : Int} {D : List Int} {t G n m c g : Nat} {w : World} {A : Option Addr} (h : SLE g w (.slice A n c) (gRows P want D t G n m)) (hn : 0 < n) (hm : 0 < m) :
    ∃ b o, A = some ⟨b, o, none⟩ ∧ ∀ j, j < n → ∃ b2 o2 d2, w.cell? ⟨b, o + j, none⟩ = some (.slice (some ⟨b2, o2, none⟩) m d2) ∧ ∀ q, q < m → w.cell? ⟨b2, o2 + q, none⟩ = some (.int .i64 (gPt P want D t G q ((j : Int) + 1))) := by
  obtain ⟨A', c', e, hc, hm', ha⟩ := h
  injection e with e1 e2 e3
  subst e1 e3
  obtain ⟨b, off, e, hb, hbg, hcell⟩ := ha (by rw [gRows_len]; exact hn)
  refine ⟨b, off, e, fun j hj => ?_⟩
  obtain ⟨B, d, h1, h2⟩ := hcell j (by rw [gRows_len]; exact hj)
  have hrow : (gRows P want D t G n m)[j]'(by rw [gRows_len]; exact hj) = gRow P want D t G j m := by simp [gRows]
  rw [hrow] at h2
  rw [hrow, gRow_len] at h1
  rw [gRow_len] at h2
  have h3 : SB w.heap.size w (.slice B m d) (gRow P want D t G j m) := h2.si
  obtain ⟨b2, o2, eB, _, hc2⟩ := SB.cells h3 (by rw [gRow_len]; exact hm)
  subst eB
  refine ⟨b2, o2, d, h1, fun q hq' => ?_⟩
  have := hc2 q (by rw [gRow_len]; exact hq')
  rw [this]; simp [gRow]
set_option maxRecDepth 100000 in
set_option maxHeartbeats 16000000 in
theorem shapes_any (l : List Int) (a b : Nat) (v : Value) (w : World) (ha : a < 256) (hb : b < 256) (h : SI w v l) (hE : EW w) :
    Calls Tryz.prog 6 #[v, .int .u8 a, .int .u8 b] w fun e w' => e = .returned (.bool true) ∧ Below w.heap.size w w' := by
  have HS := Lib.hid h
  have HE := Lib.hid hE
  obtain ⟨A, c, rfl⟩ := h.form
  clear h hE
  go_enter Tryz.func6, Tryz.ntmps6
  go_wp2_with fail
  (with_reducible refine (sane_any _ HE.out).mono ?_)
  rintro e w1 ⟨rfl, hb1⟩
  have HB1 := Lib.hid hb1
  have HS1 := Lib.hid (HS.out.below hb1)
  clear hb1
  go_wp2_with fail
  (with_reducible refine (few_any l _ w1 HS1.out).mono ?_)
  rintro e wz ⟨rfl, hwz⟩
  subst hwz
  by_cases h5 : l.length ≤ 500
  · have d5 : decide (l.length ≤ 500) = true := decide_eq_true h5
    rw [d5]
    clear d5 h5
    go_wp2_with fail
    (with_reducible refine (new_any l _ w1 HS1.out).mono ?_)
    rintro e w2 ⟨rfl, hd2, hb2, hz2⟩
    obtain ⟨g, eg⟩ : ∃ g, g = w1.heap.size := ⟨_, rfl⟩
    rw [← eg] at hd2 ⊢
    have HD2 := Lib.hid hd2
    have HB2 : Hid (Below w.heap.size w w2) := HB1.out.trans (hb2.mono HB1.out.size)
    have HGW : Hid (w.heap.size ≤ g) := (show Hid _ from by rw [eg]; exact HB1.out.size)
    have HG2 : Hid (g < w2.heap.size) := hd2.lt
    clear hd2 hb2 hz2 eg
    go_wp2_with fail
    (with_reducible refine (storage_any g w2 HD2.out).mono ?_)
    rintro e w3 ⟨P, n0, t0', G0, rfl, hd3, hg3, hV, ht2, hG3⟩
    have hn2 := hV.n2
    have hn10 := hV.n10
    have hnP := hV.nP
    have ht1 := hV.t1
    have hG1 := hV.G1
    obtain ⟨n, rfl⟩ : ∃ n : Nat, n0 = n := ⟨n0.toNat, by omega⟩
    obtain ⟨t, rfl⟩ : ∃ t : Nat, t0' = t := ⟨t0'.toNat, by omega⟩
    obtain ⟨G, rfl⟩ : ∃ G : Nat, G0 = G := ⟨G0.toNat, by omega⟩
    have HPR := Lib.hid hV
    have hPb := hV.pb
    obtain ⟨F, eF⟩ : ∃ F, F = w3.heap.size := ⟨_, rfl⟩
    obtain ⟨w4, ew4⟩ : ∃ w4 : World, w4 = (w3.alloc (.cells #[.int .i64 P] 31)).alloc (.cells #[.int .i64 n, .int .i64 t, .int .i64 G] 29) := ⟨_, rfl⟩
    have HW4 : Hid ((w3.alloc (.cells #[.int .i64 P] 31)).alloc (.cells #[.int .i64 n, .int .i64 t, .int .i64 G] 29) = w4) := ew4.symm
    have HF4 : Hid (w4.heap[F]? = some (.cells #[.int .i64 P] 31 (0, 0))) := (show Hid _ from by show _ = _; rw [ew4, eF, Below.heap_alloc _ _ _ (by simp)]; exact heap_alloc_new w3 _)
    have HP4 : Hid (w4.heap[F + 1]? = some (.cells #[.int .i64 n, .int .i64 t, .int .i64 G] 29 (0, 0))) := (show Hid _ from by show _ = _; rw [ew4, eF]; have := heap_alloc_new (w3.alloc (.cells #[.int .i64 P] 31)) (.cells #[.int .i64 n, .int .i64 t, .int .i64 G] 29); simpa using this)
    have HB34 : Hid (Below w3.heap.size w3 w4) := (show Hid _ from by rw [ew4]; exact ((Below.refl _ w3).alloc (Nat.le_refl _) _).alloc (by simp) _)
    have HD4 := Lib.hid (hd3.below HB34.out)
    have HGF : Hid (g < F) := (show Hid _ from by rw [eF]; have := hg3.size; have := HG2.out; show g < _; omega)
    have HG24 : Hid (w2.grownBy w4 (some g)) := grownBy_trans hg3 (grownBy_of_below HB34.out _)
    have HFF := Lib.hid eF
    clear hd3 hg3 hV
    go_upto_region 7 with fail
    rw [HW4.out, ← eF]
    clear ew4 eF
    go_wp2_with fail
    (with_reducible refine (next_any 5 g w4 HD4.out (i64_s (by omega)) (by omega)).mono ?_)
    rintro e w5 ⟨x, rfl, _, hx, hd5, hg5⟩
    obtain ⟨hx1, hx2⟩ := hx (by omega)
    obtain ⟨m, em⟩ : ∃ m : Nat, (m : Int) = 1 + x := ⟨(1 + x).toNat, by omega⟩
    have hm1 : 1 ≤ (m : Int) := by omega
    have hm6 : (m : Int) ≤ 6 := by omega
    have wm : IntKind.i64.wrap (1 + x) = (m : Int) := by rw [em]; exact IntWalk.i64_in _ (by omega)
    have HD5 := Lib.hid hd5
    have HG25 : Hid (w2.grownBy w5 (some g)) := grownBy_trans HG24.out hg5
    have HF5 : Hid (w5.heap[F]? = some (.cells #[.int .i64 P] 31 (0, 0))) := (show Hid _ from (hg5.block F (heap_of_cells HF4.out) (by have := HGF.out; simp; omega)).trans HF4.out)
    have HP5 : Hid (w5.heap[F + 1]? = some (.cells #[.int .i64 n, .int .i64 t, .int .i64 G] 29 (0, 0))) := (show Hid _ from (hg5.block (F + 1) (heap_of_cells HP4.out) (by have := HGF.out; simp; omega)).trans HP4.out)
    obtain ⟨ea1, ea2⟩ := u8_tmod a m hm1
    obtain ⟨eb1, eb2⟩ := u8_tmod b m hm1
    rw [Int.toNat_natCast] at ea1 ea2 eb1 eb2
    obtain ⟨i, ei⟩ : ∃ i, i = a % m := ⟨_, rfl⟩
    obtain ⟨k, ek⟩ : ∃ k, k = b % m := ⟨_, rfl⟩
    rw [← ei] at ea1 ea2
    rw [← ek] at eb1 eb2
    have hm0 : ¬ m = 0 := by omega
    have hm0' : ¬ (m : Int) = 0 := by omega
    have wi : IntKind.i64.wrap ((i : Nat) : Int) = (i : Int) := by exact IntWalk.i64_in _ (by omega)
    have wk : IntKind.i64.wrap ((k : Nat) : Int) = (k : Int) := by exact IntWalk.i64_in _ (by omega)
    have wa_ : IntKind.i64.wrap ((a : Nat) : Int) = (a : Int) := by exact IntWalk.i64_in _ (by omega)
    have wb_ : IntKind.i64.wrap ((b : Nat) : Int) = (b : Int) := by exact IntWalk.i64_in _ (by omega)
    clear hx hd5 hg5 em ei ek hx1 hx2
    go_upto_region 8 with fail
    go_quiet (fail)
    obtain ⟨w6, ew6⟩ : ∃ w6 : World, w6 = w5.drewN nq := ⟨_, rfl⟩
    have HW6 : Hid (w5.drewN nq = w6) := ew6.symm
    have HB56 : Hid (Below w5.heap.size w5 w6) := (show Hid _ from by rw [ew6]; exact Below.drewN (Below.refl _ w5) nq)
    have HF6 : Hid (w6.heap[F]? = some (.cells #[.int .i64 P] 31 (0, 0))) := (show Hid _ from (HB56.out.block F (heap_of_cells HF5.out)).trans HF5.out)
    have HP6 : Hid (w6.heap[F + 1]? = some (.cells #[.int .i64 n, .int .i64 t, .int .i64 G] 29 (0, 0))) := (show Hid _ from (HB56.out.block (F + 1) (heap_of_cells HP5.out)).trans HP5.out)
    have HD6 := Lib.hid (HD5.out.below HB56.out)
    have HG26 : Hid (w2.grownBy w6 (some g)) := grownBy_trans HG25.out (grownBy_of_below HB56.out _)
    rw [HW6.out]
    have f0 : w6.cell? ⟨F, 0, none⟩ = some (.int .i64 P) := cell_of_row w6 F 0 _ _ _ HF6.out
    have p0 : w6.cell? ⟨F + 1, 0, none⟩ = some (.int .i64 n) := cell_of_row w6 (F + 1) 0 _ _ _ HP6.out
    have p1 : w6.cell? ⟨F + 1, 1, none⟩ = some (.int .i64 t) := cell_of_row w6 (F + 1) 1 _ _ _ HP6.out
    have p2 : w6.cell? ⟨F + 1, 2, none⟩ = some (.int .i64 G) := cell_of_row w6 (F + 1) 2 _ _ _ HP6.out
    clear ew6 ea1 eb1 wi wk wa_ wb_ hm0 hm0' wm
    have hPi : i64r P := by unfold i64r; omega
    have hmi : i64r m := by unfold i64r; omega
    go_wp2_with fail
    obtain ⟨K, eK⟩ : ∃ K, K = m * t := ⟨_, rfl⟩
    have hmt : m * t ≤ 6 * 2 := Nat.mul_le_mul (by omega) (by omega)
    (with_reducible refine (glimits_ok P n t G m K t w6 HPR.out ⟨by omega, by omega⟩ rfl eK).mono ?_)
    rintro e w7 ⟨Al, cl, rfl, hb7, hol7⟩
    obtain ⟨vl, evl⟩ : ∃ vl, vl = Value.slice Al K cl := ⟨_, rfl⟩
    have hol := hol7
    rw [← evl] at hol
    have HKM : Hid (K = m * t) := eK
    have HKb : Hid (K ≤ 42) := (show Hid _ from by show _ ≤ _; rw [eK]; omega)
    clear hmt eK
    have HG6g : Hid (g < w6.heap.size) := (show Hid _ from by have := HG26.out.size; have := HG2.out; show g < _; omega)
    have HSE7 : Hid (SE g w7 vl (List.replicate K P)) := (show Hid _ from SE.of_own hol (fun x hx => by rw [(List.mem_replicate.1 hx).2]; exact hPi) HG6g.out)
    have HF7 : Hid (w7.heap[F]? = some (.cells #[.int .i64 P] 31 (0, 0))) := (show Hid _ from (hb7.block F (heap_of_cells HF6.out)).trans HF6.out)
    have HP7 : Hid (w7.heap[F + 1]? = some (.cells #[.int .i64 n, .int .i64 t, .int .i64 G] 29 (0, 0))) := (show Hid _ from (hb7.block (F + 1) (heap_of_cells HP6.out)).trans HP6.out)
    have HD7 := Lib.hid (HD6.out.below hb7)
    have HG27 : Hid (w2.grownBy w7 (some g)) := grownBy_trans HG26.out (grownBy_of_below hb7 _)
    clear hb7 hol7 hol f0 p0 p1 p2
    subst evl
    go_wp2_with fail
    (with_reducible refine (seed_any g (List.replicate K P) _ w7 HD7.out HSE7.out (by have := HKb.out; simp; omega) (limits_ok hPb)).mono ?_)
    rintro e w8 ⟨v1, ns, rfl, hd8, hg8, hin, hnl, hse⟩
    have hnK : ns.length = K := by rw [hnl]; simp
    have HNK := Lib.hid hnK
    have HEL : Hid (els P ns = true) := inL_els hin hnK
    have HSI8 := Lib.hid hse.si
    obtain ⟨A1, c1, ev1⟩ := hse.form
    subst ev1
    have HF8 : Hid (w8.heap[F]? = some (.cells #[.int .i64 P] 31 (0, 0))) := (show Hid _ from (hg8.block F (heap_of_cells HF7.out) (by have := HGF.out; simp; omega)).trans HF7.out)
    have HP8 : Hid (w8.heap[F + 1]? = some (.cells #[.int .i64 n, .int .i64 t, .int .i64 G] 29 (0, 0))) := (show Hid _ from (hg8.block (F + 1) (heap_of_cells HP7.out) (by have := HGF.out; simp; omega)).trans HP7.out)
    have HG28 : Hid (w2.grownBy w8 (some g)) := grownBy_trans HG27.out hg8
    have HBw8 : Hid (Below w.heap.size w w8) := (show Hid _ from HB2.out.grown HG28.out (HB2.out.size) (fun k hk => by injection hk with e; subst e; exact HGW.out))
    clear hd8 hg8 hin hnl hnK hse
    obtain ⟨nl, enl⟩ : ∃ nl, nl = ns.length := ⟨_, rfl⟩
    rw [← enl] at HSI8 ⊢
    have HNL := Lib.hid enl
    clear enl
    obtain ⟨T, eT⟩ : ∃ T, T = w8.heap.size := ⟨_, rfl⟩
    obtain ⟨w9, ew9⟩ : ∃ w9 : World, w9 = w8.alloc (.cells #[.slice A1 nl c1, .int .i64 0] 45) := ⟨_, rfl⟩
    have HW9 : Hid (w8.alloc (.cells #[.slice A1 nl c1, .int .i64 0] 45) = w9) := ew9.symm
    have HT9 : Hid (w9.heap[T]? = some (.cells #[.slice A1 nl c1, .int .i64 0] 45 (0, 0))) := (show Hid _ from by show _ = _; rw [ew9, eT]; exact heap_alloc_new w8 _)
    have HB89 : Hid (Below w8.heap.size w8 w9) := (show Hid _ from by rw [ew9]; exact (Below.refl _ w8).alloc (Nat.le_refl _) _)
    have HF9 : Hid (w9.heap[F]? = some (.cells #[.int .i64 P] 31 (0, 0))) := (show Hid _ from (HB89.out.block F (heap_of_cells HF8.out)).trans HF8.out)
    have HP9 : Hid (w9.heap[F + 1]? = some (.cells #[.int .i64 n, .int .i64 t, .int .i64 G] 29 (0, 0))) := (show Hid _ from (HB89.out.block (F + 1) (heap_of_cells HP8.out)).trans HP8.out)
    have HSI9 := Lib.hid (HSI8.out.below HB89.out)
    have HBw9 : Hid (Below w.heap.size w w9) := HBw8.out.trans (HB89.out.mono HBw8.out.size)
    have HTT := Lib.hid eT
    go_upto_region 11 with fail
    rw [HW9.out, ← eT]
    clear ew9 eT
    have f0 : w9.cell? ⟨F, 0, none⟩ = some (.int .i64 P) := cell_of_row w9 F 0 _ _ _ HF9.out
    have p0 : w9.cell? ⟨F + 1, 0, none⟩ = some (.int .i64 n) := cell_of_row w9 (F + 1) 0 _ _ _ HP9.out
    have p1 : w9.cell? ⟨F + 1, 1, none⟩ = some (.int .i64 t) := cell_of_row w9 (F + 1) 1 _ _ _ HP9.out
    have p2 : w9.cell? ⟨F + 1, 2, none⟩ = some (.int .i64 G) := cell_of_row w9 (F + 1) 2 _ _ _ HP9.out
    have t0 : w9.cell? ⟨T, 0, none⟩ = some (.slice A1 nl c1) := cell_of_row w9 T 0 _ _ _ HT9.out
    have t1 : w9.cell? ⟨T, 1, none⟩ = some (.int .i64 0) := cell_of_row w9 T 1 _ _ _ HT9.out
    have HG9 : Hid (g < w9.heap.size) := (show Hid _ from by have := HG28.out.size; have := HB89.out.size; have := HG2.out; show g < _; omega)
    have HQ : Hid (∀ W vv (s : Nat), s < m → g < W.heap.size → SI W vv ns → Calls Tryz.prog 22 #[.agg #[.int .i64 P], .agg #[.int .i64 n, .int .i64 t, .int .i64 G], .int .i64 m, .int .i64 s, .agg #[vv, .int .i64 0]] W fun e w' => ∃ Aq cq A2 c2, e = .returned (.tuple #[.slice Aq n cq, .agg #[.slice A2 K c2, .int .i64 K], .int .i64 0]) ∧ Below W.heap.size W w' ∧ SLE g w' (.slice Aq n cq) (gRows P s ns t G n m) ∧ SI w' (.slice A2 K c2) ns) := (show Hid _ from fun W vv s hs hgW hv => gqueries_ok P n t G m K s g ns vv W HPR.out ⟨by omega, by omega⟩ hs HNK.out HKM.out HEL.out hv hgW)
    go_wp2_with fail
    (with_reducible refine (HQ.out w9 _ i (by omega) HG9.out HSI9.out).mono ?_)
    rintro e w10 ⟨Aq, cq, A2, c2, rfl, hb10, hq10, hs10⟩
    have HS10 := Lib.hid hs10
    have HQ10 := Lib.hid hq10
    have HB9a : Hid (Below w9.heap.size w9 w10) := hb10
    clear hb10 hs10 hq10 f0 p0 p1 p2 t0 t1
    obtain ⟨X, eX⟩ : ∃ X, X = w10.heap.size := ⟨_, rfl⟩
    obtain ⟨w11, ew11⟩ : ∃ w11 : World, w11 = w10.alloc (.cells #[.slice A2 K c2, .int .i64 K] 45) := ⟨_, rfl⟩
    have HW11 : Hid (w10.alloc (.cells #[.slice A2 K c2, .int .i64 K] 45) = w11) := ew11.symm
    have HX11 : Hid (w11.heap[X]? = some (.cells #[.slice A2 K c2, .int .i64 K] 45 (0, 0))) := (show Hid _ from by show _ = _; rw [ew11, eX]; exact heap_alloc_new w10 _)
    have HB1011 : Hid (Below w10.heap.size w10 w11) := (show Hid _ from by rw [ew11]; exact (Below.refl _ w10).alloc (Nat.le_refl _) _)
    have HB911 : Hid (Below w9.heap.size w9 w11) := HB9a.out.trans (HB1011.out.mono HB9a.out.size)
    have HF11 : Hid (w11.heap[F]? = some (.cells #[.int .i64 P] 31 (0, 0))) := (show Hid _ from (HB911.out.block F (heap_of_cells HF9.out)).trans HF9.out)
    have HP11 : Hid (w11.heap[F + 1]? = some (.cells #[.int .i64 n, .int .i64 t, .int .i64 G] 29 (0, 0))) := (show Hid _ from (HB911.out.block (F + 1) (heap_of_cells HP9.out)).trans HP9.out)
    have HT11 : Hid (w11.heap[T]? = some (.cells #[.slice A1 nl c1, .int .i64 0] 45 (0, 0))) := (show Hid _ from (HB911.out.block T (heap_of_cells HT9.out)).trans HT9.out)
    have HSI11 := Lib.hid (HSI9.out.below HB911.out)
    have HXX := Lib.hid eX
    go_upto_region 12 with fail
    rw [HW11.out, ← eX]
    clear ew11 eX
    have f0 : w11.cell? ⟨F, 0, none⟩ = some (.int .i64 P) := cell_of_row w11 F 0 _ _ _ HF11.out
    have p0 : w11.cell? ⟨F + 1, 0, none⟩ = some (.int .i64 n) := cell_of_row w11 (F + 1) 0 _ _ _ HP11.out
    have p1 : w11.cell? ⟨F + 1, 1, none⟩ = some (.int .i64 t) := cell_of_row w11 (F + 1) 1 _ _ _ HP11.out
    have p2 : w11.cell? ⟨F + 1, 2, none⟩ = some (.int .i64 G) := cell_of_row w11 (F + 1) 2 _ _ _ HP11.out
    have t0 : w11.cell? ⟨T, 0, none⟩ = some (.slice A1 nl c1) := cell_of_row w11 T 0 _ _ _ HT11.out
    have t1 : w11.cell? ⟨T, 1, none⟩ = some (.int .i64 0) := cell_of_row w11 T 1 _ _ _ HT11.out
    go_wp2_with fail
    (with_reducible refine (HQ.out w11 _ k (by omega) (by have := HB911.out.size; have := HG9.out; omega) HSI11.out).mono ?_)
    rintro e w12 ⟨Ar, cr, A3, c3, rfl, hb12, hq12, hs12⟩
    have HS12 := Lib.hid hs12
    have HQ12 := Lib.hid hq12
    have HB1112 : Hid (Below w11.heap.size w11 w12) := hb12
    clear hb12 hs12 hq12 f0 p0 p1 p2 t0 t1
    obtain ⟨Y, eY⟩ : ∃ Y, Y = w12.heap.size := ⟨_, rfl⟩
    obtain ⟨w13, ew13⟩ : ∃ w13 : World, w13 = w12.alloc (.cells #[.slice A3 K c3, .int .i64 K] 45) := ⟨_, rfl⟩
    have HW13 : Hid (w12.alloc (.cells #[.slice A3 K c3, .int .i64 K] 45) = w13) := ew13.symm
    have HY13 : Hid (w13.heap[Y]? = some (.cells #[.slice A3 K c3, .int .i64 K] 45 (0, 0))) := (show Hid _ from by show _ = _; rw [ew13, eY]; exact heap_alloc_new w12 _)
    have HB1213 : Hid (Below w12.heap.size w12 w13) := (show Hid _ from by rw [ew13]; exact (Below.refl _ w12).alloc (Nat.le_refl _) _)
    have HB1113 : Hid (Below w11.heap.size w11 w13) := HB1112.out.trans (HB1213.out.mono HB1112.out.size)
    have HF13 : Hid (w13.heap[F]? = some (.cells #[.int .i64 P] 31 (0, 0))) := (show Hid _ from (HB1113.out.block F (heap_of_cells HF11.out)).trans HF11.out)
    have HP13 : Hid (w13.heap[F + 1]? = some (.cells #[.int .i64 n, .int .i64 t, .int .i64 G] 29 (0, 0))) := (show Hid _ from (HB1113.out.block (F + 1) (heap_of_cells HP11.out)).trans HP11.out)
    have HX13 : Hid (w13.heap[X]? = some (.cells #[.slice A2 K c2, .int .i64 K] 45 (0, 0))) := (show Hid _ from (HB1113.out.block X (heap_of_cells HX11.out)).trans HX11.out)
    have HSX := Lib.hid ((HS10.out.below HB1011.out).below HB1113.out)
    have HSY := Lib.hid (HS12.out.below HB1213.out)
    have HQX := Lib.hid ((HQ10.out.below HB1011.out).below HB1113.out)
    have HQY := Lib.hid (HQ12.out.below HB1213.out)
    have HBw13 : Hid (Below w.heap.size w w13) := HBw9.out.trans ((HB911.out.trans (HB1113.out.mono HB911.out.size)).mono HBw9.out.size)
    have HTS : Hid (∀ W va vb, SI W va ns → SI W vb ns → Calls Tryz.prog 28 #[.agg #[va, .int .i64 K], .agg #[vb, .int .i64 K]] W fun e w' => e = .returned (.bool true) ∧ Below W.heap.size W w') := (show Hid _ from fun W va vb h1 h2 => (tsame_any K K ns ns va vb W h1 h2).mono fun e w' ⟨h3, h4⟩ => ⟨h3.trans (by unfold tsB; rw [decide_eq_true ⟨rfl, rfl⟩]), h4⟩)
    have HYY := Lib.hid eY
    go_upto_region 13 with fail
    rw [HW13.out, ← eY]
    clear ew13 eY
    have hKi : (m : Int) * (t : Int) = (K : Int) := by rw [HKM.out, Int.natCast_mul]
    have hKr := HKb.out
    have wmt : IntKind.i64.wrap ((m : Int) * (t : Int)) = (K : Int) := by rw [hKi]; exact IntWalk.i64_in _ (by omega)
    clear hKi hKr
    have f0 : w13.cell? ⟨F, 0, none⟩ = some (.int .i64 P) := cell_of_row w13 F 0 _ _ _ HF13.out
    have p0 : w13.cell? ⟨F + 1, 0, none⟩ = some (.int .i64 n) := cell_of_row w13 (F + 1) 0 _ _ _ HP13.out
    have p1 : w13.cell? ⟨F + 1, 1, none⟩ = some (.int .i64 t) := cell_of_row w13 (F + 1) 1 _ _ _ HP13.out
    have x0 : w13.cell? ⟨X, 0, none⟩ = some (.slice A2 K c2) := cell_of_row w13 X 0 _ _ _ HX13.out
    have x1 : w13.cell? ⟨X, 1, none⟩ = some (.int .i64 K) := cell_of_row w13 X 1 _ _ _ HX13.out
    have y0 : w13.cell? ⟨Y, 0, none⟩ = some (.slice A3 K c3) := cell_of_row w13 Y 0 _ _ _ HY13.out
    have y1 : w13.cell? ⟨Y, 1, none⟩ = some (.int .i64 K) := cell_of_row w13 Y 1 _ _ _ HY13.out
    go_wp2_with fail
    (with_reducible refine (HTS.out w13 _ _ HSX.out HSY.out).mono ?_)
    rintro e w14 ⟨rfl, hb14⟩
    have HB14 := Lib.hid hb14
    have HBw14 : Hid (Below w.heap.size w w14) := HBw13.out.trans (hb14.mono HBw13.out.size)
    have HF14 : Hid (w14.heap[F]? = some (.cells #[.int .i64 P] 31 (0, 0))) := (show Hid _ from (hb14.block F (heap_of_cells HF13.out)).trans HF13.out)
    have hm0 : 0 < m := by omega
    have hn0 : 0 < n := by omega
    obtain ⟨bq, oq, eAq, hcq⟩ := sle_el (HQX.out.below HB14.out) (by omega) hm0
    obtain ⟨br, orr, eAr, hcr⟩ := sle_el (HQY.out.below HB14.out) (by omega) hm0
    subst eAq eAr
    have HRQ := Lib.hid hcq
    have HRR := Lib.hid hcr
    clear hb14 hcq hcr f0 p0 p1 x0 x1 y0 y1
    have f0 : w14.cell? ⟨F, 0, none⟩ = some (.int .i64 P) := cell_of_row w14 F 0 _ _ _ HF14.out
    go_wp2_with fail
    go_loopw [119] (fun iv wr => ∃ j : Nat, j ≤ n ∧ iv = .int .i64 j ∧ w14 = wr) (fun iv _ => n - (intOf iv).toNat)
    case atStart => exact ⟨0, Nat.zero_le _, rfl, rfl⟩
    case round =>
      obtain ⟨j, hj, rfl, rfl⟩ := hrel
      by_cases hlj : j < n
      · have dj : decide (j < n) = true := decide_eq_true hlj
        obtain ⟨b2, o2, d2, cq2, hcq2⟩ := HRQ.out j hlj
        obtain ⟨b3, o3, d3, cr3, hcr3⟩ := HRR.out j hlj
        have HCQ := Lib.hid hcq2
        have HCR := Lib.hid hcr3
        clear hcq2 hcr3
        go_wp2_with fail
        go_loopw [143] (fun iv wr => ∃ q : Nat, q ≤ m ∧ iv = .int .i64 q ∧ w14 = wr) (fun iv _ => m - (intOf iv).toNat)
        case atStart => exact ⟨0, Nat.zero_le _, rfl, rfl⟩
        case round =>
          obtain ⟨q, hq, rfl, rfl⟩ := hrel
          by_cases hlq : q < m
          · have dq : decide (q < m) = true := decide_eq_true hlq
            have cx := HCQ.out q hlq
            have cy := HCR.out q hlq
            have hel := gsh_el (P := P) hPb.1 ns t G q i k ((j : Int) + 1)
            have hxb := gPt_bd (P := P) hPb.1 i ns t G q ((j : Int) + 1)
            obtain ⟨x, ex⟩ : ∃ x, x = gPt P i ns t G q ((j : Int) + 1) := ⟨_, rfl⟩
            obtain ⟨y, ey⟩ : ∃ y, y = gPt P k ns t G q ((j : Int) + 1) := ⟨_, rfl⟩
            rw [← ex] at cx hel hxb
            rw [← ey] at cy hel
            have hP0 : ¬ P = 0 := by omega
            clear ex ey
            by_cases hik : i = k
            · subst hik
              have hyx : y = x := by rw [hel]; simp
              subst hyx
              clear hel
              go_wp2_with fail
              go_roundw
              case rel => exact ⟨q + 1, by omega, by go_num, by simp⟩
              case measure => simp [intOf]; omega
            · have e1 : ((i : Int) != (k : Int)) = true := by rw [bne_iff_ne]; omega
              have e2 : (i != k) = true := by rw [bne_iff_ne]; omega
              have e3 : ((i : Int) == (k : Int)) = false := by rw [beq_eq_false_iff_ne]; omega
              have e4 : (i == k) = false := by rw [beq_eq_false_iff_ne]; omega
              by_cases hqi : q = i
              · have hyx : (x + P - 1) % P = y := by rw [hel, if_neg (fun h => hik (by omega)), if_pos ⟨hik, hqi⟩]
                have w1_ : IntKind.i64.wrap (x + P) = x + P := by exact IntWalk.i64_in _ (by omega)
                have w2_ : IntKind.i64.wrap (x + P - 1) = x + P - 1 := by exact IntWalk.i64_in _ (by omega)
                have w3_ : (x + P - 1).tmod P = y := by rw [Int.tmod_eq_emod_of_nonneg (by omega)]; exact hyx
                subst hqi
                clear hel hyx
                go_wp2_with fail
                go_roundw
                case rel => exact ⟨q + 1, by omega, by go_num, by simp⟩
                case measure => simp [intOf]; omega
              · have e5 : ((q : Int) == (i : Int)) = false := by rw [beq_eq_false_iff_ne]; omega
                have e6 : (q == i) = false := by rw [beq_eq_false_iff_ne]; omega
                by_cases hqk : q = k
                · have hyx : (x + 1) % P = y := by rw [hel, if_pos ⟨hik, hqk⟩, if_neg (fun h => hqi h.2)]
                  have w1_ : IntKind.i64.wrap (x + 1) = x + 1 := by exact IntWalk.i64_in _ (by omega)
                  have w3_ : (x + 1).tmod P = y := by rw [Int.tmod_eq_emod_of_nonneg (by omega)]; exact hyx
                  subst hqk
                  clear hel hyx
                  go_wp2_with fail
                  go_roundw
                  case rel => exact ⟨q + 1, by omega, by go_num, by simp⟩
                  case measure => simp [intOf]; omega
                · have e7 : ((q : Int) == (k : Int)) = false := by rw [beq_eq_false_iff_ne]; omega
                  have e8 : (q == k) = false := by rw [beq_eq_false_iff_ne]; omega
                  have hyx : y = x := by rw [hel, if_neg (fun h => hqk h.2), if_neg (fun h => hqi h.2)]
                  subst hyx
                  clear hel
                  go_wp2_with fail
                  go_roundw
                  case rel => exact ⟨q + 1, by omega, by go_num, by simp⟩
                  case measure => simp [intOf]; omega
          · have dq : decide (q < m) = false := decide_eq_false hlq
            go_wp2_with fail
            go_roundw
            case rel => exact ⟨j + 1, by omega, by go_num, by simp⟩
            case measure => simp [intOf]; omega
      · have dj : decide (j < n) = false := decide_eq_false hlj
        go_wp2_with fail
        go_ret
        exact ⟨rfl, HBw14.out⟩
  · have d5 : decide (l.length ≤ 500) = false := decide_eq_false h5
    rw [d5]
    clear d5 h5
    go_wp2_with fail
    go_ret
    exact ⟨rfl, HB1.out⟩
end Go.Proofs.YtoiabanpnkpbhaaGreatDoor
