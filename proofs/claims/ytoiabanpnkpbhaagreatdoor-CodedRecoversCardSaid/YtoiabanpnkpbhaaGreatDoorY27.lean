/- Joined: Kq. -/
import Derived.Test.YtoiabanpnkpbhaaGreatDoorY09
import Derived.Test.YtoiabanpnkpbhaaGreatDoorY07
import Derived.Test.YtoiabanpnkpbhaaGreatDoorY24
import Derived.Test.YtoiabanpnkpbhaaGreatDoorY23
import Derived.Test.YtoiabanpnkpbhaaGreatDoorY26
namespace Go.Proofs.YtoiabanpnkpbhaaGreatDoor
open Go.RowKit

theorem al4g (w : World) (o1 o2 o3 o4 : Obj) : Hid (Below w.heap.size w ((((w.alloc o1).alloc o2).alloc o3).alloc o4)) ∧ ((((w.alloc o1).alloc o2).alloc o3).alloc o4).heap.size = w.heap.size + 4 ∧ Hid (((((w.alloc o1).alloc o2).alloc o3).alloc o4).heap[w.heap.size]? = some o1) ∧ Hid (((((w.alloc o1).alloc o2).alloc o3).alloc o4).heap[w.heap.size + 1]? = some o2) ∧ Hid (((((w.alloc o1).alloc o2).alloc o3).alloc o4).heap[w.heap.size + 2]? = some o3) ∧ Hid (((((w.alloc o1).alloc o2).alloc o3).alloc o4).heap[w.heap.size + 3]? = some o4) := by
  have h1 := heap_alloc_new w o1
  have h2 := heap_alloc_new (w.alloc o1) o2
  have h3 := heap_alloc_new ((w.alloc o1).alloc o2) o3
  have h4 := heap_alloc_new (((w.alloc o1).alloc o2).alloc o3) o4
  have s1 : (w.alloc o1).heap.size = w.heap.size + 1 := by simp
  have s2 : ((w.alloc o1).alloc o2).heap.size = w.heap.size + 2 := by simp
  have s3 : (((w.alloc o1).alloc o2).alloc o3).heap.size = w.heap.size + 3 := by simp
  rw [s1] at h2
  rw [s2] at h3
  rw [s3] at h4
  have b4 := fun k (hk : k < w.heap.size + 3) => Below.heap_alloc (((w.alloc o1).alloc o2).alloc o3) o4 k (by omega)
  have b3 := fun k (hk : k < w.heap.size + 2) => Below.heap_alloc ((w.alloc o1).alloc o2) o3 k (by omega)
  have b2 := fun k (hk : k < w.heap.size + 1) => Below.heap_alloc (w.alloc o1) o2 k (by omega)
  refine ⟨((((Below.refl _ w).alloc (Nat.le_refl _) _).alloc (by simp) _).alloc (by simp; omega) _).alloc (by simp; omega) _, by simp, ?_, ?_, ?_, h4⟩
  · exact (b4 _ (by omega)).trans ((b3 _ (by omega)).trans ((b2 _ (by omega)).trans h1))
  · exact (b4 _ (by omega)).trans ((b3 _ (by omega)).trans h2)
  · exact (b4 _ (by omega)).trans h3
def Gq1 (P : Int) (want : Nat) (D : List Int) (t G n m : Nat) (w3 : World) (v iv : Value) (wr : World) : Prop :=
  ∃ (k : Nat) (pv : Value) (vs : List Value) (rows : List (List Int)), pv = v ∧ k ≤ n ∧ iv = .int .i64 ((k : Int) + 1) ∧ rows = gRows P want D t G k m ∧ RO w3.heap.size wr pv vs rows ∧ Below w3.heap.size w3 wr
def Gq2 (P : Int) (want : Nat) (D : List Int) (t G k m : Nat) (wq : World) (v iv : Value) (wr : World) : Prop :=
  ∃ (q : Nat) (pv : Value) (ms : List Int), pv = v ∧ q ≤ m ∧ iv = .int .i64 q ∧ ms = gRow P want D t G k q ∧ wr.ownsRow wq.heap.size 3 1 pv ms.length (ms.map (Value.int .i64)) ∧ Below wq.heap.size wq wr
set_option maxRecDepth 100000 in
set_option maxHeartbeats 16000000 in
theorem gqueriesF_ok (P : Int) (n t G m K want : Nat) (ns : List Int) (v : Value) (w : World) (hV : SV P n t G) (hm : 1 ≤ m ∧ m ≤ 1000) (hwant : want < m) (hns : ns.length = K) (hK : K = m * t) (hel : els P ns = true) (h : SI w v ns) :
    Calls Tryz.prog 22 #[.agg #[.int .i64 P], .agg #[.int .i64 n, .int .i64 t, .int .i64 G], .int .i64 m, .int .i64 want, .agg #[v, .int .i64 0]] w fun e w' => ∃ Aq cq A2 c2, e = .returned (.tuple #[.slice Aq n cq, .agg #[.slice A2 K c2, .int .i64 K], .int .i64 0]) ∧ Below w.heap.size w w' ∧ (∀ g, g < w.heap.size → SLE g w' (.slice Aq n cq) (gRows P want ns t G n m)) ∧ SI w' (.slice A2 K c2) ns := by
  have HV := Lib.hid hV
  have hPb := hV.pb
  have hn := hV.n10
  have hnP := hV.nP
  have ht1 := hV.t1
  have hG1 := hV.G1
  have hsum := hV.sum
  have HS := Lib.hid h
  have HEL := Lib.hid hel
  have HNS := Lib.hid hns
  obtain ⟨A, cc, ev⟩ := h.form'
  rw [hns] at ev
  subst ev
  have hKc : ((m : Int) * (t : Int)) = (K : Int) := by rw [hK, Int.natCast_mul]
  have hKb : K ≤ 10000 := by rw [hK]; exact Nat.mul_le_mul hm.2 (show t ≤ 10 by omega)
  have hKw : IntKind.i64.wrap ((m : Int) * (t : Int)) = (K : Int) := by rw [hKc]; exact IntWalk.i64_in _ (by omega)
  have HKT : Hid (∀ q, q < m → q * t + t ≤ K) := (show Hid _ from fun q hq => by
    rw [hK]
    have h1 := Nat.mul_le_mul_right t (show q + 1 ≤ m by omega)
    rw [Nat.add_mul] at h1
    omega)
  have HDS : Hid (dsE ns 0 P K = 0) := (show Hid _ from by rw [← hns]; exact dsE_full hPb (by omega) hel)
  clear hK hKc hV h hel hns
  go_enter Tryz.func22, Tryz.ntmps22
  go_upto_region 1 with fail
  obtain ⟨wa, ew⟩ : ∃ wa : World, wa = (((w.alloc (.cells #[.int .i64 P] 31)).alloc (.cells #[.int .i64 n, .int .i64 t, .int .i64 G] 29)).alloc (.cells #[.slice A K cc, .int .i64 0] 45)).alloc (.cells #[.slice none 0 0, .int .i64 0] 45) := ⟨_, rfl⟩
  obtain ⟨HBa, hza, HF, HN, HT, HR⟩ : Hid (Below w.heap.size w wa) ∧ wa.heap.size = w.heap.size + 4 ∧ Hid (wa.heap[w.heap.size]? = some (.cells #[.int .i64 P] 31 (0, 0))) ∧ Hid (wa.heap[w.heap.size + 1]? = some (.cells #[.int .i64 n, .int .i64 t, .int .i64 G] 29 (0, 0))) ∧ Hid (wa.heap[w.heap.size + 2]? = some (.cells #[.slice A K cc, .int .i64 0] 45 (0, 0))) ∧ Hid (wa.heap[w.heap.size + 3]? = some (.cells #[.slice none 0 0, .int .i64 0] 45 (0, 0))) := by
    rw [ew]; exact al4g w _ _ _ _
  rw [← ew]
  clear ew
  obtain ⟨F, hF⟩ : ∃ F, w.heap.size = F := ⟨_, rfl⟩
  have HFF := Lib.hid hF
  rw [hF] at HF HN HT HR hza ⊢
  clear hF
  have cF0 : wa.cell? ⟨F, 0, none⟩ = some (.int .i64 P) := cell_of_row wa F 0 _ _ _ HF.out
  have cN0 : wa.cell? ⟨F + 1, 0, none⟩ = some (.int .i64 n) := cell_of_row wa (F + 1) 0 _ _ _ HN.out
  have cN1 : wa.cell? ⟨F + 1, 1, none⟩ = some (.int .i64 t) := cell_of_row wa (F + 1) 1 _ _ _ HN.out
  have cN2 : wa.cell? ⟨F + 1, 2, none⟩ = some (.int .i64 G) := cell_of_row wa (F + 1) 2 _ _ _ HN.out
  go_wp2_with fail
  (with_reducible refine (gcheck_ok P n t G m _ HV.out (by omega)).mono ?_)
  rintro e w1 ⟨rfl, hb1⟩
  have HBw : Hid (Below w.heap.size w w1) := HBa.out.trans (hb1.mono HBa.out.size)
  have HF1 : Hid (w1.heap[F]? = some (.cells #[.int .i64 P] 31 (0, 0))) := (hb1.block F (by omega)).trans HF.out
  have HN1 : Hid (w1.heap[F + 1]? = some (.cells #[.int .i64 n, .int .i64 t, .int .i64 G] 29 (0, 0))) := (hb1.block (F + 1) (by omega)).trans HN.out
  have HT1 : Hid (w1.heap[F + 2]? = some (.cells #[.slice A K cc, .int .i64 0] 45 (0, 0))) := (hb1.block (F + 2) (by omega)).trans HT.out
  have HR1 : Hid (w1.heap[F + 3]? = some (.cells #[.slice none 0 0, .int .i64 0] 45 (0, 0))) := (hb1.block (F + 3) (by omega)).trans HR.out
  have hz1 := hb1.size
  clear cF0 cN0 cN1 cN2 hb1
  have hw1 : decide ((want : Int) < 0) = false := decide_eq_false (by omega)
  have hw2 : decide ((m : Int) ≤ (want : Int)) = false := decide_eq_false (by omega)
  have hw3 : decide (m ≤ want) = false := decide_eq_false (by omega)
  have cF0 : w1.cell? ⟨F, 0, none⟩ = some (.int .i64 P) := cell_of_row w1 F 0 _ _ _ HF1.out
  have cN1 : w1.cell? ⟨F + 1, 1, none⟩ = some (.int .i64 t) := cell_of_row w1 (F + 1) 1 _ _ _ HN1.out
  have cT0 : w1.cell? ⟨F + 2, 0, none⟩ = some (.slice A K cc) := cell_of_row w1 (F + 2) 0 _ _ _ HT1.out
  have cT1 : w1.cell? ⟨F + 2, 1, none⟩ = some (.int .i64 0) := cell_of_row w1 (F + 2) 1 _ _ _ HT1.out
  have HS1 : Hid (SI w1 (.slice A K cc) ns) := HS.out.below HBw.out
  go_wp2_with fail
  (with_reducible refine (drawsO_any ns 0 P K _ _ HS1.out (by unfold i64r; omega)).mono ?_)
  rintro e w2 ⟨v1, a1, v2, rfl, hb2, hok, _⟩
  rw [HDS.out]
  obtain ⟨rfl, ⟨hs2, ho1⟩, ho2⟩ := hok HDS.out
  have HBw2 : Hid (Below w.heap.size w w2) := HBw.out.trans (hb2.mono (by have := HBw.out.size; omega))
  have HF2 : Hid (w2.heap[F]? = some (.cells #[.int .i64 P] 31 (0, 0))) := (hb2.block F (by omega)).trans HF1.out
  have HN2 : Hid (w2.heap[F + 1]? = some (.cells #[.int .i64 n, .int .i64 t, .int .i64 G] 29 (0, 0))) := (hb2.block (F + 1) (by omega)).trans HN1.out
  have HT2 : Hid (w2.heap[F + 2]? = some (.cells #[.slice A K cc, .int .i64 0] 45 (0, 0))) := (hb2.block (F + 2) (by omega)).trans HT1.out
  have HR2 : Hid (w2.heap[F + 3]? = some (.cells #[.slice none 0 0, .int .i64 0] 45 (0, 0))) := (hb2.block (F + 3) (by omega)).trans HR1.out
  have hz2 := hb2.size
  have hdn : (ns.drop ((0 : Int)).toNat).take ((K : Int)).toNat = ns := by rw [Int.toNat_natCast, ← HNS.out]; simp
  rw [hdn, HNS.out] at ho2
  obtain ⟨A2, k2, e2⟩ := hs2.form'
  rw [HNS.out] at e2
  subst e2
  obtain ⟨Ad, kd, e3⟩ := own_sl' ho2
  subst e3
  rw [HNS.out] at ho1
  have HO1 := Lib.hid ho1
  have HOD := Lib.hid ho2
  clear cF0 cN1 cT0 cT1 hok hb2 hs2 ho1 ho2 hdn
  have e0 : (0 : Int) + (K : Int) = (K : Int) := by omega
  rw [e0]
  clear e0
  have cT0 : w2.cell? ⟨F + 2, 0, none⟩ = some (.slice A K cc) := cell_of_row w2 (F + 2) 0 _ _ _ HT2.out
  have cT1 : w2.cell? ⟨F + 2, 1, none⟩ = some (.int .i64 0) := cell_of_row w2 (F + 2) 1 _ _ _ HT2.out
  have fT0 : w2.frozen? ⟨F + 2, 0, none⟩ = false := frozen_of_row w2 (F + 2) 0 _ _ HT2.out
  have fT1 : w2.frozen? ⟨F + 2, 1, none⟩ = false := frozen_of_row w2 (F + 2) 1 _ _ HT2.out
  obtain ⟨w3, ew3⟩ : ∃ w3 : World, w3 = (w2.setCell ⟨F + 2, 0, none⟩ (.slice A2 K k2)).setCell ⟨F + 2, 1, none⟩ (.int .i64 K) := ⟨_, rfl⟩
  have HW3 : Hid ((w2.setCell ⟨F + 2, 0, none⟩ (.slice A2 K k2)).setCell ⟨F + 2, 1, none⟩ (.int .i64 K) = w3) := ew3.symm
  go_upto_region 7 with fail
  rw [HW3.out]
  have hG3 : w2.grownBy w3 (some (F + 2)) := by rw [ew3]; exact grownBy_setCell (g := F + 2) (p := ⟨F + 2, 1, none⟩) (grownBy_setCell (g := F + 2) (p := ⟨F + 2, 0, none⟩) (grownBy_refl _ _) (.inl rfl) _) (.inl rfl) _
  have HB3 : Hid (Below w.heap.size w w3) := (show Hid _ from by rw [ew3]; exact (HBw2.out.setCell (by show _ ≤ F + 2; have := HFF.out; omega) _).setCell (by show _ ≤ F + 2; have := HFF.out; omega) _)
  have HF3 : Hid (w3.heap[F]? = some (.cells #[.int .i64 P] 31 (0, 0))) := (show Hid _ from (hG3.block F (by omega) (by simp)).trans HF2.out)
  have HN3 : Hid (w3.heap[F + 1]? = some (.cells #[.int .i64 n, .int .i64 t, .int .i64 G] 29 (0, 0))) := (show Hid _ from (hG3.block (F + 1) (by omega) (by simp)).trans HN2.out)
  have HT3 : Hid (w3.heap[F + 2]? = some (.cells #[.slice A2 K k2, .int .i64 K] 45 (0, 0))) := (show Hid _ from by show _ = _; rw [ew3]; exact store2 _ _ HT2.out)
  have HR3 : Hid (w3.heap[F + 3]? = some (.cells #[.slice none 0 0, .int .i64 0] 45 (0, 0))) := (show Hid _ from (hG3.block (F + 3) (by omega) (by simp)).trans HR2.out)
  have hz3 := hG3.size
  have HO13 : Hid (w3.ownsRow w1.heap.size 3 1 (.slice A2 K k2) K (ns.map (Value.int .i64))) := (show Hid _ from own_blk HO1.out fun b hb => hG3.block b (HO1.out.lt b hb).2 (by have := (HO1.out.lt b hb).1; simp; omega))
  have HS3 : Hid (SI w3 (.slice A2 K k2) ns) := (show Hid _ from by
    have h := HO13.out
    rw [← HNS.out] at h ⊢
    exact SI.of_own h (els_r hPb.2 HEL.out))
  have HO3 : Hid (w3.ownsRow w1.heap.size 3 1 (.slice Ad K kd) K (ns.map (Value.int .i64))) := (show Hid _ from own_blk HOD.out fun b hb => hG3.block b (HOD.out.lt b hb).2 (by have := (HOD.out.lt b hb).1; simp; omega))
  have HKP : Hid (1 ≤ K) := (show Hid _ from by have := HKT.out 0 (by omega); show 1 ≤ K; omega)
  obtain ⟨bd, kd', e4, hbd1, hbd2⟩ := own_form HO3.out HKP.out
  injection e4 with e4 e5 e6
  subst e4 e6
  have HDC : Hid (∀ W, Below w3.heap.size w3 W → ∀ lo, lo + t ≤ K → SI W (.slice (some ⟨bd, lo, none⟩) t (kd - lo)) ((ns.drop lo).take t)) := (show Hid _ from fun W hb lo hlo => by
    have hl : ((ns.drop lo).take t).length = t := by have := HNS.out; simp; omega
    have hkd : K ≤ kd ∧ kd ≤ 9223372036854775807 := by
      rcases HO3.out.2 with ⟨e, _⟩ | ⟨b', cap, cur, e, _, _, h1, h2, _⟩
      · cases e
      · injection e with _ _ e'
        subst e'
        exact ⟨h1, by simpa [maxLen] using h2⟩
    refine ⟨some ⟨bd, lo, none⟩, kd - lo, by rw [hl], by rw [hl]; omega, by omega, fun x hx => el_r hPb.2 (els_all HEL.out x (List.mem_of_mem_drop (List.mem_of_mem_take hx))), fun _ => ⟨bd, lo, rfl, Nat.lt_of_lt_of_le hbd2 hb.size, fun j hj => ?_⟩⟩
    have h1 := HO3.out.cellAt (lo + j) (by omega)
    rw [hb.cell (p := ⟨bd, lo + j, none⟩) hbd2, h1]
    have hj' : lo + j < ns.length := by have := HNS.out; omega
    simp [hj'])
  have hkd : K ≤ kd ∧ kd ≤ 9223372036854775807 := by
    rcases HO3.out.2 with ⟨e, _⟩ | ⟨b', cap, cur, e, _, _, h1, h2, _⟩
    · cases e
    · injection e with _ _ e'
      subst e'
      exact ⟨h1, by simpa [maxLen] using h2⟩
  clear ew3 hG3 cT0 cT1 fT0 fT1 e5
  have HGZ : Hid (∀ g, g < w.heap.size → g < w3.heap.size) := (show Hid _ from fun g hg => by have := HFF.out; omega)
  have cF0 : w3.cell? ⟨F, 0, none⟩ = some (.int .i64 P) := cell_of_row w3 F 0 _ _ _ HF3.out
  go_wp2_with fail
  have HCN : Hid (∀ W, Below w3.heap.size w3 W → W.cell? ⟨F + 1, 0, none⟩ = some (.int .i64 n) ∧ W.cell? ⟨F + 1, 1, none⟩ = some (.int .i64 t) ∧ W.cell? ⟨F + 1, 2, none⟩ = some (.int .i64 G)) := (show Hid _ from fun W hb => by
    have h := (hb.block (F + 1) (heap_of_cells HN3.out)).trans HN3.out
    exact ⟨cell_of_row W (F + 1) 0 _ _ _ h, cell_of_row W (F + 1) 1 _ _ _ h, cell_of_row W (F + 1) 2 _ _ _ h⟩)
  clear cF0
  go_loopw [17, 18] (fun v iv wr => Gq1 P want ns t G n m w3 v iv wr) (fun _ iv _ => (n + 1) - (intOf iv).toNat)
  case atStart => exact ⟨0, _, [], [], rfl, Nat.zero_le _, rfl, rfl, RO.nil _ _, Below.refl _ _⟩
  case round =>
    obtain ⟨k, pv, vs, rows, rfl, hk, rfl, hrows, hrw, hb⟩ := hrel
    have HRW := Lib.hid hrw
    have HB := Lib.hid hb
    have HRO := Lib.hid hrows
    have hvn : vs.length ≤ 100 := by have h1 := hrw.len; rw [hrows, gRows_len] at h1; omega
    obtain ⟨cN0, cN1, cN2⟩ := HCN.out wr hb
    have HZ : Hid (w3.heap.size ≤ wr.heap.size) := hb.size
    clear hrw hb hrows
    by_cases hlk : k < n
    · have dk : decide ((k : Int) + 1 ≤ (n : Int)) = true := decide_eq_true (by omega)
      obtain ⟨wq, rfl⟩ : ∃ wq : World, wq = wr := ⟨_, rfl⟩
      go_wp2_with fail
      clear cN0 cN1 cN2
      go_loopw [19, 63] (fun v iv wr => Gq2 P want ns t G k m wq v iv wr) (fun _ iv _ => m - (intOf iv).toNat)
      case atStart => exact ⟨0, _, [], rfl, Nat.zero_le _, rfl, rfl, World.ownsRow_nil _ _ _ _, Below.refl _ _⟩
      case round =>
        obtain ⟨q, qv, ms, rfl, hq, rfl, hms, hown, hb2⟩ := hrel
        have HO := Lib.hid hown
        have HB2 := Lib.hid hb2
        have HMS := Lib.hid hms
        have hml : ms.length = q := by rw [hms, gRow_len]
        have HML := Lib.hid hml
        have hml' : ms.length ≤ 1000 := by omega
        have hzr : wq.heap.size ≤ wr.heap.size := hb2.size
        have HBr : Hid (Below w3.heap.size w3 wr) := HB.out.trans (hb2.mono HZ.out)
        obtain ⟨cN0, cN1, cN2⟩ := HCN.out wr HBr.out
        clear hown hb2 hms hml
        by_cases hlq : q < m
        · have dq : decide (q < m) = true := decide_eq_true hlq
          obtain ⟨lo, elo⟩ : ∃ lo, lo = q * t := ⟨_, rfl⟩
          have hlo : lo + t ≤ K := by rw [elo]; exact HKT.out q hlq
          have l1 : (q : Int) * (t : Int) = (lo : Int) := by rw [elo, Int.natCast_mul]
          have l2 : ((q : Int) + 1) * (t : Int) = ((lo + t : Nat) : Int) := by rw [Int.add_mul, l1]; omega
          have m1 : IntKind.i64.wrap ((q : Int) * (t : Int)) = (lo : Int) := by rw [l1]; exact IntWalk.i64_in _ (by omega)
          obtain ⟨hi, ehi⟩ : ∃ hi, hi = lo + t := ⟨_, rfl⟩
          have m2 : IntKind.i64.wrap (((q : Int) + 1) * (t : Int)) = (hi : Int) := by rw [l2, ← ehi]; exact IntWalk.i64_in _ (by omega)
          have m3 : IntKind.i64.wrap ((q : Int) + 1) = (q : Int) + 1 := by exact IntWalk.i64_in _ (by omega)
          have hjP : 0 ≤ (k : Int) + 1 ∧ (k : Int) + 1 < P := by omega
          obtain ⟨pw_, epw⟩ : ∃ x, x = ((k : Int) + 1) ^ G % P := ⟨_, rfl⟩
          obtain ⟨vl, evl⟩ : ∃ x, x = val P ((ns.drop lo).take t) ((k : Int) + 1) := ⟨_, rfl⟩
          have hpwb : 0 ≤ pw_ ∧ pw_ < P := by rw [epw]; exact ⟨Int.emod_nonneg _ (by omega), Int.emod_lt_of_pos _ (by omega)⟩
          have hvlb : 0 ≤ vl ∧ vl < P := by rw [evl, val_ez]; exact ⟨Int.emod_nonneg _ (by omega), Int.emod_lt_of_pos _ (by omega)⟩
          have HPT : Hid (gPt P want ns t G q ((k : Int) + 1) = if (q : Int) = (want : Int) then (pw_ * vl % P + 1) % P else pw_ * vl % P) := (show Hid _ from by
            show _ = _
            unfold gPt gSl
            rw [epw, evl, elo])
          have HPW : Hid (∀ W, Calls Tryz.prog 50 #[.int .i64 P, .int .i64 ((k : Int) + 1), .int .i64 G] W fun e w' => e = .returned (.int .i64 pw_) ∧ W = w') := (show Hid _ from fun W => (power_any P ((k : Int) + 1) G W hPb hjP (by omega)).mono fun e w' ⟨h1, h2⟩ => ⟨by rw [h1, epw], h2⟩)
          have HVA : Hid (∀ W, Below w3.heap.size w3 W → Calls Tryz.prog 54 #[.int .i64 P, .slice (some ⟨bd, lo, none⟩) (hi - lo) (kd - lo), .int .i64 ((k : Int) + 1)] W fun e w' => e = .returned (.int .i64 vl) ∧ Below W.heap.size W w') := (show Hid _ from fun W hb => by
            have e7 : hi - lo = t := by omega
            rw [e7]
            exact (value_any P ((k : Int) + 1) ((ns.drop lo).take t) _ W hPb hjP (els_of fun x hx => els_all HEL.out x (List.mem_of_mem_drop (List.mem_of_mem_take hx))) (by simp; omega) (HDC.out W hb lo hlo)).mono fun e w' ⟨h1, h2⟩ => ⟨by rw [h1, evl], h2⟩)
          have HBd : Hid (Below w3.heap.size w3 wr.drew) := (show Hid _ from HBr.out.drew)
          have z1 : (0 : Int) ≤ (lo : Int) := by omega
          have z2 : (lo : Int) ≤ (hi : Int) := by omega
          have z3 : (hi : Int) ≤ (kd : Int) := by omega
          have z4 : (0 : Int) ≤ (hi : Int) := by omega
          clear l1 l2 elo epw evl ehi
          go_upto_region 18 with fail
          go_region_held3 (fun w' => w'.cell? ⟨F + 1, 1, none⟩ = some (.int .i64 t) ∧ w'.cell? ⟨F + 1, 2, none⟩ = some (.int .i64 G)) (first | exact ⟨cN1, cN2⟩ | go_keep)
            (first
              | (go_at_call 50; refine (HPW.out _).mono ?_; rintro e9 w9 ⟨rfl, rfl⟩)
              | (go_at_call 54; refine (HVA.out _ (by first | exact HBr.out | exact HBd.out)).mono ?_; rintro e9 w9 ⟨rfl, hb9⟩; have HB9 : Hid (Below wr.heap.size wr w9) := (show Hid _ from ⟨hb9.os, hb9.tape, hb9.output, hb9.size, hb9.block⟩); obtain ⟨cN0, cN1, cN2⟩ := HCN.out w9 (HBr.out.trans (HB9.out.mono HBr.out.size)); clear hb9)
              | (go_at_call 53; refine (mul_any P _ _ _ hPb hpwb hvlb).mono ?_; rintro e9 w9' ⟨rfl, rfl⟩))
          all_goals
            by_cases hqw : q = want
            case' pos =>
              have b1 : ((q : Int) == (want : Int)) = true := by rw [beq_iff_eq]; omega
              have b2 : (q == want) = true := by rw [beq_iff_eq]; exact hqw
              have hx : 0 ≤ pw_ * vl % P ∧ pw_ * vl % P < P := ⟨Int.emod_nonneg _ (by omega), Int.emod_lt_of_pos _ (by omega)⟩
              obtain ⟨y, ey⟩ : ∃ y, y = (pw_ * vl % P + 1) % P := ⟨_, rfl⟩
              have HY : Hid (gRow P want ns t G k (q + 1) = ms ++ [y]) := (show Hid _ from by
                show _ = _
                rw [gRow_succ, ← HMS.out, HPT.out, if_pos (by omega), ey])
              have hyr : i64r y := by
                have : 0 ≤ y ∧ y < P := by rw [ey]; exact ⟨Int.emod_nonneg _ (by omega), Int.emod_lt_of_pos _ (by omega)⟩
                unfold i64r; omega
              obtain ⟨x, ex⟩ : ∃ x, x = pw_ * vl % P := ⟨_, rfl⟩
              rw [← ex] at hx ey
              first | rw [← ex] | skip
              have HEY : Hid ((x + 1) % P = y) := ey.symm
              clear ex ey hqw
              go_wp2_with fail
              (with_reducible refine (add_any P x 1 _ hPb hx ⟨by omega, by omega⟩).mono ?_)
              rintro e wz ⟨rfl, hwz⟩
              subst hwz
              rw [HEY.out]
            case' neg =>
              have b1 : ((q : Int) == (want : Int)) = false := by rw [beq_eq_false_iff_ne]; omega
              have b2 : (q == want) = false := by rw [beq_eq_false_iff_ne]; exact hqw
              obtain ⟨y, ey⟩ : ∃ y, y = pw_ * vl % P := ⟨_, rfl⟩
              have HY : Hid (gRow P want ns t G k (q + 1) = ms ++ [y]) := (show Hid _ from by
                show _ = _
                rw [gRow_succ, ← HMS.out, HPT.out, if_neg (by omega), ey])
              have hyr : i64r y := by
                have : 0 ≤ y ∧ y < P := by rw [ey]; exact ⟨Int.emod_nonneg _ (by omega), Int.emod_lt_of_pos _ (by omega)⟩
                unfold i64r; omega
              first | rw [← ey] | skip
              clear ey hqw
          all_goals
            have HO9 : Hid (w9.ownsRow wq.heap.size 3 1 qv ms.length (ms.map (Value.int .i64))) := (show Hid _ from own_bel HO.out HB9.out)
            have HB29 : Hid (Below wq.heap.size wq w9) := (show Hid _ from HB2.out.trans (HB9.out.mono hzr))
            have hz9 : wq.heap.size ≤ w9.heap.size := HB29.out.size
            go_wp2_with (at_builtin; refine wpList_append_int1 _ rfl _ _ 22 rfl wq.heap.size 3 Tryz.underlying22 iinfo _ ms rfl HO9.out y rfl (by omega) hz9 ?_; intro v3 w3z hown3 hg3; have HOz := Lib.hid hown3; have HGz := Lib.hid hg3; clear hown3 hg3)
            go_roundw
            case rel => exact ⟨q + 1, _, ms ++ [y], rfl, by omega, by go_num, HY.out.symm, HOz.out, (HB29.out.alloc hz9 _).grown HGz.out (by simp; omega) (fun b' hb' => (HO9.out.lt b' hb').1)⟩
            case measure => simp [intOf]; omega
        · have dq : decide (q < m) = false := decide_eq_false hlq
          have hqm : q = m := by omega
          have HME : Hid (ms = gRow P want ns t G k m) := (show Hid _ from by show _ = _; rw [HMS.out, hqm])
          have HMEL : Hid (els P ms = true) := (show Hid _ from by rw [HME.out]; exact gRow_els hPb.1 ..)
          obtain ⟨A1, c1, e1⟩ := own_sl' HO.out
          subst e1
          have HRWr : Hid (RO w3.heap.size wr pv vs rows) := (show Hid _ from HRW.out.below HB2.out)
          have HOW : Hid (wr.ownsRow w3.heap.size 3 1 (.slice A1 ms.length c1) ms.length (ms.map (Value.int .i64))) := (show Hid _ from own_lo HO.out HZ.out)
          have HAP : Hid (∀ b', (Value.slice A1 ms.length c1).ownBlock = some b' → pv.ownBlock ≠ some b') := (show Hid _ from fun b' h1 h2 => by
            have h3 := (HO.out.lt b' h1).1
            have h4 := (HRW.out.hdr.lt b' h2).2
            omega)
          have hwz : w3.heap.size ≤ wr.heap.size := HBr.out.size
          obtain ⟨n1, en1⟩ : ∃ n1, n1 = ms.length := ⟨_, rfl⟩
          have HEN := Lib.hid en1
          rw [← en1] at ⊢
          clear en1 hqm hlq cN0 cN1 cN2
          go_wp2_with (at_builtin; refine wpList_append_one_at _ rfl _ _ 33 rfl w3.heap.size 22 (.slice none 0 0) 24 Tryz.underlying33 ilinfo pv vs.length vs rfl (HRWr.out.hdr.alloc _) (.slice A1 n1 c1) rfl wr.heap.size rfl (cells_new wr [.slice A1 n1 c1] 22 0 _ rfl) (by omega) (by omega) rfl (by simp; omega) ?_; intro g9 cap9 w9 hown9 hg9 hat9; have HO9 := Lib.hid hown9; have HG9 := Lib.hid hg9; have HA9 := Lib.hid hat9; clear hown9 hg9 hat9)
          have HRW9 : Hid (RO w3.heap.size w9 (.slice (some ⟨g9, 0, none⟩) (vs.length + 1) cap9) (vs ++ [.slice A1 n1 c1]) (rows ++ [ms])) := (show Hid _ from
            HRWr.out.app (by rw [HEN.out]; exact HOW.out) (by rw [HEN.out]; exact HAP.out) HO9.out HG9.out (HA9.out.imp id fun e => Nat.le_of_eq e.symm))
          go_roundw
          case rel =>
            refine ⟨k + 1, _, _, rows ++ [ms], rfl, by omega, by go_num, ?_, HRW9.out, ?_⟩
            · rw [HRO.out, HME.out, gRows_succ]
            · exact (HBr.out.alloc hwz _).grown HG9.out (by simp; omega) (fun b' hb' => (HRWr.out.hdr.lt b' hb').1)
          case measure => simp [intOf]; omega
    · have dk : decide ((k : Int) + 1 ≤ (n : Int)) = false := decide_eq_false (by omega)
      have hkn : n = k := by omega
      have hrl : vs.length = k := by rw [HRW.out.len, HRO.out, gRows_len]
      obtain ⟨A5, c5, e5⟩ := own_slice HRW.out.hdr
      rw [hrl] at e5
      subst e5
      have HTr : Hid (wr.heap[F + 2]? = some (.cells #[.slice A2 K k2, .int .i64 K] 45 (0, 0))) := (show Hid _ from (HB.out.block (F + 2) (heap_of_cells HT3.out)).trans HT3.out)
      have HRr : Hid (wr.heap[F + 3]? = some (.cells #[.slice none 0 0, .int .i64 0] 45 (0, 0))) := (show Hid _ from (HB.out.block (F + 3) (heap_of_cells HR3.out)).trans HR3.out)
      have cT0 : wr.cell? ⟨F + 2, 0, none⟩ = some (.slice A2 K k2) := cell_of_row wr (F + 2) 0 _ _ _ HTr.out
      have cT1 : wr.cell? ⟨F + 2, 1, none⟩ = some (.int .i64 K) := cell_of_row wr (F + 2) 1 _ _ _ HTr.out
      have cR0 : wr.cell? ⟨F + 3, 0, none⟩ = some (.slice none 0 0) := cell_of_row wr (F + 3) 0 _ _ _ HRr.out
      have cR1 : wr.cell? ⟨F + 3, 1, none⟩ = some (.int .i64 0) := cell_of_row wr (F + 3) 1 _ _ _ HRr.out
      have fR0 : wr.frozen? ⟨F + 3, 0, none⟩ = false := frozen_of_row wr (F + 3) 0 _ _ HRr.out
      have fR1 : wr.frozen? ⟨F + 3, 1, none⟩ = false := frozen_of_row wr (F + 3) 1 _ _ HRr.out
      have HBf : Hid (Below w.heap.size w wr) := (show Hid _ from HB3.out.trans (HB.out.mono HB3.out.size))
      clear hrl hlk
      subst hkn
      go_upto_region 24 with fail
      go_region_held3 (fun w' => w'.cell? ⟨F + 2, 0, none⟩ = some (.slice A2 K k2) ∧ w'.cell? ⟨F + 2, 1, none⟩ = some (.int .i64 K)) (first | exact ⟨cT0, cT1⟩ | go_keep) (fail)
      all_goals
        go_wp2_with fail
        have HW := store2 (.slice A2 K k2) (.int .i64 K) HRr.out
        have q0 := cell_of_row _ (F + 3) 0 _ _ _ HW
        have q1 := cell_of_row _ (F + 3) 1 _ _ _ HW
        simp only [List.getElem?_toArray, List.getElem?_cons_zero, List.getElem?_cons_succ] at q0 q1
        have hFw : w.heap.size ≤ F := by have := HFF.out; omega
        have hzr := HB.out.size
        have HBe : Hid (Below w.heap.size w ((wr.setCell ⟨F + 3, 0, none⟩ (.slice A2 K k2)).setCell ⟨F + 3, 1, none⟩ (.int .i64 K))) := (show Hid _ from (HBf.out.setCell (by show _ ≤ F + 3; omega) _).setCell (by show _ ≤ F + 3; omega) _)
        have HSe : Hid (SI ((wr.setCell ⟨F + 3, 0, none⟩ (.slice A2 K k2)).setCell ⟨F + 3, 1, none⟩ (.int .i64 K)) (.slice A2 K k2) ns) := (show Hid _ from by
          have h := own_set3 (own_set3 (own_bel HO13.out HB.out) (p := ⟨F + 3, 0, none⟩) (by show F + 3 < _; omega) (.slice A2 K k2)) (p := ⟨F + 3, 1, none⟩) (by show F + 3 < _; omega) (.int .i64 K)
          rw [← HNS.out] at h ⊢
          exact SI.of_own h (els_r hPb.2 HEL.out))
        have HQe : Hid (∀ g, g < w.heap.size → SLE g ((wr.setCell ⟨F + 3, 0, none⟩ (.slice A2 K k2)).setCell ⟨F + 3, 1, none⟩ (.int .i64 K)) (.slice A5 n c5) (gRows P want ns t G n m)) := (show Hid _ from fun g hg => by
          have h1 : RO w3.heap.size ((wr.setCell ⟨F + 3, 0, none⟩ (.slice A2 K k2)).setCell ⟨F + 3, 1, none⟩ (.int .i64 K)) (.slice A5 n c5) vs rows := HRW.out.keep fun b' hb' _ => (heap_setCell_other _ ⟨F + 3, 1, none⟩ b' _ (by show b' ≠ F + 3; omega)).trans (heap_setCell_other _ ⟨F + 3, 0, none⟩ b' _ (by show b' ≠ F + 3; omega))
          rw [HRO.out] at h1
          exact h1.sle (HGZ.out g hg) fun p hp x hx => by
            obtain ⟨q', _, rfl⟩ := List.mem_map.1 hp
            exact els_r hPb.2 (gRow_els hPb.1 ..) x hx)
        refine bodyPost_ret (v := .tuple #[.slice A5 n c5, .agg #[.slice A2 K k2, .int .i64 K], .int .i64 0]) (by simp [results, Tryz.results22, go_sem, q0, q1]) rfl ⟨_, _, _, _, rfl, ?_, ?_, ?_⟩
        · first | exact HBe.out | exact HBe.out.drew
        · first | exact HQe.out | exact fun g hg => (HQe.out g hg).below (Below.refl _ _).drew
        · first | exact HSe.out | exact HSe.out.below (Below.refl _ _).drew
theorem gqueries_ok (P : Int) (n t G m K want g : Nat) (ns : List Int) (v : Value) (w : World) (hV : SV P n t G) (hm : 1 ≤ m ∧ m ≤ 1000) (hwant : want < m) (hns : ns.length = K) (hK : K = m * t) (hel : els P ns = true) (h : SI w v ns) (hg : g < w.heap.size) :
    Calls Tryz.prog 22 #[.agg #[.int .i64 P], .agg #[.int .i64 n, .int .i64 t, .int .i64 G], .int .i64 m, .int .i64 want, .agg #[v, .int .i64 0]] w fun e w' => ∃ Aq cq A2 c2, e = .returned (.tuple #[.slice Aq n cq, .agg #[.slice A2 K c2, .int .i64 K], .int .i64 0]) ∧ Below w.heap.size w w' ∧ SLE g w' (.slice Aq n cq) (gRows P want ns t G n m) ∧ SI w' (.slice A2 K c2) ns :=
  (gqueriesF_ok P n t G m K want ns v w hV hm hwant hns hK hel h).mono fun _ _ ⟨Aq, cq, A2, c2, h1, h2, h3, h4⟩ => ⟨Aq, cq, A2, c2, h1, h2, h3 g hg, h4⟩
end Go.Proofs.YtoiabanpnkpbhaaGreatDoor
