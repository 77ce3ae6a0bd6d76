/- Joined: Ke. -/
import Derived.Deep.RegionLaw
import Derived.Test.YtoiabanpnkpbhaaGreatDoorY14
import Derived.Test.YtoiabanpnkpbhaaGreatDoorY04
namespace Go.Proofs.YtoiabanpnkpbhaaGreatDoor
open Go.RowKit

def KeP (P : Int) (a e : Nat) (K : List (Int × Int)) (w : World) (en : Ending) (w' : World) : Prop :=
  ∃ vc vr : Value, en = .returned (.tuple #[.agg #[.int .i64 P, .int .i64 K.length, .int .i64 ((a + e : Nat) : Int), vc, vr], .int .i64 0]) ∧ Below w.heap.size w w' ∧ SI w' vc (kcl P a e K) ∧ SI w' vr (krl P e K)
def KO (O : Nat) (P : Int) (n C : Int) (vc vr : Value) (cl rl : List Int) (w : World) : Prop :=
  w.heap[O]? = some (.cells #[.int .i64 P, .int .i64 n, .int .i64 C, vc, vr] 162 (0, 0)) ∧ TwoR (O + 1) w vc cl vr rl
theorem KO.alloc {O : Nat} {P n C : Int} {vc vr : Value} {cl rl : List Int} {w : World} (h : KO O P n C vc vr cl rl w) (o : Obj) : KO O P n C vc vr cl rl (w.alloc o) :=
  ⟨(Below.heap_alloc w o O (heap_of_cells h.1)).trans h.1, h.2.alloc o⟩
theorem KO.below {O : Nat} {P n C : Int} {vc vr : Value} {cl rl : List Int} {w w' : World} (h : KO O P n C vc vr cl rl w) (hb : Below w.heap.size w w') : KO O P n C vc vr cl rl w' :=
  ⟨(hb.block O (heap_of_cells h.1)).trans h.1, own_bel h.2.1 hb, own_bel h.2.2.1 hb, h.2.2.2⟩
theorem KO.lt {O : Nat} {P n C : Int} {vc vr : Value} {cl rl : List Int} {w : World} (h : KO O P n C vc vr cl rl w) : O < w.heap.size := heap_of_cells h.1
theorem KO.cells {O : Nat} {P n C : Int} {vc vr : Value} {cl rl : List Int} {w : World} (h : KO O P n C vc vr cl rl w) :
    w.cell? ⟨O, 1, none⟩ = some (.int .i64 n) ∧ w.cell? ⟨O, 3, none⟩ = some vc ∧ w.cell? ⟨O, 4, none⟩ = some vr :=
  ⟨cell_of_row w O 1 _ _ _ h.1, cell_of_row w O 3 _ _ _ h.1, cell_of_row w O 4 _ _ _ h.1⟩
theorem KO.frozen {O : Nat} {P n C : Int} {vc vr : Value} {cl rl : List Int} {w : World} (h : KO O P n C vc vr cl rl w) (j : Nat) : w.frozen? ⟨O, j, none⟩ = false := frozen_of_row w O j _ _ h.1
theorem TwoR.set {B : Nat} {w : World} {v u : Value} {xs ys : List Int} (h : TwoR B w v xs u ys) {p : Addr} (hp : p.block < B) (x : Value) : TwoR B (w.setCell p x) v xs u ys := ⟨own_set3 h.1 hp x, own_set3 h.2.1 hp x, h.2.2⟩
theorem KO.app {O : Nat} {P n C : Int} {vc vr : Value} {cl rl more : List Int} {w w2 : World} {g cap : Nat} (h : KO O P n C vc vr cl rl w)
    (hown : w2.ownsRow (O + 1) 3 1 (.slice (some ⟨g, 0, none⟩) (cl ++ more).length cap) (cl ++ more).length ((cl ++ more).map (Value.int .i64))) (hg : w.grownBy w2 vc.ownBlock) (hat : vc.ownBlock = some g ∨ g = w.heap.size) :
    KO O P n C (.slice (some ⟨g, 0, none⟩) (cl ++ more).length cap) vr (cl ++ more) rl (w2.setCell ⟨O, 3, none⟩ (.slice (some ⟨g, 0, none⟩) (cl ++ more).length cap)) := by
  have h1 : w2.heap[O]? = w.heap[O]? := hg.block O h.lt (fun e => by have := (h.2.1.lt O e.symm).1; omega)
  refine ⟨?_, (h.2.app1 hown hg hat).set (Nat.lt_succ_self O) _⟩
  rw [heap_setCell_same w2 O 3 _ _ _ (h1.trans h.1)]; simp
theorem KO.appR {O : Nat} {P n C : Int} {vc vr : Value} {cl rl more : List Int} {w w2 : World} {g cap : Nat} (h : KO O P n C vc vr cl rl w)
    (hown : w2.ownsRow (O + 1) 3 1 (.slice (some ⟨g, 0, none⟩) (rl ++ more).length cap) (rl ++ more).length ((rl ++ more).map (Value.int .i64))) (hg : w.grownBy w2 vr.ownBlock) (hat : vr.ownBlock = some g ∨ g = w.heap.size) :
    KO O P n C vc (.slice (some ⟨g, 0, none⟩) (rl ++ more).length cap) cl (rl ++ more) (w2.setCell ⟨O, 4, none⟩ (.slice (some ⟨g, 0, none⟩) (rl ++ more).length cap)) := by
  have h1 : w2.heap[O]? = w.heap[O]? := hg.block O h.lt (fun e => by have := (h.2.2.1.lt O e.symm).1; omega)
  refine ⟨?_, ((h.2.swap.app1 hown hg hat).swap).set (Nat.lt_succ_self O) _⟩
  rw [heap_setCell_same w2 O 4 _ _ _ (h1.trans h.1)]; simp
theorem KO.row {O : Nat} {P n C : Int} {vc vr : Value} {cl rl : List Int} {w : World} (h : KO O P n C vc vr cl rl w) (n' : Int) : KO O P n' C vc vr cl rl (w.setCell ⟨O, 1, none⟩ (.int .i64 n')) := by
  refine ⟨?_, h.2.set (Nat.lt_succ_self O) _⟩
  rw [heap_setCell_same w O 1 _ _ _ h.1]; simp
def KeR (P C : Int) (l : List (Int × Bool)) (a e O : Nat) (w1 : World) (i : Value) (wr : World) : Prop :=
  ∃ (k : Nat) (vc vr : Value), k ≤ l.length ∧ i = .int .i64 k ∧ KO O P (kn (l.take k)).length C vc vr (kcl P a e (kn (l.take k))) (krl P e (kn (l.take k))) wr ∧ Below O w1 wr
/-- rounds of the loop over the powers -/
def Ke3 (P C x y : Int) (e O bc bp : Nat) (n : Int) (vr : Value) (CB RL : List Int) (w2 wu : World) (jv : Value) (wr : World) : Prop :=
  ∃ (j : Nat) (vc' : Value), j ≤ e ∧ jv = .int .i64 j ∧ KO O P n C vc' vr (CB ++ ngl P y (pw P x j)) RL wr ∧ Below O w2 wr ∧ wr.heap[bc]? = some (.cells #[.int .i64 y, .bool true] 140 (0, 0)) ∧ wr.heap[bp]? = wu.heap[bp]? ∧ vc'.ownBlock ≠ some bp ∧ vc'.ownBlock ≠ some bc ∧ wu.heap.size ≤ wr.heap.size
theorem ke3_step {P C x y : Int} {e O bc bp j : Nat} {n : Int} {vr vc' : Value} {CB CJ RL : List Int} {w2 wu wr w9 : World} {g9 cap9 : Nat} {s1 : Int} {o : Obj} (hj : j < e) (hCJ : CJ = CB ++ ngl P y (pw P x j)) (hs : ngl P y (pw P x (j + 1)) = ngl P y (pw P x j) ++ [s1])
    (h1 : KO O P n C vc' vr CJ RL wr) (h2 : Below O w2 wr) (h3 : wr.heap[bc]? = some (.cells #[.int .i64 y, .bool true] 140 (0, 0))) (h4 : wr.heap[bp]? = wu.heap[bp]?) (h5 : vc'.ownBlock ≠ some bp) (h6 : vc'.ownBlock ≠ some bc) (h7 : wu.heap.size ≤ wr.heap.size)
    (hbc : bc ≠ O) (hbp : bp ≠ O) (hbpu : bp < wu.heap.size)
    (hg : (wr.alloc o).grownBy w9 vc'.ownBlock) (ho : w9.ownsRow (O + 1) 3 1 (.slice (some ⟨g9, 0, none⟩) (CJ ++ [s1]).length cap9) (CJ ++ [s1]).length ((CJ ++ [s1]).map (Value.int .i64))) (ha : vc'.ownBlock = some g9 ∨ g9 = (wr.alloc o).heap.size) :
    Ke3 P C x y e O bc bp n vr CB RL w2 wu (.int .i64 ((j : Int) + 1)) (w9.setCell ⟨O, 3, none⟩ (.slice (some ⟨g9, 0, none⟩) (CJ.length + 1) cap9)) := by
  have hO := h1.lt
  have hKn := (h1.alloc o).app ho hg ha
  have hl1 : (CJ ++ [s1]).length = CJ.length + 1 := by simp
  rw [hl1] at hKn
  have hvl := h1.2.1.lt
  have hbcl : bc < wr.heap.size := heap_of_cells h3
  have hb9 : Below O w2 w9 := (h2.alloc (by omega) o).trans (below_grown hg (by simp; omega) (fun q hq => by have := (hvl q hq).1; omega))
  have hbp9 : w9.heap[bp]? = wr.heap[bp]? := (hg.block bp (by simp; omega) (fun e1 => h5 e1.symm)).trans (Below.heap_alloc wr _ bp (by omega))
  have hbc9 : w9.heap[bc]? = wr.heap[bc]? := (hg.block bc (by simp; omega) (fun e1 => h6 e1.symm)).trans (Below.heap_alloc wr _ bc hbcl)
  have hsz := hg.size
  simp at hsz
  refine ⟨j + 1, .slice (some ⟨g9, 0, none⟩) (CJ.length + 1) cap9, by omega, by simp, ?_, hb9.setCell (Nat.le_refl _) _, ?_, ?_, fun e1 => ?_, fun e1 => ?_, ?_⟩
  · rw [hs, ← List.append_assoc, ← hCJ]; exact hKn
  · exact (heap_setCell_other w9 _ bc _ (by show bc ≠ O; exact hbc)).trans (hbc9.trans h3)
  · exact (heap_setCell_other w9 _ bp _ (by show bp ≠ O; exact hbp)).trans (hbp9.trans h4)
  · have e2 : g9 = bp := by injection e1
    rcases ha with h | h
    · exact h5 (by rw [h, e2])
    · simp at h; omega
  · have e2 : g9 = bc := by injection e1
    rcases ha with h | h
    · exact h6 (by rw [h, e2])
    · simp at h; omega
  · have h3 : (w9.setCell ⟨O, 3, none⟩ (.slice (some ⟨g9, 0, none⟩) (CJ.length + 1) cap9)).heap.size = w9.heap.size := by simp [World.setCell]
    rw [h3]; omega
theorem ke_end {P C x y : Int} {l : List (Int × Bool)} {a e O i : Nat} {K0 : List (Int × Int)} {vr vc' : Value} {CJ RL : List Int} {w2 wr w9 : World} {g9 cap9 : Nat} {s1 : Int} {o : Obj} (hil : i < l.length)
    (hK : kn (l.take (i + 1)) = K0 ++ [(x, y)]) (hCJ : CJ = kcl P a e K0 ++ pw P x a ++ ngl P y (pw P x e)) (hRL : RL = krl P e K0) (hs : s1 = y * (x ^ e % P) % P)
    (h1 : KO O P K0.length C vc' vr CJ RL wr) (h2 : Below O w2 wr)
    (hg : (wr.alloc o).grownBy w9 vr.ownBlock) (ho : w9.ownsRow (O + 1) 3 1 (.slice (some ⟨g9, 0, none⟩) (RL ++ [s1]).length cap9) (RL ++ [s1]).length ((RL ++ [s1]).map (Value.int .i64))) (ha : vr.ownBlock = some g9 ∨ g9 = (wr.alloc o).heap.size) :
    (w9.setCell ⟨O, 4, none⟩ (.slice (some ⟨g9, 0, none⟩) (RL.length + 1) cap9)).cell? ⟨O, 1, none⟩ = some (.int .i64 K0.length) ∧ (w9.setCell ⟨O, 4, none⟩ (.slice (some ⟨g9, 0, none⟩) (RL.length + 1) cap9)).frozen? ⟨O, 1, none⟩ = false ∧
    KeR P C l a e O w2 (.int .i64 ((i : Int) + 1)) ((w9.setCell ⟨O, 4, none⟩ (.slice (some ⟨g9, 0, none⟩) (RL.length + 1) cap9)).setCell ⟨O, 1, none⟩ (.int .i64 ((K0.length : Int) + 1))) := by
  have hO := h1.lt
  have hKn := (h1.alloc o).appR ho hg ha
  have hl1 : (RL ++ [s1]).length = RL.length + 1 := by simp
  rw [hl1] at hKn
  have hvl := h1.2.2.1.lt
  have hb9 : Below O w2 w9 := (h2.alloc (by omega) o).trans (below_grown hg (by simp; omega) (fun q hq => by have := (hvl q hq).1; omega))
  refine ⟨hKn.cells.1, hKn.frozen 1, i + 1, vc', .slice (some ⟨g9, 0, none⟩) (RL.length + 1) cap9, by omega, by simp, ?_, (hb9.setCell (Nat.le_refl _) _).setCell (Nat.le_refl _) _⟩
  have h3 := hKn.row ((K0.length : Int) + 1)
  have h4 : ((K0 ++ [(x, y)]).length : Int) = (K0.length : Int) + 1 := by simp
  rw [hK, kcl_snoc, krl_snoc, h4]
  simp only []
  rw [← hCJ, ← hRL, ← hs]
  exact h3
set_option maxRecDepth 100000 in
set_option maxHeartbeats 8000000 in
theorem key_any (P : Int) (l : List (Int × Bool)) (k e : Nat) (v : Value) (w : World) (hp : prB P = true) (h : SCl w v l) (hz : l.length ≤ 32) (hlP : (l.length : Int) < P) (hv : ∀ j (h : j < l.length), l[j].2 = true → 0 ≤ l[j].1 ∧ l[j].1 < P) (hf : fiE P l k = 0) (hk : 1 ≤ k) (hke : k + 2 * e ≤ 32) :
    Calls Tryz.prog 129 #[.agg #[.int .i64 P], v, .int .i64 k, .int .i64 e] w (KeP P (k + e) e (kn l) w) := by
  have HP := Lib.hid hp
  have hP := prB_bd hp
  have hPi : i64r P := by unfold i64r; omega
  have HS := Lib.hid h
  have HF := Lib.hid hf
  have HV := Lib.hid hv
  obtain ⟨A, c, rfl⟩ := h.form
  clear hp h hf hv
  go_enter Tryz.func129, Tryz.ntmps129
  go_wp2_with fail
  obtain ⟨wa, ewa⟩ : ∃ wa : World, wa = (w.alloc (.cells #[.int .i64 P] 31)).alloc (.cells #[.int .i64 0, .int .i64 0, .int .i64 0, .slice none 0 0, .slice none 0 0] 162) := ⟨_, rfl⟩
  have HBa : Hid (Below w.heap.size w wa) := (show Hid _ from by rw [ewa]; exact ((Below.refl _ w).alloc (Nat.le_refl _) _).alloc (by simp) _)
  have HFa : Hid (wa.heap[w.heap.size]? = some (.cells #[.int .i64 P] 31 (0, 0))) := (show Hid _ from by
    show _ = _
    rw [ewa, Below.heap_alloc _ _ _ (by simp)]; exact heap_alloc_new w _)
  have HZa : Hid (wa.heap[w.heap.size + 1]? = some (.cells #[.int .i64 0, .int .i64 0, .int .i64 0, .slice none 0 0, .slice none 0 0] 162 (0, 0))) := (show Hid _ from by
    show _ = _
    rw [ewa]
    have := heap_alloc_new (w.alloc (.cells #[.int .i64 P] 31)) (.cells #[.int .i64 0, .int .i64 0, .int .i64 0, .slice none 0 0, .slice none 0 0] 162)
    simpa using this)
  have hsa : wa.heap.size = w.heap.size + 2 := by rw [ewa]; simp
  have HSa : Hid (SCl wa (.slice A l.length c) l) := (show Hid _ from HS.out.below HBa.out)
  have HWa : Hid ((w.alloc (.cells #[.int .i64 P] 31)).alloc (.cells #[.int .i64 0, .int .i64 0, .int .i64 0, .slice none 0 0, .slice none 0 0] 162) = wa) := ewa.symm
  have HFL := Lib.hid (fill_any P l k (.slice A l.length c) wa hPi HSa.out (by omega))
  clear ewa
  rw [HWa.out]
  (with_reducible refine HFL.out.mono ?_); rintro e' w1 ⟨v1, rfl, _, hb1⟩
  rw [HF.out]
  have hs1 : wa.heap.size ≤ w1.heap.size := hb1.size
  have f0 : w1.cell? ⟨w.heap.size, 0, none⟩ = some (.int .i64 P) := (hb1.cell (by show w.heap.size < wa.heap.size; omega)).trans (cell_of_row wa w.heap.size 0 _ _ _ HFa.out)
  have HZ1 : Hid (w1.heap[w.heap.size + 1]? = some (.cells #[.int .i64 0, .int .i64 0, .int .i64 0, .slice none 0 0, .slice none 0 0] 162 (0, 0))) := (show Hid _ from (hb1.block _ (by omega)).trans HZa.out)
  have HB1 : Hid (Below w.heap.size w w1) := (show Hid _ from HBa.out.trans (hb1.mono (by omega)))
  have HS1 : Hid (SCl w1 (.slice A l.length c) l) := (show Hid _ from HSa.out.below hb1)
  have HSA := Lib.hid hsa
  clear hb1 HFL hsa
  have d1 : decide ((e : Int) < 0) = false := decide_eq_false (by omega)
  have d2 : decide ((32 : Int) < (e : Int)) = false := decide_eq_false (by omega)
  have d3 : decide ((32 : Int) < (k : Int) + 2 * (e : Int)) = false := decide_eq_false (by omega)
  have f0' := f0
  go_wp2_with fail
  obtain ⟨O, eO⟩ : ∃ O, O = w1.heap.size := ⟨_, rfl⟩
  obtain ⟨C, eC⟩ : ∃ C : Int, C = (k : Int) + 2 * (e : Int) := ⟨_, rfl⟩
  obtain ⟨w2, ew2⟩ : ∃ w2 : World, w2 = w1.alloc (.cells #[.int .i64 P, .int .i64 0, .int .i64 C, .slice none 0 0, .slice none 0 0] 162) := ⟨_, rfl⟩
  have HK2 : Hid (KO O P 0 C (.slice none 0 0) (.slice none 0 0) [] [] w2) := (show Hid _ from by
    rw [ew2, eO]
    exact ⟨heap_alloc_new w1 _, World.ownsRow_nil _ _ _ _, World.ownsRow_nil _ _ _ _, fun k hk => by simp [Value.ownBlock] at hk⟩)
  have HB2 : Hid (Below w1.heap.size w1 w2) := (show Hid _ from by rw [ew2]; exact (Below.refl _ w1).alloc (Nat.le_refl _) _)
  have HW2 : Hid (w1.alloc (.cells #[.int .i64 P, .int .i64 0, .int .i64 ((k : Int) + 2 * (e : Int)), .slice none 0 0, .slice none 0 0] 162) = w2) := (show Hid _ from by show _ = _; rw [ew2, eC])
  have HB2w : Hid (Below w.heap.size w w2) := (show Hid _ from HB1.out.trans (HB2.out.mono HB1.out.size))
  have hOw : w.heap.size ≤ O := by rw [eO]; exact HB1.out.size
  have HS2 : Hid (SCl w2 (.slice A l.length c) l) := (show Hid _ from HS1.out.below HB2.out)
  have HEO := Lib.hid eO
  have HEC := Lib.hid eC
  rw [HW2.out, ← eO]
  clear ew2 eO eC f0 f0'
  go_loopw [59] (fun i wr => KeR P C l (k + e) e O w2 i wr) (fun i _ => l.length - (intOf i).toNat)
  case atStart => exact ⟨0, .slice none 0 0, .slice none 0 0, Nat.zero_le _, rfl, HK2.out, Below.refl _ _⟩
  case round =>
    obtain ⟨i, vc, vr, hi, rfl, hKO, hBel⟩ := hrel
    have HKO := Lib.hid hKO
    have HBel := Lib.hid hBel
    have HBw : Hid (Below w.heap.size w wr) := (show Hid _ from HB2w.out.trans (hBel.mono hOw))
    have hzr : w.heap.size ≤ wr.heap.size := HBw.out.size
    clear hKO hBel
    by_cases hil : i < l.length
    · obtain ⟨A', c', eA, _, _, _, ha⟩ := HS.out
      injection eA with eA1 eA2 eA3
      subst eA1
      obtain ⟨b, off, rfl, hb, hcell⟩ := ha (by omega)
      obtain ⟨c1, c2⟩ := hcell i hil
      have c1 := (HBw.out.cell (p := ⟨b, off + i * 2, none⟩) hb).trans c1
      have c2 := (HBw.out.cell (p := ⟨b, off + i * 2 + 1, none⟩) hb).trans c2
      have hbw : b < wr.heap.size := by omega
      have HKS := Lib.hid (kn_snoc l i hil)
      have HVy := HV.out i hil
      obtain ⟨y, ey⟩ : ∃ y, y = l[i].1 := ⟨_, rfl⟩
      rw [← ey] at c1 HVy
      have HEY := Lib.hid ey
      clear ha hcell eA2 eA3 ey
      cases hkb : l[i].2 with
      | false =>
        rw [hkb] at c2
        have HKS2 : Hid (kn (l.take (i + 1)) = kn (l.take i)) := (show Hid _ from by show _ = _; rw [HKS.out, hkb]; simp)
        have HKO2 : Hid (∀ o : Obj, KO O P (kn (l.take i)).length C vc vr (kcl P (k + e) e (kn (l.take i))) (krl P e (kn (l.take i))) (wr.alloc o)) := (show Hid _ from fun o => HKO.out.alloc o)
        have HBe2 : Hid (∀ o : Obj, Below O w2 (wr.alloc o)) := (show Hid _ from fun o => HBel.out.alloc (by have := HKO.out.lt; omega) o)
        clear hkb HVy
        go_wp2_with fail
        go_roundw
        case rel => exact ⟨i + 1, vc, vr, by omega, by go_num, by rw [HKS2.out]; exact HKO2.out _, HBe2.out _⟩
        case measure => simp [intOf]; omega
      | true =>
        rw [hkb] at c2
        obtain ⟨K0, eK0⟩ : ∃ K0, K0 = kn (l.take i) := ⟨_, rfl⟩
        have HKS2 : Hid (kn (l.take (i + 1)) = K0 ++ [((i : Int) + 1, y)]) := (show Hid _ from by show _ = _; rw [HKS.out, hkb, HEY.out, eK0]; simp)
        have hy := HVy hkb
        have hKl : K0.length ≤ 32 := by rw [eK0]; have := cnt_kn (l.take i); have h2 := cnt_le (l.take i); have : (l.take i).length ≤ 32 := by simp; omega
                                        omega
        rw [← eK0] at HKO
        obtain ⟨x, ex⟩ : ∃ x : Int, x = (i : Int) + 1 := ⟨_, rfl⟩
        have hx : 0 ≤ x ∧ x < P := by omega
        have HEX := Lib.hid ex
        have hx1 : x ≤ (i : Int) + 1 := by omega
        clear hkb HVy eK0 HKS ex
        obtain ⟨wq, ewq⟩ : ∃ wq : World, wq = wr.alloc (.cells #[.int .i64 y, .bool true] 140) := ⟨_, rfl⟩
        have HKOq : Hid (KO O P K0.length C vc vr (kcl P (k + e) e K0) (krl P e K0) wq) := (show Hid _ from by rw [ewq]; exact HKO.out.alloc _)
        have HBeq : Hid (Below O w2 wq) := (show Hid _ from by rw [ewq]; exact HBel.out.alloc (by have := HKO.out.lt; omega) _)
        have HCq : Hid (wq.heap[wr.heap.size]? = some (.cells #[.int .i64 y, .bool true] 140 (0, 0))) := (show Hid _ from by show _ = _; rw [ewq]; exact heap_alloc_new wr _)
        have hqs : wq.heap.size = wr.heap.size + 1 := by rw [ewq]; simp
        have HWQ : Hid (wr.alloc (.cells #[.int .i64 y, .bool true] 140) = wq) := ewq.symm
        obtain ⟨bc, ebc⟩ : ∃ bc, bc = wr.heap.size := ⟨_, rfl⟩
        have hbcq : bc < wq.heap.size := by omega
        rw [← ebc] at HCq
        have HQS := Lib.hid hqs
        have HEBC := Lib.hid ebc
        clear ewq hqs
        go_upto_region 14 with fail
        rw [HWQ.out, ← ebc]
        clear ebc
        have hxn : Hid (x ^ 0 % P = 1) := (show Hid _ from by show _ = _; rw [Int.pow_zero]; exact Int.emod_eq_of_lt (by omega) (by omega))
        go_wp2_with fail
        go_loopw [16, 17, 71] (fun pv ps jv wr => ∃ j : Nat, j ≤ k + e + 1 ∧ jv = .int .i64 j ∧ pv = .int .i64 (x ^ j % P) ∧ Hid (wr.ownsRow wq.heap.size 3 1 ps (pw P x j).length ((pw P x j).map (Value.int .i64))) ∧ Hid (Below wq.heap.size wq wr)) (fun _ _ jv _ => k + e + 1 - (intOf jv).toNat)
        case atStart => exact ⟨0, Nat.zero_le _, by go_num, by rw [hxn.out], (show Hid _ from World.ownsRow_nil _ _ _ _), (show Hid _ from Below.refl _ _)⟩
        case round =>
          obtain ⟨j, hj, rfl, rfl, HPW, HBj⟩ := hrel
          by_cases hjl : j < k + e + 1
          · obtain ⟨pj, epj⟩ : ∃ v, v = x ^ j % P := ⟨_, rfl⟩
            have hpj : 0 ≤ pj ∧ pj < P := by rw [epj]; exact ⟨Int.emod_nonneg _ (by omega), Int.emod_lt_of_pos _ (by omega)⟩
            have HPS : Hid (pw P x (j + 1) = pw P x j ++ [pj]) := (show Hid _ from by show _ = _; rw [epj]; exact pw_snoc P x j)
            have HPN : Hid (pj * x % P = x ^ (j + 1) % P) := (show Hid _ from by show _ = _; rw [epj, Int.pow_succ, Int.mul_emod, Int.emod_emod_of_dvd _ (Int.dvd_refl P), ← Int.mul_emod])
            have hpl : (pw P x j).length = j := pw_len _ _ _
            have hd : decide ((j : Int) < (k : Int) + (e : Int) + 1) = true := decide_eq_true (by omega)
            have hzj : wq.heap.size ≤ wr.heap.size := HBj.out.size
            have HMUL : ∀ W : World, Calls Tryz.prog 53 #[.int .i64 P, .int .i64 pj, .int .i64 ((i : Int) + 1)] W fun e w' => e = .returned (.int .i64 (pj * x % P)) ∧ W = w' := fun W => by rw [← HEX.out]; exact mul_any P pj x W hP hpj hx
            rw [← epj]
            clear epj
            go_wp2_with (first
              | (at_builtin; refine wpList_append_int1 _ rfl _ _ 22 rfl wq.heap.size 3 Tryz.underlying22 iinfo _ (pw P x j) rfl HPW.out pj rfl (by omega) hzj ?_; intro v9 w9 hown9 hg9; have HO9 := Lib.hid hown9; have HG9 := Lib.hid hg9; clear hown9 hg9)
              | (go_at_call 53; refine (HMUL _).mono ?_; rintro e9 w8 ⟨rfl, rfl⟩))
            go_roundw
            case rel =>
              refine ⟨j + 1, by omega, by go_num, by rw [HPN.out], (show Hid _ from by rw [HPS.out]; exact HO9.out), (show Hid _ from ?_)⟩
              exact (HBj.out.alloc hzj _).trans (below_grown HG9.out (by simp; omega) (fun q hq => (HPW.out.lt q hq).1))
            case measure => simp [intOf]; omega
          · obtain rfl : j = k + e + 1 := by omega
            have hpl : (pw P x (k + e + 1)).length = k + e + 1 := pw_len _ _ _
            have hpl2 : (pw P x (k + e)).length = k + e := pw_len _ _ _
            have hpw := HPW.out
            rw [hpl] at hpw
            obtain ⟨bp, cp, eps, hbp1, hbp2⟩ := own_form hpw (by omega)
            subst eps
            have HSP : Hid (SI wr (.slice (some ⟨bp, 0, none⟩) (k + e + 1) cp) (pw P x (k + e + 1))) := (show Hid _ from by
              have := SI.of_own HPW.out (els_r hP.2 (pw_els hP.1 _ _))
              exact this)
            have HSP2 : Hid (SI wr (.slice (some ⟨bp, 0, none⟩) (k + e) cp) (pw P x (k + e))) := (show Hid _ from by
              have := HSP.out.take (m := k + e) (by omega)
              rwa [pw_take P x (by omega)] at this)
            have HCPr : Hid (∀ j, j < e → wr.cell? ⟨bp, j, none⟩ = some (.int .i64 (x ^ j % P))) := (show Hid _ from fun j hj => by
              have h1 := hpw.cellAt j (by omega)
              rw [h1, List.getElem?_map, List.getElem?_eq_getElem (by rw [pw_len]; omega)]
              simp [pw])
            have HCPr' : Hid (wr.cell? ⟨bp, e, none⟩ = some (.int .i64 (x ^ e % P))) := (show Hid _ from by
              have h1 := hpw.cellAt e (by omega)
              show _ = _
              rw [h1, List.getElem?_map, List.getElem?_eq_getElem (by rw [pw_len]; omega)]
              simp [pw])
            have hcpl : k + e + 1 ≤ cp := by obtain ⟨_, _, e1, h1, _⟩ := HSP.out; injection e1 with _ _ e3; omega
            obtain ⟨wt, ewt⟩ : ∃ wt : World, wt = wr := ⟨_, rfl⟩
            have HKOt : Hid (KO O P K0.length C vc vr (kcl P (k + e) e K0) (krl P e K0) wt) := (show Hid _ from by rw [ewt]; exact HKOq.out.below HBj.out)
            have HBet : Hid (Below O w2 wt) := (show Hid _ from by rw [ewt]; exact HBeq.out.trans (HBj.out.mono (by have := HKOq.out.lt; omega)))
            have HCt : Hid (wt.heap[bc]? = some (.cells #[.int .i64 y, .bool true] 140 (0, 0))) := (show Hid _ from by rw [ewt]; exact (HBj.out.block bc hbcq).trans HCq.out)
            have HCPt : Hid (∀ j, j < e → wt.cell? ⟨bp, j, none⟩ = some (.int .i64 (x ^ j % P))) := (show Hid _ from by rw [ewt]; exact HCPr.out)
            have HCPe : Hid (wt.cell? ⟨bp, e, none⟩ = some (.int .i64 (x ^ e % P))) := (show Hid _ from by rw [ewt]; exact HCPr'.out)
            rw [← ewt] at HSP HSP2 hbp2 ⊢
            have hvb : ∀ q, vc.ownBlock = some q → O + 1 ≤ q ∧ q < wq.heap.size := HKOq.out.2.1.lt
            have hvrb : ∀ q, vr.ownBlock = some q → O + 1 ≤ q ∧ q < wq.heap.size := HKOq.out.2.2.1.lt
            have HVB := Lib.hid hvb
            have HVRB := Lib.hid hvrb
            have hzt : wq.heap.size ≤ wt.heap.size := by rw [ewt]; exact HBj.out.size
            have hOt : O < wt.heap.size := HKOt.out.lt
            have cO3 := HKOt.out.cells.2.1
            have fO3 := HKOt.out.frozen 3
            have HOV : Hid (wt.ownsRow (O + 1) 3 1 vc (kcl P (k + e) e K0).length ((kcl P (k + e) e K0).map (Value.int .i64))) := (show Hid _ from HKOt.out.2.1)
            have hcll : (kcl P (k + e) e K0).length ≤ 10000 := by
              rw [kcl_len]
              exact Nat.le_trans (Nat.mul_le_mul hKl (by omega : k + e + e ≤ 32)) (by omega)
            obtain ⟨CL, eCL⟩ : ∃ CL, CL = kcl P (k + e) e K0 := ⟨_, rfl⟩
            obtain ⟨RL, eRL⟩ : ∃ RL, RL = krl P e K0 := ⟨_, rfl⟩
            rw [← eCL] at HOV hcll HKOt
            rw [← eRL] at HKOt
            have HECL := Lib.hid eCL
            have HERL := Lib.hid eRL
            have HNO : Hid (∀ q, q ≤ O → some q ≠ vc.ownBlock) := (show Hid _ from fun q hq e1 => by have := (HVB.out q e1.symm).1; omega)
            have HZF : Hid (∀ wb : World, wt.grownBy wb vc.ownBlock → wb.frozen? ⟨O, 3, none⟩ = false) := (show Hid _ from fun wb hg => frozen_of_row wb O 3 _ _ ((hg.block O hOt (HNO.out O (Nat.le_refl _))).trans HKOt.out.1))
            have hpos : 0 < (pw P x (k + e)).length := by omega
            have hple : (pw P x (k + e)).length ≤ 32 := by omega
            have t1 : (0 : Int) ≤ (k : Int) + (e : Int) := by omega
            have t2 : (k : Int) + (e : Int) ≤ (cp : Int) := by omega
            have t3 : ((k : Int) + (e : Int)).toNat = k + e := by omega
            have t4 : IntKind.i64.wrap ((k : Int) + (e : Int)) = (k : Int) + (e : Int) := by exact IntWalk.i64_in _ (by omega)
            have hbcv : vc.ownBlock ≠ some bc := fun e1 => by have := HKO.out.2.1.lt bc e1; have := HEBC.out; omega
            have hbcvr : vr.ownBlock ≠ some bc := fun e1 => by have := HKO.out.2.2.1.lt bc e1; have := HEBC.out; omega
            have hbpv : vc.ownBlock ≠ some bp := fun e1 => by have := (HVB.out bp e1).2; omega
            have hObc : O < bc := by have := HKO.out.lt; have := HEBC.out; omega
            clear HKOq HBeq HCq HKO HBel eCL eRL hpw hvb hvrb hpl ewt hpl2
            go_wp2_with fail
            go_region_law (refine step_append_ints_at _ (by rfl) (.tmp 84) _ 22 (by rfl) (O + 1) 3 Tryz.underlying22 iinfo vc CL (by rfl) (by first | exact HOV.out | exact HOV.out.drew) wt.heap.size (.slice (some ⟨bp, 0, none⟩) (k + e) cp) (pw P x (k + e)) (by rfl) (by exact HSP2.out) hpos (by omega) (by show O + 1 ≤ wt.heap.size; omega) ?_; intro g9 cap9 w9 hown9 hg9 hat9; have HG9 : Hid (wt.grownBy w9 vc.ownBlock) := (show Hid _ from ⟨hg9.os, hg9.tape, hg9.output, hg9.size, hg9.block⟩); have HO9 := Lib.hid hown9; have HA9 : Hid (vc.ownBlock = some g9 ∨ g9 = wt.heap.size) := (show Hid _ from hat9); have cO3 : w9.cell? ⟨O, 3, none⟩ = some vc := hg9.cell cO3 (HNO.out O (Nat.le_refl O)); have fO3 : w9.frozen? ⟨O, 3, none⟩ = false := HZF.out w9 HG9.out; clear hg9 hown9 hat9)
            all_goals
              have HL : Hid ((CL ++ pw P x (k + e)).length = CL.length + (pw P x (k + e)).length) := (show Hid _ from List.length_append)
              obtain ⟨vu, evu⟩ : ∃ vu : Value, vu = .slice (some ⟨g9, 0, none⟩) (CL.length + (pw P x (k + e)).length) cap9 := ⟨_, rfl⟩
              obtain ⟨wu, ewu⟩ : ∃ wu : World, wu = w9.setCell ⟨O, 3, none⟩ (.slice (some ⟨g9, 0, none⟩) (CL.length + (pw P x (k + e)).length) cap9) := ⟨_, rfl⟩
              have HKOu : Hid (KO O P K0.length C vu vr (CL ++ pw P x (k + e)) RL wu) := (show Hid _ from by rw [ewu, evu, ← HL.out]; exact HKOt.out.app HO9.out HG9.out HA9.out)
              have HBeu : Hid (Below O w2 wu) := (show Hid _ from by rw [ewu]; exact (HBet.out.trans (below_grown HG9.out (by omega) (fun q hq => by have := (HVB.out q hq).1; omega))).setCell (Nat.le_refl _) _)
              have hzu : wt.heap.size ≤ wu.heap.size := by rw [ewu]; have := HG9.out.size; simpa [World.setCell] using this
              have HCu : Hid (wu.heap[bc]? = some (.cells #[.int .i64 y, .bool true] 140 (0, 0))) := (show Hid _ from by
                show _ = _
                rw [ewu, heap_setCell_other _ _ bc _ (by show bc ≠ O; omega), HG9.out.block bc (by omega) (fun e1 => hbcv e1.symm)]
                exact HCt.out)
              have HPu : Hid (wu.heap[bp]? = wt.heap[bp]?) := (show Hid _ from by
                show _ = _
                rw [ewu, heap_setCell_other _ _ bp _ (by show bp ≠ O; omega), HG9.out.block bp (by omega) (fun e1 => hbpv e1.symm)])
              have hvu1 : vu.ownBlock ≠ some bp := fun e1 => by
                rw [evu] at e1
                have e2 : g9 = bp := by injection e1
                rcases HA9.out with h | h
                · exact hbpv (by rw [h, e2])
                · omega
              have hvu2 : vu.ownBlock ≠ some bc := fun e1 => by
                rw [evu] at e1
                have e2 : g9 = bc := by injection e1
                rcases HA9.out with h | h
                · exact hbcv (by rw [h, e2])
                · omega
              rw [← ewu]
              have HCPu : Hid (∀ j, j < e → wu.cell? ⟨bp, j, none⟩ = some (.int .i64 (x ^ j % P))) := (show Hid _ from fun j hj => (World.cell?_of_block HPu.out).trans (HCPt.out j hj))
              have hvrO : ∀ q, vr.ownBlock = some q → O + 1 ≤ q ∧ q < wu.heap.size := HKOu.out.2.2.1.lt
              clear cO3 fO3 ewu evu HO9 HG9 HA9 hbcv hbpv
              have u1 : (0 : Int) ≤ (e : Int) := by omega
              have u2 : (e : Int) ≤ (cp : Int) := by omega
              go_wp2_with fail
              go_loopw [96] (fun jv wr => Ke3 P C x y e O bc bp K0.length vr (CL ++ pw P x (k + e)) RL w2 wu jv wr) (fun jv _ => e - (intOf jv).toNat)
              case atStart => exact ⟨0, vu, Nat.zero_le _, by go_num, by rw [show ngl P y (pw P x 0) = [] from rfl, List.append_nil]; exact HKOu.out, HBeu.out, HCu.out, rfl, hvu1, hvu2, Nat.le_refl _⟩
              case round =>
                obtain ⟨j, vc', hj, rfl, hKOj, hBej, hCj, hPj, hVj1, hVj2, hVj3⟩ := hrel
                have HKOj := Lib.hid hKOj
                have HBej := Lib.hid hBej
                have HCj := Lib.hid hCj
                have HPj := Lib.hid hPj
                have HVj : Hid (vc'.ownBlock ≠ some bp ∧ vc'.ownBlock ≠ some bc ∧ wu.heap.size ≤ wr.heap.size) := (show Hid _ from ⟨hVj1, hVj2, hVj3⟩)
                clear hKOj hBej hCj hPj hVj1 hVj2
                by_cases hje : j < e
                · have cpj := (World.cell?_of_block HPj.out).trans (HCPu.out j hje)
                  obtain ⟨pj, epj⟩ : ∃ v, v = x ^ j % P := ⟨_, rfl⟩
                  have hpj : 0 ≤ pj ∧ pj < P := by rw [epj]; exact ⟨Int.emod_nonneg _ (by omega), Int.emod_lt_of_pos _ (by omega)⟩
                  rw [← epj] at cpj
                  have q1 : (0 : Int) ≤ (j : Int) := by omega
                  have q2 : (j : Int) < (e : Int) := by omega
                  obtain ⟨m1, em1⟩ : ∃ v, v = y * pj % P := ⟨_, rfl⟩
                  have hm1 : 0 ≤ m1 ∧ m1 < P := by rw [em1]; exact ⟨Int.emod_nonneg _ (by omega), Int.emod_lt_of_pos _ (by omega)⟩
                  obtain ⟨s1, es1⟩ : ∃ v, v = (0 - m1 + P) % P := ⟨_, rfl⟩
                  have HMUL : ∀ W : World, Calls Tryz.prog 53 #[.int .i64 P, .int .i64 y, .int .i64 pj] W fun e w' => e = .returned (.int .i64 m1) ∧ W = w' := fun W => (mul_any P y pj W hP hy hpj).mono fun e w' ⟨h1, h2⟩ => ⟨by rw [h1, em1], h2⟩
                  have HSUB : ∀ W : World, Calls Tryz.prog 92 #[.int .i64 P, .int .i64 0, .int .i64 m1] W fun e w' => e = .returned (.int .i64 s1) ∧ W = w' := fun W => (sub_any P 0 m1 W hP ⟨by omega, by omega⟩ hm1).mono fun e w' ⟨h1, h2⟩ => ⟨by rw [h1, es1], h2⟩
                  have HNG : Hid (ngl P y (pw P x (j + 1)) = ngl P y (pw P x j) ++ [s1]) := (show Hid _ from by show _ = _; rw [pw_snoc, ngl_snoc, ← epj, es1, em1])
                  obtain ⟨CJ, eCJ⟩ : ∃ CJ, CJ = CL ++ pw P x (k + e) ++ ngl P y (pw P x j) := ⟨_, rfl⟩
                  have HECJ := Lib.hid eCJ
                  rw [← eCJ] at HKOj
                  have hCJl : CJ.length ≤ 20000 := by rw [eCJ]; simp only [List.length_append, ngl_len, pw_len]; omega
                  have cO3 := HKOj.out.cells.2.1
                  have fO3 := HKOj.out.frozen 3
                  have hOj : O < wr.heap.size := HKOj.out.lt
                  have cB0 : wr.cell? ⟨bc, 0, none⟩ = some (.int .i64 y) := cell_of_row wr bc 0 _ _ _ HCj.out
                  have HOV : Hid (wr.ownsRow (O + 1) 3 1 vc' CJ.length (CJ.map (Value.int .i64))) := (show Hid _ from HKOj.out.2.1)
                  have HVB2 : Hid (∀ q, vc'.ownBlock = some q → O + 1 ≤ q ∧ q < wr.heap.size) := (show Hid _ from HKOj.out.2.1.lt)
                  have HNO2 : Hid (∀ q, q ≤ O → some q ≠ vc'.ownBlock) := (show Hid _ from fun q hq e1 => by have := (HVB2.out q e1.symm).1; omega)
                  have HNBC : Hid (some bc ≠ vc'.ownBlock) := (show Hid _ from fun e1 => HVj.out.2.1 e1.symm)
                  have hbcj : bc < wr.heap.size := heap_of_cells HCj.out
                  have HZF2 : Hid (∀ wb : World, (wr.alloc (.cells #[.int .i64 s1] 3)).grownBy wb vc'.ownBlock → wb.frozen? ⟨O, 3, none⟩ = false) := (show Hid _ from fun wb hg => frozen_of_row wb O 3 _ _ ((hg.block O (by simp; omega) (HNO2.out O (Nat.le_refl _))).trans ((Below.heap_alloc wr _ O hOj).trans HKOj.out.1)))
                  have hbcO : bc ≠ O := by omega
                  have hbpO : bp ≠ O := by omega
                  have hbpu : bp < wu.heap.size := by omega
                  have HREL : Hid (∀ (g9 cap9 : Nat) (w9 : World), (wr.alloc (.cells #[.int .i64 s1] 3)).grownBy w9 vc'.ownBlock → w9.ownsRow (O + 1) 3 1 (.slice (some ⟨g9, 0, none⟩) (CJ ++ [s1]).length cap9) (CJ ++ [s1]).length ((CJ ++ [s1]).map (Value.int .i64)) → (vc'.ownBlock = some g9 ∨ g9 = (wr.alloc (.cells #[.int .i64 s1] 3)).heap.size) → Ke3 P C x y e O bc bp K0.length vr (CL ++ pw P x (k + e)) RL w2 wu (.int .i64 ((j : Int) + 1)) (w9.setCell ⟨O, 3, none⟩ (.slice (some ⟨g9, 0, none⟩) (CJ.length + 1) cap9))) := (show Hid _ from fun g9 cap9 w9 hg ho ha => ke3_step hje eCJ HNG.out HKOj.out HBej.out HCj.out HPj.out HVj.out.1 HVj.out.2.1 hVj3 hbcO hbpO hbpu hg ho ha)
                  clear eCJ epj em1 es1
                  go_upto_region 23 with fail
                  go_region_law (first
                    | (refine step_append_int1_at _ (by rfl) (.tmp 101) _ 22 (by rfl) (O + 1) 3 Tryz.underlying22 iinfo vc' CJ (by rfl) (by first | exact HOV.out.alloc (.cells #[.int .i64 s1] 3) | exact (HOV.out.alloc (.cells #[.int .i64 s1] 3)).drew) s1 wr.heap.size (by rfl) (by exact cells_new wr [.int .i64 s1] 3 0 _ rfl) (by omega) (by simp; omega) ?_; intro g9 cap9 w9 hown9 hg9 hat9;
                       have HG9 : Hid ((wr.alloc (.cells #[.int .i64 s1] 3)).grownBy w9 vc'.ownBlock) := (show Hid _ from ⟨hg9.os, hg9.tape, hg9.output, hg9.size, hg9.block⟩); have HO9 := Lib.hid hown9; have HA9 : Hid (vc'.ownBlock = some g9 ∨ g9 = (wr.alloc (.cells #[.int .i64 s1] 3)).heap.size) := (show Hid _ from hat9); have cO3 : w9.cell? ⟨O, 3, none⟩ = some vc' := hg9.cell (cell_al (.cells #[.int .i64 s1] 3) cO3) (HNO2.out O (Nat.le_refl O)); have fO3 : w9.frozen? ⟨O, 3, none⟩ = false := HZF2.out w9 HG9.out; clear hg9 hown9 hat9)
                    | (go_simp; go_at_call 53; refine (HMUL _).mono ?_; rintro e9 w8 ⟨rfl, rfl⟩)
                    | (go_simp; go_at_call 92; refine (HSUB _).mono ?_; rintro e9 w8 ⟨rfl, rfl⟩))
                  all_goals
                    go_wp2_with fail
                    go_roundw
                    case rel => exact HREL.out g9 cap9 w9 HG9.out HO9.out HA9.out
                    case measure => simp [intOf]; omega
                · obtain rfl : j = e := by omega
                  obtain ⟨RM1, eRM1⟩ : ∃ v, v = y * (x ^ j % P) % P := ⟨_, rfl⟩
                  obtain ⟨pe, epe⟩ : ∃ v, v = x ^ j % P := ⟨_, rfl⟩
                  have hpe : 0 ≤ pe ∧ pe < P := by rw [epe]; exact ⟨Int.emod_nonneg _ (by omega), Int.emod_lt_of_pos _ (by omega)⟩
                  have cpe : wr.cell? ⟨bp, j, none⟩ = some (.int .i64 pe) := by rw [epe]; exact (World.cell?_of_block HPj.out).trans ((World.cell?_of_block HPu.out).trans HCPe.out)
                  have HMUL : ∀ W : World, Calls Tryz.prog 53 #[.int .i64 P, .int .i64 y, .int .i64 pe] W fun e w' => e = .returned (.int .i64 RM1) ∧ W = w' := fun W => (mul_any P y pe W hP hy hpe).mono fun e w' ⟨h1, h2⟩ => ⟨by rw [h1, eRM1, epe], h2⟩
                  have hRLl : RL.length ≤ 32 := by rw [HERL.out, krl_len]; exact hKl
                  have cO4 := HKOj.out.cells.2.2
                  have fO4 := HKOj.out.frozen 4
                  have hOj : O < wr.heap.size := HKOj.out.lt
                  have cB0 : wr.cell? ⟨bc, 0, none⟩ = some (.int .i64 y) := cell_of_row wr bc 0 _ _ _ HCj.out
                  have HOV : Hid (wr.ownsRow (O + 1) 3 1 vr RL.length (RL.map (Value.int .i64))) := (show Hid _ from HKOj.out.2.2.1)
                  have HVB2 : Hid (∀ q, vr.ownBlock = some q → O + 1 ≤ q ∧ q < wr.heap.size) := (show Hid _ from HKOj.out.2.2.1.lt)
                  have HNO2 : Hid (∀ q, q ≤ O → some q ≠ vr.ownBlock) := (show Hid _ from fun q hq e1 => by have := (HVB2.out q e1.symm).1; omega)
                  have hvrw : ∀ q, vr.ownBlock = some q → q < wq.heap.size := fun q hq => (HVRB.out q hq).2
                  have hbcj : bc < wr.heap.size := heap_of_cells HCj.out
                  have HNBC : Hid (some bc ≠ vr.ownBlock) := (show Hid _ from fun e1 => hbcvr e1.symm)
                  have HNBP : Hid (some bp ≠ vr.ownBlock) := (show Hid _ from fun e1 => by have := hvrw bp e1.symm; omega)
                  have HZF2 : Hid (∀ wb : World, (wr.alloc (.cells #[.int .i64 RM1] 3)).grownBy wb vr.ownBlock → wb.frozen? ⟨O, 4, none⟩ = false) := (show Hid _ from fun wb hg => frozen_of_row wb O 4 _ _ ((hg.block O (by simp; omega) (HNO2.out O (Nat.le_refl _))).trans ((Below.heap_alloc wr _ O hOj).trans HKOj.out.1)))
                  have t5 : (0 : Int) ≤ (j : Int) := by omega
                  have t6 : (j : Int) < (k : Int) + (j : Int) + 1 := by omega
                  have hnK : (K0.length : Int) ≤ 32 := by omega
                  have HKX : Hid (kn (l.take (i + 1)) = K0 ++ [(x, y)]) := (show Hid _ from by show _ = _; rw [HKS2.out, HEX.out])
                  have HCJX : Hid (CL ++ pw P x (k + j) ++ ngl P y (pw P x j) = kcl P (k + j) j K0 ++ pw P x (k + j) ++ ngl P y (pw P x j)) := (show Hid _ from by show _ = _; rw [HECL.out])
                  have HEND : Hid (∀ (g9 cap9 : Nat) (w9 : World), (wr.alloc (.cells #[.int .i64 RM1] 3)).grownBy w9 vr.ownBlock → w9.ownsRow (O + 1) 3 1 (.slice (some ⟨g9, 0, none⟩) (RL ++ [RM1]).length cap9) (RL ++ [RM1]).length ((RL ++ [RM1]).map (Value.int .i64)) → (vr.ownBlock = some g9 ∨ g9 = (wr.alloc (.cells #[.int .i64 RM1] 3)).heap.size) →
                      (w9.setCell ⟨O, 4, none⟩ (.slice (some ⟨g9, 0, none⟩) (RL.length + 1) cap9)).cell? ⟨O, 1, none⟩ = some (.int .i64 K0.length) ∧ (w9.setCell ⟨O, 4, none⟩ (.slice (some ⟨g9, 0, none⟩) (RL.length + 1) cap9)).frozen? ⟨O, 1, none⟩ = false ∧
                      KeR P C l (k + j) j O w2 (.int .i64 ((i : Int) + 1)) ((w9.setCell ⟨O, 4, none⟩ (.slice (some ⟨g9, 0, none⟩) (RL.length + 1) cap9)).setCell ⟨O, 1, none⟩ (.int .i64 ((K0.length : Int) + 1)))) := (show Hid _ from fun g9 cap9 w9 hg ho ha => ke_end hil HKX.out HCJX.out HERL.out eRM1 HKOj.out HBej.out hg ho ha)
                  clear eRM1 epe
                  go_upto_region 25 with fail
                  go_region_law (first
                    | (refine step_append_int1_at _ (by rfl) (.tmp 114) _ 22 (by rfl) (O + 1) 3 Tryz.underlying22 iinfo vr RL (by rfl) (by first | exact HOV.out.alloc (.cells #[.int .i64 RM1] 3) | exact (HOV.out.alloc (.cells #[.int .i64 RM1] 3)).drew) RM1 wr.heap.size (by rfl) (by exact cells_new wr [.int .i64 RM1] 3 0 _ rfl) (by omega) (by simp; omega) ?_; intro g9 cap9 w9 hown9 hg9 hat9;
                       have HG9 : Hid ((wr.alloc (.cells #[.int .i64 RM1] 3)).grownBy w9 vr.ownBlock) := (show Hid _ from ⟨hg9.os, hg9.tape, hg9.output, hg9.size, hg9.block⟩); have HO9 := Lib.hid hown9; have HA9 : Hid (vr.ownBlock = some g9 ∨ g9 = (wr.alloc (.cells #[.int .i64 RM1] 3)).heap.size) := (show Hid _ from hat9); have cO4 : w9.cell? ⟨O, 4, none⟩ = some vr := hg9.cell (cell_al (.cells #[.int .i64 RM1] 3) cO4) (HNO2.out O (Nat.le_refl O)); have fO4 : w9.frozen? ⟨O, 4, none⟩ = false := HZF2.out w9 HG9.out; clear hg9 hown9 hat9)
                    | (go_simp; go_at_call 53; refine (HMUL _).mono ?_; rintro e9 w8 ⟨rfl, rfl⟩))
                  all_goals
                    obtain ⟨cO1, fO1, hrel⟩ := HEND.out g9 cap9 w9 HG9.out HO9.out HA9.out
                    have HRL := Lib.hid hrel
                    clear hrel
                    go_wp2_with fail
                    go_roundw
                    case rel => exact HRL.out
                    case measure => simp [intOf]; omega
    · obtain rfl : l.length = i := by omega
      have htk : l.take l.length = l := List.take_length
      rw [htk] at HKO
      have hsc : SI wr vc (kcl P (k + e) e (kn l)) := SI.of_own HKO.out.2.1 (els_r hP.2 (kcl_els hP.1 _ _ _))
      have hsr : SI wr vr (krl P e (kn l)) := SI.of_own HKO.out.2.2.1 (els_r hP.2 (krl_els hP.1 _ _))
      have HSC := Lib.hid hsc
      have HSR := Lib.hid hsr
      obtain ⟨A5, c5, e5⟩ := hsc.form
      obtain ⟨A6, c6, e6⟩ := hsr.form
      subst e5 e6
      obtain ⟨n5, en5⟩ : ∃ n, n = (kcl P (k + e) e (kn l)).length := ⟨_, rfl⟩
      obtain ⟨n6, en6⟩ : ∃ n, n = (krl P e (kn l)).length := ⟨_, rfl⟩
      obtain ⟨nK, enK⟩ : ∃ n, n = (kn l).length := ⟨_, rfl⟩
      rw [← en5, ← en6, ← enK] at HKO
      rw [← en5] at HSC
      rw [← en6] at HSR
      have c0 : wr.cell? ⟨O, 0, none⟩ = some (.int .i64 P) := cell_of_row wr O 0 _ _ _ HKO.out.1
      have c1 : wr.cell? ⟨O, 1, none⟩ = some (.int .i64 nK) := cell_of_row wr O 1 _ _ _ HKO.out.1
      have c2 : wr.cell? ⟨O, 2, none⟩ = some (.int .i64 C) := cell_of_row wr O 2 _ _ _ HKO.out.1
      have c3 : wr.cell? ⟨O, 3, none⟩ = some (.slice A5 n5 c5) := cell_of_row wr O 3 _ _ _ HKO.out.1
      have c4 : wr.cell? ⟨O, 4, none⟩ = some (.slice A6 n6 c6) := cell_of_row wr O 4 _ _ _ HKO.out.1
      have hZO : w.heap.size + 1 < O := by have h1 := HEO.out; have h2 := HSA.out; omega
      have HZr : Hid (wr.heap[w.heap.size + 1]? = some (.cells #[.int .i64 0, .int .i64 0, .int .i64 0, .slice none 0 0, .slice none 0 0] 162 (0, 0))) := (show Hid _ from (HBel.out.block _ hZO).trans ((HB2.out.block _ (by have h1 := HEO.out; omega)).trans HZ1.out))
      have z0 : wr.cell? ⟨w.heap.size + 1, 0, none⟩ = some (.int .i64 0) := cell_of_row wr _ 0 _ _ _ HZr.out
      have z1 : wr.cell? ⟨w.heap.size + 1, 1, none⟩ = some (.int .i64 0) := cell_of_row wr _ 1 _ _ _ HZr.out
      have z2 : wr.cell? ⟨w.heap.size + 1, 2, none⟩ = some (.int .i64 0) := cell_of_row wr _ 2 _ _ _ HZr.out
      have z3 : wr.cell? ⟨w.heap.size + 1, 3, none⟩ = some (.slice none 0 0) := cell_of_row wr _ 3 _ _ _ HZr.out
      have z4 : wr.cell? ⟨w.heap.size + 1, 4, none⟩ = some (.slice none 0 0) := cell_of_row wr _ 4 _ _ _ HZr.out
      have g0 := frozen_of_row wr (w.heap.size + 1) 0 _ _ HZr.out
      have g1 := frozen_of_row wr (w.heap.size + 1) 1 _ _ HZr.out
      have g2 := frozen_of_row wr (w.heap.size + 1) 2 _ _ HZr.out
      have g3 := frozen_of_row wr (w.heap.size + 1) 3 _ _ HZr.out
      have g4 := frozen_of_row wr (w.heap.size + 1) 4 _ _ HZr.out
      have HN5 := Lib.hid en5
      have HN6 := Lib.hid en6
      have HNK := Lib.hid enK
      clear hsc hsr htk en5 en6 enK
      go_wp2_with fail
      obtain ⟨wf, ewf⟩ : ∃ wf : World, wf = ((((wr.setCell ⟨w.heap.size + 1, 0, none⟩ (.int .i64 P)).setCell ⟨w.heap.size + 1, 1, none⟩ (.int .i64 nK)).setCell ⟨w.heap.size + 1, 2, none⟩ (.int .i64 C)).setCell ⟨w.heap.size + 1, 3, none⟩ (.slice A5 n5 c5)).setCell ⟨w.heap.size + 1, 4, none⟩ (.slice A6 n6 c6) := ⟨_, rfl⟩
      rw [← ewf]
      have hZ0 : w.heap.size ≤ w.heap.size + 1 := by omega
      have hBf : Below w.heap.size w wf := by rw [ewf]; exact ((((HBw.out.setCell hZ0 _).setCell hZ0 _).setCell hZ0 _).setCell hZ0 _).setCell hZ0 _
      have hZ1 : w.heap.size + 1 < O + 1 := by omega
      have hO5 : wf.ownsRow (O + 1) 3 1 (.slice A5 n5 c5) (kcl P (k + e) e (kn l)).length ((kcl P (k + e) e (kn l)).map (Value.int .i64)) := by
        rw [ewf]; exact own_set3 (own_set3 (own_set3 (own_set3 (own_set3 HKO.out.2.1 hZ1 _) hZ1 _) hZ1 _) hZ1 _) hZ1 _
      have hO6 : wf.ownsRow (O + 1) 3 1 (.slice A6 n6 c6) (krl P e (kn l)).length ((krl P e (kn l)).map (Value.int .i64)) := by
        rw [ewf]; exact own_set3 (own_set3 (own_set3 (own_set3 (own_set3 HKO.out.2.2.1 hZ1 _) hZ1 _) hZ1 _) hZ1 _) hZ1 _
      have HZf : wf.heap[w.heap.size + 1]? = some (.cells #[.int .i64 P, .int .i64 nK, .int .i64 C, .slice A5 n5 c5, .slice A6 n6 c6] 162 (0, 0)) := by
        have a0 := heap_setCell_same wr (w.heap.size + 1) 0 _ _ (.int .i64 P) HZr.out
        have a1 := heap_setCell_same _ (w.heap.size + 1) 1 _ _ (.int .i64 nK) a0
        have a2 := heap_setCell_same _ (w.heap.size + 1) 2 _ _ (.int .i64 C) a1
        have a3 := heap_setCell_same _ (w.heap.size + 1) 3 _ _ (.slice A5 n5 c5) a2
        have a4 := heap_setCell_same _ (w.heap.size + 1) 4 _ _ (.slice A6 n6 c6) a3
        rw [ewf, a4]; simp
      have r0 : wf.cell? ⟨w.heap.size + 1, 0, none⟩ = some (.int .i64 P) := cell_of_row wf _ 0 _ _ _ HZf
      have r1 : wf.cell? ⟨w.heap.size + 1, 1, none⟩ = some (.int .i64 nK) := cell_of_row wf _ 1 _ _ _ HZf
      have r2 : wf.cell? ⟨w.heap.size + 1, 2, none⟩ = some (.int .i64 C) := cell_of_row wf _ 2 _ _ _ HZf
      have r3 : wf.cell? ⟨w.heap.size + 1, 3, none⟩ = some (.slice A5 n5 c5) := cell_of_row wf _ 3 _ _ _ HZf
      have r4 : wf.cell? ⟨w.heap.size + 1, 4, none⟩ = some (.slice A6 n6 c6) := cell_of_row wf _ 4 _ _ _ HZf
      clear ewf
      refine bodyPost_ret (v := .tuple #[.agg #[.int .i64 P, .int .i64 nK, .int .i64 C, .slice A5 n5 c5, .slice A6 n6 c6], .int .i64 0]) (by simp [results, Tryz.results129, go_sem, r0, r1, r2, r3, r4]) rfl ⟨.slice A5 n5 c5, .slice A6 n6 c6, ?_, hBf, SI.of_own hO5 (els_r hP.2 (kcl_els hP.1 _ _ _)), SI.of_own hO6 (els_r hP.2 (krl_els hP.1 _ _))⟩
      have hC : C = ((k + e + e : Nat) : Int) := by rw [HEC.out]; omega
      rw [hC, HNK.out]
end Go.Proofs.YtoiabanpnkpbhaaGreatDoor
