/- Joined: Kh. -/
import Derived.Test.YtoiabanpnkpbhaaGreatDoorY07
import Derived.Test.YtoiabanpnkpbhaaGreatDoorY09
import Derived.Test.YtoiabanpnkpbhaaGreatDoorY23
import Derived.Test.YtoiabanpnkpbhaaGreatDoorY24
import Derived.Test.YtoiabanpnkpbhaaGreatDoorY14
namespace Go.Proofs.YtoiabanpnkpbhaaGreatDoor
open Go.RowKit Go.Shelf
attribute [local go_sem] Oper.semAt_some

theorem wide_any (n : Int) (w : World) (h : 0 ≤ n ∧ n ≤ 64) : Calls Tryz.prog 46 #[.int .i64 n] w fun e w' => e = .returned (.bool true) ∧ w = w' := by
  have d1 : decide (0 ≤ n) = true := decide_eq_true h.1
  have d2 : decide (n ≤ 64) = true := decide_eq_true h.2
  go_enter Tryz.func46, Tryz.ntmps46
  go_wp2_with fail
  go_ret
  exact ⟨rfl, rfl⟩
theorem mk_ints (n : Nat) (hn : n ≤ 1000000) (W : World) : (Instr.makeSlice 22 (.int .i64 (n : Int)) (.int .i64 (n : Int))).run Tryz.prog W = .ok (.slice (some ⟨W.heap.size, 0, none⟩) n n) (W.alloc (.cells ((zeros n).map (Value.int .i64)).toArray 3)) := by
  obtain ⟨i0, hi0, hz0, hz1, hz2⟩ := info_parts (P := Tryz.prog) (e := 3) iinfo
  have hrun := run_makeSlice (P := Tryz.prog) W 22 3 i0 _ Tryz.underlying22 hi0 hz0 .i64 .i64 n n (by omega) (Int.le_refl _) (by rw [hz1]; simp; omega) (by rw [hz2]; omega) (by omega)
  simp only [Int.toNat_natCast] at hrun
  rw [hz1, Nat.mul_one] at hrun
  have hm : madeCells (Value.int .i64 0).cells n = ((zeros n).map (Value.int .i64)).toArray := madeInts n
  rw [hm] at hrun
  exact hrun
theorem kf_grown {B : Nat} {W W' : World} {row : Option Nat} (hg : W.grownBy W' row) (hr : ∀ r, row = some r → ∃ o : Obj, W.heap[r]? = some o ∧ o.isCells = true) : KeepsFrom B W W' :=
  ⟨hg.size, fun k o' _ hk hc => by
    have hlt := (Array.getElem?_eq_some_iff.1 hk).1
    rw [hg.block k hlt (fun e => ?_)]
    · exact hk
    · obtain ⟨o, h1, h2⟩ := hr k e.symm
      rw [hk] at h1
      cases h1
      rw [hc] at h2
      cases h2⟩
/-- what was held of the groups that have come -/
def hp (P : Int) (rows : List (List Int)) (j : Int) (wd G : Nat) {N : Nat} (pre : List (Fin N)) : List (List Int) := pre.map fun x => hdT P rows j wd (x.1 * G) (gS rows.length G x.1)
theorem hp_snoc (P : Int) (rows : List (List Int)) (j : Int) (wd G : Nat) {N : Nat} (pre : List (Fin N)) (x : Fin N) : hp P rows j wd G (pre ++ [x]) = hp P rows j wd G pre ++ [hdT P rows j wd (x.1 * G) (gS rows.length G x.1)] := by simp [hp]
theorem hp_all (P : Int) (rows : List (List Int)) (j : Int) (wd G N : Nat) : ∀ k, k ≤ N → hp P rows j wd G (upA N k) = (List.range k).map fun g => hdT P rows j wd (g * G) (gSz rows.length G g)
  | 0, _ => rfl
  | k + 1, h => by rw [upA_succ (by omega), hp_snoc, hp_all P rows j wd G N k (by omega), List.range_succ, List.map_append]; rfl
/-- what a round of the groups keeps -/
def HO (P : Int) (wd j F R O C : Nat) (W : World) (v : Value) (vs : List Value) (ps : List (List Int)) : Prop :=
  W.cell? ⟨R, 0, none⟩ = some (.int .i64 P) ∧ W.cell? ⟨F + 2, 0, none⟩ = some (.int .i64 wd) ∧ W.cell? ⟨F + 3, 0, none⟩ = some (.int .i64 j) ∧ W.cell? ⟨O, 0, none⟩ = some v ∧ W.frozen? ⟨O, 0, none⟩ = false ∧ RO C W v vs ps ∧ C ≤ W.heap.size
theorem HO.kept {P : Int} {wd j F R O C : Nat} {A B : World} {v : Value} {vs : List Value} {ps : List (List Int)} {row : Option Nat} (h : HO P wd j F R O C A v vs ps) (hg : A.grownBy B row) (hr : ∀ r, row = some r → ∃ o : Obj, A.heap[r]? = some o ∧ o.isCells = false) : HO P wd j F R O C B v vs ps :=
  ⟨cell_kept h.1 hg hr, cell_kept h.2.1 hg hr, cell_kept h.2.2.1 hg hr, cell_kept h.2.2.2.1 hg hr, (frozen_kept h.2.2.2.1 hg hr).trans h.2.2.2.2.1, h.2.2.2.2.2.1.keptR hg hr, Nat.le_trans h.2.2.2.2.2.2 hg.size⟩
theorem addTimes0 (P x : Int) (b o n c d : Nat) (B : Option Addr) (w : World) :
    Calls Tryz.prog 49 #[.int .i64 P, .slice (some ⟨b, o, none⟩) n c, .int .i64 x, .slice B 0 d] w fun e w' => (∃ v, e = .returned v) ∧ w = w' := by
  go_enter Tryz.func49, Tryz.ntmps49
  go_wp2_with fail
  go_loopw [12] (fun i wr => i = .int .i64 0 ∧ w = wr) (fun _ _ => 0)
  case atStart => exact ⟨rfl, rfl⟩
  case round =>
    obtain ⟨rfl, rfl⟩ := hrel
    go_wp2_with fail
    go_end0
    exact ⟨⟨_, rfl⟩, rfl⟩
theorem addT_nil (P : Int) (tq : List Int) (o : Nat) (x : Int) : addT P tq o x [] = tq := by
  refine list_ext_gd (by rw [addT_len]) fun k hk => ?_
  rw [addT_len] at hk
  have h : ¬ (o ≤ k ∧ k < o + ([] : List Int).length) := by simp
  have e : addT P tq o x [] = (List.range tq.length).map fun k => if o ≤ k ∧ k < o + ([] : List Int).length then (gd tq k + x * gd [] (k - o)) % P else gd tq k := rfl
  rw [e]
  unfold gd
  rw [List.getElem?_map, List.getElem?_range hk]
  show (if o ≤ k ∧ k < o + ([] : List Int).length then _ else _) = _
  rw [if_neg h]
theorem hold_end {C H O R F wd j : Nat} {P : Int} {w W w7 wr w3 : World} {v v3 : Value} {vs : List Value} {ps : List (List Int)} {l : List Int} {o : Obj} (hH : H = W.heap.size) (h7 : Below W.heap.size W w7) (hk7 : ∃ o, w7.heap[H]? = some o ∧ o.isCells = true) (hgr : w7.grownBy wr (some H)) (hbk : BK wr H l) (hl : l.length = wd) (hwd : wd ≤ 64)
    (hRO : RO C W v vs ps) (hc : wr.cell? ⟨R, 0, none⟩ = some (.int .i64 P) ∧ wr.cell? ⟨F + 3, 0, none⟩ = some (.int .i64 j) ∧ wr.cell? ⟨O, 0, none⟩ = some v ∧ wr.frozen? ⟨O, 0, none⟩ = false ∧ wr.cell? ⟨F + 2, 0, none⟩ = some (.int .i64 wd)) (hC : C ≤ W.heap.size) (hO : O + 3 ≤ C ∧ R < O ∧ F + 3 < O)
    (h3 : w3.ownsRow C 22 1 v3 (vs.length + 1) (vs ++ [.slice (some ⟨H, 0, none⟩) wd wd])) (hg3 : (wr.alloc o).grownBy w3 v.ownBlock) (hat : v3.ownBlock = v.ownBlock ∨ v3.ownBlock = some (wr.alloc o).heap.size) (hBw : Below w.heap.size w W) (hwO : w.heap.size ≤ O) :
    KeepsFrom C W (w3.setCell ⟨O, 0, none⟩ v3) ∧ KB (fun q => q = O + 1 ∨ q = O + 1 + 1) W (w3.setCell ⟨O, 0, none⟩ v3) ∧ (∃ v vs', HO P wd j F R O C (w3.setCell ⟨O, 0, none⟩ v3) v vs' (ps ++ [l])) ∧ Below w.heap.size w (w3.setCell ⟨O, 0, none⟩ v3) := by
  obtain ⟨c1, c2, c3, c4, c5⟩ := hc
  have z7 := h7.size
  have zr := hgr.size
  have z3 := hg3.size
  have za : (wr.alloc o).heap.size = wr.heap.size + 1 := by simp
  have K1 : ∀ b, b < W.heap.size → wr.heap[b]? = W.heap[b]? := fun b hb => (hgr.block b (by omega) (by simp; omega)).trans (h7.block b hb)
  have hROr : RO C wr v vs ps := hRO.keep fun b _ hb => K1 b hb
  have hvC : ∀ b, v.ownBlock = some b → C ≤ b := fun b hb => (hRO.hdr.lt b hb).1
  have hu : wr.ownsRow C 3 1 (.slice (some ⟨H, 0, none⟩) wd wd) l.length (l.map (Value.int .i64)) := by
    have := hbk.own (base := C) (by omega) (by omega)
    rw [hl] at this ⊢; exact this
  obtain ⟨g9, cap, e3, hb3, hl3⟩ := own_form h3 (by omega)
  subst e3
  have hat' : v.ownBlock = some g9 ∨ (wr.alloc o).heap.size ≤ g9 := by
    rcases hat with h | h
    · exact .inl h.symm
    · have e : g9 = (wr.alloc o).heap.size := by simpa [Value.ownBlock] using h
      exact .inr (by omega)
  have hRO3 := hROr.app hu (fun b hb e => by
    have e1 : H = b := by simpa [Value.ownBlock] using hb
    have := (hRO.hdr.lt b e).2
    omega) h3 hg3 hat'
  have far : ∀ k i, k < C → w3.cell? ⟨k, i, none⟩ = wr.cell? ⟨k, i, none⟩ := fun k i hk =>
    (hg3.cell_far ⟨k, i, none⟩ (by show k < _; omega) (fun e => by have h := hvC _ e.symm; have h' : C ≤ k := h; omega)).trans (World.cell?_of_block (Below.heap_alloc _ _ _ (show k < wr.heap.size by omega)))
  have hk3 : ∀ b, C ≤ b → (w3.setCell ⟨O, 0, none⟩ (.slice (some ⟨g9, 0, none⟩) (vs.length + 1) cap)).heap[b]? = w3.heap[b]? := fun b hb => heap_setCell_other w3 ⟨O, 0, none⟩ b _ (by show b ≠ O; omega)
  refine ⟨?_, ?_, ⟨_, _, ?_, ?_, ?_, ?_, ?_, hRO3.keep fun b hb _ => hk3 b hb, by simp [World.setCell]; omega⟩, ?_⟩
  · refine (kf_grown (grownBy_of_below h7 none) fun r h => by cases h).trans ((kf_grown hgr fun r h => by injection h with h; subst h; exact hk7).trans ((kf_grown (World.grownBy_alloc wr o none) fun r h => by cases h).trans ((kf_grown hg3 fun r h => own_row (hROr.hdr.alloc o) h).trans ((KeepsOthers.setCell _ _ _).from _))))
  · refine KB_t (KB.of h7 fun k hk => by rcases hk with h | h <;> omega) (KB_t (KB.grown hgr fun b hb => ⟨by rcases hb with h | h <;> omega, by simp; rcases hb with h | h <;> omega⟩) (KB_t (KB.grown (World.grownBy_alloc wr o none) fun b hb => ⟨by rcases hb with h | h <;> omega, by simp⟩) (KB_t (KB.grown hg3 fun b hb => ⟨by rcases hb with h | h <;> omega, fun e => by have := hvC _ e.symm; rcases hb with h | h <;> omega⟩) ⟨by simp [World.setCell], fun p hp => World.cell?_setCell_other _ _ _ _ (fun e => by rw [← e] at hp; rcases hp with h | h <;> (have h' : O = _ := h; omega))⟩)))
  · exact (World.cell?_setCell_other _ _ _ _ (by first | (simp; done) | (simp; omega))).trans ((far R 0 (by omega)).trans c1)
  · exact (World.cell?_setCell_other _ _ _ _ (by first | (simp; done) | (simp; omega))).trans ((far (F + 2) 0 (by omega)).trans c5)
  · exact (World.cell?_setCell_other _ _ _ _ (by first | (simp; done) | (simp; omega))).trans ((far (F + 3) 0 (by omega)).trans c2)
  · exact World.cell?_setCell_same _ _ _ ((far O 0 (by omega)).trans c3)
  · rw [World.frozen?_setCell]
    exact (hg3.frozen_far ⟨O, 0, none⟩ (by show O < _; omega) (fun e => by have h := hvC _ e.symm; have h' : C ≤ O := h; omega)).trans ((((Below.refl wr.heap.size wr).alloc (Nat.le_refl _) o).frozen (p := ⟨O, 0, none⟩) (by show O < _; omega)).trans c4)
  · have hzw := hBw.size
    have b7 : Below w.heap.size w w7 := hBw.trans (h7.mono hzw)
    have br : Below w.heap.size w wr := b7.grown hgr (by omega) fun r hr => by injection hr with e; omega
    have b3 : Below w.heap.size w w3 := (br.alloc (by omega) o).grown hg3 (by omega) fun r hr => by have := hvC r hr; omega
    exact b3.setCell (p := ⟨O, 0, none⟩) hwO _
set_option maxRecDepth 100000 in
set_option maxHeartbeats 8000000 in
theorem hold_in (P n t : Int) (G wd j g : Nat) (rows : List (List Int)) (v : Value) (w : World) (hV : SV P n t G) (hj : 1 ≤ (j : Int) ∧ (j : Int) ≤ n) (hwd : wd ≤ 64) (hrl : rows.length ≤ 1024) (hrw : ∀ r ∈ rows, r.length = wd ∧ els P r = true) (h : SL w v rows) (hg : g < w.heap.size) :
    CallsIn Fence.wide 8 Tryz.prog 17 #[.agg #[.int .i64 P], .agg #[.int .i64 n, .int .i64 t, .int .i64 G], .int .i64 wd, v, .int .i64 j] w fun e w' => ∃ A c, e = .returned (.tuple #[.slice A (ngr rows.length G) c, .int .i64 0]) ∧ Below w.heap.size w w' ∧ SLE g w' (.slice A (ngr rows.length G) c) (hRows P rows j wd G (ngr rows.length G)) := by
  have HV := Lib.hid hV
  have hPb := hV.pb
  have hG : 1 ≤ G ∧ G ≤ 10 := by have := hV.G1; have := hV.sum; have := hV.n10; have := hV.t1; omega
  have hn10 := hV.n10
  have HRW := Lib.hid hrw
  obtain ⟨A, c, rfl, hc, hm, ha⟩ := h
  have HA := Lib.hid ha
  obtain ⟨len, el⟩ : ∃ l, l = rows.length := ⟨_, rfl⟩
  have HL := Lib.hid el
  rw [← el] at hc hrl ⊢
  clear ha hrw hV el
  refine callsIn_of_wp_marks Tryz.func17 rfl trivial ?_ rfl
  simp only [Tryz.ntmps17, List.size_toArray, List.length_cons, List.length_nil, Nat.reduceAdd, Nat.reduceSub, Array.replicate_succ, Array.replicate_zero, List.push_toArray, List.append_toArray, List.nil_append, List.cons_append]
  obtain ⟨F, eF⟩ : ∃ F, F = w.heap.size := ⟨_, rfl⟩
  obtain ⟨w1, ew⟩ : ∃ w1 : World, w1 = (((w.alloc (.cells #[.int .i64 P] 31)).alloc (.cells #[.int .i64 n, .int .i64 t, .int .i64 G] 29)).alloc (.cells #[.int .i64 wd] 3)).alloc (.cells #[.int .i64 j] 3) := ⟨_, rfl⟩
  have HW1 : Hid ((((w.alloc (.cells #[.int .i64 P] 31)).alloc (.cells #[.int .i64 n, .int .i64 t, .int .i64 G] 29)).alloc (.cells #[.int .i64 wd] 3)).alloc (.cells #[.int .i64 j] 3) = w1) := ew.symm
  have HB1 : Hid (Below w.heap.size w w1) := (show Hid _ from by rw [ew]; exact ((((Below.refl _ w).alloc (Nat.le_refl _) _).alloc (by simp) _).alloc (by simp; omega) _).alloc (by simp; omega) _)
  have HZ1 : Hid (w1.heap.size = F + 4) := (show Hid _ from by show _ = _; rw [ew, eF]; simp)
  have HC1 : Hid (w1.cell? ⟨F, 0, none⟩ = some (.int .i64 P) ∧ w1.cell? ⟨F + 1, 0, none⟩ = some (.int .i64 n) ∧ w1.cell? ⟨F + 1, 1, none⟩ = some (.int .i64 t) ∧ w1.cell? ⟨F + 1, 2, none⟩ = some (.int .i64 G) ∧ w1.cell? ⟨F + 2, 0, none⟩ = some (.int .i64 wd) ∧ w1.cell? ⟨F + 3, 0, none⟩ = some (.int .i64 j)) := (show Hid _ from by
    rw [ew, eF]; refine ⟨?_, ?_, ?_, ?_, ?_, ?_⟩ <;> simp [go_sem])
  gi_upto_region 1 with fail
  rw [show w.heap.size + 1 + 1 + 1 = w.heap.size + 3 from rfl, show w.heap.size + 1 + 1 = w.heap.size + 2 from rfl]
  rw [HW1.out, ← eF]
  have HEF := Lib.hid eF
  clear ew eF
  have HK : Hid (∀ W, Below w1.heap.size w1 W → W.cell? ⟨F, 0, none⟩ = some (.int .i64 P) ∧ W.cell? ⟨F + 1, 0, none⟩ = some (.int .i64 n) ∧ W.cell? ⟨F + 1, 1, none⟩ = some (.int .i64 t) ∧ W.cell? ⟨F + 1, 2, none⟩ = some (.int .i64 G) ∧ W.cell? ⟨F + 2, 0, none⟩ = some (.int .i64 wd) ∧ W.cell? ⟨F + 3, 0, none⟩ = some (.int .i64 j)) := (show Hid _ from fun W hb => by
    obtain ⟨a1, a2, a3, a4, a5, a6⟩ := HC1.out
    have hz := HZ1.out
    exact ⟨(hb.cell (p := ⟨F, 0, none⟩) (by show F < _; omega)).trans a1, (hb.cell (p := ⟨F + 1, 0, none⟩) (by show F + 1 < _; omega)).trans a2, (hb.cell (p := ⟨F + 1, 1, none⟩) (by show F + 1 < _; omega)).trans a3, (hb.cell (p := ⟨F + 1, 2, none⟩) (by show F + 1 < _; omega)).trans a4, (hb.cell (p := ⟨F + 2, 0, none⟩) (by show F + 2 < _; omega)).trans a5, (hb.cell (p := ⟨F + 3, 0, none⟩) (by show F + 3 < _; omega)).trans a6⟩)
  obtain ⟨f0, s0, s1, s2, d0, j0⟩ := HK.out w1 (Below.refl _ _)
  gi_wp2_with fail
  refine ⟨trivial, (callsIn_wide.2 (gCheck_ok P n t G _ HV.out)).mono ?_⟩
  rintro e w2 ⟨rfl, hb2⟩
  have HB2 := Lib.hid hb2
  clear f0 s0 s1 s2 d0 j0 hb2
  obtain ⟨f0, s0, s1, s2, d0, j0⟩ := HK.out w2 HB2.out
  have t1 : decide ((j : Int) < 1) = false := decide_eq_false (by omega)
  have t2 : decide (n < (j : Int)) = false := decide_eq_false (by omega)
  have t3 : decide (j < 1) = false := decide_eq_false (by omega)
  gi_wp2_with fail
  refine ⟨trivial, (callsIn_wide.2 (wide_any wd _ (by omega))).mono ?_⟩
  rintro e wz ⟨rfl, hwz⟩
  subst hwz
  have t4 : decide ((1024 : Int) < (len : Int)) = false := decide_eq_false (by omega)
  have t5 : decide (1024 < len) = false := decide_eq_false (by omega)
  obtain ⟨R, eR⟩ : ∃ R, R = w2.heap.size := ⟨_, rfl⟩
  obtain ⟨w3, ew3⟩ : ∃ w3 : World, w3 = w2.alloc (.cells #[.int .i64 P] 85) := ⟨_, rfl⟩
  have HW3 : Hid (w2.alloc (.cells #[.int .i64 P] 85) = w3) := ew3.symm
  have HR3 : Hid (w3.cell? ⟨R, 0, none⟩ = some (.int .i64 P)) := (show Hid _ from by show _ = _; rw [ew3, eR]; exact cell_of_row _ _ 0 _ _ (0, 0) (heap_alloc_new w2 _))
  have HZ3 : Hid (w3.heap.size = R + 1 ∧ F + 4 ≤ R) := (show Hid _ from by
    have h1 := HB2.out.size
    have h2 := HZ1.out
    refine ⟨by rw [ew3, eR]; simp, by rw [eR]; omega⟩)
  have HB3 : Hid (Below w1.heap.size w1 w3) := (show Hid _ from by rw [ew3]; exact HB2.out.alloc HB2.out.size _)
  have HER := Lib.hid eR
  gi_upto_region 9 with fail
  rw [HW3.out, ← eR]
  clear ew3 eR f0 s0 s1 s2 d0 j0
  have HRK : Hid (∀ W, Below w3.heap.size w3 W → W.cell? ⟨R, 0, none⟩ = some (.int .i64 P)) := (show Hid _ from fun W hb => (hb.cell (p := ⟨R, 0, none⟩) (by have := HZ3.out; show R < _; omega)).trans HR3.out)
  gi_wp2_with fail
  gi_loopw [48] (fun iv wr => ∃ k : Nat, k ≤ len ∧ iv = .int .i64 k ∧ Below w3.heap.size w3 wr) (fun iv _ => len - (intOf iv).toNat)
  case atStart => exact ⟨0, Nat.zero_le _, rfl, Below.refl _ _⟩
  case round =>
    obtain ⟨k, hk, rfl, hb⟩ := hrel
    have HB := Lib.hid hb
    have HB1r : Hid (Below w1.heap.size w1 wr) := (show Hid _ from HB3.out.trans (hb.mono HB3.out.size))
    have HBw : Hid (Below w.heap.size w wr) := (show Hid _ from HB1.out.trans (HB1r.out.mono HB1.out.size))
    clear hb
    by_cases hlk : k < len
    · have dk : decide (k < len) = true := decide_eq_true hlk
      have dk' : decide ((k : Int) < (len : Int)) = true := decide_eq_true (by omega)
      have hk' : k < rows.length := by rw [← HL.out]; exact hlk
      obtain ⟨b, off, rfl, hbw, hcell⟩ := HA.out (by omega)
      obtain ⟨B, d, c1, hs⟩ := hcell k hk'
      have c2 := (HBw.out.cell (p := ⟨b, off + k, none⟩) hbw).trans c1
      have HS : Hid (SI wr (.slice B rows[k].length d) rows[k]) := (show Hid _ from hs.below HBw.out)
      have HE : Hid (rows[k].length = wd ∧ els P rows[k] = true) := (show Hid _ from HRW.out _ (List.getElem_mem hk'))
      generalize rows[k] = r at HS HE c2
      have hrl2 : r.length = wd := HE.out.1
      rw [hrl2] at HS c2
      obtain ⟨f0, s0, s1, s2, d0, j0⟩ := HK.out wr HB1r.out
      have r0 := HRK.out wr HB.out
      have e1 : ((wd : Int) != (wd : Int)) = false := by simp
      clear hcell c1 hs hrl2
      gi_wp2_with fail
      refine ⟨trivial, (callsIn_wide.2 (all_any P r _ _ HS.out)).mono ?_⟩
      rintro e w4 ⟨rfl, hb4⟩
      rw [HE.out.2]
      have HB4 := Lib.hid hb4
      clear f0 s0 s1 s2 d0 j0 r0 c2 hb4
      gi_wp2_with fail
      go_roundw
      case rel => exact ⟨k + 1, by omega, by go_num, HB.out.trans (HB4.out.mono HB.out.size)⟩
      case measure => simp [intOf]; omega
    · have dk : decide (k < len) = false := decide_eq_false hlk
      have dk' : decide ((k : Int) < (len : Int)) = false := decide_eq_false (by omega)
      obtain ⟨w4, rfl⟩ : ∃ w4 : World, w4 = wr := ⟨_, rfl⟩
      obtain ⟨O, eO⟩ : ∃ O, O = w4.heap.size := ⟨_, rfl⟩
      obtain ⟨w5, ew5⟩ : ∃ w5 : World, w5 = w4.alloc (.cells #[.slice none 0 0] 33) := ⟨_, rfl⟩
      have HW5 : Hid (w4.alloc (.cells #[.slice none 0 0] 33) = w5) := ew5.symm
      have HO5 : Hid (w5.heap[O]? = some (.cells #[.slice none 0 0] 33 (0, 0))) := (show Hid _ from by show _ = _; rw [ew5, eO]; exact heap_alloc_new w4 _)
      have HB5 : Hid (Below w4.heap.size w4 w5) := (show Hid _ from by rw [ew5]; exact (Below.refl _ w4).alloc (Nat.le_refl _) _)
      have HZ5 : Hid (w5.heap.size = O + 1 ∧ R + 1 ≤ O) := (show Hid _ from by
        have h1 := HB.out.size
        have h2 := HZ3.out.1
        refine ⟨by rw [ew5, eO]; simp, by rw [eO]; omega⟩)
      have HB15 : Hid (Below w1.heap.size w1 w5) := (show Hid _ from HB1r.out.trans (HB5.out.mono HB1r.out.size))
      have HB35 : Hid (Below w3.heap.size w3 w5) := (show Hid _ from HB.out.trans (HB5.out.mono HB.out.size))
      have HEO := Lib.hid eO
      gi_upto_region 18 with fail
      rw [HW5.out, ← eO]
      clear ew5 eO
      obtain ⟨f0, s0, s1, s2, d0, j0⟩ := HK.out w5 HB15.out
      gi_wp2_with fail
      refine ⟨trivial, (callsIn_wide.2 (groups_any _ _ _ _ _)).mono ?_⟩
      rintro e w6 ⟨rfl, ew6⟩
      have HB6 : Hid (Below w5.heap.size w5 w6) := (show Hid _ from by rw [ew6]; exact ((Below.refl _ w5).alloc (Nat.le_refl _) _).alloc (by simp) _)
      have HC6 : Hid (w6.cell? ⟨w5.heap.size, 0, none⟩ = some (.slice A len c) ∧ w6.cell? ⟨w5.heap.size + 1, 0, none⟩ = some (.int .i64 G) ∧ w6.heap.size = w5.heap.size + 2) := (show Hid _ from by
        rw [ew6]; refine ⟨?_, ?_, ?_⟩ <;> simp [go_sem])
      have hz5 := HZ5.out.1
      rw [hz5] at HC6 ⊢
      clear ew6 f0 s0 s1 s2 d0 j0
      gi_wp2_with fail
      obtain ⟨C, eC⟩ : ∃ C, C = w6.heap.size := ⟨_, rfl⟩
      have HCO : Hid (C = O + 3) := (show Hid _ from by show _ = _; rw [eC, HC6.out.2.2])
      have HEC := Lib.hid eC
      obtain ⟨b, off, hAb, hbw, hcell⟩ : ∃ b off, (0 < len → A = some ⟨b, off, none⟩) ∧ (0 < len → b < w.heap.size) ∧ ∀ q (h : q < rows.length), ∃ B d, w.cell? ⟨b, off + q, none⟩ = some (.slice B rows[q].length d) ∧ SI w (.slice B rows[q].length d) rows[q] := by
        by_cases h0 : 0 < rows.length
        · obtain ⟨b, off, e, h1, h2⟩ := HA.out h0
          exact ⟨b, off, fun _ => e, fun _ => h1, h2⟩
        · exact ⟨0, 0, fun h => absurd (by rw [← HL.out]; exact h) h0, fun h => absurd (by rw [← HL.out]; exact h) h0, fun q h => absurd (Nat.lt_of_le_of_lt (Nat.zero_le _) h) h0⟩
      have HCL := Lib.hid hcell
      have HBW := Lib.hid hbw
      have HAB := Lib.hid hAb
      have HB16 : Hid (Below w1.heap.size w1 w6) := (show Hid _ from HB15.out.trans (HB6.out.mono HB15.out.size))
      have HB36 : Hid (Below w3.heap.size w3 w6) := (show Hid _ from HB35.out.trans (HB6.out.mono HB35.out.size))
      have HBw6 : Hid (Below w.heap.size w w6) := (show Hid _ from HB1.out.trans (HB16.out.mono HB1.out.size))
      have HO6 : Hid (HO P wd j F R O C w6 (.slice none 0 0) [] (hp P rows j wd G ([] : List (Fin (ngr len G))))) := (show Hid _ from by
        obtain ⟨_, _, _, _, h5, h6⟩ := HK.out w6 HB16.out
        have hO : w6.heap[O]? = some (.cells #[.slice none 0 0] 33 (0, 0)) := (HB6.out.block O (heap_of_cells HO5.out)).trans HO5.out
        exact ⟨HRK.out w6 HB36.out, h5, h6, cell_of_row w6 O 0 _ _ _ hO, frozen_of_row w6 O 0 _ _ hO, RO.nil _ _, by rw [eC]; exact Nat.le_refl _⟩)
      have hFO : F + 4 ≤ R ∧ R + 1 ≤ O := ⟨HZ3.out.2, HZ5.out.2⟩
      have HFO := Lib.hid hFO
      have hCz : C = w6.heap.size := eC
      clear hcell hbw hAb hz5 eC hFO
      refine wpIn_rangeFunc_ownG rfl (by omega) (gf := 76) (lb := #[.pointer (some ⟨O + 1 + 1, 0, none⟩), .pointer (some ⟨O + 1, 0, none⟩)]) rfl trivial (enters_of Tryz.func76 (by kernel_rfl) rfl)
        (gr_stops 7 (by omega) (O + 1 + 1) (O + 1) (fun q => q = O + 1 ∨ q = O + 1 + 1) b off c len G A hG hrl hc hm w6 (fun q hq => by have := HCO.out; rcases hq with h | h <;> omega) (.inr rfl) (.inl rfl) HC6.out.2.1 HC6.out.1 HAB.out)
        KB_t (KB_b (fun q hq => by have := HCO.out; rcases hq with h | h <;> omega)) (Below.refl _ _) (fun _ => rfl)
        (fun pre W => (∃ v vs, HO P wd j F R O C W v vs (hp P rows j wd G pre)) ∧ Below w.heap.size w W)
        (fun _ _ _ => False)
        (OwnFrom.and (Own.from (fun s A B row hs hg hr => hs.imp fun v hv => hv.imp fun vs h => h.kept hg hr) _) (ownFrom_below (Nat.le_refl _) HBw6.out.size))
        (fun _ _ _ _ _ hs _ _ => hs)
        ⟨⟨_, _, HO6.out⟩, HBw6.out⟩
        (fun x => { tmps := #[Value.agg #[Value.int IntKind.i64 P], Value.agg #[Value.int IntKind.i64 n, Value.int IntKind.i64 t, Value.int IntKind.i64 G], Value.int IntKind.i64 wd, Value.slice A len c, Value.int IntKind.i64 j, Value.pointer (some ⟨F, 0, none⟩), Value.pointer (some ⟨F + 1, 0, none⟩), Value.pointer (some ⟨F + 2, 0, none⟩), undef, Value.pointer (some ⟨F + 3, 0, none⟩), u10, u11, Value.int IntKind.i64 0, Value.pointer (some ⟨R, 0, none⟩), undef, u15, Value.pointer (some ⟨O, 0, none⟩), undef, Value.slice (some ⟨b, off + x.1 * G, none⟩) (gS len G x.1) (c - x.1 * G), undef, undef, undef, Value.agg #[Value.int IntKind.i64 P], Value.agg #[Value.int IntKind.i64 n, Value.int IntKind.i64 t, Value.int IntKind.i64 G], Value.int IntKind.i64 0, Value.int IntKind.i64 0, Value.bool false, undef, Value.int IntKind.i64 j, Value.bool false, Value.bool false, Value.int IntKind.i64 j, Value.pointer (some ⟨F + 1, 0, none⟩), Value.int IntKind.i64 n, Value.bool false, Value.bool false, Value.int IntKind.i64 wd, Value.bool true, Value.bool false, Value.bool false, Value.slice A len c, Value.int IntKind.i64 len, Value.bool false, Value.bool false, Value.pointer (some ⟨F, 0, none⟩), Value.int IntKind.i64 P, Value.slice A len c, Value.int IntKind.i64 len, Value.int IntKind.i64 k, Value.bool false, u50, u51, u52, u53, u54, u55, u56, u57, u58, u59, u60, Value.slice A len c, Value.pointer (some ⟨F + 1, 2, none⟩), Value.int IntKind.i64 G, Value.func (Fn.func 76) #[] #[Value.pointer (some ⟨O + 1 + 1, 0, none⟩), Value.pointer (some ⟨O + 1, 0, none⟩)], Value.int .i64 (x.1 : Int), Value.slice (some ⟨b, off + x.1 * G, none⟩) (gS len G x.1) (c - x.1 * G), undef, undef, undef, undef, undef, undef, undef, undef, undef, undef, undef, undef, undef, undef, undef, undef, undef, undef, undef, undef, undef, undef, undef], defers := [] }) ?assign ?body ?done ?stop
      case assign =>
        intro lr x W K hK
        gi_wp2
        exact hK
      case body =>
        rintro lr pre x W ⟨⟨v, vs, hHO⟩, hB⟩ hpl
        obtain ⟨r0, d0, j0, o0, of, hro, hzW⟩ := hHO
        have HRO := Lib.hid hro
        have HBx := Lib.hid hB
        have HPS := Lib.hid (hp_snoc P rows j wd G pre x)
        have hng := (ngr_bd (len := len) hG.1).1
        have hngl : ngr len G ≤ len + G := Nat.le_trans (Nat.le_mul_of_pos_right _ (by omega)) (Nat.le_of_lt hng)
        have hvl : vs.length ≤ 1100 := by
          have h1 := hro.len
          have h2 : (hp P rows j wd G pre).length = pre.length := by unfold hp; simp
          omega
        obtain ⟨q, eqx⟩ : ∃ q, q = x.1 := ⟨_, rfl⟩
        have hq : q < ngr len G := by rw [eqx]; exact x.2
        rw [← HL.out, ← eqx] at HPS
        rw [← eqx]
        clear eqx
        obtain ⟨sz, esz⟩ : ∃ sz, sz = gS len G q := ⟨_, rfl⟩
        obtain ⟨oq, eoq⟩ : ∃ oq, oq = q * G := ⟨_, rfl⟩
        have hoq : oq + sz ≤ len ∧ sz ≤ 10 := by
          have h1 : (q + 1) * G ≤ ngr len G * G := Nat.mul_le_mul_right _ hq
          rw [Nat.add_mul] at h1
          rw [esz, eoq]; unfold gS; omega
        rw [← esz, ← eoq] at HPS ⊢
        clear esz eoq hro hB hng hngl hpl hq
        obtain ⟨H, eH⟩ : ∃ H, H = W.heap.size := ⟨_, rfl⟩
        obtain ⟨w7, ew7⟩ : ∃ w7 : World, w7 = W.alloc (.cells ((zeros wd).map (Value.int .i64)).toArray 3) := ⟨_, rfl⟩
        have HW7 : Hid (W.alloc (.cells ((zeros wd).map (Value.int .i64)).toArray 3) = w7) := ew7.symm
        have HB7 : Hid (Below W.heap.size W w7) := (show Hid _ from by rw [ew7]; exact (Below.refl _ W).alloc (Nat.le_refl _) _)
        have HK7 : Hid (BK w7 H (zeros wd)) := (show Hid _ from by rw [ew7, eH]; exact heap_alloc_new W _)
        have HEH := Lib.hid eH
        have HZW : Hid (C ≤ W.heap.size) := hzW
        have hmk := mk_ints wd (by omega)
        gi_upto_region 21 with fail
        rw [HW7.out, ← eH]
        have HCW : Hid (W.cell? ⟨R, 0, none⟩ = some (.int .i64 P) ∧ W.cell? ⟨F + 3, 0, none⟩ = some (.int .i64 j) ∧ W.cell? ⟨O, 0, none⟩ = some v ∧ W.frozen? ⟨O, 0, none⟩ = false ∧ W.cell? ⟨F + 2, 0, none⟩ = some (.int .i64 wd)) := ⟨r0, j0, o0, of, d0⟩
        have HOZ : Hid (O < C ∧ R < C ∧ F + 3 < C) := (show Hid _ from by have := HFO.out; have := HCO.out; exact ⟨by omega, by omega, by omega⟩)
        clear hmk r0 d0 j0 o0 of eH ew7 hzW hCz
        have HKW : Hid (∀ W', w7.grownBy W' (some H) → W'.cell? ⟨R, 0, none⟩ = some (.int .i64 P) ∧ W'.cell? ⟨F + 3, 0, none⟩ = some (.int .i64 j) ∧ W'.cell? ⟨O, 0, none⟩ = some v ∧ W'.frozen? ⟨O, 0, none⟩ = false ∧ W'.cell? ⟨F + 2, 0, none⟩ = some (.int .i64 wd)) := (show Hid _ from fun W' hg => by
          obtain ⟨a1, a2, a3, a4, a5⟩ := HCW.out
          obtain ⟨z1, z2, z3⟩ := HOZ.out
          have hz := HZW.out
          have he := HEH.out
          have hs := HB7.out.size
          have K : ∀ k, k < C → ∀ i, W'.cell? ⟨k, i, none⟩ = W.cell? ⟨k, i, none⟩ := fun k hk i => (hg.cell_far ⟨k, i, none⟩ (by show k < _; omega) (fun e => by injection e with e; have e' : k = H := e; omega)).trans (HB7.out.cell (p := ⟨k, i, none⟩) (by show k < _; omega))
          refine ⟨(K R z2 0).trans a1, (K (F + 3) z3 0).trans a2, (K O z1 0).trans a3, ?_, (K (F + 2) (by omega) 0).trans a5⟩
          exact (hg.frozen_far ⟨O, 0, none⟩ (by show O < _; omega) (fun e => by injection e with e; have e' : O = H := e; omega)).trans ((HB7.out.frozen (p := ⟨O, 0, none⟩) (by show O < _; omega)).trans a4))
        have HBWr : Hid (∀ W', w7.grownBy W' (some H) → Below w.heap.size w W') := (show Hid _ from fun W' hg => (HBx.out.trans (HB7.out.mono HBx.out.size)).grown hg (by have := HBx.out.size; have := HB7.out.size; omega) (fun r hr => by injection hr with e; subst e; have := HBx.out.size; have := HEH.out; omega))
        gi_wp2_with fail
        gi_loopw [71] (fun iv wr => ∃ i : Nat, i ≤ sz ∧ iv = .int .i64 i ∧ BK wr H (hdT P rows j wd oq i) ∧ w7.grownBy wr (some H)) (fun iv _ => sz - (intOf iv).toNat)
        case atStart => exact ⟨0, Nat.zero_le _, rfl, HK7.out, grownBy_refl _ _⟩
        case round =>
          obtain ⟨i, hi, rfl, hbk, hgw⟩ := hrel
          have HBK := Lib.hid hbk
          have HGW := Lib.hid hgw
          obtain ⟨r0, j0, o0, of, _⟩ := HKW.out wr hgw
          have HBwr : Hid (Below w.heap.size w wr) := HBWr.out wr hgw
          clear hbk hgw
          by_cases hli : i < sz
          · have di : decide (i < sz) = true := decide_eq_true hli
            have di' : decide ((i : Int) < (sz : Int)) = true := decide_eq_true (by omega)
            have hin : oq + i < rows.length := by rw [← HL.out]; omega
            obtain ⟨B, d, c1, hs⟩ := HCL.out (oq + i) hin
            have c2 := (HBwr.out.cell (p := ⟨b, off + (oq + i), none⟩) (HBW.out (by omega))).trans c1
            rw [← Nat.add_assoc] at c2
            have HS : Hid (SI wr (.slice B rows[oq + i].length d) rows[oq + i]) := (show Hid _ from hs.below HBwr.out)
            have HE0 : Hid (rows[oq + i].length = wd) := (show Hid _ from (HRW.out _ (List.getElem_mem hin)).1)
            have HE : Hid (rows[oq + i].length = wd ∧ els P rows[oq + i] = true) := (show Hid _ from HRW.out _ (List.getElem_mem hin))
            have HNB : Hid (0 < wd → ∀ k, (Value.slice B rows[oq + i].length d).ownBlock = some k → k ≠ H) := (show Hid _ from fun h0 k hk e => by
              obtain ⟨A', c', e1, _, _, _, ha⟩ := hs
              injection e1 with e1 e2 e3
              subst e1
              obtain ⟨b', o', rfl, hb', _⟩ := ha (by rw [HE0.out]; exact h0)
              have hk' : b' = k := by simpa [Value.ownBlock] using hk
              have := HEH.out
              have := HBx.out.size
              omega)
            have HST : Hid (hdT P rows j wd oq (i + 1) = addT P (hdT P rows j wd oq i) 0 ((j : Int) ^ i % P) rows[oq + i]) := (show Hid _ from by
              show _ = _
              rw [hdT_succ, gr_lt hin])
            clear hs
            generalize rows[oq + i] = r at HS HE HE0 HNB HST c2
            have hrl2 : r.length = wd := HE.out.1
            rw [hrl2] at HS HNB c2
            have hjP : 0 ≤ (j : Int) ∧ (j : Int) < P := ⟨by omega, by have := HV.out.nP; omega⟩
            have HPW : Hid (0 ≤ (j : Int) ^ i % P ∧ (j : Int) ^ i % P < P) := ⟨Int.emod_nonneg _ (by omega), Int.emod_lt_of_pos _ (by omega)⟩
            obtain ⟨pw_, epw⟩ : ∃ x, x = (j : Int) ^ i % P := ⟨_, rfl⟩
            have HPWR : Hid (∀ W, Calls Tryz.prog 50 #[.int .i64 P, .int .i64 j, .int .i64 i] W fun e w' => e = .returned (.int .i64 pw_) ∧ W = w') := (show Hid _ from fun W => (power_any P j i W hPb hjP (by omega)).mono fun e w' ⟨h1, h2⟩ => ⟨by rw [h1, epw], h2⟩)
            have HATW : Hid (∀ W, BK W H (hdT P rows j wd oq i) → SI W (.slice B wd d) r → Calls Tryz.prog 49 #[.int .i64 P, .slice (some ⟨H, 0, none⟩) wd wd, .int .i64 pw_, .slice B wd d] W fun e w' => (∃ v, e = .returned v) ∧ BK w' H (hdT P rows j wd oq (i + 1)) ∧ W.grownBy w' (some H)) := (show Hid _ from fun W hk hs => by
              by_cases h0 : wd = 0
              · have hr0 : r = [] := List.eq_nil_of_length_eq_zero (by rw [HE.out.1, h0])
                have e4 : hdT P rows j wd oq (i + 1) = hdT P rows j wd oq i := by rw [HST.out, hr0, addT_nil]
                rw [e4]
                rw [h0]
                exact (addTimes0 P pw_ H 0 0 0 d B W).mono fun e w' ⟨h1, h2⟩ => by subst h2; rw [h0] at hk; exact ⟨h1, hk, grownBy_refl _ _⟩
              · exact (addTimes_any P H 0 wd wd (hdT P rows j wd oq i) pw_ r _ W hPb (by rw [epw]; exact HPW.out) (hdT_els hPb.1 ..) HE.out.2 hk hs (HNB.out (by omega)) (by rw [HE.out.1]; exact Nat.le_refl _) (by rw [HE.out.1, hdT_len]; omega)).mono fun e w' ⟨h1, h2, h3⟩ => ⟨h1, by rw [HST.out, ← epw]; exact h2, h3⟩)
            clear hrl2 epw
            have hHC : C ≤ H := by have := HEH.out; have := HZW.out; omega
            have hzH : H < wr.heap.size := HBK.out.lt
            have hz1 : R < wr.heap.size := by have := HOZ.out; omega
            have hz2 : F + 3 < wr.heap.size := by have := HOZ.out; omega
            have hz3 : some R ≠ some H := by have := HOZ.out; simp; omega
            have hz4 : some (F + 3) ≠ some H := by have := HOZ.out; simp; omega
            gi_upto_region 24 with fail
            apply regH lr R (F + 3) H i j wd P pw_ (hdT P rows j wd oq i) (hdT P rows j wd oq (i + 1)) r (.slice B wd d) wr r0 j0 hz1 hz2 hz3 hz4 HBK.out HS.out HPWR.out HATW.out
            rintro u76 u77 u78 u79 u80 u81 u82 u83 w9 ⟨hk9, hg9⟩
            have HK9 := Lib.hid hk9
            have HG9 := Lib.hid hg9
            clear hk9 hg9
            gi_wp2_with fail
            go_roundw
            case rel => exact ⟨i + 1, by omega, by go_num, HK9.out, grownBy_trans HGW.out HG9.out⟩
            case measure => simp [intOf]; omega
          · have di : decide (i < sz) = false := decide_eq_false hli
            have di' : decide ((i : Int) < (sz : Int)) = false := decide_eq_false (by omega)
            have hie : i = sz := by omega
            have HBE : Hid (BK wr H (hdT P rows j wd oq sz)) := (show Hid _ from by rw [← hie]; exact HBK.out)
            have HROr : Hid (RO C wr v vs (hp P rows j wd G pre)) := (show Hid _ from HRO.out.keep fun b' _ hb' => (HGW.out.block b' (Nat.lt_of_lt_of_le hb' HB7.out.size) (by have := HEH.out; simp; omega)).trans (HB7.out.block b' hb'))
            have HCR := Lib.hid (HKW.out wr HGW.out)
            have hzCr : C ≤ wr.heap.size := Nat.le_trans HZW.out (Nat.le_trans HB7.out.size HGW.out.size)
            obtain ⟨Av, cv, ev⟩ := own_slice HRO.out.hdr
            obtain ⟨i0, hi0, hi1, hi2, hi3⟩ := info_parts ilinfo
            rw [ev] at o0 HROr
            clear hie hli
            gi_wp2_with (gi_at_builtin; refine wpListIn_append_own_at _ rfl _ _ 33 rfl C 22 i0 _ 1 24 Tryz.underlying33 hi0 hi1 hi2 hi3 rfl (by omega) _ _ _ rfl (HROr.out.hdr.alloc _) ⟨wr.heap.size, 0, none⟩ 1 1 [.slice (some ⟨H, 0, none⟩) wd wd] rfl rfl ?c1 ?c2 ?c3 ?c4 ?c5 ?_)
            case c1 => exact cells_new wr _ _
            case c2 => intro u hu; simp at hu; subst hu; rfl
            case c3 => unfold maxLen; omega
            case c4 => omega
            case c5 => simp; omega
            intro v3 w3z hown3 hg3 _ hat3
            obtain ⟨A3, c3, e3⟩ := own_slice hown3
            have HX : Hid (KeepsFrom C W (w3z.setCell ⟨O, 0, none⟩ v3) ∧ KB (fun q => q = O + 1 ∨ q = O + 1 + 1) W (w3z.setCell ⟨O, 0, none⟩ v3) ∧ (∃ v vs', HO P wd j F R O C (w3z.setCell ⟨O, 0, none⟩ v3) v vs' (hp P rows j wd G pre ++ [hdT P rows j wd oq sz])) ∧ Below w.heap.size w (w3z.setCell ⟨O, 0, none⟩ v3)) := (show Hid _ from
              hold_end HEH.out HB7.out ⟨_, HK7.out, rfl⟩ HGW.out HBE.out (hdT_len ..) hwd HRO.out HCR.out HZW.out ⟨by have := HCO.out; omega, by have := HFO.out; omega, by have := HFO.out; omega⟩ hown3 (by rw [ev]; exact hg3) (by rw [ev, show (wr.alloc (.cells #[.slice (some ⟨H, 0, none⟩) wd wd] 22)).heap.size = wr.heap.size + 1 by simp]; exact hat3) HBx.out (by have := HEF.out; have := HFO.out; omega))
            have hOn : some O ≠ (Value.slice Av vs.length cv).ownBlock := fun e => by
              have h1 := (HROr.out.hdr.lt O e.symm).1
              have := HCO.out
              omega
            have hOw : O < wr.heap.size := by have := HCO.out; omega
            have ob : w3z.cell? ⟨O, 0, none⟩ = some (.slice Av vs.length cv) := (hg3.cell_far ⟨O, 0, none⟩ (by show O < _; simp; omega) hOn).trans ((World.cell?_of_block (Below.heap_alloc _ _ _ hOw)).trans o0)
            have fb : w3z.frozen? ⟨O, 0, none⟩ = false := (hg3.frozen_far ⟨O, 0, none⟩ (by show O < _; simp; omega) hOn).trans ((((Below.refl wr.heap.size wr).alloc (Nat.le_refl _) _).frozen (p := ⟨O, 0, none⟩) hOw).trans of)
            subst e3
            clear hown3 hg3 hat3
            gi_wp2_with fail
            obtain ⟨k1, k2, k3, k4⟩ := HX.out
            refine ⟨by rw [← HEC.out]; exact k1, k2, ?_⟩
            show (∃ v vs, HO P wd j F R O C _ v vs (hp P rows j wd G (pre ++ [x]))) ∧ Below w.heap.size w _
            rw [HPS.out]
            exact ⟨k3, k4⟩
      case done =>
        rintro D ys W hD rfl ⟨⟨v, vs, hHO⟩, hB⟩ hK
        obtain ⟨_, _, _, o0, _, hro, _⟩ := hHO
        rw [hp_all P rows j wd G (ngr len G) (ngr len G) (Nat.le_refl _)] at hro
        have hvl : vs.length = ngr len G := by rw [hro.len]; simp
        obtain ⟨Av, cv, ev⟩ := own_slice hro.hdr
        subst ev
        have HSLE : Hid (SLE g (W.putObj D (.deferred none)) (.slice Av vs.length cv) (hRows P rows j wd G (ngr len G))) := (show Hid _ from (hro.keptR (grownBy_putObj' W D (.deferred none)) (fun r e => by cases e; exact ⟨_, hK, rfl⟩)).sle (by rw [hCz]; exact Nat.lt_of_lt_of_le hg HBw6.out.size) fun p hp x hx => els_r hPb.2 (hRows_mem (P := P) hPb.1 p hp).2 x hx)
        rw [hvl] at o0 HSLE
        clear hvl hro
        gi_wp2_with fail
        refine ⟨by simp, .inl ⟨_, _, rfl, run_takeDeferred hK, ?_⟩⟩
        exact ⟨_, results_tmp2 rfl _ _ _, _, _, rfl, hB.trans (belowK_b (w := w) (Nat.le_refl _) W D _ _ (by have := HBw6.out.size; omega) hK rfl rfl), HSLE.out⟩
      case stop =>
        rintro D c pre W _ _ h _
        exact h.elim
theorem hold_ok (P n t : Int) (G wd j g : Nat) (rows : List (List Int)) (v : Value) (w : World) (hV : SV P n t G) (hj : 1 ≤ (j : Int) ∧ (j : Int) ≤ n) (hwd : wd ≤ 64) (hrl : rows.length ≤ 1024) (hrw : ∀ r ∈ rows, r.length = wd ∧ els P r = true) (h : SL w v rows) (hg : g < w.heap.size) :
    Calls Tryz.prog 17 #[.agg #[.int .i64 P], .agg #[.int .i64 n, .int .i64 t, .int .i64 G], .int .i64 wd, v, .int .i64 j] w fun e w' => ∃ A c, e = .returned (.tuple #[.slice A (ngr rows.length G) c, .int .i64 0]) ∧ Below w.heap.size w w' ∧ SLE g w' (.slice A (ngr rows.length G) c) (hRows P rows j wd G (ngr rows.length G)) :=
  callsIn_wide.1 (hold_in P n t G wd j g rows v w hV hj hwd hrl hrw h hg)
end Go.Proofs.YtoiabanpnkpbhaaGreatDoor
