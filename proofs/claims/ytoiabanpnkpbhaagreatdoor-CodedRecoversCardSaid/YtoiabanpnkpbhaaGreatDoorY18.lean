/- Joined: Is Do Cd Cc Shf. -/
import Derived.Stop.Asserts
import Derived.LaidEql
import Derived.RowKitTokens
import Derived.Shelf.Sort.Plain
import Derived.Ground.Names2Prog
import Derived.Shelf.Slices.CompactI
import Derived.Shelf.Slices.In.SortNone
import Derived.Test.YtoiabanpnkpbhaaGreatDoorProg
import Derived.Test.YtoiabanpnkpbhaaGreatDoorY17
namespace Go.Proofs.YtoiabanpnkpbhaaGreatDoor
open Go.RowKit Go.Extern.Stop Go.Stop Go.Extern

theorem isTypeOf (v : Value) (w : World) : (Extern.ReflectliteType.typeOf #[.iface 190 v]).run Tryz.prog w = .ok (.iface 211 (.agg #[.pointer (some ⟨1, 190, none⟩)])) w := by kernel_rfl
theorem cmpCall (w : World) : (callFunc 174 #[.agg #[.pointer (some ⟨1, 190, none⟩)]]).run Tryz.prog w = .ok (Next.value (.bool true)) w := by kernel_rfl
theorem isMethodComparable (v : Value) (w : World) : (Go.method 363 211 v "Comparable").run Tryz.prog w = .ok (174, v) w := by kernel_rfl
theorem noIsE (v : Value) (xT : TypeId) (w : World) : (Instr.typeAssert (.iface 190 v) xT 213 true).run Tryz.prog w = .ok (.tuple #[.nilIface, .bool false]) w := run_typeAssert_lacksB Tryz.underlying213 (by kernel_rfl) (by kernel_rfl) v xT w
theorem noUnwrapE (v : Value) (xT : TypeId) (w : World) : (Instr.typeAssert (.iface 190 v) xT 216 true).run Tryz.prog w = .ok (.tuple #[.nilIface, .bool false]) w := run_typeAssert_lacksB Tryz.underlying216 (by kernel_rfl) (by kernel_rfl) v xT w
theorem noUnwrapsE (v : Value) (xT : TypeId) (w : World) : (Instr.typeAssert (.iface 190 v) xT 218 true).run Tryz.prog w = .ok (.tuple #[.nilIface, .bool false]) w := run_typeAssert_lacksB Tryz.underlying218 (by kernel_rfl) (by kernel_rfl) v xT w
def ErN (e : Int) : Prop := e = 1 ∨ e = 4 ∨ e = 7 ∨ e = 9 ∨ e = 11
theorem eqFailN {e : Int} (h : ErN e) (w : World) : (binOp .eql 153 (.iface 190 (.agg #[.int .i64 e])) (.iface 190 (.agg #[.int .i64 12]))).run Tryz.prog w = Result.ok (.bool false) w := by
  rcases h with rfl | rfl | rfl | rfl | rfl <;> kernel_rfl
theorem eqFail12 (w : World) : (binOp .eql 153 (.iface 190 (.agg #[.int .i64 12])) (.iface 190 (.agg #[.int .i64 12]))).run Tryz.prog w = Result.ok (.bool true) w := by kernel_rfl
theorem is_nil (v : Value) (w : World) :
    Calls Tryz.prog 104 #[.nilIface, .iface 190 v] w fun e w' => e = .returned (.bool false) ∧ w' = w := by
  have hn := run_eql_iface_nil_left (P := Tryz.prog) w 190 v Tryz.underlying153
  go_enter Tryz.func104, Tryz.ntmps104
  go_wp2
  go_ret
  exact ⟨rfl, rfl⟩
set_option maxRecDepth 100000 in
theorem is_same (w : World) :
    Calls Tryz.prog 104 #[.iface 190 (.agg #[.int .i64 12]), .iface 190 (.agg #[.int .i64 12])] w fun e w' => e = .returned (.bool true) ∧ w' = w := by
  have h8 := @run_callFunc_extern Tryz.prog 133 _ Extern.ReflectliteType.typeOf Tryz.func133 (by kernel_rfl) (by kernel_rfl) (by kernel_rfl) (by kernel_rfl)
  have tT := isTypeOf
  have cT := cmpCall
  have mR := isMethodComparable
  have heq := eqFail12 w
  go_enter Tryz.func104, Tryz.ntmps104
  go_wp2
  refine wp_loop_rounds 1 ?_
  rw [rounds_succ]
  go_wp2
  go_ret
  exact ⟨rfl, rfl⟩
set_option maxRecDepth 100000 in
theorem is_other {n : Int} (h : ErN n) (w : World) :
    Calls Tryz.prog 104 #[.iface 190 (.agg #[.int .i64 n]), .iface 190 (.agg #[.int .i64 12])] w fun e w' => e = .returned (.bool false) ∧ w' = w := by
  have h8 := @run_callFunc_extern Tryz.prog 133 _ Extern.ReflectliteType.typeOf Tryz.func133 (by kernel_rfl) (by kernel_rfl) (by kernel_rfl) (by kernel_rfl)
  have tT := isTypeOf
  have cT := cmpCall
  have mR := isMethodComparable
  have nE := noIsE
  have uE := noUnwrapE
  have vE := noUnwrapsE
  have heq := eqFailN h w
  clear h
  go_enter Tryz.func104, Tryz.ntmps104
  go_wp2
  refine wp_loop_rounds 1 ?_
  rw [rounds_succ]
  go_wp2
  go_ret
  exact ⟨rfl, rfl⟩
theorem assertFail (v : Value) (w : World) : (Instr.typeAssert (.iface 190 v) 153 190 true).run Tryz.prog w = .ok (.tuple #[v, .bool true]) w := by kernel_rfl
set_option maxRecDepth 100000 in
theorem number_any (n : Int) (w : World) : Calls Tryz.prog 105 #[.iface 190 (.agg #[.int .i64 n])] w fun e w' => e = .returned (.int .i64 n) ∧ Below w.heap.size w w' := by
  have HB : Hid (∀ o : Obj, Below w.heap.size w (w.alloc o)) := (show Hid _ from fun o => (Below.refl _ w).alloc (Nat.le_refl _) o)
  have hA := assertFail (.agg #[.int .i64 n])
  go_enter Tryz.func105, Tryz.ntmps105
  go_wp2
  go_ret
  exact ⟨rfl, HB.out _⟩
theorem number_nil (w : World) : Calls Tryz.prog 105 #[.nilIface] w fun e w' => e = .returned (.int .i64 0) ∧ w = w' := by
  go_enter Tryz.func105, Tryz.ntmps105
  go_wp2
  go_ret
  exact ⟨rfl, rfl⟩
end Go.Proofs.YtoiabanpnkpbhaaGreatDoor

namespace Go.Proofs.YtoiabanpnkpbhaaGreatDoor
open Go.RowKit

theorem opE_vals (P : Int) (ls : List (List Int)) : opE P ls = 0 ∨ opE P ls = 4 ∨ opE P ls = 9 := by
  unfold opE; split
  · exact .inr (.inr rfl)
  · split
    · exact .inr (.inr rfl)
    · split
      · exact .inr (.inl rfl)
      · exact .inl rfl
theorem fiE_vals (P : Int) (l : List (Int × Bool)) (k : Int) : fiE P l k = 0 ∨ ErN (fiE P l k) := by
  unfold ErN
  have hc : ceE P l = 0 ∨ ceE P l = 4 ∨ ceE P l = 9 := by
    unfold ceE; split
    · omega
    · split
      · omega
      · split <;> omega
  unfold fiE
  split
  · split
    · omega
    · split
      · omega
      · unfold inE
        split
        · split <;> omega
        · rcases opE_vals P [shX ((kn l).take k.toNat), shY ((kn l).take k.toNat)] with h | h | h <;> omega
  · omega
theorem own_sl' {w : World} {base e n : Nat} {v : Value} {xs : List Value} (h : w.ownsRow base e 1 v n xs) : ∃ A c, v = .slice A n c := by
  rcases h.2 with ⟨rfl, rfl⟩ | ⟨g, cap, cur, rfl, _⟩
  · exact ⟨none, 0, rfl⟩
  · exact ⟨_, cap, rfl⟩
def UdP (P : Int) (l : List (Int × Bool)) (k : Int) (w : World) (e : Ending) (w' : World) : Prop :=
  ∃ (out : List Int) (er : Int) (v1 v2 : Value), e = .returned (.tuple #[.agg #[v1, v2], .int .i64 er]) ∧ Below w.heap.size w w' ∧ UnR P l k out er ∧ w'.ownsRow w.heap.size 3 1 v1 out.length (out.map (Value.int .i64)) ∧ w'.ownsRow w.heap.size 3 1 v2 (if er = 0 then wrg P l out else []).length ((if er = 0 then wrg P l out else []).map (Value.int .i64))
theorem UdP.drew {P : Int} {l : List (Int × Bool)} {k : Int} {w wf : World} {e : Ending} (h : UdP P l k w e wf) : UdP P l k w e wf.drew := by
  obtain ⟨o, er, v1, v2, h1, h2, h3, h4, h5⟩ := h
  exact ⟨o, er, v1, v2, h1, h2.drew, h3, h4.drew, h5.drew⟩
set_option maxRecDepth 100000 in
set_option maxHeartbeats 4000000 in
theorem udecode_any (P : Int) (l : List (Int × Bool)) (k : Int) (v : Value) (w : World) (hPi : i64r P) (h : SCl w v l) (hz : l.length ≤ 1000000) (hE : EW w) :
    Calls Tryz.prog 88 #[.agg #[.int .i64 P], v, .int .i64 k] w (UdP P l k w) := by
  have HE := Lib.hid hE
  obtain ⟨A, c, rfl⟩ := h.form
  obtain ⟨wa, ewa⟩ : ∃ wa : World, wa = (w.alloc (.cells #[.int .i64 P] 31)).alloc (.cells #[.slice none 0 0, .slice none 0 0] 135) := ⟨_, rfl⟩
  have HBa : Hid (Below w.heap.size w wa) := (show Hid _ from by rw [ewa]; exact ((Below.refl _ w).alloc (Nat.le_refl _) _).alloc (by simp) _)
  have HZa : Hid (wa.heap[w.heap.size + 1]? = some (.cells #[.slice none 0 0, .slice none 0 0] 135 (0, 0))) := (show Hid _ from by
    show _ = _
    rw [ewa]
    have := heap_alloc_new (w.alloc (.cells #[.int .i64 P] 31)) (.cells #[.slice none 0 0, .slice none 0 0] 135)
    simpa using this)
  have hsa : w.heap.size + 2 = wa.heap.size := by rw [ewa]; simp
  have HSA := Lib.hid hsa
  have HWa : Hid ((w.alloc (.cells #[.int .i64 P] 31)).alloc (.cells #[.slice none 0 0, .slice none 0 0] 135) = wa) := ewa.symm
  have HDC := Lib.hid (udec_any P l k (.slice A l.length c) wa hPi (h.below HBa.out) hz (hE.below HBa.out))
  clear h hE ewa hsa
  go_enter Tryz.func88, Tryz.ntmps88
  go_wp2_with fail
  rw [HWa.out]
  (with_reducible refine HDC.out.mono ?_); rintro e1 w1 ⟨out, er, v1, v2, rfl, hb1, hun, hs1, hs2⟩
  obtain ⟨A1, c1, ev1⟩ := own_sl' hs1
  obtain ⟨A2, c2, ev2⟩ := own_sl' hs2
  subst ev1 ev2
  obtain ⟨n1, en1⟩ : ∃ n, n = out.length := ⟨_, rfl⟩
  obtain ⟨n2, en2⟩ : ∃ n, n = (if er = 0 then wrg P l out else []).length := ⟨_, rfl⟩
  rw [← en1] at hs1
  rw [← en2] at hs2
  rw [← en1, ← en2]
  have HN1 := Lib.hid en1
  have HN2 := Lib.hid en2
  have HS1 := Lib.hid hs1
  have HS2 := Lib.hid hs2
  have HUN := Lib.hid hun
  obtain ⟨Z, eZ⟩ : ∃ Z, Z = w.heap.size + 1 := ⟨_, rfl⟩
  have HB1 : Hid (Below w.heap.size w w1) := (show Hid _ from HBa.out.trans (hb1.mono (by have := HSA.out; omega)))
  have HZ1 : Hid (w1.heap[Z]? = some (.cells #[.slice none 0 0, .slice none 0 0] 135 (0, 0))) := (show Hid _ from by rw [eZ]; exact (hb1.block _ (by have := HSA.out; omega)).trans HZa.out)
  have hZ1 : Z < w1.heap.size := by have := hb1.size; have := HSA.out; omega
  have hZw : w.heap.size ≤ Z := by omega
  obtain ⟨b8, eb8⟩ : ∃ b, b = w1.heap.size := ⟨_, rfl⟩
  obtain ⟨w2, ew2⟩ : ∃ w2 : World, w2 = w1.alloc (.cells #[.slice A1 n1 c1, .slice A2 n2 c2] 135) := ⟨_, rfl⟩
  have HW2 : Hid (w1.alloc (.cells #[.slice A1 n1 c1, .slice A2 n2 c2] 135) = w2) := ew2.symm
  have HB2 : Hid (Below w1.heap.size w1 w2) := (show Hid _ from by rw [ew2]; exact (Below.refl _ w1).alloc (Nat.le_refl _) _)
  have HB2w : Hid (Below w.heap.size w w2) := (show Hid _ from HB1.out.trans (HB2.out.mono HB1.out.size))
  have HD2 : Hid (w2.heap[b8]? = some (.cells #[.slice A1 n1 c1, .slice A2 n2 c2] 135 (0, 0))) := (show Hid _ from by show _ = _; rw [ew2, eb8]; exact heap_alloc_new w1 _)
  have HZ2 : Hid (w2.heap[Z]? = some (.cells #[.slice none 0 0, .slice none 0 0] 135 (0, 0))) := (show Hid _ from (HB2.out.block Z hZ1).trans HZ1.out)
  have hE2 : EW w2 := HE.out.below HB2w.out
  have hZb : Z < b8 := by omega
  have cg := hE2.1
  have z0 : w2.cell? ⟨Z, 0, none⟩ = some (.slice none 0 0) := cell_of_row w2 _ 0 _ _ _ HZ2.out
  have z1 : w2.cell? ⟨Z, 1, none⟩ = some (.slice none 0 0) := cell_of_row w2 _ 1 _ _ _ HZ2.out
  have g0 := frozen_of_row w2 Z 0 _ _ HZ2.out
  have g1 := frozen_of_row w2 Z 1 _ _ HZ2.out
  have y0 : w2.cell? ⟨b8, 0, none⟩ = some (.slice A1 n1 c1) := cell_of_row w2 _ 0 _ _ _ HD2.out
  have y1 : w2.cell? ⟨b8, 1, none⟩ = some (.slice A2 n2 c2) := cell_of_row w2 _ 1 _ _ _ HD2.out
  have hb8w : b8 < w2.heap.size := heap_of_cells HD2.out
  have HEB := Lib.hid eb8
  have HZW := Lib.hid eZ
  rw [← eZ]
  clear hs1 hs2 hun hb1 ew2 eZ en1 en2 hE2
  by_cases h12 : er = 12
  · subst h12
    have HUF : Hid (UnR P l k [] 12) := (show Hid _ from by
      rcases HUN.out with ⟨q1, q2, q3⟩ | ⟨q1, ⟨q2, _⟩ | ⟨q2, q3, q4⟩⟩
      · rw [← q3]; exact HUN.out
      · cases q2
      · rw [← q3]; exact HUN.out)
    have hev : errV 12 = .iface 190 (.agg #[.int .i64 12]) := rfl
    rw [hev]
    clear hev eb8
    go_upto_region 2 with fail
    rw [HW2.out, ← HEB.out]
    go_wp2_with (go_at_call 104; refine (is_same _).mono ?_; rintro e9 w9 ⟨rfl, rfl⟩)
    have r0 := (res2' HZ2.out (.slice none 0 0) (.slice none 0 0)).1
    have r1 := (res2' HZ2.out (.slice none 0 0) (.slice none 0 0)).2
    refine bodyPost_ret (v := .tuple #[.agg #[.slice none 0 0, .slice none 0 0], .int .i64 12]) (by simp [results, Tryz.results88, go_sem, r0, r1]) rfl ⟨[], 12, .slice none 0 0, .slice none 0 0, rfl, ?_, HUF.out, World.ownsRow_nil _ _ _ _, World.ownsRow_nil _ _ _ _⟩
    exact (HB2w.out.setCell (by show w.heap.size ≤ Z; omega) _).setCell (by show w.heap.size ≤ Z; omega) _
  · have hvn : w1.ownsRow w.heap.size 3 1 (.slice A1 n1 c1) n1 (out.map (Value.int .i64)) := own_lo HS1.out (by have := HSA.out; omega)
    have hvn2 : w1.ownsRow w.heap.size 3 1 (.slice A2 n2 c2) n2 ((if er = 0 then wrg P l out else []).map (Value.int .i64)) := own_lo HS2.out (by have := HSA.out; omega)
    have herr : er = 0 ∨ ErN er := by
      rcases HUN.out with ⟨q1, q2, _⟩ | ⟨_, ⟨q2, _⟩ | ⟨q2, _, _⟩⟩
      · rw [q2]; exact fiE_vals P l k
      · exact .inl q2
      · exact absurd q2 h12
    have HFIN : Hid (∀ w9 : World, Below w2.heap.size w2 w9 → ∀ wf : World, wf = (w9.setCell ⟨Z, 0, none⟩ (.slice A1 n1 c1)).setCell ⟨Z, 1, none⟩ (.slice A2 n2 c2) →
        UdP P l k w (.returned (.tuple #[.agg #[.slice A1 n1 c1, .slice A2 n2 c2], .int .i64 er])) wf) := (show Hid _ from fun w9 hb wf ewf => by
      have hz : Z < wa.heap.size := by have := HSA.out; have := HZW.out; omega
      have h1 := own_set3 (own_set3 (own_bel (own_bel HS1.out HB2.out) hb) (p := ⟨Z, 0, none⟩) hz (.slice A1 n1 c1)) (p := ⟨Z, 1, none⟩) hz (.slice A2 n2 c2)
      have h2 := own_set3 (own_set3 (own_bel (own_bel HS2.out HB2.out) hb) (p := ⟨Z, 0, none⟩) hz (.slice A1 n1 c1)) (p := ⟨Z, 1, none⟩) hz (.slice A2 n2 c2)
      have hws : w.heap.size ≤ wa.heap.size := HBa.out.size
      refine ⟨out, er, _, _, rfl, ?_, HUN.out, ?_, ?_⟩
      · rw [ewf]; exact ((HB2w.out.trans (hb.mono HB2w.out.size)).setCell (p := ⟨Z, 0, none⟩) hZw _).setCell (p := ⟨Z, 1, none⟩) hZw _
      · rw [ewf]; rw [← HN1.out] ; exact own_lo h1 hws
      · rw [ewf]; rw [← HN2.out]; exact own_lo h2 hws)
    have HZ9 : Hid (∀ w9 : World, Below w2.heap.size w2 w9 → w9.heap[Z]? = some (.cells #[.slice none 0 0, .slice none 0 0] 135 (0, 0))) := (show Hid _ from fun w9 hb => (hb.block Z (by omega)).trans HZ2.out)
    have HD9 : Hid (∀ w9 : World, Below w2.heap.size w2 w9 → w9.heap[b8]? = some (.cells #[.slice A1 n1 c1, .slice A2 n2 c2] 135 (0, 0))) := (show Hid _ from fun w9 hb => (hb.block b8 hb8w).trans HD2.out)
    have zn1 : ¬ Z = b8 := by omega
    have zn2 : ¬ b8 = Z := by omega
    clear hvn hvn2 eb8
    rcases herr with h0 | h0
    · subst h0
      have hev : errV 0 = .nilIface := rfl
      rw [hev]
      clear hev h12
      go_upto_region 2 with fail
      rw [HW2.out, ← HEB.out]
      go_wp2_with (go_at_call 104; refine (is_nil _ _).mono ?_; rintro e9 w9 ⟨rfl, hw9⟩; have hw8 := hw9.symm; clear hw9; subst hw8)
      go_region_with ((go_at_call 105; refine (number_nil _).mono ?_; rintro e9 w9 ⟨rfl, rfl⟩))
      all_goals
        go_wp2_with fail
        have r0 := (res2 HZ2.out (.slice A1 n1 c1) (.slice A2 n2 c2)).1
        have r1 := (res2 HZ2.out (.slice A1 n1 c1) (.slice A2 n2 c2)).2
        have r2 := (res2' HZ2.out (.slice A1 n1 c1) (.slice A2 n2 c2)).1
        have r3 := (res2' HZ2.out (.slice A1 n1 c1) (.slice A2 n2 c2)).2
        refine bodyPost_ret (v := .tuple #[.agg #[.slice A1 n1 c1, .slice A2 n2 c2], .int .i64 0]) (by first | (simp [results, Tryz.results88, go_sem, r0, r1]; done) | (simp [results, Tryz.results88, go_sem, r2, r3]; done)) rfl ?_
        first | exact HFIN.out w2 (Below.refl _ _) _ rfl | exact (HFIN.out w2 (Below.refl _ _) _ rfl).drew
    · have HEV : Hid (errV er = .iface 190 (.agg #[.int .i64 er])) := (show Hid _ from by
        show _ = _
        unfold errV; rw [if_neg (by unfold ErN at h0; omega)])
      have HE0 := Lib.hid h0
      rw [HEV.out]
      clear h0 h12
      go_upto_region 2 with fail
      rw [HW2.out, ← HEB.out]
      go_wp2_with (go_at_call 104; refine (is_other HE0.out _).mono ?_; rintro e9 w9 ⟨rfl, hw9⟩; have hw8 := hw9.symm; clear hw9; subst hw8)
      go_region_with ((go_at_call 105; refine (number_any er _).mono ?_; rintro e9 w9 ⟨rfl, hb9⟩; have HB9 : Hid (Below w2.heap.size w2 w9) := (show Hid _ from ⟨hb9.os, hb9.tape, hb9.output, hb9.size, hb9.block⟩); have z0 : w9.cell? ⟨Z, 0, none⟩ = some (.slice none 0 0) := cell_of_row w9 _ 0 _ _ _ (HZ9.out w9 HB9.out); have z1 : w9.cell? ⟨Z, 1, none⟩ = some (.slice none 0 0) := cell_of_row w9 _ 1 _ _ _ (HZ9.out w9 HB9.out); have g0 := frozen_of_row w9 Z 0 _ _ (HZ9.out w9 HB9.out); have g1 := frozen_of_row w9 Z 1 _ _ (HZ9.out w9 HB9.out); have y0 : w9.cell? ⟨b8, 0, none⟩ = some (.slice A1 n1 c1) := cell_of_row w9 _ 0 _ _ _ (HD9.out w9 HB9.out); have y1 : w9.cell? ⟨b8, 1, none⟩ = some (.slice A2 n2 c2) := cell_of_row w9 _ 1 _ _ _ (HD9.out w9 HB9.out); clear hb9))
      all_goals
        go_wp2_with fail
        have r0 := (res2 (HZ9.out w9 HB9.out) (.slice A1 n1 c1) (.slice A2 n2 c2)).1
        have r1 := (res2 (HZ9.out w9 HB9.out) (.slice A1 n1 c1) (.slice A2 n2 c2)).2
        have r2 := (res2' (HZ9.out w9 HB9.out) (.slice A1 n1 c1) (.slice A2 n2 c2)).1
        have r3 := (res2' (HZ9.out w9 HB9.out) (.slice A1 n1 c1) (.slice A2 n2 c2)).2
        refine bodyPost_ret (v := .tuple #[.agg #[.slice A1 n1 c1, .slice A2 n2 c2], .int .i64 er]) (by simp [results, Tryz.results88, go_sem, r2, r3]) rfl ?_
        first | exact HFIN.out w9 HB9.out _ rfl | exact (HFIN.out w9 HB9.out _ rfl).drew
end Go.Proofs.YtoiabanpnkpbhaaGreatDoor

namespace Go.Proofs.YtoiabanpnkpbhaaGreatDoor
open Go.RowKit

theorem coef_any (l : List Int) (k : Nat) (v : Value) (w : World) (h : SI w v l) (hl : l.length ≤ 1000000) :
    Calls Tryz.prog 89 #[v, .int .i64 k] w fun e w' => e = .returned (.int .i64 (gd l k)) ∧ w = w' := by
  obtain ⟨A, c, rfl, hcc, hm, hr, ha⟩ := h
  have HA := Lib.hid ha
  clear hr ha
  go_enter Tryz.func89, Tryz.ntmps89
  by_cases hlt : k < l.length
  · obtain ⟨b, off, rfl, hb, hcell⟩ := HA.out (by omega)
    have hck := hcell k hlt
    clear hcell
    have hd1 : decide ((k : Int) < (l.length : Int)) = true := decide_eq_true (by omega)
    have hd2 : decide (k < l.length) = true := decide_eq_true hlt
    go_wp2_with fail
    go_ret
    exact ⟨by simp [gd, hlt], rfl⟩
  · have hd1 : decide ((k : Int) < (l.length : Int)) = false := decide_eq_false (by omega)
    have hd2 : decide (k < l.length) = false := decide_eq_false hlt
    go_wp2_with fail
    go_ret
    exact ⟨by simp [gd, hlt], rfl⟩

/-- A slice of answers: whether each is known, and its row. -/
def SAn (w : World) (v : Value) (l : List (Bool × List Int)) : Prop :=
  ∃ A c, v = .slice A l.length c ∧ l.length ≤ c ∧ c ≤ 9223372036854775807 ∧
    (0 < l.length → ∃ b off, A = some ⟨b, off, none⟩ ∧ b < w.heap.size ∧ ∀ j (h : j < l.length), w.cell? ⟨b, off + j * 2, none⟩ = some (.bool l[j].1) ∧ ∃ vr, w.cell? ⟨b, off + j * 2 + 1, none⟩ = some vr ∧ SI w vr l[j].2)
theorem SAn.below {w w' : World} {v : Value} {l : List (Bool × List Int)} (h : SAn w v l) (hb : Below w.heap.size w w') : SAn w' v l := by
  obtain ⟨A, c, rfl, hc, hm, ha⟩ := h
  refine ⟨A, c, rfl, hc, hm, fun h0 => ?_⟩
  obtain ⟨b, off, rfl, hbl, hcell⟩ := ha h0
  refine ⟨b, off, rfl, by have := hb.size; omega, fun j hj => ?_⟩
  obtain ⟨h1, vr, h2, h3⟩ := hcell j hj
  exact ⟨(hb.cell hbl).trans h1, vr, (hb.cell hbl).trans h2, h3.below hb⟩
theorem SAn.form {w : World} {v : Value} {l : List (Bool × List Int)} (h : SAn w v l) : ∃ A c, v = .slice A l.length c := by
  obtain ⟨A, c, rfl, _⟩ := h
  exact ⟨A, c, rfl⟩
/-- the cells of a column -/
def colC (l : List (Bool × List Int)) (i : Nat) : List (Int × Bool) := l.map fun a => (if a.1 then gd a.2 i else 0, a.1)
theorem colC_length (l : List (Bool × List Int)) (i : Nat) : (colC l i).length = l.length := by simp [colC]
theorem colC_get (l : List (Bool × List Int)) (i j : Nat) (h : j < l.length) : (colC l i)[j]'(by rw [colC_length]; exact h) = (if l[j].1 then gd l[j].2 i else 0, l[j].1) := by simp [colC]
theorem colC_take (l : List (Bool × List Int)) (i j : Nat) (h : j < l.length) : colC (l.take (j + 1)) i = colC (l.take j) i ++ [(if l[j].1 then gd l[j].2 i else 0, l[j].1)] := by
  unfold colC
  rw [← List.take_append_getElem h, List.map_append]
  simp
/-- the memory of a cell -/
def cpc (x : Int × Bool) : List Value := [.int .i64 x.1, .bool x.2]
theorem cpc_get : ∀ (l : List (Int × Bool)) (j : Nat) (h : j < l.length), (l.flatMap cpc)[j * 2]? = some (.int .i64 l[j].1) ∧ (l.flatMap cpc)[j * 2 + 1]? = some (.bool l[j].2)
  | x :: t, 0, _ => by simp [cpc]
  | x :: t, j + 1, h => by
    have := cpc_get t j (by simpa using h)
    refine ⟨?_, ?_⟩
    · have e : (j + 1) * 2 = j * 2 + 1 + 1 := by omega
      rw [e]; simpa [cpc] using this.1
    · have e : (j + 1) * 2 + 1 = j * 2 + 1 + 1 + 1 := by omega
      rw [e]; simpa [cpc] using this.2
theorem own_scl {w : World} {base : Nat} {e : TypeId} {v : Value} {l : List (Int × Bool)} (h : w.ownsRow base e 2 v l.length (l.flatMap cpc)) (hr : ∀ x ∈ l, i64r x.1) : SCl w v l := by
  rcases h.2 with ⟨rfl, hn⟩ | ⟨g, cap, cur, rfl, hb, hg, hnc, hcm, hcs, htake⟩
  · have : l = [] := List.eq_nil_of_length_eq_zero hn
    subst this
    exact ⟨none, 0, rfl, Nat.le_refl _, by omega, hr, fun h => by simp at h⟩
  · refine ⟨_, cap, rfl, hnc, by simpa [maxLen] using hcm, hr, fun h0 => ⟨g, 0, rfl, heap_of_cells hg, fun j hj => ?_⟩⟩
    have h1 := h.cellAt (j * 2) (by omega)
    have h2 := h.cellAt (j * 2 + 1) (by omega)
    rw [Nat.zero_add, h1, h2]
    exact cpc_get l j hj
theorem colC_rng (l : List (Bool × List Int)) (i : Nat) (h : ∀ a ∈ l, ∀ x ∈ a.2, i64r x) : ∀ x ∈ colC l i, i64r x.1 := by
  intro x hx
  unfold colC at hx
  obtain ⟨a, ha, rfl⟩ := List.mem_map.1 hx
  have h0 : i64r 0 := by unfold i64r; omega
  show i64r (if a.1 then gd a.2 i else 0)
  split
  · unfold gd
    cases hg : a.2[i]? with
    | none => exact h0
    | some y => exact h a ha y (List.mem_of_getElem? hg)
  · exact h0
theorem own_snocC {w : World} {base n : Nat} {e : TypeId} {v : Value} {l : List (Int × Bool)} {y : Int} {b : Bool} (h : w.ownsRow base e 2 v n (l.flatMap cpc ++ [.int .i64 y, .bool b])) : w.ownsRow base e 2 v n ((l ++ [(y, b)]).flatMap cpc) := by
  have e : (l ++ [(y, b)]).flatMap cpc = l.flatMap cpc ++ [.int .i64 y, .bool b] := by simp [cpc]
  rw [e]; exact h
theorem SAn.rng {w : World} {v : Value} {l : List (Bool × List Int)} (h : SAn w v l) : ∀ a ∈ l, ∀ x ∈ a.2, i64r x := by
  obtain ⟨A, c, _, _, _, ha⟩ := h
  intro a hm x hx
  obtain ⟨j, hj, rfl⟩ := List.mem_iff_getElem.1 hm
  obtain ⟨b, off, _, _, hc⟩ := ha (by omega)
  obtain ⟨_, vr, _, A2, c2, _, _, _, hr, _⟩ := hc j hj
  exact hr x hx
end Go.Proofs.YtoiabanpnkpbhaaGreatDoor

namespace Go.Proofs.YtoiabanpnkpbhaaGreatDoor
open Go.RowKit

theorem clinfo : (Tryz.prog.info? 140).map (fun i => (i.zero, i.size, i.bytes)) = some (some (.agg #[.int .i64 0, .bool false]), 2, 16) := by kernel_rfl
def CdR (l : List (Bool × List Int)) (ci : Nat) (w0 : World) (s i : Value) (wr : World) : Prop :=
  ∃ k : Nat, k ≤ l.length ∧ i = .int .i64 k ∧ wr.ownsRow w0.heap.size 140 2 s (colC (l.take k) ci).length ((colC (l.take k) ci).flatMap cpc) ∧ Below w0.heap.size w0 wr
set_option maxRecDepth 100000 in
set_option maxHeartbeats 4000000 in
theorem cdec_any (P k : Int) (l : List (Bool × List Int)) (ci : Nat) (v : Value) (w : World) (hPi : i64r P) (h : SAn w v l) (hz : l.length ≤ 1000000) (hci : ci ≤ 1000000) (hw : ∀ a ∈ l, a.1 = true → ci < a.2.length) (hE : EW w) :
    Calls Tryz.prog 66 #[.agg #[.int .i64 P, .int .i64 k, v], .int .i64 ci] w (UdP P (colC l ci) k w) := by
  have HS := Lib.hid h
  have HE := Lib.hid hE
  have HW := Lib.hid hw
  have HRNG := Lib.hid (colC_rng l ci h.rng)
  obtain ⟨A, c, rfl⟩ := h.form
  clear h hE hw
  obtain ⟨ic, hi0, hi1, hi2, hi3⟩ := info_parts clinfo
  go_enter Tryz.func66, Tryz.ntmps66
  obtain ⟨w0, ew⟩ : ∃ w0 : World, w0 = (w.alloc (.cells #[.int .i64 P, .int .i64 k, .slice A l.length c] 105)).alloc (.cells #[.slice none 0 0, .slice none 0 0] 135) := ⟨_, rfl⟩
  have HW0 : Hid ((w.alloc (.cells #[.int .i64 P, .int .i64 k, .slice A l.length c] 105)).alloc (.cells #[.slice none 0 0, .slice none 0 0] 135) = w0) := ew.symm
  have HB0 : Hid (Below w.heap.size w w0) := (show Hid _ from by rw [ew]; exact ((Below.refl _ _).alloc (Nat.le_refl _) _).alloc (by simp) _)
  have HZ1 : Hid (w0.heap[w.heap.size + 1]? = some (.cells #[.slice none 0 0, .slice none 0 0] 135 (0, 0))) := (show Hid _ from by show _ = _; rw [ew]; simpa using heap_alloc_new (w.alloc (.cells #[.int .i64 P, .int .i64 k, .slice A l.length c] 105)) _)
  have HZ0 : Hid (w0.heap[w.heap.size]? = some (.cells #[.int .i64 P, .int .i64 k, .slice A l.length c] 105 (0, 0))) := (show Hid _ from by
    show _ = _
    rw [ew]
    exact (((Below.refl (w.heap.size + 1) (w.alloc (.cells #[.int .i64 P, .int .i64 k, .slice A l.length c] 105))).alloc (by simp) _).block _ (by omega)).trans (heap_alloc_new w _))
  have hz0 : w0.heap.size = w.heap.size + 2 := by rw [ew]; simp
  clear ew
  have a2 : w0.cell? ⟨w.heap.size, 2, none⟩ = some (.slice A l.length c) := cell_of_row w0 _ 2 _ _ _ HZ0.out
  go_upto_region 3 with fail
  rw [HW0.out]
  go_loopw [6, 13] (fun s i wr => CdR l ci w0 s i wr) (fun _ i _ => l.length - (intOf i).toNat)
  case atStart => exact ⟨0, Nat.zero_le _, rfl, World.ownsRow_nil _ _ _ _, Below.refl _ _⟩
  case round =>
    obtain ⟨kk, hk, rfl, hown, hbel⟩ := hrel
    obtain ⟨As, cs, rfl⟩ := own_sl hown
    have HO := Lib.hid hown
    have HB := Lib.hid hbel
    have hzr : w0.heap.size ≤ wr.heap.size := hbel.size
    clear hown hbel
    have a2r : wr.cell? ⟨w.heap.size, 2, none⟩ = some (.slice A l.length c) := (HB.out.cell (p := ⟨w.heap.size, 2, none⟩) (by show w.heap.size < _; omega)).trans a2
    have a0r : wr.cell? ⟨w.heap.size, 0, none⟩ = some (.int .i64 P) := (HB.out.cell (p := ⟨w.heap.size, 0, none⟩) (by show w.heap.size < _; omega)).trans (cell_of_row w0 _ 0 _ _ _ HZ0.out)
    have a1r : wr.cell? ⟨w.heap.size, 1, none⟩ = some (.int .i64 k) := (HB.out.cell (p := ⟨w.heap.size, 1, none⟩) (by show w.heap.size < _; omega)).trans (cell_of_row w0 _ 1 _ _ _ HZ0.out)
    by_cases hlt : kk < l.length
    · obtain ⟨A', c', e, _, _, ha⟩ := HS.out
      injection e with e1 e2 e3
      subst e1
      obtain ⟨b, off, rfl, hb, hcell⟩ := ha (by omega)
      obtain ⟨c1, vr, c2, hsr⟩ := hcell kk hlt
      have HBw : Hid (Below w.heap.size w wr) := (show Hid _ from HB0.out.trans (HB.out.mono HB0.out.size))
      have c1 := (HBw.out.cell (p := ⟨b, off + kk * 2, none⟩) hb).trans c1
      have c2 := (HBw.out.cell (p := ⟨b, off + kk * 2 + 1, none⟩) hb).trans c2
      have hbw : b < wr.heap.size := by omega
      obtain ⟨row, er⟩ : ∃ row, row = l[kk].2 := ⟨_, rfl⟩
      obtain ⟨kb, ekb⟩ : ∃ kb, kb = l[kk].1 := ⟨_, rfl⟩
      have HWR : Hid (kb = true → ci < row.length) := (show Hid _ from fun h => by rw [er]; exact HW.out _ (List.getElem_mem _) (by rw [← ekb]; exact h))
      have HSN : Hid (colC (l.take (kk + 1)) ci = colC (l.take kk) ci ++ [(if kb then gd row ci else 0, kb)]) := (show Hid _ from by show _ = _; rw [colC_take l ci kk hlt, er, ekb])
      rw [← er] at hsr
      rw [← ekb] at c1
      have HSR := Lib.hid (hsr.below HBw.out)
      obtain ⟨Ar, cr, rfl⟩ := hsr.form
      have hcl : (colC (l.take kk) ci).length = kk := by rw [colC_length, List.length_take]; omega
      clear ha hcell e2 e3 er ekb hsr
      have hd : decide (kk < l.length) = true := decide_eq_true hlt
      have hwK : IntKind.i64.wrap ((kk : Int) + 1) = (kk : Int) + 1 := by exact IntWalk.i64_in _ (by omega)
      obtain ⟨D, hD⟩ : ∃ D, colC (l.take kk) ci = D := ⟨_, rfl⟩
      rw [hD] at HO HSN hcl ⊢
      have hDl : D.length ≤ 1000000 := by omega
      clear hD hcl
      cases kb with
      | false =>
        go_upto_region 8 with fail
        obtain ⟨wx, ewx⟩ : ∃ wx : World, wx = (wr.alloc (.cells #[.bool false, .slice Ar row.length cr] 61)).alloc (.cells #[.int .i64 0, .bool false] 140) := ⟨_, rfl⟩
        have HBx : Hid (Below wr.heap.size wr wx) := (show Hid _ from by rw [ewx]; exact ((Below.refl wr.heap.size wr).alloc (Nat.le_refl _) _).alloc (by simp) _)
        have HC9 : Hid (wx.heap[wr.heap.size + 1]? = some (.cells #[.int .i64 0, .bool false] 140 (0, 0))) := (show Hid _ from by
          show _ = _
          rw [ewx]
          have := heap_alloc_new (wr.alloc (.cells #[.bool false, .slice Ar row.length cr] 61)) (.cells #[.int .i64 0, .bool false] 140)
          simpa using this)
        have HO8x : Hid (wx.ownsRow w0.heap.size 140 2 (.slice As D.length cs) D.length (D.flatMap cpc)) := (show Hid _ from own_bel HO.out HBx.out)
        have HBX : Hid (Below w0.heap.size w0 wx) := (show Hid _ from HB.out.trans (HBx.out.mono hzr))
        have hzx : w0.heap.size ≤ wx.heap.size := HBX.out.size
        obtain ⟨q, eq⟩ : ∃ q, q = wr.heap.size + 1 := ⟨_, rfl⟩
        rw [← eq] at HC9
        have HWX : Hid ((wr.alloc (.cells #[.bool false, .slice Ar row.length cr] 61)).alloc (.cells #[.int .i64 0, .bool false] 140) = wx) := ewx.symm
        rw [HWX.out, ← eq]
        clear eq ewx
        have y0 : wx.cell? ⟨q, 0, none⟩ = some (.int .i64 0) := cell_of_row wx q 0 _ _ _ HC9.out
        have y1 : wx.cell? ⟨q, 1, none⟩ = some (.bool false) := cell_of_row wx q 1 _ _ _ HC9.out
        go_wp2_with (at_builtin; refine wpList_append_own _ rfl _ _ 138 rfl w0.heap.size 140 ic _ 2 16 Tryz.underlying138 hi0 hi1 hi2 hi3 rfl (by omega) _ _ _ rfl (HO8x.out.alloc _) ⟨wx.heap.size, 0, none⟩ 1 1 [.int .i64 0, .bool false] rfl rfl (cells_new wx _ _) (by intro u hu; simp at hu; rcases hu with rfl | rfl <;> rfl) (by unfold maxLen; omega) (by omega) (by simp; omega) ?_; intro v8 w8 hown8 hg8 _; have HB8 : Hid (Below w0.heap.size w0 w8) := (show Hid _ from (HBX.out.alloc hzx _).grown hg8 (by simp; omega) (fun k hk => (HO8x.out.lt k hk).1)); have HO8 := Lib.hid hown8; clear hown8 hg8)
        go_roundw
        case rel =>
          refine ⟨kk + 1, by omega, by go_num, ?_, HB8.out⟩
          rw [HSN.out, List.length_append]
          exact own_snocC HO8.out
        case measure => simp [intOf]; omega
      | true =>
        have hcr : ci < row.length := HWR.out rfl
        obtain ⟨Ar', cr', e, _, _, _, ha⟩ := HSR.out
        injection e with e1 e2 e3
        subst e1
        obtain ⟨b2, off2, rfl, hb2, hcell⟩ := ha (by omega)
        have c3 := hcell ci hcr
        have HGD : Hid (gd row ci = row[ci]) := (show Hid _ from by show _ = _; simp [gd, hcr])
        rw [← HGD.out] at c3
        generalize gd row ci = y at c3 HSN
        have hd3 : decide (ci < row.length) = true := decide_eq_true hcr
        clear ha hcell e2 e3
        go_upto_region 8 with fail
        obtain ⟨wx, ewx⟩ : ∃ wx : World, wx = (wr.alloc (.cells #[.bool true, .slice (some ⟨b2, off2, none⟩) row.length cr] 61)).alloc (.cells #[.int .i64 y, .bool true] 140) := ⟨_, rfl⟩
        have HBx : Hid (Below wr.heap.size wr wx) := (show Hid _ from by rw [ewx]; exact ((Below.refl wr.heap.size wr).alloc (Nat.le_refl _) _).alloc (by simp) _)
        have HC9 : Hid (wx.heap[wr.heap.size + 1]? = some (.cells #[.int .i64 y, .bool true] 140 (0, 0))) := (show Hid _ from by
          show _ = _
          rw [ewx]
          have := heap_alloc_new (wr.alloc (.cells #[.bool true, .slice (some ⟨b2, off2, none⟩) row.length cr] 61)) (.cells #[.int .i64 y, .bool true] 140)
          simpa using this)
        have HO8x : Hid (wx.ownsRow w0.heap.size 140 2 (.slice As D.length cs) D.length (D.flatMap cpc)) := (show Hid _ from own_bel HO.out HBx.out)
        have HBX : Hid (Below w0.heap.size w0 wx) := (show Hid _ from HB.out.trans (HBx.out.mono hzr))
        have hzx : w0.heap.size ≤ wx.heap.size := HBX.out.size
        obtain ⟨q, eq⟩ : ∃ q, q = wr.heap.size + 1 := ⟨_, rfl⟩
        rw [← eq] at HC9
        have HWX : Hid ((wr.alloc (.cells #[.bool true, .slice (some ⟨b2, off2, none⟩) row.length cr] 61)).alloc (.cells #[.int .i64 y, .bool true] 140) = wx) := ewx.symm
        rw [HWX.out, ← eq]
        clear eq ewx
        have y0 : wx.cell? ⟨q, 0, none⟩ = some (.int .i64 y) := cell_of_row wx q 0 _ _ _ HC9.out
        have y1 : wx.cell? ⟨q, 1, none⟩ = some (.bool true) := cell_of_row wx q 1 _ _ _ HC9.out
        go_wp2_with (at_builtin; refine wpList_append_own _ rfl _ _ 138 rfl w0.heap.size 140 ic _ 2 16 Tryz.underlying138 hi0 hi1 hi2 hi3 rfl (by omega) _ _ _ rfl (HO8x.out.alloc _) ⟨wx.heap.size, 0, none⟩ 1 1 [.int .i64 y, .bool true] rfl rfl (cells_new wx _ _) (by intro u hu; simp at hu; rcases hu with rfl | rfl <;> rfl) (by unfold maxLen; omega) (by omega) (by simp; omega) ?_; intro v8 w8 hown8 hg8 _; have HB8 : Hid (Below w0.heap.size w0 w8) := (show Hid _ from (HBX.out.alloc hzx _).grown hg8 (by simp; omega) (fun k hk => (HO8x.out.lt k hk).1)); have HO8 := Lib.hid hown8; clear hown8 hg8)
        go_roundw
        case rel =>
          refine ⟨kk + 1, by omega, by go_num, ?_, HB8.out⟩
          rw [HSN.out, List.length_append]
          exact own_snocC HO8.out
        case measure => simp [intOf]; omega
    · have hd : decide (kk < l.length) = false := decide_eq_false hlt
      have hkl : kk = l.length := by omega
      have HSC : Hid (SCl wr (.slice As (colC (l.take kk) ci).length cs) (colC l ci)) := (show Hid _ from by
        have h := HO.out
        rw [hkl, List.take_length] at h
        rw [hkl, List.take_length]
        exact own_scl h HRNG.out)
      have HBw : Hid (Below w.heap.size w wr) := (show Hid _ from HB0.out.trans (HB.out.mono HB0.out.size))
      have HUD := Lib.hid (udecode_any P (colC l ci) k (.slice As (colC (l.take kk) ci).length cs) wr hPi HSC.out (by rw [colC_length]; exact hz) (HE.out.below HBw.out))
      obtain ⟨ncl, encl⟩ : ∃ n, n = (colC (l.take kk) ci).length := ⟨_, rfl⟩
      rw [← encl] at HUD ⊢
      have HZr : Hid (wr.heap[w.heap.size + 1]? = some (.cells #[.slice none 0 0, .slice none 0 0] 135 (0, 0))) := (show Hid _ from (HB.out.block _ (by omega)).trans HZ1.out)
      clear a2 a2r hkl encl hlt
      go_wp2_with fail
      (with_reducible refine HUD.out.mono ?_)
      rintro e w9 ⟨out, er, v1, v2, rfl, hb9, hun, ho1, ho2⟩
      obtain ⟨A1, c1, ev1⟩ := own_sl' ho1
      obtain ⟨A2, c2, ev2⟩ := own_sl' ho2
      subst ev1 ev2
      obtain ⟨n1, en1⟩ : ∃ n, n = out.length := ⟨_, rfl⟩
      obtain ⟨n2, en2⟩ : ∃ n, n = (if er = 0 then wrg P (colC l ci) out else []).length := ⟨_, rfl⟩
      have HO1 := Lib.hid ho1
      have HO2 := Lib.hid ho2
      have HUN := Lib.hid hun
      have HB9 := Lib.hid hb9
      have HN1 := Lib.hid en1
      have HN2 := Lib.hid en2
      rw [← en1, ← en2]
      obtain ⟨Z, eZ⟩ : ∃ Z, Z = w.heap.size + 1 := ⟨_, rfl⟩
      rw [← eZ] at HZr ⊢
      have HEZ := Lib.hid eZ
      have hZr : Z < wr.heap.size := heap_of_cells HZr.out
      have HZ9 : Hid (w9.heap[Z]? = some (.cells #[.slice none 0 0, .slice none 0 0] 135 (0, 0))) := (show Hid _ from (hb9.block Z hZr).trans HZr.out)
      have z0 : w9.cell? ⟨Z, 0, none⟩ = some (.slice none 0 0) := cell_of_row w9 _ 0 _ _ _ HZ9.out
      have z1 : w9.cell? ⟨Z, 1, none⟩ = some (.slice none 0 0) := cell_of_row w9 _ 1 _ _ _ HZ9.out
      have g0 := frozen_of_row w9 Z 0 _ _ HZ9.out
      have g1 := frozen_of_row w9 Z 1 _ _ HZ9.out
      clear ho1 ho2 hun hb9 en1 en2 eZ a0r a1r
      go_wp2_with fail
      have r0 := (res2' HZ9.out (.slice A1 n1 c1) (.slice A2 n2 c2)).1
      have r1 := (res2' HZ9.out (.slice A1 n1 c1) (.slice A2 n2 c2)).2
      have hwZ : w.heap.size ≤ Z := by have := HEZ.out; omega
      refine bodyPost_ret (v := .tuple #[.agg #[.slice A1 n1 c1, .slice A2 n2 c2], .int .i64 er]) (by simp [results, Tryz.results66, go_sem, r0, r1]) rfl ⟨out, er, _, _, rfl, ?_, HUN.out, ?_, ?_⟩
      · exact ((HBw.out.trans (HB9.out.mono HBw.out.size)).setCell (p := ⟨Z, 0, none⟩) hwZ _).setCell (p := ⟨Z, 1, none⟩) hwZ _
      · have h := own_set3 (own_set3 HO1.out (p := ⟨Z, 0, none⟩) hZr (.slice A1 n1 c1)) (p := ⟨Z, 1, none⟩) hZr (.slice A2 n2 c2)
        rw [← HN1.out] at h ⊢
        exact own_lo h HBw.out.size
      · have h := own_set3 (own_set3 HO2.out (p := ⟨Z, 0, none⟩) hZr (.slice A1 n1 c1)) (p := ⟨Z, 1, none⟩) hZr (.slice A2 n2 c2)
        rw [← HN2.out] at h ⊢
        exact own_lo h HBw.out.size
end Go.Proofs.YtoiabanpnkpbhaaGreatDoor

namespace Go.Proofs
open Go.Shelf
def Tryz.lays189_ren : Go.Shelf.Ren := ⟨fun | 189 => 86 | 125 => 102 | 257 => 101 | 128 => 123 | 129 => 124 | 294 => 114 | 295 => 115 | 296 => 116 | 297 => 117 | 298 => 118 | 299 => 119 | 216 => 120 | 300 => 121 | 301 => 122 | 328 => 138 | 329 => 139 | 330 => 140 | 331 => 141 | 332 => 142 | 215 => 143 | 343 => 150 | n => n, fun | 28 => 22 | 3 => 3 | 46 => 119 | 0 => 0 | 51 => 179 | 53 => 181 | 4 => 4 | 183 => 172 | 182 => 171 | 131 => 176 | 5 => 5 | 9 => 9 | 218 => 196 | 222 => 200 | 228 => 222 | 229 => 223 | n => n, fun | n => n⟩
theorem Tryz.lays189 : Go.Proofs.Lays.n189 Tryz.prog Tryz.lays189_ren := {
  mixed := by kernel_rfl
  f125 := Tryz.func102.trans (congrArg some (by kernel_rfl))
  f128 := Tryz.func123.trans (congrArg some (by kernel_rfl))
  f129 := Tryz.func124.trans (congrArg some (by kernel_rfl))
  f189 := Tryz.func86.trans (congrArg some (by kernel_rfl))
  f215 := Tryz.func143.trans (congrArg some (by kernel_rfl))
  f216 := Tryz.func120.trans (congrArg some (by kernel_rfl))
  f257 := Tryz.func101.trans (congrArg some (by kernel_rfl))
  f294 := Tryz.func114.trans (congrArg some (by kernel_rfl))
  f295 := Tryz.func115.trans (congrArg some (by kernel_rfl))
  f296 := Tryz.func116.trans (congrArg some (by kernel_rfl))
  f297 := Tryz.func117.trans (congrArg some (by kernel_rfl))
  f298 := Tryz.func118.trans (congrArg some (by kernel_rfl))
  f299 := Tryz.func119.trans (congrArg some (by kernel_rfl))
  f300 := Tryz.func121.trans (congrArg some (by kernel_rfl))
  f301 := Tryz.func122.trans (congrArg some (by kernel_rfl))
  f328 := Tryz.func138.trans (congrArg some (by kernel_rfl))
  f329 := Tryz.func139.trans (congrArg some (by kernel_rfl))
  f330 := Tryz.func140.trans (congrArg some (by kernel_rfl))
  f331 := Tryz.func141.trans (congrArg some (by kernel_rfl))
  f332 := Tryz.func142.trans (congrArg some (by kernel_rfl))
  f343 := Tryz.func150.trans (congrArg some (by kernel_rfl))
  t0 := Tryz.underlying0
  a0 := Tryz.isAgg0
  z0 := Tryz.sizeOf0
  v0 := Tryz.zeroValue0
  t3 := Tryz.underlying3
  a3 := Tryz.isAgg3
  z3 := Tryz.sizeOf3
  v3 := Tryz.zeroValue3
  t4 := Tryz.underlying4
  a4 := Tryz.isAgg4
  z4 := Tryz.sizeOf4
  v4 := Tryz.zeroValue4
  t5 := Tryz.underlying5
  a5 := Tryz.isAgg5
  z5 := Tryz.sizeOf5
  v5 := Tryz.zeroValue5
  t9 := Tryz.underlying9
  a9 := Tryz.isAgg9
  z9 := Tryz.sizeOf9
  v9 := Tryz.zeroValue9
  t28 := Tryz.underlying22
  a28 := Tryz.isAgg22
  z28 := Tryz.sizeOf22
  v28 := Tryz.zeroValue22
  t46 := Tryz.underlying119
  a46 := Tryz.isAgg119
  z46 := Tryz.sizeOf119
  v46 := Tryz.zeroValue119
  t51 := Tryz.underlying179
  a51 := Tryz.isAgg179
  z51 := Tryz.sizeOf179
  v51 := Tryz.zeroValue179
  t53 := Tryz.underlying181
  a53 := Tryz.isAgg181
  z53 := Tryz.sizeOf181
  v53 := Tryz.zeroValue181
  t131 := Tryz.underlying176
  a131 := Tryz.isAgg176
  z131 := Tryz.sizeOf176
  v131 := Tryz.zeroValue176
  t182 := Tryz.underlying171
  a182 := Tryz.isAgg171
  z182 := Tryz.sizeOf171
  v182 := Tryz.zeroValue171
  t183 := Tryz.underlying172
  a183 := Tryz.isAgg172
  z183 := Tryz.sizeOf172
  v183 := Tryz.zeroValue172
  t218 := Tryz.underlying196
  a218 := Tryz.isAgg196
  z218 := Tryz.sizeOf196
  v218 := Tryz.zeroValue196
  t222 := Tryz.underlying200
  a222 := Tryz.isAgg200
  z222 := Tryz.sizeOf200
  v222 := Tryz.zeroValue200
  t228 := Tryz.underlying222
  a228 := Tryz.isAgg222
  z228 := Tryz.sizeOf222
  v228 := Tryz.zeroValue222
  t229 := Tryz.underlying223
  a229 := Tryz.isAgg223
  z229 := Tryz.sizeOf223
  v229 := Tryz.zeroValue223 }
open Go.Sort Go.RowKit in
theorem Tryz.slices_Sort_int (blk off cap : Nat) (zs : List Int) (w : World) (hH : Holds (Value.int .i64) w blk off zs.toArray) (hblk : blk < w.heap.size) (hsz : zs.length < 4611686018427387904) :
    Calls Tryz.prog 86 #[.slice (some ⟨blk, off, none⟩) zs.length cap] w fun e w' =>
      e = .returned (.tuple #[]) ∧ ∃ n os, w' = grow (putRow (Value.int .i64) (Sort.ahead w n) blk off (zs.mergeSort fun x y => decide (x ≤ y)).toArray) os := Any.slices_Sort_int Tryz.lays189 blk off cap zs w hH hblk hsz
def Tryz.laysNm220_ren : Go.Shelf.Ren := ⟨fun | 20 => 87 | n => n, fun | 22 => 22 | 3 => 3 | 4 => 4 | 0 => 0 | n => n, fun | n => n⟩
theorem Tryz.laysNm220 : Go.Proofs.Lays2.n20 Tryz.prog Tryz.laysNm220_ren := {
  mixed := by kernel_rfl
  f20 := Tryz.func87.trans (congrArg some (by kernel_rfl))
  t0 := Tryz.underlying0
  a0 := Tryz.isAgg0
  z0 := Tryz.sizeOf0
  v0 := Tryz.zeroValue0
  t3 := Tryz.underlying3
  a3 := Tryz.isAgg3
  z3 := Tryz.sizeOf3
  v3 := Tryz.zeroValue3
  t4 := Tryz.underlying4
  a4 := Tryz.isAgg4
  z4 := Tryz.sizeOf4
  v4 := Tryz.zeroValue4
  t22 := Tryz.underlying22
  a22 := Tryz.isAgg22
  z22 := Tryz.sizeOf22
  v22 := Tryz.zeroValue22
  i3 := by kernel_rfl }
open Go.RowKit Go.Lib Go.Sort in
theorem Tryz.slices_Compact_int (blk off cap : Nat) (zs : List Int) (w : World) (hH : Holds (Value.int .i64) w blk off zs.toArray) (hsz : zs.length ≤ 9223372036854775807) (hcap : zs.length ≤ cap) :
    Calls Tryz.prog 87 #[.slice (some ⟨blk, off, none⟩) zs.length cap] w fun e w' => e = .returned (.slice (some ⟨blk, off, none⟩) (Lib.compact zs).length cap) ∧ ∃ q, w' = putRow (Value.int .i64) (Sort.ahead w q) blk off (Lib.compact zs ++ List.replicate (zs.length - (Lib.compact zs).length) 0).toArray := Any.slices_Compact_int Tryz.laysNm220 blk off cap zs w hH hsz hcap
open Go.RowKit Go.Lib Go.Sort in
theorem Tryz.slices_Compact_int_empty (a : Option Addr) (cap : Nat) (w : World) :
    Calls Tryz.prog 87 #[.slice a 0 cap] w fun e w' => e = .returned (.slice a 0 cap) ∧ w' = w := Any.slices_Compact_int_empty Tryz.laysNm220 a cap w
open Go.RowKit Go.Sort in
theorem Tryz.slices_Sort_int_none (p : Option Addr) (cap : Nat) (w : World) :
    Calls Tryz.prog 86 #[.slice p 0 cap] w fun e w' => e = .returned (.tuple #[]) ∧ w' = w := Any.slices_Sort_int_none Tryz.lays189 p cap w
end Go.Proofs
