/- Joined: Dc. -/
import Derived.Laws.EntriesVeiled
import Derived.Test.YtoiabanpnkpbhaaGreatDoorY16
namespace Go.Proofs.YtoiabanpnkpbhaaGreatDoor
open Go.RowKit

/-- the variable errWrong holds its error -/
def EW (w : World) : Prop := w.cell? ⟨0, 0, none⟩ = some (.iface 190 (.agg #[.int .i64 12])) ∧ 0 < w.heap.size
theorem EW.below {w w' : World} (h : EW w) (hb : Below w.heap.size w w') : EW w' := ⟨(hb.cell h.2).trans h.1, Nat.lt_of_lt_of_le h.2 hb.size⟩
/-- an error as one of Go -/
def errV (e : Int) : Value := if e = 0 then .nilIface else .iface 190 (.agg #[.int .i64 e])
theorem uof_any (e : Int) (w : World) : Calls Tryz.prog 126 #[.int .i64 e] w fun en w' => en = .returned (errV e) ∧ w = w' := by
  go_enter Tryz.func126, Tryz.ntmps126
  by_cases h : e = 0
  · subst h
    go_wp2
    go_ret
    exact ⟨rfl, rfl⟩
  · have h1 : (e == 0) = false := by simp [h]
    have HE : Hid (errV e = .iface 190 (.agg #[.int .i64 e])) := (show Hid _ from by show _ = _; unfold errV; rw [if_neg h])
    clear h
    go_wp2
    go_ret
    exact ⟨by rw [HE.out]; rfl, rfl⟩
def DcP (P : Int) (l : List (Int × Bool)) (k : Int) (w : World) (e : Ending) (w' : World) : Prop :=
  ∃ (out : List Int) (er : Int) (v1 v2 : Value), e = .returned (.tuple #[.agg #[v1, v2], errV er]) ∧ Below w.heap.size w w' ∧ UnR P l k out er ∧ w'.ownsRow w.heap.size 3 1 v1 out.length (out.map (Value.int .i64)) ∧ w'.ownsRow w.heap.size 3 1 v2 (if er = 0 then wrg P l out else []).length ((if er = 0 then wrg P l out else []).map (Value.int .i64))
theorem dec_no {P : Int} {l : List (Int × Bool)} {k : Int} {w w' : World} (h : fiE P l k = 0) (hn : ∀ p, ¬ Good P (kn l) k.toNat (radN l k.toNat) p) (hb : Below w.heap.size w w') :
    DcP P l k w (.returned (.tuple #[.agg #[.slice none 0 0, .slice none 0 0], .iface 190 (.agg #[.int .i64 12])])) w' :=
  ⟨[], 12, _, _, rfl, hb, .inr ⟨h, .inr ⟨rfl, rfl, hn⟩⟩, World.ownsRow_nil _ _ _ _, World.ownsRow_nil _ _ _ _⟩
theorem app_bel {w0 w6 w7 : World} {o : Obj} {v : Value} (hb : Below w0.heap.size w0 w6) (hg : (w6.alloc o).grownBy w7 v.ownBlock) (ho : ∀ q, v.ownBlock = some q → w0.heap.size ≤ q ∧ q < w6.heap.size) : Below w0.heap.size w0 w7 :=
  (hb.alloc hb.size o).trans (below_grown hg (by have := hb.size; simp; omega) (fun q hq => (ho q hq).1))
theorem bel1 {w5 w6 : World} (h : Below w5.heap.size w5 w6) : Hid (Below w5.heap.size w5 w6) := h
theorem bel2 {w5 w6 : World} (o : Obj) (h : Below (w5.alloc o).heap.size (w5.alloc o) w6) : Hid (Below w5.heap.size w5 w6) := ((Below.refl _ w5).alloc (Nat.le_refl _) o).trans (h.mono (by simp))
theorem own_lo2 {w5 w6 : World} (o : Obj) {e size n : Nat} {v : Value} {xs : List Value} (h : w6.ownsRow (w5.alloc o).heap.size e size v n xs) : w6.ownsRow w5.heap.size e size v n xs := own_lo h (by simp)
theorem lit_cell {w5 w6 : World} (y : Int) (h : Below (w5.alloc (.cells #[.int .i64 y] 3)).heap.size (w5.alloc (.cells #[.int .i64 y] 3)) w6) : w6.cell? ⟨w5.heap.size, 0, none⟩ = some (.int .i64 y) :=
  (h.cell (by simp)).trans (cell_of_row _ w5.heap.size 0 _ _ _ (heap_alloc_new w5 _))
theorem app_bel2 {w0 w6 w7 : World} {v : Value} (hb : Below w0.heap.size w0 w6) (hg : w6.grownBy w7 v.ownBlock) (ho : ∀ q, v.ownBlock = some q → w0.heap.size ≤ q ∧ q < w6.heap.size) : Below w0.heap.size w0 w7 :=
  hb.trans (below_grown hg hb.size (fun q hq => (ho q hq).1))
theorem alloc_le {w0 w6 : World} (o : Obj) (hb : Below w0.heap.size w0 w6) : w0.heap.size ≤ (w6.alloc o).heap.size := by have := hb.size; simp; omega
theorem res2 {w : World} {Z : Nat} {u1 u2 : Value} {T : TypeId} (h : w.heap[Z]? = some (.cells #[u1, u2] T (0, 0))) (a b : Value) :
    ((w.setCell ⟨Z, 0, none⟩ a).setCell ⟨Z, 1, none⟩ b).drew.cell? ⟨Z, 0, none⟩ = some a ∧ ((w.setCell ⟨Z, 0, none⟩ a).setCell ⟨Z, 1, none⟩ b).drew.cell? ⟨Z, 1, none⟩ = some b := by
  have q1 := heap_setCell_same w Z 0 _ _ a h
  have q2 := heap_setCell_same _ Z 1 _ _ b q1
  have q3 : ((w.setCell ⟨Z, 0, none⟩ a).setCell ⟨Z, 1, none⟩ b).drew.heap[Z]? = ((w.setCell ⟨Z, 0, none⟩ a).setCell ⟨Z, 1, none⟩ b).heap[Z]? := rfl
  exact ⟨(cell_of_row _ Z 0 _ _ _ (q3.trans q2)).trans (by simp), (cell_of_row _ Z 1 _ _ _ (q3.trans q2)).trans (by simp)⟩
theorem res2' {w : World} {Z : Nat} {u1 u2 : Value} {T : TypeId} (h : w.heap[Z]? = some (.cells #[u1, u2] T (0, 0))) (a b : Value) :
    ((w.setCell ⟨Z, 0, none⟩ a).setCell ⟨Z, 1, none⟩ b).cell? ⟨Z, 0, none⟩ = some a ∧ ((w.setCell ⟨Z, 0, none⟩ a).setCell ⟨Z, 1, none⟩ b).cell? ⟨Z, 1, none⟩ = some b := by
  have q1 := heap_setCell_same w Z 0 _ _ a h
  have q2 := heap_setCell_same _ Z 1 _ _ b q1
  exact ⟨(cell_of_row _ Z 0 _ _ _ q2).trans (by simp), (cell_of_row _ Z 1 _ _ _ q2).trans (by simp)⟩
set_option maxRecDepth 100000 in
set_option maxHeartbeats 8000000 in
theorem udec_any (P : Int) (l : List (Int × Bool)) (k : Int) (v : Value) (w : World) (hPi : i64r P) (h : SCl w v l) (hz : l.length ≤ 1000000) (hE : EW w) :
    Calls Tryz.prog 103 #[.agg #[.int .i64 P], v, .int .i64 k] w (DcP P l k w) := by
  have HS := Lib.hid h
  have HE := Lib.hid hE
  obtain ⟨A, c, rfl⟩ := h.form
  obtain ⟨wa, ewa⟩ : ∃ wa : World, wa = (w.alloc (.cells #[.int .i64 P] 31)).alloc (.cells #[.slice none 0 0, .slice none 0 0] 135) := ⟨_, rfl⟩
  have HBa : Hid (Below w.heap.size w wa) := (show Hid _ from by rw [ewa]; exact ((Below.refl _ w).alloc (Nat.le_refl _) _).alloc (by simp) _)
  have HFa : Hid (wa.heap[w.heap.size]? = some (.cells #[.int .i64 P] 31 (0, 0))) := (show Hid _ from by
    show _ = _
    rw [ewa, Below.heap_alloc _ _ _ (by simp)]; exact heap_alloc_new w _)
  have HZa : Hid (wa.heap[w.heap.size + 1]? = some (.cells #[.slice none 0 0, .slice none 0 0] 135 (0, 0))) := (show Hid _ from by
    show _ = _
    rw [ewa]
    have := heap_alloc_new (w.alloc (.cells #[.int .i64 P] 31)) (.cells #[.slice none 0 0, .slice none 0 0] 135)
    simpa using this)
  have hsa : w.heap.size + 2 = wa.heap.size := by rw [ewa]; simp
  have HSA := Lib.hid hsa
  have HSa : Hid (SCl wa (.slice A l.length c) l) := (show Hid _ from HS.out.below HBa.out)
  have HWa : Hid ((w.alloc (.cells #[.int .i64 P] 31)).alloc (.cells #[.slice none 0 0, .slice none 0 0] 135) = wa) := ewa.symm
  have HFL := Lib.hid (fill_any P l k (.slice A l.length c) wa hPi HSa.out hz)
  clear h hE ewa hsa
  go_enter Tryz.func103, Tryz.ntmps103
  go_wp2_with fail
  rw [HWa.out]
  (with_reducible refine HFL.out.mono ?_); rintro e' w1 ⟨v1, rfl, _, hb1⟩
  have f0 : w1.cell? ⟨w.heap.size, 0, none⟩ = some (.int .i64 P) := (hb1.cell (by show w.heap.size < wa.heap.size; have := HSA.out; omega)).trans (cell_of_row wa w.heap.size 0 _ _ _ HFa.out)
  have HZ1 : Hid (w1.heap[w.heap.size + 1]? = some (.cells #[.slice none 0 0, .slice none 0 0] 135 (0, 0))) := (show Hid _ from (hb1.block _ (by have := HSA.out; omega)).trans HZa.out)
  have HB1 : Hid (Below w.heap.size w w1) := (show Hid _ from HBa.out.trans (hb1.mono (by have := HSA.out; omega)))
  have HS1 : Hid (SCl w1 (.slice A l.length c) l) := (show Hid _ from HSa.out.below hb1)
  have hs1 : w.heap.size + 1 < w1.heap.size := by have := hb1.size; have := HSA.out; omega
  clear hb1 HFL
  obtain ⟨fe, efe⟩ : ∃ fe, fe = fiE P l k := ⟨_, rfl⟩
  rw [← efe]
  by_cases hf0 : fe = 0
  · subst hf0
    obtain ⟨hp, hz32, hlP, hval, hk1, hkn⟩ := fi_zero efe.symm
    obtain ⟨kk, ekk⟩ : ∃ kk : Nat, k = (kk : Int) := ⟨k.toNat, by omega⟩
    subst ekk
    have hcn : (cnt l : Nat) = (kn l).length := cnt_kn l
    have hcl32 : (kn l).length ≤ 32 := by have := cnt_le l; omega
    obtain ⟨e, ee⟩ : ∃ e, e = radN l kk := ⟨_, rfl⟩
    have hrad : rad ((cnt l : Nat) : Int) (kk : Int) = (e : Int) := by unfold rad; rw [hcn, ee]; unfold radN; omega
    have hke : kk + 2 * e ≤ (kn l).length := by rw [ee]; unfold radN; omega
    have HRADN := Lib.hid ee
    have HP := Lib.hid hp
    have hP := prB_bd hp
    have HFI : Hid (fiE P l (kk : Int) = 0) := (show Hid _ from efe.symm)
    have HPT : Hid (Pts P (kn l)) := (show Hid _ from kn_pts hlP hval)
    have HVAL := Lib.hid hval
    have HRAD := Lib.hid hrad
    have HCN := Lib.hid hcn
    have hk1' : 1 ≤ kk := by omega
    obtain ⟨n, en⟩ : ∃ n, n = (kn l).length := ⟨_, rfl⟩
    rw [← en] at hke hcl32 hkn
    obtain ⟨C, eC⟩ : ∃ C, C = kk + e + e := ⟨_, rfl⟩
    have hC32 : C ≤ 32 := by omega
    have HN := Lib.hid en
    have HCC := Lib.hid eC
    have hCe1 : C ≤ kk + e + e := by omega
    have hCe2 : kk + e + e ≤ C := by omega
    have HKEY : Hid (∀ W : World, SCl W (.slice A l.length c) l → Calls Tryz.prog 129 #[.agg #[.int .i64 P], .slice A l.length c, .int .i64 kk, .int .i64 e] W fun en w' => ∃ vc vr : Value, en = .returned (.tuple #[.agg #[.int .i64 P, .int .i64 n, .int .i64 C, vc, vr], .int .i64 0]) ∧ Hid (Below W.heap.size W w') ∧ Hid (SI w' vc (kcl P (kk + e) e (kn l))) ∧ Hid (SI w' vr (krl P e (kn l)))) := (show Hid _ from fun W hW => (key_any P l kk e _ W hp hW hz32 hlP hval efe.symm hk1' (by omega)).mono fun en w' ⟨vc, vr, h1, h2, h3, h4⟩ => ⟨vc, vr, by rw [h1, HN.out, HCC.out], h2, h3, h4⟩)
    have HSOL : Hid (∀ (W : World) (vc vr : Value), SI W vc (kcl P (kk + e) e (kn l)) → SI W vr (krl P e (kn l)) → Calls Tryz.prog 130 #[.agg #[.int .i64 P, .int .i64 n, .int .i64 C, vc, vr]] W (SoP P n C (kcl P (kk + e) e (kn l)) (krl P e (kn l)) W)) := (show Hid _ from fun W vc vr h1 h2 => solve_any P n C _ _ vc vr W hp hcl32 (by omega) hC32 (by omega) (by rw [kcl_len, HN.out, HCC.out]) (by rw [krl_len, HN.out]) (kcl_els hP.1 _ _ _) (krl_els hP.1 _ _) h1 h2)
    have HSE : Hid (∀ x, SolE P n C (kcl P (kk + e) e (kn l)) (krl P e (kn l)) x ↔ Sol P (kn l) (kk + e) e x) := (show Hid _ from fun x => by rw [HN.out, HCC.out]; exact solE_sol)
    have HCT : Hid (∀ W : World, SCl W (.slice A l.length c) l → Calls Tryz.prog 128 #[.slice A l.length c] W fun e w' => e = .returned (.int .i64 n) ∧ Hid (Below W.heap.size W w')) := (show Hid _ from fun W hW => (count_any l _ W hW hz).mono fun e w' ⟨h1, h2⟩ => ⟨by rw [h1, HCN.out, HN.out], h2⟩)
    have HRA : Hid (∀ W : World, Calls Tryz.prog 127 #[.int .i64 n, .int .i64 kk] W fun en w' => en = .returned (.tuple #[.int .i64 e, .int .i64 0]) ∧ W = w') := (show Hid _ from fun W => (radius_any n kk W (by omega) (by omega) (by omega)).mono fun en w' ⟨h1, h2⟩ => ⟨by rw [h1]; rw [← HRAD.out, HCN.out, HN.out], h2⟩)
    obtain ⟨Z, eZ⟩ : ∃ Z, Z = w.heap.size + 1 := ⟨_, rfl⟩
    have hZw : w.heap.size < Z := by omega
    have hZ1 : Z < w1.heap.size := by omega
    rw [← eZ] at HZ1 ⊢
    have hE1 : EW w1 := HE.out.below HB1.out
    have HE1 := Lib.hid hE1
    clear hp hval hrad hcn efe ee en eC hE1 eZ hs1
    go_wp2_with fail
    (with_reducible refine (HCT.out _ HS1.out).mono ?_); rintro e9 w2 ⟨rfl, HB2⟩
    have hs2 : w1.heap.size ≤ w2.heap.size := HB2.out.size
    have HS2 : Hid (SCl w2 (.slice A l.length c) l) := (show Hid _ from HS1.out.below HB2.out)
    go_wp2_with fail
    (with_reducible refine (HRA.out _).mono ?_); rintro e9 w9 ⟨rfl, rfl⟩
    have f2 : w2.cell? ⟨w.heap.size, 0, none⟩ = some (.int .i64 P) := (HB2.out.cell (by show w.heap.size < w1.heap.size; omega)).trans f0
    go_wp2_with fail
    (with_reducible refine (HKEY.out _ HS2.out).mono ?_); rintro e9 w3 ⟨vc, vr, rfl, HB3, HSC, HSR⟩
    have hs3 : w2.heap.size ≤ w3.heap.size := HB3.out.size
    obtain ⟨Ac, cc, evc⟩ := HSC.out.form
    obtain ⟨Ar, cr, evr⟩ := HSR.out.form
    subst evc evr
    obtain ⟨nc, enc⟩ : ∃ nc, nc = (kcl P (kk + e) e (kn l)).length := ⟨_, rfl⟩
    obtain ⟨nr, enr⟩ : ∃ nr, nr = (krl P e (kn l)).length := ⟨_, rfl⟩
    rw [← enc] at HSC
    rw [← enr] at HSR
    rw [← enc, ← enr]
    clear enc enr
    obtain ⟨vc, evc⟩ : ∃ vc, vc = Value.slice Ac nc cc := ⟨_, rfl⟩
    obtain ⟨vr, evr⟩ : ∃ vr, vr = Value.slice Ar nr cr := ⟨_, rfl⟩
    rw [← evc] at HSC
    rw [← evr] at HSR
    subst evc evr
    obtain ⟨w4, ew4⟩ : ∃ w4 : World, w4 = w3.alloc (.cells #[.int .i64 P, .int .i64 n, .int .i64 C, .slice Ac nc cc, .slice Ar nr cr] 162) := ⟨_, rfl⟩
    have HB4 : Hid (Below w3.heap.size w3 w4) := (show Hid _ from by rw [ew4]; exact (Below.refl _ w3).alloc (Nat.le_refl _) _)
    have HSC4 : Hid (SI w4 (.slice Ac nc cc) (kcl P (kk + e) e (kn l))) := (show Hid _ from HSC.out.below HB4.out)
    have HSR4 : Hid (SI w4 (.slice Ar nr cr) (krl P e (kn l))) := (show Hid _ from HSR.out.below HB4.out)
    have HW4 : Hid (w3.alloc (.cells #[.int .i64 P, .int .i64 n, .int .i64 C, .slice Ac nc cc, .slice Ar nr cr] 162) = w4) := ew4.symm
    have HB14 : Hid (Below w1.heap.size w1 w4) := (show Hid _ from (HB2.out.trans (HB3.out.mono hs2)).trans (HB4.out.mono (by omega)))
    clear ew4 f2
    go_wp2_with fail
    rw [HW4.out]
    (with_reducible refine (HSOL.out _ _ _ HSC4.out HSR4.out).mono ?_); rintro e9 w5 ⟨er, v5, x, rfl, hb5, hcase⟩
    have HCASE := Lib.hid hcase
    have HB15 : Hid (Below w1.heap.size w1 w5) := (show Hid _ from HB14.out.trans (hb5.mono HB14.out.size))
    have HB5 : Hid (Below w.heap.size w w5) := (show Hid _ from HB1.out.trans (HB15.out.mono HB1.out.size))
    have HE5 : Hid (EW w5) := (show Hid _ from HE.out.below HB5.out)
    have HZ5 : Hid (w5.heap[Z]? = some (.cells #[.slice none 0 0, .slice none 0 0] 135 (0, 0))) := (show Hid _ from (HB15.out.block Z hZ1).trans HZ1.out)
    have z0 : w5.cell? ⟨Z, 0, none⟩ = some (.slice none 0 0) := cell_of_row w5 _ 0 _ _ _ HZ5.out
    have z1 : w5.cell? ⟨Z, 1, none⟩ = some (.slice none 0 0) := cell_of_row w5 _ 1 _ _ _ HZ5.out
    have g0 := frozen_of_row w5 Z 0 _ _ HZ5.out
    have g1 := frozen_of_row w5 Z 1 _ _ HZ5.out
    have cg := HE5.out.1
    have zn1 : ¬ Z = 0 := by omega
    have zn2 : ¬ 0 = Z := by omega
    clear hb5 hcase
    rcases HCASE.out with ⟨her, hsx, hex, hox⟩ | ⟨her, hv5, hno⟩
    · subst her
      have hSol := (HSE.out x).1 hsx
      have hxl : x.length = C := hsx.1
      rw [hxl] at hox
      obtain ⟨gx, cx, ev5, hgx1, hgx2⟩ := own_form hox (by omega)
      subst ev5
      obtain ⟨a, ea⟩ : ∃ a, a = kk + e := ⟨_, rfl⟩
      have hCa : C = a + e := by omega
      have hcx : a + e ≤ cx := by
        rcases hox.2 with ⟨q, _⟩ | ⟨_, _, _, q, _, _, q2, _⟩
        · cases q
        · injection q with _ _ q3; omega
      have HSX : Hid (SI w5 (.slice (some ⟨gx, 0, none⟩) C cx) x) := (show Hid _ from by
        have := SI.of_own (l := x) (by rw [hxl]; exact hox) (els_r hP.2 hex)
        exact this)
      have HXl := Lib.hid hxl
      have HSol := Lib.hid hSol
      have HXE := Lib.hid hex
      have HAE := Lib.hid ea
      have HCA := Lib.hid hCa
      have ha32 : a + e ≤ 32 := by omega
      have hak : (kk : Int) + (e : Int) = (a : Int) := by omega
      clear hsx hSol hxl hex hox HCASE ea
      subst hCa
      have y0 : (0 : Int) ≤ (a : Int) := by omega
      have y1 : (a : Int) ≤ (cx : Int) := by omega
      have y2 : (a : Int) ≤ (a : Int) + (e : Int) := by omega
      have y3 : IntKind.i64.wrap (a : Int) = (a : Int) := by exact IntWalk.i64_in _ (by omega)
      have y4 : IntKind.i64.wrap ((kk : Int) + (e : Int)) = (a : Int) := by rw [hak]; exact y3
      have y5 : (0 : Int) ≤ (a : Int) + (e : Int) := by omega
      have y6 : ((a : Int)).toNat = a := by omega
      have hxd : (x.drop a).length = e := by rw [List.length_drop, HXl.out]; omega
      have hxt : (x.take a).length = a := by rw [List.length_take, HXl.out]; omega
      have HXD := Lib.hid hxd
      have HXT := Lib.hid hxt
      have HCL : Hid (∀ (W : World) (A' : Option Addr) (c' : Nat), SI W (.slice A' e c') (x.drop a) → Calls Tryz.prog 80 #[.slice A' e c'] W fun e1 w' => ∃ v', e1 = .returned v' ∧ Hid (w'.ownsRow W.heap.size 3 1 v' (x.drop a).length ((x.drop a).map (Value.int .i64))) ∧ Hid (Below W.heap.size W w')) := (show Hid _ from fun W A' c' h => (clone_any (x.drop a) _ W h (by omega)).mono fun e1 w' ⟨v', q1, q2, q3⟩ => ⟨v', q1, q2, q3⟩)
      have HQ1 : Hid (SI w5 (.slice (some ⟨gx, 0, none⟩) a cx) (x.take a)) := (show Hid _ from HSX.out.take (by rw [HXl.out]; omega))
      have HLE : Hid (els P (x.drop a ++ [1]) = true) := (show Hid _ from els_of fun y hy => by
        rcases List.mem_append.1 hy with h | h
        · exact els_all HXE.out y (List.mem_of_mem_drop h)
        · simp at h; subst h; exact el_mk (by omega))
      have HLL : Hid ((x.drop a ++ [1]).length = e + 1) := (show Hid _ from by show _ = _; rw [List.length_append, hxd]; rfl)
      have HDIV : Hid (∀ (W : World) (va vb : Value), SI W va (x.take a) → SI W vb (x.drop a ++ [1]) → Calls Tryz.prog 131 #[.agg #[.int .i64 P], va, vb] W (DiP P (x.take a) (x.drop a ++ [1]) W)) := (show Hid _ from fun W va vb h1 h2 => divide_any P _ _ va vb W HP.out h1 h2 (els_of fun y hy => els_all HXE.out y (List.mem_of_mem_take hy)) HLE.out (by rw [hxt]; omega) (by rw [HLL.out]; omega) (by simp) (by rw [HLL.out, Nat.add_sub_cancel, gd_app, if_neg (by omega), hxd, Nat.sub_self]; simp [gd]))
      have HL2 : Hid ((x.drop a ++ [1]).length = x.length - a + 1) := (show Hid _ from by show _ = _; simp)
      have hxb : (x.drop a).length + 1 ≤ 17592186044416 := by omega
      clear hxd hxt
      by_cases hcxa : cx = a
      · obtain rfl : a = cx := hcxa.symm
        have HE0 : Hid (e = 0) := (show Hid _ from by show _ = _; omega)
        have HQ2 : Hid (SI w5 (.slice (some ⟨gx, 0, none⟩) e 0) (x.drop a)) := (show Hid _ from by
          have h1 : x.drop a = [] := List.eq_nil_of_length_eq_zero (HXD.out.trans HE0.out)
          rw [h1, HE0.out]
          exact ⟨_, 0, rfl, Nat.le_refl _, by omega, fun y hy => by simp at hy, fun h => by simp at h⟩)
        clear hcx
        have HQ2a := Lib.hid (HQ2.out.below ((Below.refl _ w5).alloc (Nat.le_refl _) (.cells #[.int .i64 1] 3)))
        have cga : (w5.alloc (.cells #[.int .i64 1] 3)).cell? ⟨0, 0, none⟩ = some (.iface 190 (.agg #[.int .i64 12])) := cell_al (.cells #[.int .i64 1] 3) cg
        go_upto_region 11 with fail
        go_region_held3 (fun w' => w'.cell? ⟨0, 0, none⟩ = some (.iface 190 (.agg #[.int .i64 12]))) (first | exact cg | exact cga | exact cg6 | exact cg7 | go_keep)
          (first
            | (go_at_call 80; refine (HCL.out _ _ _ (by first | exact HQ2.out | exact HQ2a.out)).mono ?_; rintro e9 w6 ⟨v6, rfl, HO6, HB6⟩; have HB6' : Hid (Below w5.heap.size w5 w6) := (by first | exact bel1 ⟨HB6.out.os, HB6.out.tape, HB6.out.output, HB6.out.size, HB6.out.block⟩ | exact bel2 (.cells #[.int .i64 1] 3) ⟨HB6.out.os, HB6.out.tape, HB6.out.output, HB6.out.size, HB6.out.block⟩); have cg6 : w6.cell? ⟨0, 0, none⟩ = some (.iface 190 (.agg #[.int .i64 12])) := (HE5.out.below HB6'.out).1; have HO6' : Hid (w6.ownsRow w5.heap.size 3 1 v6 (x.drop a).length ((x.drop a).map (Value.int .i64))) := (by first | exact (show Hid _ from HO6.out) | exact (show Hid _ from own_lo2 (.cells #[.int .i64 1] 3) HO6.out)); (first | (have cl6 : w6.cell? ⟨w5.heap.size, 0, none⟩ = some (.int .i64 1) := lit_cell 1 ⟨HB6.out.os, HB6.out.tape, HB6.out.output, HB6.out.size, HB6.out.block⟩) | skip))
            | (refine step_append_int1_at _ (by rfl) (.tmp 71) _ 22 (by rfl) w5.heap.size 3 Tryz.underlying22 iinfo v6 (x.drop a) (by rfl) (by exact HO6'.out) 1 w5.heap.size (by rfl) (by exact cl6) hxb (by exact HB6'.out.size) ?_; intro g7 cap7 w7 hown7 hg7 hat7; have HG7 : Hid (w6.grownBy w7 v6.ownBlock) := (show Hid _ from ⟨hg7.os, hg7.tape, hg7.output, hg7.size, hg7.block⟩); have HO7 := Lib.hid hown7; have HB7 : Hid (Below w5.heap.size w5 w7) := (show Hid _ from app_bel2 HB6'.out HG7.out HO6'.out.lt); have cg7 : w7.cell? ⟨0, 0, none⟩ = some (.iface 190 (.agg #[.int .i64 12])) := (HE5.out.below HB7.out).1; clear hown7 hg7 hat7)
            | (refine step_append_int1_at _ (by rfl) (.tmp 71) _ 22 (by rfl) w5.heap.size 3 Tryz.underlying22 iinfo v6 (x.drop a) (by rfl) (by first | exact HO6'.out.alloc (.cells #[.int .i64 1] 3) | exact (HO6'.out.alloc (.cells #[.int .i64 1] 3)).drew) 1 w6.heap.size (by rfl) (by exact cells_new w6 [.int .i64 1] 3 0 _ rfl) hxb (by exact alloc_le (.cells #[.int .i64 1] 3) HB6'.out) ?_; intro g7 cap7 w7 hown7 hg7 hat7; have HG7 : Hid ((w6.alloc (.cells #[.int .i64 1] 3)).grownBy w7 v6.ownBlock) := (show Hid _ from ⟨hg7.os, hg7.tape, hg7.output, hg7.size, hg7.block⟩); have HO7 := Lib.hid hown7; have HB7 : Hid (Below w5.heap.size w5 w7) := (show Hid _ from app_bel HB6'.out HG7.out HO6'.out.lt); have cg7 : w7.cell? ⟨0, 0, none⟩ = some (.iface 190 (.agg #[.int .i64 12])) := (HE5.out.below HB7.out).1; clear hown7 hg7 hat7))
        all_goals
          have HB17 : Hid (Below w1.heap.size w1 w7) := (show Hid _ from HB15.out.trans (HB7.out.mono HB15.out.size))
          have HQ17 := Lib.hid (HQ1.out.below HB7.out)
          have HL7 : Hid (SI w7 (.slice (some ⟨g7, 0, none⟩) (x.drop a ++ [1]).length cap7) (x.drop a ++ [1])) := (show Hid _ from SI.of_own HO7.out (els_r hP.2 (HLE.out)))
          have HL7' : Hid (SI w7 (.slice (some ⟨g7, 0, none⟩) (e + 1) cap7) (x.drop a ++ [1])) := (show Hid _ from by have := HL7.out; rw [HLL.out] at this; exact this)
          have HL7'' : Hid (SI w7 (.slice (some ⟨g7, 0, none⟩) (x.length - a + 1) cap7) (x.drop a ++ [1])) := (show Hid _ from by have := HL7.out; rw [HL2.out] at this; exact this)
          have f7 : w7.cell? ⟨w.heap.size, 0, none⟩ = some (.int .i64 P) := (HB17.out.cell (by show w.heap.size < w1.heap.size; omega)).trans f0
          have HWD : Hid (w7.heap[Z]? = some (.cells #[.slice none 0 0, .slice none 0 0] 135 (0, 0))) := (show Hid _ from (HB17.out.block Z hZ1).trans HZ1.out)
          clear z0 z1 g0 g1 cg cg6 cg7
          go_wp2_with fail
          refine (HDIV.out _ _ _ (by exact HQ17.out) (by first | exact HL7''.out | exact HL7'.out | exact HL7.out)).mono ?_
          rintro e9 w8 ⟨u1, u2, Q, R, rfl, hb8, hoQ, hoR, heQ, heR, htQ, htR, hlQ, hlR, hdv⟩
          have hlQ' : Q.length ≤ kk := by rw [HXT.out, HLL.out] at hlQ; omega
          have hlR' : R.length ≤ e := by rw [HLL.out] at hlR; omega
          have HB8 : Hid (Below w7.heap.size w7 w8) := (show Hid _ from ⟨hb8.os, hb8.tape, hb8.output, hb8.size, hb8.block⟩)
          have HSQ : Hid (SI w8 u1 Q) := (show Hid _ from SI.of_own hoQ (els_r hP.2 heQ))
          obtain ⟨A1, c1, eu1⟩ := HSQ.out.form
          obtain ⟨A2, c2, eu2⟩ := (SI.of_own hoR (els_r hP.2 heR)).form
          subst eu1 eu2
          have HOQ := Lib.hid hoQ
          have HDEC : Hid (∀ p, Good P (kn l) kk e p → Q = p ∧ R = []) := (show Hid _ from fun p hg => sol_good HP.out HPT.out (by rw [← HN.out]; omega) hg HSol.out heQ heR htQ htR hlQ' hlR' (by rw [← HAE.out]; exact hdv))
          have HQE := Lib.hid heQ
          have HQT := Lib.hid htQ
          have HB18 : Hid (Below w1.heap.size w1 w8) := (show Hid _ from HB17.out.trans (HB8.out.mono HB17.out.size))
          have HB8w : Hid (Below w.heap.size w w8) := (show Hid _ from HB1.out.trans (HB18.out.mono HB1.out.size))
          have HE8 : Hid (EW w8) := (show Hid _ from HE.out.below HB8w.out)
          have HZ8 : Hid (w8.heap[Z]? = some (.cells #[.slice none 0 0, .slice none 0 0] 135 (0, 0))) := (show Hid _ from (HB18.out.block Z hZ1).trans HZ1.out)
          have f8 : w8.cell? ⟨w.heap.size, 0, none⟩ = some (.int .i64 P) := (HB18.out.cell (by show w.heap.size < w1.heap.size; omega)).trans f0
          have HS8 : Hid (SCl w8 (.slice A l.length c) l) := (show Hid _ from HS.out.below HB8w.out)
          have z0 : w8.cell? ⟨Z, 0, none⟩ = some (.slice none 0 0) := cell_of_row w8 _ 0 _ _ _ HZ8.out
          have z1 : w8.cell? ⟨Z, 1, none⟩ = some (.slice none 0 0) := cell_of_row w8 _ 1 _ _ _ HZ8.out
          have g0 := frozen_of_row w8 Z 0 _ _ HZ8.out
          have g1 := frozen_of_row w8 Z 1 _ _ HZ8.out
          have cg := HE8.out.1
          obtain ⟨nQ, enQ⟩ : ∃ n, n = Q.length := ⟨_, rfl⟩
          obtain ⟨nR, enR⟩ : ∃ n, n = R.length := ⟨_, rfl⟩
          rw [← enQ] at hlQ' HSQ
          rw [← enR] at hlR'
          rw [← enQ, ← enR]
          have HnQ := Lib.hid enQ
          have HnR := Lib.hid enR
          clear hb8 hoQ hoR heQ heR htQ htR hlQ hlR hdv enQ enR f7
          by_cases hR : nR = 0
          · subst hR
            have hdQ : decide ((kk : Int) < (nQ : Int)) = false := decide_eq_false (by omega)
            have hdQ2 : decide (kk < nQ) = false := decide_eq_false (by omega)
            have HSQ' := HSQ
            have hQ1000 : Q.length ≤ 1000000 := by rw [← HnQ.out]; omega
            have HWR : Hid (∀ W : World, SCl W (.slice A l.length c) l → SI W (.slice A1 nQ c1) Q → Calls Tryz.prog 132 #[.int .i64 P, .slice A l.length c, .slice A1 nQ c1] W fun en w' => ∃ v', en = .returned v' ∧ Hid (w'.ownsRow W.heap.size 3 1 v' (wrg P l Q).length ((wrg P l Q).map (Value.int .i64))) ∧ Hid (Below W.heap.size W w')) := (show Hid _ from fun W h1 h2 => (wrongs_any P l Q _ _ W hP h1 (by omega) hlP h2 HQE.out hQ1000).mono fun en w' ⟨v', q1, q2, q3⟩ => ⟨v', q1, q2, q3⟩)
            go_wp2_with fail
            (with_reducible refine (HWR.out _ HS8.out HSQ.out).mono ?_); rintro e9 w10 ⟨v10, rfl, HO10, HB10⟩
            have HSW : Hid (SI w10 v10 (wrg P l Q)) := (show Hid _ from SI.of_own HO10.out (fun y hy => by
              unfold wrg at hy
              obtain ⟨t, ht, rfl⟩ := List.mem_map.1 hy
              have h1 := knF_at l 0 t (List.mem_filter.1 ht).1
              simp at h1
              unfold i64r; omega))
            obtain ⟨A10, c10, ev10⟩ := HSW.out.form
            subst ev10
            obtain ⟨nW, enW⟩ : ∃ n, n = (wrg P l Q).length := ⟨_, rfl⟩
            rw [← enW] at HSW
            rw [← enW]
            have HWL : Hid (nW = (wrg P l Q).length) := (show Hid _ from enW)
            have HnW : Hid (nW = (wrk P (kn l) Q).length) := (show Hid _ from by show _ = _; rw [enW]; unfold wrg; rw [List.length_map])
            have hwl := wrg_len P l Q
            have hnW32 : nW ≤ 32 := by omega
            have HB110 : Hid (Below w1.heap.size w1 w10) := (show Hid _ from HB18.out.trans (HB10.out.mono HB18.out.size))
            have HB10w : Hid (Below w.heap.size w w10) := (show Hid _ from HB1.out.trans (HB110.out.mono HB1.out.size))
            have HE10 : Hid (EW w10) := (show Hid _ from HE.out.below HB10w.out)
            obtain ⟨w11, ew11⟩ : ∃ w11 : World, w11 = w10.alloc (.cells #[.slice A1 nQ c1, .slice A10 nW c10] 135) := ⟨_, rfl⟩
            have HB11 : Hid (Below w10.heap.size w10 w11) := (show Hid _ from by rw [ew11]; exact (Below.refl _ w10).alloc (Nat.le_refl _) _)
            have HD11 : Hid (w11.heap[w10.heap.size]? = some (.cells #[.slice A1 nQ c1, .slice A10 nW c10] 135 (0, 0))) := (show Hid _ from by show _ = _; rw [ew11]; exact heap_alloc_new w10 _)
            have HW11 : Hid (w10.alloc (.cells #[.slice A1 nQ c1, .slice A10 nW c10] 135) = w11) := ew11.symm
            have HB111 : Hid (Below w1.heap.size w1 w11) := (show Hid _ from HB110.out.trans (HB11.out.mono HB110.out.size))
            have HB11w : Hid (Below w.heap.size w w11) := (show Hid _ from HB1.out.trans (HB111.out.mono HB1.out.size))
            have HE11 : Hid (EW w11) := (show Hid _ from HE.out.below HB11w.out)
            have HZ11 : Hid (w11.heap[Z]? = some (.cells #[.slice none 0 0, .slice none 0 0] 135 (0, 0))) := (show Hid _ from (HB111.out.block Z hZ1).trans HZ1.out)
            have HSQ11 : Hid (SI w11 (.slice A1 nQ c1) Q) := (show Hid _ from (HSQ.out.below HB10.out).below HB11.out)
            have HSW11 : Hid (SI w11 (.slice A10 nW c10) (wrg P l Q)) := (show Hid _ from HSW.out.below HB11.out)
            have z0 : w11.cell? ⟨Z, 0, none⟩ = some (.slice none 0 0) := cell_of_row w11 _ 0 _ _ _ HZ11.out
            have z1 : w11.cell? ⟨Z, 1, none⟩ = some (.slice none 0 0) := cell_of_row w11 _ 1 _ _ _ HZ11.out
            have g0 := frozen_of_row w11 Z 0 _ _ HZ11.out
            have g1 := frozen_of_row w11 Z 1 _ _ HZ11.out
            have cg := HE11.out.1
            have d0 : w11.cell? ⟨w10.heap.size, 0, none⟩ = some (.slice A1 nQ c1) := cell_of_row w11 _ 0 _ _ _ HD11.out
            have d1 : w11.cell? ⟨w10.heap.size, 1, none⟩ = some (.slice A10 nW c10) := cell_of_row w11 _ 1 _ _ _ HD11.out
            clear ew11 enW hwl
            go_upto_region 16 with fail
            rw [HW11.out]
            by_cases hW : nW ≤ e
            · have hdW : decide ((e : Int) < (nW : Int)) = false := decide_eq_false (by omega)
              have hdW2 : decide (e < nW) = false := decide_eq_false (by omega)
              have HG : Hid (Good P (kn l) ((kk : Int)).toNat (radN l ((kk : Int)).toNat) Q) := (show Hid _ from by
                rw [Int.toNat_natCast, ← HRADN.out]
                exact ⟨by rw [← HnQ.out]; exact hlQ', HQE.out, HQT.out, by rw [← HnW.out]; exact hW⟩)
              go_wp2_with fail
              have r0 := (res2' HZ11.out (.slice A1 nQ c1) (.slice A10 nW c10)).1
              have r1 := (res2' HZ11.out (.slice A1 nQ c1) (.slice A10 nW c10)).2
              refine bodyPost_ret (v := .tuple #[.agg #[.slice A1 nQ c1, .slice A10 nW c10], .nilIface]) (by simp [results, Tryz.results103, go_sem, r0, r1]) rfl ⟨Q, 0, .slice A1 nQ c1, .slice A10 nW c10, rfl, ?_, .inr ⟨HFI.out, .inl ⟨rfl, HG.out⟩⟩, ?_, ?_⟩
              · exact (HB11w.out.setCell (by show w.heap.size ≤ Z; omega) _).setCell (by show w.heap.size ≤ Z; omega) _
              · have HB17w : w.heap.size ≤ w7.heap.size := Nat.le_trans HB1.out.size HB17.out.size
                have hz7 : Z < w7.heap.size := Nat.lt_of_lt_of_le hZ1 HB17.out.size
                have h1 := own_set3 (own_set3 (own_bel (own_bel HOQ.out HB10.out) HB11.out) (p := ⟨Z, 0, none⟩) hz7 (.slice A1 nQ c1)) (p := ⟨Z, 1, none⟩) hz7 (.slice A10 nW c10)
                exact own_lo (by rw [HnQ.out] at h1 ⊢; exact h1) HB17w
              · have HB18w : w.heap.size ≤ w8.heap.size := Nat.le_trans HB1.out.size HB18.out.size
                have hz8 : Z < w8.heap.size := Nat.lt_of_lt_of_le hZ1 HB18.out.size
                have h1 := own_set3 (own_set3 (own_bel HO10.out HB11.out) (p := ⟨Z, 0, none⟩) hz8 (.slice A1 nQ c1)) (p := ⟨Z, 1, none⟩) hz8 (.slice A10 nW c10)
                rw [if_pos rfl]
                exact own_lo (by rw [HWL.out] at h1 ⊢; exact h1) HB18w
            · have hdW : decide ((e : Int) < (nW : Int)) = true := decide_eq_true (by omega)
              have hdW2 : decide (e < nW) = true := decide_eq_true (by omega)
              have HNG : Hid (∀ p, ¬ Good P (kn l) ((kk : Int)).toNat (radN l ((kk : Int)).toNat) p) := (show Hid _ from fun p hg => by
                rw [Int.toNat_natCast, ← HRADN.out] at hg
                have h1 := (HDEC.out p hg).1
                have h2 := hg.few
                rw [← h1, ← HnW.out] at h2
                exact hW h2)
              clear hW
              go_wp2_with fail
              go_region
              all_goals
                go_wp2_with fail
                have r0 := (res2 HZ11.out (.slice none 0 0) (.slice none 0 0)).1
                have r1 := (res2 HZ11.out (.slice none 0 0) (.slice none 0 0)).2
                refine bodyPost_ret (v := .tuple #[.agg #[.slice none 0 0, .slice none 0 0], .iface 190 (.agg #[.int .i64 12])]) (by simp [results, Tryz.results103, go_sem, r0, r1]) rfl (dec_no HFI.out HNG.out ?_)
                exact ((HB11w.out.setCell (by show w.heap.size ≤ Z; omega) _).setCell (by show w.heap.size ≤ Z; omega) _).drew
          · have hR1 : decide ((0 : Int) < (nR : Int)) = true := decide_eq_true (by omega)
            have hR2 : decide (0 < nR) = true := decide_eq_true (by omega)
            have hR3 : (0 : Int) < (nR : Int) := by omega
            have hR4 : 0 < nR := by omega
            have HNG : Hid (∀ p, ¬ Good P (kn l) ((kk : Int)).toNat (radN l ((kk : Int)).toNat) p) := (show Hid _ from fun p hg => by
              rw [Int.toNat_natCast, ← HRADN.out] at hg
              have := (HDEC.out p hg).2
              exact hR (by rw [HnR.out, this]; rfl))
            clear hR
            go_wp2_with fail
            go_region
            all_goals
              go_wp2_with fail
              have r0 := (res2 HZ8.out (.slice none 0 0) (.slice none 0 0)).1
              have r1 := (res2 HZ8.out (.slice none 0 0) (.slice none 0 0)).2
              refine bodyPost_ret (v := .tuple #[.agg #[.slice none 0 0, .slice none 0 0], .iface 190 (.agg #[.int .i64 12])]) (by simp [results, Tryz.results103, go_sem, r0, r1]) rfl (dec_no HFI.out HNG.out ?_)
              exact ((HB8w.out.setCell (by show w.heap.size ≤ Z; omega) _).setCell (by show w.heap.size ≤ Z; omega) _).drew
      · have HQ2 : Hid (SI w5 (.slice (some ⟨gx, a, none⟩) e (cx - a)) (x.drop a)) := (show Hid _ from by
          have h1 := SI.part (lo := a) (k := e) (by have := HSX.out; rw [← HXl.out] at this; exact this) (by rw [HXl.out]; exact Nat.le_refl _)
          rw [Nat.zero_add, List.take_of_length_le (by rw [HXD.out]; exact Nat.le_refl _)] at h1
          exact h1)
        have HQ2a := Lib.hid (HQ2.out.below ((Below.refl _ w5).alloc (Nat.le_refl _) (.cells #[.int .i64 1] 3)))
        have cga : (w5.alloc (.cells #[.int .i64 1] 3)).cell? ⟨0, 0, none⟩ = some (.iface 190 (.agg #[.int .i64 12])) := cell_al (.cells #[.int .i64 1] 3) cg
        go_upto_region 11 with fail
        go_region_held3 (fun w' => w'.cell? ⟨0, 0, none⟩ = some (.iface 190 (.agg #[.int .i64 12]))) (first | exact cg | exact cga | exact cg6 | exact cg7 | go_keep)
          (first
            | (go_at_call 80; refine (HCL.out _ _ _ (by first | exact HQ2.out | exact HQ2a.out)).mono ?_; rintro e9 w6 ⟨v6, rfl, HO6, HB6⟩; have HB6' : Hid (Below w5.heap.size w5 w6) := (by first | exact bel1 ⟨HB6.out.os, HB6.out.tape, HB6.out.output, HB6.out.size, HB6.out.block⟩ | exact bel2 (.cells #[.int .i64 1] 3) ⟨HB6.out.os, HB6.out.tape, HB6.out.output, HB6.out.size, HB6.out.block⟩); have cg6 : w6.cell? ⟨0, 0, none⟩ = some (.iface 190 (.agg #[.int .i64 12])) := (HE5.out.below HB6'.out).1; have HO6' : Hid (w6.ownsRow w5.heap.size 3 1 v6 (x.drop a).length ((x.drop a).map (Value.int .i64))) := (by first | exact (show Hid _ from HO6.out) | exact (show Hid _ from own_lo2 (.cells #[.int .i64 1] 3) HO6.out)); (first | (have cl6 : w6.cell? ⟨w5.heap.size, 0, none⟩ = some (.int .i64 1) := lit_cell 1 ⟨HB6.out.os, HB6.out.tape, HB6.out.output, HB6.out.size, HB6.out.block⟩) | skip))
            | (refine step_append_int1_at _ (by rfl) (.tmp 71) _ 22 (by rfl) w5.heap.size 3 Tryz.underlying22 iinfo v6 (x.drop a) (by rfl) (by exact HO6'.out) 1 w5.heap.size (by rfl) (by exact cl6) hxb (by exact HB6'.out.size) ?_; intro g7 cap7 w7 hown7 hg7 hat7; have HG7 : Hid (w6.grownBy w7 v6.ownBlock) := (show Hid _ from ⟨hg7.os, hg7.tape, hg7.output, hg7.size, hg7.block⟩); have HO7 := Lib.hid hown7; have HB7 : Hid (Below w5.heap.size w5 w7) := (show Hid _ from app_bel2 HB6'.out HG7.out HO6'.out.lt); have cg7 : w7.cell? ⟨0, 0, none⟩ = some (.iface 190 (.agg #[.int .i64 12])) := (HE5.out.below HB7.out).1; clear hown7 hg7 hat7)
            | (refine step_append_int1_at _ (by rfl) (.tmp 71) _ 22 (by rfl) w5.heap.size 3 Tryz.underlying22 iinfo v6 (x.drop a) (by rfl) (by first | exact HO6'.out.alloc (.cells #[.int .i64 1] 3) | exact (HO6'.out.alloc (.cells #[.int .i64 1] 3)).drew) 1 w6.heap.size (by rfl) (by exact cells_new w6 [.int .i64 1] 3 0 _ rfl) hxb (by exact alloc_le (.cells #[.int .i64 1] 3) HB6'.out) ?_; intro g7 cap7 w7 hown7 hg7 hat7; have HG7 : Hid ((w6.alloc (.cells #[.int .i64 1] 3)).grownBy w7 v6.ownBlock) := (show Hid _ from ⟨hg7.os, hg7.tape, hg7.output, hg7.size, hg7.block⟩); have HO7 := Lib.hid hown7; have HB7 : Hid (Below w5.heap.size w5 w7) := (show Hid _ from app_bel HB6'.out HG7.out HO6'.out.lt); have cg7 : w7.cell? ⟨0, 0, none⟩ = some (.iface 190 (.agg #[.int .i64 12])) := (HE5.out.below HB7.out).1; clear hown7 hg7 hat7))
        all_goals
          have HB17 : Hid (Below w1.heap.size w1 w7) := (show Hid _ from HB15.out.trans (HB7.out.mono HB15.out.size))
          have HQ17 := Lib.hid (HQ1.out.below HB7.out)
          have HL7 : Hid (SI w7 (.slice (some ⟨g7, 0, none⟩) (x.drop a ++ [1]).length cap7) (x.drop a ++ [1])) := (show Hid _ from SI.of_own HO7.out (els_r hP.2 (HLE.out)))
          have HL7' : Hid (SI w7 (.slice (some ⟨g7, 0, none⟩) (e + 1) cap7) (x.drop a ++ [1])) := (show Hid _ from by have := HL7.out; rw [HLL.out] at this; exact this)
          have HL7'' : Hid (SI w7 (.slice (some ⟨g7, 0, none⟩) (x.length - a + 1) cap7) (x.drop a ++ [1])) := (show Hid _ from by have := HL7.out; rw [HL2.out] at this; exact this)
          have f7 : w7.cell? ⟨w.heap.size, 0, none⟩ = some (.int .i64 P) := (HB17.out.cell (by show w.heap.size < w1.heap.size; omega)).trans f0
          have HWD : Hid (w7.heap[Z]? = some (.cells #[.slice none 0 0, .slice none 0 0] 135 (0, 0))) := (show Hid _ from (HB17.out.block Z hZ1).trans HZ1.out)
          clear z0 z1 g0 g1 cg cg6 cg7
          go_wp2_with fail
          refine (HDIV.out _ _ _ (by exact HQ17.out) (by first | exact HL7''.out | exact HL7'.out | exact HL7.out)).mono ?_
          rintro e9 w8 ⟨u1, u2, Q, R, rfl, hb8, hoQ, hoR, heQ, heR, htQ, htR, hlQ, hlR, hdv⟩
          have hlQ' : Q.length ≤ kk := by rw [HXT.out, HLL.out] at hlQ; omega
          have hlR' : R.length ≤ e := by rw [HLL.out] at hlR; omega
          have HB8 : Hid (Below w7.heap.size w7 w8) := (show Hid _ from ⟨hb8.os, hb8.tape, hb8.output, hb8.size, hb8.block⟩)
          have HSQ : Hid (SI w8 u1 Q) := (show Hid _ from SI.of_own hoQ (els_r hP.2 heQ))
          obtain ⟨A1, c1, eu1⟩ := HSQ.out.form
          obtain ⟨A2, c2, eu2⟩ := (SI.of_own hoR (els_r hP.2 heR)).form
          subst eu1 eu2
          have HOQ := Lib.hid hoQ
          have HDEC : Hid (∀ p, Good P (kn l) kk e p → Q = p ∧ R = []) := (show Hid _ from fun p hg => sol_good HP.out HPT.out (by rw [← HN.out]; omega) hg HSol.out heQ heR htQ htR hlQ' hlR' (by rw [← HAE.out]; exact hdv))
          have HQE := Lib.hid heQ
          have HQT := Lib.hid htQ
          have HB18 : Hid (Below w1.heap.size w1 w8) := (show Hid _ from HB17.out.trans (HB8.out.mono HB17.out.size))
          have HB8w : Hid (Below w.heap.size w w8) := (show Hid _ from HB1.out.trans (HB18.out.mono HB1.out.size))
          have HE8 : Hid (EW w8) := (show Hid _ from HE.out.below HB8w.out)
          have HZ8 : Hid (w8.heap[Z]? = some (.cells #[.slice none 0 0, .slice none 0 0] 135 (0, 0))) := (show Hid _ from (HB18.out.block Z hZ1).trans HZ1.out)
          have f8 : w8.cell? ⟨w.heap.size, 0, none⟩ = some (.int .i64 P) := (HB18.out.cell (by show w.heap.size < w1.heap.size; omega)).trans f0
          have HS8 : Hid (SCl w8 (.slice A l.length c) l) := (show Hid _ from HS.out.below HB8w.out)
          have z0 : w8.cell? ⟨Z, 0, none⟩ = some (.slice none 0 0) := cell_of_row w8 _ 0 _ _ _ HZ8.out
          have z1 : w8.cell? ⟨Z, 1, none⟩ = some (.slice none 0 0) := cell_of_row w8 _ 1 _ _ _ HZ8.out
          have g0 := frozen_of_row w8 Z 0 _ _ HZ8.out
          have g1 := frozen_of_row w8 Z 1 _ _ HZ8.out
          have cg := HE8.out.1
          obtain ⟨nQ, enQ⟩ : ∃ n, n = Q.length := ⟨_, rfl⟩
          obtain ⟨nR, enR⟩ : ∃ n, n = R.length := ⟨_, rfl⟩
          rw [← enQ] at hlQ' HSQ
          rw [← enR] at hlR'
          rw [← enQ, ← enR]
          have HnQ := Lib.hid enQ
          have HnR := Lib.hid enR
          clear hb8 hoQ hoR heQ heR htQ htR hlQ hlR hdv enQ enR f7
          by_cases hR : nR = 0
          · subst hR
            have hdQ : decide ((kk : Int) < (nQ : Int)) = false := decide_eq_false (by omega)
            have hdQ2 : decide (kk < nQ) = false := decide_eq_false (by omega)
            have HSQ' := HSQ
            have hQ1000 : Q.length ≤ 1000000 := by rw [← HnQ.out]; omega
            have HWR : Hid (∀ W : World, SCl W (.slice A l.length c) l → SI W (.slice A1 nQ c1) Q → Calls Tryz.prog 132 #[.int .i64 P, .slice A l.length c, .slice A1 nQ c1] W fun en w' => ∃ v', en = .returned v' ∧ Hid (w'.ownsRow W.heap.size 3 1 v' (wrg P l Q).length ((wrg P l Q).map (Value.int .i64))) ∧ Hid (Below W.heap.size W w')) := (show Hid _ from fun W h1 h2 => (wrongs_any P l Q _ _ W hP h1 (by omega) hlP h2 HQE.out hQ1000).mono fun en w' ⟨v', q1, q2, q3⟩ => ⟨v', q1, q2, q3⟩)
            go_wp2_with fail
            (with_reducible refine (HWR.out _ HS8.out HSQ.out).mono ?_); rintro e9 w10 ⟨v10, rfl, HO10, HB10⟩
            have HSW : Hid (SI w10 v10 (wrg P l Q)) := (show Hid _ from SI.of_own HO10.out (fun y hy => by
              unfold wrg at hy
              obtain ⟨t, ht, rfl⟩ := List.mem_map.1 hy
              have h1 := knF_at l 0 t (List.mem_filter.1 ht).1
              simp at h1
              unfold i64r; omega))
            obtain ⟨A10, c10, ev10⟩ := HSW.out.form
            subst ev10
            obtain ⟨nW, enW⟩ : ∃ n, n = (wrg P l Q).length := ⟨_, rfl⟩
            rw [← enW] at HSW
            rw [← enW]
            have HWL : Hid (nW = (wrg P l Q).length) := (show Hid _ from enW)
            have HnW : Hid (nW = (wrk P (kn l) Q).length) := (show Hid _ from by show _ = _; rw [enW]; unfold wrg; rw [List.length_map])
            have hwl := wrg_len P l Q
            have hnW32 : nW ≤ 32 := by omega
            have HB110 : Hid (Below w1.heap.size w1 w10) := (show Hid _ from HB18.out.trans (HB10.out.mono HB18.out.size))
            have HB10w : Hid (Below w.heap.size w w10) := (show Hid _ from HB1.out.trans (HB110.out.mono HB1.out.size))
            have HE10 : Hid (EW w10) := (show Hid _ from HE.out.below HB10w.out)
            obtain ⟨w11, ew11⟩ : ∃ w11 : World, w11 = w10.alloc (.cells #[.slice A1 nQ c1, .slice A10 nW c10] 135) := ⟨_, rfl⟩
            have HB11 : Hid (Below w10.heap.size w10 w11) := (show Hid _ from by rw [ew11]; exact (Below.refl _ w10).alloc (Nat.le_refl _) _)
            have HD11 : Hid (w11.heap[w10.heap.size]? = some (.cells #[.slice A1 nQ c1, .slice A10 nW c10] 135 (0, 0))) := (show Hid _ from by show _ = _; rw [ew11]; exact heap_alloc_new w10 _)
            have HW11 : Hid (w10.alloc (.cells #[.slice A1 nQ c1, .slice A10 nW c10] 135) = w11) := ew11.symm
            have HB111 : Hid (Below w1.heap.size w1 w11) := (show Hid _ from HB110.out.trans (HB11.out.mono HB110.out.size))
            have HB11w : Hid (Below w.heap.size w w11) := (show Hid _ from HB1.out.trans (HB111.out.mono HB1.out.size))
            have HE11 : Hid (EW w11) := (show Hid _ from HE.out.below HB11w.out)
            have HZ11 : Hid (w11.heap[Z]? = some (.cells #[.slice none 0 0, .slice none 0 0] 135 (0, 0))) := (show Hid _ from (HB111.out.block Z hZ1).trans HZ1.out)
            have HSQ11 : Hid (SI w11 (.slice A1 nQ c1) Q) := (show Hid _ from (HSQ.out.below HB10.out).below HB11.out)
            have HSW11 : Hid (SI w11 (.slice A10 nW c10) (wrg P l Q)) := (show Hid _ from HSW.out.below HB11.out)
            have z0 : w11.cell? ⟨Z, 0, none⟩ = some (.slice none 0 0) := cell_of_row w11 _ 0 _ _ _ HZ11.out
            have z1 : w11.cell? ⟨Z, 1, none⟩ = some (.slice none 0 0) := cell_of_row w11 _ 1 _ _ _ HZ11.out
            have g0 := frozen_of_row w11 Z 0 _ _ HZ11.out
            have g1 := frozen_of_row w11 Z 1 _ _ HZ11.out
            have cg := HE11.out.1
            have d0 : w11.cell? ⟨w10.heap.size, 0, none⟩ = some (.slice A1 nQ c1) := cell_of_row w11 _ 0 _ _ _ HD11.out
            have d1 : w11.cell? ⟨w10.heap.size, 1, none⟩ = some (.slice A10 nW c10) := cell_of_row w11 _ 1 _ _ _ HD11.out
            clear ew11 enW hwl
            go_upto_region 16 with fail
            rw [HW11.out]
            by_cases hW : nW ≤ e
            · have hdW : decide ((e : Int) < (nW : Int)) = false := decide_eq_false (by omega)
              have hdW2 : decide (e < nW) = false := decide_eq_false (by omega)
              have HG : Hid (Good P (kn l) ((kk : Int)).toNat (radN l ((kk : Int)).toNat) Q) := (show Hid _ from by
                rw [Int.toNat_natCast, ← HRADN.out]
                exact ⟨by rw [← HnQ.out]; exact hlQ', HQE.out, HQT.out, by rw [← HnW.out]; exact hW⟩)
              go_wp2_with fail
              have r0 := (res2' HZ11.out (.slice A1 nQ c1) (.slice A10 nW c10)).1
              have r1 := (res2' HZ11.out (.slice A1 nQ c1) (.slice A10 nW c10)).2
              refine bodyPost_ret (v := .tuple #[.agg #[.slice A1 nQ c1, .slice A10 nW c10], .nilIface]) (by simp [results, Tryz.results103, go_sem, r0, r1]) rfl ⟨Q, 0, .slice A1 nQ c1, .slice A10 nW c10, rfl, ?_, .inr ⟨HFI.out, .inl ⟨rfl, HG.out⟩⟩, ?_, ?_⟩
              · exact (HB11w.out.setCell (by show w.heap.size ≤ Z; omega) _).setCell (by show w.heap.size ≤ Z; omega) _
              · have HB17w : w.heap.size ≤ w7.heap.size := Nat.le_trans HB1.out.size HB17.out.size
                have hz7 : Z < w7.heap.size := Nat.lt_of_lt_of_le hZ1 HB17.out.size
                have h1 := own_set3 (own_set3 (own_bel (own_bel HOQ.out HB10.out) HB11.out) (p := ⟨Z, 0, none⟩) hz7 (.slice A1 nQ c1)) (p := ⟨Z, 1, none⟩) hz7 (.slice A10 nW c10)
                exact own_lo (by rw [HnQ.out] at h1 ⊢; exact h1) HB17w
              · have HB18w : w.heap.size ≤ w8.heap.size := Nat.le_trans HB1.out.size HB18.out.size
                have hz8 : Z < w8.heap.size := Nat.lt_of_lt_of_le hZ1 HB18.out.size
                have h1 := own_set3 (own_set3 (own_bel HO10.out HB11.out) (p := ⟨Z, 0, none⟩) hz8 (.slice A1 nQ c1)) (p := ⟨Z, 1, none⟩) hz8 (.slice A10 nW c10)
                rw [if_pos rfl]
                exact own_lo (by rw [HWL.out] at h1 ⊢; exact h1) HB18w
            · have hdW : decide ((e : Int) < (nW : Int)) = true := decide_eq_true (by omega)
              have hdW2 : decide (e < nW) = true := decide_eq_true (by omega)
              have HNG : Hid (∀ p, ¬ Good P (kn l) ((kk : Int)).toNat (radN l ((kk : Int)).toNat) p) := (show Hid _ from fun p hg => by
                rw [Int.toNat_natCast, ← HRADN.out] at hg
                have h1 := (HDEC.out p hg).1
                have h2 := hg.few
                rw [← h1, ← HnW.out] at h2
                exact hW h2)
              clear hW
              go_wp2_with fail
              go_region
              all_goals
                go_wp2_with fail
                have r0 := (res2 HZ11.out (.slice none 0 0) (.slice none 0 0)).1
                have r1 := (res2 HZ11.out (.slice none 0 0) (.slice none 0 0)).2
                refine bodyPost_ret (v := .tuple #[.agg #[.slice none 0 0, .slice none 0 0], .iface 190 (.agg #[.int .i64 12])]) (by simp [results, Tryz.results103, go_sem, r0, r1]) rfl (dec_no HFI.out HNG.out ?_)
                exact ((HB11w.out.setCell (by show w.heap.size ≤ Z; omega) _).setCell (by show w.heap.size ≤ Z; omega) _).drew
          · have hR1 : decide ((0 : Int) < (nR : Int)) = true := decide_eq_true (by omega)
            have hR2 : decide (0 < nR) = true := decide_eq_true (by omega)
            have hR3 : (0 : Int) < (nR : Int) := by omega
            have hR4 : 0 < nR := by omega
            have HNG : Hid (∀ p, ¬ Good P (kn l) ((kk : Int)).toNat (radN l ((kk : Int)).toNat) p) := (show Hid _ from fun p hg => by
              rw [Int.toNat_natCast, ← HRADN.out] at hg
              have := (HDEC.out p hg).2
              exact hR (by rw [HnR.out, this]; rfl))
            clear hR
            go_wp2_with fail
            go_region
            all_goals
              go_wp2_with fail
              have r0 := (res2 HZ8.out (.slice none 0 0) (.slice none 0 0)).1
              have r1 := (res2 HZ8.out (.slice none 0 0) (.slice none 0 0)).2
              refine bodyPost_ret (v := .tuple #[.agg #[.slice none 0 0, .slice none 0 0], .iface 190 (.agg #[.int .i64 12])]) (by simp [results, Tryz.results103, go_sem, r0, r1]) rfl (dec_no HFI.out HNG.out ?_)
              exact ((HB8w.out.setCell (by show w.heap.size ≤ Z; omega) _).setCell (by show w.heap.size ≤ Z; omega) _).drew
    · subst her hv5
      have HNG : Hid (∀ p, ¬ Good P (kn l) ((kk : Int)).toNat (radN l ((kk : Int)).toNat) p) := (show Hid _ from fun p hg => by
        rw [Int.toNat_natCast, ← HRADN.out] at hg
        obtain ⟨s, hs, _⟩ := good_sol hP.1 hg
        exact hno ⟨s, (HSE.out s).2 hs⟩)
      clear hno HCASE
      go_wp2_with fail
      go_region
      all_goals
        go_wp2_with fail
        have r0 := (res2 HZ5.out (.slice none 0 0) (.slice none 0 0)).1
        have r1 := (res2 HZ5.out (.slice none 0 0) (.slice none 0 0)).2
        refine bodyPost_ret (v := .tuple #[.agg #[.slice none 0 0, .slice none 0 0], .iface 190 (.agg #[.int .i64 12])]) (by simp [results, Tryz.results103, go_sem, r0, r1]) rfl (dec_no HFI.out HNG.out ?_)
        exact ((HB5.out.setCell (by show w.heap.size ≤ Z; omega) _).setCell (by show w.heap.size ≤ Z; omega) _).drew
  · have hne : (fe != 0) = true := by simp [hf0]
    have HUR : Hid (UnR P l k [] fe) := (show Hid _ from .inl ⟨by rw [← efe]; exact hf0, efe, rfl⟩)
    have HEV : Hid (errV fe = .iface 190 (.agg #[.int .i64 fe])) := (show Hid _ from by show _ = _; unfold errV; rw [if_neg hf0])
    have HF0 := Lib.hid hf0
    have z0 : w1.cell? ⟨w.heap.size + 1, 0, none⟩ = some (.slice none 0 0) := cell_of_row w1 _ 0 _ _ _ HZ1.out
    have z1 : w1.cell? ⟨w.heap.size + 1, 1, none⟩ = some (.slice none 0 0) := cell_of_row w1 _ 1 _ _ _ HZ1.out
    have g0 := frozen_of_row w1 (w.heap.size + 1) 0 _ _ HZ1.out
    have g1 := frozen_of_row w1 (w.heap.size + 1) 1 _ _ HZ1.out
    clear hf0 efe
    go_wp2_with (go_at_call 126; refine (uof_any fe _).mono ?_; rintro e9 w9 ⟨rfl, rfl⟩; rw [HEV.out])
    have q1 := heap_setCell_same w1 (w.heap.size + 1) 0 _ _ (.slice none 0 0) HZ1.out
    have q2 := heap_setCell_same _ (w.heap.size + 1) 1 _ _ (.slice none 0 0) q1
    obtain ⟨wf, ewf⟩ : ∃ wf : World, wf = (w1.setCell ⟨w.heap.size + 1, 0, none⟩ (.slice none 0 0)).setCell ⟨w.heap.size + 1, 1, none⟩ (.slice none 0 0) := ⟨_, rfl⟩
    rw [← ewf] at q2 ⊢
    have r0 : wf.cell? ⟨w.heap.size + 1, 0, none⟩ = some (.slice none 0 0) := (cell_of_row wf _ 0 _ _ _ q2).trans (by simp)
    have r1 : wf.cell? ⟨w.heap.size + 1, 1, none⟩ = some (.slice none 0 0) := (cell_of_row wf _ 1 _ _ _ q2).trans (by simp)
    have hBf : Below w.heap.size w wf := by rw [ewf]; exact (HB1.out.setCell (by show w.heap.size ≤ w.heap.size + 1; omega) _).setCell (by show w.heap.size ≤ w.heap.size + 1; omega) _
    clear ewf q1 q2
    refine bodyPost_ret (v := .tuple #[.agg #[.slice none 0 0, .slice none 0 0], .iface 190 (.agg #[.int .i64 fe])]) (by simp [results, Tryz.results103, go_sem, r0, r1]) rfl ⟨[], fe, .slice none 0 0, .slice none 0 0, ?_, hBf, HUR.out, World.ownsRow_nil _ _ _ _, by rw [if_neg HF0.out]; exact World.ownsRow_nil _ _ _ _⟩
    rw [HEV.out]
end Go.Proofs.YtoiabanpnkpbhaaGreatDoor
