/- Joined: Sh Sl Cv On Wa Wn Qr Li Qp. -/
import Derived.Test.YtbgabipngdillaaGreatDoorZ05
import Derived.Test.YtbgabipngdillaaGreatDoorZ08
import Derived.Test.YtbgabipngdillaaGreatDoorZ12
namespace Go.Proofs.YtbgabipngdillaaGreatDoor
open Go.RowKit Go.Shelf

def shL (P : Int) (co pts : List Int) : List (Int × Int) := pts.map fun x => (x, val P co x)
theorem shL_snoc (P : Int) (co pts : List Int) (k : Nat) (h : k < pts.length) : shL P co (pts.take (k + 1)) = shL P co (pts.take k) ++ [(pts[k], val P co pts[k])] := by
  unfold shL
  rw [List.take_succ_eq_append_getElem h, List.map_append]
  rfl
def ShR (P : Int) (co pts : List Int) (w : World) (i v : Value) (wr : World) : Prop :=
  ∃ k : Nat, k ≤ pts.length ∧ i = .int .i64 k ∧ wr.ownsRow w.heap.size 91 2 v (shL P co (pts.take k)).length (((shL P co (pts.take k)).flatMap pcs).map (Value.int .i64)) ∧ Below w.heap.size w wr
set_option maxRecDepth 100000 in
set_option maxHeartbeats 4000000 in
theorem shares_any (P : Int) (co pts : List Int) (vc vp : Value) (w : World) (hP : 2 ≤ P ∧ P ≤ 65521) (hc : SI w vc co) (hp : SI w vp pts) (hel : els P co = true) (hpe : els P pts = true) (hcl : co.length ≤ 1000000) (hpl : pts.length ≤ 1000000) :
    Calls Tryz.prog 71 #[.int .i64 P, vc, vp] w fun e w' => ∃ v, e = .returned v ∧ w'.ownsRow w.heap.size 91 2 v (shL P co pts).length (((shL P co pts).flatMap pcs).map (Value.int .i64)) ∧ Below w.heap.size w w' := by
  obtain ⟨i0, hi0, hi1, hi2, hi3⟩ := info_parts shinfo
  have HC := Lib.hid hc
  have HPS := Lib.hid hp
  have HEL := Lib.hid hel
  have HPE := Lib.hid hpe
  obtain ⟨Ap, kp, rfl⟩ := hp.form'
  clear hc hp hel hpe
  go_enter Tryz.func71, Tryz.ntmps71
  go_wp2_with fail
  go_loopw [12, 7] (fun i v wr => ShR P co pts w i v wr) (fun i _ _ => pts.length - (intOf i).toNat)
  case atStart => exact ⟨0, Nat.zero_le _, rfl, by simpa [shL] using World.ownsRow_nil w w.heap.size 91 2, Below.refl _ _⟩
  case round =>
    obtain ⟨k, hk, rfl, hown, hbel⟩ := hrel
    have HO := Lib.hid hown
    have HB := Lib.hid hbel
    have hzr := hbel.size
    clear hown hbel
    by_cases hlt : k < pts.length
    · have hd1 : decide ((k : Int) < (pts.length : Int)) = true := decide_eq_true (by omega)
      have hki : (k : Int) < (pts.length : Int) := by omega
      obtain ⟨b, off, hA, hbl, hcell⟩ := SB.cells HPS.out (by omega)
      subst hA
      have hck := (HB.out.cell (p := ⟨b, off + k, none⟩) hbl).trans (hcell k hlt)
      have HSN := Lib.hid (shL_snoc P co pts k hlt)
      have hxe : 0 ≤ pts[k] ∧ pts[k] < P := by have := els_all HPE.out pts[k] (List.getElem_mem hlt); exact of_decide_eq_true this
      have HCr : Hid (SI wr vc co) := HC.out.below HB.out
      have hlen : (shL P co (pts.take k)).length = k := by unfold shL; simp; omega
      obtain ⟨D, hD⟩ : ∃ D, shL P co (pts.take k) = D := ⟨_, rfl⟩
      rw [hD] at HO HSN hlen
      obtain ⟨x, hx⟩ : ∃ x, pts[k] = x := ⟨_, rfl⟩
      rw [hx] at HSN hxe hck
      have HLE := Lib.hid hlen
      have hDl : D.length ≤ 1000000 := by omega
      clear hcell hD hlen
      go_wp2_with fail
      (with_reducible refine (value_any P x co vc _ hP hxe HEL.out hcl HCr.out).mono ?_)
      rintro e w2 ⟨rfl, hb2⟩
      have HB2 := Lib.hid hb2
      have HO2 := Lib.hid (own_bel HO.out hb2)
      have HBb : Hid (Below w.heap.size w w2) := HB.out.trans (hb2.mono hzr)
      have hz2 : w.heap.size ≤ w2.heap.size := HBb.out.size
      obtain ⟨y, hy⟩ : ∃ y, val P co x = y := ⟨_, rfl⟩
      rw [hy] at HSN ⊢
      clear hb2 hy
      go_wp2_with (at_builtin; refine wpList_append_own _ rfl _ _ 87 rfl w.heap.size 91 i0 _ 2 16 Tryz.underlying87 hi0 hi1 hi2 hi3 rfl (by omega) _ _ _ rfl (HO2.out.alloc _) ⟨w2.heap.size, 0, none⟩ 1 1 (List.map (Value.int .i64) (pcs (x, y))) rfl rfl (cells_new w2 _ _) (by intro u hu; simp [pcs] at hu; rcases hu with rfl | rfl <;> rfl) (by unfold maxLen; omega) (by omega) (by simp; omega) ?_; intro v3 w3 hown3 hg3 _; have HO3 := Lib.hid hown3; have HG3 := Lib.hid hg3; clear hown3 hg3)
      go_roundw
      case rel =>
        refine ⟨k + 1, by omega, by go_num, ?_, ?_⟩
        · rw [HSN.out]
          simpa using HO3.out
        · exact (HBb.out.alloc hz2 _).grown HG3.out (by simp; omega) (fun k hk => (HO2.out.lt k hk).1)
      case measure => simp [intOf]; omega
    · have hkk : k = pts.length := by omega
      subst hkk
      have hd1 : decide ((pts.length : Int) < (pts.length : Int)) = false := decide_eq_false (by omega)
      rw [List.take_length] at HO
      go_wp2_with fail
      go_ret
      exact ⟨_, rfl, HO.out, HB.out⟩
end Go.Proofs.YtbgabipngdillaaGreatDoor

namespace Go.Proofs.YtbgabipngdillaaGreatDoor
open Go.RowKit Go.Shelf

/-- append(own, ints...) inside a region that draws its order -/
theorem step_append_ints {P : Program} (w : World) {ops : Array Oper} {o : Oper} {a : Act} {K : Act → World → Prop} {Q : Exit → Act → World → Prop} {E : Prop} (hgd : o.guard = none) (s x : Operand) (t : TypeId)
    (ho : o.op = .call { callee := .builtin .append, args := #[s, x], argTypes := #[t, t] })
    (base : Nat) (e : TypeId) (ht : P.underlying t = some (.slice e)) (hinfo : (P.info? e).map (fun i => (i.zero, i.size, i.bytes)) = some (some (.int .i64 0), 1, 8))
    (v : Value) (xs : List Int) (hs : a.eval s = v) (hown : w.ownsRow base e 1 v xs.length (xs.map (Value.int .i64)))
    (B : Nat) (src : Value) (l : List Int) (hx : a.eval x = src) (hr : SB B w src l)
    (hbytes : xs.length + l.length ≤ 17592186044416) (hbase : base ≤ w.heap.size)
    (h : ∀ A c w', w'.ownsRow base e 1 (.slice A (xs ++ l).length c) (xs ++ l).length ((xs ++ l).map (Value.int .i64)) → w.grownBy w' v.ownBlock → K (a.put o.dst (.slice A (xs ++ l).length c)) w') :
    if Region.wanted o (yielded ops a.tmps) = true then Oper.wp P o a w K Q else E := by
  obtain ⟨i0, hi0, hz0, hz1, hz2⟩ := info_parts hinfo
  have hw : Region.wanted o (yielded ops a.tmps) = true := by simp [Region.wanted, hgd]
  rw [if_pos hw]
  refine wp_append_sc w s x t ho base e i0 _ 1 8 ht hi0 hz0 hz1 hz2 rfl (by omega) v _ _ hs hown B _ l.length (l.map (Value.int .i64)) hx hr.sc (one_ints l) (by unfold maxLen; omega) (by omega) hbase fun v' w' h1 h2 => ?_
  obtain ⟨A, c, rfl⟩ := own_sl h1
  have h1' : w'.ownsRow base e 1 (.slice A (xs ++ l).length c) (xs ++ l).length ((xs ++ l).map (Value.int .i64)) := by rw [List.length_append, List.map_append]; exact h1
  have := h A c w' h1' h2
  rw [List.length_append] at this
  exact this
theorem thr_any (n : Int) (w : World) (h : 0 ≤ n ∧ n ≤ 9) : Calls Tryz.prog 70 #[.int .i64 n] w fun e w' => e = .returned (.bool true) ∧ w = w' := by
  go_enter Tryz.func70, Tryz.ntmps70
  obtain ⟨h1, h2⟩ := h
  go_wp2_with fail
  go_ret
  exact ⟨rfl, rfl⟩
/-- the points 1 to n -/
def upto (n : Nat) : List Int := (List.range n).map fun (j : Nat) => ((j : Nat) : Int) + 1
theorem upto_succ (n : Nat) : upto (n + 1) = upto n ++ [(n : Int) + 1] := by
  unfold upto
  rw [List.range_succ, List.map_append]
  rfl
theorem upto_len (n : Nat) : (upto n).length = n := by unfold upto; simp
def SlR (w : World) (n : Nat) (i v : Value) (wr : World) : Prop := ∃ k : Nat, k ≤ n ∧ i = .int .i64 k ∧ wr.ownsRow w.heap.size 3 1 v (upto k).length ((upto k).map (Value.int .i64)) ∧ Below w.heap.size w wr
set_option maxRecDepth 100000 in
set_option maxHeartbeats 4000000 in
theorem split_any (P sec : Int) (most count : Nat) (l : List Int) (an : Nat) (v : Value) (w : World) (hp : prB P = true) (hsec : el P sec = true) (hm : most ≤ 9) (hc1 : 1 ≤ count) (hc2 : (count : Int) < P) (hc3 : count ≤ 512) (h : SI w v l) (hd : dsE l an P most = 0) :
    Calls Tryz.prog 45 #[.agg #[.int .i64 P], .int .i64 sec, .int .i64 most, .int .i64 count, .agg #[v, .int .i64 an]] w fun e w' => ∃ vs A1 n1 c1 a1, e = .returned (.tuple #[vs, .agg #[.slice A1 n1 c1, .int .i64 a1], .int .i64 0]) ∧
      w'.ownsRow w.heap.size 91 2 vs (shL P (sec :: (l.drop an).take most) (upto count)).length (((shL P (sec :: (l.drop an).take most) (upto count)).flatMap pcs).map (Value.int .i64)) ∧ Below w.heap.size w w' := by
  have HS := Lib.hid h
  have HP := Lib.hid hp
  have HE := Lib.hid hsec
  have HD := Lib.hid hd
  obtain ⟨A, cc, rfl⟩ := h.form'
  have hPb := prB_bd hp
  have hsb : 0 ≤ sec ∧ sec < P := of_decide_eq_true hsec
  clear h hp hsec hd
  go_enter Tryz.func45, Tryz.ntmps45
  go_upto_region 1 with fail
  obtain ⟨wa, ew⟩ : ∃ wa : World, wa = ((w.alloc (.cells #[.int .i64 P] 31)).alloc (.cells #[.slice A l.length cc, .int .i64 an] 39)).alloc (.cells #[.slice none 0 0, .int .i64 0] 39) := ⟨_, rfl⟩
  have HBa : Hid (Below w.heap.size w wa) := by show Below _ _ _; rw [ew]; exact (((Below.refl _ w).alloc (Nat.le_refl _) _).alloc (by simp) _).alloc (by simp; omega) _
  have hza : wa.heap.size = w.heap.size + 3 := by rw [ew]; simp
  have HF : Hid (wa.heap[w.heap.size]? = some (.cells #[.int .i64 P] 31 (0, 0))) := by
    show _ = _; rw [ew, Below.heap_alloc _ _ _ (by simp; omega), Below.heap_alloc _ _ _ (by simp)]; exact heap_alloc_new w _
  have HT : Hid (wa.heap[w.heap.size + 1]? = some (.cells #[.slice A l.length cc, .int .i64 an] 39 (0, 0))) := by
    show _ = _; rw [ew, Below.heap_alloc _ _ _ (by simp)]; have := heap_alloc_new (w.alloc (.cells #[.int .i64 P] 31)) (.cells #[.slice A l.length cc, .int .i64 an] 39); simpa using this
  have HR : Hid (wa.heap[w.heap.size + 2]? = some (.cells #[.slice none 0 0, .int .i64 0] 39 (0, 0))) := by
    show _ = _; rw [ew]; have := heap_alloc_new ((w.alloc (.cells #[.int .i64 P] 31)).alloc (.cells #[.slice A l.length cc, .int .i64 an] 39)) (.cells #[.slice none 0 0, .int .i64 0] 39); simpa using this
  rw [← ew]
  clear ew
  have HSa := Lib.hid (HS.out.below HBa.out)
  obtain ⟨F, hF⟩ : ∃ F, w.heap.size = F := ⟨_, rfl⟩
  have HFF := Lib.hid hF
  rw [hF] at HF HT HR hza ⊢
  clear hF
  have cF0 : wa.cell? ⟨F, 0, none⟩ = some (.int .i64 P) := cell_of_row wa F 0 _ _ _ HF.out
  go_wp2_with fail
  (with_reducible refine (of_any P _ (by unfold i64r; omega)).mono ?_)
  rintro e w1 ⟨rfl, hb1⟩
  have hpt := HP.out
  have hof : ofP P = P := by unfold ofP; rw [if_pos hpt]
  rw [hpt, hof]
  have HBw : Hid (Below w.heap.size w w1) := HBa.out.trans (hb1.mono HBa.out.size)
  have HF1 : Hid (w1.heap[F]? = some (.cells #[.int .i64 P] 31 (0, 0))) := (hb1.block F (by omega)).trans HF.out
  have HT1 : Hid (w1.heap[F + 1]? = some (.cells #[.slice A l.length cc, .int .i64 an] 39 (0, 0))) := (hb1.block (F + 1) (by omega)).trans HT.out
  have HR1 : Hid (w1.heap[F + 2]? = some (.cells #[.slice none 0 0, .int .i64 0] 39 (0, 0))) := (hb1.block (F + 2) (by omega)).trans HR.out
  have hz1 := hb1.size
  clear cF0 hb1 hpt hof
  go_wp2_with fail
  (with_reducible refine (has_any P sec _).mono ?_)
  rintro e w2 ⟨rfl, rfl⟩
  rw [HE.out]
  go_wp2_with fail
  (with_reducible refine (thr_any most _ (by omega)).mono ?_)
  rintro e w2 ⟨rfl, rfl⟩
  have cF0 : w1.cell? ⟨F, 0, none⟩ = some (.int .i64 P) := cell_of_row w1 F 0 _ _ _ HF1.out
  have d1 : decide ((count : Int) < 1) = false := decide_eq_false (by omega)
  have d2 : decide (P ≤ (count : Int)) = false := decide_eq_false (by omega)
  have d3 : decide ((512 : Int) < (count : Int)) = false := decide_eq_false (by omega)
  have cT0 : w1.cell? ⟨F + 1, 0, none⟩ = some (.slice A l.length cc) := cell_of_row w1 (F + 1) 0 _ _ _ HT1.out
  have cT1 : w1.cell? ⟨F + 1, 1, none⟩ = some (.int .i64 an) := cell_of_row w1 (F + 1) 1 _ _ _ HT1.out
  have fT0 : w1.frozen? ⟨F + 1, 0, none⟩ = false := frozen_of_row w1 (F + 1) 0 _ _ HT1.out
  have fT1 : w1.frozen? ⟨F + 1, 1, none⟩ = false := frozen_of_row w1 (F + 1) 1 _ _ HT1.out
  go_wp2_with fail
  have HS1 : Hid (SI w1 (.slice A l.length cc) l) := HS.out.below HBw.out
  (with_reducible refine (draws_any l an P most _ _ HS1.out (by unfold i64r; omega)).mono ?_)
  rintro e w2 ⟨v1, a1, v2, rfl, hb2, hok, hno⟩
  clear hno
  obtain ⟨rfl, hs2, ho2⟩ := hok HD.out
  rw [HD.out]
  obtain ⟨A2, k2, rfl⟩ := hs2.form'
  obtain ⟨Ad, kd, rfl⟩ := own_sl ho2
  have HS2 := Lib.hid hs2
  have hRG : ∀ x ∈ l, i64r x := by obtain ⟨_, _, _, _, _, hr, _⟩ := HS.out; exact hr
  obtain ⟨D, hD⟩ : ∃ D, (l.drop an).take most = D := ⟨_, rfl⟩
  have HDD := Lib.hid hD
  have hDD2 : (l.drop ((an : Int)).toNat).take ((most : Int)).toNat = D := hD
  rw [hDD2] at ho2 ⊢
  have HOW := Lib.hid ho2
  have HRD : Hid (∀ x ∈ D, i64r x) := by intro x hx; rw [← hD] at hx; exact hRG x (List.mem_of_mem_drop (List.mem_of_mem_take hx))
  have HDL : Hid (D.length ≤ 9) := by show _ ≤ _; rw [← hD]; simp; omega
  have HELD : Hid (els P D = true) := by
    show _ = _
    have hz := HD.out
    have hv : tvB l an = true := by
      cases h : tvB l (an : Int) with
      | true => rfl
      | false => unfold dsE at hz; rw [if_pos h] at hz; cases hz
    have hd : drE l P an most = 0 := by
      unfold dsE at hz
      rw [if_neg (by rw [hv]; simp)] at hz
      split at hz
      · cases hz
      · exact hz
    have := drE_ok hd
    rw [← hD]
    unfold els
    rw [List.all_eq_true]
    intro x hx
    obtain ⟨j, hj, rfl⟩ := List.mem_iff_getElem.1 hx
    have hjm : j < most := by simp at hj; omega
    obtain ⟨q1, q2, q3⟩ := this j hjm
    have : gd l (an + j) = ((l.drop an).take most)[j] := by simp [gd, q1]
    rw [this] at q2 q3
    exact decide_eq_true ⟨q2, q3⟩
  have HR2 : Hid (w2.heap[F + 2]? = some (.cells #[.slice none 0 0, .int .i64 0] 39 (0, 0))) := (hb2.block (F + 2) (by omega)).trans HR1.out
  have HT2 : Hid (w2.heap[F + 1]? = some (.cells #[.slice A l.length cc, .int .i64 an] 39 (0, 0))) := (hb2.block (F + 1) (by omega)).trans HT1.out
  have HBw2 : Hid (Below w.heap.size w w2) := HBw.out.trans (hb2.mono (by have := HBw.out.size; omega))
  have hz2 := hb2.size
  clear cT0 cT1 fT0 fT1 cF0 hok hs2 ho2 hD hDD2 hb2 hRG
  have cT0 : w2.cell? ⟨F + 1, 0, none⟩ = some (.slice A l.length cc) := cell_of_row w2 (F + 1) 0 _ _ _ HT2.out
  have cT1 : w2.cell? ⟨F + 1, 1, none⟩ = some (.int .i64 an) := cell_of_row w2 (F + 1) 1 _ _ _ HT2.out
  have fT0 : w2.frozen? ⟨F + 1, 0, none⟩ = false := frozen_of_row w2 (F + 1) 0 _ _ HT2.out
  have fT1 : w2.frozen? ⟨F + 1, 1, none⟩ = false := frozen_of_row w2 (F + 1) 1 _ _ HT2.out
  go_wp2_with fail
  obtain ⟨wb, ewb⟩ : ∃ wb : World, wb = (w2.setCell ⟨F + 1, 0, none⟩ (.slice A2 l.length k2)).setCell ⟨F + 1, 1, none⟩ (.int .i64 ((an : Int) + most)) := ⟨_, rfl⟩
  have HBb : Hid (Below w.heap.size w wb) := by show Below _ _ _; rw [ewb]; exact (HBw2.out.setCell (by show _ ≤ F + 1; have := HFF.out; omega) _).setCell (by show _ ≤ F + 1; have := HFF.out; omega) _
  have hFl : F + 2 < w2.heap.size := heap_of_cells HR2.out
  have hzb : wb.heap.size = w2.heap.size := by rw [ewb]; simp
  have HTb : Hid (wb.heap[F + 1]? = some (.cells #[.slice A2 l.length k2, .int .i64 ((an : Int) + most)] 39 (0, 0))) := by show _ = _; rw [ewb]; exact store2 _ _ HT2.out
  have HRb : Hid (wb.heap[F + 2]? = some (.cells #[.slice none 0 0, .int .i64 0] 39 (0, 0))) := by show _ = _; rw [ewb, heap_setCell_other _ _ (F + 2) _ (by show F + 2 ≠ F + 1; omega), heap_setCell_other _ _ (F + 2) _ (by show F + 2 ≠ F + 1; omega)]; exact HR2.out
  have HOb : Hid (SI wb (.slice Ad D.length kd) D) := by show SI _ _ _; rw [ewb]; exact SI.of_own (own_set3 (own_set3 HOW.out (by show F + 1 < w1.heap.size; omega) _) (by show F + 1 < w1.heap.size; omega) _) (fun x hx => HRD.out x hx)
  rw [← ewb]
  clear ewb cT0 cT1 fT0 fT1
  go_loopw [67, 17] (fun i v wr => SlR wb count i v wr) (fun i _ _ => count - (intOf i).toNat)
  case atStart => exact ⟨0, Nat.zero_le _, rfl, by simpa [upto] using World.ownsRow_nil wb wb.heap.size 3 1, Below.refl _ _⟩
  case round =>
    obtain ⟨k, hk, rfl, hown, hbel⟩ := hrel
    have HO := Lib.hid hown
    have HB := Lib.hid hbel
    have hzr := hbel.size
    clear hown hbel
    by_cases hlt : k < count
    · have hd1 : decide ((k : Int) < (count : Int)) = true := decide_eq_true (by omega)
      have hw1 : IntKind.i64.wrap ((k : Int) + 1) = (k : Int) + 1 := IntWalk.i64_in _ (by omega)
      go_wp2_with (at_builtin; refine wpList_append_int1 _ rfl _ _ 22 rfl wb.heap.size 3 Tryz.underlying22 iinfo _ (upto k) rfl HO.out ((k : Int) + 1) rfl (by rw [upto_len]; omega) hzr ?_; intro v3 w3 hown3 hg3; have HO3 := Lib.hid hown3; have HG3 := Lib.hid hg3; clear hown3 hg3)
      go_roundw
      case rel =>
        refine ⟨k + 1, by omega, by go_num, ?_, ?_⟩
        · rw [upto_succ]
          exact HO3.out
        · exact (HB.out.alloc hzr _).grown HG3.out (by simp; omega) (fun j hj => (HO.out.lt j hj).1)
      case measure => simp [intOf]; omega
    · have hkk : k = count := by omega
      subst hkk
      have hd1 : decide ((k : Int) < (k : Int)) = false := decide_eq_false (by omega)
      clear hlt
      go_wp2_with fail
      obtain ⟨Ap, kp, rfl⟩ := own_sl HO.out
      obtain ⟨U, hU⟩ : ∃ U, upto k = U := ⟨_, rfl⟩
      have HUU := Lib.hid hU
      have HPE : Hid (els P U = true) := by
        show _ = _
        rw [← hU]; unfold upto els; rw [List.all_eq_true]; intro x hx; obtain ⟨j, hj, rfl⟩ := List.mem_map.1 hx
        have := List.mem_range.1 hj
        exact decide_eq_true ⟨by omega, by omega⟩
      rw [hU] at HO ⊢
      have hUl : U.length = k := by rw [← hU, upto_len]
      have HPr : Hid (SI wr (.slice Ap k kp) U) := by
        have := SI.of_own HO.out (fun x hx => by have := els_all HPE.out x hx; have : 0 ≤ x ∧ x < P := of_decide_eq_true this; unfold i64r; omega)
        rw [hUl] at this
        exact this
      have HDr : Hid (SI wr (.slice Ad D.length kd) D) := HOb.out.below HB.out
      have HTr : Hid (wr.heap[F + 1]? = some (.cells #[.slice A2 l.length k2, .int .i64 ((an : Int) + most)] 39 (0, 0))) := (HB.out.block (F + 1) (by omega)).trans HTb.out
      have HRr : Hid (wr.heap[F + 2]? = some (.cells #[.slice none 0 0, .int .i64 0] 39 (0, 0))) := (HB.out.block (F + 2) (by omega)).trans HRb.out
      have HBr : Hid (Below w.heap.size w wr) := HBb.out.trans (HB.out.mono HBb.out.size)
      have cT0 : wr.cell? ⟨F + 1, 0, none⟩ = some (.slice A2 l.length k2) := cell_of_row wr (F + 1) 0 _ _ _ HTr.out
      have cT1 : wr.cell? ⟨F + 1, 1, none⟩ = some (.int .i64 ((an : Int) + most)) := cell_of_row wr (F + 1) 1 _ _ _ HTr.out
      have cR0 : wr.cell? ⟨F + 2, 0, none⟩ = some (.slice none 0 0) := cell_of_row wr (F + 2) 0 _ _ _ HRr.out
      have cR1 : wr.cell? ⟨F + 2, 1, none⟩ = some (.int .i64 0) := cell_of_row wr (F + 2) 1 _ _ _ HRr.out
      have fR0 : wr.frozen? ⟨F + 2, 0, none⟩ = false := frozen_of_row wr (F + 2) 0 _ _ HRr.out
      have fR1 : wr.frozen? ⟨F + 2, 1, none⟩ = false := frozen_of_row wr (F + 2) 1 _ _ HRr.out
      have hT1l : F + 1 < wr.heap.size := by omega
      have hR1l : F + 2 < wr.heap.size := by omega
      have HLIT : Hid ((wr.alloc (.cells #[.int .i64 sec] 3)).ownsRow wr.heap.size 3 1 (.slice (some ⟨wr.heap.size, 0, none⟩) 1 1) 1 [.int .i64 sec]) := own_lit (base := wr.heap.size) wr 3 [.int .i64 sec] (Nat.le_refl _) (by simp [maxLen])
      have HDL2 : Hid (SB wr.heap.size (wr.alloc (.cells #[.int .i64 sec] 3)) (.slice Ad D.length kd) D) := SB.below HDr.out ((Below.refl _ wr).alloc (Nat.le_refl _) _)
      have HDb := HDL.out
      have HELS : Hid (els P (sec :: D) = true) := els_of (fun x hx => by rcases List.mem_cons.1 hx with rfl | hx; exact HE.out; exact els_all HELD.out x hx)
      have HRS : Hid (∀ x ∈ sec :: D, i64r x) := fun x hx => by rcases List.mem_cons.1 hx with rfl | hx; (unfold i64r; omega); exact HRD.out x hx
      go_region_held3 (fun w' => w'.cell? ⟨F + 1, 0, none⟩ = some (.slice A2 l.length k2) ∧ w'.cell? ⟨F + 1, 1, none⟩ = some (.int .i64 ((an : Int) + most))) (first | exact ⟨cT0, cT1⟩ | exact ⟨x0, x1⟩ | exact ⟨y0, y1⟩ | go_keep)
        (first
          | (refine step_append_ints _ (by rfl) _ _ 22 (by rfl) wr.heap.size 3 Tryz.underlying22 iinfo _ [sec] (by rfl) ?a1 wr.heap.size _ D (by rfl) ?a2 ?a3 ?a4 ?_
             case a1 => first | exact HLIT.out | exact HLIT.out.drew
             case a2 => first | exact HDL2.out | exact HDL2.out.drew
             case a3 => simp; omega
             case a4 => simp
             intro A4 k4 w4 hown4 hg4
             have HB4 : Hid (Below wr.heap.size wr w4) := by
               first
                 | exact ((Below.refl _ wr).alloc (Nat.le_refl _) _).grown hg4 (by simp) (fun j hj => (HLIT.out.lt j hj).1)
                 | exact ((Below.refl _ wr).alloc (Nat.le_refl _) _).drew.grown hg4 (by simp) (fun j hj => (HLIT.out.lt j hj).1)
             have HO4 : Hid (w4.ownsRow wr.heap.size 3 1 (.slice A4 (sec :: D).length k4) (sec :: D).length ((sec :: D).map (Value.int .i64))) := hown4
             have x0 := (HB4.out.cell (p := ⟨F + 1, 0, none⟩) hT1l).trans cT0
             have x1 := (HB4.out.cell (p := ⟨F + 1, 1, none⟩) hT1l).trans cT1
             clear hown4 hg4)
          | (go_at_call 71
             refine (shares_any P (sec :: D) U _ _ _ (by omega) ?b1 ?b2 HELS.out HPE.out ?b4 (by omega)).mono ?_
             case b1 => first | exact SI.of_own HO4.out HRS.out | exact SI.of_own HO4.out.drew HRS.out
             case b2 => first | exact HPr.out.below HB4.out | exact HPr.out.below HB4.out.drew
             case b4 => simp; omega
             rintro e w5 ⟨vs, rfl, hO5, hb5⟩
             have HB5 : Hid (Below w4.heap.size w4 w5) := by first | exact hb5 | exact hb5.drew_left
             have HO5 : Hid (w5.ownsRow w4.heap.size 91 2 vs (shL P (sec :: D) U).length (((shL P (sec :: D) U).flatMap pcs).map (Value.int .i64))) := hO5
             have hlt1 : F + 1 < w4.heap.size := by have := HB4.out.size; omega
             have hlt2 : F + 2 < w4.heap.size := by have := HB4.out.size; omega
             have y0 := (HB5.out.cell (p := ⟨F + 1, 0, none⟩) hlt1).trans x0
             have y1 := (HB5.out.cell (p := ⟨F + 1, 1, none⟩) hlt1).trans x1
             have HR5 : Hid (w5.heap[F + 2]? = some (.cells #[.slice none 0 0, .int .i64 0] 39 (0, 0))) := (HB5.out.block (F + 2) hlt2).trans ((HB4.out.block (F + 2) hR1l).trans HRr.out)
             have y2 : w5.cell? ⟨F + 2, 0, none⟩ = some (.slice none 0 0) := cell_of_row w5 (F + 2) 0 _ _ _ HR5.out
             have y3 : w5.cell? ⟨F + 2, 1, none⟩ = some (.int .i64 0) := cell_of_row w5 (F + 2) 1 _ _ _ HR5.out
             have y4 : w5.frozen? ⟨F + 2, 0, none⟩ = false := frozen_of_row w5 (F + 2) 0 _ _ HR5.out
             have y5 : w5.frozen? ⟨F + 2, 1, none⟩ = false := frozen_of_row w5 (F + 2) 1 _ _ HR5.out
             clear hO5 hb5))
      all_goals
        go_wp2_with fail
        have HW := store2 (.slice A2 l.length k2) (.int .i64 ((an : Int) + most)) HR5.out
        have q0 := cell_of_row _ (F + 2) 0 _ _ _ HW
        have q1 := cell_of_row _ (F + 2) 1 _ _ _ HW
        simp only [List.getElem?_toArray, List.getElem?_cons_zero, List.getElem?_cons_succ] at q0 q1
        have hFw : w.heap.size ≤ F := by have := HFF.out; omega
        have hsw : w.heap.size ≤ wr.heap.size := by omega
        have hsw4 : w.heap.size ≤ w4.heap.size := by have := HB4.out.size; omega
        have HBw5 : Hid (Below w.heap.size w w5) := (HBr.out.trans (HB4.out.mono hsw)).trans (HB5.out.mono hsw4)
        refine bodyPost_ret (v := .tuple #[vs, .agg #[.slice A2 l.length k2, .int .i64 ((an : Int) + most)], .int .i64 0]) (by simp [results, Tryz.results45, go_sem, q0, q1]) rfl ⟨_, _, _, _, _, rfl, ?_, ?_⟩
        · rw [HDD.out, HUU.out]
          exact own_lo (own_set3 (own_set3 HO5.out hlt2 _) hlt2 _) hsw4
        · exact (HBw5.out.setCell (by show _ ≤ F + 2; omega) _).setCell (by show _ ≤ F + 2; omega) _
end Go.Proofs.YtbgabipngdillaaGreatDoor

namespace Go.Proofs.YtbgabipngdillaaGreatDoor
open Go.RowKit Go.Shelf

def vaB (n t : Int) : Bool := decide (2 ≤ n ∧ n ≤ 10 ∧ 1 ≤ t ∧ t < n)
theorem vaB_bd {n t : Int} (h : vaB n t = true) : 2 ≤ n ∧ n ≤ 10 ∧ 1 ≤ t ∧ t < n := of_decide_eq_true h
theorem cvalid_any (n t : Int) (w : World) :
    Calls Tryz.prog 51 #[.agg #[.int .i64 n, .int .i64 t]] w fun e w' => e = .returned (.bool (vaB n t)) ∧ Below w.heap.size w w' := by
  have HB : Hid (∀ o : Obj, Below w.heap.size w (w.alloc o)) := fun o => (Below.refl _ w).alloc (Nat.le_refl _) o
  go_enter Tryz.func51, Tryz.ntmps51
  by_cases h1 : 2 ≤ n
  · have d1 : decide (2 ≤ n) = true := decide_eq_true h1
    by_cases h2 : n ≤ 10
    · have d2 : decide (n ≤ 10) = true := decide_eq_true h2
      by_cases h3 : 1 ≤ t
      · have d3 : decide (1 ≤ t) = true := decide_eq_true h3
        by_cases h4 : t < n
        · have d4 : decide (t < n) = true := decide_eq_true h4
          have HE : Hid (vaB n t = true) := decide_eq_true ⟨h1, h2, h3, h4⟩
          go_wp2_with fail
          go_ret
          exact ⟨by rw [HE.out] <;> rfl, HB.out _⟩
        · have d4 : decide (t < n) = false := decide_eq_false h4
          have HE : Hid (vaB n t = false) := decide_eq_false fun h => h4 h.2.2.2
          go_wp2_with fail
          go_ret
          exact ⟨by rw [HE.out] <;> rfl, HB.out _⟩
      · have d3 : decide (1 ≤ t) = false := decide_eq_false h3
        have HE : Hid (vaB n t = false) := decide_eq_false fun h => h3 h.2.2.1
        go_wp2_with fail
        go_ret
        exact ⟨by rw [HE.out] <;> rfl, HB.out _⟩
    · have d2 : decide (n ≤ 10) = false := decide_eq_false h2
      have HE : Hid (vaB n t = false) := decide_eq_false fun h => h2 h.2.1
      go_wp2_with fail
      go_ret
      exact ⟨by rw [HE.out] <;> rfl, HB.out _⟩
  · have d1 : decide (2 ≤ n) = false := decide_eq_false h1
    have HE : Hid (vaB n t = false) := decide_eq_false fun h => h1 h.1
    go_wp2_with fail
    go_ret
    exact ⟨by rw [HE.out] <;> rfl, HB.out _⟩
/-- what Check of a plan returns -/
def cuE (P n t : Int) : Int := if prB P = false then 9 else if vaB n t = false ∨ P ≤ n then 1 else 0
theorem cuE_ok {P n t : Int} (h : cuE P n t = 0) : prB P = true ∧ vaB n t = true ∧ n < P := by
  unfold cuE at h
  split at h
  · cases h
  · split at h
    · cases h
    · rename_i h1 h2
      refine ⟨by simpa using h1, ?_, ?_⟩
      · cases hv : vaB n t with
        | true => rfl
        | false => exact absurd (.inl hv) h2
      · have : ¬ P ≤ n := fun h => h2 (.inr h)
        omega
set_option maxRecDepth 100000 in
theorem cCheck_any (P n t : Int) (w : World) (hP : i64r P) :
    Calls Tryz.prog 30 #[.agg #[.int .i64 P], .agg #[.int .i64 n, .int .i64 t]] w fun e w' => e = .returned (.int .i64 (cuE P n t)) ∧ Below w.heap.size w w' := by
  go_enter Tryz.func30, Tryz.ntmps30
  go_upto_region 1 with fail
  obtain ⟨wa, ew⟩ : ∃ wa : World, wa = (w.alloc (.cells #[.int .i64 P] 31)).alloc (.cells #[.int .i64 n, .int .i64 t] 29) := ⟨_, rfl⟩
  have HBa : Hid (Below w.heap.size w wa) := by show Below _ _ _; rw [ew]; exact (((Below.refl _ w).alloc (Nat.le_refl _) _).alloc (by simp) _)
  have hza : wa.heap.size = w.heap.size + 2 := by rw [ew]; simp
  have HF : Hid (wa.heap[w.heap.size]? = some (.cells #[.int .i64 P] 31 (0, 0))) := by
    show _ = _; rw [ew, Below.heap_alloc _ _ _ (by simp)]; exact heap_alloc_new w _
  have HT : Hid (wa.heap[w.heap.size + 1]? = some (.cells #[.int .i64 n, .int .i64 t] 29 (0, 0))) := by
    show _ = _; rw [ew]; have := heap_alloc_new (w.alloc (.cells #[.int .i64 P] 31)) (.cells #[.int .i64 n, .int .i64 t] 29); simpa using this
  rw [← ew]
  clear ew
  obtain ⟨F, hF⟩ : ∃ F, w.heap.size = F := ⟨_, rfl⟩
  have HFF := Lib.hid hF
  rw [hF] at HF HT hza ⊢
  clear hF
  have cF0 : wa.cell? ⟨F, 0, none⟩ = some (.int .i64 P) := cell_of_row wa F 0 _ _ _ HF.out
  go_wp2_with fail
  (with_reducible refine (of_any P _ hP).mono ?_)
  rintro e w1 ⟨rfl, hb1⟩
  have HBw : Hid (Below w.heap.size w w1) := HBa.out.trans (hb1.mono HBa.out.size)
  by_cases hp : prB P = true
  · have hof : ofP P = P := ofP_t hp
    have HP := Lib.hid hp
    rw [hp, hof]
    have HF1 : Hid (w1.heap[F]? = some (.cells #[.int .i64 P] 31 (0, 0))) := (hb1.block F (by omega)).trans HF.out
    have HT1 : Hid (w1.heap[F + 1]? = some (.cells #[.int .i64 n, .int .i64 t] 29 (0, 0))) := (hb1.block (F + 1) (by omega)).trans HT.out
    have hz1 := hb1.size
    clear cF0 hb1 hp hof
    have cT0 : w1.cell? ⟨F + 1, 0, none⟩ = some (.int .i64 n) := cell_of_row w1 (F + 1) 0 _ _ _ HT1.out
    have cT1 : w1.cell? ⟨F + 1, 1, none⟩ = some (.int .i64 t) := cell_of_row w1 (F + 1) 1 _ _ _ HT1.out
    go_wp2_with fail
    (with_reducible refine (cvalid_any n t _).mono ?_)
    rintro e w2 ⟨rfl, hb2⟩
    have HBw2 : Hid (Below w.heap.size w w2) := HBw.out.trans (hb2.mono HBw.out.size)
    have HT2 : Hid (w2.heap[F + 1]? = some (.cells #[.int .i64 n, .int .i64 t] 29 (0, 0))) := (hb2.block (F + 1) (by omega)).trans HT1.out
    have HF2 : Hid (w2.heap[F]? = some (.cells #[.int .i64 P] 31 (0, 0))) := (hb2.block F (by omega)).trans HF1.out
    clear cT0 cT1 hb2
    have cT0 : w2.cell? ⟨F + 1, 0, none⟩ = some (.int .i64 n) := cell_of_row w2 (F + 1) 0 _ _ _ HT2.out
    have cF0 : w2.cell? ⟨F, 0, none⟩ = some (.int .i64 P) := cell_of_row w2 F 0 _ _ _ HF2.out
    by_cases hv : vaB n t = true
    · by_cases hn : P ≤ n
      · have d1 : decide (P ≤ n) = true := decide_eq_true hn
        have HE : Hid (cuE P n t = 1) := by show _ = _; unfold cuE; rw [if_neg (by rw [HP.out]; simp), if_pos (.inr hn)]
        rw [hv]
        clear hv
        go_wp2_with fail
        go_ret
        exact ⟨by rw [HE.out] <;> rfl, HBw2.out⟩
      · have d1 : decide (P ≤ n) = false := decide_eq_false hn
        have HE : Hid (cuE P n t = 0) := by show _ = _; unfold cuE; rw [if_neg (by rw [HP.out]; simp), if_neg (by rw [hv]; simp; omega)]
        rw [hv]
        clear hv
        go_wp2_with fail
        go_ret
        exact ⟨by rw [HE.out] <;> rfl, HBw2.out⟩
    · have hv2 : vaB n t = false := by simpa using hv
      have HE : Hid (cuE P n t = 1) := by show _ = _; unfold cuE; rw [if_neg (by rw [HP.out]; simp), if_pos (.inl hv2)]
      rw [hv2]
      clear hv hv2
      go_wp2_with fail
      go_ret
      exact ⟨by rw [HE.out] <;> rfl, HBw2.out⟩
  · have hp2 : prB P = false := by simpa using hp
    have HE : Hid (cuE P n t = 9) := by show _ = _; unfold cuE; rw [if_pos hp2]
    have hof : ofP P = 0 := ofP_f hp2
    rw [hp2, hof]
    clear hp hp2 cF0 hb1 hof
    go_wp2_with fail
    go_ret
    exact ⟨by rw [HE.out] <;> rfl, HBw.out⟩
def ccE (P n t m : Int) : Int := if cuE P n t = 0 ∧ (m < 1 ∨ 1024 < m) then 1 else cuE P n t
theorem ccE_ok {P n t m : Int} (h : ccE P n t m = 0) : cuE P n t = 0 ∧ 1 ≤ m ∧ m ≤ 1024 := by
  unfold ccE at h
  split at h
  · cases h
  · rename_i h1
    refine ⟨h, ?_, ?_⟩
    · by_cases hm : m < 1
      · exact absurd ⟨h, .inl hm⟩ h1
      · omega
    · by_cases hm : 1024 < m
      · exact absurd ⟨h, .inr hm⟩ h1
      · omega
set_option maxRecDepth 100000 in
theorem ccheck_any (P n t m : Int) (w : World) (hP : i64r P) :
    Calls Tryz.prog 43 #[.agg #[.int .i64 P], .agg #[.int .i64 n, .int .i64 t], .int .i64 m] w fun e w' => e = .returned (.int .i64 (ccE P n t m)) ∧ Below w.heap.size w w' := by
  have HBb : Hid (∀ (o o' : Obj) w2, Below ((w.alloc o).alloc o').heap.size ((w.alloc o).alloc o') w2 → Below w.heap.size w w2) := fun o o' w2 h => (((Below.refl _ w).alloc (Nat.le_refl _) o).alloc (by simp) o').trans (h.mono (by simp; omega))
  go_enter Tryz.func43, Tryz.ntmps43
  go_wp2_with fail
  (with_reducible refine (cCheck_any P n t _ hP).mono ?_)
  rintro e w1 ⟨rfl, hb1⟩
  have HB1 : Hid (Below w.heap.size w w1) := HBb.out _ _ _ hb1
  clear hb1
  by_cases h0 : cuE P n t = 0
  · have HZ := Lib.hid h0
    rw [h0]
    clear h0
    by_cases h1 : m < 1
    · have d1 : decide (m < 1) = true := decide_eq_true h1
      have HE : Hid (ccE P n t m = 1) := by show _ = _; unfold ccE; rw [if_pos ⟨HZ.out, .inl h1⟩]
      go_wp2_with fail
      go_ret
      exact ⟨by rw [HE.out] <;> rfl, HB1.out⟩
    · have d1 : decide (m < 1) = false := decide_eq_false h1
      by_cases h2 : 1024 < m
      · have d2 : decide (1024 < m) = true := decide_eq_true h2
        have HE : Hid (ccE P n t m = 1) := by show _ = _; unfold ccE; rw [if_pos ⟨HZ.out, .inr h2⟩]
        go_wp2_with fail
        go_ret
        exact ⟨by rw [HE.out] <;> rfl, HB1.out⟩
      · have d2 : decide (1024 < m) = false := decide_eq_false h2
        have HE : Hid (ccE P n t m = 0) := by show _ = _; unfold ccE; rw [if_neg (by omega), HZ.out]
        go_wp2_with fail
        go_ret
        exact ⟨by rw [HE.out] <;> rfl, HB1.out⟩
  · obtain ⟨er, her⟩ : ∃ er, cuE P n t = er := ⟨_, rfl⟩
    have HE : Hid (ccE P n t m = er) := by show _ = _; unfold ccE; rw [if_neg (fun h => h0 h.1), her]
    rw [her]
    rw [her] at h0
    have d0 : (er == 0) = false := by rw [beq_eq_false_iff_ne]; exact h0
    clear her h0
    go_wp2_with fail
    go_ret
    exact ⟨by rw [HE.out] <;> rfl, HB1.out⟩
end Go.Proofs.YtbgabipngdillaaGreatDoor

namespace Go.Proofs.YtbgabipngdillaaGreatDoor
open Go.RowKit

/-- one round of the search: what is held, and whether it goes on -/
def on1 (s : Nat × Bool) (i : Nat) (x : Int) : Option (Nat × Bool) := if x = 0 then some s else if x = 1 ∧ s.2 = false then some (i, true) else none
def onTo (l : List Int) : Nat → Option (Nat × Bool)
  | 0 => some (0, false)
  | k + 1 => match onTo l k with
    | none => none
    | some s => on1 s k (gd l k)
def oneV (l : List Int) : Nat × Bool := (onTo l l.length).getD (0, false)
theorem onTo_none {l : List Int} : ∀ {k n : Nat}, onTo l k = none → k ≤ n → onTo l n = none := by
  intro k n h hn
  induction n with
  | zero => obtain rfl : k = 0 := by omega
            exact h
  | succ n ih =>
    by_cases e : k = n + 1
    · subst e; exact h
    · unfold onTo; rw [ih (by omega)]
set_option maxRecDepth 100000 in
theorem one_any (l : List Int) (v : Value) (w : World) (h : SI w v l) :
    Calls Tryz.prog 60 #[v] w fun e w' => e = .returned (.tuple #[.int .i64 (oneV l).1, .bool (oneV l).2]) ∧ w = w' := by
  obtain ⟨A1, c1, rfl, hc1, hm1, hr1, ha1⟩ := h
  have HA1 := Lib.hid ha1
  clear ha1 hr1
  go_enter Tryz.func60, Tryz.ntmps60
  go_wp2_with fail
  go_loopw [4, 5, 10] (fun a b i wr => ∃ (k : Nat) (s : Nat × Bool), k ≤ l.length ∧ onTo l k = some s ∧ a = .int .i64 s.1 ∧ b = .bool s.2 ∧ i = .int .i64 k ∧ wr = w) (fun _ _ i _ => l.length - (intOf i).toNat)
  case atStart => exact ⟨0, (0, false), Nat.zero_le _, rfl, rfl, rfl, rfl, rfl⟩
  case round =>
    obtain ⟨k, ⟨s1, s2⟩, hk, hs, rfl, rfl, rfl, rfl⟩ := hrel
    have HS := Lib.hid hs
    clear hs
    by_cases hlt : k < l.length
    · obtain ⟨b, off, rfl, hb, hcell⟩ := HA1.out (by omega)
      have c1 := hcell k hlt
      have HG : Hid (gd l k = l[k]) := by show _ = _; simp [gd, hlt]
      have HST : Hid (onTo l (k + 1) = on1 (s1, s2) k (gd l k)) := by show (match onTo l k with | none => none | some s => on1 s k (gd l k)) = _; rw [HS.out]
      rw [← HG.out] at c1
      clear hcell
      obtain ⟨x, hx⟩ : ∃ x, gd l k = x := ⟨_, rfl⟩
      have HX := Lib.hid hx
      rw [hx] at c1 HST
      clear hx
      have z2 : (k : Int) < (l.length : Int) := by omega
      by_cases h0 : x = 0
      · have d0 : (x == 0) = true := by rw [beq_iff_eq]; exact h0
        have HO : Hid (onTo l (k + 1) = some (s1, s2)) := by show _ = _; rw [HST.out]; unfold on1; rw [if_pos h0]
        clear h0
        go_wp2_with fail
        go_roundw
        case rel => exact ⟨k + 1, (s1, s2), by omega, HO.out, rfl, rfl, by go_num, by simp⟩
        case measure => simp [intOf]; omega
      · have d0 : (x == 0) = false := by rw [beq_eq_false_iff_ne]; exact h0
        by_cases h1 : x = 1
        · have d1 : (x == 1) = true := by rw [beq_iff_eq]; exact h1
          cases s2 with
          | false =>
            have HO : Hid (onTo l (k + 1) = some (k, true)) := by show _ = _; rw [HST.out]; unfold on1; rw [if_neg h0, if_pos ⟨h1, rfl⟩]
            clear h0 h1
            go_wp2_with fail
            go_roundw
            case rel => exact ⟨k + 1, (k, true), by omega, HO.out, rfl, rfl, by go_num, by simp⟩
            case measure => simp [intOf]; omega
          | true =>
            have HO : Hid (oneV l = (0, false)) := by
              show _ = _
              have : onTo l (k + 1) = none := by rw [HST.out]; unfold on1; rw [if_neg h0, if_neg (by simp)]
              unfold oneV; rw [onTo_none this (by omega)]; rfl
            clear h0 h1
            go_wp2_with fail
            refine bodyPost_ret (results_tmp2 rfl _ _ _) rfl ?_
            exact ⟨by rw [HO.out] <;> rfl, rfl⟩
        · have d1 : (x == 1) = false := by rw [beq_eq_false_iff_ne]; exact h1
          have HO : Hid (oneV l = (0, false)) := by
            show _ = _
            have : onTo l (k + 1) = none := by rw [HST.out]; unfold on1; rw [if_neg h0, if_neg (fun h => h1 h.1)]
            unfold oneV; rw [onTo_none this (by omega)]; rfl
          clear h0 h1
          go_wp2_with fail
          refine bodyPost_ret (results_tmp2 rfl _ _ _) rfl ?_
          exact ⟨by rw [HO.out] <;> rfl, rfl⟩
    · have HO : Hid (oneV l = (s1, s2)) := by
        have hkx : k = l.length := by omega
        subst hkx
        show _ = _
        unfold oneV; rw [HS.out]; rfl
      have z2 : decide ((k : Int) < (l.length : Int)) = false := decide_eq_false (by omega)
      go_wp2_with fail
      refine bodyPost_ret (results_tmp2 rfl _ _ _) rfl ?_
      exact ⟨by rw [HO.out] <;> rfl, rfl⟩

def beB (n t s x : Int) : Bool := vaB n t && decide (0 ≤ s) && decide (s ≤ n) && decide (0 ≤ x) && decide (x ≤ n) && decide (t + 1 + s + 2 * x ≤ n)
set_option maxRecDepth 100000 in
theorem bears_any (n t s x : Int) (w : World) :
    Calls Tryz.prog 39 #[.agg #[.int .i64 n, .int .i64 t], .int .i64 s, .int .i64 x] w fun e w' => e = .returned (.bool (beB n t s x)) ∧ Below w.heap.size w w' := by
  go_enter Tryz.func39, Tryz.ntmps39
  go_upto_region 1 with fail
  obtain ⟨wa, ew⟩ : ∃ wa : World, wa = w.alloc (.cells #[.int .i64 n, .int .i64 t] 29) := ⟨_, rfl⟩
  have HBa : Hid (Below w.heap.size w wa) := by show Below _ _ _; rw [ew]; exact (Below.refl _ w).alloc (Nat.le_refl _) _
  have HT : Hid (wa.heap[w.heap.size]? = some (.cells #[.int .i64 n, .int .i64 t] 29 (0, 0))) := by show _ = _; rw [ew]; exact heap_alloc_new w _
  rw [← ew]
  clear ew
  obtain ⟨F, hF⟩ : ∃ F, w.heap.size = F := ⟨_, rfl⟩
  have HFF := Lib.hid hF
  rw [hF] at HT ⊢
  clear hF
  have k0 : wa.cell? ⟨F, 0, none⟩ = some (.int .i64 n) := cell_of_row wa F 0 _ _ _ HT.out
  have k1 : wa.cell? ⟨F, 1, none⟩ = some (.int .i64 t) := cell_of_row wa F 1 _ _ _ HT.out
  go_wp2_with fail
  (with_reducible refine (cvalid_any n t _).mono ?_)
  rintro e w1 ⟨rfl, hb1⟩
  have HB1 : Hid (Below w.heap.size w w1) := HBa.out.trans (hb1.mono HBa.out.size)
  have hF1 : F < wa.heap.size := heap_of_cells HT.out
  have c0 : w1.cell? ⟨F, 0, none⟩ = some (.int .i64 n) := (hb1.cell (p := ⟨F, 0, none⟩) hF1).trans k0
  have c1 : w1.cell? ⟨F, 1, none⟩ = some (.int .i64 t) := (hb1.cell (p := ⟨F, 1, none⟩) hF1).trans k1
  clear k0 k1 hb1
  cases hv : vaB n t with
  | false =>
    have HE : Hid (beB n t s x = false) := by show _ = _; unfold beB; rw [hv]; rfl
    go_wp2_with fail
    go_ret
    exact ⟨by rw [HE.out] <;> rfl, HB1.out⟩
  | true =>
    obtain ⟨b1, b2, b3, b4⟩ := vaB_bd hv
    have HV := Lib.hid hv
    clear hv
    by_cases h1 : 0 ≤ s
    · have d1 : decide (0 ≤ s) = true := decide_eq_true h1
      by_cases h2 : s ≤ n
      · have d2 : decide (s ≤ n) = true := decide_eq_true h2
        by_cases h3 : 0 ≤ x
        · have d3 : decide (0 ≤ x) = true := decide_eq_true h3
          by_cases h4 : x ≤ n
          · have d4 : decide (x ≤ n) = true := decide_eq_true h4
            have w1_ : IntKind.i64.wrap (t + 1) = t + 1 := by exact IntWalk.i64_in _ (by omega)
            have w2_ : IntKind.i64.wrap (t + 1 + s) = t + 1 + s := by exact IntWalk.i64_in _ (by omega)
            have w3_ : IntKind.i64.wrap (2 * x) = 2 * x := by exact IntWalk.i64_in _ (by omega)
            have w4_ : IntKind.i64.wrap (t + 1 + s + 2 * x) = t + 1 + s + 2 * x := by exact IntWalk.i64_in _ (by omega)
            by_cases h5 : t + 1 + s + 2 * x ≤ n
            · have d5 : decide (t + 1 + s + 2 * x ≤ n) = true := decide_eq_true h5
              have HE : Hid (beB n t s x = true) := by show _ = _; unfold beB; rw [HV.out, d1, d2, d3, d4, d5]; rfl
              go_wp2_with fail
              go_ret
              exact ⟨by rw [HE.out] <;> rfl, HB1.out⟩
            · have d5 : decide (t + 1 + s + 2 * x ≤ n) = false := decide_eq_false h5
              have HE : Hid (beB n t s x = false) := by show _ = _; unfold beB; rw [d5]; simp
              go_wp2_with fail
              go_ret
              exact ⟨by rw [HE.out] <;> rfl, HB1.out⟩
          · have d4 : decide (x ≤ n) = false := decide_eq_false h4
            have HE : Hid (beB n t s x = false) := by show _ = _; unfold beB; rw [d4]; simp
            go_wp2_with fail
            go_ret
            exact ⟨by rw [HE.out] <;> rfl, HB1.out⟩
        · have d3 : decide (0 ≤ x) = false := decide_eq_false h3
          have HE : Hid (beB n t s x = false) := by show _ = _; unfold beB; rw [d3]; simp
          go_wp2_with fail
          go_ret
          exact ⟨by rw [HE.out] <;> rfl, HB1.out⟩
      · have d2 : decide (s ≤ n) = false := decide_eq_false h2
        have HE : Hid (beB n t s x = false) := by show _ = _; unfold beB; rw [d2]; simp
        go_wp2_with fail
        go_ret
        exact ⟨by rw [HE.out] <;> rfl, HB1.out⟩
    · have d1 : decide (0 ≤ s) = false := decide_eq_false h1
      have HE : Hid (beB n t s x = false) := by show _ = _; unfold beB; rw [d1]; simp
      go_wp2_with fail
      go_ret
      exact ⟨by rw [HE.out] <;> rfl, HB1.out⟩
end Go.Proofs.YtbgabipngdillaaGreatDoor

namespace Go.Proofs.YtbgabipngdillaaGreatDoor
open Go.RowKit

/-- the headers of a slice of slices -/
theorem SL.heads {w : World} {v : Value} {rows : List (List Int)} (h : SL w v rows) : ∃ A c, v = .slice A rows.length c ∧ rows.length ≤ c ∧ c ≤ 9223372036854775807 ∧ ∃ hs : List Value, hs.length = rows.length ∧ (∀ j (h1 : j < hs.length) (h2 : j < rows.length), ∃ B d, hs[j] = .slice B rows[j].length d ∧ SI w hs[j] rows[j]) ∧
    (0 < rows.length → ∃ b off, A = some ⟨b, off, none⟩ ∧ b < w.heap.size ∧ ∀ j (h : j < hs.length), w.cell? ⟨b, off + j, none⟩ = some hs[j]) := by
  obtain ⟨A, c, rfl, hc, hm, ha⟩ := h
  refine ⟨A, c, rfl, hc, hm, ?_⟩
  rcases Nat.eq_zero_or_pos rows.length with h0 | h0
  · exact ⟨[], by simp [h0], fun j h => by simp at h, fun h => by omega⟩
  · obtain ⟨b, off, rfl, hb, hcell⟩ := ha h0
    have key : ∀ j (h1 : j < ((List.range rows.length).map fun j => (w.cell? ⟨b, off + j, none⟩).getD undef).length) (h2 : j < rows.length), ∃ B d, ((List.range rows.length).map fun j => (w.cell? ⟨b, off + j, none⟩).getD undef)[j] = .slice B rows[j].length d ∧ SI w (.slice B rows[j].length d) rows[j] ∧ w.cell? ⟨b, off + j, none⟩ = some (.slice B rows[j].length d) := by
      intro j h1 h2
      obtain ⟨B, d, h3, h4⟩ := hcell j h2
      exact ⟨B, d, by simp [h3], h4, h3⟩
    refine ⟨(List.range rows.length).map fun j => (w.cell? ⟨b, off + j, none⟩).getD undef, by simp, fun j h1 h2 => ?_, fun _ => ⟨b, off, rfl, hb, fun j h1 => ?_⟩⟩
    · obtain ⟨B, d, h3, h4, _⟩ := key j h1 h2
      exact ⟨B, d, h3, by rw [h3]; exact h4⟩
    · obtain ⟨B, d, h3, _, h5⟩ := key j h1 (by simpa using h1)
      rw [h3, h5]
/-- a known answer's memory -/
def apc (v : Value) : List Value := [.bool true, v]
theorem apc_get : ∀ (l : List Value) (j : Nat) (h : j < l.length), (l.flatMap apc)[j * 2]? = some (.bool true) ∧ (l.flatMap apc)[j * 2 + 1]? = some l[j]
  | x :: t, 0, _ => by simp [apc]
  | x :: t, j + 1, h => by
    have := apc_get t j (by simpa using h)
    refine ⟨?_, ?_⟩
    · have e : (j + 1) * 2 = j * 2 + 1 + 1 := by omega
      rw [e]; simpa [apc] using this.1
    · have e : (j + 1) * 2 + 1 = j * 2 + 1 + 1 + 1 := by omega
      rw [e]; simpa [apc] using this.2
def ans (rows : List (List Int)) : List (Bool × List Int) := rows.map fun r => (true, r)
theorem ans_len (rows : List (List Int)) : (ans rows).length = rows.length := by simp [ans]
theorem own_san {w : World} {base : Nat} {e : TypeId} {v : Value} {hs : List Value} {rows : List (List Int)} (hl : hs.length = rows.length) (h : w.ownsRow base e 2 v hs.length (hs.flatMap apc)) (hr : ∀ j (h1 : j < hs.length) (h2 : j < rows.length), SI w hs[j] rows[j]) : SAn w v (ans rows) := by
  rcases h.2 with ⟨rfl, hn⟩ | ⟨g, cap, cur, rfl, hb, hg, hnc, hcm, hcs, htake⟩
  · have : rows = [] := List.eq_nil_of_length_eq_zero (by omega)
    subst this
    exact ⟨none, 0, rfl, Nat.le_refl _, by omega, fun h => by simp [ans] at h⟩
  · refine ⟨_, cap, by rw [ans_len, hl], by rw [ans_len]; omega, by simpa [maxLen] using hcm, fun h0 => ⟨g, 0, rfl, heap_of_cells hg, fun j hj => ?_⟩⟩
    have hjr : j < rows.length := by rw [ans_len] at hj; exact hj
    have hjh : j < hs.length := by omega
    have h1 := h.cellAt (j * 2) (by omega)
    have h2 := h.cellAt (j * 2 + 1) (by omega)
    rw [Nat.zero_add, h1, h2]
    obtain ⟨g1, g2⟩ := apc_get hs j hjh
    refine ⟨by rw [g1]; simp [ans], hs[j], g2, ?_⟩
    have e : (ans rows)[j].2 = rows[j] := by simp [ans]
    rw [e]; exact hr j hjh hjr
/-- block C holds the columns under construction -/
def CAc (C : Nat) (P k : Int) (sv : Value) (hs : List Value) (w : World) : Prop := w.heap[C]? = some (.cells #[.int .i64 P, .int .i64 k, sv] 103 (0, 0)) ∧ w.ownsRow (C + 1) 52 2 sv hs.length (hs.flatMap apc)
theorem CAc.lt {C : Nat} {P k : Int} {sv : Value} {hs : List Value} {w : World} (h : CAc C P k sv hs w) : C < w.heap.size := heap_of_cells h.1
theorem CAc.ne {C : Nat} {P k : Int} {sv : Value} {hs : List Value} {w : World} (h : CAc C P k sv hs w) : some C ≠ sv.ownBlock := fun e => by have := (h.2.lt C e.symm).1; omega
theorem CAc.below {C : Nat} {P k : Int} {sv : Value} {hs : List Value} {w w' : World} (h : CAc C P k sv hs w) (hb : Below w.heap.size w w') : CAc C P k sv hs w' := ⟨(hb.block C h.lt).trans h.1, own_bel h.2 hb⟩
theorem CAc.grown {C : Nat} {P k : Int} {sv : Value} {hs : List Value} {w w9 : World} (h : CAc C P k sv hs w) (o : Obj) (hg : (w.alloc o).grownBy w9 sv.ownBlock) : w9.heap[C]? = some (.cells #[.int .i64 P, .int .i64 k, sv] 103 (0, 0)) :=
  (hg.block C (by have := h.lt; simp; omega) h.ne).trans ((Below.heap_alloc w _ C h.lt).trans h.1)
theorem CAc.step {C : Nat} {P k : Int} {sv sv' u : Value} {hs : List Value} {w0 w w9 : World} (h : CAc C P k sv hs w) (hB : Below C w0 w) (o : Obj)
    (hg : (w.alloc o).grownBy w9 sv.ownBlock) (ho : w9.ownsRow (C + 1) 52 2 sv' (hs.length + 1) (hs.flatMap apc ++ [.bool true, u])) :
    CAc C P k sv' (hs ++ [u]) (w9.setCell ⟨C, 2, none⟩ sv') ∧ Below C w0 (w9.setCell ⟨C, 2, none⟩ sv') := by
  have hlt := h.lt
  have hv : ∀ q, sv.ownBlock = some q → C + 1 ≤ q := fun q hq => (h.2.lt q hq).1
  refine ⟨⟨?_, ?_⟩, ?_⟩
  · have := heap_setCell_same w9 C 2 _ _ sv' (h.grown o hg)
    simpa using this
  · have e : (hs ++ [u]).flatMap apc = hs.flatMap apc ++ [.bool true, u] := by simp [apc]
    rw [e, List.length_append]
    exact own_set3 ho (by show C < C + 1; omega) _
  · exact (((hB.alloc (Nat.le_of_lt hlt) _)).grown hg (by simp; omega) (fun k hk => by have := hv k hk; omega)).setCell (Nat.le_refl _) _
def wfB (n : Int) (rows : List (List Int)) : Bool := decide ((rows.length : Int) = n) && rows.all fun r => decide (r.length = (gr rows 0).length) && decide (r.length ≤ 1024)
/-- what Wanted returns -/
def WaR (P n t : Int) (rows : List (List Int)) (at_ : Nat) (ok : Bool) (er : Int) : Prop :=
  (cuE P n t ≠ 0 ∧ er = cuE P n t ∧ at_ = 0 ∧ ok = false) ∨ (cuE P n t = 0 ∧ ((wfB n rows = false ∧ er = 2 ∧ at_ = 0 ∧ ok = false) ∨ (wfB n rows = true ∧ ((rows.all (els P) = false ∧ er = 9 ∧ at_ = 0 ∧ ok = false) ∨ (rows.all (els P) = true ∧ er = 0 ∧
    ((AlN P (t + 1) (ans rows) (gr rows 0).length ∧ at_ = 0 ∧ ok = false) ∨ ∃ ps ws, AlR P (t + 1) (ans rows) (gr rows 0).length ps ws ∧ (at_, ok) = oneV (ps.map fun p => gd p 0)))))))
end Go.Proofs.YtbgabipngdillaaGreatDoor

namespace Go.Proofs.YtbgabipngdillaaGreatDoor
open Go.RowKit

theorem aninfo : (Tryz.prog.info? 52).map (fun i => (i.zero, i.size, i.bytes)) = some (some (.agg #[.bool false, .slice none 0 0]), 2, 32) := by kernel_rfl
def wanP (P n t : Int) (rows : List (List Int)) (w : World) (e : Ending) (w' : World) : Prop := ∃ at_ ok er, e = .returned (.tuple #[.int .i64 (at_ : Nat), .bool ok, .int .i64 er]) ∧ Below w.heap.size w w' ∧ WaR P n t rows at_ ok er
/-- the first loop -/
def Wa1 (P k : Int) (rows : List (List Int)) (hs : List Value) (C : Nat) (w6 : World) (b i : Value) (wr : World) : Prop :=
  ∃ (j : Nat) (sv : Value), j ≤ rows.length ∧ i = .int .i64 j ∧ b = .bool ((rows.take j).all (els P)) ∧ (∀ q (h : q < rows.length), q < j → rows[q].length = (gr rows 0).length ∧ rows[q].length ≤ 1024) ∧ CAc C P k sv (hs.take j) wr ∧ Below C w6 wr
/-- the second loop -/
def Wa2 (ps : List (List Int)) (w8 : World) (u i : Value) (wr : World) : Prop :=
  ∃ j : Nat, j ≤ ps.length ∧ i = .int .i64 j ∧ wr.ownsRow w8.heap.size 3 1 u ((ps.take j).map fun p => gd p 0).length (((ps.take j).map fun p => gd p 0).map (Value.int .i64)) ∧ Below w8.heap.size w8 wr
theorem wfB_no {n : Int} {rows : List (List Int)} {q : Nat} (h : q < rows.length) (hb : rows[q].length ≠ (gr rows 0).length ∨ 1024 < rows[q].length) : wfB n rows = false := by
  cases e : wfB n rows with
  | false => rfl
  | true =>
    unfold wfB at e
    rw [Bool.and_eq_true, List.all_eq_true] at e
    have := e.2 _ (List.getElem_mem h)
    simp at this
    omega
theorem wfB_yes {n : Int} {rows : List (List Int)} (hn : (rows.length : Int) = n) (h : ∀ q (h : q < rows.length), rows[q].length = (gr rows 0).length ∧ rows[q].length ≤ 1024) : wfB n rows = true := by
  unfold wfB
  rw [Bool.and_eq_true, List.all_eq_true]
  refine ⟨decide_eq_true hn, fun r hr => ?_⟩
  obtain ⟨q, hq, rfl⟩ := List.mem_iff_getElem.1 hr
  have := h q hq
  simp [this.1]
  omega
theorem all_take_succ {P : Int} {rows : List (List Int)} {j : Nat} (h : j < rows.length) : (rows.take (j + 1)).all (els P) = ((rows.take j).all (els P) && els P rows[j]) := by
  rw [← List.take_append_getElem h, List.all_append]
  simp
theorem coef0_any (l : List Int) (v : Value) (w : World) (h : SI w v l) (hl : l.length ≤ 1000000) :
    Calls Tryz.prog 56 #[v, .int .i64 0] w fun e w' => e = .returned (.int .i64 (gd l 0)) ∧ w = w' := coef_any l 0 v w h hl
theorem unr_len {P k : Int} {l : List (Int × Bool)} {out : List Int} {er : Int} (h : UnR P l k out er) (hk : k ≤ 1000) : out.length ≤ 1000 := by
  rcases h with ⟨_, _, rfl⟩ | ⟨_, ⟨_, hg⟩ | ⟨_, rfl, _⟩⟩
  · simp
  · have := hg.len; omega
  · simp
theorem unr_gd {P k : Int} {l : List (Int × Bool)} {out : List Int} {er : Int} (h : UnR P l k out er) : i64r (gd out 0) := by
  unfold gd
  cases hg : out[0]? with
  | none => show i64r 0; unfold i64r; omega
  | some y => exact udP_els h y (List.mem_of_getElem? hg)
set_option maxRecDepth 100000 in
set_option maxHeartbeats 8000000 in
theorem wanted_any (P n t : Int) (rows : List (List Int)) (v : Value) (w : World) (hP : i64r P) (h : SL w v rows) (hE : EW w) :
    Calls Tryz.prog 37 #[.agg #[.int .i64 P], .agg #[.int .i64 n, .int .i64 t], v] w (wanP P n t rows w) := by
  have HE := Lib.hid hE
  obtain ⟨A, c, rfl, hc, hm, hs, hhl, hhs, hha⟩ := h.heads
  have HHS := Lib.hid hhs
  have HHA := Lib.hid hha
  have HHL := Lib.hid hhl
  clear h hE hhs hha hhl
  obtain ⟨ic, hi0, hi1, hi2, hi3⟩ := info_parts aninfo
  go_enter Tryz.func37, Tryz.ntmps37
  go_upto_region 1 with fail
  obtain ⟨wa, ew⟩ : ∃ wa : World, wa = (w.alloc (.cells #[.int .i64 P] 31)).alloc (.cells #[.int .i64 n, .int .i64 t] 29) := ⟨_, rfl⟩
  have HBa : Hid (Below w.heap.size w wa) := by show Below _ _ _; rw [ew]; exact (((Below.refl _ w).alloc (Nat.le_refl _) _).alloc (by simp) _)
  have hza : wa.heap.size = w.heap.size + 2 := by rw [ew]; simp
  have HF : Hid (wa.heap[w.heap.size]? = some (.cells #[.int .i64 P] 31 (0, 0))) := by
    show _ = _; rw [ew, Below.heap_alloc _ _ _ (by simp)]; exact heap_alloc_new w _
  have HT : Hid (wa.heap[w.heap.size + 1]? = some (.cells #[.int .i64 n, .int .i64 t] 29 (0, 0))) := by
    show _ = _; rw [ew]; have := heap_alloc_new (w.alloc (.cells #[.int .i64 P] 31)) (.cells #[.int .i64 n, .int .i64 t] 29); simpa using this
  rw [← ew]
  clear ew
  obtain ⟨F, hF⟩ : ∃ F, w.heap.size = F := ⟨_, rfl⟩
  have HFF := Lib.hid hF
  rw [hF] at HF HT hza ⊢
  have HZA := Lib.hid hza
  clear hF hza
  have cF0 : wa.cell? ⟨F, 0, none⟩ = some (.int .i64 P) := cell_of_row wa F 0 _ _ _ HF.out
  have cT0 : wa.cell? ⟨F + 1, 0, none⟩ = some (.int .i64 n) := cell_of_row wa (F + 1) 0 _ _ _ HT.out
  have cT1 : wa.cell? ⟨F + 1, 1, none⟩ = some (.int .i64 t) := cell_of_row wa (F + 1) 1 _ _ _ HT.out
  go_wp2_with fail
  (with_reducible refine (cCheck_any P n t _ hP).mono ?_)
  rintro e w1 ⟨rfl, hb1⟩
  have HBw : Hid (Below w.heap.size w w1) := HBa.out.trans (hb1.mono HBa.out.size)
  have HF1 : Hid (w1.heap[F]? = some (.cells #[.int .i64 P] 31 (0, 0))) := (hb1.block F (heap_of_cells HF.out)).trans HF.out
  have HT1 : Hid (w1.heap[F + 1]? = some (.cells #[.int .i64 n, .int .i64 t] 29 (0, 0))) := (hb1.block (F + 1) (heap_of_cells HT.out)).trans HT.out
  clear cF0 cT0 cT1 hb1
  by_cases h0 : cuE P n t = 0
  · have HZ := Lib.hid h0
    obtain ⟨hpr, hv, hnP⟩ := cuE_ok h0
    obtain ⟨b1, b2, b3, b4⟩ := vaB_bd hv
    have HPR := Lib.hid hpr
    rw [h0]
    clear h0 hpr hv
    have d0 : ((0 : Int) != 0) = false := rfl
    have cT0 : w1.cell? ⟨F + 1, 0, none⟩ = some (.int .i64 n) := cell_of_row w1 (F + 1) 0 _ _ _ HT1.out
    have cT1 : w1.cell? ⟨F + 1, 1, none⟩ = some (.int .i64 t) := cell_of_row w1 (F + 1) 1 _ _ _ HT1.out
    have cF0 : w1.cell? ⟨F, 0, none⟩ = some (.int .i64 P) := cell_of_row w1 F 0 _ _ _ HF1.out
    by_cases hrn : (rows.length : Int) = n
    · have d1 : ((rows.length : Int) != n) = false := by rw [bne_eq_false_iff_eq]; exact hrn
      have HRN := Lib.hid hrn
      have hr2 : 2 ≤ rows.length := by omega
      have hr10 : rows.length ≤ 10 := by omega
      have wt : IntKind.i64.wrap (t + 1) = t + 1 := by exact IntWalk.i64_in _ (by omega)
      obtain ⟨b, off, rfl, hb, hcell⟩ := HHA.out (by omega)
      have HCELL := Lib.hid hcell
      obtain ⟨C, eC⟩ : ∃ C, C = w1.heap.size := ⟨_, rfl⟩
      obtain ⟨k1, ek1⟩ : ∃ k1, k1 = t + 1 := ⟨_, rfl⟩
      obtain ⟨w6, ew6⟩ : ∃ w6 : World, w6 = w1.alloc (.cells #[.int .i64 P, .int .i64 k1, .slice none 0 0] 103) := ⟨_, rfl⟩
      have HW6 : Hid (w1.alloc (.cells #[.int .i64 P, .int .i64 (t + 1), .slice none 0 0] 103) = w6) := (show Hid _ from by show _ = _; rw [ew6, ek1])
      have HC6 : Hid (CAc C P k1 (.slice none 0 0) [] w6) := (show Hid _ from by rw [ew6, eC]; exact ⟨heap_alloc_new w1 _, World.ownsRow_nil _ _ _ _⟩)
      have HB6 : Hid (Below w1.heap.size w1 w6) := (show Hid _ from by rw [ew6]; exact (Below.refl _ w1).alloc (Nat.le_refl _) _)
      have hF1C : F + 1 < C := by rw [eC]; exact heap_of_cells HT1.out
      have HEK := Lib.hid ek1
      have HEC := Lib.hid eC
      have hbC : b < C := by rw [eC]; have := HBw.out.size; omega
      have HwC : Hid (w.heap.size ≤ C) := (show Hid _ from by rw [eC]; exact HBw.out.size)
      have HBw6 : Hid (Below w.heap.size w w6) := HBw.out.trans (HB6.out.mono HBw.out.size)
      clear hrn hcell
      go_upto_region 7 with fail
      rw [HW6.out, ← eC]
      clear ew6 eC ek1 cT0 cT1 cF0 wt
      go_wp2_with fail
      go_loopw [11, 40] (fun bv iv wr => Wa1 P k1 rows hs C w6 bv iv wr) (fun _ iv _ => rows.length - (intOf iv).toNat)
      case atStart => exact ⟨0, .slice none 0 0, Nat.zero_le _, rfl, rfl, fun q h1 h2 => by omega, HC6.out, Below.refl _ _⟩
      case round =>
        obtain ⟨j, sv, hj, rfl, rfl, hfm, hca, hbl⟩ := hrel
        have HFM := Lib.hid hfm
        have HCA := Lib.hid hca
        have HBL := Lib.hid hbl
        have HBwr : Hid (Below w.heap.size w wr) := HBw6.out.trans (HBL.out.mono HwC.out)
        have hCr : C < wr.heap.size := hca.lt
        clear hfm hca hbl
        by_cases hlt : j < rows.length
        · have hjh : j < hs.length := by rw [HHL.out]; exact hlt
          obtain ⟨B, d, ehj, hsj⟩ := HHS.out j hjh hlt
          have h0h : 0 < hs.length := by rw [HHL.out]; omega
          obtain ⟨B0, d0', eh0, hs0⟩ := HHS.out 0 h0h (by omega)
          have cj := (HBwr.out.cell (p := ⟨b, off + j, none⟩) hb).trans (HCELL.out j hjh)
          have c0 := (HBwr.out.cell (p := ⟨b, off + 0, none⟩) hb).trans (HCELL.out 0 h0h)
          rw [ehj] at cj hsj
          rw [eh0] at c0
          rw [Nat.add_zero] at c0
          have hg0 : rows[0].length = (gr rows 0).length := by unfold gr; rw [List.getElem?_eq_getElem (by omega)]; rfl
          rw [hg0] at c0
          obtain ⟨row, erow⟩ : ∃ row, row = rows[j] := ⟨_, rfl⟩
          obtain ⟨l0, el0⟩ : ∃ l0, l0 = (gr rows 0).length := ⟨_, rfl⟩
          rw [← erow] at cj hsj ehj
          rw [← el0] at c0
          have HROW := Lib.hid erow
          have HL0 := Lib.hid el0
          have HEHJ := Lib.hid ehj
          have HSJ : Hid (SI wr (.slice B row.length d) row) := hsj.below HBwr.out
          have dlt : decide (j < rows.length) = true := decide_eq_true hlt
          clear erow el0 ehj hsj hg0 eh0 hs0
          by_cases hbad : row.length ≠ l0 ∨ 1024 < row.length
          · have HWF : Hid (wfB n rows = false) := (show Hid _ from by
              show _ = _
              refine wfB_no hlt ?_
              rw [← HROW.out, ← HL0.out]; exact hbad)
            by_cases hne : row.length = l0
            · have hd1 : ((row.length : Int) != (l0 : Int)) = false := by rw [bne_eq_false_iff_eq]; omega
              have hd2 : decide (1024 < (row.length : Int)) = true := decide_eq_true (by omega)
              have hd3 : decide (1024 < row.length) = true := decide_eq_true (by omega)
              have hd4 : (row.length != l0) = false := by rw [bne_eq_false_iff_eq]; omega
              have hd5 : decide (1024 < l0) = true := decide_eq_true (by omega)
              have hd6 : decide (1024 < (l0 : Int)) = true := decide_eq_true (by omega)
              clear hbad
              rw [hne] at cj
              go_wp2_with fail
              go_ret3
              exact ⟨0, false, 2, rfl, HBwr.out, .inr ⟨HZ.out, .inl ⟨HWF.out, rfl, rfl, rfl⟩⟩⟩
            · have hd1 : ((row.length : Int) != (l0 : Int)) = true := by rw [bne_iff_ne]; omega
              have hd4 : (row.length != l0) = true := by rw [bne_iff_ne]; omega
              clear hbad
              go_wp2_with fail
              go_ret3
              exact ⟨0, false, 2, rfl, HBwr.out, .inr ⟨HZ.out, .inl ⟨HWF.out, rfl, rfl, rfl⟩⟩⟩
          · have hl0 : row.length = l0 := by omega
            have hd1 : ((row.length : Int) != (l0 : Int)) = false := by rw [bne_eq_false_iff_eq]; omega
            have hd2 : decide (1024 < (row.length : Int)) = false := decide_eq_false (by omega)
            have hle : row.length ≤ 1024 := by omega
            have hd4 : decide (1024 < l0) = false := decide_eq_false (by omega)
            have hd6 : decide (1024 < (l0 : Int)) = false := decide_eq_false (by omega)
            rw [hl0] at cj HEHJ
            have HSJ2 : Hid (SI wr (.slice B l0 d) row) := (show Hid _ from by rw [← hl0]; exact HSJ.out)
            obtain ⟨HT, eHT⟩ : ∃ HT, HT = hs.take j := ⟨_, rfl⟩
            have hTl : HT.length ≤ 10 := by rw [eHT, List.length_take, HHL.out]; omega
            have HTS : Hid (hs.take (j + 1) = HT ++ [.slice B l0 d]) := (show Hid _ from by
              show _ = _
              rw [← List.take_append_getElem hjh, ← eHT, HEHJ.out])
            rw [← eHT] at HCA
            obtain ⟨As, cs, esv⟩ := own_sl HCA.out.2
            subst esv
            obtain ⟨eb, eeb⟩ : ∃ eb, eb = (rows.take j).all (els P) := ⟨_, rfl⟩
            have HEB0 : Hid ((rows.take (j + 1)).all (els P) = (eb && els P row)) := (show Hid _ from by show _ = _; rw [all_take_succ hlt, eeb, HROW.out])
            rw [← eeb]
            clear eeb eHT hbad hd2
            cases eb with
            | false =>
              have HEB : Hid (Value.bool false = Value.bool ((rows.take (j + 1)).all (els P))) := (show Hid _ from by show _ = _; rw [HEB0.out]; rfl)
              have HCX : Hid (CAc C P k1 (.slice As HT.length cs) HT wr) := (show Hid _ from HCA.out)
              have HBX : Hid (Below C w6 wr) := (show Hid _ from HBL.out)
              have hCx : C < wr.heap.size := HCX.out.lt
              have cC2 : wr.cell? ⟨C, 2, none⟩ = some (.slice As HT.length cs) := cell_of_row wr C 2 _ _ _ HCX.out.1
              have HSTEP : Hid (∀ (sv' : Value) (w8 : World), (wr.alloc (.cells #[.bool true, .slice B l0 d] 52)).grownBy w8 (Value.slice As HT.length cs).ownBlock → w8.ownsRow (C + 1) 52 2 sv' (HT.length + 1) (HT.flatMap apc ++ [.bool true, .slice B l0 d]) →
                  (w8.cell? ⟨C, 2, none⟩ = some (.slice As HT.length cs) ∧ w8.frozen? ⟨C, 2, none⟩ = false) ∧ Wa1 P k1 rows hs C w6 (.bool false) (.int .i64 ((j : Int) + 1)) (w8.setCell ⟨C, 2, none⟩ sv')) := (show Hid _ from fun sv' w8 hg ho => by
                have hC8 := HCX.out.grown _ hg
                refine ⟨⟨cell_of_row w8 C 2 _ _ _ hC8, frozen_of_row w8 C 2 _ _ hC8⟩, j + 1, sv', by omega, by simp, HEB.out, fun q h1 h2 => ?_, ?_, ?_⟩
                · by_cases hq : q < j
                  · exact HFM.out q h1 hq
                  · have eq : q = j := by omega
                    subst eq
                    have := HROW.out
                    have := HL0.out
                    exact ⟨by rw [← HROW.out, ← HL0.out]; exact hl0, by rw [← HROW.out]; exact hle⟩
                · rw [HTS.out]
                  exact (HCX.out.step HBX.out _ hg ho).1
                · exact (HCX.out.step HBX.out _ hg ho).2)
              clear hd1 hd4 hd6 dlt
              go_wp2_with (at_builtin; refine wpList_append_own _ rfl _ _ 50 rfl (C + 1) 52 ic _ 2 32 Tryz.underlying50 hi0 hi1 hi2 hi3 rfl (by omega) _ _ _ rfl (HCX.out.2.alloc _) ⟨wr.heap.size, 0, none⟩ 1 1 [.bool true, .slice B l0 d] rfl rfl (cells_new wr _ _) (by intro u hu; simp at hu; rcases hu with rfl | rfl <;> rfl) (by unfold maxLen; omega) (by omega) (by simp; omega) ?_; intro v8 w8 hown8 hg8 _; obtain ⟨A8, c8, ev8⟩ := own_sl hown8; subst ev8; obtain ⟨⟨cC2, fC2⟩, hrel8⟩ := HSTEP.out _ w8 hg8 hown8; have HREL8 := Lib.hid hrel8; clear hown8 hg8 hrel8)
              go_roundw
              case rel => exact HREL8.out
              case measure => simp [intOf]; omega
            | true =>
              have HEB : Hid (Value.bool (els P row) = Value.bool ((rows.take (j + 1)).all (els P))) := (show Hid _ from by show _ = _; rw [HEB0.out]; simp)
              have cF0 : wr.cell? ⟨F, 0, none⟩ = some (.int .i64 P) := by
                have h1 := (HBL.out.block F (by omega)).trans ((HB6.out.block F (heap_of_cells HF1.out)).trans HF1.out)
                exact cell_of_row wr F 0 _ _ _ h1
              go_wp2_with fail
              (with_reducible refine (all_any P row _ _ HSJ2.out).mono ?_)
              rintro e w2 ⟨rfl, hb2⟩
              have HB2 := Lib.hid hb2
              have hCr2 : C ≤ wr.heap.size := by omega
              clear hb2 cF0 cj c0
              have HCX : Hid (CAc C P k1 (.slice As HT.length cs) HT w2) := (show Hid _ from HCA.out.below HB2.out)
              have HBX : Hid (Below C w6 w2) := (show Hid _ from HBL.out.trans (HB2.out.mono hCr2))
              have hCx : C < w2.heap.size := HCX.out.lt
              have cC2 : w2.cell? ⟨C, 2, none⟩ = some (.slice As HT.length cs) := cell_of_row w2 C 2 _ _ _ HCX.out.1
              have HSTEP : Hid (∀ (sv' : Value) (w8 : World), (w2.alloc (.cells #[.bool true, .slice B l0 d] 52)).grownBy w8 (Value.slice As HT.length cs).ownBlock → w8.ownsRow (C + 1) 52 2 sv' (HT.length + 1) (HT.flatMap apc ++ [.bool true, .slice B l0 d]) →
                  (w8.cell? ⟨C, 2, none⟩ = some (.slice As HT.length cs) ∧ w8.frozen? ⟨C, 2, none⟩ = false) ∧ Wa1 P k1 rows hs C w6 (.bool (els P row)) (.int .i64 ((j : Int) + 1)) (w8.setCell ⟨C, 2, none⟩ sv')) := (show Hid _ from fun sv' w8 hg ho => by
                have hC8 := HCX.out.grown _ hg
                refine ⟨⟨cell_of_row w8 C 2 _ _ _ hC8, frozen_of_row w8 C 2 _ _ hC8⟩, j + 1, sv', by omega, by simp, HEB.out, fun q h1 h2 => ?_, ?_, ?_⟩
                · by_cases hq : q < j
                  · exact HFM.out q h1 hq
                  · have eq : q = j := by omega
                    subst eq
                    have := HROW.out
                    have := HL0.out
                    exact ⟨by rw [← HROW.out, ← HL0.out]; exact hl0, by rw [← HROW.out]; exact hle⟩
                · rw [HTS.out]
                  exact (HCX.out.step HBX.out _ hg ho).1
                · exact (HCX.out.step HBX.out _ hg ho).2)
              clear hd1 hd4 hd6 dlt
              go_wp2_with (at_builtin; refine wpList_append_own _ rfl _ _ 50 rfl (C + 1) 52 ic _ 2 32 Tryz.underlying50 hi0 hi1 hi2 hi3 rfl (by omega) _ _ _ rfl (HCX.out.2.alloc _) ⟨w2.heap.size, 0, none⟩ 1 1 [.bool true, .slice B l0 d] rfl rfl (cells_new w2 _ _) (by intro u hu; simp at hu; rcases hu with rfl | rfl <;> rfl) (by unfold maxLen; omega) (by omega) (by simp; omega) ?_; intro v8 w8 hown8 hg8 _; obtain ⟨A8, c8, ev8⟩ := own_sl hown8; subst ev8; obtain ⟨⟨cC2, fC2⟩, hrel8⟩ := HSTEP.out _ w8 hg8 hown8; have HREL8 := Lib.hid hrel8; clear hown8 hg8 hrel8)
              go_roundw
              case rel => exact HREL8.out
              case measure => simp [intOf]; omega
        · have dlt : decide (j < rows.length) = false := decide_eq_false hlt
          have hjr : j = rows.length := by omega
          have htk : rows.take j = rows := by rw [hjr, List.take_length]
          have hth : hs.take j = hs := by rw [hjr, ← HHL.out, List.take_length]
          rw [htk]
          rw [hth] at HCA
          have HWF : Hid (wfB n rows = true) := (show Hid _ from wfB_yes HRN.out fun q hq => HFM.out q hq (by omega))
          obtain ⟨As, cs, esv⟩ := own_sl HCA.out.2
          subst esv
          have HSAN : Hid (SAn wr (.slice As hs.length cs) (ans rows)) := (show Hid _ from own_san HHL.out HCA.out.2 fun q h1 h2 => (HHS.out q h1 h2).elim fun B h => h.elim fun d h => h.2.below HBwr.out)
          have hal : (ans rows).length ≤ 400 := by rw [ans_len]; omega
          have h0h : 0 < hs.length := by rw [HHL.out]; omega
          obtain ⟨B0, d0', eh0, hs0⟩ := HHS.out 0 h0h (by omega)
          have c0 := (HBwr.out.cell (p := ⟨b, off + 0, none⟩) hb).trans (HCELL.out 0 h0h)
          rw [eh0, Nat.add_zero] at c0
          have hg0 : rows[0].length = (gr rows 0).length := by unfold gr; rw [List.getElem?_eq_getElem (by omega)]; rfl
          rw [hg0] at c0
          obtain ⟨l0, el0⟩ : ∃ l0, l0 = (gr rows 0).length := ⟨_, rfl⟩
          rw [← el0] at c0
          have HL0 := Lib.hid el0
          have hl0b : l0 ≤ 2000 := by have h1 := HFM.out 0 (by omega) (by omega); rw [el0, ← h1.1]; omega
          have HALL : Hid (∀ a ∈ ans rows, a.1 = true → l0 ≤ a.2.length) := (show Hid _ from fun a ha _ => by
            obtain ⟨r, hr, rfl⟩ := List.mem_map.1 ha
            obtain ⟨q, hq, rfl⟩ := List.mem_iff_getElem.1 hr
            have := (HFM.out q hq (by omega)).1
            rw [HL0.out]; show _ ≤ rows[q].length; omega)
          have HEr : Hid (EW wr) := HE.out.below HBwr.out
          have k0 : wr.cell? ⟨C, 0, none⟩ = some (.int .i64 P) := cell_of_row wr C 0 _ _ _ HCA.out.1
          have k1' : wr.cell? ⟨C, 1, none⟩ = some (.int .i64 k1) := cell_of_row wr C 1 _ _ _ HCA.out.1
          have k2 : wr.cell? ⟨C, 2, none⟩ = some (.slice As hs.length cs) := cell_of_row wr C 2 _ _ _ HCA.out.1
          have hk1b : k1 ≤ 1000 := by have := HEK.out; omega
          obtain ⟨eb, eeb⟩ : ∃ eb, eb = rows.all (els P) := ⟨_, rfl⟩
          have HEB := Lib.hid eeb
          have hbr : b < wr.heap.size := by omega
          have z0 : (0 : Int) < (rows.length : Int) := by omega
          have z0' : 0 < rows.length := by omega
          have hhn : hs.length ≤ 10 := by rw [HHL.out]; exact hr10
          rw [← eeb]
          clear eeb el0 hg0 eh0 hs0 htk hth hjr
          cases eb with
          | false =>
            go_wp2_with fail
            go_ret3
            exact ⟨0, false, 9, rfl, HBwr.out, .inr ⟨HZ.out, .inr ⟨HWF.out, .inl ⟨HEB.out.symm, rfl, rfl, rfl⟩⟩⟩⟩
          | true =>
            go_upto_region 18 with fail
            go_region_held3 (fun w' => w'.cell? ⟨C, 0, none⟩ = some (.int .i64 P) ∧ w'.cell? ⟨C, 1, none⟩ = some (.int .i64 k1) ∧ w'.cell? ⟨C, 2, none⟩ = some (.slice As hs.length cs) ∧ w'.cell? ⟨b, off, none⟩ = some (.slice B0 l0 d0')) (first | exact ⟨k0, k1', k2, c0⟩ | exact ⟨t0, t1, t2, t3⟩ | go_keep)
              (first | (go_at_call 54; refine (call_any P k1 (ans rows) l0 _ _ hP (by exact HSAN.out) hal hl0b (by exact HALL.out) (by exact HEr.out)).mono ?_; rintro e9 w9 ⟨pv, wv, er, rfl, hb9, hcs⟩; have HB9 : Hid (Below wr.heap.size wr w9) := (show Hid _ from ⟨hb9.os, hb9.tape, hb9.output, hb9.size, hb9.block⟩); have HCS := Lib.hid hcs; have t0 := (HB9.out.cell (p := ⟨C, 0, none⟩) (by exact hCr)).trans k0; have t1 := (HB9.out.cell (p := ⟨C, 1, none⟩) (by exact hCr)).trans k1'; have t2 := (HB9.out.cell (p := ⟨C, 2, none⟩) (by exact hCr)).trans k2; have t3 := (HB9.out.cell (p := ⟨b, off, none⟩) (by exact hbr)).trans c0; clear hb9 hcs))
            all_goals
              have HB9w : Hid (Below w.heap.size w w9) := HBwr.out.trans (HB9.out.mono HBwr.out.size)
              clear t0 t1 t2 t3 k0 k1' k2 c0
              rcases HCS.out with ⟨rfl, ps, ws, hAL, hSL, _⟩ | ⟨rfl, rfl, rfl, hN⟩
              · obtain ⟨A9, c9, epv, _, _, hp, hpl, hph, hpa⟩ := hSL.heads
                subst epv
                have HAL := Lib.hid hAL
                have HPH := Lib.hid hph
                have HPA := Lib.hid hpa
                have HPL := Lib.hid hpl
                clear hAL hSL hph hpa hpl HCS
                have hpsl : ps.length ≤ 2000 := by have := HAL.out.1; omega
                go_wp2_with fail
                go_loopw [17, 87] (fun u iv wz => Wa2 ps w9 u iv wz) (fun _ iv _ => ps.length - (intOf iv).toNat)
                case atStart => exact ⟨0, Nat.zero_le _, rfl, by simpa using World.ownsRow_nil w9 w9.heap.size 3 1, Below.refl _ _⟩
                case round =>
                  obtain ⟨q, hq, rfl, hown, hbz⟩ := hrel
                  obtain ⟨Au, cu, euv⟩ := own_sl hown
                  subst euv
                  have HOW := Lib.hid hown
                  have HBZ := Lib.hid hbz
                  have hz9 : w9.heap.size ≤ wr.heap.size := hbz.size
                  clear hown hbz
                  by_cases hlq : q < ps.length
                  · have dq : decide (q < ps.length) = true := decide_eq_true hlq
                    have hqh : q < hp.length := by rw [HPL.out]; exact hlq
                    obtain ⟨b9, off9, eA9, hb9, hc9⟩ := HPA.out (by omega)
                    subst eA9
                    obtain ⟨Bq, dq', ehq, hsq⟩ := HPH.out q hqh hlq
                    have cq := (HBZ.out.cell (p := ⟨b9, off9 + q, none⟩) hb9).trans (hc9 q hqh)
                    rw [ehq] at cq hsq
                    have HSQ : Hid (SI wr (.slice Bq ps[q].length dq') ps[q]) := hsq.below HBZ.out
                    have HUQ : Hid (ps[q].length ≤ 1000) := unr_len (HAL.out.2.1 q hlq) hk1b
                    have HSN : Hid ((ps.take (q + 1)).map (fun p => gd p 0) = (ps.take q).map (fun p => gd p 0) ++ [gd ps[q] 0]) := (show Hid _ from by
                      show _ = _
                      rw [← List.take_append_getElem hlq, List.map_append]; rfl)
                    obtain ⟨pq, epq⟩ : ∃ pq, pq = ps[q] := ⟨_, rfl⟩
                    rw [← epq] at cq HSQ HUQ HSN
                    obtain ⟨UV, eUV⟩ : ∃ UV, UV = (ps.take q).map (fun p => gd p 0) := ⟨_, rfl⟩
                    have hUl : UV.length ≤ 2000 := by rw [eUV]; simp; omega
                    rw [← eUV] at HOW HSN ⊢
                    clear ehq hsq hc9 epq eUV
                    go_wp2_with fail
                    (with_reducible refine (coef0_any pq _ _ HSQ.out (by have := HUQ.out; omega)).mono ?_)
                    rintro e w10 ⟨rfl, hw10⟩
                    have hw11 := hw10.symm
                    subst hw11
                    go_wp2_with (at_builtin; refine wpList_append_int1 _ rfl _ _ 22 rfl w9.heap.size 3 Tryz.underlying22 iinfo _ UV rfl HOW.out (gd pq 0) rfl (by omega) hz9 ?_; intro v11 w11 hown11 hg11; have HO11 := Lib.hid hown11; have HG11 := Lib.hid hg11; clear hown11 hg11)
                    go_roundw
                    case rel =>
                      refine ⟨q + 1, by omega, by go_num, by rw [HSN.out]; exact HO11.out, ?_⟩
                      exact (HBZ.out.alloc hz9 _).grown HG11.out (by simp; omega) (fun k hk => (HOW.out.lt k hk).1)
                    case measure => simp [intOf]; omega
                  · have dq : decide (q < ps.length) = false := decide_eq_false hlq
                    have hqe : q = ps.length := by omega
                    have hBf : Below w.heap.size w wr := HB9w.out.trans (HBZ.out.mono HB9w.out.size)
                    have HBF := Lib.hid hBf
                    have hsu : SI wr (.slice Au ((ps.take q).map fun p => gd p 0).length cu) (ps.map fun p => gd p 0) := by
                      have h := HOW.out
                      rw [hqe, List.take_length] at h ⊢
                      refine SI.of_own h fun x hx => ?_
                      obtain ⟨p, hp', rfl⟩ := List.mem_map.1 hx
                      obtain ⟨r, hr, rfl⟩ := List.mem_iff_getElem.1 hp'
                      exact unr_gd (HAL.out.2.1 r hr)
                    have HSU := Lib.hid hsu
                    clear hsu hBf hqe
                    generalize ((ps.take q).map fun p => gd p 0).length = nu at HSU ⊢
                    go_wp2_with fail
                    (with_reducible refine (one_any _ _ _ HSU.out).mono ?_)
                    rintro e w10 ⟨rfl, hw10⟩
                    have hw11 := hw10.symm
                    subst hw11
                    go_wp2_with fail
                    go_ret3
                    refine ⟨_, _, 0, rfl, HBF.out, .inr ⟨HZ.out, .inr ⟨HWF.out, .inr ⟨HEB.out.symm, rfl, .inr ⟨ps, ws, ?_, rfl⟩⟩⟩⟩⟩
                    rw [← HEK.out, ← HL0.out]; exact HAL.out
              · have HN := Lib.hid hN
                clear hN HCS
                go_wp2_with fail
                go_ret3
                refine ⟨0, false, 0, rfl, by first | exact HB9w.out | exact HB9w.out.drew, .inr ⟨HZ.out, .inr ⟨HWF.out, .inr ⟨HEB.out.symm, rfl, .inl ⟨?_, rfl, rfl⟩⟩⟩⟩⟩
                rw [← HEK.out, ← HL0.out]; exact HN.out
    · have d1 : ((rows.length : Int) != n) = true := by rw [bne_iff_ne]; exact hrn
      have HWF : Hid (wfB n rows = false) := (show Hid _ from by show _ = _; unfold wfB; rw [decide_eq_false hrn]; rfl)
      clear hrn
      go_wp2_with fail
      go_ret3
      exact ⟨0, false, 2, rfl, HBw.out, .inr ⟨HZ.out, .inl ⟨HWF.out, rfl, rfl, rfl⟩⟩⟩
  · obtain ⟨er, her⟩ : ∃ er, cuE P n t = er := ⟨_, rfl⟩
    have HER := Lib.hid her
    rw [her] at h0 ⊢
    have H0 := Lib.hid h0
    have d0 : (er != 0) = true := by rw [bne_iff_ne]; exact h0
    have d1 : (er == 0) = false := by rw [beq_eq_false_iff_ne]; exact h0
    clear her h0
    go_wp2_with fail
    go_ret3
    exact ⟨0, false, er, rfl, HBw.out, .inl ⟨by rw [HER.out]; exact H0.out, HER.out.symm, rfl, rfl⟩⟩
end Go.Proofs.YtbgabipngdillaaGreatDoor

namespace Go.Proofs.YtbgabipngdillaaGreatDoor
open Go.RowKit Go.Shelf

/-- block G holds the headers vs; each header's row is owned above G; no two share a block -/
structure QR (G : Nat) (w : World) (vs : List Value) (rows : List (List Int)) : Prop where
  cells : w.heap[G]? = some (.cells vs.toArray 22 (0, 0))
  len : vs.length = rows.length
  own : ∀ k (h : k < vs.length) (h' : k < rows.length), w.ownsRow (G + 1) 3 1 vs[k] rows[k].length (rows[k].map (Value.int .i64))
  apart : ∀ i j (hi : i < vs.length) (hj : j < vs.length), i ≠ j → ∀ b, vs[i].ownBlock = some b → vs[j].ownBlock ≠ some b
theorem QR.lt {G : Nat} {w : World} {vs : List Value} {rows : List (List Int)} (h : QR G w vs rows) : G < w.heap.size := heap_of_cells h.cells
theorem QR.below {G : Nat} {w w' : World} {vs : List Value} {rows : List (List Int)} (h : QR G w vs rows) (hb : Below w.heap.size w w') : QR G w' vs rows :=
  ⟨(hb.block G h.lt).trans h.cells, h.len, fun k h1 h2 => own_bel (h.own k h1 h2) hb, h.apart⟩
theorem QR.set3 {G : Nat} {w : World} {vs : List Value} {rows : List (List Int)} (h : QR G w vs rows) {p : Addr} (hp : p.block < G) (u : Value) : QR G (w.setCell p u) vs rows :=
  ⟨(heap_setCell_other w p G u (by omega)).trans h.cells, h.len, fun k h1 h2 => own_set3 (h.own k h1 h2) (by omega) u, h.apart⟩
theorem QR.alloc {G : Nat} {w : World} {vs : List Value} {rows : List (List Int)} (h : QR G w vs rows) (o : Obj) : QR G (w.alloc o) vs rows := h.below ((Below.refl _ w).alloc (Nat.le_refl _) o)
theorem QR.drew {G : Nat} {w : World} {vs : List Value} {rows : List (List Int)} (h : QR G w vs rows) : QR G w.drew vs rows := h.below (Below.refl _ w).drew
theorem QR.cell {G : Nat} {w : World} {vs : List Value} {rows : List (List Int)} (h : QR G w vs rows) {k : Nat} (hk : k < vs.length) : w.cell? ⟨G, k, none⟩ = some vs[k] :=
  cell_of_row w G k _ _ _ (by rw [h.cells]) |>.trans (by simp)
theorem QR.frozen {G : Nat} {w : World} {vs : List Value} {rows : List (List Int)} (h : QR G w vs rows) (k : Nat) : w.frozen? ⟨G, k, none⟩ = false := frozen_of_row w G k _ _ h.cells
/-- one row lengthened and its header laid -/
theorem QR.push {G : Nat} {w w2 : World} {vs : List Value} {rows : List (List Int)} (h : QR G w vs rows) {k : Nat} (hk : k < vs.length) (hk' : k < rows.length) {v' : Value} {y : Int}
    (hown : w2.ownsRow (G + 1) 3 1 v' (rows[k] ++ [y]).length ((rows[k] ++ [y]).map (Value.int .i64)))
    (hg : w.grownBy w2 vs[k].ownBlock) (hat : ∀ b, v'.ownBlock = some b → vs[k].ownBlock = some b ∨ w.heap.size ≤ b) :
    QR G (w2.setCell ⟨G, k, none⟩ v') (vs.set k v') (rows.set k (rows[k] ++ [y])) := by
  have hGo : ∀ b, vs[k].ownBlock = some b → G + 1 ≤ b := fun b hb => ((h.own k hk hk').lt b hb).1
  have hG2 : w2.heap[G]? = some (.cells vs.toArray 22 (0, 0)) := (hg.block G h.lt (fun e => by have := hGo G e.symm; omega)).trans h.cells
  refine ⟨?_, by simp [h.len], ?_, ?_⟩
  · have := heap_setCell_same w2 G k _ _ v' hG2
    simpa using this
  · intro j h1 h2
    by_cases hj : j = k
    · subst hj
      simp only [List.getElem_set_self]
      exact own_set3 hown (by show G < G + 1; omega) v'
    · simp only [List.getElem_set_ne (Ne.symm hj)]
      have hjv : j < vs.length := by simpa using h1
      have hjr : j < rows.length := by simpa using h2
      refine own_set3 ?_ (by show G < G + 1; omega) v'
      have ho := h.own j hjv hjr
      refine ⟨ho.1, ?_⟩
      rcases ho.2 with hn | ⟨g, cap, cur, he, hb, hgg, rest⟩
      · exact .inl hn
      · refine .inr ⟨g, cap, cur, he, hb, (hg.block g (heap_of_cells hgg) (fun e => ?_)).trans hgg, rest⟩
        exact h.apart k j hk hjv (Ne.symm hj) g e.symm (by rw [he]; rfl)
  · intro i j hi hj hij b hbi hbj
    have hi' : i < vs.length := by simpa using hi
    have hj' : j < vs.length := by simpa using hj
    have key : ∀ j (hj : j < vs.length), j ≠ k → ∀ b, v'.ownBlock = some b → vs[j].ownBlock ≠ some b := by
      intro j hj hjk b h1 h2
      rcases hat b h1 with h3 | h3
      · exact h.apart k j hk hj (Ne.symm hjk) b h3 h2
      · have := ((h.own j hj (by rw [← h.len]; exact hj)).lt b h2).2
        omega
    by_cases hik : i = k
    · subst hik
      simp only [List.getElem_set_self] at hbi
      rw [List.getElem_set_ne hij] at hbj
      exact key j hj' (Ne.symm hij) b hbi hbj
    · rw [List.getElem_set_ne (Ne.symm hik)] at hbi
      by_cases hjk : j = k
      · subst hjk
        simp only [List.getElem_set_self] at hbj
        exact key i hi' hik b hbj hbi
      · rw [List.getElem_set_ne (Ne.symm hjk)] at hbj
        exact h.apart i j hi' hj' hij b hbi hbj
/-- one round: a row lengthened behind a literal, its header laid; another block bs stays -/
theorem QR.round {G bs : Nat} {wd wx wy : World} {vs : List Value} {rows : List (List Int)} (h : QR G wx vs rows) {j : Nat} (hjv : j < vs.length) (hjr : j < rows.length) {u : Value} (hvj : vs[j] = u) {R : List Int} (hR : rows[j] = R) {y : Int} {gg cap2 : Nat} {o : Obj}
    (hown : wy.ownsRow (G + 1) 3 1 (.slice (some ⟨gg, 0, none⟩) (R ++ [y]).length cap2) (R ++ [y]).length ((R ++ [y]).map (Value.int .i64)))
    (hg : (wx.alloc o).drew.grownBy wy u.ownBlock) (hat : u.ownBlock = some gg ∨ gg = (wx.alloc o).drew.heap.size)
    (hB : Below G wd wx) (hbs : bs < wx.heap.size) (hbG : bs ≠ G) (hnb : ∀ k (h : k < vs.length), vs[k].ownBlock ≠ some bs) :
    Hid (QR G (wy.setCell ⟨G, j, none⟩ (.slice (some ⟨gg, 0, none⟩) (R ++ [y]).length cap2)) (vs.set j (.slice (some ⟨gg, 0, none⟩) (R ++ [y]).length cap2)) (rows.set j (R ++ [y]))) ∧
    Hid (Below G wd (wy.setCell ⟨G, j, none⟩ (.slice (some ⟨gg, 0, none⟩) (R ++ [y]).length cap2))) ∧
    Hid ((wy.setCell ⟨G, j, none⟩ (.slice (some ⟨gg, 0, none⟩) (R ++ [y]).length cap2)).heap[bs]? = wx.heap[bs]?) ∧
    Hid (∀ k (h : k < (vs.set j (.slice (some ⟨gg, 0, none⟩) (R ++ [y]).length cap2)).length), (vs.set j (.slice (some ⟨gg, 0, none⟩) (R ++ [y]).length cap2))[k].ownBlock ≠ some bs) := by
  subst hvj hR
  have hsz : (wx.alloc o).drew.heap.size = wx.heap.size + 1 := by show (wx.alloc o).heap.size = _; simp
  refine ⟨?_, ?_, ?_, ?_⟩
  · show QR _ _ _ _
    refine QR.push (h.alloc o).drew hjv hjr hown hg (fun b hb => ?_)
    have hb' : gg = b := by injection hb
    subst hb'
    rcases hat with h | h
    · exact .inl h
    · right; rw [h]; exact Nat.le_refl _
  · show Below _ _ _
    exact (((hB.alloc (by have := h.lt; omega) o).drew).grown hg (by have := h.lt; omega) (fun k hk => by have := ((h.own j hjv hjr).lt k hk).1; omega)).setCell (Nat.le_refl _) _
  · show _ = _
    rw [heap_setCell_other _ _ bs _ hbG]
    refine (hg.block bs (by omega) (fun e => hnb j hjv e.symm)).trans ?_
    exact Below.heap_alloc wx _ _ hbs
  · intro k hk e
    have hk' : k < vs.length := by simpa using hk
    by_cases hkj : k = j
    · subst hkj
      rw [List.getElem_set_self] at e
      have e' : gg = bs := by injection e
      rcases hat with h | h
      · exact hnb k hjv (by rw [h, e'])
      · omega
    · rw [List.getElem_set_ne (Ne.symm hkj)] at e
      exact hnb k hk' e
/-- n empty rows -/
theorem QR.made (w : World) (n : Nat) : QR w.heap.size (w.alloc (.cells (List.replicate n (.slice none 0 0)).toArray 22)) (List.replicate n (.slice none 0 0)) (List.replicate n []) := by
  refine ⟨heap_alloc_new w _, by simp, fun k h1 h2 => ?_, fun i j hi hj _ b hb => ?_⟩
  · simp only [List.getElem_replicate]
    exact World.ownsRow_nil _ _ _ _
  · simp [Value.ownBlock] at hb
theorem QR.sl {G : Nat} {w : World} {vs : List Value} {rows : List (List Int)} (h : QR G w vs rows) (hr : ∀ r ∈ rows, ∀ x ∈ r, i64r x) (hm : rows.length ≤ 1000000) : SL w (.slice (some ⟨G, 0, none⟩) rows.length rows.length) rows := by
  refine ⟨_, rows.length, rfl, Nat.le_refl _, by omega, fun h0 => ⟨G, 0, rfl, h.lt, fun j hj => ?_⟩⟩
  have hjv : j < vs.length := by rw [h.len]; exact hj
  have ho := h.own j hjv hj
  obtain ⟨B, d, hv⟩ := own_sl ho
  refine ⟨B, d, ?_, ?_⟩
  · rw [← hv, Nat.zero_add]; exact h.cell hjv
  · rw [← hv]; exact SI.of_own ho (hr _ (List.getElem_mem hj))
theorem madeRows (n : Nat) : madeCells #[Value.slice none 0 0] n = (List.replicate n (Value.slice none 0 0)).toArray := by
  apply Array.toList_inj.1
  rw [toList_madeCells_one]
theorem ilinfo2 : (Tryz.prog.info? 22).map (fun i => (i.zero, i.size, i.bytes)) = some (some (.slice none 0 0), 1, 24) := by kernel_rfl
/-- make([][]int, n) -/
theorem wpList_make_rows {P : Program} (w : World) {ops : Array Oper} {rest : List Oper} {o : Oper} {a : Act} {Q : Exit → Act → World → Prop}
    (hg : o.guard = none) (l c : Operand) (t : TypeId) (hop : o.op = Op.makeSlice t l c) (e : TypeId) (ht : P.underlying t = some (.slice e)) (hinfo : (P.info? e).map (fun i => (i.zero, i.size, i.bytes)) = some (some (.slice none 0 0), 1, 24))
    (L : Int) (n : Nat) (hl : a.eval l = .int .i64 L) (hc : a.eval c = .int .i64 L) (hL : L = (n : Int)) (hn : n ≤ 10000000)
    (hK : wpList P ops Q rest (a.put o.dst (.slice (some ⟨w.heap.size, 0, none⟩) n n)) (w.alloc (.cells (List.replicate n (.slice none 0 0)).toArray e))) :
    wpList P ops Q (o :: rest) a w := by
  obtain ⟨i0, hi0, hz0, hz1, hz2⟩ := info_parts hinfo
  subst hL
  have hrun := run_makeSlice (P := P) w t e i0 _ ht hi0 hz0 .i64 .i64 n n (by omega) (Int.le_refl _) (by rw [hz1]; simp; omega) (by rw [hz2]; omega) (by omega)
  simp only [Int.toNat_natCast] at hrun
  rw [hz1, Nat.mul_one] at hrun
  have hm : madeCells (Value.slice none 0 0).cells n = (List.replicate n (.slice none 0 0)).toArray := madeRows n
  rw [hm] at hrun
  refine wpList_plain hg fun K hK' => ?_
  unfold Oper.wp
  simp [execOp, hop, hl, hc, hrun, Result.andThen]
  exact hK' _ _ hK
end Go.Proofs.YtbgabipngdillaaGreatDoor

namespace Go.Proofs.YtbgabipngdillaaGreatDoor
open Go.RowKit Go.Shelf

def LiR (P : Int) (K : Nat) (w : World) (i v : Value) (wr : World) : Prop := ∃ k : Nat, k ≤ K ∧ i = .int .i64 k ∧ wr.ownsRow w.heap.size 3 1 v (List.replicate k P).length ((List.replicate k P).map (Value.int .i64)) ∧ Below w.heap.size w wr
set_option maxRecDepth 100000 in
theorem limits_any (P n t m : Int) (w : World) (hP : i64r P) :
    Calls Tryz.prog 13 #[.agg #[.int .i64 P], .agg #[.int .i64 n, .int .i64 t], .int .i64 m] w fun e w' => ∃ v, e = .returned (.tuple #[v, .int .i64 (ccE P n t m)]) ∧ Below w.heap.size w w' ∧
      (ccE P n t m = 0 → w'.ownsRow w.heap.size 3 1 v (List.replicate (m * t).toNat P).length ((List.replicate (m * t).toNat P).map (Value.int .i64))) ∧ (ccE P n t m ≠ 0 → v = .slice none 0 0) := by
  go_enter Tryz.func13, Tryz.ntmps13
  go_upto_region 1 with fail
  obtain ⟨wa, ew⟩ : ∃ wa : World, wa = (w.alloc (.cells #[.int .i64 P] 31)).alloc (.cells #[.int .i64 n, .int .i64 t] 29) := ⟨_, rfl⟩
  have HBa : Hid (Below w.heap.size w wa) := by show Below _ _ _; rw [ew]; exact (((Below.refl _ w).alloc (Nat.le_refl _) _).alloc (by simp) _)
  have hza : wa.heap.size = w.heap.size + 2 := by rw [ew]; simp
  have HF : Hid (wa.heap[w.heap.size]? = some (.cells #[.int .i64 P] 31 (0, 0))) := by
    show _ = _; rw [ew, Below.heap_alloc _ _ _ (by simp)]; exact heap_alloc_new w _
  have HT : Hid (wa.heap[w.heap.size + 1]? = some (.cells #[.int .i64 n, .int .i64 t] 29 (0, 0))) := by
    show _ = _; rw [ew]; have := heap_alloc_new (w.alloc (.cells #[.int .i64 P] 31)) (.cells #[.int .i64 n, .int .i64 t] 29); simpa using this
  rw [← ew]
  clear ew
  obtain ⟨F, hF⟩ : ∃ F, w.heap.size = F := ⟨_, rfl⟩
  have HFF := Lib.hid hF
  rw [hF] at HF HT hza ⊢
  clear hF
  have cF0 : wa.cell? ⟨F, 0, none⟩ = some (.int .i64 P) := cell_of_row wa F 0 _ _ _ HF.out
  have cT0 : wa.cell? ⟨F + 1, 0, none⟩ = some (.int .i64 n) := cell_of_row wa (F + 1) 0 _ _ _ HT.out
  have cT1 : wa.cell? ⟨F + 1, 1, none⟩ = some (.int .i64 t) := cell_of_row wa (F + 1) 1 _ _ _ HT.out
  go_wp2_with fail
  (with_reducible refine (ccheck_any P n t m _ hP).mono ?_)
  rintro e w1 ⟨rfl, hb1⟩
  have HBw : Hid (Below w.heap.size w w1) := HBa.out.trans (hb1.mono HBa.out.size)
  have HF1 : Hid (w1.heap[F]? = some (.cells #[.int .i64 P] 31 (0, 0))) := (hb1.block F (by omega)).trans HF.out
  have HT1 : Hid (w1.heap[F + 1]? = some (.cells #[.int .i64 n, .int .i64 t] 29 (0, 0))) := (hb1.block (F + 1) (by omega)).trans HT.out
  have hz1 := hb1.size
  clear cF0 cT0 cT1 hb1
  by_cases h0 : ccE P n t m = 0
  · have HZ := Lib.hid h0
    obtain ⟨hc, hm1, hm2⟩ := ccE_ok h0
    obtain ⟨_, hv, _⟩ := cuE_ok hc
    obtain ⟨b1, b2, b3, b4⟩ := vaB_bd hv
    rw [h0]
    clear h0 hc hv
    obtain ⟨mn, rfl⟩ : ∃ mn : Nat, m = mn := ⟨m.toNat, by omega⟩
    obtain ⟨tn, rfl⟩ : ∃ tn : Nat, t = tn := ⟨t.toNat, by omega⟩
    have hKb : mn * tn ≤ 1024 * 10 := Nat.mul_le_mul (by omega) (by omega)
    have hKc : ((mn : Int) * (tn : Int)) = ((mn * tn : Nat) : Int) := (Int.natCast_mul mn tn).symm
    have HKt : Hid (((mn : Int) * (tn : Int)).toNat = mn * tn) := by show _ = _; rw [hKc]; rfl
    obtain ⟨K, hK⟩ : ∃ K, mn * tn = K := ⟨_, rfl⟩
    rw [hK] at HKt hKc hKb
    have hKw : IntKind.i64.wrap ((mn : Int) * (tn : Int)) = (K : Int) := by rw [hKc]; exact IntWalk.i64_in _ (by omega)
    have cF0 : w1.cell? ⟨F, 0, none⟩ = some (.int .i64 P) := cell_of_row w1 F 0 _ _ _ HF1.out
    have cT1 : w1.cell? ⟨F + 1, 1, none⟩ = some (.int .i64 tn) := cell_of_row w1 (F + 1) 1 _ _ _ HT1.out
    have HHK := Lib.hid hKc
    clear hKc hK
    go_wp2_with fail
    go_loopw [21, 9] (fun i v wr => LiR P K w1 i v wr) (fun i _ _ => K - (intOf i).toNat)
    case atStart => exact ⟨0, Nat.zero_le _, rfl, by simpa using World.ownsRow_nil w1 w1.heap.size 3 1, Below.refl _ _⟩
    case round =>
      obtain ⟨k, hk, rfl, hown, hbel⟩ := hrel
      have HO := Lib.hid hown
      have HB := Lib.hid hbel
      have hzr := hbel.size
      clear cF0
      have cF0 : wr.cell? ⟨F, 0, none⟩ = some (.int .i64 P) := (hbel.cell (p := ⟨F, 0, none⟩) (by show F < w1.heap.size; omega)).trans (cell_of_row w1 F 0 _ _ _ HF1.out)
      clear hown hbel
      by_cases hlt : k < K
      · have hd1 : decide ((k : Int) < (K : Int)) = true := decide_eq_true (by omega)
        go_wp2_with (at_builtin; refine wpList_append_int1 _ rfl _ _ 22 rfl w1.heap.size 3 Tryz.underlying22 iinfo _ (List.replicate k P) rfl HO.out P rfl (by simp; omega) hzr ?_; intro v3 w3 hown3 hg3; have HO3 := Lib.hid hown3; have HG3 := Lib.hid hg3; clear hown3 hg3)
        go_roundw
        case rel =>
          refine ⟨k + 1, by omega, by go_num, ?_, ?_⟩
          · rw [List.replicate_succ']
            exact HO3.out
          · exact (HB.out.alloc hzr _).grown HG3.out (by simp; omega) (fun j hj => (HO.out.lt j hj).1)
        case measure => simp [intOf]; omega
      · have hkk : k = K := by omega
        subst hkk
        have hd1 : decide ((k : Int) < (k : Int)) = false := decide_eq_false (by omega)
        clear hlt
        go_wp2_with fail
        go_ret2
        have hw1 : w.heap.size ≤ w1.heap.size := HBw.out.size
        refine ⟨_, by rw [HZ.out] <;> rfl, HBw.out.trans (HB.out.mono hw1), fun _ => ?_, fun h => absurd HZ.out h⟩
        rw [HKt.out]
        exact own_lo HO.out hw1
  · obtain ⟨er, her⟩ : ∃ er, ccE P n t m = er := ⟨_, rfl⟩
    have HE := Lib.hid her
    have HN := Lib.hid h0
    rw [her]
    rw [her] at h0
    have d0 : (er != 0) = true := by rw [bne_iff_ne]; exact h0
    clear her h0
    go_wp2_with fail
    go_ret2
    exact ⟨_, by rw [HE.out] <;> rfl, HBw.out, fun h => absurd h HN.out, fun _ => rfl⟩
end Go.Proofs.YtbgabipngdillaaGreatDoor

namespace Go.Proofs.YtbgabipngdillaaGreatDoor
open Go.RowKit Go.Shelf

def quE (P n t m want : Int) (l : List Int) (an : Nat) : Int := if ccE P n t m ≠ 0 then ccE P n t m else if want < 0 ∨ m ≤ want then 6 else dsE l an P (m * t)
/-- the coefficients of query i -/
def qCo (want : Int) (D : List Int) (t i : Nat) : List Int := (if (i : Int) = want then 1 else 0) :: (D.drop (i * t)).take t
def qPt (P want : Int) (D : List Int) (t i k : Nat) : Int := val P (qCo want D t i) ((k : Int) + 1)
def qRow (P want : Int) (D : List Int) (t k c : Nat) : List Int := (List.range c).map fun i => qPt P want D t i k
theorem qRow_succ (P want : Int) (D : List Int) (t k c : Nat) : qRow P want D t k (c + 1) = qRow P want D t k c ++ [qPt P want D t c k] := by
  unfold qRow
  rw [List.range_succ, List.map_append]
  rfl
theorem qRow_len (P want : Int) (D : List Int) (t k c : Nat) : (qRow P want D t k c).length = c := by unfold qRow; simp
/-- the rows while query i is shared out: the first j servers have it -/
def qMid (P want : Int) (D : List Int) (t n i j : Nat) : List (List Int) := (List.range n).map fun k => qRow P want D t k (if k < j then i + 1 else i)
def qRows (P want : Int) (D : List Int) (t n c : Nat) : List (List Int) := (List.range n).map fun k => qRow P want D t k c
theorem qMid_len (P want : Int) (D : List Int) (t n i j : Nat) : (qMid P want D t n i j).length = n := by unfold qMid; simp
theorem qRows_len (P want : Int) (D : List Int) (t n c : Nat) : (qRows P want D t n c).length = n := by unfold qRows; simp
theorem qMid_zero (P want : Int) (D : List Int) (t n i : Nat) : qMid P want D t n i 0 = qRows P want D t n i := by
  unfold qMid qRows
  apply List.map_congr_left
  intro k _
  rw [if_neg (by omega)]
theorem qMid_end (P want : Int) (D : List Int) (t n i : Nat) : qMid P want D t n i n = qRows P want D t n (i + 1) := by
  unfold qMid qRows
  apply List.map_congr_left
  intro k hk
  rw [if_pos (List.mem_range.1 hk)]
theorem qRows_zero (P want : Int) (D : List Int) (t n : Nat) : qRows P want D t n 0 = List.replicate n [] := by
  apply List.ext_getElem
  · simp [qRows_len]
  · intro k h1 h2
    simp [qRows, qRow]
theorem qMid_get (P want : Int) (D : List Int) (t n i j : Nat) (h : j < (qMid P want D t n i j).length) : (qMid P want D t n i j)[j] = qRow P want D t j i := by
  simp [qMid]
theorem qMid_step (P want : Int) (D : List Int) (t n i j : Nat) (hj : j < n) : (qMid P want D t n i j).set j (qRow P want D t j i ++ [qPt P want D t i j]) = qMid P want D t n i (j + 1) := by
  apply List.ext_getElem
  · simp [qMid_len]
  · intro k h1 h2
    by_cases hk : k = j
    · subst hk
      rw [List.getElem_set_self, ← qRow_succ]
      simp [qMid]
    · rw [List.getElem_set_ne (Ne.symm hk)]
      simp only [qMid, List.getElem_map, List.getElem_range]
      congr 1
      by_cases h : k < j
      · rw [if_pos h, if_pos (by omega)]
      · rw [if_neg h, if_neg (by omega)]
theorem dsE_full {l : List Int} {P : Int} (hP : 2 ≤ P ∧ P ≤ 65521) (hl : l.length ≤ 16384) (h : els P l = true) : dsE l ((0 : Nat) : Int) P (l.length : Int) = 0 := by
  have hv : tvB l ((0 : Nat) : Int) = true := decide_eq_true ⟨hl, by omega, by omega⟩
  have hi : liB P = true := decide_eq_true ⟨by omega, by omega⟩
  unfold dsE
  rw [if_neg (by rw [hv]; simp), if_neg (by rw [hi]; simp)]
  exact drE_of fun j hj => by
    have hj' : j < l.length := by simpa using hj
    have := els_all h l[j] (List.getElem_mem hj')
    have h2 : 0 ≤ l[j] ∧ l[j] < P := of_decide_eq_true this
    have hg : gd l (0 + j) = l[j] := by simp [gd, hj']
    show 0 + j < l.length ∧ 0 ≤ gd l (0 + j) ∧ gd l (0 + j) < P
    rw [hg]; exact ⟨by simpa using hj', h2⟩
/-- what was drawn without an error are elements -/
theorem dsE_els {l : List Int} {an : Nat} {P c : Int} (h : dsE l an P c = 0) : ((l.drop an).take c.toNat).length = c.toNat ∧ els P ((l.drop an).take c.toNat) = true := by
  have hv : tvB l an = true := by
    cases hh : tvB l (an : Int) with
    | true => rfl
    | false => unfold dsE at h; rw [if_pos hh] at h; cases h
  have hd : drE l P an c.toNat = 0 := by
    unfold dsE at h
    rw [if_neg (by rw [hv]; simp)] at h
    split at h
    · cases h
    · exact h
  have := drE_ok hd
  refine ⟨?_, ?_⟩
  · rw [List.length_take, List.length_drop]
    rcases Nat.eq_zero_or_pos c.toNat with h0 | h0
    · omega
    · have := (this (c.toNat - 1) (by omega)).1
      omega
  · unfold els
    rw [List.all_eq_true]
    intro x hx
    obtain ⟨j, hj, rfl⟩ := List.mem_iff_getElem.1 hx
    have hjm : j < c.toNat := by simp at hj; omega
    obtain ⟨q1, q2, q3⟩ := this j hjm
    have : gd l (an + j) = ((l.drop an).take c.toNat)[j] := by simp [gd, q1]
    rw [this] at q2 q3
    exact decide_eq_true ⟨q2, q3⟩
theorem SI.piece {w : World} {b off c : Nat} {l : List Int} (h : SI w (.slice (some ⟨b, off, none⟩) l.length c) l) {lo k : Nat} (h1 : lo + k ≤ l.length) :
    SI w (.slice (some ⟨b, off + lo, none⟩) k (c - lo)) ((l.drop lo).take k) := by
  have hk : ((l.drop lo).take k).length = k := by simp; omega
  obtain ⟨A', c', e, hc, hm, hr, ha⟩ := h
  injection e with e1 e2 e3
  subst e3
  refine ⟨_, c - lo, by rw [hk], by rw [hk]; omega, by omega, fun x hx => hr x (List.mem_of_mem_drop (List.mem_of_mem_take hx)), fun h0 => ?_⟩
  obtain ⟨b', off', hA, hb, hcell⟩ := ha (by rw [hk] at h0; omega)
  rw [← e1] at hA
  injection hA with hA
  injection hA with hb1 ho1
  subst hb1 ho1
  refine ⟨b, off + lo, rfl, hb, fun j hj => ?_⟩
  have hj' : lo + j < l.length := by rw [hk] at hj; omega
  have := hcell (lo + j) hj'
  rw [Nat.add_assoc, this]
  simp
theorem qPt_r {P want : Int} (hP : 2 ≤ P) (D : List Int) (t i k : Nat) : 0 ≤ qPt P want D t i k ∧ qPt P want D t i k < P := val_bd hP _ _
theorem qRows_r {P want : Int} (hP : 2 ≤ P ∧ P ≤ 65521) (D : List Int) (t n c : Nat) : ∀ r ∈ qRows P want D t n c, ∀ x ∈ r, i64r x := by
  intro r hr x hx
  obtain ⟨k, _, rfl⟩ := List.mem_map.1 hr
  obtain ⟨i, _, rfl⟩ := List.mem_map.1 hx
  have := qPt_r (want := want) hP.1 D t i k
  unfold i64r
  omega
end Go.Proofs.YtbgabipngdillaaGreatDoor
