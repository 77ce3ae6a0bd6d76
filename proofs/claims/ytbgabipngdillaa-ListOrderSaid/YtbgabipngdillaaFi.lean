/- first of the package code: the shares of the first known cells. -/
import Derived.Test.YtbgabipngdillaaAg
import Derived.Maps.OwnIn
namespace Go.Proofs.Ytbgabipngdillaa
open Go.RowKit Go.Shelf
attribute [local go_sem] Oper.semAt_some

theorem shinfo : (Try.prog.info? 64).map (fun i => (i.zero, i.size, i.bytes)) = some (some (.agg #[.int .i64 0, .int .i64 0]), 2, 16) := by kernel_rfl
/-- the shares at some places -/
def shs (l : List (Int × Bool)) (pre : List (Fin (kn l).length)) : List (Int × Int) := pre.map fun j => (kn l)[j]
theorem shs_len (l : List (Int × Bool)) (pre : List (Fin (kn l).length)) : (shs l pre).length = pre.length := List.length_map _
theorem shs_snoc (l : List (Int × Bool)) (pre : List (Fin (kn l).length)) (j : Fin (kn l).length) : shs l (pre ++ [j]) = shs l pre ++ [(kn l)[j]] := by simp [shs]
theorem shs_upA (l : List (Int × Bool)) (k : Nat) (h : k ≤ (kn l).length) : shs l (upA (kn l).length k) = (kn l).take k := by
  induction k with
  | zero => simp [shs, upA]
  | succ k ih => rw [upA_succ (by omega), shs_snoc, ih (by omega), List.take_succ_eq_append_getElem (by omega)]; rfl
theorem own_keptR {w w' : World} {base e size n : Nat} {v : Value} {xs : List Value} {row : Option Nat} (h : w.ownsRow base e size v n xs) (hg : w.grownBy w' row) (hr : ∀ r, row = some r → ∃ o : Obj, w.heap[r]? = some o ∧ o.isCells = false) : w'.ownsRow base e size v n xs := by
  refine h.kept hg ?_
  rcases h.2 with ⟨rfl, _⟩ | ⟨g, cap, cur, rfl, hb, hgg, _⟩
  · exact .inl rfl
  · refine .inr fun e => ?_
    obtain ⟨o, ho, hc⟩ := hr g e.symm
    rw [hgg] at ho
    cases ho
    cases hc
theorem own_slice {w : World} {base e size n : Nat} {v : Value} {xs : List Value} (h : w.ownsRow base e size v n xs) : ∃ A c, v = .slice A n c := by
  rcases h.2 with ⟨rfl, rfl⟩ | ⟨g, cap, cur, rfl, _⟩
  · exact ⟨_, _, rfl⟩
  · exact ⟨_, _, rfl⟩
theorem own_row {w : World} {base e size n g : Nat} {v : Value} {xs : List Value} (h : w.ownsRow base e size v n xs) (hg : v.ownBlock = some g) : ∃ o : Obj, w.heap[g]? = some o ∧ o.isCells = true := by
  rcases h.2 with ⟨rfl, _⟩ | ⟨g', cap, cur, rfl, hb, hgg, _⟩
  · cases hg
  · cases hg
    exact ⟨_, hgg, rfl⟩
/-- a row of the call's own that grew keeps what is no cells -/
theorem keepsFrom_own {W Wa W3 : World} {base e size n B : Nat} {v : Value} {xs : List Value} {o : Obj} (ea : Wa = W.alloc o) (h : W.ownsRow base e size v n xs) (hg : Wa.grownBy W3 v.ownBlock) : KeepsFrom B W W3 := by
  subst ea
  have h1 : W.heap.size ≤ (W.alloc o).heap.size := by simp
  refine ⟨Nat.le_trans h1 hg.size, fun k o' _ hk hc => ?_⟩
  have hlt := (Array.getElem?_eq_some_iff.1 hk).1
  rw [hg.block k (by omega) (fun e => ?_), ((Below.refl _ W).alloc (Nat.le_refl _) o).block k hlt]
  · exact hk
  · obtain ⟨o2, h2, h3⟩ := own_row h e.symm
    rw [hk] at h2
    cases h2
    rw [hc] at h3
    cases h3
theorem own_setCell {w : World} {base e size n : Nat} {v u : Value} {xs : List Value} {p : Addr} (h : w.ownsRow base e size v n xs) (hp : p.block < base) : (w.setCell p u).ownsRow base e size v n xs := by
  refine ⟨h.1, ?_⟩
  rcases h.2 with hn | ⟨g, cap, cur, rfl, hb, hgg, rest⟩
  · exact .inl hn
  · refine .inr ⟨g, cap, cur, rfl, hb, ?_, rest⟩
    rw [← hgg]
    have hne : ¬ p.block = g := by omega
    simp [World.setCell, Array.getElem?_modify, hne]
/-- what the slot of the shares holds -/
def FO (w W : World) (k : Int) (sh : List (Int × Int)) (v : Value) : Prop := W.cell? ⟨w.heap.size, 0, none⟩ = some (.int .i64 k) ∧ W.cell? ⟨w.heap.size + 1, 0, none⟩ = some v ∧ W.frozen? ⟨w.heap.size + 1, 0, none⟩ = false ∧
  W.ownsRow (w.heap.size + 2) 64 2 v sh.length ((sh.flatMap pcs).map (Value.int .i64)) ∧ w.heap.size + 2 ≤ W.heap.size
theorem FO.kept {w A B : World} {k : Int} {sh : List (Int × Int)} {v : Value} {row : Option Nat} (h : FO w A k sh v) (hg : A.grownBy B row) (hr : ∀ r, row = some r → ∃ o : Obj, A.heap[r]? = some o ∧ o.isCells = false) : FO w B k sh v :=
  ⟨cell_kept h.1 hg hr, cell_kept h.2.1 hg hr, (frozen_kept h.2.1 hg hr).trans h.2.2.1, own_keptR h.2.2.2.1 hg hr, Nat.le_trans h.2.2.2.2 hg.size⟩

set_option maxRecDepth 100000 in
set_option maxHeartbeats 4000000 in
theorem first_in (l : List (Int × Bool)) (k : Nat) (v : Value) (w : World) (hk : 1 ≤ k) (hkl : k ≤ (kn l).length) (h : SCl w v l) (hz : l.length ≤ 1000000) :
    CallsIn Fence.wide 8 Try.prog 54 #[v, .int .i64 k] w fun e w' => ∃ v', e = .returned v' ∧ w'.ownsRow (w.heap.size + 2) 64 2 v' ((kn l).take k).length ((((kn l).take k).flatMap pcs).map (Value.int .i64)) ∧ Below w.heap.size w w' := by
  have HS := Lib.hid h
  obtain ⟨A, c, rfl⟩ := h.form
  clear h
  obtain ⟨i0, hi0, hi1, hi2, hi3⟩ := info_parts shinfo
  have hknl : (kn l).length ≤ l.length := kn_len l 0
  refine callsIn_of_wp_marks Try.func54 rfl trivial ?_ rfl
  simp only [Try.ntmps54, List.size_toArray, List.length_cons, List.length_nil, Nat.reduceAdd, Nat.reduceSub, Array.replicate_succ, Array.replicate_zero, List.push_toArray, List.append_toArray, List.nil_append, List.cons_append]
  gi_upto_region 2 with fail
  obtain ⟨w0, ew⟩ : ∃ w0 : World, w0 = (w.alloc (.cells #[.int .i64 k] 3)).alloc (.cells #[.slice none 0 0] 62) := ⟨_, rfl⟩
  have hB0 : Below w.heap.size w w0 := by rw [ew]; exact ((Below.refl _ _).alloc (Nat.le_refl _) _).alloc (by simp) _
  have hz0 : w.heap.size + 1 < w0.heap.size := by rw [ew]; simp
  have b0 : w0.cell? ⟨w.heap.size, 0, none⟩ = some (.int .i64 k) := by rw [ew]; simp [go_sem]
  have b1 : w0.cell? ⟨w.heap.size + 1, 0, none⟩ = some (.slice none 0 0) := by rw [ew]; simp [go_sem]
  have b2 : w0.frozen? ⟨w.heap.size + 1, 0, none⟩ = false := by rw [ew]; simp [go_sem]
  rw [← ew]
  clear ew
  gi_wp2_with fail
  refine ⟨trivial, (callsIn_wide.2 (known_any _ _ _ _)).mono ?_⟩
  rintro e w' ⟨rfl, rfl⟩
  gi_wp2_with fail
  obtain ⟨W0, eW⟩ : ∃ W0 : World, W0 = w0.alloc (.cells #[.slice A l.length c] 27) := ⟨_, rfl⟩
  have hbW : Below w0.heap.size w0 W0 := by rw [eW]; exact (Below.refl _ _).alloc (Nat.le_refl _) _
  have hzW : w0.heap.size < W0.heap.size := by rw [eW]; simp
  have cS : W0.cell? ⟨w0.heap.size, 0, none⟩ = some (.slice A l.length c) := by rw [eW]; exact cell_of_row _ _ 0 _ _ (0, 0) (heap_alloc_new w0 _)
  have hBW := hB0.trans (hbW.mono hB0.size)
  have hF0 : FO w W0 k (shs l []) (.slice none 0 0) := ⟨(hbW.cell (p := ⟨w.heap.size, 0, none⟩) (by show w.heap.size < _; omega)).trans b0, (hbW.cell (p := ⟨w.heap.size + 1, 0, none⟩) hz0).trans b1,
    (hbW.frozen (p := ⟨w.heap.size + 1, 0, none⟩) hz0).trans b2, World.ownsRow_nil _ _ _ _, by omega⟩
  rw [← eW]
  clear eW b0 b1 b2
  refine wpIn_rangeFunc_ownG rfl (by omega) (gf := 83) (lb := #[.pointer (some ⟨w0.heap.size, 0, none⟩)]) rfl trivial (enters_of Try.func83 (by kernel_rfl) rfl)
    (kn_stops 7 (by omega) w0.heap.size (fun b => b < w.heap.size) l A c hz W0 (fun k hk => by omega) hzW cS
      (fun h0 => by
        obtain ⟨A', c', e, _, _, _, ha⟩ := HS.out
        injection e with e1 e2 e3
        subst e1
        obtain ⟨b, off, e, hb, hc⟩ := ha h0
        exact ⟨b, off, e, hb, fun j hj => ⟨(hBW.cell (p := ⟨b, off + j * 2, none⟩) hb).trans (hc j hj).1, (hBW.cell (p := ⟨b, off + j * 2 + 1, none⟩) hb).trans (hc j hj).2⟩⟩))
    KB_t (KB_b (fun k hk => by omega)) (Below.refl _ _) (fun _ => rfl)
    (fun pre W => ((∃ v, FO w W k (shs l pre) v) ∧ pre.length ≤ k ∧ W0.heap.size ≤ W.heap.size) ∧ Below w.heap.size w W)
    (fun c pre W => (c = .exit 0 ∧ (∃ v, FO w W k (shs l pre.dropLast) v) ∧ pre.length = k + 1) ∧ Below w.heap.size w W)
    (OwnFrom.and (Own.from (fun s A B row hs hg hr => ⟨hs.1.imp fun v hv => hv.kept hg hr, hs.2.1, Nat.le_trans hs.2.2 hg.size⟩) _) (ownFrom_below (Nat.le_refl _) (by omega)))
    (fun c => OwnFrom.and (Own.from (fun s A B row hs hg hr => ⟨hs.1, hs.2.1.imp fun v hv => hv.kept hg hr, hs.2.2⟩) _) (ownFrom_below (Nat.le_refl _) (by omega)))
    ⟨⟨⟨_, hF0⟩, Nat.zero_le _, Nat.le_refl _⟩, hBW⟩
    (fun j => { tmps := #[.slice A l.length c, .int .i64 k, undef, .pointer (some ⟨w.heap.size, 0, none⟩), .slice none 0 0, .pointer (some ⟨w.heap.size + 1, 0, none⟩), .int .i64 (kn l)[j].1, .int .i64 (kn l)[j].2, .slice A l.length c, .func (.func 83) #[] #[.pointer (some ⟨w0.heap.size, 0, none⟩)], .int .i64 (kn l)[j].1, .int .i64 (kn l)[j].2, undef, undef, undef, undef, undef, undef, undef, undef, undef, undef, undef], defers := [] }) ?assign ?body ?done ?stop
  case assign =>
    intro lr x W K hK
    gi_wp2
    exact hK
  case body =>
    rintro lr pre j W ⟨⟨⟨v, hFO⟩, hpk, hzz⟩, hB⟩ hpl
    obtain ⟨p0, p1, r1, hown, hz2⟩ := hFO
    have HS1 := Lib.hid (shs_snoc l pre j)
    have hsl := shs_len l pre
    simp only [Fin.getElem_fin] at HS1 ⊢
    generalize (kn l)[j.1] = t at HS1 ⊢
    clear hF0 cS
    rw [hsl] at hown
    obtain ⟨Av, cv, rfl⟩ := own_slice hown
    have HO := Lib.hid hown
    have hnb : ∀ g, (Value.slice Av pre.length cv).ownBlock = some g → w.heap.size + 2 ≤ g := fun g e => (HO.out.lt g e).1
    have HNB := Lib.hid hnb
    clear hsl hown hnb
    by_cases he : pre.length = k
    · have hd : ((pre.length : Int) == (k : Int)) = true := by rw [he]; simp
      gi_wp2_with fail
      exact ⟨KeepsFrom.refl _ _, ⟨rfl, ⟨_, by rw [List.dropLast_concat]; exact ⟨p0, p1, r1, by rw [shs_len]; exact HO.out, hz2⟩⟩, by simp; omega⟩, hB⟩
    · have hd : ((pre.length : Int) == (k : Int)) = false := by simp; omega
      gi_wp2_with (gi_at_builtin; refine wpListIn_append_own_at _ rfl _ _ 62 rfl (w.heap.size + 2) 64 i0 _ 2 16 Try.underlying62 hi0 hi1 hi2 hi3 rfl (by omega) _ _ _ rfl (HO.out.alloc _) ⟨W.heap.size, 0, none⟩ 1 1 (List.map (Value.int .i64) (pcs t)) rfl rfl ?c1 ?c2 ?c3 ?c4 ?c5 ?_)
      case c1 => exact cells_new W _ _
      case c2 => intro u hu; simp [pcs] at hu; rcases hu with rfl | rfl <;> rfl
      case c3 => unfold maxLen; omega
      case c4 => omega
      case c5 => simp; omega
      intro v3 w3 hown3 hg3 _ _
      obtain ⟨A3, c3, rfl⟩ := own_slice hown3
      obtain ⟨Wa, eWa⟩ : ∃ Wa : World, Wa = W.alloc (.cells (List.map (Value.int .i64) (pcs t)).toArray 64) := ⟨_, rfl⟩
      have hga : Wa.grownBy w3 (Value.slice Av pre.length cv).ownBlock := by rw [eWa]; exact hg3
      have hkf : KeepsFrom W0.heap.size W w3 := keepsFrom_own eWa HO.out hga
      have hza : W.heap.size < Wa.heap.size := by rw [eWa]; simp
      have hba : Below W.heap.size W Wa := by rw [eWa]; exact (Below.refl _ _).alloc (Nat.le_refl _) _
      have hz3 := hga.size
      have q0 : w3.cell? ⟨w.heap.size, 0, none⟩ = some (.int .i64 k) := (hga.cell_far ⟨w.heap.size, 0, none⟩ (by show w.heap.size < _; omega) (fun e => by have h5 : w.heap.size + 2 ≤ w.heap.size := HNB.out _ e.symm; omega)).trans ((hba.cell (p := ⟨w.heap.size, 0, none⟩) (by show w.heap.size < _; omega)).trans p0)
      have q1 : w3.cell? ⟨w.heap.size + 1, 0, none⟩ = some (.slice Av pre.length cv) := (hga.cell_far ⟨w.heap.size + 1, 0, none⟩ (by show w.heap.size + 1 < _; omega) (fun e => by have h5 : w.heap.size + 2 ≤ w.heap.size + 1 := HNB.out _ e.symm; omega)).trans ((hba.cell (p := ⟨w.heap.size + 1, 0, none⟩) (by show w.heap.size + 1 < _; omega)).trans p1)
      have s1 : w3.frozen? ⟨w.heap.size + 1, 0, none⟩ = false := (hga.frozen_far ⟨w.heap.size + 1, 0, none⟩ (by show w.heap.size + 1 < _; omega) (fun e => by have h5 : w.heap.size + 2 ≤ w.heap.size + 1 := HNB.out _ e.symm; omega)).trans ((hba.frozen (p := ⟨w.heap.size + 1, 0, none⟩) (by show w.heap.size + 1 < _; omega)).trans r1)
      have hB3 : Below w.heap.size w w3 := (hB.trans (hba.mono hB.size)).grown hga (by omega) (fun g e => by have := HNB.out _ e; omega)
      have hkb : KB (fun b => b < w.heap.size) W w3 := KB_t (KB.of hba (fun b hb => by omega)) (KB.grown hga (fun b hb => ⟨by omega, fun e => by have := HNB.out _ e.symm; omega⟩))
      clear hg3 hga eWa p0 p1 r1
      have HO3 := Lib.hid hown3
      clear hown3
      gi_wp2_with fail
      have hk2 : KB (fun b => b < w.heap.size) w3 (w3.setCell ⟨w.heap.size + 1, 0, none⟩ (.slice A3 (pre.length + 1) c3)) := ⟨by simp [World.setCell], fun p hp => World.cell?_setCell_other _ _ _ _ (fun e => by rw [← e] at hp; have h5 : w.heap.size + 1 < w.heap.size := hp; omega)⟩
      have hs3 : w3.heap.size ≤ (w3.setCell ⟨w.heap.size + 1, 0, none⟩ (.slice A3 (pre.length + 1) c3)).heap.size := by simp [World.setCell]
      refine ⟨hkf.trans ((KeepsOthers.setCell _ _ _).from _), KB_t hkb hk2, ⟨⟨_, setOther q0 (by show w.heap.size + 1 ≠ w.heap.size; omega), World.cell?_setCell_same _ _ _ q1, by rw [World.frozen?_setCell]; exact s1, ?_, by omega⟩, by simp; omega, by omega⟩, hB3.setCell (p := ⟨w.heap.size + 1, 0, none⟩) (by show w.heap.size ≤ w.heap.size + 1; omega) _⟩
      rw [HS1.out, List.length_append, shs_len, List.flatMap_append, List.map_append]
      refine own_setCell ?_ (by show w.heap.size + 1 < _; omega)
      have := HO3.out
      simpa using this
  case done =>
    rintro D ys W hD rfl ⟨⟨⟨v, hFO⟩, hpk, hzz⟩, hB⟩ hK
    rw [upA_length (Nat.le_refl _)] at hpk
    obtain rfl : k = (kn l).length := by omega
    rw [shs_upA l _ (Nat.le_refl _)] at hFO
    obtain ⟨p0, p1, r1, hown, hz2⟩ := hFO
    have HO := Lib.hid hown
    clear hF0 cS hown
    gi_wp2_with fail
    refine ⟨by simp, .inl ⟨_, _, rfl, run_takeDeferred hK, ?_⟩⟩
    exact ⟨_, results_tmp rfl _ _ _, _, rfl, own_keptR HO.out (grownBy_putObj' W D (.deferred none)) (fun r e => by cases e; exact ⟨_, hK, rfl⟩), hB.trans (belowK_b (w := w) (Nat.le_refl _) W D _ _ (by omega) hK rfl rfl)⟩
  case stop =>
    rintro D c pre W hD ⟨m, hm, rfl⟩ ⟨⟨rfl, ⟨v, hFO⟩, hpk⟩, hB⟩ hK
    rw [upA_length hm] at hpk
    subst hpk
    rw [upA_succ (by omega), List.dropLast_concat, shs_upA l _ hkl] at hFO
    obtain ⟨p0, p1, r1, hown, hz2⟩ := hFO
    have HO := Lib.hid hown
    clear hF0 cS hown
    gi_wp2_with fail
    refine ⟨by simp, .inl ⟨_, _, rfl, run_takeDeferred hK, ?_⟩⟩
    exact ⟨_, results_tmp rfl _ _ _, _, rfl, own_keptR HO.out (grownBy_putObj' W D (.deferred none)) (fun r e => by cases e; exact ⟨_, hK, rfl⟩), hB.trans (belowK_b (w := w) (Nat.le_refl _) W D _ _ (by omega) hK rfl rfl)⟩
theorem first_any (l : List (Int × Bool)) (k : Nat) (v : Value) (w : World) (hk : 1 ≤ k) (hkl : k ≤ (kn l).length) (h : SCl w v l) (hz : l.length ≤ 1000000) :
    Calls Try.prog 54 #[v, .int .i64 k] w fun e w' => ∃ v', e = .returned v' ∧ w'.ownsRow (w.heap.size + 2) 64 2 v' ((kn l).take k).length ((((kn l).take k).flatMap pcs).map (Value.int .i64)) ∧ Below w.heap.size w w' :=
  callsIn_wide.1 (first_in l k v w hk hkl h hz)
end Go.Proofs.Ytbgabipngdillaa
