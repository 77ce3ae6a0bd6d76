/- Joined: Fi Fl Ls Ld Lk Ch Lo. -/
import Derived.Maps.OwnIn
import Derived.Deep.RegionWith
import Derived.Deep.RegionHeld3
import Derived.Test.YtbgabipngdillaaJ10
namespace Go.Proofs.Ytbgabipngdillaa
open Go.RowKit Go.Shelf
attribute [local go_sem] Oper.semAt_some

theorem shinfo : (Try.prog.info? 64).map (fun i => (i.zero, i.size, i.bytes)) = some (some (.agg #[.int .i64 0, .int .i64 0]), 2, 16) := by kernel_rfl
/-- the shares at some places -/
def shs (l : List (Int × Bool)) (pre : List (Fin (kn l).length)) : List (Int × Int) := pre.map fun j => (kn l)[j]
theorem shs_len (l : List (Int × Bool)) (pre : List (Fin (kn l).length)) : (shs l pre).length = pre.length := List.length_map _
theorem shs_snoc (l : List (Int × Bool)) (pre : List (Fin (kn l).length)) (j : Fin (kn l).length) : shs l (pre ++ [j]) = shs l pre ++ [(kn l)[j]] := by simp [shs]
theorem shs_upA (l : List (Int × Bool)) (k : Nat) (h : k ≤ (kn l).length) : shs l (upA (kn l).length k) = (kn l).take k := by
  induction k with
  | zero => simp [shs, upA]
  | succ k ih => rw [upA_succ (by omega), shs_snoc, ih (by omega), List.take_succ_eq_append_getElem (by omega)]; rfl
theorem own_keptR {w w' : World} {base e size n : Nat} {v : Value} {xs : List Value} {row : Option Nat} (h : w.ownsRow base e size v n xs) (hg : w.grownBy w' row) (hr : ∀ r, row = some r → ∃ o : Obj, w.heap[r]? = some o ∧ o.isCells = false) : w'.ownsRow base e size v n xs := by
  refine h.kept hg ?_
  rcases h.2 with ⟨rfl, _⟩ | ⟨g, cap, cur, rfl, hb, hgg, _⟩
  · exact .inl rfl
  · refine .inr fun e => ?_
    obtain ⟨o, ho, hc⟩ := hr g e.symm
    rw [hgg] at ho
    cases ho
    cases hc
theorem own_slice {w : World} {base e size n : Nat} {v : Value} {xs : List Value} (h : w.ownsRow base e size v n xs) : ∃ A c, v = .slice A n c := by
  rcases h.2 with ⟨rfl, rfl⟩ | ⟨g, cap, cur, rfl, _⟩
  · exact ⟨_, _, rfl⟩
  · exact ⟨_, _, rfl⟩
theorem own_row {w : World} {base e size n g : Nat} {v : Value} {xs : List Value} (h : w.ownsRow base e size v n xs) (hg : v.ownBlock = some g) : ∃ o : Obj, w.heap[g]? = some o ∧ o.isCells = true := by
  rcases h.2 with ⟨rfl, _⟩ | ⟨g', cap, cur, rfl, hb, hgg, _⟩
  · cases hg
  · cases hg
    exact ⟨_, hgg, rfl⟩
/-- a row of the call's own that grew keeps what is no cells -/
theorem keepsFrom_own {W Wa W3 : World} {base e size n B : Nat} {v : Value} {xs : List Value} {o : Obj} (ea : Wa = W.alloc o) (h : W.ownsRow base e size v n xs) (hg : Wa.grownBy W3 v.ownBlock) : KeepsFrom B W W3 := by
  subst ea
  have h1 : W.heap.size ≤ (W.alloc o).heap.size := by simp
  refine ⟨Nat.le_trans h1 hg.size, fun k o' _ hk hc => ?_⟩
  have hlt := (Array.getElem?_eq_some_iff.1 hk).1
  rw [hg.block k (by omega) (fun e => ?_), ((Below.refl _ W).alloc (Nat.le_refl _) o).block k hlt]
  · exact hk
  · obtain ⟨o2, h2, h3⟩ := own_row h e.symm
    rw [hk] at h2
    cases h2
    rw [hc] at h3
    cases h3
theorem own_setCell {w : World} {base e size n : Nat} {v u : Value} {xs : List Value} {p : Addr} (h : w.ownsRow base e size v n xs) (hp : p.block < base) : (w.setCell p u).ownsRow base e size v n xs := by
  refine ⟨h.1, ?_⟩
  rcases h.2 with hn | ⟨g, cap, cur, rfl, hb, hgg, rest⟩
  · exact .inl hn
  · refine .inr ⟨g, cap, cur, rfl, hb, ?_, rest⟩
    rw [← hgg]
    have hne : ¬ p.block = g := by omega
    simp [World.setCell, Array.getElem?_modify, hne]
/-- what the slot of the shares holds -/
def FO (w W : World) (k : Int) (sh : List (Int × Int)) (v : Value) : Prop := W.cell? ⟨w.heap.size, 0, none⟩ = some (.int .i64 k) ∧ W.cell? ⟨w.heap.size + 1, 0, none⟩ = some v ∧ W.frozen? ⟨w.heap.size + 1, 0, none⟩ = false ∧
  W.ownsRow (w.heap.size + 2) 64 2 v sh.length ((sh.flatMap pcs).map (Value.int .i64)) ∧ w.heap.size + 2 ≤ W.heap.size
theorem FO.kept {w A B : World} {k : Int} {sh : List (Int × Int)} {v : Value} {row : Option Nat} (h : FO w A k sh v) (hg : A.grownBy B row) (hr : ∀ r, row = some r → ∃ o : Obj, A.heap[r]? = some o ∧ o.isCells = false) : FO w B k sh v :=
  ⟨cell_kept h.1 hg hr, cell_kept h.2.1 hg hr, (frozen_kept h.2.1 hg hr).trans h.2.2.1, own_keptR h.2.2.2.1 hg hr, Nat.le_trans h.2.2.2.2 hg.size⟩

set_option maxRecDepth 100000 in
set_option maxHeartbeats 4000000 in
theorem first_in (l : List (Int × Bool)) (k : Nat) (v : Value) (w : World) (hk : 1 ≤ k) (hkl : k ≤ (kn l).length) (h : SCl w v l) (hz : l.length ≤ 1000000) :
    CallsIn Fence.wide 8 Try.prog 54 #[v, .int .i64 k] w fun e w' => ∃ v', e = .returned v' ∧ w'.ownsRow (w.heap.size + 2) 64 2 v' ((kn l).take k).length ((((kn l).take k).flatMap pcs).map (Value.int .i64)) ∧ Below w.heap.size w w' := by
  have HS := Lib.hid h
  obtain ⟨A, c, rfl⟩ := h.form
  clear h
  obtain ⟨i0, hi0, hi1, hi2, hi3⟩ := info_parts shinfo
  have hknl : (kn l).length ≤ l.length := kn_len l 0
  refine callsIn_of_wp_marks Try.func54 rfl trivial ?_ rfl
  simp only [Try.ntmps54, List.size_toArray, List.length_cons, List.length_nil, Nat.reduceAdd, Nat.reduceSub, Array.replicate_succ, Array.replicate_zero, List.push_toArray, List.append_toArray, List.nil_append, List.cons_append]
  gi_upto_region 2 with fail
  obtain ⟨w0, ew⟩ : ∃ w0 : World, w0 = (w.alloc (.cells #[.int .i64 k] 3)).alloc (.cells #[.slice none 0 0] 62) := ⟨_, rfl⟩
  have hB0 : Below w.heap.size w w0 := by rw [ew]; exact ((Below.refl _ _).alloc (Nat.le_refl _) _).alloc (by simp) _
  have hz0 : w.heap.size + 1 < w0.heap.size := by rw [ew]; simp
  have b0 : w0.cell? ⟨w.heap.size, 0, none⟩ = some (.int .i64 k) := by rw [ew]; simp [go_sem]
  have b1 : w0.cell? ⟨w.heap.size + 1, 0, none⟩ = some (.slice none 0 0) := by rw [ew]; simp [go_sem]
  have b2 : w0.frozen? ⟨w.heap.size + 1, 0, none⟩ = false := by rw [ew]; simp [go_sem]
  rw [← ew]
  clear ew
  gi_wp2_with fail
  refine ⟨trivial, (callsIn_wide.2 (known_any _ _ _ _)).mono ?_⟩
  rintro e w' ⟨rfl, rfl⟩
  gi_wp2_with fail
  obtain ⟨W0, eW⟩ : ∃ W0 : World, W0 = w0.alloc (.cells #[.slice A l.length c] 27) := ⟨_, rfl⟩
  have hbW : Below w0.heap.size w0 W0 := by rw [eW]; exact (Below.refl _ _).alloc (Nat.le_refl _) _
  have hzW : w0.heap.size < W0.heap.size := by rw [eW]; simp
  have cS : W0.cell? ⟨w0.heap.size, 0, none⟩ = some (.slice A l.length c) := by rw [eW]; exact cell_of_row _ _ 0 _ _ (0, 0) (heap_alloc_new w0 _)
  have hBW := hB0.trans (hbW.mono hB0.size)
  have hF0 : FO w W0 k (shs l []) (.slice none 0 0) := ⟨(hbW.cell (p := ⟨w.heap.size, 0, none⟩) (by show w.heap.size < _; omega)).trans b0, (hbW.cell (p := ⟨w.heap.size + 1, 0, none⟩) hz0).trans b1,
    (hbW.frozen (p := ⟨w.heap.size + 1, 0, none⟩) hz0).trans b2, World.ownsRow_nil _ _ _ _, by omega⟩
  rw [← eW]
  clear eW b0 b1 b2
  refine wpIn_rangeFunc_ownG rfl (by omega) (gf := 83) (lb := #[.pointer (some ⟨w0.heap.size, 0, none⟩)]) rfl trivial (enters_of Try.func83 (by kernel_rfl) rfl)
    (kn_stops 7 (by omega) w0.heap.size (fun b => b < w.heap.size) l A c hz W0 (fun k hk => by omega) hzW cS
      (fun h0 => by
        obtain ⟨A', c', e, _, _, _, ha⟩ := HS.out
        injection e with e1 e2 e3
        subst e1
        obtain ⟨b, off, e, hb, hc⟩ := ha h0
        exact ⟨b, off, e, hb, fun j hj => ⟨(hBW.cell (p := ⟨b, off + j * 2, none⟩) hb).trans (hc j hj).1, (hBW.cell (p := ⟨b, off + j * 2 + 1, none⟩) hb).trans (hc j hj).2⟩⟩))
    KB_t (KB_b (fun k hk => by omega)) (Below.refl _ _) (fun _ => rfl)
    (fun pre W => ((∃ v, FO w W k (shs l pre) v) ∧ pre.length ≤ k ∧ W0.heap.size ≤ W.heap.size) ∧ Below w.heap.size w W)
    (fun c pre W => (c = .exit 0 ∧ (∃ v, FO w W k (shs l pre.dropLast) v) ∧ pre.length = k + 1) ∧ Below w.heap.size w W)
    (OwnFrom.and (Own.from (fun s A B row hs hg hr => ⟨hs.1.imp fun v hv => hv.kept hg hr, hs.2.1, Nat.le_trans hs.2.2 hg.size⟩) _) (ownFrom_below (Nat.le_refl _) (by omega)))
    (fun c => OwnFrom.and (Own.from (fun s A B row hs hg hr => ⟨hs.1, hs.2.1.imp fun v hv => hv.kept hg hr, hs.2.2⟩) _) (ownFrom_below (Nat.le_refl _) (by omega)))
    ⟨⟨⟨_, hF0⟩, Nat.zero_le _, Nat.le_refl _⟩, hBW⟩
    (fun j => { tmps := #[.slice A l.length c, .int .i64 k, undef, .pointer (some ⟨w.heap.size, 0, none⟩), .slice none 0 0, .pointer (some ⟨w.heap.size + 1, 0, none⟩), .int .i64 (kn l)[j].1, .int .i64 (kn l)[j].2, .slice A l.length c, .func (.func 83) #[] #[.pointer (some ⟨w0.heap.size, 0, none⟩)], .int .i64 (kn l)[j].1, .int .i64 (kn l)[j].2, undef, undef, undef, undef, undef, undef, undef, undef, undef, undef, undef], defers := [] }) ?assign ?body ?done ?stop
  case assign =>
    intro lr x W K hK
    gi_wp2
    exact hK
  case body =>
    rintro lr pre j W ⟨⟨⟨v, hFO⟩, hpk, hzz⟩, hB⟩ hpl
    obtain ⟨p0, p1, r1, hown, hz2⟩ := hFO
    have HS1 := Lib.hid (shs_snoc l pre j)
    have hsl := shs_len l pre
    simp only [Fin.getElem_fin] at HS1 ⊢
    generalize (kn l)[j.1] = t at HS1 ⊢
    clear hF0 cS
    rw [hsl] at hown
    obtain ⟨Av, cv, rfl⟩ := own_slice hown
    have HO := Lib.hid hown
    have hnb : ∀ g, (Value.slice Av pre.length cv).ownBlock = some g → w.heap.size + 2 ≤ g := fun g e => (HO.out.lt g e).1
    have HNB := Lib.hid hnb
    clear hsl hown hnb
    by_cases he : pre.length = k
    · have hd : ((pre.length : Int) == (k : Int)) = true := by rw [he]; simp
      gi_wp2_with fail
      exact ⟨KeepsFrom.refl _ _, ⟨rfl, ⟨_, by rw [List.dropLast_concat]; exact ⟨p0, p1, r1, by rw [shs_len]; exact HO.out, hz2⟩⟩, by simp; omega⟩, hB⟩
    · have hd : ((pre.length : Int) == (k : Int)) = false := by simp; omega
      gi_wp2_with (gi_at_builtin; refine wpListIn_append_own_at _ rfl _ _ 62 rfl (w.heap.size + 2) 64 i0 _ 2 16 Try.underlying62 hi0 hi1 hi2 hi3 rfl (by omega) _ _ _ rfl (HO.out.alloc _) ⟨W.heap.size, 0, none⟩ 1 1 (List.map (Value.int .i64) (pcs t)) rfl rfl ?c1 ?c2 ?c3 ?c4 ?c5 ?_)
      case c1 => exact cells_new W _ _
      case c2 => intro u hu; simp [pcs] at hu; rcases hu with rfl | rfl <;> rfl
      case c3 => unfold maxLen; omega
      case c4 => omega
      case c5 => simp; omega
      intro v3 w3 hown3 hg3 _ _
      obtain ⟨A3, c3, rfl⟩ := own_slice hown3
      obtain ⟨Wa, eWa⟩ : ∃ Wa : World, Wa = W.alloc (.cells (List.map (Value.int .i64) (pcs t)).toArray 64) := ⟨_, rfl⟩
      have hga : Wa.grownBy w3 (Value.slice Av pre.length cv).ownBlock := by rw [eWa]; exact hg3
      have hkf : KeepsFrom W0.heap.size W w3 := keepsFrom_own eWa HO.out hga
      have hza : W.heap.size < Wa.heap.size := by rw [eWa]; simp
      have hba : Below W.heap.size W Wa := by rw [eWa]; exact (Below.refl _ _).alloc (Nat.le_refl _) _
      have hz3 := hga.size
      have q0 : w3.cell? ⟨w.heap.size, 0, none⟩ = some (.int .i64 k) := (hga.cell_far ⟨w.heap.size, 0, none⟩ (by show w.heap.size < _; omega) (fun e => by have h5 : w.heap.size + 2 ≤ w.heap.size := HNB.out _ e.symm; omega)).trans ((hba.cell (p := ⟨w.heap.size, 0, none⟩) (by show w.heap.size < _; omega)).trans p0)
      have q1 : w3.cell? ⟨w.heap.size + 1, 0, none⟩ = some (.slice Av pre.length cv) := (hga.cell_far ⟨w.heap.size + 1, 0, none⟩ (by show w.heap.size + 1 < _; omega) (fun e => by have h5 : w.heap.size + 2 ≤ w.heap.size + 1 := HNB.out _ e.symm; omega)).trans ((hba.cell (p := ⟨w.heap.size + 1, 0, none⟩) (by show w.heap.size + 1 < _; omega)).trans p1)
      have s1 : w3.frozen? ⟨w.heap.size + 1, 0, none⟩ = false := (hga.frozen_far ⟨w.heap.size + 1, 0, none⟩ (by show w.heap.size + 1 < _; omega) (fun e => by have h5 : w.heap.size + 2 ≤ w.heap.size + 1 := HNB.out _ e.symm; omega)).trans ((hba.frozen (p := ⟨w.heap.size + 1, 0, none⟩) (by show w.heap.size + 1 < _; omega)).trans r1)
      have hB3 : Below w.heap.size w w3 := (hB.trans (hba.mono hB.size)).grown hga (by omega) (fun g e => by have := HNB.out _ e; omega)
      have hkb : KB (fun b => b < w.heap.size) W w3 := KB_t (KB.of hba (fun b hb => by omega)) (KB.grown hga (fun b hb => ⟨by omega, fun e => by have := HNB.out _ e.symm; omega⟩))
      clear hg3 hga eWa p0 p1 r1
      have HO3 := Lib.hid hown3
      clear hown3
      gi_wp2_with fail
      have hk2 : KB (fun b => b < w.heap.size) w3 (w3.setCell ⟨w.heap.size + 1, 0, none⟩ (.slice A3 (pre.length + 1) c3)) := ⟨by simp [World.setCell], fun p hp => World.cell?_setCell_other _ _ _ _ (fun e => by rw [← e] at hp; have h5 : w.heap.size + 1 < w.heap.size := hp; omega)⟩
      have hs3 : w3.heap.size ≤ (w3.setCell ⟨w.heap.size + 1, 0, none⟩ (.slice A3 (pre.length + 1) c3)).heap.size := by simp [World.setCell]
      refine ⟨hkf.trans ((KeepsOthers.setCell _ _ _).from _), KB_t hkb hk2, ⟨⟨_, setOther q0 (by show w.heap.size + 1 ≠ w.heap.size; omega), World.cell?_setCell_same _ _ _ q1, by rw [World.frozen?_setCell]; exact s1, ?_, by omega⟩, by simp; omega, by omega⟩, hB3.setCell (p := ⟨w.heap.size + 1, 0, none⟩) (by show w.heap.size ≤ w.heap.size + 1; omega) _⟩
      rw [HS1.out, List.length_append, shs_len, List.flatMap_append, List.map_append]
      refine own_setCell ?_ (by show w.heap.size + 1 < _; omega)
      have := HO3.out
      simpa using this
  case done =>
    rintro D ys W hD rfl ⟨⟨⟨v, hFO⟩, hpk, hzz⟩, hB⟩ hK
    rw [upA_length (Nat.le_refl _)] at hpk
    obtain rfl : k = (kn l).length := by omega
    rw [shs_upA l _ (Nat.le_refl _)] at hFO
    obtain ⟨p0, p1, r1, hown, hz2⟩ := hFO
    have HO := Lib.hid hown
    clear hF0 cS hown
    gi_wp2_with fail
    refine ⟨by simp, .inl ⟨_, _, rfl, run_takeDeferred hK, ?_⟩⟩
    exact ⟨_, results_tmp rfl _ _ _, _, rfl, own_keptR HO.out (grownBy_putObj' W D (.deferred none)) (fun r e => by cases e; exact ⟨_, hK, rfl⟩), hB.trans (belowK_b (w := w) (Nat.le_refl _) W D _ _ (by omega) hK rfl rfl)⟩
  case stop =>
    rintro D c pre W hD ⟨m, hm, rfl⟩ ⟨⟨rfl, ⟨v, hFO⟩, hpk⟩, hB⟩ hK
    rw [upA_length hm] at hpk
    subst hpk
    rw [upA_succ (by omega), List.dropLast_concat, shs_upA l _ hkl] at hFO
    obtain ⟨p0, p1, r1, hown, hz2⟩ := hFO
    have HO := Lib.hid hown
    clear hF0 cS hown
    gi_wp2_with fail
    refine ⟨by simp, .inl ⟨_, _, rfl, run_takeDeferred hK, ?_⟩⟩
    exact ⟨_, results_tmp rfl _ _ _, _, rfl, own_keptR HO.out (grownBy_putObj' W D (.deferred none)) (fun r e => by cases e; exact ⟨_, hK, rfl⟩), hB.trans (belowK_b (w := w) (Nat.le_refl _) W D _ _ (by omega) hK rfl rfl)⟩
theorem first_any (l : List (Int × Bool)) (k : Nat) (v : Value) (w : World) (hk : 1 ≤ k) (hkl : k ≤ (kn l).length) (h : SCl w v l) (hz : l.length ≤ 1000000) :
    Calls Try.prog 54 #[v, .int .i64 k] w fun e w' => ∃ v', e = .returned v' ∧ w'.ownsRow (w.heap.size + 2) 64 2 v' ((kn l).take k).length ((((kn l).take k).flatMap pcs).map (Value.int .i64)) ∧ Below w.heap.size w w' :=
  callsIn_wide.1 (first_in l k v w hk hkl h hz)
end Go.Proofs.Ytbgabipngdillaa

namespace Go.Proofs.Ytbgabipngdillaa
open Go.RowKit Go.Shelf
attribute [local go_sem] Oper.semAt_some

def fiE (P : Int) (l : List (Int × Bool)) (k : Int) : Int := if ceE P l = 0 then (if k < 1 ∨ (l.length : Int) < k then 1 else if ((kn l).length : Int) < k then 11 else inE P ((kn l).take k.toNat)) else ceE P l
def fiP (P : Int) (l : List (Int × Bool)) (k : Int) : List Int := if ceE P l = 0 ∧ ¬ (k < 1 ∨ (l.length : Int) < k) ∧ ¬ ((kn l).length : Int) < k then inP P ((kn l).take k.toNat) else []
theorem fi_ce {P : Int} {l : List (Int × Bool)} {k : Int} (h : ceE P l ≠ 0) : fiE P l k = ceE P l ∧ fiP P l k = [] := ⟨if_neg h, if_neg fun e => h e.1⟩
theorem fi_rng {P : Int} {l : List (Int × Bool)} {k : Int} (h : ceE P l = 0) (h2 : k < 1 ∨ (l.length : Int) < k) : fiE P l k = 1 ∧ fiP P l k = [] := by
  refine ⟨?_, if_neg fun e => e.2.1 h2⟩
  unfold fiE
  rw [if_pos h, if_pos h2]
theorem fi_few {P : Int} {l : List (Int × Bool)} {k : Int} (h : ceE P l = 0) (h2 : ¬ (k < 1 ∨ (l.length : Int) < k)) (h3 : ((kn l).length : Int) < k) : fiE P l k = 11 ∧ fiP P l k = [] := by
  refine ⟨?_, if_neg fun e => e.2.2 h3⟩
  unfold fiE
  rw [if_pos h, if_neg h2, if_pos h3]
theorem fi_ok {P : Int} {l : List (Int × Bool)} {k : Int} (h : ceE P l = 0) (h2 : ¬ (k < 1 ∨ (l.length : Int) < k)) (h3 : ¬ ((kn l).length : Int) < k) : fiE P l k = inE P ((kn l).take k.toNat) ∧ fiP P l k = inP P ((kn l).take k.toNat) := by
  refine ⟨?_, if_pos ⟨h, h2, h3⟩⟩
  unfold fiE
  rw [if_pos h, if_neg h2, if_neg h3]
theorem kn_i64 {w : World} {v : Value} {l : List (Int × Bool)} (h : SCl w v l) (hz : l.length ≤ 1000000) : ∀ t ∈ kn l, i64r t.1 ∧ i64r t.2 := by
  have hz' := hz
  obtain ⟨A, c, rfl, _, _, hr, _⟩ := h
  intro t ht
  have h1 := kn_at ht
  refine ⟨by unfold i64r; omega, ?_⟩
  have key : ∀ (m : List (Int × Bool)) (i : Nat), (∀ x ∈ m, i64r x.1) → ∀ t ∈ knF i m, i64r t.2 := by
    intro m
    induction m with
    | nil => intro i _ t h; simp [knF] at h
    | cons c m ih =>
      intro i hm t h
      simp only [knF, List.mem_append] at h
      rcases h with h | h
      · split at h
        · simp at h; subst h; exact hm c (by simp)
        · simp at h
      · exact ih (i + 1) (fun x hx => hm x (by simp [hx])) t h
  exact key l 0 hr t ht

theorem fi_sg {w2 : World} {l : List (Int × Bool)} {m base : Nat} {e : TypeId} {v2 : Value} (hown2 : w2.ownsRow base e 2 v2 ((kn l).take m).length ((((kn l).take m).flatMap pcs).map (Value.int .i64))) (hr : ∀ t ∈ kn l, i64r t.1 ∧ i64r t.2) : SG pcs 2 w2.heap.size w2 v2 ((kn l).take m) :=
  SG.of_own hown2 (fun x hx y hy => by
    have hx2 := hr x (List.mem_of_mem_take hx)
    simp [pcs] at hy
    rcases hy with rfl | rfl
    · exact hx2.1
    · exact hx2.2) (fun _ _ => rfl)
set_option maxRecDepth 100000 in
set_option maxHeartbeats 4000000 in
theorem fill_any (P : Int) (l : List (Int × Bool)) (k : Int) (v : Value) (w : World) (hP : i64r P) (h : SCl w v l) (hz : l.length ≤ 1000000) :
    Calls Try.prog 31 #[.agg #[.int .i64 P], v, .int .i64 k] w fun e w' => ∃ v', e = .returned (.tuple #[v', .int .i64 (fiE P l k)]) ∧ w'.ownsRow w.heap.size 3 1 v' (fiP P l k).length ((fiP P l k).map (Value.int .i64)) ∧ Below w.heap.size w w' := by
  have HS := Lib.hid h
  obtain ⟨A, c, rfl⟩ := h.form
  clear h
  go_enter Try.func31, Try.ntmps31
  go_upto_region 1 with fail
  obtain ⟨w0, ew⟩ : ∃ w0 : World, w0 = w.alloc (.cells #[.int .i64 P] 26) := ⟨_, rfl⟩
  have hB0 : Below w.heap.size w w0 := by rw [ew]; exact (Below.refl _ _).alloc (Nat.le_refl _) _
  have hz0 : w.heap.size < w0.heap.size := by rw [ew]; simp
  have b0 : w0.cell? ⟨w.heap.size, 0, none⟩ = some (.int .i64 P) := by rw [ew]; simp [go_sem]
  rw [← ew]
  clear ew
  have HS0 := Lib.hid (HS.out.below hB0)
  go_wp2_with fail
  (with_reducible refine (cells_any P l _ _ hP HS0.out hz).mono ?_)
  rintro e w1 ⟨rfl, hb1⟩
  have hB1 := hB0.trans (hb1.mono hB0.size)
  have hz1 := hb1.size
  have c0 := (hb1.cell (p := ⟨w.heap.size, 0, none⟩) (by show w.heap.size < _; omega)).trans b0
  clear b0
  generalize ceP P l = cp
  by_cases h0 : ceE P l = 0
  · have hcn : ceN P l = (kn l).length := if_pos h0
    have H0 := Lib.hid h0
    rw [h0, hcn]
    clear h0 hcn
    by_cases h1 : k < 1 ∨ (l.length : Int) < k
    · have HE := Lib.hid (fi_rng H0.out h1)
      by_cases h3 : k < 1
      · have hd1 : decide (k < 1) = true := decide_eq_true h3
        go_wp2_with fail
        go_ret2
        exact ⟨.slice none 0 0, by rw [HE.out.1] <;> rfl, by rw [HE.out.2]; exact World.ownsRow_nil _ _ _ _, hB1⟩
      · have hd1 : decide (k < 1) = false := decide_eq_false h3
        have hd2 : decide ((l.length : Int) < k) = true := decide_eq_true (by omega)
        go_wp2_with fail
        go_ret2
        exact ⟨.slice none 0 0, by rw [HE.out.1] <;> rfl, by rw [HE.out.2]; exact World.ownsRow_nil _ _ _ _, hB1⟩
    · by_cases h2 : ((kn l).length : Int) < k
      · have HE := Lib.hid (fi_few H0.out h1 h2)
        have hd1 : decide (k < 1) = false := decide_eq_false (by omega)
        have hd2 : decide ((l.length : Int) < k) = false := decide_eq_false (by omega)
        have hd3 : decide (((kn l).length : Int) < k) = true := decide_eq_true h2
        go_wp2_with fail
        go_ret2
        exact ⟨.slice none 0 0, by rw [HE.out.1] <;> rfl, by rw [HE.out.2]; exact World.ownsRow_nil _ _ _ _, hB1⟩
      · have HE := Lib.hid (fi_ok H0.out h1 h2)
        have hd1 : decide (k < 1) = false := decide_eq_false (by omega)
        have hd2 : decide ((l.length : Int) < k) = false := decide_eq_false (by omega)
        have hd3 : decide (((kn l).length : Int) < k) = false := decide_eq_false h2
        obtain ⟨m, rfl⟩ : ∃ m : Nat, k = m := ⟨k.toNat, by omega⟩
        have hm1 : 1 ≤ m := by omega
        have hm2 : m ≤ (kn l).length := by omega
        have HR := Lib.hid (kn_i64 HS.out hz)
        have HS1 := Lib.hid (HS0.out.below hb1)
        have hkl : (kn l).length ≤ l.length := kn_len l 0
        rw [Int.toNat_natCast] at HE
        clear h1 h2
        go_wp2_with fail
        have hlt : ((kn l).take m).length ≤ 1000000 := by rw [List.length_take]; omega
        go_region_with (first
          | (go_at_call 54; refine (first_any l m _ _ hm1 hm2 (by exact HS1.out) hz).mono ?_; rintro e w2 ⟨v2, rfl, hown2, hb2⟩; have hB2 : Below w.heap.size w w2 := (by first | exact hB1.trans (hb2.mono hB1.size) | exact hB1.drew.trans (hb2.mono hB1.size) | exact hB1.drew.drew.trans (hb2.mono hB1.size)); have c2 : w2.cell? ⟨w.heap.size, 0, none⟩ = some (.int .i64 P) := (hb2.cell (p := ⟨w.heap.size, 0, none⟩) (by show w.heap.size < w1.heap.size; omega)).trans c0; have HG : Hid (SG pcs 2 w2.heap.size w2 v2 ((kn l).take m)) := fi_sg hown2 HR.out; clear hown2)
          | (go_at_call 53; refine (interp_any P _ v2 _ hP (by exact HG.out) hlt).mono ?_; rintro e w3 ⟨v3, rfl, hown3, hb3⟩; have HO3 := Lib.hid hown3; clear hown3))
        all_goals
          go_wp2_with fail
          go_ret2
          exact ⟨v3, by rw [HE.out.1] <;> rfl, by rw [HE.out.2]; exact own_lower HO3.out (by have h5 : w.heap.size ≤ w2.heap.size := hB2.size; exact h5), hB2.trans (hb3.mono hB2.size)⟩
  · have HE := Lib.hid (fi_ce (k := k) h0)
    have hb : (ceE P l != 0) = true := by rw [bne_iff_ne]; exact h0
    have H0 := Lib.hid h0
    clear h0
    go_wp2_with fail
    go_ret2
    exact ⟨.slice none 0 0, by rw [HE.out.1] <;> rfl, by rw [HE.out.2]; exact World.ownsRow_nil _ _ _ _, hB1⟩
end Go.Proofs.Ytbgabipngdillaa

namespace Go.Proofs.Ytbgabipngdillaa
open Go.RowKit Go.Shelf

theorem coefficient_any (l : List Int) (k : Nat) (v : Value) (w : World) (h : SI w v l) (hl : l.length ≤ 1000000) :
    Calls Try.prog 65 #[v, .int .i64 k] w fun e w' => e = .returned (.int .i64 (gd l k)) ∧ w = w' := by
  obtain ⟨A, c, rfl, hcc, hm, hr, ha⟩ := h
  have HA := Lib.hid ha
  clear hr ha
  go_enter Try.func65, Try.ntmps65
  by_cases hlt : k < l.length
  · obtain ⟨b, off, rfl, hb, hcell⟩ := HA.out (by omega)
    have hck := hcell k hlt
    clear hcell
    have hd1 : decide ((k : Int) < (l.length : Int)) = true := decide_eq_true (by omega)
    have hd2 : decide (k < l.length) = true := decide_eq_true hlt
    go_wp2_with fail
    go_ret
    exact ⟨by simp [gd, hlt], rfl⟩
  · have hd1 : decide ((k : Int) < (l.length : Int)) = false := decide_eq_false (by omega)
    have hd2 : decide (k < l.length) = false := decide_eq_false hlt
    go_wp2_with fail
    go_ret
    exact ⟨by simp [gd, hlt], rfl⟩
def cmpI (a b : List Int) : Nat → Nat → Int
  | 0, _ => 0
  | n + 1, i => if gd a i < gd b i then -1 else if gd b i < gd a i then 1 else cmpI a b n (i + 1)
def cmpV (a b : List Int) : Int := cmpI a b (max a.length b.length) 0
theorem compare_any (a b : List Int) (va vb : Value) (w : World) (ha : SI w va a) (hb : SI w vb b) (hla : a.length ≤ 1000000) (hlb : b.length ≤ 1000000) :
    Calls Try.prog 41 #[va, vb] w fun e w' => e = .returned (.int .i64 (cmpV a b)) ∧ w = w' := by
  have HSA := Lib.hid ha
  have HSB := Lib.hid hb
  obtain ⟨A, ca, rfl⟩ := ha.form
  obtain ⟨B, cb, rfl⟩ := hb.form
  clear ha hb
  go_enter Try.func41, Try.ntmps41
  go_wp2_with fail
  case inl =>
    have HN : Hid (cmpV a b = cmpI a b b.length 0) := by show _ = _; unfold cmpV; rw [show max a.length b.length = b.length by omega]
    go_loop [13] (fun i => ∃ k : Nat, k ≤ b.length ∧ i = .int .i64 k ∧ cmpV a b = cmpI a b (b.length - k) k) (fun i => b.length - (intOf i).toNat)
    case atStart => exact ⟨0, Nat.zero_le _, rfl, HN.out⟩
    case round =>
      obtain ⟨k, hk, rfl, hr⟩ := hrel
      have HR := Lib.hid hr
      clear hr
      by_cases hlt : k < b.length
      · have hd1 : decide ((k : Int) < (b.length : Int)) = true := decide_eq_true (by omega)
        have hd2 : decide (k < b.length) = true := decide_eq_true hlt
        have HC : Hid (cmpV a b = if gd a k < gd b k then -1 else if gd b k < gd a k then 1 else cmpI a b (b.length - (k + 1)) (k + 1)) := by
          show _ = _
          rw [HR.out, show b.length - k = b.length - (k + 1) + 1 by omega]
          rfl
        go_wp2_with fail
        (with_reducible refine (coefficient_any a k _ _ HSA.out hla).mono ?_)
        rintro e w' ⟨rfl, rfl⟩
        go_wp2_with fail
        (with_reducible refine (coefficient_any b k _ _ HSB.out hlb).mono ?_)
        rintro e w' ⟨rfl, rfl⟩
        generalize gd a k = x at HC ⊢
        generalize gd b k = y at HC ⊢
        by_cases h1 : x < y
        · have HV : Hid (cmpV a b = -1) := by show _ = _; rw [HC.out, if_pos h1]
          have hx : decide (x < y) = true := decide_eq_true h1
          go_wp2_with fail
          go_ret
          exact ⟨by rw [HV.out] <;> rfl, rfl⟩
        · have hx : decide (x < y) = false := decide_eq_false h1
          by_cases h2 : y < x
          · have HV : Hid (cmpV a b = 1) := by show _ = _; rw [HC.out, if_neg h1, if_pos h2]
            have hy : decide (y < x) = true := decide_eq_true h2
            go_wp2_with fail
            go_ret
            exact ⟨by rw [HV.out] <;> rfl, rfl⟩
          · have HV := HC.out
            rw [if_neg h1, if_neg h2] at HV
            have HV2 := Lib.hid HV
            have hy : decide (y < x) = false := decide_eq_false h2
            clear HV
            go_wp2_with fail
            go_round
            case rel => exact ⟨k + 1, by omega, by go_num, HV2.out⟩
            case measure => simp [intOf]; omega
      · have hkk : k = b.length := by omega
        have HF : Hid (cmpV a b = 0) := by show _ = _; rw [HR.out, hkk, Nat.sub_self]; rfl
        have hd1 : decide ((k : Int) < (b.length : Int)) = false := decide_eq_false (by omega)
        have hd2 : decide (k < b.length) = false := decide_eq_false hlt
        clear hkk
        go_wp2_with fail
        go_ret
        exact ⟨by rw [HF.out] <;> rfl, rfl⟩
  case inr =>
    have HN : Hid (cmpV a b = cmpI a b a.length 0) := by show _ = _; unfold cmpV; rw [show max a.length b.length = a.length by omega]
    go_loop [13] (fun i => ∃ k : Nat, k ≤ a.length ∧ i = .int .i64 k ∧ cmpV a b = cmpI a b (a.length - k) k) (fun i => a.length - (intOf i).toNat)
    case atStart => exact ⟨0, Nat.zero_le _, rfl, HN.out⟩
    case round =>
      obtain ⟨k, hk, rfl, hr⟩ := hrel
      have HR := Lib.hid hr
      clear hr
      by_cases hlt : k < a.length
      · have hd1 : decide ((k : Int) < (a.length : Int)) = true := decide_eq_true (by omega)
        have hd2 : decide (k < a.length) = true := decide_eq_true hlt
        have HC : Hid (cmpV a b = if gd a k < gd b k then -1 else if gd b k < gd a k then 1 else cmpI a b (a.length - (k + 1)) (k + 1)) := by
          show _ = _
          rw [HR.out, show a.length - k = a.length - (k + 1) + 1 by omega]
          rfl
        go_wp2_with fail
        (with_reducible refine (coefficient_any a k _ _ HSA.out hla).mono ?_)
        rintro e w' ⟨rfl, rfl⟩
        go_wp2_with fail
        (with_reducible refine (coefficient_any b k _ _ HSB.out hlb).mono ?_)
        rintro e w' ⟨rfl, rfl⟩
        generalize gd a k = x at HC ⊢
        generalize gd b k = y at HC ⊢
        by_cases h1 : x < y
        · have HV : Hid (cmpV a b = -1) := by show _ = _; rw [HC.out, if_pos h1]
          have hx : decide (x < y) = true := decide_eq_true h1
          go_wp2_with fail
          go_ret
          exact ⟨by rw [HV.out] <;> rfl, rfl⟩
        · have hx : decide (x < y) = false := decide_eq_false h1
          by_cases h2 : y < x
          · have HV : Hid (cmpV a b = 1) := by show _ = _; rw [HC.out, if_neg h1, if_pos h2]
            have hy : decide (y < x) = true := decide_eq_true h2
            go_wp2_with fail
            go_ret
            exact ⟨by rw [HV.out] <;> rfl, rfl⟩
          · have HV := HC.out
            rw [if_neg h1, if_neg h2] at HV
            have HV2 := Lib.hid HV
            have hy : decide (y < x) = false := decide_eq_false h2
            clear HV
            go_wp2_with fail
            go_round
            case rel => exact ⟨k + 1, by omega, by go_num, HV2.out⟩
            case measure => simp [intOf]; omega
      · have hkk : k = a.length := by omega
        have HF : Hid (cmpV a b = 0) := by show _ = _; rw [HR.out, hkk, Nat.sub_self]; rfl
        have hd1 : decide ((k : Int) < (a.length : Int)) = false := decide_eq_false (by omega)
        have hd2 : decide (k < a.length) = false := decide_eq_false hlt
        clear hkk
        go_wp2_with fail
        go_ret
        exact ⟨by rw [HF.out] <;> rfl, rfl⟩
theorem less_any (a b : List Int) (va vb : Value) (w : World) (ha : SI w va a) (hb : SI w vb b) (hla : a.length ≤ 1000000) (hlb : b.length ≤ 1000000) :
    Calls Try.prog 20 #[va, vb] w fun e w' => e = .returned (.bool (decide (cmpV a b < 0))) ∧ w = w' := by
  go_enter Try.func20, Try.ntmps20
  go_wp2_with fail
  (with_reducible refine (compare_any a b _ _ _ ha hb hla hlb).mono ?_)
  rintro e w' ⟨rfl, rfl⟩
  go_wp2_with fail
  go_ret
  exact ⟨rfl, rfl⟩
theorem order_any (a b : List Int) (va vb vs : Value) (w : World) (ha : SI w va a) (hb : SI w vb b) (hla : a.length ≤ 1000000) (hlb : b.length ≤ 1000000) :
    Calls Try.prog 57 #[vs, va, vb] w fun e w' => e = .returned (.int .i64 (cmpV a b)) ∧ w = w' := by
  go_enter Try.func57, Try.ntmps57
  go_wp2_with fail
  (with_reducible refine (compare_any a b _ _ _ ha hb hla hlb).mono ?_)
  rintro e w' ⟨rfl, rfl⟩
  go_wp2_with fail
  go_ret
  exact ⟨rfl, rfl⟩
theorem run1_any (a b : List Int) (va vb : Value) (w : World) (ha : SI w va a) (hb : SI w vb b) (hla : a.length ≤ 1000000) (hlb : b.length ≤ 1000000) :
    Calls Try.prog 59 #[va, vb] w fun e w' => e = .returned (.bool (cmpV a b == 0)) ∧ w = w' := by
  go_enter Try.func59, Try.ntmps59
  go_wp2_with fail
  (with_reducible refine (compare_any a b _ _ _ ha hb hla hlb).mono ?_)
  rintro e w' ⟨rfl, rfl⟩
  go_wp2_with fail
  go_ret
  exact ⟨rfl, rfl⟩
end Go.Proofs.Ytbgabipngdillaa

namespace Go.Proofs.Ytbgabipngdillaa
open Go.RowKit Go.Shelf

/-- all blocks but s and the one of the slice A stay -/
structure LMv (s : Nat) (A : Value) (w : World) (A' : Value) (w' : World) : Prop where
  os : w'.os = w.os
  tape : w'.tape = w.tape
  output : w'.output = w.output
  size : w.heap.size ≤ w'.heap.size
  block : ∀ k, k < w.heap.size → k ≠ s → A.ownBlock ≠ some k → w'.heap[k]? = w.heap[k]?
  own : ∀ g, A'.ownBlock = some g → A.ownBlock = some g ∨ w.heap.size ≤ g
theorem LMv.refl (s : Nat) (A : Value) (w : World) : LMv s A w A w := ⟨rfl, rfl, rfl, Nat.le_refl _, fun _ _ _ _ => rfl, fun _ h => .inl h⟩
theorem LMv.trans {s : Nat} {A B C : Value} {w w' w'' : World} (h : LMv s A w B w') (k : LMv s B w' C w'') : LMv s A w C w'' := by
  refine ⟨k.os.trans h.os, k.tape.trans h.tape, k.output.trans h.output, Nat.le_trans h.size k.size, fun i hi hs hA => ?_, fun g hg => ?_⟩
  · refine (k.block i (Nat.lt_of_lt_of_le hi h.size) hs fun e => ?_).trans (h.block i hi hs hA)
    rcases h.own i e with e | e
    · exact hA e
    · omega
  · rcases k.own g hg with e | e
    · exact h.own g e
    · have := h.size; exact .inr (by omega)
theorem LMv.below {s : Nat} {A A' : Value} {w w' : World} (h : LMv s A w A' w') (hA : ∀ g, A.ownBlock = some g → s < g) {B : Nat} (hB : B ≤ s) (hs : s ≤ w.heap.size) : Below B w w' :=
  ⟨h.os, h.tape, h.output, h.size, fun k hk => h.block k (by omega) (by omega) fun e => by have := hA k e; omega⟩
theorem LMv.of_below {s : Nat} {A : Value} {w w' : World} (h : Below w.heap.size w w') : LMv s A w A w' :=
  ⟨h.os, h.tape, h.output, h.size, fun k hk _ _ => h.block k hk, fun _ h => .inl h⟩

/-- A slice of ints in blocks behind s, none of which is A's own. -/
def SA (s : Nat) (A : Value) (w : World) (v : Value) (l : List Int) : Prop :=
  ∃ P c, v = .slice P l.length c ∧ l.length ≤ c ∧ c ≤ 9223372036854775807 ∧ (∀ x ∈ l, i64r x) ∧
    (0 < l.length → ∃ b off, P = some ⟨b, off, none⟩ ∧ s < b ∧ b < w.heap.size ∧ A.ownBlock ≠ some b ∧ ∀ j (h : j < l.length), w.cell? ⟨b, off + j, none⟩ = some (.int .i64 l[j]))
theorem SA.si {s : Nat} {A : Value} {w : World} {v : Value} {l : List Int} (h : SA s A w v l) : SI w v l := by
  obtain ⟨P, c, rfl, hc, hm, hr, ha⟩ := h
  refine ⟨P, c, rfl, hc, hm, hr, fun h0 => ?_⟩
  obtain ⟨b, off, rfl, _, hb, _, hcell⟩ := ha h0
  exact ⟨b, off, rfl, hb, hcell⟩
theorem SA.keep {s : Nat} {A A' : Value} {w w' : World} {v : Value} {l : List Int} (h : SA s A w v l) (hm : LMv s A w A' w') : SA s A' w' v l := by
  obtain ⟨P, c, rfl, hc, hmx, hr, ha⟩ := h
  refine ⟨P, c, rfl, hc, hmx, hr, fun h0 => ?_⟩
  obtain ⟨b, off, rfl, hsb, hb, hA, hcell⟩ := ha h0
  refine ⟨b, off, rfl, hsb, Nat.lt_of_lt_of_le hb hm.size, fun e => ?_, fun j hj => (World.cell?_of_block (hm.block b hb (by omega) hA)).trans (hcell j hj)⟩
  rcases hm.own b e with e | e
  · exact hA e
  · omega
/-- a new row of the call's own -/
theorem SA.of_own {s : Nat} {A : Value} {w : World} {base : Nat} {e : TypeId} {v : Value} {l : List Int} (h : w.ownsRow base e 1 v l.length (l.map (Value.int .i64))) (hr : ∀ x ∈ l, i64r x) (hs : s < base) (hA : ∀ g, A.ownBlock = some g → g < base) : SA s A w v l := by
  rcases h.2 with ⟨rfl, hn⟩ | ⟨g, cap, cur, rfl, hb, hg, hnc, hcm, hcs, htake⟩
  · have : l = [] := List.eq_nil_of_length_eq_zero hn
    subst this
    exact ⟨none, 0, rfl, Nat.le_refl _, by omega, hr, fun h => by simp at h⟩
  · refine ⟨_, cap, rfl, hnc, by simpa [maxLen] using hcm, hr, fun h0 => ⟨g, 0, rfl, by omega, (Array.getElem?_eq_some_iff.1 hg).1, fun e => by have := hA g e; omega, fun j hj => ?_⟩⟩
    have := h.cellAt j (by omega)
    rw [Nat.zero_add, this]
    simp [hj]

/-- The state of a search at s: what was found so far, and the most places. -/
structure LSt (s : Nat) (P : Int) (vl : Value) (k ag : Int) (w : World) (A : Value) (ps : List (List Int)) (most : Int) : Prop where
  cells : w.heap[s]? = some (.cells #[.int .i64 P, vl, .int .i64 k, .int .i64 ag, A, .int .i64 most] 101 (0, 0))
  own : ∃ vs, w.ownsRow (s + 1) 22 1 A ps.length vs ∧ ∀ j (h : j < vs.length) (h2 : j < ps.length), SA s A w vs[j] ps[j]
theorem LSt.lt {s : Nat} {P : Int} {vl : Value} {k ag : Int} {w : World} {A : Value} {ps : List (List Int)} {most : Int} (h : LSt s P vl k ag w A ps most) : s < w.heap.size ∧ ∀ g, A.ownBlock = some g → s < g ∧ g < w.heap.size := by
  refine ⟨heap_of_cells h.cells, fun g hg => ?_⟩
  obtain ⟨vs, ho, _⟩ := h.own
  have := ho.lt g hg
  omega
/-- new memory alone -/
theorem LSt.below {s : Nat} {P : Int} {vl : Value} {k ag : Int} {w w' : World} {A : Value} {ps : List (List Int)} {most : Int} (h : LSt s P vl k ag w A ps most) (hb : Below w.heap.size w w') : LSt s P vl k ag w' A ps most := by
  refine ⟨(hb.block s h.lt.1).trans h.cells, ?_⟩
  obtain ⟨vs, ho, hv⟩ := h.own
  refine ⟨vs, ⟨ho.1, ?_⟩, fun j h1 h2 => (hv j h1 h2).keep (LMv.of_below hb)⟩
  rcases ho.2 with h0 | ⟨g, cap, cur, rfl, hbg, hg, hnc, hcm, hcs, htake⟩
  · exact .inl h0
  · exact .inr ⟨g, cap, cur, rfl, hbg, (hb.block g (heap_of_cells hg)).trans hg, hnc, hcm, hcs, htake⟩
theorem own_setCell' {w : World} {base e size n : Nat} {v u : Value} {xs : List Value} {p : Addr} (h : w.ownsRow base e size v n xs) (hp : p.block < base) : (w.setCell p u).ownsRow base e size v n xs := by
  refine ⟨h.1, ?_⟩
  rcases h.2 with hn | ⟨g, cap, cur, rfl, hb, hgg, rest⟩
  · exact .inl hn
  · exact .inr ⟨g, cap, cur, rfl, hb, (heap_setCell_other w p g u (by omega)).trans hgg, rest⟩
theorem LMv.setCell (s : Nat) (A A' : Value) (w : World) (i : Nat) (u : Value) (hA : ∀ g, A'.ownBlock = some g → A.ownBlock = some g ∨ w.heap.size ≤ g) : LMv s A w A' (w.setCell ⟨s, i, none⟩ u) :=
  ⟨rfl, rfl, rfl, by simp [World.setCell], fun k _ hs _ => heap_setCell_other w ⟨s, i, none⟩ k u hs, hA⟩
/-- the most places, laid anew -/
theorem LSt.setMost {s : Nat} {P : Int} {vl : Value} {k ag : Int} {w : World} {A : Value} {ps : List (List Int)} {most : Int} (h : LSt s P vl k ag w A ps most) (m : Int) :
    LSt s P vl k ag (w.setCell ⟨s, 5, none⟩ (.int .i64 m)) A ps m ∧ LMv s A w A (w.setCell ⟨s, 5, none⟩ (.int .i64 m)) := by
  have hm := LMv.setCell s A A w 5 (.int .i64 m) (fun g hg => .inl hg)
  refine ⟨⟨?_, ?_⟩, hm⟩
  · have := heap_setCell_same w s 5 _ _ (.int .i64 m) h.cells
    simpa using this
  · obtain ⟨vs, ho, hv⟩ := h.own
    exact ⟨vs, own_setCell' ho (by show s < s + 1; omega), fun j h1 h2 => (hv j h1 h2).keep hm⟩
/-- one more was found -/
theorem LSt.push {s : Nat} {P : Int} {vl : Value} {k ag : Int} {w : World} {A : Value} {ps : List (List Int)} {most : Int} (h : LSt s P vl k ag w A ps most) {vs : List Value} (hv : ∀ j (h : j < vs.length) (h2 : j < ps.length), SA s A w vs[j] ps[j])
    (hvl : vs.length = ps.length) {v : Value} {p : List Int} (hp : SA s A w v p) {w3 : World} {A' : Value} (h3 : w3.ownsRow (s + 1) 22 1 A' (ps.length + 1) (vs ++ [v])) (hg : w.grownBy w3 A.ownBlock)
    (hat : ∀ g, A'.ownBlock = some g → A.ownBlock = some g ∨ w.heap.size ≤ g) :
    LSt s P vl k ag (w3.setCell ⟨s, 4, none⟩ A') A' (ps ++ [p]) most ∧ LMv s A w A' (w3.setCell ⟨s, 4, none⟩ A') := by
  have hlt := h.lt
  have hAs : A.ownBlock ≠ some s := fun e => by have := hlt.2 s e; omega
  have hm1 : LMv s A w A' w3 := ⟨hg.os, hg.tape, hg.output, hg.size, fun k hk _ hA => hg.block k hk fun e => hA e.symm, hat⟩
  have hm2 := LMv.setCell s A' A' w3 4 A' (fun g hg => .inl hg)
  have hm := hm1.trans hm2
  refine ⟨⟨?_, vs ++ [v], ?_, ?_⟩, hm⟩
  · have hc : w3.heap[s]? = some (.cells #[.int .i64 P, vl, .int .i64 k, .int .i64 ag, A, .int .i64 most] 101 (0, 0)) := (hg.block s hlt.1 fun e => hAs e.symm).trans h.cells
    have := heap_setCell_same w3 s 4 _ _ A' hc
    simpa using this
  · have := own_setCell' (u := A') (p := ⟨s, 4, none⟩) h3 (by show s < s + 1; omega)
    simpa using this
  · intro j h1 h2
    by_cases hj : j < ps.length
    · have h5 := (hv j (by omega) hj).keep hm
      rw [List.getElem_append_left (by omega), List.getElem_append_left hj]
      exact h5
    · have hjj : j = ps.length := by simp at h2; omega
      subst hjj
      have h5 := hp.keep hm
      rw [List.getElem_append_right (by omega), List.getElem_append_right (by omega)]
      simpa [hvl] using h5
/-- what look does -/
def lookS (P : Int) (l : List (Int × Bool)) (ag : Int) (st : List (List Int) × Int) (ch : List (Int × Int)) : List (List Int) × Int :=
  if inE P ch = 0 then (if ag ≤ agN P l (inP P ch) then st.1 ++ [inP P ch] else st.1, if st.2 < agN P l (inP P ch) then agN P l (inP P ch) else st.2) else st
end Go.Proofs.Ytbgabipngdillaa

namespace Go.Proofs.Ytbgabipngdillaa
open Go.RowKit Go.Shelf

theorem inE_opE {P : Int} {l : List (Int × Int)} (h : inE P l = 0) : opE P [shX l, shY l] = 0 := by
  unfold inE at h
  by_cases h2 : opE P [shX l, shY l] = 0
  · exact h2
  · rw [if_neg h2] at h
    exact absurd h h2
theorem opE_pr {P : Int} {ls : List (List Int)} (h : opE P ls = 0) : prB P = true := by
  unfold opE at h
  by_cases h1 : prB P = false
  · rw [if_pos h1] at h; omega
  · simpa using h1
theorem inP_els {P : Int} {l : List (Int × Int)} (h : inE P l = 0) : prB P = true ∧ els P (inP P l) = true := by
  have hp := opE_pr (inE_opE h)
  refine ⟨hp, ?_⟩
  unfold inP
  rw [if_pos h]
  exact trim_els (newt_els (prB_bd hp).1 l).1
theorem inP_r {P : Int} {l : List (Int × Int)} : ∀ x ∈ inP P l, i64r x := by
  by_cases h : inE P l = 0
  · have h2 := inP_els h
    exact els_r (prB_bd h2.1).2 h2.2
  · unfold inP
    rw [if_neg h]
    intro x hx
    cases hx
theorem ilinfo : (Try.prog.info? 22).map (fun i => (i.zero, i.size, i.bytes)) = some (some (.slice none 0 0), 1, 24) := by kernel_rfl
/-- the search's own block behind an append to what was found -/
theorem heap5 {s : Nat} {P : Int} {vl : Value} {k ag : Int} {w w' : World} {A : Value} {ps : List (List Int)} {most : Int} {o : Obj} (h : LSt s P vl k ag w A ps most) (hg : (w.alloc o).grownBy w' A.ownBlock) : w'.heap[s]? = w.heap[s]? :=
  (hg.block s (by have := h.lt.1; simp; omega) (fun e => by have := h.lt.2 s e.symm; omega)).trans (Below.heap_alloc _ _ _ h.lt.1)
set_option maxRecDepth 100000 in
set_option maxHeartbeats 4000000 in
theorem look_any (P : Int) (l : List (Int × Bool)) (ch : List (Int × Int)) (k ag : Int) (s : Nat) (vl vc A : Value) (ps : List (List Int)) (most : Int) (w0 w : World) (hP : i64r P) (hl : SCl w0 vl l) (hb0 : Below w0.heap.size w0 w) (hz : l.length ≤ 1000000)
    (hst : LSt s P vl k ag w A ps most) (hc : SG pcs 2 w.heap.size w vc ch) (hcz : ch.length ≤ 1000000) (hps : ps.length ≤ 1000000) :
    Calls Try.prog 79 #[.pointer (some ⟨s, 0, none⟩), vc] w fun e w' => e = .returned (.tuple #[]) ∧ ∃ A', LSt s P vl k ag w' A' (lookS P l ag (ps, most) ch).1 (lookS P l ag (ps, most) ch).2 ∧ LMv s A w A' w' := by
  obtain ⟨i0, hi0, hi1, hi2, hi3⟩ := info_parts ilinfo
  have HL := Lib.hid (hl.below hb0)
  have HC := Lib.hid hc
  have HT := Lib.hid hst
  have hs := hst.cells
  have hsl : s < w.heap.size := heap_of_cells hs
  have c0 : w.cell? ⟨s, 0, none⟩ = some (.int .i64 P) := cell_of_row w s 0 _ _ _ hs
  clear hl hc hs hst hb0
  go_enter Try.func79, Try.ntmps79
  go_wp2_with fail
  (with_reducible refine (interp_any P ch vc _ hP HC.out hcz).mono ?_)
  rintro e w1 ⟨v1, rfl, hown1, hb1⟩
  obtain ⟨A1, k1, rfl⟩ := own_slice hown1
  have HO1 := Lib.hid hown1
  have hz1 := hb1.size
  have HT1 : Hid (LSt s P vl k ag w1 A ps most) := HT.out.below hb1
  clear hown1 c0
  by_cases h0 : inE P ch = 0
  · have H0 := Lib.hid h0
    rw [h0]
    clear h0
    have HSI : Hid (SI w1 (.slice A1 (inP P ch).length k1) (inP P ch)) := SI.of_own HO1.out inP_r
    have HL1 := Lib.hid (HL.out.below hb1)
    have hsl1 : s < w1.heap.size := by omega
    have d0 : w1.cell? ⟨s, 0, none⟩ = some (.int .i64 P) := cell_of_row w1 s 0 _ _ _ HT1.out.cells
    have d1 : w1.cell? ⟨s, 1, none⟩ = some vl := cell_of_row w1 s 1 _ _ _ HT1.out.cells
    go_wp2_with fail
    go_region_held3 (fun w' => w'.cell? ⟨s, 0, none⟩ = some (.int .i64 P) ∧ w'.cell? ⟨s, 1, none⟩ = some vl) (first | exact ⟨d0, d1⟩ | exact ⟨t0, t1⟩ | go_keep)
      (first | (go_at_call 44; refine (agree_any P l (inP P ch) _ _ _ hP (by exact HL1.out) hz (by exact HSI.out)).mono ?_; rintro e w2 ⟨rfl, hb2⟩; have t0 := (hb2.cell (p := ⟨s, 0, none⟩) (by exact hsl1)).trans d0; have t1 := (hb2.cell (p := ⟨s, 1, none⟩) (by exact hsl1)).trans d1))
    clear t0 t1 d0 d1
    have hb2' : Below w1.heap.size w1 w2 := ⟨hb2.os, hb2.tape, hb2.output, hb2.size, hb2.block⟩
    have HT2 : Hid (LSt s P vl k ag w2 A ps most) := HT1.out.below hb2'
    have hz2 : w1.heap.size ≤ w2.heap.size := hb2.size
    have q3 : w2.cell? ⟨s, 3, none⟩ = some (.int .i64 ag) := cell_of_row w2 s 3 _ _ _ HT2.out.cells
    have q4 : w2.cell? ⟨s, 4, none⟩ = some A := cell_of_row w2 s 4 _ _ _ HT2.out.cells
    have q5 : w2.cell? ⟨s, 5, none⟩ = some (.int .i64 most) := cell_of_row w2 s 5 _ _ _ HT2.out.cells
    have r4 : w2.frozen? ⟨s, 4, none⟩ = false := frozen_of_row w2 s 4 _ _ HT2.out.cells
    have r5 : w2.frozen? ⟨s, 5, none⟩ = false := frozen_of_row w2 s 5 _ _ HT2.out.cells
    have hHn : ∃ n, agN P l (inP P ch) = n := ⟨_, rfl⟩
    obtain ⟨n, hn⟩ := hHn
    have HN := Lib.hid hn
    rw [hn]
    clear hn
    generalize agE P l (inP P ch) = e2
    have HB2 := Lib.hid hb2'
    clear hb2 hb2'
    have hHm : ∃ m, (if most < n then n else most) = m := ⟨_, rfl⟩
    obtain ⟨m, hm⟩ := hHm
    have HM := Lib.hid hm
    clear hm
    have HK : Hid ((lookS P l ag (ps, most) ch).1 = (if ag ≤ n then ps ++ [inP P ch] else ps) ∧ (lookS P l ag (ps, most) ch).2 = m) := by
      show _ ∧ _
      unfold lookS
      rw [if_pos H0.out]
      simp only [HN.out]
      exact ⟨trivial, HM.out⟩
    clear q4 r4
    have HQ : Hid (LMv s A w A w2) := (LMv.of_below hb1).trans (LMv.of_below HB2.out)
    by_cases hlt : most < n
    case' pos => have hmm : n = m := by (have := HM.out; rw [if_pos hlt] at this; exact this)
    case' neg => have hmm : most = m := by (have := HM.out; rw [if_neg hlt] at this; exact this)
    case' pos => go_upto_region 4 with fail
    case' neg => go_upto_region 4 with fail
    all_goals
      obtain ⟨w4, ew, hT4, hM4⟩ : ∃ w4 : World, w4 = (w2.setCell ⟨s, 5, none⟩ (.int .i64 m)) ∧ LSt s P vl k ag w4 A ps m ∧ LMv s A w2 A w4 := ⟨_, rfl, (HT2.out.setMost m).1, (HT2.out.setMost m).2⟩
      rw [← ew]
      clear ew hmm q3 q5 r5
      have HT4 := Lib.hid hT4
      have HM4 := Lib.hid hM4
      have q3 : w4.cell? ⟨s, 3, none⟩ = some (.int .i64 ag) := cell_of_row w4 s 3 _ _ _ HT4.out.cells
      have q4 : w4.cell? ⟨s, 4, none⟩ = some A := cell_of_row w4 s 4 _ _ _ HT4.out.cells
      have r4 : w4.frozen? ⟨s, 4, none⟩ = false := frozen_of_row w4 s 4 _ _ HT4.out.cells
      clear hT4 hM4
      by_cases hag : ag ≤ n
      case' pos =>
        have ha2 : decide (ag ≤ n) = true := decide_eq_true hag
        have HK2 := HK.out
        rw [if_pos hag] at HK2
        have HK3 := Lib.hid HK2
        clear HK2
        obtain ⟨vs, ho, hv⟩ := HT4.out.own
        obtain ⟨Af, kf, rfl⟩ := own_slice ho
        have hvl : vs.length = ps.length := by rw [ho.1, Nat.mul_one]
        have HO := Lib.hid ho
        have HV := Lib.hid hv
        have HVL := Lib.hid hvl
        have HSA : Hid (SA s (.slice Af ps.length kf) w4 (.slice A1 (inP P ch).length k1) (inP P ch)) := by
          refine (SA.of_own HO1.out inP_r hsl (fun g hg => (HT1.out.lt.2 g hg) |>.2 |> fun h => ?_)).keep ((LMv.of_below HB2.out).trans HM4.out)
          exact (HT.out.lt.2 g hg).2
        clear ho hv hvl
        have hbas : s + 1 ≤ w4.heap.size := by have := HT4.out.lt.1; omega
        go_upto_region 5 with fail
        go_wp2_with (at_builtin; refine wpList_append_own_at _ rfl _ _ 34 rfl (s + 1) 22 i0 _ 1 24 Try.underlying34 hi0 hi1 hi2 hi3 rfl (by omega) _ _ _ rfl (HO.out.alloc _) ⟨w4.heap.size, 0, none⟩ 1 1 [.slice A1 (inP P ch).length k1] rfl rfl (cells_new w4 _ _) (by intro u hu; simp at hu; subst hu; rfl) (by unfold maxLen; omega) (by omega) (by simp; omega) ?_; intro v' w5 hown5 hgrow5 _ hat5; have HG5 := Lib.hid hgrow5; have HO5 := Lib.hid hown5; have HA5 := Lib.hid hat5; obtain ⟨A5, k5, rfl⟩ := own_slice hown5; have q4' : w5.cell? ⟨s, 4, none⟩ = some (.slice Af ps.length kf) := (World.cell?_of_block (heap5 HT4.out HG5.out)).trans q4; have r4' : w5.frozen? ⟨s, 4, none⟩ = false := (World.frozen?_of_block (heap5 HT4.out HG5.out)).trans r4; clear hgrow5 hown5 hat5)
        go_end0
        rw [HK3.out.1, HK3.out.2]
        have hps := HT4.out.push HV.out HVL.out HSA.out HO5.out (grownBy_trans (World.grownBy_alloc w4 _ _) HG5.out) (fun g hg => by
          rcases HA5.out with e | e
          · exact .inl (e.symm.trans hg)
          · rw [hg] at e
            injection e with e
            subst e
            exact .inr (by simp))
        exact ⟨rfl, _, hps.1, (HQ.out.trans HM4.out).trans hps.2⟩
      case' neg =>
        have ha2 : decide (ag ≤ n) = false := decide_eq_false hag
        have HK2 := HK.out
        rw [if_neg (by omega)] at HK2
        have HK3 := Lib.hid HK2
        clear HK2
        go_wp2_with fail
        go_end0
        rw [HK3.out.1, HK3.out.2]
        exact ⟨rfl, A, HT4.out, HQ.out.trans HM4.out⟩
  · have hb : (inE P ch != 0) = true := by rw [bne_iff_ne]; exact h0
    have HK : Hid (lookS P l ag (ps, most) ch = (ps, most)) := by show _ = _; unfold lookS; rw [if_neg h0]
    go_wp2_with fail
    refine bodyPost_ret (v := .tuple #[]) (by simp [results, Try.results79, go_sem]) rfl ?_
    rw [HK.out]
    exact ⟨rfl, A, HT1.out, LMv.of_below hb1⟩
end Go.Proofs.Ytbgabipngdillaa

namespace Go.Proofs.Ytbgabipngdillaa
open Go.RowKit Go.Shelf

section
variable {P : Program}
/-- append of one element to a full slice, or to nil: a new block -/
theorem run_append_full (w : World) (t ty e : TypeId) (i : TypeInfo) (z : Value) (size bytes : Nat) (ht : P.underlying t = some (.slice e)) (hi : P.info? e = some i) (hz : i.zero = some z)
    (hsize : i.size = size) (hby : i.bytes = bytes) (hzs : z.cells.size = size) (A : Option Addr) (n c : Nat) (olds : List Value) (hl : olds.length = n * size) (hA0 : n = 0 → A = none ∧ c = 0)
    (hA : 0 < n → c = n ∧ ∃ b off, A = some ⟨b, off, none⟩ ∧ ∀ j u, olds[j]? = some u → w.cell? ⟨b, off + j, none⟩ = some u)
    (ad : Addr) (m cc : Nat) (news : List Value) (hnl : news.length = m * size) (hnews : ∀ j u, news[j]? = some u → w.cell? (ad.add j) = some u) (hm : 0 < m) (hbytes : (n + m) * bytes ≤ 140737488355328) (h63 : n + m ≤ maxLen) :
    ∃ cap w', (Builtin.append_ #[t, t] ty #[.slice A n c, .slice (some ad) m cc]).run P w = .ok (.slice (some ⟨w.heap.size, 0, none⟩) (n + m) cap) w' ∧ w'.ownsRow w.heap.size e size (.slice (some ⟨w.heap.size, 0, none⟩) (n + m) cap) (n + m) (olds ++ news) ∧ Below w.heap.size w w' := by
  subst hsize
  subst hby
  have hlen : (olds ++ news).length = (n + m) * i.size := by rw [List.length_append, hl, hnl, Nat.add_mul]
  have hbel : ∀ o : Obj, Below w.heap.size w (w.drew.alloc o) := fun o => (Below.refl _ w).drew.alloc (Nat.le_refl _) o
  have hm63 : n + m ≤ 9223372036854775807 := by simp only [maxLen] at h63; omega
  have grown : ∀ (old : Nat) , (w.drew.alloc (.cells (olds.toArray ++ news.toArray ++ Builtin.zeroCells z.cells (grownCap w (n + m) old e - (n + m))) e)).ownsRow w.heap.size e i.size
        (.slice (some ⟨w.heap.size, 0, none⟩) (n + m) (grownCap w (n + m) old e)) (n + m) (olds ++ news) := by
    intro old
    have hge := grownCap_ge w (n + m) old e
    have hcm : grownCap w (n + m) old e ≤ maxLen := grownCap_le_maxLen w (n + m) old e h63
    refine ⟨hlen, .inr ⟨w.heap.size, _, _, rfl, Nat.le_refl _, heap_alloc_new w.drew _, hge, hcm, ?_, ?_⟩⟩
    · simp only [Array.size_append, List.size_toArray, size_zeroCells, hzs, hl, hnl, ← Nat.add_mul]
      congr 1
      omega
    · simp only [Array.toList_append, List.append_assoc]
      rw [← List.append_assoc, ← hlen]
      exact List.take_left
  rcases Nat.eq_zero_or_pos n with h0 | h0
  · subst h0
    obtain ⟨rfl, rfl⟩ := hA0 rfl
    have : olds = [] := List.eq_nil_of_length_eq_zero (by simpa using hl)
    subst this
    have hr := run_append_nil (P := P) w t ty e i z ht hi hz ad m cc news hnl hnews hm (by omega) (by have hb := hbytes; simp only [Nat.zero_add] at hb; omega)
    have hgr := grown 0
    simp only [Nat.zero_add, List.nil_append, Array.empty_append] at hgr ⊢
    exact ⟨_, _, hr, hgr, hbel _⟩
  · obtain ⟨rfl, b, off, rfl, hc⟩ := hA h0
    have hr := run_append_grow (P := P) w t ty e i z ht hi hz ⟨b, off, none⟩ c c olds hl (fun j u hu => by
      have : (⟨b, off, none⟩ : Addr).add j = ⟨b, off + j, none⟩ := by unfold Addr.add; split <;> simp_all
      rw [this]; exact hc j u hu) ad m cc news hnl hnews (by omega) (by omega) (growslice_fits (by omega) hbytes)
    exact ⟨_, _, hr, grown c, hbel _⟩

theorem step_append_full {w : World} {ops : Array Oper} {o : Oper} {a : Act} {K : Act → World → Prop} {Q : Exit → Act → World → Prop} {E : Prop} (hgd : o.guard = none) (s x : Operand) (t : TypeId)
    (ho : o.op = .call { callee := .builtin .append, args := #[s, x], argTypes := #[t, t] })
    (e : TypeId) (size bytes : Nat) (zv : Value) (ht : P.underlying t = some (.slice e)) (hinfo : (P.info? e).map (fun i => (i.zero, i.size, i.bytes)) = some (some zv, size, bytes)) (hzs : zv.cells.size = size)
    (A : Option Addr) (n c : Nat) (hs : a.eval s = .slice A n c) (olds : List Value) (hl : olds.length = n * size) (hA0 : n = 0 → A = none ∧ c = 0)
    (hA : 0 < n → c = n ∧ ∃ b off, A = some ⟨b, off, none⟩ ∧ ∀ j u, olds[j]? = some u → w.cell? ⟨b, off + j, none⟩ = some u)
    (ad : Addr) (m cc : Nat) (hx : a.eval x = .slice (some ad) m cc) (news : List Value) (hnl : news.length = m * size) (hnews : ∀ j u, news[j]? = some u → w.cell? (ad.add j) = some u) (hm : 0 < m) (hbytes : (n + m) * bytes ≤ 140737488355328) (h63 : n + m ≤ maxLen)
    (h : ∀ cap w', w'.ownsRow w.heap.size e size (.slice (some ⟨w.heap.size, 0, none⟩) (n + m) cap) (n + m) (olds ++ news) → Below w.heap.size w w' → K (a.put o.dst (.slice (some ⟨w.heap.size, 0, none⟩) (n + m) cap)) w') :
    if Region.wanted o (yielded ops a.tmps) = true then Oper.wp P o a w K Q else E := by
  obtain ⟨i0, hi0, hi1, hi2, hi3⟩ := info_parts hinfo
  have hw : Region.wanted o (yielded ops a.tmps) = true := by simp [Region.wanted, hgd]
  rw [if_pos hw]
  obtain ⟨cap, w', hrun, h2, h3⟩ := run_append_full (P := P) w t o.type e i0 zv size bytes ht hi0 hi1 hi2 hi3 hzs A n c olds hl hA0 hA ad m cc news hnl hnews hm hbytes h63
  unfold Oper.wp execOp
  simp only [ho, resolve, invoke, builtin, Sem.run_bind, Sem.run_pure, Result.andThen_ok, List.map_toArray, List.map_cons, List.map_nil, hs, hx, hrun]
  exact h cap w' h2 h3
end

/-- all choices of k known cells that begin with ch, out of the last m cells -/
def chs (l : List (Int × Bool)) (k : Nat) : Nat → List (Int × Int) → List (List (Int × Int))
  | 0, ch => if ch.length = k then [ch] else []
  | m + 1, ch => if ch.length = k then [ch] else (if (l.getD (l.length - (m + 1)) (0, false)).2 = true then chs l k m (ch ++ [(((l.length - (m + 1) : Nat) : Int) + 1, (l.getD (l.length - (m + 1)) (0, false)).1)]) else []) ++ chs l k m ch
theorem chs_len (l : List (Int × Bool)) (k : Nat) : ∀ m ch, (chs l k m ch).length ≤ 2 ^ m := by
  intro m
  induction m with
  | zero => intro ch; unfold chs; split <;> simp
  | succ m ih =>
    intro ch
    unfold chs
    have hp : 1 ≤ 2 ^ m := Nat.one_le_two_pow
    split
    · simp; omega
    · have h2 := ih ch
      have h1 := ih (ch ++ [(((l.length - (m + 1) : Nat) : Int) + 1, (l.getD (l.length - (m + 1)) (0, false)).1)])
      rw [List.length_append, Nat.pow_succ]
      split
      · omega
      · simp; omega
theorem look_len (P : Int) (l : List (Int × Bool)) (ag : Int) (cs : List (List (Int × Int))) : ∀ st, (cs.foldl (lookS P l ag) st).1.length ≤ st.1.length + cs.length := by
  induction cs with
  | nil => intro st; simp
  | cons c cs ih =>
    intro st
    have := ih (lookS P l ag st c)
    have h2 : (lookS P l ag st c).1.length ≤ st.1.length + 1 := by
      unfold lookS
      split
      · dsimp only; split <;> simp
      · omega
    simp only [List.foldl_cons, List.length_cons]
    omega

/-- The shares that were chosen: nil, or in a block behind s that is not A's own. -/
def SK (s : Nat) (A : Value) (w : World) (v : Value) (ch : List (Int × Int)) : Prop :=
  ∃ P c, v = .slice P ch.length c ∧ ch.length ≤ c ∧ c ≤ 9223372036854775807 ∧ (∀ x ∈ ch, i64r x.1 ∧ i64r x.2) ∧ (ch.length = 0 → P = none ∧ c = 0) ∧
    (0 < ch.length → ∃ b off, P = some ⟨b, off, none⟩ ∧ s < b ∧ b < w.heap.size ∧ A.ownBlock ≠ some b ∧ ∀ j u, ((ch.flatMap pcs).map (Value.int .i64))[j]? = some u → w.cell? ⟨b, off + j, none⟩ = some u)
theorem SK.keep {s : Nat} {A A' : Value} {w w' : World} {v : Value} {ch : List (Int × Int)} (h : SK s A w v ch) (hm : LMv s A w A' w') : SK s A' w' v ch := by
  obtain ⟨P, c, rfl, hc, hmx, hr, h0, ha⟩ := h
  refine ⟨P, c, rfl, hc, hmx, hr, h0, fun h0 => ?_⟩
  obtain ⟨b, off, rfl, hsb, hb, hA, hcell⟩ := ha h0
  refine ⟨b, off, rfl, hsb, Nat.lt_of_lt_of_le hb hm.size, fun e => ?_, fun j u hu => (World.cell?_of_block (hm.block b hb (by omega) hA)).trans (hcell j u hu)⟩
  rcases hm.own b e with e | e
  · exact hA e
  · omega
theorem pcs_len (ch : List (Int × Int)) : ((ch.flatMap pcs).map (Value.int .i64)).length = ch.length * 2 := by
  rw [List.length_map]
  induction ch with
  | nil => rfl
  | cons c t ih => simp only [List.flatMap_cons, List.length_append, List.length_cons, ih]; simp [pcs]; omega
theorem below_al {w w2 : World} {o : Obj} (h : Below (w.alloc o).heap.size (w.alloc o) w2) : Below w.heap.size w w2 :=
  ((Below.refl _ w).alloc (Nat.le_refl _) o).trans (h.mono (by simp))
theorem own_pcs {w : World} {base g n cap : Nat} (g' : Nat) {e : TypeId} {ch : List (Int × Int)} {t : Int × Int} (h : w.ownsRow base e 2 (.slice (some ⟨g, 0, none⟩) n cap) n ((ch.flatMap pcs).map (Value.int .i64) ++ (pcs t).map (Value.int .i64))) (hg : g = g') :
    w.ownsRow base e 2 (.slice (some ⟨g', 0, none⟩) n cap) n (((ch ++ [t]).flatMap pcs).map (Value.int .i64)) := by
  subst hg
  simpa using h
theorem SK.rng {s : Nat} {A : Value} {w : World} {v : Value} {ch : List (Int × Int)} (h : SK s A w v ch) : ∀ x ∈ ch, i64r x.1 ∧ i64r x.2 := by
  obtain ⟨P, c, _, _, _, hr, _⟩ := h
  exact hr
theorem SK.nil0 {s : Nat} {A : Value} {w : World} {P : Option Addr} {n c : Nat} {ch : List (Int × Int)} (h : SK s A w (.slice P n c) ch) : ch.length = 0 → P = none ∧ ch.length = 0 := by
  obtain ⟨P', c', e, _, _, _, h0, _⟩ := h
  injection e with e1 e2 e3
  subst e1
  exact fun h => ⟨(h0 h).1, h⟩
theorem SK.at1 {s : Nat} {A : Value} {w : World} {P : Option Addr} {n c : Nat} {ch : List (Int × Int)} {W : World} (h : SK s A w (.slice P n c) ch) (hb : Below w.heap.size w W) (h0 : 0 < ch.length) : ∃ b off, P = some ⟨b, off, none⟩ ∧ ∀ j u, ((ch.flatMap pcs).map (Value.int .i64))[j]? = some u → W.cell? ⟨b, off + j, none⟩ = some u := by
  obtain ⟨P', c', e, _, _, _, _, ha⟩ := h
  injection e with e1 e2 e3
  subst e1
  obtain ⟨b, off, hP, _, hbl, _, hc⟩ := ha h0
  exact ⟨b, off, hP, fun j u hu => (hb.cell hbl).trans (hc j u hu)⟩
theorem SK.sg {s : Nat} {A : Value} {w : World} {v : Value} {ch : List (Int × Int)} (h : SK s A w v ch) : SG pcs 2 w.heap.size w v ch := by
  obtain ⟨P, c, rfl, hc, hmx, hr, h0, ha⟩ := h
  refine ⟨P, c, rfl, hc, hmx, fun x hx y hy => ?_, fun h0 => ?_⟩
  · simp [pcs] at hy
    rcases hy with rfl | rfl
    · exact (hr x hx).1
    · exact (hr x hx).2
  · obtain ⟨b, off, rfl, hsb, hb, hA, hcell⟩ := ha h0
    refine ⟨b, off, rfl, hb, fun j hj i hi => ?_⟩
    have hf := flatMap_get pcs 2 ch (fun _ _ => rfl) j hj i hi
    have hsome : ∃ y, (pcs ch[j])[i]? = some y := by
      rcases (by omega : i = 0 ∨ i = 1) with rfl | rfl
      · exact ⟨_, rfl⟩
      · exact ⟨_, rfl⟩
    obtain ⟨y, hy⟩ := hsome
    rw [hy] at hf ⊢
    exact hcell (j * 2 + i) (.int .i64 y) (by rw [List.getElem?_map, hf]; rfl)
theorem SK.of_own {s : Nat} {A : Value} {w : World} {base : Nat} {e : TypeId} {g cap n : Nat} {ch : List (Int × Int)} (hn : ch.length = n) (hn0 : 0 < n) (h : w.ownsRow base e 2 (.slice (some ⟨g, 0, none⟩) n cap) n ((ch.flatMap pcs).map (Value.int .i64))) (hr : ∀ x ∈ ch, i64r x.1 ∧ i64r x.2) (hs : s < base) (hA : ∀ g, A.ownBlock = some g → g < base) :
    SK s A w (.slice (some ⟨g, 0, none⟩) n cap) ch := by
  subst hn
  rcases h.2 with ⟨h0, hn⟩ | ⟨g', cap', cur, h0, hb, hg, hnc, hcm, hcs, htake⟩
  · cases h0
  · injection h0 with h1 h2 h3
    injection h1 with h1
    injection h1 with h1
    subst h1
    subst h3
    refine ⟨_, cap, rfl, hnc, by simpa [maxLen] using hcm, hr, fun h => by omega, fun _ => ⟨g, 0, rfl, by omega, heap_of_cells hg, fun e => by have := hA g e; omega, fun j u hu => ?_⟩⟩
    have hj : j < ch.length * 2 := by
      have := (List.getElem?_eq_some_iff.1 hu).1
      have hl := h.1
      omega
    have := h.cellAt j hj
    rw [Nat.zero_add, this, hu]
theorem shinfo' : (Try.prog.info? 64).map (fun i => (i.zero, i.size, i.bytes)) = some (some (.agg #[.int .i64 0, .int .i64 0]), 2, 16) := by kernel_rfl

theorem SCl.at0 {w : World} {A : Option Addr} {n c : Nat} {l : List (Int × Bool)} (h : SCl w (.slice A n c) l) (h0 : 0 < l.length) : ∃ b off, A = some ⟨b, off, none⟩ ∧ b < w.heap.size ∧ ∀ j (h : j < l.length), w.cell? ⟨b, off + j * 2, none⟩ = some (.int .i64 l[j].1) ∧ w.cell? ⟨b, off + j * 2 + 1, none⟩ = some (.bool l[j].2) := by
  obtain ⟨A', c', e, _, _, _, ha⟩ := h
  injection e with e1 e2 e3
  subst e1
  exact ha h0
theorem SCl.blk {w : World} {b off n c : Nat} {l : List (Int × Bool)} (h : SCl w (.slice (some ⟨b, off, none⟩) n c) l) (h0 : 0 < l.length) : b < w.heap.size := by
  obtain ⟨b', off', e, hb, _⟩ := h.at0 h0
  injection e with e
  injection e with e
  subst e
  exact hb
theorem SCl.rng {w : World} {v : Value} {l : List (Int × Bool)} (h : SCl w v l) : ∀ x ∈ l, i64r x.1 := by
  obtain ⟨A, c, rfl, _, _, hr, _⟩ := h
  exact hr
/-- the search behind some cells of the loop -/
def ChR (s : Nat) (P : Int) (l : List (Int × Bool)) (vl : Value) (k : Nat) (ag : Int) (ch : List (Int × Int)) (F : List (List Int) × Int) (j0 : Nat) (A : Value) (w : World) (i : Value) (wr : World) : Prop :=
  ∃ (j : Nat) (A' : Value) (st : List (List Int) × Int), j0 ≤ j ∧ j ≤ l.length ∧ i = .int .i64 j ∧ LSt s P vl k ag wr A' st.1 st.2 ∧ LMv s A w A' wr ∧ (chs l k (l.length - j) ch).foldl (lookS P l ag) st = F ∧ st.1.length + 2 ^ (l.length - j) ≤ 1000000
theorem chs_step {l : List (Int × Bool)} {k : Nat} {ch : List (Int × Int)} {j : Nat} (hj : j < l.length) (hc : ¬ ch.length = k) :
    chs l k (l.length - j) ch = (if l[j].2 = true then chs l k (l.length - (j + 1)) (ch ++ [((j : Int) + 1, l[j].1)]) else []) ++ chs l k (l.length - (j + 1)) ch := by
  obtain ⟨m, hm⟩ : ∃ m, l.length - j = m + 1 := ⟨l.length - j - 1, by omega⟩
  rw [hm, show l.length - (j + 1) = m by omega]
  have hg : l.getD (l.length - (m + 1)) (0, false) = l[j] := by
    rw [show l.length - (m + 1) = j by omega]
    simp [List.getD, hj]
  conv => lhs; unfold chs
  rw [if_neg hc, hg, show l.length - (m + 1) = j by omega]
theorem chs_end {l : List (Int × Bool)} {k : Nat} {ch : List (Int × Int)} (hc : ¬ ch.length = k) : chs l k 0 ch = [] := by
  unfold chs
  rw [if_neg hc]
theorem fold_step {α β : Type} (f : β → α → β) (a b : List α) (c : List α) (x : β) (h : c = a ++ b) : c.foldl f x = b.foldl f (a.foldl f x) := by rw [h, List.foldl_append]
set_option maxRecDepth 100000 in
set_option maxHeartbeats 4000000 in
theorem choose_any (P : Int) (l : List (Int × Bool)) (k : Nat) (ag : Int) (s : Nat) (vl : Value) (w0 : World) (hP : i64r P) (hl : SCl w0 vl l) (hs0 : w0.heap.size ≤ s) (hz : l.length ≤ 1000) (hk : k ≤ 1000) : ∀ (m : Nat) (ch : List (Int × Int)) (vc A : Value) (ps : List (List Int)) (most : Int) (w : World),
    m ≤ l.length → ch.length ≤ k → Below w0.heap.size w0 w → LSt s P vl k ag w A ps most → SK s A w vc ch → ps.length + 2 ^ m ≤ 1000000 →
    Calls Try.prog 55 #[.pointer (some ⟨s, 0, none⟩), .int .i64 ((l.length - m : Nat) : Int), vc] w fun e w' => e = .returned (.tuple #[]) ∧ ∃ A', LSt s P vl k ag w' A' ((chs l k m ch).foldl (lookS P l ag) (ps, most)).1 ((chs l k m ch).foldl (lookS P l ag) (ps, most)).2 ∧ LMv s A w A' w' := by
  intro m
  induction m using Nat.strongRecOn with
  | ind m ih =>
  intro ch vc A ps most w hm hch hb0 hst hsk hps
  have HT := Lib.hid hst
  have HK := Lib.hid hsk
  have HL0 := Lib.hid hl
  have HB0 := Lib.hid hb0
  have IH := Lib.hid ih
  obtain ⟨Pc, kc, rfl, _⟩ := hsk
  obtain ⟨Al, cl, rfl⟩ := hl.form
  have c2 : w.cell? ⟨s, 2, none⟩ = some (.int .i64 k) := cell_of_row w s 2 _ _ _ HT.out.cells
  clear hst hb0 ih hl
  have hpw : 1 ≤ 2 ^ m := Nat.one_le_two_pow
  go_enter Try.func55, Try.ntmps55
  by_cases hc : ch.length = k
  · have hd : decide ((ch.length : Int) = (k : Int)) = true := decide_eq_true (by omega)
    have hd2 : ((ch.length : Int) == (k : Int)) = true := by rw [beq_iff_eq]; omega
    have HE : Hid (chs l k m ch = [ch]) := by
      show _ = _
      cases m with
      | zero => unfold chs; rw [if_pos hc]
      | succ m => unfold chs; rw [if_pos hc]
    have HC := Lib.hid hc
    clear hc
    go_wp2_with fail
    (with_reducible refine (look_any P l ch k ag s _ _ A ps most w0 w hP HL0.out HB0.out (by omega) HT.out HK.out.sg (by omega) (by omega)).mono ?_)
    rintro e w1 ⟨rfl, A1, hT1, hM1⟩
    go_wp2_with fail
    refine bodyPost_ret (v := .tuple #[]) (by simp [results, Try.results55, go_sem]) rfl ?_
    rw [HE.out]
    exact ⟨rfl, A1, hT1, hM1⟩
  · have hd : decide ((ch.length : Int) = (k : Int)) = false := decide_eq_false (by omega)
    have hd2 : ((ch.length : Int) == (k : Int)) = false := by rw [beq_eq_false_iff_ne]; omega
    have HC := Lib.hid hc
    have hclt : ch.length < k := by omega
    have hlm : ∃ j0, l.length - m = j0 := ⟨_, rfl⟩
    obtain ⟨j0, hj0⟩ := hlm
    have HJ0 := Lib.hid hj0
    rw [hj0]
    clear hc hj0
    obtain ⟨F, hF⟩ : ∃ F, (chs l k m ch).foldl (lookS P l ag) (ps, most) = F := ⟨_, rfl⟩
    have HF := Lib.hid hF
    rw [hF]
    clear hF
    go_wp2_with fail
    go_loopw [6] (fun i wr => ChR s P l (.slice Al l.length cl) k ag ch F j0 A w i wr) (fun i _ => l.length - (intOf i).toNat)
    case atStart =>
      refine ⟨j0, A, (ps, most), Nat.le_refl _, by have := HJ0.out; omega, rfl, HT.out, LMv.refl _ _ _, ?_, ?_⟩
      · rw [show l.length - j0 = m by have := HJ0.out; omega]; exact HF.out
      · rw [show l.length - j0 = m by have := HJ0.out; omega]; exact hps
    case round =>
      obtain ⟨j, A1, st, hj0j, hjl, rfl, hT1, hM1, hf, hln⟩ := hrel
      have HT1 := Lib.hid hT1
      have HM1 := Lib.hid hM1
      have HFF := Lib.hid hf
      have HBL : Hid (Below w0.heap.size w0 wr) := HB0.out.trans (HM1.out.below (fun g hg => (HT.out.lt.2 g hg).1) hs0 (by have := HT.out.lt.1; omega))
      have HLW := Lib.hid (HL0.out.below HBL.out)
      have q1 : wr.cell? ⟨s, 1, none⟩ = some (.slice Al l.length cl) := cell_of_row wr s 1 _ _ _ HT1.out.cells
      have hsw : s < wr.heap.size := HT1.out.lt.1
      clear hT1 hM1 hf
      by_cases hlt : j < l.length
      · have hd1 : decide ((j : Int) < (l.length : Int)) = true := decide_eq_true (by omega)
        have hd2 : decide (j < l.length) = true := decide_eq_true hlt
        have HST := Lib.hid (chs_step (k := k) (ch := ch) hlt HC.out)
        obtain ⟨b, off, hAl, hbl, hcell⟩ := HLW.out.at0 (by omega)
        subst hAl
        obtain ⟨e0, e1⟩ := hcell j hlt
        have hbs : b < s := Nat.lt_of_lt_of_le (HL0.out.blk (by omega)) hs0
        clear hcell
        have hpj : 2 ^ (l.length - j) = 2 ^ (l.length - (j + 1)) * 2 := by rw [show l.length - j = (l.length - (j + 1)) + 1 by omega, Nat.pow_succ]
        have hpj1 : 1 ≤ 2 ^ (l.length - (j + 1)) := Nat.one_le_two_pow
        have hln2 : st.1.length + 2 ^ (l.length - (j + 1)) * 2 ≤ 1000000 := by omega
        have hpe : ∃ pj, 2 ^ (l.length - (j + 1)) = pj := ⟨_, rfl⟩
        obtain ⟨pj, hpe⟩ := hpe
        rw [hpe] at hln2 hpj1
        have HPJE := Lib.hid hpe
        clear hpe
        clear hpj hln
        by_cases hkn : l[j].2 = true
        · rw [hkn] at e1
          have HST1 := HST.out
          rw [if_pos hkn] at HST1
          have HFS := Lib.hid ((fold_step (lookS P l ag) _ _ _ st HST1).symm.trans HFF.out)
          have hrj : i64r l[j].1 := HL0.out.rng _ (List.getElem_mem hlt)
          have hjr : i64r ((j : Int) + 1) := by unfold i64r; omega
          have HN1 : Hid ((chs l k (l.length - (j + 1)) (ch ++ [((j : Int) + 1, l[j].1)])).length ≤ 2 ^ (l.length - (j + 1))) := chs_len _ _ _ _
          clear hkn HST1
          have HKW := Lib.hid (HK.out.keep HM1.out)
          have HIJ : Hid (∀ (vc : Value) (w : World), Below w0.heap.size w0 w → LSt s P (.slice (some ⟨b, off, none⟩) l.length cl) k ag w A1 st.1 st.2 → SK s A1 w vc (ch ++ [((j : Int) + 1, l[j].1)]) →
              Calls Try.prog 55 #[.pointer (some ⟨s, 0, none⟩), .int .i64 ((j : Int) + 1), vc] w fun e w' => e = .returned (.tuple #[]) ∧ ∃ A', LSt s P (.slice (some ⟨b, off, none⟩) l.length cl) k ag w' A' ((chs l k (l.length - (j + 1)) (ch ++ [((j : Int) + 1, l[j].1)])).foldl (lookS P l ag) st).1 ((chs l k (l.length - (j + 1)) (ch ++ [((j : Int) + 1, l[j].1)])).foldl (lookS P l ag) st).2 ∧ LMv s A1 w A' w') := by
            intro vc w h1 h2 h3
            have := IH.out (l.length - (j + 1)) (by have := HJ0.out; omega) (ch ++ [((j : Int) + 1, l[j].1)]) vc A1 st.1 st.2 w (by omega) (by simp; omega) h1 h2 h3 (by rw [HPJE.out]; omega)
            rw [show ((l.length - (l.length - (j + 1)) : Nat) : Int) = (j : Int) + 1 by omega] at this
            exact this
          have HRC : Hid (∀ x ∈ ch ++ [((j : Int) + 1, l[j].1)], i64r x.1 ∧ i64r x.2) := by
            intro x hx
            rcases List.mem_append.1 hx with h | h
            · exact HK.out.rng x h
            · simp at h; subst h; exact ⟨hjr, hrj⟩
          have HFL : Hid (((ch.flatMap pcs).map (Value.int .i64)).length = ch.length * 2) := pcs_len ch
          have hwj : IntKind.i64.wrap ((j : Int) + 1) = (j : Int) + 1 := IntWalk.i64_in _ (by omega)
          clear hjr hrj
          go_wp2_with fail
          go_region_held3 (fun w' => w'.cell? ⟨s, 1, none⟩ = some (.slice (some ⟨b, off, none⟩) l.length cl) ∧ w'.cell? ⟨b, off + j * 2, none⟩ = some (.int .i64 l[j].1)) (first | exact ⟨q1, e0⟩ | exact ⟨x1, x0⟩ | go_keep)
            (first
              | (refine step_append_full (by rfl) _ _ 62 (by rfl) 64 2 16 (.agg #[.int .i64 0, .int .i64 0]) Try.underlying62 shinfo' (by rfl) Pc ch.length ch.length (by rfl) ((ch.flatMap pcs).map (Value.int .i64)) ?a1 ?a2 ?a3 ⟨wr.heap.size, 0, none⟩ 1 1 (by rfl) ((pcs ((j : Int) + 1, l[j].1)).map (Value.int .i64)) ?a4 ?a5 ?a6 ?a7 ?a8 ?a9
                 case a1 => exact HFL.out
                 case a2 => exact HK.out.nil0
                 case a3 => exact fun h0 => ⟨rfl, HKW.out.at1 (by first | exact ((Below.refl _ _).alloc (Nat.le_refl _) _).drew | exact (Below.refl _ _).alloc (Nat.le_refl _) _) h0⟩
                 case a4 => rfl
                 case a5 => exact cells_new wr _ _
                 case a6 => omega
                 case a7 => omega
                 case a8 => (unfold maxLen; omega)
                 intro cap2 w2 hown2 hb2
                 have HB2 : Hid (Below wr.heap.size wr w2) := (by first | exact below_al hb2 | exact below_al hb2.drew_left)
                 have x1 := (HB2.out.cell (p := ⟨s, 1, none⟩) (by exact hsw)).trans q1
                 have x0 := (HB2.out.cell (p := ⟨b, off + j * 2, none⟩) (by exact hbl)).trans e0
                 have HSK2 := Lib.hid (SK.of_own (s := s) (A := A1) (ch := ch ++ [((j : Int) + 1, l[j].1)]) (by simp) (by omega) (own_pcs (wr.heap.size + 1) hown2 (by simp)) HRC.out (by first | exact Nat.lt_succ_of_lt hsw | (simp; omega)) (fun g hg => by have := (HT1.out.lt.2 g hg).2; first | exact Nat.lt_succ_of_lt this | (simp; omega)))
                 clear hown2 hb2)
              | (go_at_call 55; refine (HIJ.out _ _ (by exact HBL.out.trans (HB2.out.mono (Nat.le_trans hs0 (Nat.le_of_lt hsw)))) (by exact HT1.out.below HB2.out) (by exact HSK2.out)).mono ?_; rintro e w3 ⟨rfl, A3, hT3, hM3⟩; have HT3 := Lib.hid hT3; have HM3 := Lib.hid hM3; have x1 : w3.cell? ⟨s, 1, none⟩ = some (.slice (some ⟨b, off, none⟩) l.length cl) := cell_of_row w3 s 1 _ _ _ HT3.out.cells; have x0 := ((HM3.out.below (fun g hg => (HT1.out.lt.2 g hg).1) (Nat.le_refl _) (Nat.le_trans (Nat.le_of_lt hsw) HB2.out.size)).cell (p := ⟨b, off + j * 2, none⟩) hbs).trans x0; clear hT3 hM3))
          have HLN : Hid (((chs l k (l.length - (j + 1)) (ch ++ [((j : Int) + 1, l[j].1)])).foldl (lookS P l ag) st).1.length ≤ st.1.length + pj) := by
            have h1 := look_len P l ag (chs l k (l.length - (j + 1)) (ch ++ [((j : Int) + 1, l[j].1)])) st
            have h2 := HN1.out
            rw [HPJE.out] at h2
            show _ ≤ _
            omega
          clear hpj1
          go_wp2_with fail
          go_roundw
          case rel => exact ⟨j + 1, A3, _, by omega, by omega, by go_num, HT3.out, (HM1.out.trans (LMv.of_below HB2.out)).trans HM3.out, HFS.out, by rw [HPJE.out]; have := HLN.out; omega⟩
          case measure => simp [intOf]; omega
        · have hkf : l[j].2 = false := by simpa using hkn
          rw [hkf] at e1
          rw [if_neg hkn, List.nil_append] at HST
          have HFS : Hid ((chs l k (l.length - (j + 1)) ch).foldl (lookS P l ag) st = F) := by show _ = _; rw [← HST.out]; exact HFF.out
          have HPJ := Lib.hid hpj1
          clear hkn hkf hpj1
          go_wp2_with fail
          go_roundw
          case rel => exact ⟨j + 1, A1, st, by omega, by omega, by go_num, HT1.out, HM1.out, HFS.out, by rw [HPJE.out]; omega⟩
          case measure => simp [intOf]; omega
      · obtain rfl : j = l.length := by omega
        have hd1 : decide (((l.length : Nat) : Int) < (l.length : Int)) = false := decide_eq_false (by omega)
        have hd2 : decide (l.length < l.length) = false := decide_eq_false (by omega)
        have HFE := HFF.out
        rw [Nat.sub_self, chs_end HC.out] at HFE
        have HFE2 := Lib.hid HFE
        clear HFE
        go_wp2_with fail
        go_end0
        rw [← HFE2.out]
        exact ⟨rfl, A1, HT1.out, HM1.out⟩
end Go.Proofs.Ytbgabipngdillaa

namespace Go.Proofs.Ytbgabipngdillaa

/-- a comes before b -/
def lexlt (a b : List Int) : Prop := ∃ i, gd a i < gd b i ∧ ∀ j, j < i → gd a j = gd b j
/-- the same but for zeros at the end -/
def eqz (a b : List Int) : Prop := ∀ i, gd a i = gd b i
theorem cmpI_lt (a b : List Int) : ∀ (n i : Nat), cmpI a b n i < 0 ↔ ∃ k, k < n ∧ gd a (i + k) < gd b (i + k) ∧ ∀ j, j < k → gd a (i + j) = gd b (i + j) := by
  intro n
  induction n with
  | zero => intro i; constructor
            · intro h; simp [cmpI] at h
            · rintro ⟨k, h, _⟩; omega
  | succ n ih =>
    intro i
    unfold cmpI
    by_cases h1 : gd a i < gd b i
    · rw [if_pos h1]
      exact ⟨fun _ => ⟨0, by omega, h1, fun j hj => by omega⟩, fun _ => by omega⟩
    · rw [if_neg h1]
      by_cases h2 : gd b i < gd a i
      · rw [if_pos h2]
        refine ⟨fun h => by omega, ?_⟩
        rintro ⟨k, hk, hlt, he⟩
        rcases Nat.eq_zero_or_pos k with rfl | h0
        · exact absurd hlt h1
        · have := he 0 h0; simp at this; omega
      · rw [if_neg h2, ih (i + 1)]
        have he : gd a i = gd b i := by omega
        constructor
        · rintro ⟨k, hk, hlt, hj⟩
          refine ⟨k + 1, by omega, by rw [show i + (k + 1) = i + 1 + k by omega]; exact hlt, fun j h => ?_⟩
          cases j with
          | zero => exact he
          | succ j => rw [show i + (j + 1) = i + 1 + j by omega]; exact hj j (by omega)
        · rintro ⟨k, hk, hlt, hj⟩
          cases k with
          | zero => simp at hlt; omega
          | succ k =>
            refine ⟨k, by omega, by rw [show i + 1 + k = i + (k + 1) by omega]; exact hlt, fun j h => ?_⟩
            rw [show i + 1 + j = i + (j + 1) by omega]; exact hj (j + 1) (by omega)
theorem cmpI_eq (a b : List Int) : ∀ (n i : Nat), cmpI a b n i = 0 ↔ ∀ k, k < n → gd a (i + k) = gd b (i + k) := by
  intro n
  induction n with
  | zero => intro i; simp [cmpI]
  | succ n ih =>
    intro i
    unfold cmpI
    by_cases h1 : gd a i < gd b i
    · rw [if_pos h1]
      refine ⟨fun h => by omega, fun h => ?_⟩
      have := h 0 (by omega); simp at this; omega
    · rw [if_neg h1]
      by_cases h2 : gd b i < gd a i
      · rw [if_pos h2]
        refine ⟨fun h => by omega, fun h => ?_⟩
        have := h 0 (by omega); simp at this; omega
      · rw [if_neg h2, ih (i + 1)]
        have he : gd a i = gd b i := by omega
        constructor
        · intro h k hk
          cases k with
          | zero => exact he
          | succ k => rw [show i + (k + 1) = i + 1 + k by omega]; exact h k (by omega)
        · intro h k hk
          rw [show i + 1 + k = i + (k + 1) by omega]; exact h (k + 1) (by omega)
theorem cmpV_lt (a b : List Int) : cmpV a b < 0 ↔ lexlt a b := by
  unfold cmpV
  rw [cmpI_lt]
  constructor
  · rintro ⟨k, _, h, hj⟩
    simp only [Nat.zero_add] at h hj
    exact ⟨k, h, hj⟩
  · rintro ⟨k, h, hj⟩
    refine ⟨k, ?_, by simpa using h, by simpa using hj⟩
    rcases Nat.lt_or_ge k (max a.length b.length) with h0 | h0
    · exact h0
    · rw [gd_ge (by omega), gd_ge (by omega)] at h; omega
theorem cmpV_eq (a b : List Int) : cmpV a b = 0 ↔ eqz a b := by
  unfold cmpV
  rw [cmpI_eq]
  simp only [Nat.zero_add]
  refine ⟨fun h i => ?_, fun h k _ => h k⟩
  rcases Nat.lt_or_ge i (max a.length b.length) with h0 | h0
  · exact h i h0
  · rw [gd_ge (by omega), gd_ge (by omega)]
theorem lex_irr {a b : List Int} (h : eqz a b) : ¬ lexlt a b := by
  rintro ⟨i, h1, _⟩
  have := h i
  omega
theorem lex_asym {a b : List Int} (h : lexlt a b) : ¬ lexlt b a := by
  obtain ⟨i, h1, h2⟩ := h
  rintro ⟨j, h3, h4⟩
  rcases Nat.lt_trichotomy i j with hl | rfl | hl
  · have := h4 i hl; omega
  · omega
  · have := h2 j hl; omega
theorem lex_trans {a b c : List Int} (h : lexlt a b) (k : lexlt b c) : lexlt a c := by
  obtain ⟨i, h1, h2⟩ := h
  obtain ⟨j, h3, h4⟩ := k
  rcases Nat.lt_trichotomy i j with hl | rfl | hl
  · exact ⟨i, by have := h4 i hl; omega, fun m hm => (h2 m hm).trans (h4 m (by omega))⟩
  · exact ⟨i, by omega, fun m hm => (h2 m hm).trans (h4 m hm)⟩
  · exact ⟨j, by have := h2 j hl; omega, fun m hm => (h2 m (by omega)).trans (h4 m hm)⟩
theorem lex_or (a b : List Int) : eqz a b ∨ lexlt a b ∨ lexlt b a := by
  by_cases h : eqz a b
  · exact .inl h
  · right
    have h' : ∃ i, gd a i ≠ gd b i := by
      apply Classical.byContradiction
      intro hn
      exact h fun i => Classical.byContradiction fun hi => hn ⟨i, hi⟩
    obtain ⟨i, hi⟩ := h'
    have key : ∀ n i, i ≤ n → gd a i ≠ gd b i → ∃ m, gd a m ≠ gd b m ∧ ∀ j, j < m → gd a j = gd b j := by
      intro n
      induction n with
      | zero => intro i h0 hi; exact ⟨i, hi, fun j hj => by omega⟩
      | succ n ih =>
        intro i h0 hi
        by_cases hx : ∃ j, j < i ∧ gd a j ≠ gd b j
        · obtain ⟨j, hj, hne⟩ := hx
          exact ih j (by omega) hne
        · exact ⟨i, hi, fun j hj => Classical.byContradiction fun hne => hx ⟨j, hj, hne⟩⟩
    obtain ⟨m, hm, hj⟩ := key i i (Nat.le_refl _) hi
    rcases Int.lt_or_gt_of_ne hm with h1 | h1
    · exact .inl ⟨m, h1, hj⟩
    · exact .inr ⟨m, h1, fun j h => (hj j h).symm⟩
theorem eqz.symm {a b : List Int} (h : eqz a b) : eqz b a := fun i => (h i).symm
theorem eqz.trans {a b c : List Int} (h : eqz a b) (k : eqz b c) : eqz a c := fun i => (h i).trans (k i)
theorem lex_eqz {a b c d : List Int} (h : eqz a c) (k : eqz b d) : lexlt a b ↔ lexlt c d := by
  constructor
  · rintro ⟨i, h1, h2⟩
    exact ⟨i, by rw [← h i, ← k i]; exact h1, fun j hj => by rw [← h j, ← k j]; exact h2 j hj⟩
  · rintro ⟨i, h1, h2⟩
    exact ⟨i, by rw [h i, k i]; exact h1, fun j hj => by rw [h j, k j]; exact h2 j hj⟩
theorem gd_append (a b : List Int) (i : Nat) : gd (a ++ b) i = if i < a.length then gd a i else gd b (i - a.length) := by
  unfold gd
  by_cases h : i < a.length
  · rw [if_pos h, List.getElem?_append_left h]
  · rw [if_neg h, List.getElem?_append_right (by omega)]
theorem gd_zeros (n i : Nat) : gd (List.replicate n (0 : Int)) i = 0 := by
  unfold gd
  by_cases h : i < n
  · simp [h]
  · simp [h]
theorem eqz_zeros (a : List Int) (n : Nat) : eqz a (a ++ List.replicate n 0) := by
  intro i
  rw [gd_append]
  by_cases h : i < a.length
  · rw [if_pos h]
  · rw [if_neg h, gd_zeros, gd_ge (by omega)]
end Go.Proofs.Ytbgabipngdillaa
