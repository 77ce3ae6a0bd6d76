/- Joined: Fi Fl Ke0. -/
import Derived.Maps.OwnIn
import Derived.Deep.RegionWith
import Derived.Test.YtoiabanpnkpbhaaGreatDoorY13
import Derived.Test.YtoiabanpnkpbhaaGreatDoorY12
namespace Go.Proofs.YtoiabanpnkpbhaaGreatDoor
open Go.RowKit Go.Shelf
attribute [local go_sem] Oper.semAt_some

theorem shinfo : (Tryz.prog.info? 114).map (fun i => (i.zero, i.size, i.bytes)) = some (some (.agg #[.int .i64 0, .int .i64 0]), 2, 16) := by kernel_rfl
/-- the shares at some places -/
def shs (l : List (Int × Bool)) (pre : List (Fin (kn l).length)) : List (Int × Int) := pre.map fun j => (kn l)[j]
theorem shs_len (l : List (Int × Bool)) (pre : List (Fin (kn l).length)) : (shs l pre).length = pre.length := List.length_map _
theorem shs_snoc (l : List (Int × Bool)) (pre : List (Fin (kn l).length)) (j : Fin (kn l).length) : shs l (pre ++ [j]) = shs l pre ++ [(kn l)[j]] := by simp [shs]
theorem shs_upA (l : List (Int × Bool)) (k : Nat) (h : k ≤ (kn l).length) : shs l (upA (kn l).length k) = (kn l).take k := by
  induction k with
  | zero => simp [shs, upA]
  | succ k ih => rw [upA_succ (by omega), shs_snoc, ih (by omega), List.take_succ_eq_append_getElem (by omega)]; rfl
theorem own_keptR {w w' : World} {base e size n : Nat} {v : Value} {xs : List Value} {row : Option Nat} (h : w.ownsRow base e size v n xs) (hg : w.grownBy w' row) (hr : ∀ r, row = some r → ∃ o : Obj, w.heap[r]? = some o ∧ o.isCells = false) : w'.ownsRow base e size v n xs := by
  refine h.kept hg ?_
  rcases h.2 with ⟨rfl, _⟩ | ⟨g, cap, cur, rfl, hb, hgg, _⟩
  · exact .inl rfl
  · refine .inr fun e => ?_
    obtain ⟨o, ho, hc⟩ := hr g e.symm
    rw [hgg] at ho
    cases ho
    cases hc
theorem own_slice {w : World} {base e size n : Nat} {v : Value} {xs : List Value} (h : w.ownsRow base e size v n xs) : ∃ A c, v = .slice A n c := by
  rcases h.2 with ⟨rfl, rfl⟩ | ⟨g, cap, cur, rfl, _⟩
  · exact ⟨_, _, rfl⟩
  · exact ⟨_, _, rfl⟩
theorem own_row {w : World} {base e size n g : Nat} {v : Value} {xs : List Value} (h : w.ownsRow base e size v n xs) (hg : v.ownBlock = some g) : ∃ o : Obj, w.heap[g]? = some o ∧ o.isCells = true := by
  rcases h.2 with ⟨rfl, _⟩ | ⟨g', cap, cur, rfl, hb, hgg, _⟩
  · cases hg
  · cases hg
    exact ⟨_, hgg, rfl⟩
/-- a row of the call's own that grew keeps what is no cells -/
theorem keepsFrom_own {W Wa W3 : World} {base e size n B : Nat} {v : Value} {xs : List Value} {o : Obj} (ea : Wa = W.alloc o) (h : W.ownsRow base e size v n xs) (hg : Wa.grownBy W3 v.ownBlock) : KeepsFrom B W W3 := by
  subst ea
  have h1 : W.heap.size ≤ (W.alloc o).heap.size := by simp
  refine ⟨Nat.le_trans h1 hg.size, fun k o' _ hk hc => ?_⟩
  have hlt := (Array.getElem?_eq_some_iff.1 hk).1
  rw [hg.block k (by omega) (fun e => ?_), ((Below.refl _ W).alloc (Nat.le_refl _) o).block k hlt]
  · exact hk
  · obtain ⟨o2, h2, h3⟩ := own_row h e.symm
    rw [hk] at h2
    cases h2
    rw [hc] at h3
    cases h3
theorem own_setCell {w : World} {base e size n : Nat} {v u : Value} {xs : List Value} {p : Addr} (h : w.ownsRow base e size v n xs) (hp : p.block < base) : (w.setCell p u).ownsRow base e size v n xs := by
  refine ⟨h.1, ?_⟩
  rcases h.2 with hn | ⟨g, cap, cur, rfl, hb, hgg, rest⟩
  · exact .inl hn
  · refine .inr ⟨g, cap, cur, rfl, hb, ?_, rest⟩
    rw [← hgg]
    have hne : ¬ p.block = g := by omega
    simp [World.setCell, Array.getElem?_modify, hne]
/-- what the slot of the shares holds -/
def FO (w W : World) (k : Int) (sh : List (Int × Int)) (v : Value) : Prop := W.cell? ⟨w.heap.size, 0, none⟩ = some (.int .i64 k) ∧ W.cell? ⟨w.heap.size + 1, 0, none⟩ = some v ∧ W.frozen? ⟨w.heap.size + 1, 0, none⟩ = false ∧
  W.ownsRow (w.heap.size + 2) 114 2 v sh.length ((sh.flatMap pcs).map (Value.int .i64)) ∧ w.heap.size + 2 ≤ W.heap.size
theorem FO.kept {w A B : World} {k : Int} {sh : List (Int × Int)} {v : Value} {row : Option Nat} (h : FO w A k sh v) (hg : A.grownBy B row) (hr : ∀ r, row = some r → ∃ o : Obj, A.heap[r]? = some o ∧ o.isCells = false) : FO w B k sh v :=
  ⟨cell_kept h.1 hg hr, cell_kept h.2.1 hg hr, (frozen_kept h.2.1 hg hr).trans h.2.2.1, own_keptR h.2.2.2.1 hg hr, Nat.le_trans h.2.2.2.2 hg.size⟩

set_option maxRecDepth 100000 in
set_option maxHeartbeats 4000000 in
theorem first_in (l : List (Int × Bool)) (k : Nat) (v : Value) (w : World) (hk : 1 ≤ k) (hkl : k ≤ (kn l).length) (h : SCl w v l) (hz : l.length ≤ 1000000) :
    CallsIn Fence.wide 8 Tryz.prog 145 #[v, .int .i64 k] w fun e w' => ∃ v', e = .returned v' ∧ w'.ownsRow (w.heap.size + 2) 114 2 v' ((kn l).take k).length ((((kn l).take k).flatMap pcs).map (Value.int .i64)) ∧ Below w.heap.size w w' := by
  have HS := Lib.hid h
  obtain ⟨A, c, rfl⟩ := h.form
  clear h
  obtain ⟨i0, hi0, hi1, hi2, hi3⟩ := info_parts shinfo
  have hknl : (kn l).length ≤ l.length := kn_len l 0
  refine callsIn_of_wp_marks Tryz.func145 rfl trivial ?_ rfl
  simp only [Tryz.ntmps145, List.size_toArray, List.length_cons, List.length_nil, Nat.reduceAdd, Nat.reduceSub, Array.replicate_succ, Array.replicate_zero, List.push_toArray, List.append_toArray, List.nil_append, List.cons_append]
  gi_upto_region 2 with fail
  obtain ⟨w0, ew⟩ : ∃ w0 : World, w0 = (w.alloc (.cells #[.int .i64 k] 3)).alloc (.cells #[.slice none 0 0] 112) := ⟨_, rfl⟩
  have hB0 : Below w.heap.size w w0 := by rw [ew]; exact ((Below.refl _ _).alloc (Nat.le_refl _) _).alloc (by simp) _
  have hz0 : w.heap.size + 1 < w0.heap.size := by rw [ew]; simp
  have b0 : w0.cell? ⟨w.heap.size, 0, none⟩ = some (.int .i64 k) := by rw [ew]; simp [go_sem]
  have b1 : w0.cell? ⟨w.heap.size + 1, 0, none⟩ = some (.slice none 0 0) := by rw [ew]; simp [go_sem]
  have b2 : w0.frozen? ⟨w.heap.size + 1, 0, none⟩ = false := by rw [ew]; simp [go_sem]
  rw [← ew]
  clear ew
  gi_wp2_with fail
  refine ⟨trivial, (callsIn_wide.2 (known_any _ _ _ _)).mono ?_⟩
  rintro e w' ⟨rfl, rfl⟩
  gi_wp2_with fail
  obtain ⟨W0, eW⟩ : ∃ W0 : World, W0 = w0.alloc (.cells #[.slice A l.length c] 138) := ⟨_, rfl⟩
  have hbW : Below w0.heap.size w0 W0 := by rw [eW]; exact (Below.refl _ _).alloc (Nat.le_refl _) _
  have hzW : w0.heap.size < W0.heap.size := by rw [eW]; simp
  have cS : W0.cell? ⟨w0.heap.size, 0, none⟩ = some (.slice A l.length c) := by rw [eW]; exact cell_of_row _ _ 0 _ _ (0, 0) (heap_alloc_new w0 _)
  have hBW := hB0.trans (hbW.mono hB0.size)
  have hF0 : FO w W0 k (shs l []) (.slice none 0 0) := ⟨(hbW.cell (p := ⟨w.heap.size, 0, none⟩) (by show w.heap.size < _; omega)).trans b0, (hbW.cell (p := ⟨w.heap.size + 1, 0, none⟩) hz0).trans b1,
    (hbW.frozen (p := ⟨w.heap.size + 1, 0, none⟩) hz0).trans b2, World.ownsRow_nil _ _ _ _, by omega⟩
  rw [← eW]
  clear eW b0 b1 b2
  refine wpIn_rangeFunc_ownG rfl (by omega) (gf := 153) (lb := #[.pointer (some ⟨w0.heap.size, 0, none⟩)]) rfl trivial (enters_of Tryz.func153 (by kernel_rfl) rfl)
    (kn_stops 7 (by omega) w0.heap.size (fun b => b < w.heap.size) l A c hz W0 (fun k hk => by omega) hzW cS
      (fun h0 => by
        obtain ⟨A', c', e, _, _, _, ha⟩ := HS.out
        injection e with e1 e2 e3
        subst e1
        obtain ⟨b, off, e, hb, hc⟩ := ha h0
        exact ⟨b, off, e, hb, fun j hj => ⟨(hBW.cell (p := ⟨b, off + j * 2, none⟩) hb).trans (hc j hj).1, (hBW.cell (p := ⟨b, off + j * 2 + 1, none⟩) hb).trans (hc j hj).2⟩⟩))
    KB_t (KB_b (fun k hk => by omega)) (Below.refl _ _) (fun _ => rfl)
    (fun pre W => ((∃ v, FO w W k (shs l pre) v) ∧ pre.length ≤ k ∧ W0.heap.size ≤ W.heap.size) ∧ Below w.heap.size w W)
    (fun c pre W => (c = .exit 0 ∧ (∃ v, FO w W k (shs l pre.dropLast) v) ∧ pre.length = k + 1) ∧ Below w.heap.size w W)
    (OwnFrom.and (Own.from (fun s A B row hs hg hr => ⟨hs.1.imp fun v hv => hv.kept hg hr, hs.2.1, Nat.le_trans hs.2.2 hg.size⟩) _) (ownFrom_below (Nat.le_refl _) (by omega)))
    (fun c => OwnFrom.and (Own.from (fun s A B row hs hg hr => ⟨hs.1, hs.2.1.imp fun v hv => hv.kept hg hr, hs.2.2⟩) _) (ownFrom_below (Nat.le_refl _) (by omega)))
    ⟨⟨⟨_, hF0⟩, Nat.zero_le _, Nat.le_refl _⟩, hBW⟩
    (fun j => { tmps := #[.slice A l.length c, .int .i64 k, undef, .pointer (some ⟨w.heap.size, 0, none⟩), .slice none 0 0, .pointer (some ⟨w.heap.size + 1, 0, none⟩), .int .i64 (kn l)[j].1, .int .i64 (kn l)[j].2, .slice A l.length c, .func (.func 153) #[] #[.pointer (some ⟨w0.heap.size, 0, none⟩)], .int .i64 (kn l)[j].1, .int .i64 (kn l)[j].2, undef, undef, undef, undef, undef, undef, undef, undef, undef, undef, undef], defers := [] }) ?assign ?body ?done ?stop
  case assign =>
    intro lr x W K hK
    gi_wp2
    exact hK
  case body =>
    rintro lr pre j W ⟨⟨⟨v, hFO⟩, hpk, hzz⟩, hB⟩ hpl
    obtain ⟨p0, p1, r1, hown, hz2⟩ := hFO
    have HS1 := Lib.hid (shs_snoc l pre j)
    have hsl := shs_len l pre
    simp only [Fin.getElem_fin] at HS1 ⊢
    generalize (kn l)[j.1] = t at HS1 ⊢
    clear hF0 cS
    rw [hsl] at hown
    obtain ⟨Av, cv, rfl⟩ := own_slice hown
    have HO := Lib.hid hown
    have hnb : ∀ g, (Value.slice Av pre.length cv).ownBlock = some g → w.heap.size + 2 ≤ g := fun g e => (HO.out.lt g e).1
    have HNB := Lib.hid hnb
    clear hsl hown hnb
    by_cases he : pre.length = k
    · have hd : ((pre.length : Int) == (k : Int)) = true := by rw [he]; simp
      gi_wp2_with fail
      exact ⟨KeepsFrom.refl _ _, ⟨rfl, ⟨_, by rw [List.dropLast_concat]; exact ⟨p0, p1, r1, by rw [shs_len]; exact HO.out, hz2⟩⟩, by simp; omega⟩, hB⟩
    · have hd : ((pre.length : Int) == (k : Int)) = false := by simp; omega
      gi_wp2_with (gi_at_builtin; refine wpListIn_append_own_at _ rfl _ _ 112 rfl (w.heap.size + 2) 114 i0 _ 2 16 Tryz.underlying112 hi0 hi1 hi2 hi3 rfl (by omega) _ _ _ rfl (HO.out.alloc _) ⟨W.heap.size, 0, none⟩ 1 1 (List.map (Value.int .i64) (pcs t)) rfl rfl ?c1 ?c2 ?c3 ?c4 ?c5 ?_)
      case c1 => exact cells_new W _ _
      case c2 => intro u hu; simp [pcs] at hu; rcases hu with rfl | rfl <;> rfl
      case c3 => unfold maxLen; omega
      case c4 => omega
      case c5 => simp; omega
      intro v3 w3 hown3 hg3 _ _
      obtain ⟨A3, c3, rfl⟩ := own_slice hown3
      obtain ⟨Wa, eWa⟩ : ∃ Wa : World, Wa = W.alloc (.cells (List.map (Value.int .i64) (pcs t)).toArray 114) := ⟨_, rfl⟩
      have hga : Wa.grownBy w3 (Value.slice Av pre.length cv).ownBlock := by rw [eWa]; exact hg3
      have hkf : KeepsFrom W0.heap.size W w3 := keepsFrom_own eWa HO.out hga
      have hza : W.heap.size < Wa.heap.size := by rw [eWa]; simp
      have hba : Below W.heap.size W Wa := by rw [eWa]; exact (Below.refl _ _).alloc (Nat.le_refl _) _
      have hz3 := hga.size
      have q0 : w3.cell? ⟨w.heap.size, 0, none⟩ = some (.int .i64 k) := (hga.cell_far ⟨w.heap.size, 0, none⟩ (by show w.heap.size < _; omega) (fun e => by have h5 : w.heap.size + 2 ≤ w.heap.size := HNB.out _ e.symm; omega)).trans ((hba.cell (p := ⟨w.heap.size, 0, none⟩) (by show w.heap.size < _; omega)).trans p0)
      have q1 : w3.cell? ⟨w.heap.size + 1, 0, none⟩ = some (.slice Av pre.length cv) := (hga.cell_far ⟨w.heap.size + 1, 0, none⟩ (by show w.heap.size + 1 < _; omega) (fun e => by have h5 : w.heap.size + 2 ≤ w.heap.size + 1 := HNB.out _ e.symm; omega)).trans ((hba.cell (p := ⟨w.heap.size + 1, 0, none⟩) (by show w.heap.size + 1 < _; omega)).trans p1)
      have s1 : w3.frozen? ⟨w.heap.size + 1, 0, none⟩ = false := (hga.frozen_far ⟨w.heap.size + 1, 0, none⟩ (by show w.heap.size + 1 < _; omega) (fun e => by have h5 : w.heap.size + 2 ≤ w.heap.size + 1 := HNB.out _ e.symm; omega)).trans ((hba.frozen (p := ⟨w.heap.size + 1, 0, none⟩) (by show w.heap.size + 1 < _; omega)).trans r1)
      have hB3 : Below w.heap.size w w3 := (hB.trans (hba.mono hB.size)).grown hga (by omega) (fun g e => by have := HNB.out _ e; omega)
      have hkb : KB (fun b => b < w.heap.size) W w3 := KB_t (KB.of hba (fun b hb => by omega)) (KB.grown hga (fun b hb => ⟨by omega, fun e => by have := HNB.out _ e.symm; omega⟩))
      clear hg3 hga eWa p0 p1 r1
      have HO3 := Lib.hid hown3
      clear hown3
      gi_wp2_with fail
      have hk2 : KB (fun b => b < w.heap.size) w3 (w3.setCell ⟨w.heap.size + 1, 0, none⟩ (.slice A3 (pre.length + 1) c3)) := ⟨by simp [World.setCell], fun p hp => World.cell?_setCell_other _ _ _ _ (fun e => by rw [← e] at hp; have h5 : w.heap.size + 1 < w.heap.size := hp; omega)⟩
      have hs3 : w3.heap.size ≤ (w3.setCell ⟨w.heap.size + 1, 0, none⟩ (.slice A3 (pre.length + 1) c3)).heap.size := by simp [World.setCell]
      refine ⟨hkf.trans ((KeepsOthers.setCell _ _ _).from _), KB_t hkb hk2, ⟨⟨_, setOther q0 (by show w.heap.size + 1 ≠ w.heap.size; omega), World.cell?_setCell_same _ _ _ q1, by rw [World.frozen?_setCell]; exact s1, ?_, by omega⟩, by simp; omega, by omega⟩, hB3.setCell (p := ⟨w.heap.size + 1, 0, none⟩) (by show w.heap.size ≤ w.heap.size + 1; omega) _⟩
      rw [HS1.out, List.length_append, shs_len, List.flatMap_append, List.map_append]
      refine own_setCell ?_ (by show w.heap.size + 1 < _; omega)
      have := HO3.out
      simpa using this
  case done =>
    rintro D ys W hD rfl ⟨⟨⟨v, hFO⟩, hpk, hzz⟩, hB⟩ hK
    rw [upA_length (Nat.le_refl _)] at hpk
    obtain rfl : k = (kn l).length := by omega
    rw [shs_upA l _ (Nat.le_refl _)] at hFO
    obtain ⟨p0, p1, r1, hown, hz2⟩ := hFO
    have HO := Lib.hid hown
    clear hF0 cS hown
    gi_wp2_with fail
    refine ⟨by simp, .inl ⟨_, _, rfl, run_takeDeferred hK, ?_⟩⟩
    exact ⟨_, results_tmp rfl _ _ _, _, rfl, own_keptR HO.out (grownBy_putObj' W D (.deferred none)) (fun r e => by cases e; exact ⟨_, hK, rfl⟩), hB.trans (belowK_b (w := w) (Nat.le_refl _) W D _ _ (by omega) hK rfl rfl)⟩
  case stop =>
    rintro D c pre W hD ⟨m, hm, rfl⟩ ⟨⟨rfl, ⟨v, hFO⟩, hpk⟩, hB⟩ hK
    rw [upA_length hm] at hpk
    subst hpk
    rw [upA_succ (by omega), List.dropLast_concat, shs_upA l _ hkl] at hFO
    obtain ⟨p0, p1, r1, hown, hz2⟩ := hFO
    have HO := Lib.hid hown
    clear hF0 cS hown
    gi_wp2_with fail
    refine ⟨by simp, .inl ⟨_, _, rfl, run_takeDeferred hK, ?_⟩⟩
    exact ⟨_, results_tmp rfl _ _ _, _, rfl, own_keptR HO.out (grownBy_putObj' W D (.deferred none)) (fun r e => by cases e; exact ⟨_, hK, rfl⟩), hB.trans (belowK_b (w := w) (Nat.le_refl _) W D _ _ (by omega) hK rfl rfl)⟩
theorem first_any (l : List (Int × Bool)) (k : Nat) (v : Value) (w : World) (hk : 1 ≤ k) (hkl : k ≤ (kn l).length) (h : SCl w v l) (hz : l.length ≤ 1000000) :
    Calls Tryz.prog 145 #[v, .int .i64 k] w fun e w' => ∃ v', e = .returned v' ∧ w'.ownsRow (w.heap.size + 2) 114 2 v' ((kn l).take k).length ((((kn l).take k).flatMap pcs).map (Value.int .i64)) ∧ Below w.heap.size w w' :=
  callsIn_wide.1 (first_in l k v w hk hkl h hz)
end Go.Proofs.YtoiabanpnkpbhaaGreatDoor

namespace Go.Proofs.YtoiabanpnkpbhaaGreatDoor
open Go.RowKit Go.Shelf
attribute [local go_sem] Oper.semAt_some

def fiE (P : Int) (l : List (Int × Bool)) (k : Int) : Int := if ceE P l = 0 then (if k < 1 ∨ (l.length : Int) < k then 1 else if ((kn l).length : Int) < k then 11 else inE P ((kn l).take k.toNat)) else ceE P l
def fiP (P : Int) (l : List (Int × Bool)) (k : Int) : List Int := if ceE P l = 0 ∧ ¬ (k < 1 ∨ (l.length : Int) < k) ∧ ¬ ((kn l).length : Int) < k then inP P ((kn l).take k.toNat) else []
theorem fi_ce {P : Int} {l : List (Int × Bool)} {k : Int} (h : ceE P l ≠ 0) : fiE P l k = ceE P l ∧ fiP P l k = [] := ⟨if_neg h, if_neg fun e => h e.1⟩
theorem fi_rng {P : Int} {l : List (Int × Bool)} {k : Int} (h : ceE P l = 0) (h2 : k < 1 ∨ (l.length : Int) < k) : fiE P l k = 1 ∧ fiP P l k = [] := by
  refine ⟨?_, if_neg fun e => e.2.1 h2⟩
  unfold fiE
  rw [if_pos h, if_pos h2]
theorem fi_few {P : Int} {l : List (Int × Bool)} {k : Int} (h : ceE P l = 0) (h2 : ¬ (k < 1 ∨ (l.length : Int) < k)) (h3 : ((kn l).length : Int) < k) : fiE P l k = 11 ∧ fiP P l k = [] := by
  refine ⟨?_, if_neg fun e => e.2.2 h3⟩
  unfold fiE
  rw [if_pos h, if_neg h2, if_pos h3]
theorem fi_ok {P : Int} {l : List (Int × Bool)} {k : Int} (h : ceE P l = 0) (h2 : ¬ (k < 1 ∨ (l.length : Int) < k)) (h3 : ¬ ((kn l).length : Int) < k) : fiE P l k = inE P ((kn l).take k.toNat) ∧ fiP P l k = inP P ((kn l).take k.toNat) := by
  refine ⟨?_, if_pos ⟨h, h2, h3⟩⟩
  unfold fiE
  rw [if_pos h, if_neg h2, if_neg h3]
theorem kn_i64 {w : World} {v : Value} {l : List (Int × Bool)} (h : SCl w v l) (hz : l.length ≤ 1000000) : ∀ t ∈ kn l, i64r t.1 ∧ i64r t.2 := by
  have hz' := hz
  obtain ⟨A, c, rfl, _, _, hr, _⟩ := h
  intro t ht
  have h1 := kn_at ht
  refine ⟨by unfold i64r; omega, ?_⟩
  have key : ∀ (m : List (Int × Bool)) (i : Nat), (∀ x ∈ m, i64r x.1) → ∀ t ∈ knF i m, i64r t.2 := by
    intro m
    induction m with
    | nil => intro i _ t h; simp [knF] at h
    | cons c m ih =>
      intro i hm t h
      simp only [knF, List.mem_append] at h
      rcases h with h | h
      · split at h
        · simp at h; subst h; exact hm c (by simp)
        · simp at h
      · exact ih (i + 1) (fun x hx => hm x (by simp [hx])) t h
  exact key l 0 hr t ht

theorem fi_sg {w2 : World} {l : List (Int × Bool)} {m base : Nat} {e : TypeId} {v2 : Value} (hown2 : w2.ownsRow base e 2 v2 ((kn l).take m).length ((((kn l).take m).flatMap pcs).map (Value.int .i64))) (hr : ∀ t ∈ kn l, i64r t.1 ∧ i64r t.2) : SG pcs 2 w2.heap.size w2 v2 ((kn l).take m) :=
  SG.of_own hown2 (fun x hx y hy => by
    have hx2 := hr x (List.mem_of_mem_take hx)
    simp [pcs] at hy
    rcases hy with rfl | rfl
    · exact hx2.1
    · exact hx2.2) (fun _ _ => rfl)
set_option maxRecDepth 100000 in
set_option maxHeartbeats 4000000 in
theorem fill_any (P : Int) (l : List (Int × Bool)) (k : Int) (v : Value) (w : World) (hP : i64r P) (h : SCl w v l) (hz : l.length ≤ 1000000) :
    Calls Tryz.prog 125 #[.agg #[.int .i64 P], v, .int .i64 k] w fun e w' => ∃ v', e = .returned (.tuple #[v', .int .i64 (fiE P l k)]) ∧ w'.ownsRow w.heap.size 3 1 v' (fiP P l k).length ((fiP P l k).map (Value.int .i64)) ∧ Below w.heap.size w w' := by
  have HS := Lib.hid h
  obtain ⟨A, c, rfl⟩ := h.form
  clear h
  go_enter Tryz.func125, Tryz.ntmps125
  go_upto_region 1 with fail
  obtain ⟨w0, ew⟩ : ∃ w0 : World, w0 = w.alloc (.cells #[.int .i64 P] 31) := ⟨_, rfl⟩
  have hB0 : Below w.heap.size w w0 := by rw [ew]; exact (Below.refl _ _).alloc (Nat.le_refl _) _
  have hz0 : w.heap.size < w0.heap.size := by rw [ew]; simp
  have b0 : w0.cell? ⟨w.heap.size, 0, none⟩ = some (.int .i64 P) := by rw [ew]; simp [go_sem]
  rw [← ew]
  clear ew
  have HS0 := Lib.hid (HS.out.below hB0)
  go_wp2_with fail
  (with_reducible refine (cells_any P l _ _ hP HS0.out hz).mono ?_)
  rintro e w1 ⟨rfl, hb1⟩
  have hB1 := hB0.trans (hb1.mono hB0.size)
  have hz1 := hb1.size
  have c0 := (hb1.cell (p := ⟨w.heap.size, 0, none⟩) (by show w.heap.size < _; omega)).trans b0
  clear b0
  generalize ceP P l = cp
  by_cases h0 : ceE P l = 0
  · have hcn : ceN P l = (kn l).length := if_pos h0
    have H0 := Lib.hid h0
    rw [h0, hcn]
    clear h0 hcn
    by_cases h1 : k < 1 ∨ (l.length : Int) < k
    · have HE := Lib.hid (fi_rng H0.out h1)
      by_cases h3 : k < 1
      · have hd1 : decide (k < 1) = true := decide_eq_true h3
        go_wp2_with fail
        go_ret2
        exact ⟨.slice none 0 0, by rw [HE.out.1] <;> rfl, by rw [HE.out.2]; exact World.ownsRow_nil _ _ _ _, hB1⟩
      · have hd1 : decide (k < 1) = false := decide_eq_false h3
        have hd2 : decide ((l.length : Int) < k) = true := decide_eq_true (by omega)
        go_wp2_with fail
        go_ret2
        exact ⟨.slice none 0 0, by rw [HE.out.1] <;> rfl, by rw [HE.out.2]; exact World.ownsRow_nil _ _ _ _, hB1⟩
    · by_cases h2 : ((kn l).length : Int) < k
      · have HE := Lib.hid (fi_few H0.out h1 h2)
        have hd1 : decide (k < 1) = false := decide_eq_false (by omega)
        have hd2 : decide ((l.length : Int) < k) = false := decide_eq_false (by omega)
        have hd3 : decide (((kn l).length : Int) < k) = true := decide_eq_true h2
        go_wp2_with fail
        go_ret2
        exact ⟨.slice none 0 0, by rw [HE.out.1] <;> rfl, by rw [HE.out.2]; exact World.ownsRow_nil _ _ _ _, hB1⟩
      · have HE := Lib.hid (fi_ok H0.out h1 h2)
        have hd1 : decide (k < 1) = false := decide_eq_false (by omega)
        have hd2 : decide ((l.length : Int) < k) = false := decide_eq_false (by omega)
        have hd3 : decide (((kn l).length : Int) < k) = false := decide_eq_false h2
        obtain ⟨m, rfl⟩ : ∃ m : Nat, k = m := ⟨k.toNat, by omega⟩
        have hm1 : 1 ≤ m := by omega
        have hm2 : m ≤ (kn l).length := by omega
        have HR := Lib.hid (kn_i64 HS.out hz)
        have HS1 := Lib.hid (HS0.out.below hb1)
        have hkl : (kn l).length ≤ l.length := kn_len l 0
        rw [Int.toNat_natCast] at HE
        clear h1 h2
        go_wp2_with fail
        have hlt : ((kn l).take m).length ≤ 1000000 := by rw [List.length_take]; omega
        go_region_with (first
          | (go_at_call 145; refine (first_any l m _ _ hm1 hm2 (by exact HS1.out) hz).mono ?_; rintro e w2 ⟨v2, rfl, hown2, hb2⟩; have hB2 : Below w.heap.size w w2 := (by first | exact hB1.trans (hb2.mono hB1.size) | exact hB1.drew.trans (hb2.mono hB1.size) | exact hB1.drew.drew.trans (hb2.mono hB1.size)); have c2 : w2.cell? ⟨w.heap.size, 0, none⟩ = some (.int .i64 P) := (hb2.cell (p := ⟨w.heap.size, 0, none⟩) (by show w.heap.size < w1.heap.size; omega)).trans c0; have HG : Hid (SG pcs 2 w2.heap.size w2 v2 ((kn l).take m)) := fi_sg hown2 HR.out; clear hown2)
          | (go_at_call 70; refine (interp_any P _ v2 _ hP (by exact HG.out) hlt).mono ?_; rintro e w3 ⟨v3, rfl, hown3, hb3⟩; have HO3 := Lib.hid hown3; clear hown3))
        all_goals
          go_wp2_with fail
          go_ret2
          exact ⟨v3, by rw [HE.out.1] <;> rfl, by rw [HE.out.2]; exact own_lower HO3.out (by have h5 : w.heap.size ≤ w2.heap.size := hB2.size; exact h5), hB2.trans (hb3.mono hB2.size)⟩
  · have HE := Lib.hid (fi_ce (k := k) h0)
    have hb : (ceE P l != 0) = true := by rw [bne_iff_ne]; exact h0
    have H0 := Lib.hid h0
    clear h0
    go_wp2_with fail
    go_ret2
    exact ⟨.slice none 0 0, by rw [HE.out.1] <;> rfl, by rw [HE.out.2]; exact World.ownsRow_nil _ _ _ _, hB1⟩
end Go.Proofs.YtoiabanpnkpbhaaGreatDoor

namespace Go.Proofs.YtoiabanpnkpbhaaGreatDoor
open Go.RowKit

/-- append(own, ints...) of one or more, inside a region that draws its order -/
theorem step_append_ints_at {P : Program} (w : World) {ops : Array Oper} {o : Oper} {a : Act} {K : Act → World → Prop} {Q : Exit → Act → World → Prop} {E : Prop} (hgd : o.guard = none) (s x : Operand) (t : TypeId)
    (ho : o.op = .call { callee := .builtin .append, args := #[s, x], argTypes := #[t, t] })
    (base : Nat) (e : TypeId) (ht : P.underlying t = some (.slice e)) (hinfo : (P.info? e).map (fun i => (i.zero, i.size, i.bytes)) = some (some (.int .i64 0), 1, 8))
    (v : Value) (xs : List Int) (hs : a.eval s = v) (hown : w.ownsRow base e 1 v xs.length (xs.map (Value.int .i64)))
    (B : Nat) (src : Value) (l : List Int) (hx : a.eval x = src) (hr : SB B w src l) (hl : 0 < l.length)
    (hbytes : xs.length + l.length ≤ 17592186044416) (hbase : base ≤ w.heap.size)
    (h : ∀ g cap w', w'.ownsRow base e 1 (.slice (some ⟨g, 0, none⟩) (xs ++ l).length cap) (xs ++ l).length ((xs ++ l).map (Value.int .i64)) → w.grownBy w' v.ownBlock → (v.ownBlock = some g ∨ g = w.heap.size) → K (a.put o.dst (.slice (some ⟨g, 0, none⟩) (xs ++ l).length cap)) w') :
    if Region.wanted o (yielded ops a.tmps) = true then Oper.wp P o a w K Q else E := by
  obtain ⟨i0, hi0, hz0, hz1, hz2⟩ := info_parts hinfo
  have hw : Region.wanted o (yielded ops a.tmps) = true := by simp [Region.wanted, hgd]
  rw [if_pos hw]
  obtain ⟨v', w', hrun, h2, h3, h4⟩ := run_append_sc_at (P := P) w base t o.type e i0 _ 1 8 ht hi0 hz0 hz1 hz2 rfl (by omega) v _ _ hown B src _ _ hr.sc (one_ints l) (by unfold maxLen; omega) (by omega) hbase
  have h2' : w'.ownsRow base e 1 v' (xs ++ l).length ((xs ++ l).map (Value.int .i64)) := by rw [List.length_append, List.map_append]; exact h2
  rcases h2'.2 with ⟨_, hn'⟩ | ⟨g, cap, cur, rfl, hb, hg, hnc, hcm, hcs, htake⟩
  · rw [List.length_append] at hn'; omega
  · unfold Oper.wp execOp
    simp only [ho, resolve, invoke, builtin, Sem.run_bind, Sem.run_pure, Result.andThen_ok, List.map_toArray, List.map_cons, List.map_nil, hs, hx, hrun]
    refine h g cap w' h2' h3 ?_
    rcases h4 with e4 | e4
    · exact .inl (by rw [← e4]; rfl)
    · exact .inr (by simpa [Value.ownBlock] using e4)

/-- the coefficients and the right sides -/
def kcl (P : Int) (a e : Nat) (K : List (Int × Int)) : List Int := K.flatMap fun t => pw P t.1 a ++ ngl P t.2 (pw P t.1 e)
def krl (P : Int) (e : Nat) (K : List (Int × Int)) : List Int := K.map fun t => t.2 * (t.1 ^ e % P) % P
theorem kcl_snoc (P : Int) (a e : Nat) (K : List (Int × Int)) (t : Int × Int) : kcl P a e (K ++ [t]) = kcl P a e K ++ pw P t.1 a ++ ngl P t.2 (pw P t.1 e) := by
  simp [kcl]
theorem krl_snoc (P : Int) (e : Nat) (K : List (Int × Int)) (t : Int × Int) : krl P e (K ++ [t]) = krl P e K ++ [t.2 * (t.1 ^ e % P) % P] := by simp [krl]
theorem ngl_len (P y : Int) (l : List Int) : (ngl P y l).length = l.length := by simp [ngl]
theorem kcl_len (P : Int) (a e : Nat) (K : List (Int × Int)) : (kcl P a e K).length = K.length * (a + e) := by
  induction K with
  | nil => simp [kcl]
  | cons t K ih =>
    have : kcl P a e (t :: K) = (pw P t.1 a ++ ngl P t.2 (pw P t.1 e)) ++ kcl P a e K := by simp [kcl]
    rw [this, List.length_append, ih]
    simp only [List.length_append, pw_len, ngl_len, List.length_cons]
    rw [Nat.add_mul]; omega
theorem krl_len (P : Int) (e : Nat) (K : List (Int × Int)) : (krl P e K).length = K.length := by simp [krl]
theorem ngl_els {P : Int} (hP : 2 ≤ P) (y : Int) (l : List Int) : els P (ngl P y l) = true := els_of fun x hx => by
  obtain ⟨t, _, rfl⟩ := List.mem_map.1 hx
  exact el_mod hP _
theorem kcl_els {P : Int} (hP : 2 ≤ P) (a e : Nat) (K : List (Int × Int)) : els P (kcl P a e K) = true := els_of fun x hx => by
  unfold kcl at hx
  rw [List.mem_flatMap] at hx
  obtain ⟨t, _, hx⟩ := hx
  rcases List.mem_append.1 hx with h | h
  · exact els_all (pw_els hP _ _) x h
  · exact els_all (ngl_els hP _ _) x h
theorem krl_els {P : Int} (hP : 2 ≤ P) (e : Nat) (K : List (Int × Int)) : els P (krl P e K) = true := els_of fun x hx => by
  obtain ⟨t, _, rfl⟩ := List.mem_map.1 hx
  exact el_mod hP _
theorem kcl_row (P : Int) (a e : Nat) : ∀ (K : List (Int × Int)) (i : Nat) (hi : i < K.length), ((kcl P a e K).drop (i * (a + e))).take (a + e) = pw P K[i].1 a ++ ngl P K[i].2 (pw P K[i].1 e) := by
  intro K
  induction K with
  | nil => intro i hi; simp at hi
  | cons t K ih =>
    intro i hi
    have : kcl P a e (t :: K) = (pw P t.1 a ++ ngl P t.2 (pw P t.1 e)) ++ kcl P a e K := by simp [kcl]
    have hl : (pw P t.1 a ++ ngl P t.2 (pw P t.1 e)).length = a + e := by simp [pw_len, ngl_len]
    rw [this]
    cases i with
    | zero => rw [Nat.zero_mul, List.drop_zero, List.take_left' hl]; rfl
    | succ i =>
      have h2 : (i + 1) * (a + e) = (a + e) + i * (a + e) := by rw [Nat.add_mul]; omega
      rw [h2, ← List.drop_drop, List.drop_left' hl]
      exact ih i (by simpa using hi)
theorem eq_krow (P : Int) (a e : Nat) (K : List (Int × Int)) (i : Nat) (hi : i < K.length) : eqRow (kcl P a e K) (krl P e K) (a + e) i = krow P a e K[i] := by
  rw [eqRow, kcl_row P a e K i hi, gd_lt (by rw [krl_len]; exact hi), krow]
  simp [krl]
theorem solE_sol {P : Int} {a e : Nat} {K : List (Int × Int)} {x : List Int} : SolE P K.length (a + e) (kcl P a e K) (krl P e K) x ↔ Sol P K a e x := by
  constructor
  · rintro ⟨h1, h2⟩
    refine ⟨h1, fun t ht => ?_⟩
    obtain ⟨i, hi, rfl⟩ := List.mem_iff_getElem.1 ht
    have := h2 i hi
    rwa [eq_krow P a e K i hi] at this
  · rintro ⟨h1, h2⟩
    refine ⟨h1, fun i hi => ?_⟩
    rw [eq_krow P a e K i hi]
    exact h2 _ (List.getElem_mem hi)
theorem pw_snoc (P x : Int) (n : Nat) : pw P x (n + 1) = pw P x n ++ [x ^ n % P] := by
  unfold pw; rw [List.range_succ, List.map_append]; rfl
theorem pw_take (P x : Int) {n m : Nat} (h : m ≤ n) : (pw P x n).take m = pw P x m := by
  unfold pw; rw [← List.map_take, List.take_range, Nat.min_eq_left h]
theorem ngl_snoc (P y : Int) (l : List Int) (t : Int) : ngl P y (l ++ [t]) = ngl P y l ++ [(0 - y * t % P + P) % P] := by simp [ngl]
end Go.Proofs.YtoiabanpnkpbhaaGreatDoor
