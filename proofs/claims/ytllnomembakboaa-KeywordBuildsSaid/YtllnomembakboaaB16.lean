/- Joined: Nl Nm Nn. -/
import Derived.Sort.OwnSortedInts
import Derived.Test.YtllnomembakboaaB14
import Derived.Test.YtllnomembakboaaB15
import Derived.Test.YtllnomembakboaaB06
namespace Go.Proofs.Ytllnomembakboaa
open Go.RowKit Go.Sort

theorem sort_own {base : Nat} {e : TypeId} (zs : List Int) (v : Value) (w : World) (hz : zs.length ≤ 1000000) (hown : w.ownsRow base e 1 v zs.length (zs.map (Value.int .i64))) :
    Calls Try.prog 56 #[v] w fun en w' => en = .returned (.tuple #[]) ∧ w'.ownsRow base e 1 v zs.length ((zs.mergeSort fun x y => decide (x ≤ y)).map (Value.int .i64)) ∧ w.grownBy w' v.ownBlock := by
  rcases hown.2 with ⟨rfl, hn⟩ | ⟨g, cap, cur, rfl, hb, hg, hnc, hcm, hcs, htake⟩
  · have : zs = [] := List.eq_nil_of_length_eq_zero hn
    subst this
    refine (Try.slices_Sort_int_none none 0 w).mono ?_
    rintro en w' ⟨rfl, rfl⟩
    exact ⟨rfl, by simpa using World.ownsRow_nil _ _ _ _, grownBy_refl _ _⟩
  · have hgw : g < w.heap.size := heap_of_cells hg
    refine (Try.slices_Sort_int g 0 cap zs w (holds_of_blockI hg (by simpa using htake)) hgw (by omega)).mono ?_
    rintro en w' ⟨rfl, n, os, rfl⟩
    refine ⟨rfl, ?_, grownBy_sortedI _⟩
    exact ownsRow_sortedI (ss := zs) (List.length_mergeSort _) hb hg hnc hcm hcs
theorem own_pre {w : World} {base g cap n : Nat} {e : TypeId} {xs : List Value} (h : w.ownsRow base e 1 (.slice (some ⟨g, 0, none⟩) n cap) n xs) {m : Nat} (hm : m ≤ n) : w.ownsRow base e 1 (.slice (some ⟨g, 0, none⟩) m cap) m (xs.take m) := by
  have hl := h.1
  refine ⟨by rw [List.length_take]; omega, ?_⟩
  rcases h.2 with ⟨e1, _⟩ | ⟨g', cap', cur, e1, hb, hg, hnc, hcm, hcs, htake⟩
  · cases e1
  · injection e1 with e1 _ e3
    injection e1 with e1
    injection e1 with e1
    subst e1 e3
    refine .inr ⟨g, cap, cur, rfl, hb, hg, by omega, hcm, hcs, ?_⟩
    rw [← htake, List.take_take, Nat.mul_one, Nat.mul_one, Nat.min_eq_left hm]
theorem erase_from (x : Int) : ∀ (zs : List Int) (i : Nat), (Lib.idxFrom zs x i = -1 ∧ x ∉ zs) ∨ ∃ k : Nat, Lib.idxFrom zs x i = ((i + k : Nat) : Int) ∧ k < zs.length ∧ x ∈ zs ∧ zs.take k ++ zs.drop (k + 1) = zs.erase x
  | [], i => .inl ⟨rfl, by simp⟩
  | z :: zs, i => by
    by_cases h : z = x
    · subst h
      exact .inr ⟨0, by simp [Lib.idxFrom], by simp, by simp, by simp⟩
    · have e : Lib.idxFrom (z :: zs) x i = Lib.idxFrom zs x (i + 1) := by simp [Lib.idxFrom, h]
      rw [e]
      rcases erase_from x zs (i + 1) with ⟨h1, h2⟩ | ⟨k, h1, h2, h3, h4⟩
      · exact .inl ⟨h1, by simp [h2, Ne.symm h]⟩
      · refine .inr ⟨k + 1, by rw [h1]; omega, by simp; omega, by simp [h3], ?_⟩
        rw [List.erase_cons, if_neg (by simpa using h), List.take_succ_cons, List.drop_succ_cons, List.cons_append, h4]
theorem erase_at (zs : List Int) (x : Int) : (Lib.idxOf zs x = -1 ∧ x ∉ zs) ∨ ∃ k : Nat, Lib.idxOf zs x = (k : Int) ∧ k < zs.length ∧ x ∈ zs ∧ zs.take k ++ zs.drop (k + 1) = zs.erase x := by
  rcases erase_from x zs 0 with h | ⟨k, h1, h2⟩
  · exact .inl h
  · exact .inr ⟨k, by rw [Nat.zero_add] at h1; exact h1, h2⟩
theorem own_getD {w : World} {base g cap : Nat} {e : TypeId} {zs : List Int} (h : w.ownsRow base e 1 (.slice (some ⟨g, 0, none⟩) zs.length cap) zs.length (zs.map (Value.int .i64))) : ∀ j, j < zs.length → w.cell? ⟨g, 0 + j, none⟩ = some (.int .i64 (zs.getD j 0)) := fun j hj => by
  have := own_int h j hj
  rw [Nat.zero_add]
  rw [this]
  simp [hj]
theorem index_own {base : Nat} {e : TypeId} (zs : List Int) (x : Int) (v : Value) (w : World) (hz : zs.length ≤ 1000000) (hown : w.ownsRow base e 1 v zs.length (zs.map (Value.int .i64))) :
    Calls Try.prog 59 #[v, .int .i64 x] w fun en w' => en = .returned (.int .i64 (Lib.idxOf zs x)) ∧ w' = w := by
  rcases Nat.eq_zero_or_pos zs.length with h0 | h0
  · have : zs = [] := List.eq_nil_of_length_eq_zero h0
    subst this
    obtain ⟨A, c, rfl⟩ := own_sl hown
    exact Try.slices_Index_int_empty A c x w
  · obtain ⟨g, cap, rfl, _⟩ := own_form hown h0
    have h := Try.slices_Index_int g 0 zs.length cap zs x w (Nat.le_refl _) (by omega) (own_getD hown)
    rwa [List.take_length] at h
theorem contains_own {base : Nat} {e : TypeId} (zs : List Int) (x : Int) (v : Value) (w : World) (hz : zs.length ≤ 1000000) (hown : w.ownsRow base e 1 v zs.length (zs.map (Value.int .i64))) :
    Calls Try.prog 40 #[v, .int .i64 x] w fun en w' => en = .returned (.bool (zs.contains x)) ∧ w' = w := by
  rcases Nat.eq_zero_or_pos zs.length with h0 | h0
  · have : zs = [] := List.eq_nil_of_length_eq_zero h0
    subst this
    obtain ⟨A, c, rfl⟩ := own_sl hown
    exact Try.slices_Contains_int_empty A c x w
  · obtain ⟨g, cap, rfl, _⟩ := own_form hown h0
    have h := Try.slices_Contains_int g 0 zs.length cap zs x w (Nat.le_refl _) (by omega) (own_getD hown)
    rwa [List.take_length] at h
theorem delete_own {base g cap : Nat} {e : TypeId} (zs : List Int) (x : Int) (k : Nat) (w : World) (hz : zs.length ≤ 1000000) (hown : w.ownsRow base e 1 (.slice (some ⟨g, 0, none⟩) zs.length cap) zs.length (zs.map (Value.int .i64))) (hk : k < zs.length) (he : zs.take k ++ zs.drop (k + 1) = zs.erase x) :
    Calls Try.prog 80 #[.slice (some ⟨g, 0, none⟩) zs.length cap, .int .i64 k, .int .i64 (k + 1)] w fun en w' => en = .returned (.slice (some ⟨g, 0, none⟩) (zs.erase x).length cap) ∧ w'.ownsRow base e 1 (.slice (some ⟨g, 0, none⟩) (zs.erase x).length cap) (zs.erase x).length ((zs.erase x).map (Value.int .i64)) ∧ w.grownBy w' (some g) := by
  have hel : (zs.erase x).length = zs.length - 1 := by rw [← he]; simp; omega
  rcases hown.2 with ⟨h1, _⟩ | ⟨g', cap', cur, h1, hb, hg, hnc, hcm, hcs, htake⟩
  · cases h1
  injection h1 with h1 _ h3
  injection h1 with h1
  injection h1 with h1
  subst h1 h3
  refine (Try.slices_Delete_int g 0 cap k (k + 1) zs w (holds_of_blockI hg (by simpa using htake)) hnc (by unfold maxLen at hcm; omega) (by omega) hk).mono ?_
  rintro en w' ⟨rfl, q, rfl⟩
  rw [show k + 1 - k = 1 from by omega, he, ← hel]
  have hw : putRow (Value.int .i64) (Go.Sort.ahead w q) g 0 (zs.erase x ++ List.replicate 1 0).toArray = grow (putRow (Value.int .i64) (Go.Sort.ahead w q) g 0 (zs.erase x ++ List.replicate 1 0).toArray) #[] := (grow_empty _).symm
  have hlen : (zs.erase x ++ List.replicate 1 (0 : Int)).length = zs.length := by simp; omega
  have ho := ownsRow_sortedI (n := q) (os := #[]) (ss := zs) (ts := zs.erase x ++ List.replicate 1 0) hlen hb hg hnc hcm hcs
  rw [← hw] at ho
  refine ⟨rfl, ?_, by rw [hw]; exact grownBy_sortedI _⟩
  have h := own_pre ho (m := (zs.erase x).length) (by omega)
  rwa [List.map_append, List.take_left' (by simp)] at h
end Go.Proofs.Ytllnomembakboaa

namespace Go.Proofs.Ytllnomembakboaa
open Go.RowKit

/-- a row turned in its own block, its header stored -/
theorem IN.turn {base GI S N B : Nat} {ls : List (List Int)} {vs : List Value} {w w1 : World} (h : IN base GI S N B ls vs w) {b g : Nat} (hb : b < vs.length) {u : Value} {l : List Int} (hv : vs[b].ownBlock = some g)
    (hg : w.grownBy w1 (some g)) (ho : w1.ownsRow base 3 1 u l.length (l.map (Value.int .i64))) (hu : u.ownBlock = some g) (hl : (∀ x ∈ l, 0 ≤ x ∧ x < (N : Int)) ∧ l.length ≤ 8) :
    IN base GI S N B (ls.set b l) (vs.set b u) (w1.setCell ⟨GI, b, none⟩ u) := by
  have hGI := heap_of_cells h.hdr
  obtain ⟨hn1, hn2⟩ := h.nos b hb g hv
  have hh1 : w1.heap[GI]? = some (.cells vs.toArray 22 (0, 0)) := (hg.block GI hGI (by simp; omega)).trans h.hdr
  have hm : w1.grownBy (w1.setCell ⟨GI, b, none⟩ u) (some GI) := grownBy_setCell (g := GI) (p := ⟨GI, b, none⟩) (grownBy_refl _ _) (.inl rfl) u
  refine ⟨?_, by simpa using h.lv, by simpa using h.ll, fun c h1 h2 => ?_, fun c d h1 h2 q hcd hq => ?_, fun c h1 q hq => ?_, fun l' hl' => ?_, h.gi⟩
  · have := heap_setCell_same w1 GI b _ _ u hh1
    simpa using this
  · by_cases hbc : b = c
    · subst hbc
      simp only [List.getElem_set_self]
      exact ho.kept hm (.inr (by rw [hu]; simp; omega))
    · simp only [List.getElem_set_ne hbc]
      have h1' : c < vs.length := by simpa using h1
      exact ((h.row c h1' (by simpa using h2)).kept hg (.inr (fun e => h.apart b c hb h1' g hbc hv e))).kept hm (.inr (fun e => (h.nos c h1' GI e).1 rfl))
  · simp only [List.length_set] at h1 h2
    by_cases hbc : b = c
    · subst hbc
      simp only [List.getElem_set_self, hu] at hq
      rw [List.getElem_set_ne hcd]
      exact h.apart b d hb h2 q hcd (by rw [hv]; exact hq)
    · rw [List.getElem_set_ne hbc] at hq
      by_cases hbd : b = d
      · subst hbd
        simp only [List.getElem_set_self, hu]
        intro e2
        exact h.apart c b h1 hb q hcd hq (by rw [hv]; exact e2)
      · rw [List.getElem_set_ne hbd]
        exact h.apart c d h1 h2 q hcd hq
  · simp only [List.length_set] at h1
    by_cases hbc : b = c
    · subst hbc
      simp only [List.getElem_set_self, hu] at hq
      exact h.nos b hb q (by rw [hv]; exact hq)
    · rw [List.getElem_set_ne hbc] at hq
      exact h.nos c h1 q hq
  · rcases List.mem_or_eq_of_mem_set hl' with h' | h'
    · exact h.its l' h'
    · subst h'; exact hl
theorem PI.turn {base Pb GI S N B slots F cg : Nat} {vh : Value} {ls : List (List Int)} {vs : List Value} {w w1 : World} (h : PI base Pb GI S N B slots F vh cg ls vs w) {b g : Nat} (hb : b < vs.length) {u : Value} {l : List Int} (hv : vs[b].ownBlock = some g)
    (hg : w.grownBy w1 (some g)) (ho : w1.ownsRow base 3 1 u l.length (l.map (Value.int .i64))) (hu : u.ownBlock = some g) (hl : (∀ x ∈ l, 0 ≤ x ∧ x < (N : Int)) ∧ l.length ≤ 8) :
    PI base Pb GI S N B slots F vh cg (ls.set b l) (vs.set b u) (w1.setCell ⟨GI, b, none⟩ u) := by
  have hP := heap_of_cells h.blk
  refine ⟨h.inn.turn hb hv hg ho hu hl, ?_, fun hq => ?_, h.nS, h.nG⟩
  · rw [Below.heap_setCell _ _ _ _ (by have := h.nG; simpa using this), hg.block Pb hP (fun e => h.ne ⟨b, hb, by rw [hv]; exact e.symm⟩)]
    exact h.blk
  · rcases inV_set hq with e | e
    · exact h.ne e
    · exact h.ne ⟨b, hb, by rw [hv, ← hu]; exact e⟩
theorem FW.turn {S GI : Nat} {vs vs1 : List Value} {w w1 w2 : World} (h : FW S GI vs w vs1 w1) {b g : Nat} (hb : b < vs1.length) {u : Value} (hv : vs1[b].ownBlock = some g) (hg : w1.grownBy w2 (some g)) (hu : u.ownBlock = some g) :
    FW S GI vs w (vs1.set b u) (w2.setCell ⟨GI, b, none⟩ u) := by
  refine h.trans ⟨hg.os, hg.tape, hg.output, by have := hg.size; simp; omega, fun k h1 h2 h3 h4 => ?_, fun q hq => ?_⟩
  · rw [Below.heap_setCell _ _ _ _ (by simpa using h3), hg.block k h1 (fun e => h4 ⟨b, hb, by rw [hv]; exact e.symm⟩)]
  · rcases inV_set hq with e | e
    · exact .inl e
    · exact .inl ⟨b, hb, by rw [hv, ← hu]; exact e⟩
/-- the first k buckets without an item -/
def erU (i : Int) (ls : List (List Int)) (k : Nat) : List (List Int) := (ls.take k).map (·.erase i) ++ ls.drop k
theorem erU_len (i : Int) (ls : List (List Int)) (k : Nat) (hk : k ≤ ls.length) : (erU i ls k).length = ls.length := by simp [erU]; omega
theorem erU_at (i : Int) (ls : List (List Int)) (k : Nat) (hk : k < ls.length) (h : k < (erU i ls k).length) : (erU i ls k)[k] = ls[k] := by
  have h' : k < ((ls.take k).map (·.erase i) ++ ls.drop k).length := h
  show ((ls.take k).map (·.erase i) ++ ls.drop k)[k]'h' = ls[k]
  rw [List.getElem_append_right (by simp; omega), List.getElem_drop]
  congr 1
  simp
  omega
theorem erU_set (i : Int) (ls : List (List Int)) (k : Nat) (hk : k < ls.length) : (erU i ls k).set k (ls[k].erase i) = erU i ls (k + 1) := by
  unfold erU
  rw [List.set_append_right _ _ (by simp; omega)]
  rw [List.take_succ_eq_append_getElem hk, List.map_append, List.append_assoc, List.drop_eq_getElem_cons hk]
  congr 1
  have : k - (List.map (fun x => x.erase i) (List.take k ls)).length = 0 := by simp; omega
  rw [this]
  rfl
theorem erU_same (i : Int) (ls : List (List Int)) (k : Nat) (hk : k < ls.length) (h : i ∉ ls[k]) : erU i ls k = erU i ls (k + 1) := by
  rw [← erU_set i ls k hk, List.erase_of_not_mem h]
  have h1 : k < (erU i ls k).length := by rw [erU_len _ _ _ (by omega)]; exact hk
  have h2 := erU_at i ls k hk h1
  rw [← h2]
  exact (List.set_getElem_self h1).symm
set_option maxRecDepth 100000 in
set_option maxHeartbeats 8000000 in
theorem take_any (base Pb GI S N B slots F cg : Nat) (vh : Value) (i : Nat) (ls : List (List Int)) (vs : List Value) (w : World) (h : PI base Pb GI S N B slots F vh cg ls vs w) (hB : B ≤ 1000000) :
    Calls Try.prog 68 #[.pointer (some ⟨Pb, 0, none⟩), .int .i64 i] w fun e w' => ∃ vs', e = .returned (.tuple #[]) ∧ PI base Pb GI S N B slots F vh cg (ls.map (·.erase (i : Int))) vs' w' ∧ FW S GI vs w vs' w' := by
  have HP := Lib.hid h
  have hll := h.inn.ll
  obtain ⟨p0, p1, p2, p3⟩ := h.cells
  clear h
  go_enter Try.func68, Try.ntmps68
  go_wp2_with fail
  clear p0 p1 p2 p3
  go_loopw [12] (fun iv wr => ∃ (b : Nat) (vb : List Value), b ≤ B ∧ iv = .int .i64 b ∧ PI base Pb GI S N B slots F vh cg (erU (i : Int) ls b) vb wr ∧ FW S GI vs w vb wr) (fun iv _ => B - (intOf iv).toNat)
  case atStart => exact ⟨0, vs, Nat.zero_le _, rfl, by simpa [erU] using HP.out, FW.refl _ _ _ _⟩
  case round =>
    obtain ⟨b, vb, hb, rfl, hpi, hfw⟩ := hrel
    have HPI := Lib.hid hpi
    have HFW := Lib.hid hfw
    clear hpi hfw
    by_cases hlt : b < B
    · have hbl : b < ls.length := by omega
      have hbe : b < (erU (i : Int) ls b).length := by rw [erU_len _ _ _ (by omega)]; exact hbl
      have hbv : b < vb.length := by rw [HPI.out.inn.lv]; exact hlt
      have hrow := HPI.out.inn.row b hbv hbe
      rw [erU_at _ _ _ hbl hbe] at hrow
      obtain ⟨Ab, cb, eb⟩ := own_sl hrow
      obtain ⟨lb, elb⟩ : ∃ lb, lb = ls[b] := ⟨_, rfl⟩
      rw [← elb] at hrow eb
      have HELB := Lib.hid elb
      have hits : (∀ x ∈ lb, 0 ≤ x ∧ x < (N : Int)) ∧ lb.length ≤ 8 := by
        have h := HPI.out.inn.its _ (List.getElem_mem hbe)
        rw [erU_at _ _ _ hbl hbe, ← elb] at h
        exact h
      obtain ⟨g0, g1⟩ := HPI.out.inn.cells hbv
      rw [eb] at g0 hrow
      have HEB := Lib.hid eb
      have HROW := Lib.hid hrow
      have HITS := Lib.hid hits
      obtain ⟨p0, p1, p2, p3⟩ := HPI.out.cells
      have wb : IntKind.i64.wrap ((b : Int) + 1) = (b : Int) + 1 := by exact IntWalk.i64_in _ (by omega)
      have z0 : 0 ≤ (b : Int) := by omega
      have z1 : (b : Int) < (B : Int) := by omega
      have hl8 := hits.2
      clear hrow hits eb elb
      go_wp2_with fail
      (with_reducible refine (index_own lb (i : Int) _ wr (by omega) HROW.out).mono ?_)
      rintro e w2 ⟨rfl, hw2⟩
      subst hw2
      rcases erase_at lb (i : Int) with ⟨e1, hni⟩ | ⟨k, e1, hk, hin, he⟩
      · rw [e1]
        have HNI := Lib.hid hni
        clear e1 hni
        go_wp2_with fail
        go_roundw
        case rel => exact ⟨b + 1, vb, hlt, by go_num, by rw [← erU_same (i : Int) ls b hbl (by rw [← HELB.out]; exact HNI.out)]; exact HPI.out, HFW.out⟩
        case measure => simp [intOf]; omega
      · rw [e1]
        have HE := Lib.hid he
        have d0 : decide ((0 : Int) ≤ (k : Int)) = true := decide_eq_true (by omega)
        have wk : IntKind.i64.wrap ((k : Int) + 1) = (k : Int) + 1 := by exact IntWalk.i64_in _ (by omega)
        obtain ⟨g, cap, e, hg1, hg2⟩ := own_form HROW.out (by omega)
        injection e with e4 e5 e6
        subst e4 e6
        have hPG := HPI.out.nG
        have hGP := Ne.symm hPG
        have hgG : g ≠ GI := (HPI.out.inn.nos b hbv g (by rw [HEB.out]; rfl)).1
        have hgP : g ≠ Pb := fun e => HPI.out.ne ⟨b, hbv, by rw [HEB.out, ← e]; rfl⟩
        have hPl := heap_of_cells HPI.out.blk
        have hGl := heap_of_cells HPI.out.inn.hdr
        clear e1 he hin e5
        go_upto_region 5 with fail
        go_region_held3 (fun w' => w'.cell? ⟨Pb, 2, none⟩ = some (.slice (some ⟨GI, 0, none⟩) B cg)) (first | exact p2 | exact q9 | go_keep)
          (first
            | (go_at_call 80; refine (delete_own lb (i : Int) k _ (by omega) (by exact HROW.out) hk HE.out).mono ?_; rintro e w5 ⟨rfl, ho5, hg5⟩; have HO5 := Lib.hid ho5; have HG5 : Hid (w2.grownBy w5 (some g)) := (show Hid _ from ⟨hg5.os, hg5.tape, hg5.output, hg5.size, hg5.block⟩); have q9 := (HG5.out.cell_far ⟨Pb, 2, none⟩ hPl (by simp; omega)).trans p2; have c9 := (HG5.out.cell_far ⟨GI, b, none⟩ hGl (by simp; omega)).trans g0; have f9 := (HG5.out.frozen_far ⟨GI, b, none⟩ hGl (by simp; omega)).trans g1; clear ho5 hg5))
        go_wp2_with fail
        go_roundw
        case rel =>
          have hv : vb[b].ownBlock = some g := by rw [HEB.out]; rfl
          have h1 := HPI.out.turn (b := b) hbv hv HG5.out HO5.out rfl ⟨fun x hx => HITS.out.1 x (List.mem_of_mem_erase hx), by have := HITS.out.2; have := List.length_erase_le (a := (i : Int)) (l := lb); omega⟩
          have h2 := HFW.out.turn hbv hv HG5.out (u := .slice (some ⟨g, 0, none⟩) (lb.erase (i : Int)).length cb) rfl
          refine ⟨b + 1, _, hlt, by go_num, ?_, h2⟩
          rw [← erU_set (i : Int) ls b hbl, ← HELB.out]
          exact h1
        case measure => simp [intOf]; omega
    · have hbe : b = B := by omega
      go_wp2_with fail
      go_end0
      have h := HPI.out
      have e : erU (i : Int) ls b = ls.map (·.erase (i : Int)) := by unfold erU; rw [hbe, ← hll, List.take_length, List.drop_length]; simp
      rw [e] at h
      exact ⟨vb, rfl, h, HFW.out⟩
end Go.Proofs.Ytllnomembakboaa

namespace Go.Proofs.Ytllnomembakboaa
open Go.RowKit

section
variable {base Pb GI S N B slots F cg : Nat} {vh : Value} {ls : List (List Int)} {vs : List Value} {w w' : World}
theorem PI.on (h : PI base Pb GI S N B slots F vh cg ls vs w) (hb : Below w.heap.size w w') : PI base Pb GI S N B slots F vh cg ls vs w' :=
  ⟨⟨(hb.block GI (heap_of_cells h.inn.hdr)).trans h.inn.hdr, h.inn.lv, h.inn.ll, fun b h1 h2 => own_bel (h.inn.row b h1 h2) hb, h.inn.apart, h.inn.nos, h.inn.its, h.inn.gi⟩, (hb.block Pb (heap_of_cells h.blk)).trans h.blk, h.ne, h.nS, h.nG⟩
theorem PI.low (h : PI base Pb GI S N B slots F vh cg ls vs w) {base' : Nat} (hb : base' ≤ base) : PI base' Pb GI S N B slots F vh cg ls vs w :=
  ⟨⟨h.inn.hdr, h.inn.lv, h.inn.ll, fun b h1 h2 => own_lo (h.inn.row b h1 h2) hb, h.inn.apart, h.inn.nos, h.inn.its, Nat.le_trans hb h.inn.gi⟩, h.blk, h.ne, h.nS, h.nG⟩
theorem PI.free (h : PI base Pb GI S N B slots F vh cg ls vs w) {S' : Nat} (hS : w.heap.size ≤ S') : PI base Pb GI S' N B slots F vh cg ls vs w :=
  h.re (fun e => by have := h.lt e; omega) (by have := heap_of_cells h.blk; omega)
theorem PI.setF (h : PI base Pb GI S N B slots F vh cg ls vs w) (F' : Nat) : PI base Pb GI S N B slots F' vh cg ls vs (w.setCell ⟨Pb, 3, none⟩ (.int .i64 F')) := by
  have hm : w.grownBy (w.setCell ⟨Pb, 3, none⟩ (.int .i64 F')) (some Pb) := grownBy_setCell (g := Pb) (p := ⟨Pb, 3, none⟩) (grownBy_refl _ _) (.inl rfl) _
  refine ⟨h.inn.same Pb hm h.nG (fun b h1 e => h.ne ⟨b, h1, e⟩), ?_, h.ne, h.nS, h.nG⟩
  have := heap_setCell_same w Pb 3 _ _ (.int .i64 F') h.blk
  simpa using this
end
/-- one placing takes the buckets of another -/
theorem PI.swap {base base2 Pb Q GI G S S2 N B slots F F2 cg cg2 : Nat} {vh vh2 : Value} {ls ls2 : List (List Int)} {vs vs2 : List Value} {w : World} (h : PI base Pb GI S N B slots F vh cg ls vs w) (k : PI base2 Q G S2 N B slots F2 vh2 cg2 ls2 vs2 w) (hP : Pb < base2) {S' : Nat} (hS : w.heap.size ≤ S') :
    PI base2 Pb G S' N B slots F vh cg2 ls2 vs2 (w.setCell ⟨Pb, 2, none⟩ (.slice (some ⟨G, 0, none⟩) B cg2)) := by
  have hm : w.grownBy (w.setCell ⟨Pb, 2, none⟩ (.slice (some ⟨G, 0, none⟩) B cg2)) (some Pb) := grownBy_setCell (g := Pb) (p := ⟨Pb, 2, none⟩) (grownBy_refl _ _) (.inl rfl) _
  have hno : ¬ inV vs2 Pb := fun e => by have := k.lo _ e; omega
  have hG : Pb ≠ G := by have := k.inn.gi; omega
  have k2 := k.inn.same Pb hm hG (fun b h1 e => hno ⟨b, h1, e⟩)
  refine ⟨⟨k2.hdr, k2.lv, k2.ll, k2.row, k2.apart, fun b h1 q hq => ⟨(k2.nos b h1 q hq).1, by have := (k.inn.lt h1 hq).2; omega⟩, k2.its, k2.gi⟩, ?_, hno, by have := heap_of_cells h.blk; omega, hG⟩
  have := heap_setCell_same w Pb 2 _ _ (.slice (some ⟨G, 0, none⟩) B cg2) h.blk
  simpa using this
/-- what settle answers -/
def SeR (b0 Pb N B slots F : Nat) (vh : Value) (hs : List (List Int)) (i bn : Nat) (ls : List (List Int)) (w : World) (e : Ending) (w' : World) : Prop :=
  ∃ (r : Bool) (GI' cg' : Nat) (ls' : List (List Int)) (vs' : List Value), e = .returned (.bool r) ∧ PI b0 Pb GI' w'.heap.size N B slots F vh cg' ls' vs' w' ∧ w.grownBy w' (some Pb) ∧
    (r = true → SetT hs (fun _ => slots) i bn ls ls') ∧
    (r = false → ls' = ls ∧ ∀ o, Asg hs (fun _ => slots) o → o[i]? = some (bn : Int) → (∀ (c : Nat) (x : Int), x < (i : Int) → x ∈ bk ls c → o[x.toNat]? = some (c : Int)) → False)
theorem made_bools (n : Nat) (hn : n ≤ 1000000) (w : World) : (Instr.makeSlice 92 (.int .i64 n) (.int .i64 n)).run Try.prog w = .ok (.slice (some ⟨w.heap.size, 0, none⟩) n n) (w.alloc (.cells (Array.replicate n (Value.bool false)) 4)) := by
  obtain ⟨i0, hi0, hz0, hz1, hz2⟩ := info_parts boinfo
  have hrun := run_makeSlice (P := Try.prog) w 92 4 i0 _ Try.underlying92 hi0 hz0 .i64 .i64 n n (by omega) (Int.le_refl _) (by rw [hz1]; simp; omega) (by rw [hz2]; omega) (by omega)
  have hm : madeCells (Value.bool false).cells n = Array.replicate n (Value.bool false) := by
    apply Array.toList_inj.1
    rw [show (Value.bool false).cells = #[Value.bool false] from rfl, toList_madeCells_one]
    simp
  simp only [Int.toNat_natCast] at hrun
  rw [hz1, Nat.mul_one, hm] at hrun
  exact hrun
set_option maxRecDepth 100000 in
set_option maxHeartbeats 8000000 in
theorem settle_any (b0 Pb GI S N B slots F cg : Nat) (D : Nat → Prop) (vh : Value) (hs ls : List (List Int)) (vs : List Value) (w : World) (i bn : Nat) (h : PI b0 Pb GI S N B slots F vh cg ls vs w) (hr : ∀ l ∈ hs, ∀ x ∈ l, 0 ≤ x ∧ x < (B : Int)) (hN : hs.length = N) (hN2 : N ≤ 1000000) (hB : B ≤ 1000000) (hsl : slots ≤ 8)
    (hh : SLD D w vh hs) (hD : ∀ k, D k → k < w.heap.size) (hst : Stt hs (fun _ => slots) (upto N) ls) (hi : i < N) (hbn : bn < B) (hbm : (bn : Int) ∈ hf hs (i : Int)) :
    Calls Try.prog 54 #[.pointer (some ⟨Pb, 0, none⟩), .int .i64 i, .int .i64 bn] w (SeR b0 Pb N B slots F vh hs i bn ls w) := by
  subst hN
  obtain ⟨Ah, ch, rfl⟩ := hh.form
  have HP := Lib.hid h
  have HH := Lib.hid hh
  have HD := Lib.hid hD
  have HST := Lib.hid hst
  have HBM := Lib.hid hbm
  have HR := Lib.hid hr
  obtain ⟨p0, p1, p2, p3⟩ := h.cells
  have hll := h.inn.ll
  have hlv := h.inn.lv
  have hPl : Pb < w.heap.size := heap_of_cells h.blk
  have hbv : bn < vs.length := by omega
  have hbl : bn < ls.length := by omega
  have hrow := h.inn.row bn hbv hbl
  obtain ⟨Ab, cb, eb⟩ := own_sl hrow
  obtain ⟨g0, g1⟩ := h.inn.cells hbv
  obtain ⟨lb, elb⟩ : ∃ lb, lb = ls[bn] := ⟨_, rfl⟩
  rw [← elb] at eb hrow
  rw [eb] at g0 hrow
  have HROW := Lib.hid hrow
  have HELB : Hid (bk ls bn = lb) := (show Hid _ from by rw [bk_eq hbl]; exact elb.symm)
  have hl8 : lb.length ≤ 8 := by rw [elb]; exact (h.inn.its _ (List.getElem_mem hbl)).2
  have z0 : 0 ≤ (bn : Int) := by omega
  have z1 : (bn : Int) < (B : Int) := by omega
  clear h hh hD hst hbm hr hrow eb elb
  go_enter Try.func54, Try.ntmps54
  go_wp2_with fail
  (with_reducible refine (contains_own lb (i : Int) _ w (by omega) HROW.out).mono ?_)
  rintro e w2 ⟨rfl, hw2⟩
  subst hw2
  cases hcon : lb.contains (i : Int)
  · have HCON := Lib.hid hcon
    clear hcon
    go_wp2_with fail
    (with_reducible refine (twin_any b0 Pb GI S hs.length B slots F cg _ ls vs w2 HP.out hN2 hB Ah hs.length ch rfl).mono ?_)
    rintro e w3 ⟨G, vs3, rfl, hq3, hb3⟩
    have HQ3 := Lib.hid hq3
    have HB3 := Lib.hid hb3
    clear hq3 hb3
    go_wp2_with fail
    (with_reducible refine (take_any _ _ G w3.heap.size hs.length B slots F B _ i ls vs3 w3 HQ3.out hB).mono ?_)
    rintro e w4 ⟨vs4, rfl, hq4, hf4⟩
    have HB4 : Hid (Below w2.heap.size w2 w4) := (show Hid _ from HB3.out.trans (hf4.below HB3.out.size HB3.out.size (by have := HQ3.out.inn.gi; omega) (fun q hq => by have := HQ3.out.lo q hq; omega)))
    obtain ⟨q0, q1, q2, q3⟩ := hq4.cells
    have f3 := frozen_of_row w4 w2.heap.size 3 _ _ hq4.blk
    have wi : IntKind.i64.wrap ((i : Int) + 1) = (i : Int) + 1 := by exact IntWalk.i64_in _ (by omega)
    obtain ⟨w5, ew5⟩ : ∃ w5 : World, w5 = w4.setCell ⟨w2.heap.size, 3, none⟩ (.int .i64 ((i : Int) + 1)) := ⟨_, rfl⟩
    have HQ5 : Hid (PI (w2.heap.size + 1) w2.heap.size G w3.heap.size hs.length B slots (i + 1) (.slice Ah hs.length ch) B (ls.map (·.erase (i : Int))) vs4 w5) := (show Hid _ from by rw [ew5]; exact hq4.setF (i + 1))
    have HB5 : Hid (Below w2.heap.size w2 w5) := (show Hid _ from by rw [ew5]; exact HB4.out.setCell (Nat.le_refl _) _)
    clear hq4 hf4
    go_upto_region 6 with fail
    rw [← ew5]
    obtain ⟨r0, r1, r2, r3⟩ := HQ5.out.cells
    clear ew5 q0 q1 q2 q3 f3
    have hmb := made_bools B hB w5
    obtain ⟨w6, ew6⟩ : ∃ w6 : World, w6 = w5.alloc (.cells (Array.replicate B (Value.bool false)) 4) := ⟨_, rfl⟩
    obtain ⟨T, eT⟩ : ∃ T, T = w5.heap.size := ⟨_, rfl⟩
    have hz5 := HB5.out.size
    have hQ5l : w2.heap.size < w5.heap.size := heap_of_cells HQ5.out.blk
    have HQ6 : Hid (PI (w2.heap.size + 1) w2.heap.size G T hs.length B slots (i + 1) (.slice Ah hs.length ch) B (ls.map (·.erase (i : Int))) vs4 w6) := (show Hid _ from by rw [ew6, eT]; exact (HQ5.out.free (Nat.le_refl _)).alloc _)
    have HSN6 : Hid (SN T (List.replicate B false) w6) := (show Hid _ from by rw [ew6, eT]; exact SN.made _ _)
    have HB6 : Hid (Below w2.heap.size w2 w6) := (show Hid _ from by rw [ew6]; exact HB5.out.alloc hz5 _)
    have hz6 : w6.heap.size = T + 1 := by rw [ew6, eT]; simp
    have hT2 : w2.heap.size ≤ T := by omega
    have HLT : Hid (∀ q, inV vs4 q → q < T) := (show Hid _ from fun q hq => by rw [eT]; exact HQ5.out.lt hq)
    go_upto_region 7 with fail
    rw [← eT, ← ew6]
    clear hmb ew6 eT r0 r1 r2 r3
    obtain ⟨w7, ew7⟩ : ∃ w7 : World, w7 = w6.alloc (.cells #[.int .i64 bn] 3) := ⟨_, rfl⟩
    obtain ⟨R, eR⟩ : ∃ R, R = w6.heap.size := ⟨_, rfl⟩
    have hGl : G < w6.heap.size := heap_of_cells HQ6.out.inn.hdr
    have HQ7 : Hid (PI (w2.heap.size + 1) w2.heap.size G T hs.length B slots (i + 1) (.slice Ah hs.length ch) B (ls.map (·.erase (i : Int))) vs4 w7) := (show Hid _ from by rw [ew7]; exact HQ6.out.alloc _)
    have HSN7 : Hid (SN T (List.replicate B false) w7) := (show Hid _ from by rw [ew7]; exact (Below.heap_alloc _ _ _ (heap_of_cells HSN6.out)).trans HSN6.out)
    have HB7 : Hid (Below w2.heap.size w2 w7) := (show Hid _ from by rw [ew7]; exact HB6.out.alloc (by omega) _)
    have hz7 : w7.heap.size = R + 1 := by rw [ew7, eR]; simp
    have hgi := HQ7.out.inn.gi
    have HAP : Hid (Apart T G vs4 w7 (fun k => D k ∨ k = R)) := (show Hid _ from fun k hk => by
      rcases hk with hk | hk
      · have := HD.out k hk
        exact ⟨by omega, by omega, by omega, fun e => by have := HQ7.out.lo k e; omega⟩
      · subst hk
        exact ⟨by omega, by omega, by omega, fun e => by have := HLT.out k e; omega⟩)
    have HRW : Hid (SBD (fun k => D k ∨ k = R) w7 (.slice (some ⟨R, 0, none⟩) 1 1) [(bn : Int)]) := (show Hid _ from ⟨_, 1, rfl, Nat.le_refl _, by omega, fun _ => ⟨R, 0, rfl, .inr rfl, fun j hj => by
      have hj0 : j = 0 := by simpa using hj
      subst hj0
      rw [ew7, eR]
      exact cell_of_row _ w6.heap.size 0 _ _ _ (heap_alloc_new w6 _)⟩⟩)
    have HH7 : Hid (SLD (fun k => D k ∨ k = R) w7 (.slice Ah hs.length ch) hs) := (show Hid _ from (HH.out.keep (fun p hp => HB7.out.cell (HD.out _ hp))).imp (fun k hk => .inl hk))
    have hcall := put_any (w2.heap.size + 1) w2.heap.size hs.length B slots (i + 1) (fun k => D k ∨ k = R) hs HR.out rfl hN2 hB hsl (cf (List.replicate B false)) i [(bn : Int)] (ls.map (·.erase (i : Int))) vs4 (List.replicate B false) w7 (.slice Ah hs.length ch) (.slice (some ⟨R, 0, none⟩) 1 1) T G B B hi (fun x hx => by simp at hx; omega) (Nat.le_refl _) HH7.out HAP.out HQ7.out HSN7.out (by simp) HRW.out
    have HCALL := Lib.hid hcall
    have HW7 := Lib.hid ew7
    have HER := Lib.hid eR
    have hz7' : w2.heap.size ≤ w7.heap.size := HB7.out.size
    clear hcall ew7 eR hz6 hz7
    go_wp2_with fail
    rw [← HW7.out, ← HER.out]
    (with_reducible refine HCALL.out.mono ?_)
    rintro e w8 ⟨r, ls8, vs8, sn8, rfl, hq8, hsn8, hkp8, hf8, hret⟩
    have HQ8 := Lib.hid hq8
    have HRET := Lib.hid hret
    have HKP := Lib.hid hkp8
    have HB8 : Hid (Below w2.heap.size w2 w8) := (show Hid _ from HB7.out.trans (hf8.below (by omega) hT2 (by omega) (fun q hq => by have := HQ7.out.lo q hq; omega)))
    have hcs := hq8.cells
    have HPI8 : Hid (PI b0 Pb GI S hs.length B slots F (.slice Ah hs.length ch) cg ls vs w8) := (show Hid _ from HP.out.on HB8.out)
    have hz8 := HB8.out.size
    clear hq8 hret hkp8 hsn8 hf8
    cases r
    · go_wp2_with fail
      refine bodyPost_ret (v := .bool false) (by simp [results, Try.results54, go_sem]) rfl ?_
      obtain ⟨_, hpf, hit⟩ := HRET.out.1 rfl
      exact ⟨false, GI, cg, ls, vs, rfl, HPI8.out.free (Nat.le_refl _), grownBy_of_below HB8.out _, fun h => (by cases h), fun _ => ⟨rfl, fun o ha ho hfx => settle_false HST.out hi (by simpa using hll) (fun l hl x hx => (HR.out l hl x hx).1) hpf (by have := HKP.out.1; rw [List.length_replicate] at this; exact this) (by have := hit _ (List.mem_singleton.2 rfl); simpa using this) o ha ho hfx⟩⟩
    · obtain ⟨q0, q1, q2, q3⟩ := hcs
      obtain ⟨r0, r1, r2, r3⟩ := HPI8.out.cells
      have f2 := frozen_of_row w8 Pb 2 _ _ HPI8.out.blk
      go_wp2_with fail
      refine bodyPost_ret (v := .bool true) (by simp [results, Try.results54, go_sem]) rfl ?_
      refine ⟨true, G, B, ls8, vs8, rfl, ?_, grownBy_setCell (grownBy_of_below HB8.out _) (.inl rfl) _, fun _ => settle_true HST.out hi HBM.out (HRET.out.2 rfl), fun h => (by cases h)⟩
      have h := HPI8.out.swap HQ8.out (by omega) (Nat.le_refl _)
      have hsz : ∀ u, (w8.setCell ⟨Pb, 2, none⟩ u).heap.size = w8.heap.size := fun u => by simp
      rw [hsz]
      exact h.low (by have := HP.out.inn.gi; have := heap_of_cells HP.out.inn.hdr; omega)
  · have HCON := Lib.hid hcon
    clear hcon
    go_wp2_with fail
    refine bodyPost_ret (v := .bool true) (by simp [results, Try.results54, go_sem]) rfl ?_
    exact ⟨true, GI, cg, ls, vs, rfl, HP.out.free (Nat.le_refl _), grownBy_refl _ _, fun _ => ⟨HST.out, by rw [HELB.out]; exact List.contains_iff_mem.1 HCON.out, fun _ _ _ h => h⟩, fun h => (by cases h)⟩
end Go.Proofs.Ytllnomembakboaa
