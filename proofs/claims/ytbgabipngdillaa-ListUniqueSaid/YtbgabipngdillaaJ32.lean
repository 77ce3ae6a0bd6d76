/- Joined: Rv Dz. -/
import Derived.Test.YtbgabipngdillaaJ13
import Derived.Test.YtbgabipngdillaaJ31
import Derived.Test.YtbgabipngdillaaJ20
namespace Go.Proofs.Ytbgabipngdillaa
open Go.RowKit Go.Shelf Go.Sort Go.Lib

theorem sw_move {α : Type} [Inhabited α] {enc : α → Value} {s blk : Nat} {A : Value} {w W : World} {dk : Array α} (hA : A.ownBlock = some blk) (_hb : blk < w.heap.size) (h : SW enc w blk 0 dk W) : LMv s A w A W := by
  obtain ⟨n, os, rfl⟩ := h
  have h1 : LMv s A w A (putRow enc (Sort.ahead w n) blk 0 dk) := put_move (n := n) enc hA dk
  refine h1.trans (LMv.of_below ⟨rfl, rfl, rfl, ?_, fun k hk => ?_⟩)
  · unfold sortWorld
    rw [size_grow]
    omega
  · unfold sortWorld
    exact heap_grow_old _ _ hk
theorem sw_block {α : Type} [Inhabited α] {enc : α → Value} {blk k : Nat} {w W : World} {dk : Array α} (hne : ¬ blk = k) (_hb : blk < w.heap.size) (hk : k < w.heap.size) (h : SW enc w blk 0 dk W) : W.heap[k]? = w.heap[k]? := by
  obtain ⟨n, os, rfl⟩ := h
  have h1 : (putRow enc (Sort.ahead w n) blk 0 dk).heap[k]? = w.heap[k]? := put_block (n := n) enc hne dk
  unfold sortWorld
  rw [heap_grow_old]
  · exact h1
  · have : (putRow enc (Sort.ahead w n) blk 0 dk).heap.size = w.heap.size := by simp [putRow, mapBlock, Sort.ahead]
    omega
theorem ord_row {s blk n cap : Nat} {w : World} (hA : (Value.slice (some ⟨blk, 0, none⟩) n cap).ownBlock = some blk) (hb : blk < w.heap.size) {size : Nat} :
    OrdW s (venc (s := s) (A := .slice (some ⟨blk, 0, none⟩) n cap) (w := w)) vcf blk size w := fun _ _ _ hS x y =>
  (order_any (vkey x) (vkey y) _ _ _ _ ((x.sa.keep (sw_move hA hb hS)).si) ((y.sa.keep (sw_move hA hb hS)).si) x.len y.len).mono fun _ _ h => ⟨h.1, h.2.symm⟩
theorem SA.se {s z : Nat} {A : Value} {w : World} {v : Value} {l : List Int} (h : SA s A w v l) (hz : z ≤ s) : SE z w v l := by
  obtain ⟨P, c, rfl, hc, hm, hr, ha⟩ := h
  refine ⟨P, c, rfl, hc, hm, hr, fun h0 => ?_⟩
  obtain ⟨b, off, rfl, hsb, hb, _, hcell⟩ := ha h0
  exact ⟨b, off, rfl, hb, by omega, hcell⟩
theorem SA.form {s : Nat} {A : Value} {w : World} {v : Value} {l : List Int} (h : SA s A w v l) : ∃ P c, v = .slice P l.length c := by
  obtain ⟨P, c, rfl, _⟩ := h
  exact ⟨P, c, rfl⟩
/-- what the compaction leaves lies outside all blocks that were there before the search -/
theorem fin_sle {s blk cap n : Nat} {A : Value} {w w2 w3 : World} (hA : A.ownBlock = some blk) (hm : LMv s A w A w2) (hblk : blk < w.heap.size) (hsb : s < blk) (d1 : Array (VP s A w)) (hsz : d1.size = n) (hH : Holds venc w2 blk 0 d1) (hcap : n ≤ cap) (hcm : cap ≤ maxLen) {q : Nat}
    (hw3 : w3 = (putRow venc w2 blk 0 (cpu veq d1 d1.size ++ List.replicate (d1.size - (cpu veq d1 d1.size).length) (default : VP s A w)).toArray).drewN q) {z : Nat} (hz : z ≤ s) :
    SLE z w3 (.slice (some ⟨blk, 0, none⟩) (cpu veq d1 d1.size).length cap) ((cpu veq d1 d1.size).map vkey) := by
  have hlen : (cpu veq d1 d1.size).length ≤ d1.size := by
    have key : ∀ m, (cpu veq d1 m).length ≤ m := by
      intro m
      induction m with
      | zero => simp [cpu]
      | succ m ih =>
        show (cpu veq d1 m ++ _).length ≤ _
        rw [List.length_append]
        split <;> simp <;> omega
    exact key _
  have hsz2 : (cpu veq d1 d1.size ++ List.replicate (d1.size - (cpu veq d1 d1.size).length) (default : VP s A w)).toArray.size = d1.size := by simp; omega
  refine ⟨_, cap, by simp, by simp; omega, by simp only [maxLen] at hcm; omega, fun h0 => ⟨blk, 0, rfl, ?_, by omega, fun j hj => ?_⟩⟩
  · rw [hw3]
    have := (put_move (n := q) venc hA (cpu veq d1 d1.size ++ List.replicate (d1.size - (cpu veq d1 d1.size).length) (default : VP s A w)).toArray : LMv s A w2 A _).size
    have := hm.size
    omega
  · have hj' : j < (cpu veq d1 d1.size).length := by simpa using hj
    have h1 := (holds_putRow venc w2 blk 0 d1 _ hH hsz2 j (by rw [hsz2]; omega)).1
    rw [get_app _ _ j hj'] at h1
    have h2 := ((cpu veq d1 d1.size)[j].sa.keep hm).keep (put_move (n := q) venc hA (cpu veq d1 d1.size ++ List.replicate (d1.size - (cpu veq d1 d1.size).length) (default : VP s A w)).toArray)
    rw [← hw3] at h2
    obtain ⟨P, c, e⟩ := h2.form
    have h3 := h2.se hz
    rw [e] at h1 h3
    refine ⟨P, c, ?_, ?_⟩
    · rw [List.getElem_map, hw3]
      exact h1
    · rw [List.getElem_map]
      exact h3
theorem SLE.nil (z : Nat) (w : World) : SLE z w (.slice none 0 0) [] := ⟨none, 0, rfl, Nat.le_refl _, by omega, fun h => by simp at h⟩
theorem run_len {P : Int} {l : List (Int × Bool)} {k : Nat} {ag : Int} (hz : l.length ≤ 10) : (runS P l k ag).1.length ≤ 1024 := by
  have h1 := look_len P l ag (chs l k l.length []) ([], 0)
  have h2 := chs_len l k l.length []
  have h3 : 2 ^ l.length ≤ 2 ^ 10 := Nat.pow_le_pow_right (by omega) hz
  unfold runS
  simp only [List.length_nil] at h1
  omega

set_option maxRecDepth 100000 in
set_option maxHeartbeats 4000000 in
theorem runs_any (P : Int) (l : List (Int × Bool)) (k : Nat) (ag : Int) (vl : Value) (w : World) (hP : i64r P) (hl : SCl w vl l) (hz : l.length ≤ 10) (hk : k ≤ 1000) :
    Calls Try.prog 32 #[.agg #[.int .i64 P], vl, .int .i64 k, .int .i64 ag] w fun e w' => ∃ v rs, e = .returned (.tuple #[v, .int .i64 (runS P l k ag).2]) ∧ (∀ z, z < w.heap.size → SLE z w' v rs) ∧ Asc rs ∧ (∀ p, p ∈ rs ↔ p ∈ (runS P l k ag).1) ∧ Below w.heap.size w w' := by
  have HL := Lib.hid hl
  have H12 : Hid ((runS P l k ag).1.length ≤ 1024) := (show Hid _ from run_len hz)
  obtain ⟨Al, cl, rfl⟩ := hl.form
  obtain ⟨mst, hms⟩ : ∃ mst, (runS P l k ag).2 = mst := ⟨_, rfl⟩
  have HMS := Lib.hid hms
  rw [hms]
  clear hl hms
  go_enter Try.func32, Try.ntmps32
  go_upto_region 2 with fail
  obtain ⟨wa, ewa⟩ : ∃ wa : World, wa = w.alloc (.cells #[.int .i64 P] 26) := ⟨_, rfl⟩
  obtain ⟨wb, ewb⟩ : ∃ wb : World, wb = (w.alloc (.cells #[.int .i64 P] 26)).alloc (.cells #[.int .i64 P, .slice Al l.length cl, .int .i64 k, .int .i64 ag, .slice none 0 0, .int .i64 0] 101) := ⟨_, rfl⟩
  have hBb : Below w.heap.size w wb := by rw [ewb]; exact ((Below.refl _ w).alloc (Nat.le_refl _) _).alloc (by simp) _
  have hTb : LSt (w.heap.size + 1) P (.slice Al l.length cl) k ag wb (.slice none 0 0) [] 0 := by
    refine ⟨?_, [], World.ownsRow_nil _ _ _ _, fun j h1 h2 => by simp at h1⟩
    rw [ewb]
    have := heap_alloc_new (w.alloc (.cells #[.int .i64 P] 26)) (.cells #[.int .i64 P, .slice Al l.length cl, .int .i64 k, .int .i64 ag, .slice none 0 0, .int .i64 0] 101)
    simpa using this
  have HBb := Lib.hid hBb
  have HTb := Lib.hid hTb
  rw [← ewb]
  clear ewa ewb hBb hTb
  obtain ⟨s, hs⟩ : ∃ s, w.heap.size + 1 = s := ⟨_, rfl⟩
  have HS := Lib.hid hs
  rw [hs] at HTb ⊢
  clear hs
  have hch := choose_any P l k ag s (.slice Al l.length cl) w hP HL.out (by have := HS.out; omega) (by omega) hk l.length [] (.slice none 0 0) (.slice none 0 0) [] 0 wb (Nat.le_refl _) (Nat.zero_le _) HBb.out HTb.out
    ⟨none, 0, rfl, Nat.le_refl _, by omega, by simp, fun _ => ⟨rfl, rfl⟩, fun h => by simp at h⟩ (by
      have : 2 ^ l.length ≤ 2 ^ 10 := Nat.pow_le_pow_right (by omega) hz
      simp only [List.length_nil]
      omega)
  rw [Nat.sub_self, show ((0 : Nat) : Int) = 0 from rfl] at hch
  have HCH := Lib.hid hch
  clear hch
  go_wp2_with fail
  (with_reducible refine HCH.out.mono ?_)
  rintro e w1 ⟨rfl, A1, hT1, hM1⟩
  have HT1 : Hid (LSt s P (.slice Al l.length cl) k ag w1 A1 (runS P l k ag).1 (runS P l k ag).2) := hT1
  have HM1 := Lib.hid hM1
  clear hT1 hM1 HCH
  have hsw : s < w1.heap.size := HT1.out.lt.1
  have q4 : w1.cell? ⟨s, 4, none⟩ = some A1 := cell_of_row w1 s 4 _ _ _ HT1.out.cells
  have q5 : w1.cell? ⟨s, 5, none⟩ = some (.int .i64 (runS P l k ag).2) := cell_of_row w1 s 5 _ _ _ HT1.out.cells
  have HB1 : Hid (Below w.heap.size w w1) := HBb.out.trans (HM1.out.below (fun g hg => (HTb.out.lt.2 g hg).1) (by have := HS.out; omega) (Nat.le_of_lt HTb.out.lt.1))
  obtain ⟨ps, hps⟩ : ∃ ps, (runS P l k ag).1 = ps := ⟨_, rfl⟩
  have HTF : Hid (∀ p ∈ ps, trim p = p ∧ p.length ≤ k) := by show ∀ p ∈ ps, _; rw [← hps]; exact trim_found
  have HPS0 := Lib.hid hps
  rw [hps] at HT1 H12
  clear hps
  obtain ⟨vs, ho, hv⟩ := HT1.out.own
  obtain ⟨xs, hx1, hx2⟩ := vps vs ps (by have := ho.1; omega) hv (fun p hp => by have := (HTF.out p hp).2; omega)
  have hxl : xs.length = ps.length := by rw [← hx2]; simp
  rw [HMS.out] at q5 HT1
  have HT1 := HT1.out
  have HT2 := Lib.hid HT1
  clear HT1
  rcases ho.2 with ⟨rfl, h0⟩ | ⟨g, cap, cur, rfl, hgs, hgl, _⟩
  · have hrs : ps = [] := List.eq_nil_of_length_eq_zero h0
    have HRS := Lib.hid hrs
    clear hrs h0 hx1 hx2 hxl ho hv
    go_wp2_with fail
    (with_reducible refine (sort_nil _ _ _).mono ?_)
    rintro e w2 ⟨rfl, rfl⟩
    go_wp2_with fail
    go_region_held3 (fun w' => w'.cell? ⟨s, 4, none⟩ = some (.slice none 0 0) ∧ w'.cell? ⟨s, 5, none⟩ = some (.int .i64 mst)) (first | exact ⟨q4, q5⟩ | exact ⟨t4, t5⟩ | go_keep)
      (first | (go_at_call 58; refine (compact_nil _ _).mono ?_; rintro e w3 ⟨rfl, rfl⟩; have t4 := q4; have t5 := q5))
    go_wp2_with fail
    refine bodyPost_ret (v := .tuple #[.slice none 0 0, .int .i64 mst]) (by simp [results, Try.results32, go_sem]) rfl ⟨_, [], rfl, fun z _ => SLE.nil z _, List.Pairwise.nil, fun p => by rw [HPS0.out, HRS.out], HB1.out.drew⟩
  · rw [← hx1] at ho
    obtain ⟨hH, hxn, hnc, hcm, hbl⟩ := holds_own ho
    have HPS := Lib.hid hx2
    have h12 := H12.out
    clear hx1 hx2 hv H12 ho
    have hds : xs.toArray.size = ps.length := by simpa using hxl
    have hAo : (Value.slice (some ⟨g, 0, none⟩) ps.length cap).ownBlock = some g := rfl
    have hsort := sorts_any s venc vcf vswo g cap xs.toArray w1 (ord_row hAo hbl) ⟨venc_one, hH, hbl⟩ (by omega)
    rw [hds] at hsort
    have HSO := Lib.hid hsort
    have HH := Lib.hid hH
    have HXS := Lib.hid hds
    have hgne : ¬ g = s := by omega
    clear hsort hH hds hxl hxn
    go_wp2_with fail
    (with_reducible refine HSO.out.mono ?_)
    rintro e w2 ⟨rfl, d1, hpm, hso, hsw⟩
    have hs1 : d1.size = ps.length := hpm.1.trans HXS.out
    have HS1 := Lib.hid hs1
    have HPM := Lib.hid hpm
    have HST := Lib.hid hso
    have HSW := Lib.hid hsw
    clear hs1 hpm hso hsw
    have hm2 : LMv s (.slice (some ⟨g, 0, none⟩) ps.length cap) w1 (.slice (some ⟨g, 0, none⟩) ps.length cap) w2 := sw_move hAo hbl HSW.out
    have t4 : w2.cell? ⟨s, 4, none⟩ = some (.slice (some ⟨g, 0, none⟩) ps.length cap) := (World.cell?_of_block (sw_block hgne hbl hsw HSW.out)).trans q4
    have t5 : w2.cell? ⟨s, 5, none⟩ = some (.int .i64 mst) := (World.cell?_of_block (sw_block hgne hbl hsw HSW.out)).trans q5
    have HM2 : Hid (LMv s (.slice (some ⟨g, 0, none⟩) ps.length cap) w1 (.slice (some ⟨g, 0, none⟩) ps.length cap) w2.drew) := (show Hid _ from sw_move hAo hbl (HSW.out.drewN 1))
    have HH2 : Hid (Holds venc w2.drew g 0 d1) := (show Hid _ from (HSW.out.drewN 1).holds hbl HH.out (by rw [HS1.out, HXS.out]))
    clear hm2
    have hcp := compact_any _ rfl venc venc_one veq default rfl g cap d1 w2.drew (eq_row hAo HM2.out) HH2.out (by rw [HS1.out]; omega) (by rw [HS1.out]; omega) hcm
    rw [HS1.out] at hcp
    have HCP := Lib.hid hcp
    clear hcp q4 q5
    go_wp2_with fail
    go_region_held3 (fun w' => w'.cell? ⟨s, 4, none⟩ = some (.slice (some ⟨g, 0, none⟩) ps.length cap) ∧ w'.cell? ⟨s, 5, none⟩ = some (.int .i64 mst)) (first | exact ⟨t4, t5⟩ | exact ⟨x4, x5⟩ | go_keep)
      (first | (go_at_call 58; refine HCP.out.mono ?_; rintro e w3 ⟨rfl, q3, hw3⟩; have HW3 := Lib.hid hw3; have x4 : w3.cell? ⟨s, 4, none⟩ = some (.slice (some ⟨g, 0, none⟩) ps.length cap) := (by rw [hw3]; exact (World.cell?_of_block (put_block venc hgne _)).trans t4); have x5 : w3.cell? ⟨s, 5, none⟩ = some (.int .i64 mst) := (by rw [hw3]; exact (World.cell?_of_block (put_block venc hgne _)).trans t5); clear hw3))
    all_goals
      have HF : Hid ((∀ z, z < w.heap.size → SLE z w3 (.slice (some ⟨g, 0, none⟩) (cpu veq d1 ps.length).length cap) ((cpu veq d1 ps.length).map vkey)) ∧ Asc ((cpu veq d1 ps.length).map vkey) ∧ (∀ p, p ∈ (cpu veq d1 ps.length).map vkey ↔ p ∈ ps)) := by
        have h := fin_row (w3 := w3) (cap := cap) hAo HM2.out hbl xs.toArray d1 HXS.out HPM.out HST.out HH2.out hnc hcm (q := q3) (by rw [HS1.out]; exact HW3.out) (fun x hx => by
          have hxp : vkey x ∈ ps := mem_of_map HPS.out (by simpa using hx)
          exact (HTF.out _ hxp).1)
        rw [HS1.out] at h
        refine ⟨fun z hz => ?_, h.2.1, fun p => (h.2.2 p).trans ?_⟩
        · have h := fin_sle (w3 := w3) (cap := cap) hAo HM2.out hbl (by omega) d1 HS1.out HH2.out hnc hcm (q := q3) (by rw [HS1.out]; exact HW3.out) (z := z) (by have := HS.out; omega)
          rw [HS1.out] at h
          exact h
        · exact mem_map_iff HPS.out p
      have HBF : Hid (Below w.heap.size w w3) := by
        refine HB1.out.trans ?_
        have hz1 := HB1.out.size
        have h2 := HM2.out.below (fun g' hg' => by rw [hAo] at hg'; injection hg' with hg'; omega) (B := w.heap.size) (by have := HS.out; omega) (Nat.le_of_lt hsw)
        have h3 := (put_move (n := q3) venc hAo (cpu veq d1 ps.length ++ List.replicate (ps.length - (cpu veq d1 ps.length).length) default).toArray : LMv s _ w2.drew _ _).below (fun g' hg' => by rw [hAo] at hg'; injection hg' with hg'; omega) (B := w.heap.size) (by have := HS.out; omega) (by have := h2.size; omega)
        rw [HW3.out]
        exact h2.trans h3
      clear x4 x5 t4 t5
      go_wp2_with fail
      refine bodyPost_ret (v := .tuple #[.slice (some ⟨g, 0, none⟩) (cpu veq d1 ps.length).length cap, .int .i64 mst]) (by simp [results, Try.results32, go_sem]) rfl ⟨_, _, rfl, HF.out.1, HF.out.2.1, fun p => by rw [HPS0.out]; exact HF.out.2.2 p, HBF.out⟩
end Go.Proofs.Ytbgabipngdillaa

namespace Go.Proofs.Ytbgabipngdillaa
open Go.RowKit Go.Shelf Go.Sort Go.Lib

set_option maxRecDepth 100000 in
set_option maxHeartbeats 4000000 in
theorem decodes_any (P : Int) (l : List (Int × Bool)) (k ag : Int) (vl : Value) (w : World) (hP : i64r P) (hl : SCl w vl l) (hz : l.length ≤ 1000000) :
    Calls Try.prog 12 #[.agg #[.int .i64 P], vl, .int .i64 k, .int .i64 ag] w fun e w' => ∃ v rs, e = .returned (.tuple #[v, .int .i64 (deE P l k ag)]) ∧ (∀ z, z < w.heap.size → SLE z w' v rs) ∧ Asc rs ∧ (∀ p, p ∈ rs ↔ deE P l k ag = 0 ∧ p ∈ (runS P l k.toNat ag).1) ∧ Below w.heap.size w w' := by
  have HL := Lib.hid hl
  obtain ⟨Al, cl, rfl⟩ := hl.form
  clear hl
  go_enter Try.func12, Try.ntmps12
  go_upto_region 1 with fail
  obtain ⟨w0, ew⟩ : ∃ w0 : World, w0 = w.alloc (.cells #[.int .i64 P] 26) := ⟨_, rfl⟩
  have hB0 : Below w.heap.size w w0 := by rw [ew]; exact (Below.refl _ _).alloc (Nat.le_refl _) _
  have hz0 : w.heap.size < w0.heap.size := by rw [ew]; simp
  have b0 : w0.cell? ⟨w.heap.size, 0, none⟩ = some (.int .i64 P) := by rw [ew]; simp [go_sem]
  rw [← ew]
  clear ew
  have HS0 := Lib.hid (HL.out.below hB0)
  go_wp2_with fail
  (with_reducible refine (fill_any P l k _ _ hP HS0.out hz).mono ?_)
  rintro e w1 ⟨v1, rfl, _, hb1⟩
  have HB1 := Lib.hid (hB0.trans (hb1.mono hB0.size))
  have hz1 := hb1.size
  have c0 := (hb1.cell (p := ⟨w.heap.size, 0, none⟩) (by show w.heap.size < _; omega)).trans b0
  clear b0
  obtain ⟨fe, hfe⟩ : ∃ fe, fiE P l k = fe := ⟨_, rfl⟩
  have HFE := Lib.hid hfe
  rw [hfe]
  clear hfe
  by_cases h1 : fe ≠ 0 ∧ fe ≠ 11
  · have HE : Hid (deE P l k ag = fe) := by show _ = _; unfold deE; rw [HFE.out, if_pos h1]
    have ha : (fe == 0) = false := by rw [beq_eq_false_iff_ne]; exact h1.1
    have hb : (fe == 11) = false := by rw [beq_eq_false_iff_ne]; exact h1.2
    have ha2 : (fe != 0) = true := by rw [bne_iff_ne]; exact h1.1
    have hb2 : (fe != 11) = true := by rw [bne_iff_ne]; exact h1.2
    have hne : fe ≠ 0 := h1.1
    have HNE := Lib.hid hne
    clear h1 hne
    go_wp2_with fail
    refine bodyPost_ret (v := .tuple #[.slice none 0 0, .int .i64 fe]) (by simp [results, Try.results12, go_sem]) rfl ⟨_, [], by rw [HE.out], fun z _ => SLE.nil z _, List.Pairwise.nil, fun p => ⟨fun h => by simp at h, fun h => by rw [HE.out] at h; exact absurd h.1 HNE.out⟩, HB1.out⟩
  · have hk := fi_k (P := P) (l := l) (k := k) (by rw [HFE.out]; omega)
    obtain ⟨kn, rfl⟩ : ∃ kn : Nat, k = kn := ⟨k.toNat, by omega⟩
    have hd : decide (fe = 0) = true ∨ fe = 11 := by
      by_cases h : fe = 0
      · exact .inl (decide_eq_true h)
      · exact .inr (by omega)
    have hg : ((fe != 0) && (fe != 11)) = false := by
      rcases (by omega : fe = 0 ∨ fe = 11) with h | h
      · subst h; rfl
      · subst h; rfl
    have HS1 := Lib.hid (HS0.out.below hb1)
    have hor : fe = 0 ∨ fe = 11 := by omega
    have HOR := Lib.hid h1
    clear h1 hd hg
    by_cases h2 : 10 < l.length
    · have HE : Hid (deE P l kn ag = 4) := by show _ = _; unfold deE; rw [HFE.out, if_neg HOR.out, if_pos h2]
      have hx : decide (10 < (l.length : Int)) = true := decide_eq_true (by omega)
      rcases hor with rfl | rfl
      all_goals
        go_wp2_with fail
        refine bodyPost_ret (v := .tuple #[.slice none 0 0, .int .i64 4]) (by simp [results, Try.results12, go_sem]) rfl ⟨_, [], by rw [HE.out], fun z _ => SLE.nil z _, List.Pairwise.nil, fun p => ⟨fun h => by simp at h, fun h => by rw [HE.out] at h; exact absurd h.1 (by omega)⟩, HB1.out⟩
    · have hx : decide (10 < (l.length : Int)) = false := decide_eq_false (by omega)
      by_cases h3 : ag < kn ∨ (l.length : Int) < ag
      · have HE : Hid (deE P l kn ag = 1) := by show _ = _; unfold deE; rw [HFE.out, if_neg HOR.out, if_neg h2, if_pos h3]
        by_cases h4 : ag < kn
        · have hy : decide (ag < (kn : Int)) = true := decide_eq_true h4
          clear h3
          rcases hor with rfl | rfl
          all_goals
            go_wp2_with fail
            refine bodyPost_ret (v := .tuple #[.slice none 0 0, .int .i64 1]) (by simp [results, Try.results12, go_sem]) rfl ⟨_, [], by rw [HE.out], fun z _ => SLE.nil z _, List.Pairwise.nil, fun p => ⟨fun h => by simp at h, fun h => by rw [HE.out] at h; exact absurd h.1 (by omega)⟩, HB1.out⟩
        · have hy : decide (ag < (kn : Int)) = false := decide_eq_false h4
          have hy2 : decide ((l.length : Int) < ag) = true := decide_eq_true (by omega)
          clear h3
          rcases hor with rfl | rfl
          all_goals
            go_wp2_with fail
            refine bodyPost_ret (v := .tuple #[.slice none 0 0, .int .i64 1]) (by simp [results, Try.results12, go_sem]) rfl ⟨_, [], by rw [HE.out], fun z _ => SLE.nil z _, List.Pairwise.nil, fun p => ⟨fun h => by simp at h, fun h => by rw [HE.out] at h; exact absurd h.1 (by omega)⟩, HB1.out⟩
      · have HE : Hid (deE P l kn ag = 0) := by show _ = _; unfold deE; rw [HFE.out, if_neg HOR.out, if_neg h2, if_neg h3]
        have hy : decide (ag < (kn : Int)) = false := decide_eq_false (by omega)
        have hy2 : decide ((l.length : Int) < ag) = false := decide_eq_false (by omega)
        have hrun := runs_any P l kn ag _ w1 hP HS1.out (by omega) (by omega)
        have HRUN := Lib.hid hrun
        clear h3 hrun
        rcases hor with rfl | rfl
        all_goals
          go_wp2_with fail
          (with_reducible refine HRUN.out.mono ?_)
          rintro e w2 ⟨v2, rs, rfl, hRL, hA, hm, hb2⟩
          go_wp2_with fail
          refine bodyPost_ret (v := .tuple #[v2, .int .i64 0]) (by simp [results, Try.results12, go_sem]) rfl ⟨_, rs, by rw [HE.out], fun z hz => hRL z (by have := HB1.out.size; omega), hA, fun p => (hm p).trans ⟨fun h => ⟨HE.out, h⟩, fun h => h.2⟩, HB1.out.trans (hb2.mono HB1.out.size)⟩
set_option maxRecDepth 100000 in
set_option maxHeartbeats 4000000 in
theorem nearests_any (P : Int) (l : List (Int × Bool)) (k : Int) (vl : Value) (w : World) (hP : i64r P) (hl : SCl w vl l) (hz : l.length ≤ 1000000) :
    Calls Try.prog 16 #[.agg #[.int .i64 P], vl, .int .i64 k] w fun e w' => ∃ v rs, e = .returned (.tuple #[v, .int .i64 (neM P l k), .int .i64 (neE P l k)]) ∧ (∀ z, z < w.heap.size → SLE z w' v rs) ∧ Asc rs ∧ (∀ p, p ∈ rs ↔ neE P l k = 0 ∧ p ∈ (runS P l k.toNat (neM P l k)).1) ∧ Below w.heap.size w w' := by
  have HL := Lib.hid hl
  obtain ⟨Al, cl, rfl⟩ := hl.form
  clear hl
  go_enter Try.func16, Try.ntmps16
  go_upto_region 1 with fail
  obtain ⟨w0, ew⟩ : ∃ w0 : World, w0 = w.alloc (.cells #[.int .i64 P] 26) := ⟨_, rfl⟩
  have hB0 : Below w.heap.size w w0 := by rw [ew]; exact (Below.refl _ _).alloc (Nat.le_refl _) _
  have hz0 : w.heap.size < w0.heap.size := by rw [ew]; simp
  have b0 : w0.cell? ⟨w.heap.size, 0, none⟩ = some (.int .i64 P) := by rw [ew]; simp [go_sem]
  rw [← ew]
  clear ew
  have HS0 := Lib.hid (HL.out.below hB0)
  go_wp2_with fail
  (with_reducible refine (fill_any P l k _ _ hP HS0.out hz).mono ?_)
  rintro e w1 ⟨v1, rfl, _, hb1⟩
  have HB1 := Lib.hid (hB0.trans (hb1.mono hB0.size))
  have hz1 := hb1.size
  have hzl : w.heap.size < w1.heap.size := by omega
  have c0 := (hb1.cell (p := ⟨w.heap.size, 0, none⟩) (by show w.heap.size < _; omega)).trans b0
  clear b0
  obtain ⟨fe, hfe⟩ : ∃ fe, fiE P l k = fe := ⟨_, rfl⟩
  have HFE := Lib.hid hfe
  rw [hfe]
  clear hfe
  by_cases h1 : fe = 0
  · subst h1
    have hk := fi_k (P := P) (l := l) (k := k) (.inl HFE.out)
    obtain ⟨kn, rfl⟩ : ∃ kn : Nat, k = kn := ⟨k.toNat, by omega⟩
    have HS1 := Lib.hid (HS0.out.below hb1)
    by_cases h2 : 10 < l.length
    · have HE : Hid (neE P l kn = 4) := by show _ = _; unfold neE; rw [HFE.out, if_neg (by omega), if_pos h2]
      have HM : Hid (neM P l kn = 0) := by show _ = _; unfold neM; rw [HE.out, if_neg (by omega)]
      have hx : decide (10 < (l.length : Int)) = true := decide_eq_true (by omega)
      go_wp2_with fail
      refine bodyPost_ret (v := .tuple #[.slice none 0 0, .int .i64 0, .int .i64 4]) (by simp [results, Try.results16, go_sem]) rfl ⟨_, [], by rw [HE.out, HM.out], fun z _ => SLE.nil z _, List.Pairwise.nil, fun p => ⟨fun h => by simp at h, fun h => by rw [HE.out] at h; exact absurd h.1 (by omega)⟩, HB1.out⟩
    · have hx : decide (10 < (l.length : Int)) = false := decide_eq_false (by omega)
      have HE : Hid (neE P l kn = 0) := by show _ = _; unfold neE; rw [HFE.out, if_neg (by omega), if_neg h2]
      have HM : Hid (neM P l kn = (runS P l kn ((l.length : Int) + 1)).2) := by show _ = _; unfold neM; rw [HE.out, if_pos rfl]; rfl
      obtain ⟨mst, hmst⟩ : ∃ m, neM P l kn = m := ⟨_, rfl⟩
      rw [hmst] at HM
      have HMS := Lib.hid hmst
      have hrun := runs_any P l kn ((l.length : Int) + 1) _ w1 hP HS1.out (by omega) (by omega)
      rw [← HM.out] at hrun
      have HR := Lib.hid hrun
      clear hrun hmst
      go_wp2_with fail
      (with_reducible refine HR.out.mono ?_)
      rintro e w2 ⟨v2, rs2, rfl, _, _, _, hb2⟩
      have HS2 := Lib.hid (HS1.out.below hb2)
      have c2 := (hb2.cell (p := ⟨w.heap.size, 0, none⟩) hzl).trans c0
      have HB2 := Lib.hid hb2
      clear c0 hb2
      go_wp2_with fail
      (with_reducible refine (runs_any P l kn mst _ w2 hP HS2.out (by omega) (by omega)).mono ?_)
      rintro e w3 ⟨v3, rs, rfl, hRL, hA, hm, hb3⟩
      go_wp2_with fail
      refine bodyPost_ret (v := .tuple #[v3, .int .i64 mst, .int .i64 0]) (by simp [results, Try.results16, go_sem]) rfl ⟨_, rs, by rw [HE.out, HMS.out], fun z hz => hRL z (by have := HB1.out.size; have := HB2.out.size; omega), hA, fun p => (hm p).trans ⟨fun h => ⟨HE.out, by rw [HMS.out]; exact h⟩, fun h => by have := h.2; rw [HMS.out] at this; exact this⟩, HB1.out.trans ((HB2.out.mono HB1.out.size).trans (hb3.mono (Nat.le_trans HB1.out.size HB2.out.size)))⟩
  · have HE : Hid (neE P l k = fe) := by show _ = _; unfold neE; rw [HFE.out, if_pos h1]
    have HM : Hid (neM P l k = 0) := by show _ = _; unfold neM; rw [HE.out, if_neg h1]
    have ha2 : (fe != 0) = true := by rw [bne_iff_ne]; exact h1
    have HNE := Lib.hid h1
    clear h1
    go_wp2_with fail
    refine bodyPost_ret (v := .tuple #[.slice none 0 0, .int .i64 0, .int .i64 fe]) (by simp [results, Try.results16, go_sem]) rfl ⟨_, [], by rw [HE.out, HM.out], fun z _ => SLE.nil z _, List.Pairwise.nil, fun p => ⟨fun h => by simp at h, fun h => by rw [HE.out] at h; exact absurd h.1 HNE.out⟩, HB1.out⟩
end Go.Proofs.Ytbgabipngdillaa
