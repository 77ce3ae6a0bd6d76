/- Joined: Ru. -/
import Derived.Deep.RegionHeld3
import Derived.Test.YtbgabipngdillaaZ14
namespace Go.Proofs.Ytbgabipngdillaa
open Go.RowKit Go.Shelf Go.Sort Go.Lib

theorem order_row {s blk n cap : Nat} {w : World} (hA : (Value.slice (some ⟨blk, 0, none⟩) n cap).ownBlock = some blk) {size : Nat} :
    OrdAt s (venc (s := s) (A := .slice (some ⟨blk, 0, none⟩) n cap) (w := w)) vcf blk size w := fun dk x y _ _ =>
  order_any (vkey x) (vkey y) _ _ _ _ ((x.sa.keep (put_move venc hA dk)).si) ((y.sa.keep (put_move venc hA dk)).si) x.len y.len
theorem eq_row {s blk : Nat} {A : Value} {w w2 : World} (hA : A.ownBlock = some blk) (hm : LMv s A w A w2) {size : Nat} :
    EqAt 59 (venc (s := s) (A := A) (w := w)) veq blk size w2 := fun dk x y _ _ =>
  run1_any (vkey x) (vkey y) _ _ _ (((x.sa.keep hm).keep (put_move venc hA dk)).si) (((y.sa.keep hm).keep (put_move venc hA dk)).si) x.len y.len
theorem get_app {α : Type} [Inhabited α] (a b : List α) (j : Nat) (h : j < a.length) : (a ++ b).toArray[j]! = a[j] := by
  rw [getElem!_pos _ j (by simp; omega)]
  simp [h]
/-- what the compaction leaves of the sorted row -/
theorem fin_row {s blk cap n : Nat} {A : Value} {w w2 w3 : World} (hA : A.ownBlock = some blk) (hm : LMv s A w A w2) (hblk : blk < w.heap.size) (xs d1 : Array (VP s A w)) (hn : xs.size = n) (hp : PermIn 0 n xs d1) (hs : SortedIn (ltOf vcf) 0 n d1) (hH : Holds venc w2 blk 0 d1) (hcap : n ≤ cap) (hcm : cap ≤ maxLen) {q : Nat}
    (hw3 : w3 = (putRow venc w2 blk 0 (cpu veq d1 d1.size ++ List.replicate (d1.size - (cpu veq d1 d1.size).length) (default : VP s A w)).toArray).drewN q) (ht : ∀ x ∈ xs.toList, trim (vkey x) = vkey x) :
    RL w3 (.slice (some ⟨blk, 0, none⟩) (cpu veq d1 d1.size).length cap) ((cpu veq d1 d1.size).map vkey) ∧ Asc ((cpu veq d1 d1.size).map vkey) ∧ (∀ p, p ∈ (cpu veq d1 d1.size).map vkey ↔ p ∈ xs.toList.map vkey) := by
  have hsz : d1.size = n := hp.1.trans hn
  have hlen : (cpu veq d1 d1.size).length ≤ d1.size := by
    have key : ∀ m, (cpu veq d1 m).length ≤ m := by
      intro m
      induction m with
      | zero => simp [cpu]
      | succ m ih =>
        show (cpu veq d1 m ++ _).length ≤ _
        rw [List.length_append]
        split <;> simp <;> omega
    exact key _
  have hsz2 : (cpu veq d1 d1.size ++ List.replicate (d1.size - (cpu veq d1 d1.size).length) (default : VP s A w)).toArray.size = d1.size := by simp; omega
  refine ⟨⟨_, cap, by simp, by simp; omega, by simp only [maxLen] at hcm; omega, fun h0 => ⟨blk, 0, rfl, ?_, fun j hj => ?_⟩⟩, ?_, ?_⟩
  · rw [hw3]
    have := (put_move (n := q) venc hA (cpu veq d1 d1.size ++ List.replicate (d1.size - (cpu veq d1 d1.size).length) (default : VP s A w)).toArray : LMv s A w2 A _).size
    have := hm.size
    omega
  · have hj' : j < (cpu veq d1 d1.size).length := by simpa using hj
    refine ⟨venc (cpu veq d1 d1.size)[j], ?_, ?_⟩
    · have := (holds_putRow venc w2 blk 0 d1 _ hH hsz2 j (by rw [hsz2]; omega)).1
      rw [get_app _ _ j hj'] at this
      rw [hw3]
      exact this
    · rw [List.getElem_map, hw3]
      exact (((cpu veq d1 d1.size)[j].sa.keep hm).keep (put_move venc hA _)).si
  · exact cpu_asc veq vkey (fun x y h => (veq_iff x y).2 h) d1 d1.size (fun i j hij hj => (ltOf_niff _ _).1 (hs i j (by omega) hij (by omega))) d1.size (Nat.le_refl _)
  · have hperm : ∀ x, x ∈ d1.toList ↔ x ∈ xs.toList := by
      have h3 := hp.2.2
      have e1 : d1.extract 0 n = d1 := by rw [← hsz]; simp
      have e2 : xs.extract 0 n = xs := by rw [← hn]; simp
      rw [e1, e2] at h3
      exact fun x => h3.mem_iff
    intro p
    constructor
    · intro h
      obtain ⟨x, hx, rfl⟩ := List.mem_map.1 h
      obtain ⟨i, hi, rfl⟩ := cpu_sub veq d1 _ x hx
      refine List.mem_map.2 ⟨_, (hperm _).1 ?_, rfl⟩
      rw [getElem!_pos d1 i hi]
      exact Array.getElem_mem_toList hi
    · intro h
      obtain ⟨x, hx, rfl⟩ := List.mem_map.1 h
      have hxd := (hperm x).2 hx
      obtain ⟨i, hi, rfl⟩ := List.getElem_of_mem hxd
      have hi' : i < d1.size := by simpa using hi
      obtain ⟨y, hy, he⟩ := cpu_all_in veq vkey (fun x y h => (veq_iff x y).1 h) d1 d1.size i hi'
      rw [getElem!_pos d1 i hi'] at he
      have hyx : y ∈ xs.toList := by
        obtain ⟨j, hj, rfl⟩ := cpu_sub veq d1 _ y hy
        rw [getElem!_pos d1 j hj]
        exact (hperm _).1 (Array.getElem_mem_toList hj)
      refine List.mem_map.2 ⟨y, hy, ?_⟩
      have := eqz_trim he
      rw [ht y hyx] at this
      have e5 : d1.toList[i] = d1[i] := by simp
      rw [e5]
      have e6 := ht _ hx
      rw [e5] at e6
      rw [e6] at this
      exact this.symm
theorem mem_of_map {α β : Type} {f : α → β} {xs : List α} {ps : List β} (h : xs.map f = ps) {x : α} (hx : x ∈ xs) : f x ∈ ps := h ▸ List.mem_map_of_mem hx
theorem mem_map_iff {α β : Type} {f : α → β} {xs : List α} {ps : List β} (h : xs.map f = ps) (p : β) : p ∈ xs.map f ↔ p ∈ ps := by rw [h]
theorem trim_found {P : Int} {l : List (Int × Bool)} {k : Nat} {ag : Int} : ∀ p ∈ (runS P l k ag).1, trim p = p ∧ p.length ≤ k := by
  intro p hp
  obtain ⟨c, hc, _, _, rfl⟩ := (run_mem p).1 hp
  exact ⟨inP_trim, by have := chs_mem_len _ _ _ _ c hc; have := @inP_len P c; omega⟩

set_option maxRecDepth 100000 in
set_option maxHeartbeats 4000000 in
theorem run_any (P : Int) (l : List (Int × Bool)) (k : Nat) (ag : Int) (vl : Value) (w : World) (hP : i64r P) (hl : SCl w vl l) (hz : l.length ≤ 10) (hk : k ≤ 1000) (h12 : (runS P l k ag).1.length ≤ 12) :
    Calls Try.prog 32 #[.agg #[.int .i64 P], vl, .int .i64 k, .int .i64 ag] w fun e w' => ∃ v rs, e = .returned (.tuple #[v, .int .i64 (runS P l k ag).2]) ∧ RL w' v rs ∧ Asc rs ∧ (∀ p, p ∈ rs ↔ p ∈ (runS P l k ag).1) ∧ Below w.heap.size w w' := by
  have HL := Lib.hid hl
  have H12 := Lib.hid h12
  obtain ⟨Al, cl, rfl⟩ := hl.form
  obtain ⟨mst, hms⟩ : ∃ mst, (runS P l k ag).2 = mst := ⟨_, rfl⟩
  have HMS := Lib.hid hms
  rw [hms]
  clear hl h12 hms
  go_enter Try.func32, Try.ntmps32
  go_upto_region 2 with fail
  obtain ⟨wa, ewa⟩ : ∃ wa : World, wa = w.alloc (.cells #[.int .i64 P] 26) := ⟨_, rfl⟩
  obtain ⟨wb, ewb⟩ : ∃ wb : World, wb = (w.alloc (.cells #[.int .i64 P] 26)).alloc (.cells #[.int .i64 P, .slice Al l.length cl, .int .i64 k, .int .i64 ag, .slice none 0 0, .int .i64 0] 101) := ⟨_, rfl⟩
  have hBb : Below w.heap.size w wb := by rw [ewb]; exact ((Below.refl _ w).alloc (Nat.le_refl _) _).alloc (by simp) _
  have hTb : LSt (w.heap.size + 1) P (.slice Al l.length cl) k ag wb (.slice none 0 0) [] 0 := by
    refine ⟨?_, [], World.ownsRow_nil _ _ _ _, fun j h1 h2 => by simp at h1⟩
    rw [ewb]
    have := heap_alloc_new (w.alloc (.cells #[.int .i64 P] 26)) (.cells #[.int .i64 P, .slice Al l.length cl, .int .i64 k, .int .i64 ag, .slice none 0 0, .int .i64 0] 101)
    simpa using this
  have HBb := Lib.hid hBb
  have HTb := Lib.hid hTb
  rw [← ewb]
  clear ewa ewb hBb hTb
  obtain ⟨s, hs⟩ : ∃ s, w.heap.size + 1 = s := ⟨_, rfl⟩
  have HS := Lib.hid hs
  rw [hs] at HTb ⊢
  clear hs
  have hch := choose_any P l k ag s (.slice Al l.length cl) w hP HL.out (by have := HS.out; omega) (by omega) hk l.length [] (.slice none 0 0) (.slice none 0 0) [] 0 wb (Nat.le_refl _) (Nat.zero_le _) HBb.out HTb.out
    ⟨none, 0, rfl, Nat.le_refl _, by omega, by simp, fun _ => ⟨rfl, rfl⟩, fun h => by simp at h⟩ (by
      have : 2 ^ l.length ≤ 2 ^ 10 := Nat.pow_le_pow_right (by omega) hz
      simp only [List.length_nil]
      omega)
  rw [Nat.sub_self, show ((0 : Nat) : Int) = 0 from rfl] at hch
  have HCH := Lib.hid hch
  clear hch
  go_wp2_with fail
  (with_reducible refine HCH.out.mono ?_)
  rintro e w1 ⟨rfl, A1, hT1, hM1⟩
  have HT1 : Hid (LSt s P (.slice Al l.length cl) k ag w1 A1 (runS P l k ag).1 (runS P l k ag).2) := hT1
  have HM1 := Lib.hid hM1
  clear hT1 hM1 HCH
  have hsw : s < w1.heap.size := HT1.out.lt.1
  have q4 : w1.cell? ⟨s, 4, none⟩ = some A1 := cell_of_row w1 s 4 _ _ _ HT1.out.cells
  have q5 : w1.cell? ⟨s, 5, none⟩ = some (.int .i64 (runS P l k ag).2) := cell_of_row w1 s 5 _ _ _ HT1.out.cells
  have HB1 : Hid (Below w.heap.size w w1) := HBb.out.trans (HM1.out.below (fun g hg => (HTb.out.lt.2 g hg).1) (by have := HS.out; omega) (Nat.le_of_lt HTb.out.lt.1))
  obtain ⟨ps, hps⟩ : ∃ ps, (runS P l k ag).1 = ps := ⟨_, rfl⟩
  have HTF : Hid (∀ p ∈ ps, trim p = p ∧ p.length ≤ k) := by show ∀ p ∈ ps, _; rw [← hps]; exact trim_found
  have HPS0 := Lib.hid hps
  rw [hps] at HT1 H12
  clear hps
  obtain ⟨vs, ho, hv⟩ := HT1.out.own
  obtain ⟨xs, hx1, hx2⟩ := vps vs ps (by have := ho.1; omega) hv (fun p hp => by have := (HTF.out p hp).2; omega)
  have hxl : xs.length = ps.length := by rw [← hx2]; simp
  rw [HMS.out] at q5 HT1
  have HT1 := HT1.out
  have HT2 := Lib.hid HT1
  clear HT1
  rcases ho.2 with ⟨rfl, h0⟩ | ⟨g, cap, cur, rfl, hgs, hgl, _⟩
  · have hrs : ps = [] := List.eq_nil_of_length_eq_zero h0
    have HRS := Lib.hid hrs
    clear hrs h0 hx1 hx2 hxl ho hv
    go_wp2_with fail
    (with_reducible refine (sort_nil _ _ _).mono ?_)
    rintro e w2 ⟨rfl, rfl⟩
    go_wp2_with fail
    go_region_held3 (fun w' => w'.cell? ⟨s, 4, none⟩ = some (.slice none 0 0) ∧ w'.cell? ⟨s, 5, none⟩ = some (.int .i64 mst)) (first | exact ⟨q4, q5⟩ | exact ⟨t4, t5⟩ | go_keep)
      (first | (go_at_call 58; refine (compact_nil _ _).mono ?_; rintro e w3 ⟨rfl, rfl⟩; have t4 := q4; have t5 := q5))
    go_wp2_with fail
    refine bodyPost_ret (v := .tuple #[.slice none 0 0, .int .i64 mst]) (by simp [results, Try.results32, go_sem]) rfl ⟨_, [], rfl, ⟨none, 0, rfl, Nat.le_refl _, by omega, fun h => by simp at h⟩, List.Pairwise.nil, fun p => by rw [HPS0.out, HRS.out], HB1.out.drew⟩
  · rw [← hx1] at ho
    obtain ⟨hH, hxn, hnc, hcm, hbl⟩ := holds_own ho
    have HPS := Lib.hid hx2
    have h12 := H12.out
    clear hx1 hx2 hv H12 ho
    have hds : xs.toArray.size = ps.length := by simpa using hxl
    have hAo : (Value.slice (some ⟨g, 0, none⟩) ps.length cap).ownBlock = some g := rfl
    have hsort := sort_any s venc venc_one vcf g cap xs.toArray w1 (order_row hAo) hH (by omega)
    have hins := insertionSort_holds (lt := ltOf vcf) vswo xs.toArray 0 xs.toArray.size (Nat.zero_le _) (Nat.le_refl _)
    rw [hds] at hsort hins
    obtain ⟨d1, hd1⟩ : ∃ d1, Sort.insertionSort (ltOf vcf) xs.toArray 0 ps.length = d1 := ⟨_, rfl⟩
    rw [hd1] at hsort hins
    have hs1 : d1.size = ps.length := hins.1.1.trans hds
    have HINS := Lib.hid hins
    have HSO := Lib.hid hsort
    have HH := Lib.hid hH
    have HXS := Lib.hid hds
    have HS1 := Lib.hid hs1
    have hgne : ¬ g = s := by omega
    clear hd1 hins hsort hH hds hs1 hxl hxn
    go_wp2_with fail
    (with_reducible refine HSO.out.mono ?_)
    rintro e w2 ⟨rfl, n1, hw2⟩
    have t4 : w2.cell? ⟨s, 4, none⟩ = some (.slice (some ⟨g, 0, none⟩) ps.length cap) := by rw [hw2]; exact (World.cell?_of_block (put_block venc hgne d1)).trans q4
    have t5 : w2.cell? ⟨s, 5, none⟩ = some (.int .i64 mst) := by rw [hw2]; exact (World.cell?_of_block (put_block venc hgne d1)).trans q5
    have HM2 : Hid (LMv s (.slice (some ⟨g, 0, none⟩) ps.length cap) w1 (.slice (some ⟨g, 0, none⟩) ps.length cap) w2.drew) := by rw [hw2]; exact put_move (n := n1 + 1) venc hAo d1
    have HH2 : Hid (Holds venc w2.drew g 0 d1) := by rw [hw2]; exact holds_putRow venc w1 g 0 xs.toArray d1 HH.out (HS1.out.trans HXS.out.symm)
    have hcp := compact_any _ rfl venc venc_one veq default rfl g cap d1 w2.drew (eq_row hAo HM2.out) HH2.out (by rw [HS1.out]; omega) (by rw [HS1.out]; omega) hcm
    rw [HS1.out] at hcp
    have HCP := Lib.hid hcp
    clear hcp hw2 q4 q5
    go_wp2_with fail
    go_region_held3 (fun w' => w'.cell? ⟨s, 4, none⟩ = some (.slice (some ⟨g, 0, none⟩) ps.length cap) ∧ w'.cell? ⟨s, 5, none⟩ = some (.int .i64 mst)) (first | exact ⟨t4, t5⟩ | exact ⟨x4, x5⟩ | go_keep)
      (first | (go_at_call 58; refine HCP.out.mono ?_; rintro e w3 ⟨rfl, q3, hw3⟩; have HW3 := Lib.hid hw3; have x4 : w3.cell? ⟨s, 4, none⟩ = some (.slice (some ⟨g, 0, none⟩) ps.length cap) := (by rw [hw3]; exact (World.cell?_of_block (put_block venc hgne _)).trans t4); have x5 : w3.cell? ⟨s, 5, none⟩ = some (.int .i64 mst) := (by rw [hw3]; exact (World.cell?_of_block (put_block venc hgne _)).trans t5); clear hw3))
    all_goals
      have HF : Hid (RL w3 (.slice (some ⟨g, 0, none⟩) (cpu veq d1 ps.length).length cap) ((cpu veq d1 ps.length).map vkey) ∧ Asc ((cpu veq d1 ps.length).map vkey) ∧ (∀ p, p ∈ (cpu veq d1 ps.length).map vkey ↔ p ∈ ps)) := by
        have h := fin_row (w3 := w3) (cap := cap) hAo HM2.out hbl xs.toArray d1 HXS.out HINS.out.1 HINS.out.2 HH2.out hnc hcm (q := q3) (by rw [HS1.out]; exact HW3.out) (fun x hx => by
          have hxp : vkey x ∈ ps := mem_of_map HPS.out (by simpa using hx)
          exact (HTF.out _ hxp).1)
        rw [HS1.out] at h
        refine ⟨h.1, h.2.1, fun p => (h.2.2 p).trans ?_⟩
        exact mem_map_iff HPS.out p
      have HBF : Hid (Below w.heap.size w w3) := by
        refine HB1.out.trans ?_
        have hz1 := HB1.out.size
        have h2 := HM2.out.below (fun g' hg' => by rw [hAo] at hg'; injection hg' with hg'; omega) (B := w.heap.size) (by have := HS.out; omega) (Nat.le_of_lt hsw)
        have h3 := (put_move (n := q3) venc hAo (cpu veq d1 ps.length ++ List.replicate (ps.length - (cpu veq d1 ps.length).length) default).toArray : LMv s _ w2.drew _ _).below (fun g' hg' => by rw [hAo] at hg'; injection hg' with hg'; omega) (B := w.heap.size) (by have := HS.out; omega) (by have := h2.size; omega)
        rw [HW3.out]
        exact h2.trans h3
      clear x4 x5 t4 t5
      go_wp2_with fail
      refine bodyPost_ret (v := .tuple #[.slice (some ⟨g, 0, none⟩) (cpu veq d1 ps.length).length cap, .int .i64 mst]) (by simp [results, Try.results32, go_sem]) rfl ⟨_, _, rfl, HF.out.1, HF.out.2.1, fun p => by rw [HPS0.out]; exact HF.out.2.2 p, HBF.out⟩
end Go.Proofs.Ytbgabipngdillaa
