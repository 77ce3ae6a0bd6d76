/- Joined: Nv Nx. -/
import Derived.Test.YtllnomembakboaaB16
import Derived.Test.YtllnomembakboaaB19
import Derived.Test.YtllnomembakboaaB12
import Derived.Test.YtllnomembakboaaB10
namespace Go.Proofs.Ytllnomembakboaa
open Go.RowKit

theorem SV.boxE {w : World} {A : Option Addr} {c : Nat} {l : List (ByteArray × Int)} (h : SV ecs 2 w.heap.size w (.slice A l.length c) l) : BoxE (w.alloc (.cells #[.slice A l.length c] 29)) w.heap.size l := by
  obtain ⟨_, hat⟩ := h.at
  have hb := (Below.refl w.heap.size w).alloc (Nat.le_refl _) (.cells #[.slice A l.length c] 29)
  refine ⟨A, c, by simp, cell_of_row _ w.heap.size 0 _ _ _ (heap_alloc_new w _), fun h0 => ?_⟩
  obtain ⟨b, off, e, hbl, _⟩ := hat 0 h0
  refine ⟨b, off, e, by simp; omega, fun j hj => ?_⟩
  obtain ⟨b', off', e', _, hc⟩ := hat j hj
  rw [e] at e'
  injection e' with e'
  injection e' with e1 e2
  subst e1 e2
  exact ⟨hc _ hb 0 (by omega), hc _ hb 1 (by omega)⟩
/-- new buckets in a record -/
theorem PI.start {base Pb G S N B slots cg : Nat} {vh : Value} {w : World} (hG : w.heap[G]? = some (.cells (Array.replicate B (Value.slice none 0 0)) 22 (0, 0)))
    (hP : w.heap[Pb]? = some (.cells #[.int .i64 slots, vh, .slice (some ⟨G, 0, none⟩) B cg, .int .i64 0] 90 (0, 0))) (h1 : Pb ≠ S) (h2 : Pb ≠ G) (hb : base ≤ G) : PI base Pb G S N B slots 0 vh cg (List.replicate B []) (List.replicate B (.slice none 0 0)) w :=
  ⟨⟨by rw [hG]; simp, by simp, by simp, fun b h1 h2 => by simp; exact World.ownsRow_nil _ _ _ _, fun b c h1 h2 q _ hq => by simp [Value.ownBlock] at hq, fun b h1 q hq => by simp [Value.ownBlock] at hq, fun l hl => by
    have := List.eq_of_mem_replicate hl
    subst this
    simp, hb⟩, hP, fun ⟨b, hb, e⟩ => by simp [Value.ownBlock] at e, h1, h2⟩
theorem inV_nil (B q : Nat) : ¬ inV (List.replicate B (.slice none 0 0)) q := fun ⟨b, hb, e⟩ => by simp [Value.ownBlock] at e
theorem HD.sld {base : Nat} {w : World} {hv : Value} {vs : List Value} {hs : List (List Int)} (h : HD base w hv vs hs) : SLD (fun k => base ≤ k ∧ k < w.heap.size) w hv hs := by
  have hl := h.2.1
  rcases h.1.2 with ⟨rfl, hn⟩ | ⟨g, cap, cur, rfl, hb, hg, hnc, hcm, hcs, ht⟩
  · have : hs = [] := List.eq_nil_of_length_eq_zero (by omega)
    subst this
    exact ⟨none, 0, rfl, Nat.le_refl _, by omega, fun h => by simp at h⟩
  · refine ⟨some ⟨g, 0, none⟩, cap, by rw [hl], by omega, by unfold maxLen at hcm; omega, fun h0 => ⟨g, 0, rfl, ⟨hb, heap_of_cells hg⟩, fun j hj => ?_⟩⟩
    have hjv : j < vs.length := by omega
    refine ⟨vs[j], ?_, ?_⟩
    · have h1 := h.1.cellAt j (by omega)
      have h2 := flatMap_get one 1 vs (fun _ _ => rfl) j hjv 0 (by omega)
      rw [Nat.zero_add, h1]
      simpa [one] using h2
    · have hr := (h.2.2 j hjv hj).1
      rcases hr.2 with ⟨e, hn⟩ | ⟨g2, cap2, cur2, e, hb2, hg2, hnc2, hcm2, hcs2, ht2⟩
      · have : hs[j] = [] := List.eq_nil_of_length_eq_zero hn
        rw [e, this]
        exact ⟨none, 0, rfl, Nat.le_refl _, by omega, fun h => by simp at h⟩
      · rw [e] at hr ⊢
        exact ⟨_, cap2, rfl, hnc2, by unfold maxLen at hcm2; omega, fun _ => ⟨g2, 0, rfl, ⟨hb2, heap_of_cells hg2⟩, fun i hi => by rw [Nat.zero_add]; exact own_int hr i hi⟩⟩
theorem FW.base {S G : Nat} {vs vs' : List Value} {wB wr W w5 : World} (hg : wB.grownBy wr (some G)) (hv : ∀ q, inV vs q → wB.heap.size ≤ q) (hW : Below wr.heap.size wr W) (hf : FW S G vs W vs' w5) (hS : wB.heap.size ≤ S) :
    wB.grownBy w5 (some G) ∧ ∀ q, inV vs' q → wB.heap.size ≤ q := by
  have hz := hg.size
  have hz2 := hW.size
  refine ⟨⟨hf.os.trans (hW.os.trans hg.os), hf.tape.trans (hW.tape.trans hg.tape), hf.output.trans (hW.output.trans hg.output), by have := hf.size; omega, fun k hk hne => ?_⟩, fun q hq => ?_⟩
  · rw [hf.block k (by omega) (by omega) (fun e => hne (by rw [e])) (fun e => by have := hv k e; omega), hW.block k (by omega)]
    exact hg.block k hk hne
  · rcases hf.inn q hq with e | e
    · exact hv q e
    · omega
/-- a row sorted in its place -/
theorem IN.sorted {base GI S N B : Nat} {ls : List (List Int)} {vs : List Value} {w w1 : World} (h : IN base GI S N B ls vs w) {b : Nat} (hb : b < vs.length) (hb2 : b < ls.length) {l : List Int} (hp : l.Perm ls[b])
    (hg : w.grownBy w1 vs[b].ownBlock) (ho : w1.ownsRow base 3 1 vs[b] l.length (l.map (Value.int .i64))) : IN base GI S N B (ls.set b l) vs w1 := by
  have hGI := heap_of_cells h.hdr
  refine ⟨(hg.block GI hGI (fun e => (h.nos b hb GI e.symm).1 rfl)).trans h.hdr, h.lv, by simpa using h.ll, fun c h1 h2 => ?_, h.apart, h.nos, fun l' hl' => ?_, h.gi⟩
  · by_cases hbc : b = c
    · subst hbc
      simp only [List.getElem_set_self]
      exact ho
    · simp only [List.getElem_set_ne hbc]
      refine (h.row c h1 (by simpa using h2)).kept hg ?_
      cases hq : vs[b].ownBlock with
      | none =>
        cases hc : vs[c].ownBlock with
        | none => exact .inl rfl
        | some q => exact .inr (by simp)
      | some q => exact .inr (fun e => h.apart b c hb h1 q hbc hq e)
  · rcases List.mem_or_eq_of_mem_set hl' with h' | h'
    · exact h.its l' h'
    · subst h'
      have h3 := h.its _ (List.getElem_mem hb2)
      exact ⟨fun x hx => h3.1 x (hp.mem_iff.1 hx), by rw [hp.length_eq]; exact h3.2⟩
theorem HD.kept {base g : Nat} {w w' : World} {hv : Value} {vs : List Value} {hs : List (List Int)} (h : HD base w hv vs hs) (hg : w.grownBy w' (some g)) (hl : g < base) : HD base w' hv vs hs :=
  ⟨h.1.kept hg (.inr (fun e => by have := (h.1.lt g e).1; omega)), h.2.1, fun j h1 h2 => ⟨(h.2.2 j h1 h2).1.kept hg (.inr (fun e => by have := ((h.2.2 j h1 h2).1.lt g e).1; omega)), (h.2.2 j h1 h2).2⟩⟩
theorem hd_store {base B1 g cap Pb : Nat} {a0 w8 w9 : World} {hv v a b c d : Value} {t : TypeId} {vs : List Value} {hs : List (List Int)} {l : List Int} {o : Obj} (h : HD base w8 hv vs hs)
    (hn : w8.ownsRow B1 3 1 v l.length (l.map (Value.int .i64))) (hlt : ∀ k, hv.ownBlock = some k → k < B1) (hB : base ≤ B1) (hg : (w8.alloc o).grownBy w9 hv.ownBlock) (hat : hv.ownBlock = some g ∨ g = w8.heap.size + 1)
    (hnew : w9.ownsRow base 22 1 (.slice (some ⟨g, 0, none⟩) (vs.length + 1) cap) (vs.length + 1) ((vs ++ [v]).flatMap one)) (hP : w9.heap[Pb]? = some (.cells #[a, b, c, d] t (0, 0))) (hPb : Pb < base) (ha : a0.grownBy w8 (some Pb)) (haz : a0.heap.size ≤ base) :
    HD base (w9.setCell ⟨Pb, 1, none⟩ (.slice (some ⟨g, 0, none⟩) (vs.length + 1) cap)) (.slice (some ⟨g, 0, none⟩) (vs.length + 1) cap) (vs ++ [v]) (hs ++ [l]) ∧
      (w9.setCell ⟨Pb, 1, none⟩ (.slice (some ⟨g, 0, none⟩) (vs.length + 1) cap)).heap[Pb]? = some (.cells #[a, .slice (some ⟨g, 0, none⟩) (vs.length + 1) cap, c, d] t (0, 0)) ∧
      a0.grownBy (w9.setCell ⟨Pb, 1, none⟩ (.slice (some ⟨g, 0, none⟩) (vs.length + 1) cap)) (some Pb)   := by
  have e : vs.length + 1 = (vs ++ [v]).length := by simp
  rw [e] at hnew ⊢
  have hm : w9.grownBy (w9.setCell ⟨Pb, 1, none⟩ (.slice (some ⟨g, 0, none⟩) (vs ++ [v]).length cap)) (some Pb) := grownBy_setCell (g := Pb) (p := ⟨Pb, 1, none⟩) (grownBy_refl _ _) (.inl rfl) _
  refine ⟨(h.app hn hlt hB hg hat hnew).kept hm hPb, ?_, ?_⟩
  · have := heap_setCell_same w9 Pb 1 _ _ (.slice (some ⟨g, 0, none⟩) (vs ++ [v]).length cap) hP
    simpa using this
  · exact grownBy_trans (grownBy_own (grownBy_alloc' ha _) hg (fun k hk => by have := (h.1.lt k hk).1; omega)) hm
/-- lists of entries under construction, each owned apart -/
def HE (base : Nat) (w : World) (hv : Value) (vs : List Value) (bs : List (List (ByteArray × Int))) : Prop :=
  w.ownsRow base 29 1 hv vs.length (vs.flatMap one) ∧ vs.length = bs.length ∧ ∀ j (h1 : j < vs.length) (h2 : j < bs.length), w.ownsRow base 41 2 vs[j] bs[j].length (bs[j].flatMap ecs) ∧ ∀ k, vs[j].ownBlock = some k → hv.ownBlock ≠ some k
theorem HE.nil (base : Nat) (w : World) : HE base w (.slice none 0 0) [] [] := ⟨World.ownsRow_nil _ _ _ _, rfl, fun j h => by simp at h⟩
theorem HE.kept {base g : Nat} {w w' : World} {hv : Value} {vs : List Value} {bs : List (List (ByteArray × Int))} (h : HE base w hv vs bs) (hg : w.grownBy w' (some g)) (hl : g < base) : HE base w' hv vs bs :=
  ⟨h.1.kept hg (.inr (fun e => by have := (h.1.lt g e).1; omega)), h.2.1, fun j h1 h2 => ⟨(h.2.2 j h1 h2).1.kept hg (.inr (fun e => by have := ((h.2.2 j h1 h2).1.lt g e).1; omega)), (h.2.2 j h1 h2).2⟩⟩
theorem HE.on {base : Nat} {w w' : World} {hv : Value} {vs : List Value} {bs : List (List (ByteArray × Int))} (h : HE base w hv vs bs) (hb : Below w.heap.size w w') : HE base w' hv vs bs :=
  ⟨own_bel h.1 hb, h.2.1, fun j h1 h2 => ⟨own_bel (h.2.2 j h1 h2).1 hb, (h.2.2 j h1 h2).2⟩⟩
theorem HE.app {base B1 g cap : Nat} {w1 w2 : World} {hv v : Value} {vs : List Value} {bs : List (List (ByteArray × Int))} {l : List (ByteArray × Int)} {o : Obj} (h : HE base w1 hv vs bs)
    (hn : w1.ownsRow B1 41 2 v l.length (l.flatMap ecs)) (hlt : ∀ k, hv.ownBlock = some k → k < B1) (hB : base ≤ B1) (hg : (w1.alloc o).grownBy w2 hv.ownBlock) (hat : hv.ownBlock = some g ∨ g = w1.heap.size + 1)
    (hnew : w2.ownsRow base 29 1 (.slice (some ⟨g, 0, none⟩) (vs ++ [v]).length cap) (vs ++ [v]).length ((vs ++ [v]).flatMap one)) :
    HE base w2 (.slice (some ⟨g, 0, none⟩) (vs ++ [v]).length cap) (vs ++ [v]) (bs ++ [l]) := by
  have key : ∀ {b' : Nat} {u : Value} {r : List (ByteArray × Int)}, w1.ownsRow b' 41 2 u r.length (r.flatMap ecs) → base ≤ b' → (∀ k, u.ownBlock = some k → hv.ownBlock ≠ some k) →
      w2.ownsRow base 41 2 u r.length (r.flatMap ecs) ∧ ∀ k, u.ownBlock = some k → (Value.slice (some ⟨g, 0, none⟩) (vs ++ [v]).length cap).ownBlock ≠ some k := by
    intro b' u r hu hb hne
    refine ⟨own_lo ((hu.alloc o).kept hg ?_) hb, fun k hk e => ?_⟩
    · cases hq : u.ownBlock with
      | none => exact .inl rfl
      | some q => exact .inr (fun e => hne q hq e.symm)
    · injection e with e
      have e : g = k := e
      subst e
      rcases hat with h1 | h1
      · exact hne _ hk h1
      · have := (hu.lt _ hk).2
        omega
  refine ⟨hnew, by simp [h.2.1], fun j h1 h2 => ?_⟩
  rcases Nat.lt_or_ge j vs.length with hj | hj
  · have hj2 : j < bs.length := by rw [← h.2.1]; exact hj
    rw [List.getElem_append_left hj, List.getElem_append_left hj2]
    exact key (h.2.2 j hj hj2).1 (Nat.le_refl _) (h.2.2 j hj hj2).2
  · have hjv : j = vs.length := by simp at h1; omega
    subst hjv
    have e1 : (vs ++ [v])[vs.length] = v := by simp
    have e2 : (bs ++ [l])[vs.length] = l := by simp [h.2.1]
    rw [e1, e2]
    exact key hn hB fun k hk e => by have := hlt k e; have := (hn.lt k hk).1; omega
theorem HE.slo {base : Nat} {w : World} {hv : Value} {vs : List Value} {bs : List (List (ByteArray × Int))} (h : HE base w hv vs bs) : SLo base w hv bs :=
  ⟨vs, h.2.1, SVo.of_own h.1 (fun _ _ => rfl), fun j h1 h2 => SVo.of_own (h.2.2 j h1 h2).1 (fun x _ => ecs_len x)⟩
theorem inc_uniq : ∀ {a b : List Int}, a.Pairwise (· < ·) → b.Pairwise (· < ·) → a.Perm b → a = b
  | [], b, _, _, h => h.nil_eq
  | x :: a, [], _, _, h => absurd h.length_eq (by simp)
  | x :: a, y :: b, ha, hb, h => by
    have e : x = y := by
      have h1 : x ∈ y :: b := h.mem_iff.1 List.mem_cons_self
      have h2 : y ∈ x :: a := h.mem_iff.2 List.mem_cons_self
      rcases List.mem_cons.1 h1 with h1 | h1
      · exact h1
      · rcases List.mem_cons.1 h2 with h2 | h2
        · exact h2.symm
        · have k1 := (List.pairwise_cons.1 hb).1 x h1
          have k2 := (List.pairwise_cons.1 ha).1 y h2
          omega
    subst e
    rw [inc_uniq (List.pairwise_cons.1 ha).2 (List.pairwise_cons.1 hb).2 h.cons_inv]
theorem upto_inc (n : Nat) : (upto n).Pairwise (· < ·) := by
  unfold upto
  rw [List.pairwise_map]
  exact List.pairwise_lt_range.imp (fun h => by omega)
/-- an item's bucket, sorted, read in the entries: the bucket of the directory -/
theorem bucket_dist {hs : List (List Int)} {cap : Nat → Nat} {ls : List (List Int)} {out : List Int} {S : List (ByteArray × Int)} {B b : Nat} (h : Stt hs cap (upto hs.length) ls) (hS : S.length = hs.length) (ho : out.length = hs.length) (k : Set ls out) (hb : b < (dist S out B).length) (z : ByteArray × Int) :
    ((bk ls b).mergeSort fun x y => decide (x ≤ y)).map (fun x => S.getD x.toNat z) = (dist S out B)[b] := by
  have hn := upto_nodup hs.length
  have hperm : (bk ls b).Perm ((upto hs.length).filter fun x => out.getD x.toNat 0 == (b : Int)) := by
    rw [List.perm_ext_iff_of_nodup (h.nodup hn b) (hn.filter _)]
    intro x
    rw [List.mem_filter]
    constructor
    · intro hx
      have hx0 := h.perm.mem_iff.1 (mem_flat.2 ⟨b, hx⟩)
      have hxr := upto_mem.1 hx0
      refine ⟨hx0, ?_⟩
      obtain ⟨c, e, hc⟩ := k x.toNat (by omega)
      rw [show ((x.toNat : Nat) : Int) = x by omega] at hc
      have := h.uniq hn hx hc
      subst this
      simp [show x.toNat < out.length by omega, e]
    · rintro ⟨hx, he⟩
      have hxr := upto_mem.1 hx
      obtain ⟨c, e, hc⟩ := k x.toNat (by omega)
      rw [show ((x.toNat : Nat) : Int) = x by omega] at hc
      have h1 : out.getD x.toNat 0 = (c : Int) := by simp [show x.toNat < out.length by omega, e]
      rw [h1] at he
      have : c = b := by have h2 : (c : Int) = b := by simpa using he
                         omega
      rw [← this]; exact hc
  have hsort : ((bk ls b).mergeSort fun x y => decide (x ≤ y)) = (upto hs.length).filter fun x => out.getD x.toNat 0 == (b : Int) := by
    refine inc_uniq ?_ ((upto_inc _).filter _) ((List.mergeSort_perm _ _).trans hperm)
    have h1 : ((bk ls b).mergeSort fun x y => decide (x ≤ y)).Pairwise fun x y => decide (x ≤ y) = true := List.pairwise_mergeSort (by intro a b c h1 h2; simp at *; omega) (by intro a b; simp; omega) _
    have h2 : ((bk ls b).mergeSort fun x y => decide (x ≤ y)).Nodup := (List.mergeSort_perm _ _).nodup_iff.2 (h.nodup hn b)
    rw [List.nodup_iff_pairwise_ne] at h2
    exact (h1.and h2).imp (fun ⟨h3, h4⟩ => by simp at h3; omega)
  have hzip : S.zip out = (upto hs.length).map fun x => (S.getD x.toNat z, out.getD x.toNat 0) := by
    apply List.ext_getElem
    · simp [upto]; omega
    · intro i h1 h2
      have hi : i < hs.length := by simp [upto] at h2; omega
      simp [upto, show i < S.length by omega, show i < out.length by omega]
  rw [hsort, dist_at hb, hzip, List.filter_map, List.map_map]
  rfl
set_option maxRecDepth 100000 in
/-- slices.Clone of pairs -/
theorem cloneS_any (ps : List (Int × Int)) (v : Value) (w : World) (h : SG pcs 2 w.heap.size w v ps) (hl : 0 < ps.length) (hl2 : ps.length ≤ 1000000) :
    Calls Try.prog 55 #[v] w fun e w' => ∃ v', e = .returned v' ∧ w'.ownsRow w.heap.size 69 2 v' ps.length (ps.flatMap hcs) ∧ Below w.heap.size w w' := by
  have HS := Lib.hid h
  obtain ⟨i0, hi0, hi1, hi2, hi3⟩ := info_parts hinfo
  obtain ⟨A, c, rfl, _, _, _, ha⟩ := id h
  obtain ⟨b, off, rfl, _, _⟩ := ha hl
  clear h ha
  have hn := Lib.run_eql_slice_nil (P := Try.prog) w 23 69 (some ⟨b, off, none⟩) ps.length c 0 0 Try.underlying23
  go_enter Try.func55, Try.ntmps55
  have hO : Hid ((w.alloc (.cells #[] 69)).ownsRow w.heap.size 69 2 (.slice (some ⟨w.heap.size, 0, none⟩) 0 0) 0 []) := (show Hid _ from ⟨rfl, .inr ⟨w.heap.size, 0, #[], rfl, Nat.le_refl _, heap_alloc_new w _, Nat.le_refl _, by unfold maxLen; omega, rfl, rfl⟩⟩)
  have HSB : Hid (SC w.heap.size (w.alloc (.cells #[] 69)) (.slice (some ⟨b, off, none⟩) ps.length c) ps.length 2 (ps.flatMap hcs)) := (show Hid _ from SG.sc2 (HS.out.below ((Below.refl _ w).alloc (Nat.le_refl _) _)))
  go_wp2_with (at_builtin; refine wpList_append_sc _ rfl _ _ 23 rfl w.heap.size 69 i0 _ 2 16 Try.underlying23 hi0 hi1 hi2 hi3 rfl (by omega) _ 0 [] rfl hO.out w.heap.size _ ps.length (ps.flatMap hcs) rfl HSB.out (hcs_one_all _) (by unfold maxLen; omega) (by omega) (by simp) ?_; intro v2 w2 hown2 hg2; have HO2 := Lib.hid hown2; have HG2 := Lib.hid hg2; clear hown2 hg2)
  go_ret
  refine ⟨_, rfl, by simpa using HO2.out, ((Below.refl _ w).alloc (Nat.le_refl _) _).grown HG2.out (by simp) (fun k hk => ?_)⟩
  have := hO.out.lt k hk
  omega
end Go.Proofs.Ytllnomembakboaa

namespace Go.Proofs.Ytllnomembakboaa
open Go.RowKit

/-- but for draws the same -/
structure Sm (w W : World) : Prop where
  heap : W.heap = w.heap
  os : W.os = w.os
  tape : W.tape = w.tape
  output : W.output = w.output
theorem Sm.below {w W : World} (h : Sm w W) : Below w.heap.size w W := ⟨h.os, h.tape, h.output, by rw [h.heap]; exact Nat.le_refl _, fun k _ => by rw [h.heap]⟩
/-- what a round of placing leaves -/
def PrR (b0 Pb G B slots i : Nat) (vh : Value) (hs : List (List Int)) (wB : World) (e : Ending) (w' : World) : Prop :=
  ∃ (r : Bool) (ls : List (List Int)) (vs : List Value), e = .returned (.bool r) ∧ PI b0 Pb G w'.heap.size hs.length B slots 0 vh B ls vs w' ∧ wB.grownBy w' (some G) ∧ (∀ q, inV vs q → wB.heap.size ≤ q) ∧
    (r = true → Stt hs (fun _ => slots) (upto (i + 1)) ls) ∧ (r = false → ¬ ∃ out, Asg hs (fun _ => slots) out)
theorem put_round {b0 Pb G B slots i : Nat} {hs ls : List (List Int)} {vs : List Value} {vh rowv : Value} {wB wr W : World} {D : Nat → Prop} (h : PI b0 Pb G wr.heap.size hs.length B slots 0 vh B ls vs wr) (hst : Stt hs (fun _ => slots) (upto i) ls) (hgb : wB.grownBy wr (some G)) (hvq : ∀ q, inV vs q → wB.heap.size ≤ q)
    (hD : ∀ k, D k → k < wB.heap.size ∧ k ≠ G) (hh : SLD D wr vh hs) (hi : i < hs.length) (hrow : SBD D wr rowv hs[i]) (hr : ∀ l ∈ hs, ∀ x ∈ l, 0 ≤ x ∧ x < (B : Int)) (hN2 : hs.length ≤ 1000000) (hB : B ≤ 1000000) (hsl : slots ≤ 8)
    (hW : Sm (wr.alloc (.cells (Array.replicate B (Value.bool false)) 4)) W) :
    Calls Try.prog 53 #[.pointer (some ⟨Pb, 0, none⟩), .int .i64 i, rowv, .slice (some ⟨wr.heap.size, 0, none⟩) B B] W (PrR b0 Pb G B slots i vh hs wB) := by
  have hz := hgb.size
  have hbW : Below wr.heap.size wr W := ((Below.refl _ wr).alloc (Nat.le_refl _) _).trans (hW.below.mono (by simp))
  have hPI : PI b0 Pb G wr.heap.size hs.length B slots 0 vh B ls vs W := (h.alloc _).on hW.below
  have hSN : SN wr.heap.size (List.replicate B false) W := by
    have h1 := SN.made wr B
    unfold SN at h1 ⊢
    rw [hW.heap]; exact h1
  have hap : Apart wr.heap.size G vs W D := fun k hk => by
    obtain ⟨h1, h2⟩ := hD k hk
    exact ⟨by have := hbW.size; omega, by omega, h2, fun e => by have := hvq k e; omega⟩
  have hkeep : ∀ p : Addr, D p.block → W.cell? p = wr.cell? p := fun p hp => hbW.cell (by have := (hD _ hp).1; omega)
  refine (put_any b0 Pb hs.length B slots 0 D hs hr rfl hN2 hB hsl (cf (List.replicate B false)) i hs[i] ls vs (List.replicate B false) W vh rowv wr.heap.size G B B hi (hr _ (List.getElem_mem hi)) (Nat.le_refl _) (hh.keep hkeep) hap hPI hSN (by simp) (hrow.keep hkeep)).mono ?_
  rintro e w5 ⟨r, ls5, vs5, sn5, rfl, hpi, _, hkp, hfw, hret⟩
  obtain ⟨hg5, hv5⟩ := FW.base hgb hvq hbW hfw hz
  refine ⟨r, ls5, vs5, rfl, hpi.free (Nat.le_refl _), hg5, hv5, fun hr1 => ?_, fun hr0 => ?_⟩
  · have hp := hret.2 hr1
    exact (hst.put hp (fun x hx => by rw [hf_at hi]; exact hx)).re (upto_succ i).symm
  · rintro ⟨out, ha⟩
    obtain ⟨_, hpf, hit⟩ := hret.1 hr0
    refine no_asg (B := B) (homes := hs[i]) hst (upto_nodup i) (fun x hx => by have := upto_mem.1 hx; omega) hi (fun e => by have := upto_mem.1 e; omega) h.inn.ll hpf (by have := hkp.1; rw [List.length_replicate] at this; exact this) hit (fun l hl x hx => (hr l hl x hx).1) out ha ⟨out[i]'(by rw [ha.len]; exact hi), ha.mem i _ hi, List.getElem?_eq_getElem _⟩ (fun b x hx hm => ?_)
    have := upto_mem.1 (hst.perm.mem_iff.1 (mem_flat.2 ⟨b, hx⟩))
    exact absurd (show ((0 : Nat) : Int) ≤ x by omega) hm
theorem own_blk {w w' : World} {base e size n : Nat} {v : Value} {xs : List Value} (h : w.ownsRow base e size v n xs) (hk : ∀ k, v.ownBlock = some k → w'.heap[k]? = w.heap[k]?) : w'.ownsRow base e size v n xs := by
  refine ⟨h.1, ?_⟩
  rcases h.2 with hn | ⟨g, cap, cur, rfl, hb, hg, hr⟩
  · exact .inl hn
  · exact .inr ⟨g, cap, cur, rfl, hb, (hk g rfl).trans hg, hr⟩
theorem FW.stepO {S GI : Nat} {vs vs1 : List Value} {w w1 w2 : World} (h : FW S GI vs w vs1 w1) {b : Nat} (hb : b < vs1.length) (hg : w1.grownBy w2 vs1[b].ownBlock) : FW S GI vs w vs1 w2 :=
  h.trans ⟨hg.os, hg.tape, hg.output, hg.size, fun k h1 _ _ h4 => hg.block k h1 (fun e => h4 ⟨b, hb, e.symm⟩), fun _ h => .inl h⟩
theorem FW.grown {S GI : Nat} {vs vs1 : List Value} {w w1 w2 : World} {e : Option Nat} (h : FW S GI vs w vs1 w1) (hg : w1.grownBy w2 e) (he : ∀ k, e = some k → w.heap.size ≤ k) : FW S GI vs w vs1 w2 :=
  ⟨hg.os.trans h.os, hg.tape.trans h.tape, hg.output.trans h.output, Nat.le_trans h.size hg.size, fun k h1 h2 h3 h4 => (hg.block k (by have := h.size; omega) (fun e => by have := he k e.symm; omega)).trans (h.block k h1 h2 h3 h4), h.inn⟩
theorem IN.grown {base GI S N B : Nat} {ls : List (List Int)} {vs : List Value} {w w' : World} {e : Option Nat} (h : IN base GI S N B ls vs w) (hg : w.grownBy w' e) (he : ∀ k, e = some k → k ≠ GI ∧ ¬ inV vs k) : IN base GI S N B ls vs w' :=
  ⟨(hg.block GI (heap_of_cells h.hdr) (fun e => (he GI e.symm).1 rfl)).trans h.hdr, h.lv, h.ll, fun b h1 h2 => own_blk (h.row b h1 h2) (fun k hk => hg.block k ((h.row b h1 h2).lt k hk).2 (fun e => (he k e.symm).2 ⟨b, h1, hk⟩)), h.apart, h.nos, h.its, h.gi⟩
theorem IN.on {base GI S N B : Nat} {ls : List (List Int)} {vs : List Value} {w w' : World} (h : IN base GI S N B ls vs w) (hb : Below w.heap.size w w') : IN base GI S N B ls vs w' := h.grown (grownBy_of_below hb none) (fun k hk => by cases hk)
theorem HE.keptO {base : Nat} {w w' : World} {hv : Value} {vs : List Value} {bs : List (List (ByteArray × Int))} {e : Option Nat} (h : HE base w hv vs bs) (hg : w.grownBy w' e) (he : ∀ k, e = some k → k < base) : HE base w' hv vs bs :=
  ⟨own_blk h.1 (fun k hk => hg.block k (h.1.lt k hk).2 (fun e => by have := he k e.symm; have := (h.1.lt k hk).1; omega)), h.2.1, fun j h1 h2 => ⟨own_blk (h.2.2 j h1 h2).1 (fun k hk => hg.block k ((h.2.2 j h1 h2).1.lt k hk).2 (fun e => by have := he k e.symm; have := ((h.2.2 j h1 h2).1.lt k hk).1; omega)), (h.2.2 j h1 h2).2⟩⟩
theorem grownF4 (w : World) (X : Nat) (a b c d : Value) : w.grownBy ((((w.setCell ⟨X, 0, none⟩ a).setCell ⟨X, 1, none⟩ b).setCell ⟨X, 2, none⟩ c).setCell ⟨X, 3, none⟩ d) (some X) := by
  have s : ∀ (W : World) (i : Nat) (u : Value), W.grownBy (W.setCell ⟨X, i, none⟩ u) (some X) := fun W i u => grownBy_setCell (g := X) (p := ⟨X, i, none⟩) (grownBy_refl _ _) (.inl rfl) _
  exact grownBy_trans (grownBy_trans (grownBy_trans (s _ _ _) (s _ _ _)) (s _ _ _)) (s _ _ _)
theorem HE.low {base base' : Nat} {w : World} {hv : Value} {vs : List Value} {bs : List (List (ByteArray × Int))} (h : HE base w hv vs bs) (hb : base' ≤ base) : HE base' w hv vs bs :=
  ⟨own_lo h.1 hb, h.2.1, fun j h1 h2 => ⟨own_lo (h.2.2 j h1 h2).1 hb, (h.2.2 j h1 h2).2⟩⟩
end Go.Proofs.Ytllnomembakboaa
