/- Joined: Dp Gh Rw Rx Ub. -/
import Derived.Stop.Asserts
import Derived.LaidEql
import Derived.RowKitTokens
import Derived.Laws.EntriesVeiled
import Derived.Deep.RegionHeld3
import Derived.Deep.QuietTactic
import Derived.BigQuiet
import Derived.Deep.DeepCutAuto
import Derived.Lib.Hide
import Derived.Deep.RegionWith
import Derived.Deep.RegionLaw
import Derived.BigRegion
import Derived.Sort.OwnSortedInts
import Derived.Lib.SlicesCompact
import Derived.Test.YtbgabipngdillaaJ18
import Derived.Test.YtbgabipngdillaaJ17
import Derived.Test.YtbgabipngdillaaJ03
import Derived.Test.YtbgabipngdillaaJ09
import Derived.Test.YtbgabipngdillaaJ15
import Derived.Test.YtbgabipngdillaaJ14
import Derived.Test.YtbgabipngdillaaJ16
import Derived.Test.YtbgabipngdillaaJ19
import Derived.Test.YtbgabipngdillaaJ05
import Derived.Test.YtbgabipngdillaaJ04
import Derived.Test.YtbgabipngdillaaJ01
import Derived.Test.YtbgabipngdillaaJ07
import Derived.Test.YtbgabipngdillaaJ06
import Derived.Test.YtbgabipngdillaaJ08
import Derived.Test.YtbgabipngdillaaJ11
import Derived.Test.YtbgabipngdillaaJ10
namespace Go.Proofs.Ytbgabipngdillaa
open Go.RowKit

theorem ez_trim (x : Int) : ∀ l : List Int, ez (trim l) x = ez l x
  | [] => rfl
  | c :: l => by
    rw [trim_cons]
    have ih := ez_trim x l
    by_cases h : c = 0 ∧ trim l = []
    · rw [if_pos h, ez_cons, ← ih, h.2, h.1, ez_nil]; simp
    · rw [if_neg h, ez_cons, ez_cons, ih]
end Go.Proofs.Ytbgabipngdillaa

namespace Go.Proofs.Ytbgabipngdillaa
open Go.RowKit

theorem ez_snoc (l : List Int) (y x : Int) : ez (l ++ [y]) x = ez l x + x ^ l.length * y := by rw [ez_app]; simp [ez]
end Go.Proofs.Ytbgabipngdillaa

namespace Go.Proofs.Ytbgabipngdillaa
open Go.RowKit

/-- a slice of rows outside block g -/
def SLE (g : Nat) (w : World) (v : Value) (rows : List (List Int)) : Prop :=
  ∃ A c, v = .slice A rows.length c ∧ rows.length ≤ c ∧ c ≤ 9223372036854775807 ∧
    (0 < rows.length → ∃ b off, A = some ⟨b, off, none⟩ ∧ b < w.heap.size ∧ b ≠ g ∧ ∀ j (h : j < rows.length), ∃ B d, w.cell? ⟨b, off + j, none⟩ = some (.slice B rows[j].length d) ∧ SE g w (.slice B rows[j].length d) rows[j])
theorem SLE.grown {g : Nat} {w w' : World} {v : Value} {rows : List (List Int)} (h : SLE g w v rows) (hg : w.grownBy w' (some g)) : SLE g w' v rows := by
  obtain ⟨A, c, rfl, hc, hm, ha⟩ := h
  refine ⟨A, c, rfl, hc, hm, fun h0 => ?_⟩
  obtain ⟨b, off, rfl, hb, hbg, hcell⟩ := ha h0
  refine ⟨b, off, rfl, by have := hg.size; omega, hbg, fun j hj => ?_⟩
  obtain ⟨B, d, h1, h2⟩ := hcell j hj
  exact ⟨B, d, (World.cell?_of_block (hg.block b hb (by simp; exact hbg))).trans h1, h2.grown hg⟩
theorem SLE.below {g : Nat} {w w' : World} {v : Value} {rows : List (List Int)} (h : SLE g w v rows) (hb : Below w.heap.size w w') : SLE g w' v rows := h.grown (grownBy_of_below hb _)
theorem SLE.sl {g : Nat} {w : World} {v : Value} {rows : List (List Int)} (h : SLE g w v rows) : SL w v rows := by
  obtain ⟨A, c, rfl, hc, hm, ha⟩ := h
  refine ⟨A, c, rfl, hc, hm, fun h0 => ?_⟩
  obtain ⟨b, off, rfl, hb, hbg, hcell⟩ := ha h0
  refine ⟨b, off, rfl, hb, fun j hj => ?_⟩
  obtain ⟨B, d, h1, h2⟩ := hcell j hj
  exact ⟨B, d, h1, h2.si⟩
theorem SLE.form {g : Nat} {w : World} {v : Value} {rows : List (List Int)} (h : SLE g w v rows) : ∃ A c, v = .slice A rows.length c := by
  obtain ⟨A, c, rfl, _⟩ := h; exact ⟨A, c, rfl⟩
theorem SX.se {W : World} {X : Option Nat} {g : Nat} {v : Value} {l : List Int} (h : SX W X (some g) v l) : SE g W v l := by
  obtain ⟨A, c, rfl, hc, hm, hr, ha⟩ := h
  refine ⟨A, c, rfl, hc, hm, hr, fun h0 => ?_⟩
  obtain ⟨b, off, rfl, hbl, _, hy, hcell⟩ := ha h0
  exact ⟨b, off, rfl, hbl, fun e => hy (by rw [e]), hcell⟩
/-- rows under construction: own headers pv, each row outside pv's block and outside g -/
structure RW (G g : Nat) (W : World) (pv : Value) (vs : List Value) (ps : List (List Int)) : Prop where
  len : vs.length = ps.length
  hdr : W.ownsRow G 22 1 pv vs.length vs
  row : ∀ j (h : j < vs.length) (h' : j < ps.length), SX W pv.ownBlock (some g) vs[j] ps[j]
theorem RW.nil (W : World) (G g : Nat) : RW G g W (.slice none 0 0) [] [] := ⟨rfl, World.ownsRow_nil _ _ _ _, fun j h => by simp at h⟩
theorem RW.grown {G g : Nat} {W W' : World} {pv : Value} {vs : List Value} {ps : List (List Int)} (h : RW G g W pv vs ps) (hgG : g < G) (hg : W.grownBy W' (some g)) : RW G g W' pv vs ps :=
  ⟨h.len, own_blk h.hdr fun b hb => hg.block b (h.hdr.lt b hb).2 (by have := (h.hdr.lt b hb).1; simp; omega), fun j h1 h2 => (h.row j h1 h2).keep hg.size fun b hbl hx hy => ⟨hg.block b hbl hy, hx, hy⟩⟩
theorem RW.below {G g : Nat} {W W' : World} {pv : Value} {vs : List Value} {ps : List (List Int)} (h : RW G g W pv vs ps) (hgG : g < G) (hb : Below W.heap.size W W') : RW G g W' pv vs ps := h.grown hgG (grownBy_of_below hb _)
theorem RW.app {G g : Nat} {W W' : World} {pv pv' : Value} {vs : List Value} {ps : List (List Int)} {v : Value} {l : List Int} (h : RW G g W pv vs ps)
    (hx : SX W pv.ownBlock (some g) v l) (ho : W'.ownsRow G 22 1 pv' (vs.length + 1) (vs ++ [v])) (hg : W.grownBy W' pv.ownBlock) (hat : ∀ q, pv'.ownBlock = some q → pv.ownBlock = some q ∨ q = W.heap.size) : RW G g W' pv' (vs ++ [v]) (ps ++ [l]) := by
  have hk : ∀ b, b < W.heap.size → some b ≠ pv.ownBlock → some b ≠ some g → W'.heap[b]? = W.heap[b]? ∧ some b ≠ pv'.ownBlock ∧ some b ≠ some g := fun b hb h1 h2 =>
    ⟨hg.block b hb h1, fun e => by rcases hat b e.symm with h3 | h3; exact h1 h3.symm; omega, h2⟩
  refine ⟨by simp [h.len], by simpa using ho, fun j h1 h2 => ?_⟩
  by_cases hj : j < vs.length
  · have hj' : j < ps.length := by rw [← h.len]; exact hj
    simp only [List.getElem_append_left hj, List.getElem_append_left hj']
    exact (h.row j hj hj').keep hg.size hk
  · have hj1 : j = vs.length := by simp at h1; omega
    have hj2 : j = ps.length := by rw [← h.len]; exact hj1
    subst hj1
    have e1 : (vs ++ [v])[vs.length]'h1 = v := by simp
    have e2 : (ps ++ [l])[vs.length]'h2 = l := by simp [h.len]
    rw [e1, e2]
    exact hx.keep hg.size hk
theorem RW.sle {G g : Nat} {W : World} {pv : Value} {vs : List Value} {ps : List (List Int)} (h : RW G g W pv vs ps) (hgG : g < G) : SLE g W pv ps := by
  rcases h.hdr.2 with ⟨rfl, hn⟩ | ⟨b, cap, cur, rfl, hb, hgg, hnc, hcm, hcs, htake⟩
  · have : ps = [] := List.eq_nil_of_length_eq_zero (by rw [← h.len]; exact hn)
    subst this
    exact ⟨none, 0, rfl, Nat.le_refl _, by omega, fun h => by simp at h⟩
  · refine ⟨some ⟨b, 0, none⟩, cap, by rw [h.len], by rw [← h.len]; exact hnc, by simpa [maxLen] using hcm, fun h0 => ⟨b, 0, rfl, (Array.getElem?_eq_some_iff.1 hgg).1, by omega, fun j hj => ?_⟩⟩
    have hjv : j < vs.length := by rw [h.len]; exact hj
    have h1 := h.hdr.cellAt j (by omega)
    have h3 := (h.row j hjv hj).se
    obtain ⟨B', d, e⟩ := h3.form
    rw [Nat.zero_add]
    rw [List.getElem?_eq_getElem hjv, e] at h1
    rw [e] at h3
    exact ⟨B', d, h1, h3⟩
/-- append(headers, x) where it lies is told -/
theorem wpList_append_one_at {P : Program} (w : World) {ops : Array Oper} {rest : List Oper} {o : Oper} {a : Act} {Q : Exit → Act → World → Prop} (hgd : o.guard = none) (s x : Operand) (t : TypeId)
    (ho : o.op = .call { callee := .builtin .append, args := #[s, x], argTypes := #[t, t] })
    (base : Nat) (e : TypeId) (z : Value) (by' : Nat) (ht : P.underlying t = some (.slice e)) (hinfo : (P.info? e).map (fun i => (i.zero, i.size, i.bytes)) = some (some z, 1, by'))
    (v : Value) (n : Nat) (xs : List Value) (hs : a.eval s = v) (hown : w.ownsRow base e 1 v n xs)
    (y : Value) (hy : y.oneCell' = true) (b : Nat) (hx : a.eval x = .slice (some ⟨b, 0, none⟩) 1 1) (hc : w.cell? ⟨b, 0, none⟩ = some y)
    (hbytes : (n + 1) * by' ≤ 140737488355328) (hn : n ≤ 1000000) (hzs : z.cells.size = 1) (hbase : base ≤ w.heap.size)
    (h : ∀ g cap w', w'.ownsRow base e 1 (.slice (some ⟨g, 0, none⟩) (n + 1) cap) (n + 1) (xs ++ [y]) → w.grownBy w' v.ownBlock → (v.ownBlock = some g ∨ g = w.heap.size) → wpList P ops Q rest (a.put o.dst (.slice (some ⟨g, 0, none⟩) (n + 1) cap)) w') :
    wpList P ops Q (o :: rest) a w := by
  obtain ⟨i0, hi0, hz0, hz1, hz2⟩ := info_parts hinfo
  obtain ⟨v', w', hrun, h2, h3, h4⟩ := run_append_sc_at (P := P) w base t o.type e i0 _ 1 by' ht hi0 hz0 hz1 hz2 hzs (by omega) v _ _ hown (b + 1) (.slice (some ⟨b, 0, none⟩) 1 1) 1 [y] ⟨_, 1, rfl, rfl, fun _ => ⟨b, 0, rfl, by omega, fun j u hu => by
    cases j with
    | zero => simp at hu; subst hu; exact hc
    | succ j => simp at hu⟩⟩ (by intro u hu; simp at hu; subst hu; exact hy) (by unfold maxLen; omega) hbytes hbase
  rcases h2.2 with ⟨_, hn'⟩ | ⟨g, cap, cur, rfl, hb, hg, hnc, hcm, hcs, htake⟩
  · simp at hn'
  · refine Lib.wpList_append_run w hgd s x t t ho _ _ hs hx _ w' hrun (h g cap w' h2 h3 ?_)
    rcases h4 with h4 | h4
    · exact .inl h4.symm
    · exact .inr (by simpa [Value.ownBlock] using h4)
end Go.Proofs.Ytbgabipngdillaa

namespace Go.Proofs.Ytbgabipngdillaa
open Go.RowKit

def El1 (g n : Nat) (P : Int) (w1 : World) (v iv : Value) (wr : World) : Prop :=
  ∃ (k : Nat) (ns : List Int), k ≤ n ∧ iv = .int .i64 k ∧ ns.length = k ∧ els P ns = true ∧ wr.ownsRow w1.heap.size 3 1 v ns.length (ns.map (Value.int .i64)) ∧ Dk wr g ∧ w1.grownBy wr (some g)
set_option maxRecDepth 100000 in
set_option maxHeartbeats 4000000 in
theorem elements_any (g n : Nat) (P : Int) (w : World) (hD : Dk w g) (hP : 1 ≤ P ∧ P ≤ 65521) (hn : n ≤ 100000) :
    Calls Try.prog 18 #[.pointer (some ⟨g, 0, none⟩), .agg #[.int .i64 P], .int .i64 n] w fun e w' => ∃ v ns, e = .returned v ∧ ns.length = n ∧ els P ns = true ∧ w'.ownsRow w.heap.size 3 1 v ns.length (ns.map (Value.int .i64)) ∧ Dk w' g ∧ w.grownBy w' (some g) := by
  go_enter Try.func18, Try.ntmps18
  obtain ⟨F, eF⟩ : ∃ F, F = w.heap.size := ⟨_, rfl⟩
  obtain ⟨w1, ew⟩ : ∃ w1 : World, w1 = w.alloc (.cells #[.int .i64 P] 26) := ⟨_, rfl⟩
  have HW1 : Hid (w.alloc (.cells #[.int .i64 P] 26) = w1) := ew.symm
  have HB1 : Hid (Below w.heap.size w w1) := (show Hid _ from by rw [ew]; exact (Below.refl _ w).alloc (Nat.le_refl _) _)
  have HF1 : Hid (w1.heap[F]? = some (.cells #[.int .i64 P] 26 (0, 0))) := (show Hid _ from by show _ = _; rw [ew, eF]; exact heap_alloc_new w _)
  have HD1 : Hid (Dk w1 g) := hD.below HB1.out
  have HGF : Hid (g < F) := (show Hid _ from by rw [eF]; exact hD.lt)
  have HEF := Lib.hid eF
  clear hD
  go_upto_region 2 with fail
  rw [HW1.out, ← eF]
  clear ew eF
  go_wp2_with fail
  go_loopw [7, 9] (fun v iv wr => El1 g n P w1 v iv wr) (fun _ iv _ => n - (intOf iv).toNat)
  case atStart => exact ⟨0, [], Nat.zero_le _, rfl, rfl, by simp [els], World.ownsRow_nil _ _ _ _, HD1.out, grownBy_refl _ _⟩
  case round =>
    obtain ⟨k, ns, hk, rfl, hkl, hel, hown, hd, hg⟩ := hrel
    obtain ⟨A, c, rfl⟩ := own_sl hown
    have HO := Lib.hid hown
    have HDr := Lib.hid hd
    have HG := Lib.hid hg
    have HEL := Lib.hid hel
    have HKL := Lib.hid hkl
    have hz := hg.size
    have hnl : ns.length ≤ 100000 := by omega
    have hg1 : g < w1.heap.size := HD1.out.lt
    clear hown hd hg hel hkl
    by_cases hlk : k < n
    · have dk : decide (k < n) = true := decide_eq_true hlk
      have f0 : wr.cell? ⟨F, 0, none⟩ = some (.int .i64 P) := cell_of_row wr F 0 _ _ _ ((HG.out.block F (heap_of_cells HF1.out) (by have := HGF.out; simp; omega)).trans HF1.out)
      go_wp2_with fail
      (with_reducible refine (next_any P g wr HDr.out (by unfold i64r; omega) (by omega)).mono ?_)
      rintro e w2 ⟨x, rfl, _, hx, hd2, hg2⟩
      obtain ⟨hx1, hx2⟩ := hx hP.1
      have HD2 := Lib.hid hd2
      have HG2 := Lib.hid hg2
      have HO2 : Hid (w2.ownsRow w1.heap.size 3 1 (.slice A ns.length c) ns.length (ns.map (Value.int .i64))) := (show Hid _ from own_blk HO.out fun b hb => hg2.block b (HO.out.lt b hb).2 (by have := (HO.out.lt b hb).1; simp; omega))
      have hz2 : w1.heap.size ≤ w2.heap.size := Nat.le_trans hz hg2.size
      clear hx hd2 hg2 f0
      go_wp2_with (at_builtin; refine wpList_append_int1 _ rfl _ _ 22 rfl w1.heap.size 3 Try.underlying22 iinfo _ ns rfl HO2.out x rfl (by omega) hz2 ?_; intro v3 w3 hown3 hg3; have HO3 := Lib.hid hown3; have HG3 := Lib.hid hg3; clear hown3 hg3)
      have HGA : Hid (w2.grownBy (w2.alloc (.cells #[.int .i64 x] 3)) (some g)) := (show Hid _ from grownBy_of_below ((Below.refl _ w2).alloc (Nat.le_refl _) _) _)
      have HG3' : Hid (w1.grownBy w3 (some g)) := (show Hid _ from grownBy_own (grownBy_trans (grownBy_trans HG.out HG2.out) HGA.out) HG3.out (fun q hq => (HO2.out.lt q hq).1))
      have HD3 : Hid (Dk w3 g) := (show Hid _ from (HD2.out.alloc _).grown HG3.out (fun q hq => by have := (HO2.out.lt q hq).1; omega))
      go_roundw
      case rel => exact ⟨k + 1, ns ++ [x], by omega, by go_num, by have := HKL.out; simp; omega, by
        refine els_of fun y hy => ?_
        rcases List.mem_append.1 hy with h | h
        · exact els_all HEL.out y h
        · simp at h; subst h; exact el_mk ⟨hx1, hx2⟩, HO3.out, HD3.out, HG3'.out⟩
      case measure => simp [intOf]; omega
    · have dk : decide (k < n) = false := decide_eq_false hlk
      go_wp2_with fail
      go_ret
      refine ⟨_, ns, rfl, by have := HKL.out; omega, HEL.out, ?_, HDr.out, grownBy_trans (grownBy_of_below HB1.out _) HG.out⟩
      exact own_lo HO.out (by have := HB1.out.size; omega)
end Go.Proofs.Ytbgabipngdillaa

namespace Go.Proofs.Ytbgabipngdillaa
open Go.RowKit

theorem SL.at {w : World} {v : Value} {rows : List (List Int)} (h : SL w v rows) : ∃ A c, v = .slice A rows.length c ∧
    ∀ i (hi : i < rows.length), ∃ bh oh B d, A = some ⟨bh, oh, none⟩ ∧ ∀ W, Below w.heap.size w W → W.cell? ⟨bh, oh + i, none⟩ = some (.slice B rows[i].length d) ∧ SI W (.slice B rows[i].length d) rows[i] := by
  obtain ⟨A, c, rfl, _, _, ha⟩ := h
  refine ⟨A, c, rfl, fun i hi => ?_⟩
  obtain ⟨b, o, eA, hb, hc⟩ := ha (by omega)
  obtain ⟨B, d, h1, h2⟩ := hc i hi
  exact ⟨b, o, B, d, eA, fun W hW => ⟨(hW.cell (p := ⟨b, o + i, none⟩) hb).trans h1, h2.below hW⟩⟩
theorem SI.at {w : World} {B : Option Addr} {n d : Nat} {r : List Int} (h : SI w (.slice B n d) r) {k : Nat} (hk : k < r.length) : ∃ bb ob, B = some ⟨bb, ob, none⟩ ∧ w.cell? ⟨bb, ob + k, none⟩ = some (.int .i64 r[k]) := by
  obtain ⟨A2, c2, e2, _, _, _, ha2⟩ := h
  injection e2 with e21 e22 e23
  obtain ⟨bb, ob, e3, hbb, hcell⟩ := ha2 (by omega)
  exact ⟨bb, ob, by rw [e21]; exact e3, hcell k hk⟩
end Go.Proofs.Ytbgabipngdillaa
