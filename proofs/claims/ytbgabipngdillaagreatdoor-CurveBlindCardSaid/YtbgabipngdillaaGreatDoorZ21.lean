/- Joined: Rw Rx Dp Dq. -/
import Derived.Test.YtbgabipngdillaaGreatDoorZ20
import Derived.Test.YtbgabipngdillaaGreatDoorZ15
import Derived.Test.YtbgabipngdillaaGreatDoorZ14
import Derived.Test.YtbgabipngdillaaGreatDoorZ16
namespace Go.Proofs.YtbgabipngdillaaGreatDoor
open Go.RowKit

/-- a slice of rows outside block g -/
def SLE (g : Nat) (w : World) (v : Value) (rows : List (List Int)) : Prop :=
  ∃ A c, v = .slice A rows.length c ∧ rows.length ≤ c ∧ c ≤ 9223372036854775807 ∧
    (0 < rows.length → ∃ b off, A = some ⟨b, off, none⟩ ∧ b < w.heap.size ∧ b ≠ g ∧ ∀ j (h : j < rows.length), ∃ B d, w.cell? ⟨b, off + j, none⟩ = some (.slice B rows[j].length d) ∧ SE g w (.slice B rows[j].length d) rows[j])
theorem SLE.grown {g : Nat} {w w' : World} {v : Value} {rows : List (List Int)} (h : SLE g w v rows) (hg : w.grownBy w' (some g)) : SLE g w' v rows := by
  obtain ⟨A, c, rfl, hc, hm, ha⟩ := h
  refine ⟨A, c, rfl, hc, hm, fun h0 => ?_⟩
  obtain ⟨b, off, rfl, hb, hbg, hcell⟩ := ha h0
  refine ⟨b, off, rfl, by have := hg.size; omega, hbg, fun j hj => ?_⟩
  obtain ⟨B, d, h1, h2⟩ := hcell j hj
  exact ⟨B, d, (World.cell?_of_block (hg.block b hb (by simp; exact hbg))).trans h1, h2.grown hg⟩
theorem SLE.below {g : Nat} {w w' : World} {v : Value} {rows : List (List Int)} (h : SLE g w v rows) (hb : Below w.heap.size w w') : SLE g w' v rows := h.grown (grownBy_of_below hb _)
theorem SLE.sl {g : Nat} {w : World} {v : Value} {rows : List (List Int)} (h : SLE g w v rows) : SL w v rows := by
  obtain ⟨A, c, rfl, hc, hm, ha⟩ := h
  refine ⟨A, c, rfl, hc, hm, fun h0 => ?_⟩
  obtain ⟨b, off, rfl, hb, hbg, hcell⟩ := ha h0
  refine ⟨b, off, rfl, hb, fun j hj => ?_⟩
  obtain ⟨B, d, h1, h2⟩ := hcell j hj
  exact ⟨B, d, h1, h2.si⟩
theorem SLE.form {g : Nat} {w : World} {v : Value} {rows : List (List Int)} (h : SLE g w v rows) : ∃ A c, v = .slice A rows.length c := by
  obtain ⟨A, c, rfl, _⟩ := h; exact ⟨A, c, rfl⟩
theorem SX.se {W : World} {X : Option Nat} {g : Nat} {v : Value} {l : List Int} (h : SX W X (some g) v l) : SE g W v l := by
  obtain ⟨A, c, rfl, hc, hm, hr, ha⟩ := h
  refine ⟨A, c, rfl, hc, hm, hr, fun h0 => ?_⟩
  obtain ⟨b, off, rfl, hbl, _, hy, hcell⟩ := ha h0
  exact ⟨b, off, rfl, hbl, fun e => hy (by rw [e]), hcell⟩
/-- fresh queries lie outside a block below them -/
theorem QRv.sle {B g : Nat} {w : World} {v : Value} {rows : List (List Int)} (h : QRv B w v rows) (hg : g < B) : SLE g w v rows := by
  obtain ⟨G, vs, hB, rfl, hq, hr, hm⟩ := h
  refine ⟨_, rows.length, rfl, Nat.le_refl _, by omega, fun h0 => ⟨G, 0, rfl, hq.lt, by omega, fun j hj => ?_⟩⟩
  have hjv : j < vs.length := by rw [hq.len]; exact hj
  have h1 := hq.cell hjv
  have h2 := hq.own j hjv hj
  have h3 := SE.of_own (g := g) h2 (hr _ (List.getElem_mem hj)) (by omega)
  obtain ⟨B', d, e⟩ := h3.form
  rw [e] at h1 h3
  exact ⟨B', d, by rw [Nat.zero_add]; exact h1, h3⟩
/-- rows under construction: own headers pv, each row outside pv's block and outside g -/
structure RW (G g : Nat) (W : World) (pv : Value) (vs : List Value) (ps : List (List Int)) : Prop where
  len : vs.length = ps.length
  hdr : W.ownsRow G 22 1 pv vs.length vs
  row : ∀ j (h : j < vs.length) (h' : j < ps.length), SX W pv.ownBlock (some g) vs[j] ps[j]
theorem RW.nil (W : World) (G g : Nat) : RW G g W (.slice none 0 0) [] [] := ⟨rfl, World.ownsRow_nil _ _ _ _, fun j h => by simp at h⟩
theorem RW.grown {G g : Nat} {W W' : World} {pv : Value} {vs : List Value} {ps : List (List Int)} (h : RW G g W pv vs ps) (hgG : g < G) (hg : W.grownBy W' (some g)) : RW G g W' pv vs ps :=
  ⟨h.len, own_blk h.hdr fun b hb => hg.block b (h.hdr.lt b hb).2 (by have := (h.hdr.lt b hb).1; simp; omega), fun j h1 h2 => (h.row j h1 h2).keep hg.size fun b hbl hx hy => ⟨hg.block b hbl hy, hx, hy⟩⟩
theorem RW.below {G g : Nat} {W W' : World} {pv : Value} {vs : List Value} {ps : List (List Int)} (h : RW G g W pv vs ps) (hgG : g < G) (hb : Below W.heap.size W W') : RW G g W' pv vs ps := h.grown hgG (grownBy_of_below hb _)
theorem RW.app {G g : Nat} {W W' : World} {pv pv' : Value} {vs : List Value} {ps : List (List Int)} {v : Value} {l : List Int} (h : RW G g W pv vs ps)
    (hx : SX W pv.ownBlock (some g) v l) (ho : W'.ownsRow G 22 1 pv' (vs.length + 1) (vs ++ [v])) (hg : W.grownBy W' pv.ownBlock) (hat : ∀ q, pv'.ownBlock = some q → pv.ownBlock = some q ∨ q = W.heap.size) : RW G g W' pv' (vs ++ [v]) (ps ++ [l]) := by
  have hk : ∀ b, b < W.heap.size → some b ≠ pv.ownBlock → some b ≠ some g → W'.heap[b]? = W.heap[b]? ∧ some b ≠ pv'.ownBlock ∧ some b ≠ some g := fun b hb h1 h2 =>
    ⟨hg.block b hb h1, fun e => by rcases hat b e.symm with h3 | h3; exact h1 h3.symm; omega, h2⟩
  refine ⟨by simp [h.len], by simpa using ho, fun j h1 h2 => ?_⟩
  by_cases hj : j < vs.length
  · have hj' : j < ps.length := by rw [← h.len]; exact hj
    simp only [List.getElem_append_left hj, List.getElem_append_left hj']
    exact (h.row j hj hj').keep hg.size hk
  · have hj1 : j = vs.length := by simp at h1; omega
    have hj2 : j = ps.length := by rw [← h.len]; exact hj1
    subst hj1
    have e1 : (vs ++ [v])[vs.length]'h1 = v := by simp
    have e2 : (ps ++ [l])[vs.length]'h2 = l := by simp [h.len]
    rw [e1, e2]
    exact hx.keep hg.size hk
theorem RW.sle {G g : Nat} {W : World} {pv : Value} {vs : List Value} {ps : List (List Int)} (h : RW G g W pv vs ps) (hgG : g < G) : SLE g W pv ps := by
  rcases h.hdr.2 with ⟨rfl, hn⟩ | ⟨b, cap, cur, rfl, hb, hgg, hnc, hcm, hcs, htake⟩
  · have : ps = [] := List.eq_nil_of_length_eq_zero (by rw [← h.len]; exact hn)
    subst this
    exact ⟨none, 0, rfl, Nat.le_refl _, by omega, fun h => by simp at h⟩
  · refine ⟨some ⟨b, 0, none⟩, cap, by rw [h.len], by rw [← h.len]; exact hnc, by simpa [maxLen] using hcm, fun h0 => ⟨b, 0, rfl, (Array.getElem?_eq_some_iff.1 hgg).1, by omega, fun j hj => ?_⟩⟩
    have hjv : j < vs.length := by rw [h.len]; exact hj
    have h1 := h.hdr.cellAt j (by omega)
    have h3 := (h.row j hjv hj).se
    obtain ⟨B', d, e⟩ := h3.form
    rw [Nat.zero_add]
    rw [List.getElem?_eq_getElem hjv, e] at h1
    rw [e] at h3
    exact ⟨B', d, h1, h3⟩
/-- append(headers, x) where it lies is told -/
theorem wpList_append_one_at {P : Program} (w : World) {ops : Array Oper} {rest : List Oper} {o : Oper} {a : Act} {Q : Exit → Act → World → Prop} (hgd : o.guard = none) (s x : Operand) (t : TypeId)
    (ho : o.op = .call { callee := .builtin .append, args := #[s, x], argTypes := #[t, t] })
    (base : Nat) (e : TypeId) (z : Value) (by' : Nat) (ht : P.underlying t = some (.slice e)) (hinfo : (P.info? e).map (fun i => (i.zero, i.size, i.bytes)) = some (some z, 1, by'))
    (v : Value) (n : Nat) (xs : List Value) (hs : a.eval s = v) (hown : w.ownsRow base e 1 v n xs)
    (y : Value) (hy : y.oneCell' = true) (b : Nat) (hx : a.eval x = .slice (some ⟨b, 0, none⟩) 1 1) (hc : w.cell? ⟨b, 0, none⟩ = some y)
    (hbytes : (n + 1) * by' ≤ 140737488355328) (hn : n ≤ 1000000) (hzs : z.cells.size = 1) (hbase : base ≤ w.heap.size)
    (h : ∀ g cap w', w'.ownsRow base e 1 (.slice (some ⟨g, 0, none⟩) (n + 1) cap) (n + 1) (xs ++ [y]) → w.grownBy w' v.ownBlock → (v.ownBlock = some g ∨ g = w.heap.size) → wpList P ops Q rest (a.put o.dst (.slice (some ⟨g, 0, none⟩) (n + 1) cap)) w') :
    wpList P ops Q (o :: rest) a w := by
  obtain ⟨i0, hi0, hz0, hz1, hz2⟩ := info_parts hinfo
  obtain ⟨v', w', hrun, h2, h3, h4⟩ := run_append_sc_at (P := P) w base t o.type e i0 _ 1 by' ht hi0 hz0 hz1 hz2 hzs (by omega) v _ _ hown (b + 1) (.slice (some ⟨b, 0, none⟩) 1 1) 1 [y] ⟨_, 1, rfl, rfl, fun _ => ⟨b, 0, rfl, by omega, fun j u hu => by
    cases j with
    | zero => simp at hu; subst hu; exact hc
    | succ j => simp at hu⟩⟩ (by intro u hu; simp at hu; subst hu; exact hy) (by unfold maxLen; omega) hbytes hbase
  rcases h2.2 with ⟨_, hn'⟩ | ⟨g, cap, cur, rfl, hb, hg, hnc, hcm, hcs, htake⟩
  · simp at hn'
  · refine Lib.wpList_append_run w hgd s x t t ho _ _ hs hx _ w' hrun (h g cap w' h2 h3 ?_)
    rcases h4 with h4 | h4
    · exact .inl h4.symm
    · exact .inr (by simpa [Value.ownBlock] using h4)
end Go.Proofs.YtbgabipngdillaaGreatDoor

namespace Go.Proofs.YtbgabipngdillaaGreatDoor
open Go.RowKit

def El1 (g n : Nat) (P : Int) (w1 : World) (v iv : Value) (wr : World) : Prop :=
  ∃ (k : Nat) (ns : List Int), k ≤ n ∧ iv = .int .i64 k ∧ ns.length = k ∧ els P ns = true ∧ wr.ownsRow w1.heap.size 3 1 v ns.length (ns.map (Value.int .i64)) ∧ Dk wr g ∧ w1.grownBy wr (some g)
set_option maxRecDepth 100000 in
set_option maxHeartbeats 4000000 in
theorem elements_any (g n : Nat) (P : Int) (w : World) (hD : Dk w g) (hP : 1 ≤ P ∧ P ≤ 65521) (hn : n ≤ 100000) :
    Calls Tryz.prog 41 #[.pointer (some ⟨g, 0, none⟩), .agg #[.int .i64 P], .int .i64 n] w fun e w' => ∃ v ns, e = .returned v ∧ ns.length = n ∧ els P ns = true ∧ w'.ownsRow w.heap.size 3 1 v ns.length (ns.map (Value.int .i64)) ∧ Dk w' g ∧ w.grownBy w' (some g) := by
  go_enter Tryz.func41, Tryz.ntmps41
  obtain ⟨F, eF⟩ : ∃ F, F = w.heap.size := ⟨_, rfl⟩
  obtain ⟨w1, ew⟩ : ∃ w1 : World, w1 = w.alloc (.cells #[.int .i64 P] 31) := ⟨_, rfl⟩
  have HW1 : Hid (w.alloc (.cells #[.int .i64 P] 31) = w1) := ew.symm
  have HB1 : Hid (Below w.heap.size w w1) := (show Hid _ from by rw [ew]; exact (Below.refl _ w).alloc (Nat.le_refl _) _)
  have HF1 : Hid (w1.heap[F]? = some (.cells #[.int .i64 P] 31 (0, 0))) := (show Hid _ from by show _ = _; rw [ew, eF]; exact heap_alloc_new w _)
  have HD1 : Hid (Dk w1 g) := hD.below HB1.out
  have HGF : Hid (g < F) := (show Hid _ from by rw [eF]; exact hD.lt)
  have HEF := Lib.hid eF
  clear hD
  go_upto_region 2 with fail
  rw [HW1.out, ← eF]
  clear ew eF
  go_wp2_with fail
  go_loopw [7, 9] (fun v iv wr => El1 g n P w1 v iv wr) (fun _ iv _ => n - (intOf iv).toNat)
  case atStart => exact ⟨0, [], Nat.zero_le _, rfl, rfl, by simp [els], World.ownsRow_nil _ _ _ _, HD1.out, grownBy_refl _ _⟩
  case round =>
    obtain ⟨k, ns, hk, rfl, hkl, hel, hown, hd, hg⟩ := hrel
    obtain ⟨A, c, rfl⟩ := own_sl hown
    have HO := Lib.hid hown
    have HDr := Lib.hid hd
    have HG := Lib.hid hg
    have HEL := Lib.hid hel
    have HKL := Lib.hid hkl
    have hz := hg.size
    have hnl : ns.length ≤ 100000 := by omega
    have hg1 : g < w1.heap.size := HD1.out.lt
    clear hown hd hg hel hkl
    by_cases hlk : k < n
    · have dk : decide (k < n) = true := decide_eq_true hlk
      have f0 : wr.cell? ⟨F, 0, none⟩ = some (.int .i64 P) := cell_of_row wr F 0 _ _ _ ((HG.out.block F (heap_of_cells HF1.out) (by have := HGF.out; simp; omega)).trans HF1.out)
      go_wp2_with fail
      (with_reducible refine (next_any P g wr HDr.out (by unfold i64r; omega) (by omega)).mono ?_)
      rintro e w2 ⟨x, rfl, _, hx, hd2, hg2⟩
      obtain ⟨hx1, hx2⟩ := hx hP.1
      have HD2 := Lib.hid hd2
      have HG2 := Lib.hid hg2
      have HO2 : Hid (w2.ownsRow w1.heap.size 3 1 (.slice A ns.length c) ns.length (ns.map (Value.int .i64))) := (show Hid _ from own_blk HO.out fun b hb => hg2.block b (HO.out.lt b hb).2 (by have := (HO.out.lt b hb).1; simp; omega))
      have hz2 : w1.heap.size ≤ w2.heap.size := Nat.le_trans hz hg2.size
      clear hx hd2 hg2 f0
      go_wp2_with (at_builtin; refine wpList_append_int1 _ rfl _ _ 22 rfl w1.heap.size 3 Tryz.underlying22 iinfo _ ns rfl HO2.out x rfl (by omega) hz2 ?_; intro v3 w3 hown3 hg3; have HO3 := Lib.hid hown3; have HG3 := Lib.hid hg3; clear hown3 hg3)
      have HGA : Hid (w2.grownBy (w2.alloc (.cells #[.int .i64 x] 3)) (some g)) := (show Hid _ from grownBy_of_below ((Below.refl _ w2).alloc (Nat.le_refl _) _) _)
      have HG3' : Hid (w1.grownBy w3 (some g)) := (show Hid _ from grownBy_own (grownBy_trans (grownBy_trans HG.out HG2.out) HGA.out) HG3.out (fun q hq => (HO2.out.lt q hq).1))
      have HD3 : Hid (Dk w3 g) := (show Hid _ from (HD2.out.alloc _).grown HG3.out (fun q hq => by have := (HO2.out.lt q hq).1; omega))
      go_roundw
      case rel => exact ⟨k + 1, ns ++ [x], by omega, by go_num, by have := HKL.out; simp; omega, by
        refine els_of fun y hy => ?_
        rcases List.mem_append.1 hy with h | h
        · exact els_all HEL.out y h
        · simp at h; subst h; exact el_mk ⟨hx1, hx2⟩, HO3.out, HD3.out, HG3'.out⟩
      case measure => simp [intOf]; omega
    · have dk : decide (k < n) = false := decide_eq_false hlk
      go_wp2_with fail
      go_ret
      refine ⟨_, ns, rfl, by have := HKL.out; omega, HEL.out, ?_, HDr.out, grownBy_trans (grownBy_of_below HB1.out _) HG.out⟩
      exact own_lo HO.out (by have := HB1.out.size; omega)
def Ro1 (g n m : Nat) (P : Int) (w1 : World) (v iv : Value) (wr : World) : Prop :=
  ∃ (k : Nat) (pv : Value) (vs : List Value) (rows : List (List Int)), pv = v ∧ k ≤ n ∧ iv = .int .i64 k ∧ rows.length = k ∧ (∀ r ∈ rows, r.length = m ∧ els P r = true) ∧ RW w1.heap.size g wr pv vs rows ∧ Dk wr g ∧ w1.grownBy wr (some g)
set_option maxRecDepth 100000 in
set_option maxHeartbeats 4000000 in
theorem rows_any (g n m : Nat) (P : Int) (w : World) (hD : Dk w g) (hP : 1 ≤ P ∧ P ≤ 65521) (hn : n ≤ 1000) (hm : m ≤ 100000) :
    Calls Tryz.prog 24 #[.pointer (some ⟨g, 0, none⟩), .agg #[.int .i64 P], .int .i64 n, .int .i64 m] w fun e w' => ∃ v rows, e = .returned v ∧ rows.length = n ∧ (∀ r ∈ rows, r.length = m ∧ els P r = true) ∧ SLE g w' v rows ∧ Dk w' g ∧ w.grownBy w' (some g) := by
  go_enter Tryz.func24, Tryz.ntmps24
  obtain ⟨F, eF⟩ : ∃ F, F = w.heap.size := ⟨_, rfl⟩
  obtain ⟨w1, ew⟩ : ∃ w1 : World, w1 = w.alloc (.cells #[.int .i64 P] 31) := ⟨_, rfl⟩
  have HW1 : Hid (w.alloc (.cells #[.int .i64 P] 31) = w1) := ew.symm
  have HB1 : Hid (Below w.heap.size w w1) := (show Hid _ from by rw [ew]; exact (Below.refl _ w).alloc (Nat.le_refl _) _)
  have HF1 : Hid (w1.heap[F]? = some (.cells #[.int .i64 P] 31 (0, 0))) := (show Hid _ from by show _ = _; rw [ew, eF]; exact heap_alloc_new w _)
  have HD1 : Hid (Dk w1 g) := hD.below HB1.out
  have HGF : Hid (g < F) := (show Hid _ from by rw [eF]; exact hD.lt)
  have HG1 : Hid (g < w1.heap.size) := HD1.out.lt
  have HEF := Lib.hid eF
  clear hD
  go_upto_region 2 with fail
  rw [HW1.out, ← eF]
  clear ew eF
  go_wp2_with fail
  go_loopw [9, 11] (fun v iv wr => Ro1 g n m P w1 v iv wr) (fun _ iv _ => n - (intOf iv).toNat)
  case atStart => exact ⟨0, _, [], [], rfl, Nat.zero_le _, rfl, rfl, fun r hr => by simp at hr, RW.nil _ _ _, HD1.out, grownBy_refl _ _⟩
  case round =>
    obtain ⟨k, pv, vs, rows, rfl, hk, rfl, hkl, hel, hrw, hd, hg⟩ := hrel
    have HRW := Lib.hid hrw
    have HDr := Lib.hid hd
    have HG := Lib.hid hg
    have HEL := Lib.hid hel
    have HKL := Lib.hid hkl
    have hz := hg.size
    clear hrw hd hg hel hkl
    by_cases hlk : k < n
    · have dk : decide (k < n) = true := decide_eq_true hlk
      have f0 : wr.cell? ⟨F, 0, none⟩ = some (.int .i64 P) := cell_of_row wr F 0 _ _ _ ((HG.out.block F (heap_of_cells HF1.out) (by have := HGF.out; simp; omega)).trans HF1.out)
      go_wp2_with fail
      (with_reducible refine (elements_any g m P wr HDr.out hP hm).mono ?_)
      rintro e w2 ⟨vx, ns, rfl, hnl, hns, hown, hd2, hg2⟩
      obtain ⟨A1, c1, rfl⟩ := own_sl' hown
      have HOW := Lib.hid hown
      have HD2 := Lib.hid hd2
      have HG2 := Lib.hid hg2
      have HNL := Lib.hid hnl
      have HNS := Lib.hid hns
      have hz2 : w1.heap.size ≤ w2.heap.size := Nat.le_trans hz hg2.size
      have HRW2 : Hid (RW w1.heap.size g w2 pv vs rows) := (show Hid _ from HRW.out.grown HG1.out hg2)
      have HSX : Hid (SX (w2.alloc (.cells #[.slice A1 ns.length c1] 22)) pv.ownBlock (some g) (.slice A1 ns.length c1) ns) := (show Hid _ from SX.of_own (hown.alloc _) (els_r hP.2 hns) (fun q hq => (HRW.out.hdr.lt q hq).2) (fun q hq => by injection hq with e; have := HDr.out.lt; omega))
      have hvn : vs.length ≤ 1000 := by have := HRW.out.len; have := HKL.out; omega
      obtain ⟨n1, en1⟩ : ∃ n1, n1 = ns.length := ⟨_, rfl⟩
      rw [← en1] at HSX ⊢
      have HN1 := Lib.hid en1
      clear hnl hns hown hd2 hg2 f0 en1
      go_wp2_with (at_builtin; refine wpList_append_one_at _ rfl _ _ 42 rfl w1.heap.size 22 (.slice none 0 0) 24 Tryz.underlying42 ilinfo pv vs.length vs rfl (HRW2.out.hdr.alloc _) (.slice A1 n1 c1) rfl w2.heap.size rfl (cells_new w2 [.slice A1 n1 c1] 22 0 _ rfl) (by omega) (by omega) rfl (by simp; omega) ?_; intro g9 cap9 w9 hown9 hg9 hat9; have HO9 := Lib.hid hown9; have HG9 := Lib.hid hg9; have HA9 := Lib.hid hat9; clear hown9 hg9 hat9)
      have HGA : Hid (w2.grownBy (w2.alloc (.cells #[.slice A1 n1 c1] 22)) (some g)) := (show Hid _ from grownBy_of_below ((Below.refl _ w2).alloc (Nat.le_refl _) _) _)
      have HRW9 : Hid (RW w1.heap.size g w9 (.slice (some ⟨g9, 0, none⟩) (vs.length + 1) cap9) (vs ++ [.slice A1 n1 c1]) (rows ++ [ns])) := (show Hid _ from
        (HRW2.out.below HG1.out ((Below.refl _ w2).alloc (Nat.le_refl _) _)).app HSX.out HO9.out HG9.out (fun q hq => by
          have e : g9 = q := by simpa [Value.ownBlock] using hq
          subst e; exact HA9.out))
      have HG9' : Hid (w1.grownBy w9 (some g)) := (show Hid _ from grownBy_own (grownBy_trans (grownBy_trans HG.out HG2.out) HGA.out) HG9.out (fun q hq => (HRW2.out.hdr.lt q hq).1))
      have HD9 : Hid (Dk w9 g) := (show Hid _ from (HD2.out.alloc _).grown HG9.out (fun q hq => by have := (HRW2.out.hdr.lt q hq).1; have := HG1.out; omega))
      go_roundw
      case rel => exact ⟨k + 1, _, _, rows ++ [ns], rfl, by omega, by go_num, by have := HKL.out; simp; omega, fun r hr => by
        rcases List.mem_append.1 hr with h | h
        · exact HEL.out r h
        · simp at h; subst h; exact ⟨HNL.out, HNS.out⟩, HRW9.out, HD9.out, HG9'.out⟩
      case measure => simp [intOf]; omega
    · have dk : decide (k < n) = false := decide_eq_false hlk
      go_wp2_with fail
      go_ret
      exact ⟨_, rows, rfl, by have := HKL.out; omega, HEL.out, HRW.out.sle HG1.out, HDr.out, grownBy_trans (grownBy_of_below HB1.out _) HG.out⟩
set_option maxRecDepth 100000 in
set_option maxHeartbeats 4000000 in
theorem answer16_any (P : Int) (c : List Int) (rows : List (List Int)) (width : Int) (vc vr : Value) (w : World) (hP : i64r P) (hc : SI w vc c) (hr : SL w vr rows) :
    Calls Tryz.prog 49 #[.agg #[.int .i64 P], .int .i64 width, vr, vc] w (CmP P c rows width w) := by
  go_enter Tryz.func49, Tryz.ntmps49
  obtain ⟨F, eF⟩ : ∃ F, F = w.heap.size := ⟨_, rfl⟩
  obtain ⟨w1, ew⟩ : ∃ w1 : World, w1 = w.alloc (.cells #[.int .i64 P] 31) := ⟨_, rfl⟩
  have HW1 : Hid (w.alloc (.cells #[.int .i64 P] 31) = w1) := ew.symm
  have HB1 : Hid (Below w.heap.size w w1) := (show Hid _ from by rw [ew]; exact (Below.refl _ w).alloc (Nat.le_refl _) _)
  have HF1 : Hid (w1.heap[F]? = some (.cells #[.int .i64 P] 31 (0, 0))) := (show Hid _ from by show _ = _; rw [ew, eF]; exact heap_alloc_new w _)
  have HC := Lib.hid (hc.below HB1.out)
  have HR := Lib.hid (hr.below HB1.out)
  clear hc hr
  go_upto_region 1 with fail
  rw [HW1.out, ← eF]
  clear ew eF
  have f0 : w1.cell? ⟨F, 0, none⟩ = some (.int .i64 P) := cell_of_row w1 F 0 _ _ _ HF1.out
  go_wp2_with fail
  (with_reducible refine (combine_any P c rows width _ _ w1 hP HC.out HR.out).mono ?_)
  rintro e w2 ⟨v, rfl, hb2, he, hok⟩
  have HB2 := Lib.hid hb2
  have HEN := Lib.hid he
  have HOK := Lib.hid hok
  clear hb2 he hok
  go_wp2_with fail
  go_ret2
  exact ⟨v, rfl, HB1.out.trans (HB2.out.mono HB1.out.size), HEN.out, fun h => own_lo (HOK.out h) HB1.out.size⟩
/-- the answer of a server -/
def ansR (P : Int) (rows : List (List Int)) (width : Int) (q : List Int) : List Int := if coE P q rows width = 0 then cmb P q rows width.toNat else []
def An1 (P : Int) (width : Int) (rows qs : List (List Int)) (g : Nat) (w1 : World) (v iv : Value) (wr : World) : Prop :=
  ∃ (k : Nat) (pv : Value) (vs : List Value), pv = v ∧ k ≤ qs.length ∧ iv = .int .i64 k ∧ RW w1.heap.size g wr pv vs ((qs.take k).map (ansR P rows width)) ∧ Below w1.heap.size w1 wr
theorem cmb_r {P : Int} (hP : 2 ≤ P ∧ P ≤ 65521) (c : List Int) (rows : List (List Int)) (n : Nat) : ∀ x ∈ cmb P c rows n, i64r x := els_r hP.2 (cmbT_els hP.1 ..)
theorem coE_ok {P : Int} {c : List Int} {rows : List (List Int)} {width : Int} (h : coE P c rows width = 0) : prB P = true := by
  unfold coE at h
  cases hp : prB P with
  | true => rfl
  | false => rw [hp] at h; simp at h
set_option maxRecDepth 100000 in
set_option maxHeartbeats 4000000 in
theorem answers_any (P : Int) (width : Int) (rows qs : List (List Int)) (g : Nat) (vr vq : Value) (w : World) (hP : i64r P) (hg : g < w.heap.size) (hr : SL w vr rows) (hq : SL w vq qs) (hz : qs.length ≤ 1000) :
    Calls Tryz.prog 28 #[.agg #[.int .i64 P], .int .i64 width, vr, vq] w fun e w' => ∃ v, e = .returned v ∧ Below w.heap.size w w' ∧ SLE g w' v (qs.map (ansR P rows width)) := by
  obtain ⟨Aq, cq, rfl, hq1, hq2, hs, hhl, hhs, hha⟩ := hq.heads
  have HHS := Lib.hid hhs
  have HHA := Lib.hid hha
  have HHL := Lib.hid hhl
  go_enter Tryz.func28, Tryz.ntmps28
  obtain ⟨F, eF⟩ : ∃ F, F = w.heap.size := ⟨_, rfl⟩
  obtain ⟨w1, ew⟩ : ∃ w1 : World, w1 = w.alloc (.cells #[.int .i64 P] 31) := ⟨_, rfl⟩
  have HW1 : Hid (w.alloc (.cells #[.int .i64 P] 31) = w1) := ew.symm
  have HB1 : Hid (Below w.heap.size w w1) := (show Hid _ from by rw [ew]; exact (Below.refl _ w).alloc (Nat.le_refl _) _)
  have HF1 : Hid (w1.heap[F]? = some (.cells #[.int .i64 P] 31 (0, 0))) := (show Hid _ from by show _ = _; rw [ew, eF]; exact heap_alloc_new w _)
  have HR := Lib.hid (hr.below HB1.out)
  have HG1 : Hid (g < w1.heap.size) := (show Hid _ from by have := HB1.out.size; show g < _; omega)
  obtain ⟨Ar, cr, evr⟩ : ∃ A c, vr = .slice A rows.length c := by obtain ⟨A, c, e, _⟩ := hr; exact ⟨A, c, e⟩
  subst evr
  clear hr hq hhs hha hhl
  go_upto_region 2 with fail
  rw [HW1.out, ← eF]
  clear ew eF
  go_wp2_with fail
  go_loopw [9, 16] (fun v iv wr => An1 P width rows qs g w1 v iv wr) (fun _ iv _ => qs.length - (intOf iv).toNat)
  case atStart => exact ⟨0, _, [], rfl, Nat.zero_le _, rfl, RW.nil _ _ _, Below.refl _ _⟩
  case round =>
    obtain ⟨k, pv, vs, rfl, hk, rfl, hrw, hb⟩ := hrel
    have HRW := Lib.hid hrw
    have HB := Lib.hid hb
    have HBw : Hid (Below w.heap.size w wr) := HB1.out.trans (hb.mono HB1.out.size)
    have hzr := hb.size
    clear hrw hb
    by_cases hlk : k < qs.length
    · have dk : decide (k < qs.length) = true := decide_eq_true hlk
      have f0 : wr.cell? ⟨F, 0, none⟩ = some (.int .i64 P) := cell_of_row wr F 0 _ _ _ ((HB.out.block F (heap_of_cells HF1.out)).trans HF1.out)
      obtain ⟨b, off, rfl, hbw, hcell⟩ := HHA.out (by omega)
      have hkh : k < hs.length := by rw [HHL.out]; exact hlk
      obtain ⟨B, d, ehk, hsk⟩ := HHS.out k hkh hlk
      have ck := (HBw.out.cell (p := ⟨b, off + k, none⟩) hbw).trans (hcell k hkh)
      rw [ehk] at ck hsk
      have HSQ := Lib.hid (hsk.below HBw.out)
      have HRr := Lib.hid (HR.out.below HB.out)
      have HTK : Hid ((qs.take (k + 1)).map (ansR P rows width) = (qs.take k).map (ansR P rows width) ++ [ansR P rows width qs[k]]) := (show Hid _ from by show _ = _; rw [← List.take_append_getElem hlk, List.map_append]; rfl)
      obtain ⟨q, eq⟩ : ∃ q, q = qs[k] := ⟨_, rfl⟩
      rw [← eq] at ck HSQ HTK
      clear hcell ehk hsk eq
      go_wp2_with fail
      (with_reducible refine (answer16_any P q rows width _ _ wr hP HSQ.out HRr.out).mono ?_)
      rintro e w2 ⟨vx, rfl, hb2, hen, hok⟩
      have HB2 := Lib.hid hb2
      have hor : w2.ownsRow wr.heap.size 3 1 vx (ansR P rows width q).length ((ansR P rows width q).map (Value.int .i64)) := by
        unfold ansR
        by_cases h0 : coE P q rows width = 0
        · rw [if_pos h0]; exact hok h0
        · rw [if_neg h0, hen h0]; exact World.ownsRow_nil _ _ _ _
      have hxr : ∀ x ∈ ansR P rows width q, i64r x := by
        unfold ansR
        by_cases h0 : coE P q rows width = 0
        · rw [if_pos h0]; exact cmb_r (prB_bd (coE_ok h0)) _ _ _
        · rw [if_neg h0]; simp
      obtain ⟨er, her⟩ : ∃ er, er = coE P q rows width := ⟨_, rfl⟩
      obtain ⟨A1, c1, rfl⟩ := own_sl' hor
      have hz2 : w1.heap.size ≤ w2.heap.size := Nat.le_trans hzr hb2.size
      have HRW2 : Hid (RW w1.heap.size g w2 pv vs ((qs.take k).map (ansR P rows width))) := (show Hid _ from HRW.out.below HG1.out hb2)
      have HSX : Hid (SX (w2.alloc (.cells #[.slice A1 (ansR P rows width q).length c1] 22)) pv.ownBlock (some g) (.slice A1 (ansR P rows width q).length c1) (ansR P rows width q)) := (show Hid _ from SX.of_own (hor.alloc _) hxr (fun q hq => (HRW.out.hdr.lt q hq).2) (fun q hq => by injection hq with e; have := HG1.out; omega))
      have hvn : vs.length ≤ 1000 := by have := HRW.out.len; rw [this]; simp; omega
      obtain ⟨X, eX⟩ : ∃ X, X = ansR P rows width q := ⟨_, rfl⟩
      rw [← eX] at HSX HTK ⊢
      rw [← her]
      obtain ⟨n1, en1⟩ : ∃ n1, n1 = X.length := ⟨_, rfl⟩
      rw [← en1] at HSX ⊢
      clear hor hxr hb2 hen hok her eX en1 f0 ck
      go_wp2_with (at_builtin; refine wpList_append_one_at _ rfl _ _ 42 rfl w1.heap.size 22 (.slice none 0 0) 24 Tryz.underlying42 ilinfo pv vs.length vs rfl (HRW2.out.hdr.alloc _) (.slice A1 n1 c1) rfl w2.heap.size rfl (cells_new w2 [.slice A1 n1 c1] 22 0 _ rfl) (by omega) (by omega) rfl (by simp; omega) ?_; intro g9 cap9 w9 hown9 hg9 hat9; have HO9 := Lib.hid hown9; have HG9 := Lib.hid hg9; have HA9 := Lib.hid hat9; clear hown9 hg9 hat9)
      have HRW9 : Hid (RW w1.heap.size g w9 (.slice (some ⟨g9, 0, none⟩) (vs.length + 1) cap9) (vs ++ [.slice A1 n1 c1]) ((qs.take k).map (ansR P rows width) ++ [X])) := (show Hid _ from
        (HRW2.out.below HG1.out ((Below.refl _ w2).alloc (Nat.le_refl _) _)).app HSX.out HO9.out HG9.out (fun q hq => by
          have e : g9 = q := by simpa [Value.ownBlock] using hq
          subst e; exact HA9.out))
      have HB9 : Hid (Below w1.heap.size w1 w9) := (show Hid _ from ((HB.out.trans (HB2.out.mono hzr)).alloc hz2 _).grown HG9.out (by simp; omega) (fun q hq => (HRW2.out.hdr.lt q hq).1))
      go_roundw
      case rel => exact ⟨k + 1, _, _, rfl, by omega, by go_num, by rw [HTK.out]; exact HRW9.out, HB9.out⟩
      case measure => simp [intOf]; omega
    · have dk : decide (k < qs.length) = false := decide_eq_false hlk
      have HRF : Hid (RW w1.heap.size g wr pv vs (qs.map (ansR P rows width))) := (show Hid _ from by
        have h := HRW.out
        rw [List.take_of_length_le (by omega)] at h; exact h)
      go_wp2_with fail
      go_ret
      exact ⟨_, rfl, HBw.out, HRF.out.sle HG1.out⟩
theorem Dk.set2 {w : World} {g z : Nat} (h : Dk w g) (hz : g < z) (u1 u2 : Value) : Dk ((w.setCell ⟨z, 0, none⟩ u1).setCell ⟨z, 1, none⟩ u2) g :=
  (h.grown (grownBy_setCell (g := z) (p := ⟨z, 0, none⟩) (grownBy_refl _ _) (.inl rfl) u1) (fun k hk => by injection hk with e; omega)).grown (grownBy_setCell (g := z) (p := ⟨z, 1, none⟩) (grownBy_refl _ _) (.inl rfl) u2) (fun k hk => by injection hk with e; omega)
theorem grown_set2 {a w : World} {r : Option Nat} {z : Nat} (h : a.grownBy w r) (hz : a.heap.size ≤ z) (u1 u2 : Value) : a.grownBy ((w.setCell ⟨z, 0, none⟩ u1).setCell ⟨z, 1, none⟩ u2) r :=
  grownBy_own (grownBy_own h (grownBy_setCell (g := z) (p := ⟨z, 0, none⟩) (grownBy_refl _ _) (.inl rfl) u1) (fun k hk => by injection hk with e; omega)) (grownBy_setCell (g := z) (p := ⟨z, 1, none⟩) (grownBy_refl _ _) (.inl rfl) u2) (fun k hk => by injection hk with e; omega)
theorem QRv.set2 {B : Nat} {w : World} {v : Value} {rows : List (List Int)} (h : QRv B w v rows) {z : Nat} (hz : z < B) (u1 u2 : Value) : QRv B ((w.setCell ⟨z, 0, none⟩ u1).setCell ⟨z, 1, none⟩ u2) v rows := (h.set3 (p := ⟨z, 0, none⟩) hz u1).set3 (p := ⟨z, 1, none⟩) hz u2
end Go.Proofs.YtbgabipngdillaaGreatDoor

namespace Go.Proofs.YtbgabipngdillaaGreatDoor
open Go.RowKit

theorem longB_no {a b : List Int} (ha : a.length ≤ 512) (hb : b.length ≤ 512) : longB [a, b] = false := by
  unfold longB; simp; omega
theorem fi_good {P : Int} {l : List (Int × Bool)} {k : Int} (hp : prB P = true) (hl : l.length ≤ 32) (hlP : (l.length : Int) < P) (hv : ∀ j (h : j < l.length), l[j].2 = true → 0 ≤ l[j].1 ∧ l[j].1 < P) (hk1 : 1 ≤ k) (hk : k ≤ ((kn l).length : Int)) : fiE P l k = 0 := by
  have hkl : (kn l).length ≤ l.length := kn_len l 0
  have hel : ∀ t ∈ kn l, 1 ≤ t.1 ∧ t.1 ≤ (l.length : Int) ∧ 0 ≤ t.2 ∧ t.2 < P := fun t ht => by
    obtain ⟨j, hj, h1, rfl⟩ := kn_val l t ht
    have := hv j hj h1
    simp; omega
  have hce : ceE P l = 0 := by
    unfold ceE
    rw [hp, if_neg (by simp), if_neg (by omega), if_pos]
    rw [List.all_eq_true]
    intro t ht
    have := hel t ht
    exact el_mk (by omega)
  unfold fiE
  rw [if_pos hce, if_neg (by omega), if_neg (by omega)]
  have hmem : ∀ t ∈ (kn l).take k.toNat, t ∈ kn l := fun t ht => List.mem_of_mem_take ht
  have hX : els P (shX ((kn l).take k.toNat)) = true := els_of fun x hx => by
    obtain ⟨t, ht, rfl⟩ := List.mem_map.1 hx
    have := hel t (hmem t ht)
    exact el_mk (by omega)
  have hY : els P (shY ((kn l).take k.toNat)) = true := els_of fun x hx => by
    obtain ⟨t, ht, rfl⟩ := List.mem_map.1 hx
    have := hel t (hmem t ht)
    exact el_mk (by omega)
  have hop : opE P [shX ((kn l).take k.toNat), shY ((kn l).take k.toNat)] = 0 := by
    refine ((opE_end hp fun j hj => ?_).2 (longB_no ?_ ?_)).1
    · match j, hj with
      | 0, _ => exact hX
      | 1, _ => exact hY
    · unfold shX; rw [List.length_map, List.length_take]; omega
    · unfold shY; rw [List.length_map, List.length_take]; omega
  refine (inE_0 hop ?_).1
  have hpw := (knF_pw l 0)
  unfold shX
  rw [List.Nodup, List.pairwise_map]
  refine List.Pairwise.imp (fun {a b} h => ?_) (hpw.sublist (List.take_sublist _ _))
  exact fun e => by omega
theorem ez_trim (x : Int) : ∀ l : List Int, ez (trim l) x = ez l x
  | [] => rfl
  | c :: l => by
    rw [trim_cons]
    have ih := ez_trim x l
    by_cases h : c = 0 ∧ trim l = []
    · rw [if_pos h, ez_cons, ← ih, h.2, h.1, ez_nil]; simp
    · rw [if_neg h, ez_cons, ez_cons, ih]
theorem trim_trim (l : List Int) : trim (trim l) = trim l := by
  have h1 : ∀ l : List Int, trim (trim l) = trim l := by
    intro l
    induction l with
    | nil => rfl
    | cons c l ih =>
      rw [trim_cons]
      by_cases h : c = 0 ∧ trim l = []
      · rw [if_pos h]; rfl
      · rw [if_neg h, trim_cons, ih, if_neg h]
  exact h1 l
/-- the sum of the queries' polynomials, each times the row's element in column c -/
def czm (i : Int) (D : List Int) (t : Nat) (rows : List (List Int)) (c m : Nat) : List Int := (List.range m).foldl (fun A q => az_add A (zmul (gd (gr rows q) c) (qCo i D t q))) []
theorem czm_succ (i : Int) (D : List Int) (t : Nat) (rows : List (List Int)) (c m : Nat) : czm i D t rows c (m + 1) = az_add (czm i D t rows c m) (zmul (gd (gr rows m) c) (qCo i D t m)) := by
  unfold czm; rw [List.range_succ, List.foldl_append]; rfl
theorem czm_len (i : Int) (D : List Int) (t : Nat) (rows : List (List Int)) (c : Nat) : ∀ m, (czm i D t rows c m).length ≤ t + 1
  | 0 => by simp [czm]
  | m + 1 => by
    rw [czm_succ, add_len, zmul_len]
    have := czm_len i D t rows c m
    have h2 : (qCo i D t m).length ≤ t + 1 := by unfold qCo; simp; omega
    omega
theorem czm_zero (i : Nat) (D : List Int) (t : Nat) (rows : List (List Int)) (c : Nat) : ∀ m, gd (czm i D t rows c m) 0 = if i < m then gd (gr rows i) c else 0
  | 0 => by simp [czm, gd]
  | m + 1 => by
    rw [czm_succ, add_gd, zmul_gd, czm_zero i D t rows c m]
    have h : gd (qCo (i : Int) D t m) 0 = if m = i then 1 else 0 := by
      unfold qCo gd
      by_cases e : m = i
      · subst e; simp
      · rw [if_neg e, if_neg (by omega)]; simp
    rw [h]
    by_cases e : m = i
    · subst e; simp
    · by_cases e2 : i < m
      · have e3 : i < m + 1 := by omega
        simp [e2, e, e3]
      · have e3 : ¬ i < m + 1 := by omega
        simp [e2, e, e3]
theorem cmbT_cz {P : Int} {i : Int} {D : List Int} {t n w c : Nat} {rows : List (List Int)} {q : List Int} {x : Int} (hw : ∀ r ∈ rows, r.length = w) (hc : c < w) (hq : ∀ m, m < n → gd q m = val P (qCo i D t m) x) :
    ∀ m, m ≤ n → m ≤ rows.length → P ∣ gd (cmbT P q rows w m) c - ez (czm i D t rows c m) x
  | 0, _, _ => by
    have : gd (zeros w) c = 0 := by unfold gd zeros; rw [List.getElem?_replicate]; split <;> rfl
    show P ∣ gd (zeros w) c - ez [] x
    rw [this, ez_nil]; exact ⟨0, by simp⟩
  | m + 1, h1, h2 => by
    have ih := cmbT_cz hw hc hq m (by omega) (by omega)
    have hrl : (gr rows m).length = w := by
      unfold gr; rw [List.getElem?_eq_getElem (by omega)]
      exact hw _ (List.getElem_mem _)
    rw [cmbT_succ, czm_succ, addT_gd _ _ _ _ _ (by rw [cmbT_len, hrl]; omega), if_pos (by omega), add_ez, zmul_ez, Nat.sub_zero, hq m (by omega), val_ez]
    obtain ⟨k1, hk1⟩ := ih
    obtain ⟨k2, hk2⟩ := mod_dvd P (gd (cmbT P q rows w m) c + ez (qCo i D t m) x % P * gd (gr rows m) c)
    obtain ⟨k3, hk3⟩ := mod_dvd P (ez (qCo i D t m) x)
    refine ⟨k2 + k1 + k3 * gd (gr rows m) c, ?_⟩
    have e1 : ez (qCo i D t m) x % P = ez (qCo i D t m) x + P * k3 := by omega
    rw [Int.mul_add, Int.mul_add, ← hk2, ← hk1, e1, ← Int.mul_assoc, Int.add_mul, Int.mul_comm (gd (gr rows m) c) (ez (qCo i D t m) x)]
    omega
/-- the polynomial of column c -/
def Rc (P : Int) (i : Int) (D : List Int) (t : Nat) (rows : List (List Int)) (c : Nat) : List Int := trim ((czm i D t rows c rows.length).map (· % P))
theorem Rc_els {P : Int} (hP : 2 ≤ P) (i : Int) (D : List Int) (t : Nat) (rows : List (List Int)) (c : Nat) : els P (Rc P i D t rows c) = true := trim_els (els_of fun x hx => by
  obtain ⟨y, _, rfl⟩ := List.mem_map.1 hx
  exact el_mod hP y)
theorem Rc_len (P : Int) (i : Int) (D : List Int) (t : Nat) (rows : List (List Int)) (c : Nat) : (Rc P i D t rows c).length ≤ t + 1 := by
  refine Nat.le_trans (trim_len _) ?_
  rw [List.length_map]; exact czm_len ..
theorem gd_map_mod (P : Int) (l : List Int) (k : Nat) : gd (l.map (· % P)) k = gd l k % P := by
  unfold gd
  rw [List.getElem?_map]
  cases l[k]? with
  | none => simp
  | some y => rfl
theorem Rc_zero {P : Int} {i : Nat} {D : List Int} {t : Nat} {rows : List (List Int)} {c : Nat} (hi : i < rows.length) (he : els P (gr rows i) = true) (hP : 2 ≤ P) : gd (Rc P i D t rows c) 0 = gd (gr rows i) c := by
  unfold Rc
  rw [trim_gd, gd_map_mod, czm_zero, if_pos hi]
  have := el_t (els_gd hP he c)
  exact Int.emod_eq_of_lt this.1 this.2
theorem Rc_val {P : Int} {i : Int} {D : List Int} {t w c : Nat} {rows : List (List Int)} {q : List Int} {x : Int} (hP : 2 ≤ P) (hw : ∀ r ∈ rows, r.length = w) (hc : c < w) (hq : ∀ m, m < rows.length → gd q m = val P (qCo i D t m) x) :
    val P (Rc P i D t rows c) x = gd (cmb P q rows w) c := by
  have h1 := cmbT_cz hw hc hq rows.length (Nat.le_refl _) (Nat.le_refl _)
  have h2 := el_t (els_gd hP (cmbT_els hP q rows w rows.length) c)
  unfold Rc cmb
  rw [val_ez, ez_trim]
  obtain ⟨k1, hk1⟩ := h1
  obtain ⟨k2, hk2⟩ := ez_modm (P := P) (czm i D t rows c rows.length) x
  have e : ez ((czm i D t rows c rows.length).map (· % P)) x = gd (cmbT P q rows w rows.length) c + P * (k2 - k1) := by rw [Int.mul_sub]; omega
  rw [e, Int.add_mul_emod_self_left]
  exact Int.emod_eq_of_lt h2.1 h2.2
theorem knC_len (l : List (Bool × List Int)) (c : Nat) : (kn (colC l c)).length = knL l := by
  have key : ∀ (l : List (Bool × List Int)) i, (knF i (colC l c)).length = knL l := by
    intro l
    induction l with
    | nil => intro i; simp [colC, knF, knL]
    | cons a l ih =>
      intro i
      have e : colC (a :: l) c = (if a.1 then gd a.2 c else 0, a.1) :: colC l c := rfl
      rw [e, knF, List.length_append, ih]
      unfold knL
      cases h : a.1 <;> simp [h]; omega
  exact key l 0
/-- a column whose known cells are right but for few -/
theorem dec_one {P : Int} {n t c w : Nat} {i : Nat} {D : List Int} {rows : List (List Int)} {L : List (Bool × List Int)} (hp : prB P = true) (hn : L.length = n) (hn32 : n ≤ 32) (hnP : (n : Int) < P) (hk : t + 1 ≤ knL L)
    (hv : ∀ j (h : j < L.length), L[j].1 = true → L[j].2.length = w ∧ els P L[j].2 = true) (hf : (wrk P (kn (colC L c)) (Rc P i D t rows c)).length ≤ (knL L - (t + 1)) / 2) :
    UnR P (colC L c) ((t : Int) + 1) (Rc P i D t rows c) 0 := by
  have hP := prB_bd hp
  have e : ((t : Int) + 1).toNat = t + 1 := by omega
  refine .inr ⟨fi_good hp (by rw [colC_length]; omega) (by rw [colC_length]; omega) (fun j hj h1 => ?_) (by omega) (by rw [knC_len]; omega), .inl ⟨rfl, ⟨?_, Rc_els hP.1 .., trim_trim _, ?_⟩⟩⟩
  · have hj' : j < L.length := by rw [colC_length] at hj; exact hj
    rw [colC_get _ _ _ hj'] at h1 ⊢
    simp only at h1 ⊢
    rw [if_pos h1]
    exact el_t (els_gd hP.1 (hv j hj' h1).2 c)
  · rw [e]; exact Rc_len ..
  · rw [e]; unfold radN; rw [knC_len]; exact hf
end Go.Proofs.YtbgabipngdillaaGreatDoor

namespace Go.Proofs.YtbgabipngdillaaGreatDoor
open Go.RowKit

theorem nodup_sub {α : Type} [DecidableEq α] : ∀ (a b : List α), a.Nodup → (∀ x ∈ a, x ∈ b) → a.length ≤ b.length
  | [], _, _, _ => by simp
  | x :: a, b, hd, hs => by
    have hx : x ∈ b := hs x (by simp)
    have h1 := nodup_sub a (b.erase x) (List.nodup_cons.1 hd).2 fun y hy => by
      have h2 : y ≠ x := fun e => (List.nodup_cons.1 hd).1 (e ▸ hy)
      exact (List.mem_erase_of_ne h2).2 (hs y (by simp [hy]))
    rw [List.length_erase_of_mem hx] at h1
    have : 0 < b.length := List.length_pos_of_mem hx
    simp; omega
theorem kn_mem {l : List (Int × Bool)} {j : Nat} (hj : j < l.length) (hb : l[j].2 = true) : ((j : Int) + 1, l[j].1) ∈ kn l := by
  have key : ∀ (l : List (Int × Bool)) i j (hj : j < l.length), l[j].2 = true → (((i + j : Nat) : Int) + 1, l[j].1) ∈ knF i l := by
    intro l
    induction l with
    | nil => intro i j hj; simp at hj
    | cons c l ih =>
      intro i j hj hb
      rw [knF, List.mem_append]
      cases j with
      | zero => left; simp at hb; simp [hb]
      | succ j =>
        right
        have := ih (i + 1) j (by simpa using hj) (by simpa using hb)
        have e : i + 1 + j = i + (j + 1) := by omega
        rw [e] at this
        simpa using this
  have := key l 0 j hj hb
  show _ ∈ knF 0 l
  simpa using this
theorem wrk_nodup (P : Int) (l : List (Int × Bool)) (p : List Int) : (wrg P l p).Nodup := by
  unfold wrg wrk
  rw [List.Nodup, List.pairwise_map]
  exact List.Pairwise.imp (fun {a b} h e => by omega) ((knF_pw l 0).sublist List.filter_sublist)
theorem wrg_mem {P : Int} {L : List (Bool × List Int)} {c : Nat} {p : List Int} {x : Int} : x ∈ wrg P (colC L c) p ↔ ∃ j, ∃ h : j < L.length, L[j].1 = true ∧ x = (j : Int) + 1 ∧ val P p x ≠ gd L[j].2 c := by
  constructor
  · intro hx
    obtain ⟨t, ht, rfl⟩ := List.mem_map.1 hx
    obtain ⟨h1, h2⟩ := List.mem_filter.1 ht
    obtain ⟨j, hj, h3, rfl⟩ := kn_val _ t h1
    have hj' : j < L.length := by rw [colC_length] at hj; exact hj
    rw [colC_get _ _ _ hj'] at h3 h2
    simp only at h3
    refine ⟨j, hj', h3, rfl, ?_⟩
    simp [h3] at h2
    exact h2
  · rintro ⟨j, hj, h1, rfl, h2⟩
    have hj' : j < (colC L c).length := by rw [colC_length]; exact hj
    have h3 := kn_mem (l := colC L c) hj' (by rw [colC_get _ _ _ hj]; exact h1)
    refine List.mem_map.2 ⟨_, List.mem_filter.2 ⟨h3, ?_⟩, rfl⟩
    rw [colC_get _ _ _ hj]
    simp [h1]
    exact h2
theorem qRow_gd (P want : Int) (D : List Int) (t k c m : Nat) (h : m < c) : gd (qRow P want D t k c) m = val P (qCo want D t m) ((k : Int) + 1) := by
  unfold qRow gd
  rw [List.getElem?_map, List.getElem?_range h]; rfl
theorem dec_all {P : Int} {n t i w : Nat} {D : List Int} {rows : List (List Int)} {L : List (Bool × List Int)} {bad row wr : List Int} {er : Int} (hp : prB P = true) (hn2 : 2 ≤ n) (hn10 : n ≤ 10) (hnP : (n : Int) < P) (ht1 : 1 ≤ t) (htn : t < n)
    (hi : i < rows.length) (hrw : ∀ r ∈ rows, r.length = w ∧ els P r = true) (hw : w ≤ 64) (hL : L.length = n) (hk : t + 1 ≤ knL L) (hv : ∀ j (h : j < L.length), L[j].1 = true → L[j].2.length = w ∧ els P L[j].2 = true)
    (hinc : inc bad) (hbad : ∀ x, x ∈ bad ↔ ∃ j, ∃ h : j < L.length, L[j].1 = true ∧ x = (j : Int) + 1 ∧ L[j].2 ≠ cmb P (qRow P i D t j rows.length) rows w) (hb : bad.length ≤ (knL L - (t + 1)) / 2)
    (hD : DeR P n t w L row wr er) : er = 0 ∧ row = gr rows i ∧ wr = bad := by
  have hP := prB_bd hp
  have hvB : vaB n t = true := decide_eq_true ⟨by omega, by omega, by omega, by omega⟩
  have hcu : cuE P n t = 0 := by unfold cuE; rw [if_neg (by rw [hp]; simp), if_neg (by rw [hvB]; simp; omega)]
  have hwd : wdB w L = true := by
    unfold wdB
    exact all_yes fun j hj => by
      cases h : L[j].1 with
      | false => rfl
      | true => have h2 := (hv j hj h).1; simp; omega
  have hel : elB P L = true := by
    unfold elB
    exact all_yes fun j hj => by
      cases h : L[j].1 with
      | false => rfl
      | true => simp; exact (hv j hj h).2
  have hck : ckE P w n ((t : Int) + 1) L = 0 := by
    unfold ckE
    rw [if_neg (by omega), if_neg (by omega), hwd, if_neg (by simp), hel, if_neg (by simp), if_neg (by omega)]
  have hrv : ∀ (j : Nat) c, c < w → val P (Rc P i D t rows c) ((j : Int) + 1) = gd (cmb P (qRow P i D t j rows.length) rows w) c := fun j c hc =>
    Rc_val hP.1 (fun r hr => (hrw r hr).1) hc fun m hm => qRow_gd _ _ _ _ _ _ _ hm
  have hcl : ∀ q, (cmb P q rows w).length = w := fun q => cmbT_len ..
  have hun : ∀ c, c < w → UnR P (colC L c) ((t : Int) + 1) (Rc P i D t rows c) 0 := fun c hc => by
    refine dec_one hp hL (by omega) hnP hk hv (Nat.le_trans ?_ hb)
    have h1 : (wrg P (colC L c) (Rc P i D t rows c)).length = (wrk P (kn (colC L c)) (Rc P i D t rows c)).length := by unfold wrg; rw [List.length_map]
    rw [← h1]
    refine nodup_sub _ _ (wrk_nodup ..) fun x hx => ?_
    obtain ⟨j, hj, h2, rfl, h3⟩ := wrg_mem.1 hx
    refine (hbad _).2 ⟨j, hj, h2, rfl, fun e => h3 ?_⟩
    rw [hrv j c hc, e]
  rcases hD with ⟨h, _⟩ | ⟨_, h⟩
  · exact absurd hcu h
  rcases h with ⟨h, _⟩ | ⟨_, h⟩
  · exact absurd hck h
  rcases h with ⟨⟨c, hc, o, e, h1, h2⟩, _⟩ | ⟨ps, hal, hrow, her⟩
  · rw [Int.toNat_natCast] at hc
    exact absurd (UnR.uniq h1 (hun c hc)).2 h2
  · rw [Int.toNat_natCast] at hal
    obtain ⟨hl, hps, hws⟩ := hal
    have hpc : ∀ c (h : c < ps.length), ps[c] = Rc P i D t rows c := fun c h => (UnR.uniq (hps c h) (hun c (by omega))).1
    have hgi : (gr rows i).length = w ∧ els P (gr rows i) = true := by
      unfold gr; rw [List.getElem?_eq_getElem hi]; exact hrw _ (List.getElem_mem hi)
    refine ⟨her, ?_, ?_⟩
    · rw [hrow]
      refine list_ext_gd (by rw [List.length_map, hl]; exact hgi.1.symm) fun c hc => ?_
      have hc' : c < ps.length := by simpa using hc
      have e : gd (ps.map fun p => gd p 0) c = gd ps[c] 0 := by
        unfold gd; rw [List.getElem?_map, List.getElem?_eq_getElem hc']; rfl
      rw [e, hpc c hc']
      exact Rc_zero hi hgi.2 hP.1
    · rw [hws]
      refine srt_inc hinc fun x => ?_
      rw [wrA_mem]
      constructor
      · rintro ⟨c, hc, hx⟩
        rw [Nat.zero_add, hpc c hc] at hx
        obtain ⟨j, hj, h2, rfl, h3⟩ := wrg_mem.1 hx
        refine (hbad _).2 ⟨j, hj, h2, rfl, fun e => h3 ?_⟩
        rw [hrv j c (by omega), e]
      · intro hx
        obtain ⟨j, hj, h2, rfl, h3⟩ := (hbad _).1 hx
        have h4 : ∃ c, c < w ∧ gd L[j].2 c ≠ gd (cmb P (qRow P i D t j rows.length) rows w) c := by
          refine Classical.byContradiction fun hn => h3 (list_ext_gd (by rw [hcl, (hv j hj h2).1]) fun c hc => ?_)
          refine Classical.byContradiction fun h5 => hn ⟨c, by rw [(hv j hj h2).1] at hc; exact hc, h5⟩
        obtain ⟨c, hc, h5⟩ := h4
        refine ⟨c, by omega, ?_⟩
        rw [Nat.zero_add, hpc c (by omega)]
        exact wrg_mem.2 ⟨j, hj, h2, rfl, by rw [hrv j c hc]; exact fun e => h5 e.symm⟩
/-- too few answers -/
theorem dec_few {P : Int} {n t w : Nat} {L : List (Bool × List Int)} {row wr : List Int} {er : Int} (hp : prB P = true) (hn2 : 2 ≤ n) (hn10 : n ≤ 10) (hnP : (n : Int) < P) (ht1 : 1 ≤ t) (htn : t < n) (hw : w ≤ 64) (hL : L.length = n) (hk : knL L < t + 1)
    (hv : ∀ j (h : j < L.length), L[j].1 = true → L[j].2.length = w ∧ els P L[j].2 = true) (hD : DeR P n t w L row wr er) : er = 11 := by
  have hvB : vaB n t = true := decide_eq_true ⟨by omega, by omega, by omega, by omega⟩
  have hcu : cuE P n t = 0 := by unfold cuE; rw [if_neg (by rw [hp]; simp), if_neg (by rw [hvB]; simp; omega)]
  have hwd : wdB w L = true := by
    unfold wdB
    exact all_yes fun j hj => by
      cases h : L[j].1 with
      | false => rfl
      | true => have h2 := (hv j hj h).1; simp; omega
  have hel : elB P L = true := by
    unfold elB
    exact all_yes fun j hj => by
      cases h : L[j].1 with
      | false => rfl
      | true => simp; exact (hv j hj h).2
  have hck : ckE P w n ((t : Int) + 1) L = 11 := by
    unfold ckE
    rw [if_neg (by omega), if_neg (by omega), hwd, if_neg (by simp), hel, if_neg (by simp), if_pos (by omega)]
  rcases hD with ⟨h, _⟩ | ⟨_, h⟩
  · exact absurd hcu h
  rcases h with ⟨_, h, _⟩ | ⟨h, _⟩
  · rw [h, hck]
  · rw [hck] at h; cases h
end Go.Proofs.YtbgabipngdillaaGreatDoor
