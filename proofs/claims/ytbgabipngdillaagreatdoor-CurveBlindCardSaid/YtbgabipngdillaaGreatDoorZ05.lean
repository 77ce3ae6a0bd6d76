/- Joined: Az Dr Ds Wr Re0. -/
import Derived.Lib.AppendZerosOnto
import Derived.Lib.SliceRun
import Derived.Deep.RegionHeld3
import Derived.Deep.RegionWith
import Derived.Deep.Cut
import Derived.Deep.QuietTactic
import Derived.BigQuiet
import Derived.Deep.RegionLaw
import Derived.Test.YtbgabipngdillaaGreatDoorZ01
import Derived.Test.YtbgabipngdillaaGreatDoorZ04
import Derived.Test.YtbgabipngdillaaGreatDoorZ02
namespace Go.Proofs.YtbgabipngdillaaGreatDoor
open Go.RowKit

theorem zero_cells (k : Nat) : (Builtin.zeroCells (Value.int .i64 0).cells k).toList = List.replicate k (Value.int .i64 0) := by
  have hz : (Value.int .i64 0).cells = #[Value.int .i64 0] := rfl
  rw [hz]
  simp only [Builtin.zeroCells, Array.toList_map, Array.toList_range]
  apply List.ext_getElem
  · simp
  · intro i h1 h2
    simp [Nat.mod_one]
theorem zero_cells' (k : Nat) : Builtin.zeroCells (Value.int .i64 0).cells k = (List.replicate k (Value.int .i64 0)).toArray := by
  rw [← zero_cells]
theorem run_append_zeros {P : Program} (w : World) (base : Nat) (t tn ty e : TypeId) (ht : P.underlying t = some (.slice e)) (htn : P.underlying tn = some (.int .i64)) (hinfo : (P.info? e).map (fun i => (i.zero, i.size, i.bytes)) = some (some (.int .i64 0), 1, 8))
    (v : Value) (n : Nat) (xs : List Value) (hown : w.ownsRow base e 1 v n xs) (k : Nat) (hb : n + k ≤ 1000000000) (hbase : base ≤ w.heap.size) :
    ∃ v' w', (Builtin.append_ #[t, tn] ty #[v, .int .i64 k]).run P w = .ok v' w' ∧ w'.ownsRow base e 1 v' (n + k) (xs ++ List.replicate k (.int .i64 0)) ∧ w.grownBy w' v.ownBlock := by
  obtain ⟨i, hi, hz, hs, hby⟩ := info_parts hinfo
  have hlen : (xs ++ List.replicate k (Value.int .i64 0)).length = (n + k) * 1 := by rw [List.length_append, hown.1]; simp
  have grown : ∀ (old : Nat) (row : Option Nat), (w.drew.alloc (.cells (xs.toArray ++ (List.replicate k (Value.int .i64 0)).toArray ++ (List.replicate (grownCap w (n + k) old e - (n + k)) (Value.int .i64 0)).toArray) e)).ownsRow base e 1
        (.slice (some ⟨w.heap.size, 0, none⟩) (n + k) (grownCap w (n + k) old e)) (n + k) (xs ++ List.replicate k (.int .i64 0)) ∧
      w.grownBy (w.drew.alloc (.cells (xs.toArray ++ (List.replicate k (Value.int .i64 0)).toArray ++ (List.replicate (grownCap w (n + k) old e - (n + k)) (Value.int .i64 0)).toArray) e)) row := by
    intro old row
    have hge := grownCap_ge w (n + k) old e
    have hcm : grownCap w (n + k) old e ≤ maxLen := grownCap_le_maxLen w (n + k) old e (by unfold maxLen; omega)
    refine ⟨⟨hlen, .inr ⟨w.heap.size, _, _, rfl, hbase, heap_alloc_new w.drew _, hge, hcm, ?_, ?_⟩⟩, ⟨rfl, rfl, rfl, by simp, fun j hj _ => Below.heap_alloc w.drew _ j hj⟩⟩
    · have := hown.1
      simp only [Array.size_append, List.size_toArray, List.length_replicate]
      omega
    · simp only [Array.toList_append, List.append_assoc]
      rw [← List.append_assoc, ← hlen]
      exact List.take_left
  have hwk : IntKind.i64.wrap (k : Int) = k := by rw [IntKind.wrap_i64]; omega
  have hw0 : IntKind.i64.wrap 0 = 0 := by rw [IntKind.wrap_i64]; omega
  rcases hown.2 with ⟨rfl, rfl⟩ | ⟨g, cap, cur, rfl, hbg, hg, hnc, hcm, hcs, htake⟩
  · have hx : xs = [] := List.eq_nil_of_length_eq_zero (by simpa using hown.1)
    subst hx
    rcases Nat.eq_zero_or_pos k with h0 | h0
    · subst h0
      refine ⟨.slice none 0 0, w, ?_, by simpa using World.ownsRow_nil w base e 1, ⟨rfl, rfl, rfl, Nat.le_refl _, fun _ _ _ => rfl⟩⟩
      simp [Builtin.append_, run_underlying ht, run_underlying htn, sizeOf, typeInfo, zeroValue, hi, hz, asInt, asIntOf, hw0]
    · have hr := Lib.run_append_nil_zeros (P := P) w t tn ty e i (.int .i64 0) .i64 .i64 ht htn hi hz k h0 (by omega) (by omega) (by rw [hby]; omega)
      have hgr := grown 0 (Value.ownBlock (.slice none 0 0))
      rw [zero_cells', zero_cells'] at hr
      simp only [Nat.zero_add, List.nil_append, Array.empty_append] at hgr ⊢
      exact ⟨_, _, hr, hgr.1, hgr.2⟩
  · by_cases hroom : n + k ≤ cap
    · have hfit : n * i.size + (List.replicate k (Value.int .i64 0)).length ≤ cur.size := by rw [hs, hcs]; simp; omega
      have hst := run_storeCells_at P g (n * i.size) e (List.replicate k (Value.int .i64 0)) 0 cur w hg (by simpa using hfit) (by intro u hu; rw [(List.mem_replicate.1 hu).2]; rfl)
      simp only [Nat.add_zero] at hst
      have hneg : ¬ ((k : Int) < 0) := by omega
      have h48i : ¬ (281474976710656 < (k : Int) * (i.bytes : Int)) := by rw [hby]; omega
      have hr : (Builtin.append_ #[t, tn] ty #[.slice (some ⟨g, 0, none⟩) n cap, .int .i64 k]).run P w = .ok (.slice (some ⟨g, 0, none⟩) (n + k) cap) (w.setRow g (cur.toList.take (n * i.size) ++ List.replicate k (Value.int .i64 0) ++ cur.toList.drop (n * i.size + (List.replicate k (Value.int .i64 0)).length)).toArray) := by
        by_cases hk0 : k = 0
        · subst hk0
          simp only [List.replicate_zero] at hst
          simp [Builtin.append_, run_underlying ht, run_underlying htn, sizeOf, typeInfo, zeroValue, hi, hz, asInt, asIntOf, hw0, hnc, Addr.add_lit]
          have hst' : Sem.run P (storeCells ⟨g, n * i.size, none⟩ []) w = Result.ok () (w.setRow g cur) := by simpa using hst
          simp [hst']
        · have hks : ¬ (k * i.size = 0) := Nat.mul_ne_zero hk0 (by omega)
          simp [Builtin.append_, run_underlying ht, run_underlying htn, sizeOf, typeInfo, zeroValue, hi, hz, asInt, asIntOf, hwk, hneg, h48i, hks, hroom, Addr.add_lit, zero_cells', hst]
      refine ⟨_, _, hr, ⟨hlen, .inr ⟨g, cap, _, rfl, hbg, setRow_heap w g cur _ e _ hg, hroom, hcm, ?_, ?_⟩⟩, ⟨rfl, rfl, rfl, by simp, fun k _ hk => setRow_other w g k _ (fun e => hk (by simp [Value.ownBlock, e]))⟩⟩
      · simp only [List.size_toArray, List.length_append, List.length_take, List.length_drop, Array.length_toList]
        rw [hs] at hfit ⊢
        omega
      · rw [hs, htake, ← hlen]
        exact List.take_left
    · have holds : ∀ j u, xs[j]? = some u → w.cell? ((⟨g, 0, none⟩ : Addr).add j) = some u := hown.cells (g := g) rfl
      have hf := run_firstCells_some (P := P) w.drew i.size n ⟨g, 0, none⟩ n cap xs (by rw [hs]; exact hown.1) (by simpa using holds)
      have hr := Lib.run_append_grow_zeros (P := P) w t tn ty e i (.int .i64 0) .i64 .i64 ht htn hi hz (some ⟨g, 0, none⟩) n cap xs hf k (by omega) (by omega) (by omega) (by omega) (by rw [hby]; omega) (growslice_fits (by omega) (by rw [hby]; omega))
      rw [zero_cells', zero_cells'] at hr
      have hgr := grown cap (Value.ownBlock (.slice (some ⟨g, 0, none⟩) n cap))
      exact ⟨_, _, hr, hgr.1, hgr.2⟩
theorem wpList_append_zeros {P : Program} (w : World) {ops : Array Oper} {rest : List Oper} {o : Oper} {a : Act} {Q : Exit → Act → World → Prop} (hgd : o.guard = none) (s x : Operand) (t tn : TypeId)
    (ho : o.op = .call { callee := .builtin .append, args := #[s, x], argTypes := #[t, tn] })
    (base : Nat) (e : TypeId) (ht : P.underlying t = some (.slice e)) (htn : P.underlying tn = some (.int .i64)) (hinfo : (P.info? e).map (fun i => (i.zero, i.size, i.bytes)) = some (some (.int .i64 0), 1, 8))
    (v : Value) (xs : List Int) (hs : a.eval s = v) (hown : w.ownsRow base e 1 v xs.length (xs.map (Value.int .i64))) (k : Nat) (hx : a.eval x = .int .i64 k) (hb : xs.length + k ≤ 1000000000) (hbase : base ≤ w.heap.size)
    (h : ∀ v' w', w'.ownsRow base e 1 v' (xs ++ List.replicate k 0).length ((xs ++ List.replicate k 0).map (Value.int .i64)) → w.grownBy w' v.ownBlock → wpList P ops Q rest (a.put o.dst v') w') : wpList P ops Q (o :: rest) a w := by
  obtain ⟨v', w', hr, h1, h2⟩ := run_append_zeros (P := P) w base t tn o.type e ht htn hinfo v _ _ hown k hb hbase
  exact Lib.wpList_append_run w hgd s x t tn ho _ _ hs hx v' w' hr (h v' w' (by simpa using h1) h2)
end Go.Proofs.YtbgabipngdillaaGreatDoor

namespace Go.Proofs.YtbgabipngdillaaGreatDoor
open Go.RowKit

theorem own_sl {w : World} {base e size n : Nat} {v : Value} {xs : List Value} (h : w.ownsRow base e size v n xs) : ∃ A c, v = .slice A n c := by
  rcases h.2 with ⟨rfl, rfl⟩ | ⟨g, cap, cur, rfl, _⟩
  · exact ⟨_, _, rfl⟩
  · exact ⟨_, _, rfl⟩
theorem SI.form' {w : World} {v : Value} {l : List Int} (h : SI w v l) : ∃ A c, v = .slice A l.length c := by
  obtain ⟨A, c, rfl, _⟩ := h
  exact ⟨A, c, rfl⟩
/-- the first error of c draws below n, from a place on -/
def drE (l : List Int) (n : Int) : Nat → Nat → Int
  | _, 0 => 0
  | i, c + 1 => if i < l.length then (if gd l i < 0 ∨ n ≤ gd l i then 8 else drE l n (i + 1) c) else 3
theorem drE_ok {l : List Int} {n : Int} : ∀ {c i : Nat}, drE l n i c = 0 → ∀ j, j < c → i + j < l.length ∧ 0 ≤ gd l (i + j) ∧ gd l (i + j) < n := by
  intro c
  induction c with
  | zero => intro i _ j hj; omega
  | succ c ih =>
    intro i h j hj
    unfold drE at h
    split at h
    · rename_i h1
      split at h
      · omega
      · rename_i h2
        cases j with
        | zero => exact ⟨h1, by simp; omega⟩
        | succ j =>
          have := ih h j (by omega)
          rw [show i + (j + 1) = i + 1 + j by omega]
          exact this
    · omega
theorem drE_of {l : List Int} {n : Int} : ∀ {c i : Nat}, (∀ j, j < c → i + j < l.length ∧ 0 ≤ gd l (i + j) ∧ gd l (i + j) < n) → drE l n i c = 0 := by
  intro c
  induction c with
  | zero => intro i _; rfl
  | succ c ih =>
    intro i h
    have h0 := h 0 (by omega)
    simp only [Nat.add_zero] at h0
    unfold drE
    rw [if_pos h0.1, if_neg (by omega)]
    exact ih fun j hj => by have := h (j + 1) (by omega); rwa [show i + (j + 1) = i + 1 + j by omega] at this
/-- the next number -/
def nxE (l : List Int) (n : Int) (i : Nat) : Int := if i < l.length then (if gd l i < 0 ∨ n ≤ gd l i then 8 else 0) else 3
def nxV (l : List Int) (n : Int) (i : Nat) : Int := if nxE l n i = 0 then gd l i else 0
def nxA (l : List Int) (n : Int) (i : Nat) : Int := if nxE l n i = 0 then (i : Int) + 1 else i
theorem nx_er {l : List Int} {n : Int} {i : Nat} {e : Int} (h : nxE l n i = e) (he : e ≠ 0) : nxE l n i = e ∧ nxV l n i = 0 ∧ nxA l n i = i := by
  refine ⟨h, ?_, ?_⟩
  · unfold nxV; rw [if_neg (by omega)]
  · unfold nxA; rw [if_neg (by omega)]
theorem nx_ok {l : List Int} {n : Int} {i : Nat} (h : nxE l n i = 0) : nxE l n i = 0 ∧ nxV l n i = gd l i ∧ nxA l n i = (i : Int) + 1 := by
  refine ⟨h, ?_, ?_⟩
  · unfold nxV; rw [if_pos h]
  · unfold nxA; rw [if_pos h]

set_option maxRecDepth 100000 in
set_option maxHeartbeats 4000000 in
theorem tnext_any (l : List Int) (i : Nat) (n : Int) (b : Nat) (vn vd : Value) (w : World) (hl : SI w vn l) (hi : i ≤ l.length) (hlm : l.length ≤ 1000000) (hb : w.heap[b]? = some (.cells #[vn, .int .i64 i, vd] 128 (0, 0))) :
    Calls Tryz.prog 88 #[.pointer (some ⟨b, 0, none⟩), .int .i64 n] w fun e w' => e = .returned (.tuple #[.int .i64 (nxV l n i), .int .i64 (nxE l n i)]) ∧ w.grownBy w' (some b) ∧ w'.heap.size = w.heap.size ∧
      w'.heap[b]? = some (.cells #[vn, .int .i64 (nxA l n i), vd] 128 (0, 0)) := by
  have HL := Lib.hid hl
  have HB := Lib.hid hb
  obtain ⟨A, c, rfl⟩ := hl.form'
  have c0 : w.cell? ⟨b, 0, none⟩ = some (.slice A l.length c) := cell_of_row w b 0 _ _ _ hb
  have c1 : w.cell? ⟨b, 1, none⟩ = some (.int .i64 i) := cell_of_row w b 1 _ _ _ hb
  have f1 : w.frozen? ⟨b, 1, none⟩ = false := frozen_of_row w b 1 _ _ hb
  clear hl hb
  go_enter Tryz.func88, Tryz.ntmps88
  by_cases h3 : i < l.length
  · have hd : ((i : Int) == (l.length : Int)) = false := by rw [beq_eq_false_iff_ne]; omega
    have hd' : decide ((i : Int) = (l.length : Int)) = false := decide_eq_false (by omega)
    obtain ⟨a, off, hA, _, hcell⟩ := SB.cells HL.out (by omega)
    subst hA
    have hck := hcell i h3
    have HG : Hid (gd l i = l[i]) := gd_lt h3
    have hi1 : (i : Int) < (l.length : Int) := by omega
    clear hcell
    go_wp2_with fail
    go_quiet (fail)
    obtain ⟨q0, hq0⟩ : ∃ q0, nq = q0 := ⟨_, rfl⟩
    rw [hq0]
    clear hq0
    obtain ⟨w0, ew0⟩ : ∃ w0 : World, w0 = w.drewN q0 := ⟨_, rfl⟩
    have HW0 : Hid (w0 = w.drewN q0) := ew0
    have b0 : w0.cell? ⟨b, 0, none⟩ = some (.slice (some ⟨a, off, none⟩) l.length c) := by rw [ew0]; exact c0
    have b1 : w0.cell? ⟨b, 1, none⟩ = some (.int .i64 i) := by rw [ew0]; exact c1
    have bk : w0.cell? ⟨a, off + i, none⟩ = some (.int .i64 l[i]) := by rw [ew0]; exact hck
    rw [← ew0]
    clear ew0
    go_wp2_with fail
    go_quiet (fail)
    obtain ⟨m, hm⟩ : ∃ m, w0.drewN nq = w.drewN m := ⟨q0 + nq, by rw [HW0.out, World.drewN_drewN]⟩
    rw [hm]
    clear hm b0 b1 bk
    obtain ⟨w1, ew1⟩ : ∃ w1 : World, w1 = w.drewN m := ⟨_, rfl⟩
    have HW1 : Hid (w1 = w.drewN m) := ew1
    have d0 : w1.cell? ⟨b, 0, none⟩ = some (.slice (some ⟨a, off, none⟩) l.length c) := by rw [ew1]; exact c0
    have d1 : w1.cell? ⟨b, 1, none⟩ = some (.int .i64 i) := by rw [ew1]; exact c1
    have dk : w1.cell? ⟨a, off + i, none⟩ = some (.int .i64 l[i]) := by rw [ew1]; exact hck
    have df : w1.frozen? ⟨b, 1, none⟩ = false := by rw [ew1]; exact f1
    rw [← ew1]
    clear ew1 c0 c1 hck f1
    have HX : Hid (nxE l n i = if l[i] < 0 ∨ n ≤ l[i] then 8 else 0) := by show _ = _; unfold nxE; rw [if_pos h3, HG.out]
    by_cases hx : l[i] < 0 ∨ n ≤ l[i]
    · have HE : Hid (nxE l n i = 8 ∧ nxV l n i = 0 ∧ nxA l n i = i) := nx_er (by rw [HX.out, if_pos hx]) (by omega)
      by_cases h0 : l[i] < 0
      · have hz : decide (l[i] < 0) = true := decide_eq_true h0
        clear hx
        go_wp2_with fail
        refine bodyPost_ret (v := .tuple #[.int .i64 0, .int .i64 8]) (by simp [results, Tryz.results88, go_sem]) rfl ⟨?_, ?_, ?_, ?_⟩
        · rw [HE.out.1, HE.out.2.1]
        · rw [HW1.out]; exact grownBy_drewN (grownBy_refl w _) m
        · rw [HW1.out]; rfl
        · rw [HE.out.2.2, HW1.out]; exact HB.out
      · have hz : decide (l[i] < 0) = false := decide_eq_false h0
        have hz2 : decide (n ≤ l[i]) = true := decide_eq_true (by omega)
        clear hx
        go_wp2_with fail
        refine bodyPost_ret (v := .tuple #[.int .i64 0, .int .i64 8]) (by simp [results, Tryz.results88, go_sem]) rfl ⟨?_, ?_, ?_, ?_⟩
        · rw [HE.out.1, HE.out.2.1]
        · rw [HW1.out]; exact grownBy_drewN (grownBy_refl w _) m
        · rw [HW1.out]; rfl
        · rw [HE.out.2.2, HW1.out]; exact HB.out
    · have HE : Hid (nxE l n i = 0 ∧ nxV l n i = gd l i ∧ nxA l n i = (i : Int) + 1) := nx_ok (by rw [HX.out, if_neg hx])
      have hz : decide (l[i] < 0) = false := decide_eq_false (by omega)
      have hz2 : decide (n ≤ l[i]) = false := decide_eq_false (by omega)
      clear hx
      go_wp2_with fail
      refine bodyPost_ret (v := .tuple #[.int .i64 l[i], .int .i64 0]) (by simp [results, Tryz.results88, go_sem]) rfl ⟨?_, ?_, ?_, ?_⟩
      · rw [HE.out.1, HE.out.2.1, HG.out]
      · rw [HW1.out]; exact grownBy_setCell (grownBy_drewN (grownBy_refl w _) m) (.inl rfl) _
      · rw [HW1.out]; simp [World.setCell, World.drewN]
      · rw [HE.out.2.2]
        have := heap_setCell_same w1 b 1 _ _ (.int .i64 ((i : Int) + 1)) (by rw [HW1.out]; exact HB.out)
        simpa using this
  · obtain rfl : i = l.length := by omega
    have HE : Hid (nxE l n l.length = 3 ∧ nxV l n l.length = 0 ∧ nxA l n l.length = l.length) := nx_er (by unfold nxE; rw [if_neg (by omega)]) (by omega)
    go_wp2_with fail
    go_quiet (fail)
    go_wp2_with fail
    refine bodyPost_ret (v := .tuple #[.int .i64 0, .int .i64 3]) (by simp [results, Tryz.results88, go_sem]) rfl ⟨?_, grownBy_drewN (grownBy_refl w _) nq, rfl, ?_⟩
    · rw [HE.out.1, HE.out.2.1]
    · rw [HE.out.2.2]; exact HB.out
theorem own_set3 {w : World} {base e size n : Nat} {v : Value} {xs : List Value} {p : Addr} (h : w.ownsRow base e size v n xs) (hp : p.block < base) (u : Value) : (w.setCell p u).ownsRow base e size v n xs := by
  refine ⟨h.1, ?_⟩
  rcases h.2 with hn | ⟨g, cap, cur, rfl, hb, hgg, rest⟩
  · exact .inl hn
  · exact .inr ⟨g, cap, cur, rfl, hb, (heap_setCell_other w p g u (by omega)).trans hgg, rest⟩
/-- in the middle of the draws -/
def DrR (l : List Int) (n : Int) (i0 c b : Nat) (vn : Value) (w : World) (i : Value) (wr : World) : Prop :=
  ∃ (k : Nat) (vd : Value), k ≤ c ∧ i0 + k ≤ l.length ∧ i = .int .i64 k ∧ wr.heap[b]? = some (.cells #[vn, .int .i64 ((i0 + k : Nat) : Int), vd] 128 (0, 0)) ∧ wr.ownsRow w.heap.size 3 1 vd ((l.drop i0).take k).length (((l.drop i0).take k).map (Value.int .i64)) ∧ w.grownBy wr (some b) ∧ drE l n i0 c = drE l n (i0 + k) (c - k)
theorem drE_step {l : List Int} {n : Int} {i0 c k : Nat} (hk : k < c) : drE l n (i0 + k) (c - k) = if nxE l n (i0 + k) = 0 then drE l n (i0 + (k + 1)) (c - (k + 1)) else nxE l n (i0 + k) := by
  obtain ⟨m, hm⟩ : ∃ m, c - k = m + 1 := ⟨c - k - 1, by omega⟩
  rw [hm, show c - (k + 1) = m by omega]
  unfold nxE
  conv => lhs; unfold drE
  by_cases h : i0 + k < l.length
  · rw [if_pos h, if_pos h]
    by_cases h2 : gd l (i0 + k) < 0 ∨ n ≤ gd l (i0 + k)
    · rw [if_pos h2, if_pos h2, if_neg (by omega)]
    · rw [if_neg h2, if_neg h2, if_pos rfl]; rfl
  · rw [if_neg h, if_neg h, if_neg (by omega)]
theorem nx_lt {l : List Int} {n : Int} {i : Nat} (h : nxE l n i = 0) : i < l.length := by
  unfold nxE at h
  split at h
  · assumption
  · omega
set_option maxRecDepth 100000 in
set_option maxHeartbeats 4000000 in
theorem draw_any (l : List Int) (i0 : Nat) (n : Int) (c : Nat) (b : Nat) (vn : Value) (w : World) (hl : SB b w vn l) (hi : i0 ≤ l.length) (hlm : l.length ≤ 1000000) (hc : (c : Int) ≤ 9223372036854775807) (hb : w.heap[b]? = some (.cells #[vn, .int .i64 i0, .slice none 0 0] 128 (0, 0))) :
    Calls Tryz.prog 67 #[.pointer (some ⟨b, 0, none⟩), .int .i64 n, .int .i64 c] w fun e w' => e = .returned (.int .i64 (drE l n i0 c)) ∧ w.grownBy w' (some b) ∧
      (drE l n i0 c = 0 → ∃ vd, w'.heap[b]? = some (.cells #[vn, .int .i64 ((i0 + c : Nat) : Int), vd] 128 (0, 0)) ∧ w'.ownsRow w.heap.size 3 1 vd ((l.drop i0).take c).length (((l.drop i0).take c).map (Value.int .i64))) := by
  have HL := Lib.hid hl
  have HB := Lib.hid hb
  have hbw : b < w.heap.size := heap_of_cells hb
  clear hl hb
  go_enter Tryz.func67, Tryz.ntmps67
  go_wp2_with fail
  go_loopw [7] (fun i wr => DrR l n i0 c b vn w i wr) (fun i _ => c - (intOf i).toNat)
  case atStart => exact ⟨0, .slice none 0 0, Nat.zero_le _, hi, rfl, HB.out, by simpa using World.ownsRow_nil w w.heap.size 3 1, grownBy_refl w _, rfl⟩
  case round =>
    obtain ⟨k, vd, hk, hik, rfl, hbr, hown, hgr, hdr⟩ := hrel
    have HG := Lib.hid hgr
    have HBR := Lib.hid hbr
    have HO := Lib.hid hown
    have HD := Lib.hid hdr
    have hzr := hgr.size
    clear hgr hbr hown hdr
    by_cases hlt : k < c
    · have HST := Lib.hid (HD.out.trans (drE_step (l := l) (n := n) (i0 := i0) hlt))
      have hd1 : decide ((k : Int) < (c : Int)) = true := decide_eq_true (by omega)
      have HLr : Hid (SB b wr vn l) := HL.out.keep fun p hp => World.cell?_of_block (HG.out.block p.block (by omega) (by simp; omega))
      go_wp2_with fail
      (with_reducible refine (tnext_any l (i0 + k) n b vn vd _ (HLr.out.si (by omega)) hik hlm HBR.out).mono ?_)
      rintro e w2 ⟨rfl, hg2, hz2, hb2⟩
      have HG2 : Hid (w.grownBy w2 (some b)) := grownBy_trans HG.out hg2
      have HO2 := Lib.hid (HO.out.kept hg2 (.inr fun e => by have := (HO.out.lt b e).1; omega))
      have hzw : w.heap.size ≤ w2.heap.size := by omega
      by_cases hx : nxE l n (i0 + k) = 0
      · have HX := Lib.hid (nx_ok hx)
        have hlk := nx_lt hx
        rw [HX.out.1, HX.out.2.1]
        rw [HX.out.2.2] at hb2
        have HS2 : Hid (drE l n i0 c = drE l n (i0 + (k + 1)) (c - (k + 1))) := by have h := HST.out; rw [if_pos hx] at h; exact h
        have HB2 := Lib.hid hb2
        obtain ⟨Ad, cd, rfl⟩ := own_sl HO.out
        have HTK : Hid ((l.drop i0).take (k + 1) = (l.drop i0).take k ++ [gd l (i0 + k)]) := by
          show _ = _
          rw [List.take_succ_eq_append_getElem (by simp; omega), gd_lt hlk]
          simp
        have hlen : ((l.drop i0).take k).length = k := by simp; omega
        obtain ⟨D, hD⟩ : ∃ D, (l.drop i0).take k = D := ⟨_, rfl⟩
        rw [hD] at HO2 HB2 HTK hlen
        have HLE := Lib.hid hlen
        obtain ⟨y, hy⟩ : ∃ y, gd l (i0 + k) = y := ⟨_, rfl⟩
        rw [hy] at HTK ⊢
        have c2 : w2.cell? ⟨b, 2, none⟩ = some (.slice Ad D.length cd) := cell_of_row w2 b 2 _ _ _ HB2.out
        have HF2 : Hid (∀ (o : Obj) (w3 : World), (w2.alloc o).grownBy w3 (Value.slice Ad D.length cd).ownBlock → w3.heap[b]? = w2.heap[b]?) := fun o w3 hg => (hg.block b (by have := heap_of_cells HB2.out; simp; omega) (fun e => by have := (HO2.out.lt b e.symm).1; omega)).trans (Below.heap_alloc _ _ _ (heap_of_cells HB2.out))
        have hDl : D.length ≤ 1000000 := by omega
        have HOB : Hid (∀ k, (Value.slice Ad D.length cd).ownBlock = some k → w.heap.size ≤ k) := fun k hk => (HO2.out.lt k hk).1
        clear hx hb2 hg2 hz2 hlen hD hy
        go_wp2_with (at_builtin; refine wpList_append_int1 _ rfl (.tmp 30) (.tmp 32) 22 rfl w.heap.size 3 Tryz.underlying22 iinfo _ D rfl HO2.out y rfl (by omega) hzw ?_; intro v3 w3 hown3 hg3; obtain ⟨A3, k3, rfl⟩ := own_sl hown3; have HO3 := Lib.hid hown3; have HG3 := Lib.hid hg3; have c3 := (World.cell?_of_block (a := ⟨b, 2, none⟩) (HF2.out _ _ HG3.out)).trans c2; have f3 : w3.frozen? ⟨b, 2, none⟩ = false := frozen_of_row w3 b 2 _ _ ((HF2.out _ _ HG3.out).trans HB2.out); clear hown3 hg3)
        go_roundw
        case rel =>
          refine ⟨k + 1, .slice A3 (D ++ [y]).length k3, by omega, by omega, by go_num, ?_, ?_, ?_, HS2.out⟩
          · have := heap_setCell_same w3 b 2 _ _ (.slice A3 (D ++ [y]).length k3) ((HF2.out _ _ HG3.out).trans HB2.out)
            simpa [Int.add_assoc] using this
          · rw [HTK.out]
            exact own_set3 HO3.out hbw _
          · exact grownBy_setCell (grownBy_own (grownBy_alloc' HG2.out _) HG3.out HOB.out) (.inl rfl) _
        case measure => simp [intOf]; omega
      · have hne := hx
        have HS2 : Hid (drE l n i0 c = nxE l n (i0 + k)) := by have h := HST.out; rw [if_neg hx] at h; exact h
        obtain ⟨er, her⟩ : ∃ er, nxE l n (i0 + k) = er := ⟨_, rfl⟩
        have HER := Lib.hid her
        rw [her] at hne ⊢
        have hbn : (er != 0) = true := by rw [bne_iff_ne]; exact hne
        have HNE := Lib.hid hne
        clear hx her hne
        go_wp2_with fail
        go_ret
        exact ⟨by rw [HS2.out, HER.out] <;> rfl, HG2.out, fun h => absurd (HER.out.symm.trans (HS2.out.symm.trans h)) HNE.out⟩
    · obtain rfl : k = c := by omega
      have HZ : Hid (drE l n i0 k = 0) := by show _ = _; rw [HD.out, Nat.sub_self]; rfl
      have hd1 : decide ((k : Int) < (k : Int)) = false := decide_eq_false (by omega)
      go_wp2_with fail
      go_ret
      exact ⟨by rw [HZ.out] <;> rfl, HG.out, fun _ => ⟨vd, HBR.out, HO.out⟩⟩
end Go.Proofs.YtbgabipngdillaaGreatDoor

namespace Go.Proofs.YtbgabipngdillaaGreatDoor
open Go.RowKit

def tvB (l : List Int) (at_ : Int) : Bool := decide (l.length ≤ 16384 ∧ 0 ≤ at_ ∧ at_ ≤ (l.length : Int))
def liB (n : Int) : Bool := decide (1 ≤ n ∧ n ≤ 2147483647)
theorem tvalid_any (l : List Int) (at_ : Int) (v : Value) (w : World) (h : SI w v l) :
    Calls Tryz.prog 65 #[.agg #[v, .int .i64 at_]] w fun e w' => e = .returned (.bool (tvB l at_)) ∧ Below w.heap.size w w' := by
  obtain ⟨A, c, rfl⟩ := h.form'
  clear h
  have HB : Hid (∀ o : Obj, Below w.heap.size w (w.alloc o)) := fun o => (Below.refl _ w).alloc (Nat.le_refl _) o
  go_enter Tryz.func65, Tryz.ntmps65
  by_cases h1 : l.length ≤ 16384
  · have d1 : decide ((l.length : Int) ≤ 16384) = true := decide_eq_true (by omega)
    by_cases h2 : 0 ≤ at_
    · have d2 : decide (0 ≤ at_) = true := decide_eq_true h2
      by_cases h3 : at_ ≤ (l.length : Int)
      · have d3 : decide (at_ ≤ (l.length : Int)) = true := decide_eq_true h3
        have HE : Hid (tvB l at_ = true) := decide_eq_true ⟨h1, h2, h3⟩
        go_wp2_with fail
        go_ret
        exact ⟨by rw [HE.out] <;> rfl, HB.out _⟩
      · have d3 : decide (at_ ≤ (l.length : Int)) = false := decide_eq_false h3
        have HE : Hid (tvB l at_ = false) := decide_eq_false fun h => h3 h.2.2
        go_wp2_with fail
        go_ret
        exact ⟨by rw [HE.out] <;> rfl, HB.out _⟩
    · have d2 : decide (0 ≤ at_) = false := decide_eq_false h2
      have HE : Hid (tvB l at_ = false) := decide_eq_false fun h => h2 h.2.1
      go_wp2_with fail
      go_ret
      exact ⟨by rw [HE.out] <;> rfl, HB.out _⟩
  · have d1 : decide ((l.length : Int) ≤ 16384) = false := decide_eq_false (by omega)
    have HE : Hid (tvB l at_ = false) := decide_eq_false fun h => h1 h.1
    go_wp2_with fail
    go_ret
    exact ⟨by rw [HE.out] <;> rfl, HB.out _⟩
theorem tlimit_any (n : Int) (w : World) : Calls Tryz.prog 66 #[.int .i64 n] w fun e w' => e = .returned (.bool (liB n)) ∧ w = w' := by
  go_enter Tryz.func66, Tryz.ntmps66
  by_cases h1 : 1 ≤ n
  · have d1 : decide (1 ≤ n) = true := decide_eq_true h1
    by_cases h2 : n ≤ 2147483647
    · have d2 : decide (n ≤ 2147483647) = true := decide_eq_true h2
      have HE : Hid (liB n = true) := decide_eq_true ⟨h1, h2⟩
      go_wp2_with fail
      go_ret
      exact ⟨by rw [HE.out] <;> rfl, rfl⟩
    · have d2 : decide (n ≤ 2147483647) = false := decide_eq_false h2
      have HE : Hid (liB n = false) := decide_eq_false fun h => h2 h.2
      go_wp2_with fail
      go_ret
      exact ⟨by rw [HE.out] <;> rfl, rfl⟩
  · have d1 : decide (1 ≤ n) = false := decide_eq_false h1
    have HE : Hid (liB n = false) := decide_eq_false fun h => h1 h.1
    go_wp2_with fail
    go_ret
    exact ⟨by rw [HE.out] <;> rfl, rfl⟩
theorem own_lo {w : World} {base base' e size n : Nat} {v : Value} {xs : List Value} (h : w.ownsRow base e size v n xs) (hb : base' ≤ base) : w.ownsRow base' e size v n xs := by
  refine ⟨h.1, ?_⟩
  rcases h.2 with hn | ⟨g, cap, cur, rfl, hbg, rest⟩
  · exact .inl hn
  · exact .inr ⟨g, cap, cur, rfl, by omega, rest⟩
theorem own_bel {w w' : World} {base e size n : Nat} {v : Value} {xs : List Value} (h : w.ownsRow base e size v n xs) (hb : Below w.heap.size w w') : w'.ownsRow base e size v n xs := by
  refine ⟨h.1, ?_⟩
  rcases h.2 with hn | ⟨g, cap, cur, rfl, hbg, hgg, rest⟩
  · exact .inl hn
  · exact .inr ⟨g, cap, cur, rfl, hbg, (hb.block g (heap_of_cells hgg)).trans hgg, rest⟩
set_option maxRecDepth 100000 in
/-- slices.Clone of ints -/
theorem clone_any (l : List Int) (v : Value) (w : World) (h : SI w v l) (hl : l.length ≤ 1000000) :
    Calls Tryz.prog 68 #[v] w fun e w' => ∃ v', e = .returned v' ∧ w'.ownsRow w.heap.size 3 1 v' l.length (l.map (Value.int .i64)) ∧ Below w.heap.size w w' := by
  have HS := Lib.hid h
  obtain ⟨A, c, rfl⟩ := h.form'
  clear h
  rcases A with _ | a
  · have hl0 : l = [] := by
      rcases Nat.eq_zero_or_pos l.length with h | h
      · exact List.eq_nil_of_length_eq_zero h
      · obtain ⟨b, off, e, _⟩ := SB.cells HS.out h; cases e
    subst hl0
    have hn := Lib.run_eql_slice_nil (P := Tryz.prog) w 22 3 none 0 c 0 0 Tryz.underlying22
    go_enter Tryz.func68, Tryz.ntmps68
    go_wp2_with fail
    go_ret
    exact ⟨_, rfl, by simpa using World.ownsRow_nil w w.heap.size 3 1, Below.refl _ _⟩
  · have hn := Lib.run_eql_slice_nil (P := Tryz.prog) w 22 3 (some a) l.length c 0 0 Tryz.underlying22
    go_enter Tryz.func68, Tryz.ntmps68
    have hO : Hid ((w.alloc (.cells #[] 3)).ownsRow w.heap.size 3 1 (.slice (some ⟨w.heap.size, 0, none⟩) 0 0) 0 []) := own_lit (base := w.heap.size) w 3 [] (Nat.le_refl _) (by simp)
    have HSB : Hid (SB w.heap.size (w.alloc (.cells #[] 3)) (.slice (some a) l.length c) l) := SB.below HS.out ((Below.refl _ w).alloc (Nat.le_refl _) _)
    go_wp2_with (at_builtin; refine wpList_append_ints _ rfl _ _ 22 rfl w.heap.size 3 Tryz.underlying22 iinfo _ [] rfl hO.out w.heap.size _ l rfl HSB.out (by simp; omega) (by simp) ?_; intro v2 w2 hown2 hg2; have HO2 := Lib.hid hown2; have HG2 := Lib.hid hg2; clear hown2 hg2)
    go_ret
    refine ⟨_, rfl, by simpa using HO2.out, ((Below.refl _ w).alloc (Nat.le_refl _) _).grown HG2.out (by simp) (fun k hk => ?_)⟩
    have := hO.out.lt k hk
    omega
/-- both cells of a block of two laid anew -/
theorem store2 {w : World} {R : Nat} {t : TypeId} {x y : Value} (a b : Value) (h : w.heap[R]? = some (.cells #[x, y] t (0, 0))) : ((w.setCell ⟨R, 0, none⟩ a).setCell ⟨R, 1, none⟩ b).heap[R]? = some (.cells #[a, b] t (0, 0)) := by
  have h1 := heap_setCell_same w R 0 _ _ a h
  have h2 := heap_setCell_same _ R 1 _ _ b h1
  simpa using h2
def dsE (l : List Int) (at_ n c : Int) : Int := if tvB l at_ = false then 2 else if liB n = false ∨ c < 0 then 1 else drE l n at_.toNat c.toNat
set_option maxRecDepth 100000 in
set_option maxHeartbeats 4000000 in
theorem draws_any (l : List Int) (at_ n c : Int) (v : Value) (w : World) (h : SI w v l) (hc : i64r c) :
    Calls Tryz.prog 44 #[.agg #[v, .int .i64 at_], .int .i64 n, .int .i64 c] w fun e w' => ∃ v1 a1 v2, e = .returned (.tuple #[.agg #[v1, .int .i64 a1], v2, .int .i64 (dsE l at_ n c)]) ∧ Below w.heap.size w w' ∧
      (dsE l at_ n c = 0 → a1 = at_ + c ∧ SI w' v1 l ∧ w'.ownsRow w.heap.size 3 1 v2 ((l.drop at_.toNat).take c.toNat).length (((l.drop at_.toNat).take c.toNat).map (Value.int .i64))) ∧ (dsE l at_ n c ≠ 0 → v1 = .slice none 0 0 ∧ a1 = 0 ∧ v2 = .slice none 0 0) := by
  have HS := Lib.hid h
  obtain ⟨A, cc, rfl⟩ := h.form'
  clear h
  go_enter Tryz.func44, Tryz.ntmps44
  go_upto_region 1 with fail
  obtain ⟨wa, ew⟩ : ∃ wa : World, wa = (w.alloc (.cells #[.slice A l.length cc, .int .i64 at_] 39)).alloc (.cells #[.slice none 0 0, .int .i64 0] 39) := ⟨_, rfl⟩
  have HBa : Hid (Below w.heap.size w wa) := by show Below _ _ _; rw [ew]; exact ((Below.refl _ w).alloc (Nat.le_refl _) _).alloc (by simp) _
  have hza : wa.heap.size = w.heap.size + 2 := by rw [ew]; simp
  have HT : Hid (wa.heap[w.heap.size]? = some (.cells #[.slice A l.length cc, .int .i64 at_] 39 (0, 0))) := by
    show _ = _; rw [ew, Below.heap_alloc _ _ _ (by simp)]; exact heap_alloc_new w _
  have HR : Hid (wa.heap[w.heap.size + 1]? = some (.cells #[.slice none 0 0, .int .i64 0] 39 (0, 0))) := by
    show _ = _; rw [ew]; have := heap_alloc_new (w.alloc (.cells #[.slice A l.length cc, .int .i64 at_] 39)) (.cells #[.slice none 0 0, .int .i64 0] 39); simpa using this
  rw [← ew]
  clear ew
  have HSa := Lib.hid (HS.out.below HBa.out)
  obtain ⟨T, hT⟩ : ∃ T, w.heap.size = T := ⟨_, rfl⟩
  have HTT := Lib.hid hT
  rw [hT] at HT HR hza ⊢
  clear hT
  have cT0 : wa.cell? ⟨T, 0, none⟩ = some (.slice A l.length cc) := cell_of_row wa T 0 _ _ _ HT.out
  have cT1 : wa.cell? ⟨T, 1, none⟩ = some (.int .i64 at_) := cell_of_row wa T 1 _ _ _ HT.out
  go_wp2_with fail
  (with_reducible refine (tvalid_any l at_ _ _ HSa.out).mono ?_)
  rintro e w1 ⟨rfl, hb1⟩
  have HB1 := Lib.hid hb1
  have HBw : Hid (Below w.heap.size w w1) := HBa.out.trans (hb1.mono HBa.out.size)
  have HT1 : Hid (w1.heap[T]? = some (.cells #[.slice A l.length cc, .int .i64 at_] 39 (0, 0))) := (hb1.block T (by omega)).trans HT.out
  have HR1 : Hid (w1.heap[T + 1]? = some (.cells #[.slice none 0 0, .int .i64 0] 39 (0, 0))) := (hb1.block (T + 1) (by omega)).trans HR.out
  have hz1 := hb1.size
  have cR0 : w1.cell? ⟨T + 1, 0, none⟩ = some (.slice none 0 0) := cell_of_row w1 (T + 1) 0 _ _ _ HR1.out
  have cR1 : w1.cell? ⟨T + 1, 1, none⟩ = some (.int .i64 0) := cell_of_row w1 (T + 1) 1 _ _ _ HR1.out
  have fR0 : w1.frozen? ⟨T + 1, 0, none⟩ = false := frozen_of_row w1 (T + 1) 0 _ _ HR1.out
  have fR1 : w1.frozen? ⟨T + 1, 1, none⟩ = false := frozen_of_row w1 (T + 1) 1 _ _ HR1.out
  clear cT0 cT1 hb1
  by_cases hv : tvB l at_ = false
  · have HE : Hid (dsE l at_ n c = 2) := by show _ = _; unfold dsE; rw [if_pos hv]
    rw [hv]
    clear hv
    go_wp2_with fail
    have HW := store2 (.slice none 0 0) (.int .i64 0) HR1.out
    have q0 := cell_of_row _ (T + 1) 0 _ _ _ HW
    have q1 := cell_of_row _ (T + 1) 1 _ _ _ HW
    simp only [List.getElem?_toArray, List.getElem?_cons_zero, List.getElem?_cons_succ] at q0 q1
    refine bodyPost_ret (v := .tuple #[.agg #[.slice none 0 0, .int .i64 0], .slice none 0 0, .int .i64 2]) (by simp [results, Tryz.results44, go_sem, q0, q1]) rfl ⟨_, _, _, by rw [HE.out], ?_, fun h => by rw [HE.out] at h; omega, fun _ => ⟨rfl, rfl, rfl⟩⟩
    exact (HBw.out.setCell (by show _ ≤ T + 1; have := HTT.out; omega) _).setCell (by show _ ≤ T + 1; have := HTT.out; omega) _
  · have hv2 : tvB l at_ = true := by simpa using hv
    have HV := Lib.hid hv2
    have HVN := Lib.hid hv
    rw [hv2]
    have hvv : l.length ≤ 16384 ∧ 0 ≤ at_ ∧ at_ ≤ (l.length : Int) := of_decide_eq_true hv2
    clear hv hv2
    go_wp2_with fail
    (with_reducible refine (tlimit_any n _).mono ?_)
    rintro e w2 ⟨rfl, rfl⟩
    by_cases hlm : liB n = false ∨ c < 0
    · have HE : Hid (dsE l at_ n c = 1) := by show _ = _; unfold dsE; rw [if_neg HVN.out, if_pos hlm]
      have hg : liB n = false ∨ (liB n = true ∧ decide (c < 0) = true) := by
        cases h : liB n with
        | false => exact .inl rfl
        | true => exact .inr ⟨rfl, by rcases hlm with h2 | h2; (rw [h] at h2; cases h2); exact decide_eq_true h2⟩
      clear hlm
      rcases hg with hg | ⟨hg, hcz⟩
      all_goals
        rw [hg]
        clear hg
        go_wp2_with fail
        have HW := store2 (.slice none 0 0) (.int .i64 0) HR1.out
        have q0 := cell_of_row _ (T + 1) 0 _ _ _ HW
        have q1 := cell_of_row _ (T + 1) 1 _ _ _ HW
        simp only [List.getElem?_toArray, List.getElem?_cons_zero, List.getElem?_cons_succ] at q0 q1
        refine bodyPost_ret (v := .tuple #[.agg #[.slice none 0 0, .int .i64 0], .slice none 0 0, .int .i64 1]) (by simp [results, Tryz.results44, go_sem, q0, q1]) rfl ⟨_, _, _, by rw [HE.out], ?_, fun h => by rw [HE.out] at h; omega, fun _ => ⟨rfl, rfl, rfl⟩⟩
        exact (HBw.out.setCell (by show _ ≤ T + 1; have := HTT.out; omega) _).setCell (by show _ ≤ T + 1; have := HTT.out; omega) _
    · have hl2 : liB n = true := by
        cases h : liB n with
        | false => exact absurd (.inl h) hlm
        | true => rfl
      have hc0 : ¬ c < 0 := fun h => hlm (.inr h)
      obtain ⟨cn, rfl⟩ : ∃ cn : Nat, c = cn := ⟨c.toNat, by omega⟩
      obtain ⟨an, rfl⟩ : ∃ an : Nat, at_ = an := ⟨at_.toNat, by omega⟩
      have hdc : decide ((cn : Int) < 0) = false := decide_eq_false hc0
      have HDE : Hid (dsE l an n cn = drE l n an cn) := by show _ = _; unfold dsE; rw [if_neg HVN.out, if_neg hlm]; rfl
      rw [hl2]
      clear hlm hl2
      have cT0 : w1.cell? ⟨T, 0, none⟩ = some (.slice A l.length cc) := cell_of_row w1 T 0 _ _ _ HT1.out
      have cT1 : w1.cell? ⟨T, 1, none⟩ = some (.int .i64 an) := cell_of_row w1 T 1 _ _ _ HT1.out
      go_upto_region 6 with fail
      obtain ⟨b, hb⟩ : ∃ b, w1.heap.size = b := ⟨_, rfl⟩
      have HBB := Lib.hid hb
      obtain ⟨w2, ew2⟩ : ∃ w2 : World, w2 = w1.alloc (.cells #[.slice A l.length cc, .int .i64 an, .slice none 0 0] 128) := ⟨_, rfl⟩
      have HB2 : Hid (Below w1.heap.size w1 w2) := by show Below _ _ _; rw [ew2]; exact (Below.refl _ _).alloc (Nat.le_refl _) _
      have HD2 : Hid (w2.heap[b]? = some (.cells #[.slice A l.length cc, .int .i64 an, .slice none 0 0] 128 (0, 0))) := by show _ = _; rw [ew2, ← hb]; exact heap_alloc_new w1 _
      have hz2 : w2.heap.size = b + 1 := by rw [ew2, ← hb]; simp
      rw [← ew2, hb]
      rw [hb] at hz1
      clear ew2 hb
      have HS2 : Hid (SB b w2 (.slice A l.length cc) l) := (SB.below HS.out (HBw.out.trans (HB2.out.mono HBw.out.size))).more (by have := HBw.out.size; have := HBB.out; omega)
      clear cT0 cT1 cR0 cR1 fR0 fR1
      go_wp2_with fail
      (with_reducible refine (draw_any l an n cn b _ w2 HS2.out (by omega) (by omega) (by have := hc; unfold i64r at this; omega) HD2.out).mono ?_)
      rintro e w3 ⟨rfl, hg3, hok⟩
      have HG3 := Lib.hid hg3
      have HOK := Lib.hid hok
      have hz3 := hg3.size
      have HR3 : Hid (w3.heap[T + 1]? = some (.cells #[.slice none 0 0, .int .i64 0] 39 (0, 0))) := (hg3.block (T + 1) (by omega) (by simp; omega)).trans ((HB2.out.block (T + 1) (by have := HBB.out; omega)).trans HR1.out)
      have HT3 : Hid (w3.heap[T]? = some (.cells #[.slice A l.length cc, .int .i64 an] 39 (0, 0))) := (hg3.block T (by omega) (by simp; omega)).trans ((HB2.out.block T (by have := HBB.out; omega)).trans HT1.out)
      have HBw3 : Hid (Below w.heap.size w w3) := (HBw.out.trans (HB2.out.mono HBw.out.size)).grown hg3 (by have := HBw.out.size; have := HB2.out.size; omega) (fun k hk => by injection hk with hk; have := HBw.out.size; have := HBB.out; omega)
      have cR0 : w3.cell? ⟨T + 1, 0, none⟩ = some (.slice none 0 0) := cell_of_row w3 (T + 1) 0 _ _ _ HR3.out
      have cR1 : w3.cell? ⟨T + 1, 1, none⟩ = some (.int .i64 0) := cell_of_row w3 (T + 1) 1 _ _ _ HR3.out
      have fR0 : w3.frozen? ⟨T + 1, 0, none⟩ = false := frozen_of_row w3 (T + 1) 0 _ _ HR3.out
      have fR1 : w3.frozen? ⟨T + 1, 1, none⟩ = false := frozen_of_row w3 (T + 1) 1 _ _ HR3.out
      obtain ⟨er, her⟩ : ∃ er, drE l n an cn = er := ⟨_, rfl⟩
      have HER := Lib.hid her
      rw [her]
      clear hg3 hok her
      by_cases h0 : er = 0
      · subst h0
        obtain ⟨vd, hbd, hown⟩ := HOK.out HER.out
        have HBD := Lib.hid hbd
        have HO := Lib.hid hown
        obtain ⟨Ad, cd, rfl⟩ := own_sl hown
        obtain ⟨D, hD⟩ : ∃ D, (l.drop an).take cn = D := ⟨_, rfl⟩
        have HDD := Lib.hid hD
        rw [hD] at HO HBD
        have cT0 : w3.cell? ⟨T, 0, none⟩ = some (.slice A l.length cc) := cell_of_row w3 T 0 _ _ _ HT3.out
        have cb1 : w3.cell? ⟨b, 1, none⟩ = some (.int .i64 ((an : Int) + cn)) := cell_of_row w3 b 1 _ _ _ HBD.out
        have cb2 : w3.cell? ⟨b, 2, none⟩ = some (.slice Ad D.length cd) := cell_of_row w3 b 2 _ _ _ HBD.out
        have hbl : b < w3.heap.size := by omega
        have hTl : T < w3.heap.size := by omega
        have hRl : T + 1 < w3.heap.size := by omega
        have HRG : Hid (∀ x ∈ l, i64r x) := by obtain ⟨_, _, _, _, _, hr, _⟩ := HS.out; exact hr
        have HS3 : Hid (SI w3 (.slice A l.length cc) l) := (SB.below HS.out HBw3.out).si HBw3.out.size
        clear hbd hown hD
        go_wp2_with fail
        have hbT : ¬ (b = T + 1) := by have := HBB.out; omega
        have hbT' : ¬ (T + 1 = b) := by omega
        go_region_held3 (fun w' => w'.cell? ⟨T, 0, none⟩ = some (.slice A l.length cc) ∧ w'.cell? ⟨b, 1, none⟩ = some (.int .i64 ((an : Int) + cn)) ∧ w'.cell? ⟨b, 2, none⟩ = some (.slice Ad D.length cd)) (first | exact ⟨cT0, cb1, cb2⟩ | exact ⟨x0, x1, x2⟩ | go_keep)
          (first | (go_at_call 68; refine (clone_any l _ _ (by exact HS3.out) (by omega)).mono ?_; rintro e w4 ⟨v4, rfl, hS4, hb4⟩; obtain ⟨A4, k4, rfl⟩ := own_sl hS4; have HS4 := Lib.hid hS4; have HB4 := Lib.hid hb4; have x0 := (hb4.cell (p := ⟨T, 0, none⟩) hTl).trans cT0; have x1 := (hb4.cell (p := ⟨b, 1, none⟩) hbl).trans cb1; have x2 := (hb4.cell (p := ⟨b, 2, none⟩) hbl).trans cb2; have x3 := (hb4.cell (p := ⟨T + 1, 0, none⟩) hRl).trans cR0; have x4 := (hb4.cell (p := ⟨T + 1, 1, none⟩) hRl).trans cR1; have x5 := (hb4.frozen (p := ⟨T + 1, 0, none⟩) hRl).trans fR0; have x6 := (hb4.frozen (p := ⟨T + 1, 1, none⟩) hRl).trans fR1; clear hS4 hb4))
        all_goals
          have HR4 : Hid (w4.heap[T + 1]? = some (.cells #[.slice none 0 0, .int .i64 0] 39 (0, 0))) := (HB4.out.block (T + 1) hRl).trans HR3.out
          have HBw4 : Hid (Below w.heap.size w w4) := HBw3.out.trans ((by first | exact HB4.out | exact HB4.out.drew_left : Below w3.heap.size w3 w4).mono HBw3.out.size)
          go_wp2_with fail
          have HW := store2 (.slice A4 l.length k4) (.int .i64 ((an : Int) + cn)) HR4.out
          have q0 := cell_of_row _ (T + 1) 0 _ _ _ HW
          have q1 := cell_of_row _ (T + 1) 1 _ _ _ HW
          simp only [List.getElem?_toArray, List.getElem?_cons_zero, List.getElem?_cons_succ] at q0 q1
          have hTw : w.heap.size ≤ T := by have := HTT.out; omega
          have hTl2 : T + 1 < w4.heap.size := heap_of_cells HR4.out
          have HBf : Hid (Below w.heap.size w ((w4.setCell ⟨T + 1, 0, none⟩ (.slice A4 l.length k4)).setCell ⟨T + 1, 1, none⟩ (.int .i64 ((an : Int) + cn)))) := (HBw4.out.setCell (by show _ ≤ T + 1; omega) _).setCell (by show _ ≤ T + 1; omega) _
          refine bodyPost_ret (v := .tuple #[.agg #[.slice A4 l.length k4, .int .i64 ((an : Int) + cn)], .slice Ad D.length cd, .int .i64 0]) (by simp [results, Tryz.results44, go_sem, q0, q1]) rfl ⟨_, _, _, by rw [HDE.out, HER.out], HBf.out, fun _ => ⟨rfl, ?_, ?_⟩, fun h => absurd (HDE.out.trans HER.out) h⟩
          · exact SI.of_own (own_set3 (own_set3 HS4.out hRl _) hRl _) HRG.out
          · rw [show ((an : Int)).toNat = an from rfl, show ((cn : Int)).toNat = cn from rfl, HDD.out]
            exact own_lo (own_set3 (own_set3 (own_bel HO.out (by first | exact HB4.out | exact HB4.out.drew_left)) (by show T + 1 < w2.heap.size; omega) _) (by show T + 1 < w2.heap.size; omega) _) (by have := HB2.out.size; have := HBw.out.size; omega)
      · have HE : Hid (dsE l an n cn = er) := HDE.out.trans HER.out
        have hbn : (er != 0) = true := by rw [bne_iff_ne]; exact h0
        have HNE := Lib.hid h0
        clear h0
        go_wp2_with fail
        have HW := store2 (.slice none 0 0) (.int .i64 0) HR3.out
        have q0 := cell_of_row _ (T + 1) 0 _ _ _ HW
        have q1 := cell_of_row _ (T + 1) 1 _ _ _ HW
        simp only [List.getElem?_toArray, List.getElem?_cons_zero, List.getElem?_cons_succ] at q0 q1
        refine bodyPost_ret (v := .tuple #[.agg #[.slice none 0 0, .int .i64 0], .slice none 0 0, .int .i64 er]) (by simp [results, Tryz.results44, go_sem, q0, q1]) rfl ⟨_, _, _, by rw [HE.out], ?_, fun h => by rw [HE.out] at h; exact absurd h HNE.out, fun _ => ⟨rfl, rfl, rfl⟩⟩
        exact (HBw3.out.setCell (by show _ ≤ T + 1; have := HTT.out; omega) _).setCell (by show _ ≤ T + 1; have := HTT.out; omega) _
end Go.Proofs.YtbgabipngdillaaGreatDoor

namespace Go.Proofs.YtbgabipngdillaaGreatDoor
open Go.RowKit

theorem wrg_snoc (P : Int) (l : List (Int × Bool)) (p : List Int) (k : Nat) (h : k < l.length) : wrg P (l.take (k + 1)) p = wrg P (l.take k) p ++ if l[k].2 = true ∧ val P p ((k : Int) + 1) ≠ l[k].1 then [(k : Int) + 1] else [] := by
  unfold wrg wrk
  rw [kn_snoc l k h, List.filter_append, List.map_append]
  congr 1
  cases hb : l[k].2
  · simp
  · by_cases hv : val P p ((k : Int) + 1) = l[k].1 <;> simp [hv]
theorem wrg_len (P : Int) (l : List (Int × Bool)) (p : List Int) : (wrg P l p).length ≤ l.length := by
  unfold wrg wrk
  rw [List.length_map]
  exact Nat.le_trans (List.length_filter_le _ _) (by rw [← cnt_kn]; exact cnt_le l)
def WrR (P : Int) (l : List (Int × Bool)) (p : List Int) (w : World) (s i : Value) (wr : World) : Prop :=
  ∃ k : Nat, k ≤ l.length ∧ i = .int .i64 k ∧ wr.ownsRow w.heap.size 3 1 s (wrg P (l.take k) p).length ((wrg P (l.take k) p).map (Value.int .i64)) ∧ Below w.heap.size w wr
set_option maxRecDepth 100000 in
set_option maxHeartbeats 4000000 in
theorem wrongs_any (P : Int) (l : List (Int × Bool)) (p : List Int) (v vp : Value) (w : World) (hP : 2 ≤ P ∧ P ≤ 65521) (h : SCl w v l) (hz : l.length ≤ 1000) (hlP : (l.length : Int) < P) (hs : SI w vp p) (hel : els P p = true) (hpl : p.length ≤ 1000000) :
    Calls Tryz.prog 126 #[.int .i64 P, v, vp] w fun e w' => ∃ v', e = .returned v' ∧ w'.ownsRow w.heap.size 3 1 v' (wrg P l p).length ((wrg P l p).map (Value.int .i64)) ∧ Below w.heap.size w w' := by
  have HS := Lib.hid h
  have HSp := Lib.hid hs
  have HEL := Lib.hid hel
  obtain ⟨A, c, rfl⟩ := h.form
  obtain ⟨Ap, cp, rfl⟩ := hs.form
  clear h hs hel
  go_enter Tryz.func126, Tryz.ntmps126
  go_wp2_with fail
  go_loopw [7, 12] (fun s i wr => WrR P l p w s i wr) (fun _ i _ => l.length - (intOf i).toNat)
  case atStart => exact ⟨0, Nat.zero_le _, rfl, World.ownsRow_nil _ _ _ _, Below.refl _ _⟩
  case round =>
    obtain ⟨k, hk, rfl, hown, hbel⟩ := hrel
    have HO := Lib.hid hown
    have HB := Lib.hid hbel
    have hzr : w.heap.size ≤ wr.heap.size := hbel.size
    clear hown hbel
    by_cases hlt : k < l.length
    · obtain ⟨A', c', e, _, _, _, ha⟩ := HS.out
      injection e with e1 e2 e3
      subst e1
      obtain ⟨b, off, rfl, hb, hcell⟩ := ha (by omega)
      obtain ⟨c1, c2⟩ := hcell k hlt
      have c1 := (HB.out.cell (p := ⟨b, off + k * 2, none⟩) hb).trans c1
      have c2 := (HB.out.cell (p := ⟨b, off + k * 2 + 1, none⟩) hb).trans c2
      have hbw : b < wr.heap.size := by omega
      have HSN := Lib.hid (wrg_snoc P l p k hlt)
      have hwl : (wrg P (l.take k) p).length ≤ 1000 := by have := wrg_len P (l.take k) p; have h2 : (l.take k).length ≤ k := by simp; omega
                                                          omega
      obtain ⟨y, ey⟩ : ∃ y, y = l[k].1 := ⟨_, rfl⟩
      rw [← ey] at c1 HSN
      obtain ⟨kb, ekb⟩ : ∃ kb, kb = l[k].2 := ⟨_, rfl⟩
      rw [← ekb] at c2 HSN
      obtain ⟨W, eW⟩ : ∃ W : World, W = wr.alloc (.cells #[.int .i64 y, .bool kb] 116) := ⟨_, rfl⟩
      have HWa : Hid (wr.alloc (.cells #[.int .i64 y, .bool kb] 116) = W) := eW.symm
      have HOW : Hid (∀ s, wr.ownsRow w.heap.size 3 1 s (wrg P (l.take k) p).length ((wrg P (l.take k) p).map (Value.int .i64)) → W.ownsRow w.heap.size 3 1 s (wrg P (l.take k) p).length ((wrg P (l.take k) p).map (Value.int .i64))) := (show Hid _ from fun s h => by rw [eW]; exact h.alloc _)
      have HBW : Hid (Below w.heap.size w W) := (show Hid _ from by rw [eW]; exact HB.out.alloc hzr _)
      have HCW : Hid (W.heap[wr.heap.size]? = some (.cells #[.int .i64 y, .bool kb] 116 (0, 0))) := (show Hid _ from by show _ = _; rw [eW]; exact heap_alloc_new wr _)
      have hsW : wr.heap.size < W.heap.size := by rw [eW]; simp
      have HSpW : Hid (SI W (.slice Ap p.length cp) p) := (show Hid _ from HSp.out.below HBW.out)
      have x0 : W.cell? ⟨wr.heap.size, 0, none⟩ = some (.int .i64 y) := cell_of_row W wr.heap.size 0 _ _ _ HCW.out
      have x1 : W.cell? ⟨wr.heap.size, 1, none⟩ = some (.bool kb) := cell_of_row W wr.heap.size 1 _ _ _ HCW.out
      have hx : 0 ≤ (k : Int) + 1 ∧ (k : Int) + 1 < P := by omega
      have hwK : IntKind.i64.wrap ((k : Int) + 1) = (k : Int) + 1 := by exact IntWalk.i64_in _ (by omega)
      have hkn : (k : Int) + 1 ≤ 1000 := by omega
      obtain ⟨vv, evv⟩ : ∃ vv, vv = val P p ((k : Int) + 1) := ⟨_, rfl⟩
      rw [← evv] at HSN
      have HVV := Lib.hid evv
      have HVAL : Hid (∀ W' : World, SI W' (.slice Ap p.length cp) p → Calls Tryz.prog 89 #[.int .i64 P, .slice Ap p.length cp, .int .i64 ((k : Int) + 1)] W' fun e w' => e = .returned (.int .i64 vv) ∧ Below W'.heap.size W' w') := (show Hid _ from fun W' h => by rw [evv]; exact value_any P ((k : Int) + 1) p _ W' hP hx HEL.out hpl h)
      clear ha hcell e2 e3 ey ekb eW evv
      have hd : decide (k < l.length) = true := decide_eq_true hlt
      by_cases hh : kb = true ∧ vv ≠ y
      · obtain ⟨hk1, hv1⟩ := hh
        subst hk1
        have HSN2 : Hid (wrg P (l.take (k + 1)) p = wrg P (l.take k) p ++ [(k : Int) + 1]) := (show Hid _ from by show _ = _; rw [HSN.out, if_pos ⟨rfl, hv1⟩])
        have hne : (vv != y) = true := by simp [hv1]
        clear HSN hv1
        go_upto_region 5 with fail
        rw [HWa.out]
        go_region_held3 (fun w' => w'.cell? ⟨wr.heap.size, 0, none⟩ = some (.int .i64 y) ∧ w'.cell? ⟨wr.heap.size, 1, none⟩ = some (.bool true)) (first | exact ⟨x0, x1⟩ | exact ⟨z0, z1⟩ | go_keep)
          ((go_at_call 89; refine (HVAL.out _ (by exact HSpW.out)).mono ?_; rintro e w9 ⟨rfl, hb9⟩; have z0 : w9.cell? ⟨wr.heap.size, 0, none⟩ = some (.int .i64 y) := (hb9.cell (by exact hsW)).trans x0; have z1 : w9.cell? ⟨wr.heap.size, 1, none⟩ = some (.bool true) := (hb9.cell (by exact hsW)).trans x1; have HB9 : Hid (Below W.heap.size W w9) := (show Hid _ from ⟨hb9.os, hb9.tape, hb9.output, hb9.size, hb9.block⟩); clear hb9))
        all_goals
          have HO9 : Hid (w9.ownsRow w.heap.size 3 1 _ (wrg P (l.take k) p).length ((wrg P (l.take k) p).map (Value.int .i64))) := (show Hid _ from own_bel (HOW.out _ HO.out) HB9.out)
          have HB9w : Hid (Below w.heap.size w w9) := (show Hid _ from HBW.out.trans (HB9.out.mono HBW.out.size))
          have hz9 : w.heap.size ≤ w9.heap.size := HB9w.out.size
          go_wp2_with (at_builtin; refine wpList_append_int1 _ rfl _ _ 22 rfl w.heap.size 3 Tryz.underlying22 iinfo _ (wrg P (l.take k) p) rfl (by first | exact HO9.out | exact HO9.out.drew) ((k : Int) + 1) rfl (by omega) (by exact hz9) ?_; intro v8 w8 hown8 hg8; have HO8 := Lib.hid hown8; have HG8 : Hid ((w9.alloc (.cells #[.int .i64 ((k : Int) + 1)] 3)).grownBy w8 _) := (show Hid _ from ⟨hg8.os, hg8.tape, hg8.output, hg8.size, hg8.block⟩); clear hown8 hg8)
          go_roundw
          case rel =>
            refine ⟨k + 1, by omega, by go_num, by rw [HSN2.out]; exact HO8.out, ?_⟩
            exact (HB9w.out.alloc hz9 _).trans (⟨HG8.out.os, HG8.out.tape, HG8.out.output, HG8.out.size, fun i hi => HG8.out.block i (by simp; omega) (fun e1 => by have := (HO9.out.lt i e1.symm).1; omega)⟩)
          case measure => simp [intOf]; omega
      · have HSN2 : Hid (wrg P (l.take (k + 1)) p = wrg P (l.take k) p) := (show Hid _ from by show _ = _; rw [HSN.out, if_neg hh, List.append_nil])
        clear HSN
        cases kb with
        | false =>
          clear hh
          go_upto_region 5 with fail
          rw [HWa.out]
          go_quiet (fail)
          all_goals
            go_wp2_with fail
            go_roundw
            case rel => exact ⟨k + 1, by omega, by go_num, by rw [HSN2.out]; exact own_bel (HOW.out _ HO.out) (Below.drewN (Below.refl _ W) _), Below.drewN HBW.out _⟩
            case measure => simp [intOf]; omega
        | true =>
          have hv1 : vv = y := by
            by_cases e1 : vv = y
            · exact e1
            · exact absurd ⟨rfl, e1⟩ hh
          clear hh
          have HV1 := Lib.hid hv1
          have hne : (vv != y) = false := by rw [hv1]; simp
          clear hv1
          go_upto_region 5 with fail
          rw [HWa.out]
          go_region_held3 (fun w' => w'.cell? ⟨wr.heap.size, 0, none⟩ = some (.int .i64 y) ∧ w'.cell? ⟨wr.heap.size, 1, none⟩ = some (.bool true)) (first | exact ⟨x0, x1⟩ | exact ⟨z0, z1⟩ | go_keep)
            ((go_at_call 89; refine (HVAL.out _ (by exact HSpW.out)).mono ?_; rintro e w9 ⟨rfl, hb9⟩; have z0 : w9.cell? ⟨wr.heap.size, 0, none⟩ = some (.int .i64 y) := (hb9.cell (by exact hsW)).trans x0; have z1 : w9.cell? ⟨wr.heap.size, 1, none⟩ = some (.bool true) := (hb9.cell (by exact hsW)).trans x1; have HB9 : Hid (Below W.heap.size W w9) := (show Hid _ from ⟨hb9.os, hb9.tape, hb9.output, hb9.size, hb9.block⟩); clear hb9))
          all_goals
            have HB9w : Hid (Below w.heap.size w w9) := (show Hid _ from HBW.out.trans (HB9.out.mono HBW.out.size))
            go_wp2_with fail
            go_roundw
            case rel => exact ⟨k + 1, by omega, by go_num, by rw [HSN2.out]; first | exact own_bel (HOW.out _ HO.out) HB9.out | exact (own_bel (HOW.out _ HO.out) HB9.out).drew, by first | exact HB9w.out | exact HB9w.out.drew⟩
            case measure => simp [intOf]; omega
    · obtain rfl : l.length = k := by omega
      have htk : Hid (l.take l.length = l) := (show Hid _ from List.take_length)
      rw [htk.out] at HO
      go_wp2_with fail
      go_ret
      exact ⟨_, rfl, HO.out, HB.out⟩
end Go.Proofs.YtbgabipngdillaaGreatDoor

namespace Go.Proofs.YtbgabipngdillaaGreatDoor
open Go.RowKit

theorem SI.part {w : World} {b off c : Nat} {l : List Int} (h : SI w (.slice (some ⟨b, off, none⟩) l.length c) l) {lo k : Nat} (h1 : lo + k ≤ l.length) :
    SI w (.slice (some ⟨b, off + lo, none⟩) k (c - lo)) ((l.drop lo).take k) := by
  have hk : ((l.drop lo).take k).length = k := by simp; omega
  obtain ⟨A', c', e, hc, hm, hr, ha⟩ := h
  injection e with e1 e2 e3
  subst e3
  refine ⟨_, c - lo, by rw [hk], by rw [hk]; omega, by omega, fun x hx => hr x (List.mem_of_mem_drop (List.mem_of_mem_take hx)), fun h0 => ?_⟩
  obtain ⟨b', off', hA, hb, hcell⟩ := ha (by rw [hk] at h0; omega)
  rw [← e1] at hA
  injection hA with hA
  injection hA with hb1 ho1
  subst hb1 ho1
  refine ⟨b, off + lo, rfl, hb, fun j hj => ?_⟩
  have hj' : lo + j < l.length := by rw [hk] at hj; omega
  have := hcell (lo + j) hj'
  rw [Nat.add_assoc, this]
  simp
theorem ilinfo : (Tryz.prog.info? 22).map (fun i => (i.zero, i.size, i.bytes)) = some (some (.slice none 0 0), 1, 24) := by kernel_rfl
/-- append(own, u) of a value of one cell -/
theorem step_append_one_at {P : Program} (w : World) {ops : Array Oper} {o : Oper} {a : Act} {K : Act → World → Prop} {Q : Exit → Act → World → Prop} {E : Prop} (hgd : o.guard = none) (s x : Operand) (t : TypeId)
    (ho : o.op = .call { callee := .builtin .append, args := #[s, x], argTypes := #[t, t] })
    (base : Nat) (e : TypeId) (z : Value) (by' : Nat) (ht : P.underlying t = some (.slice e)) (hinfo : (P.info? e).map (fun i => (i.zero, i.size, i.bytes)) = some (some z, 1, by'))
    (v : Value) (n : Nat) (xs : List Value) (hs : a.eval s = v) (hown : w.ownsRow base e 1 v n xs)
    (y : Value) (hy : y.oneCell' = true) (b : Nat) (hx : a.eval x = .slice (some ⟨b, 0, none⟩) 1 1) (hc : w.cell? ⟨b, 0, none⟩ = some y)
    (hbytes : (n + 1) * by' ≤ 140737488355328) (hn : n ≤ 1000000) (hzs : z.cells.size = 1) (hbase : base ≤ w.heap.size)
    (h : ∀ g cap w', w'.ownsRow base e 1 (.slice (some ⟨g, 0, none⟩) (n + 1) cap) (n + 1) (xs ++ [y]) → w.grownBy w' v.ownBlock → (v.ownBlock = some g ∨ g = w.heap.size) → K (a.put o.dst (.slice (some ⟨g, 0, none⟩) (n + 1) cap)) w') :
    if Region.wanted o (yielded ops a.tmps) = true then Oper.wp P o a w K Q else E := by
  obtain ⟨i0, hi0, hz0, hz1, hz2⟩ := info_parts hinfo
  have hw : Region.wanted o (yielded ops a.tmps) = true := by simp [Region.wanted, hgd]
  rw [if_pos hw]
  obtain ⟨v', w', hrun, h2, h3, h4⟩ := run_append_sc_at (P := P) w base t o.type e i0 _ 1 by' ht hi0 hz0 hz1 hz2 hzs (by omega) v _ _ hown (b + 1) (.slice (some ⟨b, 0, none⟩) 1 1) 1 [y] ⟨_, 1, rfl, rfl, fun _ => ⟨b, 0, rfl, by omega, fun j u hu => by
    cases j with
    | zero => simp at hu; subst hu; exact hc
    | succ j => simp at hu⟩⟩ (by intro u hu; simp at hu; subst hu; exact hy) (by unfold maxLen; omega) hbytes hbase
  rcases h2.2 with ⟨_, hn'⟩ | ⟨g, cap, cur, rfl, hb, hg, hnc, hcm, hcs, htake⟩
  · simp at hn'
  · unfold Oper.wp execOp
    simp only [ho, resolve, invoke, builtin, Sem.run_bind, Sem.run_pure, Result.andThen_ok, List.map_toArray, List.map_cons, List.map_nil, hs, hx, hrun]
    refine h g cap w' h2 h3 ?_
    rcases h4 with e4 | e4
    · exact .inl (by rw [← e4]; rfl)
    · exact .inr (by simpa [Value.ownBlock] using e4)
/-- hv is a header row of one's own, of k rows, each in a block of its own -/
structure BR (base : Nat) (w : World) (hv : Value) (n k : Nat) (bs cs : Nat → Nat) (M : List (List Int)) : Prop where
  own : w.ownsRow base 22 1 hv k ((List.range k).map (hd n bs cs))
  len : M.length = k
  row : ∀ i, i < k → RB w (bs i) (gr M i) ∧ (gr M i).length = n ∧ n ≤ cs i ∧ cs i ≤ 9223372036854775807 ∧ base ≤ bs i ∧ hv.ownBlock ≠ some (bs i)
  apart : ∀ i j, i < k → j < k → bs i = bs j → i = j
def upd (f : Nat → Nat) (k b : Nat) (i : Nat) : Nat := if i = k then b else f i
theorem BR.nil (base : Nat) (w : World) (n : Nat) (bs cs : Nat → Nat) : BR base w (.slice none 0 0) n 0 bs cs [] :=
  ⟨World.ownsRow_nil _ _ _ _, rfl, fun i hi => by omega, fun i j hi => by omega⟩
theorem BR.keep {base : Nat} {w w' : World} {hv : Value} {n k : Nat} {bs cs : Nat → Nat} {M : List (List Int)} (h : BR base w hv n k bs cs M) (hk : ∀ b, base ≤ b → b < w.heap.size → w'.heap[b]? = w.heap[b]?) : BR base w' hv n k bs cs M := by
  refine ⟨⟨h.own.1, ?_⟩, h.len, fun i hi => ?_, h.apart⟩
  · rcases h.own.2 with hn | ⟨g, cap, cur, e, hb, hg, rest⟩
    · exact .inl hn
    · exact .inr ⟨g, cap, cur, e, hb, (hk g hb (heap_of_cells hg)).trans hg, rest⟩
  · obtain ⟨⟨tl, r1⟩, r2, r3, r4, r5, r6⟩ := h.row i hi
    exact ⟨⟨tl, (hk _ r5 (heap_of_cells r1)).trans r1⟩, r2, r3, r4, r5, r6⟩
theorem BR.push {base : Nat} {w w0 w1 w2 : World} {hv v : Value} {n k : Nat} {bs cs : Nat → Nat} {M : List (List Int)} (h : BR base w hv n k bs cs M) {row : List Int} {y : Int} {g1 cap1 g2 cap2 : Nat} {o1 o2 : Obj}
    (hw : ∀ b, b < w.heap.size → w0.heap[b]? = w.heap[b]?) (hws : w.heap.size ≤ w0.heap.size) (hvo : ∀ b, v.ownBlock = some b → w.heap.size ≤ b ∧ b < w0.heap.size) (hn : row.length + 1 = n)
    (hg1 : (w0.alloc o1).grownBy w1 v.ownBlock) (ho1 : w1.ownsRow base 3 1 (.slice (some ⟨g1, 0, none⟩) (row ++ [y]).length cap1) (row ++ [y]).length ((row ++ [y]).map (Value.int .i64))) (ha1 : v.ownBlock = some g1 ∨ g1 = (w0.alloc o1).heap.size)
    (hg2 : (w1.alloc o2).grownBy w2 hv.ownBlock) (ho2 : w2.ownsRow base 22 1 (.slice (some ⟨g2, 0, none⟩) (k + 1) cap2) (k + 1) ((List.range k).map (hd n bs cs) ++ [.slice (some ⟨g1, 0, none⟩) (row ++ [y]).length cap1])) (ha2 : hv.ownBlock = some g2 ∨ g2 = (w1.alloc o2).heap.size) :
    BR base w2 (.slice (some ⟨g2, 0, none⟩) (k + 1) cap2) n (k + 1) (upd bs k g1) (upd cs k cap1) (M ++ [row ++ [y]]) := by
  have hl : (row ++ [y]).length = n := by simp; omega
  rw [hl] at ho1 ho2
  obtain ⟨r1, r2, r3, r4⟩ := RB.of_own ho1 rfl
  have hlM := h.len
  have hs1 := hg1.size
  have hs2 := hg2.size
  simp at hs1 hs2
  have hvl := h.own.lt
  have hg1lo : w.heap.size ≤ g1 := by
    rcases ha1 with e | e
    · exact (hvo g1 e).1
    · rw [e]; simp; omega
  have hg1hi : g1 < w1.heap.size := r1.lt
  -- old blocks through both growths
  have old : ∀ b, b < w.heap.size → hv.ownBlock ≠ some b → w2.heap[b]? = w.heap[b]? := by
    intro b hb hne
    rw [hg2.block b (by simp; omega) (fun e => hne e.symm), Below.heap_alloc w1 o2 b (by omega), hg1.block b (by simp; omega) (fun e => by have := (hvo b e.symm).1; omega), Below.heap_alloc w0 o1 b (by omega)]
    exact hw b hb
  have hrow : ∀ i, i < k → bs i < w.heap.size := fun i hi => (h.row i hi).1.lt
  have hhv2 : ∀ b, (Value.slice (some ⟨g2, 0, none⟩) (k + 1) cap2).ownBlock = some b → hv.ownBlock = some b ∨ w1.heap.size ≤ b := by
    intro b hb
    have e : g2 = b := by injection hb
    subst e
    rcases ha2 with e2 | e2
    · exact .inl e2
    · right; rw [e2]; simp
  refine ⟨?_, by simp [hlM], fun i hi => ?_, fun i j hi hj hij => ?_⟩
  · have : (List.range (k + 1)).map (hd n (upd bs k g1) (upd cs k cap1)) = (List.range k).map (hd n bs cs) ++ [.slice (some ⟨g1, 0, none⟩) n cap1] := by
      rw [List.range_succ, List.map_append]
      congr 1
      · apply List.map_congr_left
        intro i hi
        have : i ≠ k := by have := List.mem_range.1 hi; omega
        simp [hd, upd, this]
      · simp [hd, upd]
    rw [this]; exact ho2
  · by_cases e : i = k
    · subst e
      have hgr : gr (M ++ [row ++ [y]]) i = row ++ [y] := by rw [gr_lt (by simp; omega)]; simp [hlM.symm]
      rw [hgr]
      simp only [upd, ↓reduceIte]
      refine ⟨?_, hl, r3, by simpa [maxLen] using r4, r2, fun e2 => ?_⟩
      · obtain ⟨tl, r1⟩ := r1
        refine ⟨tl, ?_⟩
        rw [hg2.block g1 (by simp; omega) (fun e2 => by have := (hvl g1 e2.symm).2; omega), Below.heap_alloc w1 o2 g1 hg1hi]
        exact r1
      · rcases hhv2 g1 e2 with e3 | e3
        · have := (hvl g1 e3).2; omega
        · omega
    · have hik : i < k := by omega
      obtain ⟨⟨tl, q1⟩, q2, q3, q4, q5, q6⟩ := h.row i hik
      have hgr : gr (M ++ [row ++ [y]]) i = gr M i := by
        unfold gr; rw [List.getElem?_append_left (by omega)]
      rw [hgr]
      simp only [upd]
      rw [if_neg e, if_neg e]
      refine ⟨⟨tl, (old _ (hrow i hik) q6).trans q1⟩, q2, q3, q4, q5, fun e2 => ?_⟩
      rcases hhv2 _ e2 with e3 | e3
      · exact q6 e3
      · have := hrow i hik; omega
  · simp only [upd] at hij
    by_cases ei : i = k
    · by_cases ej : j = k
      · omega
      · rw [if_pos ei, if_neg ej] at hij
        have := hrow j (by omega); omega
    · by_cases ej : j = k
      · rw [if_neg ei, if_pos ej] at hij
        have := hrow i (by omega); omega
      · rw [if_neg ei, if_neg ej] at hij
        exact h.apart i j (by omega) (by omega) hij
/-- the finished header row -/
theorem BR.rm {base : Nat} {w : World} {hv : Value} {n k : Nat} {bs cs : Nat → Nat} {M : List (List Int)} (h : BR base w hv n k bs cs M) (hk : 0 < k) : ∃ G c, hv = .slice (some ⟨G, 0, none⟩) k c ∧ k ≤ c ∧ RM base w G n k bs cs M := by
  rcases h.own.2 with ⟨_, hn⟩ | ⟨g, cap, cur, rfl, hb, hg, hnc, hcm, hcs, htake⟩
  · omega
  · refine ⟨g, cap, rfl, hnc, ⟨cur.toList, by rw [hg], fun i hi => ?_⟩, h.len, hb, fun i hi => ?_, h.apart⟩
    · have h1 : (cur.toList.take (k * 1))[i]? = ((List.range k).map (hd n bs cs))[i]? := by rw [htake]
      rw [List.getElem?_take, if_pos (by omega)] at h1
      rw [h1]; simp [hi]
    · obtain ⟨q1, q2, q3, q4, q5, q6⟩ := h.row i hi
      exact ⟨q1, q2, q3, q4, q5, fun e => q6 (by rw [e]; rfl)⟩
end Go.Proofs.YtbgabipngdillaaGreatDoor
