/- Joined: Az Dr Ds. -/
import Derived.Lib.AppendZerosOnto
import Derived.Lib.SliceRun
import Derived.Deep.RegionHeld3
import Derived.Deep.RegionWith
import Derived.Deep.Cut
import Derived.Test.YtoiabanpnkpbhaaGreatDoorZ02
import Derived.Test.YtoiabanpnkpbhaaGreatDoorZ01
namespace Go.Proofs.YtoiabanpnkpbhaaGreatDoor
open Go.RowKit

theorem zero_cells (k : Nat) : (Builtin.zeroCells (Value.int .i64 0).cells k).toList = List.replicate k (Value.int .i64 0) := by
  have hz : (Value.int .i64 0).cells = #[Value.int .i64 0] := rfl
  rw [hz]
  simp only [Builtin.zeroCells, Array.toList_map, Array.toList_range]
  apply List.ext_getElem
  · simp
  · intro i h1 h2
    simp [Nat.mod_one]
theorem zero_cells' (k : Nat) : Builtin.zeroCells (Value.int .i64 0).cells k = (List.replicate k (Value.int .i64 0)).toArray := by
  rw [← zero_cells]
theorem run_append_zeros {P : Program} (w : World) (base : Nat) (t tn ty e : TypeId) (ht : P.underlying t = some (.slice e)) (htn : P.underlying tn = some (.int .i64)) (hinfo : (P.info? e).map (fun i => (i.zero, i.size, i.bytes)) = some (some (.int .i64 0), 1, 8))
    (v : Value) (n : Nat) (xs : List Value) (hown : w.ownsRow base e 1 v n xs) (k : Nat) (hb : n + k ≤ 1000000000) (hbase : base ≤ w.heap.size) :
    ∃ v' w', (Builtin.append_ #[t, tn] ty #[v, .int .i64 k]).run P w = .ok v' w' ∧ w'.ownsRow base e 1 v' (n + k) (xs ++ List.replicate k (.int .i64 0)) ∧ w.grownBy w' v.ownBlock := by
  obtain ⟨i, hi, hz, hs, hby⟩ := info_parts hinfo
  have hlen : (xs ++ List.replicate k (Value.int .i64 0)).length = (n + k) * 1 := by rw [List.length_append, hown.1]; simp
  have grown : ∀ (old : Nat) (row : Option Nat), (w.drew.alloc (.cells (xs.toArray ++ (List.replicate k (Value.int .i64 0)).toArray ++ (List.replicate (grownCap w (n + k) old e - (n + k)) (Value.int .i64 0)).toArray) e)).ownsRow base e 1
        (.slice (some ⟨w.heap.size, 0, none⟩) (n + k) (grownCap w (n + k) old e)) (n + k) (xs ++ List.replicate k (.int .i64 0)) ∧
      w.grownBy (w.drew.alloc (.cells (xs.toArray ++ (List.replicate k (Value.int .i64 0)).toArray ++ (List.replicate (grownCap w (n + k) old e - (n + k)) (Value.int .i64 0)).toArray) e)) row := by
    intro old row
    have hge := grownCap_ge w (n + k) old e
    have hcm : grownCap w (n + k) old e ≤ maxLen := grownCap_le_maxLen w (n + k) old e (by unfold maxLen; omega)
    refine ⟨⟨hlen, .inr ⟨w.heap.size, _, _, rfl, hbase, heap_alloc_new w.drew _, hge, hcm, ?_, ?_⟩⟩, ⟨rfl, rfl, rfl, by simp, fun j hj _ => Below.heap_alloc w.drew _ j hj⟩⟩
    · have := hown.1
      simp only [Array.size_append, List.size_toArray, List.length_replicate]
      omega
    · simp only [Array.toList_append, List.append_assoc]
      rw [← List.append_assoc, ← hlen]
      exact List.take_left
  have hwk : IntKind.i64.wrap (k : Int) = k := by rw [IntKind.wrap_i64]; omega
  have hw0 : IntKind.i64.wrap 0 = 0 := by rw [IntKind.wrap_i64]; omega
  rcases hown.2 with ⟨rfl, rfl⟩ | ⟨g, cap, cur, rfl, hbg, hg, hnc, hcm, hcs, htake⟩
  · have hx : xs = [] := List.eq_nil_of_length_eq_zero (by simpa using hown.1)
    subst hx
    rcases Nat.eq_zero_or_pos k with h0 | h0
    · subst h0
      refine ⟨.slice none 0 0, w, ?_, by simpa using World.ownsRow_nil w base e 1, ⟨rfl, rfl, rfl, Nat.le_refl _, fun _ _ _ => rfl⟩⟩
      simp [Builtin.append_, run_underlying ht, run_underlying htn, sizeOf, typeInfo, zeroValue, hi, hz, asInt, asIntOf, hw0]
    · have hr := Lib.run_append_nil_zeros (P := P) w t tn ty e i (.int .i64 0) .i64 .i64 ht htn hi hz k h0 (by omega) (by omega) (by rw [hby]; omega)
      have hgr := grown 0 (Value.ownBlock (.slice none 0 0))
      rw [zero_cells', zero_cells'] at hr
      simp only [Nat.zero_add, List.nil_append, Array.empty_append] at hgr ⊢
      exact ⟨_, _, hr, hgr.1, hgr.2⟩
  · by_cases hroom : n + k ≤ cap
    · have hfit : n * i.size + (List.replicate k (Value.int .i64 0)).length ≤ cur.size := by rw [hs, hcs]; simp; omega
      have hst := run_storeCells_at P g (n * i.size) e (List.replicate k (Value.int .i64 0)) 0 cur w hg (by simpa using hfit) (by intro u hu; rw [(List.mem_replicate.1 hu).2]; rfl)
      simp only [Nat.add_zero] at hst
      have hneg : ¬ ((k : Int) < 0) := by omega
      have h48i : ¬ (281474976710656 < (k : Int) * (i.bytes : Int)) := by rw [hby]; omega
      have hr : (Builtin.append_ #[t, tn] ty #[.slice (some ⟨g, 0, none⟩) n cap, .int .i64 k]).run P w = .ok (.slice (some ⟨g, 0, none⟩) (n + k) cap) (w.setRow g (cur.toList.take (n * i.size) ++ List.replicate k (Value.int .i64 0) ++ cur.toList.drop (n * i.size + (List.replicate k (Value.int .i64 0)).length)).toArray) := by
        by_cases hk0 : k = 0
        · subst hk0
          simp only [List.replicate_zero] at hst
          simp [Builtin.append_, run_underlying ht, run_underlying htn, sizeOf, typeInfo, zeroValue, hi, hz, asInt, asIntOf, hw0, hnc, Addr.add_lit]
          have hst' : Sem.run P (storeCells ⟨g, n * i.size, none⟩ []) w = Result.ok () (w.setRow g cur) := by simpa using hst
          simp [hst']
        · have hks : ¬ (k * i.size = 0) := Nat.mul_ne_zero hk0 (by omega)
          simp [Builtin.append_, run_underlying ht, run_underlying htn, sizeOf, typeInfo, zeroValue, hi, hz, asInt, asIntOf, hwk, hneg, h48i, hks, hroom, Addr.add_lit, zero_cells', hst]
      refine ⟨_, _, hr, ⟨hlen, .inr ⟨g, cap, _, rfl, hbg, setRow_heap w g cur _ e _ hg, hroom, hcm, ?_, ?_⟩⟩, ⟨rfl, rfl, rfl, by simp, fun k _ hk => setRow_other w g k _ (fun e => hk (by simp [Value.ownBlock, e]))⟩⟩
      · simp only [List.size_toArray, List.length_append, List.length_take, List.length_drop, Array.length_toList]
        rw [hs] at hfit ⊢
        omega
      · rw [hs, htake, ← hlen]
        exact List.take_left
    · have holds : ∀ j u, xs[j]? = some u → w.cell? ((⟨g, 0, none⟩ : Addr).add j) = some u := hown.cells (g := g) rfl
      have hf := run_firstCells_some (P := P) w.drew i.size n ⟨g, 0, none⟩ n cap xs (by rw [hs]; exact hown.1) (by simpa using holds)
      have hr := Lib.run_append_grow_zeros (P := P) w t tn ty e i (.int .i64 0) .i64 .i64 ht htn hi hz (some ⟨g, 0, none⟩) n cap xs hf k (by omega) (by omega) (by omega) (by omega) (by rw [hby]; omega) (growslice_fits (by omega) (by rw [hby]; omega))
      rw [zero_cells', zero_cells'] at hr
      have hgr := grown cap (Value.ownBlock (.slice (some ⟨g, 0, none⟩) n cap))
      exact ⟨_, _, hr, hgr.1, hgr.2⟩
theorem wpList_append_zeros {P : Program} (w : World) {ops : Array Oper} {rest : List Oper} {o : Oper} {a : Act} {Q : Exit → Act → World → Prop} (hgd : o.guard = none) (s x : Operand) (t tn : TypeId)
    (ho : o.op = .call { callee := .builtin .append, args := #[s, x], argTypes := #[t, tn] })
    (base : Nat) (e : TypeId) (ht : P.underlying t = some (.slice e)) (htn : P.underlying tn = some (.int .i64)) (hinfo : (P.info? e).map (fun i => (i.zero, i.size, i.bytes)) = some (some (.int .i64 0), 1, 8))
    (v : Value) (xs : List Int) (hs : a.eval s = v) (hown : w.ownsRow base e 1 v xs.length (xs.map (Value.int .i64))) (k : Nat) (hx : a.eval x = .int .i64 k) (hb : xs.length + k ≤ 1000000000) (hbase : base ≤ w.heap.size)
    (h : ∀ v' w', w'.ownsRow base e 1 v' (xs ++ List.replicate k 0).length ((xs ++ List.replicate k 0).map (Value.int .i64)) → w.grownBy w' v.ownBlock → wpList P ops Q rest (a.put o.dst v') w') : wpList P ops Q (o :: rest) a w := by
  obtain ⟨v', w', hr, h1, h2⟩ := run_append_zeros (P := P) w base t tn o.type e ht htn hinfo v _ _ hown k hb hbase
  exact Lib.wpList_append_run w hgd s x t tn ho _ _ hs hx v' w' hr (h v' w' (by simpa using h1) h2)
end Go.Proofs.YtoiabanpnkpbhaaGreatDoor

namespace Go.Proofs.YtoiabanpnkpbhaaGreatDoor
open Go.RowKit

theorem own_sl {w : World} {base e size n : Nat} {v : Value} {xs : List Value} (h : w.ownsRow base e size v n xs) : ∃ A c, v = .slice A n c := by
  rcases h.2 with ⟨rfl, rfl⟩ | ⟨g, cap, cur, rfl, _⟩
  · exact ⟨_, _, rfl⟩
  · exact ⟨_, _, rfl⟩
theorem SI.form' {w : World} {v : Value} {l : List Int} (h : SI w v l) : ∃ A c, v = .slice A l.length c := by
  obtain ⟨A, c, rfl, _⟩ := h
  exact ⟨A, c, rfl⟩
/-- the first error of c draws below n, from a place on -/
def drE (l : List Int) (n : Int) : Nat → Nat → Int
  | _, 0 => 0
  | i, c + 1 => if i < l.length then (if gd l i < 0 ∨ n ≤ gd l i then 8 else drE l n (i + 1) c) else 3
theorem drE_ok {l : List Int} {n : Int} : ∀ {c i : Nat}, drE l n i c = 0 → ∀ j, j < c → i + j < l.length ∧ 0 ≤ gd l (i + j) ∧ gd l (i + j) < n := by
  intro c
  induction c with
  | zero => intro i _ j hj; omega
  | succ c ih =>
    intro i h j hj
    unfold drE at h
    split at h
    · rename_i h1
      split at h
      · omega
      · rename_i h2
        cases j with
        | zero => exact ⟨h1, by simp; omega⟩
        | succ j =>
          have := ih h j (by omega)
          rw [show i + (j + 1) = i + 1 + j by omega]
          exact this
    · omega
theorem drE_of {l : List Int} {n : Int} : ∀ {c i : Nat}, (∀ j, j < c → i + j < l.length ∧ 0 ≤ gd l (i + j) ∧ gd l (i + j) < n) → drE l n i c = 0 := by
  intro c
  induction c with
  | zero => intro i _; rfl
  | succ c ih =>
    intro i h
    have h0 := h 0 (by omega)
    simp only [Nat.add_zero] at h0
    unfold drE
    rw [if_pos h0.1, if_neg (by omega)]
    exact ih fun j hj => by have := h (j + 1) (by omega); rwa [show i + (j + 1) = i + 1 + j by omega] at this
/-- the next number -/
def nxE (l : List Int) (n : Int) (i : Nat) : Int := if i < l.length then (if gd l i < 0 ∨ n ≤ gd l i then 8 else 0) else 3
def nxV (l : List Int) (n : Int) (i : Nat) : Int := if nxE l n i = 0 then gd l i else 0
def nxA (l : List Int) (n : Int) (i : Nat) : Int := if nxE l n i = 0 then (i : Int) + 1 else i
theorem nx_er {l : List Int} {n : Int} {i : Nat} {e : Int} (h : nxE l n i = e) (he : e ≠ 0) : nxE l n i = e ∧ nxV l n i = 0 ∧ nxA l n i = i := by
  refine ⟨h, ?_, ?_⟩
  · unfold nxV; rw [if_neg (by omega)]
  · unfold nxA; rw [if_neg (by omega)]
theorem nx_ok {l : List Int} {n : Int} {i : Nat} (h : nxE l n i = 0) : nxE l n i = 0 ∧ nxV l n i = gd l i ∧ nxA l n i = (i : Int) + 1 := by
  refine ⟨h, ?_, ?_⟩
  · unfold nxV; rw [if_pos h]
  · unfold nxA; rw [if_pos h]

set_option maxRecDepth 100000 in
set_option maxHeartbeats 4000000 in
theorem tnext_any (l : List Int) (i : Nat) (n : Int) (b : Nat) (vn vd : Value) (w : World) (hl : SI w vn l) (hi : i ≤ l.length) (hlm : l.length ≤ 1000000) (hb : w.heap[b]? = some (.cells #[vn, .int .i64 i, vd] 125 (0, 0))) :
    Calls Tryz.prog 99 #[.pointer (some ⟨b, 0, none⟩), .int .i64 n] w fun e w' => e = .returned (.tuple #[.int .i64 (nxV l n i), .int .i64 (nxE l n i)]) ∧ w.grownBy w' (some b) ∧ w'.heap.size = w.heap.size ∧
      w'.heap[b]? = some (.cells #[vn, .int .i64 (nxA l n i), vd] 125 (0, 0)) := by
  have HL := Lib.hid hl
  have HB := Lib.hid hb
  obtain ⟨A, c, rfl⟩ := hl.form'
  have c0 : w.cell? ⟨b, 0, none⟩ = some (.slice A l.length c) := cell_of_row w b 0 _ _ _ hb
  have c1 : w.cell? ⟨b, 1, none⟩ = some (.int .i64 i) := cell_of_row w b 1 _ _ _ hb
  have f1 : w.frozen? ⟨b, 1, none⟩ = false := frozen_of_row w b 1 _ _ hb
  clear hl hb
  go_enter Tryz.func99, Tryz.ntmps99
  by_cases h3 : i < l.length
  · have hd : ((i : Int) == (l.length : Int)) = false := by rw [beq_eq_false_iff_ne]; omega
    have hd' : decide ((i : Int) = (l.length : Int)) = false := decide_eq_false (by omega)
    obtain ⟨a, off, hA, _, hcell⟩ := SB.cells HL.out (by omega)
    subst hA
    have hck := hcell i h3
    have HG : Hid (gd l i = l[i]) := gd_lt h3
    have hi1 : (i : Int) < (l.length : Int) := by omega
    clear hcell
    go_wp2_with fail
    go_quiet (fail)
    obtain ⟨q0, hq0⟩ : ∃ q0, nq = q0 := ⟨_, rfl⟩
    rw [hq0]
    clear hq0
    obtain ⟨w0, ew0⟩ : ∃ w0 : World, w0 = w.drewN q0 := ⟨_, rfl⟩
    have HW0 : Hid (w0 = w.drewN q0) := ew0
    have b0 : w0.cell? ⟨b, 0, none⟩ = some (.slice (some ⟨a, off, none⟩) l.length c) := by rw [ew0]; exact c0
    have b1 : w0.cell? ⟨b, 1, none⟩ = some (.int .i64 i) := by rw [ew0]; exact c1
    have bk : w0.cell? ⟨a, off + i, none⟩ = some (.int .i64 l[i]) := by rw [ew0]; exact hck
    rw [← ew0]
    clear ew0
    go_wp2_with fail
    go_quiet (fail)
    obtain ⟨m, hm⟩ : ∃ m, w0.drewN nq = w.drewN m := ⟨q0 + nq, by rw [HW0.out, World.drewN_drewN]⟩
    rw [hm]
    clear hm b0 b1 bk
    obtain ⟨w1, ew1⟩ : ∃ w1 : World, w1 = w.drewN m := ⟨_, rfl⟩
    have HW1 : Hid (w1 = w.drewN m) := ew1
    have d0 : w1.cell? ⟨b, 0, none⟩ = some (.slice (some ⟨a, off, none⟩) l.length c) := by rw [ew1]; exact c0
    have d1 : w1.cell? ⟨b, 1, none⟩ = some (.int .i64 i) := by rw [ew1]; exact c1
    have dk : w1.cell? ⟨a, off + i, none⟩ = some (.int .i64 l[i]) := by rw [ew1]; exact hck
    have df : w1.frozen? ⟨b, 1, none⟩ = false := by rw [ew1]; exact f1
    rw [← ew1]
    clear ew1 c0 c1 hck f1
    have HX : Hid (nxE l n i = if l[i] < 0 ∨ n ≤ l[i] then 8 else 0) := by show _ = _; unfold nxE; rw [if_pos h3, HG.out]
    by_cases hx : l[i] < 0 ∨ n ≤ l[i]
    · have HE : Hid (nxE l n i = 8 ∧ nxV l n i = 0 ∧ nxA l n i = i) := nx_er (by rw [HX.out, if_pos hx]) (by omega)
      by_cases h0 : l[i] < 0
      · have hz : decide (l[i] < 0) = true := decide_eq_true h0
        clear hx
        go_wp2_with fail
        refine bodyPost_ret (v := .tuple #[.int .i64 0, .int .i64 8]) (by simp [results, Tryz.results99, go_sem]) rfl ⟨?_, ?_, ?_, ?_⟩
        · rw [HE.out.1, HE.out.2.1]
        · rw [HW1.out]; exact grownBy_drewN (grownBy_refl w _) m
        · rw [HW1.out]; rfl
        · rw [HE.out.2.2, HW1.out]; exact HB.out
      · have hz : decide (l[i] < 0) = false := decide_eq_false h0
        have hz2 : decide (n ≤ l[i]) = true := decide_eq_true (by omega)
        clear hx
        go_wp2_with fail
        refine bodyPost_ret (v := .tuple #[.int .i64 0, .int .i64 8]) (by simp [results, Tryz.results99, go_sem]) rfl ⟨?_, ?_, ?_, ?_⟩
        · rw [HE.out.1, HE.out.2.1]
        · rw [HW1.out]; exact grownBy_drewN (grownBy_refl w _) m
        · rw [HW1.out]; rfl
        · rw [HE.out.2.2, HW1.out]; exact HB.out
    · have HE : Hid (nxE l n i = 0 ∧ nxV l n i = gd l i ∧ nxA l n i = (i : Int) + 1) := nx_ok (by rw [HX.out, if_neg hx])
      have hz : decide (l[i] < 0) = false := decide_eq_false (by omega)
      have hz2 : decide (n ≤ l[i]) = false := decide_eq_false (by omega)
      clear hx
      go_wp2_with fail
      refine bodyPost_ret (v := .tuple #[.int .i64 l[i], .int .i64 0]) (by simp [results, Tryz.results99, go_sem]) rfl ⟨?_, ?_, ?_, ?_⟩
      · rw [HE.out.1, HE.out.2.1, HG.out]
      · rw [HW1.out]; exact grownBy_setCell (grownBy_drewN (grownBy_refl w _) m) (.inl rfl) _
      · rw [HW1.out]; simp [World.setCell, World.drewN]
      · rw [HE.out.2.2]
        have := heap_setCell_same w1 b 1 _ _ (.int .i64 ((i : Int) + 1)) (by rw [HW1.out]; exact HB.out)
        simpa using this
  · obtain rfl : i = l.length := by omega
    have HE : Hid (nxE l n l.length = 3 ∧ nxV l n l.length = 0 ∧ nxA l n l.length = l.length) := nx_er (by unfold nxE; rw [if_neg (by omega)]) (by omega)
    go_wp2_with fail
    go_quiet (fail)
    go_wp2_with fail
    refine bodyPost_ret (v := .tuple #[.int .i64 0, .int .i64 3]) (by simp [results, Tryz.results99, go_sem]) rfl ⟨?_, grownBy_drewN (grownBy_refl w _) nq, rfl, ?_⟩
    · rw [HE.out.1, HE.out.2.1]
    · rw [HE.out.2.2]; exact HB.out
theorem own_set3 {w : World} {base e size n : Nat} {v : Value} {xs : List Value} {p : Addr} (h : w.ownsRow base e size v n xs) (hp : p.block < base) (u : Value) : (w.setCell p u).ownsRow base e size v n xs := by
  refine ⟨h.1, ?_⟩
  rcases h.2 with hn | ⟨g, cap, cur, rfl, hb, hgg, rest⟩
  · exact .inl hn
  · exact .inr ⟨g, cap, cur, rfl, hb, (heap_setCell_other w p g u (by omega)).trans hgg, rest⟩
/-- in the middle of the draws -/
def DrR (l : List Int) (n : Int) (i0 c b : Nat) (vn : Value) (w : World) (i : Value) (wr : World) : Prop :=
  ∃ (k : Nat) (vd : Value), k ≤ c ∧ i0 + k ≤ l.length ∧ i = .int .i64 k ∧ wr.heap[b]? = some (.cells #[vn, .int .i64 ((i0 + k : Nat) : Int), vd] 125 (0, 0)) ∧ wr.ownsRow w.heap.size 3 1 vd ((l.drop i0).take k).length (((l.drop i0).take k).map (Value.int .i64)) ∧ w.grownBy wr (some b) ∧ drE l n i0 c = drE l n (i0 + k) (c - k)
theorem drE_step {l : List Int} {n : Int} {i0 c k : Nat} (hk : k < c) : drE l n (i0 + k) (c - k) = if nxE l n (i0 + k) = 0 then drE l n (i0 + (k + 1)) (c - (k + 1)) else nxE l n (i0 + k) := by
  obtain ⟨m, hm⟩ : ∃ m, c - k = m + 1 := ⟨c - k - 1, by omega⟩
  rw [hm, show c - (k + 1) = m by omega]
  unfold nxE
  conv => lhs; unfold drE
  by_cases h : i0 + k < l.length
  · rw [if_pos h, if_pos h]
    by_cases h2 : gd l (i0 + k) < 0 ∨ n ≤ gd l (i0 + k)
    · rw [if_pos h2, if_pos h2, if_neg (by omega)]
    · rw [if_neg h2, if_neg h2, if_pos rfl]; rfl
  · rw [if_neg h, if_neg h, if_neg (by omega)]
theorem nx_lt {l : List Int} {n : Int} {i : Nat} (h : nxE l n i = 0) : i < l.length := by
  unfold nxE at h
  split at h
  · assumption
  · omega
set_option maxRecDepth 100000 in
set_option maxHeartbeats 4000000 in
theorem draw_any (l : List Int) (i0 : Nat) (n : Int) (c : Nat) (b : Nat) (vn : Value) (w : World) (hl : SB b w vn l) (hi : i0 ≤ l.length) (hlm : l.length ≤ 1000000) (hc : (c : Int) ≤ 9223372036854775807) (hb : w.heap[b]? = some (.cells #[vn, .int .i64 i0, .slice none 0 0] 125 (0, 0))) :
    Calls Tryz.prog 79 #[.pointer (some ⟨b, 0, none⟩), .int .i64 n, .int .i64 c] w fun e w' => e = .returned (.int .i64 (drE l n i0 c)) ∧ w.grownBy w' (some b) ∧
      (drE l n i0 c = 0 → ∃ vd, w'.heap[b]? = some (.cells #[vn, .int .i64 ((i0 + c : Nat) : Int), vd] 125 (0, 0)) ∧ w'.ownsRow w.heap.size 3 1 vd ((l.drop i0).take c).length (((l.drop i0).take c).map (Value.int .i64))) := by
  have HL := Lib.hid hl
  have HB := Lib.hid hb
  have hbw : b < w.heap.size := heap_of_cells hb
  clear hl hb
  go_enter Tryz.func79, Tryz.ntmps79
  go_wp2_with fail
  go_loopw [7] (fun i wr => DrR l n i0 c b vn w i wr) (fun i _ => c - (intOf i).toNat)
  case atStart => exact ⟨0, .slice none 0 0, Nat.zero_le _, hi, rfl, HB.out, by simpa using World.ownsRow_nil w w.heap.size 3 1, grownBy_refl w _, rfl⟩
  case round =>
    obtain ⟨k, vd, hk, hik, rfl, hbr, hown, hgr, hdr⟩ := hrel
    have HG := Lib.hid hgr
    have HBR := Lib.hid hbr
    have HO := Lib.hid hown
    have HD := Lib.hid hdr
    have hzr := hgr.size
    clear hgr hbr hown hdr
    by_cases hlt : k < c
    · have HST := Lib.hid (HD.out.trans (drE_step (l := l) (n := n) (i0 := i0) hlt))
      have hd1 : decide ((k : Int) < (c : Int)) = true := decide_eq_true (by omega)
      have HLr : Hid (SB b wr vn l) := HL.out.keep fun p hp => World.cell?_of_block (HG.out.block p.block (by omega) (by simp; omega))
      go_wp2_with fail
      (with_reducible refine (tnext_any l (i0 + k) n b vn vd _ (HLr.out.si (by omega)) hik hlm HBR.out).mono ?_)
      rintro e w2 ⟨rfl, hg2, hz2, hb2⟩
      have HG2 : Hid (w.grownBy w2 (some b)) := grownBy_trans HG.out hg2
      have HO2 := Lib.hid (HO.out.kept hg2 (.inr fun e => by have := (HO.out.lt b e).1; omega))
      have hzw : w.heap.size ≤ w2.heap.size := by omega
      by_cases hx : nxE l n (i0 + k) = 0
      · have HX := Lib.hid (nx_ok hx)
        have hlk := nx_lt hx
        rw [HX.out.1, HX.out.2.1]
        rw [HX.out.2.2] at hb2
        have HS2 : Hid (drE l n i0 c = drE l n (i0 + (k + 1)) (c - (k + 1))) := by have h := HST.out; rw [if_pos hx] at h; exact h
        have HB2 := Lib.hid hb2
        obtain ⟨Ad, cd, rfl⟩ := own_sl HO.out
        have HTK : Hid ((l.drop i0).take (k + 1) = (l.drop i0).take k ++ [gd l (i0 + k)]) := by
          show _ = _
          rw [List.take_succ_eq_append_getElem (by simp; omega), gd_lt hlk]
          simp
        have hlen : ((l.drop i0).take k).length = k := by simp; omega
        obtain ⟨D, hD⟩ : ∃ D, (l.drop i0).take k = D := ⟨_, rfl⟩
        rw [hD] at HO2 HB2 HTK hlen
        have HLE := Lib.hid hlen
        obtain ⟨y, hy⟩ : ∃ y, gd l (i0 + k) = y := ⟨_, rfl⟩
        rw [hy] at HTK ⊢
        have c2 : w2.cell? ⟨b, 2, none⟩ = some (.slice Ad D.length cd) := cell_of_row w2 b 2 _ _ _ HB2.out
        have HF2 : Hid (∀ (o : Obj) (w3 : World), (w2.alloc o).grownBy w3 (Value.slice Ad D.length cd).ownBlock → w3.heap[b]? = w2.heap[b]?) := fun o w3 hg => (hg.block b (by have := heap_of_cells HB2.out; simp; omega) (fun e => by have := (HO2.out.lt b e.symm).1; omega)).trans (Below.heap_alloc _ _ _ (heap_of_cells HB2.out))
        have hDl : D.length ≤ 1000000 := by omega
        have HOB : Hid (∀ k, (Value.slice Ad D.length cd).ownBlock = some k → w.heap.size ≤ k) := fun k hk => (HO2.out.lt k hk).1
        clear hx hb2 hg2 hz2 hlen hD hy
        go_wp2_with (at_builtin; refine wpList_append_int1 _ rfl (.tmp 30) (.tmp 32) 22 rfl w.heap.size 3 Tryz.underlying22 iinfo _ D rfl HO2.out y rfl (by omega) hzw ?_; intro v3 w3 hown3 hg3; obtain ⟨A3, k3, rfl⟩ := own_sl hown3; have HO3 := Lib.hid hown3; have HG3 := Lib.hid hg3; have c3 := (World.cell?_of_block (a := ⟨b, 2, none⟩) (HF2.out _ _ HG3.out)).trans c2; have f3 : w3.frozen? ⟨b, 2, none⟩ = false := frozen_of_row w3 b 2 _ _ ((HF2.out _ _ HG3.out).trans HB2.out); clear hown3 hg3)
        go_roundw
        case rel =>
          refine ⟨k + 1, .slice A3 (D ++ [y]).length k3, by omega, by omega, by go_num, ?_, ?_, ?_, HS2.out⟩
          · have := heap_setCell_same w3 b 2 _ _ (.slice A3 (D ++ [y]).length k3) ((HF2.out _ _ HG3.out).trans HB2.out)
            simpa [Int.add_assoc] using this
          · rw [HTK.out]
            exact own_set3 HO3.out hbw _
          · exact grownBy_setCell (grownBy_own (grownBy_alloc' HG2.out _) HG3.out HOB.out) (.inl rfl) _
        case measure => simp [intOf]; omega
      · have hne := hx
        have HS2 : Hid (drE l n i0 c = nxE l n (i0 + k)) := by have h := HST.out; rw [if_neg hx] at h; exact h
        obtain ⟨er, her⟩ : ∃ er, nxE l n (i0 + k) = er := ⟨_, rfl⟩
        have HER := Lib.hid her
        rw [her] at hne ⊢
        have hbn : (er != 0) = true := by rw [bne_iff_ne]; exact hne
        have HNE := Lib.hid hne
        clear hx her hne
        go_wp2_with fail
        go_ret
        exact ⟨by rw [HS2.out, HER.out] <;> rfl, HG2.out, fun h => absurd (HER.out.symm.trans (HS2.out.symm.trans h)) HNE.out⟩
    · obtain rfl : k = c := by omega
      have HZ : Hid (drE l n i0 k = 0) := by show _ = _; rw [HD.out, Nat.sub_self]; rfl
      have hd1 : decide ((k : Int) < (k : Int)) = false := decide_eq_false (by omega)
      go_wp2_with fail
      go_ret
      exact ⟨by rw [HZ.out] <;> rfl, HG.out, fun _ => ⟨vd, HBR.out, HO.out⟩⟩
end Go.Proofs.YtoiabanpnkpbhaaGreatDoor

namespace Go.Proofs.YtoiabanpnkpbhaaGreatDoor
open Go.RowKit

def tvB (l : List Int) (at_ : Int) : Bool := decide (l.length ≤ 16384 ∧ 0 ≤ at_ ∧ at_ ≤ (l.length : Int))
def liB (n : Int) : Bool := decide (1 ≤ n ∧ n ≤ 2147483647)
theorem tvalid_any (l : List Int) (at_ : Int) (v : Value) (w : World) (h : SI w v l) :
    Calls Tryz.prog 77 #[.agg #[v, .int .i64 at_]] w fun e w' => e = .returned (.bool (tvB l at_)) ∧ Below w.heap.size w w' := by
  obtain ⟨A, c, rfl⟩ := h.form'
  clear h
  have HB : Hid (∀ o : Obj, Below w.heap.size w (w.alloc o)) := fun o => (Below.refl _ w).alloc (Nat.le_refl _) o
  go_enter Tryz.func77, Tryz.ntmps77
  by_cases h1 : l.length ≤ 16384
  · have d1 : decide ((l.length : Int) ≤ 16384) = true := decide_eq_true (by omega)
    by_cases h2 : 0 ≤ at_
    · have d2 : decide (0 ≤ at_) = true := decide_eq_true h2
      by_cases h3 : at_ ≤ (l.length : Int)
      · have d3 : decide (at_ ≤ (l.length : Int)) = true := decide_eq_true h3
        have HE : Hid (tvB l at_ = true) := decide_eq_true ⟨h1, h2, h3⟩
        go_wp2_with fail
        go_ret
        exact ⟨by rw [HE.out] <;> rfl, HB.out _⟩
      · have d3 : decide (at_ ≤ (l.length : Int)) = false := decide_eq_false h3
        have HE : Hid (tvB l at_ = false) := decide_eq_false fun h => h3 h.2.2
        go_wp2_with fail
        go_ret
        exact ⟨by rw [HE.out] <;> rfl, HB.out _⟩
    · have d2 : decide (0 ≤ at_) = false := decide_eq_false h2
      have HE : Hid (tvB l at_ = false) := decide_eq_false fun h => h2 h.2.1
      go_wp2_with fail
      go_ret
      exact ⟨by rw [HE.out] <;> rfl, HB.out _⟩
  · have d1 : decide ((l.length : Int) ≤ 16384) = false := decide_eq_false (by omega)
    have HE : Hid (tvB l at_ = false) := decide_eq_false fun h => h1 h.1
    go_wp2_with fail
    go_ret
    exact ⟨by rw [HE.out] <;> rfl, HB.out _⟩
theorem tlimit_any (n : Int) (w : World) : Calls Tryz.prog 78 #[.int .i64 n] w fun e w' => e = .returned (.bool (liB n)) ∧ w = w' := by
  go_enter Tryz.func78, Tryz.ntmps78
  by_cases h1 : 1 ≤ n
  · have d1 : decide (1 ≤ n) = true := decide_eq_true h1
    by_cases h2 : n ≤ 2147483647
    · have d2 : decide (n ≤ 2147483647) = true := decide_eq_true h2
      have HE : Hid (liB n = true) := decide_eq_true ⟨h1, h2⟩
      go_wp2_with fail
      go_ret
      exact ⟨by rw [HE.out] <;> rfl, rfl⟩
    · have d2 : decide (n ≤ 2147483647) = false := decide_eq_false h2
      have HE : Hid (liB n = false) := decide_eq_false fun h => h2 h.2
      go_wp2_with fail
      go_ret
      exact ⟨by rw [HE.out] <;> rfl, rfl⟩
  · have d1 : decide (1 ≤ n) = false := decide_eq_false h1
    have HE : Hid (liB n = false) := decide_eq_false fun h => h1 h.1
    go_wp2_with fail
    go_ret
    exact ⟨by rw [HE.out] <;> rfl, rfl⟩
theorem own_lo {w : World} {base base' e size n : Nat} {v : Value} {xs : List Value} (h : w.ownsRow base e size v n xs) (hb : base' ≤ base) : w.ownsRow base' e size v n xs := by
  refine ⟨h.1, ?_⟩
  rcases h.2 with hn | ⟨g, cap, cur, rfl, hbg, rest⟩
  · exact .inl hn
  · exact .inr ⟨g, cap, cur, rfl, by omega, rest⟩
theorem own_bel {w w' : World} {base e size n : Nat} {v : Value} {xs : List Value} (h : w.ownsRow base e size v n xs) (hb : Below w.heap.size w w') : w'.ownsRow base e size v n xs := by
  refine ⟨h.1, ?_⟩
  rcases h.2 with hn | ⟨g, cap, cur, rfl, hbg, hgg, rest⟩
  · exact .inl hn
  · exact .inr ⟨g, cap, cur, rfl, hbg, (hb.block g (heap_of_cells hgg)).trans hgg, rest⟩
set_option maxRecDepth 100000 in
/-- slices.Clone of ints -/
theorem clone_any (l : List Int) (v : Value) (w : World) (h : SI w v l) (hl : l.length ≤ 1000000) :
    Calls Tryz.prog 80 #[v] w fun e w' => ∃ v', e = .returned v' ∧ w'.ownsRow w.heap.size 3 1 v' l.length (l.map (Value.int .i64)) ∧ Below w.heap.size w w' := by
  have HS := Lib.hid h
  obtain ⟨A, c, rfl⟩ := h.form'
  clear h
  rcases A with _ | a
  · have hl0 : l = [] := by
      rcases Nat.eq_zero_or_pos l.length with h | h
      · exact List.eq_nil_of_length_eq_zero h
      · obtain ⟨b, off, e, _⟩ := SB.cells HS.out h; cases e
    subst hl0
    have hn := Lib.run_eql_slice_nil (P := Tryz.prog) w 22 3 none 0 c 0 0 Tryz.underlying22
    go_enter Tryz.func80, Tryz.ntmps80
    go_wp2_with fail
    go_ret
    exact ⟨_, rfl, by simpa using World.ownsRow_nil w w.heap.size 3 1, Below.refl _ _⟩
  · have hn := Lib.run_eql_slice_nil (P := Tryz.prog) w 22 3 (some a) l.length c 0 0 Tryz.underlying22
    go_enter Tryz.func80, Tryz.ntmps80
    have hO : Hid ((w.alloc (.cells #[] 3)).ownsRow w.heap.size 3 1 (.slice (some ⟨w.heap.size, 0, none⟩) 0 0) 0 []) := own_lit (base := w.heap.size) w 3 [] (Nat.le_refl _) (by simp)
    have HSB : Hid (SB w.heap.size (w.alloc (.cells #[] 3)) (.slice (some a) l.length c) l) := SB.below HS.out ((Below.refl _ w).alloc (Nat.le_refl _) _)
    go_wp2_with (at_builtin; refine wpList_append_ints _ rfl _ _ 22 rfl w.heap.size 3 Tryz.underlying22 iinfo _ [] rfl hO.out w.heap.size _ l rfl HSB.out (by simp; omega) (by simp) ?_; intro v2 w2 hown2 hg2; have HO2 := Lib.hid hown2; have HG2 := Lib.hid hg2; clear hown2 hg2)
    go_ret
    refine ⟨_, rfl, by simpa using HO2.out, ((Below.refl _ w).alloc (Nat.le_refl _) _).grown HG2.out (by simp) (fun k hk => ?_)⟩
    have := hO.out.lt k hk
    omega
/-- both cells of a block of two laid anew -/
theorem store2 {w : World} {R : Nat} {t : TypeId} {x y : Value} (a b : Value) (h : w.heap[R]? = some (.cells #[x, y] t (0, 0))) : ((w.setCell ⟨R, 0, none⟩ a).setCell ⟨R, 1, none⟩ b).heap[R]? = some (.cells #[a, b] t (0, 0)) := by
  have h1 := heap_setCell_same w R 0 _ _ a h
  have h2 := heap_setCell_same _ R 1 _ _ b h1
  simpa using h2
def dsE (l : List Int) (at_ n c : Int) : Int := if tvB l at_ = false then 2 else if liB n = false ∨ c < 0 then 1 else drE l n at_.toNat c.toNat
set_option maxRecDepth 100000 in
set_option maxHeartbeats 4000000 in
theorem draws_any (l : List Int) (at_ n c : Int) (v : Value) (w : World) (h : SI w v l) (hc : i64r c) :
    Calls Tryz.prog 52 #[.agg #[v, .int .i64 at_], .int .i64 n, .int .i64 c] w fun e w' => ∃ v1 a1 v2, e = .returned (.tuple #[.agg #[v1, .int .i64 a1], v2, .int .i64 (dsE l at_ n c)]) ∧ Below w.heap.size w w' ∧
      (dsE l at_ n c = 0 → a1 = at_ + c ∧ SI w' v1 l ∧ w'.ownsRow w.heap.size 3 1 v2 ((l.drop at_.toNat).take c.toNat).length (((l.drop at_.toNat).take c.toNat).map (Value.int .i64))) ∧ (dsE l at_ n c ≠ 0 → v1 = .slice none 0 0 ∧ a1 = 0 ∧ v2 = .slice none 0 0) := by
  have HS := Lib.hid h
  obtain ⟨A, cc, rfl⟩ := h.form'
  clear h
  go_enter Tryz.func52, Tryz.ntmps52
  go_upto_region 1 with fail
  obtain ⟨wa, ew⟩ : ∃ wa : World, wa = (w.alloc (.cells #[.slice A l.length cc, .int .i64 at_] 45)).alloc (.cells #[.slice none 0 0, .int .i64 0] 45) := ⟨_, rfl⟩
  have HBa : Hid (Below w.heap.size w wa) := by show Below _ _ _; rw [ew]; exact ((Below.refl _ w).alloc (Nat.le_refl _) _).alloc (by simp) _
  have hza : wa.heap.size = w.heap.size + 2 := by rw [ew]; simp
  have HT : Hid (wa.heap[w.heap.size]? = some (.cells #[.slice A l.length cc, .int .i64 at_] 45 (0, 0))) := by
    show _ = _; rw [ew, Below.heap_alloc _ _ _ (by simp)]; exact heap_alloc_new w _
  have HR : Hid (wa.heap[w.heap.size + 1]? = some (.cells #[.slice none 0 0, .int .i64 0] 45 (0, 0))) := by
    show _ = _; rw [ew]; have := heap_alloc_new (w.alloc (.cells #[.slice A l.length cc, .int .i64 at_] 45)) (.cells #[.slice none 0 0, .int .i64 0] 45); simpa using this
  rw [← ew]
  clear ew
  have HSa := Lib.hid (HS.out.below HBa.out)
  obtain ⟨T, hT⟩ : ∃ T, w.heap.size = T := ⟨_, rfl⟩
  have HTT := Lib.hid hT
  rw [hT] at HT HR hza ⊢
  clear hT
  have cT0 : wa.cell? ⟨T, 0, none⟩ = some (.slice A l.length cc) := cell_of_row wa T 0 _ _ _ HT.out
  have cT1 : wa.cell? ⟨T, 1, none⟩ = some (.int .i64 at_) := cell_of_row wa T 1 _ _ _ HT.out
  go_wp2_with fail
  (with_reducible refine (tvalid_any l at_ _ _ HSa.out).mono ?_)
  rintro e w1 ⟨rfl, hb1⟩
  have HB1 := Lib.hid hb1
  have HBw : Hid (Below w.heap.size w w1) := HBa.out.trans (hb1.mono HBa.out.size)
  have HT1 : Hid (w1.heap[T]? = some (.cells #[.slice A l.length cc, .int .i64 at_] 45 (0, 0))) := (hb1.block T (by omega)).trans HT.out
  have HR1 : Hid (w1.heap[T + 1]? = some (.cells #[.slice none 0 0, .int .i64 0] 45 (0, 0))) := (hb1.block (T + 1) (by omega)).trans HR.out
  have hz1 := hb1.size
  have cR0 : w1.cell? ⟨T + 1, 0, none⟩ = some (.slice none 0 0) := cell_of_row w1 (T + 1) 0 _ _ _ HR1.out
  have cR1 : w1.cell? ⟨T + 1, 1, none⟩ = some (.int .i64 0) := cell_of_row w1 (T + 1) 1 _ _ _ HR1.out
  have fR0 : w1.frozen? ⟨T + 1, 0, none⟩ = false := frozen_of_row w1 (T + 1) 0 _ _ HR1.out
  have fR1 : w1.frozen? ⟨T + 1, 1, none⟩ = false := frozen_of_row w1 (T + 1) 1 _ _ HR1.out
  clear cT0 cT1 hb1
  by_cases hv : tvB l at_ = false
  · have HE : Hid (dsE l at_ n c = 2) := by show _ = _; unfold dsE; rw [if_pos hv]
    rw [hv]
    clear hv
    go_wp2_with fail
    have HW := store2 (.slice none 0 0) (.int .i64 0) HR1.out
    have q0 := cell_of_row _ (T + 1) 0 _ _ _ HW
    have q1 := cell_of_row _ (T + 1) 1 _ _ _ HW
    simp only [List.getElem?_toArray, List.getElem?_cons_zero, List.getElem?_cons_succ] at q0 q1
    refine bodyPost_ret (v := .tuple #[.agg #[.slice none 0 0, .int .i64 0], .slice none 0 0, .int .i64 2]) (by simp [results, Tryz.results52, go_sem, q0, q1]) rfl ⟨_, _, _, by rw [HE.out], ?_, fun h => by rw [HE.out] at h; omega, fun _ => ⟨rfl, rfl, rfl⟩⟩
    exact (HBw.out.setCell (by show _ ≤ T + 1; have := HTT.out; omega) _).setCell (by show _ ≤ T + 1; have := HTT.out; omega) _
  · have hv2 : tvB l at_ = true := by simpa using hv
    have HV := Lib.hid hv2
    have HVN := Lib.hid hv
    rw [hv2]
    have hvv : l.length ≤ 16384 ∧ 0 ≤ at_ ∧ at_ ≤ (l.length : Int) := of_decide_eq_true hv2
    clear hv hv2
    go_wp2_with fail
    (with_reducible refine (tlimit_any n _).mono ?_)
    rintro e w2 ⟨rfl, rfl⟩
    by_cases hlm : liB n = false ∨ c < 0
    · have HE : Hid (dsE l at_ n c = 1) := by show _ = _; unfold dsE; rw [if_neg HVN.out, if_pos hlm]
      have hg : liB n = false ∨ (liB n = true ∧ decide (c < 0) = true) := by
        cases h : liB n with
        | false => exact .inl rfl
        | true => exact .inr ⟨rfl, by rcases hlm with h2 | h2; (rw [h] at h2; cases h2); exact decide_eq_true h2⟩
      clear hlm
      rcases hg with hg | ⟨hg, hcz⟩
      all_goals
        rw [hg]
        clear hg
        go_wp2_with fail
        have HW := store2 (.slice none 0 0) (.int .i64 0) HR1.out
        have q0 := cell_of_row _ (T + 1) 0 _ _ _ HW
        have q1 := cell_of_row _ (T + 1) 1 _ _ _ HW
        simp only [List.getElem?_toArray, List.getElem?_cons_zero, List.getElem?_cons_succ] at q0 q1
        refine bodyPost_ret (v := .tuple #[.agg #[.slice none 0 0, .int .i64 0], .slice none 0 0, .int .i64 1]) (by simp [results, Tryz.results52, go_sem, q0, q1]) rfl ⟨_, _, _, by rw [HE.out], ?_, fun h => by rw [HE.out] at h; omega, fun _ => ⟨rfl, rfl, rfl⟩⟩
        exact (HBw.out.setCell (by show _ ≤ T + 1; have := HTT.out; omega) _).setCell (by show _ ≤ T + 1; have := HTT.out; omega) _
    · have hl2 : liB n = true := by
        cases h : liB n with
        | false => exact absurd (.inl h) hlm
        | true => rfl
      have hc0 : ¬ c < 0 := fun h => hlm (.inr h)
      obtain ⟨cn, rfl⟩ : ∃ cn : Nat, c = cn := ⟨c.toNat, by omega⟩
      obtain ⟨an, rfl⟩ : ∃ an : Nat, at_ = an := ⟨at_.toNat, by omega⟩
      have hdc : decide ((cn : Int) < 0) = false := decide_eq_false hc0
      have HDE : Hid (dsE l an n cn = drE l n an cn) := by show _ = _; unfold dsE; rw [if_neg HVN.out, if_neg hlm]; rfl
      rw [hl2]
      clear hlm hl2
      have cT0 : w1.cell? ⟨T, 0, none⟩ = some (.slice A l.length cc) := cell_of_row w1 T 0 _ _ _ HT1.out
      have cT1 : w1.cell? ⟨T, 1, none⟩ = some (.int .i64 an) := cell_of_row w1 T 1 _ _ _ HT1.out
      go_upto_region 6 with fail
      obtain ⟨b, hb⟩ : ∃ b, w1.heap.size = b := ⟨_, rfl⟩
      have HBB := Lib.hid hb
      obtain ⟨w2, ew2⟩ : ∃ w2 : World, w2 = w1.alloc (.cells #[.slice A l.length cc, .int .i64 an, .slice none 0 0] 125) := ⟨_, rfl⟩
      have HB2 : Hid (Below w1.heap.size w1 w2) := by show Below _ _ _; rw [ew2]; exact (Below.refl _ _).alloc (Nat.le_refl _) _
      have HD2 : Hid (w2.heap[b]? = some (.cells #[.slice A l.length cc, .int .i64 an, .slice none 0 0] 125 (0, 0))) := by show _ = _; rw [ew2, ← hb]; exact heap_alloc_new w1 _
      have hz2 : w2.heap.size = b + 1 := by rw [ew2, ← hb]; simp
      rw [← ew2, hb]
      rw [hb] at hz1
      clear ew2 hb
      have HS2 : Hid (SB b w2 (.slice A l.length cc) l) := (SB.below HS.out (HBw.out.trans (HB2.out.mono HBw.out.size))).more (by have := HBw.out.size; have := HBB.out; omega)
      clear cT0 cT1 cR0 cR1 fR0 fR1
      go_wp2_with fail
      (with_reducible refine (draw_any l an n cn b _ w2 HS2.out (by omega) (by omega) (by have := hc; unfold i64r at this; omega) HD2.out).mono ?_)
      rintro e w3 ⟨rfl, hg3, hok⟩
      have HG3 := Lib.hid hg3
      have HOK := Lib.hid hok
      have hz3 := hg3.size
      have HR3 : Hid (w3.heap[T + 1]? = some (.cells #[.slice none 0 0, .int .i64 0] 45 (0, 0))) := (hg3.block (T + 1) (by omega) (by simp; omega)).trans ((HB2.out.block (T + 1) (by have := HBB.out; omega)).trans HR1.out)
      have HT3 : Hid (w3.heap[T]? = some (.cells #[.slice A l.length cc, .int .i64 an] 45 (0, 0))) := (hg3.block T (by omega) (by simp; omega)).trans ((HB2.out.block T (by have := HBB.out; omega)).trans HT1.out)
      have HBw3 : Hid (Below w.heap.size w w3) := (HBw.out.trans (HB2.out.mono HBw.out.size)).grown hg3 (by have := HBw.out.size; have := HB2.out.size; omega) (fun k hk => by injection hk with hk; have := HBw.out.size; have := HBB.out; omega)
      have cR0 : w3.cell? ⟨T + 1, 0, none⟩ = some (.slice none 0 0) := cell_of_row w3 (T + 1) 0 _ _ _ HR3.out
      have cR1 : w3.cell? ⟨T + 1, 1, none⟩ = some (.int .i64 0) := cell_of_row w3 (T + 1) 1 _ _ _ HR3.out
      have fR0 : w3.frozen? ⟨T + 1, 0, none⟩ = false := frozen_of_row w3 (T + 1) 0 _ _ HR3.out
      have fR1 : w3.frozen? ⟨T + 1, 1, none⟩ = false := frozen_of_row w3 (T + 1) 1 _ _ HR3.out
      obtain ⟨er, her⟩ : ∃ er, drE l n an cn = er := ⟨_, rfl⟩
      have HER := Lib.hid her
      rw [her]
      clear hg3 hok her
      by_cases h0 : er = 0
      · subst h0
        obtain ⟨vd, hbd, hown⟩ := HOK.out HER.out
        have HBD := Lib.hid hbd
        have HO := Lib.hid hown
        obtain ⟨Ad, cd, rfl⟩ := own_sl hown
        obtain ⟨D, hD⟩ : ∃ D, (l.drop an).take cn = D := ⟨_, rfl⟩
        have HDD := Lib.hid hD
        rw [hD] at HO HBD
        have cT0 : w3.cell? ⟨T, 0, none⟩ = some (.slice A l.length cc) := cell_of_row w3 T 0 _ _ _ HT3.out
        have cb1 : w3.cell? ⟨b, 1, none⟩ = some (.int .i64 ((an : Int) + cn)) := cell_of_row w3 b 1 _ _ _ HBD.out
        have cb2 : w3.cell? ⟨b, 2, none⟩ = some (.slice Ad D.length cd) := cell_of_row w3 b 2 _ _ _ HBD.out
        have hbl : b < w3.heap.size := by omega
        have hTl : T < w3.heap.size := by omega
        have hRl : T + 1 < w3.heap.size := by omega
        have HRG : Hid (∀ x ∈ l, i64r x) := by obtain ⟨_, _, _, _, _, hr, _⟩ := HS.out; exact hr
        have HS3 : Hid (SI w3 (.slice A l.length cc) l) := (SB.below HS.out HBw3.out).si HBw3.out.size
        clear hbd hown hD
        go_wp2_with fail
        have hbT : ¬ (b = T + 1) := by have := HBB.out; omega
        have hbT' : ¬ (T + 1 = b) := by omega
        go_region_held3 (fun w' => w'.cell? ⟨T, 0, none⟩ = some (.slice A l.length cc) ∧ w'.cell? ⟨b, 1, none⟩ = some (.int .i64 ((an : Int) + cn)) ∧ w'.cell? ⟨b, 2, none⟩ = some (.slice Ad D.length cd)) (first | exact ⟨cT0, cb1, cb2⟩ | exact ⟨x0, x1, x2⟩ | go_keep)
          (first | (go_at_call 80; refine (clone_any l _ _ (by exact HS3.out) (by omega)).mono ?_; rintro e w4 ⟨v4, rfl, hS4, hb4⟩; obtain ⟨A4, k4, rfl⟩ := own_sl hS4; have HS4 := Lib.hid hS4; have HB4 := Lib.hid hb4; have x0 := (hb4.cell (p := ⟨T, 0, none⟩) hTl).trans cT0; have x1 := (hb4.cell (p := ⟨b, 1, none⟩) hbl).trans cb1; have x2 := (hb4.cell (p := ⟨b, 2, none⟩) hbl).trans cb2; have x3 := (hb4.cell (p := ⟨T + 1, 0, none⟩) hRl).trans cR0; have x4 := (hb4.cell (p := ⟨T + 1, 1, none⟩) hRl).trans cR1; have x5 := (hb4.frozen (p := ⟨T + 1, 0, none⟩) hRl).trans fR0; have x6 := (hb4.frozen (p := ⟨T + 1, 1, none⟩) hRl).trans fR1; clear hS4 hb4))
        all_goals
          have HR4 : Hid (w4.heap[T + 1]? = some (.cells #[.slice none 0 0, .int .i64 0] 45 (0, 0))) := (HB4.out.block (T + 1) hRl).trans HR3.out
          have HBw4 : Hid (Below w.heap.size w w4) := HBw3.out.trans ((by first | exact HB4.out | exact HB4.out.drew_left : Below w3.heap.size w3 w4).mono HBw3.out.size)
          go_wp2_with fail
          have HW := store2 (.slice A4 l.length k4) (.int .i64 ((an : Int) + cn)) HR4.out
          have q0 := cell_of_row _ (T + 1) 0 _ _ _ HW
          have q1 := cell_of_row _ (T + 1) 1 _ _ _ HW
          simp only [List.getElem?_toArray, List.getElem?_cons_zero, List.getElem?_cons_succ] at q0 q1
          have hTw : w.heap.size ≤ T := by have := HTT.out; omega
          have hTl2 : T + 1 < w4.heap.size := heap_of_cells HR4.out
          have HBf : Hid (Below w.heap.size w ((w4.setCell ⟨T + 1, 0, none⟩ (.slice A4 l.length k4)).setCell ⟨T + 1, 1, none⟩ (.int .i64 ((an : Int) + cn)))) := (HBw4.out.setCell (by show _ ≤ T + 1; omega) _).setCell (by show _ ≤ T + 1; omega) _
          refine bodyPost_ret (v := .tuple #[.agg #[.slice A4 l.length k4, .int .i64 ((an : Int) + cn)], .slice Ad D.length cd, .int .i64 0]) (by simp [results, Tryz.results52, go_sem, q0, q1]) rfl ⟨_, _, _, by rw [HDE.out, HER.out], HBf.out, fun _ => ⟨rfl, ?_, ?_⟩, fun h => absurd (HDE.out.trans HER.out) h⟩
          · exact SI.of_own (own_set3 (own_set3 HS4.out hRl _) hRl _) HRG.out
          · rw [show ((an : Int)).toNat = an from rfl, show ((cn : Int)).toNat = cn from rfl, HDD.out]
            exact own_lo (own_set3 (own_set3 (own_bel HO.out (by first | exact HB4.out | exact HB4.out.drew_left)) (by show T + 1 < w2.heap.size; omega) _) (by show T + 1 < w2.heap.size; omega) _) (by have := HB2.out.size; have := HBw.out.size; omega)
      · have HE : Hid (dsE l an n cn = er) := HDE.out.trans HER.out
        have hbn : (er != 0) = true := by rw [bne_iff_ne]; exact h0
        have HNE := Lib.hid h0
        clear h0
        go_wp2_with fail
        have HW := store2 (.slice none 0 0) (.int .i64 0) HR3.out
        have q0 := cell_of_row _ (T + 1) 0 _ _ _ HW
        have q1 := cell_of_row _ (T + 1) 1 _ _ _ HW
        simp only [List.getElem?_toArray, List.getElem?_cons_zero, List.getElem?_cons_succ] at q0 q1
        refine bodyPost_ret (v := .tuple #[.agg #[.slice none 0 0, .int .i64 0], .slice none 0 0, .int .i64 er]) (by simp [results, Tryz.results52, go_sem, q0, q1]) rfl ⟨_, _, _, by rw [HE.out], ?_, fun h => by rw [HE.out] at h; exact absurd h HNE.out, fun _ => ⟨rfl, rfl, rfl⟩⟩
        exact (HBw3.out.setCell (by show _ ≤ T + 1; have := HTT.out; omega) _).setCell (by show _ ≤ T + 1; have := HTT.out; omega) _
end Go.Proofs.YtoiabanpnkpbhaaGreatDoor
