/- Cells of a word; the iterator over the known ones. -/
import Derived.Test.YtbgabipngdillaaIn3
namespace Go.Proofs.Ytbgabipngdillaa
open Go.RowKit Go.Shelf
attribute [local go_sem] Oper.semAt_some

/-- A slice of cells: a value, and whether it is known. -/
def SCl (w : World) (v : Value) (l : List (Int × Bool)) : Prop :=
  ∃ A c, v = .slice A l.length c ∧ l.length ≤ c ∧ c ≤ 9223372036854775807 ∧ (∀ x ∈ l, i64r x.1) ∧
    (0 < l.length → ∃ b off, A = some ⟨b, off, none⟩ ∧ b < w.heap.size ∧ ∀ j (h : j < l.length), w.cell? ⟨b, off + j * 2, none⟩ = some (.int .i64 l[j].1) ∧ w.cell? ⟨b, off + j * 2 + 1, none⟩ = some (.bool l[j].2))
theorem SCl.below {w w' : World} {v : Value} {l : List (Int × Bool)} (h : SCl w v l) (hb : Below w.heap.size w w') : SCl w' v l := by
  obtain ⟨A, c, rfl, hc, hm, hr, ha⟩ := h
  refine ⟨A, c, rfl, hc, hm, hr, fun h0 => ?_⟩
  obtain ⟨b, off, rfl, hbl, hcell⟩ := ha h0
  exact ⟨b, off, rfl, by have := hb.size; omega, fun j hj => ⟨(hb.cell hbl).trans (hcell j hj).1, (hb.cell hbl).trans (hcell j hj).2⟩⟩
theorem SCl.form {w : World} {v : Value} {l : List (Int × Bool)} (h : SCl w v l) : ∃ A c, v = .slice A l.length c := by
  obtain ⟨A, c, rfl, _⟩ := h
  exact ⟨A, c, rfl⟩
/-- the known cells, as shares -/
def knF : Nat → List (Int × Bool) → List (Int × Int)
  | _, [] => []
  | i, c :: t => (if c.2 = true then [((i : Int) + 1, c.1)] else []) ++ knF (i + 1) t
def kn (l : List (Int × Bool)) : List (Int × Int) := knF 0 l
theorem knF_app (a b : List (Int × Bool)) : ∀ i, knF i (a ++ b) = knF i a ++ knF (i + a.length) b := by
  induction a with
  | nil => intro i; rfl
  | cons c a ih => intro i; simp only [List.cons_append, knF, ih, List.length_cons, List.append_assoc, Nat.add_assoc, Nat.add_comm 1]
theorem kn_snoc (l : List (Int × Bool)) (k : Nat) (h : k < l.length) : kn (l.take (k + 1)) = kn (l.take k) ++ (if l[k].2 = true then [((k : Int) + 1, l[k].1)] else []) := by
  unfold kn
  rw [List.take_succ_eq_append_getElem h, knF_app]
  simp only [knF, List.append_nil, List.length_take, Nat.zero_add, Nat.min_eq_left (Nat.le_of_lt h)]
theorem kn_pre (l : List (Int × Bool)) (k : Nat) : kn (l.take k) = (kn l).take (kn (l.take k)).length := by
  have : kn l = kn (l.take k) ++ knF (0 + (l.take k).length) (l.drop k) := by
    conv => lhs; rw [← List.take_append_drop k l]
    exact knF_app _ _ 0
  rw [this, List.take_left]
theorem kn_len (l : List (Int × Bool)) : ∀ i, (knF i l).length ≤ l.length := by
  induction l with
  | nil => intro i; exact Nat.le_refl _
  | cons c l ih => intro i; have := ih (i + 1); simp only [knF, List.length_append, List.length_cons]; split <;> simp <;> omega
theorem kn_next (l : List (Int × Bool)) (k : Nat) (h : k < l.length) (hk : l[k].2 = true) : ∃ hj : (kn (l.take k)).length < (kn l).length, (kn l)[(kn (l.take k)).length] = ((k : Int) + 1, l[k].1) := by
  have h1 := kn_snoc l k h
  rw [if_pos hk] at h1
  have h2 := kn_pre l (k + 1)
  rw [h1] at h2
  have hl : (kn (l.take k)).length < (kn l).length := by
    have := congrArg List.length h2
    simp at this
    omega
  refine ⟨hl, ?_⟩
  have h3 := congrArg (fun t => t[(kn (l.take k)).length]?) h2
  simp only [List.length_append, List.length_singleton] at h3
  rw [List.getElem?_append_right (Nat.le_refl _), Nat.sub_self] at h3
  simp [hl] at h3
  exact h3.symm
/-- the first k places -/
def upA (n k : Nat) : List (Fin n) := (List.range k).filterMap fun i => if h : i < n then some ⟨i, h⟩ else none
theorem upA_succ {n k : Nat} (h : k < n) : upA n (k + 1) = upA n k ++ [⟨k, h⟩] := by
  unfold upA
  rw [List.range_succ, List.filterMap_append]
  simp [h]
theorem upA_length {n k : Nat} (h : k ≤ n) : (upA n k).length = k := by
  induction k with
  | zero => rfl
  | succ k ih => rw [upA_succ (by omega), List.length_append, ih (by omega)]; rfl

set_option maxRecDepth 100000 in
set_option maxHeartbeats 4000000 in
theorem kn1_in (n : Nat) (hn : 1 ≤ n) (lr Bs b off c : Nat) (K : Nat → Prop) (l : List (Int × Bool)) (hb : K b) (hz : l.length ≤ 1000000) (J Jx : List (Fin (kn l).length) → World → Prop)
    (W : World) (hK : ∀ k, K k → k < W.heap.size) (hJ : AbidesFrom W.heap.size J)
    (hY : ∀ pre x W, J pre W → pre.length < (kn l).length → YieldAt Fence.wide (n - 1) Try.prog lr #[.int .i64 (kn l)[x].1, .int .i64 (kn l)[x].2] W fun e W' =>
      (e = .returned (.bool true) ∧ J (pre ++ [x]) W' ∧ KB K W W') ∨ (e = .returned (.bool false) ∧ Jx (pre ++ [x]) W'))
    (hBs : W.cell? ⟨Bs, 0, none⟩ = some (.slice (some ⟨b, off, none⟩) l.length c)) (hc : ∀ j (h : j < l.length), W.cell? ⟨b, off + j * 2, none⟩ = some (.int .i64 l[j].1) ∧ W.cell? ⟨b, off + j * 2 + 1, none⟩ = some (.bool l[j].2)) (h0 : J [] W) :
    CallsIn Fence.wide n Try.prog 83 #[.func (.yield lr) #[] #[], .pointer (some ⟨Bs, 0, none⟩)] W fun e W' => (∃ v, e = .returned v) ∧
      ((∃ ys, ys = upA (kn l).length (kn l).length ∧ J ys W') ∨ (∃ pre, (∃ k, k ≤ (kn l).length ∧ pre = upA (kn l).length k) ∧ Jx pre W')) := by
  refine callsIn_of_wp Try.func83 rfl trivial ?_ rfl
  simp only [Try.ntmps83, List.size_toArray, List.length_cons, List.length_nil, Nat.reduceAdd, Nat.reduceSub, Array.replicate_succ, Array.replicate_zero, List.push_toArray, List.append_toArray, List.nil_append, List.cons_append]
  have HC := Lib.hid hc
  have HY := Lib.hid hY
  have HJ := Lib.hid hJ
  clear hc hY hJ
  gi_wp2_with fail
  gi_loopw [7] (fun i wr => ∃ k : Nat, k ≤ l.length ∧ i = .int .i64 k ∧ J (upA (kn l).length (kn (l.take k)).length) wr ∧ KB K W wr) (fun i _ => l.length - (intOf i).toNat)
  case atStart => exact ⟨0, Nat.zero_le _, rfl, h0, KB.refl _ _⟩
  case round =>
    obtain ⟨k, hk, rfl, hJs, hnx⟩ := hrel
    have HN := Lib.hid hnx
    have hzr := hnx.1
    by_cases hlt : k < l.length
    · have e0 := (hnx.2 ⟨b, off + k * 2, none⟩ hb).trans (HC.out k hlt).1
      have e1 := (hnx.2 ⟨b, off + k * 2 + 1, none⟩ hb).trans (HC.out k hlt).2
      have HSN := Lib.hid (kn_snoc l k hlt)
      have hd1 : decide ((k : Int) < (l.length : Int)) = true := decide_eq_true (by omega)
      have hd2 : decide (k < l.length) = true := decide_eq_true hlt
      have hJA : J (upA (kn l).length (kn (l.take k)).length) (wr.alloc (.cells #[.int .i64 l[k].1, .bool l[k].2] 33)) := HJ.out _ _ _ none hJs (World.grownBy_alloc wr _ none) (by simp)
      have hkA : KB K wr (wr.alloc (.cells #[.int .i64 l[k].1, .bool l[k].2] 33)) := KB.of ((Below.refl wr.heap.size wr).alloc (Nat.le_refl _) _) (fun q hq => by have := hK q hq; omega)
      have HKA := Lib.hid hkA
      clear hnx hkA
      cases hkk : l[k].2 with
      | false =>
        rw [hkk] at e1 hJA HKA
        have HS2 : Hid (kn (l.take (k + 1)) = kn (l.take k)) := by show _ = _; rw [HSN.out, hkk]; simp
        have HKK := Lib.hid hkk
        clear hkk
        gi_wp2
        refine ⟨fun _ h => (by cases h), ?_⟩
        gi_wp2
        go_roundw
        case rel => exact ⟨k + 1, by omega, by go_num, by rw [HS2.out]; exact hJA, KB_t HN.out HKA.out⟩
        case measure => simp [intOf]; omega
      | true =>
        rw [hkk] at e1 hJA HKA
        obtain ⟨hj, hjx⟩ := kn_next l k hlt hkk
        have HS2 : Hid (upA (kn l).length (kn (l.take (k + 1))).length = upA (kn l).length (kn (l.take k)).length ++ [⟨_, hj⟩]) := by
          show _ = _
          rw [HSN.out, if_pos hkk, List.length_append]
          exact upA_succ hj
        obtain ⟨fn, tmps, assign, body, hy, hR⟩ := HY.out _ ⟨_, hj⟩ _ hJA (by rw [upA_length (Nat.le_of_lt hj)]; exact hj)
        simp only [Fin.getElem_fin, hjx] at hy
        have HJX := Lib.hid hjx
        have HKK := Lib.hid hkk
        clear hkk hjx
        gi_wp2
        refine hR.mono ?_
        rintro e W3 (⟨rfl, hJ3, hk3⟩ | ⟨rfl, hJx3⟩)
        · gi_wp2
          go_roundw
          case rel => exact ⟨k + 1, by omega, by go_num, by rw [HS2.out]; exact hJ3, KB_t (KB_t HN.out HKA.out) hk3⟩
          case measure => simp [intOf]; omega
        · gi_wp2
          refine bodyPost_ret (results_none rfl _ _ _) rfl ?_
          exact ⟨⟨_, rfl⟩, .inr ⟨_, ⟨(kn (l.take (k + 1))).length, by rw [HSN.out, List.length_append]; rw [if_pos HKK.out]; exact hj, HS2.out.symm⟩, hJx3⟩⟩
    · obtain rfl : k = l.length := by omega
      have HT : Hid (J (upA (kn l).length (kn l).length) wr) := by show J _ _; rwa [List.take_length] at hJs
      have hd1 : decide (((l.length : Nat) : Int) < (l.length : Int)) = false := decide_eq_false (by omega)
      clear hnx hJs
      gi_wp2
      go_end0
      exact ⟨⟨_, rfl⟩, .inl ⟨_, rfl, HT.out⟩⟩
end Go.Proofs.Ytbgabipngdillaa
