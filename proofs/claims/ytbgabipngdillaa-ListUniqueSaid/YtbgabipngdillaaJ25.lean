/- Joined: Tb Tc Te Vc Vd. -/
import Derived.Laws.CopyOwn
import Derived.Deep.RegionLaw
import Derived.Test.YtbgabipngdillaaJ23
import Derived.Test.YtbgabipngdillaaJ24
import Derived.Test.YtbgabipngdillaaJ20
import Derived.Test.YtbgabipngdillaaJ11
import Derived.Test.YtbgabipngdillaaJ21
import Derived.Test.YtbgabipngdillaaJ22
import Derived.Test.YtbgabipngdillaaJ13
namespace Go.Proofs.Ytbgabipngdillaa
open Go.RowKit Go.Shelf

def putI : List (List Int) → List Int → Nat
  | [], _ => 0
  | q :: t, p => if cmpV q p < 0 then putI t p + 1 else 0
def putL : List (List Int) → List Int → List (List Int)
  | [], p => [p]
  | q :: t, p => if cmpV q p < 0 then q :: putL t p else if cmpV q p = 0 then q :: t else p :: q :: t
theorem putI_le (p : List Int) : ∀ ps : List (List Int), putI ps p ≤ ps.length
  | [] => Nat.le_refl _
  | q :: t => by
    have := putI_le p t
    unfold putI
    split <;> simp <;> omega
theorem putI_lt (p : List Int) : ∀ (ps : List (List Int)) (j : Nat) (h : j < ps.length), j < putI ps p → cmpV ps[j] p < 0
  | q :: t, j, h, hj => by
    unfold putI at hj
    by_cases hq : cmpV q p < 0
    · rw [if_pos hq] at hj
      cases j with
      | zero => exact hq
      | succ j => exact putI_lt p t j (by simp at h; omega) (by omega)
    · rw [if_neg hq] at hj; omega
theorem putI_ge (p : List Int) : ∀ (ps : List (List Int)) (h : putI ps p < ps.length), ¬ cmpV ps[putI ps p] p < 0
  | q :: t, h => by
    by_cases hq : cmpV q p < 0
    · have e : putI (q :: t) p = putI t p + 1 := by show (if cmpV q p < 0 then _ else _) = _; rw [if_pos hq]
      have h2 : putI t p < t.length := by rw [e] at h; simp at h; omega
      have := putI_ge p t h2
      simpa [e] using this
    · have e : putI (q :: t) p = 0 := by show (if cmpV q p < 0 then _ else _) = _; rw [if_neg hq]
      simpa [e] using hq
theorem putL_same (p : List Int) : ∀ (ps : List (List Int)) (h : putI ps p < ps.length), cmpV ps[putI ps p] p = 0 → putL ps p = ps
  | q :: t, h, e0 => by
    by_cases hq : cmpV q p < 0
    · have e : putI (q :: t) p = putI t p + 1 := by show (if cmpV q p < 0 then _ else _) = _; rw [if_pos hq]
      have h2 : putI t p < t.length := by rw [e] at h; simp at h; omega
      have := putL_same p t h2 (by simpa [e] using e0)
      show (if cmpV q p < 0 then _ else _) = _
      rw [if_pos hq, this]
    · have e : putI (q :: t) p = 0 := by show (if cmpV q p < 0 then _ else _) = _; rw [if_neg hq]
      have e1 : cmpV q p = 0 := by simpa [e] using e0
      show (if cmpV q p < 0 then _ else _) = _
      rw [if_neg hq, if_pos e1]
theorem putL_new (p : List Int) : ∀ (ps : List (List Int)), (∀ h : putI ps p < ps.length, cmpV ps[putI ps p] p ≠ 0) → putL ps p = ps.take (putI ps p) ++ p :: ps.drop (putI ps p)
  | [], _ => rfl
  | q :: t, h => by
    by_cases hq : cmpV q p < 0
    · have e : putI (q :: t) p = putI t p + 1 := by show (if cmpV q p < 0 then _ else _) = _; rw [if_pos hq]
      have := putL_new p t (fun h2 => by
        have := h (by rw [e]; simp; omega)
        simpa [e] using this)
      rw [e]
      show (if cmpV q p < 0 then _ else _) = _
      rw [if_pos hq, this]
      rfl
    · have e : putI (q :: t) p = 0 := by show (if cmpV q p < 0 then _ else _) = _; rw [if_neg hq]
      have e1 : cmpV q p ≠ 0 := by
        have := h (by rw [e]; simp)
        simpa [e] using this
      rw [e]
      show (if cmpV q p < 0 then _ else _) = _
      rw [if_neg hq, if_neg e1]
      rfl
theorem trim_cmp {p q : List Int} (hp : trim p = p) (hq : trim q = q) (h : cmpV q p = 0) : q = p := by
  have := eqz_trim ((cmpV_eq q p).1 h)
  rwa [hp, hq] at this
theorem putL_mem {p : List Int} (hp : trim p = p) (x : List Int) : ∀ ps : List (List Int), (∀ q ∈ ps, trim q = q) → (x ∈ putL ps p ↔ x ∈ ps ∨ x = p)
  | [], _ => by simp [putL]
  | q :: t, h => by
    have ih := putL_mem hp x t (fun r hr => h r (List.mem_cons_of_mem _ hr))
    unfold putL
    by_cases hq : cmpV q p < 0
    · rw [if_pos hq, List.mem_cons, ih, List.mem_cons, or_assoc]
    · rw [if_neg hq]
      by_cases h0 : cmpV q p = 0
      · rw [if_pos h0]
        have e := trim_cmp hp (h q (List.mem_cons_self ..)) h0
        constructor
        · exact fun h => .inl h
        · rintro (h | h)
          · exact h
          · rw [h, ← e]; exact List.mem_cons_self ..
      · rw [if_neg h0, List.mem_cons, or_comm]
theorem putL_trim {p : List Int} (hp : trim p = p) {ps : List (List Int)} (h : ∀ q ∈ ps, trim q = q) : ∀ q ∈ putL ps p, trim q = q := fun q hq => by
  rcases (putL_mem hp q ps h).1 hq with h1 | h1
  · exact h q h1
  · rw [h1, hp]
theorem putL_asc {p : List Int} (hp : trim p = p) : ∀ ps : List (List Int), (∀ q ∈ ps, trim q = q) → Asc ps → Asc (putL ps p)
  | [], _, _ => List.pairwise_singleton _ _
  | q :: t, h, ha => by
    have ht : ∀ r ∈ t, trim r = r := fun r hr => h r (List.mem_cons_of_mem _ hr)
    have ha2 := List.pairwise_cons.1 ha
    have ih := putL_asc hp t ht ha2.2
    unfold putL
    by_cases hq : cmpV q p < 0
    · rw [if_pos hq]
      refine List.pairwise_cons.2 ⟨fun r hr => ?_, ih⟩
      rcases (putL_mem hp r t ht).1 hr with h1 | h1
      · exact ha2.1 r h1
      · rw [h1]; exact (cmpV_lt q p).1 hq
    · rw [if_neg hq]
      by_cases h0 : cmpV q p = 0
      · rw [if_pos h0]; exact ha
      · rw [if_neg h0]
        have hpq : lexlt p q := (cmpV_lt p q).1 (by rw [cmpV_anti]; omega)
        refine List.pairwise_cons.2 ⟨fun r hr => ?_, ha⟩
        rcases List.mem_cons.1 hr with h1 | h1
        · rw [h1]; exact hpq
        · exact lex_trans hpq (ha2.1 r h1)

/-- the elements at a number's bits -/
def sel {α : Type} : Nat → List α → List α
  | _, [] => []
  | m, x :: t => (if m % 2 = 1 then [x] else []) ++ sel (m / 2) t
theorem sel_sub {α : Type} : ∀ (s : List α) (m : Nat), (sel m s).Sublist s
  | [], _ => List.Sublist.refl _
  | x :: t, m => by
    unfold sel
    split
    · exact (sel_sub t _).cons_cons x
    · exact (sel_sub t _).cons x
theorem sub_sel {α : Type} : ∀ (s c : List α), c.Sublist s → ∃ m, m < 2 ^ s.length ∧ c = sel m s
  | [], c, h => ⟨0, by simp, by simpa [sel] using h⟩
  | x :: t, c, h => by
    cases h with
    | cons _ h =>
      obtain ⟨m, hm, e⟩ := sub_sel t c h
      refine ⟨2 * m, by simp [Nat.pow_succ]; omega, ?_⟩
      unfold sel
      rw [if_neg (by omega), show 2 * m / 2 = m by omega, ← e]; rfl
    | cons_cons _ h =>
      obtain ⟨m, hm, e⟩ := sub_sel t _ h
      refine ⟨2 * m + 1, by simp [Nat.pow_succ]; omega, ?_⟩
      unfold sel
      rw [if_pos (by omega), show (2 * m + 1) / 2 = m by omega, ← e]; rfl
theorem sel_snoc {α : Type} : ∀ (s : List α) (m i : Nat) (h : i < s.length), sel m (s.take (i + 1)) = sel m (s.take i) ++ (if m / 2 ^ i % 2 = 1 then [s[i]] else [])
  | x :: t, m, 0, _ => by simp [sel]
  | x :: t, m, i + 1, h => by
    have ih := sel_snoc t (m / 2) i (by simp at h; omega)
    simp only [List.take_succ_cons, sel, List.getElem_cons_succ]
    rw [ih, List.append_assoc, Nat.div_div_eq_div_mul, show 2 * 2 ^ i = 2 ^ (i + 1) by rw [Nat.pow_succ]; omega]
/-- what all returns -/
def allR (P : Int) (s : List (Int × Int)) (k n : Nat) : List (List Int) := (List.range n).foldl (fun out m => if (sel m s).length = k then putL out (inP P (sel m s)) else out) []
theorem allR_succ (P : Int) (s : List (Int × Int)) (k n : Nat) : allR P s k (n + 1) = if (sel n s).length = k then putL (allR P s k n) (inP P (sel n s)) else allR P s k n := by
  unfold allR
  rw [List.range_succ, List.foldl_append]
  rfl
theorem allR_inv (P : Int) (s : List (Int × Int)) (k : Nat) : ∀ n, (∀ q ∈ allR P s k n, trim q = q) ∧ Asc (allR P s k n) ∧ ∀ x, x ∈ allR P s k n ↔ ∃ m, m < n ∧ (sel m s).length = k ∧ x = inP P (sel m s)
  | 0 => ⟨by simp [allR], List.Pairwise.nil, fun x => by simp [allR]⟩
  | n + 1 => by
    obtain ⟨h1, h2, h3⟩ := allR_inv P s k n
    rw [allR_succ]
    by_cases hk : (sel n s).length = k
    · rw [if_pos hk]
      refine ⟨putL_trim inP_trim h1, putL_asc inP_trim _ h1 h2, fun x => ?_⟩
      rw [putL_mem inP_trim x _ h1, h3 x]
      constructor
      · rintro (⟨m, hm, h4, h5⟩ | h4)
        · exact ⟨m, by omega, h4, h5⟩
        · exact ⟨n, by omega, hk, h4⟩
      · rintro ⟨m, hm, h4, h5⟩
        by_cases e : m = n
        · subst e; exact .inr h5
        · exact .inl ⟨m, by omega, h4, h5⟩
    · rw [if_neg hk]
      refine ⟨h1, h2, fun x => ?_⟩
      rw [h3 x]
      constructor
      · rintro ⟨m, hm, h4, h5⟩
        exact ⟨m, by omega, h4, h5⟩
      · rintro ⟨m, hm, h4, h5⟩
        by_cases e : m = n
        · subst e; exact absurd h4 hk
        · exact ⟨m, by omega, h4, h5⟩
/-- all: the interpolations of every k of the shares, each once, in order -/
theorem allR_mem {P : Int} {s : List (Int × Int)} {k : Nat} (x : List Int) : x ∈ allR P s k (2 ^ s.length) ↔ ∃ c, c.Sublist s ∧ c.length = k ∧ x = inP P c := by
  rw [(allR_inv P s k _).2.2 x]
  constructor
  · rintro ⟨m, _, h1, h2⟩; exact ⟨_, sel_sub s m, h1, h2⟩
  · rintro ⟨c, hc, h1, h2⟩
    obtain ⟨m, hm, e⟩ := sub_sel s c hc
    exact ⟨m, hm, by rw [← e]; exact h1, by rw [← e]; exact h2⟩
end Go.Proofs.Ytbgabipngdillaa

namespace Go.Proofs.Ytbgabipngdillaa
open Go.RowKit Go.Shelf

theorem step_copy_at {P : Program} {ops : Array Oper} {o : Oper} {a : Act} {w : World} {K : Act → World → Prop} {Q : Exit → Act → World → Prop} {E : Prop} (hgd : o.guard = none) (d s : Operand) (dT sT : TypeId)
    (ho : o.op = .call { callee := .builtin .copy, args := #[d, s], argTypes := #[dT, sT] }) (elem : TypeId) (hu : P.underlying dT = some (.slice elem)) (hsz : (P.info? elem).map (·.size) = some 1)
    (dp sp : Option Addr) (dLen dCap sLen sCap : Nat) (hd : a.eval d = .slice dp dLen dCap) (hs : a.eval s = .slice sp sLen sCap)
    (g off : Nat) (cur : List Value) (t : TypeId) (hg : w.heap[g]? = some (.cells cur.toArray t (0, 0))) (cs : List Value) (hn : cs.length = Nat.min sLen dLen)
    (hpos : 0 < cs.length → dp = some ⟨g, off, none⟩ ∧ ∃ ad, sp = some ad ∧ ∀ j v, cs[j]? = some v → w.cell? (ad.add j) = some v)
    (hfit : off + cs.length ≤ cur.length) (h1 : ∀ v ∈ cs, v.oneCell' = true)
    (h : ∀ w', RowKit.Hid (w'.heap[g]? = some (.cells (splice cur off cs).toArray t (0, 0))) → w.grownBy w' (some g) → K (a.put o.dst (goInt cs.length)) w') :
    if Region.wanted o (yielded ops a.tmps) = true then Oper.wp P o a w K Q else E := by
  have hw : Region.wanted o (yielded ops a.tmps) = true := by simp [Region.wanted, hgd]
  rw [if_pos hw]
  by_cases h0 : cs.length = 0
  · obtain rfl : cs = [] := List.eq_nil_of_length_eq_zero h0
    have hrun := run_copy_none (P := P) w dT sT o.type elem dp sp dLen dCap sLen sCap hu hsz (by simpa using hn.symm)
    unfold Oper.wp
    simp [execOp, ho, resolve, invoke, builtin, hd, hs, hrun, Result.andThen]
    exact h w (show _ = _ by simpa [splice] using hg) (grownBy_refl _ _)
  · obtain ⟨rfl, ad, rfl, hsrc⟩ := hpos (by omega)
    have hrun := run_copy_row (P := P) w dT sT o.type elem g off dLen dCap ad sLen sCap cur.toArray t cs hu hsz hg hn hsrc (by simpa using hfit) h1
    unfold Oper.wp
    simp [execOp, ho, resolve, invoke, builtin, hd, hs, hrun, Result.andThen]
    exact h _ (show _ = _ by simpa [splice] using setRow_heap w g _ _ t _ hg) ⟨rfl, rfl, rfl, by simp [World.setRow], fun k hk hne => setRow_other w g k _ (by intro e; exact hne (by rw [e]))⟩
theorem put_list {cur vs : List Value} {n k : Nat} {z u : Value} (h : cur.take (n + 1) = vs ++ [z]) (hn : n = vs.length) (hk : k ≤ n) (hl : n + 1 ≤ cur.length) : ((splice cur (k + 1) (vs.drop k)).set k u).take (n + 1) = vs.take k ++ u :: vs.drop k := by
  have e1 : cur.take (k + 1) = cur.take k ++ [cur[k]'(by omega)] := List.take_succ_eq_append_getElem (by omega)
  have e2 : cur.take k = vs.take k := by
    have := congrArg (List.take k) h
    rw [List.take_take, Nat.min_eq_left (by omega), List.take_append_of_le_length (by omega)] at this
    exact this
  have e3 : (vs.take k).length = k := by rw [List.length_take]; omega
  unfold splice
  rw [e1, e2, List.append_assoc, List.set_append_right _ _ (by omega), e3, Nat.sub_self]
  show (vs.take k ++ (u :: (vs.drop k ++ _))).take (n + 1) = _
  rw [← List.cons_append, ← List.append_assoc]
  apply List.take_left'
  simp
  omega
theorem put_own {G n cap9 g9 k : Nat} {cur vs : List Value} {z u : Value} {w10 : World} (h : w10.heap[g9]? = some (.cells (splice cur (k + 1) (vs.drop k)).toArray 22 (0, 0))) (hG : G ≤ g9) (htk : cur.take (n + 1) = vs ++ [z]) (hn : n = vs.length) (hk : k ≤ n) (hcs : cur.length = cap9) (hnc : n + 1 ≤ cap9) (hcm : cap9 ≤ maxLen) :
    (w10.setCell ⟨g9, k, none⟩ u).ownsRow G 22 1 (.slice (some ⟨g9, 0, none⟩) (n + 1) cap9) (n + 1) (vs.take k ++ u :: vs.drop k) := by
  have h1 := heap_setCell_same w10 g9 k _ _ u h
  refine ⟨by simp; omega, .inr ⟨g9, cap9, _, rfl, hG, h1, hnc, hcm, ?_, ?_⟩⟩
  · have := length_splice cur (k + 1) (vs.drop k) (by simp; omega)
    simp [this, hcs]
  · have := put_list (u := u) htk hn hk (by omega)
    simpa using this
theorem ins_lo {α : Type} {l : List α} {x : α} {k j : Nat} (hk : k ≤ l.length) (h : j < k) : (l.take k ++ x :: l.drop k)[j]? = l[j]? := by
  rw [List.getElem?_append_left (by simp; omega), List.getElem?_take, if_pos h]
theorem ins_at {α : Type} {l : List α} {x : α} {k : Nat} (hk : k ≤ l.length) : (l.take k ++ x :: l.drop k)[k]? = some x := by
  rw [List.getElem?_append_right (by simp; omega), List.length_take, Nat.min_eq_left hk, Nat.sub_self]; rfl
theorem ins_hi {α : Type} {l : List α} {x : α} {k m : Nat} (hk : k ≤ l.length) (h : k ≤ m) : (l.take k ++ x :: l.drop k)[m + 1]? = l[m]? := by
  rw [List.getElem?_append_right (by simp; omega), List.length_take, Nat.min_eq_left hk, show m + 1 - k = (m - k) + 1 by omega, List.getElem?_cons_succ, List.getElem?_drop, show k + (m - k) = m by omega]
theorem put_done {G g n c k g9 cap9 : Nat} {A : Option Addr} {ps : List (List Int)} {vs : List Value} {p : List Int} {vp : Value} {wr w9 w10 : World} {o : Obj}
    (h : RW G g wr (.slice A n c) vs ps) (hp : SX wr (Value.slice A n c).ownBlock (some g) vp p)
    (hg9 : (wr.alloc o).grownBy w9 (Value.slice A n c).ownBlock) (ha9 : (Value.slice A n c).ownBlock = some g9 ∨ g9 = (wr.alloc o).heap.size) (hg10 : w9.drew.grownBy w10 (some g9))
    (ho : (w10.setCell ⟨g9, k, none⟩ vp).ownsRow G 22 1 (.slice (some ⟨g9, 0, none⟩) (n + 1) cap9) (n + 1) (vs.take k ++ vp :: vs.drop k)) (hn : n = vs.length) (hk : k ≤ n) :
    RW G g (w10.setCell ⟨g9, k, none⟩ vp) (.slice (some ⟨g9, 0, none⟩) (n + 1) cap9) (vs.take k ++ vp :: vs.drop k) (ps.take k ++ p :: ps.drop k) ∧ wr.grownBy (w10.setCell ⟨g9, k, none⟩ vp) (Value.slice A n c).ownBlock := by
  have g1 : wr.grownBy w9 (Value.slice A n c).ownBlock := grownBy_trans (grownBy_of_below ((Below.refl _ wr).alloc (Nat.le_refl _) o) _) hg9
  have hsz : wr.heap.size ≤ w10.heap.size := Nat.le_trans g1.size hg10.size
  have hsz2 : (w10.setCell ⟨g9, k, none⟩ vp).heap.size = w10.heap.size := (grownBy_setCell' w10 g9 vp).size |> fun _ => by simp [World.setCell]
  have hal : wr.heap.size < (wr.alloc o).heap.size := by simp
  have hbk : ∀ b, b < wr.heap.size → some b ≠ (Value.slice A n c).ownBlock → (w10.setCell ⟨g9, k, none⟩ vp).heap[b]? = wr.heap[b]? ∧ b ≠ g9 := fun b hb hne => by
    have h9 : b ≠ g9 := by
      rintro rfl
      rcases ha9 with h8 | h8
      · exact hne h8.symm
      · omega
    refine ⟨?_, h9⟩
    rw [heap_setCell_other w10 _ b vp h9]
    have h2 := hg10.block b (Nat.lt_of_lt_of_le hb g1.size) (by intro e; injection e with e; exact h9 e)
    exact h2.trans (g1.block b hb hne)
  have hpl : ps.length = n := by rw [hn, h.len]
  refine ⟨⟨by simp [hpl, ← hn], by simpa [← hn, Nat.min_eq_left hk, show k + (n - k + 1) = n + 1 by omega] using ho, fun j h1 h2 => ?_⟩, ?_⟩
  · have hkeep : ∀ {v : Value} {l : List Int}, SX wr (Value.slice A n c).ownBlock (some g) v l → SX (w10.setCell ⟨g9, k, none⟩ vp) (Value.slice (some ⟨g9, 0, none⟩) (n + 1) cap9).ownBlock (some g) v l := fun hx =>
      hx.keep (by rw [hsz2]; exact hsz) fun b hb hx hy => ⟨(hbk b hb hx).1, fun e => (hbk b hb hx).2 (by simpa [Value.ownBlock] using e), hy⟩
    have e1 := List.getElem?_eq_getElem h1
    have e2 := List.getElem?_eq_getElem h2
    by_cases hjk : j < k
    · rw [ins_lo (by omega) hjk, List.getElem?_eq_getElem (by omega)] at e1 e2
      injection e1 with e1
      injection e2 with e2
      rw [← e1, ← e2]
      exact hkeep (h.row j _ _)
    · by_cases hje : j = k
      · subst hje
        rw [ins_at (by omega)] at e1 e2
        injection e1 with e1
        injection e2 with e2
        rw [← e1, ← e2]
        exact hkeep hp
      · obtain ⟨m, rfl⟩ : ∃ m, j = m + 1 := ⟨j - 1, by omega⟩
        have hm : m < n := by simp at h1; omega
        rw [ins_hi (by omega) (by omega), List.getElem?_eq_getElem (by omega)] at e1 e2
        injection e1 with e1
        injection e2 with e2
        rw [← e1, ← e2]
        exact hkeep (h.row m _ _)
  · exact ⟨hg10.os.trans g1.os, hg10.tape.trans g1.tape, hg10.output.trans g1.output, by rw [hsz2]; exact hsz, fun b hb hne => (hbk b hb hne).1⟩
theorem ilsz : (Try.prog.info? 22).map (·.size) = some 1 := by kernel_rfl
def PutR (w : World) (i0 : Nat) (iv : Value) (wr : World) : Prop := ∃ k : Nat, k ≤ i0 ∧ iv = .int .i64 k ∧ wr = w

set_option maxRecDepth 100000 in
set_option maxHeartbeats 4000000 in
theorem put10_any {G g : Nat} {ps : List (List Int)} {vs : List Value} {p : List Int} (pv vp : Value) (w : World) (h : RW G g w pv vs ps) (hgG : g < G) (hGw : G ≤ w.heap.size) (hp : SX w pv.ownBlock (some g) vp p)
    (hlen : ps.length ≤ 100000) (hpl : ∀ q ∈ ps, q.length ≤ 1000000) (hpp : p.length ≤ 1000000) :
    Calls Try.prog 66 #[pv, vp] w fun e w' => ∃ pv' vs', e = .returned pv' ∧ RW G g w' pv' vs' (putL ps p) ∧ w.grownBy w' pv.ownBlock := by
  have hsle := h.sle hgG
  have hln := h.len
  have HRW := Lib.hid h
  have HSX := Lib.hid hp
  have hsp : SI w vp p := hp.se.si
  obtain ⟨A, c, e1⟩ := own_slice h.hdr
  subst e1
  obtain ⟨Ap, cp, e2⟩ := hsp.form
  subst e2
  have HSP := Lib.hid hsp
  have HPP := Lib.hid hpp
  have HPL := Lib.hid hpl
  obtain ⟨n, en⟩ : ∃ n, n = vs.length := ⟨_, rfl⟩
  have HN : Hid (n = vs.length) := en
  have HNP : Hid (n = ps.length) := (show Hid _ from by show _ = _; rw [en, hln])
  have hn1 : n ≤ 100000 := by rw [en, hln]; exact hlen
  rw [← en] at HRW HSX hsle ⊢
  obtain ⟨i0, ei⟩ : ∃ i0, i0 = putI ps p := ⟨_, rfl⟩
  have HI : Hid (i0 = putI ps p) := ei
  have hi0 : i0 ≤ n := by rw [ei, en, hln]; exact putI_le p ps
  obtain ⟨plen, epl⟩ : ∃ m, m = p.length := ⟨_, rfl⟩
  have HPN : Hid (plen = p.length) := epl
  rw [← epl] at HSP HSX ⊢
  have HCL : Hid (∀ j (hj : j < ps.length), ∃ b off B d, A = some ⟨b, off, none⟩ ∧ w.cell? ⟨b, off + j, none⟩ = some (.slice B ps[j].length d) ∧ SI w (.slice B ps[j].length d) ps[j]) := (show Hid _ from fun j hj => by
    obtain ⟨A', c', e3, _, _, ha⟩ := hsle
    injection e3 with e4 e5 e6
    subst e4
    obtain ⟨b, off, e7, _, _, hcell⟩ := ha (by omega)
    obtain ⟨B, d, h1, h2⟩ := hcell j hj
    exact ⟨b, off, B, d, e7, h1, h2.si⟩)
  clear hp hsp hpl hsle h en ei epl hpp hln hlen
  go_enter Try.func66, Try.ntmps66
  go_wp2_with fail
  go_loopw [5] (fun iv wr => PutR w i0 iv wr) (fun i _ => i0 - (intOf i).toNat)
  case atStart => exact ⟨0, Nat.zero_le _, rfl, rfl⟩
  case round =>
    obtain ⟨k, hk, rfl, rfl⟩ := hrel
    by_cases hkn : k < n
    · have d1 : decide ((k : Int) < (n : Int)) = true := decide_eq_true (by omega)
      have d2 : decide (k < n) = true := decide_eq_true hkn
      have hkp : k < ps.length := by rw [← HNP.out]; exact hkn
      obtain ⟨b, off, B, d, rfl, hc, hs⟩ := HCL.out k hkp
      have hql : ps[k].length ≤ 1000000 := HPL.out _ (List.getElem_mem hkp)
      have HLT : Hid (decide (cmpV ps[k] p < 0) = decide (k < i0)) := (show Hid _ from by
        show _ = _
        apply decide_eq_decide.2
        rw [HI.out]
        constructor
        · intro h1
          apply Nat.lt_of_not_le
          intro h2
          have h3 := HI.out
          have : k = putI ps p := by omega
          subst this
          exact putI_ge p ps hkp h1
        · intro h1
          exact putI_lt p ps k hkp h1)
      have HEQ : Hid (k = i0 → cmpV ps[k] p = 0 → putL ps p = ps) := (show Hid _ from fun h1 h2 => by
        have h3 := HI.out
        have : k = putI ps p := by omega
        subst this
        exact putL_same p ps hkp h2)
      have HNE : Hid (k = i0 → cmpV ps[k] p ≠ 0 → putL ps p = ps.take i0 ++ p :: ps.drop i0) := (show Hid _ from fun h1 h2 => by
        have h3 := HI.out
        rw [h3]
        exact putL_new p ps (fun h4 => by
          have : k = putI ps p := by omega
          subst this
          exact h2))
      obtain ⟨q, eq⟩ : ∃ q, q = ps[k] := ⟨_, rfl⟩
      rw [← eq] at hc hs hql HLT HEQ HNE
      have HS := Lib.hid hs
      clear hs eq
      go_wp2_with fail
      (with_reducible refine (less10_any q p _ _ _ HS.out HSP.out hql HPP.out).mono ?_)
      rintro e w' ⟨rfl, hw⟩
      subst hw
      rw [HLT.out]
      by_cases hki : k < i0
      · have d3 : decide (k < i0) = true := decide_eq_true hki
        rw [d3]
        go_wp2_with fail
        go_roundw
        case rel => exact ⟨k + 1, by omega, by go_num, rfl⟩
        case measure => simp [intOf]; omega
      · have d3 : decide (k < i0) = false := decide_eq_false hki
        have hki0 : k = i0 := by omega
        rw [d3]
        clear d3 HLT hki
        subst hki0
        go_wp2_with fail
        (with_reducible refine (same10_any q p _ _ _ HS.out HSP.out hql HPP.out).mono ?_)
        rintro e w' ⟨rfl, hw⟩
        subst hw
        by_cases hz : cmpV q p = 0
        · have d4 : decide (cmpV q p = 0) = true := decide_eq_true hz
          have HR := Lib.hid (HEQ.out (by first | trivial | rfl) hz)
          rw [d4]
          clear hz d4
          go_wp2_with fail
          go_ret
          exact ⟨_, _, rfl, by rw [HR.out]; exact HRW.out, grownBy_refl _ _⟩
        · have d4 : decide (cmpV q p = 0) = false := decide_eq_false hz
          have HR := Lib.hid (HNE.out (by first | trivial | rfl) hz)
          rw [d4]
          clear hz d4
          go_upto_region 6 with fail
          obtain ⟨A, hA⟩ : ∃ A, A = some (⟨b, off, none⟩ : Addr) := ⟨_, rfl⟩
          rw [← hA] at HRW HSX ⊢
          have HAA := Lib.hid hA
          clear hA
          have HOW : Hid (wr.ownsRow G 22 1 (.slice A n c) n vs) := (show Hid _ from by have h9 := HRW.out.hdr; rw [← HN.out] at h9; exact h9)
          go_upto_region 7 with (at_builtin; refine wpList_append_one_at _ rfl _ _ 34 rfl G 22 (.slice none 0 0) 24 Try.underlying34 ilinfo _ n vs rfl (HOW.out.alloc _) (.slice none 0 0) rfl wr.heap.size rfl (cells_new wr [.slice none 0 0] 22 0 _ rfl) (by omega) (by omega) rfl (by simp; omega) ?_; intro g9 cap9 w9 hown9 hg9 hat9; have HO9 := Lib.hid hown9; have HG9 := Lib.hid hg9; have HA9 := Lib.hid hat9; clear hown9 hg9 hat9)
          obtain ⟨cur, hG9, hcur, hnc, hcm, hcs, htk⟩ : ∃ cur : List Value, G ≤ g9 ∧ w9.heap[g9]? = some (.cells cur.toArray 22 (0, 0)) ∧ n + 1 ≤ cap9 ∧ cap9 ≤ maxLen ∧ cur.length = cap9 ∧ cur.take (n + 1) = vs ++ [.slice none 0 0] := by
            rcases HO9.out.2 with ⟨_, h9⟩ | ⟨g', cap', cur, e9, hb9, hg9, hnc, hcm, hcs, ht⟩
            · omega
            · injection e9 with e1 e2 e3
              injection e1 with e1
              injection e1 with e1
              subst e1 e3
              exact ⟨cur.toList, hb9, by simpa using hg9, hnc, hcm, by simpa using hcs, by simpa using ht⟩
          have HCU := Lib.hid hcur
          have HTK := Lib.hid htk
          have HCS := Lib.hid hcs
          clear hcur htk hcs
          have k1 : IntKind.i64.wrap ((k : Int) + 1) = ((k + 1 : Nat) : Int) := by rw [show (k : Int) + 1 = ((k + 1 : Nat) : Int) by omega]; exact IntWalk.i64_in _ (by omega)
          have f1 : (0 : Int) ≤ (k : Int) := by omega
          have f2 : (0 : Int) ≤ (k : Int) + 1 := by omega
          have f3 : (k : Int) + 1 ≤ (n : Int) + 1 := by omega
          have f4 : (k : Int) ≤ (n : Int) + 1 := by omega
          have f5 : (n : Int) + 1 ≤ (cap9 : Int) := by omega
          have f6 : (k : Int) + 1 ≤ (cap9 : Int) := by omega
          have f7 : (k : Int) ≤ (cap9 : Int) := by omega
          have hvl : (vs.drop k).length = n - k := by rw [List.length_drop, ← HN.out]
          have HCELL : Hid (∀ j v, (vs.drop k)[j]? = some v → w9.drew.cell? (Addr.add ⟨g9, k, none⟩ j) = some v) := (show Hid _ from fun j v hj => by
            have h1 : w9.cell? ⟨g9, k + j, none⟩ = cur.toArray[k + j]? := cell_of_row _ g9 (k + j) cur.toArray _ (0, 0) HCU.out
            have h2 : cur[k + j]? = some v := by
              rw [List.getElem?_drop] at hj
              have h3 : k + j < vs.length := (List.getElem?_eq_some_iff.1 hj).1
              have h4 : (cur.take (n + 1))[k + j]? = some v := by rw [HTK.out, List.getElem?_append_left h3]; exact hj
              rw [List.getElem?_take] at h4
              have h5 := HN.out
              rw [if_pos (by omega)] at h4
              exact h4
            have h6 : (⟨g9, k, none⟩ : Addr).add j = ⟨g9, k + j, none⟩ := by cases j with | zero => rfl | succ j => rfl
            have h7 : w9.drew.cell? ⟨g9, k + j, none⟩ = w9.cell? ⟨g9, k + j, none⟩ := rfl
            rw [h6, h7, h1]
            simpa using h2)
          have HONE : Hid (∀ v ∈ vs.drop k, v.oneCell' = true) := (show Hid _ from fun v hv => by
            obtain ⟨j, hj, e⟩ := List.getElem_of_mem (List.mem_of_mem_drop hv)
            obtain ⟨A', c', e', _⟩ := HRW.out.row j hj (by rw [← HRW.out.len]; exact hj)
            rw [← e, e']
            rfl)
          go_region_law (refine step_copy_at rfl (.tmp 39) (.tmp 42) 34 34 rfl 22 Try.underlying34 ilsz (if cap9 = k + 1 then some ⟨g9, 0, none⟩ else some ⟨g9, k + 1, none⟩) (if cap9 = k then some ⟨g9, 0, none⟩ else some ⟨g9, k, none⟩) (n - k) (cap9 - (k + 1)) (n + 1 - k) (cap9 - k) (by simp [Act.eval, Act.put]) (by simp [Act.eval, Act.put]) g9 (k + 1) cur 22 (by exact HCU.out) (vs.drop k) (by rw [hvl]; exact (Nat.min_eq_right (by omega)).symm) (by intro h0; rw [hvl] at h0; exact ⟨if_neg (by omega), _, if_neg (by omega), HCELL.out⟩) (by rw [hvl, HCS.out]; omega) HONE.out ?_; intro w10 h10 hg10; have HX10 := Lib.hid h10.out; have HG10 := Lib.hid hg10; clear h10 hg10)
          obtain ⟨S, eS⟩ : ∃ S, S = splice cur (k + 1) (vs.drop k) := ⟨_, rfl⟩
          have hSl : S.length = cap9 := by rw [eS, length_splice _ _ _ (by rw [hvl, HCS.out]; omega), HCS.out]
          have HSP2 := Lib.hid eS
          rw [← eS] at HX10
          have HSL := Lib.hid hSl
          obtain ⟨u, eu⟩ : ∃ u, S[k]? = some u := ⟨S[k]'(by omega), List.getElem?_eq_getElem (by omega)⟩
          have hcx : w10.cell? ⟨g9, k, none⟩ = some u := by rw [cell_of_row _ g9 k S.toArray _ (0, 0) HX10.out]; simpa using eu
          have hfz : w10.frozen? ⟨g9, k, none⟩ = false := frozen_of_row w10 g9 k _ _ HX10.out
          clear hSl eS eu
          go_wp2_with fail
          all_goals
            have HD := put_done HRW.out HSX.out HG9.out HA9.out HG10.out (put_own (by have h9 := HX10.out; rw [HSP2.out] at h9; exact h9) hG9 HTK.out HN.out (by omega) HCS.out (by omega) (by omega)) HN.out (by omega)
            refine bodyPost_ret (v := .slice (some ⟨g9, 0, none⟩) (n + 1) cap9) (by simp [results, Try.results66, go_sem] <;> omega) rfl ?_
            have HD2 : wr.grownBy (w10.setCell ⟨g9, k, none⟩ (.slice Ap plen cp)) (Value.slice A n c).ownBlock := HD.2
            first
            | exact ⟨_, rfl, ⟨_, by rw [HR.out]; exact HD.1⟩, HD2⟩
            | exact ⟨_, rfl, ⟨_, by rw [HR.out]; exact HD.1⟩, by rw [HAA.out] at HD2; exact HD2⟩
            | exact ⟨_, _, rfl, by rw [HR.out]; exact HD.1, HD2⟩
            | exact ⟨_, _, rfl, by rw [HR.out]; exact HD.1, by rw [HAA.out] at HD2; exact HD2⟩
    · have d1 : decide ((k : Int) < (n : Int)) = false := decide_eq_false (by omega)
      have d2 : decide (k < n) = false := decide_eq_false hkn
      have hki0 : k = i0 := by omega
      have HR : Hid (putL ps p = ps.take i0 ++ p :: ps.drop i0) := (show Hid _ from by
        show _ = _
        rw [HI.out]
        exact putL_new p ps (fun h4 => by
          exfalso
          have h5 := HI.out
          have h6 := HNP.out
          omega))
      subst hki0
      go_upto_region 6 with fail
      have HOW : Hid (wr.ownsRow G 22 1 (.slice A n c) n vs) := (show Hid _ from by have h9 := HRW.out.hdr; rw [← HN.out] at h9; exact h9)
      go_upto_region 7 with (at_builtin; refine wpList_append_one_at _ rfl _ _ 34 rfl G 22 (.slice none 0 0) 24 Try.underlying34 ilinfo _ n vs rfl (HOW.out.alloc _) (.slice none 0 0) rfl wr.heap.size rfl (cells_new wr [.slice none 0 0] 22 0 _ rfl) (by omega) (by omega) rfl (by simp; omega) ?_; intro g9 cap9 w9 hown9 hg9 hat9; have HO9 := Lib.hid hown9; have HG9 := Lib.hid hg9; have HA9 := Lib.hid hat9; clear hown9 hg9 hat9)
      obtain ⟨cur, hG9, hcur, hnc, hcm, hcs, htk⟩ : ∃ cur : List Value, G ≤ g9 ∧ w9.heap[g9]? = some (.cells cur.toArray 22 (0, 0)) ∧ n + 1 ≤ cap9 ∧ cap9 ≤ maxLen ∧ cur.length = cap9 ∧ cur.take (n + 1) = vs ++ [.slice none 0 0] := by
        rcases HO9.out.2 with ⟨_, h9⟩ | ⟨g', cap', cur, e9, hb9, hg9, hnc, hcm, hcs, ht⟩
        · omega
        · injection e9 with e1 e2 e3
          injection e1 with e1
          injection e1 with e1
          subst e1 e3
          exact ⟨cur.toList, hb9, by simpa using hg9, hnc, hcm, by simpa using hcs, by simpa using ht⟩
      have HCU := Lib.hid hcur
      have HTK := Lib.hid htk
      have HCS := Lib.hid hcs
      clear hcur htk hcs
      have k1 : IntKind.i64.wrap ((k : Int) + 1) = ((k + 1 : Nat) : Int) := by rw [show (k : Int) + 1 = ((k + 1 : Nat) : Int) by omega]; exact IntWalk.i64_in _ (by omega)
      have f1 : (0 : Int) ≤ (k : Int) := by omega
      have f2 : (0 : Int) ≤ (k : Int) + 1 := by omega
      have f3 : (k : Int) + 1 ≤ (n : Int) + 1 := by omega
      have f4 : (k : Int) ≤ (n : Int) + 1 := by omega
      have f5 : (n : Int) + 1 ≤ (cap9 : Int) := by omega
      have f6 : (k : Int) + 1 ≤ (cap9 : Int) := by omega
      have f7 : (k : Int) ≤ (cap9 : Int) := by omega
      have hvl : (vs.drop k).length = n - k := by rw [List.length_drop, ← HN.out]
      have HCELL : Hid (∀ j v, (vs.drop k)[j]? = some v → w9.drew.cell? (Addr.add ⟨g9, k, none⟩ j) = some v) := (show Hid _ from fun j v hj => by
        have h1 : w9.cell? ⟨g9, k + j, none⟩ = cur.toArray[k + j]? := cell_of_row _ g9 (k + j) cur.toArray _ (0, 0) HCU.out
        have h2 : cur[k + j]? = some v := by
          rw [List.getElem?_drop] at hj
          have h3 : k + j < vs.length := (List.getElem?_eq_some_iff.1 hj).1
          have h4 : (cur.take (n + 1))[k + j]? = some v := by rw [HTK.out, List.getElem?_append_left h3]; exact hj
          rw [List.getElem?_take] at h4
          have h5 := HN.out
          rw [if_pos (by omega)] at h4
          exact h4
        have h6 : (⟨g9, k, none⟩ : Addr).add j = ⟨g9, k + j, none⟩ := by cases j with | zero => rfl | succ j => rfl
        have h7 : w9.drew.cell? ⟨g9, k + j, none⟩ = w9.cell? ⟨g9, k + j, none⟩ := rfl
        rw [h6, h7, h1]
        simpa using h2)
      have HONE : Hid (∀ v ∈ vs.drop k, v.oneCell' = true) := (show Hid _ from fun v hv => by
        obtain ⟨j, hj, e⟩ := List.getElem_of_mem (List.mem_of_mem_drop hv)
        obtain ⟨A', c', e', _⟩ := HRW.out.row j hj (by rw [← HRW.out.len]; exact hj)
        rw [← e, e']
        rfl)
      go_region_law (refine step_copy_at rfl (.tmp 39) (.tmp 42) 34 34 rfl 22 Try.underlying34 ilsz (if cap9 = k + 1 then some ⟨g9, 0, none⟩ else some ⟨g9, k + 1, none⟩) (if cap9 = k then some ⟨g9, 0, none⟩ else some ⟨g9, k, none⟩) (n - k) (cap9 - (k + 1)) (n + 1 - k) (cap9 - k) (by simp [Act.eval, Act.put]) (by simp [Act.eval, Act.put]) g9 (k + 1) cur 22 (by exact HCU.out) (vs.drop k) (by rw [hvl]; exact (Nat.min_eq_right (by omega)).symm) (by intro h0; rw [hvl] at h0; exact ⟨if_neg (by omega), _, if_neg (by omega), HCELL.out⟩) (by rw [hvl, HCS.out]; omega) HONE.out ?_; intro w10 h10 hg10; have HX10 := Lib.hid h10.out; have HG10 := Lib.hid hg10; clear h10 hg10)
      obtain ⟨S, eS⟩ : ∃ S, S = splice cur (k + 1) (vs.drop k) := ⟨_, rfl⟩
      have hSl : S.length = cap9 := by rw [eS, length_splice _ _ _ (by rw [hvl, HCS.out]; omega), HCS.out]
      have HSP2 := Lib.hid eS
      rw [← eS] at HX10
      have HSL := Lib.hid hSl
      obtain ⟨u, eu⟩ : ∃ u, S[k]? = some u := ⟨S[k]'(by omega), List.getElem?_eq_getElem (by omega)⟩
      have hcx : w10.cell? ⟨g9, k, none⟩ = some u := by rw [cell_of_row _ g9 k S.toArray _ (0, 0) HX10.out]; simpa using eu
      have hfz : w10.frozen? ⟨g9, k, none⟩ = false := frozen_of_row w10 g9 k _ _ HX10.out
      clear hSl eS eu
      go_wp2_with fail
      all_goals
        have HD := put_done HRW.out HSX.out HG9.out HA9.out HG10.out (put_own (by have h9 := HX10.out; rw [HSP2.out] at h9; exact h9) hG9 HTK.out HN.out (by omega) HCS.out (by omega) (by omega)) HN.out (by omega)
        refine bodyPost_ret (v := .slice (some ⟨g9, 0, none⟩) (n + 1) cap9) (by simp [results, Try.results66, go_sem] <;> omega) rfl ?_
        have HD2 : wr.grownBy (w10.setCell ⟨g9, k, none⟩ (.slice Ap plen cp)) (Value.slice A n c).ownBlock := HD.2
        first
        | exact ⟨_, rfl, ⟨_, by rw [HR.out]; exact HD.1⟩, HD2⟩
        | exact ⟨_, rfl, ⟨_, by rw [HR.out]; exact HD.1⟩, by rw [HAA.out] at HD2; exact HD2⟩
        | exact ⟨_, _, rfl, by rw [HR.out]; exact HD.1, HD2⟩
        | exact ⟨_, _, rfl, by rw [HR.out]; exact HD.1, by rw [HAA.out] at HD2; exact HD2⟩
end Go.Proofs.Ytbgabipngdillaa

namespace Go.Proofs.Ytbgabipngdillaa
open Go.RowKit Go.Shelf

theorem sel_len {α : Type} (m : Nat) (s : List α) : (sel m s).length ≤ s.length := (sel_sub s m).length_le
theorem allR_len (P : Int) (s : List (Int × Int)) (k : Nat) : ∀ n, (allR P s k n).length ≤ n
  | 0 => by simp [allR]
  | n + 1 => by
    have ih := allR_len P s k n
    have hp : ∀ (ps : List (List Int)) p, (putL ps p).length ≤ ps.length + 1 := by
      intro ps p
      induction ps with
      | nil => simp [putL]
      | cons q t ih =>
        unfold putL
        split
        · simp; omega
        · split <;> simp
    rw [allR_succ]
    split
    · have := hp (allR P s k n) (inP P (sel n s)); omega
    · omega
theorem allR_elen {P : Int} {s : List (Int × Int)} {k n : Nat} : ∀ q ∈ allR P s k n, q.length ≤ s.length := fun q hq => by
  obtain ⟨m, _, _, rfl⟩ := ((allR_inv P s k n).2.2 q).1 hq
  exact Nat.le_trans inP_len (sel_len m s)
/-- a fresh row of ints, beside older blocks -/
theorem SX.fresh {w' : World} {B : Nat} {X Y : Option Nat} {v : Value} {l : List Int} (h : w'.ownsRow B 3 1 v l.length (l.map (Value.int .i64))) (hr : ∀ x ∈ l, i64r x)
    (hX : ∀ b, X = some b → b < B) (hY : ∀ b, Y = some b → b < B) : SX w' X Y v l := by
  rcases h.2 with ⟨rfl, hn⟩ | ⟨g, cap, cur, rfl, hb, hg, hnc, hcm, hcs, htake⟩
  · have : l = [] := List.eq_nil_of_length_eq_zero hn
    subst this
    exact ⟨none, 0, rfl, Nat.le_refl _, by omega, fun x hx => by simp at hx, fun h => by simp at h⟩
  · refine ⟨_, cap, rfl, hnc, by simpa [maxLen] using hcm, hr, fun h0 => ⟨g, 0, rfl, heap_of_cells hg, fun e => ?_, fun e => ?_, fun j hj => ?_⟩⟩
    · have := hX g e.symm; omega
    · have := hY g e.symm; omega
    · have := h.cellAt j (by omega)
      simpa [hj] using this
theorem bit_and1 (a : Nat) (ha : a < 4611686018427387904) : bits .and .i64 (a : Int) 1 = ((a % 2 : Nat) : Int) := by
  have h1 : (BitVec.ofInt 64 (a : Int)).toNat = a := by
    rw [BitVec.ofInt_natCast, BitVec.toNat_ofNat]; exact Nat.mod_eq_of_lt (by omega)
  have h2 : (BitVec.ofInt 64 (1 : Int)).toNat = 1 := rfl
  show IntKind.i64.wrap ((BitVec.ofInt 64 (a : Int) &&& BitVec.ofInt 64 (1 : Int)).toNat : Int) = _
  rw [BitVec.toNat_and, h1, h2, Nat.and_one_is_mod]
  exact IntWalk.i64_in _ (by omega)
theorem bit_at (m i : Nat) (hm : m < 4611686018427387904) : bits .and .i64 ((m : Int) / 2 ^ i) 1 = ((m / 2 ^ i % 2 : Nat) : Int) := by
  have e : (m : Int) / 2 ^ i = ((m / 2 ^ i : Nat) : Int) := by simp
  rw [e]
  exact bit_and1 _ (Nat.lt_of_le_of_lt (Nat.div_le_self _ _) hm)
def AlO (P : Int) (s : List (Int × Int)) (k n G g : Nat) (w1 : World) (pv mv : Value) (wr : World) : Prop :=
  ∃ m : Nat, m ≤ 2 ^ n ∧ mv = .int .i64 m ∧ (∃ vs, RW G g wr pv vs (allR P s k m)) ∧ Below G w1 wr
def AlI (s : List (Int × Int)) (m n : Nat) (wq : World) (qv iv : Value) (wr : World) : Prop :=
  ∃ i : Nat, i ≤ n ∧ iv = .int .i64 i ∧ wr.ownsRow wq.heap.size 64 2 qv (sel m (s.take i)).length (((sel m (s.take i)).flatMap pcs).map (Value.int .i64)) ∧ Below wq.heap.size wq wr
set_option maxRecDepth 100000 in
set_option maxHeartbeats 4000000 in
theorem all10_any (P : Int) (s : List (Int × Int)) (k g : Nat) (v : Value) (w : World) (hP : i64r P) (h : SG pcs 2 w.heap.size w v s) (hs : s.length ≤ 10) (hk : k ≤ 1000) (hg : g < w.heap.size) :
    Calls Try.prog 43 #[.agg #[.int .i64 P], v, .int .i64 k] w fun e w' => ∃ G v' vs, e = .returned v' ∧ w.heap.size ≤ G ∧ RW G g w' v' vs (allR P s k (2 ^ s.length)) ∧ Below w.heap.size w w' := by
  obtain ⟨i0, hi0, hi1, hi2, hi3⟩ := info_parts shinfo'
  obtain ⟨n, en⟩ : ∃ n, n = s.length := ⟨_, rfl⟩
  have HN := Lib.hid en
  obtain ⟨A, c, rfl, hc, hm, hr, ha⟩ := pcs_cells h
  have HS := Lib.hid h
  have HR := Lib.hid hr
  rw [← en] at HS hs ⊢
  clear h hr hc hm ha
  have hpw : 2 ^ n ≤ 1024 := by
    have : 2 ^ n ≤ 2 ^ 10 := Nat.pow_le_pow_right (by omega) hs
    omega
  obtain ⟨N, eN⟩ : ∃ N, N = 2 ^ n := ⟨_, rfl⟩
  have HNN := Lib.hid eN
  rw [← eN] at hpw ⊢
  have hsh : wrap64 (2 ^ n) = (N : Int) := by
    have e2 : ((2 : Int) ^ n) = ((2 ^ n : Nat) : Int) := by simp
    rw [e2, ← eN]
    unfold wrap64
    omega
  clear en eN
  go_enter Try.func43, Try.ntmps43
  obtain ⟨F, eF⟩ : ∃ F, F = w.heap.size := ⟨_, rfl⟩
  obtain ⟨w1, ew1⟩ : ∃ w1 : World, w1 = w.alloc (.cells #[.int .i64 P] 26) := ⟨_, rfl⟩
  have HWw1 : Hid (w.alloc (.cells #[.int .i64 P] 26) = w1) := ew1.symm
  have HAw1 : Hid (Below w.heap.size w w1) := (show Hid _ from by rw [ew1]; exact (Below.refl _ w).alloc (Nat.le_refl _) _)
  have HF0w1 : Hid (w1.heap[F]? = some (.cells #[.int .i64 P] 26 (0, 0))) := (show Hid _ from by show _ = _; rw [ew1, eF]; exact heap_alloc_new w _)
  have HXC : Hid (∀ W, Below w1.heap.size w1 W → W.cell? ⟨F, 0, none⟩ = some (.int .i64 P)) := (show Hid _ from fun W hg => by
    have hF0 := (hg.block F (heap_of_cells HF0w1.out)).trans HF0w1.out
    exact (cell_of_row W F 0 _ _ _ hF0))
  have hz1 : w.heap.size < w1.heap.size := by rw [ew1]; simp
  go_upto_region 1 with fail
  rw [HWw1.out, ← eF]
  clear ew1 eF
  have hgG : g < w1.heap.size := by omega
  go_wp2_with fail
  go_loopw [7, 8] (fun pv mv wr => AlO P s k n w1.heap.size g w1 pv mv wr) (fun _ mv _ => N - (intOf mv).toNat)
  case atStart => exact ⟨0, Nat.zero_le _, rfl, ⟨_, RW.nil _ _ _⟩, Below.refl _ _⟩
  case round =>
    obtain ⟨m, hm, rfl, ⟨vs, hrw⟩, hbel⟩ := hrel
    rw [← HNN.out] at hm
    have HRW := Lib.hid hrw
    have HBR := Lib.hid hbel
    have hzr := hbel.size
    clear hrw hbel
    have HBRw : Hid (Below w.heap.size w wr) := (show Hid _ from HAw1.out.trans (HBR.out.mono HAw1.out.size))
    by_cases hlm : m < N
    · have dm : decide ((m : Int) < (N : Int)) = true := decide_eq_true (by omega)
      have dmn : decide (m < N) = true := decide_eq_true hlm
      obtain ⟨wq, rfl⟩ : ∃ wq : World, wq = wr := ⟨_, rfl⟩
      have HSq : Hid (SG pcs 2 w.heap.size wq (.slice A n c) s) := (show Hid _ from HS.out.below HBRw.out)
      go_wp2_with fail
      rw [hsh]
      go_loopw [9, 24] (fun qv iv wr => AlI s m n wq qv iv wr) (fun _ iv _ => n - (intOf iv).toNat)
      case atStart => exact ⟨0, Nat.zero_le _, rfl, by simpa [sel] using World.ownsRow_nil wq wq.heap.size 64 2, Below.refl _ _⟩
      case round =>
        obtain ⟨i, hi, rfl, hown, hb⟩ := hrel
        have HO := Lib.hid hown
        have HB := Lib.hid hb
        have hzq := hb.size
        clear hown hb
        by_cases hli : i < n
        · have di : decide ((i : Int) < (n : Int)) = true := decide_eq_true (by omega)
          have din : decide (i < n) = true := decide_eq_true hli
          have his : i < s.length := by rw [← HN.out]; exact hli
          obtain ⟨A', c', eA', _, _, _, ha'⟩ := pcs_cells ((HSq.out.below (HB.out.mono HBRw.out.size)).more (Nat.le_trans HBRw.out.size HB.out.size))
          rw [← HN.out] at eA'
          injection eA' with eA1 eA2 eA3
          obtain ⟨b, off, eA, hbl, hcell⟩ := ha' (by omega)
          obtain ⟨c0, c1⟩ := hcell i his
          rw [← eA1] at eA
          subst eA
          obtain ⟨xv, exv⟩ : ∃ xv, xv = s[i].1 := ⟨_, rfl⟩
          obtain ⟨yv, eyv⟩ : ∃ yv, yv = s[i].2 := ⟨_, rfl⟩
          rw [← exv] at c0
          rw [← eyv] at c1
          have HSN : Hid (sel m (s.take (i + 1)) = sel m (s.take i) ++ (if m / 2 ^ i % 2 = 1 then [(xv, yv)] else [])) := (show Hid _ from by show _ = _; rw [sel_snoc s m i his, exv, eyv])
          have hDl : (sel m (s.take i)).length ≤ i := by
            have := sel_len m (s.take i)
            rw [List.length_take] at this
            omega
          obtain ⟨D, hD⟩ : ∃ D, sel m (s.take i) = D := ⟨_, rfl⟩
          rw [hD] at HO HSN hDl
          clear hcell exv eyv hD ha' eA1 eA2 eA3 hbl
          obtain ⟨X, eX⟩ : ∃ X, X = wr.heap.size := ⟨_, rfl⟩
          obtain ⟨wx, ewx⟩ : ∃ wx : World, wx = wr.alloc (.cells #[.int .i64 xv, .int .i64 yv] 64) := ⟨_, rfl⟩
          have HWwx : Hid (wr.alloc (.cells #[.int .i64 xv, .int .i64 yv] 64) = wx) := ewx.symm
          have HAwx : Hid (Below wr.heap.size wr wx) := (show Hid _ from by rw [ewx]; exact (Below.refl _ wr).alloc (Nat.le_refl _) _)
          have HX0wx : Hid (wx.heap[X]? = some (.cells #[.int .i64 xv, .int .i64 yv] 64 (0, 0))) := (show Hid _ from by show _ = _; rw [ewx, eX]; exact heap_alloc_new wr _)
          have HXX : Hid (∀ W, Below wx.heap.size wx W → W.cell? ⟨X, 0, none⟩ = some (.int .i64 xv) ∧ W.cell? ⟨X, 1, none⟩ = some (.int .i64 yv)) := (show Hid _ from fun W hg => by
            have hX0 := (hg.block X (heap_of_cells HX0wx.out)).trans HX0wx.out
            exact ⟨cell_of_row W X 0 _ _ _ hX0, cell_of_row W X 1 _ _ _ hX0⟩)
          have HBX : Hid (Below wq.heap.size wq wx) := (show Hid _ from HB.out.trans (HAwx.out.mono hzq))
          have HOX : Hid (wx.ownsRow wq.heap.size 64 2 u9 D.length ((D.flatMap pcs).map (Value.int .i64))) := (show Hid _ from own_blw HO.out HAwx.out)
          have hzx : wq.heap.size ≤ wx.heap.size := HBX.out.size
          go_upto_region 9 with fail
          rw [HWwx.out, ← eX]
          clear ewx eX
          obtain ⟨y0, y1⟩ := HXX.out wx (Below.refl _ _)
          clear c0 c1
          have hbit := bit_at m i (by omega)
          by_cases hb1 : m / 2 ^ i % 2 = 1
          · rw [hb1] at hbit
            have HSN2 : Hid (sel m (s.take (i + 1)) = D ++ [(xv, yv)]) := (show Hid _ from by show _ = _; have h := HSN.out; rw [if_pos hb1] at h; exact h)
            clear hb1
            go_wp2_with (at_builtin; refine wpList_append_own _ rfl _ _ 62 rfl wq.heap.size 64 i0 _ 2 16 Try.underlying62 hi0 hi1 hi2 hi3 rfl (by omega) _ _ _ rfl (HOX.out.alloc _) ⟨wx.heap.size, 0, none⟩ 1 1 (List.map (Value.int .i64) (pcs (xv, yv))) rfl rfl (cells_new wx _ _) (by intro u hu; simp [pcs] at hu; rcases hu with rfl | rfl <;> rfl) (by unfold maxLen; omega) (by omega) (by simp; omega) ?_; intro v3 w3 hown3 hg3 _; have HO3 := Lib.hid hown3; have HG3 := Lib.hid hg3; clear hown3 hg3)
            go_roundw
            case rel =>
              refine ⟨i + 1, by omega, by go_num, ?_, ?_⟩
              · rw [HSN2.out]
                simpa using HO3.out
              · exact (HBX.out.alloc hzx _).grown HG3.out (by simp; omega) (fun k hk => (HOX.out.lt k hk).1)
            case measure => simp [intOf]; omega
          · have hb0 : m / 2 ^ i % 2 = 0 := by omega
            rw [hb0] at hbit
            have HSN2 : Hid (sel m (s.take (i + 1)) = D) := (show Hid _ from by show _ = _; have h := HSN.out; rw [if_neg hb1, List.append_nil] at h; exact h)
            clear hb1 hb0
            go_wp2_with fail
            go_roundw
            case rel => exact ⟨i + 1, by omega, by go_num, by rw [HSN2.out]; exact HOX.out, HBX.out⟩
            case measure => simp [intOf]; omega
        · have di : decide ((i : Int) < (n : Int)) = false := decide_eq_false (by omega)
          have din : decide (i < n) = false := decide_eq_false hli
          have hes : s.take i = s := by rw [show i = s.length by rw [← HN.out]; omega, List.take_length]
          rw [hes] at HO
          clear hes
          have HBRwr : Hid (Below w1.heap.size w1 wr) := (show Hid _ from HBR.out.trans (HB.out.mono hzr))
          have HRWr : Hid (RW w1.heap.size g wr u7 vs (allR P s k m)) := (show Hid _ from HRW.out.below hgG HB.out)
          obtain ⟨L, eL⟩ : ∃ L, L = (sel m s).length := ⟨_, rfl⟩
          have HLL := Lib.hid eL
          rw [← eL] at HO
          obtain ⟨A9, c9, ev9⟩ := own_slice HO.out
          subst ev9
          have x0 := HXC.out wr HBRwr.out
          clear eL
          by_cases hlk : L = k
          · have dlk : ((L : Int) == (k : Int)) = true := by rw [beq_iff_eq]; omega
            have dlkn : (L == k) = true := by rw [beq_iff_eq]; exact hlk
            have HSEL : Hid (SG pcs 2 wr.heap.size wr (.slice A9 L c9) (sel m s)) := (show Hid _ from SG.of_own (by rw [← HLL.out]; exact HO.out) (fun t ht y hy => by
              have h1 := HR.out t ((sel_sub s m).subset ht)
              simp [pcs] at hy
              rcases hy with rfl | rfl
              · exact h1.1
              · exact h1.2) (fun _ _ => rfl))
            have HST : Hid (allR P s k (m + 1) = putL (allR P s k m) (inP P (sel m s))) := (show Hid _ from by show _ = _; rw [allR_succ, if_pos (by rw [← HLL.out]; exact hlk)])
            subst hlk
            go_wp2_with fail
            (with_reducible refine (rinterp_any P (sel m s) _ wr hP HSEL.out (by rw [← HLL.out]; omega)).mono ?_)
            rintro e w3 ⟨v3, rfl, hown3, hb3⟩
            have HB3 := Lib.hid hb3
            have HSX : Hid (SX w3 (Value.ownBlock u7) (some g) v3 (inP P (sel m s))) := (show Hid _ from SX.fresh hown3 inP_r (fun b hb => (HRWr.out.hdr.lt b hb).2) (fun b hb => by injection hb with hb; subst hb; exact Nat.lt_of_lt_of_le hgG HBRwr.out.size))
            have HRW3 : Hid (RW w1.heap.size g w3 u7 vs (allR P s L m)) := (show Hid _ from HRWr.out.below hgG hb3)
            have HBR3 : Hid (Below w1.heap.size w1 w3) := (show Hid _ from HBRwr.out.trans (HB3.out.mono HBRwr.out.size))
            clear hown3 hb3
            go_wp2_with fail
            (with_reducible refine (put10_any u7 v3 w3 HRW3.out hgG HBR3.out.size HSX.out (by have := allR_len P s L m; omega) (fun q hq => by have := allR_elen q hq; have := HN.out; omega) (by have h1 := @inP_len P (sel m s); have h2 := HLL.out; omega)).mono ?_)
            rintro e w5 ⟨pv5, vs5, rfl, hrw5, hg5⟩
            have HRW5 := Lib.hid hrw5
            have HB5 : Hid (Below w1.heap.size w1 w5) := (show Hid _ from HBR3.out.grown hg5 HBR3.out.size (fun b hb => (HRW3.out.hdr.lt b hb).1))
            clear hrw5 hg5
            go_wp2_with fail
            go_roundw
            case rel => exact ⟨m + 1, by rw [← HNN.out]; omega, by go_num, ⟨_, by rw [HST.out]; exact HRW5.out⟩, HB5.out⟩
            case measure => simp [intOf]; omega
          · have dlk : ((L : Int) == (k : Int)) = false := by rw [beq_eq_false_iff_ne]; omega
            have dlkn : (L == k) = false := by rw [beq_eq_false_iff_ne]; exact hlk
            have HST : Hid (allR P s k (m + 1) = allR P s k m) := (show Hid _ from by show _ = _; rw [allR_succ, if_neg (by rw [← HLL.out]; exact hlk)])
            clear hlk
            go_wp2_with fail
            go_roundw
            case rel => exact ⟨m + 1, by rw [← HNN.out]; omega, by go_num, ⟨_, by rw [HST.out]; exact HRWr.out⟩, HBRwr.out⟩
            case measure => simp [intOf]; omega
    · have dm : decide ((m : Int) < (N : Int)) = false := decide_eq_false (by omega)
      have dmn : decide (m < N) = false := decide_eq_false hlm
      have hmN : m = N := by omega
      subst hmN
      go_wp2_with fail
      go_ret
      exact ⟨_, _, _, rfl, by omega, HRW.out, HBRw.out⟩
end Go.Proofs.Ytbgabipngdillaa

namespace Go.Proofs.Ytbgabipngdillaa
open Go.RowKit

/-- the division under way: places of the quotient from i on are laid; the rest has nothing from i + |b| - 1 on -/
structure RV (P : Int) (a b Q T : List Int) (n i K : Nat) : Prop where
  div : ∀ x, P ∣ ez a x - (ez Q x * ez b x + ez T x)
  elQ : els P Q = true
  elT : els P T = true
  lenT : T.length = n
  lenQ : Q.length = K
  zero : ∀ j, j < i → gd Q j = 0
  low : ∀ j, i + b.length ≤ j + 1 → gd T j = 0
theorem RV.step {P : Int} {a b Q T : List Int} {n i K : Nat} (hp : prB P = true) (h : RV P a b Q T n (i + 1) K) (hb : b ≠ []) (hbe : els P b = true) (hbt : gd b (b.length - 1) ≠ 0) (hi : i < K) (hn : i + b.length ≤ n) (q : Int) (hq : q = gd T (i + b.length - 1) * inv P (gd b (b.length - 1)) % P) :
    RV P a b (Q.set i q) (addT P T i (P - q) b) n i K := by
  have hP := (prB_bd hp).1
  have hb0 : b.length ≠ 0 := fun e => hb (List.eq_nil_of_length_eq_zero e)
  have hTl := h.lenT
  have hQl := h.lenQ
  have hqel : el P q = true := by rw [hq]; exact el_mod hP _
  refine ⟨fun x => ?_, ?_, addT_els hP h.elT _ _ _, by rw [addT_len]; exact hTl, by rw [List.length_set]; exact hQl, fun j hj => ?_, fun j hj => ?_⟩
  · have h1 := h.div x
    have h2 := addT_ezF (P := P) (y := P - q) (T := T) (b := b) (o := i) (by omega) x
    rw [set_ez (by omega) (h.zero i (by omega))]
    have h3 : P ∣ P * (x ^ i * ez b x) := Int.dvd_mul_right _ _
    refine dvd_of_eq' (Int.dvd_sub (Int.dvd_sub h1 h2) h3) ?_
    rw [Int.sub_mul, Int.add_mul, Int.mul_assoc q]
    omega
  · refine els_of fun v hv => ?_
    rcases List.mem_or_eq_of_mem_set hv with h1 | h1
    · exact els_all h.elQ v h1
    · rw [h1]; exact hqel
  · rw [gd_set _ _ _ _ (by omega), if_neg (by omega)]
    exact h.zero j (by omega)
  · rw [addT_gd P T i _ b (by omega)]
    by_cases hj2 : i ≤ j ∧ j < i + b.length
    · rw [if_pos hj2]
      have e1 : j - i = b.length - 1 := by omega
      have e2 : j = i + b.length - 1 := by omega
      rw [e1, e2]
      refine Int.emod_eq_zero_of_dvd ?_
      have hbn : gd b (b.length - 1) % P ≠ 0 := by
        have := el_t (els_gd hP hbe (b.length - 1))
        rw [Int.emod_eq_of_lt this.1 this.2]; exact hbt
      have hiv := inv_mul hp _ hbn
      have h1 : P ∣ q - gd T (i + b.length - 1) * inv P (gd b (b.length - 1)) := by rw [hq]; exact mod_dvd P _
      have h2 : P ∣ 1 - inv P (gd b (b.length - 1)) * gd b (b.length - 1) := by
        have := mod_dvd P (inv P (gd b (b.length - 1)) * gd b (b.length - 1))
        rwa [hiv] at this
      have h3 := dvr (k := gd T (i + b.length - 1)) h2
      have h4 := dvl (k := gd b (b.length - 1)) h1
      have h5 := Int.dvd_mul_right P (gd b (b.length - 1))
      refine dvd_of_eq' (Int.dvd_add (Int.dvd_sub h3 h4) h5) ?_
      rw [Int.mul_sub, Int.sub_mul, Int.sub_mul, Int.mul_assoc]
      omega
    · rw [if_neg hj2]
      exact h.low j (by omega)
theorem RV.start {P : Int} {a b : List Int} {K : Nat} (hP : 2 ≤ P) (hb : b ≠ []) (ha : els P a = true) (hK : a.length + 1 - b.length = K) : RV P a b (zeros K) a a.length K K where
  div := fun x => by
    rw [ez_zeros]
    exact ⟨0, by simp⟩
  elQ := zeros_els hP _
  elT := ha
  lenT := rfl
  lenQ := by simp [zeros]
  zero := fun j _ => by unfold gd zeros; by_cases h : j < K <;> simp [h]
  low := fun j hj => by
    have hb0 : b.length ≠ 0 := fun e => hb (List.eq_nil_of_length_eq_zero e)
    unfold gd
    rw [List.getElem?_eq_none (by omega)]
    rfl
theorem trim_short {l : List Int} {n : Nat} (h : ∀ j, n ≤ j → gd l j = 0) : (trim l).length ≤ n := by
  rcases trim_top l with e | e
  · rw [e]; simp
  · apply Classical.byContradiction
    intro hn
    exact e (h _ (by omega))
theorem RV.fin {P : Int} {a b Q T : List Int} {n K : Nat} (h : RV P a b Q T n 0 K) (hb : b ≠ []) : els P (trim Q) = true ∧ els P (trim T) = true ∧ trim (trim Q) = trim Q ∧ trim (trim T) = trim T ∧ (trim Q).length ≤ K ∧ (trim T).length < b.length ∧ ∀ x, P ∣ ez a x - (ez (trim Q) x * ez b x + ez (trim T) x) := by
  have hb0 : b.length ≠ 0 := fun e => hb (List.eq_nil_of_length_eq_zero e)
  refine ⟨trim_els h.elQ, trim_els h.elT, trim_idem _, trim_idem _, ?_, ?_, fun x => ?_⟩
  · have := trim_len Q; have := h.lenQ; omega
  · have := trim_short (l := T) (n := b.length - 1) (fun j hj => h.low j (by omega)); omega
  · rw [trim_ez, trim_ez]; exact h.div x
end Go.Proofs.Ytbgabipngdillaa

namespace Go.Proofs.Ytbgabipngdillaa
open Go.RowKit

def DiP (P : Int) (a b : List Int) (w : World) (e : Ending) (w' : World) : Prop :=
  ∃ (v1 v2 : Value) (Q R : List Int), e = .returned (.tuple #[v1, v2, .int .i64 0]) ∧ Below w.heap.size w w' ∧
    w'.ownsRow w.heap.size 3 1 v1 Q.length (Q.map (Value.int .i64)) ∧ w'.ownsRow w.heap.size 3 1 v2 R.length (R.map (Value.int .i64)) ∧
    els P Q = true ∧ els P R = true ∧ trim Q = Q ∧ trim R = R ∧ Q.length ≤ a.length + 1 - b.length ∧ R.length < b.length ∧
    ∀ x, P ∣ ez a x - (ez Q x * ez b x + ez R x)
def DvR (P : Int) (a' b : List Int) (n K bT bQ gb : Nat) (A3 : Option Addr) (c3 : Nat) (w2 wB : World) (iv : Value) (wr : World) : Prop :=
  ∃ (i : Nat) (Q T : List Int), i ≤ K ∧ iv = .int .i64 ((i : Int) - 1) ∧ RV P a' b Q T n i K ∧ BK wr bQ Q ∧ (0 < K → RB wr bT T) ∧ (K = 0 → SI wr (.slice A3 n c3) T) ∧ wr.heap[gb]? = wB.heap[gb]? ∧ Below w2.heap.size w2 wr
theorem below2 {w1 w2 w3 w4 wB : World} (_h3 : Below w1.heap.size w1 w3) (_h4 : Below w1.heap.size w1 w4) (hB : Below w4.heap.size w4 wB) (h23 : w2.heap.size ≤ w3.heap.size) (h34 : w3.heap.size ≤ w4.heap.size) (h34b : Below w3.heap.size w3 w4) (h23b : Below w2.heap.size w2 w3) : Below w2.heap.size w2 wB :=
  (h23b.trans (h34b.mono h23)).trans (hB.mono (Nat.le_trans h23 h34))
set_option maxRecDepth 100000 in
set_option maxHeartbeats 8000000 in
theorem rdivide_any (P : Int) (a b : List Int) (va vb : Value) (w : World) (hp : prB P = true) (ha : SI w va a) (hb : SI w vb b) (hea : els P a = true) (heb : els P b = true) (hla : a.length ≤ 512) (hlb : b.length ≤ 512) (hbt : trim b = b) (hb0 : b ≠ []) :
    Calls Try.prog 37 #[.agg #[.int .i64 P], va, vb] w (DiP P a b w) := by
  have HP := Lib.hid hp
  have hPb := prB_bd hp
  have hPi : i64r P := by unfold i64r; omega
  have HA := Lib.hid ha
  have HB := Lib.hid hb
  have HEA := Lib.hid hea
  have HEB := Lib.hid heb
  have HBT := Lib.hid hbt
  have HB0 := Lib.hid hb0
  have hop : opE P [a, b] = 0 := by
    unfold opE
    rw [if_neg (by rw [hp]; simp), if_neg (by simp [hea, heb]), if_neg (by simp [longB]; omega)]
  have HOP := Lib.hid hop
  have hbl0 : 0 < b.length := List.length_pos_iff.2 hb0
  have htop : gd b (b.length - 1) ≠ 0 := by
    rcases trim_top b with e | e
    · rw [hbt] at e; exact absurd e hb0
    · rwa [hbt] at e
  have HTOP := Lib.hid htop
  obtain ⟨A, ca, rfl⟩ := ha.form
  obtain ⟨Bb, cb, rfl⟩ := hb.form
  clear ha hb hea heb hbt hb0 hp hop htop
  go_enter Try.func37, Try.ntmps37
  obtain ⟨F, eF⟩ : ∃ F, F = w.heap.size := ⟨_, rfl⟩
  obtain ⟨w1, ew1⟩ : ∃ w1 : World, w1 = w.alloc (.cells #[.int .i64 P] 26) := ⟨_, rfl⟩
  have HWw1 : Hid (w.alloc (.cells #[.int .i64 P] 26) = w1) := ew1.symm
  have HAw1 : Hid (Below w.heap.size w w1) := (show Hid _ from by rw [ew1]; exact (Below.refl _ w).alloc (Nat.le_refl _) _)
  have HF0w1 : Hid (w1.heap[F]? = some (.cells #[.int .i64 P] 26 (0, 0))) := (show Hid _ from by show _ = _; rw [ew1, eF]; exact heap_alloc_new w _)
  have HXC : Hid (∀ W, Below w1.heap.size w1 W → W.cell? ⟨F, 0, none⟩ = some (.int .i64 P)) := (show Hid _ from fun W hg => by
    have hF0 := (hg.block F (heap_of_cells HF0w1.out)).trans HF0w1.out
    exact (cell_of_row W F 0 _ _ _ hF0))
  have hSL := SL.two (HA.out.below HAw1.out) (HB.out.below HAw1.out) 22
  have HSL := Lib.hid hSL
  have HBL : Hid (Below w1.heap.size w1 (w1.alloc (.cells #[.slice A a.length ca, .slice Bb b.length cb] 22))) := (show Hid _ from (Below.refl _ w1).alloc (Nat.le_refl _) _)
  have HBW : Hid (∀ W, Below w1.heap.size w1 W → Below w.heap.size w W) := (show Hid _ from fun W hW => HAw1.out.trans (hW.mono HAw1.out.size))
  clear hSL
  go_upto_region 1 with fail
  rw [HWw1.out, ← eF]
  clear ew1 eF
  have x0 := HXC.out w1 (Below.refl _ _)
  go_wp2_with fail
  (with_reducible refine (rlists_any P [a, b] _ _ hPi HSL.out (by simp)).mono ?_)
  rintro e w2 ⟨rfl, hb2⟩
  rw [HOP.out]
  have HB2 : Hid (Below w1.heap.size w1 w2) := (show Hid _ from HBL.out.trans (hb2.mono HBL.out.size))
  clear hb2 x0
  go_wp2_with fail
  (with_reducible refine (rtrim_any a _ w2 (HA.out.below (HBW.out _ HB2.out)) (by omega)).mono ?_)
  rintro e w3 ⟨v3, rfl, hown3, hb3⟩
  have HB3 : Hid (Below w1.heap.size w1 w3) := (show Hid _ from HB2.out.trans (hb3.mono HB2.out.size))
  have hz23 : w2.heap.size ≤ w3.heap.size := hb3.size
  obtain ⟨A3, c3, ev3⟩ := own_slice hown3
  subst ev3
  have HO3 := Lib.hid hown3
  have HB23 := Lib.hid hb3
  clear hown3 hb3
  go_wp2_with fail
  (with_reducible refine (rtrim_any b _ w3 (HB.out.below (HBW.out _ HB3.out)) (by omega)).mono ?_)
  rintro e w4 ⟨v4, rfl, hown4, hb4⟩
  rw [HBT.out] at hown4
  have HB34 := Lib.hid hb4
  have HB4 : Hid (Below w1.heap.size w1 w4) := (show Hid _ from HB3.out.trans (hb4.mono HB3.out.size))
  have hz34 : w3.heap.size ≤ w4.heap.size := hb4.size
  obtain ⟨gb, cb4, ev4, hgb1, hgb2⟩ := own_form hown4 hbl0
  subst ev4
  have HO4 := Lib.hid hown4
  have HO34 : Hid (w4.ownsRow w2.heap.size 3 1 (.slice A3 (trim a).length c3) (trim a).length ((trim a).map (Value.int .i64))) := (show Hid _ from own_blw HO3.out hb4)
  obtain ⟨n, en⟩ : ∃ n, n = (trim a).length := ⟨_, rfl⟩
  obtain ⟨lb, elb⟩ : ∃ lb, lb = b.length := ⟨_, rfl⟩
  rw [← en] at HO3 HO34 ⊢
  rw [← elb] at HO4 hbl0 hlb ⊢
  have hn : n ≤ 512 := by have := trim_len a; omega
  have HN := Lib.hid en
  have HLB := Lib.hid elb
  have HSB : Hid (∀ W, Below w4.heap.size w4 W → SI W (.slice (some ⟨gb, 0, none⟩) lb cb4) b) := (show Hid _ from fun W hW => by
    have h9 := (SI.of_own hown4 (els_r hPb.2 HEB.out)).below hW
    rw [HLB.out]; exact h9)
  clear hown4 hb4 en elb
  have hlb0 : ((lb : Int) == 0) = false := by rw [beq_eq_false_iff_ne]; omega
  have hlb0n : (lb == 0) = false := by rw [beq_eq_false_iff_ne]; omega
  have y1 : (0 : Int) ≤ (lb : Int) - 1 := by omega
  have y2 : (lb : Int) - 1 < (lb : Int) := by omega
  have y3 : ((lb : Int) - 1).toNat = lb - 1 := by omega
  have y4 : IntKind.i64.wrap ((lb : Int) - 1) = (lb : Int) - 1 := by exact IntWalk.i64_in _ (by omega)
  go_wp2_with fail
  have f0 := HXC.out w4 HB4.out
  have HBC : Hid (∀ W, Below w4.heap.size w4 W → ∀ j (hj : j < b.length), W.cell? ⟨gb, j, none⟩ = some (.int .i64 b[j])) := (show Hid _ from fun W hW j hj => (hW.cell (p := ⟨gb, j, none⟩) hgb2).trans (own_int (by rw [← HLB.out]; exact HO4.out) j hj))
  obtain ⟨t, et⟩ : ∃ t, t = gd b (lb - 1) := ⟨_, rfl⟩
  have ct : w4.cell? ⟨gb, lb - 1, none⟩ = some (.int .i64 t) := by
    rw [et, gd_lt (by rw [← HLB.out]; omega)]
    exact HBC.out w4 (Below.refl _ _) (lb - 1) (by rw [← HLB.out]; omega)
  have htb := el_t (els_gd hPb.1 HEB.out (lb - 1))
  rw [← et] at htb
  have ht0 : t ≠ 0 := by rw [et, HLB.out]; exact HTOP.out
  obtain ⟨iv', eiv⟩ : ∃ v, v = inv P t := ⟨_, rfl⟩
  have hiv := inv_bd hPb.1 t
  rw [← eiv] at hiv
  have ET := Lib.hid et
  have EIV := Lib.hid eiv
  have HSW : Hid (∀ W, Below w4.heap.size w4 W → W.cell? ⟨F, 0, none⟩ = some (.int .i64 P) ∧ W.cell? ⟨gb, lb - 1, none⟩ = some (.int .i64 t)) := (show Hid _ from fun W hW => ⟨HXC.out W (HB4.out.trans (hW.mono HB4.out.size)), (hW.cell (p := ⟨gb, lb - 1, none⟩) hgb2).trans ct⟩)
  clear et eiv
  obtain ⟨m1, em1⟩ : ∃ m1, m1 = lb - 1 := ⟨_, rfl⟩
  rw [← em1] at ct HSW
  have y1' : (0 : Int) ≤ (m1 : Int) := by omega
  have y2' : (m1 : Int) < (lb : Int) := by omega
  have y4' : IntKind.i64.wrap ((lb : Int) - 1) = (m1 : Int) := by rw [y4]; omega
  have hlb1 : 1 ≤ lb := by omega
  clear y1 y2 y3 y4 em1
  go_region_held3 (fun w' => w'.cell? ⟨F, 0, none⟩ = some (.int .i64 P) ∧ w'.cell? ⟨gb, m1, none⟩ = some (.int .i64 t)) (first | exact ⟨f0, ct⟩ | exact HS9.out | go_keep)
    ((go_at_call 50; refine (rinv_any P t _ hPb htb (fun _ => ht0)).mono ?_; rintro e w9 ⟨rfl, hb9⟩; rw [← EIV.out]; have HB9 : Hid (Below w4.heap.size w4 w9) := (show Hid _ from ⟨hb9.os, hb9.tape, hb9.output, hb9.size, hb9.block⟩); have HS9 := Lib.hid (HSW.out w9 HB9.out); clear hb9))
  clear y1' y2' y4'
  have y1 : (0 : Int) ≤ (lb : Int) - 1 := by omega
  have y2 : (lb : Int) - 1 < (lb : Int) := by omega
  have y3 : ((lb : Int) - 1).toNat = lb - 1 := by omega
  have y4 : IntKind.i64.wrap ((lb : Int) - 1) = (lb : Int) - 1 := by exact IntWalk.i64_in _ (by omega)
  obtain ⟨K, eK⟩ : ∃ K, K = n + 1 - lb := ⟨_, rfl⟩
  have HK := Lib.hid eK
  have y5 : IntKind.i64.wrap ((n : Int) - (lb : Int)) = (n : Int) - (lb : Int) := by exact IntWalk.i64_in _ (by omega)
  have y6 : IntKind.i64.wrap ((n : Int) - (lb : Int) + 1) = (n : Int) - (lb : Int) + 1 := by exact IntWalk.i64_in _ (by omega)
  have y7 : max (0 : Int) ((n : Int) - (lb : Int) + 1) = (K : Int) := by omega
  obtain ⟨wB, eB⟩ : ∃ wB : World, wB = w9.alloc (.cells ((zeros K).map (Value.int .i64)).toArray 3) := ⟨_, rfl⟩
  obtain ⟨bQ, ebQ⟩ : ∃ bQ, bQ = w9.heap.size := ⟨_, rfl⟩
  have HQ0 : Hid (BK wB bQ (zeros K)) := (show Hid _ from by rw [eB, ebQ]; exact heap_alloc_new w9 _)
  have HB9B : Hid (Below w9.heap.size w9 wB) := (show Hid _ from by rw [eB]; exact (Below.refl _ _).alloc (Nat.le_refl _) _)
  have HBB : Hid (Below w4.heap.size w4 wB) := (show Hid _ from HB9.out.trans (HB9B.out.mono HB9.out.size))
  have HWB : Hid (w9.alloc (.cells ((zeros K).map (Value.int .i64)).toArray 3) = wB) := (show Hid _ from eB.symm)
  have HEQ := Lib.hid ebQ
  have h9z : w4.heap.size ≤ bQ := by rw [ebQ]; exact HB9.out.size
  have hK : K ≤ 1000 := by omega
  clear eB ebQ f0 ct HSW HS9 eK
  go_wp2_with (at_make; refine wpList_make_ints _ rfl _ _ 22 rfl 3 Try.underlying22 iinfo _ K (by first | rfl | simp [y5, y6, y7]) (by first | rfl | simp [y5, y6, y7]) rfl (by omega) ?_; rw [HWB.out, ← HEQ.out])
  have hRV0 : RV P (trim a) b (zeros K) (trim a) n K K := by
    have h9 := RV.start (P := P) (a := trim a) (b := b) (K := K) hPb.1 HB0.out (trim_els HEA.out) (by rw [← HN.out, ← HLB.out, HK.out])
    rw [← HN.out] at h9
    exact h9
  have HRV0 := Lib.hid hRV0
  have HO3B : Hid (wB.ownsRow w2.heap.size 3 1 (.slice A3 n c3) n ((trim a).map (Value.int .i64))) := (show Hid _ from own_blw HO34.out HBB.out)
  have HS3B : Hid (SI wB (.slice A3 n c3) (trim a)) := (show Hid _ from by
    have h9 : wB.ownsRow w2.heap.size 3 1 (.slice A3 n c3) (trim a).length ((trim a).map (Value.int .i64)) := by rw [← HN.out]; exact HO3B.out
    exact SI.of_own h9 (els_r hPb.2 (trim_els HEA.out)))
  have hT3 : 0 < K → ∃ bT, A3 = some ⟨bT, 0, none⟩ ∧ w2.heap.size ≤ bT ∧ bT < gb ∧ bT < bQ ∧ n ≤ c3 ∧ c3 ≤ 9223372036854775807 ∧ RB wB bT (trim a) := fun h0 => by
    obtain ⟨bT, cap, e1, e2, e3⟩ := own_form HO3B.out (by have := HK.out; omega)
    injection e1 with e4 e5 e6
    subst e4
    have h9 := RB.of_own HO3B.out rfl
    have h8 := ra_lt HO3.out
    exact ⟨bT, rfl, e2, by omega, by omega, h9.2.2.1, by simpa [maxLen] using h9.2.2.2, h9.1⟩
  have HT3 := Lib.hid hT3
  obtain ⟨bT, hbT⟩ : ∃ bT, 0 < K → A3 = some ⟨bT, 0, none⟩ ∧ w2.heap.size ≤ bT ∧ bT < gb ∧ bT < bQ ∧ n ≤ c3 ∧ c3 ≤ 9223372036854775807 ∧ RB wB bT (trim a) := by
    by_cases h0 : 0 < K
    · obtain ⟨bT, h⟩ := HT3.out h0
      exact ⟨bT, fun _ => h⟩
    · exact ⟨0, fun h => absurd h h0⟩
  have HBT' := Lib.hid hbT
  have HB2B : Hid (Below w2.heap.size w2 wB) := (show Hid _ from below2 HB3.out HB4.out HBB.out hz23 hz34 HB34.out HB23.out)
  have hgQ : gb < bQ := by omega
  clear hRV0 hT3 hbT HT3
  go_loopw [13] (fun iv wr => DvR P (trim a) b n K bT bQ gb A3 c3 w2 wB iv wr) (fun iv _ => ((intOf iv) + 1).toNat)
  case atStart => exact ⟨K, zeros K, trim a, Nat.le_refl _, by go_num, HRV0.out, HQ0.out, fun h0 => (HBT'.out h0).2.2.2.2.2.2, fun _ => HS3B.out, rfl, HB2B.out⟩
  case round =>
    obtain ⟨i, Q, T, hi, rfl, hrv, hbk, hrb, hsi0, hgb, hbel⟩ := hrel
    have HRV := Lib.hid hrv
    have HBK := Lib.hid hbk
    have HRB := Lib.hid hrb
    have HSI0 := Lib.hid hsi0
    have HGB := Lib.hid hgb
    have HBel := Lib.hid hbel
    have f0 := HXC.out wr (HB2.out.trans (hbel.mono HB2.out.size))
    clear hrv hbk hrb hsi0 hgb hbel
    by_cases hi0 : i = 0
    · subst hi0
      have d0' : decide ((0 : Int) ≤ ((0 : Nat) : Int) - 1) = false := decide_eq_false (by omega)
      have d0 : decide (((0 : Nat) : Int) - 1 ≥ 0) = false := decide_eq_false (by omega)
      have HSQ : Hid (SI wr (.slice (some ⟨bQ, 0, none⟩) K K) Q) := (show Hid _ from by
        have h9 := HBK.out.si0 (els_r hPb.2 HRV.out.elQ) (by rw [HRV.out.lenQ]; omega)
        rw [HRV.out.lenQ] at h9
        exact h9)
      have HST : Hid (SI wr (.slice A3 n c3) T) := (show Hid _ from by
        by_cases h0 : 0 < K
        · obtain ⟨e1, e2, e3, e4, e5, e6, e7⟩ := HBT'.out h0
          have h9 := (HRB.out h0).si (els_r hPb.2 HRV.out.elT) (by rw [HRV.out.lenT]; exact e5) e6
          rw [HRV.out.lenT] at h9
          rw [e1]; exact h9
        · exact HSI0.out (by omega))
      have HFIN := Lib.hid (HRV.out.fin HB0.out)
      have HBw : Hid (Below w.heap.size w wr) := (show Hid _ from HBW.out _ (HB2.out.trans (HBel.out.mono HB2.out.size)))
      have hQl : Q.length ≤ 1000000 := by rw [HRV.out.lenQ]; omega
      have hTl : T.length ≤ 1000000 := by rw [HRV.out.lenT]; omega
      clear f0
      go_wp2_with fail
      (with_reducible refine (rtrim_any Q _ wr HSQ.out hQl).mono ?_)
      rintro e w10 ⟨v10, rfl, hown10, hb10⟩
      have HO10 := Lib.hid hown10
      have HB10 := Lib.hid hb10
      clear hown10 hb10
      go_wp2_with fail
      (with_reducible refine (rtrim_any T _ w10 (HST.out.below HB10.out) hTl).mono ?_)
      rintro e w11 ⟨v11, rfl, hown11, hb11⟩
      have HO11 := Lib.hid hown11
      have HB11 := Lib.hid hb11
      clear hown11 hb11
      go_wp2_with fail
      refine bodyPost_ret (v := .tuple #[v10, v11, .int .i64 0]) (by simp [results, Try.results37, go_sem]) rfl ?_
      obtain ⟨g1, g2, g3, g4, g5, g6, g7⟩ := HFIN.out
      have hza : (trim a).length ≤ a.length := trim_len a
      refine ⟨v10, v11, trim Q, trim T, rfl, ?_, own_base (own_blw HO10.out HB11.out) HBw.out.size, own_base HO11.out (Nat.le_trans HBw.out.size HB10.out.size), g1, g2, g3, g4, ?_, g6, fun x => ?_⟩
      · exact HBw.out.trans ((HB10.out.trans (HB11.out.mono HB10.out.size)).mono HBw.out.size)
      · have h1 := HK.out; have h2 := HN.out; have h3 := HLB.out; omega
      · have := g7 x
        rwa [trim_ez] at this
    · obtain ⟨j, rfl⟩ : ∃ j, i = j + 1 := ⟨i - 1, by omega⟩
      have hjK : j < K := by omega
      obtain ⟨e1, e2, e3, e4, e5, e6, e7⟩ := HBT'.out (by omega)
      have HRBT := Lib.hid (HRB.out (by omega))
      subst e1
      have ej : ((j + 1 : Nat) : Int) - 1 = (j : Int) := by omega
      rw [ej]
      have d0 : decide ((j : Int) ≥ 0) = true := decide_eq_true (by omega)
      have d0' : decide ((0 : Int) ≤ (j : Int)) = true := decide_eq_true (by omega)
      have hKn : K + lb ≤ n + 1 := by have := HK.out; omega
      obtain ⟨jx, ejx⟩ : ∃ jx, jx = j + lb - 1 := ⟨_, rfl⟩
      have hjx : jx < n := by omega
      have hjT : jx < T.length := by rw [HRV.out.lenT]; exact hjx
      have cT := HRBT.out.cell hjT
      have hTe := el_t (els_gd hPb.1 HRV.out.elT jx)
      rw [← gd_lt hjT] at cT
      obtain ⟨z, ez'⟩ : ∃ z, z = gd T jx := ⟨_, rfl⟩
      rw [← ez'] at cT hTe
      have hzi := mul_bd hTe hiv hPb.2
      have u1 : IntKind.i64.wrap (z * iv') = z * iv' := by exact IntWalk.i64_in _ (by omega)
      have u2 : (z * iv').tmod P = z * iv' % P := Int.tmod_eq_emod_of_nonneg (by omega)
      obtain ⟨q, eq⟩ : ∃ q, q = z * iv' % P := ⟨_, rfl⟩
      have hq : 0 ≤ q ∧ q < P := by rw [eq]; exact ⟨Int.emod_nonneg _ (by omega), Int.emod_lt_of_pos _ (by omega)⟩
      have u3 : z * iv' % P = q := eq.symm
      have u4 : IntKind.i64.wrap q = q := by exact IntWalk.i64_in _ (by omega)
      have u5 : IntKind.i64.wrap ((j : Int) + (lb : Int)) = (j : Int) + (lb : Int) := by exact IntWalk.i64_in _ (by omega)
      have u6 : IntKind.i64.wrap ((j : Int) + (lb : Int) - 1) = (jx : Int) := by rw [show (j : Int) + (lb : Int) - 1 = (jx : Int) by omega]; exact IntWalk.i64_in _ (by omega)
      have hP0 : ¬ P = 0 := by omega
      have z1 : (0 : Int) ≤ (jx : Int) := by omega
      have z2 : (jx : Int) < (n : Int) := by omega
      have z3 : (0 : Int) ≤ (j : Int) := by omega
      have z4 : (j : Int) < (K : Int) := by omega
      have HSTP : Hid (RV P (trim a) b (Q.set j q) (addT P T j (P - q) b) n j K) := (show Hid _ from HRV.out.step HP.out HB0.out HEB.out HTOP.out hjK (by rw [← HLB.out]; omega) q (by rw [eq, ez', EIV.out, ET.out, ← HLB.out, ejx]))
      have cQ := HBK.out.cell (j := j) (by rw [HRV.out.lenQ]; exact hjK)
      have fQ := HBK.out.frozen j
      have hgT : gb ≠ bT := by omega
      have hQT : bQ ≠ bT := by omega
      have hQg : gb ≠ bQ := by omega
      have HSQ1 : Hid (BK (wr.setCell ⟨bQ, j, none⟩ (.int .i64 q)) bQ (Q.set j q)) := (show Hid _ from HBK.out.set j q)
      have HRB1 : Hid (RB (wr.setCell ⟨bQ, j, none⟩ (.int .i64 q)) bT T) := (show Hid _ from HRBT.out.setO (p := ⟨bQ, j, none⟩) hQT _)
      have HGB1 : Hid ((wr.setCell ⟨bQ, j, none⟩ (.int .i64 q)).heap[gb]? = wB.heap[gb]?) := (show Hid _ from (heap_setCell_other wr ⟨bQ, j, none⟩ gb _ hQg).trans HGB.out)
      have HBel1 : Hid (Below w2.heap.size w2 (wr.setCell ⟨bQ, j, none⟩ (.int .i64 q))) := (show Hid _ from HBel.out.setCell (p := ⟨bQ, j, none⟩) (by show w2.heap.size ≤ bQ; omega) _)
      clear ez' eq hjT ejx hzi
      go_upto_region 12 with fail
      go_region
      all_goals
        go_upto_region 14 with fail
        obtain ⟨wy, ewy⟩ : ∃ wy : World, wy = (wr.setCell ⟨bQ, j, none⟩ (.int .i64 q)).drew := ⟨_, rfl⟩
        have HSQy : Hid (BK wy bQ (Q.set j q)) := (show Hid _ from by rw [ewy]; exact HSQ1.out)
        have HRBy : Hid (RB wy bT T) := (show Hid _ from by rw [ewy]; exact HRB1.out)
        have HGBy : Hid (wy.heap[gb]? = wB.heap[gb]?) := (show Hid _ from by rw [ewy]; exact HGB1.out)
        have HBely : Hid (Below w2.heap.size w2 wy) := (show Hid _ from by rw [ewy]; exact HBel1.out.drew)
        rw [← ewy]
        clear ewy HSQ1 HRB1 HGB1 HBel1 HRBT HRB HSI0 HBK HBel HGB cQ fQ cT f0
        obtain ⟨sb, esb⟩ : ∃ sb, sb = P - q := ⟨_, rfl⟩
        have hsb : 0 ≤ sb ∧ sb ≤ P := by omega
        have wsb : IntKind.i64.wrap (P - q) = sb := by rw [esb]; exact IntWalk.i64_in _ (by omega)
        rw [← esb] at HSTP
        clear esb u1 u2 u3 u6 z1 z2 hTe
        go_wp2_with fail
        go_loopw [74] (fun iv wr => ∃ k : Nat, k ≤ lb ∧ iv = .int .i64 k ∧ Hid (RB wr bT (addT P T j sb (b.take k))) ∧ Hid (wy.grownBy wr (some bT))) (fun iv _ => lb - (intOf iv).toNat)
        case atStart => exact ⟨0, Nat.zero_le _, rfl, (show Hid _ from by rw [List.take_zero, addT_zero]; exact HRBy.out), (show Hid _ from grownBy_refl _ _)⟩
        case round =>
          obtain ⟨k, hk, rfl, HRk, HGk⟩ := hrel
          have HBk : Hid (Below w2.heap.size w2 wr) := (show Hid _ from HBely.out.trans (below_of_grownBy HGk.out e2 HBely.out.size))
          have hgbk : wr.heap[gb]? = wB.heap[gb]? := (HGk.out.block gb (by have h1 := HGBy.out; have h2 := HBB.out.size; apply Classical.byContradiction; intro hc; rw [Array.getElem?_eq_none (by omega)] at h1; have h3 := Array.getElem?_eq_none_iff.1 h1.symm; omega) (by simp; omega)).trans HGBy.out
          have HGBk := Lib.hid hgbk
          by_cases hkl : k < lb
          · have dk : decide ((k : Int) < (lb : Int)) = true := decide_eq_true (by omega)
            have dkn : decide (k < lb) = true := decide_eq_true hkl
            have hkb : k < b.length := by rw [← HLB.out]; exact hkl
            have cb : wr.cell? ⟨gb, k, none⟩ = some (.int .i64 b[k]) := (World.cell?_of_block hgbk).trans (HBC.out wB HBB.out k hkb)
            have f0 := HXC.out wr (HB2.out.trans (HBk.out.mono HB2.out.size))
            have hal : (addT P T j sb (b.take k)).length = n := by rw [addT_len]; exact HRV.out.lenT
            obtain ⟨jk, ejk⟩ : ∃ jk, jk = j + k := ⟨_, rfl⟩
            have hjk : jk < n := by omega
            have cT := HRk.out.cell (j := jk) (by rw [hal]; exact hjk)
            have fT := HRk.out.frozen jk
            have hel := el_t (els_gd hPb.1 (addT_els hPb.1 HRV.out.elT j sb (b.take k)) jk)
            have hel2 := el_t (els_all HEB.out _ (List.getElem_mem hkb))
            rw [← gd_lt] at cT
            obtain ⟨z', ez2⟩ : ∃ z', z' = gd (addT P T j sb (b.take k)) jk := ⟨_, rfl⟩
            rw [← ez2] at cT hel
            obtain ⟨u, eu⟩ : ∃ u, u = b[k] := ⟨_, rfl⟩
            rw [← eu] at cb hel2
            have HSTk : Hid (addT P T j sb (b.take (k + 1)) = (addT P T j sb (b.take k)).set jk ((z' + sb * u) % P)) := (show Hid _ from by
              have h := addT_step P T j sb b k hkb (by rw [HRV.out.lenT, ← HLB.out]; omega)
              show _ = _
              rw [ez2, eu, ejk]; exact h)
            have HY : Hid (RB (wr.setCell ⟨bT, jk, none⟩ (.int .i64 ((z' + sb * u) % P))) bT (addT P T j sb (b.take (k + 1)))) := (show Hid _ from by rw [HSTk.out]; exact HRk.out.set (by rw [hal]; exact hjk) _)
            have HYG : Hid (wy.grownBy (wr.setCell ⟨bT, jk, none⟩ (.int .i64 ((z' + sb * u) % P))) (some bT)) := (show Hid _ from grownBy_setCell HGk.out (.inl rfl) _)
            have hxy := mul_bd' hsb hel2 hPb.2
            have u1 : IntKind.i64.wrap (sb * u) = sb * u := by exact IntWalk.i64_in _ (by omega)
            have u2 : IntKind.i64.wrap (z' + sb * u) = z' + sb * u := by exact IntWalk.i64_in _ (by omega)
            have u3 : (z' + sb * u).tmod P = (z' + sb * u) % P := Int.tmod_eq_emod_of_nonneg (by omega)
            have u7 : IntKind.i64.wrap ((z' + sb * u) % P) = (z' + sb * u) % P := by
              have h1 := Int.emod_nonneg (z' + sb * u) (show P ≠ 0 by omega)
              have h2 := Int.emod_lt_of_pos (z' + sb * u) (show 0 < P by omega)
              exact IntWalk.i64_in _ (by omega)
            have u8 : IntKind.i64.wrap ((j : Int) + (k : Int)) = (jk : Int) := by rw [show (j : Int) + (k : Int) = (jk : Int) by omega]; exact IntWalk.i64_in _ (by omega)
            have u9 : (j : Int) + (k : Int) = (jk : Int) := by omega
            have z1 : (0 : Int) ≤ (jk : Int) := by omega
            have z2 : (jk : Int) < (n : Int) := by omega
            have z5 : (0 : Int) ≤ (k : Int) := by omega
            have z6 : (k : Int) < (lb : Int) := by omega
            clear ez2 eu hal hel hel2 hxy ejk hgbk
            go_upto_region 17 with fail
            go_region
            all_goals
              go_wp2_with fail
              go_roundw
              case rel => exact ⟨k + 1, by omega, by go_num, by first | exact HY | exact (show Hid _ from HY.out.drew), by first | exact HYG | exact (show Hid _ from ⟨HYG.out.os, HYG.out.tape, HYG.out.output, HYG.out.size, HYG.out.block⟩)⟩
              case measure => simp [intOf]; omega
          · have dk : decide ((k : Int) < (lb : Int)) = false := decide_eq_false (by omega)
            have dkn : decide (k < lb) = false := decide_eq_false hkl
            have hbk : b.take k = b := List.take_of_length_le (by rw [← HLB.out]; omega)
            have HRF : Hid (RB wr bT (addT P T j sb b)) := (show Hid _ from by have h9 := HRk.out; rw [hbk] at h9; exact h9)
            have HQF : Hid (BK wr bQ (Q.set j q)) := (show Hid _ from HSQy.out.kept HGk.out (by simp; omega))
            have hK0 : K ≠ 0 := by omega
            clear hbk hgbk
            go_wp2_with fail
            go_roundw
            case rel => exact ⟨j, Q.set j q, addT P T j sb b, by omega, by go_num, HSTP.out, HQF.out, fun _ => HRF.out, fun h => absurd h hK0, HGBk.out, HBk.out⟩
            case measure => simp [intOf]
end Go.Proofs.Ytbgabipngdillaa
