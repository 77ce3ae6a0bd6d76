/- Joined: Rp Rq. -/
import Derived.Test.YtbgabipngdillaaZ12
import Derived.Test.YtbgabipngdillaaZ13
namespace Go.Proofs.Ytbgabipngdillaa
open Go.RowKit Go.Shelf Go.Sort

/-- ascending strictly -/
def Asc (rs : List (List Int)) : Prop := rs.Pairwise lexlt
theorem gd_ext {a b : List Int} (hl : a.length = b.length) (h : eqz a b) : a = b := by
  apply List.ext_getElem hl
  intro i h1 h2
  have := h i
  rwa [gd_lt h1, gd_lt h2] at this
theorem trim_idem (l : List Int) : trim (trim l) = trim l := by
  induction l with
  | nil => rfl
  | cons c l ih =>
    rw [trim_cons]
    by_cases h : c = 0 ∧ trim l = []
    · rw [if_pos h]; rfl
    · rw [if_neg h, trim_cons, ih, if_neg h]
theorem eqz_trim : ∀ {a b : List Int}, eqz a b → trim a = trim b := by
  intro a
  induction a with
  | nil =>
    intro b h
    rw [trim_nil, trim_zeros (fun k => (h k).symm.trans (by unfold gd; simp))]
  | cons c a ih =>
    intro b h
    cases b with
    | nil => rw [trim_nil, trim_zeros (fun k => (h k).trans (by unfold gd; simp))]
    | cons d b =>
      have h0 := h 0
      have ht : eqz a b := fun i => by have := h (i + 1); simpa [gd] using this
      have hcd : c = d := by simpa [gd] using h0
      rw [trim_cons, trim_cons, ih ht, hcd]
/-- two ascending lists of the same elements are one -/
theorem Asc.ext : ∀ {a b : List (List Int)}, Asc a → Asc b → (∀ p, p ∈ a ↔ p ∈ b) → a = b := by
  intro a
  induction a with
  | nil =>
    intro b _ _ h
    cases b with
    | nil => rfl
    | cons y b => have := (h y).2 (by simp); simp at this
  | cons x a ih =>
    intro b ha hb h
    cases b with
    | nil => have := (h x).1 (by simp); simp at this
    | cons y b =>
      have ha' := List.pairwise_cons.1 ha
      have hb' := List.pairwise_cons.1 hb
      have hxy : x = y := by
        rcases List.mem_cons.1 ((h x).1 (by simp)) with e | e
        · exact e
        · rcases List.mem_cons.1 ((h y).2 (by simp)) with e2 | e2
          · exact e2.symm
          · exact absurd (ha'.1 y e2) (lex_asym (hb'.1 x e))
      subst hxy
      congr 1
      refine ih ha'.2 hb'.2 fun p => ⟨fun hp => ?_, fun hp => ?_⟩
      · rcases List.mem_cons.1 ((h p).1 (by simp [hp])) with e | e
        · subst e; exact absurd (ha'.1 p hp) (lex_irr fun _ => rfl)
        · exact e
      · rcases List.mem_cons.1 ((h p).2 (by simp [hp])) with e | e
        · subst e; exact absurd (hb'.1 p hp) (lex_irr fun _ => rfl)
        · exact e

section
variable {α : Type} [Inhabited α]
theorem cpu_sub (eq : α → α → Bool) (d : Array α) : ∀ m, ∀ x ∈ cpu eq d m, ∃ i, i < m ∧ x = d[i]! := by
  intro m
  induction m with
  | zero => intro x hx; simp [cpu] at hx
  | succ m ih =>
    intro x hx
    rcases List.mem_append.1 hx with h | h
    · obtain ⟨i, hi, e⟩ := ih x h; exact ⟨i, by omega, e⟩
    · split at h
      · simp at h; exact ⟨m, by omega, h⟩
      · simp at h
theorem cpu_all_in (eq : α → α → Bool) (key : α → List Int) (heq : ∀ x y, eq x y = true → eqz (key x) (key y)) (d : Array α) : ∀ m i, i < m → ∃ y ∈ cpu eq d m, eqz (key d[i]!) (key y) := by
  intro m
  induction m with
  | zero => intro i h; omega
  | succ m ih =>
    intro i hi
    by_cases him : i < m
    · obtain ⟨y, hy, h⟩ := ih i him
      exact ⟨y, List.mem_append_left _ hy, h⟩
    · have : i = m := by omega
      subst this
      by_cases hk : i = 0 ∨ eq d[i]! d[i - 1]! = false
      · exact ⟨d[i]!, List.mem_append_right _ (by rw [if_pos hk]; simp), fun _ => rfl⟩
      · have h0 : 0 < i := by omega
        have he : eq d[i]! d[i - 1]! = true := by
          cases h : eq d[i]! d[i - 1]! with
          | true => rfl
          | false => exact absurd (.inr h) hk
        obtain ⟨y, hy, h⟩ := ih (i - 1) (by omega)
        exact ⟨y, List.mem_append_left _ hy, (heq _ _ he).trans h⟩
theorem cpu_asc (eq : α → α → Bool) (key : α → List Int) (heq : ∀ x y, eqz (key x) (key y) → eq x y = true) (d : Array α) (n : Nat) (hs : ∀ i j, i < j → j < n → ¬ lexlt (key d[j]!) (key d[i]!)) : ∀ m, m ≤ n → Asc ((cpu eq d m).map key) := by
  intro m
  induction m with
  | zero => intro _; simp [cpu, Asc]
  | succ m ih =>
    intro hm
    show Asc ((cpu eq d m ++ _).map key)
    rw [List.map_append]
    refine List.pairwise_append.2 ⟨ih (by omega), ?_, ?_⟩
    · split <;> simp
    · intro a ha b hb
      obtain ⟨x, hx, rfl⟩ := List.mem_map.1 ha
      split at hb
      · rename_i hk
        simp at hb
        subst hb
        obtain ⟨i, hi, rfl⟩ := cpu_sub eq d m x hx
        have h0 : 0 < m := by omega
        have hne : eq d[m]! d[m - 1]! = false := by
          rcases hk with h | h
          · omega
          · exact h
        have h1 : lexlt (key d[m - 1]!) (key d[m]!) := by
          rcases lex_or (key d[m]!) (key d[m - 1]!) with h | h | h
          · rw [heq _ _ h] at hne; cases hne
          · exact absurd h (hs (m - 1) m (by omega) (by omega))
          · exact h
        by_cases him : i = m - 1
        · subst him; exact h1
        · rcases lex_or (key d[i]!) (key d[m - 1]!) with h | h | h
          · exact (lex_eqz h fun _ => rfl).2 h1
          · exact lex_trans h h1
          · exact absurd h (hs i (m - 1) (by omega) (by omega))
      · simp at hb
end

/-- what a search finds, and the most places -/
def runS (P : Int) (l : List (Int × Bool)) (k : Nat) (ag : Int) : List (List Int) × Int := (chs l k l.length []).foldl (lookS P l ag) ([], 0)
theorem look_mem (P : Int) (l : List (Int × Bool)) (ag : Int) (cs : List (List (Int × Int))) : ∀ st p, p ∈ (cs.foldl (lookS P l ag) st).1 ↔ p ∈ st.1 ∨ ∃ c ∈ cs, inE P c = 0 ∧ ag ≤ agN P l (inP P c) ∧ p = inP P c := by
  induction cs with
  | nil => intro st p; simp
  | cons c cs ih =>
    intro st p
    rw [List.foldl_cons, ih]
    have h2 : p ∈ (lookS P l ag st c).1 ↔ p ∈ st.1 ∨ (inE P c = 0 ∧ ag ≤ agN P l (inP P c) ∧ p = inP P c) := by
      unfold lookS
      by_cases h0 : inE P c = 0
      · rw [if_pos h0]
        by_cases ha : ag ≤ agN P l (inP P c)
        · simp [ha, h0]
        · simp [ha]
      · rw [if_neg h0]; simp [h0]
    rw [h2]
    constructor
    · rintro ((h | h) | ⟨x, hx, h⟩)
      · exact .inl h
      · exact .inr ⟨c, by simp, h⟩
      · exact .inr ⟨x, by simp [hx], h⟩
    · rintro (h | ⟨x, hx, h⟩)
      · exact .inl (.inl h)
      · rcases List.mem_cons.1 hx with rfl | hx
        · exact .inl (.inr h)
        · exact .inr ⟨x, hx, h⟩
theorem run_mem {P : Int} {l : List (Int × Bool)} {k : Nat} {ag : Int} (p : List Int) : p ∈ (runS P l k ag).1 ↔ ∃ c ∈ chs l k l.length [], inE P c = 0 ∧ ag ≤ agN P l (inP P c) ∧ p = inP P c := by
  unfold runS
  rw [look_mem]
  simp
theorem chs_mem_len (l : List (Int × Bool)) (k : Nat) : ∀ m ch, ∀ c ∈ chs l k m ch, c.length = k := by
  intro m
  induction m with
  | zero => intro ch c hc; unfold chs at hc; split at hc <;> simp at hc; subst hc; assumption
  | succ m ih =>
    intro ch c hc
    unfold chs at hc
    split at hc
    · simp at hc; subst hc; assumption
    · rcases List.mem_append.1 hc with h | h
      · split at h
        · exact ih _ c h
        · simp at h
      · exact ih _ c h
theorem inP_len {P : Int} {c : List (Int × Int)} : (inP P c).length ≤ c.length := by
  unfold inP
  split
  · unfold interp
    refine Nat.le_trans (trim_len _) ?_
    have := (newt_len P c).1
    split at this <;> omega
  · simp
theorem inP_trim {P : Int} {c : List (Int × Int)} : trim (inP P c) = inP P c := by
  unfold inP
  split
  · exact trim_idem _
  · rfl
end Go.Proofs.Ytbgabipngdillaa

namespace Go.Proofs.Ytbgabipngdillaa
open Go.RowKit Go.Shelf Go.Sort Go.Lib

/-- A slice of slices of ints. -/
def RL (w : World) (v : Value) (rs : List (List Int)) : Prop :=
  ∃ A c, v = .slice A rs.length c ∧ rs.length ≤ c ∧ c ≤ 9223372036854775807 ∧
    (0 < rs.length → ∃ b off, A = some ⟨b, off, none⟩ ∧ b < w.heap.size ∧ ∀ j (h : j < rs.length), ∃ u, w.cell? ⟨b, off + j, none⟩ = some u ∧ SI w u rs[j])
theorem RL.below {w w' : World} {v : Value} {rs : List (List Int)} (h : RL w v rs) (hb : Below w.heap.size w w') : RL w' v rs := by
  obtain ⟨A, c, rfl, hc, hm, ha⟩ := h
  refine ⟨A, c, rfl, hc, hm, fun h0 => ?_⟩
  obtain ⟨b, off, rfl, hbl, hcell⟩ := ha h0
  refine ⟨b, off, rfl, by have := hb.size; omega, fun j hj => ?_⟩
  obtain ⟨u, hu, hs⟩ := hcell j hj
  exact ⟨u, (hb.cell hbl).trans hu, hs.below hb⟩
theorem RL.form {w : World} {v : Value} {rs : List (List Int)} (h : RL w v rs) : ∃ A c, v = .slice A rs.length c := by
  obtain ⟨A, c, rfl, _⟩ := h
  exact ⟨A, c, rfl⟩

/-- a slice of ints in w, with what it reads as -/
structure VP (s : Nat) (A : Value) (w : World) where
  a : Option Addr
  c : Nat
  p : List Int
  h1 : SA s A w (.slice a p.length c) p
  h2 : p.length ≤ 1000000
theorem SA.nil (s : Nat) (A : Value) (w : World) : SA s A w (.slice none 0 0) [] := ⟨none, 0, rfl, Nat.le_refl _, by omega, by simp, fun h => by simp at h⟩
instance (s : Nat) (A : Value) (w : World) : Inhabited (VP s A w) := ⟨⟨none, 0, [], SA.nil s A w, by simp⟩⟩
def venc {s : Nat} {A : Value} {w : World} (x : VP s A w) : Value := .slice x.a x.p.length x.c
def vkey {s : Nat} {A : Value} {w : World} (x : VP s A w) : List Int := x.p
def vcf {s : Nat} {A : Value} {w : World} (x y : VP s A w) : Int := cmpV (vkey x) (vkey y)
def veq {s : Nat} {A : Value} {w : World} (x y : VP s A w) : Bool := cmpV (vkey x) (vkey y) == 0
theorem venc_one {s : Nat} {A : Value} {w : World} : OneCell (venc (s := s) (A := A) (w := w)) := fun _ => rfl
theorem ltOf_iff {s : Nat} {A : Value} {w : World} (x y : VP s A w) : ltOf vcf x y = true ↔ lexlt (vkey x) (vkey y) := by
  unfold ltOf vcf
  rw [decide_eq_true_iff]
  exact cmpV_lt _ _
theorem ltOf_niff {s : Nat} {A : Value} {w : World} (x y : VP s A w) : ltOf vcf x y = false ↔ ¬ lexlt (vkey x) (vkey y) := by
  rw [← ltOf_iff]
  simp
theorem vswo {s : Nat} {A : Value} {w : World} : SWO (ltOf (vcf (s := s) (A := A) (w := w))) where
  irrefl x := (ltOf_niff x x).2 (lex_irr fun _ => rfl)
  trans x y z h1 h2 := (ltOf_iff x z).2 (lex_trans ((ltOf_iff x y).1 h1) ((ltOf_iff y z).1 h2))
  ntrans x y z h1 h2 := by
    rw [ltOf_niff] at *
    intro h
    rcases lex_or (vkey x) (vkey y) with e | e | e
    · exact h2 ((lex_eqz e fun _ => rfl).1 h)
    · exact h1 e
    · exact h2 (lex_trans e h)
theorem veq_iff {s : Nat} {A : Value} {w : World} (x y : VP s A w) : veq x y = true ↔ eqz (vkey x) (vkey y) := by
  unfold veq
  rw [beq_iff_eq]
  exact cmpV_eq _ _
theorem VP.sa {s : Nat} {A : Value} {w : World} (x : VP s A w) : SA s A w (venc x) (vkey x) := x.h1
theorem VP.len {s : Nat} {A : Value} {w : World} (x : VP s A w) : (vkey x).length ≤ 1000000 := x.h2
/-- the row laid anew turns no other block -/
theorem put_move {α : Type} [Inhabited α] {s : Nat} {A : Value} {w : World} (enc : α → Value) {blk n : Nat} (hA : A.ownBlock = some blk) (dk : Array α) : LMv s A w A ((putRow enc w blk 0 dk).drewN n) := by
  refine ⟨rfl, rfl, rfl, by simp [putRow, mapBlock, World.drewN], fun k hk _ hne => ?_, fun _ h => .inl h⟩
  have : ¬ blk = k := fun e => hne (by rw [hA, e])
  show (putRow enc w blk 0 dk).heap[k]? = _
  simp [putRow, mapBlock, Array.getElem?_modify, this]
theorem put_block {α : Type} [Inhabited α] {w : World} (enc : α → Value) {blk n k : Nat} (hne : ¬ blk = k) (dk : Array α) : ((putRow enc w blk 0 dk).drewN n).heap[k]? = w.heap[k]? := by
  show (putRow enc w blk 0 dk).heap[k]? = _
  simp [putRow, mapBlock, Array.getElem?_modify, hne]
/-- the elements of what was found -/
theorem vps {s : Nat} {A : Value} {w : World} : ∀ (vs : List Value) (ps : List (List Int)), vs.length = ps.length → (∀ j (h : j < vs.length) (h2 : j < ps.length), SA s A w vs[j] ps[j]) → (∀ p ∈ ps, p.length ≤ 1000000) → ∃ xs : List (VP s A w), xs.map venc = vs ∧ xs.map vkey = ps := by
  intro vs
  induction vs with
  | nil => intro ps hl _ _; cases ps with
           | nil => exact ⟨[], rfl, rfl⟩
           | cons p ps => simp at hl
  | cons v vs ih =>
    intro ps hl h hb
    cases ps with
    | nil => simp at hl
    | cons p ps =>
      obtain ⟨xs, h1, h2⟩ := ih ps (by simpa using hl) (fun j hj hj2 => by have := h (j + 1) (by simp; omega) (by simp; omega); simpa using this) (fun q hq => hb q (by simp [hq]))
      have h0 := h 0 (by simp) (by simp)
      simp only [List.getElem_cons_zero] at h0
      have h0' := h0
      obtain ⟨P, c, rfl, _⟩ := h0
      exact ⟨⟨P, c, p, h0', hb p (by simp)⟩ :: xs, by simp [venc, h1], by simp [vkey, h2]⟩
theorem holds_own {α : Type} [Inhabited α] {enc : α → Value} {w : World} {base e blk cap n : Nat} {xs : List α} (h : w.ownsRow base e 1 (.slice (some ⟨blk, 0, none⟩) n cap) n (xs.map enc)) : Holds enc w blk 0 xs.toArray ∧ xs.length = n ∧ n ≤ cap ∧ cap ≤ maxLen ∧ blk < w.heap.size := by
  have hl : xs.length = n := by have := h.1; simpa using this
  rcases h.2 with ⟨h0, _⟩ | ⟨g', cap', cur, h0, hb, hg, hnc, hcm, hcs, htake⟩
  · cases h0
  · injection h0 with h1 h2 h3
    injection h1 with h1
    injection h1 with h1
    subst h1
    subst h3
    refine ⟨fun j hj => ?_, hl, hnc, hcm, heap_of_cells hg⟩
    have hj' : j < xs.length := by simpa using hj
    refine ⟨?_, frozen_of_row w blk (0 + j) cur e hg⟩
    have := h.cellAt j (by omega)
    rw [Nat.zero_add]
    rw [this, List.getElem?_map, List.getElem?_eq_getElem hj', getElem!_pos _ j (by simpa using hj')]
    simp
end Go.Proofs.Ytbgabipngdillaa
