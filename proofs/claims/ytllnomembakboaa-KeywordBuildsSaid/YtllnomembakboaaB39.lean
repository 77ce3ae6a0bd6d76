/- Joined: Rj. -/
import Derived.Deep.Slices
import Derived.Deep.Fields
import Derived.ChangeSame
import Derived.Test.YtllnomembakboaaB29
import Derived.Test.YtllnomembakboaaB04
namespace Go.Proofs.Ytllnomembakboaa
open Go.ChangeShapes Go.WideShapes Go.Deep Go.RowKit
section
variable {H : Type} {enc : TypeId × Value → H} {P : Program} {w : World} {base : Nat} {spare : Nat → Bool} {held : Bool}
theorem open_slice_fields {t e : TypeId} {fs : Array Field} {fuel : Nat} {cs : List Value} {x : DataW H × List MemPlace} (ht : P.underlying t = some (.slice e)) (he : P.underlying e = some (.struct fs))
    (hone : oneCellFields P fs = true) (hC : P.cellsOf e = fs.size) (h : DataW.trod enc P w base spare held fuel t cs = some x) :
    (cs = [.slice none 0 0] ∧ x = (.nil, [])) ∨
    ∃ (a : Addr) (len cap m : Nat) (D : Nat → DataW H) (Pl : Nat → List MemPlace), cs = [.slice (some a) len cap] ∧ base ≤ a.block ∧ len ≤ cap ∧ cap ≤ maxLen ∧ m = (if spare a.block then cap else len) ∧
      x = (.slice ((List.range len).map D) ((List.range (m - len)).map fun j => D (len + j)), MemPlace.row a (m * fs.size) ++ (List.range m).flatMap Pl) ∧
      ∀ i, i < m → ∃ (ys : List (DataW H × List MemPlace)) (n : Nat), D i = .agg (ys.map (·.1)) ∧ Pl i = ys.flatMap (·.2) ∧ ys.length = fs.size ∧
        ∀ (j : Nat) (f : Field), fs[j]? = some f → ∃ (v : Value) (y : DataW H × List MemPlace), w.cell? (a.add (i * fs.size + j)) = some v ∧ ys[j]? = some y ∧ DataW.trod enc P w base spare held n f.type [v] = some y := by
  rcases open_slice ht h with h0 | ⟨a, len, cap, m, n, D, Pl, hcs, hb, hl, hm, hmm, hx, hi⟩
  · exact .inl h0
  · refine .inr ⟨a, len, cap, m, D, Pl, hcs, hb, hl, hm, hmm, by rw [hC] at hx; exact hx, fun i him => ?_⟩
    obtain ⟨cs', hc, ht'⟩ := hi i him
    rw [hC] at hc
    obtain ⟨ys, n', hn', hy, hlen, hyl, hf⟩ := DataW.trod_struct he ht'
    obtain ⟨_, hcl, hat⟩ := World.cells?_some hc
    simp only [Prod.mk.injEq] at hy
    refine ⟨ys, n', hy.1, hy.2, hyl, fun j f hj => ?_⟩
    obtain ⟨ho, hk⟩ := hone_of hone j f hj
    have hjl : j < fs.size := (Array.getElem?_eq_some_iff.1 hj).1
    have hcell := hat j hjl
    have hv : cs'[j]? = some (cs'[j]'(by omega)) := List.getElem?_eq_getElem (by omega)
    have h1 := hf j f hj
    rw [ho, hk] at h1
    have hone' : (cs'.drop j).take 1 = [cs'[j]'(by omega)] := by
      rw [List.drop_eq_getElem_cons (by omega)]
      rfl
    rw [hone'] at h1
    have hys : ys[j]? = some (ys[j]'(by omega)) := List.getElem?_eq_getElem (by omega)
    refine ⟨_, _, ?_, hys, h1.trans hys⟩
    rw [← Go.Deep.add_add, hcell, hv]
end

/-- entries of an argument, with their sizes -/
def SEn (w : World) (v : Value) (l : List (ByteArray × Int)) : Prop := SV ecs 2 w.heap.size w v l ∧ ∀ e ∈ l, e.1.size ≤ 9223372036854775807
theorem SEn_open {H : Type} {enc : TypeId × Value → H} {w : World} {base : Nat} {spare : Nat → Bool} {held : Bool} {fuel : Nat} {A : Option Addr} {len cap : Nat} {x : DataW H × List MemPlace}
    (h : DataW.trod enc Try.prog w base spare held fuel 29 [.slice A len cap] = some x) : ∃ l, SEn w (.slice A len cap) l := by
  rcases open_slice_fields Try.underlying29 Try.underlying41 (by kernel_rfl) (by kernel_rfl) h with ⟨hcs, _⟩ | ⟨a, l, c, m, D, Pl, hcs, _, hl, hm, hmm, _, hi⟩
  · simp at hcs
    obtain ⟨rfl, rfl, rfl⟩ := hcs
    exact ⟨[], SV.nil _ _, fun e he => by simp at he⟩
  · simp at hcs
    obtain ⟨rfl, rfl, rfl⟩ := hcs
    have hlm : len ≤ m := by rw [hmm]; split <;> omega
    have hex : ∀ i, i < len → ∃ z : ByteArray × Int, z.1.size ≤ maxLen ∧ w.cell? (a.add (i * 2)) = some (.string z.1) ∧ w.cell? (a.add (i * 2 + 1)) = some (.int .i64 z.2) := by
      intro i hil
      obtain ⟨ys, n, _, _, _, hf⟩ := hi i (by omega)
      obtain ⟨v0, y0, hc0, _, ht0⟩ := hf 0 _ rfl
      obtain ⟨v1, y1, hc1, _, ht1⟩ := hf 1 _ rfl
      obtain ⟨s, hs, _, hw⟩ := DataW.trod_string Try.underlying9 ht0
      obtain ⟨q, hq, _, _⟩ := DataW.trod_int Try.underlying3 ht1
      simp at hq hs
      subst hq hs
      exact ⟨(s, q), hw, hc0, hc1⟩
    obtain ⟨f, hf⟩ : ∃ f : Nat → ByteArray × Int, ∀ i, i < len → (f i).1.size ≤ maxLen ∧ w.cell? (a.add (i * 2)) = some (.string (f i).1) ∧ w.cell? (a.add (i * 2 + 1)) = some (.int .i64 (f i).2) :=
      ⟨fun i => if h : i < len then Classical.choose (hex i h) else (⟨#[]⟩, 0), fun i hi => by
        dsimp only
        rw [dif_pos hi]
        exact Classical.choose_spec (hex i hi)⟩
    obtain ⟨b, off, spot⟩ := a
    by_cases h0 : 0 < len
    · have hc0 := (hf 0 h0).2.1
      have hspot : spot = none := by simpa [Addr.add] using World.cell?_spot (by simpa [Addr.add] using hc0)
      subst hspot
      have hadd : ∀ j, (⟨b, off, none⟩ : Addr).add j = ⟨b, off + j, none⟩ := fun j => by unfold Addr.add; split <;> simp_all
      refine ⟨(List.range len).map f, ⟨some ⟨b, off, none⟩, cap, by simp, by simpa using hl, by simpa [maxLen] using hm, fun _ => ⟨b, off, rfl, World.block_lt_of_cell? w _ (by rw [hadd] at hc0; exact hc0), fun j hj i hi2 => ?_⟩⟩, fun y hy => ?_⟩
      · have hj' : j < len := by simpa using hj
        have h1 := hf j hj'
        rw [hadd, hadd] at h1
        have h2 : i = 0 ∨ i = 1 := by omega
        simp only [List.getElem_map, List.getElem_range]
        rcases h2 with rfl | rfl
        · exact h1.2.1
        · exact h1.2.2
      · simp at hy
        obtain ⟨i, hi, rfl⟩ := hy
        have h1 := (hf i hi).1
        unfold maxLen at h1
        omega
    · have e0 : len = 0 := by omega
      subst e0
      exact ⟨[], ⟨some ⟨b, off, spot⟩, cap, rfl, by simp, by simpa [maxLen] using hm, fun h => by simp at h⟩, fun y hy => by simp at hy⟩
end Go.Proofs.Ytllnomembakboaa
