/- From the reading of an argument that is a slice of structs of ints to the words of the walks. -/
import Derived.Test.YtmglcjdigpgjlaaRow
import Derived.Test.YtmglcjdigpgjlaaPeople
import Derived.Deep.Slices
import Derived.Deep.Fields
import Derived.ChangeSame
namespace Go.Proofs.Ytmglcjdigpgjlaa
open Go.ChangeShapes Go.WideShapes Go.Deep Go.RowKit
section
variable {H : Type} {enc : TypeId × Value → H} {P : Program} {w : World} {base : Nat} {spare : Nat → Bool} {held : Bool}
theorem open_slice_fields {t e : TypeId} {fs : Array Field} {fuel : Nat} {cs : List Value} {x : DataW H × List MemPlace} (ht : P.underlying t = some (.slice e)) (he : P.underlying e = some (.struct fs))
    (hone : oneCellFields P fs = true) (hC : P.cellsOf e = fs.size) (h : DataW.trod enc P w base spare held fuel t cs = some x) :
    (cs = [.slice none 0 0] ∧ x = (.nil, [])) ∨
    ∃ (a : Addr) (len cap m : Nat) (D : Nat → DataW H) (Pl : Nat → List MemPlace), cs = [.slice (some a) len cap] ∧ base ≤ a.block ∧ len ≤ cap ∧ cap ≤ maxLen ∧ m = (if spare a.block then cap else len) ∧
      x = (.slice ((List.range len).map D) ((List.range (m - len)).map fun j => D (len + j)), MemPlace.row a (m * fs.size) ++ (List.range m).flatMap Pl) ∧
      ∀ i, i < m → ∃ (ys : List (DataW H × List MemPlace)) (n : Nat), D i = .agg (ys.map (·.1)) ∧ Pl i = ys.flatMap (·.2) ∧ ys.length = fs.size ∧
        ∀ (j : Nat) (f : Field), fs[j]? = some f → ∃ (v : Value) (y : DataW H × List MemPlace), w.cell? (a.add (i * fs.size + j)) = some v ∧ ys[j]? = some y ∧ DataW.trod enc P w base spare held n f.type [v] = some y := by
  rcases open_slice ht h with h0 | ⟨a, len, cap, m, n, D, Pl, hcs, hb, hl, hm, hmm, hx, hi⟩
  · exact .inl h0
  · refine .inr ⟨a, len, cap, m, D, Pl, hcs, hb, hl, hm, hmm, by rw [hC] at hx; exact hx, fun i him => ?_⟩
    obtain ⟨cs', hc, ht'⟩ := hi i him
    rw [hC] at hc
    obtain ⟨ys, n', hn', hy, hlen, hyl, hf⟩ := DataW.trod_struct he ht'
    obtain ⟨_, hcl, hat⟩ := World.cells?_some hc
    simp only [Prod.mk.injEq] at hy
    refine ⟨ys, n', hy.1, hy.2, hyl, fun j f hj => ?_⟩
    obtain ⟨ho, hk⟩ := hone_of hone j f hj
    have hjl : j < fs.size := (Array.getElem?_eq_some_iff.1 hj).1
    have hcell := hat j hjl
    have hv : cs'[j]? = some (cs'[j]'(by omega)) := List.getElem?_eq_getElem (by omega)
    have h1 := hf j f hj
    rw [ho, hk] at h1
    have hone' : (cs'.drop j).take 1 = [cs'[j]'(by omega)] := by
      rw [List.drop_eq_getElem_cons (by omega)]
      rfl
    rw [hone'] at h1
    have hys : ys[j]? = some (ys[j]'(by omega)) := List.getElem?_eq_getElem (by omega)
    refine ⟨_, _, ?_, hys, h1.trans hys⟩
    rw [← Go.Deep.add_add, hcell, hv]
end

/-- every field of every element of a slice of structs whose fields are all ints -/
theorem open_int_fields {H : Type} {enc : TypeId × Value → H} {P : Program} {w : World} {base : Nat} {spare : Nat → Bool} {held : Bool} {t e ti : TypeId} {fs : Array Field} {fuel : Nat} {A : Option Addr} {len cap : Nat} {x : DataW H × List MemPlace}
    (ht : P.underlying t = some (.slice e)) (he : P.underlying e = some (.struct fs)) (hti : P.underlying ti = some (.int .i64)) (hall : ∀ (j : Nat) (f : Field), fs[j]? = some f → f.type = ti)
    (hone : oneCellFields P fs = true) (hC : P.cellsOf e = fs.size) (hpos : 0 < fs.size) (h : DataW.trod enc P w base spare held fuel t [.slice A len cap] = some x) :
    len ≤ cap ∧ cap ≤ maxLen ∧ ∃ F : Nat → Nat → Int, (∀ i j, i64r (F i j)) ∧ (0 < len → ∃ b off, A = some ⟨b, off, none⟩ ∧ b < w.heap.size ∧ ∀ i, i < len → ∀ j, j < fs.size → w.cell? ⟨b, off + (i * fs.size + j), none⟩ = some (.int .i64 (F i j))) := by
  rcases open_slice_fields ht he hone hC h with ⟨hcs, _⟩ | ⟨a, l, c, m, D, Pl, hcs, _, hl, hm, hmm, _, hi⟩
  · simp at hcs
    obtain ⟨rfl, rfl, rfl⟩ := hcs
    exact ⟨Nat.le_refl _, Nat.zero_le _, fun _ _ => 0, fun _ _ => ⟨by show (_ : Int) ≤ 0; omega, by show (0 : Int) ≤ _; omega⟩, fun h => absurd h (by omega)⟩
  · simp at hcs
    obtain ⟨rfl, rfl, rfl⟩ := hcs
    have hlm : len ≤ m := by rw [hmm]; split <;> omega
    have hex : ∀ i j, i < len → j < fs.size → ∃ n : Int, i64r n ∧ w.cell? (a.add (i * fs.size + j)) = some (.int .i64 n) := by
      intro i j hil hj
      obtain ⟨ys, n, _, _, _, hf⟩ := hi i (by omega)
      obtain ⟨v, y, hcell, _, ht'⟩ := hf j fs[j] (Array.getElem?_eq_getElem hj)
      have hT := hall j fs[j] (Array.getElem?_eq_getElem hj)
      rw [hT] at ht'
      obtain ⟨q, hq, _, hw⟩ := DataW.trod_int hti ht'
      simp at hq
      subst hq
      exact ⟨q, i64r_wf hw, hcell⟩
    refine ⟨hl, hm, fun i j => if hh : i < len ∧ j < fs.size then Classical.choose (hex i j hh.1 hh.2) else 0, fun i j => ?_, fun h0 => ?_⟩
    · dsimp only
      split
      · rename_i hh; exact (Classical.choose_spec (hex i j hh.1 hh.2)).1
      · unfold i64r; omega
    · obtain ⟨b, off, spot⟩ := a
      obtain ⟨q0, _, hc0⟩ := hex 0 0 h0 hpos
      have hspot : spot = none := by simpa [Addr.add] using World.cell?_spot (by simpa [Addr.add] using hc0)
      subst hspot
      have hadd : ∀ j, (⟨b, off, none⟩ : Addr).add j = ⟨b, off + j, none⟩ := fun j => by unfold Addr.add; split <;> simp_all
      refine ⟨b, off, rfl, World.block_lt_of_cell? w _ (by rw [hadd] at hc0; exact hc0), fun i hil j hj => ?_⟩
      have := (Classical.choose_spec (hex i j hil hj)).2
      dsimp only
      rw [dif_pos ⟨hil, hj⟩, ← hadd]
      exact this

theorem SP_open {H : Type} {enc : TypeId × Value → H} {w : World} {base : Nat} {spare : Nat → Bool} {held : Bool} {fuel : Nat} {A : Option Addr} {len cap : Nat} {x : DataW H × List MemPlace}
    (h : DataW.trod enc Try.prog w base spare held fuel 23 [.slice A len cap] = some x) : ∃ l, SP w.heap.size w (.slice A len cap) l := by
  obtain ⟨hl, hm, F, hF, hc⟩ := open_int_fields Try.underlying23 Try.underlying31 Try.underlying3 (by
    intro j f hf
    have hj : j < 2 := (Array.getElem?_eq_some_iff.1 hf).1
    have h2 : j = 0 ∨ j = 1 := by omega
    rcases h2 with rfl | rfl <;> (simp at hf; subst hf; rfl)) (by kernel_rfl) (by kernel_rfl) (by decide) h
  refine ⟨(List.range len).map fun i => (F i 0, F i 1), A, cap, by simp, by simpa using hl, by simpa [maxLen] using hm, fun y hy z hz => ?_, fun h0 => ?_⟩
  · simp at hy
    obtain ⟨i, _, rfl⟩ := hy
    simp [pcs] at hz
    rcases hz with rfl | rfl <;> exact hF _ _
  · obtain ⟨b, off, rfl, hb, hcell⟩ := hc (by simpa using h0)
    refine ⟨b, off, rfl, hb, fun j hj i hi => ?_⟩
    have := hcell j (by simpa using hj) i hi
    refine this.trans ?_
    have h2 : i = 0 ∨ i = 1 := by omega
    rcases h2 with rfl | rfl <;> simp [pcs]
end Go.Proofs.Ytmglcjdigpgjlaa
