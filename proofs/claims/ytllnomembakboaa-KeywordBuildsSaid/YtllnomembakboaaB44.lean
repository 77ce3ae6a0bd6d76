/- Joined: Rs. -/
import Derived.Lib.SmallJoins
import Derived.Test.YtllnomembakboaaB39
import Derived.Test.YtllnomembakboaaB10
namespace Go.Proofs.Ytllnomembakboaa
open Go.ChangeShapes Go.WideShapes Go.Deep Go.RowKit Go.Joins
section
variable {H : Type} {enc : TypeId × Value → H} {P : Program} {w : World} {base : Nat} {spare : Nat → Bool} {held : Bool}
theorem open_int_fields {H : Type} {enc : TypeId × Value → H} {P : Program} {w : World} {base : Nat} {spare : Nat → Bool} {held : Bool} {t e ti : TypeId} {fs : Array Field} {fuel : Nat} {A : Option Addr} {len cap : Nat} {x : DataW H × List MemPlace}
    (ht : P.underlying t = some (.slice e)) (he : P.underlying e = some (.struct fs)) (hti : P.underlying ti = some (.int .i64)) (hall : ∀ (j : Nat) (f : Field), fs[j]? = some f → f.type = ti)
    (hone : oneCellFields P fs = true) (hC : P.cellsOf e = fs.size) (hpos : 0 < fs.size) (h : DataW.trod enc P w base spare held fuel t [.slice A len cap] = some x) :
    len ≤ cap ∧ cap ≤ maxLen ∧ ∃ F : Nat → Nat → Int, (∀ i j, i64r (F i j)) ∧ (0 < len → ∃ b off, A = some ⟨b, off, none⟩ ∧ b < w.heap.size ∧ ∀ i, i < len → ∀ j, j < fs.size → w.cell? ⟨b, off + (i * fs.size + j), none⟩ = some (.int .i64 (F i j))) := by
  rcases open_slice_fields ht he hone hC h with ⟨hcs, _⟩ | ⟨a, l, c, m, D, Pl, hcs, _, hl, hm, hmm, _, hi⟩
  · simp at hcs
    obtain ⟨rfl, rfl, rfl⟩ := hcs
    exact ⟨Nat.le_refl _, Nat.zero_le _, fun _ _ => 0, fun _ _ => ⟨by show (_ : Int) ≤ 0; omega, by show (0 : Int) ≤ _; omega⟩, fun h => absurd h (by omega)⟩
  · simp at hcs
    obtain ⟨rfl, rfl, rfl⟩ := hcs
    have hlm : len ≤ m := by rw [hmm]; split <;> omega
    have hex : ∀ i j, i < len → j < fs.size → ∃ n : Int, i64r n ∧ w.cell? (a.add (i * fs.size + j)) = some (.int .i64 n) := by
      intro i j hil hj
      obtain ⟨ys, n, _, _, _, hf⟩ := hi i (by omega)
      obtain ⟨v, y, hcell, _, ht'⟩ := hf j fs[j] (Array.getElem?_eq_getElem hj)
      have hT := hall j fs[j] (Array.getElem?_eq_getElem hj)
      rw [hT] at ht'
      obtain ⟨q, hq, _, hw⟩ := DataW.trod_int hti ht'
      simp at hq
      subst hq
      exact ⟨q, i64r_wf hw, hcell⟩
    refine ⟨hl, hm, fun i j => if hh : i < len ∧ j < fs.size then Classical.choose (hex i j hh.1 hh.2) else 0, fun i j => ?_, fun h0 => ?_⟩
    · dsimp only
      split
      · rename_i hh; exact (Classical.choose_spec (hex i j hh.1 hh.2)).1
      · unfold i64r; omega
    · obtain ⟨b, off, spot⟩ := a
      obtain ⟨q0, _, hc0⟩ := hex 0 0 h0 hpos
      have hspot : spot = none := by simpa [Addr.add] using World.cell?_spot (by simpa [Addr.add] using hc0)
      subst hspot
      have hadd : ∀ j, (⟨b, off, none⟩ : Addr).add j = ⟨b, off + j, none⟩ := fun j => by unfold Addr.add; split <;> simp_all
      refine ⟨b, off, rfl, World.block_lt_of_cell? w _ (by rw [hadd] at hc0; exact hc0), fun i hil j hj => ?_⟩
      have := (Classical.choose_spec (hex i j hil hj)).2
      dsimp only
      rw [dif_pos ⟨hil, hj⟩, ← hadd]
      exact this

theorem SShare_open {fuel : Nat} {A : Option Addr} {len cap : Nat} {x : DataW H × List MemPlace}
    (h : DataW.trod enc Try.prog w base spare held fuel 23 [.slice A len cap] = some x) : ∃ l, SG pcs 2 w.heap.size w (.slice A len cap) l := by
  obtain ⟨hl, hm, F, hF, hc⟩ := open_int_fields Try.underlying23 Try.underlying69 Try.underlying3 (by
    intro j f hf
    have hj : j < 2 := (Array.getElem?_eq_some_iff.1 hf).1
    have h2 : j = 0 ∨ j = 1 := by omega
    rcases h2 with rfl | rfl <;> (simp at hf; subst hf; rfl)) (by kernel_rfl) (by kernel_rfl) (by decide) h
  refine ⟨(List.range len).map fun i => (F i 0, F i 1), A, cap, by simp, by simpa using hl, by simpa [maxLen] using hm, fun y hy z hz => ?_, fun h0 => ?_⟩
  · simp at hy
    obtain ⟨i, _, rfl⟩ := hy
    simp [pcs] at hz
    rcases hz with rfl | rfl <;> exact hF _ _
  · obtain ⟨b, off, rfl, hb, hcell⟩ := hc (by simpa using h0)
    refine ⟨b, off, rfl, hb, fun j hj i hi => ?_⟩
    have := hcell j (by simpa using hj) i hi
    refine this.trans ?_
    have h2 : i = 0 ∨ i = 1 := by omega
    rcases h2 with rfl | rfl <;> simp [pcs]
theorem slice_of_trod {t e : TypeId} {fuel : Nat} {v : Value} {x : DataW H × List MemPlace} (ht : P.underlying t = some (.slice e)) (h : DataW.trod enc P w base spare held fuel t [v] = some x) : ∃ A n c, v = .slice A n c := by
  rcases DataW.trod_slice ht h with ⟨hcs, _⟩ | ⟨a, len, cap, _, _, _, _, hcs, _⟩
  · simp at hcs
    exact ⟨_, _, _, hcs⟩
  · simp at hcs
    exact ⟨_, _, _, hcs⟩
end
theorem addr_of_cell {w : World} {a : Addr} {v : Value} (h : w.cell? (a.add 0) = some v) : ∃ b off, a = ⟨b, off, none⟩ := by
  obtain ⟨b, o, s⟩ := a
  have hs : s = none := by simpa [Addr.add] using World.cell?_spot h
  subst hs
  exact ⟨b, o, rfl⟩
section
variable {H : Type} {enc : TypeId × Value → H} {w : World}
theorem SBk_open {fuel : Nat} {v : Value} {x : DataW H × List MemPlace} (h : DataW.trod enc Try.prog w 0 (fun _ => true) true fuel 26 [v] = some x) :
    ∃ ls, SLe w.heap.size w v ls ∧ ∀ l ∈ ls, ∀ e ∈ l, e.1.size ≤ 9223372036854775807 := by
  rcases open_slice1 Try.underlying26 (by kernel_rfl) h with ⟨hcs, _⟩ | ⟨a, len, cap, m, n, V, D, Pl, hcs, _, hl, hm, hmm, _, hx⟩
  · simp at hcs
    subst hcs
    exact ⟨[], ⟨[], rfl, SV.nil _ _, fun j h => by simp at h⟩, fun l h => by simp at h⟩
  · simp at hcs
    subst hcs
    simp only [if_true] at hmm
    rw [hmm] at hx
    have key : ∀ i, i < len → ∃ l : List (ByteArray × Int), SEn w (V i) l := fun i hi => by
      obtain ⟨A, n', c, e⟩ := slice_of_trod Try.underlying29 (hx i (by omega)).2
      have h2 := (hx i (by omega)).2
      rw [e] at h2 ⊢
      exact SEn_open h2
    obtain ⟨L, hL⟩ : ∃ L : Nat → List (ByteArray × Int), ∀ i, i < len → SEn w (V i) (L i) := by
      refine ⟨fun i => if h : i < len then Classical.choose (key i h) else [], fun i hi => ?_⟩
      simp only [dif_pos hi]
      exact Classical.choose_spec (key i hi)
    refine ⟨(List.range len).map L, ⟨(List.range len).map V, by simp, ⟨some a, cap, by simp, by simpa using hl, by simpa [maxLen] using hm, fun h0 => ?_⟩, fun j h1 h2 => ?_⟩, fun l hl2 e he => ?_⟩
    · have h0' : 0 < len := by simpa using h0
      obtain ⟨b, off, rfl⟩ := addr_of_cell (hx 0 (by omega)).1
      refine ⟨b, off, rfl, World.block_lt_of_cell? w _ (hx 0 (by omega)).1, fun j hj i hi => ?_⟩
      have hj' : j < len := by simpa using hj
      obtain rfl : i = 0 := by omega
      have hc := (hx j (by omega)).1
      rw [Go.WideShapes.add_plain] at hc
      simpa [one] using hc
    · have hj' : j < len := by simpa using h1
      simpa using (hL j hj').1
    · simp at hl2
      obtain ⟨i, hi, rfl⟩ := hl2
      exact (hL i hi).2 e he
/-- a directory as it came in -/
def SDir (w : World) (v : Value) : Prop :=
  ∃ (B : Int) (ps : List (Int × Int)) (s : Int) (bs : List (List (ByteArray × Int))) (pv ev : Value), v = .agg #[.int .i64 B, pv, .int .i64 s, ev] ∧ SG pcs 2 w.heap.size w pv ps ∧ SLe w.heap.size w ev bs ∧ ∀ l ∈ bs, ∀ e ∈ l, e.1.size ≤ 9223372036854775807
set_option maxRecDepth 100000 in
theorem SDir_open {r : Reach} {b0 : Nat} {v : Value} {d : DataW H} {p : List MemPlace} (hv : Value.okWide Try.prog w r b0 28 v) (h : DataW.Trod enc Try.prog w 0 (fun _ => true) true 28 v d p) : SDir w v := by
  obtain ⟨cs, rfl, hsz⟩ := okWide_struct Try.underlying28 hv
  obtain ⟨c0, c1, c2, c3, rfl⟩ := array4 (hsz.trans (show Try.prog.cellsOf 28 = 4 by kernel_rfl))
  obtain ⟨fuel, hf⟩ := h
  obtain ⟨y0, y1, y2, n, _, _, h0, h1, h2⟩ := trod_struct3 Try.underlying28 hf
  have k0 : Try.prog.cellsOf 25 = 2 := by kernel_rfl
  have k1 : Try.prog.cellsOf 3 = 1 := by kernel_rfl
  have k2 : Try.prog.cellsOf 26 = 1 := by kernel_rfl
  have k3 : Try.prog.cellsOf 23 = 1 := by kernel_rfl
  have h0' : DataW.trod enc Try.prog w 0 (fun _ => true) true n 25 [c0, c1] = some y0 := by simpa [Value.cells, k0] using h0
  have h1' : DataW.trod enc Try.prog w 0 (fun _ => true) true n 3 [c2] = some y1 := by simpa [Value.cells, k1] using h1
  have h2' : DataW.trod enc Try.prog w 0 (fun _ => true) true n 26 [c3] = some y2 := by simpa [Value.cells, k2] using h2
  obtain ⟨z0, z1, n', _, _, g0, g1⟩ := trod_struct2 Try.underlying25 h0'
  have g0' : DataW.trod enc Try.prog w 0 (fun _ => true) true n' 3 [c0] = some z0 := by simpa [k1] using g0
  have g1' : DataW.trod enc Try.prog w 0 (fun _ => true) true n' 23 [c1] = some z1 := by simpa [k3] using g1
  obtain ⟨B, hB, _, _⟩ := DataW.trod_int Try.underlying3 g0'
  obtain ⟨s, hs, _, _⟩ := DataW.trod_int Try.underlying3 h1'
  simp at hB hs
  subst hB hs
  obtain ⟨A1, n1, c1', rfl⟩ := slice_of_trod Try.underlying23 g1'
  obtain ⟨ps, hps⟩ := SShare_open g1'
  obtain ⟨bs, hbs, hk⟩ := SBk_open h2'
  exact ⟨B, ps, s, bs, _, _, rfl, hps, hbs, hk⟩
end
end Go.Proofs.Ytllnomembakboaa
