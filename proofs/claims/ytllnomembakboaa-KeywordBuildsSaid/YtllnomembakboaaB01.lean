/- Joined: Base Tm Make Sg Nq. -/
import Derived.Test.YtllnomembakboaaProg
import Derived.WalkKit
import Derived.Lib.Hide
import Derived.Deep.Draws
import Derived.Deep.QuietTactic
import Derived.BigQuiet
namespace Go.Proofs.Ytllnomembakboaa
open Go.RowKit

theorem ret_int {k : IntKind} {a b : Int} (h : a = b) : Ending.returned (.int k a) = .returned (.int k b) := by rw [h]
theorem ret_two {a b c d : Int} {k k' : IntKind} (h : a = b) (h' : c = d) : Ending.returned (.tuple #[.int k a, .int k' c]) = .returned (.tuple #[.int k b, .int k' d]) := by rw [h, h']
theorem ret_bool {a b : Bool} (h : a = b) : Ending.returned (.bool a) = .returned (.bool b) := by rw [h]

/-- the range of int -/
def i64r (x : Int) : Prop := -9223372036854775808 ≤ x ∧ x ≤ 9223372036854775807

/-- The value v is a slice of ints (nil too) below block B that reads as l. -/
def SB (B : Nat) (w : World) (v : Value) (l : List Int) : Prop :=
  ∃ A c, v = .slice A l.length c ∧ l.length ≤ c ∧ c ≤ 9223372036854775807 ∧ (∀ x ∈ l, i64r x) ∧
    (0 < l.length → ∃ b off, A = some ⟨b, off, none⟩ ∧ b < B ∧ ∀ j (h : j < l.length), w.cell? ⟨b, off + j, none⟩ = some (.int .i64 l[j]))
/-- The same, anywhere. -/
def SI (w : World) (v : Value) (l : List Int) : Prop := SB w.heap.size w v l

theorem SB.keep {B : Nat} {w w' : World} {v : Value} {l : List Int} (h : SB B w v l) (hk : ∀ p : Addr, p.block < B → w'.cell? p = w.cell? p) : SB B w' v l := by
  obtain ⟨A, c, rfl, hc, hm, hr, ha⟩ := h
  refine ⟨A, c, rfl, hc, hm, hr, fun h0 => ?_⟩
  obtain ⟨b, off, rfl, hb, hcell⟩ := ha h0
  exact ⟨b, off, rfl, hb, fun j hj => (hk _ hb).trans (hcell j hj)⟩
theorem SB.more {B B' : Nat} {w : World} {v : Value} {l : List Int} (h : SB B w v l) (hB : B ≤ B') : SB B' w v l := by
  obtain ⟨A, c, rfl, hc, hm, hr, ha⟩ := h
  refine ⟨A, c, rfl, hc, hm, hr, fun h0 => ?_⟩
  obtain ⟨b, off, rfl, hb, hcell⟩ := ha h0
  exact ⟨b, off, rfl, by omega, hcell⟩
theorem SB.below {B : Nat} {w w' : World} {v : Value} {l : List Int} (h : SB B w v l) (hb : Below B w w') : SB B w' v l := h.keep fun _ hp => hb.cell hp
theorem SI.below {w w' : World} {v : Value} {l : List Int} (h : SI w v l) (hb : Below w.heap.size w w') : SI w' v l := (SB.below h hb).more hb.size
theorem SB.si {B : Nat} {w : World} {v : Value} {l : List Int} (h : SB B w v l) (hB : B ≤ w.heap.size) : SI w v l := SB.more h hB
theorem SB.grown {B : Nat} {w w' : World} {v : Value} {l : List Int} {g : Nat} (h : SB B w v l) (hg : w.grownBy w' (some g)) (hB : B ≤ g) (hw : B ≤ w.heap.size) : SB B w' v l :=
  h.keep fun p hp => World.cell?_of_block (hg.block p.block (by omega) (by simp; omega))

theorem Below.drewN {B : Nat} {a w : World} (h : Below B a w) (n : Nat) : Below B a (w.drewN n) := ⟨h.os, h.tape, h.output, h.size, h.block⟩
theorem _root_.Go.RowKit.Below.drew_left {B : Nat} {a w : World} (h : Below B a.drew w) : Below B a w := ⟨h.os, h.tape, h.output, h.size, h.block⟩
theorem grownBy_refl (w : World) (r : Option Nat) : w.grownBy w r := ⟨rfl, rfl, rfl, Nat.le_refl _, fun _ _ _ => rfl⟩
theorem grownBy_trans {a b c : World} {r : Option Nat} (h : a.grownBy b r) (k : b.grownBy c r) : a.grownBy c r :=
  ⟨k.os.trans h.os, k.tape.trans h.tape, k.output.trans h.output, Nat.le_trans h.size k.size, fun i hi hn => (k.block i (Nat.lt_of_lt_of_le hi h.size) hn).trans (h.block i hi hn)⟩
theorem grownBy_drewN {a w : World} {r : Option Nat} (h : a.grownBy w r) (n : Nat) : a.grownBy (w.drewN n) r := ⟨h.os, h.tape, h.output, h.size, h.block⟩
theorem grownBy_setCell {a w : World} {g : Nat} (h : a.grownBy w (some g)) {p : Addr} (hp : p.block = g ∨ a.heap.size ≤ p.block) (u : Value) : a.grownBy (w.setCell p u) (some g) :=
  ⟨h.os, h.tape, h.output, by simpa [World.setCell] using h.size, fun i hi hne => (Below.heap_setCell w p u i (by
    rintro rfl
    rcases hp with hp | hp
    · exact hne (by rw [hp])
    · omega)).trans (h.block i hi hne)⟩
theorem grownBy_of_below {a w : World} (h : Below a.heap.size a w) (r : Option Nat) : a.grownBy w r := ⟨h.os, h.tape, h.output, h.size, fun i hi _ => h.block i hi⟩
theorem grownBy_alloc' {a w : World} {r : Option Nat} (h : a.grownBy w r) (o : Obj) : a.grownBy (w.alloc o) r :=
  grownBy_trans h (World.grownBy_alloc w o r)
/-- behind a step that wrote into a block of the call's own -/
theorem grownBy_own {a w w' : World} {r r' : Option Nat} (h : a.grownBy w r) (hg : w.grownBy w' r') (hr : ∀ k, r' = some k → a.heap.size ≤ k) : a.grownBy w' r :=
  ⟨hg.os.trans h.os, hg.tape.trans h.tape, hg.output.trans h.output, Nat.le_trans h.size hg.size, fun i hi hn => (hg.block i (Nat.lt_of_lt_of_le hi h.size) (fun e => by have := hr i e.symm; omega)).trans (h.block i hi hn)⟩
theorem below_of_grownBy {a w : World} {g : Nat} (h : a.grownBy w (some g)) {B : Nat} (hB : B ≤ g) (ha : B ≤ a.heap.size) : Below B a w :=
  ⟨h.os, h.tape, h.output, h.size, fun i hi => h.block i (by omega) (by simp; omega)⟩

theorem bcell {W w1 : World} (hb : Below W.heap.size W w1) : (∀ b o, b < W.heap.size → w1.cell? ⟨b, o, none⟩ = W.cell? ⟨b, o, none⟩) ∧ (∀ b o, b < W.heap.size → w1.frozen? ⟨b, o, none⟩ = W.frozen? ⟨b, o, none⟩) :=
  ⟨fun b o h => hb.cell (p := ⟨b, o, none⟩) h, fun b o h => hb.frozen (p := ⟨b, o, none⟩) h⟩

/-- a row of the call's own reads as its ints -/
theorem SI.of_own {w : World} {base : Nat} {e : TypeId} {v : Value} {l : List Int} (h : w.ownsRow base e 1 v l.length (l.map (Value.int .i64))) (hr : ∀ x ∈ l, i64r x) : SI w v l := by
  rcases h.2 with ⟨rfl, hn⟩ | ⟨g, cap, cur, rfl, hb, hg, hnc, hcm, hcs, htake⟩
  · have : l = [] := List.eq_nil_of_length_eq_zero hn
    subst this
    exact ⟨none, 0, rfl, Nat.le_refl _, by omega, hr, fun h => by simp at h⟩
  · refine ⟨_, cap, rfl, hnc, by simpa [maxLen] using hcm, hr, fun h0 => ⟨g, 0, rfl, (Array.getElem?_eq_some_iff.1 hg).1, fun j hj => ?_⟩⟩
    have := h.cellAt j (by omega)
    rw [Nat.zero_add, this]
    simp [hj]
theorem addr_add (g j : Nat) : (⟨g, 0, none⟩ : Addr).add j = ⟨g, j, none⟩ := by unfold Addr.add; split <;> simp_all
/-- the cells of a new block -/
theorem cells_new (w : World) (cs : List Value) (t : TypeId) : ∀ j u, cs[j]? = some u → (w.alloc (.cells cs.toArray t)).cell? ((⟨w.heap.size, 0, none⟩ : Addr).add j) = some u := by
  intro j u hu
  rw [addr_add, cell_of_row _ w.heap.size j cs.toArray t (0, 0) (heap_alloc_new w _)]
  simpa using hu
theorem heap_of_cells {w : World} {g : Nat} {cs : Array Value} {t : TypeId} (h : w.heap[g]? = some (.cells cs t (0, 0))) : g < w.heap.size := (Array.getElem?_eq_some_iff.1 h).1
end Go.Proofs.Ytllnomembakboaa

namespace Go.Proofs.Ytllnomembakboaa

theorem tmod_cases (n m : Int) (hm : 0 < m) : n.tmod m = n % m ∨ (n < 0 ∧ 0 < n % m ∧ n.tmod m = n % m - m) := by
  rw [Int.tmod_eq_emod]
  split
  · left; omega
  · rename_i h
    right
    have h1 : 0 ≤ n % m := Int.emod_nonneg n (by omega)
    have h2 : n % m ≠ 0 := fun e => h (.inr (Int.dvd_of_emod_eq_zero e))
    refine ⟨by omega, by omega, ?_⟩
    omega
theorem tmod_bd (n m : Int) (hm : 0 < m) : -m < n.tmod m ∧ n.tmod m < m := by
  have h1 : 0 ≤ n % m := Int.emod_nonneg n (by omega)
  have h2 : n % m < m := Int.emod_lt_of_pos n hm
  rcases tmod_cases n m hm with h | ⟨_, _, h⟩ <;> omega
theorem tmod_fix (n m : Int) (hm : 0 < m) : (n.tmod m + m).tmod m = n % m := by
  have h1 : 0 ≤ n % m := Int.emod_nonneg n (by omega)
  have h2 : n % m < m := Int.emod_lt_of_pos n hm
  rcases tmod_cases n m hm with h | ⟨_, _, h⟩
  · rw [h, Int.tmod_eq_emod_of_nonneg (by omega), Int.add_emod_right, Int.emod_emod_of_dvd _ (Int.dvd_refl m)]
  · rw [h, show n % m - m + m = n % m by omega, Int.tmod_eq_emod_of_nonneg h1, Int.emod_emod_of_dvd _ (Int.dvd_refl m)]

end Go.Proofs.Ytllnomembakboaa

namespace Go.Proofs.Ytllnomembakboaa
open Go.RowKit

def Mod (n k : Int) : Int := n % k

theorem mod_any (n k : Int) (w : World) (hk : 0 < k) (hk2 : k ≤ 4611686018427387904) :
    Calls Try.prog 25 #[.int .i64 n, .int .i64 k] w fun e w' => e = .returned (.int .i64 (n % k)) ∧ w = w' := by
  have hb := tmod_bd n k hk
  have hne : (k == 0) = false := by simp; omega
  go_enter Try.func25, Try.ntmps25
  go_wp2
  go_ret
  refine ⟨ret_int ?_, rfl⟩
  have := tmod_fix n k hk
  rw [Int.tmod_eq_emod_of_nonneg (by omega)] at this
  exact this

theorem few_any (l : List Int) (v : Value) (w : World) (h : SI w v l) :
    Calls Try.prog 10 #[v] w fun e w' => e = .returned (.bool (decide (l.length ≤ 500))) ∧ w = w' := by
  obtain ⟨A, c, rfl, hc, hm, hr, ha⟩ := h
  go_enter Try.func10, Try.ntmps10
  go_wp2
  go_ret
  exact ⟨ret_bool (by simp; omega), rfl⟩

/-- Block g is a deck. -/
def Dk (w : World) (g : Nat) : Prop :=
  ∃ L lv, ∃ k : Nat, w.heap[g]? = some (.cells #[lv, .int .i64 k] 71 (0, 0)) ∧ k ≤ L.length ∧ SB g w lv L

theorem Dk.lt {w : World} {g : Nat} (h : Dk w g) : g < w.heap.size := by obtain ⟨L, lv, k, hg, _⟩ := h; exact heap_of_cells hg
theorem Dk.of {w w' : World} {g : Nat} (h : Dk w g) (hb : ∀ i, i ≤ g → w'.heap[i]? = w.heap[i]?) : Dk w' g := by
  obtain ⟨L, lv, k, hg, hk, hl⟩ := h
  exact ⟨L, lv, k, (hb g (Nat.le_refl _)).trans hg, hk, hl.keep fun p hp => World.cell?_of_block (hb p.block (by omega))⟩
theorem Dk.below {w w' : World} {g : Nat} (h : Dk w g) (hb : Below w.heap.size w w') : Dk w' g := h.of fun i hi => hb.block i (by have := h.lt; omega)
theorem Dk.grown {w w' : World} {g : Nat} {r : Option Nat} (h : Dk w g) (hb : w.grownBy w' r) (hr : ∀ k, r = some k → g < k) : Dk w' g :=
  h.of fun i hi => hb.block i (by have := h.lt; omega) (fun e => by have := hr i e.symm; omega)
theorem Dk.alloc {w : World} {g : Nat} (h : Dk w g) (o : Obj) : Dk (w.alloc o) g := h.below ((Below.refl _ _).alloc (Nat.le_refl _) o)

theorem new_any (l : List Int) (v : Value) (w : World) (h : SI w v l) :
    Calls Try.prog 11 #[v] w fun e w' => e = .returned (.pointer (some ⟨w.heap.size, 0, none⟩)) ∧ Dk w' w.heap.size ∧ Below w.heap.size w w' ∧ w'.heap.size = w.heap.size + 1 := by
  have h' := h
  obtain ⟨A, c, rfl, hc, hm, hr, ha⟩ := h
  go_enter Try.func11, Try.ntmps11
  go_wp2
  go_ret
  exact ⟨rfl, ⟨l, _, 0, heap_alloc_new w _, Nat.zero_le _, SB.below h' ((Below.refl _ _).alloc (Nat.le_refl _) _)⟩, (Below.refl _ _).alloc (Nat.le_refl _) _, by simp⟩

theorem next_any (n : Int) (g : Nat) (w : World) (h : Dk w g) (hn : i64r n) (hn2 : n ≤ 4611686018427387904) :
    Calls Try.prog 13 #[.pointer (some ⟨g, 0, none⟩), .int .i64 n] w fun e w' => ∃ x : Int, e = .returned (.int .i64 x) ∧ (n < 1 → x = 0) ∧ (1 ≤ n → 0 ≤ x ∧ x < n) ∧ Dk w' g ∧ w.grownBy w' (some g) := by
  obtain ⟨L, lv, k, hg, hk, hl⟩ := h
  obtain ⟨A, c, rfl, hc, hm, hr, ha⟩ := id hl
  have h0 : w.cell? ⟨g, 0, none⟩ = some (.slice A L.length c) := by rw [cell_of_row w g 0 _ _ _ hg]; rfl
  have h1 : w.cell? ⟨g, 1, none⟩ = some (.int .i64 k) := by rw [cell_of_row w g 1 _ _ _ hg]; rfl
  have hf : w.frozen? ⟨g, 1, none⟩ = false := frozen_of_row w g 1 _ _ hg
  obtain ⟨hn0, hn1⟩ := hn
  by_cases hlo : n < 1
  · go_enter Try.func13, Try.ntmps13
    go_wp2
    go_quiet (fail)
    go_wp2
    go_ret
    exact ⟨0, rfl, fun _ => rfl, fun h => by omega, ⟨L, _, k, hg, hk, hl⟩, grownBy_drewN (grownBy_refl _ _) _⟩
  · by_cases hlt : k < L.length
    · obtain ⟨b, off, rfl, hb, hcell⟩ := ha (by omega)
      have hck := hcell k hlt
      have hgw := heap_of_cells hg
      have hd : decide ((L.length : Int) ≤ (k : Int)) = false := by simp; omega
      have HL := Lib.hid hl
      have HG := Lib.hid hg
      clear hcell ha hr hl hg
      go_enter Try.func13, Try.ntmps13
      go_wp2
      go_quiet (fail)
      go_wp2
      go_quiet (fail)
      go_wp2_with (refine (mod_any _ _ _ (by omega) (by omega)).mono ?_; rintro e w' ⟨rfl, rfl⟩)
      go_ret
      have hm1 : 0 ≤ L[k] % n := Int.emod_nonneg _ (by omega)
      have hm2 : L[k] % n < n := Int.emod_lt_of_pos _ (by omega)
      refine ⟨L[k] % n, rfl, fun h => by omega, fun _ => ⟨hm1, hm2⟩, ⟨L, _, k + 1, heap_setCell_same (w.drewN _) g 1 _ _ _ HG.out, by omega, ?_⟩, grownBy_setCell (grownBy_drewN (grownBy_refl _ _) _) (.inl rfl) _⟩
      exact SB.grown HL.out (grownBy_setCell (grownBy_drewN (grownBy_refl _ _) _) (.inl rfl) _) (Nat.le_refl _) (by omega)
    · have hd : decide ((L.length : Int) ≤ (k : Int)) = true := by simp; omega
      go_enter Try.func13, Try.ntmps13
      go_wp2
      go_quiet (fail)
      go_wp2
      go_ret
      exact ⟨0, rfl, fun _ => rfl, fun h => by omega, ⟨L, _, k, hg, hk, hl⟩, grownBy_drewN (grownBy_refl _ _) _⟩
end Go.Proofs.Ytllnomembakboaa

namespace Go.Proofs.Ytllnomembakboaa
open Go.RowKit

/-- A slice of structs of int fields: enc lists an element's cells. -/
def SG {α : Type} (enc : α → List Int) (sz : Nat) (B : Nat) (w : World) (v : Value) (l : List α) : Prop :=
  ∃ A c, v = .slice A l.length c ∧ l.length ≤ c ∧ c ≤ 9223372036854775807 ∧ (∀ x ∈ l, ∀ y ∈ enc x, i64r y) ∧
    (0 < l.length → ∃ b off, A = some ⟨b, off, none⟩ ∧ b < B ∧ ∀ j (h : j < l.length) i, i < sz → w.cell? ⟨b, off + (j * sz + i), none⟩ = (enc l[j])[i]?.map (Value.int .i64))
section
variable {α : Type} {enc : α → List Int} {sz : Nat}
theorem SG.keep {B : Nat} {w w' : World} {v : Value} {l : List α} (h : SG enc sz B w v l) (hk : ∀ p : Addr, p.block < B → w'.cell? p = w.cell? p) : SG enc sz B w' v l := by
  obtain ⟨A, c, rfl, hc, hm, hr, ha⟩ := h
  refine ⟨A, c, rfl, hc, hm, hr, fun h0 => ?_⟩
  obtain ⟨b, off, rfl, hb, hcell⟩ := ha h0
  exact ⟨b, off, rfl, hb, fun j hj i hi => (hk _ hb).trans (hcell j hj i hi)⟩
theorem SG.more {B B' : Nat} {w : World} {v : Value} {l : List α} (h : SG enc sz B w v l) (hB : B ≤ B') : SG enc sz B' w v l := by
  obtain ⟨A, c, rfl, hc, hm, hr, ha⟩ := h
  refine ⟨A, c, rfl, hc, hm, hr, fun h0 => ?_⟩
  obtain ⟨b, off, rfl, hb, hcell⟩ := ha h0
  exact ⟨b, off, rfl, by omega, hcell⟩
theorem SG.below {B : Nat} {w w' : World} {v : Value} {l : List α} (h : SG enc sz B w v l) (hb : Below B w w') : SG enc sz B w' v l := h.keep fun _ hp => hb.cell hp
end
theorem flatMap_get {α β : Type} (enc : α → List β) (sz : Nat) (l : List α) (hl : ∀ x ∈ l, (enc x).length = sz) (j : Nat) (hj : j < l.length) (i : Nat) (hi : i < sz) : (l.flatMap enc)[j * sz + i]? = (enc l[j])[i]? := by
  induction l generalizing j with
  | nil => simp at hj
  | cons x l ih =>
    simp only [List.flatMap_cons]
    have hx : (enc x).length = sz := hl x (by simp)
    cases j with
    | zero => simp only [Nat.zero_mul, Nat.zero_add, List.getElem_cons_zero]; rw [List.getElem?_append_left (by omega)]
    | succ j =>
      rw [List.getElem?_append_right (by rw [hx, Nat.add_mul]; omega)]
      rw [show (j + 1) * sz + i - (enc x).length = j * sz + i by rw [hx, Nat.add_mul]; omega]
      rw [ih (fun y hy => hl y (by simp [hy])) j (by simpa using hj)]
      simp
/-- a row of the call's own reads so -/
theorem SG.of_own {α : Type} {enc : α → List Int} {sz : Nat} {w : World} {base : Nat} {e : TypeId} {v : Value} {l : List α} (h : w.ownsRow base e sz v l.length ((l.flatMap enc).map (Value.int .i64)))
    (hr : ∀ x ∈ l, ∀ y ∈ enc x, i64r y) (hl : ∀ x ∈ l, (enc x).length = sz) : SG enc sz w.heap.size w v l := by
  rcases h.2 with ⟨rfl, hn⟩ | ⟨g, cap, cur, rfl, hb, hg, hnc, hcm, hcs, htake⟩
  · have : l = [] := List.eq_nil_of_length_eq_zero hn
    subst this
    exact ⟨none, 0, rfl, Nat.le_refl _, by omega, hr, fun h => by simp at h⟩
  · refine ⟨_, cap, rfl, hnc, by simpa [maxLen] using hcm, hr, fun h0 => ⟨g, 0, rfl, heap_of_cells hg, fun j hj i hi => ?_⟩⟩
    have := h.cellAt (j * sz + i) (by
      have : j * sz + sz ≤ l.length * sz := by rw [← Nat.succ_mul]; exact Nat.mul_le_mul_right _ hj
      omega)
    rw [Nat.zero_add, this, List.getElem?_map, flatMap_get enc sz l hl j hj i hi]

/-- the cells of a person -/
def pcs (p : Int × Int) : List Int := [p.1, p.2]
end Go.Proofs.Ytllnomembakboaa

namespace Go.Proofs.Ytllnomembakboaa
open Go.RowKit

/-- a world behind w -/
structure BW (w : World) where
  val : World
  h : Below w.heap.size w val
def BW.on {w : World} (p : BW w) : World := p.val
theorem BW.ok {w : World} (p : BW w) : Below w.heap.size w p.on := p.h
instance (w : World) : Nonempty (BW w) := ⟨⟨w, Below.refl _ _⟩⟩
theorem wp_region_bw {P : Program} {id : Nat} {Q : Exit → Act → World → Prop} {a : Act} {w : World} {l : List Oper} (hm : P.follows .mixedOrders = true) (hB : Region.lexB .any l.toArray = true)
    (h : wpQuiet P l.toArray (fun w' => ∃ p : BW w, w' = p.on) (fun a' => ∀ w', (∃ p : BW w, w' = p.on) → Q .normal a' w') l a) : (Code.region id l.toArray true).wp P Q a w :=
  wp_region_quiet (C := fun w' => ∃ p : BW w, w' = p.on) hm hB ⟨⟨{ w with drawn := w.drawn + 1 }, ⟨rfl, rfl, rfl, Nat.le_refl _, fun _ _ => rfl⟩⟩, rfl⟩ (by simpa using h)
theorem Calls.bw_of {P : Program} {f : FuncId} {args : Array Value} {w : World} {p : BW w} {v : Value}
    (h : Calls P f args p.on fun e w' => e = .returned v ∧ Below p.on.heap.size p.on w') : Calls P f args p.on fun e w'' => e = .returned v ∧ ∃ q : BW w, w'' = q.on :=
  h.mono fun _ w' ⟨he, hb⟩ => ⟨he, ⟨⟨w', p.h.trans (hb.mono p.h.size)⟩, rfl⟩⟩
theorem Calls.bw_same {P : Program} {f : FuncId} {args : Array Value} {w : World} {p : BW w} {v : Value}
    (h : Calls P f args p.on fun e w' => e = .returned v ∧ p.on = w') : Calls P f args p.on fun e w'' => e = .returned v ∧ ∃ q : BW w, w'' = q.on :=
  h.mono fun _ _ ⟨he, hb⟩ => ⟨he, ⟨p, hb.symm⟩⟩
end Go.Proofs.Ytllnomembakboaa
