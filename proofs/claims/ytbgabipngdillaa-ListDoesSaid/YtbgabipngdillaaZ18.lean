/- Joined: Make. -/
import Derived.Test.YtbgabipngdillaaZ01
namespace Go.Proofs.Ytbgabipngdillaa
open Go.RowKit

def Mod (n k : Int) : Int := n % k

theorem mod_any (n k : Int) (w : World) (hk : 0 < k) (hk2 : k ≤ 4611686018427387904) :
    Calls Try.prog 22 #[.int .i64 n, .int .i64 k] w fun e w' => e = .returned (.int .i64 (n % k)) ∧ w = w' := by
  have hb := tmod_bd n k hk
  have hne : (k == 0) = false := by simp; omega
  go_enter Try.func22, Try.ntmps22
  go_wp2
  go_ret
  refine ⟨ret_int ?_, rfl⟩
  have := tmod_fix n k hk
  rw [Int.tmod_eq_emod_of_nonneg (by omega)] at this
  exact this

theorem few_any (l : List Int) (v : Value) (w : World) (h : SI w v l) :
    Calls Try.prog 9 #[v] w fun e w' => e = .returned (.bool (decide (l.length ≤ 500))) ∧ w = w' := by
  obtain ⟨A, c, rfl, hc, hm, hr, ha⟩ := h
  go_enter Try.func9, Try.ntmps9
  go_wp2
  go_ret
  exact ⟨ret_bool (by simp; omega), rfl⟩

/-- Block g is a deck. -/
def Dk (w : World) (g : Nat) : Prop :=
  ∃ L lv, ∃ k : Nat, w.heap[g]? = some (.cells #[lv, .int .i64 k] 70 (0, 0)) ∧ k ≤ L.length ∧ SB g w lv L

theorem Dk.lt {w : World} {g : Nat} (h : Dk w g) : g < w.heap.size := by obtain ⟨L, lv, k, hg, _⟩ := h; exact heap_of_cells hg
theorem Dk.of {w w' : World} {g : Nat} (h : Dk w g) (hb : ∀ i, i ≤ g → w'.heap[i]? = w.heap[i]?) : Dk w' g := by
  obtain ⟨L, lv, k, hg, hk, hl⟩ := h
  exact ⟨L, lv, k, (hb g (Nat.le_refl _)).trans hg, hk, hl.keep fun p hp => World.cell?_of_block (hb p.block (by omega))⟩
theorem Dk.below {w w' : World} {g : Nat} (h : Dk w g) (hb : Below w.heap.size w w') : Dk w' g := h.of fun i hi => hb.block i (by have := h.lt; omega)
theorem Dk.grown {w w' : World} {g : Nat} {r : Option Nat} (h : Dk w g) (hb : w.grownBy w' r) (hr : ∀ k, r = some k → g < k) : Dk w' g :=
  h.of fun i hi => hb.block i (by have := h.lt; omega) (fun e => by have := hr i e.symm; omega)
theorem Dk.alloc {w : World} {g : Nat} (h : Dk w g) (o : Obj) : Dk (w.alloc o) g := h.below ((Below.refl _ _).alloc (Nat.le_refl _) o)

theorem new_any (l : List Int) (v : Value) (w : World) (h : SI w v l) :
    Calls Try.prog 11 #[v] w fun e w' => e = .returned (.pointer (some ⟨w.heap.size, 0, none⟩)) ∧ Dk w' w.heap.size ∧ Below w.heap.size w w' ∧ w'.heap.size = w.heap.size + 1 := by
  have h' := h
  obtain ⟨A, c, rfl, hc, hm, hr, ha⟩ := h
  go_enter Try.func11, Try.ntmps11
  go_wp2
  go_ret
  exact ⟨rfl, ⟨l, _, 0, heap_alloc_new w _, Nat.zero_le _, SB.below h' ((Below.refl _ _).alloc (Nat.le_refl _) _)⟩, (Below.refl _ _).alloc (Nat.le_refl _) _, by simp⟩

theorem next_any (n : Int) (g : Nat) (w : World) (h : Dk w g) (hn : i64r n) (hn2 : n ≤ 4611686018427387904) :
    Calls Try.prog 21 #[.pointer (some ⟨g, 0, none⟩), .int .i64 n] w fun e w' => ∃ x : Int, e = .returned (.int .i64 x) ∧ (n < 1 → x = 0) ∧ (1 ≤ n → 0 ≤ x ∧ x < n) ∧ Dk w' g ∧ w.grownBy w' (some g) := by
  obtain ⟨L, lv, k, hg, hk, hl⟩ := h
  obtain ⟨A, c, rfl, hc, hm, hr, ha⟩ := id hl
  have h0 : w.cell? ⟨g, 0, none⟩ = some (.slice A L.length c) := by rw [cell_of_row w g 0 _ _ _ hg]; rfl
  have h1 : w.cell? ⟨g, 1, none⟩ = some (.int .i64 k) := by rw [cell_of_row w g 1 _ _ _ hg]; rfl
  have hf : w.frozen? ⟨g, 1, none⟩ = false := frozen_of_row w g 1 _ _ hg
  obtain ⟨hn0, hn1⟩ := hn
  by_cases hlo : n < 1
  · go_enter Try.func21, Try.ntmps21
    go_wp2
    go_quiet (fail)
    go_wp2
    go_ret
    exact ⟨0, rfl, fun _ => rfl, fun h => by omega, ⟨L, _, k, hg, hk, hl⟩, grownBy_drewN (grownBy_refl _ _) _⟩
  · by_cases hlt : k < L.length
    · obtain ⟨b, off, rfl, hb, hcell⟩ := ha (by omega)
      have hck := hcell k hlt
      have hgw := heap_of_cells hg
      have hd : decide ((L.length : Int) ≤ (k : Int)) = false := by simp; omega
      have HL := Lib.hid hl
      have HG := Lib.hid hg
      clear hcell ha hr hl hg
      go_enter Try.func21, Try.ntmps21
      go_wp2
      go_quiet (fail)
      go_wp2
      go_quiet (fail)
      go_wp2_with (refine (mod_any _ _ _ (by omega) (by omega)).mono ?_; rintro e w' ⟨rfl, rfl⟩)
      go_ret
      have hm1 : 0 ≤ L[k] % n := Int.emod_nonneg _ (by omega)
      have hm2 : L[k] % n < n := Int.emod_lt_of_pos _ (by omega)
      refine ⟨L[k] % n, rfl, fun h => by omega, fun _ => ⟨hm1, hm2⟩, ⟨L, _, k + 1, heap_setCell_same (w.drewN _) g 1 _ _ _ HG.out, by omega, ?_⟩, grownBy_setCell (grownBy_drewN (grownBy_refl _ _) _) (.inl rfl) _⟩
      exact SB.grown HL.out (grownBy_setCell (grownBy_drewN (grownBy_refl _ _) _) (.inl rfl) _) (Nat.le_refl _) (by omega)
    · have hd : decide ((L.length : Int) ≤ (k : Int)) = true := by simp; omega
      go_enter Try.func21, Try.ntmps21
      go_wp2
      go_quiet (fail)
      go_wp2
      go_ret
      exact ⟨0, rfl, fun _ => rfl, fun h => by omega, ⟨L, _, k, hg, hk, hl⟩, grownBy_drewN (grownBy_refl _ _) _⟩
end Go.Proofs.Ytbgabipngdillaa
