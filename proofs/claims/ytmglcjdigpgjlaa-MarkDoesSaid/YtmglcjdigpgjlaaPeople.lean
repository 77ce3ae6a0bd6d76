/- People that the deck makes: IDs 1, 2 and so on, ascending secrets. -/
import Derived.Test.YtmglcjdigpgjlaaMake
namespace Go.Proofs.Ytmglcjdigpgjlaa
open Go.RowKit

/-- A slice of structs of int fields: enc lists an element's cells. -/
def SG {α : Type} (enc : α → List Int) (sz : Nat) (B : Nat) (w : World) (v : Value) (l : List α) : Prop :=
  ∃ A c, v = .slice A l.length c ∧ l.length ≤ c ∧ c ≤ 9223372036854775807 ∧ (∀ x ∈ l, ∀ y ∈ enc x, i64r y) ∧
    (0 < l.length → ∃ b off, A = some ⟨b, off, none⟩ ∧ b < B ∧ ∀ j (h : j < l.length) i, i < sz → w.cell? ⟨b, off + (j * sz + i), none⟩ = (enc l[j])[i]?.map (Value.int .i64))
section
variable {α : Type} {enc : α → List Int} {sz : Nat}
theorem SG.keep {B : Nat} {w w' : World} {v : Value} {l : List α} (h : SG enc sz B w v l) (hk : ∀ p : Addr, p.block < B → w'.cell? p = w.cell? p) : SG enc sz B w' v l := by
  obtain ⟨A, c, rfl, hc, hm, hr, ha⟩ := h
  refine ⟨A, c, rfl, hc, hm, hr, fun h0 => ?_⟩
  obtain ⟨b, off, rfl, hb, hcell⟩ := ha h0
  exact ⟨b, off, rfl, hb, fun j hj i hi => (hk _ hb).trans (hcell j hj i hi)⟩
theorem SG.more {B B' : Nat} {w : World} {v : Value} {l : List α} (h : SG enc sz B w v l) (hB : B ≤ B') : SG enc sz B' w v l := by
  obtain ⟨A, c, rfl, hc, hm, hr, ha⟩ := h
  refine ⟨A, c, rfl, hc, hm, hr, fun h0 => ?_⟩
  obtain ⟨b, off, rfl, hb, hcell⟩ := ha h0
  exact ⟨b, off, rfl, by omega, hcell⟩
theorem SG.below {B : Nat} {w w' : World} {v : Value} {l : List α} (h : SG enc sz B w v l) (hb : Below B w w') : SG enc sz B w' v l := h.keep fun _ hp => hb.cell hp
end
theorem flatMap_get {α β : Type} (enc : α → List β) (sz : Nat) (l : List α) (hl : ∀ x ∈ l, (enc x).length = sz) (j : Nat) (hj : j < l.length) (i : Nat) (hi : i < sz) : (l.flatMap enc)[j * sz + i]? = (enc l[j])[i]? := by
  induction l generalizing j with
  | nil => simp at hj
  | cons x l ih =>
    simp only [List.flatMap_cons]
    have hx : (enc x).length = sz := hl x (by simp)
    cases j with
    | zero => simp only [Nat.zero_mul, Nat.zero_add, List.getElem_cons_zero]; rw [List.getElem?_append_left (by omega)]
    | succ j =>
      rw [List.getElem?_append_right (by rw [hx, Nat.add_mul]; omega)]
      rw [show (j + 1) * sz + i - (enc x).length = j * sz + i by rw [hx, Nat.add_mul]; omega]
      rw [ih (fun y hy => hl y (by simp [hy])) j (by simpa using hj)]
      simp
/-- a row of the call's own reads so -/
theorem SG.of_own {α : Type} {enc : α → List Int} {sz : Nat} {w : World} {base : Nat} {e : TypeId} {v : Value} {l : List α} (h : w.ownsRow base e sz v l.length ((l.flatMap enc).map (Value.int .i64)))
    (hr : ∀ x ∈ l, ∀ y ∈ enc x, i64r y) (hl : ∀ x ∈ l, (enc x).length = sz) : SG enc sz w.heap.size w v l := by
  rcases h.2 with ⟨rfl, hn⟩ | ⟨g, cap, cur, rfl, hb, hg, hnc, hcm, hcs, htake⟩
  · have : l = [] := List.eq_nil_of_length_eq_zero hn
    subst this
    exact ⟨none, 0, rfl, Nat.le_refl _, by omega, hr, fun h => by simp at h⟩
  · refine ⟨_, cap, rfl, hnc, by simpa [maxLen] using hcm, hr, fun h0 => ⟨g, 0, rfl, heap_of_cells hg, fun j hj i hi => ?_⟩⟩
    have := h.cellAt (j * sz + i) (by
      have : j * sz + sz ≤ l.length * sz := by rw [← Nat.succ_mul]; exact Nat.mul_le_mul_right _ hj
      omega)
    rw [Nat.zero_add, this, List.getElem?_map, flatMap_get enc sz l hl j hj i hi]

/-- the cells of a person -/
def pcs (p : Int × Int) : List Int := [p.1, p.2]
abbrev SP (B : Nat) (w : World) (v : Value) (l : List (Int × Int)) : Prop := SG pcs 2 B w v l

theorem pinfo : (Try.prog.info? 31).map (fun i => (i.zero, i.size, i.bytes)) = some (some (.agg #[.int .i64 0, .int .i64 0]), 2, 16) := by kernel_rfl

/-- People as the deck makes them. -/
def Ppl (l : List (Int × Int)) : Prop :=
  (∀ k (h : k < l.length), l[k].1 = k + 1) ∧ (∀ k (h : k < l.length), 1 ≤ l[k].2 ∧ l[k].2 ≤ 50 * l.length) ∧ ∀ j k (hj : j < k) (hk : k < l.length), (l[j]'(by omega)).2 < l[k].2
theorem Ppl_nil : Ppl [] := ⟨by simp, by simp, by simp⟩
theorem Ppl_snoc {l : List (Int × Int)} {s x : Int} (h : Ppl l) (h1 : ∀ k (h : k < l.length), l[k].2 ≤ s) (h2 : 0 ≤ s ∧ s ≤ 50 * l.length) (hx : 0 ≤ x ∧ x < 50) :
    Ppl (l ++ [((l.length : Int) + 1, s + (1 + x))]) := by
  obtain ⟨a, b, c⟩ := h
  refine ⟨fun k hk => ?_, fun k hk => ?_, fun j k hj hk => ?_⟩
  · simp only [List.length_append, List.length_cons, List.length_nil] at hk
    by_cases hl : k < l.length
    · rw [List.getElem_append_left hl]; exact a k hl
    · have : k = l.length := by omega
      subst this
      simp
  · simp only [List.length_append, List.length_cons, List.length_nil] at hk ⊢
    by_cases hl : k < l.length
    · rw [List.getElem_append_left hl]; have := b k hl; omega
    · have : k = l.length := by omega
      subst this
      simp
      omega
  · simp only [List.length_append, List.length_cons, List.length_nil] at hk
    rw [List.getElem_append_left (show j < l.length by omega)]
    by_cases hl : k < l.length
    · rw [List.getElem_append_left hl]; exact c j k hj hl
    · have : k = l.length := by omega
      subst this
      have := h1 j hj
      simp
      omega

def PRel (w : World) (g n : Nat) (l : List (Int × Int)) (v s i : Value) (wr : World) : Prop :=
  l.length ≤ n ∧ i = .int .i64 ((l.length : Int) + 1) ∧ Ppl l ∧ (∃ S : Int, s = .int .i64 S ∧ (∀ k (h : k < l.length), l[k].2 ≤ S) ∧ 0 ≤ S ∧ S ≤ 50 * l.length) ∧
      wr.ownsRow w.heap.size 31 2 v l.length ((l.flatMap pcs).map (Value.int .i64)) ∧ Dk wr g ∧ w.grownBy wr (some g)

set_option maxHeartbeats 1000000 in
theorem people_any (n : Nat) (g : Nat) (w : World) (h : Dk w g) (hn : n ≤ 1000) :
    Calls Try.prog 15 #[.pointer (some ⟨g, 0, none⟩), .int .i64 n] w fun e w' => ∃ v l, e = .returned v ∧ l.length = n ∧ Ppl l ∧ w'.ownsRow w.heap.size 31 2 v n ((l.flatMap pcs).map (Value.int .i64)) ∧ Dk w' g ∧ w.grownBy w' (some g) := by
  obtain ⟨i0, hi0, hz0, hz1, hz2⟩ := info_parts pinfo
  go_enter Try.func15, Try.ntmps15
  go_wp2
  go_loopw [5, 6, 7] (fun v s i wr => ∃ l : List (Int × Int), PRel w g n l v s i wr) (fun _ _ i _ => n + 1 - (intOf i).toNat)
  case atStart => exact ⟨[], by simp, rfl, Ppl_nil, ⟨0, rfl, by simp, by omega, by simp⟩, World.ownsRow_nil _ _ _ _, h, grownBy_refl _ _⟩
  case round =>
    obtain ⟨l, hl, rfl, hp, ⟨S, rfl, hS, hS0, hS1⟩, hown, hdk, hgr⟩ := hrel
    have hgw := h.lt
    have hnb : ∀ k, u5.ownBlock = some k → w.heap.size ≤ k := fun k hk => (hown.lt k hk).1
    by_cases hlt : l.length < n
    · have HP := Lib.hid hp
      have HS := Lib.hid hS
      clear hp hS
      go_wp2_with fail
      refine (next_any 50 g _ hdk (by unfold i64r; omega) (by omega)).mono ?_; rintro e w1 ⟨x, rfl, _, hx, hdk1, hg1⟩
      have hx := hx (by omega)
      have hown1 := hown.kept hg1 (.inr (fun e => by have := hnb g e; omega))
      go_wp2_with (at_builtin; refine wpList_append_own _ rfl _ _ 23 rfl w.heap.size 31 i0 _ 2 16 Try.underlying23 hi0 hz0 hz1 hz2 rfl (by omega) _ _ _ rfl (hown1.alloc _) ⟨w1.heap.size, 0, none⟩ 1 1 (List.map (Value.int .i64) (pcs ((l.length : Int) + 1, S + (1 + x)))) rfl rfl ?c1 ?c2 ?c3 ?c4 ?c5 ?_)
      case c1 => exact cells_new w1 _ _
      case c2 => intro u hu; simp [pcs] at hu; rcases hu with rfl | rfl <;> rfl
      case c3 => unfold maxLen; omega
      case c4 => omega
      case c5 => have h1 := hgr.size; have h2 := hg1.size; simp; omega
      intro v2 w2 hown2 hg2 _
      have hdk2 := hdk1.alloc (.cells (List.map (Value.int .i64) (pcs ((l.length : Int) + 1, S + (1 + x)))).toArray 31)
      go_wp2_with fail
      go_roundw
      case rel =>
        refine ⟨l ++ [((l.length : Int) + 1, S + (1 + x))], by simp; omega, by simp, Ppl_snoc HP.out HS.out ⟨hS0, hS1⟩ hx, ⟨_, rfl, ?_, by omega, by simp; omega⟩, by simpa using hown2, ?_, ?_⟩
        · intro k hk
          by_cases hkl : k < l.length
          · rw [List.getElem_append_left hkl]; have := HS.out k hkl; omega
          · have hkk : k = l.length := by simp at hk; omega
            subst hkk
            simp
        · exact hdk2.grown hg2 (fun k hk => by have := hnb k hk; omega)
        · exact grownBy_own (grownBy_alloc' (grownBy_trans hgr hg1) _) hg2 hnb
      case measure => simp [intOf]; omega
    · have : l.length = n := by omega
      subst this
      go_wp2_with fail
      go_ret
      exact ⟨_, l, rfl, rfl, hp, hown, hdk, hgr⟩
end Go.Proofs.Ytmglcjdigpgjlaa
