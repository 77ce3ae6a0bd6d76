/- Joined: Pl Sg In In2 Map. -/
import Derived.Maps.AppendAt
import Derived.Deep.RegionLaw
import Derived.Deep.AppendLies
import Derived.Maps.OwnOps
import Derived.Maps.Views
import Derived.Test.YtbgabipngdillaaZ03
import Derived.Test.YtbgabipngdillaaZ01
namespace Go.Proofs.Ytbgabipngdillaa
open Go.RowKit

/-- A slice of slices of ints. -/
def SL (w : World) (v : Value) (ls : List (List Int)) : Prop :=
  ∃ A c, v = .slice A ls.length c ∧ ls.length ≤ c ∧ c ≤ 9223372036854775807 ∧
    (0 < ls.length → ∃ b off, A = some ⟨b, off, none⟩ ∧ b < w.heap.size ∧ ∀ j (h : j < ls.length), ∃ B d, w.cell? ⟨b, off + j, none⟩ = some (.slice B ls[j].length d) ∧ SI w (.slice B ls[j].length d) ls[j])
theorem SL.below {w w' : World} {v : Value} {ls : List (List Int)} (h : SL w v ls) (hb : Below w.heap.size w w') : SL w' v ls := by
  obtain ⟨A, c, rfl, hc, hm, ha⟩ := h
  refine ⟨A, c, rfl, hc, hm, fun h0 => ?_⟩
  obtain ⟨b, off, rfl, hbl, hcell⟩ := ha h0
  refine ⟨b, off, rfl, by have := hb.size; omega, fun j hj => ?_⟩
  obtain ⟨B, d, h1, h2⟩ := hcell j hj
  exact ⟨B, d, (hb.cell hbl).trans h1, SI.below h2 hb⟩
theorem SI.form {w : World} {v : Value} {l : List Int} (h : SI w v l) : ∃ A c, v = .slice A l.length c := by
  obtain ⟨A, c, rfl, _⟩ := h
  exact ⟨A, c, rfl⟩
/-- a literal slice of one slice, of two -/
theorem SL.one {w : World} {A : Option Addr} {c : Nat} {l : List Int} (h : SI w (.slice A l.length c) l) (t : TypeId) : SL (w.alloc (.cells #[.slice A l.length c] t)) (.slice (some ⟨w.heap.size, 0, none⟩) 1 1) [l] := by
  refine ⟨_, 1, rfl, Nat.le_refl _, by omega, fun _ => ⟨w.heap.size, 0, rfl, by simp, fun j hj => ?_⟩⟩
  have hj0 : j = 0 := by simp at hj; omega
  subst hj0
  exact ⟨A, c, cell_of_row _ _ 0 _ _ (0, 0) (heap_alloc_new w _), SI.below h ((Below.refl _ _).alloc (Nat.le_refl _) _)⟩
theorem SL.two {w : World} {A B : Option Addr} {c d : Nat} {l m : List Int} (h : SI w (.slice A l.length c) l) (h' : SI w (.slice B m.length d) m) (t : TypeId) : SL (w.alloc (.cells #[.slice A l.length c, .slice B m.length d] t)) (.slice (some ⟨w.heap.size, 0, none⟩) 2 2) [l, m] := by
  refine ⟨_, 2, rfl, Nat.le_refl _, by omega, fun _ => ⟨w.heap.size, 0, rfl, by simp, fun j hj => ?_⟩⟩
  have hj0 : j = 0 ∨ j = 1 := by simp at hj; omega
  rcases hj0 with rfl | rfl
  · exact ⟨A, c, cell_of_row _ _ 0 _ _ (0, 0) (heap_alloc_new w _), SI.below h ((Below.refl _ _).alloc (Nat.le_refl _) _)⟩
  · exact ⟨B, d, cell_of_row _ _ 1 _ _ (0, 0) (heap_alloc_new w _), SI.below h' ((Below.refl _ _).alloc (Nat.le_refl _) _)⟩

def longB (ls : List (List Int)) : Bool := ls.any fun l => decide (512 < l.length)
def opE (P : Int) (ls : List (List Int)) : Int := if prB P = false then 9 else if (ls.all (els P)) = false then 9 else if longB ls = true then 4 else 0
def opV (P : Int) (ls : List (List Int)) : Int := if opE P ls = 0 then P else 0
theorem opE_p {P : Int} {ls : List (List Int)} (h : prB P = false) : opE P ls = 9 ∧ opV P ls = 0 := by unfold opV opE; rw [if_pos h]; exact ⟨rfl, rfl⟩
theorem opE_n {P : Int} {ls : List (List Int)} (h0 : prB P = true) {k : Nat} (hk : k < ls.length) (h : els P ls[k] = false) : opE P ls = 9 ∧ opV P ls = 0 := by
  have : ls.all (els P) = false := by
    cases e : ls.all (els P) with
    | false => rfl
    | true => rw [List.all_eq_true] at e; have := e _ (List.getElem_mem hk); rw [h] at this; cases this
  unfold opV opE; rw [h0, this]; exact ⟨rfl, rfl⟩
theorem opE_end {P : Int} {ls : List (List Int)} (h0 : prB P = true) (h : ∀ j (h : j < ls.length), els P ls[j] = true) : (longB ls = true → opE P ls = 4 ∧ opV P ls = 0) ∧ (longB ls = false → opE P ls = 0 ∧ opV P ls = P) := by
  have : ls.all (els P) = true := by
    rw [List.all_eq_true]; intro x hx; obtain ⟨j, hj, rfl⟩ := List.mem_iff_getElem.1 hx; exact h j hj
  constructor
  · intro hl; unfold opV opE; rw [h0, this, hl]; exact ⟨rfl, rfl⟩
  · intro hl; unfold opV opE; rw [h0, this, hl]; exact ⟨rfl, rfl⟩
theorem longB_snoc (ls : List (List Int)) (k : Nat) (h : k < ls.length) : longB (ls.take (k + 1)) = (longB (ls.take k) || decide (512 < ls[k].length)) := by
  unfold longB
  rw [List.take_succ_eq_append_getElem h, List.any_append]
  simp

def OpRel (P : Int) (ls : List (List Int)) (w : World) (i lg : Value) (wr : World) : Prop :=
  ∃ k : Nat, k ≤ ls.length ∧ i = .int .i64 k ∧ lg = .bool (longB (ls.take k)) ∧ (∀ j (_ : j < k) (h : j < ls.length), els P ls[j] = true) ∧ Below w.heap.size w wr
set_option maxHeartbeats 2000000 in
theorem open_any (P : Int) (ls : List (List Int)) (v : Value) (w : World) (hP : i64r P) (h : SL w v ls) :
    Calls Try.prog 69 #[.agg #[.int .i64 P], v] w fun e w' => e = .returned (.tuple #[.int .i64 (opV P ls), .int .i64 (opE P ls)]) ∧ Below w.heap.size w w' := by
  have hbP : Below w.heap.size w (w.alloc (.cells #[.int .i64 P] 26)) := (Below.refl _ _).alloc (Nat.le_refl _) _
  obtain ⟨A, c, rfl, hc, hm, ha⟩ := h
  have HA := Lib.hid ha
  clear ha
  cases hp : prB P with
  | false =>
    have HE := Lib.hid (opE_p (ls := ls) hp)
    have HP := Lib.hid hp
    clear hp
    go_enter Try.func69, Try.ntmps69
    go_wp2_with fail
    (with_reducible refine (of_any P _ hP).mono ?_); rintro e w1 ⟨rfl, hb1⟩
    rw [HP.out]
    go_wp2_with fail
    go_ret2
    exact ⟨by rw [HE.out.1, HE.out.2]; rfl, hbP.trans (hb1.mono (by simp))⟩
  | true =>
    have HP := Lib.hid hp
    have hPb := prB_bd hp
    clear hp
    go_enter Try.func69, Try.ntmps69
    go_wp2_with fail
    (with_reducible refine (of_any P _ hP).mono ?_); rintro e w1 ⟨rfl, hb1⟩
    rw [HP.out, ofP_t HP.out]
    have hB1 := hbP.trans (hb1.mono (by simp))
    go_wp2_with fail
    go_loopw [20, 8] (fun i lg wr => OpRel P ls w i lg wr) (fun i _ _ => ls.length - (intOf i).toNat)
    case atStart => exact ⟨0, Nat.zero_le _, rfl, rfl, fun j h => absurd h (by omega), hB1⟩
    case round =>
      obtain ⟨k, hk, rfl, rfl, hall, hB⟩ := hrel
      have HALL := Lib.hid hall
      clear hall
      by_cases hlt : k < ls.length
      · obtain ⟨b, off, rfl, hb, hcell⟩ := HA.out (by omega)
        obtain ⟨B, d, hck, hS⟩ := hcell k hlt
        have hck' := (hB.cell (p := ⟨b, off + k, none⟩) hb).trans hck
        have HS := Lib.hid (SI.below hS hB)
        have HL := Lib.hid (longB_snoc ls k hlt)
        have hd1 : decide ((k : Int) < (ls.length : Int)) = true := decide_eq_true (by omega)
        have hd2 : decide (k < ls.length) = true := decide_eq_true hlt
        clear hcell hck hS
        go_wp2_with fail
        (with_reducible refine (all_any P ls[k] _ _ HS.out).mono ?_); rintro e w2 ⟨rfl, hb2⟩
        cases he : els P ls[k] with
        | false =>
          have HE := Lib.hid (opE_n HP.out hlt he)
          clear he
          go_wp2_with fail
          go_ret2
          exact ⟨by rw [HE.out.1, HE.out.2]; rfl, hB.trans (hb2.mono hB.size)⟩
        | true =>
          have HE := Lib.hid he
          clear he
          have hB2 := hB.trans (hb2.mono hB.size)
          have HALL2 : Hid (∀ j (_ : j < k + 1) (h : j < ls.length), els P ls[j] = true) := fun j h1 h2 => by
            by_cases e : j = k
            · subst e; exact HE.out
            · exact HALL.out j (by omega) h2
          generalize longB (ls.take k) = lb at HL ⊢
          by_cases h5 : 512 < ls[k].length
          · have hd3 : decide ((512 : Int) < (ls[k].length : Int)) = true := decide_eq_true (by omega)
            have hd4 : decide (512 < ls[k].length) = true := decide_eq_true h5
            cases lb
            all_goals
              go_wp2_with fail
              go_roundw
              case rel => exact ⟨k + 1, by omega, by go_num, by rw [HL.out, decide_eq_true h5]; rfl, HALL2.out, hB2⟩
              case measure => simp [intOf]; omega
          · have hd3 : decide ((512 : Int) < (ls[k].length : Int)) = false := decide_eq_false (by omega)
            have hd4 : decide (512 < ls[k].length) = false := decide_eq_false h5
            cases lb
            all_goals
              go_wp2_with fail
              go_roundw
              case rel => exact ⟨k + 1, by omega, by go_num, by rw [HL.out, decide_eq_false h5]; rfl, HALL2.out, hB2⟩
              case measure => simp [intOf]; omega
      · have hkk : k = ls.length := by omega
        have HE := Lib.hid (opE_end HP.out (fun j hj => HALL.out j (by omega) hj))
        have HT : Hid (longB (ls.take k) = longB ls) := by show _ = _; rw [hkk, List.take_length]
        rw [HT.out]
        have hd1 : decide ((k : Int) < (ls.length : Int)) = false := decide_eq_false (by omega)
        have hd2 : decide (k < ls.length) = false := decide_eq_false hlt
        clear hkk
        cases hl : longB ls
        · have HE2 := Lib.hid (HE.out.2 hl)
          clear hl
          go_wp2_with fail
          go_ret2
          exact ⟨by rw [HE2.out.1, HE2.out.2]; rfl, hB⟩
        · have HE2 := Lib.hid (HE.out.1 hl)
          clear hl
          go_wp2_with fail
          go_ret2
          exact ⟨by rw [HE2.out.1, HE2.out.2]; rfl, hB⟩

theorem own_any (l : List Int) (v : Value) (w : World) (h : SI w v l) (hlen : l.length ≤ 1000000) :
    Calls Try.prog 78 #[v] w fun e w' => ∃ v', e = .returned v' ∧ w'.ownsRow w.heap.size 3 1 v' (trim l).length ((trim l).map (Value.int .i64)) ∧ Below w.heap.size w w' := by
  have HS := Lib.hid h
  obtain ⟨A, c, rfl⟩ := h.form
  clear h
  have hlen2 : (trim l).length ≤ 1000000 := by have := trim_len l; omega
  go_enter Try.func78, Try.ntmps78
  go_wp2_with fail
  (with_reducible refine (trim_any l A c _ HS.out).mono ?_); rintro e w' ⟨rfl, ht, rfl⟩
  have hT : SI w (.slice A (trim l).length c) (trim l) := by
    have := SI.take HS.out (trim_len l)
    rwa [← ht] at this
  have HT := Lib.hid hT
  clear ht hT
  go_wp2_with (at_builtin; refine wpList_append_ints _ rfl _ _ 22 rfl w.heap.size 3 Try.underlying22 iinfo (.slice none 0 0) [] rfl (World.ownsRow_nil _ _ _ _) _ _ (trim l) rfl HT.out (by simp; omega) (Nat.le_refl _) ?_; intro v2 w2 hown2 hg2)
  simp only [List.nil_append] at hown2
  go_ret
  exact ⟨_, rfl, hown2, ⟨hg2.os, hg2.tape, hg2.output, hg2.size, fun i hi => hg2.block i hi (by simp [Value.ownBlock])⟩⟩

/-- a number of the degree, 0 where there is an error -/

theorem madeInts (n : Nat) : madeCells #[Value.int .i64 0] n = ((zeros n).map (Value.int .i64)).toArray := by
  apply Array.toList_inj.1
  rw [toList_madeCells_one]
  simp [zeros]
/-- make([]int, n) -/
theorem wpList_make_ints {P : Program} (w : World) {ops : Array Oper} {rest : List Oper} {o : Oper} {a : Act} {Q : Exit → Act → World → Prop}
    (hg : o.guard = none) (l c : Operand) (t : TypeId) (hop : o.op = Op.makeSlice t l c) (e : TypeId) (ht : P.underlying t = some (.slice e)) (hinfo : (P.info? e).map (fun i => (i.zero, i.size, i.bytes)) = some (some (.int .i64 0), 1, 8))
    (L : Int) (n : Nat) (hl : a.eval l = .int .i64 L) (hc : a.eval c = .int .i64 L) (hL : L = (n : Int)) (hn : n ≤ 10000000)
    (hK : wpList P ops Q rest (a.put o.dst (.slice (some ⟨w.heap.size, 0, none⟩) n n)) (w.alloc (.cells ((zeros n).map (Value.int .i64)).toArray e))) :
    wpList P ops Q (o :: rest) a w := by
  obtain ⟨i0, hi0, hz0, hz1, hz2⟩ := info_parts hinfo
  subst hL
  have hrun := run_makeSlice (P := P) w t e i0 _ ht hi0 hz0 .i64 .i64 n n (by omega) (Int.le_refl _) (by rw [hz1]; simp; omega) (by rw [hz2]; omega) (by omega)
  simp only [Int.toNat_natCast] at hrun
  rw [hz1, Nat.mul_one] at hrun
  have hm : madeCells (Value.int .i64 0).cells n = ((zeros n).map (Value.int .i64)).toArray := madeInts n
  rw [hm] at hrun
  refine wpList_plain hg fun K hK' => ?_
  unfold Oper.wp
  simp [execOp, hop, hl, hc, hrun, Result.andThen]
  exact hK' _ _ hK
def TmRel (P : Int) (a b : List Int) (w : World) (g : Nat) (i : Value) (wr : World) : Prop :=
  ∃ k : Nat, k ≤ a.length ∧ i = .int .i64 k ∧ BK wr g (timesK P a b k) ∧ Below w.heap.size w wr
set_option maxRecDepth 100000 in
set_option maxHeartbeats 2000000 in
theorem times_any (P : Int) (a b : List Int) (va vb : Value) (w : World) (hP : 2 ≤ P ∧ P ≤ 65521) (ha : SI w va a) (hb : SI w vb b) (hea : els P a = true) (heb : els P b = true) (h1 : 1 ≤ a.length) (h2 : 1 ≤ b.length) (h3 : a.length ≤ 1000000) (h4 : b.length ≤ 1000000) :
    Calls Try.prog 77 #[.int .i64 P, va, vb] w fun e w' => ∃ g, e = .returned (.slice (some ⟨g, 0, none⟩) (timesP P a b).length (timesP P a b).length) ∧ BK w' g (timesP P a b) ∧ w.heap.size ≤ g ∧ Below w.heap.size w w' := by
  obtain ⟨A1, c1, rfl, hc1, hm1, hr1, ha1⟩ := id ha
  obtain ⟨A2, c2, rfl⟩ := hb.form
  have HA := Lib.hid ha1
  have HSB := Lib.hid hb
  have HEA := Lib.hid hea
  have HEB := Lib.hid heb
  clear hr1 ha1 ha hb hea heb
  have hn : ((a.length : Int) + (b.length : Int) - 1).toNat = a.length + b.length - 1 := by omega
  have hx1 : ((a.length : Int) + (b.length : Int) - 1) = ((a.length + b.length - 1 : Nat) : Int) := by omega
  have HX := Lib.hid hx1
  have HTL := Lib.hid (timesK_len P a b)
  clear hx1 hn
  go_enter Try.func77, Try.ntmps77
  go_wp2_with (at_make; refine wpList_make_ints _ rfl _ _ 22 rfl 3 Try.underlying22 iinfo _ (a.length + b.length - 1) rfl rfl HX.out (by omega) ?_)
  obtain ⟨w0, ew⟩ : ∃ w0 : World, w0 = w.alloc (.cells ((zeros (a.length + b.length - 1)).map (Value.int .i64)).toArray 3) := ⟨_, rfl⟩
  have hB0 : Below w.heap.size w w0 := by rw [ew]; exact (Below.refl _ _).alloc (Nat.le_refl _) _
  have hz0 : w.heap.size < w0.heap.size := by rw [ew]; simp
  have hK0 : BK w0 w.heap.size (timesK P a b 0) := by rw [ew]; exact heap_alloc_new w _
  have HK0 := Lib.hid hK0
  rw [← ew]
  clear ew hK0
  go_loopw [19] (fun i wr => TmRel P a b w w.heap.size i wr) (fun i _ => a.length - (intOf i).toNat)
  case atStart => exact ⟨0, Nat.zero_le _, rfl, HK0.out, hB0⟩
  case round =>
    obtain ⟨k, hk, rfl, hbk, hB⟩ := hrel
    have HBK := Lib.hid hbk
    have hzr : w.heap.size < wr.heap.size := hbk.lt
    clear hbk
    by_cases hlt : k < a.length
    · obtain ⟨b2, off, rfl, hb2, hcell⟩ := HA.out (by omega)
      have hck := (hB.cell (p := ⟨b2, off + k, none⟩) hb2).trans (hcell k hlt)
      have hel := el_t (els_all HEA.out _ (List.getElem_mem hlt))
      have HST : Hid (timesK P a b (k + 1) = addT P (timesK P a b k) k a[k] b) := by show _ = _; rw [timesK_succ, gd_lt hlt]
      have HSr := Lib.hid (SI.below HSB.out hB)
      have hd1 : decide ((k : Int) < (a.length : Int)) = true := decide_eq_true (by omega)
      have hd2 : decide (k < a.length) = true := decide_eq_true hlt
      have HNE : Hid (∀ q, (Value.slice A2 b.length c2).ownBlock = some q → q ≠ w.heap.size) := fun q hq => by
        obtain ⟨A', c', e, _, _, _, hx⟩ := HSB.out
        injection e with e1 e2 e3
        subst e1
        obtain ⟨b', off', e4, hb', _⟩ := hx (by omega)
        subst e4
        simp [Value.ownBlock] at hq
        omega
      have HTE := Lib.hid (timesK_els (P := P) hP.1 a b k)
      have z1 : (k : Int) ≤ ((a.length + b.length - 1 : Nat) : Int) := by omega
      have z2 : k ≤ a.length + b.length - 1 := by omega
      clear hcell
      go_wp2_with fail
      (with_reducible refine (addTimes_any P w.heap.size k _ _ (timesK P a b k) a[k] b _ _ hP hel HTE.out HEB.out HBK.out HSr.out HNE.out (by omega) (by rw [HTL.out]; omega)).mono ?_); rintro e w2 ⟨⟨v2, rfl⟩, hb2, hg2⟩
      have HB2 := Lib.hid hb2
      clear hb2
      go_wp2_with fail
      go_roundw
      case rel => exact ⟨k + 1, by omega, by go_num, by rw [HST.out]; exact HB2.out, Below.grown hB hg2 hB.size (fun q e => by cases e; exact Nat.le_refl _)⟩
      case measure => simp [intOf]; omega
    · have hkk : k = a.length := by omega
      have HF : Hid (BK wr w.heap.size (timesP P a b)) := by show BK _ _ _; have := HBK.out; rwa [hkk] at this
      have HL : Hid ((timesP P a b).length = a.length + b.length - 1) := HTL.out a.length
      have hd1 : decide ((k : Int) < (a.length : Int)) = false := decide_eq_false (by omega)
      have hd2 : decide (k < a.length) = false := decide_eq_false hlt
      clear hkk
      go_wp2_with fail
      go_ret
      exact ⟨w.heap.size, by rw [HL.out]; rfl, HF.out, Nat.le_refl _, hB⟩
end Go.Proofs.Ytbgabipngdillaa

namespace Go.Proofs.Ytbgabipngdillaa
open Go.RowKit

/-- A slice of structs of int fields: enc lists an element's cells. -/
def SG {α : Type} (enc : α → List Int) (sz : Nat) (B : Nat) (w : World) (v : Value) (l : List α) : Prop :=
  ∃ A c, v = .slice A l.length c ∧ l.length ≤ c ∧ c ≤ 9223372036854775807 ∧ (∀ x ∈ l, ∀ y ∈ enc x, i64r y) ∧
    (0 < l.length → ∃ b off, A = some ⟨b, off, none⟩ ∧ b < B ∧ ∀ j (h : j < l.length) i, i < sz → w.cell? ⟨b, off + (j * sz + i), none⟩ = (enc l[j])[i]?.map (Value.int .i64))
section
variable {α : Type} {enc : α → List Int} {sz : Nat}
theorem SG.keep {B : Nat} {w w' : World} {v : Value} {l : List α} (h : SG enc sz B w v l) (hk : ∀ p : Addr, p.block < B → w'.cell? p = w.cell? p) : SG enc sz B w' v l := by
  obtain ⟨A, c, rfl, hc, hm, hr, ha⟩ := h
  refine ⟨A, c, rfl, hc, hm, hr, fun h0 => ?_⟩
  obtain ⟨b, off, rfl, hb, hcell⟩ := ha h0
  exact ⟨b, off, rfl, hb, fun j hj i hi => (hk _ hb).trans (hcell j hj i hi)⟩
theorem SG.more {B B' : Nat} {w : World} {v : Value} {l : List α} (h : SG enc sz B w v l) (hB : B ≤ B') : SG enc sz B' w v l := by
  obtain ⟨A, c, rfl, hc, hm, hr, ha⟩ := h
  refine ⟨A, c, rfl, hc, hm, hr, fun h0 => ?_⟩
  obtain ⟨b, off, rfl, hb, hcell⟩ := ha h0
  exact ⟨b, off, rfl, by omega, hcell⟩
theorem SG.below {B : Nat} {w w' : World} {v : Value} {l : List α} (h : SG enc sz B w v l) (hb : Below B w w') : SG enc sz B w' v l := h.keep fun _ hp => hb.cell hp
end
theorem flatMap_get {α β : Type} (enc : α → List β) (sz : Nat) (l : List α) (hl : ∀ x ∈ l, (enc x).length = sz) (j : Nat) (hj : j < l.length) (i : Nat) (hi : i < sz) : (l.flatMap enc)[j * sz + i]? = (enc l[j])[i]? := by
  induction l generalizing j with
  | nil => simp at hj
  | cons x l ih =>
    simp only [List.flatMap_cons]
    have hx : (enc x).length = sz := hl x (by simp)
    cases j with
    | zero => simp only [Nat.zero_mul, Nat.zero_add, List.getElem_cons_zero]; rw [List.getElem?_append_left (by omega)]
    | succ j =>
      rw [List.getElem?_append_right (by rw [hx, Nat.add_mul]; omega)]
      rw [show (j + 1) * sz + i - (enc x).length = j * sz + i by rw [hx, Nat.add_mul]; omega]
      rw [ih (fun y hy => hl y (by simp [hy])) j (by simpa using hj)]
      simp
/-- a row of the call's own reads so -/
theorem SG.of_own {α : Type} {enc : α → List Int} {sz : Nat} {w : World} {base : Nat} {e : TypeId} {v : Value} {l : List α} (h : w.ownsRow base e sz v l.length ((l.flatMap enc).map (Value.int .i64)))
    (hr : ∀ x ∈ l, ∀ y ∈ enc x, i64r y) (hl : ∀ x ∈ l, (enc x).length = sz) : SG enc sz w.heap.size w v l := by
  rcases h.2 with ⟨rfl, hn⟩ | ⟨g, cap, cur, rfl, hb, hg, hnc, hcm, hcs, htake⟩
  · have : l = [] := List.eq_nil_of_length_eq_zero hn
    subst this
    exact ⟨none, 0, rfl, Nat.le_refl _, by omega, hr, fun h => by simp at h⟩
  · refine ⟨_, cap, rfl, hnc, by simpa [maxLen] using hcm, hr, fun h0 => ⟨g, 0, rfl, heap_of_cells hg, fun j hj i hi => ?_⟩⟩
    have := h.cellAt (j * sz + i) (by
      have : j * sz + sz ≤ l.length * sz := by rw [← Nat.succ_mul]; exact Nat.mul_le_mul_right _ hj
      omega)
    rw [Nat.zero_add, this, List.getElem?_map, flatMap_get enc sz l hl j hj i hi]

/-- the cells of a person -/
def pcs (p : Int × Int) : List Int := [p.1, p.2]
end Go.Proofs.Ytbgabipngdillaa

namespace Go.Proofs.Ytbgabipngdillaa
open Go.RowKit

def regionOf (n : Nat) : Code → Option Code
  | .region k ops d => if k = n then some (.region k ops d) else none
  | .seq a b => (regionOf n a).or (regionOf n b)
  | .block _ c => regionOf n c
  | .loop c => regionOf n c
  | .scope c => regionOf n c
  | .cond _ a b => (regionOf n a).or (regionOf n b)
  | _ => none
/-- two rows of one's own, in different blocks -/
def TwoR (B : Nat) (w : World) (v : Value) (xs : List Int) (u : Value) (ys : List Int) : Prop :=
  w.ownsRow B 3 1 v xs.length (xs.map (Value.int .i64)) ∧ w.ownsRow B 3 1 u ys.length (ys.map (Value.int .i64)) ∧ ∀ k, v.ownBlock = some k → u.ownBlock ≠ some k
theorem TwoR.alloc {B : Nat} {w : World} {v u : Value} {xs ys : List Int} (h : TwoR B w v xs u ys) (o : Obj) : TwoR B (w.alloc o) v xs u ys := ⟨h.1.alloc _, h.2.1.alloc _, h.2.2⟩
theorem TwoR.app1 {B g cap : Nat} {w w' : World} {v u : Value} {xs ys zs : List Int} (h : TwoR B w v xs u ys) (hown : w'.ownsRow B 3 1 (.slice (some ⟨g, 0, none⟩) zs.length cap) zs.length (zs.map (Value.int .i64)))
    (hg : w.grownBy w' v.ownBlock) (hat : v.ownBlock = some g ∨ g = w.heap.size) : TwoR B w' (.slice (some ⟨g, 0, none⟩) zs.length cap) zs u ys := by
  refine ⟨hown, h.2.1.kept hg ?_, fun k hk => ?_⟩
  · cases hv : v.ownBlock with
    | none => cases hu : u.ownBlock <;> simp
    | some k => exact .inr (fun e => h.2.2 k hv e)
  · simp [Value.ownBlock] at hk
    subst hk
    rcases hat with e | e
    · exact h.2.2 _ e
    · intro e2
      have := (h.2.1.lt _ e2).2
      omega
theorem TwoR.swap {B : Nat} {w : World} {v u : Value} {xs ys : List Int} (h : TwoR B w v xs u ys) : TwoR B w u ys v xs := ⟨h.2.1, h.1, fun k h1 h2 => h.2.2 k h2 h1⟩
/-- what stays below a block, in words that a draw does not turn -/
def LB (B : Nat) (a w : World) : Prop := w.os = a.os ∧ w.tape = a.tape ∧ w.output = a.output ∧ a.heap.size ≤ w.heap.size ∧ ∀ i, i < B → w.heap[i]? = a.heap[i]?
theorem LB.of {B : Nat} {a w : World} (h : Below B a w) : LB B a w := ⟨h.os, h.tape, h.output, h.size, fun i hi => h.block i hi⟩
theorem LB.to {B : Nat} {a w : World} (h : LB B a w) : Below B a w := ⟨h.1, h.2.1, h.2.2.1, h.2.2.2.1, fun i hi => h.2.2.2.2 i hi⟩
theorem LB.al {B : Nat} {a w : World} (h : LB B a w) (hB : B ≤ a.heap.size) (o : Obj) : LB B a (w.alloc o) := LB.of (h.to.alloc (Nat.le_trans hB h.2.2.2.1) o)
theorem LB.gr {B : Nat} {a w w' : World} {r : Option Nat} (h : LB B a w) (hB : B ≤ a.heap.size) (hg : w.grownBy w' r) (hr : ∀ k, r = some k → B ≤ k) : LB B a w' := LB.of (h.to.grown hg (Nat.le_trans hB h.2.2.2.1) hr)
theorem cell_al {w : World} {p : Addr} {v : Value} (o : Obj) (h : w.cell? p = some v) : (w.alloc o).cell? p = some v :=
  (((Below.refl w.heap.size w).alloc (Nat.le_refl _) o).cell (World.block_lt_of_cell? w _ h)).trans h
theorem ne_own {B a n : Nat} {w : World} {v : Value} {xs : List Value} (h : w.ownsRow B 3 1 v n xs) (ha : w.heap.size ≤ a) : some a ≠ v.ownBlock := fun e => by
  have := (h.lt _ e.symm).2
  omega
theorem cells_next (w : World) (o : Obj) (u : Value) (t : TypeId) : ((w.alloc o).alloc (.cells #[u] t)).cell? ⟨w.heap.size + 1, 0, none⟩ = some u := by simp [go_sem]
noncomputable def reg5C : Code := ((Try.f53.body.bind (regionOf 5)).getD .skip)
set_option maxRecDepth 1000000 in
set_option maxHeartbeats 4000000 in
theorem reg5 (B G : Nat) (x y : Int) (xs ys : List Int) (v6 v7 : Value) (w : World) (hT : TwoR B w v6 xs v7 ys) (hx0 : w.cell? ⟨G, 0, none⟩ = some (.int .i64 x)) (hx1 : w.cell? ⟨G, 1, none⟩ = some (.int .i64 y)) (hG : ∀ k, v6.ownBlock = some k ∨ v7.ownBlock = some k → k ≠ G) (hGl : G < w.heap.size) (hB : B ≤ w.heap.size) (hxl : xs.length + 1 ≤ 17592186044416) (hyl : ys.length + 1 ≤ 17592186044416)
    (s0 s1 s2 s3 s4 s5 s8 s10 s11 s12 s13 s14 s15 s16 s17 s18 s19 s20 s21 s22 s23 s24 s25 s26 s27 s28 s29 s30 s31 s32 s33 s34 s35 s36 s37 s38 s39 s40 s41 s42 s43 s44 s45 s46 s47 s48 s49 s50 s51 s52 s53 s54 s55 s56 s57 s58 s59 s60 s61 s62 s63 s64 s65 s66 s67 s68 s69 s70 s71 s72 s73 s74 s75 s76 s77 s78 s79 s80 s81 s82 s83 s84 s85 s86 s87 s88 s89 s90 s91 s92 s93 s94 s95 s96 s97 s98 s99 s100 s101 s102 s103 s104 s105 s106 s107 s108 s109 : Value) (Q : Exit → Act → World → Prop)
    (hK : ∀ (u27 u28 u29 u30 u31 u32 u33 u34 u35 u36 : Value) (v6' v7' : Value) (w' : World), TwoR B w' v6' (xs ++ [x]) v7' (ys ++ [y]) → Below B w w' → Q .normal ⟨List.toArray (s0 :: s1 :: s2 :: s3 :: s4 :: s5 :: (v6') :: (v7') :: s8 :: (Value.pointer (some ⟨G, 0, none⟩)) :: s10 :: s11 :: s12 :: s13 :: s14 :: s15 :: s16 :: s17 :: s18 :: s19 :: s20 :: s21 :: s22 :: s23 :: s24 :: s25 :: s26 :: u27 :: u28 :: u29 :: u30 :: u31 :: u32 :: u33 :: u34 :: u35 :: u36 :: s37 :: s38 :: s39 :: s40 :: s41 :: s42 :: s43 :: s44 :: s45 :: s46 :: s47 :: s48 :: s49 :: s50 :: s51 :: s52 :: s53 :: s54 :: s55 :: s56 :: s57 :: s58 :: s59 :: s60 :: s61 :: s62 :: s63 :: s64 :: s65 :: s66 :: s67 :: s68 :: s69 :: s70 :: s71 :: s72 :: s73 :: s74 :: s75 :: s76 :: s77 :: s78 :: s79 :: s80 :: s81 :: s82 :: s83 :: s84 :: s85 :: s86 :: s87 :: s88 :: s89 :: s90 :: s91 :: s92 :: s93 :: s94 :: s95 :: s96 :: s97 :: s98 :: s99 :: s100 :: s101 :: s102 :: s103 :: s104 :: s105 :: s106 :: s107 :: s108 :: s109 :: []), []⟩ w') :
    Code.wp Try.prog reg5C Q ⟨List.toArray (s0 :: s1 :: s2 :: s3 :: s4 :: s5 :: (v6) :: (v7) :: s8 :: (Value.pointer (some ⟨G, 0, none⟩)) :: s10 :: s11 :: s12 :: s13 :: s14 :: s15 :: s16 :: s17 :: s18 :: s19 :: s20 :: s21 :: s22 :: s23 :: s24 :: s25 :: s26 :: s27 :: s28 :: s29 :: s30 :: s31 :: s32 :: s33 :: s34 :: s35 :: s36 :: s37 :: s38 :: s39 :: s40 :: s41 :: s42 :: s43 :: s44 :: s45 :: s46 :: s47 :: s48 :: s49 :: s50 :: s51 :: s52 :: s53 :: s54 :: s55 :: s56 :: s57 :: s58 :: s59 :: s60 :: s61 :: s62 :: s63 :: s64 :: s65 :: s66 :: s67 :: s68 :: s69 :: s70 :: s71 :: s72 :: s73 :: s74 :: s75 :: s76 :: s77 :: s78 :: s79 :: s80 :: s81 :: s82 :: s83 :: s84 :: s85 :: s86 :: s87 :: s88 :: s89 :: s90 :: s91 :: s92 :: s93 :: s94 :: s95 :: s96 :: s97 :: s98 :: s99 :: s100 :: s101 :: s102 :: s103 :: s104 :: s105 :: s106 :: s107 :: s108 :: s109 :: []), []⟩ w := by
  have HK := Lib.hid hK
  have T := Lib.hid hT
  have T0 := T
  have x0 := hx0
  have x1 := hx1
  have hz := Nat.le_refl w.heap.size
  have L := Lib.hid (LB.of (Below.refl B w))
  have hGG := Lib.hid hG
  have hGl2 := hGl
  clear hK hT hx0 hx1 hG
  conv => arg 2; whnf
  go_region_held3 (fun w' => w'.cell? ⟨G, 0, none⟩ = some (.int .i64 x) ∧ w'.cell? ⟨G, 1, none⟩ = some (.int .i64 y)) (first | exact ⟨x0, x1⟩ | go_keep)
    (first
      | (refine step_append_int1_at _ (by rfl) (.tmp 27) _ 22 (by rfl) B 3 Try.underlying22 iinfo _ xs (by rfl) (by first | exact T.out.1 | exact (T.out.alloc _).1 | exact ((T.out.alloc _).alloc _).1) x _ (by rfl) (by first | exact n1 | (simp [go_sem]; done)) hxl (by first | omega | (simp; omega)) ?_; intro g2 cap2 w2 hown2 hg2 hat2; have x0 := hg2.cell (a := ⟨G, 0, none⟩) (by first | exact x0 | exact cell_al _ x0 | exact cell_al _ (cell_al _ x0)) (fun e => hGG.out _ (.inl e.symm) rfl); have x1 := hg2.cell (a := ⟨G, 1, none⟩) (by first | exact x1 | exact cell_al _ x1 | exact cell_al _ (cell_al _ x1)) (fun e => hGG.out _ (.inl e.symm) rfl); have L2 := Lib.hid (LB.gr (by first | exact L.out | exact L.out.al hB _ | exact (L.out.al hB _).al hB _) hB hg2 (fun k hk => (T.out.1.lt k hk).1)); have T := Lib.hid (TwoR.app1 (by first | exact T.out | exact T.out.alloc _ | exact (T.out.alloc _).alloc _) hown2 hg2 hat2); have L := L2; have hsz2 : w.heap.size ≤ w2.heap.size := L.out.2.2.2.1; first | have n2 := hg2.cell (a := ⟨w.heap.size, 0, none⟩) (v := .int .i64 y) (cell_al _ (cells_new w [.int .i64 y] 3 0 _ rfl)) (ne_own T0.out.1 (Nat.le_refl _)) | have n2 := hg2.cell (a := ⟨w.heap.size + 1, 0, none⟩) (v := .int .i64 y) (cells_next w (.cells #[.int .i64 x] 3) (.int .i64 y) 3) (ne_own T0.out.1 (Nat.le_succ _)) | skip)
      | (refine step_append_int1_at _ (by rfl) (.tmp 32) _ 22 (by rfl) B 3 Try.underlying22 iinfo _ ys (by rfl) (by first | exact T.out.2.1 | exact (T.out.alloc _).2.1 | exact ((T.out.alloc _).alloc _).2.1) y _ (by rfl) (by first | exact n2 | (simp [go_sem]; done)) hyl (by first | omega | (simp; omega)) ?_; intro g3 cap3 w3 hown3 hg3 hat3; have x0 := hg3.cell (a := ⟨G, 0, none⟩) (by first | exact x0 | exact cell_al _ x0 | exact cell_al _ (cell_al _ x0)) (fun e => hGG.out _ (.inr e.symm) rfl); have x1 := hg3.cell (a := ⟨G, 1, none⟩) (by first | exact x1 | exact cell_al _ x1 | exact cell_al _ (cell_al _ x1)) (fun e => hGG.out _ (.inr e.symm) rfl); have L2 := Lib.hid (LB.gr (by first | exact L.out | exact L.out.al hB _ | exact (L.out.al hB _).al hB _) hB hg3 (fun k hk => (T.out.2.1.lt k hk).1)); have T := Lib.hid (TwoR.swap (TwoR.app1 (by first | exact T.out.swap | exact (T.out.alloc _).swap | exact ((T.out.alloc _).alloc _).swap) hown3 hg3 hat3)); have L := L2; have hsz3 : w.heap.size ≤ w3.heap.size := L.out.2.2.2.1; first | have n1 := hg3.cell (a := ⟨w.heap.size, 0, none⟩) (v := .int .i64 x) (cell_al _ (cells_new w [.int .i64 x] 3 0 _ rfl)) (ne_own T0.out.2.1 (Nat.le_refl _)) | have n1 := hg3.cell (a := ⟨w.heap.size + 1, 0, none⟩) (v := .int .i64 x) (cells_next w (.cells #[.int .i64 y] 3) (.int .i64 x) 3) (ne_own T0.out.2.1 (Nat.le_succ _)) | skip))
  all_goals
    have t := T.out
    simp only [List.length_append, List.length_singleton] at t
    exact HK.out _ _ _ _ _ _ _ _ _ _ _ _ _ t L.out.to

end Go.Proofs.Ytbgabipngdillaa

namespace Go.Proofs.Ytbgabipngdillaa
open Go.RowKit

theorem sub_any2 (P a b : Int) (w : World) (hP : 2 ≤ P ∧ P ≤ 65521) (ha : 0 ≤ a ∧ a < P) (hb : 0 ≤ b ∧ b < P) :
    Calls Try.prog 74 #[.int .i64 P, .int .i64 a, .int .i64 b] w fun e w' => e = .returned (.int .i64 ((a - b) % P)) ∧ w = w' :=
  (sub_any P a b w hP ha hb).mono fun e w' ⟨he, hw⟩ => ⟨by rw [he, Int.add_emod_right], hw⟩
noncomputable def reg23C : Code := ((Try.f53.body.bind (regionOf 23)).getD .skip)
set_option maxRecDepth 1000000 in
set_option maxHeartbeats 4000000 in
theorem reg23 (P x y : Int) (poly node : List Int) (vp vn : Value) (bv ov nv cv i : Nat) (w : World) (hp : prB P = true) (hx : 0 ≤ x ∧ x < P) (hy : 0 ≤ y ∧ y < P) (hep : els P poly = true) (hen : els P node = true) (hlp : poly.length ≤ 1000000) (hln : node.length ≤ 1000000) (hSp : SI w vp poly) (hSn : SI w vn node) (hi : i < nv) (hb : bv < w.heap.size) (hn0 : w.cell? ⟨bv, ov + i, none⟩ = some (.int .i64 y))
    (s0 s1 s2 s3 s4 s5 s6 s8 s9 s11 s12 s13 s14 s19 s20 s21 s22 s23 s24 s25 s26 s27 s28 s29 s30 s31 s32 s33 s34 s35 s36 s37 s38 s39 s40 s41 s42 s43 s44 s45 s46 s47 s48 s49 s50 s51 s52 s53 s54 s55 s56 s57 s58 s59 s60 s61 s62 s63 s64 s65 s66 s67 s68 s69 s70 s71 s72 s73 s74 s75 s76 s77 s78 s79 s80 s81 s82 s83 s84 s85 s86 s87 s88 s89 s90 s91 s92 s93 s94 s95 s96 s97 s98 s99 s100 s101 s102 s103 s104 s105 s106 s107 s108 s109 : Value) (Q : Exit → Act → World → Prop)
    (hK : ∀ (u70 u71 u72 u73 u74 u75 u76 u77 u78 u79 u80 u81 u82 u83 u84 u85 u86 u87 : Value) (w' : World), Below w.heap.size w w' → Q .normal ⟨List.toArray (s0 :: s1 :: s2 :: s3 :: s4 :: s5 :: s6 :: (Value.slice (some ⟨bv, ov, none⟩) nv cv) :: s8 :: s9 :: (Value.int .i64 P) :: s11 :: s12 :: s13 :: s14 :: (vp) :: (vn) :: (Value.int .i64 (i : Int)) :: (Value.int .i64 x) :: (Value.int .i64 (byN P (poly, node) (x, y))) :: s20 :: s21 :: s22 :: s23 :: s24 :: s25 :: s26 :: s27 :: s28 :: s29 :: s30 :: s31 :: s32 :: s33 :: s34 :: s35 :: s36 :: s37 :: s38 :: s39 :: s40 :: s41 :: s42 :: s43 :: s44 :: s45 :: s46 :: s47 :: s48 :: s49 :: s50 :: s51 :: s52 :: s53 :: s54 :: s55 :: s56 :: s57 :: s58 :: s59 :: s60 :: s61 :: s62 :: s63 :: s64 :: s65 :: s66 :: s67 :: s68 :: s69 :: u70 :: u71 :: u72 :: u73 :: u74 :: u75 :: u76 :: u77 :: u78 :: u79 :: u80 :: u81 :: u82 :: u83 :: u84 :: u85 :: u86 :: u87 :: s88 :: s89 :: s90 :: s91 :: s92 :: s93 :: s94 :: s95 :: s96 :: s97 :: s98 :: s99 :: s100 :: s101 :: s102 :: s103 :: s104 :: s105 :: s106 :: s107 :: s108 :: s109 :: []), []⟩ w') :
    Code.wp Try.prog reg23C Q ⟨List.toArray (s0 :: s1 :: s2 :: s3 :: s4 :: s5 :: s6 :: (Value.slice (some ⟨bv, ov, none⟩) nv cv) :: s8 :: s9 :: (Value.int .i64 P) :: s11 :: s12 :: s13 :: s14 :: (vp) :: (vn) :: (Value.int .i64 (i : Int)) :: (Value.int .i64 x) :: s19 :: s20 :: s21 :: s22 :: s23 :: s24 :: s25 :: s26 :: s27 :: s28 :: s29 :: s30 :: s31 :: s32 :: s33 :: s34 :: s35 :: s36 :: s37 :: s38 :: s39 :: s40 :: s41 :: s42 :: s43 :: s44 :: s45 :: s46 :: s47 :: s48 :: s49 :: s50 :: s51 :: s52 :: s53 :: s54 :: s55 :: s56 :: s57 :: s58 :: s59 :: s60 :: s61 :: s62 :: s63 :: s64 :: s65 :: s66 :: s67 :: s68 :: s69 :: s70 :: s71 :: s72 :: s73 :: s74 :: s75 :: s76 :: s77 :: s78 :: s79 :: s80 :: s81 :: s82 :: s83 :: s84 :: s85 :: s86 :: s87 :: s88 :: s89 :: s90 :: s91 :: s92 :: s93 :: s94 :: s95 :: s96 :: s97 :: s98 :: s99 :: s100 :: s101 :: s102 :: s103 :: s104 :: s105 :: s106 :: s107 :: s108 :: s109 :: []), []⟩ w := by
  have HK := Lib.hid hK
  have SP := Lib.hid hSp
  have SN := Lib.hid hSn
  have eP := Lib.hid hep
  have eN := Lib.hid hen
  have HP := Lib.hid hp
  have n0 := hn0
  have hbx := hb
  have L := Lib.hid (LB.of (Below.refl w.heap.size w))
  have hPb := prB_bd hp
  have h1 := val_bd hPb.1 poly x
  have h2 := val_bd hPb.1 node x
  have h3 := inv_bd hPb.1 (val P node x)
  obtain ⟨v1, e1⟩ : ∃ v, val P poly x = v := ⟨_, rfl⟩
  obtain ⟨v2, e2⟩ : ∃ v, val P node x = v := ⟨_, rfl⟩
  rw [e1] at h1
  rw [e2] at h2 h3
  have HBY : Hid ((y - v1) % P * inv P v2 % P = byN P (poly, node) (x, y)) := by show _ = _; rw [← e1, ← e2]; unfold byN; rw [Int.add_emod_right]
  have E1 := Lib.hid e1
  have E2 := Lib.hid e2
  clear hK hSp hSn hep hen hp hn0 hb e1 e2
  have h4 : 0 ≤ (y - v1) % P ∧ (y - v1) % P < P := ⟨Int.emod_nonneg _ (by omega), Int.emod_lt_of_pos _ (by omega)⟩
  have z1 : (0 : Int) ≤ (i : Int) := by omega
  have z2 : (i : Int) < (nv : Int) := by omega
  conv => arg 2; whnf
  go_region_held3 (fun w' => w'.cell? ⟨bv, ov + i, none⟩ = some (.int .i64 y)) (first | exact n0 | go_keep)
    (first
      | (go_at_call 68; refine (value_any P x poly vp _ hPb hx eP.out hlp (by exact SP.out)).mono ?_; rintro e wn ⟨rfl, hbn⟩; rw [E1.out]; have n0 := (hbn.cell (p := ⟨bv, ov + i, none⟩) hbx).trans n0; have SN := Lib.hid (SI.below (by exact SN.out) hbn); have hbx := Nat.lt_of_lt_of_le hbx hbn.size; have L := Lib.hid (LB.of (L.out.to.trans (Below.mono (Below.drew_left hbn) L.out.2.2.2.1))); clear eP)
      | (go_at_call 68; refine (value_any P x node vn _ hPb hx eN.out hln (by exact SN.out)).mono ?_; rintro e wn ⟨rfl, hbn⟩; rw [E2.out]; have n0 := (hbn.cell (p := ⟨bv, ov + i, none⟩) hbx).trans n0; have hbx := Nat.lt_of_lt_of_le hbx hbn.size; have L := Lib.hid (LB.of (L.out.to.trans (Below.mono hbn L.out.2.2.2.1))); clear eN)
      | (go_at_call 74; refine (sub_any2 P y v1 _ hPb hy h1).mono ?_; rintro e wn ⟨rfl, rfl⟩)
      | (go_at_call 75; refine (inverse_any P v2 _ HP.out h2).mono ?_; rintro e wn ⟨rfl, rfl⟩)
      | (go_at_call 73; refine (mul_any P _ _ _ hPb h4 h3).mono ?_; rintro e wn ⟨rfl, rfl⟩))
  all_goals
    have hk := HK.out
    rw [← HBY.out] at hk
    exact hk _ _ _ _ _ _ _ _ _ _ _ _ _ _ _ _ _ _ _ L.out.to

end Go.Proofs.Ytbgabipngdillaa

namespace Go.Proofs.Ytbgabipngdillaa
open Go.RowKit Go.Maps

theorem plainElem_bool_inv {H : Type} {P : Program} {e : TypeId} (he : P.underlying e = some .bool) {v : Value} {z : DataW H × List MemPlace} (h : plainElem P e v = some z) : ∃ a, v = .bool a ∧ z = (.lit (.bool a), []) := by
  unfold plainElem at h
  rw [he] at h
  cases v <;> simp at h
  subst h
  exact ⟨_, rfl, rfl⟩

theorem wpList_lookup_own_bool {H : Type} {P : Program} (w : World) {ops : Array Oper} {rest : List Oper} {o : Oper} {a : Act} {Q : Exit → Act → World → Prop}
    (hg : o.guard = none) (m x : Operand) (t : TypeId) (hop : o.op = Op.lookup t m x false)
    (k e : TypeId) (K : Keyed P k) (ht : P.underlying t = some (.map k e)) (he : P.underlying e = some .bool) (hz : (zeroValue e).run P w = .ok (.bool false) w) (b n : Nat) (D : DataW H)
    (hm : a.eval m = .map (some b)) (hown : w.ownsMap P k (plainElem P e) b n D) (key : Value) (kl : Lit) (hx : a.eval x = key) (hkey : keyOf P k key = some kl)
    (hK : ∀ c : Bool, D.atKey kl (.lit (.bool false)) = .lit (.bool c) → wpList P ops Q rest (a.put o.dst (.bool c)) w) :
    wpList P ops Q (o :: rest) a w := by
  refine wpList_plain hg fun K' hK' => ?_
  obtain ⟨v, ps, hrun, hv⟩ := hown.lookup K ht hz (plainElem_bool he false) hkey
  obtain ⟨c, rfl, hc⟩ := plainElem_bool_inv he hv
  simp only [Prod.mk.injEq] at hc
  unfold Oper.wp
  simp [execOp, hop, hm, hx, hrun, Result.andThen]
  exact hK' _ _ (hK c hc.1)

/-- is a number in a list -/
def has (S : List Int) (x : Int) : Bool := S.contains x
/-- Block b is a map that says true at the numbers of S alone. -/
def BM (P : Program) (k e : TypeId) (w : World) (b n : Nat) (S : List Int) : Prop :=
  ∃ D : DataW Unit, w.ownsMap P k (plainElem P e) b n D ∧ IsMap D ∧ ∀ x, D.atKey (.int .i64 x) (.lit (.bool false)) = .lit (.bool (has S x))

theorem wf_i64' {x : Int} (h : i64r x) : (Lit.int .i64 x).wf = true := by
  unfold i64r at h
  simp [Lit.wf, IntKind.min, IntKind.max, IntKind.signed, IntKind.bits]
  omega

theorem BM.made (P : Program) (k e : TypeId) (w : World) : BM P k e (w.alloc (.map #[] 0)) w.heap.size 0 [] :=
  ⟨.map [], World.ownsMap_made w P k _, ⟨_, rfl⟩, fun x => by simp [DataW.atKey, has]⟩
theorem BM.kept {P : Program} {k e : TypeId} {w w' : World} {b n : Nat} {S : List Int} {row : Option Nat} (h : BM P k e w b n S) (hg : w.grownBy w' row) (hne : some b ≠ row) : BM P k e w' b n S := by
  obtain ⟨D, h1, h2, h3⟩ := h
  exact ⟨D, h1.kept hg hne, h2, h3⟩
theorem BM.alloc {P : Program} {k e : TypeId} {w : World} {b n : Nat} {S : List Int} (h : BM P k e w b n S) (o : Obj) : BM P k e (w.alloc o) b n S := h.kept (World.grownBy_alloc w o none) (by simp)
theorem BM.drewN {P : Program} {k e : TypeId} {w : World} {b n : Nat} {S : List Int} (h : BM P k e w b n S) (m : Nat) : BM P k e (w.drewN m) b n S := h.kept (grownBy_drewN (grownBy_refl w none) m) (by simp)
theorem BM.lt {P : Program} {k e : TypeId} {w : World} {b n : Nat} {S : List Int} (h : BM P k e w b n S) : b < w.heap.size := by
  obtain ⟨D, h1, h2, h3⟩ := h
  exact h1.lt

theorem wpList_lookup_BM {P : Program} (w : World) {ops : Array Oper} {rest : List Oper} {o : Oper} {a : Act} {Q : Exit → Act → World → Prop}
    (hg : o.guard = none) (m x : Operand) (t : TypeId) (hop : o.op = Op.lookup t m x false)
    (k e : TypeId) (ht : P.underlying t = some (.map k e)) (hk : P.underlying k = some (.int .i64)) (he : P.underlying e = some .bool) (hz : (zeroValue e).run P w = .ok (.bool false) w) (b n : Nat) (S : List Int)
    (hm : a.eval m = .map (some b)) (h : BM P k e w b n S) (key : Int) (hx : a.eval x = .int .i64 key) (hkey : i64r key)
    (hK : wpList P ops Q rest (a.put o.dst (.bool (has S key))) w) :
    wpList P ops Q (o :: rest) a w := by
  obtain ⟨D, h1, h2, h3⟩ := h
  refine wpList_lookup_own_bool w hg m x t hop k e (int_keyed hk) ht he hz b n D hm h1 _ _ hx (keyOf_int_mk hk (wf_i64' hkey)) fun c hc => ?_
  rw [h3] at hc
  injection hc with hc
  injection hc with hc
  rw [← hc]
  exact hK

theorem wpList_update_BM {P : Program} (w : World) {ops : Array Oper} {rest : List Oper} {o : Oper} {a : Act} {Q : Exit → Act → World → Prop}
    (hg : o.guard = none) (m x v : Operand) (t : TypeId) (hop : o.op = Op.mapUpdate t m x v)
    (k e : TypeId) (ht : P.underlying t = some (.map k e)) (hk : P.underlying k = some (.int .i64)) (he : P.underlying e = some .bool) (b n : Nat) (S : List Int)
    (hm : a.eval m = .map (some b)) (h : BM P k e w b n S) (hn : n < maxLen) (key : Int) (hx : a.eval x = .int .i64 key) (hkey : i64r key) (hv : a.eval v = .bool true)
    (hK : ∀ w', BM P k e w' b (n + 1) (key :: S) → w.grownBy w' (some b) → wpList P ops Q rest (a.put o.dst undef) w') :
    wpList P ops Q (o :: rest) a w := by
  obtain ⟨D, h1, h2, h3⟩ := h
  refine wpList_mapUpdate_own w hg m x v t hop k e (int_keyed hk) ht _ b n D hm h1 hn _ _ _ hx hv (keyOf_int_mk hk (wf_i64' hkey)) _ [] (plainElem_bool he true) fun w' o1 o2 => ?_
  refine hK w' ⟨_, o1, ?_, fun y => ?_⟩ o2
  · obtain ⟨es, rfl⟩ := h2
    exact ⟨_, rfl⟩
  · by_cases hy : y = key
    · subst hy
      rw [atKey_put_same h2 (by simp [WideAt.IsKeyLit])]
      simp [has]
    · rw [atKey_put_other (by simpa using hy), h3]
      simp [has, hy]
end Go.Proofs.Ytbgabipngdillaa
