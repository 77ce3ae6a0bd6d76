/- Joined: All. -/
import Derived.Deep.RegionWith
import Derived.Deep.RegionHeld3
import Derived.Test.YtbgabipngdillaaJ04
namespace Go.Proofs.Ytbgabipngdillaa
open Go.RowKit

theorem all1_any (P a : Int) (b : Nat) (w : World) (hc : w.cell? ⟨b, 0, none⟩ = some (.int .i64 P)) :
    Calls Try.prog 99 #[.int .i64 a, .pointer (some ⟨b, 0, none⟩)] w fun e w' => e = .returned (.bool (!el P a)) ∧ w = w' := by
  go_enter Try.func99, Try.ntmps99
  go_wp2_with fail
  (with_reducible refine (has_any _ _ _).mono ?_); rintro e w' ⟨rfl, rfl⟩
  go_wp2_with fail
  go_ret
  exact ⟨rfl, rfl⟩
/-- the place of the first number that is no element, or -1 -/
def IdxP (P : Int) (l : List Int) (w : World) (e : Ending) (w' : World) : Prop := ∃ k : Int, e = .returned (.int .i64 k) ∧ (decide (0 ≤ k) = !els P l) ∧ w = w'
def okTo (P : Int) (l : List Int) (k : Nat) : Prop := ∀ j (_ : j < k) (h : j < l.length), el P l[j] = true
theorem okTo_all {P : Int} {l : List Int} {k : Nat} (h : okTo P l k) (hk : l.length ≤ k) : els P l = true := els_of fun x hx => by
  obtain ⟨j, hj, rfl⟩ := List.mem_iff_getElem.1 hx
  exact h j (by omega) hj
theorem els_no {P : Int} {l : List Int} {k : Nat} (hk : k < l.length) (h : el P l[k] = false) : els P l = false := by
  cases e : els P l with
  | false => rfl
  | true => have := els_all e _ (List.getElem_mem hk); rw [h] at this; cases this
theorem idx_any (P : Int) (l : List Int) (v : Value) (b : Nat) (w : World) (hc : w.cell? ⟨b, 0, none⟩ = some (.int .i64 P)) (h : SI w v l) :
    Calls Try.prog 105 #[v, .func (.func 99) #[] #[.pointer (some ⟨b, 0, none⟩)]] w (IdxP P l w) := by
  obtain ⟨A, c, rfl, hcc, hm, hr, ha⟩ := h
  have HA := Lib.hid ha
  clear hr ha
  go_enter Try.func105, Try.ntmps105
  go_wp2_with fail
  go_loop [8] (fun i => ∃ k : Nat, k ≤ l.length ∧ i = .int .i64 k ∧ okTo P l k) (fun i => l.length - (intOf i).toNat)
  case atStart => exact ⟨0, Nat.zero_le _, rfl, fun j h => absurd h (by omega)⟩
  case round =>
    obtain ⟨k, hk, rfl, hok⟩ := hrel
    have HO := Lib.hid hok
    clear hok
    by_cases hlt : k < l.length
    · obtain ⟨b2, off, rfl, hb2, hcell⟩ := HA.out (by omega)
      have hck := hcell k hlt
      clear hcell
      have hd1 : decide ((k : Int) < (l.length : Int)) = true := decide_eq_true (by omega)
      have hd2 : decide (k < l.length) = true := decide_eq_true hlt
      go_wp2_with fail
      (with_reducible refine (all1_any P l[k] b _ hc).mono ?_); rintro e w' ⟨rfl, rfl⟩
      cases he : el P l[k] with
      | true =>
        have HE := Lib.hid he
        clear he
        go_wp2_with fail
        go_round
        case rel => exact ⟨k + 1, by omega, by go_num, fun j h1 h2 => by
          by_cases e : j = k
          · subst e; exact HE.out
          · exact HO.out j (by omega) h2⟩
        case measure => simp [intOf]; omega
      | false =>
        have HE := Lib.hid (els_no hlt he)
        clear he
        go_wp2_with fail
        go_ret
        exact ⟨k, rfl, by rw [HE.out]; simp, rfl⟩
    · have HE := Lib.hid (okTo_all HO.out (by omega))
      have hd1 : decide ((k : Int) < (l.length : Int)) = false := decide_eq_false (by omega)
      have hd2 : decide (k < l.length) = false := decide_eq_false hlt
      go_wp2_with fail
      go_ret
      exact ⟨-1, rfl, by rw [HE.out]; rfl, rfl⟩
theorem cont_any (P : Int) (l : List Int) (v : Value) (b : Nat) (w : World) (hc : w.cell? ⟨b, 0, none⟩ = some (.int .i64 P)) (h : SI w v l) :
    Calls Try.prog 98 #[v, .func (.func 99) #[] #[.pointer (some ⟨b, 0, none⟩)]] w fun e w' => e = .returned (.bool (!els P l)) ∧ w = w' := by
  go_enter Try.func98, Try.ntmps98
  go_wp2_with fail
  (with_reducible refine (idx_any P l _ b _ hc h).mono ?_); rintro e w' ⟨k, rfl, hk, rfl⟩
  have HK := Lib.hid hk
  clear hk
  go_wp2_with fail
  go_ret
  exact ⟨ret_bool HK.out, rfl⟩
theorem all_any (P : Int) (l : List Int) (v : Value) (w : World) (h : SI w v l) :
    Calls Try.prog 86 #[.int .i64 P, v] w fun e w' => e = .returned (.bool (els P l)) ∧ Below w.heap.size w w' := by
  have hb : Below w.heap.size w (w.alloc (.cells #[.int .i64 P] 95)) := (Below.refl _ _).alloc (Nat.le_refl _) _
  have h' := SI.below h hb
  go_enter Try.func86, Try.ntmps86
  go_wp2_with fail
  (with_reducible refine (cont_any P l _ _ _ (by simp [go_sem]) h').mono ?_); rintro e w' ⟨rfl, rfl⟩
  go_wp2_with fail
  go_ret
  exact ⟨ret_bool (by simp), hb⟩

/-- Block b is a list of ints, and nothing more. -/
def BK (w : World) (b : Nat) (l : List Int) : Prop := w.heap[b]? = some (.cells (l.map (Value.int .i64)).toArray 3 (0, 0))
theorem BK.lt {w : World} {b : Nat} {l : List Int} (h : BK w b l) : b < w.heap.size := heap_of_cells h
theorem BK.cell {w : World} {b : Nat} {l : List Int} (h : BK w b l) {j : Nat} (hj : j < l.length) : w.cell? ⟨b, j, none⟩ = some (.int .i64 l[j]) := by
  rw [cell_of_row w b j _ _ (0, 0) h]
  simp [hj]
theorem BK.frozen {w : World} {b : Nat} {l : List Int} (h : BK w b l) (j : Nat) : w.frozen? ⟨b, j, none⟩ = false := frozen_of_row w b j _ _ h
theorem BK.kept {w w' : World} {b : Nat} {l : List Int} {r : Option Nat} (h : BK w b l) (hg : w.grownBy w' r) (hne : some b ≠ r) : BK w' b l := (hg.block b h.lt hne).trans h
theorem BK.below {w w' : World} {b B : Nat} {l : List Int} (h : BK w b l) (hb : Below B w w') (hB : b < B) : BK w' b l := (hb.block b hB).trans h
theorem BK.set {w : World} {b : Nat} {l : List Int} (h : BK w b l) (j : Nat) (x : Int) : BK (w.setCell ⟨b, j, none⟩ (.int .i64 x)) b (l.set j x) := by
  unfold BK
  rw [heap_setCell_same w b j _ _ _ h]
  simp [List.map_set]
theorem BK.si {w : World} {b o : Nat} {l : List Int} (h : BK w b l) (hr : ∀ x ∈ l, i64r x) (hl : l.length ≤ 1000000) (ho : o ≤ l.length) : SI w (.slice (some ⟨b, o, none⟩) (l.length - o) (l.length - o)) (l.drop o) := by
  refine ⟨some ⟨b, o, none⟩, l.length - o, by rw [List.length_drop], by rw [List.length_drop]; omega, by omega, fun x hx => hr x (List.mem_of_mem_drop hx), fun h0 => ⟨b, o, rfl, h.lt, fun j hj => ?_⟩⟩
  rw [List.length_drop] at hj
  rw [h.cell (by omega)]
  simp
theorem el_r {P x : Int} (hP : P ≤ 65521) (h : el P x = true) : i64r x := by have := el_t h; unfold i64r; omega
theorem els_r {P : Int} (hP : P ≤ 65521) {l : List Int} (h : els P l = true) : ∀ x ∈ l, i64r x := fun x hx => el_r hP (els_all h x hx)

/-- rounds of AddTimes -/
def AtRel (P : Int) (w : World) (b o : Nat) (to : List Int) (x : Int) (l : List Int) (i : Value) (wr : World) : Prop :=
  ∃ k : Nat, k ≤ l.length ∧ i = .int .i64 k ∧ BK wr b (addT P to o x (l.take k)) ∧ w.grownBy wr (some b)
set_option maxHeartbeats 2000000 in
theorem addTimes_any (P : Int) (b o n c : Nat) (to : List Int) (x : Int) (l : List Int) (v : Value) (w : World) (hP : 2 ≤ P ∧ P ≤ 65521) (hx : 0 ≤ x ∧ x < P) (hto : els P to = true) (hl : els P l = true)
    (hb : BK w b to) (h : SI w v l) (hne : ∀ k, v.ownBlock = some k → k ≠ b) (hn : l.length ≤ n) (ho : o + l.length ≤ to.length) :
    Calls Try.prog 76 #[.int .i64 P, .slice (some ⟨b, o, none⟩) n c, .int .i64 x, v] w fun e w' => (∃ v, e = .returned v) ∧ BK w' b (addT P to o x l) ∧ w.grownBy w' (some b) := by
  obtain ⟨A, c', rfl, hcc, hm, hr, ha⟩ := h
  have HA := Lib.hid ha
  have HB := Lib.hid hb
  have HL := Lib.hid hl
  have HTO := Lib.hid hto
  clear hr ha hb hl hto
  go_enter Try.func76, Try.ntmps76
  go_wp2_with fail
  go_loopw [12] (fun i wr => AtRel P w b o to x l i wr) (fun i _ => l.length - (intOf i).toNat)
  case atStart => exact ⟨0, Nat.zero_le _, rfl, by rw [List.take_zero, addT_zero]; exact HB.out, grownBy_refl _ _⟩
  case round =>
    obtain ⟨k, hk, rfl, hbk, hg⟩ := hrel
    have HBK := Lib.hid hbk
    have HG := Lib.hid hg
    have hz := hg.size
    clear hbk hg
    by_cases hlt : k < l.length
    · obtain ⟨b2, off, rfl, hb2, hcell⟩ := HA.out (by omega)
      have hck := HG.out.cell (hcell k hlt) (fun e => hne b2 rfl (by injection e))
      have hlen2 : (addT P to o x (l.take k)).length = to.length := addT_len _ _ _ _ _
      have htk := HBK.out.cell (j := o + k) (by rw [hlen2]; omega)
      have hfk := HBK.out.frozen (o + k)
      have hel := el_t (els_gd hP.1 (addT_els hP.1 HTO.out o x (l.take k)) (o + k))
      have hel2 := el_t (els_all HL.out _ (List.getElem_mem hlt))
      rw [← gd_lt] at htk
      obtain ⟨t, ht⟩ : ∃ t, t = gd (addT P to o x (l.take k)) (o + k) := ⟨_, rfl⟩
      rw [← ht] at htk hel
      obtain ⟨a, ha⟩ : ∃ a, a = l[k] := ⟨_, rfl⟩
      rw [← ha] at hck hel2
      have HST : Hid (addT P to o x (l.take (k + 1)) = (addT P to o x (l.take k)).set (o + k) ((t + x * a) % P)) := by
        show _ = _
        rw [ht, ha]; exact addT_step P to o x l k hlt ho
      have hm1 : 0 ≤ x * a % P := Int.emod_nonneg _ (by omega)
      have hm2 : x * a % P < P := Int.emod_lt_of_pos _ (by omega)
      have HE : Hid ((t + x * a % P) % P = (t + x * a) % P) := by show _ = _; rw [Int.add_emod, Int.emod_emod_of_dvd _ (Int.dvd_refl P), ← Int.add_emod]
      have hd1 : decide ((k : Int) < (l.length : Int)) = true := decide_eq_true (by omega)
      have hd2 : decide (k < l.length) = true := decide_eq_true hlt
      have z1 : (0 : Int) ≤ (k : Int) := by omega
      have z2 : (k : Int) < (n : Int) := by omega
      clear hcell ht ha hlen2
      go_wp2_with fail
      go_region_with (first | (go_at_call 73; refine (mul_any _ _ _ _ hP hx hel2).mono ?_; rintro e w' ⟨rfl, rfl⟩) | (go_at_call 85; refine (add_any _ _ _ _ hP hel ⟨hm1, hm2⟩).mono ?_; rintro e w' ⟨rfl, rfl⟩))
      all_goals
        go_wp2_with fail
        go_roundw
        case rel =>
          have hs := grownBy_setCell (p := ⟨b, o + k, none⟩) HG.out (.inl rfl) (.int .i64 ((t + x * a) % P))
          exact ⟨k + 1, by omega, by go_num, by rw [HST.out]; exact HBK.out.set _ _, ⟨hs.os, hs.tape, hs.output, hs.size, hs.block⟩⟩
        case measure => simp [intOf]; omega
    · have hkk : k = l.length := by omega
      have hd1 : decide ((k : Int) < (l.length : Int)) = false := decide_eq_false (by omega)
      have hd2 : decide (k < l.length) = false := decide_eq_false hlt
      have HFIN : Hid (BK wr b (addT P to o x l)) := by show BK _ _ _; have := HBK.out; rwa [hkk, List.take_length] at this
      clear hkk
      go_wp2_with fail
      go_end0
      exact ⟨⟨_, rfl⟩, HFIN.out, HG.out⟩
end Go.Proofs.Ytbgabipngdillaa
