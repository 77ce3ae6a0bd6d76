/- The next level: what above of merkle and up of privatefetchref12 return. -/
import Derived.Test.YtmglcjdigpgjlaaMer
namespace Go.Proofs.Ytmglcjdigpgjlaa
open Go.RowKit

def UpRel (w : World) (l : List Int) (i : Nat) (v iv : Value) (wr : World) : Prop :=
  i ≤ l.length + 1 ∧ i % 2 = 0 ∧ iv = .int .i64 i ∧ wr.ownsRow w.heap.size 3 1 v ((List.range (i / 2)).map (nd l)).length (((List.range (i / 2)).map (nd l)).map (Value.int .i64)) ∧ Below w.heap.size w wr
theorem UpRel.start (w : World) (l : List Int) : UpRel w l 0 (.slice none 0 0) (.int .i64 0) w := ⟨by omega, rfl, rfl, World.ownsRow_nil _ _ _ _, Below.refl _ _⟩
theorem UpRel.step {w wr w2 : World} {base n : Nat} {v : Value} {xs : List Value} {o : Obj} (h : Below base w wr) (hown : wr.ownsRow base 3 1 v n xs) (hg : (wr.alloc o).grownBy w2 v.ownBlock) (hb : base ≤ wr.heap.size) : Below base w w2 :=
  (h.alloc hb o).grown hg (by simp; omega) (fun k hk => (hown.lt k hk).1)
theorem nd_r {l : List Int} (h : ∀ x ∈ l, i64r x) (j : Nat) : i64r (nd l j) := by
  unfold nd
  split
  · have := node_bd (l[2 * j]?.getD 0) (l[2 * j + 1]?.getD 0)
    unfold i64r; omega
  · by_cases hj : 2 * j < l.length
    · rw [List.getElem?_eq_getElem hj]; exact h _ (List.getElem_mem hj)
    · rw [List.getElem?_eq_none (by omega)]; unfold i64r; simp
theorem up_r {l : List Int} (h : ∀ x ∈ l, i64r x) : ∀ x ∈ up l, i64r x := by
  intro x hx
  simp only [up, List.mem_map, List.mem_range] at hx
  obtain ⟨j, _, rfl⟩ := hx
  exact nd_r h j

set_option maxHeartbeats 1000000 in
theorem above_own (l : List Int) (v : Value) (w : World) (h : SI w v l) (hl : l.length ≤ 100000) :
    Calls Try.prog 49 #[v] w fun e w' => ∃ v', e = .returned v' ∧ SI w' v' (up l) ∧ w'.ownsRow w.heap.size 3 1 v' (up l).length ((up l).map (Value.int .i64)) ∧ Below w.heap.size w w' := by
  obtain ⟨A, c, rfl, hc, hm, hr, ha⟩ := h
  have HR := Lib.hid hr
  clear hr
  go_enter Try.func49, Try.ntmps49
  go_wp2
  go_loopw [3, 4] (fun v i wr => ∃ k : Nat, UpRel w l k v i wr) (fun _ i _ => l.length + 2 - (intOf i).toNat)
  case atStart => exact ⟨0, UpRel.start w l⟩
  case round =>
    obtain ⟨i, hi, hev, rfl, hown, hbl⟩ := hrel
    have HE := Lib.hid hev
    have HO := Lib.hid hown
    have hz := hbl.size
    clear hev hown
    by_cases hlt : i < l.length
    · obtain ⟨b, off, rfl, hb, hcell⟩ := ha (by omega)
      have c0 := (hbl.cell (p := ⟨b, off + i, none⟩) hb).trans (hcell i hlt)
      have hb2 : b < wr.heap.size := by omega
      by_cases hp : i + 1 < l.length
      · have c1 := (hbl.cell (p := ⟨b, off + (i + 1), none⟩) hb).trans (hcell (i + 1) hp)
        have hn := node_bd l[i] l[i + 1]
        have HN := Lib.hid (nd_pair hp HE.out)
        have hd : ((i : Int) + 1 == (l.length : Int)) = false := by rw [beq_eq_false_iff_ne]; omega
        have e1 : IntKind.i64.wrap ((i : Int) + 1) = (i : Int) + 1 := IntWalk.i64_in _ (by omega)
        have e2 : (0 : Int) ≤ (i : Int) + 1 := by omega
        have e4 : (i : Int) + 1 < (l.length : Int) := by omega
        have e5 : (i : Int) < (l.length : Int) := by omega
        have e3 : ((i : Int) + 1).toNat = i + 1 := by omega
        clear hcell ha
        go_wp2_with fail
        go_region_held3 (fun w' => w'.cell? ⟨b, off + i, none⟩ = some (.int .i64 l[i]) ∧ w'.cell? ⟨b, off + (i + 1), none⟩ = some (.int .i64 l[i + 1])) (first | exact ⟨c0, c1⟩ | exact ⟨q0, q1⟩ | go_keep)
          (first
            | (refine step_append_int1 _ (by rfl) _ _ 22 (by rfl) w.heap.size 3 Try.underlying22 iinfo _ ((List.range (i / 2)).map (nd l)) (by rfl) (by exact (HO.out.alloc _).drew) (node l[i] l[i + 1]) wr.heap.size (by rfl) (by exact cells_new wr [.int .i64 (node l[i] l[i + 1])] 3 0 _ rfl) (by simp; omega) (by simp; omega) ?_
               intro v2 w2 hown2 hg2
               have hbl2 : Below w.heap.size w w2 := Below.grown ((hbl.alloc hz (.cells #[.int .i64 (node l[i] l[i + 1])] 3)).drew) hg2 (by simp; omega) (fun k hk => (HO.out.lt k hk).1)
               have q0 := (hbl2.cell (p := ⟨b, off + i, none⟩) hb).trans (hbl.cell (p := ⟨b, off + i, none⟩) hb).symm |>.trans c0
               have q1 := (hbl2.cell (p := ⟨b, off + (i + 1), none⟩) hb).trans (hbl.cell (p := ⟨b, off + (i + 1), none⟩) hb).symm |>.trans c1)
            | (go_at_call 53; refine (pnode_any _ _ _).mono ?_; rintro e w' ⟨rfl, rfl⟩))
        go_wp2_with fail
        go_roundw
        case rel => exact ⟨i + 2, by omega, by have := HE.out; omega, by go_num, by rw [up_snoc l i HE.out, HN.out]; exact hown2, hbl2⟩
        case measure => simp [intOf]; omega
      · have hp' : i + 1 = l.length := by omega
        have HN := Lib.hid (nd_last hp' HE.out)
        have hd : ((i : Int) + 1 == (l.length : Int)) = true := by rw [beq_iff_eq]; omega
        have HP := Lib.hid hp'
        clear hcell ha
        go_wp2_with (at_builtin; refine wpList_append_int1 _ rfl (.tmp 16) (.tmp 21) 22 rfl w.heap.size 3 Try.underlying22 iinfo _ ((List.range (i / 2)).map (nd l)) rfl HO.out l[i] rfl (by simp; omega) hz ?_; intro v2 w2 hown2 hg2; have hbl2 := UpRel.step hbl HO.out hg2 hz)
        go_roundw
        case rel => exact ⟨i + 2, by omega, by have := HE.out; omega, by go_num, by rw [up_snoc l i HE.out, HN.out]; exact hown2, hbl2⟩
        case measure => simp [intOf]; omega
    · have HU := Lib.hid (show (List.range (i / 2)).map (nd l) = up l by unfold up; rw [show i / 2 = (l.length + 1) / 2 by have := HE.out; omega])
      go_wp2
      go_ret
      exact ⟨_, rfl, SI.of_own (by rw [← HU.out]; exact HO.out) (up_r HR.out), by rw [← HU.out]; exact HO.out, hbl⟩

set_option maxHeartbeats 1000000 in
theorem rup_own (l : List Int) (v : Value) (w : World) (h : SI w v l) (hl : l.length ≤ 100000) :
    Calls Try.prog 51 #[v] w fun e w' => ∃ v', e = .returned v' ∧ SI w' v' (up l) ∧ w'.ownsRow w.heap.size 3 1 v' (up l).length ((up l).map (Value.int .i64)) ∧ Below w.heap.size w w' := by
  obtain ⟨A, c, rfl, hc, hm, hr, ha⟩ := h
  have HR := Lib.hid hr
  clear hr
  go_enter Try.func51, Try.ntmps51
  go_wp2
  go_loopw [3, 4] (fun v i wr => ∃ k : Nat, UpRel w l k v i wr) (fun _ i _ => l.length + 2 - (intOf i).toNat)
  case atStart => exact ⟨0, UpRel.start w l⟩
  case round =>
    obtain ⟨i, hi, hev, rfl, hown, hbl⟩ := hrel
    have HE := Lib.hid hev
    have HO := Lib.hid hown
    have hz := hbl.size
    clear hev hown
    by_cases hlt : i < l.length
    · obtain ⟨b, off, rfl, hb, hcell⟩ := ha (by omega)
      have c0 := (hbl.cell (p := ⟨b, off + i, none⟩) hb).trans (hcell i hlt)
      have hb2 : b < wr.heap.size := by omega
      by_cases hp : i + 1 < l.length
      · have c1 := (hbl.cell (p := ⟨b, off + (i + 1), none⟩) hb).trans (hcell (i + 1) hp)
        have hn := node_bd l[i] l[i + 1]
        have HN := Lib.hid (nd_pair hp HE.out)
        have hd : i + 1 < l.length := hp
        have e1 : IntKind.i64.wrap ((i : Int) + 1) = (i : Int) + 1 := IntWalk.i64_in _ (by omega)
        have e2 : (0 : Int) ≤ (i : Int) + 1 := by omega
        have e4 : (i : Int) + 1 < (l.length : Int) := by omega
        have e5 : (i : Int) < (l.length : Int) := by omega
        have e3 : ((i : Int) + 1).toNat = i + 1 := by omega
        clear hcell ha
        go_wp2_with fail
        go_region_held3 (fun w' => w'.cell? ⟨b, off + i, none⟩ = some (.int .i64 l[i]) ∧ w'.cell? ⟨b, off + (i + 1), none⟩ = some (.int .i64 l[i + 1])) (first | exact ⟨c0, c1⟩ | exact ⟨q0, q1⟩ | go_keep)
          (first
            | (refine step_append_int1 _ (by rfl) _ _ 22 (by rfl) w.heap.size 3 Try.underlying22 iinfo _ ((List.range (i / 2)).map (nd l)) (by rfl) (by exact (HO.out.alloc _).drew) (node l[i] l[i + 1]) wr.heap.size (by rfl) (by exact cells_new wr [.int .i64 (node l[i] l[i + 1])] 3 0 _ rfl) (by simp; omega) (by simp; omega) ?_
               intro v2 w2 hown2 hg2
               have hbl2 : Below w.heap.size w w2 := Below.grown ((hbl.alloc hz (.cells #[.int .i64 (node l[i] l[i + 1])] 3)).drew) hg2 (by simp; omega) (fun k hk => (HO.out.lt k hk).1)
               have q0 := (hbl2.cell (p := ⟨b, off + i, none⟩) hb).trans (hbl.cell (p := ⟨b, off + i, none⟩) hb).symm |>.trans c0
               have q1 := (hbl2.cell (p := ⟨b, off + (i + 1), none⟩) hb).trans (hbl.cell (p := ⟨b, off + (i + 1), none⟩) hb).symm |>.trans c1)
            | (go_at_call 39; refine (rnode_any _ _ _).mono ?_; rintro e w' ⟨rfl, rfl⟩))
        go_wp2_with fail
        go_roundw
        case rel => exact ⟨i + 2, by omega, by have := HE.out; omega, by go_num, by rw [up_snoc l i HE.out, HN.out]; exact hown2, hbl2⟩
        case measure => simp [intOf]; omega
      · have hp' : i + 1 = l.length := by omega
        have HN := Lib.hid (nd_last hp' HE.out)
        have hd : decide ((i : Int) + 1 < (l.length : Int)) = false := by simp; omega
        have HP := Lib.hid hp'
        clear hcell ha
        go_wp2_with (at_builtin; refine wpList_append_int1 _ rfl (.tmp 29) (.tmp 34) 22 rfl w.heap.size 3 Try.underlying22 iinfo _ ((List.range (i / 2)).map (nd l)) rfl HO.out l[i] rfl (by simp; omega) hz ?_; intro v2 w2 hown2 hg2; have hbl2 := UpRel.step hbl HO.out hg2 hz)
        go_roundw
        case rel => exact ⟨i + 2, by omega, by have := HE.out; omega, by go_num, by rw [up_snoc l i HE.out, HN.out]; exact hown2, hbl2⟩
        case measure => simp [intOf]; omega
    · have HU := Lib.hid (show (List.range (i / 2)).map (nd l) = up l by unfold up; rw [show i / 2 = (l.length + 1) / 2 by have := HE.out; omega])
      go_wp2
      go_ret
      exact ⟨_, rfl, SI.of_own (by rw [← HU.out]; exact HO.out) (up_r HR.out), by rw [← HU.out]; exact HO.out, hbl⟩
theorem above_any (l : List Int) (v : Value) (w : World) (h : SI w v l) (hl : l.length ≤ 100000) :
    Calls Try.prog 49 #[v] w fun e w' => ∃ v', e = .returned v' ∧ SI w' v' (up l) ∧ Below w.heap.size w w' :=
  (above_own l v w h hl).mono fun _ _ ⟨v', h1, h2, _, h3⟩ => ⟨v', h1, h2, h3⟩
theorem rup_any (l : List Int) (v : Value) (w : World) (h : SI w v l) (hl : l.length ≤ 100000) :
    Calls Try.prog 51 #[v] w fun e w' => ∃ v', e = .returned v' ∧ SI w' v' (up l) ∧ Below w.heap.size w w' :=
  (rup_own l v w h hl).mono fun _ _ ⟨v', h1, h2, _, h3⟩ => ⟨v', h1, h2, h3⟩
end Go.Proofs.Ytmglcjdigpgjlaa
