/- Joined: Tc Te Tf Tg Th. -/
import Derived.Laws.CopyOwn
import Derived.Deep.RegionLaw
import Derived.Deep.RegionHeld3
import Derived.Test.YtbgabipngdillaaZ54
import Derived.Test.YtbgabipngdillaaZ25
import Derived.Test.YtbgabipngdillaaZ08
import Derived.Test.YtbgabipngdillaaZ29
import Derived.Test.YtbgabipngdillaaZ32
import Derived.Test.YtbgabipngdillaaZ17
namespace Go.Proofs.Ytbgabipngdillaa
open Go.RowKit Go.Shelf

theorem step_copy_at {P : Program} {ops : Array Oper} {o : Oper} {a : Act} {w : World} {K : Act → World → Prop} {Q : Exit → Act → World → Prop} {E : Prop} (hgd : o.guard = none) (d s : Operand) (dT sT : TypeId)
    (ho : o.op = .call { callee := .builtin .copy, args := #[d, s], argTypes := #[dT, sT] }) (elem : TypeId) (hu : P.underlying dT = some (.slice elem)) (hsz : (P.info? elem).map (·.size) = some 1)
    (dp sp : Option Addr) (dLen dCap sLen sCap : Nat) (hd : a.eval d = .slice dp dLen dCap) (hs : a.eval s = .slice sp sLen sCap)
    (g off : Nat) (cur : List Value) (t : TypeId) (hg : w.heap[g]? = some (.cells cur.toArray t (0, 0))) (cs : List Value) (hn : cs.length = Nat.min sLen dLen)
    (hpos : 0 < cs.length → dp = some ⟨g, off, none⟩ ∧ ∃ ad, sp = some ad ∧ ∀ j v, cs[j]? = some v → w.cell? (ad.add j) = some v)
    (hfit : off + cs.length ≤ cur.length) (h1 : ∀ v ∈ cs, v.oneCell' = true)
    (h : ∀ w', RowKit.Hid (w'.heap[g]? = some (.cells (splice cur off cs).toArray t (0, 0))) → w.grownBy w' (some g) → K (a.put o.dst (goInt cs.length)) w') :
    if Region.wanted o (yielded ops a.tmps) = true then Oper.wp P o a w K Q else E := by
  have hw : Region.wanted o (yielded ops a.tmps) = true := by simp [Region.wanted, hgd]
  rw [if_pos hw]
  by_cases h0 : cs.length = 0
  · obtain rfl : cs = [] := List.eq_nil_of_length_eq_zero h0
    have hrun := run_copy_none (P := P) w dT sT o.type elem dp sp dLen dCap sLen sCap hu hsz (by simpa using hn.symm)
    unfold Oper.wp
    simp [execOp, ho, resolve, invoke, builtin, hd, hs, hrun, Result.andThen]
    exact h w (show _ = _ by simpa [splice] using hg) (grownBy_refl _ _)
  · obtain ⟨rfl, ad, rfl, hsrc⟩ := hpos (by omega)
    have hrun := run_copy_row (P := P) w dT sT o.type elem g off dLen dCap ad sLen sCap cur.toArray t cs hu hsz hg hn hsrc (by simpa using hfit) h1
    unfold Oper.wp
    simp [execOp, ho, resolve, invoke, builtin, hd, hs, hrun, Result.andThen]
    exact h _ (show _ = _ by simpa [splice] using setRow_heap w g _ _ t _ hg) ⟨rfl, rfl, rfl, by simp [World.setRow], fun k hk hne => setRow_other w g k _ (by intro e; exact hne (by rw [e]))⟩
theorem put_list {cur vs : List Value} {n k : Nat} {z u : Value} (h : cur.take (n + 1) = vs ++ [z]) (hn : n = vs.length) (hk : k ≤ n) (hl : n + 1 ≤ cur.length) : ((splice cur (k + 1) (vs.drop k)).set k u).take (n + 1) = vs.take k ++ u :: vs.drop k := by
  have e1 : cur.take (k + 1) = cur.take k ++ [cur[k]'(by omega)] := List.take_succ_eq_append_getElem (by omega)
  have e2 : cur.take k = vs.take k := by
    have := congrArg (List.take k) h
    rw [List.take_take, Nat.min_eq_left (by omega), List.take_append_of_le_length (by omega)] at this
    exact this
  have e3 : (vs.take k).length = k := by rw [List.length_take]; omega
  unfold splice
  rw [e1, e2, List.append_assoc, List.set_append_right _ _ (by omega), e3, Nat.sub_self]
  show (vs.take k ++ (u :: (vs.drop k ++ _))).take (n + 1) = _
  rw [← List.cons_append, ← List.append_assoc]
  apply List.take_left'
  simp
  omega
theorem put_own {G n cap9 g9 k : Nat} {cur vs : List Value} {z u : Value} {w10 : World} (h : w10.heap[g9]? = some (.cells (splice cur (k + 1) (vs.drop k)).toArray 22 (0, 0))) (hG : G ≤ g9) (htk : cur.take (n + 1) = vs ++ [z]) (hn : n = vs.length) (hk : k ≤ n) (hcs : cur.length = cap9) (hnc : n + 1 ≤ cap9) (hcm : cap9 ≤ maxLen) :
    (w10.setCell ⟨g9, k, none⟩ u).ownsRow G 22 1 (.slice (some ⟨g9, 0, none⟩) (n + 1) cap9) (n + 1) (vs.take k ++ u :: vs.drop k) := by
  have h1 := heap_setCell_same w10 g9 k _ _ u h
  refine ⟨by simp; omega, .inr ⟨g9, cap9, _, rfl, hG, h1, hnc, hcm, ?_, ?_⟩⟩
  · have := length_splice cur (k + 1) (vs.drop k) (by simp; omega)
    simp [this, hcs]
  · have := put_list (u := u) htk hn hk (by omega)
    simpa using this
theorem ins_lo {α : Type} {l : List α} {x : α} {k j : Nat} (hk : k ≤ l.length) (h : j < k) : (l.take k ++ x :: l.drop k)[j]? = l[j]? := by
  rw [List.getElem?_append_left (by simp; omega), List.getElem?_take, if_pos h]
theorem ins_at {α : Type} {l : List α} {x : α} {k : Nat} (hk : k ≤ l.length) : (l.take k ++ x :: l.drop k)[k]? = some x := by
  rw [List.getElem?_append_right (by simp; omega), List.length_take, Nat.min_eq_left hk, Nat.sub_self]; rfl
theorem ins_hi {α : Type} {l : List α} {x : α} {k m : Nat} (hk : k ≤ l.length) (h : k ≤ m) : (l.take k ++ x :: l.drop k)[m + 1]? = l[m]? := by
  rw [List.getElem?_append_right (by simp; omega), List.length_take, Nat.min_eq_left hk, show m + 1 - k = (m - k) + 1 by omega, List.getElem?_cons_succ, List.getElem?_drop, show k + (m - k) = m by omega]
theorem put_done {G g n c k g9 cap9 : Nat} {A : Option Addr} {ps : List (List Int)} {vs : List Value} {p : List Int} {vp : Value} {wr w9 w10 : World} {o : Obj}
    (h : RW G g wr (.slice A n c) vs ps) (hp : SX wr (Value.slice A n c).ownBlock (some g) vp p)
    (hg9 : (wr.alloc o).grownBy w9 (Value.slice A n c).ownBlock) (ha9 : (Value.slice A n c).ownBlock = some g9 ∨ g9 = (wr.alloc o).heap.size) (hg10 : w9.drew.grownBy w10 (some g9))
    (ho : (w10.setCell ⟨g9, k, none⟩ vp).ownsRow G 22 1 (.slice (some ⟨g9, 0, none⟩) (n + 1) cap9) (n + 1) (vs.take k ++ vp :: vs.drop k)) (hn : n = vs.length) (hk : k ≤ n) :
    RW G g (w10.setCell ⟨g9, k, none⟩ vp) (.slice (some ⟨g9, 0, none⟩) (n + 1) cap9) (vs.take k ++ vp :: vs.drop k) (ps.take k ++ p :: ps.drop k) ∧ wr.grownBy (w10.setCell ⟨g9, k, none⟩ vp) (Value.slice A n c).ownBlock := by
  have g1 : wr.grownBy w9 (Value.slice A n c).ownBlock := grownBy_trans (grownBy_of_below ((Below.refl _ wr).alloc (Nat.le_refl _) o) _) hg9
  have hsz : wr.heap.size ≤ w10.heap.size := Nat.le_trans g1.size hg10.size
  have hsz2 : (w10.setCell ⟨g9, k, none⟩ vp).heap.size = w10.heap.size := (grownBy_setCell' w10 g9 vp).size |> fun _ => by simp [World.setCell]
  have hal : wr.heap.size < (wr.alloc o).heap.size := by simp
  have hbk : ∀ b, b < wr.heap.size → some b ≠ (Value.slice A n c).ownBlock → (w10.setCell ⟨g9, k, none⟩ vp).heap[b]? = wr.heap[b]? ∧ b ≠ g9 := fun b hb hne => by
    have h9 : b ≠ g9 := by
      rintro rfl
      rcases ha9 with h8 | h8
      · exact hne h8.symm
      · omega
    refine ⟨?_, h9⟩
    rw [heap_setCell_other w10 _ b vp h9]
    have h2 := hg10.block b (Nat.lt_of_lt_of_le hb g1.size) (by intro e; injection e with e; exact h9 e)
    exact h2.trans (g1.block b hb hne)
  have hpl : ps.length = n := by rw [hn, h.len]
  refine ⟨⟨by simp [hpl, ← hn], by simpa [← hn, Nat.min_eq_left hk, show k + (n - k + 1) = n + 1 by omega] using ho, fun j h1 h2 => ?_⟩, ?_⟩
  · have hkeep : ∀ {v : Value} {l : List Int}, SX wr (Value.slice A n c).ownBlock (some g) v l → SX (w10.setCell ⟨g9, k, none⟩ vp) (Value.slice (some ⟨g9, 0, none⟩) (n + 1) cap9).ownBlock (some g) v l := fun hx =>
      hx.keep (by rw [hsz2]; exact hsz) fun b hb hx hy => ⟨(hbk b hb hx).1, fun e => (hbk b hb hx).2 (by simpa [Value.ownBlock] using e), hy⟩
    have e1 := List.getElem?_eq_getElem h1
    have e2 := List.getElem?_eq_getElem h2
    by_cases hjk : j < k
    · rw [ins_lo (by omega) hjk, List.getElem?_eq_getElem (by omega)] at e1 e2
      injection e1 with e1
      injection e2 with e2
      rw [← e1, ← e2]
      exact hkeep (h.row j _ _)
    · by_cases hje : j = k
      · subst hje
        rw [ins_at (by omega)] at e1 e2
        injection e1 with e1
        injection e2 with e2
        rw [← e1, ← e2]
        exact hkeep hp
      · obtain ⟨m, rfl⟩ : ∃ m, j = m + 1 := ⟨j - 1, by omega⟩
        have hm : m < n := by simp at h1; omega
        rw [ins_hi (by omega) (by omega), List.getElem?_eq_getElem (by omega)] at e1 e2
        injection e1 with e1
        injection e2 with e2
        rw [← e1, ← e2]
        exact hkeep (h.row m _ _)
  · exact ⟨hg10.os.trans g1.os, hg10.tape.trans g1.tape, hg10.output.trans g1.output, by rw [hsz2]; exact hsz, fun b hb hne => (hbk b hb hne).1⟩
theorem ilsz : (Try.prog.info? 22).map (·.size) = some 1 := by kernel_rfl
def PutR (w : World) (i0 : Nat) (iv : Value) (wr : World) : Prop := ∃ k : Nat, k ≤ i0 ∧ iv = .int .i64 k ∧ wr = w

set_option maxRecDepth 100000 in
set_option maxHeartbeats 4000000 in
theorem put10_any {G g : Nat} {ps : List (List Int)} {vs : List Value} {p : List Int} (pv vp : Value) (w : World) (h : RW G g w pv vs ps) (hgG : g < G) (hGw : G ≤ w.heap.size) (hp : SX w pv.ownBlock (some g) vp p)
    (hlen : ps.length ≤ 100000) (hpl : ∀ q ∈ ps, q.length ≤ 1000000) (hpp : p.length ≤ 1000000) :
    Calls Try.prog 66 #[pv, vp] w fun e w' => ∃ pv' vs', e = .returned pv' ∧ RW G g w' pv' vs' (putL ps p) ∧ w.grownBy w' pv.ownBlock := by
  have hsle := h.sle hgG
  have hln := h.len
  have HRW := Lib.hid h
  have HSX := Lib.hid hp
  have hsp : SI w vp p := hp.se.si
  obtain ⟨A, c, e1⟩ := own_slice h.hdr
  subst e1
  obtain ⟨Ap, cp, e2⟩ := hsp.form
  subst e2
  have HSP := Lib.hid hsp
  have HPP := Lib.hid hpp
  have HPL := Lib.hid hpl
  obtain ⟨n, en⟩ : ∃ n, n = vs.length := ⟨_, rfl⟩
  have HN : Hid (n = vs.length) := en
  have HNP : Hid (n = ps.length) := (show Hid _ from by show _ = _; rw [en, hln])
  have hn1 : n ≤ 100000 := by rw [en, hln]; exact hlen
  rw [← en] at HRW HSX hsle ⊢
  obtain ⟨i0, ei⟩ : ∃ i0, i0 = putI ps p := ⟨_, rfl⟩
  have HI : Hid (i0 = putI ps p) := ei
  have hi0 : i0 ≤ n := by rw [ei, en, hln]; exact putI_le p ps
  obtain ⟨plen, epl⟩ : ∃ m, m = p.length := ⟨_, rfl⟩
  have HPN : Hid (plen = p.length) := epl
  rw [← epl] at HSP HSX ⊢
  have HCL : Hid (∀ j (hj : j < ps.length), ∃ b off B d, A = some ⟨b, off, none⟩ ∧ w.cell? ⟨b, off + j, none⟩ = some (.slice B ps[j].length d) ∧ SI w (.slice B ps[j].length d) ps[j]) := (show Hid _ from fun j hj => by
    obtain ⟨A', c', e3, _, _, ha⟩ := hsle
    injection e3 with e4 e5 e6
    subst e4
    obtain ⟨b, off, e7, _, _, hcell⟩ := ha (by omega)
    obtain ⟨B, d, h1, h2⟩ := hcell j hj
    exact ⟨b, off, B, d, e7, h1, h2.si⟩)
  clear hp hsp hpl hsle h en ei epl hpp hln hlen
  go_enter Try.func66, Try.ntmps66
  go_wp2_with fail
  go_loopw [5] (fun iv wr => PutR w i0 iv wr) (fun i _ => i0 - (intOf i).toNat)
  case atStart => exact ⟨0, Nat.zero_le _, rfl, rfl⟩
  case round =>
    obtain ⟨k, hk, rfl, rfl⟩ := hrel
    by_cases hkn : k < n
    · have d1 : decide ((k : Int) < (n : Int)) = true := decide_eq_true (by omega)
      have d2 : decide (k < n) = true := decide_eq_true hkn
      have hkp : k < ps.length := by rw [← HNP.out]; exact hkn
      obtain ⟨b, off, B, d, rfl, hc, hs⟩ := HCL.out k hkp
      have hql : ps[k].length ≤ 1000000 := HPL.out _ (List.getElem_mem hkp)
      have HLT : Hid (decide (cmpV ps[k] p < 0) = decide (k < i0)) := (show Hid _ from by
        show _ = _
        apply decide_eq_decide.2
        rw [HI.out]
        constructor
        · intro h1
          apply Nat.lt_of_not_le
          intro h2
          have h3 := HI.out
          have : k = putI ps p := by omega
          subst this
          exact putI_ge p ps hkp h1
        · intro h1
          exact putI_lt p ps k hkp h1)
      have HEQ : Hid (k = i0 → cmpV ps[k] p = 0 → putL ps p = ps) := (show Hid _ from fun h1 h2 => by
        have h3 := HI.out
        have : k = putI ps p := by omega
        subst this
        exact putL_same p ps hkp h2)
      have HNE : Hid (k = i0 → cmpV ps[k] p ≠ 0 → putL ps p = ps.take i0 ++ p :: ps.drop i0) := (show Hid _ from fun h1 h2 => by
        have h3 := HI.out
        rw [h3]
        exact putL_new p ps (fun h4 => by
          have : k = putI ps p := by omega
          subst this
          exact h2))
      obtain ⟨q, eq⟩ : ∃ q, q = ps[k] := ⟨_, rfl⟩
      rw [← eq] at hc hs hql HLT HEQ HNE
      have HS := Lib.hid hs
      clear hs eq
      go_wp2_with fail
      (with_reducible refine (less10_any q p _ _ _ HS.out HSP.out hql HPP.out).mono ?_)
      rintro e w' ⟨rfl, hw⟩
      subst hw
      rw [HLT.out]
      by_cases hki : k < i0
      · have d3 : decide (k < i0) = true := decide_eq_true hki
        rw [d3]
        go_wp2_with fail
        go_roundw
        case rel => exact ⟨k + 1, by omega, by go_num, rfl⟩
        case measure => simp [intOf]; omega
      · have d3 : decide (k < i0) = false := decide_eq_false hki
        have hki0 : k = i0 := by omega
        rw [d3]
        clear d3 HLT hki
        subst hki0
        go_wp2_with fail
        (with_reducible refine (same10_any q p _ _ _ HS.out HSP.out hql HPP.out).mono ?_)
        rintro e w' ⟨rfl, hw⟩
        subst hw
        by_cases hz : cmpV q p = 0
        · have d4 : decide (cmpV q p = 0) = true := decide_eq_true hz
          have HR := Lib.hid (HEQ.out (by first | trivial | rfl) hz)
          rw [d4]
          clear hz d4
          go_wp2_with fail
          go_ret
          exact ⟨_, _, rfl, by rw [HR.out]; exact HRW.out, grownBy_refl _ _⟩
        · have d4 : decide (cmpV q p = 0) = false := decide_eq_false hz
          have HR := Lib.hid (HNE.out (by first | trivial | rfl) hz)
          rw [d4]
          clear hz d4
          go_upto_region 6 with fail
          obtain ⟨A, hA⟩ : ∃ A, A = some (⟨b, off, none⟩ : Addr) := ⟨_, rfl⟩
          rw [← hA] at HRW HSX ⊢
          have HAA := Lib.hid hA
          clear hA
          have HOW : Hid (wr.ownsRow G 22 1 (.slice A n c) n vs) := (show Hid _ from by have h9 := HRW.out.hdr; rw [← HN.out] at h9; exact h9)
          go_upto_region 7 with (at_builtin; refine wpList_append_one_at _ rfl _ _ 34 rfl G 22 (.slice none 0 0) 24 Try.underlying34 ilinfo _ n vs rfl (HOW.out.alloc _) (.slice none 0 0) rfl wr.heap.size rfl (cells_new wr [.slice none 0 0] 22 0 _ rfl) (by omega) (by omega) rfl (by simp; omega) ?_; intro g9 cap9 w9 hown9 hg9 hat9; have HO9 := Lib.hid hown9; have HG9 := Lib.hid hg9; have HA9 := Lib.hid hat9; clear hown9 hg9 hat9)
          obtain ⟨cur, hG9, hcur, hnc, hcm, hcs, htk⟩ : ∃ cur : List Value, G ≤ g9 ∧ w9.heap[g9]? = some (.cells cur.toArray 22 (0, 0)) ∧ n + 1 ≤ cap9 ∧ cap9 ≤ maxLen ∧ cur.length = cap9 ∧ cur.take (n + 1) = vs ++ [.slice none 0 0] := by
            rcases HO9.out.2 with ⟨_, h9⟩ | ⟨g', cap', cur, e9, hb9, hg9, hnc, hcm, hcs, ht⟩
            · omega
            · injection e9 with e1 e2 e3
              injection e1 with e1
              injection e1 with e1
              subst e1 e3
              exact ⟨cur.toList, hb9, by simpa using hg9, hnc, hcm, by simpa using hcs, by simpa using ht⟩
          have HCU := Lib.hid hcur
          have HTK := Lib.hid htk
          have HCS := Lib.hid hcs
          clear hcur htk hcs
          have k1 : IntKind.i64.wrap ((k : Int) + 1) = ((k + 1 : Nat) : Int) := by rw [show (k : Int) + 1 = ((k + 1 : Nat) : Int) by omega]; exact IntWalk.i64_in _ (by omega)
          have f1 : (0 : Int) ≤ (k : Int) := by omega
          have f2 : (0 : Int) ≤ (k : Int) + 1 := by omega
          have f3 : (k : Int) + 1 ≤ (n : Int) + 1 := by omega
          have f4 : (k : Int) ≤ (n : Int) + 1 := by omega
          have f5 : (n : Int) + 1 ≤ (cap9 : Int) := by omega
          have f6 : (k : Int) + 1 ≤ (cap9 : Int) := by omega
          have f7 : (k : Int) ≤ (cap9 : Int) := by omega
          have hvl : (vs.drop k).length = n - k := by rw [List.length_drop, ← HN.out]
          have HCELL : Hid (∀ j v, (vs.drop k)[j]? = some v → w9.drew.cell? (Addr.add ⟨g9, k, none⟩ j) = some v) := (show Hid _ from fun j v hj => by
            have h1 : w9.cell? ⟨g9, k + j, none⟩ = cur.toArray[k + j]? := cell_of_row _ g9 (k + j) cur.toArray _ (0, 0) HCU.out
            have h2 : cur[k + j]? = some v := by
              rw [List.getElem?_drop] at hj
              have h3 : k + j < vs.length := (List.getElem?_eq_some_iff.1 hj).1
              have h4 : (cur.take (n + 1))[k + j]? = some v := by rw [HTK.out, List.getElem?_append_left h3]; exact hj
              rw [List.getElem?_take] at h4
              have h5 := HN.out
              rw [if_pos (by omega)] at h4
              exact h4
            have h6 : (⟨g9, k, none⟩ : Addr).add j = ⟨g9, k + j, none⟩ := by cases j with | zero => rfl | succ j => rfl
            have h7 : w9.drew.cell? ⟨g9, k + j, none⟩ = w9.cell? ⟨g9, k + j, none⟩ := rfl
            rw [h6, h7, h1]
            simpa using h2)
          have HONE : Hid (∀ v ∈ vs.drop k, v.oneCell' = true) := (show Hid _ from fun v hv => by
            obtain ⟨j, hj, e⟩ := List.getElem_of_mem (List.mem_of_mem_drop hv)
            obtain ⟨A', c', e', _⟩ := HRW.out.row j hj (by rw [← HRW.out.len]; exact hj)
            rw [← e, e']
            rfl)
          go_region_law (refine step_copy_at rfl (.tmp 39) (.tmp 42) 34 34 rfl 22 Try.underlying34 ilsz (if cap9 = k + 1 then some ⟨g9, 0, none⟩ else some ⟨g9, k + 1, none⟩) (if cap9 = k then some ⟨g9, 0, none⟩ else some ⟨g9, k, none⟩) (n - k) (cap9 - (k + 1)) (n + 1 - k) (cap9 - k) (by simp [Act.eval, Act.put]) (by simp [Act.eval, Act.put]) g9 (k + 1) cur 22 (by exact HCU.out) (vs.drop k) (by rw [hvl]; exact (Nat.min_eq_right (by omega)).symm) (by intro h0; rw [hvl] at h0; exact ⟨if_neg (by omega), _, if_neg (by omega), HCELL.out⟩) (by rw [hvl, HCS.out]; omega) HONE.out ?_; intro w10 h10 hg10; have HX10 := Lib.hid h10.out; have HG10 := Lib.hid hg10; clear h10 hg10)
          obtain ⟨S, eS⟩ : ∃ S, S = splice cur (k + 1) (vs.drop k) := ⟨_, rfl⟩
          have hSl : S.length = cap9 := by rw [eS, length_splice _ _ _ (by rw [hvl, HCS.out]; omega), HCS.out]
          have HSP2 := Lib.hid eS
          rw [← eS] at HX10
          have HSL := Lib.hid hSl
          obtain ⟨u, eu⟩ : ∃ u, S[k]? = some u := ⟨S[k]'(by omega), List.getElem?_eq_getElem (by omega)⟩
          have hcx : w10.cell? ⟨g9, k, none⟩ = some u := by rw [cell_of_row _ g9 k S.toArray _ (0, 0) HX10.out]; simpa using eu
          have hfz : w10.frozen? ⟨g9, k, none⟩ = false := frozen_of_row w10 g9 k _ _ HX10.out
          clear hSl eS eu
          go_wp2_with fail
          all_goals
            have HD := put_done HRW.out HSX.out HG9.out HA9.out HG10.out (put_own (by have h9 := HX10.out; rw [HSP2.out] at h9; exact h9) hG9 HTK.out HN.out (by omega) HCS.out (by omega) (by omega)) HN.out (by omega)
            refine bodyPost_ret (v := .slice (some ⟨g9, 0, none⟩) (n + 1) cap9) (by simp [results, Try.results66, go_sem] <;> omega) rfl ?_
            have HD2 : wr.grownBy (w10.setCell ⟨g9, k, none⟩ (.slice Ap plen cp)) (Value.slice A n c).ownBlock := HD.2
            first
            | exact ⟨_, rfl, ⟨_, by rw [HR.out]; exact HD.1⟩, HD2⟩
            | exact ⟨_, rfl, ⟨_, by rw [HR.out]; exact HD.1⟩, by rw [HAA.out] at HD2; exact HD2⟩
            | exact ⟨_, _, rfl, by rw [HR.out]; exact HD.1, HD2⟩
            | exact ⟨_, _, rfl, by rw [HR.out]; exact HD.1, by rw [HAA.out] at HD2; exact HD2⟩
    · have d1 : decide ((k : Int) < (n : Int)) = false := decide_eq_false (by omega)
      have d2 : decide (k < n) = false := decide_eq_false hkn
      have hki0 : k = i0 := by omega
      have HR : Hid (putL ps p = ps.take i0 ++ p :: ps.drop i0) := (show Hid _ from by
        show _ = _
        rw [HI.out]
        exact putL_new p ps (fun h4 => by
          exfalso
          have h5 := HI.out
          have h6 := HNP.out
          omega))
      subst hki0
      go_upto_region 6 with fail
      have HOW : Hid (wr.ownsRow G 22 1 (.slice A n c) n vs) := (show Hid _ from by have h9 := HRW.out.hdr; rw [← HN.out] at h9; exact h9)
      go_upto_region 7 with (at_builtin; refine wpList_append_one_at _ rfl _ _ 34 rfl G 22 (.slice none 0 0) 24 Try.underlying34 ilinfo _ n vs rfl (HOW.out.alloc _) (.slice none 0 0) rfl wr.heap.size rfl (cells_new wr [.slice none 0 0] 22 0 _ rfl) (by omega) (by omega) rfl (by simp; omega) ?_; intro g9 cap9 w9 hown9 hg9 hat9; have HO9 := Lib.hid hown9; have HG9 := Lib.hid hg9; have HA9 := Lib.hid hat9; clear hown9 hg9 hat9)
      obtain ⟨cur, hG9, hcur, hnc, hcm, hcs, htk⟩ : ∃ cur : List Value, G ≤ g9 ∧ w9.heap[g9]? = some (.cells cur.toArray 22 (0, 0)) ∧ n + 1 ≤ cap9 ∧ cap9 ≤ maxLen ∧ cur.length = cap9 ∧ cur.take (n + 1) = vs ++ [.slice none 0 0] := by
        rcases HO9.out.2 with ⟨_, h9⟩ | ⟨g', cap', cur, e9, hb9, hg9, hnc, hcm, hcs, ht⟩
        · omega
        · injection e9 with e1 e2 e3
          injection e1 with e1
          injection e1 with e1
          subst e1 e3
          exact ⟨cur.toList, hb9, by simpa using hg9, hnc, hcm, by simpa using hcs, by simpa using ht⟩
      have HCU := Lib.hid hcur
      have HTK := Lib.hid htk
      have HCS := Lib.hid hcs
      clear hcur htk hcs
      have k1 : IntKind.i64.wrap ((k : Int) + 1) = ((k + 1 : Nat) : Int) := by rw [show (k : Int) + 1 = ((k + 1 : Nat) : Int) by omega]; exact IntWalk.i64_in _ (by omega)
      have f1 : (0 : Int) ≤ (k : Int) := by omega
      have f2 : (0 : Int) ≤ (k : Int) + 1 := by omega
      have f3 : (k : Int) + 1 ≤ (n : Int) + 1 := by omega
      have f4 : (k : Int) ≤ (n : Int) + 1 := by omega
      have f5 : (n : Int) + 1 ≤ (cap9 : Int) := by omega
      have f6 : (k : Int) + 1 ≤ (cap9 : Int) := by omega
      have f7 : (k : Int) ≤ (cap9 : Int) := by omega
      have hvl : (vs.drop k).length = n - k := by rw [List.length_drop, ← HN.out]
      have HCELL : Hid (∀ j v, (vs.drop k)[j]? = some v → w9.drew.cell? (Addr.add ⟨g9, k, none⟩ j) = some v) := (show Hid _ from fun j v hj => by
        have h1 : w9.cell? ⟨g9, k + j, none⟩ = cur.toArray[k + j]? := cell_of_row _ g9 (k + j) cur.toArray _ (0, 0) HCU.out
        have h2 : cur[k + j]? = some v := by
          rw [List.getElem?_drop] at hj
          have h3 : k + j < vs.length := (List.getElem?_eq_some_iff.1 hj).1
          have h4 : (cur.take (n + 1))[k + j]? = some v := by rw [HTK.out, List.getElem?_append_left h3]; exact hj
          rw [List.getElem?_take] at h4
          have h5 := HN.out
          rw [if_pos (by omega)] at h4
          exact h4
        have h6 : (⟨g9, k, none⟩ : Addr).add j = ⟨g9, k + j, none⟩ := by cases j with | zero => rfl | succ j => rfl
        have h7 : w9.drew.cell? ⟨g9, k + j, none⟩ = w9.cell? ⟨g9, k + j, none⟩ := rfl
        rw [h6, h7, h1]
        simpa using h2)
      have HONE : Hid (∀ v ∈ vs.drop k, v.oneCell' = true) := (show Hid _ from fun v hv => by
        obtain ⟨j, hj, e⟩ := List.getElem_of_mem (List.mem_of_mem_drop hv)
        obtain ⟨A', c', e', _⟩ := HRW.out.row j hj (by rw [← HRW.out.len]; exact hj)
        rw [← e, e']
        rfl)
      go_region_law (refine step_copy_at rfl (.tmp 39) (.tmp 42) 34 34 rfl 22 Try.underlying34 ilsz (if cap9 = k + 1 then some ⟨g9, 0, none⟩ else some ⟨g9, k + 1, none⟩) (if cap9 = k then some ⟨g9, 0, none⟩ else some ⟨g9, k, none⟩) (n - k) (cap9 - (k + 1)) (n + 1 - k) (cap9 - k) (by simp [Act.eval, Act.put]) (by simp [Act.eval, Act.put]) g9 (k + 1) cur 22 (by exact HCU.out) (vs.drop k) (by rw [hvl]; exact (Nat.min_eq_right (by omega)).symm) (by intro h0; rw [hvl] at h0; exact ⟨if_neg (by omega), _, if_neg (by omega), HCELL.out⟩) (by rw [hvl, HCS.out]; omega) HONE.out ?_; intro w10 h10 hg10; have HX10 := Lib.hid h10.out; have HG10 := Lib.hid hg10; clear h10 hg10)
      obtain ⟨S, eS⟩ : ∃ S, S = splice cur (k + 1) (vs.drop k) := ⟨_, rfl⟩
      have hSl : S.length = cap9 := by rw [eS, length_splice _ _ _ (by rw [hvl, HCS.out]; omega), HCS.out]
      have HSP2 := Lib.hid eS
      rw [← eS] at HX10
      have HSL := Lib.hid hSl
      obtain ⟨u, eu⟩ : ∃ u, S[k]? = some u := ⟨S[k]'(by omega), List.getElem?_eq_getElem (by omega)⟩
      have hcx : w10.cell? ⟨g9, k, none⟩ = some u := by rw [cell_of_row _ g9 k S.toArray _ (0, 0) HX10.out]; simpa using eu
      have hfz : w10.frozen? ⟨g9, k, none⟩ = false := frozen_of_row w10 g9 k _ _ HX10.out
      clear hSl eS eu
      go_wp2_with fail
      all_goals
        have HD := put_done HRW.out HSX.out HG9.out HA9.out HG10.out (put_own (by have h9 := HX10.out; rw [HSP2.out] at h9; exact h9) hG9 HTK.out HN.out (by omega) HCS.out (by omega) (by omega)) HN.out (by omega)
        refine bodyPost_ret (v := .slice (some ⟨g9, 0, none⟩) (n + 1) cap9) (by simp [results, Try.results66, go_sem] <;> omega) rfl ?_
        have HD2 : wr.grownBy (w10.setCell ⟨g9, k, none⟩ (.slice Ap plen cp)) (Value.slice A n c).ownBlock := HD.2
        first
        | exact ⟨_, rfl, ⟨_, by rw [HR.out]; exact HD.1⟩, HD2⟩
        | exact ⟨_, rfl, ⟨_, by rw [HR.out]; exact HD.1⟩, by rw [HAA.out] at HD2; exact HD2⟩
        | exact ⟨_, _, rfl, by rw [HR.out]; exact HD.1, HD2⟩
        | exact ⟨_, _, rfl, by rw [HR.out]; exact HD.1, by rw [HAA.out] at HD2; exact HD2⟩
end Go.Proofs.Ytbgabipngdillaa

namespace Go.Proofs.Ytbgabipngdillaa
open Go.RowKit Go.Shelf

theorem sel_len {α : Type} (m : Nat) (s : List α) : (sel m s).length ≤ s.length := (sel_sub s m).length_le
theorem allR_len (P : Int) (s : List (Int × Int)) (k : Nat) : ∀ n, (allR P s k n).length ≤ n
  | 0 => by simp [allR]
  | n + 1 => by
    have ih := allR_len P s k n
    have hp : ∀ (ps : List (List Int)) p, (putL ps p).length ≤ ps.length + 1 := by
      intro ps p
      induction ps with
      | nil => simp [putL]
      | cons q t ih =>
        unfold putL
        split
        · simp; omega
        · split <;> simp
    rw [allR_succ]
    split
    · have := hp (allR P s k n) (inP P (sel n s)); omega
    · omega
theorem allR_elen {P : Int} {s : List (Int × Int)} {k n : Nat} : ∀ q ∈ allR P s k n, q.length ≤ s.length := fun q hq => by
  obtain ⟨m, _, _, rfl⟩ := ((allR_inv P s k n).2.2 q).1 hq
  exact Nat.le_trans inP_len (sel_len m s)
/-- a fresh row of ints, beside older blocks -/
theorem SX.fresh {w' : World} {B : Nat} {X Y : Option Nat} {v : Value} {l : List Int} (h : w'.ownsRow B 3 1 v l.length (l.map (Value.int .i64))) (hr : ∀ x ∈ l, i64r x)
    (hX : ∀ b, X = some b → b < B) (hY : ∀ b, Y = some b → b < B) : SX w' X Y v l := by
  rcases h.2 with ⟨rfl, hn⟩ | ⟨g, cap, cur, rfl, hb, hg, hnc, hcm, hcs, htake⟩
  · have : l = [] := List.eq_nil_of_length_eq_zero hn
    subst this
    exact ⟨none, 0, rfl, Nat.le_refl _, by omega, fun x hx => by simp at hx, fun h => by simp at h⟩
  · refine ⟨_, cap, rfl, hnc, by simpa [maxLen] using hcm, hr, fun h0 => ⟨g, 0, rfl, heap_of_cells hg, fun e => ?_, fun e => ?_, fun j hj => ?_⟩⟩
    · have := hX g e.symm; omega
    · have := hY g e.symm; omega
    · have := h.cellAt j (by omega)
      simpa [hj] using this
theorem bit_and1 (a : Nat) (ha : a < 4611686018427387904) : bits .and .i64 (a : Int) 1 = ((a % 2 : Nat) : Int) := by
  have h1 : (BitVec.ofInt 64 (a : Int)).toNat = a := by
    rw [BitVec.ofInt_natCast, BitVec.toNat_ofNat]; exact Nat.mod_eq_of_lt (by omega)
  have h2 : (BitVec.ofInt 64 (1 : Int)).toNat = 1 := rfl
  show IntKind.i64.wrap ((BitVec.ofInt 64 (a : Int) &&& BitVec.ofInt 64 (1 : Int)).toNat : Int) = _
  rw [BitVec.toNat_and, h1, h2, Nat.and_one_is_mod]
  exact IntWalk.i64_in _ (by omega)
theorem bit_at (m i : Nat) (hm : m < 4611686018427387904) : bits .and .i64 ((m : Int) / 2 ^ i) 1 = ((m / 2 ^ i % 2 : Nat) : Int) := by
  have e : (m : Int) / 2 ^ i = ((m / 2 ^ i : Nat) : Int) := by simp
  rw [e]
  exact bit_and1 _ (Nat.lt_of_le_of_lt (Nat.div_le_self _ _) hm)
def AlO (P : Int) (s : List (Int × Int)) (k n G g : Nat) (w1 : World) (pv mv : Value) (wr : World) : Prop :=
  ∃ m : Nat, m ≤ 2 ^ n ∧ mv = .int .i64 m ∧ (∃ vs, RW G g wr pv vs (allR P s k m)) ∧ Below G w1 wr
def AlI (s : List (Int × Int)) (m n : Nat) (wq : World) (qv iv : Value) (wr : World) : Prop :=
  ∃ i : Nat, i ≤ n ∧ iv = .int .i64 i ∧ wr.ownsRow wq.heap.size 64 2 qv (sel m (s.take i)).length (((sel m (s.take i)).flatMap pcs).map (Value.int .i64)) ∧ Below wq.heap.size wq wr
set_option maxRecDepth 100000 in
set_option maxHeartbeats 4000000 in
theorem all10_any (P : Int) (s : List (Int × Int)) (k g : Nat) (v : Value) (w : World) (hP : i64r P) (h : SG pcs 2 w.heap.size w v s) (hs : s.length ≤ 10) (hk : k ≤ 1000) (hg : g < w.heap.size) :
    Calls Try.prog 43 #[.agg #[.int .i64 P], v, .int .i64 k] w fun e w' => ∃ G v' vs, e = .returned v' ∧ w.heap.size ≤ G ∧ RW G g w' v' vs (allR P s k (2 ^ s.length)) ∧ Below w.heap.size w w' := by
  obtain ⟨i0, hi0, hi1, hi2, hi3⟩ := info_parts shinfo'
  obtain ⟨n, en⟩ : ∃ n, n = s.length := ⟨_, rfl⟩
  have HN := Lib.hid en
  obtain ⟨A, c, rfl, hc, hm, hr, ha⟩ := pcs_cells h
  have HS := Lib.hid h
  have HR := Lib.hid hr
  rw [← en] at HS hs ⊢
  clear h hr hc hm ha
  have hpw : 2 ^ n ≤ 1024 := by
    have : 2 ^ n ≤ 2 ^ 10 := Nat.pow_le_pow_right (by omega) hs
    omega
  obtain ⟨N, eN⟩ : ∃ N, N = 2 ^ n := ⟨_, rfl⟩
  have HNN := Lib.hid eN
  rw [← eN] at hpw ⊢
  have hsh : wrap64 (2 ^ n) = (N : Int) := by
    have e2 : ((2 : Int) ^ n) = ((2 ^ n : Nat) : Int) := by simp
    rw [e2, ← eN]
    unfold wrap64
    omega
  clear en eN
  go_enter Try.func43, Try.ntmps43
  obtain ⟨F, eF⟩ : ∃ F, F = w.heap.size := ⟨_, rfl⟩
  obtain ⟨w1, ew1⟩ : ∃ w1 : World, w1 = w.alloc (.cells #[.int .i64 P] 26) := ⟨_, rfl⟩
  have HWw1 : Hid (w.alloc (.cells #[.int .i64 P] 26) = w1) := ew1.symm
  have HAw1 : Hid (Below w.heap.size w w1) := (show Hid _ from by rw [ew1]; exact (Below.refl _ w).alloc (Nat.le_refl _) _)
  have HF0w1 : Hid (w1.heap[F]? = some (.cells #[.int .i64 P] 26 (0, 0))) := (show Hid _ from by show _ = _; rw [ew1, eF]; exact heap_alloc_new w _)
  have HXC : Hid (∀ W, Below w1.heap.size w1 W → W.cell? ⟨F, 0, none⟩ = some (.int .i64 P)) := (show Hid _ from fun W hg => by
    have hF0 := (hg.block F (heap_of_cells HF0w1.out)).trans HF0w1.out
    exact (cell_of_row W F 0 _ _ _ hF0))
  have hz1 : w.heap.size < w1.heap.size := by rw [ew1]; simp
  go_upto_region 1 with fail
  rw [HWw1.out, ← eF]
  clear ew1 eF
  have hgG : g < w1.heap.size := by omega
  go_wp2_with fail
  go_loopw [7, 8] (fun pv mv wr => AlO P s k n w1.heap.size g w1 pv mv wr) (fun _ mv _ => N - (intOf mv).toNat)
  case atStart => exact ⟨0, Nat.zero_le _, rfl, ⟨_, RW.nil _ _ _⟩, Below.refl _ _⟩
  case round =>
    obtain ⟨m, hm, rfl, ⟨vs, hrw⟩, hbel⟩ := hrel
    rw [← HNN.out] at hm
    have HRW := Lib.hid hrw
    have HBR := Lib.hid hbel
    have hzr := hbel.size
    clear hrw hbel
    have HBRw : Hid (Below w.heap.size w wr) := (show Hid _ from HAw1.out.trans (HBR.out.mono HAw1.out.size))
    by_cases hlm : m < N
    · have dm : decide ((m : Int) < (N : Int)) = true := decide_eq_true (by omega)
      have dmn : decide (m < N) = true := decide_eq_true hlm
      obtain ⟨wq, rfl⟩ : ∃ wq : World, wq = wr := ⟨_, rfl⟩
      have HSq : Hid (SG pcs 2 w.heap.size wq (.slice A n c) s) := (show Hid _ from HS.out.below HBRw.out)
      go_wp2_with fail
      rw [hsh]
      go_loopw [9, 24] (fun qv iv wr => AlI s m n wq qv iv wr) (fun _ iv _ => n - (intOf iv).toNat)
      case atStart => exact ⟨0, Nat.zero_le _, rfl, by simpa [sel] using World.ownsRow_nil wq wq.heap.size 64 2, Below.refl _ _⟩
      case round =>
        obtain ⟨i, hi, rfl, hown, hb⟩ := hrel
        have HO := Lib.hid hown
        have HB := Lib.hid hb
        have hzq := hb.size
        clear hown hb
        by_cases hli : i < n
        · have di : decide ((i : Int) < (n : Int)) = true := decide_eq_true (by omega)
          have din : decide (i < n) = true := decide_eq_true hli
          have his : i < s.length := by rw [← HN.out]; exact hli
          obtain ⟨A', c', eA', _, _, _, ha'⟩ := pcs_cells ((HSq.out.below (HB.out.mono HBRw.out.size)).more (Nat.le_trans HBRw.out.size HB.out.size))
          rw [← HN.out] at eA'
          injection eA' with eA1 eA2 eA3
          obtain ⟨b, off, eA, hbl, hcell⟩ := ha' (by omega)
          obtain ⟨c0, c1⟩ := hcell i his
          rw [← eA1] at eA
          subst eA
          obtain ⟨xv, exv⟩ : ∃ xv, xv = s[i].1 := ⟨_, rfl⟩
          obtain ⟨yv, eyv⟩ : ∃ yv, yv = s[i].2 := ⟨_, rfl⟩
          rw [← exv] at c0
          rw [← eyv] at c1
          have HSN : Hid (sel m (s.take (i + 1)) = sel m (s.take i) ++ (if m / 2 ^ i % 2 = 1 then [(xv, yv)] else [])) := (show Hid _ from by show _ = _; rw [sel_snoc s m i his, exv, eyv])
          have hDl : (sel m (s.take i)).length ≤ i := by
            have := sel_len m (s.take i)
            rw [List.length_take] at this
            omega
          obtain ⟨D, hD⟩ : ∃ D, sel m (s.take i) = D := ⟨_, rfl⟩
          rw [hD] at HO HSN hDl
          clear hcell exv eyv hD ha' eA1 eA2 eA3 hbl
          obtain ⟨X, eX⟩ : ∃ X, X = wr.heap.size := ⟨_, rfl⟩
          obtain ⟨wx, ewx⟩ : ∃ wx : World, wx = wr.alloc (.cells #[.int .i64 xv, .int .i64 yv] 64) := ⟨_, rfl⟩
          have HWwx : Hid (wr.alloc (.cells #[.int .i64 xv, .int .i64 yv] 64) = wx) := ewx.symm
          have HAwx : Hid (Below wr.heap.size wr wx) := (show Hid _ from by rw [ewx]; exact (Below.refl _ wr).alloc (Nat.le_refl _) _)
          have HX0wx : Hid (wx.heap[X]? = some (.cells #[.int .i64 xv, .int .i64 yv] 64 (0, 0))) := (show Hid _ from by show _ = _; rw [ewx, eX]; exact heap_alloc_new wr _)
          have HXX : Hid (∀ W, Below wx.heap.size wx W → W.cell? ⟨X, 0, none⟩ = some (.int .i64 xv) ∧ W.cell? ⟨X, 1, none⟩ = some (.int .i64 yv)) := (show Hid _ from fun W hg => by
            have hX0 := (hg.block X (heap_of_cells HX0wx.out)).trans HX0wx.out
            exact ⟨cell_of_row W X 0 _ _ _ hX0, cell_of_row W X 1 _ _ _ hX0⟩)
          have HBX : Hid (Below wq.heap.size wq wx) := (show Hid _ from HB.out.trans (HAwx.out.mono hzq))
          have HOX : Hid (wx.ownsRow wq.heap.size 64 2 u9 D.length ((D.flatMap pcs).map (Value.int .i64))) := (show Hid _ from own_blw HO.out HAwx.out)
          have hzx : wq.heap.size ≤ wx.heap.size := HBX.out.size
          go_upto_region 9 with fail
          rw [HWwx.out, ← eX]
          clear ewx eX
          obtain ⟨y0, y1⟩ := HXX.out wx (Below.refl _ _)
          clear c0 c1
          have hbit := bit_at m i (by omega)
          by_cases hb1 : m / 2 ^ i % 2 = 1
          · rw [hb1] at hbit
            have HSN2 : Hid (sel m (s.take (i + 1)) = D ++ [(xv, yv)]) := (show Hid _ from by show _ = _; have h := HSN.out; rw [if_pos hb1] at h; exact h)
            clear hb1
            go_wp2_with (at_builtin; refine wpList_append_own _ rfl _ _ 62 rfl wq.heap.size 64 i0 _ 2 16 Try.underlying62 hi0 hi1 hi2 hi3 rfl (by omega) _ _ _ rfl (HOX.out.alloc _) ⟨wx.heap.size, 0, none⟩ 1 1 (List.map (Value.int .i64) (pcs (xv, yv))) rfl rfl (cells_new wx _ _) (by intro u hu; simp [pcs] at hu; rcases hu with rfl | rfl <;> rfl) (by unfold maxLen; omega) (by omega) (by simp; omega) ?_; intro v3 w3 hown3 hg3 _; have HO3 := Lib.hid hown3; have HG3 := Lib.hid hg3; clear hown3 hg3)
            go_roundw
            case rel =>
              refine ⟨i + 1, by omega, by go_num, ?_, ?_⟩
              · rw [HSN2.out]
                simpa using HO3.out
              · exact (HBX.out.alloc hzx _).grown HG3.out (by simp; omega) (fun k hk => (HOX.out.lt k hk).1)
            case measure => simp [intOf]; omega
          · have hb0 : m / 2 ^ i % 2 = 0 := by omega
            rw [hb0] at hbit
            have HSN2 : Hid (sel m (s.take (i + 1)) = D) := (show Hid _ from by show _ = _; have h := HSN.out; rw [if_neg hb1, List.append_nil] at h; exact h)
            clear hb1 hb0
            go_wp2_with fail
            go_roundw
            case rel => exact ⟨i + 1, by omega, by go_num, by rw [HSN2.out]; exact HOX.out, HBX.out⟩
            case measure => simp [intOf]; omega
        · have di : decide ((i : Int) < (n : Int)) = false := decide_eq_false (by omega)
          have din : decide (i < n) = false := decide_eq_false hli
          have hes : s.take i = s := by rw [show i = s.length by rw [← HN.out]; omega, List.take_length]
          rw [hes] at HO
          clear hes
          have HBRwr : Hid (Below w1.heap.size w1 wr) := (show Hid _ from HBR.out.trans (HB.out.mono hzr))
          have HRWr : Hid (RW w1.heap.size g wr u7 vs (allR P s k m)) := (show Hid _ from HRW.out.below hgG HB.out)
          obtain ⟨L, eL⟩ : ∃ L, L = (sel m s).length := ⟨_, rfl⟩
          have HLL := Lib.hid eL
          rw [← eL] at HO
          obtain ⟨A9, c9, ev9⟩ := own_slice HO.out
          subst ev9
          have x0 := HXC.out wr HBRwr.out
          clear eL
          by_cases hlk : L = k
          · have dlk : ((L : Int) == (k : Int)) = true := by rw [beq_iff_eq]; omega
            have dlkn : (L == k) = true := by rw [beq_iff_eq]; exact hlk
            have HSEL : Hid (SG pcs 2 wr.heap.size wr (.slice A9 L c9) (sel m s)) := (show Hid _ from SG.of_own (by rw [← HLL.out]; exact HO.out) (fun t ht y hy => by
              have h1 := HR.out t ((sel_sub s m).subset ht)
              simp [pcs] at hy
              rcases hy with rfl | rfl
              · exact h1.1
              · exact h1.2) (fun _ _ => rfl))
            have HST : Hid (allR P s k (m + 1) = putL (allR P s k m) (inP P (sel m s))) := (show Hid _ from by show _ = _; rw [allR_succ, if_pos (by rw [← HLL.out]; exact hlk)])
            subst hlk
            go_wp2_with fail
            (with_reducible refine (rinterp_any P (sel m s) _ wr hP HSEL.out (by rw [← HLL.out]; omega)).mono ?_)
            rintro e w3 ⟨v3, rfl, hown3, hb3⟩
            have HB3 := Lib.hid hb3
            have HSX : Hid (SX w3 (Value.ownBlock u7) (some g) v3 (inP P (sel m s))) := (show Hid _ from SX.fresh hown3 inP_r (fun b hb => (HRWr.out.hdr.lt b hb).2) (fun b hb => by injection hb with hb; subst hb; exact Nat.lt_of_lt_of_le hgG HBRwr.out.size))
            have HRW3 : Hid (RW w1.heap.size g w3 u7 vs (allR P s L m)) := (show Hid _ from HRWr.out.below hgG hb3)
            have HBR3 : Hid (Below w1.heap.size w1 w3) := (show Hid _ from HBRwr.out.trans (HB3.out.mono HBRwr.out.size))
            clear hown3 hb3
            go_wp2_with fail
            (with_reducible refine (put10_any u7 v3 w3 HRW3.out hgG HBR3.out.size HSX.out (by have := allR_len P s L m; omega) (fun q hq => by have := allR_elen q hq; have := HN.out; omega) (by have h1 := @inP_len P (sel m s); have h2 := HLL.out; omega)).mono ?_)
            rintro e w5 ⟨pv5, vs5, rfl, hrw5, hg5⟩
            have HRW5 := Lib.hid hrw5
            have HB5 : Hid (Below w1.heap.size w1 w5) := (show Hid _ from HBR3.out.grown hg5 HBR3.out.size (fun b hb => (HRW3.out.hdr.lt b hb).1))
            clear hrw5 hg5
            go_wp2_with fail
            go_roundw
            case rel => exact ⟨m + 1, by rw [← HNN.out]; omega, by go_num, ⟨_, by rw [HST.out]; exact HRW5.out⟩, HB5.out⟩
            case measure => simp [intOf]; omega
          · have dlk : ((L : Int) == (k : Int)) = false := by rw [beq_eq_false_iff_ne]; omega
            have dlkn : (L == k) = false := by rw [beq_eq_false_iff_ne]; exact hlk
            have HST : Hid (allR P s k (m + 1) = allR P s k m) := (show Hid _ from by show _ = _; rw [allR_succ, if_neg (by rw [← HLL.out]; exact hlk)])
            clear hlk
            go_wp2_with fail
            go_roundw
            case rel => exact ⟨m + 1, by rw [← HNN.out]; omega, by go_num, ⟨_, by rw [HST.out]; exact HRWr.out⟩, HBRwr.out⟩
            case measure => simp [intOf]; omega
    · have dm : decide ((m : Int) < (N : Int)) = false := decide_eq_false (by omega)
      have dmn : decide (m < N) = false := decide_eq_false hlm
      have hmN : m = N := by omega
      subst hmN
      go_wp2_with fail
      go_ret
      exact ⟨_, _, _, rfl, by omega, HRW.out, HBRw.out⟩
end Go.Proofs.Ytbgabipngdillaa

namespace Go.Proofs.Ytbgabipngdillaa
open Go.RowKit Go.Shelf

set_option maxRecDepth 100000 in
set_option maxHeartbeats 4000000 in
theorem rbegin_any (P : Int) (l : List (Int × Bool)) (k : Int) (v : Value) (w : World) (hP : i64r P) (h : SCl w v l) (hz : l.length ≤ 1000000) :
    Calls Try.prog 42 #[.agg #[.int .i64 P], v, .int .i64 k] w fun e w' => e = .returned (.int .i64 (bgE P l k)) ∧ Below w.heap.size w w' := by
  obtain ⟨A, c, rfl⟩ := h.form
  have HS := Lib.hid h
  clear h
  obtain ⟨n, en⟩ : ∃ n, n = l.length := ⟨_, rfl⟩
  have HN := Lib.hid en
  rw [← en] at HS hz ⊢
  clear en
  go_enter Try.func42, Try.ntmps42
  obtain ⟨F, eF⟩ : ∃ F, F = w.heap.size := ⟨_, rfl⟩
  obtain ⟨w1, ew1⟩ : ∃ w1 : World, w1 = w.alloc (.cells #[.int .i64 P] 26) := ⟨_, rfl⟩
  have HWw1 : Hid (w.alloc (.cells #[.int .i64 P] 26) = w1) := ew1.symm
  have HAw1 : Hid (Below w.heap.size w w1) := (show Hid _ from by rw [ew1]; exact (Below.refl _ w).alloc (Nat.le_refl _) _)
  have HF0w1 : Hid (w1.heap[F]? = some (.cells #[.int .i64 P] 26 (0, 0))) := (show Hid _ from by show _ = _; rw [ew1, eF]; exact heap_alloc_new w _)
  have HXC : Hid (∀ W, Below w1.heap.size w1 W → W.cell? ⟨F, 0, none⟩ = some (.int .i64 P)) := (show Hid _ from fun W hg => by
    have hF0 := (hg.block F (heap_of_cells HF0w1.out)).trans HF0w1.out
    exact (cell_of_row W F 0 _ _ _ hF0))
  go_upto_region 1 with fail
  rw [HWw1.out, ← eF]
  clear ew1 eF
  have x0 := HXC.out w1 (Below.refl _ _)
  go_wp2_with fail
  (with_reducible refine (rcells_any P l _ w1 hP (HS.out.below HAw1.out) (by rw [← HN.out]; exact hz)).mono ?_)
  rintro e w2 ⟨rfl, hb2⟩
  have HB2 : Hid (Below w.heap.size w w2) := (show Hid _ from HAw1.out.trans (hb2.mono HAw1.out.size))
  clear hb2 x0
  by_cases hc : ceE P l = 0
  case' neg =>
    have hcz : (ceE P l != 0) = true := by rw [bne_iff_ne]; exact hc
    have HR : Hid (bgE P l k = ceE P l) := (show Hid _ from if_neg hc)
    clear hc
    go_wp2_with fail
    go_ret
    exact ⟨by rw [HR.out] <;> rfl, HB2.out⟩
  have hcz : (ceE P l != 0) = false := by rw [bne_eq_false_iff_eq]; exact hc
  by_cases h1 : k < 1
  · have d1 : decide (k < 1) = true := decide_eq_true h1
    have HR : Hid (bgE P l k = 1) := (show Hid _ from by show _ = _; unfold bgE; rw [if_pos hc, if_pos (.inl h1)])
    rw [hc]
    clear hc hcz h1
    go_wp2_with fail
    go_ret
    exact ⟨by rw [HR.out] <;> rfl, HB2.out⟩
  · have d1 : decide (k < 1) = false := decide_eq_false h1
    by_cases h2 : (n : Int) < k
    · have d2 : decide ((n : Int) < k) = true := decide_eq_true h2
      have HR : Hid (bgE P l k = 1) := (show Hid _ from by show _ = _; unfold bgE; rw [if_pos hc, if_pos (.inr (by rw [← HN.out]; exact h2))])
      rw [hc]
      clear hc hcz h1 h2
      go_wp2_with fail
      go_ret
      exact ⟨by rw [HR.out] <;> rfl, HB2.out⟩
    · have d2 : decide ((n : Int) < k) = false := decide_eq_false h2
      have HR : Hid (bgE P l k = 0) := (show Hid _ from by show _ = _; unfold bgE; rw [if_pos hc, if_neg (by rw [← HN.out]; omega)])
      rw [hc]
      clear hc hcz h1 h2
      go_wp2_with fail
      go_ret
      exact ⟨by rw [HR.out] <;> rfl, HB2.out⟩

theorem SX.of_se {g : Nat} {wq W : World} {X : Option Nat} {v : Value} {l : List Int} (h : SE g wq v l) (hX : ∀ b, X = some b → wq.heap.size ≤ b) (hB : Below wq.heap.size wq W) : SX W X (some g) v l := by
  obtain ⟨A, c, rfl, hc, hm, hr, ha⟩ := h
  refine ⟨A, c, rfl, hc, hm, hr, fun h0 => ?_⟩
  obtain ⟨b, off, rfl, hb, hbg, hcell⟩ := ha h0
  refine ⟨b, off, rfl, Nat.lt_of_lt_of_le hb hB.size, fun e => ?_, fun e => hbg (by injection e), fun j hj => ?_⟩
  · have := hX b e.symm; omega
  · exact (hB.cell (p := ⟨b, off + j, none⟩) hb).trans (hcell j hj)
theorem SLE.at {g : Nat} {w : World} {v : Value} {rs : List (List Int)} (h : SLE g w v rs) : ∃ A c, v = .slice A rs.length c ∧
    ∀ j (hj : j < rs.length), ∃ b off B d, A = some ⟨b, off, none⟩ ∧ (∀ W, Below w.heap.size w W → W.cell? ⟨b, off + j, none⟩ = some (.slice B rs[j].length d)) ∧ SE g w (.slice B rs[j].length d) rs[j] := by
  obtain ⟨A, c, rfl, _, _, ha⟩ := h
  refine ⟨A, c, rfl, fun j hj => ?_⟩
  obtain ⟨b, off, rfl, hb, _, hcell⟩ := ha (by omega)
  obtain ⟨B, d, h1, h2⟩ := hcell j hj
  exact ⟨b, off, B, d, rfl, fun W hW => (hW.cell (p := ⟨b, off + j, none⟩) hb).trans h1, h2⟩
/-- the rows that the loop over what all returns has kept -/
def DcR (P : Int) (l : List (Int × Bool)) (ag : Int) (qs : List (List Int)) (g : Nat) (wq : World) (iv pv : Value) (wr : World) : Prop :=
  ∃ i : Nat, i ≤ qs.length ∧ iv = .int .i64 i ∧ (∃ vs, RW wq.heap.size g wr pv vs ((qs.take i).filter fun p => decide (ag ≤ agN P l p))) ∧ Below wq.heap.size wq wr
theorem filter_take {α : Type} (f : α → Bool) (qs : List α) {i : Nat} (h : i < qs.length) : (qs.take (i + 1)).filter f = (qs.take i).filter f ++ if f qs[i] = true then [qs[i]] else [] := by
  rw [List.take_succ_eq_append_getElem h, List.filter_append]
  congr 1
  by_cases hf : f qs[i] = true
  · simp [hf]
  · simp [hf]
set_option maxRecDepth 100000 in
set_option maxHeartbeats 4000000 in
theorem rdecode_any (P : Int) (l : List (Int × Bool)) (k ag : Int) (g : Nat) (v : Value) (w : World) (hP : i64r P) (h : SCl w v l) (hz : l.length ≤ 1000000) (hg : g < w.heap.size) :
    Calls Try.prog 23 #[.agg #[.int .i64 P], v, .int .i64 k, .int .i64 ag] w fun e w' => ∃ v', e = .returned (.tuple #[v', .int .i64 (rdE P l k ag)]) ∧ SLE g w' v' (rdL P l k ag) ∧ Below w.heap.size w w' := by
  obtain ⟨A, c, rfl⟩ := h.form
  have HS := Lib.hid h
  clear h
  obtain ⟨n, en⟩ : ∃ n, n = l.length := ⟨_, rfl⟩
  have HN := Lib.hid en
  rw [← en] at HS hz ⊢
  clear en
  go_enter Try.func23, Try.ntmps23
  obtain ⟨F, eF⟩ : ∃ F, F = w.heap.size := ⟨_, rfl⟩
  obtain ⟨w1, ew1⟩ : ∃ w1 : World, w1 = w.alloc (.cells #[.int .i64 P] 26) := ⟨_, rfl⟩
  have HWw1 : Hid (w.alloc (.cells #[.int .i64 P] 26) = w1) := ew1.symm
  have HAw1 : Hid (Below w.heap.size w w1) := (show Hid _ from by rw [ew1]; exact (Below.refl _ w).alloc (Nat.le_refl _) _)
  have HF0w1 : Hid (w1.heap[F]? = some (.cells #[.int .i64 P] 26 (0, 0))) := (show Hid _ from by show _ = _; rw [ew1, eF]; exact heap_alloc_new w _)
  have HXC : Hid (∀ W, Below w1.heap.size w1 W → W.cell? ⟨F, 0, none⟩ = some (.int .i64 P)) := (show Hid _ from fun W hg => by
    have hF0 := (hg.block F (heap_of_cells HF0w1.out)).trans HF0w1.out
    exact (cell_of_row W F 0 _ _ _ hF0))
  go_upto_region 1 with fail
  rw [HWw1.out, ← eF]
  clear ew1 eF
  have x0 := HXC.out w1 (Below.refl _ _)
  go_wp2_with fail
  (with_reducible refine (rbegin_any P l k _ w1 hP (HS.out.below HAw1.out) (by rw [← HN.out]; exact hz)).mono ?_)
  rintro e w2 ⟨rfl, hb2⟩
  have HB2 : Hid (Below w1.heap.size w1 w2) := (show Hid _ from hb2)
  have HBw : Hid (∀ W, Below w1.heap.size w1 W → Below w.heap.size w W) := (show Hid _ from fun W hW => HAw1.out.trans (hW.mono HAw1.out.size))
  clear hb2 x0
  by_cases hc : bgE P l k = 0
  case' neg =>
    have hcz : (bgE P l k != 0) = true := by rw [bne_iff_ne]; exact hc
    have HR : Hid (rdE P l k ag = bgE P l k) := (show Hid _ from if_pos hc)
    have HL : Hid (rdL P l k ag = []) := (show Hid _ from if_neg (by rw [HR.out]; exact hc))
    clear hc
    go_wp2_with fail
    refine bodyPost_ret (v := .tuple #[.slice none 0 0, .int .i64 (bgE P l k)]) (by simp [results, Try.results23, go_sem]) rfl ?_
    rw [HR.out, HL.out]
    exact ⟨_, rfl, SLE.nil _ _, HBw.out _ HB2.out⟩
  have hcz : (bgE P l k != 0) = false := by rw [bne_eq_false_iff_eq]; exact hc
  have hbg := bg_zero hc
  have HC : Hid (bgE P l k = 0) := hc
  have hk1 : 1 ≤ k ∧ k ≤ (n : Int) := by rw [HN.out]; exact hbg.2
  rw [hc]
  clear hc hcz hbg
  by_cases h10 : 10 < n
  · have d1 : decide ((10 : Int) < (n : Int)) = true := decide_eq_true (by omega)
    have HR : Hid (rdE P l k ag = 4) := (show Hid _ from by show _ = _; unfold rdE; rw [if_neg (by rw [HC.out]; simp), if_pos (by rw [← HN.out]; exact h10)])
    have HL : Hid (rdL P l k ag = []) := (show Hid _ from if_neg (by rw [HR.out]; omega))
    clear h10
    go_wp2_with fail
    refine bodyPost_ret (v := .tuple #[.slice none 0 0, .int .i64 4]) (by simp [results, Try.results23, go_sem]) rfl ?_
    rw [HR.out, HL.out]
    exact ⟨_, rfl, SLE.nil _ _, HBw.out _ HB2.out⟩
  have d1 : decide ((10 : Int) < (n : Int)) = false := decide_eq_false (by omega)
  by_cases hag : ag < k ∨ (n : Int) < ag
  · have HR : Hid (rdE P l k ag = 1) := (show Hid _ from by show _ = _; unfold rdE; rw [if_neg (by rw [HC.out]; simp), if_neg (by rw [← HN.out]; exact h10), if_pos (by rw [← HN.out]; exact hag)])
    have HL : Hid (rdL P l k ag = []) := (show Hid _ from if_neg (by rw [HR.out]; omega))
    by_cases h4 : ag < k
    · have d2 : decide (ag < k) = true := decide_eq_true h4
      clear hag h10
      go_wp2_with fail
      refine bodyPost_ret (v := .tuple #[.slice none 0 0, .int .i64 1]) (by simp [results, Try.results23, go_sem]) rfl ?_
      rw [HR.out, HL.out]
      exact ⟨_, rfl, SLE.nil _ _, HBw.out _ HB2.out⟩
    · have d2 : decide (ag < k) = false := decide_eq_false h4
      have d3 : decide ((n : Int) < ag) = true := decide_eq_true (by omega)
      clear hag h10
      go_wp2_with fail
      refine bodyPost_ret (v := .tuple #[.slice none 0 0, .int .i64 1]) (by simp [results, Try.results23, go_sem]) rfl ?_
      rw [HR.out, HL.out]
      exact ⟨_, rfl, SLE.nil _ _, HBw.out _ HB2.out⟩
  have d2 : decide (ag < k) = false := decide_eq_false (by omega)
  have d3 : decide ((n : Int) < ag) = false := decide_eq_false (by omega)
  have HR : Hid (rdE P l k ag = 0) := (show Hid _ from by show _ = _; unfold rdE; rw [if_neg (by rw [HC.out]; simp), if_neg (by rw [← HN.out]; exact h10), if_neg (by rw [← HN.out]; exact hag)])
  obtain ⟨kk, rfl⟩ : ∃ kk : Nat, k = kk := ⟨k.toNat, by omega⟩
  obtain ⟨qs, eqs⟩ : ∃ qs, qs = rAllL P l kk := ⟨_, rfl⟩
  have HQ := Lib.hid eqs
  have HL : Hid (rdL P l kk ag = qs.filter fun p => decide (ag ≤ agN P l p)) := (show Hid _ from by show _ = _; rw [eqs]; exact if_pos HR.out)
  have hknl : (kn l).length ≤ 10 := by have := kn_len l 0; have := HN.out; unfold kn; omega
  have hsr : ∀ t ∈ kn l, i64r t.1 ∧ i64r t.2 := by
    obtain ⟨A', c', e', hc', hm', hr', ha'⟩ := HS.out
    exact kn_rng (by rw [← HN.out]; exact hz) hr'
  have HSR := Lib.hid hsr
  have hn10 : n ≤ 10 := by omega
  clear hag h10 eqs hsr
  have x2 := HXC.out w2 HB2.out
  have HS2 : Hid (SCl w2 (.slice A n c) l) := (show Hid _ from (HS.out.below HAw1.out).below HB2.out)
  have hgw2 : g < w2.heap.size := by have h1 := HAw1.out.size; have h2 := HB2.out.size; omega
  have HZ : Hid (l.length ≤ 1000000) := (show Hid _ from by rw [← HN.out]; exact hz)
  have HKL := Lib.hid hknl
  clear hknl
  go_upto_region 9 with fail
  go_region_held3 (fun w' => w'.cell? ⟨F, 0, none⟩ = some (.int .i64 P)) (first | exact x2 | exact x3 | exact x4 | go_keep)
    (first
      | (go_at_call 34; refine (rknown_any l _ _ (by first | exact HS2.out | exact HS2.out.below (Below.refl _ w2).drew) HZ.out).mono ?_; rintro e w3 ⟨v3, rfl, hown3, hb3⟩; have HB3 : Hid (Below w2.heap.size w2 w3) := (show Hid _ from ⟨hb3.os, hb3.tape, hb3.output, hb3.size, hb3.block⟩); have HSG : Hid (SG pcs 2 w3.heap.size w3 v3 (kn l)) := (show Hid _ from SG.of_own hown3 (fun t ht y hy => by simp [pcs] at hy; rcases hy with rfl | rfl; exact (HSR.out t ht).1; exact (HSR.out t ht).2) (fun _ _ => rfl)); have x3 : w3.cell? ⟨F, 0, none⟩ = some (.int .i64 P) := HXC.out w3 (HB2.out.trans (HB3.out.mono HB2.out.size)); have hgw3 : g < w3.heap.size := Nat.lt_of_lt_of_le hgw2 HB3.out.size; clear hown3 hb3)
      | (go_at_call 43; refine (all10_any P (kn l) kk g _ _ hP (by first | exact HSG.out | exact HSG.out.below (Below.refl _ w3).drew) HKL.out (by omega) (by exact hgw3)).mono ?_; rintro e w4 ⟨G, v4, vs4, rfl, hG, hrw, hb4⟩; have HB4 : Hid (Below w3.heap.size w3 w4) := (show Hid _ from ⟨hb4.os, hb4.tape, hb4.output, hb4.size, hb4.block⟩); have HG : Hid (g < G) := (show Hid _ from Nat.lt_of_lt_of_le hgw3 hG); have HRW := Lib.hid hrw; have x4 : w4.cell? ⟨F, 0, none⟩ = some (.int .i64 P) := HXC.out w4 (HB2.out.trans ((HB3.out.trans (HB4.out.mono HB3.out.size)).mono HB2.out.size)); have hsle4 : SLE g w4 v4 qs := (by rw [HQ.out]; exact hrw.sle HG.out); have HSLE := Lib.hid hsle4; obtain ⟨A4, c4, ev4, hat4⟩ := hsle4.at; subst ev4; have HAT := Lib.hid hat4; clear hrw hb4 hG hat4 hsle4))
  have HB4w : Hid (Below w1.heap.size w1 w4) := (show Hid _ from HB2.out.trans ((HB3.out.trans (HB4.out.mono HB3.out.size)).mono HB2.out.size))
  have HS4 : Hid (SCl w4 (.slice A n c) l) := (show Hid _ from (HS2.out.below HB3.out).below HB4.out)
  have hgw4 : g < w4.heap.size := Nat.lt_of_lt_of_le hgw3 HB4.out.size
  have hRb : qs.length ≤ 1024 := by
    rw [HQ.out]
    unfold rAllL
    have h1 := allR_len P (kn l) ((kk : Int).toNat) (2 ^ (kn l).length)
    have h2 : 2 ^ (kn l).length ≤ 2 ^ 10 := Nat.pow_le_pow_right (by omega) HKL.out
    omega
  have HQE : Hid (∀ q ∈ qs, q.length ≤ 1000000) := (show Hid _ from fun q hq => by
    rw [HQ.out] at hq
    have h1 := allR_elen q hq
    have h2 := HKL.out
    omega)
  obtain ⟨R, eR⟩ : ∃ R, R = qs.length := ⟨_, rfl⟩
  rw [← eR] at hRb HSLE ⊢
  have HRR := Lib.hid eR
  clear x2 x3 x4 eR HSG HRW HQ
  go_wp2_with fail
  go_loopw [41, 11] (fun iv pv wr => DcR P l ag qs g w4 iv pv wr) (fun iv _ _ => R - (intOf iv).toNat)
  case atStart => exact ⟨0, Nat.zero_le _, rfl, ⟨_, RW.nil _ _ _⟩, Below.refl _ _⟩
  case round =>
    obtain ⟨i, hi, rfl, ⟨vs, hrw⟩, hbr⟩ := hrel
    have HRW := Lib.hid hrw
    have HBR := Lib.hid hbr
    have hzr := hbr.size
    clear hrw hbr
    rw [← HRR.out] at hi
    have HBRw : Hid (Below w1.heap.size w1 wr) := (show Hid _ from HB4w.out.trans (HBR.out.mono HB4w.out.size))
    have x0 := HXC.out wr HBRw.out
    have hvn : vs.length ≤ i := by
      rw [HRW.out.len]
      refine Nat.le_trans (List.length_filter_le _ _) ?_
      rw [List.length_take]
      omega
    by_cases hli : i < R
    · have di : decide ((i : Int) < (R : Int)) = true := decide_eq_true (by omega)
      have din : decide (i < R) = true := decide_eq_true hli
      have hil : i < qs.length := by rw [← HRR.out]; exact hli
      obtain ⟨b, off, B, d, eA, hW, hse⟩ := HAT.out i hil
      subst eA
      have c0 := hW wr HBR.out
      have hql : qs[i].length ≤ 1000000 := HQE.out _ (List.getElem_mem hil)
      have HFT := Lib.hid (filter_take (fun p => decide (ag ≤ agN P l p)) qs hil)
      obtain ⟨p, ep⟩ : ∃ p, p = qs[i] := ⟨_, rfl⟩
      rw [← ep] at c0 hse hql HFT
      have HSE := Lib.hid hse
      have HSI : Hid (SI wr (.slice B p.length d) p) := (show Hid _ from hse.si.below HBR.out)
      clear hW ep hse
      obtain ⟨pl, epl⟩ : ∃ pl, pl = p.length := ⟨_, rfl⟩
      rw [← epl] at c0 HSE HSI hql
      have HPL := Lib.hid epl
      clear epl
      go_wp2_with fail
      (with_reducible refine (ragree_any P l p _ _ wr hP (HS4.out.below HBR.out) HZ.out HSI.out (by rw [← HPL.out]; exact hql)).mono ?_)
      rintro e w6 ⟨rfl, hb6⟩
      have HB6 : Hid (Below w4.heap.size w4 w6) := (show Hid _ from HBR.out.trans (hb6.mono hzr))
      have HRW6 : Hid (RW w4.heap.size g w6 u11 vs _) := (show Hid _ from HRW.out.below hgw4 hb6)
      have hz6 : w4.heap.size ≤ w6.heap.size := HB6.out.size
      obtain ⟨a, ea⟩ : ∃ a, a = agN P l p := ⟨_, rfl⟩
      rw [← ea] at HFT ⊢
      clear ea hb6 c0 x0
      by_cases hag : ag ≤ a
      · have da : decide (ag ≤ a) = true := decide_eq_true hag
        have HFT2 : Hid ((qs.take (i + 1)).filter (fun p => decide (ag ≤ agN P l p)) = (qs.take i).filter (fun p => decide (ag ≤ agN P l p)) ++ [p]) := (show Hid _ from by show _ = _; rw [HFT.out, if_pos da])
        clear hag HFT
        have HSX : Hid (SX (w6.alloc (.cells #[.slice B pl d] 22)) (Value.ownBlock u11) (some g) (.slice B pl d) p) := (show Hid _ from SX.of_se HSE.out (fun q hq => (HRW6.out.hdr.lt q hq).1) (HB6.out.alloc hz6 _))
        go_wp2_with (at_builtin; refine wpList_append_one_at _ rfl _ _ 34 rfl w4.heap.size 22 (.slice none 0 0) 24 Try.underlying34 ilinfo _ vs.length vs rfl (HRW6.out.hdr.alloc _) (.slice B pl d) rfl w6.heap.size rfl (cells_new w6 [.slice B pl d] 22 0 _ rfl) (by omega) (by omega) rfl (by simp; omega) ?_; intro g9 cap9 w9 hown9 hg9 hat9; have HO9 := Lib.hid hown9; have HG9 := Lib.hid hg9; have HA9 := Lib.hid hat9; clear hown9 hg9 hat9)
        have HRW9 := (HRW6.out.below hgw4 ((Below.refl _ w6).alloc (Nat.le_refl _) _)).app HSX.out HO9.out HG9.out (fun q hq => by
          have e : g9 = q := by simpa [Value.ownBlock] using hq
          subst e; exact HA9.out)
        have HB9 : Hid (Below w4.heap.size w4 w9) := (show Hid _ from (HB6.out.alloc hz6 _).grown HG9.out (by simp; omega) (fun q hq => (HRW6.out.hdr.lt q hq).1))
        go_roundw
        case rel => exact ⟨i + 1, by rw [← HRR.out]; omega, by go_num, ⟨_, by rw [HFT2.out]; exact HRW9⟩, HB9.out⟩
        case measure => simp [intOf]; omega
      · have da : decide (ag ≤ a) = false := decide_eq_false hag
        have HFT2 : Hid ((qs.take (i + 1)).filter (fun p => decide (ag ≤ agN P l p)) = (qs.take i).filter (fun p => decide (ag ≤ agN P l p))) := (show Hid _ from by show _ = _; rw [HFT.out, if_neg (by rw [da]; simp), List.append_nil])
        clear hag HFT
        go_wp2_with fail
        go_roundw
        case rel => exact ⟨i + 1, by rw [← HRR.out]; omega, by go_num, ⟨_, by rw [HFT2.out]; exact HRW6.out⟩, HB6.out⟩
        case measure => simp [intOf]; omega
    · have di : decide ((i : Int) < (R : Int)) = false := decide_eq_false (by omega)
      have din : decide (i < R) = false := decide_eq_false hli
      have HFA : Hid (rdL P l kk ag = (qs.take i).filter (fun p => decide (ag ≤ agN P l p))) := (show Hid _ from by show _ = _; rw [HL.out, show i = qs.length by rw [← HRR.out]; omega, List.take_length])
      go_wp2_with fail
      refine bodyPost_ret (v := .tuple #[u11, .int .i64 0]) (by simp [results, Try.results23, go_sem]) rfl ?_
      rw [HR.out, HFA.out]
      exact ⟨_, rfl, HRW.out.sle hgw4, HBw.out _ HBRw.out⟩
/-- the rows that the loop of Nearest has kept -/
def NrR (P : Int) (l : List (Int × Bool)) (qs : List (List Int)) (g : Nat) (wq : World) (iv pv mv : Value) (wr : World) : Prop :=
  ∃ i : Nat, i ≤ qs.length ∧ iv = .int .i64 i ∧ (∃ vs, RW wq.heap.size g wr pv vs (nrF P l (qs.take i)).1) ∧ mv = .int .i64 (nrF P l (qs.take i)).2 ∧ Below wq.heap.size wq wr
theorem nrF_len (P : Int) (l : List (Int × Bool)) (ps : List (List Int)) : (nrF P l ps).1.length ≤ ps.length := by
  rw [(nrF_inv P l _ ps rfl).2.2.2]
  exact List.length_filter_le _ _
set_option maxRecDepth 100000 in
set_option maxHeartbeats 4000000 in
theorem rnear_any (P : Int) (l : List (Int × Bool)) (k : Int) (g : Nat) (v : Value) (w : World) (hP : i64r P) (h : SCl w v l) (hz : l.length ≤ 1000000) (hg : g < w.heap.size) :
    Calls Try.prog 24 #[.agg #[.int .i64 P], v, .int .i64 k] w fun e w' => ∃ v', e = .returned (.tuple #[v', .int .i64 (rnM P l k), .int .i64 (rnE P l k)]) ∧ SLE g w' v' (rnL P l k) ∧ Below w.heap.size w w' := by
  obtain ⟨A, c, rfl⟩ := h.form
  have HS := Lib.hid h
  clear h
  obtain ⟨n, en⟩ : ∃ n, n = l.length := ⟨_, rfl⟩
  have HN := Lib.hid en
  rw [← en] at HS hz ⊢
  clear en
  go_enter Try.func24, Try.ntmps24
  obtain ⟨F, eF⟩ : ∃ F, F = w.heap.size := ⟨_, rfl⟩
  obtain ⟨w1, ew1⟩ : ∃ w1 : World, w1 = w.alloc (.cells #[.int .i64 P] 26) := ⟨_, rfl⟩
  have HWw1 : Hid (w.alloc (.cells #[.int .i64 P] 26) = w1) := ew1.symm
  have HAw1 : Hid (Below w.heap.size w w1) := (show Hid _ from by rw [ew1]; exact (Below.refl _ w).alloc (Nat.le_refl _) _)
  have HF0w1 : Hid (w1.heap[F]? = some (.cells #[.int .i64 P] 26 (0, 0))) := (show Hid _ from by show _ = _; rw [ew1, eF]; exact heap_alloc_new w _)
  have HXC : Hid (∀ W, Below w1.heap.size w1 W → W.cell? ⟨F, 0, none⟩ = some (.int .i64 P)) := (show Hid _ from fun W hg => by
    have hF0 := (hg.block F (heap_of_cells HF0w1.out)).trans HF0w1.out
    exact (cell_of_row W F 0 _ _ _ hF0))
  go_upto_region 1 with fail
  rw [HWw1.out, ← eF]
  clear ew1 eF
  have x0 := HXC.out w1 (Below.refl _ _)
  go_wp2_with fail
  (with_reducible refine (rbegin_any P l k _ w1 hP (HS.out.below HAw1.out) (by rw [← HN.out]; exact hz)).mono ?_)
  rintro e w2 ⟨rfl, hb2⟩
  have HB2 : Hid (Below w1.heap.size w1 w2) := (show Hid _ from hb2)
  have HBw : Hid (∀ W, Below w1.heap.size w1 W → Below w.heap.size w W) := (show Hid _ from fun W hW => HAw1.out.trans (hW.mono HAw1.out.size))
  clear hb2 x0
  by_cases hc : bgE P l k = 0
  case' neg =>
    have hcz : (bgE P l k != 0) = true := by rw [bne_iff_ne]; exact hc
    have HR : Hid (rnE P l k = bgE P l k) := (show Hid _ from if_pos hc)
    have HL : Hid (rnL P l k = []) := (show Hid _ from if_neg (by rw [HR.out]; exact hc))
    have HM : Hid (rnM P l k = 0) := (show Hid _ from if_neg (by rw [HR.out]; exact hc))
    clear hc
    go_wp2_with fail
    refine bodyPost_ret (v := .tuple #[.slice none 0 0, .int .i64 0, .int .i64 (bgE P l k)]) (by simp [results, Try.results24, go_sem]) rfl ?_
    rw [HR.out, HL.out, HM.out]
    exact ⟨_, rfl, SLE.nil _ _, HBw.out _ HB2.out⟩
  have hcz : (bgE P l k != 0) = false := by rw [bne_eq_false_iff_eq]; exact hc
  have hbg := bg_zero hc
  have HC : Hid (bgE P l k = 0) := hc
  have hk1 : 1 ≤ k ∧ k ≤ (n : Int) := by rw [HN.out]; exact hbg.2
  rw [hc]
  clear hc hcz hbg
  have HS2 : Hid (SCl w2 (.slice A n c) l) := (show Hid _ from (HS.out.below HAw1.out).below HB2.out)
  have hgw2 : g < w2.heap.size := by have h1 := HAw1.out.size; have h2 := HB2.out.size; omega
  have HZ : Hid (l.length ≤ 1000000) := (show Hid _ from by rw [← HN.out]; exact hz)
  have HKN : Hid ((kn l).length ≤ n) := (show Hid _ from by have h1 := kn_len l 0; have h2 := HN.out; show (knF 0 l).length ≤ n; omega)
  have hsr : ∀ t ∈ kn l, i64r t.1 ∧ i64r t.2 := by
    obtain ⟨A', c', e', hc', hm', hr', ha'⟩ := HS.out
    exact kn_rng (by rw [← HN.out]; exact hz) hr'
  have HSR := Lib.hid hsr
  clear hsr
  go_wp2_with fail
  (with_reducible refine (rknown_any l _ w2 HS2.out HZ.out).mono ?_)
  rintro e w3 ⟨v3, rfl, hown3, hb3⟩
  have HB3 := Lib.hid hb3
  have HSG : Hid (SG pcs 2 w3.heap.size w3 v3 (kn l)) := (show Hid _ from SG.of_own hown3 (fun t ht y hy => by simp [pcs] at hy; rcases hy with rfl | rfl; exact (HSR.out t ht).1; exact (HSR.out t ht).2) (fun _ _ => rfl))
  have hgw3 : g < w3.heap.size := Nat.lt_of_lt_of_le hgw2 HB3.out.size
  obtain ⟨A3, c3, ev3⟩ := own_slice hown3
  subst ev3
  obtain ⟨K, eK⟩ : ∃ K, K = (kn l).length := ⟨_, rfl⟩
  have HK := Lib.hid eK
  rw [← eK] at HKN HSG ⊢
  have hKn := HKN.out
  have HB3w : Hid (Below w1.heap.size w1 w3) := (show Hid _ from HB2.out.trans (HB3.out.mono HB2.out.size))
  clear hown3 hb3 eK
  by_cases hfew : (K : Int) < k
  · have d0 : decide ((K : Int) < k) = true := decide_eq_true hfew
    have HR : Hid (rnE P l k = 11) := (show Hid _ from by show _ = _; unfold rnE; rw [if_neg (by rw [HC.out]; simp), if_pos (by rw [← HK.out]; exact hfew)])
    have HL : Hid (rnL P l k = []) := (show Hid _ from if_neg (by rw [HR.out]; omega))
    have HM : Hid (rnM P l k = 0) := (show Hid _ from if_neg (by rw [HR.out]; omega))
    clear hfew
    go_wp2_with fail
    refine bodyPost_ret (v := .tuple #[.slice none 0 0, .int .i64 0, .int .i64 11]) (by simp [results, Try.results24, go_sem]) rfl ?_
    rw [HR.out, HL.out, HM.out]
    exact ⟨_, rfl, SLE.nil _ _, HBw.out _ HB3w.out⟩
  have d0 : decide ((K : Int) < k) = false := decide_eq_false hfew
  by_cases h10 : 10 < n
  · have d1 : decide ((10 : Int) < (n : Int)) = true := decide_eq_true (by omega)
    have HR : Hid (rnE P l k = 4) := (show Hid _ from by show _ = _; unfold rnE; rw [if_neg (by rw [HC.out]; simp), if_neg (by rw [← HK.out]; exact hfew), if_pos (by rw [← HN.out]; exact h10)])
    have HL : Hid (rnL P l k = []) := (show Hid _ from if_neg (by rw [HR.out]; omega))
    have HM : Hid (rnM P l k = 0) := (show Hid _ from if_neg (by rw [HR.out]; omega))
    clear h10 hfew
    go_wp2_with fail
    refine bodyPost_ret (v := .tuple #[.slice none 0 0, .int .i64 0, .int .i64 4]) (by simp [results, Try.results24, go_sem]) rfl ?_
    rw [HR.out, HL.out, HM.out]
    exact ⟨_, rfl, SLE.nil _ _, HBw.out _ HB3w.out⟩
  have d1 : decide ((10 : Int) < (n : Int)) = false := decide_eq_false (by omega)
  have HR : Hid (rnE P l k = 0) := (show Hid _ from by show _ = _; unfold rnE; rw [if_neg (by rw [HC.out]; simp), if_neg (by rw [← HK.out]; exact hfew), if_neg (by rw [← HN.out]; exact h10)])
  obtain ⟨kk, rfl⟩ : ∃ kk : Nat, k = kk := ⟨k.toNat, by omega⟩
  obtain ⟨qs, eqs⟩ : ∃ qs, qs = rAllL P l kk := ⟨_, rfl⟩
  have HQ := Lib.hid eqs
  have HL : Hid (rnL P l kk = (nrF P l qs).1) := (show Hid _ from by show _ = _; rw [eqs]; exact if_pos HR.out)
  have HM : Hid (rnM P l kk = (nrF P l qs).2) := (show Hid _ from by show _ = _; rw [eqs]; exact if_pos HR.out)
  have HKL : Hid ((kn l).length ≤ 10) := (show Hid _ from by have h1 := HK.out; show (kn l).length ≤ 10; omega)
  have x3 := HXC.out w3 HB3w.out
  have hn10 : n ≤ 10 := by omega
  have d0n : decide (K < kk) = false := decide_eq_false (by omega)
  clear h10 eqs hfew
  go_wp2_with fail
  (with_reducible refine (all10_any P (kn l) kk g _ w3 hP HSG.out HKL.out (by omega) hgw3).mono ?_)
  rintro e w4 ⟨G, v4, vs4, rfl, hG, hrw, hb4⟩
  have HB4 := Lib.hid hb4
  have HG : Hid (g < G) := (show Hid _ from Nat.lt_of_lt_of_le hgw3 hG)
  have HRW := Lib.hid hrw
  have hsle4 : SLE g w4 v4 qs := by rw [HQ.out]; exact hrw.sle HG.out
  have HSLE := Lib.hid hsle4
  obtain ⟨A4, c4, ev4, hat4⟩ := hsle4.at
  subst ev4
  have HAT := Lib.hid hat4
  clear hrw hb4 hG hat4 hsle4
  have HB4w : Hid (Below w1.heap.size w1 w4) := (show Hid _ from HB3w.out.trans (HB4.out.mono HB3w.out.size))
  have HS4 : Hid (SCl w4 (.slice A n c) l) := (show Hid _ from (HS2.out.below HB3.out).below HB4.out)
  have hgw4 : g < w4.heap.size := Nat.lt_of_lt_of_le hgw3 HB4.out.size
  have hRb : qs.length ≤ 1024 := by
    rw [HQ.out]
    unfold rAllL
    have h1 := allR_len P (kn l) ((kk : Int).toNat) (2 ^ (kn l).length)
    have h2 : 2 ^ (kn l).length ≤ 2 ^ 10 := Nat.pow_le_pow_right (by omega) HKL.out
    omega
  have HQE : Hid (∀ q ∈ qs, q.length ≤ 1000000) := (show Hid _ from fun q hq => by
    rw [HQ.out] at hq
    have h1 := allR_elen q hq
    have h2 := HKL.out
    omega)
  obtain ⟨R, eR⟩ : ∃ R, R = qs.length := ⟨_, rfl⟩
  rw [← eR] at hRb HSLE ⊢
  have HRR := Lib.hid eR
  clear x3 eR HSG HRW HQ
  go_wp2_with fail
  go_loopw [38, 11, 12] (fun iv pv mv wr => NrR P l qs g w4 iv pv mv wr) (fun iv _ _ _ => R - (intOf iv).toNat)
  case atStart => exact ⟨0, Nat.zero_le _, rfl, ⟨_, RW.nil _ _ _⟩, rfl, Below.refl _ _⟩
  case round =>
    obtain ⟨i, hi, rfl, ⟨vs, hrw⟩, hmv, hbr⟩ := hrel
    have HRW := Lib.hid hrw
    have HBR := Lib.hid hbr
    have hzr := hbr.size
    subst hmv
    clear hrw hbr
    rw [← HRR.out] at hi
    have HBRw : Hid (Below w1.heap.size w1 wr) := (show Hid _ from HB4w.out.trans (HBR.out.mono HB4w.out.size))
    have x0 := HXC.out wr HBRw.out
    have hvn : vs.length ≤ i := by
      rw [HRW.out.len]
      refine Nat.le_trans (nrF_len P l _) ?_
      rw [List.length_take]
      omega
    by_cases hli : i < R
    · have di : decide ((i : Int) < (R : Int)) = true := decide_eq_true (by omega)
      have din : decide (i < R) = true := decide_eq_true hli
      have hil : i < qs.length := by rw [← HRR.out]; exact hli
      obtain ⟨b, off, B, d, eA, hW, hse⟩ := HAT.out i hil
      subst eA
      have c0 := hW wr HBR.out
      have hql : qs[i].length ≤ 1000000 := HQE.out _ (List.getElem_mem hil)
      have HFT : Hid (nrF P l (qs.take (i + 1)) = ((if (nrF P l (qs.take i)).2 < agN P l qs[i] then [] else (nrF P l (qs.take i)).1) ++ (if (nrF P l (qs.take i)).2 ≤ agN P l qs[i] then [qs[i]] else []), if (nrF P l (qs.take i)).2 < agN P l qs[i] then agN P l qs[i] else (nrF P l (qs.take i)).2)) := (show Hid _ from nrF_take P l qs hil)
      obtain ⟨p, ep⟩ : ∃ p, p = qs[i] := ⟨_, rfl⟩
      rw [← ep] at c0 hse hql HFT
      have HSE := Lib.hid hse
      have HSI : Hid (SI wr (.slice B p.length d) p) := (show Hid _ from hse.si.below HBR.out)
      clear hW ep hse
      obtain ⟨pl, epl⟩ : ∃ pl, pl = p.length := ⟨_, rfl⟩
      rw [← epl] at c0 HSE HSI hql
      have HPL := Lib.hid epl
      clear epl
      obtain ⟨M, eM⟩ : ∃ M, M = (nrF P l (qs.take i)).2 := ⟨_, rfl⟩
      rw [← eM] at HFT ⊢
      obtain ⟨D, eD⟩ : ∃ D, D = (nrF P l (qs.take i)).1 := ⟨_, rfl⟩
      rw [← eD] at HFT HRW
      clear eM eD
      go_wp2_with fail
      (with_reducible refine (ragree_any P l p _ _ wr hP (HS4.out.below HBR.out) HZ.out HSI.out (by rw [← HPL.out]; exact hql)).mono ?_)
      rintro e w6 ⟨rfl, hb6⟩
      have HB6 : Hid (Below w4.heap.size w4 w6) := (show Hid _ from HBR.out.trans (hb6.mono hzr))
      have HRW6 : Hid (RW w4.heap.size g w6 u11 vs D) := (show Hid _ from HRW.out.below hgw4 hb6)
      have hz6 : w4.heap.size ≤ w6.heap.size := HB6.out.size
      obtain ⟨a, ea⟩ : ∃ a, a = agN P l p := ⟨_, rfl⟩
      rw [← ea] at HFT ⊢
      clear ea hb6 c0 x0
      by_cases hlt : M < a
      · have da : decide (M < a) = true := decide_eq_true hlt
        have HF1 : Hid ((nrF P l (qs.take (i + 1))).1 = [] ++ [p]) := (show Hid _ from by show _ = _; rw [HFT.out]; simp only [if_pos hlt, if_pos (Int.le_of_lt hlt)])
        have HF2 : Hid ((nrF P l (qs.take (i + 1))).2 = a) := (show Hid _ from by show _ = _; rw [HFT.out]; simp only [if_pos hlt])
        clear hlt HFT
        have HSX : Hid (SX (w6.alloc (.cells #[.slice B pl d] 22)) (Value.ownBlock (.slice none 0 0)) (some g) (.slice B pl d) p) := (show Hid _ from SX.of_se HSE.out (fun q hq => by simp [Value.ownBlock] at hq) (HB6.out.alloc hz6 _))
        have HN6 : Hid (w6.ownsRow w4.heap.size 22 1 (.slice none 0 0) 0 []) := (show Hid _ from World.ownsRow_nil _ _ _ _)
        go_wp2_with (at_builtin; refine wpList_append_one_at _ rfl _ _ 34 rfl w4.heap.size 22 (.slice none 0 0) 24 Try.underlying34 ilinfo _ 0 [] rfl (HN6.out.alloc _) (.slice B pl d) rfl w6.heap.size rfl (cells_new w6 [.slice B pl d] 22 0 _ rfl) (by omega) (by omega) rfl (by simp; omega) ?_; intro g9 cap9 w9 hown9 hg9 hat9; have HO9 := Lib.hid hown9; have HG9 := Lib.hid hg9; have HA9 := Lib.hid hat9; clear hown9 hg9 hat9)
        have HRW9 := (RW.nil (w6.alloc (.cells #[.slice B pl d] 22)) w4.heap.size g).app HSX.out HO9.out HG9.out (fun q hq => by
          have e : g9 = q := by simpa [Value.ownBlock] using hq
          subst e; exact HA9.out)
        have HB9 : Hid (Below w4.heap.size w4 w9) := (show Hid _ from (HB6.out.alloc hz6 _).grown HG9.out (by simp; omega) (fun q hq => (HN6.out.lt q hq).1))
        go_roundw
        case rel => exact ⟨i + 1, by rw [← HRR.out]; omega, by go_num, ⟨_, by rw [HF1.out]; exact HRW9⟩, by rw [HF2.out], HB9.out⟩
        case measure => simp [intOf]; omega
      · have da : decide (M < a) = false := decide_eq_false hlt
        by_cases heq : a = M
        · have hle : M ≤ a := by omega
          have HF1 : Hid ((nrF P l (qs.take (i + 1))).1 = D ++ [p]) := (show Hid _ from by show _ = _; rw [HFT.out]; simp only [if_neg hlt, if_pos hle])
          have HF2 : Hid ((nrF P l (qs.take (i + 1))).2 = a) := (show Hid _ from by show _ = _; rw [HFT.out]; show (if M < a then a else M) = a; rw [if_neg hlt, heq])
          clear hlt HFT hle
          subst heq
          have HSX : Hid (SX (w6.alloc (.cells #[.slice B pl d] 22)) (Value.ownBlock u11) (some g) (.slice B pl d) p) := (show Hid _ from SX.of_se HSE.out (fun q hq => (HRW6.out.hdr.lt q hq).1) (HB6.out.alloc hz6 _))
          go_wp2_with (at_builtin; refine wpList_append_one_at _ rfl _ _ 34 rfl w4.heap.size 22 (.slice none 0 0) 24 Try.underlying34 ilinfo _ vs.length vs rfl (HRW6.out.hdr.alloc _) (.slice B pl d) rfl w6.heap.size rfl (cells_new w6 [.slice B pl d] 22 0 _ rfl) (by omega) (by omega) rfl (by simp; omega) ?_; intro g9 cap9 w9 hown9 hg9 hat9; have HO9 := Lib.hid hown9; have HG9 := Lib.hid hg9; have HA9 := Lib.hid hat9; clear hown9 hg9 hat9)
          have HRW9 := (HRW6.out.below hgw4 ((Below.refl _ w6).alloc (Nat.le_refl _) _)).app HSX.out HO9.out HG9.out (fun q hq => by
            have e : g9 = q := by simpa [Value.ownBlock] using hq
            subst e; exact HA9.out)
          have HB9 : Hid (Below w4.heap.size w4 w9) := (show Hid _ from (HB6.out.alloc hz6 _).grown HG9.out (by simp; omega) (fun q hq => (HRW6.out.hdr.lt q hq).1))
          go_roundw
          case rel => exact ⟨i + 1, by rw [← HRR.out]; omega, by go_num, ⟨_, by rw [HF1.out]; exact HRW9⟩, by rw [HF2.out], HB9.out⟩
          case measure => simp [intOf]; omega
        · have de : (a == M) = false := by rw [beq_eq_false_iff_ne]; exact heq
          have hle : ¬ M ≤ a := by omega
          have HF1 : Hid ((nrF P l (qs.take (i + 1))).1 = D) := (show Hid _ from by show _ = _; rw [HFT.out]; simp only [if_neg hlt, if_neg hle, List.append_nil])
          have HF2 : Hid ((nrF P l (qs.take (i + 1))).2 = M) := (show Hid _ from by show _ = _; rw [HFT.out]; simp only [if_neg hlt])
          clear hlt HFT hle heq
          go_wp2_with fail
          go_roundw
          case rel => exact ⟨i + 1, by rw [← HRR.out]; omega, by go_num, ⟨_, by rw [HF1.out]; exact HRW6.out⟩, by rw [HF2.out], HB6.out⟩
          case measure => simp [intOf]; omega
    · have di : decide ((i : Int) < (R : Int)) = false := decide_eq_false (by omega)
      have din : decide (i < R) = false := decide_eq_false hli
      have eall : qs.take i = qs := by rw [show i = qs.length by rw [← HRR.out]; omega, List.take_length]
      rw [eall] at HRW ⊢
      obtain ⟨M, eM⟩ : ∃ M, M = (nrF P l qs).2 := ⟨_, rfl⟩
      rw [← eM] at HM ⊢
      clear eall eM
      go_wp2_with fail
      refine bodyPost_ret (v := .tuple #[u11, .int .i64 M, .int .i64 0]) (by simp [results, Try.results24, go_sem]) rfl ?_
      rw [HR.out, HL.out, HM.out]
      exact ⟨_, rfl, HRW.out.sle hgw4, HBw.out _ HBRw.out⟩
end Go.Proofs.Ytbgabipngdillaa

namespace Go.Proofs.Ytbgabipngdillaa
open Go.RowKit Go.Shelf

theorem coF_all {P : Int} (ps : List (List Int)) (h : coF P ps = 0) : ∀ p ∈ ps, opE P [p] = 0 := by
  have key : ∀ n, ∀ ps : List (List Int), ps.length = n → coF P ps = 0 → ∀ p ∈ ps, opE P [p] = 0 := by
    intro n
    induction n with
    | zero => intro ps h0 _ p hp; rw [List.eq_nil_of_length_eq_zero h0] at hp; simp at hp
    | succ n ih =>
      intro ps h0 hc p hp
      have hne : ps ≠ [] := fun e => by subst e; simp at h0
      obtain ⟨qs, r, rfl⟩ : ∃ qs r, ps = qs ++ [r] := ⟨_, _, (List.dropLast_concat_getLast hne).symm⟩
      rw [coF_snoc] at hc
      by_cases h1 : coF P qs = 0
      · rw [if_pos h1] at hc
        rcases List.mem_append.1 hp with h2 | h2
        · exact ih qs (by simpa using h0) h1 p h2
        · simp at h2; subst h2; exact hc
      · rw [if_neg h1] at hc; exact absurd hc h1
  exact key _ ps rfl h
theorem rv_ok {P x : Int} {p : List Int} (h : opE P [p] = 0) (hx : 0 ≤ x ∧ x < P) : rvV P x p = val P p x := by
  have hp := (opE_1 h).1
  have h1 : inB P [x] = true := by
    unfold inB
    rw [hp]
    simp [els, el_mk hx]
  have h2 : rvE P x p = 0 := by unfold rvE; rw [h1]; simpa using h
  exact if_pos h2
/-- the numbers that are kept, of the first i known cells -/
def comK (P : Int) (l : List (Int × Bool)) (ps : List (List Int)) (i : Nat) : List Int := (((kn l).take i).filter fun t => ps.all fun p => hit P p t).map (·.1)
theorem comK_snoc (P : Int) (l : List (Int × Bool)) (ps : List (List Int)) {i : Nat} (h : i < (kn l).length) : comK P l ps (i + 1) = comK P l ps i ++ if (ps.all fun p => hit P p (kn l)[i]) = true then [(kn l)[i].1] else [] := by
  unfold comK
  rw [filter_take _ _ h, List.map_append]
  congr 1
  split <;> rfl
theorem comK_len (P : Int) (l : List (Int × Bool)) (ps : List (List Int)) (i : Nat) : (comK P l ps i).length ≤ i := by
  unfold comK
  rw [List.length_map]
  refine Nat.le_trans (List.length_filter_le _ _) ?_
  rw [List.length_take]
  omega
def CkR (P : Int) (l : List (Int × Bool)) (ps : List (List Int)) (w3 : World) (iv pv : Value) (wr : World) : Prop :=
  ∃ i : Nat, i ≤ (kn l).length ∧ iv = .int .i64 i ∧ wr.ownsRow w3.heap.size 3 1 pv (comK P l ps i).length ((comK P l ps i).map (Value.int .i64)) ∧ Below w3.heap.size w3 wr
def CkI (P : Int) (ps : List (List Int)) (x y : Int) (wx : World) (ov jv : Value) (wr : World) : Prop :=
  ∃ q : Nat, q ≤ ps.length ∧ jv = .int .i64 q ∧ ov = .bool ((ps.take q).all fun p => hit P p (x, y)) ∧ Below wx.heap.size wx wr
set_option maxRecDepth 100000 in
set_option maxHeartbeats 8000000 in
theorem rcommon_any (P : Int) (l : List (Int × Bool)) (ps : List (List Int)) (v vp : Value) (w : World) (hP : i64r P) (h : SCl w v l) (hz : l.length ≤ 1000000) (hp : SL w vp ps) (hpl : ∀ p ∈ ps, p.length ≤ 1000000) :
    Calls Try.prog 26 #[.agg #[.int .i64 P], v, vp] w fun e w' => ∃ v', e = .returned (.tuple #[v', .int .i64 (comE P l ps)]) ∧ w'.ownsRow w.heap.size 3 1 v' (comV P l ps).length ((comV P l ps).map (Value.int .i64)) ∧ Below w.heap.size w w' := by
  obtain ⟨i0, hi0, hi1, hi2, hi3⟩ := info_parts iinfo
  obtain ⟨A, c, rfl⟩ := h.form
  obtain ⟨Ap, cp, rfl, hat⟩ := hp.at
  have HS := Lib.hid h
  have HSP := Lib.hid hp
  have HAT := Lib.hid hat
  have HPL := Lib.hid hpl
  have HZ := Lib.hid hz
  obtain ⟨n, en⟩ : ∃ n, n = l.length := ⟨_, rfl⟩
  obtain ⟨m, em⟩ : ∃ m, m = ps.length := ⟨_, rfl⟩
  have hmb : m ≤ 9223372036854775807 := by obtain ⟨_, _, e, h1, h2, _⟩ := hp; rw [em]; injection e; omega
  rw [← en] at HS hz ⊢
  rw [← em] at HSP ⊢
  have HN := Lib.hid en
  have HM := Lib.hid em
  clear h hp hat hpl en em
  go_enter Try.func26, Try.ntmps26
  obtain ⟨F, eF⟩ : ∃ F, F = w.heap.size := ⟨_, rfl⟩
  obtain ⟨w1, ew1⟩ : ∃ w1 : World, w1 = w.alloc (.cells #[.int .i64 P] 26) := ⟨_, rfl⟩
  have HWw1 : Hid (w.alloc (.cells #[.int .i64 P] 26) = w1) := ew1.symm
  have HAw1 : Hid (Below w.heap.size w w1) := (show Hid _ from by rw [ew1]; exact (Below.refl _ w).alloc (Nat.le_refl _) _)
  have HF0w1 : Hid (w1.heap[F]? = some (.cells #[.int .i64 P] 26 (0, 0))) := (show Hid _ from by show _ = _; rw [ew1, eF]; exact heap_alloc_new w _)
  have HXC : Hid (∀ W, Below w1.heap.size w1 W → W.cell? ⟨F, 0, none⟩ = some (.int .i64 P)) := (show Hid _ from fun W hg => by
    have hF0 := (hg.block F (heap_of_cells HF0w1.out)).trans HF0w1.out
    exact (cell_of_row W F 0 _ _ _ hF0))
  have HBS : Hid (∀ W, Below w1.heap.size w1 W → Below w.heap.size w W) := (show Hid _ from fun W hW => HAw1.out.trans (hW.mono HAw1.out.size))
  go_upto_region 1 with fail
  rw [HWw1.out, ← eF]
  clear ew1 eF
  have x0 := HXC.out w1 (Below.refl _ _)
  go_wp2_with fail
  (with_reducible refine (rcells_any P l _ w1 hP (HS.out.below HAw1.out) HZ.out).mono ?_)
  rintro e w2 ⟨rfl, hb2⟩
  have HB2 : Hid (Below w1.heap.size w1 w2) := (show Hid _ from hb2)
  clear hb2 x0
  by_cases hc : ceE P l = 0
  case' neg =>
    have hcz : (ceE P l != 0) = true := by rw [bne_iff_ne]; exact hc
    have HR : Hid (comE P l ps = ceE P l) := (show Hid _ from if_neg hc)
    have HV : Hid (comV P l ps = []) := (show Hid _ from if_neg (by rw [HR.out]; exact hc))
    clear hc
    go_wp2_with fail
    refine bodyPost_ret (v := .tuple #[.slice none 0 0, .int .i64 (ceE P l)]) (by simp [results, Try.results26, go_sem]) rfl ?_
    rw [HV.out, HR.out]
    exact ⟨_, rfl, World.ownsRow_nil _ _ _ _, HBS.out _ HB2.out⟩
  have hci := ceE_inv hc
  have hP2 := prB_bd hci.1
  have HPR : Hid (prB P = true) := (show Hid _ from hci.1)
  have hl32 : n ≤ 32 := by rw [HN.out]; exact hci.2.1
  have hlP : (n : Int) < P := by rw [HN.out]; exact hci.2.2.1
  have HCO : Hid (comE P l ps = coF P ps) := (show Hid _ from if_pos hc)
  rw [hc]
  clear hci hc
  go_wp2_with fail
  go_loopw [29] (fun iv wr => ∃ q : Nat, q ≤ m ∧ iv = .int .i64 q ∧ Hid (coF P (ps.take q) = 0) ∧ Below w2.heap.size w2 wr) (fun iv _ => m - (intOf iv).toNat)
  case atStart => exact ⟨0, Nat.zero_le _, rfl, (show Hid _ from rfl), Below.refl _ _⟩
  case round =>
    obtain ⟨q, hq, rfl, HCF, hbr⟩ := hrel
    have HBR := Lib.hid hbr
    have hzr := hbr.size
    clear hbr
    have HBR1 : Hid (Below w1.heap.size w1 wr) := (show Hid _ from HB2.out.trans (HBR.out.mono HB2.out.size))
    have x0 := HXC.out wr HBR1.out
    by_cases hlq : q < m
    · have dq : decide ((q : Int) < (m : Int)) = true := decide_eq_true (by omega)
      have dqn : decide (q < m) = true := decide_eq_true hlq
      have hqp : q < ps.length := by rw [← HM.out]; exact hlq
      obtain ⟨b, off, B, d, eA, hW⟩ := HAT.out q hqp
      subst eA
      obtain ⟨c0, hsi⟩ := hW wr (HBS.out _ HBR1.out)
      have HTK := Lib.hid (coF_snoc P (ps.take q) ps[q])
      have HTL : Hid (ps.take (q + 1) = ps.take q ++ [ps[q]]) := (show Hid _ from List.take_succ_eq_append_getElem hqp)
      have hpl := HPL.out _ (List.getElem_mem hqp)
      obtain ⟨p, ep⟩ : ∃ p, p = ps[q] := ⟨_, rfl⟩
      rw [← ep] at c0 hsi HTK HTL hpl
      have HSI := Lib.hid hsi
      clear hW ep hsi
      obtain ⟨pl, epl⟩ : ∃ pl, pl = p.length := ⟨_, rfl⟩
      rw [← epl] at c0 HSI hpl
      have HPLN := Lib.hid epl
      clear epl
      go_wp2_with fail
      (with_reducible refine (rTrim_any P p _ wr hP HSI.out (by rw [← HPLN.out]; exact hpl)).mono ?_)
      rintro e w4 ⟨v4, rfl, hown4, hb4⟩
      have HB4 : Hid (Below w2.heap.size w2 w4) := (show Hid _ from HBR.out.trans (hb4.mono hzr))
      clear hown4 hb4 c0 x0
      by_cases hop : opE P [p] = 0
      · have hez : (opE P [p] != 0) = false := by rw [bne_eq_false_iff_eq]; exact hop
        have HCN : Hid (coF P (ps.take (q + 1)) = 0) := (show Hid _ from by show _ = _; rw [HTL.out, HTK.out, if_pos HCF.out]; exact hop)
        clear hop
        go_wp2_with fail
        go_roundw
        case rel => exact ⟨q + 1, by omega, by go_num, HCN, HB4.out⟩
        case measure => simp [intOf]; omega
      · have hez : (opE P [p] != 0) = true := by rw [bne_iff_ne]; exact hop
        have HRC : Hid (comE P l ps = opE P [p]) := (show Hid _ from by
          show _ = _
          have h1 : coF P (ps.take (q + 1)) = opE P [p] := by rw [HTL.out, HTK.out, if_pos HCF.out]
          rw [HCO.out, ← h1, ← coF_stop P (ps.drop (q + 1)) (ps.take (q + 1)) (by rw [h1]; exact hop), List.take_append_drop])
        have HVC : Hid (comV P l ps = []) := (show Hid _ from if_neg (by rw [HRC.out]; exact hop))
        clear hop
        go_wp2_with fail
        refine bodyPost_ret (v := .tuple #[.slice none 0 0, .int .i64 (opE P [p])]) (by simp [results, Try.results26, go_sem]) rfl ?_
        rw [HVC.out, HRC.out]
        exact ⟨_, rfl, World.ownsRow_nil _ _ _ _, HBS.out _ (HB2.out.trans (HB4.out.mono HB2.out.size))⟩
    · have dq : decide ((q : Int) < (m : Int)) = false := decide_eq_false (by omega)
      have dqn : decide (q < m) = false := decide_eq_false hlq
      have hqm : q = m := by omega
      have hcf : coF P ps = 0 := by have h1 := HCF.out; rw [hqm, HM.out, List.take_length] at h1; exact h1
      have HOP := Lib.hid (coF_all ps hcf)
      have HRC : Hid (comE P l ps = 0) := (show Hid _ from by show _ = _; rw [HCO.out, hcf])
      have HVC : Hid (comV P l ps = comL P l ps) := (show Hid _ from if_pos HRC.out)
      clear hqm hcf
      go_wp2_with fail
      (with_reducible refine (rknown_any l _ wr (HS.out.below (HBS.out _ HBR1.out)) HZ.out).mono ?_)
      rintro e w3 ⟨v3, rfl, hown3, hb3⟩
      have hsr : ∀ t ∈ kn l, i64r t.1 ∧ i64r t.2 := by
        obtain ⟨A', c', e', hc', hm', hr', ha'⟩ := HS.out
        exact kn_rng HZ.out hr'
      have HSR := Lib.hid hsr
      have HSG : Hid (SG pcs 2 w3.heap.size w3 v3 (kn l)) := (show Hid _ from SG.of_own hown3 (fun t ht y hy => by simp [pcs] at hy; rcases hy with rfl | rfl; exact (HSR.out t ht).1; exact (HSR.out t ht).2) (fun _ _ => rfl))
      obtain ⟨A3, c3, ev3⟩ := own_slice hown3
      subst ev3
      have hkn := kn_len l 0
      obtain ⟨K, eK⟩ : ∃ K, K = (kn l).length := ⟨_, rfl⟩
      have hK32 : K ≤ 32 := by rw [eK]; have := HN.out; unfold kn; omega
      have HK := Lib.hid eK
      rw [← eK] at HSG ⊢
      have HB31 : Hid (Below w1.heap.size w1 w3) := (show Hid _ from HBR1.out.trans (hb3.mono HBR1.out.size))
      clear hown3 hb3 hsr hkn eK x0
      go_wp2_with fail
      go_loopw [46, 13] (fun iv pv wr => CkR P l ps w3 iv pv wr) (fun iv _ _ => K - (intOf iv).toNat)
      case atStart => exact ⟨0, Nat.zero_le _, rfl, by simpa [comK] using World.ownsRow_nil w3 w3.heap.size 3 1, Below.refl _ _⟩
      case round =>
        obtain ⟨i, hi, rfl, hown, hbr⟩ := hrel
        have HO := Lib.hid hown
        have HBr := Lib.hid hbr
        have hzq := hbr.size
        rw [← HK.out] at hi
        clear hown hbr
        have hDl : (comK P l ps i).length ≤ i := comK_len P l ps i
        by_cases hli : i < K
        · have di : decide ((i : Int) < (K : Int)) = true := decide_eq_true (by omega)
          have din : decide (i < K) = true := decide_eq_true hli
          have his : i < (kn l).length := by rw [← HK.out]; exact hli
          obtain ⟨A', c', eA', _, _, _, ha'⟩ := pcs_cells ((HSG.out.below HBr.out).more hzq)
          rw [← HK.out] at eA'
          injection eA' with eA1 eA2 eA3
          obtain ⟨b, off, eA, hbl, hcell⟩ := ha' (by omega)
          obtain ⟨c0, c1⟩ := hcell i his
          rw [← eA1] at eA
          subst eA
          have hat1 := kn_at (List.getElem_mem his)
          have HSN := Lib.hid (comK_snoc P l ps his)
          obtain ⟨xv, exv⟩ : ∃ xv, xv = (kn l)[i].1 := ⟨_, rfl⟩
          obtain ⟨yv, eyv⟩ : ∃ yv, yv = (kn l)[i].2 := ⟨_, rfl⟩
          have HSN3 : Hid (comK P l ps (i + 1) = comK P l ps i ++ if (ps.all fun p => hit P p (xv, yv)) = true then [xv] else []) := (show Hid _ from by show _ = _; rw [HSN.out, exv, eyv])
          rw [← exv] at c0 hat1
          rw [← eyv] at c1
          have hx1 : 1 ≤ xv ∧ xv < P := by have := HN.out; omega
          have hxr : i64r xv := by unfold i64r; omega
          obtain ⟨D, hD⟩ : ∃ D, comK P l ps i = D := ⟨_, rfl⟩
          rw [hD] at HO HSN3 hDl
          clear hcell exv eyv hD ha' eA1 eA2 eA3 hbl HSN hat1
          obtain ⟨X, eX⟩ : ∃ X, X = wr.heap.size := ⟨_, rfl⟩
          obtain ⟨wx, ewx⟩ : ∃ wx : World, wx = wr.alloc (.cells #[.int .i64 xv, .int .i64 yv] 64) := ⟨_, rfl⟩
          have HWwx : Hid (wr.alloc (.cells #[.int .i64 xv, .int .i64 yv] 64) = wx) := ewx.symm
          have HAwx : Hid (Below wr.heap.size wr wx) := (show Hid _ from by rw [ewx]; exact (Below.refl _ wr).alloc (Nat.le_refl _) _)
          have HX0wx : Hid (wx.heap[X]? = some (.cells #[.int .i64 xv, .int .i64 yv] 64 (0, 0))) := (show Hid _ from by show _ = _; rw [ewx, eX]; exact heap_alloc_new wr _)
          have HXX : Hid (∀ W, Below wx.heap.size wx W → W.cell? ⟨X, 0, none⟩ = some (.int .i64 xv) ∧ W.cell? ⟨X, 1, none⟩ = some (.int .i64 yv)) := (show Hid _ from fun W hg => by
            have hX0 := (hg.block X (heap_of_cells HX0wx.out)).trans HX0wx.out
            exact ⟨cell_of_row W X 0 _ _ _ hX0, cell_of_row W X 1 _ _ _ hX0⟩)
          have HBX : Hid (Below w3.heap.size w3 wx) := (show Hid _ from HBr.out.trans (HAwx.out.mono hzq))
          have HOX : Hid (wx.ownsRow w3.heap.size 3 1 u13 D.length (D.map (Value.int .i64))) := (show Hid _ from own_blw HO.out HAwx.out)
          have hzx : w3.heap.size ≤ wx.heap.size := HBX.out.size
          have HBX1 : Hid (Below w1.heap.size w1 wx) := (show Hid _ from HB31.out.trans (HBX.out.mono HB31.out.size))
          go_upto_region 15 with fail
          rw [HWwx.out, ← eX]
          clear ewx eX
          clear c0 c1
          go_wp2_with fail
          go_loopw [16, 52] (fun ov jv wr => CkI P ps xv yv wx ov jv wr) (fun _ jv _ => m - (intOf jv).toNat)
          case atStart => exact ⟨0, Nat.zero_le _, rfl, by simp, Below.refl _ _⟩
          case round =>
            obtain ⟨q2, hq2, rfl, rfl, hb5⟩ := hrel
            have HB5 := Lib.hid hb5
            have hz5 := hb5.size
            rw [← HM.out] at hq2
            have HB51 : Hid (Below w1.heap.size w1 wr) := (show Hid _ from HBX1.out.trans (HB5.out.mono HBX1.out.size))
            have x5 := HXC.out wr HB51.out
            obtain ⟨y0, y1⟩ := HXX.out wr hb5
            clear hb5
            by_cases hlq2 : q2 < m
            · have dq2 : decide ((q2 : Int) < (m : Int)) = true := decide_eq_true (by omega)
              have dq2n : decide (q2 < m) = true := decide_eq_true hlq2
              have hqp : q2 < ps.length := by rw [← HM.out]; exact hlq2
              obtain ⟨b3, off3, B, d, eA, hW⟩ := HAT.out q2 hqp
              subst eA
              obtain ⟨c0, hsi⟩ := hW wr (HBS.out _ HB51.out)
              have HTL : Hid (((ps.take (q2 + 1)).all fun p => hit P p (xv, yv)) = (((ps.take q2).all fun p => hit P p (xv, yv)) && (val P ps[q2] xv == yv))) := (show Hid _ from by
                show _ = _
                rw [List.take_succ_eq_append_getElem hqp, List.all_append]
                simp [hit])
              have hpl := HPL.out _ (List.getElem_mem hqp)
              have hop := HOP.out _ (List.getElem_mem hqp)
              obtain ⟨p, ep⟩ : ∃ p, p = ps[q2] := ⟨_, rfl⟩
              rw [← ep] at c0 hsi HTL hpl hop
              have HSI := Lib.hid hsi
              have HVV : Hid (rvV P xv p = val P p xv) := (show Hid _ from rv_ok hop (by omega))
              clear hW ep hsi hop
              obtain ⟨pl, epl⟩ : ∃ pl, pl = p.length := ⟨_, rfl⟩
              rw [← epl] at c0 HSI hpl
              have HPLN := Lib.hid epl
              clear epl
              obtain ⟨bb, ebb⟩ : ∃ bb, bb = ((ps.take q2).all fun p => hit P p (xv, yv)) := ⟨_, rfl⟩
              rw [← ebb] at HTL ⊢
              clear ebb
              go_wp2_with fail
              (with_reducible refine (rValue_any P xv p _ wr hP hxr HSI.out (by rw [← HPLN.out]; exact hpl)).mono ?_)
              rintro e w6 ⟨rfl, hb6⟩
              rw [HVV.out]
              have HB6 : Hid (Below wx.heap.size wx w6) := (show Hid _ from HB5.out.trans (hb6.mono hz5))
              obtain ⟨z0, z1⟩ := HXX.out w6 HB6.out
              obtain ⟨yy, eyy⟩ : ∃ yy, yy = val P p xv := ⟨_, rfl⟩
              rw [← eyy] at HTL ⊢
              clear eyy hb6 c0 x5 y0 y1
              by_cases hyy : yy = yv
              · have dyy : (yy == yv) = true := by rw [beq_iff_eq]; exact hyy
                cases bb
                all_goals
                  go_wp2_with fail
                  go_roundw
                  case rel => exact ⟨q2 + 1, by rw [← HM.out]; omega, by go_num, by rw [HTL.out] <;> simp [dyy], HB6.out⟩
                  case measure => simp [intOf]; omega
              · have dyy : (yy == yv) = false := by rw [beq_eq_false_iff_ne]; exact hyy
                cases bb
                all_goals
                  go_wp2_with fail
                  go_roundw
                  case rel => exact ⟨q2 + 1, by rw [← HM.out]; omega, by go_num, by rw [HTL.out] <;> simp [dyy], HB6.out⟩
                  case measure => simp [intOf]; omega
            · have dq2 : decide ((q2 : Int) < (m : Int)) = false := decide_eq_false (by omega)
              have dq2n : decide (q2 < m) = false := decide_eq_false hlq2
              have hall : ps.take q2 = ps := by rw [show q2 = ps.length by rw [← HM.out]; omega, List.take_length]
              rw [hall]
              have HOr : Hid (wr.ownsRow w3.heap.size 3 1 u13 D.length (D.map (Value.int .i64))) := (show Hid _ from own_blw HOX.out HB5.out)
              have HB5x : Hid (Below w3.heap.size w3 wr) := (show Hid _ from HBX.out.trans (HB5.out.mono hzx))
              have hz5x : w3.heap.size ≤ wr.heap.size := HB5x.out.size
              obtain ⟨bb, ebb⟩ : ∃ bb, bb = (ps.all fun p => hit P p (xv, yv)) := ⟨_, rfl⟩
              rw [← ebb] at HSN3 ⊢
              clear ebb hall
              cases bb
              · have HSN4 : Hid (comK P l ps (i + 1) = D) := (show Hid _ from by show _ = _; have h := HSN3.out; simpa using h)
                go_wp2_with fail
                go_roundw
                case rel => exact ⟨i + 1, by rw [← HK.out]; omega, by go_num, by rw [HSN4.out]; exact HOr.out, HB5x.out⟩
                case measure => simp [intOf]; omega
              · have HSN4 : Hid (comK P l ps (i + 1) = D ++ [xv]) := (show Hid _ from by show _ = _; have h := HSN3.out; simpa using h)
                go_wp2_with (at_builtin; refine wpList_append_own _ rfl _ _ 22 rfl w3.heap.size 3 i0 (.int .i64 0) 1 8 Try.underlying22 hi0 hi1 hi2 hi3 rfl (by omega) _ _ _ rfl (HOr.out.alloc _) ⟨wr.heap.size, 0, none⟩ 1 1 [.int .i64 xv] rfl rfl (cells_new wr _ _) (by intro u hu; simp at hu; subst hu; rfl) (by unfold maxLen; omega) (by omega) (by simp; omega) ?_; intro v9 w9 hown9 hg9 _; have HO9 := Lib.hid hown9; have HG9 := Lib.hid hg9; clear hown9 hg9)
                go_roundw
                case rel =>
                  refine ⟨i + 1, by rw [← HK.out]; omega, by go_num, ?_, ?_⟩
                  · rw [HSN4.out]
                    simpa using HO9.out
                  · exact (HB5x.out.alloc hz5x _).grown HG9.out (by simp; omega) (fun k hk => (HOr.out.lt k hk).1)
                case measure => simp [intOf]; omega
        · have di : decide ((i : Int) < (K : Int)) = false := decide_eq_false (by omega)
          have din : decide (i < K) = false := decide_eq_false hli
          have HFA : Hid (comL P l ps = comK P l ps i) := (show Hid _ from by show _ = _; unfold comK; rw [show i = (kn l).length by rw [← HK.out]; omega, List.take_length]; rfl)
          go_wp2_with fail
          refine bodyPost_ret (v := .tuple #[u13, .int .i64 0]) (by simp [results, Try.results26, go_sem]) rfl ?_
          rw [HRC.out, HVC.out, HFA.out]
          exact ⟨_, rfl, own_base HO.out (HBS.out _ HB31.out).size, HBS.out _ (HB31.out.trans (HBr.out.mono HB31.out.size))⟩
end Go.Proofs.Ytbgabipngdillaa

namespace Go.Proofs.Ytbgabipngdillaa
open Go.RowKit Go.Shelf

theorem SL.nil' (w : World) : SL w (.slice none 0 0) [] := ⟨none, 0, rfl, Nat.le_refl _, by omega, fun h => by simp at h⟩
theorem SL.lit1 {W : World} {B : Nat} {A : Option Addr} {c : Nat} {l : List Int} (hB : B < W.heap.size) (h : SI W (.slice A l.length c) l) (h0 : W.cell? ⟨B, 0, none⟩ = some (.slice A l.length c)) : SL W (.slice (some ⟨B, 0, none⟩) 1 1) [l] :=
  ⟨_, 1, rfl, Nat.le_refl _, by omega, fun _ => ⟨B, 0, rfl, hB, fun j hj => by
    have : j = 0 := by simp at hj; omega
    subst this
    exact ⟨A, c, h0, h⟩⟩⟩
theorem SL.lit2 {W : World} {B : Nat} {A A' : Option Addr} {c c' : Nat} {l m : List Int} (hB : B < W.heap.size) (h : SI W (.slice A l.length c) l) (h' : SI W (.slice A' m.length c') m) (h0 : W.cell? ⟨B, 0, none⟩ = some (.slice A l.length c)) (h1 : W.cell? ⟨B, 1, none⟩ = some (.slice A' m.length c')) : SL W (.slice (some ⟨B, 0, none⟩) 2 2) [l, m] :=
  ⟨_, 2, rfl, Nat.le_refl _, by omega, fun _ => ⟨B, 0, rfl, hB, fun j hj => by
    have : j = 0 ∨ j = 1 := by simp at hj; omega
    rcases this with rfl | rfl
    · exact ⟨A, c, h0, h⟩
    · exact ⟨A', c', h1, h'⟩⟩⟩
theorem comV_r (P : Int) (l : List (Int × Bool)) (ps : List (List Int)) (hz : l.length ≤ 1000000) : ∀ x ∈ comV P l ps, i64r x := fun x hx => by
  unfold comV at hx
  split at hx
  · unfold comL at hx
    obtain ⟨t, ht, rfl⟩ := List.mem_map.1 hx
    have h1 := kn_at (List.mem_filter.1 ht).1
    unfold i64r
    omega
  · simp at hx
theorem lits5 {wl : World} {M nP nQ cp cq : Nat} {Ap Aq : Option Addr} {p q : List Int} (hnp : nP = p.length) (hnq : nQ = q.length) (hpl : p.length ≤ 1000000) (hql : q.length ≤ 1000000) (hM5 : M + 5 = wl.heap.size)
    (hx : ∀ W, Below wl.heap.size wl W → W.cell? ⟨M, 0, none⟩ = some (.slice Ap nP cp) ∧ W.cell? ⟨M + 1, 0, none⟩ = some (.slice Aq nQ cq) ∧ W.cell? ⟨M + 2, 0, none⟩ = some (.slice Aq nQ cq) ∧ W.cell? ⟨M + 2, 1, none⟩ = some (.slice Aq nQ cq) ∧
      W.cell? ⟨M + 3, 0, none⟩ = some (.slice Aq nQ cq) ∧ W.cell? ⟨M + 3, 1, none⟩ = some (.slice Ap nP cp) ∧ W.cell? ⟨M + 4, 0, none⟩ = some (.slice (some ⟨M, 0, none⟩) 1 1) ∧ W.cell? ⟨M + 4, 1, none⟩ = some (.slice (some ⟨M + 1, 0, none⟩) 1 1) ∧
      W.cell? ⟨M + 4, 2, none⟩ = some (.slice (some ⟨M + 2, 0, none⟩) 2 2) ∧ W.cell? ⟨M + 4, 3, none⟩ = some (.slice none 0 0) ∧ W.cell? ⟨M + 4, 4, none⟩ = some (.slice (some ⟨M + 3, 0, none⟩) 2 2))
    (hs : ∀ W, Below wl.heap.size wl W → SI W (.slice Ap nP cp) p ∧ SI W (.slice Aq nQ cq) q) :
    ∀ y, y < 5 → ∃ Am nm cm ps, Hid (nm = List.length ps) ∧ Hid (∀ W, Below wl.heap.size wl W → SL W (.slice Am nm cm) ps ∧ W.cell? ⟨M + 4, y, none⟩ = some (.slice Am nm cm)) ∧ Hid (∀ p ∈ ps, p.length ≤ 1000000) := by
  subst hnp hnq
  intro y hy
  have key : ∀ W, Below wl.heap.size wl W → M + 4 < W.heap.size := fun W hW => by have := hW.size; omega
  rcases (by omega : y = 0 ∨ y = 1 ∨ y = 2 ∨ y = 3 ∨ y = 4) with rfl | rfl | rfl | rfl | rfl
  · refine ⟨some ⟨M, 0, none⟩, 1, 1, [p], rfl, fun W hW => ?_, fun r hr => by simp at hr; subst hr; exact hpl⟩
    obtain ⟨c0, c1, c2, c3, c4, c5, c6, c7, c8, c9, c10⟩ := hx W hW
    obtain ⟨s1, s2⟩ := hs W hW
    have hk := key W hW
    exact ⟨SL.lit1 (by omega) s1 c0, c6⟩
  · refine ⟨some ⟨M + 1, 0, none⟩, 1, 1, [q], rfl, fun W hW => ?_, fun r hr => by simp at hr; subst hr; exact hql⟩
    obtain ⟨c0, c1, c2, c3, c4, c5, c6, c7, c8, c9, c10⟩ := hx W hW
    obtain ⟨s1, s2⟩ := hs W hW
    have hk := key W hW
    exact ⟨SL.lit1 (by omega) s2 c1, c7⟩
  · refine ⟨some ⟨M + 2, 0, none⟩, 2, 2, [q, q], rfl, fun W hW => ?_, fun r hr => by simp at hr; subst hr; exact hql⟩
    obtain ⟨c0, c1, c2, c3, c4, c5, c6, c7, c8, c9, c10⟩ := hx W hW
    obtain ⟨s1, s2⟩ := hs W hW
    have hk := key W hW
    exact ⟨SL.lit2 (by omega) s2 s2 c2 c3, c8⟩
  · refine ⟨none, 0, 0, [], rfl, fun W hW => ?_, fun r hr => by simp at hr⟩
    obtain ⟨c0, c1, c2, c3, c4, c5, c6, c7, c8, c9, c10⟩ := hx W hW
    exact ⟨SL.nil' W, c9⟩
  · refine ⟨some ⟨M + 3, 0, none⟩, 2, 2, [q, p], rfl, fun W hW => ?_, fun r hr => by simp at hr; rcases hr with rfl | rfl; exact hql; exact hpl⟩
    obtain ⟨c0, c1, c2, c3, c4, c5, c6, c7, c8, c9, c10⟩ := hx W hW
    obtain ⟨s1, s2⟩ := hs W hW
    have hk := key W hW
    exact ⟨SL.lit2 (by omega) s2 s1 c4 c5, c10⟩
def Ix (b : Nat) (w7 : World) (iv : Value) (wr : World) : Prop := ∃ j : Nat, j ≤ b ∧ iv = .int .i64 j ∧ Below w7.heap.size w7 wr

set_option maxRecDepth 100000 in
set_option maxHeartbeats 16000000 in
theorem ldoes_any (l : List Int) (R k ag : Int) (C : List (Int × Bool)) (p : List Int) (v vc vp : Value) (w : World) (hR : i64r R) (h : SI w v l) (hc : SCl w vc C) (hp : SI w vp p) :
    Calls Try.prog 6 #[v, .agg #[.int .i64 R], vc, .int .i64 k, .int .i64 ag, vp] w fun e w' => e = .returned (.bool true) ∧ Below w.heap.size w w' := by
  have HS := Lib.hid h
  obtain ⟨A, c, rfl⟩ := h.form
  have HC := Lib.hid hc
  obtain ⟨Ac, cc, rfl⟩ := hc.form
  have HPp := Lib.hid hp
  obtain ⟨Ap, cp, rfl⟩ := hp.form
  obtain ⟨nC, enC⟩ : ∃ n, n = C.length := ⟨_, rfl⟩
  obtain ⟨nP, enP⟩ : ∃ n, n = p.length := ⟨_, rfl⟩
  rw [← enC] at HC ⊢
  rw [← enP] at HPp ⊢
  have HNC := Lib.hid enC
  have HNP := Lib.hid enP
  clear h hc hp enC enP
  go_enter Try.func6, Try.ntmps6
  obtain ⟨F0, eF0⟩ : ∃ F0, F0 = w.heap.size := ⟨_, rfl⟩
  obtain ⟨w0, ew0⟩ : ∃ w0 : World, w0 = w.alloc (.cells #[.int .i64 R] 26) := ⟨_, rfl⟩
  have HWw0 : Hid (w.alloc (.cells #[.int .i64 R] 26) = w0) := ew0.symm
  have HAw0 : Hid (Below w.heap.size w w0) := (show Hid _ from by rw [ew0]; exact (Below.refl _ w).alloc (Nat.le_refl _) _)
  have HF00w0 : Hid (w0.heap[F0]? = some (.cells #[.int .i64 R] 26 (0, 0))) := (show Hid _ from by show _ = _; rw [ew0, eF0]; exact heap_alloc_new w _)
  have HX0 : Hid (∀ W, Below w0.heap.size w0 W → W.cell? ⟨F0, 0, none⟩ = some (.int .i64 R)) := (show Hid _ from fun W hg => by
    have hF00 := (hg.block F0 (heap_of_cells HF00w0.out)).trans HF00w0.out
    exact (cell_of_row W F0 0 _ _ _ hF00))
  have HB0 : Hid (Below w.heap.size w w0) := (show Hid _ from HAw0.out)
  go_upto_region 1 with fail
  rw [HWw0.out, ← eF0]
  clear ew0 eF0
  go_wp2_with fail
  (with_reducible refine (lsane_any _).mono ?_)
  rintro e w1 ⟨rfl, hb1⟩
  have HB01 : Hid (Below w0.heap.size w0 w1) := (show Hid _ from hb1)
  have HB1 : Hid (Below w.heap.size w w1) := (show Hid _ from HB0.out.trans (hb1.mono HB0.out.size))
  have HS1 := Lib.hid (HS.out.below HB1.out)
  clear hb1
  go_wp2_with fail
  (with_reducible refine (few_any l _ w1 HS1.out).mono ?_)
  rintro e wz ⟨rfl, hwz⟩
  subst hwz
  by_cases h5 : l.length ≤ 500
  case' neg =>
    have d5 : decide (l.length ≤ 500) = false := decide_eq_false h5
    rw [d5]
    clear d5 h5
    go_wp2_with fail
    go_ret
    exact ⟨rfl, HB1.out⟩
  have d5 : decide (l.length ≤ 500) = true := decide_eq_true h5
  rw [d5]
  clear d5 h5
  by_cases h40 : 40 < nC
  case' pos =>
    have d40 : decide ((40 : Int) < (nC : Int)) = true := decide_eq_true (by omega)
    have d40n : decide (40 < nC) = true := decide_eq_true h40
    clear h40
    go_wp2_with fail
    go_ret
    exact ⟨rfl, HB1.out⟩
  have d40 : decide ((40 : Int) < (nC : Int)) = false := decide_eq_false (by omega)
  have d40n : decide (40 < nC) = false := decide_eq_false h40
  by_cases h600 : 600 < nP
  case' pos =>
    have d600 : decide ((600 : Int) < (nP : Int)) = true := decide_eq_true (by omega)
    have d600n : decide (600 < nP) = true := decide_eq_true h600
    clear h600 h40
    go_wp2_with fail
    go_ret
    exact ⟨rfl, HB1.out⟩
  have d600 : decide ((600 : Int) < (nP : Int)) = false := decide_eq_false (by omega)
  have d600n : decide (600 < nP) = false := decide_eq_false h600
  go_wp2_with fail
  (with_reducible refine (new_any l _ w1 HS1.out).mono ?_)
  rintro e w2 ⟨rfl, hd2, hb2, hz2⟩
  obtain ⟨g, eg⟩ : ∃ g, g = w1.heap.size := ⟨_, rfl⟩
  rw [← eg] at hd2 ⊢
  have HD2 := Lib.hid hd2
  have HB12 : Hid (Below w1.heap.size w1 w2) := (show Hid _ from hb2)
  have HB2 : Hid (Below w.heap.size w w2) := HB1.out.trans (hb2.mono HB1.out.size)
  have HGW : Hid (w.heap.size ≤ g) := (show Hid _ from by rw [eg]; exact HB1.out.size)
  have HGW0 : Hid (w0.heap.size ≤ g) := (show Hid _ from by rw [eg]; exact HB01.out.size)
  have HG2 : Hid (g < w2.heap.size) := hd2.lt
  clear hd2 hb2 hz2 eg d40 d40n d600 d600n
  go_wp2_with fail
  (with_reducible refine (lcells_any g w2 HD2.out).mono ?_)
  rintro e w3 ⟨P, vl, L, rfl, hpr, hP8, hl1, hl8, hev, hsc, hd3, hg3⟩
  have hPb := prB_bd hpr
  have hPi : i64r P := by unfold i64r; omega
  obtain ⟨Al, cl, evl⟩ := hsc.scl.form
  subst evl
  obtain ⟨n, en⟩ : ∃ n, n = L.length := ⟨_, rfl⟩
  rw [← en] at hsc hl1 hl8 ⊢
  have HN := Lib.hid en
  have HSC := Lib.hid hsc
  clear hsc hev en
  obtain ⟨F, eF⟩ : ∃ F, F = w3.heap.size := ⟨_, rfl⟩
  obtain ⟨w4, ew4⟩ : ∃ w4 : World, w4 = w3.alloc (.cells #[.int .i64 P] 26) := ⟨_, rfl⟩
  have HWw4 : Hid (w3.alloc (.cells #[.int .i64 P] 26) = w4) := ew4.symm
  have HAw4 : Hid (Below w3.heap.size w3 w4) := (show Hid _ from by rw [ew4]; exact (Below.refl _ w3).alloc (Nat.le_refl _) _)
  have HF0w4 : Hid (w4.heap[F]? = some (.cells #[.int .i64 P] 26 (0, 0))) := (show Hid _ from by show _ = _; rw [ew4, eF]; exact heap_alloc_new w3 _)
  have HGF : Hid (g < F) := (show Hid _ from by rw [eF]; exact hd3.lt)
  have HXC : Hid (∀ W, w4.grownBy W (some g) → W.cell? ⟨F, 0, none⟩ = some (.int .i64 P)) := (show Hid _ from fun W hg => by
    have hF0 := (hg.block F (heap_of_cells HF0w4.out) (by have := HGF.out; simp; omega)).trans HF0w4.out
    exact (cell_of_row W F 0 _ _ _ hF0))
  have HD4 := Lib.hid (hd3.below HAw4.out)
  have HSC4 := Lib.hid (HSC.out.below HAw4.out)
  have HG24 : Hid (w2.grownBy w4 (some g)) := grownBy_trans hg3 (grownBy_of_below HAw4.out _)
  have HBF : Hid (∀ W, w4.grownBy W (some g) → Below w.heap.size w W) := (show Hid _ from fun W hg => HB2.out.grown (grownBy_trans HG24.out hg) HB2.out.size (fun k hk => by injection hk with e; subst e; exact HGW.out))
  have HBF0 : Hid (∀ W, w4.grownBy W (some g) → Below w0.heap.size w0 W) := (show Hid _ from fun W hg => (HB01.out.trans (HB12.out.mono HB01.out.size)).grown (grownBy_trans HG24.out hg) (HB01.out.trans (HB12.out.mono HB01.out.size)).size (fun k hk => by injection hk with e; subst e; exact HGW0.out))
  clear hd3 hg3
  go_upto_region 7 with fail
  rw [HWw4.out, ← eF]
  clear ew4 eF
  have x4 := HXC.out w4 (grownBy_refl _ _)
  have HD4d : Hid (Dk w4.drew g) := (show Hid _ from HD4.out.below (Below.refl _ w4).drew)
  go_region_held3 (fun w' => w'.cell? ⟨F, 0, none⟩ = some (.int .i64 P)) (first | exact x4 | exact x5 | exact x6 | go_keep)
    (first
      | (go_at_call 21; refine (next_any 4 g _ (by first | exact HD4.out | exact HD4d.out) (by unfold i64r; omega) (by omega)).mono ?_; rintro e w5 ⟨xx, rfl, _, hx5, hd5, hg5⟩; obtain ⟨n5, rfl⟩ : ∃ n5 : Nat, xx = n5 := ⟨xx.toNat, by have := hx5 (by omega); omega⟩; have hn5 : n5 < 4 := (by have := hx5 (by omega); omega); have HG5 : Hid (w4.grownBy w5 (some g)) := (show Hid _ from ⟨hg5.os, hg5.tape, hg5.output, hg5.size, hg5.block⟩); have x5 : w5.cell? ⟨F, 0, none⟩ = some (.int .i64 P) := HXC.out w5 HG5.out; have HD5 := Lib.hid hd5; have HD5d : Hid (Dk w5.drew g) := (show Hid _ from hd5.below (Below.refl _ w5).drew); clear hx5 hd5 hg5)
      | (go_at_call 18; refine (elements_any g n5 P _ (by first | exact HD5.out | exact HD5d.out) ⟨by omega, by omega⟩ (by omega)).mono ?_; rintro e w6 ⟨vq, q, rfl, hql, hqe, hqo, hd6, hg6⟩; have HG56 : Hid (w5.grownBy w6 (some g)) := (show Hid _ from ⟨hg6.os, hg6.tape, hg6.output, hg6.size, hg6.block⟩); have HG6 : Hid (w4.grownBy w6 (some g)) := (show Hid _ from grownBy_trans HG5.out HG56.out); have x6 : w6.cell? ⟨F, 0, none⟩ = some (.int .i64 P) := HXC.out w6 HG6.out; have HD6 := Lib.hid hd6; have HQ : Hid (SI w6 vq q) := (show Hid _ from SI.of_own hqo (els_r hPb.2 hqe)); have hql2 : q.length ≤ 4 := (by omega); clear hql hqe hqo hd6 hg6))
  obtain ⟨Aq, cq, evq⟩ := HQ.out.form
  subst evq
  obtain ⟨nQ, enQ⟩ : ∃ n, n = q.length := ⟨_, rfl⟩
  rw [← enQ] at HQ hql2 ⊢
  have HNQ := Lib.hid enQ
  have HC6 : Hid (SCl w6 (.slice Ac nC cc) C) := (show Hid _ from HC.out.below (HBF.out _ HG6.out))
  have HL6 : Hid (SCl w6 (.slice Al n cl) L) := (show Hid _ from (HSC4.out.grown HG6.out).scl)
  have HP6 : Hid (SI w6 (.slice Ap nP cp) p) := (show Hid _ from HPp.out.below (HBF.out _ HG6.out))
  have f0 : w6.cell? ⟨F0, 0, none⟩ = some (.int .i64 R) := HX0.out w6 (HBF0.out _ HG6.out)
  have hg6 : g < w6.heap.size := HD6.out.lt
  have HBw6 : Hid (Below w.heap.size w w6) := (show Hid _ from HBF.out _ HG6.out)
  clear enQ x4 x5 HD4 HD4d HD5 HD5d HG5 HG56
  obtain ⟨Y, eY⟩ : ∃ Y, Y = w6.heap.size := ⟨_, rfl⟩
  obtain ⟨w7, ew7⟩ : ∃ w7 : World, w7 = w6.alloc (.cells #[.int .i64 R, .int .i64 P] 26) := ⟨_, rfl⟩
  have HWw7 : Hid (w6.alloc (.cells #[.int .i64 R, .int .i64 P] 26) = w7) := ew7.symm
  have HAw7 : Hid (Below w6.heap.size w6 w7) := (show Hid _ from by rw [ew7]; exact (Below.refl _ w6).alloc (Nat.le_refl _) _)
  have HY0w7 : Hid (w7.heap[Y]? = some (.cells #[.int .i64 R, .int .i64 P] 26 (0, 0))) := (show Hid _ from by show _ = _; rw [ew7, eY]; exact heap_alloc_new w6 _)
  have HXY : Hid (∀ W, Below w7.heap.size w7 W → W.cell? ⟨Y, 0, none⟩ = some (.int .i64 R) ∧ W.cell? ⟨Y, 1, none⟩ = some (.int .i64 P)) := (show Hid _ from fun W hg => by
    have hY0 := (hg.block Y (heap_of_cells HY0w7.out)).trans HY0w7.out
    exact ⟨cell_of_row W Y 0 _ _ _ hY0, cell_of_row W Y 1 _ _ _ hY0⟩)
  have hz67 : w6.heap.size ≤ w7.heap.size := HAw7.out.size
  have HB7 : Hid (∀ W, Below w7.heap.size w7 W → Below w6.heap.size w6 W) := (show Hid _ from fun W hW => HAw7.out.trans (hW.mono hz67))
  have HBW : Hid (∀ W, Below w7.heap.size w7 W → Below w.heap.size w W) := (show Hid _ from fun W hW => HBw6.out.trans ((HB7.out W hW).mono HBw6.out.size))
  have hg7 : g < w7.heap.size := by omega
  go_upto_region 9 with fail
  rw [HWw7.out, ← eY]
  clear ew7 eY
  clear f0 x6
  go_wp2_with fail
  go_loopw [70] (fun iv wr => Ix 2 w7 iv wr) (fun iv _ => 2 - (intOf iv).toNat)
  case atStart => exact ⟨0, Nat.zero_le _, rfl, Below.refl _ _⟩
  case round =>
    obtain ⟨j, hj, rfl, hbr⟩ := hrel
    have HBR := Lib.hid hbr
    have hzr : w7.heap.size ≤ wr.heap.size := hbr.size
    clear hbr
    by_cases hlj : j < 2
    · have dj : decide ((j : Int) < 2) = true := decide_eq_true (by omega)
      have djn : decide (j < 2) = true := decide_eq_true hlj
      obtain ⟨X, hX, hcx⟩ : ∃ X, i64r X ∧ wr.cell? ⟨Y, j, none⟩ = some (.int .i64 X) := by
        have h1 := HXY.out wr HBR.out
        rcases (by omega : j = 0 ∨ j = 1) with rfl | rfl
        · exact ⟨R, hR, h1.1⟩
        · exact ⟨P, hPi, h1.2⟩
      obtain ⟨Z, eZ⟩ : ∃ Z, Z = wr.heap.size := ⟨_, rfl⟩
      obtain ⟨wx, ewx⟩ : ∃ wx : World, wx = wr.alloc (.cells #[.int .i64 X] 26) := ⟨_, rfl⟩
      have HWwx : Hid (wr.alloc (.cells #[.int .i64 X] 26) = wx) := ewx.symm
      have HAwx : Hid (Below wr.heap.size wr wx) := (show Hid _ from by rw [ewx]; exact (Below.refl _ wr).alloc (Nat.le_refl _) _)
      have HZ0wx : Hid (wx.heap[Z]? = some (.cells #[.int .i64 X] 26 (0, 0))) := (show Hid _ from by show _ = _; rw [ewx, eZ]; exact heap_alloc_new wr _)
      have HXZ : Hid (∀ W, Below wx.heap.size wx W → W.cell? ⟨Z, 0, none⟩ = some (.int .i64 X)) := (show Hid _ from fun W hg => by
        have hZ0 := (hg.block Z (heap_of_cells HZ0wx.out)).trans HZ0wx.out
        exact (cell_of_row W Z 0 _ _ _ hZ0))
      have hzx : w7.heap.size ≤ wx.heap.size := Nat.le_trans hzr HAwx.out.size
      have HBx : Hid (∀ W, Below wx.heap.size wx W → Below w7.heap.size w7 W) := (show Hid _ from fun W hW => (HBR.out.trans (HAwx.out.mono hzr)).trans (hW.mono hzx))
      go_upto_region 11 with fail
      rw [HWwx.out, ← eZ]
      clear ewx eZ
      clear hcx
      obtain ⟨V, eV⟩ : ∃ V, V = wx.heap.size := ⟨_, rfl⟩
      obtain ⟨wy, ewy⟩ : ∃ wy : World, wy = wx.alloc (.cells #[.slice Ac nC cc, .slice Al n cl] 27) := ⟨_, rfl⟩
      have HWwy : Hid (wx.alloc (.cells #[.slice Ac nC cc, .slice Al n cl] 27) = wy) := ewy.symm
      have HAwy : Hid (Below wx.heap.size wx wy) := (show Hid _ from by rw [ewy]; exact (Below.refl _ wx).alloc (Nat.le_refl _) _)
      have HV0wy : Hid (wy.heap[V]? = some (.cells #[.slice Ac nC cc, .slice Al n cl] 27 (0, 0))) := (show Hid _ from by show _ = _; rw [ewy, eV]; exact heap_alloc_new wx _)
      have HXV : Hid (∀ W, Below wy.heap.size wy W → W.cell? ⟨V, 0, none⟩ = some (.slice Ac nC cc) ∧ W.cell? ⟨V, 1, none⟩ = some (.slice Al n cl)) := (show Hid _ from fun W hg => by
        have hV0 := (hg.block V (heap_of_cells HV0wy.out)).trans HV0wy.out
        exact ⟨cell_of_row W V 0 _ _ _ hV0, cell_of_row W V 1 _ _ _ hV0⟩)
      have hzy : wx.heap.size ≤ wy.heap.size := HAwy.out.size
      have HBy : Hid (∀ W, Below wy.heap.size wy W → Below wx.heap.size wx W) := (show Hid _ from fun W hW => HAwy.out.trans (hW.mono hzy))
      go_upto_region 12 with fail
      rw [HWwy.out, ← eV]
      clear ewy eV
      go_wp2_with fail
      go_loopw [78] (fun iv wr => Ix 2 wy iv wr) (fun iv _ => 2 - (intOf iv).toNat)
      case atStart => exact ⟨0, Nat.zero_le _, rfl, Below.refl _ _⟩
      case round =>
        obtain ⟨j2, hj2, rfl, hbr2⟩ := hrel
        have HBR2 := Lib.hid hbr2
        have hzr2 : wy.heap.size ≤ wr.heap.size := hbr2.size
        clear hbr2
        by_cases hlj2 : j2 < 2
        · have dj2 : decide ((j2 : Int) < 2) = true := decide_eq_true (by omega)
          have dj2n : decide (j2 < 2) = true := decide_eq_true hlj2
          obtain ⟨AA, nn, ca, LL, hln, hll, hscl, hcv⟩ : ∃ AA nn ca LL, nn = LL.length ∧ Hid (LL.length ≤ 40) ∧ Hid (SCl w7 (.slice AA nn ca) LL) ∧ wr.cell? ⟨V, j2, none⟩ = some (.slice AA nn ca) := by
            have h1 := HXV.out wr HBR2.out
            rcases (by omega : j2 = 0 ∨ j2 = 1) with rfl | rfl
            · exact ⟨Ac, nC, cc, C, HNC.out, (show Hid _ from by have := HNC.out; show C.length ≤ 40; omega), HC6.out.below HAw7.out, h1.1⟩
            · exact ⟨Al, n, cl, L, HN.out, (show Hid _ from by have := HN.out; show L.length ≤ 40; omega), HL6.out.below HAw7.out, h1.2⟩
          have HLN := Lib.hid hln
          have HSCW : Hid (∀ W, Below w7.heap.size w7 W → SCl W (.slice AA nn ca) LL) := (show Hid _ from fun W hW => hscl.out.below hW)
          have HLZ : Hid (LL.length ≤ 1000000) := (show Hid _ from Nat.le_trans hll.out (by omega))
          clear hln hscl
          go_wp2_with fail
          (with_reducible refine (mod_any k 4 wr (by omega) (by omega)).mono ?_)
          rintro e w' ⟨rfl, hw⟩
          subst hw
          go_wp2_with fail
          (with_reducible refine (mod_any ag 9 wr (by omega) (by omega)).mono ?_)
          rintro e w' ⟨rfl, hw⟩
          subst hw
          obtain ⟨k4, ek4⟩ : ∃ k4, k4 = k % 4 := ⟨_, rfl⟩
          obtain ⟨a9, ea9⟩ : ∃ a9, a9 = ag % 9 := ⟨_, rfl⟩
          rw [← ek4, ← ea9]
          clear ek4 ea9 hcv
          obtain ⟨U, eU⟩ : ∃ U, U = wr.heap.size := ⟨_, rfl⟩
          obtain ⟨wz, ewz⟩ : ∃ wz : World, wz = wr.alloc (.cells #[.int .i64 k, .int .i64 ag, .int .i64 k4, .int .i64 a9] 55) := ⟨_, rfl⟩
          have HWwz : Hid (wr.alloc (.cells #[.int .i64 k, .int .i64 ag, .int .i64 k4, .int .i64 a9] 55) = wz) := ewz.symm
          have HAwz : Hid (Below wr.heap.size wr wz) := (show Hid _ from by rw [ewz]; exact (Below.refl _ wr).alloc (Nat.le_refl _) _)
          have HU0wz : Hid (wz.heap[U]? = some (.cells #[.int .i64 k, .int .i64 ag, .int .i64 k4, .int .i64 a9] 55 (0, 0))) := (show Hid _ from by show _ = _; rw [ewz, eU]; exact heap_alloc_new wr _)
          have HXU : Hid (∀ W, Below wz.heap.size wz W → W.cell? ⟨U, 0, none⟩ = some (.int .i64 k) ∧ W.cell? ⟨U, 1, none⟩ = some (.int .i64 ag) ∧ W.cell? ⟨U, 2, none⟩ = some (.int .i64 k4) ∧ W.cell? ⟨U, 3, none⟩ = some (.int .i64 a9)) := (show Hid _ from fun W hg => by
            have hU0 := (hg.block U (heap_of_cells HU0wz.out)).trans HU0wz.out
            exact ⟨cell_of_row W U 0 _ _ _ hU0, cell_of_row W U 1 _ _ _ hU0, cell_of_row W U 2 _ _ _ hU0, cell_of_row W U 3 _ _ _ hU0⟩)
          have hzz : wy.heap.size ≤ wz.heap.size := Nat.le_trans hzr2 HAwz.out.size
          have HBz : Hid (∀ W, Below wz.heap.size wz W → Below wy.heap.size wy W) := (show Hid _ from fun W hW => (HBR2.out.trans (HAwz.out.mono hzr2)).trans (hW.mono hzz))
          go_upto_region 15 with fail
          rw [HWwz.out, ← eU]
          clear ewz eU
          go_wp2_with fail
          go_loopw [92] (fun iv wr => Ix 2 wz iv wr) (fun iv _ => 2 - (intOf iv).toNat)
          case atStart => exact ⟨0, Nat.zero_le _, rfl, Below.refl _ _⟩
          case round =>
            obtain ⟨j3, hj3, rfl, hbr3⟩ := hrel
            have HBR3 := Lib.hid hbr3
            have hzr3 : wz.heap.size ≤ wr.heap.size := hbr3.size
            clear hbr3
            by_cases hlj3 : j3 < 2
            · have dj3 : decide ((j3 : Int) < 2) = true := decide_eq_true (by omega)
              have dj3n : decide (j3 < 2) = true := decide_eq_true hlj3
              obtain ⟨a, b, hca, hcb⟩ : ∃ a b, wr.cell? ⟨U, j3 * 2, none⟩ = some (.int .i64 a) ∧ wr.cell? ⟨U, j3 * 2 + 1, none⟩ = some (.int .i64 b) := by
                have h1 := HXU.out wr HBR3.out
                rcases (by omega : j3 = 0 ∨ j3 = 1) with rfl | rfl
                · exact ⟨k, ag, h1.1, h1.2.1⟩
                · exact ⟨k4, a9, h1.2.2.1, h1.2.2.2⟩
              obtain ⟨T, eT⟩ : ∃ T, T = wr.heap.size := ⟨_, rfl⟩
              obtain ⟨wt, ewt⟩ : ∃ wt : World, wt = wr.alloc (.cells #[.int .i64 a, .int .i64 b] 55) := ⟨_, rfl⟩
              have HWwt : Hid (wr.alloc (.cells #[.int .i64 a, .int .i64 b] 55) = wt) := ewt.symm
              have HAwt : Hid (Below wr.heap.size wr wt) := (show Hid _ from by rw [ewt]; exact (Below.refl _ wr).alloc (Nat.le_refl _) _)
              have HT0wt : Hid (wt.heap[T]? = some (.cells #[.int .i64 a, .int .i64 b] 55 (0, 0))) := (show Hid _ from by show _ = _; rw [ewt, eT]; exact heap_alloc_new wr _)
              have HXT : Hid (∀ W, Below wt.heap.size wt W → W.cell? ⟨T, 0, none⟩ = some (.int .i64 a) ∧ W.cell? ⟨T, 1, none⟩ = some (.int .i64 b)) := (show Hid _ from fun W hg => by
                have hT0 := (hg.block T (heap_of_cells HT0wt.out)).trans HT0wt.out
                exact ⟨cell_of_row W T 0 _ _ _ hT0, cell_of_row W T 1 _ _ _ hT0⟩)
              have hzt : wz.heap.size ≤ wt.heap.size := Nat.le_trans hzr3 HAwt.out.size
              have HBt : Hid (∀ W, Below wt.heap.size wt W → Below wz.heap.size wz W) := (show Hid _ from fun W hW => (HBR3.out.trans (HAwt.out.mono hzr3)).trans (hW.mono hzt))
              have HZt : Hid (∀ W, Below wt.heap.size wt W → W.cell? ⟨Z, 0, none⟩ = some (.int .i64 X)) := (show Hid _ from fun W hW => HXZ.out W (HBy.out _ (HBz.out _ (HBt.out _ hW))))
              have HSt : Hid (∀ W, Below wt.heap.size wt W → SCl W (.slice AA nn ca) LL) := (show Hid _ from fun W hW => HSCW.out W (HBx.out _ (HBy.out _ (HBz.out _ (HBt.out _ hW)))))
              have hgt : g < wt.heap.size := by omega
              go_upto_region 17 with fail
              rw [HWwt.out, ← eT]
              clear ewt eT
              obtain ⟨y0, y1⟩ := HXT.out wt (Below.refl _ _)
              have z0 := HZt.out wt (Below.refl _ _)
              clear hca hcb
              go_wp2_with fail
              (with_reducible refine (decodes_any X LL a b _ wt hX (HSt.out _ (Below.refl _ _)) HLZ.out).mono ?_)
              rintro e w8 ⟨v8, rs, rfl, hsle, hasc, hmem, hb8⟩
              obtain rfl := dec_same hasc hmem
              have HS8 := Lib.hid (hsle g hgt)
              have HB8 : Hid (Below wt.heap.size wt w8) := (show Hid _ from hb8)
              have hz8 : wt.heap.size ≤ w8.heap.size := hb8.size
              clear hsle hasc hmem hb8 y0 y1 z0
              obtain ⟨y0, y1⟩ := HXT.out w8 HB8.out
              have z0 := HZt.out w8 HB8.out
              go_wp2_with fail
              (with_reducible refine (rdecode_any X LL a b g _ w8 hX (HSt.out _ HB8.out) HLZ.out (by omega)).mono ?_)
              rintro e w9 ⟨v9, rfl, hs9, hb9⟩
              rw [rdE_eq]
              obtain ⟨RL, eRL⟩ : ∃ RL, RL = rdL X LL a b := ⟨_, rfl⟩
              rw [← eRL] at HS8 hs9
              obtain ⟨E1, eE1⟩ : ∃ E1, E1 = deE X LL a b := ⟨_, rfl⟩
              rw [← eE1]
              have HS89 := Lib.hid (HS8.out.below hb9)
              have HS9 := Lib.hid hs9
              have HB9 : Hid (Below wt.heap.size wt w9) := (show Hid _ from HB8.out.trans (hb9.mono hz8))
              have hz9 : wt.heap.size ≤ w9.heap.size := HB9.out.size
              have hE1 : (E1 != E1) = false := by simp
              clear hs9 hb9 eRL eE1 y0 y1 z0
              go_wp2_with fail
              (with_reducible refine (sameRows_any RL RL _ _ w9 HS89.out.sl HS9.out.sl).mono ?_)
              rintro e w10 ⟨rfl, hb10⟩
              have HB10 : Hid (Below wt.heap.size wt w10) := (show Hid _ from HB9.out.trans (hb10.mono hz9))
              have hz10 : wt.heap.size ≤ w10.heap.size := HB10.out.size
              have dsr : decide (RL = RL) = true := decide_eq_true rfl
              rw [dsr]
              clear hb10 dsr hE1 HS8 HS89 HS9
              obtain ⟨y0, y1⟩ := HXT.out w10 HB10.out
              have z0 := HZt.out w10 HB10.out
              go_wp2_with fail
              (with_reducible refine (nearests_any X LL a _ w10 hX (HSt.out _ HB10.out) HLZ.out).mono ?_)
              rintro e w11 ⟨v11, rs, rfl, hsle, hasc, hmem, hb11⟩
              obtain ⟨hnl, hnm⟩ := near_same hasc hmem
              subst hnl
              rw [hnm]
              have HS11 := Lib.hid (hsle g (by omega))
              have HB11 : Hid (Below wt.heap.size wt w11) := (show Hid _ from HB10.out.trans (hb11.mono hz10))
              have hz11 : wt.heap.size ≤ w11.heap.size := HB11.out.size
              clear hsle hasc hmem hb11 y0 y1 z0 hnm
              obtain ⟨y0, y1⟩ := HXT.out w11 HB11.out
              have z0 := HZt.out w11 HB11.out
              go_wp2_with fail
              (with_reducible refine (rnear_any X LL a g _ w11 hX (HSt.out _ HB11.out) HLZ.out (by omega)).mono ?_)
              rintro e w12 ⟨v12, rfl, hs12, hb12⟩
              rw [rnE_eq]
              obtain ⟨RN, eRN⟩ : ∃ RN, RN = rnL X LL a := ⟨_, rfl⟩
              rw [← eRN] at HS11 hs12
              obtain ⟨E2, eE2⟩ : ∃ E2, E2 = neE X LL a := ⟨_, rfl⟩
              obtain ⟨M2, eM2⟩ : ∃ M2, M2 = rnM X LL a := ⟨_, rfl⟩
              rw [← eE2, ← eM2]
              have HS112 := Lib.hid (HS11.out.below hb12)
              have HS12 := Lib.hid hs12
              have HB12' : Hid (Below wt.heap.size wt w12) := (show Hid _ from HB11.out.trans (hb12.mono hz11))
              have hz12 : wt.heap.size ≤ w12.heap.size := HB12'.out.size
              have hE2 : (E2 != E2) = false := by simp
              have hM2 : (M2 != M2) = false := by simp
              clear hs12 hb12 eRN eE2 eM2 y0 y1 z0
              go_wp2_with fail
              (with_reducible refine (sameRows_any RN RN _ _ w12 HS112.out.sl HS12.out.sl).mono ?_)
              rintro e w13 ⟨rfl, hb13⟩
              have HB13 : Hid (Below wt.heap.size wt w13) := (show Hid _ from HB12'.out.trans (hb13.mono hz12))
              have dsr : decide (RN = RN) = true := decide_eq_true rfl
              rw [dsr]
              clear hb13 dsr hE2 hM2
              go_wp2_with fail
              go_roundw
              case rel => exact ⟨j3 + 1, by omega, by go_num, HBt.out _ HB13.out⟩
              case measure => simp [intOf]; omega
            · have dj3 : decide ((j3 : Int) < 2) = false := decide_eq_false (by omega)
              have dj3n : decide (j3 < 2) = false := decide_eq_false hlj3
              obtain ⟨M, eM⟩ : ∃ M, M = wr.heap.size := ⟨_, rfl⟩
              obtain ⟨wl, ewl⟩ : ∃ wl : World, wl = ((((wr.alloc (.cells #[.slice Ap nP cp] 22)).alloc (.cells #[.slice Aq nQ cq] 22)).alloc (.cells #[.slice Aq nQ cq, .slice Aq nQ cq] 22)).alloc (.cells #[.slice Aq nQ cq, .slice Ap nP cp] 22)).alloc (.cells #[.slice (some ⟨wr.heap.size, 0, none⟩) 1 1, .slice (some ⟨wr.heap.size + 1, 0, none⟩) 1 1, .slice (some ⟨wr.heap.size + 2, 0, none⟩) 2 2, .slice none 0 0, .slice (some ⟨wr.heap.size + 3, 0, none⟩) 2 2] 34) := ⟨_, rfl⟩
              have HWwl : Hid (((((wr.alloc (.cells #[.slice Ap nP cp] 22)).alloc (.cells #[.slice Aq nQ cq] 22)).alloc (.cells #[.slice Aq nQ cq, .slice Aq nQ cq] 22)).alloc (.cells #[.slice Aq nQ cq, .slice Ap nP cp] 22)).alloc (.cells #[.slice (some ⟨wr.heap.size, 0, none⟩) 1 1, .slice (some ⟨wr.heap.size + 1, 0, none⟩) 1 1, .slice (some ⟨wr.heap.size + 2, 0, none⟩) 2 2, .slice none 0 0, .slice (some ⟨wr.heap.size + 3, 0, none⟩) 2 2] 34) = wl) := ewl.symm
              have HAwl : Hid (Below wr.heap.size wr wl) := (show Hid _ from by rw [ewl]; exact (((((Below.refl _ wr).alloc (Nat.le_refl _) _).alloc (by simp) _).alloc (by simp; omega) _).alloc (by simp; omega) _).alloc (by simp; omega) _)
              have HM0wl : Hid (wl.heap[M]? = some (.cells #[.slice Ap nP cp] 22 (0, 0))) := (show Hid _ from by show _ = _; rw [ewl, eM, Below.heap_alloc _ _ _ (by simp; try omega), Below.heap_alloc _ _ _ (by simp; try omega), Below.heap_alloc _ _ _ (by simp; try omega), Below.heap_alloc _ _ _ (by simp)]; exact heap_alloc_new wr _)
              have HM1wl : Hid (wl.heap[M + 1]? = some (.cells #[.slice Aq nQ cq] 22 (0, 0))) := (show Hid _ from by show _ = _; rw [ewl, eM, Below.heap_alloc _ _ _ (by simp; try omega), Below.heap_alloc _ _ _ (by simp; try omega), Below.heap_alloc _ _ _ (by simp; try omega)]; have := heap_alloc_new (wr.alloc (.cells #[.slice Ap nP cp] 22)) (.cells #[.slice Aq nQ cq] 22); simpa using this)
              have HM2wl : Hid (wl.heap[M + 2]? = some (.cells #[.slice Aq nQ cq, .slice Aq nQ cq] 22 (0, 0))) := (show Hid _ from by show _ = _; rw [ewl, eM, Below.heap_alloc _ _ _ (by simp; try omega), Below.heap_alloc _ _ _ (by simp; try omega)]; have := heap_alloc_new ((wr.alloc (.cells #[.slice Ap nP cp] 22)).alloc (.cells #[.slice Aq nQ cq] 22)) (.cells #[.slice Aq nQ cq, .slice Aq nQ cq] 22); simpa using this)
              have HM3wl : Hid (wl.heap[M + 3]? = some (.cells #[.slice Aq nQ cq, .slice Ap nP cp] 22 (0, 0))) := (show Hid _ from by show _ = _; rw [ewl, eM, Below.heap_alloc _ _ _ (by simp; try omega)]; have := heap_alloc_new (((wr.alloc (.cells #[.slice Ap nP cp] 22)).alloc (.cells #[.slice Aq nQ cq] 22)).alloc (.cells #[.slice Aq nQ cq, .slice Aq nQ cq] 22)) (.cells #[.slice Aq nQ cq, .slice Ap nP cp] 22); simpa using this)
              have HM4wl : Hid (wl.heap[M + 4]? = some (.cells #[.slice (some ⟨wr.heap.size, 0, none⟩) 1 1, .slice (some ⟨wr.heap.size + 1, 0, none⟩) 1 1, .slice (some ⟨wr.heap.size + 2, 0, none⟩) 2 2, .slice none 0 0, .slice (some ⟨wr.heap.size + 3, 0, none⟩) 2 2] 34 (0, 0))) := (show Hid _ from by show _ = _; rw [ewl, eM]; have := heap_alloc_new ((((wr.alloc (.cells #[.slice Ap nP cp] 22)).alloc (.cells #[.slice Aq nQ cq] 22)).alloc (.cells #[.slice Aq nQ cq, .slice Aq nQ cq] 22)).alloc (.cells #[.slice Aq nQ cq, .slice Ap nP cp] 22)) (.cells #[.slice (some ⟨wr.heap.size, 0, none⟩) 1 1, .slice (some ⟨wr.heap.size + 1, 0, none⟩) 1 1, .slice (some ⟨wr.heap.size + 2, 0, none⟩) 2 2, .slice none 0 0, .slice (some ⟨wr.heap.size + 3, 0, none⟩) 2 2] 34); simpa using this)
              have HXM : Hid (∀ W, Below wl.heap.size wl W → W.cell? ⟨M, 0, none⟩ = some (.slice Ap nP cp) ∧ W.cell? ⟨M + 1, 0, none⟩ = some (.slice Aq nQ cq) ∧ W.cell? ⟨M + 2, 0, none⟩ = some (.slice Aq nQ cq) ∧ W.cell? ⟨M + 2, 1, none⟩ = some (.slice Aq nQ cq) ∧ W.cell? ⟨M + 3, 0, none⟩ = some (.slice Aq nQ cq) ∧ W.cell? ⟨M + 3, 1, none⟩ = some (.slice Ap nP cp) ∧ W.cell? ⟨M + 4, 0, none⟩ = some (.slice (some ⟨wr.heap.size, 0, none⟩) 1 1) ∧ W.cell? ⟨M + 4, 1, none⟩ = some (.slice (some ⟨wr.heap.size + 1, 0, none⟩) 1 1) ∧ W.cell? ⟨M + 4, 2, none⟩ = some (.slice (some ⟨wr.heap.size + 2, 0, none⟩) 2 2) ∧ W.cell? ⟨M + 4, 3, none⟩ = some (.slice none 0 0) ∧ W.cell? ⟨M + 4, 4, none⟩ = some (.slice (some ⟨wr.heap.size + 3, 0, none⟩) 2 2)) := (show Hid _ from fun W hg => by
                have hM0 := (hg.block M (heap_of_cells HM0wl.out)).trans HM0wl.out
                have hM1 := (hg.block (M + 1) (heap_of_cells HM1wl.out)).trans HM1wl.out
                have hM2 := (hg.block (M + 2) (heap_of_cells HM2wl.out)).trans HM2wl.out
                have hM3 := (hg.block (M + 3) (heap_of_cells HM3wl.out)).trans HM3wl.out
                have hM4 := (hg.block (M + 4) (heap_of_cells HM4wl.out)).trans HM4wl.out
                exact ⟨cell_of_row W M 0 _ _ _ hM0, cell_of_row W (M + 1) 0 _ _ _ hM1, cell_of_row W (M + 2) 0 _ _ _ hM2, cell_of_row W (M + 2) 1 _ _ _ hM2, cell_of_row W (M + 3) 0 _ _ _ hM3, cell_of_row W (M + 3) 1 _ _ _ hM3, cell_of_row W (M + 4) 0 _ _ _ hM4, cell_of_row W (M + 4) 1 _ _ _ hM4, cell_of_row W (M + 4) 2 _ _ _ hM4, cell_of_row W (M + 4) 3 _ _ _ hM4, cell_of_row W (M + 4) 4 _ _ _ hM4⟩)
              have hzl : wz.heap.size ≤ wl.heap.size := Nat.le_trans HBR3.out.size HAwl.out.size
              have HBl : Hid (∀ W, Below wl.heap.size wl W → Below wz.heap.size wz W) := (show Hid _ from fun W hW => (HBR3.out.trans (HAwl.out.mono HBR3.out.size)).trans (hW.mono hzl))
              have HpL : p.length ≤ 1000000 := by have := HNP.out; omega
              have HqL : q.length ≤ 1000000 := by have := HNQ.out; omega
              have HM5 : Hid (M + 5 = wl.heap.size) := (show Hid _ from by show _ = _; rw [ewl, eM]; simp)
              have HMM := Lib.hid eM
              have HSP : Hid (∀ W, Below wl.heap.size wl W → SI W (.slice Ap nP cp) p ∧ SI W (.slice Aq nQ cq) q ∧ SCl W (.slice AA nn ca) LL ∧ W.cell? ⟨Z, 0, none⟩ = some (.int .i64 X)) := (show Hid _ from fun W hW => by
                have h1 := HBy.out _ (HBz.out _ (HBl.out _ hW))
                have h2 := HBx.out _ h1
                exact ⟨HP6.out.below (HB7.out _ h2), HQ.out.below (HB7.out _ h2), HSCW.out W h2, HXZ.out W h1⟩)
              go_upto_region 27 with fail
              rw [HWwl.out, ← eM]
              clear ewl eM
              go_wp2_with fail
              have HSLW := Lib.hid (lits5 HNP.out HNQ.out HpL HqL HM5.out (fun W hW => by
                have h1 := HXM.out W hW
                rw [← HMM.out] at h1
                exact h1) (fun W hW => ⟨(HSP.out W hW).1, (HSP.out W hW).2.1⟩))
              clear HXM HM5 HMM
              go_loopw [170] (fun iv wr => Ix 5 wl iv wr) (fun iv _ => 5 - (intOf iv).toNat)
              case atStart => exact ⟨0, Nat.zero_le _, rfl, Below.refl _ _⟩
              case round =>
                obtain ⟨y, hy, rfl, hbr4⟩ := hrel
                have HBR4 := Lib.hid hbr4
                have hzr4 : wl.heap.size ≤ wr.heap.size := hbr4.size
                clear hbr4
                by_cases hly : y < 5
                · have dy : decide ((y : Int) < 5) = true := decide_eq_true (by omega)
                  have dyn : decide (y < 5) = true := decide_eq_true hly
                  obtain ⟨Am, nm, cm, ps, HNM, HSM, HPM⟩ := HSLW.out y hly
                  have hcm := (HSM.out wr HBR4.out).2
                  obtain ⟨_, _, HSt, z0⟩ := HSP.out wr HBR4.out
                  replace HSt := Lib.hid HSt
                  go_wp2_with fail
                  (with_reducible refine (common_any X LL ps _ _ wr hX HSt.out HLZ.out (HSM.out wr HBR4.out).1 HPM.out).mono ?_)
                  rintro e w15 ⟨v15, rfl, hown15, hb15⟩
                  have HB15 : Hid (Below wl.heap.size wl w15) := (show Hid _ from HBR4.out.trans (hb15.mono hzr4))
                  have hz15 : wl.heap.size ≤ w15.heap.size := HB15.out.size
                  obtain ⟨A15, c15, ev15⟩ := own_slice hown15
                  subst ev15
                  have HO15 := Lib.hid hown15
                  clear hown15 hb15 hcm z0 HSt
                  obtain ⟨_, _, HSt, z0⟩ := HSP.out w15 HB15.out
                  replace HSt := Lib.hid HSt
                  go_wp2_with fail
                  (with_reducible refine (rcommon_any X LL ps _ _ w15 hX HSt.out HLZ.out (HSM.out w15 HB15.out).1 HPM.out).mono ?_)
                  rintro e w16 ⟨v16, rfl, hown16, hb16⟩
                  have HB16 : Hid (Below wl.heap.size wl w16) := (show Hid _ from HB15.out.trans (hb16.mono hz15))
                  have hz16 : wl.heap.size ≤ w16.heap.size := HB16.out.size
                  have HSI1 : Hid (SI w16 (.slice A15 (comV X LL ps).length c15) (comV X LL ps)) := (show Hid _ from (SI.of_own HO15.out (comV_r X LL ps HLZ.out)).below hb16)
                  have HSI2 : Hid (SI w16 v16 (comV X LL ps)) := (show Hid _ from SI.of_own hown16 (comV_r X LL ps HLZ.out))
                  obtain ⟨CV, eCV⟩ : ∃ CV, CV = comV X LL ps := ⟨_, rfl⟩
                  rw [← eCV] at HSI1 HSI2
                  have HCV := Lib.hid eCV
                  obtain ⟨E3, eE3⟩ : ∃ E3, E3 = comE X LL ps := ⟨_, rfl⟩
                  rw [← eE3]
                  have hE3 : (E3 != E3) = false := by simp
                  rw [← eCV]
                  clear hown16 hb16 eCV eE3 HO15 z0 HSt
                  go_wp2_with fail
                  (with_reducible refine (same4_any CV CV _ _ w16 HSI1.out HSI2.out).mono ?_)
                  rintro e w17 ⟨rfl, hb17⟩
                  have HB17 : Hid (Below wl.heap.size wl w17) := (show Hid _ from HB16.out.trans (hb17.mono hz16))
                  have dsr : decide (CV = CV) = true := decide_eq_true rfl
                  rw [dsr]
                  clear hb17 dsr hE3
                  go_wp2_with fail
                  go_roundw
                  case rel => exact ⟨y + 1, by omega, by go_num, HB17.out⟩
                  case measure => simp [intOf]; omega
                · have dy : decide ((y : Int) < 5) = false := decide_eq_false (by omega)
                  have dyn : decide (y < 5) = false := decide_eq_false hly
                  go_wp2_with fail
                  go_roundw
                  case rel => exact ⟨j2 + 1, by omega, by go_num, HBz.out _ (HBl.out _ HBR4.out)⟩
                  case measure => simp [intOf]; omega
        · have dj2 : decide ((j2 : Int) < 2) = false := decide_eq_false (by omega)
          have dj2n : decide (j2 < 2) = false := decide_eq_false hlj2
          go_wp2_with fail
          go_roundw
          case rel => exact ⟨j + 1, by omega, by go_num, HBx.out _ (HBy.out _ HBR2.out)⟩
          case measure => simp [intOf]; omega
    · have dj : decide ((j : Int) < 2) = false := decide_eq_false (by omega)
      have djn : decide (j < 2) = false := decide_eq_false hlj
      have HP7 : Hid (SI wr (.slice Ap nP cp) p) := (show Hid _ from HP6.out.below (HB7.out _ HBR.out))
      have HQ7 : Hid (SI wr (.slice Aq nQ cq) q) := (show Hid _ from HQ.out.below (HB7.out _ HBR.out))
      have HpL : Hid (p.length ≤ 1000000) := (show Hid _ from by have := HNP.out; show p.length ≤ 1000000; omega)
      have HqL : Hid (q.length ≤ 1000000) := (show Hid _ from by have := HNQ.out; show q.length ≤ 1000000; omega)
      have HE : Hid (Below w.heap.size w wr) := (show Hid _ from HBW.out _ HBR.out)
      go_wp2_with fail
      (with_reducible refine (less_any p q _ _ _ HP7.out HQ7.out HpL.out HqL.out).mono ?_)
      rintro e w' ⟨rfl, hw⟩
      subst hw
      obtain ⟨d1, e1⟩ : ∃ d1, d1 = decide (cmpV p q < 0) := ⟨_, rfl⟩
      have HE1 := Lib.hid e1
      rw [← e1]
      clear e1
      go_wp2_with fail
      (with_reducible refine (less10_any p q _ _ _ HP7.out HQ7.out HpL.out HqL.out).mono ?_)
      rintro e w' ⟨rfl, hw⟩
      subst hw
      rw [← HE1.out]
      have hd1 : (d1 == d1) = true := by cases d1 <;> rfl
      go_wp2_with fail
      (with_reducible refine (less_any q p _ _ _ HQ7.out HP7.out HqL.out HpL.out).mono ?_)
      rintro e w' ⟨rfl, hw⟩
      subst hw
      obtain ⟨d2, e2⟩ : ∃ d2, d2 = decide (cmpV q p < 0) := ⟨_, rfl⟩
      have HE2 := Lib.hid e2
      rw [← e2]
      clear e2
      go_wp2_with fail
      (with_reducible refine (less10_any q p _ _ _ HQ7.out HP7.out HqL.out HpL.out).mono ?_)
      rintro e w' ⟨rfl, hw⟩
      subst hw
      rw [← HE2.out]
      have hd2 : (d2 == d2) = true := by cases d2 <;> rfl
      go_wp2_with fail
      go_ret
      exact ⟨by simp, HE.out⟩
end Go.Proofs.Ytbgabipngdillaa
