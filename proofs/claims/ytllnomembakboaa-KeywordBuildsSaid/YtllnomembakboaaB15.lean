/- Joined: Nj. -/
import Derived.Lib.SliceRun
import Derived.Test.YtllnomembakboaaB07
import Derived.Test.YtllnomembakboaaB10
namespace Go.Proofs.Ytllnomembakboaa
open Go.RowKit

set_option maxRecDepth 100000 in
/-- slices.Clone of ints -/
theorem clone_any (l : List Int) (v : Value) (w : World) (h : SI w v l) (hl : l.length ≤ 1000000) :
    Calls Try.prog 79 #[v] w fun e w' => ∃ v', e = .returned v' ∧ w'.ownsRow w.heap.size 3 1 v' l.length (l.map (Value.int .i64)) ∧ Below w.heap.size w w' := by
  have HS := Lib.hid h
  obtain ⟨A, c, rfl, _⟩ := id h
  clear h
  rcases A with _ | a
  · have hl0 : l = [] := by
      rcases Nat.eq_zero_or_pos l.length with h | h
      · exact List.eq_nil_of_length_eq_zero h
      · obtain ⟨b, off, e, _⟩ := SB.cells HS.out h; cases e
    subst hl0
    have hn := Lib.run_eql_slice_nil (P := Try.prog) w 22 3 none 0 c 0 0 Try.underlying22
    go_enter Try.func79, Try.ntmps79
    go_wp2_with fail
    go_ret
    exact ⟨_, rfl, by simpa using World.ownsRow_nil w w.heap.size 3 1, Below.refl _ _⟩
  · have hn := Lib.run_eql_slice_nil (P := Try.prog) w 22 3 (some a) l.length c 0 0 Try.underlying22
    go_enter Try.func79, Try.ntmps79
    have hO : Hid ((w.alloc (.cells #[] 3)).ownsRow w.heap.size 3 1 (.slice (some ⟨w.heap.size, 0, none⟩) 0 0) 0 []) := own_lit (base := w.heap.size) w 3 [] (Nat.le_refl _) (by simp)
    have HSB : Hid (SB w.heap.size (w.alloc (.cells #[] 3)) (.slice (some a) l.length c) l) := SB.below HS.out ((Below.refl _ w).alloc (Nat.le_refl _) _)
    go_wp2_with (at_builtin; refine wpList_append_ints _ rfl _ _ 22 rfl w.heap.size 3 Try.underlying22 iinfo _ [] rfl hO.out w.heap.size _ l rfl HSB.out (by simp; omega) (by simp) ?_; intro v2 w2 hown2 hg2; have HO2 := Lib.hid hown2; have HG2 := Lib.hid hg2; clear hown2 hg2)
    go_ret
    refine ⟨_, rfl, by simpa using HO2.out, ((Below.refl _ w).alloc (Nat.le_refl _) _).grown HG2.out (by simp) (fun k hk => ?_)⟩
    have := hO.out.lt k hk
    omega
/-- a row laid anew -/
theorem IN.fresh {base GI S N B : Nat} {ls : List (List Int)} {vs : List Value} {w w1 : World} (h : IN base GI S N B ls vs w) {b : Nat} {u : Value} {l : List Int} (hlS : S < w.heap.size) (hbz : base ≤ w.heap.size)
    (hb : Below w.heap.size w w1) (ho : w1.ownsRow w.heap.size 3 1 u l.length (l.map (Value.int .i64))) (hl : (∀ x ∈ l, 0 ≤ x ∧ x < (N : Int)) ∧ l.length ≤ 8) :
    IN base GI S N B (ls.set b l) (vs.set b u) (w1.setCell ⟨GI, b, none⟩ u) := by
  have hGI := heap_of_cells h.hdr
  have hh1 : w1.heap[GI]? = some (.cells vs.toArray 22 (0, 0)) := (hb.block GI hGI).trans h.hdr
  have hm : w1.grownBy (w1.setCell ⟨GI, b, none⟩ u) (some GI) := grownBy_setCell (g := GI) (p := ⟨GI, b, none⟩) (grownBy_refl _ _) (.inl rfl) u
  have hu : ∀ q, u.ownBlock = some q → w.heap.size ≤ q := fun q hq => (ho.lt q hq).1
  refine ⟨?_, by simpa using h.lv, by simpa using h.ll, fun c h1 h2 => ?_, fun c d h1 h2 q hcd hq => ?_, fun c h1 q hq => ?_, fun l' hl' => ?_, h.gi⟩
  · have := heap_setCell_same w1 GI b _ _ u hh1
    simpa using this
  · by_cases hbc : b = c
    · subst hbc
      simp only [List.getElem_set_self]
      exact own_lo (ho.kept hm (.inr (fun e => by have := hu _ e; omega))) hbz
    · simp only [List.getElem_set_ne hbc]
      have h1' : c < vs.length := by simpa using h1
      exact (own_bel (h.row c h1' (by simpa using h2)) hb).kept hm (.inr (fun e => (h.nos c h1' GI e).1 rfl))
  · simp only [List.length_set] at h1 h2
    by_cases hbc : b = c
    · subst hbc
      simp only [List.getElem_set_self] at hq
      rw [List.getElem_set_ne hcd]
      intro e
      have := (h.lt h2 e).2
      have := hu q hq
      omega
    · rw [List.getElem_set_ne hbc] at hq
      by_cases hbd : b = d
      · subst hbd
        simp only [List.getElem_set_self]
        intro e
        have := (h.lt h1 hq).2
        have := hu q e
        omega
      · rw [List.getElem_set_ne hbd]
        exact h.apart c d h1 h2 q hcd hq
  · simp only [List.length_set] at h1
    by_cases hbc : b = c
    · subst hbc
      simp only [List.getElem_set_self] at hq
      have := hu q hq
      omega
    · rw [List.getElem_set_ne hbc] at hq
      exact h.nos c h1 q hq
  · rcases List.mem_or_eq_of_mem_set hl' with h' | h'
    · exact h.its l' h'
    · subst h'; exact hl
theorem set_next (ls : List (List Int)) (b B : Nat) (hl : ls.length = B) (hb : b < B) : (ls.take b ++ List.replicate (B - b) []).set b ls[b] = ls.take (b + 1) ++ List.replicate (B - (b + 1)) [] := by
  apply List.ext_getElem
  · simp; omega
  · intro i h1 h2
    by_cases e : b = i
    · subst e
      rw [List.getElem_set_self, List.getElem_append_left (by simp; omega)]
      simp
    · rw [List.getElem_set_ne e]
      rcases Nat.lt_or_ge i b with h | h
      · rw [List.getElem_append_left (by simp; omega), List.getElem_append_left (by simp; omega)]
        simp
      · rw [List.getElem_append_right (by simp; omega), List.getElem_append_right (by simp; omega)]
        simp
theorem made_rows (n : Nat) (hn : n ≤ 1000000) (w : World) : (Instr.makeSlice 88 (.int .i64 n) (.int .i64 n)).run Try.prog w = .ok (.slice (some ⟨w.heap.size, 0, none⟩) n n) (w.alloc (.cells (Array.replicate n (Value.slice none 0 0)) 22)) := by
  obtain ⟨i0, hi0, hz0, hz1, hz2⟩ := info_parts slinfo
  have hrun := run_makeSlice (P := Try.prog) w 88 22 i0 _ Try.underlying88 hi0 hz0 .i64 .i64 n n (by omega) (Int.le_refl _) (by rw [hz1]; simp; omega) (by rw [hz2]; omega) (by omega)
  have hm : madeCells (Value.slice none 0 0).cells n = Array.replicate n (Value.slice none 0 0) := by
    apply Array.toList_inj.1
    rw [show (Value.slice none 0 0).cells = #[Value.slice none 0 0] from rfl, toList_madeCells_one]
    simp
  simp only [Int.toNat_natCast] at hrun
  rw [hz1, Nat.mul_one, hm] at hrun
  exact hrun
set_option maxRecDepth 100000 in
set_option maxHeartbeats 8000000 in
theorem twin_any (base Pb GI S N B slots F cg : Nat) (vh : Value) (ls : List (List Int)) (vs : List Value) (w : World) (h : PI base Pb GI S N B slots F vh cg ls vs w) (hN : N ≤ 1000000) (hB : B ≤ 1000000) (Ah : Option Addr) (nh ch : Nat) (hvh : vh = .slice Ah nh ch) :
    Calls Try.prog 67 #[.pointer (some ⟨Pb, 0, none⟩)] w fun e w' => ∃ GI' vs', e = .returned (.pointer (some ⟨w.heap.size, 0, none⟩)) ∧ PI (w.heap.size + 1) w.heap.size GI' w'.heap.size N B slots F vh B ls vs' w' ∧ Below w.heap.size w w' := by
  subst hvh
  have HP := Lib.hid h
  have hll := h.inn.ll
  have hlv := h.inn.lv
  obtain ⟨p0, p1, p2, p3⟩ := h.cells
  have hPl : Pb < w.heap.size := heap_of_cells h.blk
  clear h
  go_enter Try.func67, Try.ntmps67
  obtain ⟨Q, eQ⟩ : ∃ Q, Q = w.heap.size := ⟨_, rfl⟩
  obtain ⟨w1, ew1⟩ : ∃ w1 : World, w1 = w.alloc (.cells #[.int .i64 slots, .slice Ah nh ch, .slice (some ⟨GI, 0, none⟩) B cg, .int .i64 F] 90) := ⟨_, rfl⟩
  have HWw1 : Hid (w.alloc (.cells #[.int .i64 slots, .slice Ah nh ch, .slice (some ⟨GI, 0, none⟩) B cg, .int .i64 F] 90) = w1) := ew1.symm
  have HAw1 : Hid (Below w.heap.size w w1) := (show Hid _ from by rw [ew1]; exact (Below.refl _ w).alloc (Nat.le_refl _) _)
  have HQ0w1 : Hid (w1.heap[Q]? = some (.cells #[.int .i64 slots, .slice Ah nh ch, .slice (some ⟨GI, 0, none⟩) B cg, .int .i64 F] 90 (0, 0))) := (show Hid _ from by show _ = _; rw [ew1, eQ]; exact heap_alloc_new w _)
  have HX : Hid (∀ W, Below w1.heap.size w1 W → W.cell? ⟨Q, 0, none⟩ = some (.int .i64 slots) ∧ W.cell? ⟨Q, 1, none⟩ = some (.slice Ah nh ch) ∧ W.cell? ⟨Q, 2, none⟩ = some (.slice (some ⟨GI, 0, none⟩) B cg) ∧ W.cell? ⟨Q, 3, none⟩ = some (.int .i64 F)) := (show Hid _ from fun W hg => by
    have hQ0 := (hg.block Q (heap_of_cells HQ0w1.out)).trans HQ0w1.out
    exact ⟨cell_of_row W Q 0 _ _ _ hQ0, cell_of_row W Q 1 _ _ _ hQ0, cell_of_row W Q 2 _ _ _ hQ0, cell_of_row W Q 3 _ _ _ hQ0⟩)
  have hQ := eQ
  have HQ : Hid (Q = w.heap.size) := eQ
  go_upto_region 2 with fail
  rw [HWw1.out, ← eQ]
  clear ew1 eQ
  have HP1 : Hid (∀ W, Below w.heap.size w W → W.cell? ⟨Pb, 2, none⟩ = some (.slice (some ⟨GI, 0, none⟩) B cg)) := (show Hid _ from fun W hW => (hW.cell (p := ⟨Pb, 2, none⟩) hPl).trans p2)
  have r2 := HP1.out w1 HAw1.out
  obtain ⟨x0, x1, x2, x3⟩ := HX.out w1 (Below.refl _ _)
  have f2 := frozen_of_row w1 Q 2 _ _ HQ0w1.out
  have hQ1 : Q < w1.heap.size := heap_of_cells HQ0w1.out
  clear p0 p1 p2 p3 hQ
  obtain ⟨G, eG⟩ : ∃ G, G = w1.heap.size := ⟨_, rfl⟩
  obtain ⟨w2, ew2⟩ : ∃ w2 : World, w2 = (w1.setCell ⟨Q, 2, none⟩ (.slice (some ⟨G, 0, none⟩) B B)).alloc (.cells (Array.replicate B (Value.slice none 0 0)) 22) := ⟨_, rfl⟩
  have HG := Lib.hid eG
  have hzw := HAw1.out.size
  have HB2 : Hid (Below w.heap.size w w2) := (show Hid _ from by rw [ew2]; exact (HAw1.out.setCell (by show w.heap.size ≤ Q; have := HQ.out; omega) _).alloc (by simp; omega) _)
  have hQ2 : w2.heap[Q]? = some (.cells #[.int .i64 slots, .slice Ah nh ch, .slice (some ⟨G, 0, none⟩) B B, .int .i64 F] 90 (0, 0)) := by
    rw [ew2]
    have h := heap_setCell_same w1 Q 2 _ _ (.slice (some ⟨G, 0, none⟩) B B) HQ0w1.out
    exact (Below.heap_alloc _ _ _ (by simp; exact hQ1)).trans (by simpa using h)
  have HQ2 := Lib.hid hQ2
  have HIN2 : Hid (IN (w.heap.size + 1) G w.heap.size N B (List.replicate B []) (List.replicate B (.slice none 0 0)) w2) := (show Hid _ from by
    have hQw := HQ.out
    refine ⟨?_, by simp, by simp, fun b h1 h2 => by simp; exact World.ownsRow_nil _ _ _ _, fun b c h1 h2 q _ hq => by simp [Value.ownBlock] at hq, fun b h1 q hq => by simp [Value.ownBlock] at hq, fun l hl => by
      have := List.eq_of_mem_replicate hl
      subst this
      simp, by omega⟩
    have h := heap_alloc_new (w1.setCell ⟨Q, 2, none⟩ (.slice (some ⟨G, 0, none⟩) B B)) (.cells (Array.replicate B (Value.slice none 0 0)) 22)
    rw [ew2, eG]
    simp at h ⊢
    rw [eG] at h
    exact h)
  have hGQ : G ≠ Q := by omega
  have hQG : Q ≠ G := by omega
  clear hQ2
  have hmk := made_rows B hB w1
  go_upto_region 3 with fail
  rw [← eG, ← ew2]
  have hz2 : w.heap.size + 1 ≤ w2.heap.size := by rw [ew2]; simp; omega
  clear hmk ew2 eG r2 x0 x1 x2 x3 f2
  have r3 := HP1.out w2 HB2.out
  go_wp2_with fail
  clear r3
  go_loopw [21] (fun iv wr => ∃ (b : Nat) (vb : List Value), b ≤ B ∧ iv = .int .i64 b ∧ IN (w.heap.size + 1) G w.heap.size N B (ls.take b ++ List.replicate (B - b) []) vb wr ∧ Below w.heap.size w wr ∧ wr.heap[Q]? = some (.cells #[.int .i64 slots, .slice Ah nh ch, .slice (some ⟨G, 0, none⟩) B B, .int .i64 F] 90 (0, 0)) ∧ w2.heap.size ≤ wr.heap.size) (fun iv _ => B - (intOf iv).toNat)
  case atStart => exact ⟨0, _, Nat.zero_le _, rfl, by simpa using HIN2.out, HB2.out, HQ2.out, Nat.le_refl _⟩
  case round =>
    obtain ⟨b, vb, hb, rfl, hin, hbl, hqr, hzr⟩ := hrel
    have HIN := Lib.hid hin
    have HBL := Lib.hid hbl
    have HQR := Lib.hid hqr
    clear hin hbl hqr
    by_cases hlt : b < B
    · have hpw := fun p hp => HBL.out.cell (p := p) hp
      have hbv : b < vs.length := by omega
      have hbs : b < ls.length := by omega
      obtain ⟨c0, _⟩ := HP.out.inn.cells hbv
      have hGl : GI < w.heap.size := heap_of_cells HP.out.inn.hdr
      have g0 : wr.cell? ⟨GI, b, none⟩ = some vs[b] := (HBL.out.cell (p := ⟨GI, b, none⟩) hGl).trans c0
      have hrow := HP.out.inn.row b hbv hbs
      obtain ⟨Ab, cb, eb⟩ := own_sl hrow
      have hits := HP.out.inn.its _ (List.getElem_mem hbs)
      have HITS := Lib.hid hits
      have hSI : SI wr vs[b] ls[b] := by
        have h1 : SI w vs[b] ls[b] := SI.of_own hrow (fun x hx => by have := hits.1 x hx; unfold i64r; omega)
        exact h1.below HBL.out
      rw [eb] at g0 hSI
      have HSI := Lib.hid hSI
      have hl8 := hits.2
      have wb : IntKind.i64.wrap ((b : Int) + 1) = (b : Int) + 1 := by exact IntWalk.i64_in _ (by omega)
      have q2 : wr.cell? ⟨Q, 2, none⟩ = some (.slice (some ⟨G, 0, none⟩) B B) := cell_of_row wr Q 2 _ _ _ HQR.out
      have HLB : Hid (∃ lb, lb = ls[b]) := ⟨_, rfl⟩
      obtain ⟨lb, elb⟩ := HLB.out
      rw [← elb] at HSI hl8 HITS g0
      have HELB := Lib.hid elb
      have z0 : 0 ≤ (b : Int) := by omega
      have z1 : (b : Int) < (B : Int) := by omega
      have hvbl : vb.length = B := HIN.out.lv
      have hbvb : b < vb.length := by omega
      obtain ⟨gg0, gg1⟩ := HIN.out.cells hbvb
      have hGr : G < wr.heap.size := heap_of_cells HIN.out.hdr
      have hQr : Q < wr.heap.size := heap_of_cells HQR.out
      clear hpw hrow hits hSI eb elb c0
      go_upto_region 6 with fail
      clear g0
      go_region_held3 (fun w' => w'.cell? ⟨Q, 2, none⟩ = some (.slice (some ⟨G, 0, none⟩) B B)) (first | exact q2 | exact q9 | go_keep)
        (first
          | (go_at_call 79; refine (clone_any lb _ _ (by exact HSI.out) (by omega)).mono ?_; rintro e w5 ⟨v5, rfl, ho5, hb5⟩; obtain ⟨A5, c5, rfl⟩ := own_sl ho5; have HO5 : Hid (w5.ownsRow wr.heap.size 3 1 (.slice A5 lb.length c5) lb.length (lb.map (Value.int .i64))) := (show Hid _ from ho5); have HB5 : Hid (Below wr.heap.size wr w5) := (show Hid _ from ⟨hb5.os, hb5.tape, hb5.output, hb5.size, hb5.block⟩); have q9 := (HB5.out.cell (p := ⟨Q, 2, none⟩) hQr).trans q2; have c9 := (HB5.out.cell (p := ⟨G, b, none⟩) hGr).trans gg0; have f9 := (HB5.out.frozen (p := ⟨G, b, none⟩) hGr).trans gg1; clear ho5 hb5))
      go_wp2_with fail
      go_roundw
      case rel =>
        have hGm : w5.grownBy (w5.setCell ⟨G, b, none⟩ (.slice A5 lb.length c5)) (some G) := grownBy_setCell (g := G) (p := ⟨G, b, none⟩) (grownBy_refl _ _) (.inl rfl) _
        have h5 := HIN.out.fresh (b := b) (by omega) (by omega) HB5.out HO5.out HITS.out
        have hgi := HIN.out.gi
        have h6 : IN (w.heap.size + 1) G w.heap.size N B (ls.take (b + 1) ++ List.replicate (B - (b + 1)) []) (vb.set b (.slice A5 lb.length c5)) (w5.setCell ⟨G, b, none⟩ (.slice A5 lb.length c5)) := by
          rw [← set_next ls b B hll hlt, ← HELB.out]
          exact h5
        refine ⟨b + 1, _, by omega, by go_num, h6, (HBL.out.trans (HB5.out.mono HBL.out.size)).setCell (by show w.heap.size ≤ G; omega) _, ?_, by have := HB5.out.size; simp; omega⟩
        exact (hGm.block Q (by have := HB5.out.size; omega) (by simp; omega)).trans ((HB5.out.block Q hQr).trans HQR.out)
      case measure => simp [intOf]; omega
    · have hbe : b = B := by omega
      go_wp2_with fail
      refine bodyPost_ret (v := .pointer (some ⟨Q, 0, none⟩)) (by simp [results, Try.results67, go_sem]) rfl ?_
      have h := HIN.out
      have e : ls.take b ++ List.replicate (B - b) [] = ls := by rw [hbe, Nat.sub_self, ← hll, List.take_length]; simp
      rw [e] at h
      have hQw := HQ.out
      have hno : ¬ inV vb Q := fun ⟨c, hc, e⟩ => by have := (h.lt hc e).1; omega
      refine ⟨G, vb, by rw [hQw], ⟨⟨h.hdr, h.lv, h.ll, h.row, h.apart, fun c hc q hq => ⟨(h.nos c hc q hq).1, by have := (h.lt hc hq).2; omega⟩, h.its, h.gi⟩, ?_, ?_, ?_, ?_⟩, HBL.out⟩
      · rw [← hQw]; exact HQR.out
      · rw [← hQw]; exact hno
      · have := HBL.out.size; have := heap_of_cells HQR.out; omega
      · omega
end Go.Proofs.Ytllnomembakboaa
