/- Joined: Mc Bl. -/
import Derived.Test.YtoiabanpnkpbhaaGreatDoorZ30
import Derived.Test.YtoiabanpnkpbhaaGreatDoorZ29
namespace Go.Proofs.YtoiabanpnkpbhaaGreatDoor
open Go.RowKit

def Am2 (rows : List (List Int)) (n : Nat) (P : Int) (wrong silent : Nat) (O : List Int) (C D B g : Nat) (pv vo : Value) (V : Nat → Value) (w1 : World) (iv : Value) (wr : World) : Prop :=
  ∃ (i : Nat) (BL SL : List Nat) (Cn : Nat → List Int), i ≤ n ∧ iv = .int .i64 i ∧ AQ n P rows wrong silent i (O.take i) BL SL Cn ∧ AM C wr pv n V (fun a => !decide (a ∈ SL)) Cn ∧ BBk wr B n BL ∧ wr.ownsRow D 3 1 vo O.length (O.map (Value.int .i64)) ∧ Dk wr g ∧ w1.grownBy wr (some g)
set_option maxRecDepth 100000 in
set_option maxHeartbeats 8000000 in
theorem mkanswers_any (g wrong silent : Nat) (P : Int) (rows : List (List Int)) (v : Value) (w : World) (hD : Dk w g) (hP : 2 ≤ P ∧ P ≤ 65521) (hr : SLE g w v rows) (hel : ∀ r ∈ rows, els P r = true ∧ r.length ≤ 1000) (hn1 : 1 ≤ rows.length) (hn : rows.length ≤ 100) (hwr : wrong ≤ 1000 ∧ silent ≤ 1000) :
    Calls Tryz.prog 35 #[.pointer (some ⟨g, 0, none⟩), .agg #[.int .i64 P], v, .int .i64 wrong, .int .i64 silent] w (MaP g P rows wrong silent w) := by
  have HEL := Lib.hid hel
  obtain ⟨br, or_, cr, H, rfl, hbr, hview⟩ := hr.view (by omega)
  have HV : Hid (∀ W, w.grownBy W (some g) → ∀ j, j < rows.length → W.cell? ⟨br, or_ + j, none⟩ = some (H j) ∧ SE g W (H j) (gr rows j) ∧ ∃ B d, H j = .slice B (gr rows j).length d) := (show Hid _ from fun W hg j hj => by
    have e : gr rows j = rows[j] := by unfold gr; rw [List.getElem?_eq_getElem hj]; rfl
    rw [e]; exact hview W hg j hj)
  have HGE : Hid (∀ j, els P (gr rows j) = true ∧ (gr rows j).length ≤ 1000) := (show Hid _ from fun j => by
    unfold gr
    cases h : rows[j]? with
    | none => simp [els]
    | some r => exact hel r (List.mem_of_getElem? h))
  go_enter Tryz.func35, Tryz.ntmps35
  obtain ⟨F, eF⟩ : ∃ F, F = w.heap.size := ⟨_, rfl⟩
  obtain ⟨w1, ew⟩ : ∃ w1 : World, w1 = w.alloc (.cells #[.int .i64 P] 31) := ⟨_, rfl⟩
  have HW1 : Hid (w.alloc (.cells #[.int .i64 P] 31) = w1) := ew.symm
  have HB1 : Hid (Below w.heap.size w w1) := (show Hid _ from by rw [ew]; exact (Below.refl _ w).alloc (Nat.le_refl _) _)
  have HF1 : Hid (w1.heap[F]? = some (.cells #[.int .i64 P] 31 (0, 0))) := (show Hid _ from by show _ = _; rw [ew, eF]; exact heap_alloc_new w _)
  have HD1 : Hid (Dk w1 g) := hD.below HB1.out
  have HGF : Hid (g < F) := (show Hid _ from by rw [eF]; exact hD.lt)
  have HG1 : Hid (g < w1.heap.size) := HD1.out.lt
  have HG01 : Hid (w.grownBy w1 (some g)) := (show Hid _ from grownBy_of_below HB1.out _)
  have HEF := Lib.hid eF
  clear hD hel hview
  go_upto_region 2 with fail
  rw [HW1.out, ← eF]
  clear ew eF
  go_wp2_with fail
  go_loopw [12, 24] (fun v iv wr => Am1 rows w1 v iv wr) (fun _ iv _ => rows.length - (intOf iv).toNat)
  case atStart => exact ⟨0, _, [], rfl, Nat.zero_le _, rfl, rfl, World.ownsRow_nil _ _ _ _, fun j h => by simp at h, fun j h => by simp at h, fun i j h => by simp at h, Below.refl _ _⟩
  case round =>
    obtain ⟨k, pv, xs, rfl, hk, rfl, hxk, hown, hrow, hapl, hap, hb⟩ := hrel
    have HOW := Lib.hid hown
    have HRO := Lib.hid hrow
    have HAL := Lib.hid hapl
    have HAP := Lib.hid hap
    have HB := Lib.hid hb
    have HXK := Lib.hid hxk
    have hz := hb.size
    have hxl : xs.length ≤ 100 := by omega
    have HGr : Hid (w.grownBy wr (some g)) := (show Hid _ from grownBy_trans HG01.out (grownBy_of_below hb _))
    clear hown hrow hapl hap hb hxk
    by_cases hlk : k < rows.length
    · have dk : decide (k < rows.length) = true := decide_eq_true hlk
      obtain ⟨ck, hse, B, d, eH⟩ := HV.out wr HGr.out k hlk
      rw [eH] at ck hse
      have HSR : Hid (SI wr (.slice B (gr rows k).length d) (gr rows k)) := (show Hid _ from hse.si)
      obtain ⟨r, er⟩ : ∃ r, r = gr rows k := ⟨_, rfl⟩
      have hrl : r.length ≤ 1000 := by rw [er]; exact (HGE.out k).2
      have HER := Lib.hid er
      rw [← er] at ck HSR
      clear hse eH er
      go_wp2_with (at_builtin; first
        | (refine wpList_append_ints _ rfl _ _ 22 rfl wr.heap.size 3 Tryz.underlying22 iinfo (.slice none 0 0) [] rfl (World.ownsRow_nil _ _ _ _) _ _ r rfl HSR.out (by simp; omega) (Nat.le_refl _) ?_; intro v2 w2 hown2 hg2; rw [List.nil_append] at hown2; obtain ⟨A2, c2, ev2⟩ := own_sl' hown2; subst ev2; have HO2 := Lib.hid hown2; have HB2 : Hid (Below wr.heap.size wr w2) := (show Hid _ from ⟨hg2.os, hg2.tape, hg2.output, hg2.size, fun i hi => hg2.block i hi (by simp [Value.ownBlock])⟩); clear hown2 hg2)
        | (refine wpList_append_lit_at _ rfl _ _ 59 rfl w1.heap.size 61 _ 2 32 Tryz.underlying59 aninfo pv xs.length (xs.flatMap apc) rfl ((own_bel HOW.out HB2.out).alloc _) [.bool true, .slice A2 r.length c2] rfl (by intro u hu; simp at hu; rcases hu with rfl | rfl <;> rfl) w2.heap.size rfl (fun j u hu => by have h := cells_new w2 [.bool true, .slice A2 r.length c2] 61 j u hu; rw [addr_add] at h; exact h) (by omega) (by omega) rfl (by omega) (by have := HB2.out.size; simp; omega) ?_; intro g9 cap9 w9 hown9 hg9 hat9; have HO9 := Lib.hid hown9; have HG9 := Lib.hid hg9; have HA9 := Lib.hid hat9; clear hown9 hg9 hat9))
      go_roundw
      case rel =>
        exact am1_step hlk HXK.out HOW.out HRO.out HAL.out HAP.out HB.out (by rw [← HER.out]; exact HO2.out) HB2.out HG9.out HO9.out (fun q hq => by
          have e : g9 = q := by simpa [Value.ownBlock] using hq
          subst e; exact HA9.out)
      case measure => simp [intOf]; omega
    · have dk : decide (k < rows.length) = false := decide_eq_false hlk
      have hkn : k = rows.length := by omega
      have HAM := Lib.hid (am_of (rows := rows) (C := w1.heap.size) (wr := wr) (pv := pv) (xs := xs) (n := rows.length) (by rw [HXK.out, hkn]) HOW.out HRO.out HAL.out HAP.out)
      obtain ⟨V, eV⟩ : ∃ V : Nat → Value, V = fun j => (xs[j]?).getD undef := ⟨_, rfl⟩
      rw [← eV] at HAM
      obtain ⟨wq, ewq⟩ : ∃ wq : World, wq = wr := ⟨_, rfl⟩
      rw [← ewq] at HAM HB HGr hz ⊢
      clear hkn HOW HRO HAL HAP HXK eV ewq
      have HDq : Hid (Dk wq g) := HD1.out.below HB.out
      have hans := HAM.out.ans
      rcases hans.2 with ⟨_, h0⟩ | ⟨Lb, cap, cur, hpv, hLb, _⟩
      · omega
      subst hpv
      obtain ⟨n, en⟩ : ∃ n, n = rows.length := ⟨_, rfl⟩
      have HEN := Lib.hid en
      rw [← en] at HAM hn1 hn dk ⊢
      obtain ⟨B, eB⟩ : ∃ B, B = wq.heap.size := ⟨_, rfl⟩
      obtain ⟨w3, ew3⟩ : ∃ w3 : World, w3 = wq.alloc (.cells ((List.range n).map fun (j : Nat) => Value.bool (decide (j ∈ ([] : List Nat)))).toArray 4) := ⟨_, rfl⟩
      have HW3 : Hid (wq.alloc (.cells ((List.range n).map fun (_ : Nat) => Value.bool false).toArray 4) = w3) := (show Hid _ from by show _ = _; rw [ew3]; simp)
      have HBB3 : Hid (BBk w3 B n []) := (show Hid _ from by rw [ew3, eB]; exact heap_alloc_new wq _)
      have HB3 : Hid (Below wq.heap.size wq w3) := (show Hid _ from by rw [ew3]; exact (Below.refl _ wq).alloc (Nat.le_refl _) _)
      have HD3 := Lib.hid (HDq.out.below HB3.out)
      have HAM3 : Hid (AM w1.heap.size w3 (.slice (some ⟨Lb, 0, none⟩) n cap) n V (fun a => !decide (a ∈ ([] : List Nat))) (gr rows)) := (show Hid _ from HAM.out.grown (grownBy_of_below HB3.out (some g)) HG1.out)
      have HNL : Hid (Lb < B ∧ w1.heap.size ≤ Lb) := (show Hid _ from by
        have := HAM.out.ans.lt Lb rfl
        rw [eB]; exact ⟨this.2, this.1⟩)
      have HNV : Hid (∀ j, j < n → ∀ q, (V j).ownBlock = some q → q < B ∧ w1.heap.size ≤ q ∧ q ≠ Lb) := (show Hid _ from fun j hj q hq => by
        have h1 := (HAM.out.row j hj).lt q hq
        rw [eB]
        exact ⟨h1.2, h1.1, fun e => HAM.out.apl j hj q hq (by rw [e]; rfl)⟩)
      have HBC : Hid (w1.heap.size ≤ B ∧ B < w3.heap.size) := (show Hid _ from ⟨by rw [eB]; exact hz, HBB3.out.lt⟩)
      have HEBq := Lib.hid eB
      clear hans en hlk
      go_upto_region 7 with fail
      go_wp2_with (at_make; refine wpList_make_bools _ rfl _ _ 97 rfl 4 Tryz.underlying97 binfo _ n rfl rfl rfl (by omega) ?_)
      rw [HW3.out, ← eB]
      clear ew3 eB
      (with_reducible refine (order_any n g w3 HD3.out (by omega)).mono ?_)
      rintro e w4 ⟨vo, O, rfl, hperm, hownO, hd4, hg4⟩
      have hOl : O.length = n := by have h1 := hperm.length_eq; rwa [nums_len] at h1
      have HON : Hid (O.Nodup) := (show Hid _ from hperm.nodup_iff.2 (nums_nodup n))
      have HOB : Hid (∀ j ∈ O, 0 ≤ j ∧ j < (n : Int)) := (show Hid _ from fun j hj => nums_bd n j (hperm.mem_iff.1 hj))
      have HOL := Lib.hid hOl
      rcases hownO.2 with ⟨_, h0⟩ | ⟨bo, co, curO, hvo, hbo, _⟩
      · omega
      subst hvo
      have HOO := Lib.hid hownO
      have HD4 := Lib.hid hd4
      have HAM4 := Lib.hid (HAM3.out.grown hg4 HG1.out)
      have HBB4 : Hid (BBk w4 B n []) := (show Hid _ from HBB3.out.grown hg4 (by have := HBC.out.1; have := HG1.out; omega))
      have HG4 : Hid (w1.grownBy w4 (some g)) := (show Hid _ from grownBy_trans (grownBy_trans (grownBy_of_below HB.out _) (grownBy_of_below HB3.out _)) hg4)
      have HBO : Hid (w3.heap.size ≤ bo) := hbo
      rw [hOl] at HOO ⊢
      clear hperm hownO hd4 hg4 hOl hbo
      go_wp2_with fail
      go_loopw [43] (fun iv wr => Am2 rows n P wrong silent O w1.heap.size w3.heap.size B g (.slice (some ⟨Lb, 0, none⟩) n cap) (.slice (some ⟨bo, 0, none⟩) n co) V w1 iv wr) (fun iv _ => n - (intOf iv).toNat)
      case atStart => exact ⟨0, [], [], gr rows, Nat.zero_le _, rfl, by rw [List.take_zero]; exact AQ.start fun j => (HGE.out j).1, HAM4.out, HBB4.out, by rw [HOL.out]; exact HOO.out, HD4.out, HG4.out⟩
      case round =>
        obtain ⟨i, BL, SL, Cn, hi, rfl, haq, ham, hbb, hoo, hdk, hgr⟩ := hrel
        have HAQ := Lib.hid haq
        have HAMi := Lib.hid ham
        have HBBi := Lib.hid hbb
        have HOi := Lib.hid hoo
        have HDi := Lib.hid hdk
        have HGi := Lib.hid hgr
        clear haq ham hbb hoo hdk hgr
        by_cases hli : i < n
        · have di : decide (i < n) = true := decide_eq_true hli
          have hiO : i < O.length := by rw [HOL.out]; exact hli
          have hjb := HOB.out O[i] (List.getElem_mem hiO)
          obtain ⟨jn, ejn⟩ : ∃ jn : Nat, O[i] = (jn : Int) := ⟨O[i].toNat, by omega⟩
          have hjn : jn < n := by omega
          have HTK : Hid (O.take (i + 1) = O.take i ++ [(jn : Int)]) := (show Hid _ from by show _ = _; rw [← List.take_append_getElem hiO, ejn])
          have HJO : Hid ((jn : Int) ∉ O.take i) := (show Hid _ from by
            have h1 : (O.take (i + 1)).Nodup := HON.out.sublist (List.take_sublist _ O)
            rw [HTK.out, List.nodup_append] at h1
            exact fun hm => h1.2.2 _ hm _ (by simp) rfl)
          have cO : wr.cell? ⟨bo, i, none⟩ = some (.int .i64 (jn : Int)) := by
            have h1 := HOi.out
            rw [HOL.out] at h1
            have h2 := h1.cellAt i (by omega)
            rw [h2, List.getElem?_map, List.getElem?_eq_getElem hiO, ejn]; rfl
          have HWr : Hid (w.grownBy wr (some g)) := (show Hid _ from grownBy_trans HG01.out HGi.out)
          obtain ⟨ch, _, B', d', eH⟩ := HV.out wr HWr.out jn (by rw [← HEN.out]; exact hjn)
          rw [eH] at ch
          obtain ⟨ln, eln⟩ : ∃ ln, ln = (gr rows jn).length := ⟨_, rfl⟩
          have hln : ln ≤ 1000 := by rw [eln]; exact (HGE.out jn).2
          rw [← eln] at ch
          have HLN := Lib.hid eln
          have hgC := HG1.out
          have hjB : jn ∉ BL := fun hm => HJO.out (HAQ.out.bo jn hm).2
          have hjS : jn ∉ SL := fun hm => HJO.out (HAQ.out.so jn hm).2
          have HJB := Lib.hid hjB
          have HJS := Lib.hid hjS
          clear ejn hjb eH eln hjB hjS
          by_cases hA : i < wrong ∧ 0 < ln
          · have d1 : decide ((i : Int) < (wrong : Int)) = true := decide_eq_true (by omega)
            have d1' : decide (i < wrong) = true := decide_eq_true hA.1
            have d2 : decide ((0 : Int) < (ln : Int)) = true := decide_eq_true (by omega)
            have d2' : decide (0 < ln) = true := decide_eq_true hA.2
            have hln1 : (1 : Int) ≤ (ln : Int) := by omega
            have HA := Lib.hid hA
            clear hA
            go_wp2_with fail
            (with_reducible refine (next_any ln g wr HDi.out (by unfold i64r; omega) (by omega)).mono ?_)
            rintro e w5 ⟨c0, rfl, _, hc, hd5, hg5⟩
            obtain ⟨hc1, hc2⟩ := hc hln1
            obtain ⟨c, rfl⟩ : ∃ c : Nat, c0 = c := ⟨c0.toNat, by omega⟩
            have hcl : c < ln := by omega
            have HD5 := Lib.hid hd5
            have HG5 : Hid (wr.grownBy w5 (some g)) := hg5
            have HAM5 := Lib.hid (HAMi.out.grown hg5 HG1.out)
            have hrow := HAM5.out.row jn hjn
            have hCl : (Cn jn).length = ln := by rw [(HAQ.out.ln jn).1, HLN.out]
            have hV : ∃ q cq, V jn = .slice (some ⟨q, 0, none⟩) ln cq := by
              rcases hrow.2 with ⟨_, h0⟩ | ⟨q, cq, cur, h1, _⟩
              · omega
              · rw [hCl] at h1; exact ⟨q, cq, h1⟩
            obtain ⟨q, cq, hVq⟩ := hV
            obtain ⟨x, ex⟩ : ∃ x, x = (Cn jn)[c]'(by omega) := ⟨_, rfl⟩
            have hxb : 0 ≤ x ∧ x < P := by rw [ex]; exact el_t (els_all (HAQ.out.ln jn).2 _ (List.getElem_mem _))
            have HEX := Lib.hid ex
            have HVQ := Lib.hid hVq
            have HCL := Lib.hid hCl
            have HX5 : Hid (∀ W, w5.grownBy W (some g) → W.cell? ⟨Lb, jn * 2 + 1, none⟩ = some (.slice (some ⟨q, 0, none⟩) ln cq) ∧ W.cell? ⟨q, c, none⟩ = some (.int .i64 x) ∧ W.frozen? ⟨q, c, none⟩ = false ∧ W.cell? ⟨F, 0, none⟩ = some (.int .i64 P)) := (show Hid _ from fun W hg => by
              have hA := HAM5.out.grown hg HG1.out
              have h1 := (hA.cells hjn).2
              rw [if_pos (by simp; exact HJS.out), HVQ.out] at h1
              have h2 := hA.row jn hjn
              rw [HVQ.out, HCL.out] at h2
              have h3 := h2.cellAt c (by omega)
              refine ⟨h1, ?_, own_frozen h2 c, ?_⟩
              · rw [h3, List.getElem?_map, List.getElem?_eq_getElem (by rw [HCL.out]; exact hcl), HEX.out]; rfl
              · have h4 := grownBy_trans (grownBy_trans HGi.out HG5.out) hg
                exact cell_of_row W F 0 _ _ _ ((h4.block F (heap_of_cells HF1.out) (by have := HGF.out; simp; omega)).trans HF1.out))
            have HSTEP : Hid (∀ W y, w5.grownBy W (some g) → Dk W g → 0 ≤ y → y < P → y ≠ x → (∃ u, (W.setCell ⟨q, c, none⟩ (.int .i64 y)).cell? ⟨B, jn, none⟩ = some u) ∧ (W.setCell ⟨q, c, none⟩ (.int .i64 y)).frozen? ⟨B, jn, none⟩ = false ∧
                Am2 rows n P wrong silent O w1.heap.size w3.heap.size B g (.slice (some ⟨Lb, 0, none⟩) n cap) (.slice (some ⟨bo, 0, none⟩) n co) V w1 (.int .i64 ((i : Int) + 1)) ((W.setCell ⟨q, c, none⟩ (.int .i64 y)).setCell ⟨B, jn, none⟩ (.bool true))) := (show Hid _ from fun W y hg hd y4 y5 y6 => by
              have hq := HNV.out jn hjn q (by rw [HVQ.out]; rfl)
              have hgB : g < B := by have := HBC.out.1; omega
              have hAM1 := (HAM5.out.grown hg HG1.out).chg hjn HVQ.out c y
              have hBB1 : BBk (W.setCell ⟨q, c, none⟩ (.int .i64 y)) B n BL := ((HBBi.out.grown HG5.out (by omega)).grown hg (by omega)).oth (by show q ≠ B; omega) _
              have hDk1 : Dk (W.setCell ⟨q, c, none⟩ (.int .i64 y)) g := hd.grown (grownBy_setCell (g := q) (p := ⟨q, c, none⟩) (grownBy_refl _ _) (.inl rfl) _) (fun k hk => by injection hk with e; omega)
              have hOO0 : W.ownsRow w3.heap.size 3 1 (.slice (some ⟨bo, 0, none⟩) n co) O.length (O.map (Value.int .i64)) := own_blk HOi.out fun b hb => by
                have h1 := HOi.out.lt b hb
                have h2 := HBC.out
                exact ((grownBy_trans HG5.out hg).block b h1.2 (by simp; omega))
              have hOn : ∀ b, (Value.slice (some ⟨bo, 0, none⟩) n co).ownBlock = some b → w3.heap.size ≤ b := fun b hb => (HOi.out.lt b hb).1
              refine ⟨⟨_, hBB1.cell hjn⟩, hBB1.frozen jn, i + 1, jn :: BL, SL, fun a => if a = jn then (Cn jn).set c y else Cn a, by omega, by go_num, ?_, ?_, hBB1.set jn, ?_, ?_, ?_⟩
              · rw [HTK.out]
                refine HAQ.out.wrg HA.out.1 hjn HJO.out ⟨by rw [List.length_set]; exact (HAQ.out.ln jn).1, els_of fun u hu => ?_⟩ fun e => ?_
                · rcases List.mem_or_eq_of_mem_set hu with h | h
                  · exact els_all (HAQ.out.ln jn).2 u h
                  · rw [h]; exact el_mk ⟨y4, y5⟩
                · have h1 := HAQ.out.un jn HJB.out
                  have h2 : ((Cn jn).set c y)[c]? = (Cn jn)[c]? := by rw [e, h1]
                  rw [List.getElem?_set_self (by rw [HCL.out]; exact hcl), List.getElem?_eq_getElem (by rw [HCL.out]; exact hcl)] at h2
                  injection h2 with h2
                  exact y6 (by rw [h2, HEX.out])
              · exact hAM1.oth (by show some Lb ≠ some B; have := HNL.out.1; simp; omega) (fun a ha h => by have := (HNV.out a ha B h).1; omega) _
              · refine own_upd_other (own_upd_other hOO0 (fun h => ?_) _) (fun h => ?_) _
                · have := hOn q h; have := HBC.out.2; omega
                · have := hOn B h; have := HBC.out.2; omega
              · exact hDk1.grown (grownBy_setCell (g := B) (p := ⟨B, jn, none⟩) (grownBy_refl _ _) (.inl rfl) _) (fun k hk => by injection hk with e; omega)
              · exact grownBy_own (grownBy_own (grownBy_trans (grownBy_trans HGi.out HG5.out) hg) (grownBy_setCell (g := q) (p := ⟨q, c, none⟩) (grownBy_refl _ _) (.inl rfl) _) (fun k hk => by injection hk with e; omega)) (grownBy_setCell (g := B) (p := ⟨B, jn, none⟩) (grownBy_refl _ _) (.inl rfl) _) (fun k hk => by injection hk with e; have := HBC.out.1; omega))
            clear hc hd5 hg5 hVq ex cO ch d1 d1' d2 d2'
            go_upto_region 13 with fail
            apply regA13 g F Lb n cap jn c q ln cq P x w5 (by have := HNV.out jn hjn q (by rw [HVQ.out]; rfl); omega) (by have := HNV.out jn hjn q (by rw [HVQ.out]; rfl); have := heap_of_cells HF1.out; omega) hP hxb hjn hcl HX5.out HD5.out
            rintro u66 u67 u68 u69 u70 u71 u72 u73 u74 u75 u76 u77 u78 u79 u80 u81 u82 u83 u84 u85 u86 u87 u88 u89 u90 y w6 w7 ⟨hg6, hd6, y4, y5, y6, rfl⟩
            obtain ⟨⟨uB, cB⟩, fB, hst⟩ := HSTEP.out w6 y hg6 hd6 y4 y5 y6
            have HST := Lib.hid hst
            clear hg6 hd6 y6 hst HX5 HSTEP
            go_wp2_with fail
            exact ⟨HST.out, by simp [intOf]; omega⟩
          · have HSK : Hid (Am2 rows n P wrong silent O w1.heap.size w3.heap.size B g (.slice (some ⟨Lb, 0, none⟩) n cap) (.slice (some ⟨bo, 0, none⟩) n co) V w1 (.int .i64 ((i : Int) + 1)) wr) := (show Hid _ from ⟨i + 1, BL, SL, Cn, by omega, by go_num, by rw [HTK.out]; exact HAQ.out.skip _, HAMi.out, HBBi.out, HOi.out, HDi.out, HGi.out⟩)
            have wws : IntKind.i64.wrap ((wrong : Int) + (silent : Int)) = (wrong : Int) + (silent : Int) := by exact IntWalk.i64_in _ (by omega)
            by_cases hw : i < wrong
            · have hl0 : ¬ 0 < ln := fun h => hA ⟨hw, h⟩
              have d1 : decide ((i : Int) < (wrong : Int)) = true := decide_eq_true (by omega)
              have d1' : decide (i < wrong) = true := decide_eq_true hw
              have d2 : decide ((0 : Int) < (ln : Int)) = false := decide_eq_false (by omega)
              have d2' : decide (0 < ln) = false := decide_eq_false hl0
              have d3 : decide ((wrong : Int) ≤ (i : Int)) = false := decide_eq_false (by omega)
              have d3' : decide (wrong ≤ i) = false := decide_eq_false (by omega)
              clear hA
              go_wp2_with fail
              exact ⟨HSK.out, by simp [intOf]; omega⟩
            · have d1 : decide ((i : Int) < (wrong : Int)) = false := decide_eq_false (by omega)
              have d1' : decide (i < wrong) = false := decide_eq_false hw
              have d3 : decide ((wrong : Int) ≤ (i : Int)) = true := decide_eq_true (by omega)
              have d3' : decide (wrong ≤ i) = true := decide_eq_true (by omega)
              clear hA
              by_cases hs : i < wrong + silent
              · have d4 : decide ((i : Int) < (wrong : Int) + (silent : Int)) = true := decide_eq_true (by omega)
                have d4' : decide (i < wrong + silent) = true := decide_eq_true hs
                have HST : Hid (Am2 rows n P wrong silent O w1.heap.size w3.heap.size B g (.slice (some ⟨Lb, 0, none⟩) n cap) (.slice (some ⟨bo, 0, none⟩) n co) V w1 (.int .i64 ((i : Int) + 1)) ((wr.setCell ⟨Lb, jn * 2, none⟩ (.bool false)).setCell ⟨Lb, jn * 2 + 1, none⟩ (.slice none 0 0))) := (show Hid _ from by
                  have hN := HNL.out
                  have hgL : g < Lb := by omega
                  have hOn : ∀ b, (Value.slice (some ⟨bo, 0, none⟩) n co).ownBlock = some b → w3.heap.size ≤ b := fun b hb => (HOi.out.lt b hb).1
                  refine ⟨i + 1, BL, jn :: SL, Cn, by omega, by go_num, by rw [HTK.out]; exact HAQ.out.sil ⟨by omega, hs⟩ hjn HJO.out, ?_, (HBBi.out.oth (by show Lb ≠ B; omega) _).oth (by show Lb ≠ B; omega) _, ?_, ?_, ?_⟩
                  · have h := HAMi.out.sil hjn
                    have e : (fun a => if a = jn then false else !decide (a ∈ SL)) = fun a => !decide (a ∈ jn :: SL) := by
                      funext a
                      by_cases e : a = jn <;> simp [e]
                    rw [e] at h; exact h
                  · refine own_upd_other (own_upd_other HOi.out (fun h => ?_) _) (fun h => ?_) _
                    · have := hOn Lb h; have := HBC.out.2; omega
                    · have := hOn Lb h; have := HBC.out.2; omega
                  · exact (HDi.out.grown (grownBy_setCell (g := Lb) (p := ⟨Lb, jn * 2, none⟩) (grownBy_refl _ _) (.inl rfl) _) (fun k hk => by injection hk with e; omega)).grown (grownBy_setCell (g := Lb) (p := ⟨Lb, jn * 2 + 1, none⟩) (grownBy_refl _ _) (.inl rfl) _) (fun k hk => by injection hk with e; omega)
                  · exact grownBy_own (grownBy_own HGi.out (grownBy_setCell (g := Lb) (p := ⟨Lb, jn * 2, none⟩) (grownBy_refl _ _) (.inl rfl) _) (fun k hk => by injection hk with e; omega)) (grownBy_setCell (g := Lb) (p := ⟨Lb, jn * 2 + 1, none⟩) (grownBy_refl _ _) (.inl rfl) _) (fun k hk => by injection hk with e; omega))
                obtain ⟨cl0, cl1⟩ := HAMi.out.cells hjn
                have fl0 := own_frozen HAMi.out.ans (jn * 2)
                have fl1 := own_frozen HAMi.out.ans (jn * 2 + 1)
                rw [if_pos (by simp; exact HJS.out)] at cl1
                go_wp2_with fail
                exact ⟨HST.out, by simp [intOf]; omega⟩
              · have d4 : decide ((i : Int) < (wrong : Int) + (silent : Int)) = false := decide_eq_false (by omega)
                have d4' : decide (i < wrong + silent) = false := decide_eq_false hs
                go_wp2_with fail
                exact ⟨HSK.out, by simp [intOf]; omega⟩
        · have di : decide (i < n) = false := decide_eq_false hli
          have hin : i = n := by omega
          have HIN := Lib.hid hin
          obtain ⟨wy, ewy⟩ : ∃ wy : World, wy = wr := ⟨_, rfl⟩
          rw [← ewy] at HAMi HBBi HDi HGi ⊢
          clear ewy hin HOi
          go_wp2_with fail
          go_loopw [19, 111] (fun v iv wz => Am3 n BL wy v iv wz) (fun _ iv _ => n - (intOf iv).toNat)
          case atStart => exact ⟨0, Nat.zero_le _, rfl, by simpa [maB] using World.ownsRow_nil wy wy.heap.size 3 1, Below.refl _ _⟩
          case round =>
            obtain ⟨q, hq, rfl, hown, hbz⟩ := hrel
            obtain ⟨Au, cu, euv⟩ := own_sl hown
            subst euv
            have HOW := Lib.hid hown
            have HBZ := Lib.hid hbz
            have hzy := hbz.size
            clear hown hbz
            by_cases hlq : q < n
            · have dq : decide (q < n) = true := decide_eq_true hlq
              have cB : wr.cell? ⟨B, q, none⟩ = some (.bool (decide (q ∈ BL))) := (HBZ.out.cell (p := ⟨B, q, none⟩) HBBi.out.lt).trans (HBBi.out.cell hlq)
              have hml := (maB_bd q BL).1
              have wq1 : IntKind.i64.wrap ((q : Int) + 1) = (q : Int) + 1 := by exact IntWalk.i64_in _ (by omega)
              by_cases hm : q ∈ BL
              · have dm : decide (q ∈ BL) = true := decide_eq_true hm
                rw [dm] at cB
                have HSN := Lib.hid (maB_yes hm)
                clear hm dm
                obtain ⟨UV, eUV⟩ : ∃ UV, UV = maB q BL := ⟨_, rfl⟩
                rw [← eUV] at HOW HSN hml ⊢
                clear eUV
                go_wp2_with (at_builtin; refine wpList_append_int1 _ rfl _ _ 22 rfl wy.heap.size 3 Tryz.underlying22 iinfo _ UV rfl HOW.out ((q : Int) + 1) rfl (by omega) hzy ?_; intro v11 w11 hown11 hg11; have HO11 := Lib.hid hown11; have HG11 := Lib.hid hg11; clear hown11 hg11)
                go_roundw
                case rel => exact ⟨q + 1, by omega, by go_num, by rw [HSN.out]; exact HO11.out, (HBZ.out.alloc hzy _).grown HG11.out (by simp; omega) (fun k hk => (HOW.out.lt k hk).1)⟩
                case measure => simp [intOf]; omega
              · have dm : decide (q ∈ BL) = false := decide_eq_false hm
                rw [dm] at cB
                have HSN := Lib.hid (maB_no hm)
                clear hm dm
                go_wp2_with fail
                go_roundw
                case rel => exact ⟨q + 1, by omega, by go_num, by rw [HSN.out]; exact HOW.out, HBZ.out⟩
                case measure => simp [intOf]; omega
            · have dq : decide (q < n) = false := decide_eq_false hlq
              have hqn : q = n := by omega
              have hgy : g < wy.heap.size := HDi.out.lt
              have HAQn : Hid (AnR P rows wrong silent (maL n SL Cn) (maB n BL)) := (show Hid _ from HAQ.out.fin HEN.out)
              have HSA : Hid (SAE g wr (.slice (some ⟨Lb, 0, none⟩) n cap) (maL n SL Cn)) := (show Hid _ from (HAMi.out.grown (grownBy_of_below HBZ.out (some g)) HG1.out).sae HG1.out (fun j x hx => el_r hP.2 (els_all (HAQ.out.ln j).2 x hx)) hn1)
              have HSO : Hid (SE g wr (.slice Au (maB q BL).length cu) (maB n BL)) := (show Hid _ from by
                have h := HOW.out
                rw [hqn] at h ⊢
                exact SE.of_own h (fun x hx => by have := (maB_bd n BL).2 x hx; unfold i64r; omega) hgy)
              have HDf : Hid (Dk wr g) := HDi.out.below HBZ.out
              have HGf : Hid (w.grownBy wr (some g)) := (show Hid _ from grownBy_trans HG01.out (grownBy_trans HGi.out (grownBy_of_below HBZ.out _)))
              clear hqn
              generalize (maB q BL).length = nu at HSO ⊢
              go_wp2_with fail
              go_ret2
              exact ⟨_, _, _, _, rfl, HSA.out, HSO.out, HDf.out, HGf.out, HAQn.out⟩
end Go.Proofs.YtoiabanpnkpbhaaGreatDoor

namespace Go.Proofs.YtoiabanpnkpbhaaGreatDoor
open Go.RowKit

/-- a slice of ints at block C or behind, outside the blocks X and Y -/
def SY (C : Nat) (W : World) (X Y : Option Nat) (v : Value) (l : List Int) : Prop :=
  ∃ A c, v = .slice A l.length c ∧ l.length ≤ c ∧ c ≤ 9223372036854775807 ∧ (∀ x ∈ l, i64r x) ∧
    (0 < l.length → ∃ b off, A = some ⟨b, off, none⟩ ∧ C ≤ b ∧ b < W.heap.size ∧ some b ≠ X ∧ some b ≠ Y ∧ ∀ j (h : j < l.length), W.cell? ⟨b, off + j, none⟩ = some (.int .i64 l[j]))
theorem SY.keep {C : Nat} {W W' : World} {X Y X' Y' : Option Nat} {v : Value} {l : List Int} (h : SY C W X Y v l) (hs : W.heap.size ≤ W'.heap.size)
    (hb : ∀ b, C ≤ b → b < W.heap.size → some b ≠ X → some b ≠ Y → W'.heap[b]? = W.heap[b]? ∧ some b ≠ X' ∧ some b ≠ Y') : SY C W' X' Y' v l := by
  obtain ⟨A, c, rfl, hc, hm, hr, ha⟩ := h
  refine ⟨A, c, rfl, hc, hm, hr, fun h0 => ?_⟩
  obtain ⟨b, off, rfl, hC, hbl, hx, hy, hcell⟩ := ha h0
  obtain ⟨e, hx', hy'⟩ := hb b hC hbl hx hy
  exact ⟨b, off, rfl, hC, by omega, hx', hy', fun j hj => (World.cell?_of_block e).trans (hcell j hj)⟩
theorem SY.nil (C : Nat) (W : World) (X Y : Option Nat) : SY C W X Y (.slice none 0 0) [] := ⟨none, 0, rfl, Nat.le_refl _, by omega, fun x h => by simp at h, fun h => by simp at h⟩
theorem SY.se {C g : Nat} {W : World} {X Y : Option Nat} {v : Value} {l : List Int} (h : SY C W X Y v l) (hg : g < C) : SE g W v l := by
  obtain ⟨A, c, rfl, hc, hm, hr, ha⟩ := h
  refine ⟨A, c, rfl, hc, hm, hr, fun h0 => ?_⟩
  obtain ⟨b, off, rfl, hC, hbl, _, _, hcell⟩ := ha h0
  exact ⟨b, off, rfl, hbl, by omega, hcell⟩
theorem SY.of_own {W : World} {X Y : Option Nat} {C base : Nat} {e : TypeId} {v : Value} {l : List Int} (h : W.ownsRow base e 1 v l.length (l.map (Value.int .i64))) (hr : ∀ x ∈ l, i64r x) (hC : C ≤ base) (hX : ∀ k, X = some k → k < base) (hY : ∀ k, Y = some k → k < base) : SY C W X Y v l := by
  rcases h.2 with ⟨rfl, hn⟩ | ⟨b, cap, cur, rfl, hb, hgg, hnc, hcm, hcs, htake⟩
  · have : l = [] := List.eq_nil_of_length_eq_zero hn
    subst this
    exact SY.nil ..
  · refine ⟨_, cap, rfl, hnc, by simpa [maxLen] using hcm, hr, fun h0 => ⟨b, 0, rfl, by omega, (Array.getElem?_eq_some_iff.1 hgg).1, fun e => by have := hX b e.symm; omega, fun e => by have := hY b e.symm; omega, fun j hj => ?_⟩⟩
    have := h.cellAt j (by omega)
    rw [Nat.zero_add, this]
    simp [hj]
theorem SY.below {C : Nat} {W W' : World} {X Y : Option Nat} {v : Value} {l : List Int} (h : SY C W X Y v l) (hb : Below W.heap.size W W') : SY C W' X Y v l :=
  h.keep hb.size fun b _ hbl hx hy => ⟨hb.block b hbl, hx, hy⟩
def anc (x : Bool × Value) : List Value := [.bool x.1, x.2]
theorem anc_get (xs : List (Bool × Value)) (j : Nat) (h : j < xs.length) : (xs.flatMap anc)[j * 2]? = some (.bool xs[j].1) ∧ (xs.flatMap anc)[j * 2 + 1]? = some xs[j].2 := fm2_get xs j h
/-- a list of answers under construction; X is the block of another one -/
structure LM (C : Nat) (w : World) (pv : Value) (X : Option Nat) (xs : List (Bool × Value)) (L : List (Bool × List Int)) : Prop where
  ans : w.ownsRow C 61 2 pv xs.length (xs.flatMap anc)
  len : xs.length = L.length
  row : ∀ j (h1 : j < xs.length) (h2 : j < L.length), xs[j].1 = L[j].1 ∧ SY C w pv.ownBlock X xs[j].2 L[j].2
  apl : ∀ b, pv.ownBlock = some b → X ≠ some b
theorem LM.nil (C : Nat) (w : World) (X : Option Nat) : LM C w (.slice none 0 0) X [] [] :=
  ⟨World.ownsRow_nil _ _ _ _, rfl, fun j h => by simp at h, fun b h => by simp [Value.ownBlock] at h⟩
theorem LM.keep {C : Nat} {w w' : World} {pv : Value} {X : Option Nat} {xs : List (Bool × Value)} {L : List (Bool × List Int)} (h : LM C w pv X xs L) (hs : w.heap.size ≤ w'.heap.size) (hk : ∀ b, C ≤ b → b < w.heap.size → w'.heap[b]? = w.heap[b]?) : LM C w' pv X xs L :=
  ⟨own_blk h.ans fun b hb => hk b (h.ans.lt b hb).1 (h.ans.lt b hb).2, h.len, fun j h1 h2 => ⟨(h.row j h1 h2).1, (h.row j h1 h2).2.keep hs fun b hC hb hx hy => ⟨hk b hC hb, hx, hy⟩⟩, h.apl⟩
theorem LM.below {C : Nat} {w w' : World} {pv : Value} {X : Option Nat} {xs : List (Bool × Value)} {L : List (Bool × List Int)} (h : LM C w pv X xs L) (hb : Below w.heap.size w w') : LM C w' pv X xs L := h.keep hb.size fun b _ h2 => hb.block b h2
theorem LM.grown {C g : Nat} {w w' : World} {pv : Value} {X : Option Nat} {xs : List (Bool × Value)} {L : List (Bool × List Int)} (h : LM C w pv X xs L) (hg : w.grownBy w' (some g)) (hgC : g < C) : LM C w' pv X xs L := h.keep hg.size fun b hC h2 => hg.block b h2 (by simp; omega)
/-- one answer more -/
theorem LM.app {C g9 : Nat} {w w' : World} {pv pv' : Value} {X : Option Nat} {xs : List (Bool × Value)} {L : List (Bool × List Int)} {k : Bool} {v : Value} {l : List Int} (h : LM C w pv X xs L) (hX : ∀ b, X = some b → b < w.heap.size)
    (hv : SY C w pv.ownBlock X v l) (ho : w'.ownsRow C 61 2 pv' (xs.length + 1) (xs.flatMap anc ++ [.bool k, v])) (hg : w.grownBy w' pv.ownBlock) (hpv : pv'.ownBlock = some g9) (hat : pv.ownBlock = some g9 ∨ w.heap.size ≤ g9) : LM C w' pv' X (xs ++ [(k, v)]) (L ++ [(k, l)]) := by
  have hk : ∀ b, C ≤ b → b < w.heap.size → some b ≠ pv.ownBlock → some b ≠ X → w'.heap[b]? = w.heap[b]? ∧ some b ≠ pv'.ownBlock ∧ some b ≠ X := fun b _ hb h1 h2 =>
    ⟨hg.block b hb h1, fun e => by rw [hpv] at e; injection e with e; subst e; rcases hat with h3 | h3; exact h1 h3.symm; omega, h2⟩
  refine ⟨by simpa [anc] using ho, by simp [h.len], fun j h1 h2 => ?_, fun b hb e => ?_⟩
  · by_cases hj : j < xs.length
    · have hj' : j < L.length := by rw [← h.len]; exact hj
      rw [List.getElem_append_left hj, List.getElem_append_left hj']
      exact ⟨(h.row j hj hj').1, (h.row j hj hj').2.keep hg.size hk⟩
    · have e1 : j = xs.length := by simp at h1; omega
      subst e1
      have e2 : (xs ++ [(k, v)])[xs.length]'h1 = (k, v) := by simp
      have e3 : (L ++ [(k, l)])[xs.length]'h2 = (k, l) := by simp [h.len]
      rw [e2, e3]
      exact ⟨rfl, hv.keep hg.size hk⟩
  · rw [hpv] at hb
    injection hb with hb
    subst hb
    rcases hat with h3 | h3
    · exact h.apl _ h3 e
    · have := hX _ e; omega
/-- the other list, while this one grows -/
theorem LM.oth {C g9 : Nat} {w w' : World} {pv qv : Value} {ys : List (Bool × Value)} {M : List (Bool × List Int)} (h : LM C w qv pv.ownBlock ys M)
    (hg : w.grownBy w' pv.ownBlock) (hat : pv.ownBlock = some g9 ∨ w.heap.size ≤ g9) : LM C w' qv (some g9) ys M := by
  refine ⟨own_blk h.ans fun b hb => hg.block b (h.ans.lt b hb).2 fun e => h.apl b hb e.symm, h.len, fun j h1 h2 => ⟨(h.row j h1 h2).1, (h.row j h1 h2).2.keep hg.size fun b hC hb h3 h4 => ⟨hg.block b hb h4, h3, fun e => ?_⟩⟩, fun b hb e => ?_⟩
  · injection e with e
    subst e
    rcases hat with h5 | h5
    · exact h4 h5.symm
    · omega
  · injection e with e
    subst e
    rcases hat with h5 | h5
    · exact h.apl _ hb h5
    · have := (h.ans.lt _ hb).2; omega
theorem SY.oth {C g9 : Nat} {w w' : World} {pv qv v : Value} {l : List Int} (h : SY C w qv.ownBlock pv.ownBlock v l) (hg : w.grownBy w' pv.ownBlock) (hat : pv.ownBlock = some g9 ∨ w.heap.size ≤ g9) : SY C w' qv.ownBlock (some g9) v l :=
  h.keep hg.size fun b hC hb h3 h4 => ⟨hg.block b hb h4, h3, fun e => by
    injection e with e
    subst e
    rcases hat with h5 | h5
    · exact h4 h5.symm
    · omega⟩
theorem LM.sae {C g : Nat} {w : World} {pv : Value} {X : Option Nat} {xs : List (Bool × Value)} {L : List (Bool × List Int)} (h : LM C w pv X xs L) (hg : g < C) : SAE g w pv L := by
  have hl := h.len
  rcases h.ans.2 with ⟨e, hn⟩ | ⟨b, cap, cur, e, hb, hgg, hnc, hcm, hcs, htake⟩
  · have : L = [] := List.eq_nil_of_length_eq_zero (by omega)
    subst this
    rw [e]
    exact ⟨none, 0, rfl, Nat.le_refl _, by omega, fun h => by simp at h⟩
  · have ho := h.ans
    rw [e] at ho ⊢
    rw [hl]
    refine ⟨_, cap, rfl, by omega, by simpa [maxLen] using hcm, fun h0 => ⟨b, 0, rfl, (Array.getElem?_eq_some_iff.1 hgg).1, by omega, fun j hj => ?_⟩⟩
    have hj' : j < xs.length := by omega
    obtain ⟨h1, h2⟩ := h.row j hj' hj
    obtain ⟨g1, g2⟩ := anc_get xs j hj'
    have c1 := ho.cellAt (j * 2) (by omega)
    have c2 := ho.cellAt (j * 2 + 1) (by omega)
    rw [g1] at c1
    rw [g2] at c2
    rw [Nat.zero_add]
    exact ⟨by rw [c1, h1], xs[j].2, c2, h2.se hg⟩
/-- two lists -/
structure LM2 (C : Nat) (w : World) (pv qv : Value) (xs ys : List (Bool × Value)) (L M : List (Bool × List Int)) : Prop where
  p : LM C w pv qv.ownBlock xs L
  q : LM C w qv pv.ownBlock ys M
theorem LM2.swap {C : Nat} {w : World} {pv qv : Value} {xs ys : List (Bool × Value)} {L M : List (Bool × List Int)} (h : LM2 C w pv qv xs ys L M) : LM2 C w qv pv ys xs M L := ⟨h.q, h.p⟩
theorem LM2.below {C : Nat} {w w' : World} {pv qv : Value} {xs ys : List (Bool × Value)} {L M : List (Bool × List Int)} (h : LM2 C w pv qv xs ys L M) (hb : Below w.heap.size w w') : LM2 C w' pv qv xs ys L M := ⟨h.p.below hb, h.q.below hb⟩
theorem LM2.grown {C g : Nat} {w w' : World} {pv qv : Value} {xs ys : List (Bool × Value)} {L M : List (Bool × List Int)} (h : LM2 C w pv qv xs ys L M) (hg : w.grownBy w' (some g)) (hgC : g < C) : LM2 C w' pv qv xs ys L M := ⟨h.p.grown hg hgC, h.q.grown hg hgC⟩
/-- the first one grows -/
theorem LM2.app {C g9 n cap : Nat} {w w' : World} {pv qv : Value} {xs ys : List (Bool × Value)} {L M : List (Bool × List Int)} {k : Bool} {v : Value} {l : List Int} (h : LM2 C w pv qv xs ys L M)
    (hv : SY C w pv.ownBlock qv.ownBlock v l) (ho : w'.ownsRow C 61 2 (.slice (some ⟨g9, 0, none⟩) n cap) (xs.length + 1) (xs.flatMap anc ++ [.bool k, v])) (hg : w.grownBy w' pv.ownBlock) (hat : pv.ownBlock = some g9 ∨ w.heap.size ≤ g9) : LM2 C w' (.slice (some ⟨g9, 0, none⟩) n cap) qv (xs ++ [(k, v)]) ys (L ++ [(k, l)]) M :=
  ⟨h.p.app (fun b hb => (h.q.ans.lt b hb).2) hv ho hg rfl hat, h.q.oth hg hat⟩
theorem LM2.qans {C : Nat} {w w4 : World} {pv qv : Value} {xs ys : List (Bool × Value)} {L M : List (Bool × List Int)} (h : LM2 C w pv qv xs ys L M) (o : Obj) (g4 : (w.alloc o).grownBy w4 pv.ownBlock) : w4.ownsRow C 61 2 qv ys.length (ys.flatMap anc) :=
  own_blk (h.q.ans.alloc o) fun b hb => g4.block b (by have := (h.q.ans.lt b hb).2; simp; omega) fun e => h.q.apl b hb e.symm
/-- both grow by one -/
theorem lm2_two {C ga gb ca cb : Nat} {w w4 w5 : World} {pv qv v1 v2 : Value} {xs ys : List (Bool × Value)} {L M : List (Bool × List Int)} {k : Bool} {l1 l2 : List Int} {o1 o2 : Obj} (h : LM2 C w pv qv xs ys L M) (hC : C ≤ w.heap.size)
    (h1 : SY C w pv.ownBlock qv.ownBlock v1 l1) (h2 : SY C w qv.ownBlock pv.ownBlock v2 l2)
    (o4 : w4.ownsRow C 61 2 (.slice (some ⟨ga, 0, none⟩) (xs.length + 1) ca) (xs.length + 1) (xs.flatMap anc ++ [.bool k, v1])) (g4 : (w.alloc o1).grownBy w4 pv.ownBlock) (a4 : pv.ownBlock = some ga ∨ ga = (w.alloc o1).heap.size)
    (o5 : w5.ownsRow C 61 2 (.slice (some ⟨gb, 0, none⟩) (ys.length + 1) cb) (ys.length + 1) (ys.flatMap anc ++ [.bool k, v2])) (g5 : (w4.alloc o2).grownBy w5 qv.ownBlock) (a5 : qv.ownBlock = some gb ∨ gb = (w4.alloc o2).heap.size) :
    LM2 C w5 (.slice (some ⟨ga, 0, none⟩) (xs.length + 1) ca) (.slice (some ⟨gb, 0, none⟩) (ys.length + 1) cb) (xs ++ [(k, v1)]) (ys ++ [(k, v2)]) (L ++ [(k, l1)]) (M ++ [(k, l2)]) ∧ Below C w w5 := by
  have b3 : Below w.heap.size w (w.alloc o1) := (Below.refl _ w).alloc (Nat.le_refl _) _
  have b4 : Below w4.heap.size w4 (w4.alloc o2) := (Below.refl _ w4).alloc (Nat.le_refl _) _
  have a4' : pv.ownBlock = some ga ∨ (w.alloc o1).heap.size ≤ ga := a4.imp id fun e => Nat.le_of_eq e.symm
  have a5' : qv.ownBlock = some gb ∨ (w4.alloc o2).heap.size ≤ gb := a5.imp id fun e => Nat.le_of_eq e.symm
  have k3 := (h.below b3).app (h1.below b3) o4 g4 a4'
  have s3 := (h2.below b3).oth g4 a4'
  have k5 := (k3.below b4).swap.app (s3.below b4) o5 g5 a5'
  refine ⟨k5.swap, ?_⟩
  have z3 := b3.size
  have z4 := g4.size
  have z5 := b4.size
  exact (((Below.refl C w).trans (b3.mono hC)).grown g4 (by omega) fun b hb => (h.p.ans.lt b hb).1).trans (((b4.mono (by omega)).grown g5 (by omega) fun b hb => (h.q.ans.lt b hb).1))
end Go.Proofs.YtoiabanpnkpbhaaGreatDoor
