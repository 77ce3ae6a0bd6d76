/- Joined: Kf Kg Kh Ki. -/
import Derived.Deep.RegionHeld3
import Derived.Deep.RegionLaw
import Derived.Deep.AppendLies
import Derived.Test.YtllnomembakboaaB04
import Derived.Test.YtllnomembakboaaB03
namespace Go.Proofs.Ytllnomembakboaa
open Go.RowKit

theorem step_append_el_at {α : Type} {P : Program} (enc : α → List Value) (w : World) {ops : Array Oper} {o : Oper} {a : Act} {K : Act → World → Prop} {Q : Exit → Act → World → Prop} {E : Prop} (hgd : o.guard = none) (s x : Operand) (t : TypeId)
    (ho : o.op = .call { callee := .builtin .append, args := #[s, x], argTypes := #[t, t] })
    (base : Nat) (e : TypeId) (z : Value) (sz bytes : Nat) (ht : P.underlying t = some (.slice e)) (hinfo : (P.info? e).map (fun i => (i.zero, i.size, i.bytes)) = some (some z, sz, bytes)) (hzs : z.cells.size = sz) (hsz : 0 < sz) (hby : bytes ≤ 64)
    (v : Value) (l : List α) (hs : a.eval s = v) (hown : w.ownsRow base e sz v l.length (l.flatMap enc))
    (y : α) (hl : (enc y).length = sz) (h1 : ∀ u ∈ enc y, u.oneCell' = true) (b : Nat) (hx : a.eval x = .slice (some ⟨b, 0, none⟩) 1 1) (hc : ∀ j u, (enc y)[j]? = some u → w.cell? ⟨b, j, none⟩ = some u)
    (hlen : l.length + 1 ≤ 1000000) (hbase : base ≤ w.heap.size)
    (h : ∀ g cap w', w'.ownsRow base e sz (.slice (some ⟨g, 0, none⟩) (l ++ [y]).length cap) (l ++ [y]).length ((l ++ [y]).flatMap enc) → w.grownBy w' v.ownBlock → (v.ownBlock = some g ∨ g = w.heap.size) → K (a.put o.dst (.slice (some ⟨g, 0, none⟩) (l ++ [y]).length cap)) w') :
    if Region.wanted o (yielded ops a.tmps) = true then Oper.wp P o a w K Q else E := by
  obtain ⟨i0, hi0, hz0, hz1, hz2⟩ := info_parts hinfo
  have hw : Region.wanted o (yielded ops a.tmps) = true := by simp [Region.wanted, hgd]
  rw [if_pos hw]
  have hbb : (l.length + 1) * bytes ≤ 1000000 * 64 := Nat.mul_le_mul hlen hby
  obtain ⟨v', w', hrun, h2, h3, h4⟩ := run_append_sc_at (P := P) w base t o.type e i0 z sz bytes ht hi0 hz0 hz1 hz2 hzs hsz v _ _ hown (b + 1) (.slice (some ⟨b, 0, none⟩) 1 1) 1 (enc y) ⟨_, 1, rfl, by omega, fun _ => ⟨b, 0, rfl, by omega, fun j u hu => by rw [Nat.zero_add]; exact hc j u hu⟩⟩ h1 (by unfold maxLen; omega) (by omega) hbase
  have h2' : w'.ownsRow base e sz v' (l ++ [y]).length ((l ++ [y]).flatMap enc) := by rw [List.length_append, List.flatMap_append]; simpa using h2
  rcases h2'.2 with ⟨_, hn'⟩ | ⟨g, cap, cur, rfl, hb, hg, hnc, hcm, hcs, htake⟩
  · simp at hn'
  · unfold Oper.wp execOp
    simp only [ho, resolve, invoke, builtin, Sem.run_bind, Sem.run_pure, Result.andThen_ok, List.map_toArray, List.map_cons, List.map_nil, hs, hx, hrun]
    refine h g cap w' h2' h3 ?_
    rcases h4 with e4 | e4
    · exact .inl (by rw [← e4]; rfl)
    · exact .inr (by simpa [Value.ownBlock] using e4)

theorem own_sl {w : World} {base e size n : Nat} {v : Value} {xs : List Value} (h : w.ownsRow base e size v n xs) : ∃ A c, v = .slice A n c := by
  rcases h.2 with ⟨rfl, rfl⟩ | ⟨g, cap, cur, rfl, _⟩
  · exact ⟨_, _, rfl⟩
  · exact ⟨_, _, rfl⟩
theorem cells_at (w : World) (cs : List Value) (t : TypeId) : ∀ j u, cs[j]? = some u → (w.alloc (.cells cs.toArray t)).cell? ⟨w.heap.size, j, none⟩ = some u := by
  intro j u hu
  have := cells_new w cs t j u hu
  rwa [addr_add] at this
/-- the pairs that the deck has given so far -/
def Prs (ps : List (Int × Int)) : Prop := ∀ p ∈ ps, 0 ≤ p.1 ∧ p.1 < 2147483647 ∧ 0 ≤ p.2 ∧ p.2 < 2147483647
theorem Prs.snoc {ps : List (Int × Int)} (h : Prs ps) {x y : Int} (hx : 0 ≤ x ∧ x < 1000) (hy : 0 ≤ y ∧ y < 1000) : Prs (ps ++ [(x, y)]) := fun p hp => by
  rcases List.mem_append.1 hp with hp | hp
  · exact h p hp
  · simp at hp; subst hp; omega
def HaR (B : Int) (K0 : Int) (g H R : Nat) (w w2 : World) (kv : Value) (wr : World) : Prop :=
  ∃ (ps : List (Int × Int)) (K : Int) (pv : Value), kv = .int .i64 K ∧ -1 ≤ K ∧ (ps.length : Int) + K = K0 ∧ Prs ps ∧ wr.heap[H]? = some (.cells #[.int .i64 B, pv] 25 (0, 0)) ∧
    wr.heap[R]? = some (.cells #[.int .i64 0, .slice none 0 0] 25 (0, 0)) ∧ wr.ownsRow w2.heap.size 69 2 pv ps.length (ps.flatMap hcs) ∧ Dk wr g ∧ w.grownBy wr (some g) ∧ w2.heap.size ≤ wr.heap.size
set_option maxRecDepth 100000 in
set_option maxHeartbeats 8000000 in
theorem hashing_any (g : Nat) (w : World) (h : Dk w g) :
    Calls Try.prog 29 #[.pointer (some ⟨g, 0, none⟩)] w fun e w' => ∃ B ps pv, e = .returned (.agg #[.int .i64 B, pv]) ∧ HV B ps ∧ w'.ownsRow w.heap.size 69 2 pv ps.length (ps.flatMap hcs) ∧ Dk w' g ∧ w.grownBy w' (some g) := by
  have hlg := h.lt
  go_enter Try.func29, Try.ntmps29
  obtain ⟨R, eR⟩ : ∃ R, R = w.heap.size := ⟨_, rfl⟩
  obtain ⟨w1, ew1⟩ : ∃ w1 : World, w1 = w.alloc (.cells #[.int .i64 0, .slice none 0 0] 25) := ⟨_, rfl⟩
  have HWw1 : Hid (w.alloc (.cells #[.int .i64 0, .slice none 0 0] 25) = w1) := ew1.symm
  have HAw1 : Hid (Below w.heap.size w w1) := (show Hid _ from by rw [ew1]; exact (Below.refl _ w).alloc (Nat.le_refl _) _)
  have HR0w1 : Hid (w1.heap[R]? = some (.cells #[.int .i64 0, .slice none 0 0] 25 (0, 0))) := (show Hid _ from by show _ = _; rw [ew1, eR]; exact heap_alloc_new w _)
  have HRw := Lib.hid eR
  have hR1 : R < w1.heap.size := heap_of_cells HR0w1.out
  have HD1 := Lib.hid (h.below HAw1.out)
  have hz1 := HAw1.out.size
  clear h
  go_upto_region 1 with fail
  rw [HWw1.out, ← eR]
  clear ew1 eR
  go_wp2_with fail
  (with_reducible refine (next_any 8 g w1 HD1.out (by unfold i64r; omega) (by omega)).mono ?_)
  rintro e w2 ⟨x, rfl, _, hx, hd2, hg2⟩
  have hx := hx (by omega)
  have HD2 := Lib.hid hd2
  have HG2 := Lib.hid hg2
  have hz2 := hg2.size
  have w0 : IntKind.i64.wrap (1 + x) = 1 + x := by exact IntWalk.i64_in _ (by omega)
  clear hd2 hg2
  obtain ⟨B, eB⟩ : ∃ B, B = 1 + x := ⟨_, rfl⟩
  obtain ⟨H, eH⟩ : ∃ H, H = w2.heap.size := ⟨_, rfl⟩
  go_wp2_with fail
  (with_reducible refine (next_any 3 g _ (HD2.out.alloc _) (by unfold i64r; omega) (by omega)).mono ?_)
  rintro e w3 ⟨y, rfl, _, hy, hd3, hg3⟩
  have hy := hy (by omega)
  rw [← eB] at hg3 ⊢
  rw [← eH]
  have hgH : g ≠ H := by omega
  have HH3 : Hid (w3.heap[H]? = some (.cells #[.int .i64 B, .slice none 0 0] 25 (0, 0))) := (show Hid _ from by
    show _ = _
    rw [hg3.block H (by simp; omega) (by simp; omega), eH]
    exact heap_alloc_new w2 _)
  have HG3 : Hid (w.grownBy w3 (some g)) := (show Hid _ from grownBy_trans (grownBy_of_below HAw1.out _) (grownBy_trans HG2.out (grownBy_trans (World.grownBy_alloc _ _ _) hg3)))
  have HR3 : Hid (w3.heap[R]? = some (.cells #[.int .i64 0, .slice none 0 0] 25 (0, 0))) := (show Hid _ from by
    show _ = _
    have hR := HRw.out
    rw [hg3.block R (by simp; omega) (by simp; omega), Below.heap_alloc _ _ _ (by omega), HG2.out.block R (by omega) (by simp; omega)]
    exact HR0w1.out)
  have hz3 : w2.heap.size + 1 ≤ w3.heap.size := by have := hg3.size; simpa using this
  have hb1 : 1 ≤ B := by omega
  have hb2 : B ≤ 64 := by omega
  have HD3 := Lib.hid hd3
  have hHlt : H < w3.heap.size := by omega
  have hHw : w.heap.size ≤ H := by have := HG2.out.size; omega
  have hRH : R < H := by have := HRw.out; omega
  clear hg3 hd3 eB w0 hx eH
  go_wp2_with fail
  go_loopw [4] (fun kv wr => HaR B y g H R w w3 kv wr) (fun kv _ => (intOf kv + 1).toNat)
  case atStart => exact ⟨[], y, _, rfl, by omega, by simp, fun p hp => by simp at hp, HH3.out, HR3.out, World.ownsRow_nil _ _ _ _, HD3.out, HG3.out, Nat.le_refl _⟩
  case round =>
    obtain ⟨ps, K, pv, rfl, hK, hl, hps, hH, hRr, hown, hdk, hgr, hsz⟩ := hrel
    have HPS := Lib.hid hps
    have HHr := Lib.hid hH
    have HRr := Lib.hid hRr
    have HO := Lib.hid hown
    have HDr := Lib.hid hdk
    have HGr := Lib.hid hgr
    have c1 : wr.cell? ⟨H, 1, none⟩ = some pv := cell_of_row wr H 1 _ _ _ hH
    clear hps hH hRr hown hdk hgr
    by_cases h0 : 0 ≤ K
    · have hnb : ∀ q, pv.ownBlock = some q → w3.heap.size ≤ q := fun q hq => (HO.out.lt q hq).1
      have hHr : H < wr.heap.size := heap_of_cells HHr.out
      have HBL : Hid (∀ (a b c : World) (o : Obj) (X : Nat), wr.grownBy a (some g) → a.grownBy b (some g) → (b.alloc o).grownBy c pv.ownBlock → X < wr.heap.size → X ≠ g → X < w3.heap.size → ∀ ob, wr.heap[X]? = some ob → c.heap[X]? = some ob) := (show Hid _ from fun a b c o X h1 h2 h3 hX hXg hX3 ob hob => by
        have s1 := h1.size
        have s2 := h2.size
        rw [h3.block X (by simp; omega) (fun e => by have := hnb X e.symm; omega), Below.heap_alloc _ _ _ (by omega), h2.block X (by omega) (by simp; omega), h1.block X hX (by simp; omega)]
        exact hob)
      go_wp2_with fail
      go_region_law (first
        | (go_simp; go_at_call 13; refine (next_any 1000 g _ (by first | exact HD8.out | exact HD8.out.below (Below.refl _ _).drew) (by unfold i64r; omega) (by omega)).mono ?_; rintro e9 w9 ⟨x9, rfl, _, hx9, hd9, hg9⟩; have hx9 := hx9 (by omega); have HD9 := Lib.hid hd9; have HG9 : Hid (w8.grownBy w9 (some g)) := (show Hid _ from ⟨hg9.os, hg9.tape, hg9.output, hg9.size, hg9.block⟩); have hz9 := HG9.out.size; have hH9 : H < w9.heap.size := (by omega); have HO9 : Hid (w9.ownsRow w3.heap.size 69 2 pv ps.length (ps.flatMap hcs)) := (show Hid _ from HO8.out.kept HG9.out (.inr (fun e => by have := hnb g e; omega))); have c1 : w9.cell? ⟨H, 1, none⟩ = some pv := HG9.out.cell c1 (by simp; omega); clear hd9 hg9)
        | (go_simp; go_at_call 13; refine (next_any 1000 g _ (by first | exact HDr.out | exact HDr.out.below (Below.refl _ _).drew) (by unfold i64r; omega) (by omega)).mono ?_; rintro e8 w8 ⟨x8, rfl, _, hx8, hd8, hg8⟩; have hx8 := hx8 (by omega); have HD8 := Lib.hid hd8; have HG8 : Hid (wr.grownBy w8 (some g)) := (show Hid _ from ⟨hg8.os, hg8.tape, hg8.output, hg8.size, hg8.block⟩); have hz8 := HG8.out.size; have hH8 : H < w8.heap.size := (by omega); have HO8 : Hid (w8.ownsRow w3.heap.size 69 2 pv ps.length (ps.flatMap hcs)) := (show Hid _ from HO.out.kept HG8.out (.inr (fun e => by have := hnb g e; omega))); have c1 : w8.cell? ⟨H, 1, none⟩ = some pv := HG8.out.cell c1 (by simp; omega); clear hd8 hg8)
        | (refine step_append_el_at hcs _ (by rfl) (.tmp 16) _ 23 (by rfl) w3.heap.size 69 _ 2 16 Try.underlying23 hinfo rfl (by omega) (by omega) pv ps (by rfl) (by first | exact HO9.out.alloc _ | exact (HO9.out.alloc _).drew) (x8, x9) rfl (hcs_one _) w9.heap.size (by rfl) (by exact cells_at w9 (hcs (x8, x9)) _) (by omega) (by simp; omega) ?_; intro g5 cap5 w5 ho5 hg5 ha5; have HO5 := Lib.hid ho5; have HG5 : Hid ((w9.alloc (.cells (hcs (x8, x9)).toArray 69)).grownBy w5 pv.ownBlock) := (show Hid _ from ⟨hg5.os, hg5.tape, hg5.output, hg5.size, hg5.block⟩); have HH5 : Hid (w5.heap[H]? = some (.cells #[.int .i64 B, pv] 25 (0, 0))) := (show Hid _ from HBL.out w8 w9 w5 _ H HG8.out HG9.out HG5.out (by omega) (by omega) (by omega) _ HHr.out); have c1 : w5.cell? ⟨H, 1, none⟩ = some pv := cell_of_row w5 H 1 _ _ _ HH5.out; have f1 : w5.frozen? ⟨H, 1, none⟩ = false := frozen_of_row w5 H 1 _ _ HH5.out; clear ho5 hg5 ha5))
      all_goals
        go_wp2_with fail
        go_roundw
        case rel =>
          have hg59 := HG5.out
          have hm : w5.grownBy (w5.setCell ⟨H, 1, none⟩ (.slice (some ⟨g5, 0, none⟩) (ps ++ [(x8, x9)]).length cap5)) (some H) := grownBy_setCell (grownBy_refl _ _) (.inl rfl) _
          have ho := (HO5.out.lt g5 rfl).1
          have hRw := HRw.out
          have hgw : w.grownBy w5 (some g) := grownBy_own (grownBy_alloc' (grownBy_trans HGr.out (grownBy_trans HG8.out HG9.out)) _) hg59 (fun q hq => by have := hnb q hq; have := HG3.out.size; omega)
          have hdk : Dk w5 g := (HD9.out.alloc _).grown hg59 (fun q hq => by have := hnb q hq; omega)
          refine ⟨ps ++ [(x8, x9)], K - 1, .slice (some ⟨g5, 0, none⟩) (ps ++ [(x8, x9)]).length cap5, by go_num, by omega, by simp; omega, HPS.out.snoc hx8 hx9, ?_, ?_, ?_, ?_, ?_, ?_⟩
          · simpa using heap_setCell_same w5 H 1 _ _ (.slice (some ⟨g5, 0, none⟩) (ps ++ [(x8, x9)]).length cap5) HH5.out
          · have := (hm.block R (by have := heap_of_cells HH5.out; omega) (by simp; omega)).trans (HBL.out w8 w9 w5 _ R HG8.out HG9.out hg59 (by omega) (by omega) (by omega) _ HRr.out)
            simpa using this
          · have := HO5.out.kept hm (.inr (by simp [Value.ownBlock]; omega))
            simpa using this
          · have := hdk.grown hm (fun q hq => by simp at hq; omega)
            simpa using this
          · have := grownBy_setCell hgw (p := ⟨H, 1, none⟩) (.inr hHw) (.slice (some ⟨g5, 0, none⟩) (ps ++ [(x8, x9)]).length cap5)
            simpa using this
          · have h1 := hg59.size
            have h2 := hm.size
            simp at h1 h2 ⊢
            omega
        case measure => simp [intOf]; omega
    · have x0 : wr.cell? ⟨H, 0, none⟩ = some (.int .i64 B) := cell_of_row wr H 0 _ _ _ HHr.out
      have y0 : wr.cell? ⟨R, 0, none⟩ = some (.int .i64 0) := cell_of_row wr R 0 _ _ _ HRr.out
      have y1 : wr.cell? ⟨R, 1, none⟩ = some (.slice none 0 0) := cell_of_row wr R 1 _ _ _ HRr.out
      have f0 := frozen_of_row wr R 0 _ _ HRr.out
      have f1 := frozen_of_row wr R 1 _ _ HRr.out
      obtain ⟨A, cc, rfl⟩ := own_sl HO.out
      have hsl : w.heap.size ≤ R := by have := HRw.out; omega
      have hm1 : w.grownBy ((wr.setCell ⟨R, 0, none⟩ (.int .i64 B)).setCell ⟨R, 1, none⟩ (.slice A ps.length cc)) (some g) := grownBy_setCell (grownBy_setCell HGr.out (.inr hsl) _) (.inr hsl) _
      have hm2 : wr.grownBy ((wr.setCell ⟨R, 0, none⟩ (.int .i64 B)).setCell ⟨R, 1, none⟩ (.slice A ps.length cc)) (some R) := grownBy_setCell (g := R) (p := ⟨R, 1, none⟩) (grownBy_setCell (g := R) (p := ⟨R, 0, none⟩) (grownBy_refl wr _) (.inl rfl) _) (.inl rfl) _
      have hE := heap_setCell_same _ R 1 _ _ (.slice A ps.length cc) (heap_setCell_same wr R 0 _ _ (.int .i64 B) HRr.out)
      have hv : HV B ps := ⟨hb1, hb2, by omega, by omega, HPS.out⟩
      have HM1 := Lib.hid hm1
      have HM2 := Lib.hid hm2
      have HE := Lib.hid hE
      have hw3 := HG3.out.size
      clear hm1 hm2 hE
      go_wp2_with fail
      have hm1 := HM1.out
      have hm2 := HM2.out
      have hE := HE.out
      generalize ((wr.setCell ⟨R, 0, none⟩ (.int .i64 B)).setCell ⟨R, 1, none⟩ (.slice A ps.length cc)) = wE at hm1 hm2 hE ⊢
      have q0 : wE.cell? ⟨R, 0, none⟩ = some (.int .i64 B) := cell_of_row wE R 0 _ _ _ hE
      have q1 : wE.cell? ⟨R, 1, none⟩ = some (.slice A ps.length cc) := cell_of_row wE R 1 _ _ _ hE
      refine bodyPost_ret (v := .agg #[.int .i64 B, .slice A ps.length cc]) (by simp [results, Try.results29, go_sem, q0, q1]) rfl ?_
      exact ⟨B, ps, _, rfl, hv, own_lo (HO.out.kept hm2 (.inr (fun e => by have := (HO.out.lt R e).1; omega))) hw3, HDr.out.grown hm2 (fun q hq => by simp at hq; omega), hm1⟩
end Go.Proofs.Ytllnomembakboaa

namespace Go.Proofs.Ytllnomembakboaa
open Go.RowKit

/-- different texts of the deck's make -/
def Wds (ws : List ByteArray) : Prop := (∀ s ∈ ws, wrd s) ∧ ws.Nodup
def hasS (ws : List ByteArray) (s : ByteArray) : Bool := ws.any fun x => x.toList == s.toList
theorem hasS_snoc (ws : List ByteArray) (s : ByteArray) (k : Nat) (h : k < ws.length) : hasS (ws.take (k + 1)) s = (hasS (ws.take k) s || (ws[k].toList == s.toList)) := by
  unfold hasS
  rw [List.take_succ_eq_append_getElem h, List.any_append]
  show (_ || (ws[k].toList == s.toList || false)) = _
  rw [Bool.or_false]
theorem Wds.snoc {ws : List ByteArray} {s : ByteArray} (h : Wds ws) (hs : wrd s) (hn : hasS ws s = false) : Wds (ws ++ [s]) := by
  refine ⟨fun x hx => ?_, ?_⟩
  · rcases List.mem_append.1 hx with hx | hx
    · exact h.1 x hx
    · simp at hx; subst hx; exact hs
  · rw [List.nodup_append]
    refine ⟨h.2, List.pairwise_singleton _ _, fun a ha b hb e => ?_⟩
    simp at hb
    subst hb e
    have : hasS ws a = true := by
      unfold hasS
      rw [List.any_eq_true]
      exact ⟨a, ha, by simp⟩
    rw [this] at hn
    cases hn
def WoR (n : Int) (g : Nat) (w w1 : World) (ov kv : Value) (wr : World) : Prop :=
  ∃ (ws : List ByteArray) (K : Int), kv = .int .i64 K ∧ 0 ≤ K ∧ (ws.length : Int) + K ≤ n ∧ Wds ws ∧ wr.ownsRow w1.heap.size 9 1 ov ws.length (ws.flatMap scs) ∧ Dk wr g ∧ w.grownBy wr (some g) ∧ w1.heap.size ≤ wr.heap.size
set_option maxRecDepth 100000 in
set_option maxHeartbeats 8000000 in
theorem words_any (n : Int) (g : Nat) (w : World) (h : Dk w g) (hn0 : 0 ≤ n) (hn1 : n ≤ 1000) :
    Calls Try.prog 30 #[.pointer (some ⟨g, 0, none⟩), .int .i64 n] w fun e w' => ∃ ws v, e = .returned v ∧ Wds ws ∧ (ws.length : Int) ≤ n ∧ w'.ownsRow w.heap.size 9 1 v ws.length (ws.flatMap scs) ∧ Dk w' g ∧ w.grownBy w' (some g) := by
  have hlg := h.lt
  have wn : IntKind.i64.wrap (n + 1) = n + 1 := by exact IntWalk.i64_in _ (by omega)
  go_enter Try.func30, Try.ntmps30
  go_wp2_with fail
  (with_reducible refine (next_any (n + 1) g w h (by unfold i64r; omega) (by omega)).mono ?_)
  rintro e w1 ⟨x, rfl, _, hx, hd1, hg1⟩
  have hx := hx (by omega)
  have HG1 := Lib.hid hg1
  have hz1 := hg1.size
  clear h hg1
  go_wp2_with fail
  go_loopw [5, 6] (fun ov kv wr => WoR n g w w1 ov kv wr) (fun _ kv _ => (intOf kv).toNat)
  case atStart => exact ⟨[], x, rfl, hx.1, by simp; omega, ⟨fun s hs => by simp at hs, List.nodup_nil⟩, World.ownsRow_nil _ _ _ _, hd1, HG1.out, Nat.le_refl _⟩
  case round =>
    obtain ⟨ws, K, rfl, hK, hl, hws, hown, hdk, hgr, hsz⟩ := hrel
    have HWS := Lib.hid hws
    have HO := Lib.hid hown
    have HGr := Lib.hid hgr
    clear hws hown hgr
    by_cases h0 : 0 < K
    · have hnb : ∀ q, u5.ownBlock = some q → w1.heap.size ≤ q := fun q hq => (HO.out.lt q hq).1
      go_wp2_with fail
      (with_reducible refine (word_any g wr hdk).mono ?_)
      rintro e w2 ⟨s, rfl, hs, hd2, hg2⟩
      have HS := Lib.hid hs
      have HD2 := Lib.hid hd2
      have HG2 : Hid (w.grownBy w2 (some g)) := (show Hid _ from grownBy_trans HGr.out hg2)
      have HO2 : Hid (w2.ownsRow w1.heap.size 9 1 u5 ws.length (ws.flatMap scs)) := (show Hid _ from HO.out.kept hg2 (.inr (fun e => by have := hnb g e; omega)))
      have hz2 : w1.heap.size ≤ w2.heap.size := by have := hg2.size; omega
      clear hs hd2 hg2
      obtain ⟨A, c, rfl⟩ := own_sl HO2.out
      have HV : Hid (SV scs 1 w2.heap.size w2 (.slice A ws.length c) ws) := (show Hid _ from SV.of_own HO2.out (fun x _ => scs_len x))
      obtain ⟨wo, rfl⟩ : ∃ wo : World, wo = wr := ⟨_, rfl⟩
      go_wp2_with fail
      go_loopw [8, 23] (fun fv iv wq => ∃ k : Nat, k ≤ ws.length ∧ iv = .int .i64 k ∧ fv = .bool (hasS (ws.take k) s) ∧ wq = w2) (fun _ iv _ => ws.length - (intOf iv).toNat)
      case atStart => exact ⟨0, Nat.zero_le _, rfl, rfl, rfl⟩
      case round =>
        obtain ⟨k, hk, rfl, rfl, rfl⟩ := hrel
        by_cases hlt : k < ws.length
        · obtain ⟨_, hat⟩ := HV.out.at
          obtain ⟨b, off, rfl, hb, hcell⟩ := hat k hlt
          have c0 : wr.cell? ⟨b, off + k, none⟩ = some (.string ws[k]) := by
            have := hcell wr (Below.refl _ _) 0 (by omega)
            simpa [scs] using this
          have HSN := Lib.hid (hasS_snoc ws s k hlt)
          have wk : IntKind.i64.wrap ((k : Int) + 1) = (k : Int) + 1 := by exact IntWalk.i64_in _ (by omega)
          obtain ⟨y, hy⟩ : ∃ y, y = ws[k] := ⟨_, rfl⟩
          rw [← hy] at c0 HSN
          clear hat hcell hy
          cases hf : hasS (ws.take k) s
          · rw [hf] at HSN
            go_wp2_with fail
            exact ⟨⟨k + 1, by omega, rfl, by rw [HSN.out]; rfl, trivial⟩, by simp [intOf]; omega⟩
          · rw [hf] at HSN
            go_wp2_with fail
            exact ⟨⟨k + 1, by omega, rfl, by rw [HSN.out]; rfl, trivial⟩, by simp [intOf]; omega⟩
        · obtain rfl : k = ws.length := by omega
          rw [List.take_length]
          cases hf : hasS ws s
          · go_wp2_with (at_builtin; refine wpList_append_el scs _ rfl _ _ 39 rfl w1.heap.size 9 _ 1 16 Try.underlying39 sinfo rfl (by omega) (by omega) _ ws (by rfl) (by exact HO2.out) s rfl (scs_one s) (by rfl) ?c1 ?c2 ?_)
            case c1 => omega
            case c2 => exact hz2
            intro v4 w4 ho4 hg4
            have HO4 : Hid (w4.ownsRow w1.heap.size 9 1 v4 (ws ++ [s]).length ((ws ++ [s]).flatMap scs)) := (show Hid _ from by show World.ownsRow _ _ _ _ _ _ _; simpa using ho4)
            have HD4 : Hid (Dk w4 g) := (show Hid _ from (HD2.out.alloc _).grown hg4 (fun q hq => by have := hnb q hq; omega))
            have HG4 : Hid (w.grownBy w4 (some g)) := (show Hid _ from grownBy_own (grownBy_alloc' HG2.out _) hg4 (fun q hq => by have := hnb q hq; omega))
            have hz4 : w1.heap.size ≤ w4.heap.size := by have := hg4.size; simp at this; omega
            have HW4 := Lib.hid (HWS.out.snoc HS.out hf)
            clear ho4 hg4 hnb
            go_wp2_with fail
            go_roundw
            case rel => exact ⟨ws ++ [s], K - 1, by go_num, by omega, by simp; omega, HW4.out, HO4.out, HD4.out, HG4.out, hz4⟩
            case measure => simp [intOf]; omega
          · go_wp2_with fail
            go_roundw
            case rel => exact ⟨ws, K - 1, by go_num, by omega, by omega, HWS.out, HO2.out, HD2.out, HG2.out, hz2⟩
            case measure => simp [intOf]; omega
    · go_wp2_with fail
      refine bodyPost_ret (v := u5) (by simp [results, Try.results30, go_sem]) rfl ?_
      exact ⟨ws, u5, rfl, HWS.out, by omega, own_lo HO.out hz1, hdk, HGr.out⟩
end Go.Proofs.Ytllnomembakboaa

namespace Go.Proofs.Ytllnomembakboaa
open Go.RowKit

/-- entries of the deck's make: different short keys, small values -/
def Ens (es : List (ByteArray × Int)) : Prop := Wds (es.map (·.1)) ∧ ∀ e ∈ es, 0 ≤ e.2 ∧ e.2 < 1000
theorem Ens.val {es : List (ByteArray × Int)} (h : Ens es) : ∀ e ∈ es, ven e = true := fun e he => by
  have h1 := h.1.1 e.1 (List.mem_map_of_mem he)
  have h2 := h.2 e he
  unfold wrd at h1
  simp [ven, ky]
  omega
def EnR (n : Nat) (g : Nat) (ws : List ByteArray) (w1 : World) (ov iv : Value) (wr : World) : Prop :=
  ∃ es : List (ByteArray × Int), iv = .int .i64 es.length ∧ es.length ≤ n ∧ es.map (·.1) = ws.take es.length ∧ (∀ e ∈ es, 0 ≤ e.2 ∧ e.2 < 1000) ∧ wr.ownsRow w1.heap.size 41 2 ov es.length (es.flatMap ecs) ∧ Dk wr g ∧ w1.grownBy wr (some g)
set_option maxRecDepth 100000 in
set_option maxHeartbeats 8000000 in
theorem entries_any (n : Int) (g : Nat) (w : World) (h : Dk w g) (hn0 : 0 ≤ n) (hn1 : n ≤ 1000) :
    Calls Try.prog 14 #[.pointer (some ⟨g, 0, none⟩), .int .i64 n] w fun e w' => ∃ es v, e = .returned v ∧ Ens es ∧ (es.length : Int) ≤ n ∧ w'.ownsRow w.heap.size 41 2 v es.length (es.flatMap ecs) ∧ Dk w' g ∧ w.grownBy w' (some g) := by
  have hlg := h.lt
  go_enter Try.func14, Try.ntmps14
  go_wp2_with fail
  (with_reducible refine (words_any n g w h hn0 hn1).mono ?_)
  rintro e w1 ⟨ws, v, rfl, hws, hwl, ho1, hd1, hg1⟩
  have HWS := Lib.hid hws
  have HG1 := Lib.hid hg1
  have HD1 := Lib.hid hd1
  have hz1 := hg1.size
  have HO1 := Lib.hid ho1
  obtain ⟨A, c, rfl⟩ := own_sl ho1
  have HV : Hid (SV scs 1 w1.heap.size w1 (.slice A ws.length c) ws) := (show Hid _ from SV.of_own ho1 (fun x _ => scs_len x))
  clear h hg1 hws hd1 ho1
  go_wp2_with fail
  go_loopw [5, 12] (fun ov iv wr => EnR ws.length g ws w1 ov iv wr) (fun _ iv _ => ws.length - (intOf iv).toNat)
  case atStart => exact ⟨[], rfl, Nat.zero_le _, rfl, by simp, World.ownsRow_nil _ _ _ _, HD1.out, grownBy_refl _ _⟩
  case round =>
    obtain ⟨es, rfl, hl, hm, hr, hown, hdk, hgr⟩ := hrel
    have HM := Lib.hid hm
    have HR := Lib.hid hr
    have HO := Lib.hid hown
    have HGr := Lib.hid hgr
    have hzr := hgr.size
    clear hm hr hown hgr
    by_cases h0 : es.length < ws.length
    · have hnb : ∀ q, u5.ownBlock = some q → w1.heap.size ≤ q := fun q hq => (HO.out.lt q hq).1
      obtain ⟨_, hat⟩ := HV.out.at
      obtain ⟨b, off, rfl, hb, hcell⟩ := hat es.length h0
      have hgb : b ≠ g := by
        intro e
        have := (HO1.out.lt b rfl).1
        omega
      have c0 : wr.cell? ⟨b, off + es.length, none⟩ = some (.string ws[es.length]) := by
        have := hcell w1 (Below.refl _ _) 0 (by omega)
        rw [HGr.out.cell (by simpa [scs] using this) (by simpa using hgb)]
      have HT := Lib.hid (List.take_succ_eq_append_getElem h0)
      obtain ⟨y, hy⟩ : ∃ y, y = ws[es.length] := ⟨_, rfl⟩
      rw [← hy] at c0 HT
      have wk : IntKind.i64.wrap ((es.length : Int) + 1) = (es.length : Int) + 1 := by exact IntWalk.i64_in _ (by omega)
      clear hat hcell hy
      go_wp2_with fail
      (with_reducible refine (next_any 1000 g wr hdk (by unfold i64r; omega) (by omega)).mono ?_)
      rintro e w2 ⟨x, rfl, _, hx, hd2, hg2⟩
      have hx := hx (by omega)
      have HD2 := Lib.hid hd2
      have HG2 : Hid (w1.grownBy w2 (some g)) := (show Hid _ from grownBy_trans HGr.out hg2)
      have HO2 : Hid (w2.ownsRow w1.heap.size 41 2 u5 es.length (es.flatMap ecs)) := (show Hid _ from HO.out.kept hg2 (.inr (fun e => by have := hnb g e; omega)))
      have hz2 := HG2.out.size
      clear hd2 hg2 c0
      go_wp2_with (at_builtin; refine wpList_append_el ecs _ rfl _ _ 29 rfl w1.heap.size 41 _ 2 24 Try.underlying29 einfo rfl (by omega) (by omega) _ es (by rfl) (by exact HO2.out) (y, x) rfl (ecs_one _) (by rfl) ?c1 ?c2 ?_)
      case c1 => omega
      case c2 => exact hz2
      intro v4 w4 ho4 hg4
      have HO4 : Hid (w4.ownsRow w1.heap.size 41 2 v4 (es ++ [(y, x)]).length ((es ++ [(y, x)]).flatMap ecs)) := (show Hid _ from by show World.ownsRow _ _ _ _ _ _ _; simpa using ho4)
      have HD4 : Hid (Dk w4 g) := (show Hid _ from (HD2.out.alloc _).grown hg4 (fun q hq => by have := hnb q hq; omega))
      have HG4 : Hid (w1.grownBy w4 (some g)) := (show Hid _ from grownBy_own (grownBy_alloc' HG2.out _) hg4 (fun q hq => hnb q hq))
      clear ho4 hg4 hnb
      go_wp2_with fail
      go_roundw
      case rel => exact ⟨es ++ [(y, x)], by simp, by simp; omega, by rw [List.map_append, HM.out, List.length_append, List.length_singleton, HT.out]; rfl, fun e he => by
        rcases List.mem_append.1 he with he | he
        · exact HR.out e he
        · simp at he; subst he; exact hx, HO4.out, HD4.out, HG4.out⟩
      case measure => simp [intOf]; omega
    · have hel : es.length = ws.length := by omega
      have hmm : es.map (·.1) = ws := by rw [HM.out, hel, List.take_length]
      have HMM := Lib.hid hmm
      clear hmm
      go_wp2_with fail
      refine bodyPost_ret (v := u5) (by simp [results, Try.results14, go_sem]) rfl ?_
      exact ⟨es, u5, rfl, ⟨by rw [HMM.out]; exact HWS.out, HR.out⟩, by omega, own_lo HO.out hz1, hdk, grownBy_trans HG1.out HGr.out⟩
end Go.Proofs.Ytllnomembakboaa

namespace Go.Proofs.Ytllnomembakboaa
open Go.RowKit

def one (u : Value) : List Value := [u]
/-- lists of lists below block B -/
def SLb (B : Nat) (w : World) (v : Value) (ls : List (List Int)) : Prop :=
  ∃ vs : List Value, vs.length = ls.length ∧ SV one 1 B w v vs ∧ ∀ j (h1 : j < vs.length) (h2 : j < ls.length), SB B w vs[j] ls[j]
theorem SLb.below {B : Nat} {w w' : World} {v : Value} {ls : List (List Int)} (h : SLb B w v ls) (hb : Below B w w') : SLb B w' v ls := by
  obtain ⟨vs, h1, h2, h3⟩ := h
  exact ⟨vs, h1, h2.below hb, fun j a b => (h3 j a b).below hb⟩
theorem SLb.more {B B' : Nat} {w : World} {v : Value} {ls : List (List Int)} (h : SLb B w v ls) (hb : B ≤ B') : SLb B' w v ls := by
  obtain ⟨vs, h1, h2, h3⟩ := h
  exact ⟨vs, h1, h2.more hb, fun j a b => (h3 j a b).more hb⟩
theorem SLb.form {B : Nat} {w : World} {v : Value} {ls : List (List Int)} (h : SLb B w v ls) : ∃ A c, v = .slice A ls.length c := by
  obtain ⟨vs, h1, h2, h3⟩ := h
  obtain ⟨A, c, e⟩ := h2.form
  exact ⟨A, c, by rw [e, h1]⟩
theorem SLb.row {B n c : Nat} {A : Option Addr} {w : World} {ls : List (List Int)} (h : SLb B w (.slice A n c) ls) (j : Nat) (hj : j < ls.length) :
    ∃ b off A' c', A = some ⟨b, off, none⟩ ∧ b < B ∧ w.cell? ⟨b, off + j, none⟩ = some (.slice A' ls[j].length c') ∧ SB B w (.slice A' ls[j].length c') ls[j] := by
  obtain ⟨vs, h1, h2, h3⟩ := h
  obtain ⟨_, hat⟩ := h2.at
  obtain ⟨b, off, rfl, hb, hcell⟩ := hat j (by omega)
  have hs := h3 j (by omega) hj
  obtain ⟨A', c', e, _⟩ := id hs
  have := hcell w (Below.refl _ _) 0 (by omega)
  rw [e] at hs
  refine ⟨b, off, A', c', rfl, hb, ?_, hs⟩
  rw [← e]
  simpa [one] using this
theorem SLb.drop {B n c b off : Nat} {w : World} {ls : List (List Int)} (h : SLb B w (.slice (some ⟨b, off, none⟩) n c) ls) (k : Nat) (hk : k ≤ ls.length) (hn : n = ls.length) : SLb B w (.slice (some ⟨b, off + k, none⟩) (n - k) (c - k)) (ls.drop k) := by
  obtain ⟨vs, h1, ⟨A, c', e, hc, hm, ha⟩, h3⟩ := h
  injection e with e1 e2 e3
  subst e3
  refine ⟨vs.drop k, by simp; omega, ⟨some ⟨b, off + k, none⟩, c - k, by simp; omega, by simp; omega, by omega, fun h0 => ?_⟩, fun j a b' => ?_⟩
  · obtain ⟨b2, off2, e4, hb2, hcell⟩ := ha (by simp at h0; omega)
    rw [← e1] at e4
    injection e4 with e5
    injection e5 with e6 e7
    subst e6 e7
    refine ⟨b, off + k, rfl, hb2, fun j hj i hi => ?_⟩
    have := hcell (k + j) (by simp at hj; omega) i hi
    rw [show off + k + (j * 1 + i) = off + ((k + j) * 1 + i) by omega, this]
    simp
  · have := h3 (k + j) (by simp at a; omega) (by simp at b'; omega)
    simpa using this

/-- how many have not been tried -/
def cf (sn : List Bool) : Nat := sn.countP (· == false)
theorem cf_set {sn : List Bool} {b : Nat} (h : b < sn.length) (hf : sn[b] = false) : cf (sn.set b true) + 1 = cf sn := by
  induction sn generalizing b with
  | nil => simp at h
  | cons x sn ih =>
    cases b with
    | zero =>
      simp only [List.getElem_cons_zero] at hf
      subst hf
      simp [cf]
    | succ b =>
      have := ih (b := b) (by simpa using h) (by simpa using hf)
      unfold cf at this ⊢
      simp only [List.set_cons_succ, List.countP_cons]
      omega
/-- what was tried stays tried, and its bucket as it was -/
def KP (sn : List Bool) (ls : List (List Int)) (vs : List Value) (sn' : List Bool) (ls' : List (List Int)) (vs' : List Value) : Prop :=
  sn'.length = sn.length ∧ ls'.length = ls.length ∧ vs'.length = vs.length ∧ cf sn' ≤ cf sn ∧ ∀ b : Nat, sn[b]? = some true → sn'[b]? = some true ∧ ls'[b]? = ls[b]? ∧ vs'[b]? = vs[b]?
theorem KP.refl (sn : List Bool) (ls : List (List Int)) (vs : List Value) : KP sn ls vs sn ls vs := ⟨rfl, rfl, rfl, Nat.le_refl _, fun _ h => ⟨h, rfl, rfl⟩⟩
theorem KP.trans {s1 s2 s3 : List Bool} {l1 l2 l3 : List (List Int)} {v1 v2 v3 : List Value} (h : KP s1 l1 v1 s2 l2 v2) (k : KP s2 l2 v2 s3 l3 v3) : KP s1 l1 v1 s3 l3 v3 := by
  obtain ⟨a1, a2, a3, a4, a5⟩ := h
  obtain ⟨b1, b2, b3, b4, b5⟩ := k
  refine ⟨by omega, by omega, by omega, by omega, fun b hb => ?_⟩
  obtain ⟨c1, c2, c3⟩ := a5 b hb
  obtain ⟨d1, d2, d3⟩ := b5 b c1
  exact ⟨d1, d2.trans c2, d3.trans c3⟩
theorem KP.mark {sn : List Bool} {ls : List (List Int)} {vs : List Value} {b : Nat} (h : b < sn.length) (hf : sn[b] = false) : KP sn ls vs (sn.set b true) ls vs :=
  ⟨by simp, rfl, rfl, by have := cf_set h hf; omega, fun c hc => ⟨by
    by_cases hbc : b = c
    · subst hbc; simp [h]
    · rw [List.getElem?_set_ne hbc]; exact hc, rfl, rfl⟩⟩
/-- behind the mark of bucket b its bucket may turn -/
theorem KP.turn {sn : List Bool} {ls : List (List Int)} {vs : List Value} {b : Nat} {sn' : List Bool} {ls' : List (List Int)} {vs' : List Value} (h : b < sn.length) (hf : sn[b] = false) (k : KP (sn.set b true) ls vs sn' ls' vs') (l : List Int) (v : Value) : KP sn ls vs sn' (ls'.set b l) (vs'.set b v) := by
  obtain ⟨b1, b2, b3, b4, b5⟩ := k
  refine ⟨by simpa using b1, by simpa using b2, by simpa using b3, by have := cf_set h hf; omega, fun c hc => ?_⟩
  have hne : b ≠ c := by
    rintro rfl
    rw [List.getElem?_eq_getElem h, hf] at hc
    cases hc
  obtain ⟨d1, d2, d3⟩ := b5 c (by rw [List.getElem?_set_ne hne]; exact hc)
  exact ⟨d1, by rw [List.getElem?_set_ne hne]; exact d2, by rw [List.getElem?_set_ne hne]; exact d3⟩

/-- Buckets under construction: headers in block GI, each row owned apart; S is the block of the marks. -/
structure IN (base GI S N B : Nat) (ls : List (List Int)) (vs : List Value) (w : World) : Prop where
  hdr : w.heap[GI]? = some (.cells vs.toArray 22 (0, 0))
  lv : vs.length = B
  ll : ls.length = B
  row : ∀ b (h1 : b < vs.length) (h2 : b < ls.length), w.ownsRow base 3 1 vs[b] ls[b].length (ls[b].map (Value.int .i64))
  apart : ∀ b c (h1 : b < vs.length) (h2 : c < vs.length) q, b ≠ c → vs[b].ownBlock = some q → vs[c].ownBlock ≠ some q
  nos : ∀ b (h1 : b < vs.length) q, vs[b].ownBlock = some q → q ≠ GI ∧ q ≠ S
  its : ∀ l ∈ ls, (∀ x ∈ l, 0 ≤ x ∧ x < (N : Int)) ∧ l.length ≤ 8
  gi : base ≤ GI
theorem IN.lt {base GI S N B : Nat} {ls : List (List Int)} {vs : List Value} {w : World} (h : IN base GI S N B ls vs w) {b q : Nat} (h1 : b < vs.length) (hq : vs[b].ownBlock = some q) : base ≤ q ∧ q < w.heap.size := (h.row b h1 (by rw [h.ll, ← h.lv]; exact h1)).lt q hq
/-- worlds in which the headers and the rows are as they were -/
theorem IN.same {base GI S N B : Nat} {ls : List (List Int)} {vs : List Value} {w w' : World} (h : IN base GI S N B ls vs w) (X : Nat) (hg : w.grownBy w' (some X)) (hX : X ≠ GI) (hr : ∀ b (h1 : b < vs.length), vs[b].ownBlock ≠ some X) : IN base GI S N B ls vs w' :=
  ⟨(hg.block GI (heap_of_cells h.hdr) (by simp; omega)).trans h.hdr, h.lv, h.ll, fun b h1 h2 => (h.row b h1 h2).kept hg (.inr (hr b h1)), h.apart, h.nos, h.its, h.gi⟩
/-- an element appended to row b, its new header stored -/
theorem IN.app {base GI S N B : Nat} {ls : List (List Int)} {vs : List Value} {w w1 : World} (h : IN base GI S N B ls vs w) {b : Nat} (hb : b < vs.length) {o : Obj} {g : Nat} {u : Value} {l : List Int} (hlS : S < w.heap.size)
    (hg : (w.alloc o).grownBy w1 vs[b].ownBlock) (ho : w1.ownsRow base 3 1 u l.length (l.map (Value.int .i64))) (hu : u.ownBlock = some g) (hat : vs[b].ownBlock = some g ∨ g = w.heap.size + 1) (hl : (∀ x ∈ l, 0 ≤ x ∧ x < (N : Int)) ∧ l.length ≤ 8) :
    IN base GI S N B (ls.set b l) (vs.set b u) (w1.setCell ⟨GI, b, none⟩ u) := by
  have hGI := heap_of_cells h.hdr
  have hne : some GI ≠ vs[b].ownBlock := fun e => (h.nos b hb GI e.symm).1 rfl
  have hh1 : w1.heap[GI]? = some (.cells vs.toArray 22 (0, 0)) := (hg.block GI (by simp; omega) hne).trans ((Below.heap_alloc _ _ _ hGI).trans h.hdr)
  have hm : w1.grownBy (w1.setCell ⟨GI, b, none⟩ u) (some GI) := grownBy_setCell (g := GI) (p := ⟨GI, b, none⟩) (grownBy_refl _ _) (.inl rfl) u
  have hgg : g ≠ GI ∧ g ≠ S := by
    rcases hat with e | e
    · exact h.nos b hb g e
    · omega
  refine ⟨?_, by simpa using h.lv, by simpa using h.ll, fun c h1 h2 => ?_, fun c d h1 h2 q hcd hq => ?_, fun c h1 q hq => ?_, fun l' hl' => ?_, h.gi⟩
  · have := heap_setCell_same w1 GI b _ _ u hh1
    simpa using this
  · by_cases hbc : b = c
    · subst hbc
      simp only [List.getElem_set_self]
      exact ho.kept hm (.inr (by rw [hu]; simp; omega))
    · simp only [List.getElem_set_ne hbc]
      have h1' : c < vs.length := by simpa using h1
      refine (((h.row c h1' (by simpa using h2)).alloc o).kept hg ?_).kept hm (.inr (fun e => (h.nos c h1' GI e).1 rfl))
      cases hv : vs[c].ownBlock with
      | none => exact .inl rfl
      | some q => exact .inr (fun e => h.apart c b h1' hb q (fun e => hbc e.symm) hv e.symm)
  · simp only [List.length_set] at h1 h2
    by_cases hbc : b = c
    · subst hbc
      simp only [List.getElem_set_self, hu] at hq
      injection hq with hq
      subst hq
      rw [List.getElem_set_ne hcd]
      rcases hat with e | e
      · exact h.apart b d hb h2 g hcd e
      · intro e2
        have := (h.lt h2 e2).2
        omega
    · rw [List.getElem_set_ne hbc] at hq
      by_cases hbd : b = d
      · subst hbd
        simp only [List.getElem_set_self, hu]
        intro e2
        injection e2 with e2
        subst e2
        rcases hat with e | e
        · exact h.apart c b h1 hb _ hcd hq e
        · have := (h.lt h1 hq).2
          omega
      · rw [List.getElem_set_ne hbd]
        exact h.apart c d h1 h2 q hcd hq
  · simp only [List.length_set] at h1
    by_cases hbc : b = c
    · subst hbc
      simp only [List.getElem_set_self, hu] at hq
      injection hq with hq
      subst hq
      exact hgg
    · rw [List.getElem_set_ne hbc] at hq
      exact h.nos c h1 q hq
  · rcases List.mem_or_eq_of_mem_set hl' with h' | h'
    · exact h.its l' h'
    · subst h'; exact hl
/-- an element of row b written -/
theorem IN.put {base GI S N B : Nat} {ls : List (List Int)} {vs : List Value} {w : World} (h : IN base GI S N B ls vs w) {b : Nat} (hb : b < vs.length) (hb2 : b < ls.length) {q cap : Nat} (hv : vs[b] = .slice (some ⟨q, 0, none⟩) ls[b].length cap) (k : Nat) (x : Int) (hx : 0 ≤ x ∧ x < (N : Int)) :
    IN base GI S N B (ls.set b (ls[b].set k x)) vs (w.setCell ⟨q, k, none⟩ (.int .i64 x)) := by
  have hr := h.row b hb hb2
  rw [hv] at hr
  obtain ⟨h1, h2⟩ := hr.stored k (.int .i64 x)
  have hq : vs[b].ownBlock = some q := by rw [hv]; rfl
  refine ⟨(h2.block GI (heap_of_cells h.hdr) (by simp; exact fun e => (h.nos b hb q hq).1 e.symm)).trans h.hdr, h.lv, by simpa using h.ll, fun c h3 h4 => ?_, h.apart, h.nos, fun l' hl' => ?_, h.gi⟩
  · by_cases hbc : b = c
    · subst hbc
      simp only [List.getElem_set_self]
      rw [hv]
      rw [List.length_set, List.map_set]
      exact h1
    · simp only [List.getElem_set_ne hbc]
      exact (h.row c h3 (by simpa using h4)).kept h2 (.inr (fun e => h.apart b c hb h3 q hbc hq e))
  · rcases List.mem_or_eq_of_mem_set hl' with h' | h'
    · exact h.its l' h'
    · subst h'
      refine ⟨fun y hy => ?_, by rw [List.length_set]; exact (h.its _ (List.getElem_mem hb2)).2⟩
      rcases List.mem_or_eq_of_mem_set hy with h' | h'
      · exact (h.its _ (List.getElem_mem hb2)).1 y h'
      · subst h'; exact hx
/-- append(own, x), and where it lies -/
theorem wpList_append_int1_at {P : Program} (w : World) {ops : Array Oper} {rest : List Oper} {o : Oper} {a : Act} {Q : Exit → Act → World → Prop} (hgd : o.guard = none) (s x : Operand) (t : TypeId)
    (ho : o.op = .call { callee := .builtin .append, args := #[s, x], argTypes := #[t, t] })
    (base : Nat) (e : TypeId) (ht : P.underlying t = some (.slice e)) (hinfo : (P.info? e).map (fun i => (i.zero, i.size, i.bytes)) = some (some (.int .i64 0), 1, 8))
    (v : Value) (xs : List Int) (hs : a.eval s = v) (hown : w.ownsRow base e 1 v xs.length (xs.map (Value.int .i64)))
    (y : Int) (hx : a.eval x = .slice (some ⟨w.heap.size, 0, none⟩) 1 1)
    (hbytes : xs.length + 1 ≤ 17592186044416) (hbase : base ≤ w.heap.size)
    (h : ∀ g cap w', w'.ownsRow base e 1 (.slice (some ⟨g, 0, none⟩) (xs ++ [y]).length cap) (xs ++ [y]).length ((xs ++ [y]).map (Value.int .i64)) → (w.alloc (.cells #[.int .i64 y] e)).grownBy w' v.ownBlock → (v.ownBlock = some g ∨ g = w.heap.size + 1) → wpList P ops Q rest (a.put o.dst (.slice (some ⟨g, 0, none⟩) (xs ++ [y]).length cap)) w') :
    wpList P ops Q (o :: rest) a (w.alloc (.cells #[.int .i64 y] e)) := by
  obtain ⟨i0, hi0, hz0, hz1, hz2⟩ := info_parts hinfo
  refine wpList_plain hgd fun K hK => ?_
  obtain ⟨v', w', hrun, h2, h3, h4⟩ := run_append_sc_at (P := P) (w.alloc (.cells #[.int .i64 y] e)) base t o.type e i0 _ 1 8 ht hi0 hz0 hz1 hz2 rfl (by omega) v _ _ (hown.alloc _) (w.heap.size + 1) (.slice (some ⟨w.heap.size, 0, none⟩) 1 1) 1 [.int .i64 y] ⟨_, 1, rfl, rfl, fun _ => ⟨w.heap.size, 0, rfl, by omega, fun j u hu => by
    rw [Nat.zero_add]; exact cells_at w [.int .i64 y] e j u hu⟩⟩ (by intro u hu; simp at hu; subst hu; rfl) (by unfold maxLen; omega) (by omega) (by simp; omega)
  have h2' : w'.ownsRow base e 1 v' (xs ++ [y]).length ((xs ++ [y]).map (Value.int .i64)) := by rw [List.length_append, List.map_append]; exact h2
  rcases h2'.2 with ⟨_, hn'⟩ | ⟨g, cap, cur, rfl, hb, hg, hnc, hcm, hcs, htake⟩
  · simp at hn'
  · unfold Oper.wp execOp
    simp only [ho, resolve, invoke, builtin, Sem.run_bind, Sem.run_pure, Result.andThen_ok, List.map_toArray, List.map_cons, List.map_nil, hs, hx, hrun]
    refine hK _ _ (h g cap w' h2' h3 ?_)
    rcases h4 with e4 | e4
    · exact .inl (by rw [← e4]; rfl)
    · exact .inr (by simpa [Value.ownBlock] using e4)
/-- the marks -/
def SN (S : Nat) (sn : List Bool) (w : World) : Prop := w.heap[S]? = some (.cells (sn.map Value.bool).toArray 4 (0, 0))
theorem SN.keep {S : Nat} {sn : List Bool} {w w' : World} {r : Option Nat} (h : SN S sn w) (hg : w.grownBy w' r) (hr : r ≠ some S) : SN S sn w' := (hg.block S (heap_of_cells h) (fun e => hr e.symm)).trans h
theorem SN.mark {S : Nat} {sn : List Bool} {w : World} (h : SN S sn w) (b : Nat) : SN S (sn.set b true) (w.setCell ⟨S, b, none⟩ (.bool true)) := by
  have := heap_setCell_same w S b _ _ (.bool true) h
  unfold SN
  rw [this, List.map_set]
  simp
end Go.Proofs.Ytllnomembakboaa
