/- Joined: Dw. -/
import Derived.Test.YtoiabanpnkpbhaaGreatDoorY06
namespace Go.Proofs.YtoiabanpnkpbhaaGreatDoor
open Go.RowKit

set_option maxRecDepth 100000 in
set_option maxHeartbeats 4000000 in
theorem drawsO_any (l : List Int) (at_ n c : Int) (v : Value) (w : World) (h : SI w v l) (hc : i64r c) :
    Calls Tryz.prog 52 #[.agg #[v, .int .i64 at_], .int .i64 n, .int .i64 c] w fun e w' => ∃ v1 a1 v2, e = .returned (.tuple #[.agg #[v1, .int .i64 a1], v2, .int .i64 (dsE l at_ n c)]) ∧ Below w.heap.size w w' ∧
      (dsE l at_ n c = 0 → a1 = at_ + c ∧ (SI w' v1 l ∧ w'.ownsRow w.heap.size 3 1 v1 l.length (l.map (Value.int .i64))) ∧ w'.ownsRow w.heap.size 3 1 v2 ((l.drop at_.toNat).take c.toNat).length (((l.drop at_.toNat).take c.toNat).map (Value.int .i64))) ∧ (dsE l at_ n c ≠ 0 → v1 = .slice none 0 0 ∧ a1 = 0 ∧ v2 = .slice none 0 0) := by
  have HS := Lib.hid h
  obtain ⟨A, cc, rfl⟩ := h.form'
  clear h
  go_enter Tryz.func52, Tryz.ntmps52
  go_upto_region 1 with fail
  obtain ⟨wa, ew⟩ : ∃ wa : World, wa = (w.alloc (.cells #[.slice A l.length cc, .int .i64 at_] 45)).alloc (.cells #[.slice none 0 0, .int .i64 0] 45) := ⟨_, rfl⟩
  have HBa : Hid (Below w.heap.size w wa) := by show Below _ _ _; rw [ew]; exact ((Below.refl _ w).alloc (Nat.le_refl _) _).alloc (by simp) _
  have hza : wa.heap.size = w.heap.size + 2 := by rw [ew]; simp
  have HT : Hid (wa.heap[w.heap.size]? = some (.cells #[.slice A l.length cc, .int .i64 at_] 45 (0, 0))) := by
    show _ = _; rw [ew, Below.heap_alloc _ _ _ (by simp)]; exact heap_alloc_new w _
  have HR : Hid (wa.heap[w.heap.size + 1]? = some (.cells #[.slice none 0 0, .int .i64 0] 45 (0, 0))) := by
    show _ = _; rw [ew]; have := heap_alloc_new (w.alloc (.cells #[.slice A l.length cc, .int .i64 at_] 45)) (.cells #[.slice none 0 0, .int .i64 0] 45); simpa using this
  rw [← ew]
  clear ew
  have HSa := Lib.hid (HS.out.below HBa.out)
  obtain ⟨T, hT⟩ : ∃ T, w.heap.size = T := ⟨_, rfl⟩
  have HTT := Lib.hid hT
  rw [hT] at HT HR hza ⊢
  clear hT
  have cT0 : wa.cell? ⟨T, 0, none⟩ = some (.slice A l.length cc) := cell_of_row wa T 0 _ _ _ HT.out
  have cT1 : wa.cell? ⟨T, 1, none⟩ = some (.int .i64 at_) := cell_of_row wa T 1 _ _ _ HT.out
  go_wp2_with fail
  (with_reducible refine (tvalid_any l at_ _ _ HSa.out).mono ?_)
  rintro e w1 ⟨rfl, hb1⟩
  have HB1 := Lib.hid hb1
  have HBw : Hid (Below w.heap.size w w1) := HBa.out.trans (hb1.mono HBa.out.size)
  have HT1 : Hid (w1.heap[T]? = some (.cells #[.slice A l.length cc, .int .i64 at_] 45 (0, 0))) := (hb1.block T (by omega)).trans HT.out
  have HR1 : Hid (w1.heap[T + 1]? = some (.cells #[.slice none 0 0, .int .i64 0] 45 (0, 0))) := (hb1.block (T + 1) (by omega)).trans HR.out
  have hz1 := hb1.size
  have cR0 : w1.cell? ⟨T + 1, 0, none⟩ = some (.slice none 0 0) := cell_of_row w1 (T + 1) 0 _ _ _ HR1.out
  have cR1 : w1.cell? ⟨T + 1, 1, none⟩ = some (.int .i64 0) := cell_of_row w1 (T + 1) 1 _ _ _ HR1.out
  have fR0 : w1.frozen? ⟨T + 1, 0, none⟩ = false := frozen_of_row w1 (T + 1) 0 _ _ HR1.out
  have fR1 : w1.frozen? ⟨T + 1, 1, none⟩ = false := frozen_of_row w1 (T + 1) 1 _ _ HR1.out
  clear cT0 cT1 hb1
  by_cases hv : tvB l at_ = false
  · have HE : Hid (dsE l at_ n c = 2) := by show _ = _; unfold dsE; rw [if_pos hv]
    rw [hv]
    clear hv
    go_wp2_with fail
    have HW := store2 (.slice none 0 0) (.int .i64 0) HR1.out
    have q0 := cell_of_row _ (T + 1) 0 _ _ _ HW
    have q1 := cell_of_row _ (T + 1) 1 _ _ _ HW
    simp only [List.getElem?_toArray, List.getElem?_cons_zero, List.getElem?_cons_succ] at q0 q1
    refine bodyPost_ret (v := .tuple #[.agg #[.slice none 0 0, .int .i64 0], .slice none 0 0, .int .i64 2]) (by simp [results, Tryz.results52, go_sem, q0, q1]) rfl ⟨_, _, _, by rw [HE.out], ?_, fun h => by rw [HE.out] at h; omega, fun _ => ⟨rfl, rfl, rfl⟩⟩
    exact (HBw.out.setCell (by show _ ≤ T + 1; have := HTT.out; omega) _).setCell (by show _ ≤ T + 1; have := HTT.out; omega) _
  · have hv2 : tvB l at_ = true := by simpa using hv
    have HV := Lib.hid hv2
    have HVN := Lib.hid hv
    rw [hv2]
    have hvv : l.length ≤ 16384 ∧ 0 ≤ at_ ∧ at_ ≤ (l.length : Int) := of_decide_eq_true hv2
    clear hv hv2
    go_wp2_with fail
    (with_reducible refine (tlimit_any n _).mono ?_)
    rintro e w2 ⟨rfl, rfl⟩
    by_cases hlm : liB n = false ∨ c < 0
    · have HE : Hid (dsE l at_ n c = 1) := by show _ = _; unfold dsE; rw [if_neg HVN.out, if_pos hlm]
      have hg : liB n = false ∨ (liB n = true ∧ decide (c < 0) = true) := by
        cases h : liB n with
        | false => exact .inl rfl
        | true => exact .inr ⟨rfl, by rcases hlm with h2 | h2; (rw [h] at h2; cases h2); exact decide_eq_true h2⟩
      clear hlm
      rcases hg with hg | ⟨hg, hcz⟩
      all_goals
        rw [hg]
        clear hg
        go_wp2_with fail
        have HW := store2 (.slice none 0 0) (.int .i64 0) HR1.out
        have q0 := cell_of_row _ (T + 1) 0 _ _ _ HW
        have q1 := cell_of_row _ (T + 1) 1 _ _ _ HW
        simp only [List.getElem?_toArray, List.getElem?_cons_zero, List.getElem?_cons_succ] at q0 q1
        refine bodyPost_ret (v := .tuple #[.agg #[.slice none 0 0, .int .i64 0], .slice none 0 0, .int .i64 1]) (by simp [results, Tryz.results52, go_sem, q0, q1]) rfl ⟨_, _, _, by rw [HE.out], ?_, fun h => by rw [HE.out] at h; omega, fun _ => ⟨rfl, rfl, rfl⟩⟩
        exact (HBw.out.setCell (by show _ ≤ T + 1; have := HTT.out; omega) _).setCell (by show _ ≤ T + 1; have := HTT.out; omega) _
    · have hl2 : liB n = true := by
        cases h : liB n with
        | false => exact absurd (.inl h) hlm
        | true => rfl
      have hc0 : ¬ c < 0 := fun h => hlm (.inr h)
      obtain ⟨cn, rfl⟩ : ∃ cn : Nat, c = cn := ⟨c.toNat, by omega⟩
      obtain ⟨an, rfl⟩ : ∃ an : Nat, at_ = an := ⟨at_.toNat, by omega⟩
      have hdc : decide ((cn : Int) < 0) = false := decide_eq_false hc0
      have HDE : Hid (dsE l an n cn = drE l n an cn) := by show _ = _; unfold dsE; rw [if_neg HVN.out, if_neg hlm]; rfl
      rw [hl2]
      clear hlm hl2
      have cT0 : w1.cell? ⟨T, 0, none⟩ = some (.slice A l.length cc) := cell_of_row w1 T 0 _ _ _ HT1.out
      have cT1 : w1.cell? ⟨T, 1, none⟩ = some (.int .i64 an) := cell_of_row w1 T 1 _ _ _ HT1.out
      go_upto_region 6 with fail
      obtain ⟨b, hb⟩ : ∃ b, w1.heap.size = b := ⟨_, rfl⟩
      have HBB := Lib.hid hb
      obtain ⟨w2, ew2⟩ : ∃ w2 : World, w2 = w1.alloc (.cells #[.slice A l.length cc, .int .i64 an, .slice none 0 0] 125) := ⟨_, rfl⟩
      have HB2 : Hid (Below w1.heap.size w1 w2) := by show Below _ _ _; rw [ew2]; exact (Below.refl _ _).alloc (Nat.le_refl _) _
      have HD2 : Hid (w2.heap[b]? = some (.cells #[.slice A l.length cc, .int .i64 an, .slice none 0 0] 125 (0, 0))) := by show _ = _; rw [ew2, ← hb]; exact heap_alloc_new w1 _
      have hz2 : w2.heap.size = b + 1 := by rw [ew2, ← hb]; simp
      rw [← ew2, hb]
      rw [hb] at hz1
      clear ew2 hb
      have HS2 : Hid (SB b w2 (.slice A l.length cc) l) := (SB.below HS.out (HBw.out.trans (HB2.out.mono HBw.out.size))).more (by have := HBw.out.size; have := HBB.out; omega)
      clear cT0 cT1 cR0 cR1 fR0 fR1
      go_wp2_with fail
      (with_reducible refine (draw_any l an n cn b _ w2 HS2.out (by omega) (by omega) (by have := hc; unfold i64r at this; omega) HD2.out).mono ?_)
      rintro e w3 ⟨rfl, hg3, hok⟩
      have HG3 := Lib.hid hg3
      have HOK := Lib.hid hok
      have hz3 := hg3.size
      have HR3 : Hid (w3.heap[T + 1]? = some (.cells #[.slice none 0 0, .int .i64 0] 45 (0, 0))) := (hg3.block (T + 1) (by omega) (by simp; omega)).trans ((HB2.out.block (T + 1) (by have := HBB.out; omega)).trans HR1.out)
      have HT3 : Hid (w3.heap[T]? = some (.cells #[.slice A l.length cc, .int .i64 an] 45 (0, 0))) := (hg3.block T (by omega) (by simp; omega)).trans ((HB2.out.block T (by have := HBB.out; omega)).trans HT1.out)
      have HBw3 : Hid (Below w.heap.size w w3) := (HBw.out.trans (HB2.out.mono HBw.out.size)).grown hg3 (by have := HBw.out.size; have := HB2.out.size; omega) (fun k hk => by injection hk with hk; have := HBw.out.size; have := HBB.out; omega)
      have cR0 : w3.cell? ⟨T + 1, 0, none⟩ = some (.slice none 0 0) := cell_of_row w3 (T + 1) 0 _ _ _ HR3.out
      have cR1 : w3.cell? ⟨T + 1, 1, none⟩ = some (.int .i64 0) := cell_of_row w3 (T + 1) 1 _ _ _ HR3.out
      have fR0 : w3.frozen? ⟨T + 1, 0, none⟩ = false := frozen_of_row w3 (T + 1) 0 _ _ HR3.out
      have fR1 : w3.frozen? ⟨T + 1, 1, none⟩ = false := frozen_of_row w3 (T + 1) 1 _ _ HR3.out
      obtain ⟨er, her⟩ : ∃ er, drE l n an cn = er := ⟨_, rfl⟩
      have HER := Lib.hid her
      rw [her]
      clear hg3 hok her
      by_cases h0 : er = 0
      · subst h0
        obtain ⟨vd, hbd, hown⟩ := HOK.out HER.out
        have HBD := Lib.hid hbd
        have HO := Lib.hid hown
        obtain ⟨Ad, cd, rfl⟩ := own_sl hown
        obtain ⟨D, hD⟩ : ∃ D, (l.drop an).take cn = D := ⟨_, rfl⟩
        have HDD := Lib.hid hD
        rw [hD] at HO HBD
        have cT0 : w3.cell? ⟨T, 0, none⟩ = some (.slice A l.length cc) := cell_of_row w3 T 0 _ _ _ HT3.out
        have cb1 : w3.cell? ⟨b, 1, none⟩ = some (.int .i64 ((an : Int) + cn)) := cell_of_row w3 b 1 _ _ _ HBD.out
        have cb2 : w3.cell? ⟨b, 2, none⟩ = some (.slice Ad D.length cd) := cell_of_row w3 b 2 _ _ _ HBD.out
        have hbl : b < w3.heap.size := by omega
        have hTl : T < w3.heap.size := by omega
        have hRl : T + 1 < w3.heap.size := by omega
        have HRG : Hid (∀ x ∈ l, i64r x) := by obtain ⟨_, _, _, _, _, hr, _⟩ := HS.out; exact hr
        have HS3 : Hid (SI w3 (.slice A l.length cc) l) := (SB.below HS.out HBw3.out).si HBw3.out.size
        clear hbd hown hD
        go_wp2_with fail
        have hbT : ¬ (b = T + 1) := by have := HBB.out; omega
        have hbT' : ¬ (T + 1 = b) := by omega
        go_region_held3 (fun w' => w'.cell? ⟨T, 0, none⟩ = some (.slice A l.length cc) ∧ w'.cell? ⟨b, 1, none⟩ = some (.int .i64 ((an : Int) + cn)) ∧ w'.cell? ⟨b, 2, none⟩ = some (.slice Ad D.length cd)) (first | exact ⟨cT0, cb1, cb2⟩ | exact ⟨x0, x1, x2⟩ | go_keep)
          (first | (go_at_call 80; refine (clone_any l _ _ (by exact HS3.out) (by omega)).mono ?_; rintro e w4 ⟨v4, rfl, hS4, hb4⟩; obtain ⟨A4, k4, rfl⟩ := own_sl hS4; have HS4 := Lib.hid hS4; have HB4 := Lib.hid hb4; have x0 := (hb4.cell (p := ⟨T, 0, none⟩) hTl).trans cT0; have x1 := (hb4.cell (p := ⟨b, 1, none⟩) hbl).trans cb1; have x2 := (hb4.cell (p := ⟨b, 2, none⟩) hbl).trans cb2; have x3 := (hb4.cell (p := ⟨T + 1, 0, none⟩) hRl).trans cR0; have x4 := (hb4.cell (p := ⟨T + 1, 1, none⟩) hRl).trans cR1; have x5 := (hb4.frozen (p := ⟨T + 1, 0, none⟩) hRl).trans fR0; have x6 := (hb4.frozen (p := ⟨T + 1, 1, none⟩) hRl).trans fR1; clear hS4 hb4))
        all_goals
          have HR4 : Hid (w4.heap[T + 1]? = some (.cells #[.slice none 0 0, .int .i64 0] 45 (0, 0))) := (HB4.out.block (T + 1) hRl).trans HR3.out
          have HBw4 : Hid (Below w.heap.size w w4) := HBw3.out.trans ((by first | exact HB4.out | exact HB4.out.drew_left : Below w3.heap.size w3 w4).mono HBw3.out.size)
          go_wp2_with fail
          have HW := store2 (.slice A4 l.length k4) (.int .i64 ((an : Int) + cn)) HR4.out
          have q0 := cell_of_row _ (T + 1) 0 _ _ _ HW
          have q1 := cell_of_row _ (T + 1) 1 _ _ _ HW
          simp only [List.getElem?_toArray, List.getElem?_cons_zero, List.getElem?_cons_succ] at q0 q1
          have hTw : w.heap.size ≤ T := by have := HTT.out; omega
          have hTl2 : T + 1 < w4.heap.size := heap_of_cells HR4.out
          have HBf : Hid (Below w.heap.size w ((w4.setCell ⟨T + 1, 0, none⟩ (.slice A4 l.length k4)).setCell ⟨T + 1, 1, none⟩ (.int .i64 ((an : Int) + cn)))) := (HBw4.out.setCell (by show _ ≤ T + 1; omega) _).setCell (by show _ ≤ T + 1; omega) _
          refine bodyPost_ret (v := .tuple #[.agg #[.slice A4 l.length k4, .int .i64 ((an : Int) + cn)], .slice Ad D.length cd, .int .i64 0]) (by simp [results, Tryz.results52, go_sem, q0, q1]) rfl ⟨_, _, _, by rw [HDE.out, HER.out], HBf.out, fun _ => ⟨rfl, ?_, ?_⟩, fun h => absurd (HDE.out.trans HER.out) h⟩
          · exact ⟨SI.of_own (own_set3 (own_set3 HS4.out hRl _) hRl _) HRG.out, own_lo (own_set3 (own_set3 HS4.out hRl _) hRl _) HBw3.out.size⟩
          · rw [show ((an : Int)).toNat = an from rfl, show ((cn : Int)).toNat = cn from rfl, HDD.out]
            exact own_lo (own_set3 (own_set3 (own_bel HO.out (by first | exact HB4.out | exact HB4.out.drew_left)) (by show T + 1 < w2.heap.size; omega) _) (by show T + 1 < w2.heap.size; omega) _) (by have := HB2.out.size; have := HBw.out.size; omega)
      · have HE : Hid (dsE l an n cn = er) := HDE.out.trans HER.out
        have hbn : (er != 0) = true := by rw [bne_iff_ne]; exact h0
        have HNE := Lib.hid h0
        clear h0
        go_wp2_with fail
        have HW := store2 (.slice none 0 0) (.int .i64 0) HR3.out
        have q0 := cell_of_row _ (T + 1) 0 _ _ _ HW
        have q1 := cell_of_row _ (T + 1) 1 _ _ _ HW
        simp only [List.getElem?_toArray, List.getElem?_cons_zero, List.getElem?_cons_succ] at q0 q1
        refine bodyPost_ret (v := .tuple #[.agg #[.slice none 0 0, .int .i64 0], .slice none 0 0, .int .i64 er]) (by simp [results, Tryz.results52, go_sem, q0, q1]) rfl ⟨_, _, _, by rw [HE.out], ?_, fun h => by rw [HE.out] at h; exact absurd h HNE.out, fun _ => ⟨rfl, rfl, rfl⟩⟩
        exact (HBw3.out.setCell (by show _ ≤ T + 1; have := HTT.out; omega) _).setCell (by show _ ≤ T + 1; have := HTT.out; omega) _
end Go.Proofs.YtoiabanpnkpbhaaGreatDoor
