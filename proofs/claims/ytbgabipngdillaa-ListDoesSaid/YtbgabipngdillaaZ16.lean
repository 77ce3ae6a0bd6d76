/- Joined: De. -/
import Derived.Test.YtbgabipngdillaaZ15
namespace Go.Proofs.Ytbgabipngdillaa
open Go.RowKit Go.Shelf

theorem RL.nil (w : World) : RL w (.slice none 0 0) [] := ⟨none, 0, rfl, Nat.le_refl _, by omega, fun h => by simp at h⟩
def deE (P : Int) (l : List (Int × Bool)) (k ag : Int) : Int := if fiE P l k ≠ 0 ∧ fiE P l k ≠ 11 then fiE P l k else if 10 < l.length then 4 else if ag < k ∨ (l.length : Int) < ag then 1 else 0
def neE (P : Int) (l : List (Int × Bool)) (k : Int) : Int := if fiE P l k ≠ 0 then fiE P l k else if 10 < l.length then 4 else 0
theorem fi_k {P : Int} {l : List (Int × Bool)} {k : Int} (h : fiE P l k = 0 ∨ fiE P l k = 11) : 1 ≤ k ∧ k ≤ l.length := by
  unfold fiE at h
  by_cases h0 : ceE P l = 0
  · rw [if_pos h0] at h
    by_cases h1 : k < 1 ∨ (l.length : Int) < k
    · rw [if_pos h1] at h; omega
    · omega
  · rw [if_neg h0] at h
    unfold ceE at h h0
    exfalso
    split at h
    · omega
    · split at h
      · omega
      · split at h
        · rename_i h1 h2 h3
          rw [if_neg h1, if_neg h2, if_pos h3] at h0
          exact h0 rfl
        · omega
set_option maxRecDepth 100000 in
set_option maxHeartbeats 4000000 in
theorem decode_any (P : Int) (l : List (Int × Bool)) (k ag : Int) (vl : Value) (w : World) (hP : i64r P) (hl : SCl w vl l) (hz : l.length ≤ 1000000) (h12 : deE P l k ag = 0 → (runS P l k.toNat ag).1.length ≤ 12) :
    Calls Try.prog 12 #[.agg #[.int .i64 P], vl, .int .i64 k, .int .i64 ag] w fun e w' => ∃ v rs, e = .returned (.tuple #[v, .int .i64 (deE P l k ag)]) ∧ RL w' v rs ∧ Asc rs ∧ (∀ p, p ∈ rs ↔ deE P l k ag = 0 ∧ p ∈ (runS P l k.toNat ag).1) ∧ Below w.heap.size w w' := by
  have HL := Lib.hid hl
  have H12 := Lib.hid h12
  obtain ⟨Al, cl, rfl⟩ := hl.form
  clear hl h12
  go_enter Try.func12, Try.ntmps12
  go_upto_region 1 with fail
  obtain ⟨w0, ew⟩ : ∃ w0 : World, w0 = w.alloc (.cells #[.int .i64 P] 26) := ⟨_, rfl⟩
  have hB0 : Below w.heap.size w w0 := by rw [ew]; exact (Below.refl _ _).alloc (Nat.le_refl _) _
  have hz0 : w.heap.size < w0.heap.size := by rw [ew]; simp
  have b0 : w0.cell? ⟨w.heap.size, 0, none⟩ = some (.int .i64 P) := by rw [ew]; simp [go_sem]
  rw [← ew]
  clear ew
  have HS0 := Lib.hid (HL.out.below hB0)
  go_wp2_with fail
  (with_reducible refine (fill_any P l k _ _ hP HS0.out hz).mono ?_)
  rintro e w1 ⟨v1, rfl, _, hb1⟩
  have HB1 := Lib.hid (hB0.trans (hb1.mono hB0.size))
  have hz1 := hb1.size
  have c0 := (hb1.cell (p := ⟨w.heap.size, 0, none⟩) (by show w.heap.size < _; omega)).trans b0
  clear b0
  obtain ⟨fe, hfe⟩ : ∃ fe, fiE P l k = fe := ⟨_, rfl⟩
  have HFE := Lib.hid hfe
  rw [hfe]
  clear hfe
  by_cases h1 : fe ≠ 0 ∧ fe ≠ 11
  · have HE : Hid (deE P l k ag = fe) := by show _ = _; unfold deE; rw [HFE.out, if_pos h1]
    have ha : (fe == 0) = false := by rw [beq_eq_false_iff_ne]; exact h1.1
    have hb : (fe == 11) = false := by rw [beq_eq_false_iff_ne]; exact h1.2
    have ha2 : (fe != 0) = true := by rw [bne_iff_ne]; exact h1.1
    have hb2 : (fe != 11) = true := by rw [bne_iff_ne]; exact h1.2
    have hne : fe ≠ 0 := h1.1
    have HNE := Lib.hid hne
    clear h1 hne
    go_wp2_with fail
    refine bodyPost_ret (v := .tuple #[.slice none 0 0, .int .i64 fe]) (by simp [results, Try.results12, go_sem]) rfl ⟨_, [], by rw [HE.out], RL.nil _, List.Pairwise.nil, fun p => ⟨fun h => by simp at h, fun h => by rw [HE.out] at h; exact absurd h.1 HNE.out⟩, HB1.out⟩
  · have hk := fi_k (P := P) (l := l) (k := k) (by rw [HFE.out]; omega)
    obtain ⟨kn, rfl⟩ : ∃ kn : Nat, k = kn := ⟨k.toNat, by omega⟩
    have hd : decide (fe = 0) = true ∨ fe = 11 := by
      by_cases h : fe = 0
      · exact .inl (decide_eq_true h)
      · exact .inr (by omega)
    have hg : ((fe != 0) && (fe != 11)) = false := by
      rcases (by omega : fe = 0 ∨ fe = 11) with h | h
      · subst h; rfl
      · subst h; rfl
    have HS1 := Lib.hid (HS0.out.below hb1)
    have hor : fe = 0 ∨ fe = 11 := by omega
    have HOR := Lib.hid h1
    clear h1 hd hg
    by_cases h2 : 10 < l.length
    · have HE : Hid (deE P l kn ag = 4) := by show _ = _; unfold deE; rw [HFE.out, if_neg HOR.out, if_pos h2]
      have hx : decide (10 < (l.length : Int)) = true := decide_eq_true (by omega)
      rcases hor with rfl | rfl
      all_goals
        go_wp2_with fail
        refine bodyPost_ret (v := .tuple #[.slice none 0 0, .int .i64 4]) (by simp [results, Try.results12, go_sem]) rfl ⟨_, [], by rw [HE.out], RL.nil _, List.Pairwise.nil, fun p => ⟨fun h => by simp at h, fun h => by rw [HE.out] at h; exact absurd h.1 (by omega)⟩, HB1.out⟩
    · have hx : decide (10 < (l.length : Int)) = false := decide_eq_false (by omega)
      by_cases h3 : ag < kn ∨ (l.length : Int) < ag
      · have HE : Hid (deE P l kn ag = 1) := by show _ = _; unfold deE; rw [HFE.out, if_neg HOR.out, if_neg h2, if_pos h3]
        by_cases h4 : ag < kn
        · have hy : decide (ag < (kn : Int)) = true := decide_eq_true h4
          clear h3
          rcases hor with rfl | rfl
          all_goals
            go_wp2_with fail
            refine bodyPost_ret (v := .tuple #[.slice none 0 0, .int .i64 1]) (by simp [results, Try.results12, go_sem]) rfl ⟨_, [], by rw [HE.out], RL.nil _, List.Pairwise.nil, fun p => ⟨fun h => by simp at h, fun h => by rw [HE.out] at h; exact absurd h.1 (by omega)⟩, HB1.out⟩
        · have hy : decide (ag < (kn : Int)) = false := decide_eq_false h4
          have hy2 : decide ((l.length : Int) < ag) = true := decide_eq_true (by omega)
          clear h3
          rcases hor with rfl | rfl
          all_goals
            go_wp2_with fail
            refine bodyPost_ret (v := .tuple #[.slice none 0 0, .int .i64 1]) (by simp [results, Try.results12, go_sem]) rfl ⟨_, [], by rw [HE.out], RL.nil _, List.Pairwise.nil, fun p => ⟨fun h => by simp at h, fun h => by rw [HE.out] at h; exact absurd h.1 (by omega)⟩, HB1.out⟩
      · have HE : Hid (deE P l kn ag = 0) := by show _ = _; unfold deE; rw [HFE.out, if_neg HOR.out, if_neg h2, if_neg h3]
        have hy : decide (ag < (kn : Int)) = false := decide_eq_false (by omega)
        have hy2 : decide ((l.length : Int) < ag) = false := decide_eq_false (by omega)
        have hrun := run_any P l kn ag _ w1 hP HS1.out (by omega) (by omega) (H12.out HE.out)
        have HRUN := Lib.hid hrun
        clear h3 hrun
        rcases hor with rfl | rfl
        all_goals
          go_wp2_with fail
          (with_reducible refine HRUN.out.mono ?_)
          rintro e w2 ⟨v2, rs, rfl, hRL, hA, hm, hb2⟩
          go_wp2_with fail
          refine bodyPost_ret (v := .tuple #[v2, .int .i64 0]) (by simp [results, Try.results12, go_sem]) rfl ⟨_, rs, by rw [HE.out], hRL, hA, fun p => (hm p).trans ⟨fun h => ⟨HE.out, h⟩, fun h => h.2⟩, HB1.out.trans (hb2.mono HB1.out.size)⟩
/-- how many places the nearest polynomials have -/
def neM (P : Int) (l : List (Int × Bool)) (k : Int) : Int := if neE P l k = 0 then (runS P l k.toNat ((l.length : Int) + 1)).2 else 0
set_option maxRecDepth 100000 in
set_option maxHeartbeats 4000000 in
theorem nearest_any (P : Int) (l : List (Int × Bool)) (k : Int) (vl : Value) (w : World) (hP : i64r P) (hl : SCl w vl l) (hz : l.length ≤ 1000000)
    (h12 : neE P l k = 0 → (runS P l k.toNat ((l.length : Int) + 1)).1.length ≤ 12 ∧ (runS P l k.toNat (neM P l k)).1.length ≤ 12) :
    Calls Try.prog 16 #[.agg #[.int .i64 P], vl, .int .i64 k] w fun e w' => ∃ v rs, e = .returned (.tuple #[v, .int .i64 (neM P l k), .int .i64 (neE P l k)]) ∧ RL w' v rs ∧ Asc rs ∧ (∀ p, p ∈ rs ↔ neE P l k = 0 ∧ p ∈ (runS P l k.toNat (neM P l k)).1) ∧ Below w.heap.size w w' := by
  have HL := Lib.hid hl
  have H12 := Lib.hid h12
  obtain ⟨Al, cl, rfl⟩ := hl.form
  clear hl h12
  go_enter Try.func16, Try.ntmps16
  go_upto_region 1 with fail
  obtain ⟨w0, ew⟩ : ∃ w0 : World, w0 = w.alloc (.cells #[.int .i64 P] 26) := ⟨_, rfl⟩
  have hB0 : Below w.heap.size w w0 := by rw [ew]; exact (Below.refl _ _).alloc (Nat.le_refl _) _
  have hz0 : w.heap.size < w0.heap.size := by rw [ew]; simp
  have b0 : w0.cell? ⟨w.heap.size, 0, none⟩ = some (.int .i64 P) := by rw [ew]; simp [go_sem]
  rw [← ew]
  clear ew
  have HS0 := Lib.hid (HL.out.below hB0)
  go_wp2_with fail
  (with_reducible refine (fill_any P l k _ _ hP HS0.out hz).mono ?_)
  rintro e w1 ⟨v1, rfl, _, hb1⟩
  have HB1 := Lib.hid (hB0.trans (hb1.mono hB0.size))
  have hz1 := hb1.size
  have hzl : w.heap.size < w1.heap.size := by omega
  have c0 := (hb1.cell (p := ⟨w.heap.size, 0, none⟩) (by show w.heap.size < _; omega)).trans b0
  clear b0
  obtain ⟨fe, hfe⟩ : ∃ fe, fiE P l k = fe := ⟨_, rfl⟩
  have HFE := Lib.hid hfe
  rw [hfe]
  clear hfe
  by_cases h1 : fe = 0
  · subst h1
    have hk := fi_k (P := P) (l := l) (k := k) (.inl HFE.out)
    obtain ⟨kn, rfl⟩ : ∃ kn : Nat, k = kn := ⟨k.toNat, by omega⟩
    have HS1 := Lib.hid (HS0.out.below hb1)
    by_cases h2 : 10 < l.length
    · have HE : Hid (neE P l kn = 4) := by show _ = _; unfold neE; rw [HFE.out, if_neg (by omega), if_pos h2]
      have HM : Hid (neM P l kn = 0) := by show _ = _; unfold neM; rw [HE.out, if_neg (by omega)]
      have hx : decide (10 < (l.length : Int)) = true := decide_eq_true (by omega)
      go_wp2_with fail
      refine bodyPost_ret (v := .tuple #[.slice none 0 0, .int .i64 0, .int .i64 4]) (by simp [results, Try.results16, go_sem]) rfl ⟨_, [], by rw [HE.out, HM.out], RL.nil _, List.Pairwise.nil, fun p => ⟨fun h => by simp at h, fun h => by rw [HE.out] at h; exact absurd h.1 (by omega)⟩, HB1.out⟩
    · have hx : decide (10 < (l.length : Int)) = false := decide_eq_false (by omega)
      have HE : Hid (neE P l kn = 0) := by show _ = _; unfold neE; rw [HFE.out, if_neg (by omega), if_neg h2]
      have HM : Hid (neM P l kn = (runS P l kn ((l.length : Int) + 1)).2) := by show _ = _; unfold neM; rw [HE.out, if_pos rfl]; rfl
      obtain ⟨mst, hmst⟩ : ∃ m, neM P l kn = m := ⟨_, rfl⟩
      have h12 := H12.out HE.out
      rw [hmst] at HM h12
      have HMS := Lib.hid hmst
      have hrun := run_any P l kn ((l.length : Int) + 1) _ w1 hP HS1.out (by omega) (by omega) h12.1
      rw [← HM.out] at hrun
      have HR := Lib.hid hrun
      have H2 : Hid ((runS P l kn mst).1.length ≤ 12) := h12.2
      clear hrun h12 hmst
      go_wp2_with fail
      (with_reducible refine HR.out.mono ?_)
      rintro e w2 ⟨v2, rs2, rfl, _, _, _, hb2⟩
      have HS2 := Lib.hid (HS1.out.below hb2)
      have c2 := (hb2.cell (p := ⟨w.heap.size, 0, none⟩) hzl).trans c0
      have HB2 := Lib.hid hb2
      clear c0 hb2
      go_wp2_with fail
      (with_reducible refine (run_any P l kn mst _ w2 hP HS2.out (by omega) (by omega) H2.out).mono ?_)
      rintro e w3 ⟨v3, rs, rfl, hRL, hA, hm, hb3⟩
      go_wp2_with fail
      refine bodyPost_ret (v := .tuple #[v3, .int .i64 mst, .int .i64 0]) (by simp [results, Try.results16, go_sem]) rfl ⟨_, rs, by rw [HE.out, HMS.out], hRL, hA, fun p => (hm p).trans ⟨fun h => ⟨HE.out, by rw [HMS.out]; exact h⟩, fun h => by have := h.2; rw [HMS.out] at this; exact this⟩, HB1.out.trans ((HB2.out.mono HB1.out.size).trans (hb3.mono (Nat.le_trans HB1.out.size HB2.out.size)))⟩
  · have HE : Hid (neE P l k = fe) := by show _ = _; unfold neE; rw [HFE.out, if_pos h1]
    have HM : Hid (neM P l k = 0) := by show _ = _; unfold neM; rw [HE.out, if_neg h1]
    have ha2 : (fe != 0) = true := by rw [bne_iff_ne]; exact h1
    have HNE := Lib.hid h1
    clear h1
    go_wp2_with fail
    refine bodyPost_ret (v := .tuple #[.slice none 0 0, .int .i64 0, .int .i64 fe]) (by simp [results, Try.results16, go_sem]) rfl ⟨_, [], by rw [HE.out, HM.out], RL.nil _, List.Pairwise.nil, fun p => ⟨fun h => by simp at h, fun h => by rw [HE.out] at h; exact absurd h.1 HNE.out⟩, HB1.out⟩
end Go.Proofs.Ytbgabipngdillaa
