/- Joined: Td Tf Tg Ve Vf Vg Vh Vi Vj Vk. -/
import Derived.Test.YtbgabipngdillaaJ25
import Derived.Test.YtbgabipngdillaaJ33
import Derived.Test.YtbgabipngdillaaJ34
import Derived.Test.YtbgabipngdillaaJ17
namespace Go.Proofs.Ytbgabipngdillaa

theorem ce_zero {P : Int} {l : List (Int × Bool)} (h : ceE P l = 0) : prB P = true ∧ l.length ≤ 32 ∧ (l.length : Int) < P ∧ ∀ t ∈ kn l, el P t.2 = true := by
  unfold ceE at h
  split at h
  · omega
  · rename_i h1
    split at h
    · omega
    · rename_i h2
      split at h
      · rename_i h3
        exact ⟨by simpa using h1, by omega, by omega, List.all_eq_true.1 h3⟩
      · omega
theorem fi_valid {P : Int} {l : List (Int × Bool)} {k : Int} (h : fiE P l k = 0 ∨ fiE P l k = 11) : ceE P l = 0 := by
  apply Classical.byContradiction
  intro hc
  rw [(fi_ce hc).1] at h
  unfold ceE at h hc
  split at h
  · omega
  · split at h
    · omega
    · split at h
      · rename_i h3
        simp_all
      · omega
theorem ce_ie {P : Int} {l : List (Int × Bool)} (h : ceE P l = 0) {c : List (Int × Int)} (hc : c.Sublist (kn l)) : inE P c = 0 := by
  obtain ⟨hpr, h32, hlP, hev⟩ := ce_zero h
  have hlen : c.length ≤ 32 := by have := hc.length_le; have := kn_len l 0; unfold kn at *; omega
  have ho : opE P [shX c, shY c] = 0 := by
    unfold opE
    rw [if_neg (by rw [hpr]; simp), if_neg, if_neg]
    · simp [longB, shX, shY]
      omega
    · simp only [List.all_cons, List.all_nil, Bool.and_true, Bool.and_eq_false_iff, not_or, Bool.not_eq_false]
      refine ⟨els_of fun x hx => ?_, els_of fun x hx => ?_⟩
      · obtain ⟨t, ht, rfl⟩ := List.mem_map.1 hx
        have := kn_at (hc.subset ht)
        exact el_mk (by omega)
      · obtain ⟨t, ht, rfl⟩ := List.mem_map.1 hx
        exact hev t (hc.subset ht)
  refine (inE_0 ho ?_).1
  have h1 : c.Pairwise fun a b => a.1 < b.1 := (knF_pw l 0).sublist hc
  unfold shX
  rw [List.nodup_iff_pairwise_ne, List.pairwise_map]
  exact h1.imp fun h => by omega
theorem VW.of {P : Int} {l : List (Int × Bool)} (h : ceE P l = 0) (h10 : l.length ≤ 10) : VW P l := by
  obtain ⟨h1, _, h3, h4⟩ := ce_zero h
  exact ⟨h1, h10, h3, h4⟩
/-- the first error of a field, cells and k, but that of few cells -/
def bgE (P : Int) (l : List (Int × Bool)) (k : Int) : Int := if ceE P l = 0 then (if k < 1 ∨ (l.length : Int) < k then 1 else 0) else ceE P l
theorem bg_zero {P : Int} {l : List (Int × Bool)} {k : Int} (h : bgE P l k = 0) : ceE P l = 0 ∧ 1 ≤ k ∧ k ≤ l.length := by
  unfold bgE at h
  split at h
  · rename_i h1
    split at h
    · omega
    · exact ⟨h1, by omega, by omega⟩
  · contradiction
theorem fi_bg {P : Int} {l : List (Int × Bool)} {k : Int} (h : bgE P l k ≠ 0) : fiE P l k = bgE P l k ∧ fiE P l k ≠ 0 ∧ fiE P l k ≠ 11 := by
  unfold bgE at h ⊢
  by_cases hc : ceE P l = 0
  · rw [if_pos hc] at h ⊢
    split at h
    · rename_i h1
      rw [if_pos h1, (fi_rng hc h1).1]
      omega
    · contradiction
  · rw [if_neg hc, (fi_ce hc).1]
    refine ⟨rfl, hc, fun h11 => hc (fi_valid (k := k) (.inr ?_))⟩
    rw [(fi_ce hc).1, h11]
/-- what the reference's Decode answers -/
def rdE (P : Int) (l : List (Int × Bool)) (k ag : Int) : Int := if bgE P l k ≠ 0 then bgE P l k else if 10 < l.length then 4 else if ag < k ∨ (l.length : Int) < ag then 1 else 0
def rAllL (P : Int) (l : List (Int × Bool)) (k : Int) : List (List Int) := allR P (kn l) k.toNat (2 ^ (kn l).length)
def rdL (P : Int) (l : List (Int × Bool)) (k ag : Int) : List (List Int) := if rdE P l k ag = 0 then (rAllL P l k).filter (fun p => decide (ag ≤ agN P l p)) else []
theorem rdE_eq (P : Int) (l : List (Int × Bool)) (k ag : Int) : rdE P l k ag = deE P l k ag := by
  unfold rdE deE
  by_cases h : bgE P l k = 0
  · rw [if_neg (by simpa using h)]
    obtain ⟨h1, h2, h3⟩ := bg_zero h
    by_cases h10 : 10 < l.length
    · rw [if_pos h10]
      by_cases hf : fiE P l k ≠ 0 ∧ fiE P l k ≠ 11
      · exfalso
        have hP := ce_zero h1
        by_cases h4 : ((kn l).length : Int) < k
        · exact hf.2 (fi_few h1 (by omega) h4).1
        · have := (fi_ok h1 (by omega) h4).1
          have h5 : inE P ((kn l).take k.toNat) = 0 := ce_ie h1 (List.take_sublist _ _)
          rw [this, h5] at hf
          exact hf.1 rfl
      · rw [if_neg hf]
    · have hv := VW.of h1 (by omega)
      obtain ⟨kn', rfl⟩ : ∃ kn' : Nat, k = kn' := ⟨k.toNat, by omega⟩
      have := hv.fi (k := kn') (by omega) (by omega)
      rw [this]
      rw [if_neg h10, if_neg (c := _ ∧ _) (by split <;> simp)]
  · obtain ⟨h1, h2, h3⟩ := fi_bg h
    rw [if_pos h, if_pos ⟨h2, h3⟩, h1]
theorem Asc.filter {rs : List (List Int)} (h : Asc rs) (f : List Int → Bool) : Asc (rs.filter f) := List.Pairwise.sublist List.filter_sublist h
theorem deE_zero {P : Int} {l : List (Int × Bool)} {k ag : Int} (h : deE P l k ag = 0) : VW P l ∧ 1 ≤ k ∧ k ≤ l.length ∧ k ≤ ag ∧ ag ≤ l.length := by
  rw [← rdE_eq] at h
  unfold rdE at h
  split at h
  · contradiction
  · rename_i h1
    have h2 := bg_zero (by simpa using h1)
    split at h
    · omega
    · split at h
      · omega
      · exact ⟨VW.of h2.1 (by omega), by omega, by omega, by omega, by omega⟩
theorem dec_same {P : Int} {l : List (Int × Bool)} {k ag : Int} {rs : List (List Int)} (ha : Asc rs) (hm : ∀ p, p ∈ rs ↔ deE P l k ag = 0 ∧ p ∈ (runS P l k.toNat ag).1) : rs = rdL P l k ag := by
  unfold rdL
  rw [rdE_eq]
  by_cases h : deE P l k ag = 0
  · rw [if_pos h]
    obtain ⟨hv, h1, h2, h3, h4⟩ := deE_zero h
    refine Asc.ext ha ((allR_inv P (kn l) k.toNat _).2.1.filter _) fun p => ?_
    rw [hm p, run_mem, List.mem_filter, decide_eq_true_iff]
    unfold rAllL
    rw [allR_mem]
    constructor
    · rintro ⟨_, c, hc, _, h6, rfl⟩
      obtain ⟨h7, h8⟩ := (chs_all l _ c).1 hc
      exact ⟨⟨c, h7, h8, rfl⟩, h6⟩
    · rintro ⟨⟨c, h7, h8, rfl⟩, h6⟩
      exact ⟨h, c, (chs_all l _ c).2 ⟨h7, h8⟩, hv.ie h7, h6, rfl⟩
  · rw [if_neg h]
    cases rs with
    | nil => rfl
    | cons a t => exact absurd ((hm a).1 (by simp)).1 h

/-- what the reference's Nearest keeps: the polynomials of the most places, and how many these are -/
def nrS (P : Int) (l : List (Int × Bool)) (st : List (List Int) × Int) (p : List Int) : List (List Int) × Int :=
  ((if st.2 < agN P l p then [] else st.1) ++ (if st.2 ≤ agN P l p then [p] else []), if st.2 < agN P l p then agN P l p else st.2)
def nrF (P : Int) (l : List (Int × Bool)) (ps : List (List Int)) : List (List Int) × Int := ps.foldl (nrS P l) ([], 0)
theorem nrF_snoc (P : Int) (l : List (Int × Bool)) (ps : List (List Int)) (p : List Int) : nrF P l (ps ++ [p]) = nrS P l (nrF P l ps) p := by
  unfold nrF
  rw [List.foldl_append]
  rfl
theorem nrF_take (P : Int) (l : List (Int × Bool)) (ps : List (List Int)) {k : Nat} (h : k < ps.length) : nrF P l (ps.take (k + 1)) = nrS P l (nrF P l (ps.take k)) ps[k] := by
  rw [List.take_succ_eq_append_getElem h, nrF_snoc]
theorem nrF_inv (P : Int) (l : List (Int × Bool)) : ∀ n, ∀ ps : List (List Int), ps.length = n → 0 ≤ (nrF P l ps).2 ∧ (∀ p ∈ ps, agN P l p ≤ (nrF P l ps).2) ∧ ((nrF P l ps).2 = 0 ∨ ∃ p ∈ ps, agN P l p = (nrF P l ps).2) ∧ (nrF P l ps).1 = ps.filter (fun p => decide (agN P l p = (nrF P l ps).2)) := by
  intro n
  induction n with
  | zero =>
    intro ps h
    obtain rfl := List.eq_nil_of_length_eq_zero h
    exact ⟨Int.le_refl _, by simp, .inl rfl, rfl⟩
  | succ n ih =>
    intro ps h
    have hne : ps ≠ [] := fun e => by subst e; simp at h
    obtain ⟨qs, p, rfl⟩ : ∃ qs p, ps = qs ++ [p] := ⟨_, _, (List.dropLast_concat_getLast hne).symm⟩
    obtain ⟨h0, h1, h2, h3⟩ := ih qs (by simpa using h)
    rw [nrF_snoc]
    unfold nrS
    by_cases hlt : (nrF P l qs).2 < agN P l p
    · simp only [if_pos hlt, if_pos (Int.le_of_lt hlt), List.nil_append]
      refine ⟨by omega, fun q hq => ?_, .inr ⟨p, by simp, rfl⟩, ?_⟩
      · rcases List.mem_append.1 hq with hq | hq
        · have := h1 q hq; omega
        · simp at hq; subst hq; omega
      · rw [List.filter_append, List.filter_eq_nil_iff.2 (fun q hq => by have := h1 q hq; simp; omega)]
        simp
    · simp only [if_neg hlt]
      refine ⟨h0, fun q hq => ?_, ?_, ?_⟩
      · rcases List.mem_append.1 hq with hq | hq
        · exact h1 q hq
        · simp at hq; subst hq; omega
      · rcases h2 with h2 | ⟨q, hq, h2⟩
        · exact .inl h2
        · exact .inr ⟨q, by simp [hq], h2⟩
      · rw [List.filter_append, ← h3]
        congr 1
        by_cases he : (nrF P l qs).2 ≤ agN P l p
        · rw [if_pos he]
          have : agN P l p = (nrF P l qs).2 := by omega
          simp [this]
        · rw [if_neg he]
          have : agN P l p ≠ (nrF P l qs).2 := by omega
          simp [this]
/-- what the reference's Nearest answers -/
def rnE (P : Int) (l : List (Int × Bool)) (k : Int) : Int := if bgE P l k ≠ 0 then bgE P l k else if ((kn l).length : Int) < k then 11 else if 10 < l.length then 4 else 0
def rnL (P : Int) (l : List (Int × Bool)) (k : Int) : List (List Int) := if rnE P l k = 0 then (nrF P l (rAllL P l k)).1 else []
def rnM (P : Int) (l : List (Int × Bool)) (k : Int) : Int := if rnE P l k = 0 then (nrF P l (rAllL P l k)).2 else 0
theorem rnE_eq (P : Int) (l : List (Int × Bool)) (k : Int) : rnE P l k = neE P l k := by
  unfold rnE neE
  by_cases h : bgE P l k = 0
  · rw [if_neg (by simpa using h)]
    obtain ⟨h1, h2, h3⟩ := bg_zero h
    by_cases h4 : ((kn l).length : Int) < k
    · rw [if_pos h4, (fi_few h1 (by omega) h4).1, if_pos (by omega)]
    · have h5 : inE P ((kn l).take k.toNat) = 0 := ce_ie h1 (List.take_sublist _ _)
      rw [if_neg h4, (fi_ok h1 (by omega) h4).1, h5]; simp
  · obtain ⟨h1, h2, h3⟩ := fi_bg h
    rw [if_pos h, if_pos h2, h1]
theorem near_same {P : Int} {l : List (Int × Bool)} {k : Int} {rs : List (List Int)} (ha : Asc rs) (hm : ∀ p, p ∈ rs ↔ neE P l k = 0 ∧ p ∈ (runS P l k.toNat (neM P l k)).1) : rs = rnL P l k ∧ neM P l k = rnM P l k := by
  unfold rnL rnM
  rw [rnE_eq]
  by_cases h : neE P l k = 0
  · rw [if_pos h, if_pos h]
    have h' := h
    rw [← rnE_eq] at h'
    unfold rnE at h'
    split at h'
    · contradiction
    rename_i hb
    obtain ⟨h1, h2, h3⟩ := bg_zero (by simpa using hb)
    split at h'
    · omega
    rename_i h4
    split at h'
    · omega
    have hv := VW.of h1 (by omega)
    obtain ⟨kk, rfl⟩ : ∃ kk : Nat, k = kk := ⟨k.toNat, by omega⟩
    have e0 : ((kk : Nat) : Int).toNat = kk := by omega
    rw [e0] at hm
    have eM : neM P l kk = (runS P l kk ((l.length : Int) + 1)).2 := by unfold neM; rw [if_pos h, e0]
    obtain ⟨m1, m2, m3, m4⟩ := hv.most (k := kk) (by omega) (by omega) ((l.length : Int) + 1)
    rw [← eM] at m1 m2 m3 m4
    obtain ⟨n0, n1, n2, n3⟩ := nrF_inv P l _ (rAllL P l kk) rfl
    have hmem : ∀ p, p ∈ rAllL P l kk ↔ ∃ c, c ∈ chs l kk l.length [] ∧ p = inP P c := fun p => by
      unfold rAllL
      rw [e0, allR_mem]
      constructor
      · rintro ⟨c, h7, h8, rfl⟩; exact ⟨c, (chs_all l _ c).2 ⟨h7, h8⟩, rfl⟩
      · rintro ⟨c, hc, rfl⟩
        obtain ⟨h7, h8⟩ := (chs_all l _ c).1 hc
        exact ⟨c, h7, h8, rfl⟩
    have eq : neM P l kk = (nrF P l (rAllL P l kk)).2 := by
      obtain ⟨c, hc, e⟩ := m2
      have h5 := n1 _ ((hmem _).2 ⟨c, hc, rfl⟩)
      rcases n2 with n2 | ⟨p, hp, n2⟩
      · omega
      · obtain ⟨c2, hc2, rfl⟩ := (hmem p).1 hp
        have := m1 c2 hc2
        omega
    refine ⟨?_, eq⟩
    rw [n3]
    refine Asc.ext ha ((allR_inv P (kn l) _ _).2.1.filter _) fun p => ?_
    rw [hm p, run_mem, List.mem_filter, decide_eq_true_iff, hmem p, ← eq]
    constructor
    · rintro ⟨_, c, hc, _, h6, rfl⟩
      have := m1 c hc
      exact ⟨⟨c, hc, rfl⟩, by omega⟩
    · rintro ⟨⟨c, hc, rfl⟩, h6⟩
      exact ⟨h, c, hc, hv.ie ((chs_all l _ c).1 hc).1, by omega, rfl⟩
  · rw [if_neg h, if_neg h]
    refine ⟨?_, by unfold neM; rw [if_neg h]⟩
    cases rs with
    | nil => rfl
    | cons a t => exact absurd ((hm a).1 (by simp)).1 h
end Go.Proofs.Ytbgabipngdillaa

namespace Go.Proofs.Ytbgabipngdillaa
open Go.RowKit Go.Shelf

set_option maxRecDepth 100000 in
set_option maxHeartbeats 4000000 in
theorem rbegin_any (P : Int) (l : List (Int × Bool)) (k : Int) (v : Value) (w : World) (hP : i64r P) (h : SCl w v l) (hz : l.length ≤ 1000000) :
    Calls Try.prog 42 #[.agg #[.int .i64 P], v, .int .i64 k] w fun e w' => e = .returned (.int .i64 (bgE P l k)) ∧ Below w.heap.size w w' := by
  obtain ⟨A, c, rfl⟩ := h.form
  have HS := Lib.hid h
  clear h
  obtain ⟨n, en⟩ : ∃ n, n = l.length := ⟨_, rfl⟩
  have HN := Lib.hid en
  rw [← en] at HS hz ⊢
  clear en
  go_enter Try.func42, Try.ntmps42
  obtain ⟨F, eF⟩ : ∃ F, F = w.heap.size := ⟨_, rfl⟩
  obtain ⟨w1, ew1⟩ : ∃ w1 : World, w1 = w.alloc (.cells #[.int .i64 P] 26) := ⟨_, rfl⟩
  have HWw1 : Hid (w.alloc (.cells #[.int .i64 P] 26) = w1) := ew1.symm
  have HAw1 : Hid (Below w.heap.size w w1) := (show Hid _ from by rw [ew1]; exact (Below.refl _ w).alloc (Nat.le_refl _) _)
  have HF0w1 : Hid (w1.heap[F]? = some (.cells #[.int .i64 P] 26 (0, 0))) := (show Hid _ from by show _ = _; rw [ew1, eF]; exact heap_alloc_new w _)
  have HXC : Hid (∀ W, Below w1.heap.size w1 W → W.cell? ⟨F, 0, none⟩ = some (.int .i64 P)) := (show Hid _ from fun W hg => by
    have hF0 := (hg.block F (heap_of_cells HF0w1.out)).trans HF0w1.out
    exact (cell_of_row W F 0 _ _ _ hF0))
  go_upto_region 1 with fail
  rw [HWw1.out, ← eF]
  clear ew1 eF
  have x0 := HXC.out w1 (Below.refl _ _)
  go_wp2_with fail
  (with_reducible refine (rcells_any P l _ w1 hP (HS.out.below HAw1.out) (by rw [← HN.out]; exact hz)).mono ?_)
  rintro e w2 ⟨rfl, hb2⟩
  have HB2 : Hid (Below w.heap.size w w2) := (show Hid _ from HAw1.out.trans (hb2.mono HAw1.out.size))
  clear hb2 x0
  by_cases hc : ceE P l = 0
  case' neg =>
    have hcz : (ceE P l != 0) = true := by rw [bne_iff_ne]; exact hc
    have HR : Hid (bgE P l k = ceE P l) := (show Hid _ from if_neg hc)
    clear hc
    go_wp2_with fail
    go_ret
    exact ⟨by rw [HR.out] <;> rfl, HB2.out⟩
  have hcz : (ceE P l != 0) = false := by rw [bne_eq_false_iff_eq]; exact hc
  by_cases h1 : k < 1
  · have d1 : decide (k < 1) = true := decide_eq_true h1
    have HR : Hid (bgE P l k = 1) := (show Hid _ from by show _ = _; unfold bgE; rw [if_pos hc, if_pos (.inl h1)])
    rw [hc]
    clear hc hcz h1
    go_wp2_with fail
    go_ret
    exact ⟨by rw [HR.out] <;> rfl, HB2.out⟩
  · have d1 : decide (k < 1) = false := decide_eq_false h1
    by_cases h2 : (n : Int) < k
    · have d2 : decide ((n : Int) < k) = true := decide_eq_true h2
      have HR : Hid (bgE P l k = 1) := (show Hid _ from by show _ = _; unfold bgE; rw [if_pos hc, if_pos (.inr (by rw [← HN.out]; exact h2))])
      rw [hc]
      clear hc hcz h1 h2
      go_wp2_with fail
      go_ret
      exact ⟨by rw [HR.out] <;> rfl, HB2.out⟩
    · have d2 : decide ((n : Int) < k) = false := decide_eq_false h2
      have HR : Hid (bgE P l k = 0) := (show Hid _ from by show _ = _; unfold bgE; rw [if_pos hc, if_neg (by rw [← HN.out]; omega)])
      rw [hc]
      clear hc hcz h1 h2
      go_wp2_with fail
      go_ret
      exact ⟨by rw [HR.out] <;> rfl, HB2.out⟩

theorem SX.of_se {g : Nat} {wq W : World} {X : Option Nat} {v : Value} {l : List Int} (h : SE g wq v l) (hX : ∀ b, X = some b → wq.heap.size ≤ b) (hB : Below wq.heap.size wq W) : SX W X (some g) v l := by
  obtain ⟨A, c, rfl, hc, hm, hr, ha⟩ := h
  refine ⟨A, c, rfl, hc, hm, hr, fun h0 => ?_⟩
  obtain ⟨b, off, rfl, hb, hbg, hcell⟩ := ha h0
  refine ⟨b, off, rfl, Nat.lt_of_lt_of_le hb hB.size, fun e => ?_, fun e => hbg (by injection e), fun j hj => ?_⟩
  · have := hX b e.symm; omega
  · exact (hB.cell (p := ⟨b, off + j, none⟩) hb).trans (hcell j hj)
theorem SLE.at {g : Nat} {w : World} {v : Value} {rs : List (List Int)} (h : SLE g w v rs) : ∃ A c, v = .slice A rs.length c ∧
    ∀ j (hj : j < rs.length), ∃ b off B d, A = some ⟨b, off, none⟩ ∧ (∀ W, Below w.heap.size w W → W.cell? ⟨b, off + j, none⟩ = some (.slice B rs[j].length d)) ∧ SE g w (.slice B rs[j].length d) rs[j] := by
  obtain ⟨A, c, rfl, _, _, ha⟩ := h
  refine ⟨A, c, rfl, fun j hj => ?_⟩
  obtain ⟨b, off, rfl, hb, _, hcell⟩ := ha (by omega)
  obtain ⟨B, d, h1, h2⟩ := hcell j hj
  exact ⟨b, off, B, d, rfl, fun W hW => (hW.cell (p := ⟨b, off + j, none⟩) hb).trans h1, h2⟩
/-- the rows that the loop over what all returns has kept -/
def DcR (P : Int) (l : List (Int × Bool)) (ag : Int) (qs : List (List Int)) (g : Nat) (wq : World) (iv pv : Value) (wr : World) : Prop :=
  ∃ i : Nat, i ≤ qs.length ∧ iv = .int .i64 i ∧ (∃ vs, RW wq.heap.size g wr pv vs ((qs.take i).filter fun p => decide (ag ≤ agN P l p))) ∧ Below wq.heap.size wq wr
theorem filter_take {α : Type} (f : α → Bool) (qs : List α) {i : Nat} (h : i < qs.length) : (qs.take (i + 1)).filter f = (qs.take i).filter f ++ if f qs[i] = true then [qs[i]] else [] := by
  rw [List.take_succ_eq_append_getElem h, List.filter_append]
  congr 1
  by_cases hf : f qs[i] = true
  · simp [hf]
  · simp [hf]
set_option maxRecDepth 100000 in
set_option maxHeartbeats 4000000 in
theorem rdecode_any (P : Int) (l : List (Int × Bool)) (k ag : Int) (g : Nat) (v : Value) (w : World) (hP : i64r P) (h : SCl w v l) (hz : l.length ≤ 1000000) (hg : g < w.heap.size) :
    Calls Try.prog 23 #[.agg #[.int .i64 P], v, .int .i64 k, .int .i64 ag] w fun e w' => ∃ v', e = .returned (.tuple #[v', .int .i64 (rdE P l k ag)]) ∧ SLE g w' v' (rdL P l k ag) ∧ Below w.heap.size w w' := by
  obtain ⟨A, c, rfl⟩ := h.form
  have HS := Lib.hid h
  clear h
  obtain ⟨n, en⟩ : ∃ n, n = l.length := ⟨_, rfl⟩
  have HN := Lib.hid en
  rw [← en] at HS hz ⊢
  clear en
  go_enter Try.func23, Try.ntmps23
  obtain ⟨F, eF⟩ : ∃ F, F = w.heap.size := ⟨_, rfl⟩
  obtain ⟨w1, ew1⟩ : ∃ w1 : World, w1 = w.alloc (.cells #[.int .i64 P] 26) := ⟨_, rfl⟩
  have HWw1 : Hid (w.alloc (.cells #[.int .i64 P] 26) = w1) := ew1.symm
  have HAw1 : Hid (Below w.heap.size w w1) := (show Hid _ from by rw [ew1]; exact (Below.refl _ w).alloc (Nat.le_refl _) _)
  have HF0w1 : Hid (w1.heap[F]? = some (.cells #[.int .i64 P] 26 (0, 0))) := (show Hid _ from by show _ = _; rw [ew1, eF]; exact heap_alloc_new w _)
  have HXC : Hid (∀ W, Below w1.heap.size w1 W → W.cell? ⟨F, 0, none⟩ = some (.int .i64 P)) := (show Hid _ from fun W hg => by
    have hF0 := (hg.block F (heap_of_cells HF0w1.out)).trans HF0w1.out
    exact (cell_of_row W F 0 _ _ _ hF0))
  go_upto_region 1 with fail
  rw [HWw1.out, ← eF]
  clear ew1 eF
  have x0 := HXC.out w1 (Below.refl _ _)
  go_wp2_with fail
  (with_reducible refine (rbegin_any P l k _ w1 hP (HS.out.below HAw1.out) (by rw [← HN.out]; exact hz)).mono ?_)
  rintro e w2 ⟨rfl, hb2⟩
  have HB2 : Hid (Below w1.heap.size w1 w2) := (show Hid _ from hb2)
  have HBw : Hid (∀ W, Below w1.heap.size w1 W → Below w.heap.size w W) := (show Hid _ from fun W hW => HAw1.out.trans (hW.mono HAw1.out.size))
  clear hb2 x0
  by_cases hc : bgE P l k = 0
  case' neg =>
    have hcz : (bgE P l k != 0) = true := by rw [bne_iff_ne]; exact hc
    have HR : Hid (rdE P l k ag = bgE P l k) := (show Hid _ from if_pos hc)
    have HL : Hid (rdL P l k ag = []) := (show Hid _ from if_neg (by rw [HR.out]; exact hc))
    clear hc
    go_wp2_with fail
    refine bodyPost_ret (v := .tuple #[.slice none 0 0, .int .i64 (bgE P l k)]) (by simp [results, Try.results23, go_sem]) rfl ?_
    rw [HR.out, HL.out]
    exact ⟨_, rfl, SLE.nil _ _, HBw.out _ HB2.out⟩
  have hcz : (bgE P l k != 0) = false := by rw [bne_eq_false_iff_eq]; exact hc
  have hbg := bg_zero hc
  have HC : Hid (bgE P l k = 0) := hc
  have hk1 : 1 ≤ k ∧ k ≤ (n : Int) := by rw [HN.out]; exact hbg.2
  rw [hc]
  clear hc hcz hbg
  by_cases h10 : 10 < n
  · have d1 : decide ((10 : Int) < (n : Int)) = true := decide_eq_true (by omega)
    have HR : Hid (rdE P l k ag = 4) := (show Hid _ from by show _ = _; unfold rdE; rw [if_neg (by rw [HC.out]; simp), if_pos (by rw [← HN.out]; exact h10)])
    have HL : Hid (rdL P l k ag = []) := (show Hid _ from if_neg (by rw [HR.out]; omega))
    clear h10
    go_wp2_with fail
    refine bodyPost_ret (v := .tuple #[.slice none 0 0, .int .i64 4]) (by simp [results, Try.results23, go_sem]) rfl ?_
    rw [HR.out, HL.out]
    exact ⟨_, rfl, SLE.nil _ _, HBw.out _ HB2.out⟩
  have d1 : decide ((10 : Int) < (n : Int)) = false := decide_eq_false (by omega)
  by_cases hag : ag < k ∨ (n : Int) < ag
  · have HR : Hid (rdE P l k ag = 1) := (show Hid _ from by show _ = _; unfold rdE; rw [if_neg (by rw [HC.out]; simp), if_neg (by rw [← HN.out]; exact h10), if_pos (by rw [← HN.out]; exact hag)])
    have HL : Hid (rdL P l k ag = []) := (show Hid _ from if_neg (by rw [HR.out]; omega))
    by_cases h4 : ag < k
    · have d2 : decide (ag < k) = true := decide_eq_true h4
      clear hag h10
      go_wp2_with fail
      refine bodyPost_ret (v := .tuple #[.slice none 0 0, .int .i64 1]) (by simp [results, Try.results23, go_sem]) rfl ?_
      rw [HR.out, HL.out]
      exact ⟨_, rfl, SLE.nil _ _, HBw.out _ HB2.out⟩
    · have d2 : decide (ag < k) = false := decide_eq_false h4
      have d3 : decide ((n : Int) < ag) = true := decide_eq_true (by omega)
      clear hag h10
      go_wp2_with fail
      refine bodyPost_ret (v := .tuple #[.slice none 0 0, .int .i64 1]) (by simp [results, Try.results23, go_sem]) rfl ?_
      rw [HR.out, HL.out]
      exact ⟨_, rfl, SLE.nil _ _, HBw.out _ HB2.out⟩
  have d2 : decide (ag < k) = false := decide_eq_false (by omega)
  have d3 : decide ((n : Int) < ag) = false := decide_eq_false (by omega)
  have HR : Hid (rdE P l k ag = 0) := (show Hid _ from by show _ = _; unfold rdE; rw [if_neg (by rw [HC.out]; simp), if_neg (by rw [← HN.out]; exact h10), if_neg (by rw [← HN.out]; exact hag)])
  obtain ⟨kk, rfl⟩ : ∃ kk : Nat, k = kk := ⟨k.toNat, by omega⟩
  obtain ⟨qs, eqs⟩ : ∃ qs, qs = rAllL P l kk := ⟨_, rfl⟩
  have HQ := Lib.hid eqs
  have HL : Hid (rdL P l kk ag = qs.filter fun p => decide (ag ≤ agN P l p)) := (show Hid _ from by show _ = _; rw [eqs]; exact if_pos HR.out)
  have hknl : (kn l).length ≤ 10 := by have := kn_len l 0; have := HN.out; unfold kn; omega
  have hsr : ∀ t ∈ kn l, i64r t.1 ∧ i64r t.2 := by
    obtain ⟨A', c', e', hc', hm', hr', ha'⟩ := HS.out
    exact kn_rng (by rw [← HN.out]; exact hz) hr'
  have HSR := Lib.hid hsr
  have hn10 : n ≤ 10 := by omega
  clear hag h10 eqs hsr
  have x2 := HXC.out w2 HB2.out
  have HS2 : Hid (SCl w2 (.slice A n c) l) := (show Hid _ from (HS.out.below HAw1.out).below HB2.out)
  have hgw2 : g < w2.heap.size := by have h1 := HAw1.out.size; have h2 := HB2.out.size; omega
  have HZ : Hid (l.length ≤ 1000000) := (show Hid _ from by rw [← HN.out]; exact hz)
  have HKL := Lib.hid hknl
  clear hknl
  go_upto_region 9 with fail
  go_region_held3 (fun w' => w'.cell? ⟨F, 0, none⟩ = some (.int .i64 P)) (first | exact x2 | exact x3 | exact x4 | go_keep)
    (first
      | (go_at_call 34; refine (rknown_any l _ _ (by first | exact HS2.out | exact HS2.out.below (Below.refl _ w2).drew) HZ.out).mono ?_; rintro e w3 ⟨v3, rfl, hown3, hb3⟩; have HB3 : Hid (Below w2.heap.size w2 w3) := (show Hid _ from ⟨hb3.os, hb3.tape, hb3.output, hb3.size, hb3.block⟩); have HSG : Hid (SG pcs 2 w3.heap.size w3 v3 (kn l)) := (show Hid _ from SG.of_own hown3 (fun t ht y hy => by simp [pcs] at hy; rcases hy with rfl | rfl; exact (HSR.out t ht).1; exact (HSR.out t ht).2) (fun _ _ => rfl)); have x3 : w3.cell? ⟨F, 0, none⟩ = some (.int .i64 P) := HXC.out w3 (HB2.out.trans (HB3.out.mono HB2.out.size)); have hgw3 : g < w3.heap.size := Nat.lt_of_lt_of_le hgw2 HB3.out.size; clear hown3 hb3)
      | (go_at_call 43; refine (all10_any P (kn l) kk g _ _ hP (by first | exact HSG.out | exact HSG.out.below (Below.refl _ w3).drew) HKL.out (by omega) (by exact hgw3)).mono ?_; rintro e w4 ⟨G, v4, vs4, rfl, hG, hrw, hb4⟩; have HB4 : Hid (Below w3.heap.size w3 w4) := (show Hid _ from ⟨hb4.os, hb4.tape, hb4.output, hb4.size, hb4.block⟩); have HG : Hid (g < G) := (show Hid _ from Nat.lt_of_lt_of_le hgw3 hG); have HRW := Lib.hid hrw; have x4 : w4.cell? ⟨F, 0, none⟩ = some (.int .i64 P) := HXC.out w4 (HB2.out.trans ((HB3.out.trans (HB4.out.mono HB3.out.size)).mono HB2.out.size)); have hsle4 : SLE g w4 v4 qs := (by rw [HQ.out]; exact hrw.sle HG.out); have HSLE := Lib.hid hsle4; obtain ⟨A4, c4, ev4, hat4⟩ := hsle4.at; subst ev4; have HAT := Lib.hid hat4; clear hrw hb4 hG hat4 hsle4))
  have HB4w : Hid (Below w1.heap.size w1 w4) := (show Hid _ from HB2.out.trans ((HB3.out.trans (HB4.out.mono HB3.out.size)).mono HB2.out.size))
  have HS4 : Hid (SCl w4 (.slice A n c) l) := (show Hid _ from (HS2.out.below HB3.out).below HB4.out)
  have hgw4 : g < w4.heap.size := Nat.lt_of_lt_of_le hgw3 HB4.out.size
  have hRb : qs.length ≤ 1024 := by
    rw [HQ.out]
    unfold rAllL
    have h1 := allR_len P (kn l) ((kk : Int).toNat) (2 ^ (kn l).length)
    have h2 : 2 ^ (kn l).length ≤ 2 ^ 10 := Nat.pow_le_pow_right (by omega) HKL.out
    omega
  have HQE : Hid (∀ q ∈ qs, q.length ≤ 1000000) := (show Hid _ from fun q hq => by
    rw [HQ.out] at hq
    have h1 := allR_elen q hq
    have h2 := HKL.out
    omega)
  obtain ⟨R, eR⟩ : ∃ R, R = qs.length := ⟨_, rfl⟩
  rw [← eR] at hRb HSLE ⊢
  have HRR := Lib.hid eR
  clear x2 x3 x4 eR HSG HRW HQ
  go_wp2_with fail
  go_loopw [41, 11] (fun iv pv wr => DcR P l ag qs g w4 iv pv wr) (fun iv _ _ => R - (intOf iv).toNat)
  case atStart => exact ⟨0, Nat.zero_le _, rfl, ⟨_, RW.nil _ _ _⟩, Below.refl _ _⟩
  case round =>
    obtain ⟨i, hi, rfl, ⟨vs, hrw⟩, hbr⟩ := hrel
    have HRW := Lib.hid hrw
    have HBR := Lib.hid hbr
    have hzr := hbr.size
    clear hrw hbr
    rw [← HRR.out] at hi
    have HBRw : Hid (Below w1.heap.size w1 wr) := (show Hid _ from HB4w.out.trans (HBR.out.mono HB4w.out.size))
    have x0 := HXC.out wr HBRw.out
    have hvn : vs.length ≤ i := by
      rw [HRW.out.len]
      refine Nat.le_trans (List.length_filter_le _ _) ?_
      rw [List.length_take]
      omega
    by_cases hli : i < R
    · have di : decide ((i : Int) < (R : Int)) = true := decide_eq_true (by omega)
      have din : decide (i < R) = true := decide_eq_true hli
      have hil : i < qs.length := by rw [← HRR.out]; exact hli
      obtain ⟨b, off, B, d, eA, hW, hse⟩ := HAT.out i hil
      subst eA
      have c0 := hW wr HBR.out
      have hql : qs[i].length ≤ 1000000 := HQE.out _ (List.getElem_mem hil)
      have HFT := Lib.hid (filter_take (fun p => decide (ag ≤ agN P l p)) qs hil)
      obtain ⟨p, ep⟩ : ∃ p, p = qs[i] := ⟨_, rfl⟩
      rw [← ep] at c0 hse hql HFT
      have HSE := Lib.hid hse
      have HSI : Hid (SI wr (.slice B p.length d) p) := (show Hid _ from hse.si.below HBR.out)
      clear hW ep hse
      obtain ⟨pl, epl⟩ : ∃ pl, pl = p.length := ⟨_, rfl⟩
      rw [← epl] at c0 HSE HSI hql
      have HPL := Lib.hid epl
      clear epl
      go_wp2_with fail
      (with_reducible refine (ragree_any P l p _ _ wr hP (HS4.out.below HBR.out) HZ.out HSI.out (by rw [← HPL.out]; exact hql)).mono ?_)
      rintro e w6 ⟨rfl, hb6⟩
      have HB6 : Hid (Below w4.heap.size w4 w6) := (show Hid _ from HBR.out.trans (hb6.mono hzr))
      have HRW6 : Hid (RW w4.heap.size g w6 u11 vs _) := (show Hid _ from HRW.out.below hgw4 hb6)
      have hz6 : w4.heap.size ≤ w6.heap.size := HB6.out.size
      obtain ⟨a, ea⟩ : ∃ a, a = agN P l p := ⟨_, rfl⟩
      rw [← ea] at HFT ⊢
      clear ea hb6 c0 x0
      by_cases hag : ag ≤ a
      · have da : decide (ag ≤ a) = true := decide_eq_true hag
        have HFT2 : Hid ((qs.take (i + 1)).filter (fun p => decide (ag ≤ agN P l p)) = (qs.take i).filter (fun p => decide (ag ≤ agN P l p)) ++ [p]) := (show Hid _ from by show _ = _; rw [HFT.out, if_pos da])
        clear hag HFT
        have HSX : Hid (SX (w6.alloc (.cells #[.slice B pl d] 22)) (Value.ownBlock u11) (some g) (.slice B pl d) p) := (show Hid _ from SX.of_se HSE.out (fun q hq => (HRW6.out.hdr.lt q hq).1) (HB6.out.alloc hz6 _))
        go_wp2_with (at_builtin; refine wpList_append_one_at _ rfl _ _ 34 rfl w4.heap.size 22 (.slice none 0 0) 24 Try.underlying34 ilinfo _ vs.length vs rfl (HRW6.out.hdr.alloc _) (.slice B pl d) rfl w6.heap.size rfl (cells_new w6 [.slice B pl d] 22 0 _ rfl) (by omega) (by omega) rfl (by simp; omega) ?_; intro g9 cap9 w9 hown9 hg9 hat9; have HO9 := Lib.hid hown9; have HG9 := Lib.hid hg9; have HA9 := Lib.hid hat9; clear hown9 hg9 hat9)
        have HRW9 := (HRW6.out.below hgw4 ((Below.refl _ w6).alloc (Nat.le_refl _) _)).app HSX.out HO9.out HG9.out (fun q hq => by
          have e : g9 = q := by simpa [Value.ownBlock] using hq
          subst e; exact HA9.out)
        have HB9 : Hid (Below w4.heap.size w4 w9) := (show Hid _ from (HB6.out.alloc hz6 _).grown HG9.out (by simp; omega) (fun q hq => (HRW6.out.hdr.lt q hq).1))
        go_roundw
        case rel => exact ⟨i + 1, by rw [← HRR.out]; omega, by go_num, ⟨_, by rw [HFT2.out]; exact HRW9⟩, HB9.out⟩
        case measure => simp [intOf]; omega
      · have da : decide (ag ≤ a) = false := decide_eq_false hag
        have HFT2 : Hid ((qs.take (i + 1)).filter (fun p => decide (ag ≤ agN P l p)) = (qs.take i).filter (fun p => decide (ag ≤ agN P l p))) := (show Hid _ from by show _ = _; rw [HFT.out, if_neg (by rw [da]; simp), List.append_nil])
        clear hag HFT
        go_wp2_with fail
        go_roundw
        case rel => exact ⟨i + 1, by rw [← HRR.out]; omega, by go_num, ⟨_, by rw [HFT2.out]; exact HRW6.out⟩, HB6.out⟩
        case measure => simp [intOf]; omega
    · have di : decide ((i : Int) < (R : Int)) = false := decide_eq_false (by omega)
      have din : decide (i < R) = false := decide_eq_false hli
      have HFA : Hid (rdL P l kk ag = (qs.take i).filter (fun p => decide (ag ≤ agN P l p))) := (show Hid _ from by show _ = _; rw [HL.out, show i = qs.length by rw [← HRR.out]; omega, List.take_length])
      go_wp2_with fail
      refine bodyPost_ret (v := .tuple #[u11, .int .i64 0]) (by simp [results, Try.results23, go_sem]) rfl ?_
      rw [HR.out, HFA.out]
      exact ⟨_, rfl, HRW.out.sle hgw4, HBw.out _ HBRw.out⟩
/-- the rows that the loop of Nearest has kept -/
def NrR (P : Int) (l : List (Int × Bool)) (qs : List (List Int)) (g : Nat) (wq : World) (iv pv mv : Value) (wr : World) : Prop :=
  ∃ i : Nat, i ≤ qs.length ∧ iv = .int .i64 i ∧ (∃ vs, RW wq.heap.size g wr pv vs (nrF P l (qs.take i)).1) ∧ mv = .int .i64 (nrF P l (qs.take i)).2 ∧ Below wq.heap.size wq wr
theorem nrF_len (P : Int) (l : List (Int × Bool)) (ps : List (List Int)) : (nrF P l ps).1.length ≤ ps.length := by
  rw [(nrF_inv P l _ ps rfl).2.2.2]
  exact List.length_filter_le _ _
set_option maxRecDepth 100000 in
set_option maxHeartbeats 4000000 in
theorem rnear_any (P : Int) (l : List (Int × Bool)) (k : Int) (g : Nat) (v : Value) (w : World) (hP : i64r P) (h : SCl w v l) (hz : l.length ≤ 1000000) (hg : g < w.heap.size) :
    Calls Try.prog 24 #[.agg #[.int .i64 P], v, .int .i64 k] w fun e w' => ∃ v', e = .returned (.tuple #[v', .int .i64 (rnM P l k), .int .i64 (rnE P l k)]) ∧ SLE g w' v' (rnL P l k) ∧ Below w.heap.size w w' := by
  obtain ⟨A, c, rfl⟩ := h.form
  have HS := Lib.hid h
  clear h
  obtain ⟨n, en⟩ : ∃ n, n = l.length := ⟨_, rfl⟩
  have HN := Lib.hid en
  rw [← en] at HS hz ⊢
  clear en
  go_enter Try.func24, Try.ntmps24
  obtain ⟨F, eF⟩ : ∃ F, F = w.heap.size := ⟨_, rfl⟩
  obtain ⟨w1, ew1⟩ : ∃ w1 : World, w1 = w.alloc (.cells #[.int .i64 P] 26) := ⟨_, rfl⟩
  have HWw1 : Hid (w.alloc (.cells #[.int .i64 P] 26) = w1) := ew1.symm
  have HAw1 : Hid (Below w.heap.size w w1) := (show Hid _ from by rw [ew1]; exact (Below.refl _ w).alloc (Nat.le_refl _) _)
  have HF0w1 : Hid (w1.heap[F]? = some (.cells #[.int .i64 P] 26 (0, 0))) := (show Hid _ from by show _ = _; rw [ew1, eF]; exact heap_alloc_new w _)
  have HXC : Hid (∀ W, Below w1.heap.size w1 W → W.cell? ⟨F, 0, none⟩ = some (.int .i64 P)) := (show Hid _ from fun W hg => by
    have hF0 := (hg.block F (heap_of_cells HF0w1.out)).trans HF0w1.out
    exact (cell_of_row W F 0 _ _ _ hF0))
  go_upto_region 1 with fail
  rw [HWw1.out, ← eF]
  clear ew1 eF
  have x0 := HXC.out w1 (Below.refl _ _)
  go_wp2_with fail
  (with_reducible refine (rbegin_any P l k _ w1 hP (HS.out.below HAw1.out) (by rw [← HN.out]; exact hz)).mono ?_)
  rintro e w2 ⟨rfl, hb2⟩
  have HB2 : Hid (Below w1.heap.size w1 w2) := (show Hid _ from hb2)
  have HBw : Hid (∀ W, Below w1.heap.size w1 W → Below w.heap.size w W) := (show Hid _ from fun W hW => HAw1.out.trans (hW.mono HAw1.out.size))
  clear hb2 x0
  by_cases hc : bgE P l k = 0
  case' neg =>
    have hcz : (bgE P l k != 0) = true := by rw [bne_iff_ne]; exact hc
    have HR : Hid (rnE P l k = bgE P l k) := (show Hid _ from if_pos hc)
    have HL : Hid (rnL P l k = []) := (show Hid _ from if_neg (by rw [HR.out]; exact hc))
    have HM : Hid (rnM P l k = 0) := (show Hid _ from if_neg (by rw [HR.out]; exact hc))
    clear hc
    go_wp2_with fail
    refine bodyPost_ret (v := .tuple #[.slice none 0 0, .int .i64 0, .int .i64 (bgE P l k)]) (by simp [results, Try.results24, go_sem]) rfl ?_
    rw [HR.out, HL.out, HM.out]
    exact ⟨_, rfl, SLE.nil _ _, HBw.out _ HB2.out⟩
  have hcz : (bgE P l k != 0) = false := by rw [bne_eq_false_iff_eq]; exact hc
  have hbg := bg_zero hc
  have HC : Hid (bgE P l k = 0) := hc
  have hk1 : 1 ≤ k ∧ k ≤ (n : Int) := by rw [HN.out]; exact hbg.2
  rw [hc]
  clear hc hcz hbg
  have HS2 : Hid (SCl w2 (.slice A n c) l) := (show Hid _ from (HS.out.below HAw1.out).below HB2.out)
  have hgw2 : g < w2.heap.size := by have h1 := HAw1.out.size; have h2 := HB2.out.size; omega
  have HZ : Hid (l.length ≤ 1000000) := (show Hid _ from by rw [← HN.out]; exact hz)
  have HKN : Hid ((kn l).length ≤ n) := (show Hid _ from by have h1 := kn_len l 0; have h2 := HN.out; show (knF 0 l).length ≤ n; omega)
  have hsr : ∀ t ∈ kn l, i64r t.1 ∧ i64r t.2 := by
    obtain ⟨A', c', e', hc', hm', hr', ha'⟩ := HS.out
    exact kn_rng (by rw [← HN.out]; exact hz) hr'
  have HSR := Lib.hid hsr
  clear hsr
  go_wp2_with fail
  (with_reducible refine (rknown_any l _ w2 HS2.out HZ.out).mono ?_)
  rintro e w3 ⟨v3, rfl, hown3, hb3⟩
  have HB3 := Lib.hid hb3
  have HSG : Hid (SG pcs 2 w3.heap.size w3 v3 (kn l)) := (show Hid _ from SG.of_own hown3 (fun t ht y hy => by simp [pcs] at hy; rcases hy with rfl | rfl; exact (HSR.out t ht).1; exact (HSR.out t ht).2) (fun _ _ => rfl))
  have hgw3 : g < w3.heap.size := Nat.lt_of_lt_of_le hgw2 HB3.out.size
  obtain ⟨A3, c3, ev3⟩ := own_slice hown3
  subst ev3
  obtain ⟨K, eK⟩ : ∃ K, K = (kn l).length := ⟨_, rfl⟩
  have HK := Lib.hid eK
  rw [← eK] at HKN HSG ⊢
  have hKn := HKN.out
  have HB3w : Hid (Below w1.heap.size w1 w3) := (show Hid _ from HB2.out.trans (HB3.out.mono HB2.out.size))
  clear hown3 hb3 eK
  by_cases hfew : (K : Int) < k
  · have d0 : decide ((K : Int) < k) = true := decide_eq_true hfew
    have HR : Hid (rnE P l k = 11) := (show Hid _ from by show _ = _; unfold rnE; rw [if_neg (by rw [HC.out]; simp), if_pos (by rw [← HK.out]; exact hfew)])
    have HL : Hid (rnL P l k = []) := (show Hid _ from if_neg (by rw [HR.out]; omega))
    have HM : Hid (rnM P l k = 0) := (show Hid _ from if_neg (by rw [HR.out]; omega))
    clear hfew
    go_wp2_with fail
    refine bodyPost_ret (v := .tuple #[.slice none 0 0, .int .i64 0, .int .i64 11]) (by simp [results, Try.results24, go_sem]) rfl ?_
    rw [HR.out, HL.out, HM.out]
    exact ⟨_, rfl, SLE.nil _ _, HBw.out _ HB3w.out⟩
  have d0 : decide ((K : Int) < k) = false := decide_eq_false hfew
  by_cases h10 : 10 < n
  · have d1 : decide ((10 : Int) < (n : Int)) = true := decide_eq_true (by omega)
    have HR : Hid (rnE P l k = 4) := (show Hid _ from by show _ = _; unfold rnE; rw [if_neg (by rw [HC.out]; simp), if_neg (by rw [← HK.out]; exact hfew), if_pos (by rw [← HN.out]; exact h10)])
    have HL : Hid (rnL P l k = []) := (show Hid _ from if_neg (by rw [HR.out]; omega))
    have HM : Hid (rnM P l k = 0) := (show Hid _ from if_neg (by rw [HR.out]; omega))
    clear h10 hfew
    go_wp2_with fail
    refine bodyPost_ret (v := .tuple #[.slice none 0 0, .int .i64 0, .int .i64 4]) (by simp [results, Try.results24, go_sem]) rfl ?_
    rw [HR.out, HL.out, HM.out]
    exact ⟨_, rfl, SLE.nil _ _, HBw.out _ HB3w.out⟩
  have d1 : decide ((10 : Int) < (n : Int)) = false := decide_eq_false (by omega)
  have HR : Hid (rnE P l k = 0) := (show Hid _ from by show _ = _; unfold rnE; rw [if_neg (by rw [HC.out]; simp), if_neg (by rw [← HK.out]; exact hfew), if_neg (by rw [← HN.out]; exact h10)])
  obtain ⟨kk, rfl⟩ : ∃ kk : Nat, k = kk := ⟨k.toNat, by omega⟩
  obtain ⟨qs, eqs⟩ : ∃ qs, qs = rAllL P l kk := ⟨_, rfl⟩
  have HQ := Lib.hid eqs
  have HL : Hid (rnL P l kk = (nrF P l qs).1) := (show Hid _ from by show _ = _; rw [eqs]; exact if_pos HR.out)
  have HM : Hid (rnM P l kk = (nrF P l qs).2) := (show Hid _ from by show _ = _; rw [eqs]; exact if_pos HR.out)
  have HKL : Hid ((kn l).length ≤ 10) := (show Hid _ from by have h1 := HK.out; show (kn l).length ≤ 10; omega)
  have x3 := HXC.out w3 HB3w.out
  have hn10 : n ≤ 10 := by omega
  have d0n : decide (K < kk) = false := decide_eq_false (by omega)
  clear h10 eqs hfew
  go_wp2_with fail
  (with_reducible refine (all10_any P (kn l) kk g _ w3 hP HSG.out HKL.out (by omega) hgw3).mono ?_)
  rintro e w4 ⟨G, v4, vs4, rfl, hG, hrw, hb4⟩
  have HB4 := Lib.hid hb4
  have HG : Hid (g < G) := (show Hid _ from Nat.lt_of_lt_of_le hgw3 hG)
  have HRW := Lib.hid hrw
  have hsle4 : SLE g w4 v4 qs := by rw [HQ.out]; exact hrw.sle HG.out
  have HSLE := Lib.hid hsle4
  obtain ⟨A4, c4, ev4, hat4⟩ := hsle4.at
  subst ev4
  have HAT := Lib.hid hat4
  clear hrw hb4 hG hat4 hsle4
  have HB4w : Hid (Below w1.heap.size w1 w4) := (show Hid _ from HB3w.out.trans (HB4.out.mono HB3w.out.size))
  have HS4 : Hid (SCl w4 (.slice A n c) l) := (show Hid _ from (HS2.out.below HB3.out).below HB4.out)
  have hgw4 : g < w4.heap.size := Nat.lt_of_lt_of_le hgw3 HB4.out.size
  have hRb : qs.length ≤ 1024 := by
    rw [HQ.out]
    unfold rAllL
    have h1 := allR_len P (kn l) ((kk : Int).toNat) (2 ^ (kn l).length)
    have h2 : 2 ^ (kn l).length ≤ 2 ^ 10 := Nat.pow_le_pow_right (by omega) HKL.out
    omega
  have HQE : Hid (∀ q ∈ qs, q.length ≤ 1000000) := (show Hid _ from fun q hq => by
    rw [HQ.out] at hq
    have h1 := allR_elen q hq
    have h2 := HKL.out
    omega)
  obtain ⟨R, eR⟩ : ∃ R, R = qs.length := ⟨_, rfl⟩
  rw [← eR] at hRb HSLE ⊢
  have HRR := Lib.hid eR
  clear x3 eR HSG HRW HQ
  go_wp2_with fail
  go_loopw [38, 11, 12] (fun iv pv mv wr => NrR P l qs g w4 iv pv mv wr) (fun iv _ _ _ => R - (intOf iv).toNat)
  case atStart => exact ⟨0, Nat.zero_le _, rfl, ⟨_, RW.nil _ _ _⟩, rfl, Below.refl _ _⟩
  case round =>
    obtain ⟨i, hi, rfl, ⟨vs, hrw⟩, hmv, hbr⟩ := hrel
    have HRW := Lib.hid hrw
    have HBR := Lib.hid hbr
    have hzr := hbr.size
    subst hmv
    clear hrw hbr
    rw [← HRR.out] at hi
    have HBRw : Hid (Below w1.heap.size w1 wr) := (show Hid _ from HB4w.out.trans (HBR.out.mono HB4w.out.size))
    have x0 := HXC.out wr HBRw.out
    have hvn : vs.length ≤ i := by
      rw [HRW.out.len]
      refine Nat.le_trans (nrF_len P l _) ?_
      rw [List.length_take]
      omega
    by_cases hli : i < R
    · have di : decide ((i : Int) < (R : Int)) = true := decide_eq_true (by omega)
      have din : decide (i < R) = true := decide_eq_true hli
      have hil : i < qs.length := by rw [← HRR.out]; exact hli
      obtain ⟨b, off, B, d, eA, hW, hse⟩ := HAT.out i hil
      subst eA
      have c0 := hW wr HBR.out
      have hql : qs[i].length ≤ 1000000 := HQE.out _ (List.getElem_mem hil)
      have HFT : Hid (nrF P l (qs.take (i + 1)) = ((if (nrF P l (qs.take i)).2 < agN P l qs[i] then [] else (nrF P l (qs.take i)).1) ++ (if (nrF P l (qs.take i)).2 ≤ agN P l qs[i] then [qs[i]] else []), if (nrF P l (qs.take i)).2 < agN P l qs[i] then agN P l qs[i] else (nrF P l (qs.take i)).2)) := (show Hid _ from nrF_take P l qs hil)
      obtain ⟨p, ep⟩ : ∃ p, p = qs[i] := ⟨_, rfl⟩
      rw [← ep] at c0 hse hql HFT
      have HSE := Lib.hid hse
      have HSI : Hid (SI wr (.slice B p.length d) p) := (show Hid _ from hse.si.below HBR.out)
      clear hW ep hse
      obtain ⟨pl, epl⟩ : ∃ pl, pl = p.length := ⟨_, rfl⟩
      rw [← epl] at c0 HSE HSI hql
      have HPL := Lib.hid epl
      clear epl
      obtain ⟨M, eM⟩ : ∃ M, M = (nrF P l (qs.take i)).2 := ⟨_, rfl⟩
      rw [← eM] at HFT ⊢
      obtain ⟨D, eD⟩ : ∃ D, D = (nrF P l (qs.take i)).1 := ⟨_, rfl⟩
      rw [← eD] at HFT HRW
      clear eM eD
      go_wp2_with fail
      (with_reducible refine (ragree_any P l p _ _ wr hP (HS4.out.below HBR.out) HZ.out HSI.out (by rw [← HPL.out]; exact hql)).mono ?_)
      rintro e w6 ⟨rfl, hb6⟩
      have HB6 : Hid (Below w4.heap.size w4 w6) := (show Hid _ from HBR.out.trans (hb6.mono hzr))
      have HRW6 : Hid (RW w4.heap.size g w6 u11 vs D) := (show Hid _ from HRW.out.below hgw4 hb6)
      have hz6 : w4.heap.size ≤ w6.heap.size := HB6.out.size
      obtain ⟨a, ea⟩ : ∃ a, a = agN P l p := ⟨_, rfl⟩
      rw [← ea] at HFT ⊢
      clear ea hb6 c0 x0
      by_cases hlt : M < a
      · have da : decide (M < a) = true := decide_eq_true hlt
        have HF1 : Hid ((nrF P l (qs.take (i + 1))).1 = [] ++ [p]) := (show Hid _ from by show _ = _; rw [HFT.out]; simp only [if_pos hlt, if_pos (Int.le_of_lt hlt)])
        have HF2 : Hid ((nrF P l (qs.take (i + 1))).2 = a) := (show Hid _ from by show _ = _; rw [HFT.out]; simp only [if_pos hlt])
        clear hlt HFT
        have HSX : Hid (SX (w6.alloc (.cells #[.slice B pl d] 22)) (Value.ownBlock (.slice none 0 0)) (some g) (.slice B pl d) p) := (show Hid _ from SX.of_se HSE.out (fun q hq => by simp [Value.ownBlock] at hq) (HB6.out.alloc hz6 _))
        have HN6 : Hid (w6.ownsRow w4.heap.size 22 1 (.slice none 0 0) 0 []) := (show Hid _ from World.ownsRow_nil _ _ _ _)
        go_wp2_with (at_builtin; refine wpList_append_one_at _ rfl _ _ 34 rfl w4.heap.size 22 (.slice none 0 0) 24 Try.underlying34 ilinfo _ 0 [] rfl (HN6.out.alloc _) (.slice B pl d) rfl w6.heap.size rfl (cells_new w6 [.slice B pl d] 22 0 _ rfl) (by omega) (by omega) rfl (by simp; omega) ?_; intro g9 cap9 w9 hown9 hg9 hat9; have HO9 := Lib.hid hown9; have HG9 := Lib.hid hg9; have HA9 := Lib.hid hat9; clear hown9 hg9 hat9)
        have HRW9 := (RW.nil (w6.alloc (.cells #[.slice B pl d] 22)) w4.heap.size g).app HSX.out HO9.out HG9.out (fun q hq => by
          have e : g9 = q := by simpa [Value.ownBlock] using hq
          subst e; exact HA9.out)
        have HB9 : Hid (Below w4.heap.size w4 w9) := (show Hid _ from (HB6.out.alloc hz6 _).grown HG9.out (by simp; omega) (fun q hq => (HN6.out.lt q hq).1))
        go_roundw
        case rel => exact ⟨i + 1, by rw [← HRR.out]; omega, by go_num, ⟨_, by rw [HF1.out]; exact HRW9⟩, by rw [HF2.out], HB9.out⟩
        case measure => simp [intOf]; omega
      · have da : decide (M < a) = false := decide_eq_false hlt
        by_cases heq : a = M
        · have hle : M ≤ a := by omega
          have HF1 : Hid ((nrF P l (qs.take (i + 1))).1 = D ++ [p]) := (show Hid _ from by show _ = _; rw [HFT.out]; simp only [if_neg hlt, if_pos hle])
          have HF2 : Hid ((nrF P l (qs.take (i + 1))).2 = a) := (show Hid _ from by show _ = _; rw [HFT.out]; show (if M < a then a else M) = a; rw [if_neg hlt, heq])
          clear hlt HFT hle
          subst heq
          have HSX : Hid (SX (w6.alloc (.cells #[.slice B pl d] 22)) (Value.ownBlock u11) (some g) (.slice B pl d) p) := (show Hid _ from SX.of_se HSE.out (fun q hq => (HRW6.out.hdr.lt q hq).1) (HB6.out.alloc hz6 _))
          go_wp2_with (at_builtin; refine wpList_append_one_at _ rfl _ _ 34 rfl w4.heap.size 22 (.slice none 0 0) 24 Try.underlying34 ilinfo _ vs.length vs rfl (HRW6.out.hdr.alloc _) (.slice B pl d) rfl w6.heap.size rfl (cells_new w6 [.slice B pl d] 22 0 _ rfl) (by omega) (by omega) rfl (by simp; omega) ?_; intro g9 cap9 w9 hown9 hg9 hat9; have HO9 := Lib.hid hown9; have HG9 := Lib.hid hg9; have HA9 := Lib.hid hat9; clear hown9 hg9 hat9)
          have HRW9 := (HRW6.out.below hgw4 ((Below.refl _ w6).alloc (Nat.le_refl _) _)).app HSX.out HO9.out HG9.out (fun q hq => by
            have e : g9 = q := by simpa [Value.ownBlock] using hq
            subst e; exact HA9.out)
          have HB9 : Hid (Below w4.heap.size w4 w9) := (show Hid _ from (HB6.out.alloc hz6 _).grown HG9.out (by simp; omega) (fun q hq => (HRW6.out.hdr.lt q hq).1))
          go_roundw
          case rel => exact ⟨i + 1, by rw [← HRR.out]; omega, by go_num, ⟨_, by rw [HF1.out]; exact HRW9⟩, by rw [HF2.out], HB9.out⟩
          case measure => simp [intOf]; omega
        · have de : (a == M) = false := by rw [beq_eq_false_iff_ne]; exact heq
          have hle : ¬ M ≤ a := by omega
          have HF1 : Hid ((nrF P l (qs.take (i + 1))).1 = D) := (show Hid _ from by show _ = _; rw [HFT.out]; simp only [if_neg hlt, if_neg hle, List.append_nil])
          have HF2 : Hid ((nrF P l (qs.take (i + 1))).2 = M) := (show Hid _ from by show _ = _; rw [HFT.out]; simp only [if_neg hlt])
          clear hlt HFT hle heq
          go_wp2_with fail
          go_roundw
          case rel => exact ⟨i + 1, by rw [← HRR.out]; omega, by go_num, ⟨_, by rw [HF1.out]; exact HRW6.out⟩, by rw [HF2.out], HB6.out⟩
          case measure => simp [intOf]; omega
    · have di : decide ((i : Int) < (R : Int)) = false := decide_eq_false (by omega)
      have din : decide (i < R) = false := decide_eq_false hli
      have eall : qs.take i = qs := by rw [show i = qs.length by rw [← HRR.out]; omega, List.take_length]
      rw [eall] at HRW ⊢
      obtain ⟨M, eM⟩ : ∃ M, M = (nrF P l qs).2 := ⟨_, rfl⟩
      rw [← eM] at HM ⊢
      clear eall eM
      go_wp2_with fail
      refine bodyPost_ret (v := .tuple #[u11, .int .i64 M, .int .i64 0]) (by simp [results, Try.results24, go_sem]) rfl ?_
      rw [HR.out, HL.out, HM.out]
      exact ⟨_, rfl, HRW.out.sle hgw4, HBw.out _ HBRw.out⟩
end Go.Proofs.Ytbgabipngdillaa

namespace Go.Proofs.Ytbgabipngdillaa
open Go.RowKit Go.Shelf

theorem coF_all {P : Int} (ps : List (List Int)) (h : coF P ps = 0) : ∀ p ∈ ps, opE P [p] = 0 := by
  have key : ∀ n, ∀ ps : List (List Int), ps.length = n → coF P ps = 0 → ∀ p ∈ ps, opE P [p] = 0 := by
    intro n
    induction n with
    | zero => intro ps h0 _ p hp; rw [List.eq_nil_of_length_eq_zero h0] at hp; simp at hp
    | succ n ih =>
      intro ps h0 hc p hp
      have hne : ps ≠ [] := fun e => by subst e; simp at h0
      obtain ⟨qs, r, rfl⟩ : ∃ qs r, ps = qs ++ [r] := ⟨_, _, (List.dropLast_concat_getLast hne).symm⟩
      rw [coF_snoc] at hc
      by_cases h1 : coF P qs = 0
      · rw [if_pos h1] at hc
        rcases List.mem_append.1 hp with h2 | h2
        · exact ih qs (by simpa using h0) h1 p h2
        · simp at h2; subst h2; exact hc
      · rw [if_neg h1] at hc; exact absurd hc h1
  exact key _ ps rfl h
theorem rv_ok {P x : Int} {p : List Int} (h : opE P [p] = 0) (hx : 0 ≤ x ∧ x < P) : rvV P x p = val P p x := by
  have hp := (opE_1 h).1
  have h1 : inB P [x] = true := by
    unfold inB
    rw [hp]
    simp [els, el_mk hx]
  have h2 : rvE P x p = 0 := by unfold rvE; rw [h1]; simpa using h
  exact if_pos h2
/-- the numbers that are kept, of the first i known cells -/
def comK (P : Int) (l : List (Int × Bool)) (ps : List (List Int)) (i : Nat) : List Int := (((kn l).take i).filter fun t => ps.all fun p => hit P p t).map (·.1)
theorem comK_snoc (P : Int) (l : List (Int × Bool)) (ps : List (List Int)) {i : Nat} (h : i < (kn l).length) : comK P l ps (i + 1) = comK P l ps i ++ if (ps.all fun p => hit P p (kn l)[i]) = true then [(kn l)[i].1] else [] := by
  unfold comK
  rw [filter_take _ _ h, List.map_append]
  congr 1
  split <;> rfl
theorem comK_len (P : Int) (l : List (Int × Bool)) (ps : List (List Int)) (i : Nat) : (comK P l ps i).length ≤ i := by
  unfold comK
  rw [List.length_map]
  refine Nat.le_trans (List.length_filter_le _ _) ?_
  rw [List.length_take]
  omega
def CkR (P : Int) (l : List (Int × Bool)) (ps : List (List Int)) (w3 : World) (iv pv : Value) (wr : World) : Prop :=
  ∃ i : Nat, i ≤ (kn l).length ∧ iv = .int .i64 i ∧ wr.ownsRow w3.heap.size 3 1 pv (comK P l ps i).length ((comK P l ps i).map (Value.int .i64)) ∧ Below w3.heap.size w3 wr
def CkI (P : Int) (ps : List (List Int)) (x y : Int) (wx : World) (ov jv : Value) (wr : World) : Prop :=
  ∃ q : Nat, q ≤ ps.length ∧ jv = .int .i64 q ∧ ov = .bool ((ps.take q).all fun p => hit P p (x, y)) ∧ Below wx.heap.size wx wr
set_option maxRecDepth 100000 in
set_option maxHeartbeats 8000000 in
theorem rcommon_any (P : Int) (l : List (Int × Bool)) (ps : List (List Int)) (v vp : Value) (w : World) (hP : i64r P) (h : SCl w v l) (hz : l.length ≤ 1000000) (hp : SL w vp ps) (hpl : ∀ p ∈ ps, p.length ≤ 1000000) :
    Calls Try.prog 26 #[.agg #[.int .i64 P], v, vp] w fun e w' => ∃ v', e = .returned (.tuple #[v', .int .i64 (comE P l ps)]) ∧ w'.ownsRow w.heap.size 3 1 v' (comV P l ps).length ((comV P l ps).map (Value.int .i64)) ∧ Below w.heap.size w w' := by
  obtain ⟨i0, hi0, hi1, hi2, hi3⟩ := info_parts iinfo
  obtain ⟨A, c, rfl⟩ := h.form
  obtain ⟨Ap, cp, rfl, hat⟩ := hp.at
  have HS := Lib.hid h
  have HSP := Lib.hid hp
  have HAT := Lib.hid hat
  have HPL := Lib.hid hpl
  have HZ := Lib.hid hz
  obtain ⟨n, en⟩ : ∃ n, n = l.length := ⟨_, rfl⟩
  obtain ⟨m, em⟩ : ∃ m, m = ps.length := ⟨_, rfl⟩
  have hmb : m ≤ 9223372036854775807 := by obtain ⟨_, _, e, h1, h2, _⟩ := hp; rw [em]; injection e; omega
  rw [← en] at HS hz ⊢
  rw [← em] at HSP ⊢
  have HN := Lib.hid en
  have HM := Lib.hid em
  clear h hp hat hpl en em
  go_enter Try.func26, Try.ntmps26
  obtain ⟨F, eF⟩ : ∃ F, F = w.heap.size := ⟨_, rfl⟩
  obtain ⟨w1, ew1⟩ : ∃ w1 : World, w1 = w.alloc (.cells #[.int .i64 P] 26) := ⟨_, rfl⟩
  have HWw1 : Hid (w.alloc (.cells #[.int .i64 P] 26) = w1) := ew1.symm
  have HAw1 : Hid (Below w.heap.size w w1) := (show Hid _ from by rw [ew1]; exact (Below.refl _ w).alloc (Nat.le_refl _) _)
  have HF0w1 : Hid (w1.heap[F]? = some (.cells #[.int .i64 P] 26 (0, 0))) := (show Hid _ from by show _ = _; rw [ew1, eF]; exact heap_alloc_new w _)
  have HXC : Hid (∀ W, Below w1.heap.size w1 W → W.cell? ⟨F, 0, none⟩ = some (.int .i64 P)) := (show Hid _ from fun W hg => by
    have hF0 := (hg.block F (heap_of_cells HF0w1.out)).trans HF0w1.out
    exact (cell_of_row W F 0 _ _ _ hF0))
  have HBS : Hid (∀ W, Below w1.heap.size w1 W → Below w.heap.size w W) := (show Hid _ from fun W hW => HAw1.out.trans (hW.mono HAw1.out.size))
  go_upto_region 1 with fail
  rw [HWw1.out, ← eF]
  clear ew1 eF
  have x0 := HXC.out w1 (Below.refl _ _)
  go_wp2_with fail
  (with_reducible refine (rcells_any P l _ w1 hP (HS.out.below HAw1.out) HZ.out).mono ?_)
  rintro e w2 ⟨rfl, hb2⟩
  have HB2 : Hid (Below w1.heap.size w1 w2) := (show Hid _ from hb2)
  clear hb2 x0
  by_cases hc : ceE P l = 0
  case' neg =>
    have hcz : (ceE P l != 0) = true := by rw [bne_iff_ne]; exact hc
    have HR : Hid (comE P l ps = ceE P l) := (show Hid _ from if_neg hc)
    have HV : Hid (comV P l ps = []) := (show Hid _ from if_neg (by rw [HR.out]; exact hc))
    clear hc
    go_wp2_with fail
    refine bodyPost_ret (v := .tuple #[.slice none 0 0, .int .i64 (ceE P l)]) (by simp [results, Try.results26, go_sem]) rfl ?_
    rw [HV.out, HR.out]
    exact ⟨_, rfl, World.ownsRow_nil _ _ _ _, HBS.out _ HB2.out⟩
  have hci := ceE_inv hc
  have hP2 := prB_bd hci.1
  have HPR : Hid (prB P = true) := (show Hid _ from hci.1)
  have hl32 : n ≤ 32 := by rw [HN.out]; exact hci.2.1
  have hlP : (n : Int) < P := by rw [HN.out]; exact hci.2.2.1
  have HCO : Hid (comE P l ps = coF P ps) := (show Hid _ from if_pos hc)
  rw [hc]
  clear hci hc
  go_wp2_with fail
  go_loopw [29] (fun iv wr => ∃ q : Nat, q ≤ m ∧ iv = .int .i64 q ∧ Hid (coF P (ps.take q) = 0) ∧ Below w2.heap.size w2 wr) (fun iv _ => m - (intOf iv).toNat)
  case atStart => exact ⟨0, Nat.zero_le _, rfl, (show Hid _ from rfl), Below.refl _ _⟩
  case round =>
    obtain ⟨q, hq, rfl, HCF, hbr⟩ := hrel
    have HBR := Lib.hid hbr
    have hzr := hbr.size
    clear hbr
    have HBR1 : Hid (Below w1.heap.size w1 wr) := (show Hid _ from HB2.out.trans (HBR.out.mono HB2.out.size))
    have x0 := HXC.out wr HBR1.out
    by_cases hlq : q < m
    · have dq : decide ((q : Int) < (m : Int)) = true := decide_eq_true (by omega)
      have dqn : decide (q < m) = true := decide_eq_true hlq
      have hqp : q < ps.length := by rw [← HM.out]; exact hlq
      obtain ⟨b, off, B, d, eA, hW⟩ := HAT.out q hqp
      subst eA
      obtain ⟨c0, hsi⟩ := hW wr (HBS.out _ HBR1.out)
      have HTK := Lib.hid (coF_snoc P (ps.take q) ps[q])
      have HTL : Hid (ps.take (q + 1) = ps.take q ++ [ps[q]]) := (show Hid _ from List.take_succ_eq_append_getElem hqp)
      have hpl := HPL.out _ (List.getElem_mem hqp)
      obtain ⟨p, ep⟩ : ∃ p, p = ps[q] := ⟨_, rfl⟩
      rw [← ep] at c0 hsi HTK HTL hpl
      have HSI := Lib.hid hsi
      clear hW ep hsi
      obtain ⟨pl, epl⟩ : ∃ pl, pl = p.length := ⟨_, rfl⟩
      rw [← epl] at c0 HSI hpl
      have HPLN := Lib.hid epl
      clear epl
      go_wp2_with fail
      (with_reducible refine (rTrim_any P p _ wr hP HSI.out (by rw [← HPLN.out]; exact hpl)).mono ?_)
      rintro e w4 ⟨v4, rfl, hown4, hb4⟩
      have HB4 : Hid (Below w2.heap.size w2 w4) := (show Hid _ from HBR.out.trans (hb4.mono hzr))
      clear hown4 hb4 c0 x0
      by_cases hop : opE P [p] = 0
      · have hez : (opE P [p] != 0) = false := by rw [bne_eq_false_iff_eq]; exact hop
        have HCN : Hid (coF P (ps.take (q + 1)) = 0) := (show Hid _ from by show _ = _; rw [HTL.out, HTK.out, if_pos HCF.out]; exact hop)
        clear hop
        go_wp2_with fail
        go_roundw
        case rel => exact ⟨q + 1, by omega, by go_num, HCN, HB4.out⟩
        case measure => simp [intOf]; omega
      · have hez : (opE P [p] != 0) = true := by rw [bne_iff_ne]; exact hop
        have HRC : Hid (comE P l ps = opE P [p]) := (show Hid _ from by
          show _ = _
          have h1 : coF P (ps.take (q + 1)) = opE P [p] := by rw [HTL.out, HTK.out, if_pos HCF.out]
          rw [HCO.out, ← h1, ← coF_stop P (ps.drop (q + 1)) (ps.take (q + 1)) (by rw [h1]; exact hop), List.take_append_drop])
        have HVC : Hid (comV P l ps = []) := (show Hid _ from if_neg (by rw [HRC.out]; exact hop))
        clear hop
        go_wp2_with fail
        refine bodyPost_ret (v := .tuple #[.slice none 0 0, .int .i64 (opE P [p])]) (by simp [results, Try.results26, go_sem]) rfl ?_
        rw [HVC.out, HRC.out]
        exact ⟨_, rfl, World.ownsRow_nil _ _ _ _, HBS.out _ (HB2.out.trans (HB4.out.mono HB2.out.size))⟩
    · have dq : decide ((q : Int) < (m : Int)) = false := decide_eq_false (by omega)
      have dqn : decide (q < m) = false := decide_eq_false hlq
      have hqm : q = m := by omega
      have hcf : coF P ps = 0 := by have h1 := HCF.out; rw [hqm, HM.out, List.take_length] at h1; exact h1
      have HOP := Lib.hid (coF_all ps hcf)
      have HRC : Hid (comE P l ps = 0) := (show Hid _ from by show _ = _; rw [HCO.out, hcf])
      have HVC : Hid (comV P l ps = comL P l ps) := (show Hid _ from if_pos HRC.out)
      clear hqm hcf
      go_wp2_with fail
      (with_reducible refine (rknown_any l _ wr (HS.out.below (HBS.out _ HBR1.out)) HZ.out).mono ?_)
      rintro e w3 ⟨v3, rfl, hown3, hb3⟩
      have hsr : ∀ t ∈ kn l, i64r t.1 ∧ i64r t.2 := by
        obtain ⟨A', c', e', hc', hm', hr', ha'⟩ := HS.out
        exact kn_rng HZ.out hr'
      have HSR := Lib.hid hsr
      have HSG : Hid (SG pcs 2 w3.heap.size w3 v3 (kn l)) := (show Hid _ from SG.of_own hown3 (fun t ht y hy => by simp [pcs] at hy; rcases hy with rfl | rfl; exact (HSR.out t ht).1; exact (HSR.out t ht).2) (fun _ _ => rfl))
      obtain ⟨A3, c3, ev3⟩ := own_slice hown3
      subst ev3
      have hkn := kn_len l 0
      obtain ⟨K, eK⟩ : ∃ K, K = (kn l).length := ⟨_, rfl⟩
      have hK32 : K ≤ 32 := by rw [eK]; have := HN.out; unfold kn; omega
      have HK := Lib.hid eK
      rw [← eK] at HSG ⊢
      have HB31 : Hid (Below w1.heap.size w1 w3) := (show Hid _ from HBR1.out.trans (hb3.mono HBR1.out.size))
      clear hown3 hb3 hsr hkn eK x0
      go_wp2_with fail
      go_loopw [46, 13] (fun iv pv wr => CkR P l ps w3 iv pv wr) (fun iv _ _ => K - (intOf iv).toNat)
      case atStart => exact ⟨0, Nat.zero_le _, rfl, by simpa [comK] using World.ownsRow_nil w3 w3.heap.size 3 1, Below.refl _ _⟩
      case round =>
        obtain ⟨i, hi, rfl, hown, hbr⟩ := hrel
        have HO := Lib.hid hown
        have HBr := Lib.hid hbr
        have hzq := hbr.size
        rw [← HK.out] at hi
        clear hown hbr
        have hDl : (comK P l ps i).length ≤ i := comK_len P l ps i
        by_cases hli : i < K
        · have di : decide ((i : Int) < (K : Int)) = true := decide_eq_true (by omega)
          have din : decide (i < K) = true := decide_eq_true hli
          have his : i < (kn l).length := by rw [← HK.out]; exact hli
          obtain ⟨A', c', eA', _, _, _, ha'⟩ := pcs_cells ((HSG.out.below HBr.out).more hzq)
          rw [← HK.out] at eA'
          injection eA' with eA1 eA2 eA3
          obtain ⟨b, off, eA, hbl, hcell⟩ := ha' (by omega)
          obtain ⟨c0, c1⟩ := hcell i his
          rw [← eA1] at eA
          subst eA
          have hat1 := kn_at (List.getElem_mem his)
          have HSN := Lib.hid (comK_snoc P l ps his)
          obtain ⟨xv, exv⟩ : ∃ xv, xv = (kn l)[i].1 := ⟨_, rfl⟩
          obtain ⟨yv, eyv⟩ : ∃ yv, yv = (kn l)[i].2 := ⟨_, rfl⟩
          have HSN3 : Hid (comK P l ps (i + 1) = comK P l ps i ++ if (ps.all fun p => hit P p (xv, yv)) = true then [xv] else []) := (show Hid _ from by show _ = _; rw [HSN.out, exv, eyv])
          rw [← exv] at c0 hat1
          rw [← eyv] at c1
          have hx1 : 1 ≤ xv ∧ xv < P := by have := HN.out; omega
          have hxr : i64r xv := by unfold i64r; omega
          obtain ⟨D, hD⟩ : ∃ D, comK P l ps i = D := ⟨_, rfl⟩
          rw [hD] at HO HSN3 hDl
          clear hcell exv eyv hD ha' eA1 eA2 eA3 hbl HSN hat1
          obtain ⟨X, eX⟩ : ∃ X, X = wr.heap.size := ⟨_, rfl⟩
          obtain ⟨wx, ewx⟩ : ∃ wx : World, wx = wr.alloc (.cells #[.int .i64 xv, .int .i64 yv] 64) := ⟨_, rfl⟩
          have HWwx : Hid (wr.alloc (.cells #[.int .i64 xv, .int .i64 yv] 64) = wx) := ewx.symm
          have HAwx : Hid (Below wr.heap.size wr wx) := (show Hid _ from by rw [ewx]; exact (Below.refl _ wr).alloc (Nat.le_refl _) _)
          have HX0wx : Hid (wx.heap[X]? = some (.cells #[.int .i64 xv, .int .i64 yv] 64 (0, 0))) := (show Hid _ from by show _ = _; rw [ewx, eX]; exact heap_alloc_new wr _)
          have HXX : Hid (∀ W, Below wx.heap.size wx W → W.cell? ⟨X, 0, none⟩ = some (.int .i64 xv) ∧ W.cell? ⟨X, 1, none⟩ = some (.int .i64 yv)) := (show Hid _ from fun W hg => by
            have hX0 := (hg.block X (heap_of_cells HX0wx.out)).trans HX0wx.out
            exact ⟨cell_of_row W X 0 _ _ _ hX0, cell_of_row W X 1 _ _ _ hX0⟩)
          have HBX : Hid (Below w3.heap.size w3 wx) := (show Hid _ from HBr.out.trans (HAwx.out.mono hzq))
          have HOX : Hid (wx.ownsRow w3.heap.size 3 1 u13 D.length (D.map (Value.int .i64))) := (show Hid _ from own_blw HO.out HAwx.out)
          have hzx : w3.heap.size ≤ wx.heap.size := HBX.out.size
          have HBX1 : Hid (Below w1.heap.size w1 wx) := (show Hid _ from HB31.out.trans (HBX.out.mono HB31.out.size))
          go_upto_region 15 with fail
          rw [HWwx.out, ← eX]
          clear ewx eX
          clear c0 c1
          go_wp2_with fail
          go_loopw [16, 52] (fun ov jv wr => CkI P ps xv yv wx ov jv wr) (fun _ jv _ => m - (intOf jv).toNat)
          case atStart => exact ⟨0, Nat.zero_le _, rfl, by simp, Below.refl _ _⟩
          case round =>
            obtain ⟨q2, hq2, rfl, rfl, hb5⟩ := hrel
            have HB5 := Lib.hid hb5
            have hz5 := hb5.size
            rw [← HM.out] at hq2
            have HB51 : Hid (Below w1.heap.size w1 wr) := (show Hid _ from HBX1.out.trans (HB5.out.mono HBX1.out.size))
            have x5 := HXC.out wr HB51.out
            obtain ⟨y0, y1⟩ := HXX.out wr hb5
            clear hb5
            by_cases hlq2 : q2 < m
            · have dq2 : decide ((q2 : Int) < (m : Int)) = true := decide_eq_true (by omega)
              have dq2n : decide (q2 < m) = true := decide_eq_true hlq2
              have hqp : q2 < ps.length := by rw [← HM.out]; exact hlq2
              obtain ⟨b3, off3, B, d, eA, hW⟩ := HAT.out q2 hqp
              subst eA
              obtain ⟨c0, hsi⟩ := hW wr (HBS.out _ HB51.out)
              have HTL : Hid (((ps.take (q2 + 1)).all fun p => hit P p (xv, yv)) = (((ps.take q2).all fun p => hit P p (xv, yv)) && (val P ps[q2] xv == yv))) := (show Hid _ from by
                show _ = _
                rw [List.take_succ_eq_append_getElem hqp, List.all_append]
                simp [hit])
              have hpl := HPL.out _ (List.getElem_mem hqp)
              have hop := HOP.out _ (List.getElem_mem hqp)
              obtain ⟨p, ep⟩ : ∃ p, p = ps[q2] := ⟨_, rfl⟩
              rw [← ep] at c0 hsi HTL hpl hop
              have HSI := Lib.hid hsi
              have HVV : Hid (rvV P xv p = val P p xv) := (show Hid _ from rv_ok hop (by omega))
              clear hW ep hsi hop
              obtain ⟨pl, epl⟩ : ∃ pl, pl = p.length := ⟨_, rfl⟩
              rw [← epl] at c0 HSI hpl
              have HPLN := Lib.hid epl
              clear epl
              obtain ⟨bb, ebb⟩ : ∃ bb, bb = ((ps.take q2).all fun p => hit P p (xv, yv)) := ⟨_, rfl⟩
              rw [← ebb] at HTL ⊢
              clear ebb
              go_wp2_with fail
              (with_reducible refine (rValue_any P xv p _ wr hP hxr HSI.out (by rw [← HPLN.out]; exact hpl)).mono ?_)
              rintro e w6 ⟨rfl, hb6⟩
              rw [HVV.out]
              have HB6 : Hid (Below wx.heap.size wx w6) := (show Hid _ from HB5.out.trans (hb6.mono hz5))
              obtain ⟨z0, z1⟩ := HXX.out w6 HB6.out
              obtain ⟨yy, eyy⟩ : ∃ yy, yy = val P p xv := ⟨_, rfl⟩
              rw [← eyy] at HTL ⊢
              clear eyy hb6 c0 x5 y0 y1
              by_cases hyy : yy = yv
              · have dyy : (yy == yv) = true := by rw [beq_iff_eq]; exact hyy
                cases bb
                all_goals
                  go_wp2_with fail
                  go_roundw
                  case rel => exact ⟨q2 + 1, by rw [← HM.out]; omega, by go_num, by rw [HTL.out] <;> simp [dyy], HB6.out⟩
                  case measure => simp [intOf]; omega
              · have dyy : (yy == yv) = false := by rw [beq_eq_false_iff_ne]; exact hyy
                cases bb
                all_goals
                  go_wp2_with fail
                  go_roundw
                  case rel => exact ⟨q2 + 1, by rw [← HM.out]; omega, by go_num, by rw [HTL.out] <;> simp [dyy], HB6.out⟩
                  case measure => simp [intOf]; omega
            · have dq2 : decide ((q2 : Int) < (m : Int)) = false := decide_eq_false (by omega)
              have dq2n : decide (q2 < m) = false := decide_eq_false hlq2
              have hall : ps.take q2 = ps := by rw [show q2 = ps.length by rw [← HM.out]; omega, List.take_length]
              rw [hall]
              have HOr : Hid (wr.ownsRow w3.heap.size 3 1 u13 D.length (D.map (Value.int .i64))) := (show Hid _ from own_blw HOX.out HB5.out)
              have HB5x : Hid (Below w3.heap.size w3 wr) := (show Hid _ from HBX.out.trans (HB5.out.mono hzx))
              have hz5x : w3.heap.size ≤ wr.heap.size := HB5x.out.size
              obtain ⟨bb, ebb⟩ : ∃ bb, bb = (ps.all fun p => hit P p (xv, yv)) := ⟨_, rfl⟩
              rw [← ebb] at HSN3 ⊢
              clear ebb hall
              cases bb
              · have HSN4 : Hid (comK P l ps (i + 1) = D) := (show Hid _ from by show _ = _; have h := HSN3.out; simpa using h)
                go_wp2_with fail
                go_roundw
                case rel => exact ⟨i + 1, by rw [← HK.out]; omega, by go_num, by rw [HSN4.out]; exact HOr.out, HB5x.out⟩
                case measure => simp [intOf]; omega
              · have HSN4 : Hid (comK P l ps (i + 1) = D ++ [xv]) := (show Hid _ from by show _ = _; have h := HSN3.out; simpa using h)
                go_wp2_with (at_builtin; refine wpList_append_own _ rfl _ _ 22 rfl w3.heap.size 3 i0 (.int .i64 0) 1 8 Try.underlying22 hi0 hi1 hi2 hi3 rfl (by omega) _ _ _ rfl (HOr.out.alloc _) ⟨wr.heap.size, 0, none⟩ 1 1 [.int .i64 xv] rfl rfl (cells_new wr _ _) (by intro u hu; simp at hu; subst hu; rfl) (by unfold maxLen; omega) (by omega) (by simp; omega) ?_; intro v9 w9 hown9 hg9 _; have HO9 := Lib.hid hown9; have HG9 := Lib.hid hg9; clear hown9 hg9)
                go_roundw
                case rel =>
                  refine ⟨i + 1, by rw [← HK.out]; omega, by go_num, ?_, ?_⟩
                  · rw [HSN4.out]
                    simpa using HO9.out
                  · exact (HB5x.out.alloc hz5x _).grown HG9.out (by simp; omega) (fun k hk => (HOr.out.lt k hk).1)
                case measure => simp [intOf]; omega
        · have di : decide ((i : Int) < (K : Int)) = false := decide_eq_false (by omega)
          have din : decide (i < K) = false := decide_eq_false hli
          have HFA : Hid (comL P l ps = comK P l ps i) := (show Hid _ from by show _ = _; unfold comK; rw [show i = (kn l).length by rw [← HK.out]; omega, List.take_length]; rfl)
          go_wp2_with fail
          refine bodyPost_ret (v := .tuple #[u13, .int .i64 0]) (by simp [results, Try.results26, go_sem]) rfl ?_
          rw [HRC.out, HVC.out, HFA.out]
          exact ⟨_, rfl, own_base HO.out (HBS.out _ HB31.out).size, HBS.out _ (HB31.out.trans (HBr.out.mono HB31.out.size))⟩
end Go.Proofs.Ytbgabipngdillaa

namespace Go.Proofs.Ytbgabipngdillaa
open Go.RowKit Go.Shelf

theorem SG.take {α : Type} {enc : α → List Int} {sz B n c : Nat} {A : Option Addr} {w : World} {l : List α} (h : SG enc sz B w (.slice A n c) l) {m : Nat} (hm : m ≤ l.length) : SG enc sz B w (.slice A m c) (l.take m) := by
  obtain ⟨A', c', e, h1, h2, h3, h4⟩ := h
  injection e with e1 e2 e3
  subst e1 e3
  have hl : (l.take m).length = m := by rw [List.length_take]; omega
  refine ⟨A, c, by rw [hl], by omega, h2, fun x hx => h3 x (List.mem_of_mem_take hx), fun h0 => ?_⟩
  obtain ⟨b, off, e, hb, hc⟩ := h4 (by omega)
  refine ⟨b, off, e, hb, fun j hj i hi => ?_⟩
  rw [List.getElem_take]
  exact hc j (by omega) i hi
theorem SG.capB {α : Type} {enc : α → List Int} {sz B n c : Nat} {A : Option Addr} {w : World} {l : List α} (h : SG enc sz B w (.slice A n c) l) : l.length ≤ c := by
  obtain ⟨A', c', e, h1, h2, h3, h4⟩ := h
  injection e with e1 e2 e3
  omega
set_option maxRecDepth 100000 in
set_option maxHeartbeats 4000000 in
theorem rfill_any (P : Int) (l : List (Int × Bool)) (k : Int) (v : Value) (w : World) (hP : i64r P) (h : SCl w v l) (hz : l.length ≤ 1000000) :
    Calls Try.prog 33 #[.agg #[.int .i64 P], v, .int .i64 k] w fun e w' => ∃ v', e = .returned (.tuple #[v', .int .i64 (fiE P l k)]) ∧ Below w.heap.size w w' := by
  obtain ⟨A, c, rfl⟩ := h.form
  have HS := Lib.hid h
  clear h
  obtain ⟨n, en⟩ : ∃ n, n = l.length := ⟨_, rfl⟩
  have HN := Lib.hid en
  have HZ := Lib.hid hz
  rw [← en] at HS hz ⊢
  clear en
  go_enter Try.func33, Try.ntmps33
  obtain ⟨F, eF⟩ : ∃ F, F = w.heap.size := ⟨_, rfl⟩
  obtain ⟨w1, ew1⟩ : ∃ w1 : World, w1 = w.alloc (.cells #[.int .i64 P] 26) := ⟨_, rfl⟩
  have HWw1 : Hid (w.alloc (.cells #[.int .i64 P] 26) = w1) := ew1.symm
  have HAw1 : Hid (Below w.heap.size w w1) := (show Hid _ from by rw [ew1]; exact (Below.refl _ w).alloc (Nat.le_refl _) _)
  have HF0w1 : Hid (w1.heap[F]? = some (.cells #[.int .i64 P] 26 (0, 0))) := (show Hid _ from by show _ = _; rw [ew1, eF]; exact heap_alloc_new w _)
  have HXC : Hid (∀ W, Below w1.heap.size w1 W → W.cell? ⟨F, 0, none⟩ = some (.int .i64 P)) := (show Hid _ from fun W hg => by
    have hF0 := (hg.block F (heap_of_cells HF0w1.out)).trans HF0w1.out
    exact (cell_of_row W F 0 _ _ _ hF0))
  go_upto_region 1 with fail
  rw [HWw1.out, ← eF]
  clear ew1 eF
  have x0 := HXC.out w1 (Below.refl _ _)
  go_wp2_with fail
  (with_reducible refine (rbegin_any P l k _ w1 hP (HS.out.below HAw1.out) HZ.out).mono ?_)
  rintro e w2 ⟨rfl, hb2⟩
  have HB2 : Hid (Below w1.heap.size w1 w2) := (show Hid _ from hb2)
  have HBw : Hid (∀ W, Below w1.heap.size w1 W → Below w.heap.size w W) := (show Hid _ from fun W hW => HAw1.out.trans (hW.mono HAw1.out.size))
  clear hb2 x0
  by_cases hc : bgE P l k = 0
  case' neg =>
    have hcz : (bgE P l k != 0) = true := by rw [bne_iff_ne]; exact hc
    have HR : Hid (fiE P l k = bgE P l k) := (show Hid _ from (fi_bg hc).1)
    clear hc
    go_wp2_with fail
    refine bodyPost_ret (v := .tuple #[.slice none 0 0, .int .i64 (bgE P l k)]) (by simp [results, Try.results33, go_sem]) rfl ?_
    rw [HR.out]
    exact ⟨_, rfl, HBw.out _ HB2.out⟩
  have hcz : (bgE P l k != 0) = false := by rw [bne_eq_false_iff_eq]; exact hc
  have hbg := bg_zero hc
  have HC : Hid (bgE P l k = 0) := hc
  have hk1 : 1 ≤ k ∧ k ≤ (n : Int) := by rw [HN.out]; exact hbg.2
  have HCE : Hid (ceE P l = 0) := hbg.1
  rw [hc]
  clear hc hcz hbg
  have HS2 : Hid (SCl w2 (.slice A n c) l) := (show Hid _ from (HS.out.below HAw1.out).below HB2.out)
  have HKN : Hid ((kn l).length ≤ n) := (show Hid _ from by have h1 := kn_len l 0; have h2 := HN.out; show (knF 0 l).length ≤ n; omega)
  have hsr : ∀ t ∈ kn l, i64r t.1 ∧ i64r t.2 := by
    obtain ⟨A', c', e', hc', hm', hr', ha'⟩ := HS.out
    exact kn_rng HZ.out hr'
  have HSR := Lib.hid hsr
  clear hsr
  go_wp2_with fail
  (with_reducible refine (rknown_any l _ w2 HS2.out HZ.out).mono ?_)
  rintro e w3 ⟨v3, rfl, hown3, hb3⟩
  have HB3 := Lib.hid hb3
  have HSG : Hid (SG pcs 2 w3.heap.size w3 v3 (kn l)) := (show Hid _ from SG.of_own hown3 (fun t ht y hy => by simp [pcs] at hy; rcases hy with rfl | rfl; exact (HSR.out t ht).1; exact (HSR.out t ht).2) (fun _ _ => rfl))
  obtain ⟨A3, c3, ev3⟩ := own_slice hown3
  subst ev3
  obtain ⟨K, eK⟩ : ∃ K, K = (kn l).length := ⟨_, rfl⟩
  have HK := Lib.hid eK
  rw [← eK] at HKN HSG ⊢
  have hKn := HKN.out
  have HB3w : Hid (Below w1.heap.size w1 w3) := (show Hid _ from HB2.out.trans (HB3.out.mono HB2.out.size))
  clear hown3 hb3 eK
  by_cases hfew : (K : Int) < k
  · have d0 : decide ((K : Int) < k) = true := decide_eq_true hfew
    have HR : Hid (fiE P l k = 11) := (show Hid _ from (fi_few HCE.out (by have := HN.out; omega) (by rw [← HK.out]; exact hfew)).1)
    clear hfew
    go_wp2_with fail
    refine bodyPost_ret (v := .tuple #[.slice none 0 0, .int .i64 11]) (by simp [results, Try.results33, go_sem]) rfl ?_
    rw [HR.out]
    exact ⟨_, rfl, HBw.out _ HB3w.out⟩
  · have d0 : decide ((K : Int) < k) = false := decide_eq_false hfew
    obtain ⟨kk, rfl⟩ : ∃ kk : Nat, k = kk := ⟨k.toNat, by omega⟩
    have hkK : kk ≤ K := by omega
    have d0n : decide (K < kk) = false := decide_eq_false (by omega)
    have HR : Hid (fiE P l kk = inE P ((kn l).take kk)) := (show Hid _ from (fi_ok HCE.out (by have := HN.out; omega) (by rw [← HK.out]; exact hfew)).1)
    have HSK : Hid (SG pcs 2 w3.heap.size w3 (.slice A3 kk c3) ((kn l).take kk)) := (show Hid _ from HSG.out.take (by rw [← HK.out]; exact hkK))
    have hc3 : K ≤ c3 := by rw [HK.out]; exact HSG.out.capB
    have x3 := HXC.out w3 HB3w.out
    have HLK : Hid (((kn l).take kk).length ≤ 1000000) := (show Hid _ from by show ((kn l).take kk).length ≤ _; rw [List.length_take]; omega)
    have y1 : (0 : Int) ≤ (kk : Int) := by omega
    have y2 : (kk : Int) ≤ (c3 : Int) := by omega
    clear hfew
    go_upto_region 7 with fail
    go_region_held3 (fun w' => w'.cell? ⟨F, 0, none⟩ = some (.int .i64 P)) (first | exact x3 | exact x4 | go_keep)
      ((go_at_call 28; refine (rinterp_any P ((kn l).take kk) _ _ hP (by first | exact HSK.out | exact HSK.out.below (Below.refl _ w3).drew) HLK.out).mono ?_; rintro e w4 ⟨v4, rfl, hown4, hb4⟩; have HB4 : Hid (Below w3.heap.size w3 w4) := (show Hid _ from ⟨hb4.os, hb4.tape, hb4.output, hb4.size, hb4.block⟩); have x4 : w4.cell? ⟨F, 0, none⟩ = some (.int .i64 P) := HXC.out w4 (HB3w.out.trans (HB4.out.mono HB3w.out.size)); clear hown4 hb4))
    go_wp2_with fail
    refine bodyPost_ret (v := .tuple #[v4, .int .i64 (inE P ((kn l).take kk))]) (by simp [results, Try.results33, go_sem]) rfl ?_
    rw [HR.out]
    exact ⟨_, rfl, HBw.out _ (HB3w.out.trans (HB4.out.mono HB3w.out.size))⟩
theorem rradius_any (n k : Nat) (w : World) (hk : 1 ≤ k) (hkn : k ≤ n) (hn : n ≤ 32) :
    Calls Try.prog 14 #[.int .i64 n, .int .i64 k] w fun e w' => e = .returned (.tuple #[.int .i64 (((n - k) / 2 : Nat) : Int), .int .i64 0]) ∧ w = w' := by
  have d1 : decide ((k : Int) < 1) = false := decide_eq_false (by omega)
  have d1n : decide (k < 1) = false := decide_eq_false (by omega)
  have d2 : decide ((n : Int) < 0) = false := decide_eq_false (by omega)
  have d3 : decide ((32 : Int) < (n : Int)) = false := decide_eq_false (by omega)
  have d3n : decide (32 < n) = false := decide_eq_false (by omega)
  have d4 : decide ((n : Int) < (k : Int)) = false := decide_eq_false (by omega)
  have d4n : decide (n < k) = false := decide_eq_false (by omega)
  have u1 : IntKind.i64.wrap ((n : Int) - (k : Int)) = (n : Int) - (k : Int) := by exact IntWalk.i64_in _ (by omega)
  have u2 : ((n : Int) - (k : Int)).tdiv 2 = (((n - k) / 2 : Nat) : Int) := by
    rw [Int.tdiv_eq_ediv_of_nonneg (by omega)]; omega
  have u3 : IntKind.i64.wrap ((((n - k) / 2 : Nat) : Int)) = (((n - k) / 2 : Nat) : Int) := by exact IntWalk.i64_in _ (by omega)
  obtain ⟨e, ee⟩ : ∃ e, e = (n - k) / 2 := ⟨_, rfl⟩
  rw [← ee] at u2 u3 ⊢
  clear ee
  go_enter Try.func14, Try.ntmps14
  go_wp2_with fail
  refine bodyPost_ret (v := .tuple #[.int .i64 e, .int .i64 0]) (by simp [results, Try.results14, go_sem]) rfl ?_
  exact ⟨rfl, rfl⟩
end Go.Proofs.Ytbgabipngdillaa

namespace Go.Proofs.Ytbgabipngdillaa
open Go.RowKit Go.Shelf

/-- the numbers of the wrong ones of the first i known cells -/
def wrK (P : Int) (l : List (Int × Bool)) (p : List Int) (i : Nat) : List Int := (((kn l).take i).filter fun t => !(val P p t.1 == t.2)).map Prod.fst
theorem wrK_snoc (P : Int) (l : List (Int × Bool)) (p : List Int) {i : Nat} (h : i < (kn l).length) : wrK P l p (i + 1) = wrK P l p i ++ if (!(val P p (kn l)[i].1 == (kn l)[i].2)) = true then [(kn l)[i].1] else [] := by
  unfold wrK
  rw [filter_take (fun t => !(val P p t.1 == t.2)) (kn l) h, List.map_append]
  congr 1
  split <;> rfl
theorem wrK_len (P : Int) (l : List (Int × Bool)) (p : List Int) (i : Nat) : (wrK P l p i).length ≤ i := by
  unfold wrK
  rw [List.length_map]
  refine Nat.le_trans (List.length_filter_le _ _) ?_
  rw [List.length_take]
  omega
def WrR (P : Int) (l : List (Int × Bool)) (p : List Int) (w3 : World) (iv pv : Value) (wr : World) : Prop :=
  ∃ i : Nat, i ≤ (kn l).length ∧ iv = .int .i64 i ∧ wr.ownsRow w3.heap.size 3 1 pv (wrK P l p i).length ((wrK P l p i).map (Value.int .i64)) ∧ Below w3.heap.size w3 wr
set_option maxRecDepth 100000 in
set_option maxHeartbeats 8000000 in
theorem rwrong_any (P : Int) (l : List (Int × Bool)) (p : List Int) (v vp : Value) (w : World) (h : SCl w v l) (hc : ceE P l = 0) (hp : SI w vp p) (hop : opE P [p] = 0) (hpl : p.length ≤ 1000000) :
    Calls Try.prog 38 #[.agg #[.int .i64 P], v, vp] w fun e w' => ∃ v', e = .returned v' ∧ w'.ownsRow w.heap.size 3 1 v' (wrg P l p).length ((wrg P l p).map (Value.int .i64)) ∧ Below w.heap.size w w' := by
  obtain ⟨i0, hi0, hi1, hi2, hi3⟩ := info_parts iinfo
  have hci := ceE_inv hc
  have hP2 := prB_bd hci.1
  have hPi : i64r P := by unfold i64r; omega
  obtain ⟨A, c, rfl⟩ := h.form
  obtain ⟨Ap, cp, rfl⟩ := hp.form
  have HS := Lib.hid h
  have HSP := Lib.hid hp
  have HOP := Lib.hid hop
  obtain ⟨n, en⟩ : ∃ n, n = l.length := ⟨_, rfl⟩
  obtain ⟨np, enp⟩ : ∃ n, n = p.length := ⟨_, rfl⟩
  have hl32 : n ≤ 32 := by rw [en]; exact hci.2.1
  have hlP : (n : Int) < P := by rw [en]; exact hci.2.2.1
  have HZ : Hid (l.length ≤ 1000000) := (show Hid _ from by show l.length ≤ 1000000; omega)
  have HPL := Lib.hid hpl
  rw [← en] at HS ⊢
  rw [← enp] at HSP ⊢
  have HN := Lib.hid en
  have hsr : ∀ t ∈ kn l, i64r t.1 ∧ i64r t.2 := by
    obtain ⟨A', c', e', hc', hm', hr', ha'⟩ := h
    exact kn_rng HZ.out hr'
  have HSR := Lib.hid hsr
  clear h hp hc hop hpl hci en enp hsr
  go_enter Try.func38, Try.ntmps38
  obtain ⟨F, eF⟩ : ∃ F, F = w.heap.size := ⟨_, rfl⟩
  obtain ⟨w1, ew1⟩ : ∃ w1 : World, w1 = w.alloc (.cells #[.int .i64 P] 26) := ⟨_, rfl⟩
  have HWw1 : Hid (w.alloc (.cells #[.int .i64 P] 26) = w1) := ew1.symm
  have HAw1 : Hid (Below w.heap.size w w1) := (show Hid _ from by rw [ew1]; exact (Below.refl _ w).alloc (Nat.le_refl _) _)
  have HF0w1 : Hid (w1.heap[F]? = some (.cells #[.int .i64 P] 26 (0, 0))) := (show Hid _ from by show _ = _; rw [ew1, eF]; exact heap_alloc_new w _)
  have HXC : Hid (∀ W, Below w1.heap.size w1 W → W.cell? ⟨F, 0, none⟩ = some (.int .i64 P)) := (show Hid _ from fun W hg => by
    have hF0 := (hg.block F (heap_of_cells HF0w1.out)).trans HF0w1.out
    exact (cell_of_row W F 0 _ _ _ hF0))
  have HBS : Hid (∀ W, Below w1.heap.size w1 W → Below w.heap.size w W) := (show Hid _ from fun W hW => HAw1.out.trans (hW.mono HAw1.out.size))
  go_upto_region 1 with fail
  rw [HWw1.out, ← eF]
  clear ew1 eF
  go_wp2_with fail
  (with_reducible refine (rknown_any l _ w1 (HS.out.below HAw1.out) HZ.out).mono ?_)
  rintro e w3 ⟨v3, rfl, hown3, hb3⟩
  have HSG : Hid (SG pcs 2 w3.heap.size w3 v3 (kn l)) := (show Hid _ from SG.of_own hown3 (fun t ht y hy => by simp [pcs] at hy; rcases hy with rfl | rfl; exact (HSR.out t ht).1; exact (HSR.out t ht).2) (fun _ _ => rfl))
  obtain ⟨A3, c3, ev3⟩ := own_slice hown3
  subst ev3
  have hkn := kn_len l 0
  obtain ⟨K, eK⟩ : ∃ K, K = (kn l).length := ⟨_, rfl⟩
  have hK32 : K ≤ 32 := by rw [eK]; have := HN.out; unfold kn; omega
  have HK := Lib.hid eK
  rw [← eK] at HSG ⊢
  have HB31 : Hid (Below w1.heap.size w1 w3) := (show Hid _ from hb3)
  clear hown3 hb3 hkn eK
  go_wp2_with fail
  go_loopw [15, 7] (fun iv pv wr => WrR P l p w3 iv pv wr) (fun iv _ _ => K - (intOf iv).toNat)
  case atStart => exact ⟨0, Nat.zero_le _, rfl, by simpa [wrK] using World.ownsRow_nil w3 w3.heap.size 3 1, Below.refl _ _⟩
  case round =>
    obtain ⟨i, hi, rfl, hown, hbr⟩ := hrel
    have HO := Lib.hid hown
    have HBr := Lib.hid hbr
    have hzq := hbr.size
    rw [← HK.out] at hi
    clear hown hbr
    have hDl : (wrK P l p i).length ≤ i := wrK_len P l p i
    by_cases hli : i < K
    · have di : decide ((i : Int) < (K : Int)) = true := decide_eq_true (by omega)
      have din : decide (i < K) = true := decide_eq_true hli
      have his : i < (kn l).length := by rw [← HK.out]; exact hli
      obtain ⟨A', c', eA', _, _, _, ha'⟩ := pcs_cells ((HSG.out.below HBr.out).more hzq)
      rw [← HK.out] at eA'
      injection eA' with eA1 eA2 eA3
      obtain ⟨b, off, eA, hbl, hcell⟩ := ha' (by omega)
      obtain ⟨c0, c1⟩ := hcell i his
      rw [← eA1] at eA
      subst eA
      have hat1 := kn_at (List.getElem_mem his)
      have HSN := Lib.hid (wrK_snoc P l p his)
      obtain ⟨xv, exv⟩ : ∃ xv, xv = (kn l)[i].1 := ⟨_, rfl⟩
      obtain ⟨yv, eyv⟩ : ∃ yv, yv = (kn l)[i].2 := ⟨_, rfl⟩
      have HSN3 : Hid (wrK P l p (i + 1) = wrK P l p i ++ if (!(val P p xv == yv)) = true then [xv] else []) := (show Hid _ from by show _ = _; rw [HSN.out, exv, eyv])
      rw [← exv] at c0 hat1
      rw [← eyv] at c1
      have hx1 : 1 ≤ xv ∧ xv < P := by have := HN.out; omega
      have hxr : i64r xv := by unfold i64r; omega
      have HVV : Hid (rvV P xv p = val P p xv) := (show Hid _ from rv_ok HOP.out (by omega))
      obtain ⟨D, hD⟩ : ∃ D, wrK P l p i = D := ⟨_, rfl⟩
      rw [hD] at HO HSN3 hDl
      clear hcell exv eyv hD ha' eA1 eA2 eA3 hbl HSN hat1
      obtain ⟨X, eX⟩ : ∃ X, X = wr.heap.size := ⟨_, rfl⟩
      obtain ⟨wx, ewx⟩ : ∃ wx : World, wx = wr.alloc (.cells #[.int .i64 xv, .int .i64 yv] 64) := ⟨_, rfl⟩
      have HWwx : Hid (wr.alloc (.cells #[.int .i64 xv, .int .i64 yv] 64) = wx) := ewx.symm
      have HAwx : Hid (Below wr.heap.size wr wx) := (show Hid _ from by rw [ewx]; exact (Below.refl _ wr).alloc (Nat.le_refl _) _)
      have HX0wx : Hid (wx.heap[X]? = some (.cells #[.int .i64 xv, .int .i64 yv] 64 (0, 0))) := (show Hid _ from by show _ = _; rw [ewx, eX]; exact heap_alloc_new wr _)
      have HXX : Hid (∀ W, Below wx.heap.size wx W → W.cell? ⟨X, 0, none⟩ = some (.int .i64 xv) ∧ W.cell? ⟨X, 1, none⟩ = some (.int .i64 yv)) := (show Hid _ from fun W hg => by
        have hX0 := (hg.block X (heap_of_cells HX0wx.out)).trans HX0wx.out
        exact ⟨cell_of_row W X 0 _ _ _ hX0, cell_of_row W X 1 _ _ _ hX0⟩)
      have HBX : Hid (Below w3.heap.size w3 wx) := (show Hid _ from HBr.out.trans (HAwx.out.mono hzq))
      have HOX : Hid (wx.ownsRow w3.heap.size 3 1 u7 D.length (D.map (Value.int .i64))) := (show Hid _ from own_blw HO.out HAwx.out)
      have hzx : w3.heap.size ≤ wx.heap.size := HBX.out.size
      have HBX1 : Hid (Below w1.heap.size w1 wx) := (show Hid _ from HB31.out.trans (HBX.out.mono HB31.out.size))
      go_upto_region 5 with fail
      rw [HWwx.out, ← eX]
      clear ewx eX
      obtain ⟨y0, y1⟩ := HXX.out wx (Below.refl _ _)
      have f0 := HXC.out wx HBX1.out
      clear c0 c1
      go_wp2_with fail
      (with_reducible refine (rValue_any P xv p _ wx hPi hxr (HSP.out.below (HBS.out _ HBX1.out)) HPL.out).mono ?_)
      rintro e w6 ⟨rfl, hb6⟩
      rw [HVV.out]
      have HB6x : Hid (Below wx.heap.size wx w6) := (show Hid _ from hb6)
      have HB6 : Hid (Below w3.heap.size w3 w6) := (show Hid _ from HBX.out.trans (hb6.mono hzx))
      have hz6 : w3.heap.size ≤ w6.heap.size := HB6.out.size
      have HO6 : Hid (w6.ownsRow w3.heap.size 3 1 u7 D.length (D.map (Value.int .i64))) := (show Hid _ from own_blw HOX.out hb6)
      clear y0 y1 f0 hb6
      obtain ⟨y0, y1⟩ := HXX.out w6 HB6x.out
      obtain ⟨yy, eyy⟩ : ∃ yy, yy = val P p xv := ⟨_, rfl⟩
      rw [← eyy] at HSN3 ⊢
      clear eyy
      by_cases hyy : yy = yv
      · have dyy : (yy != yv) = false := by rw [bne_eq_false_iff_eq]; exact hyy
        have HSN4 : Hid (wrK P l p (i + 1) = D) := (show Hid _ from by show _ = _; have h := HSN3.out; simpa [hyy] using h)
        clear hyy
        go_wp2_with fail
        go_roundw
        case rel => exact ⟨i + 1, by rw [← HK.out]; omega, by go_num, by rw [HSN4.out]; exact HO6.out, HB6.out⟩
        case measure => simp [intOf]; omega
      · have dyy : (yy != yv) = true := by rw [bne_iff_ne]; exact hyy
        have HSN4 : Hid (wrK P l p (i + 1) = D ++ [xv]) := (show Hid _ from by show _ = _; have h := HSN3.out; simpa [hyy] using h)
        clear hyy
        go_wp2_with (at_builtin; refine wpList_append_own _ rfl _ _ 22 rfl w3.heap.size 3 i0 (.int .i64 0) 1 8 Try.underlying22 hi0 hi1 hi2 hi3 rfl (by omega) _ _ _ rfl (HO6.out.alloc _) ⟨w6.heap.size, 0, none⟩ 1 1 [.int .i64 xv] rfl rfl (cells_new w6 _ _) (by intro u hu; simp at hu; subst hu; rfl) (by unfold maxLen; omega) (by omega) (by simp; omega) ?_; intro v9 w9 hown9 hg9 _; have HO9 := Lib.hid hown9; have HG9 := Lib.hid hg9; clear hown9 hg9)
        go_roundw
        case rel =>
          refine ⟨i + 1, by rw [← HK.out]; omega, by go_num, ?_, ?_⟩
          · rw [HSN4.out]
            simpa using HO9.out
          · exact (HB6.out.alloc hz6 _).grown HG9.out (by simp; omega) (fun k hk => (HO6.out.lt k hk).1)
        case measure => simp [intOf]; omega
    · have di : decide ((i : Int) < (K : Int)) = false := decide_eq_false (by omega)
      have din : decide (i < K) = false := decide_eq_false hli
      have HFA : Hid (wrg P l p = wrK P l p i) := (show Hid _ from by show _ = _; unfold wrK; rw [show i = (kn l).length by rw [← HK.out]; omega, List.take_length]; rfl)
      go_wp2_with fail
      go_ret
      rw [HFA.out]
      exact ⟨_, rfl, own_base HO.out (HBS.out _ HB31.out).size, HBS.out _ (HB31.out.trans (HBr.out.mono HB31.out.size))⟩
end Go.Proofs.Ytbgabipngdillaa

namespace Go.Proofs.Ytbgabipngdillaa
open Go.RowKit

/-- block O holds the equations; the two rows lie from block B on, apart from each other and from block X -/
structure KQ (O B X : Nat) (P n C : Int) (vc vr : Value) (cl rl : List Int) (w : World) : Prop where
  box : w.heap[O]? = some (.cells #[.int .i64 P, .int .i64 n, .int .i64 C, vc, vr] 76 (0, 0))
  two : TwoR B w vc cl vr rl
  lt : O < B
  nc : vc.ownBlock ≠ some X
  nr : vr.ownBlock ≠ some X
section
variable {O B X : Nat} {P n C : Int} {vc vr : Value} {cl rl : List Int} {w w' : World}
theorem KQ.olt (h : KQ O B X P n C vc vr cl rl w) : O < w.heap.size := heap_of_cells h.box
theorem KQ.cells (h : KQ O B X P n C vc vr cl rl w) : w.cell? ⟨O, 1, none⟩ = some (.int .i64 n) ∧ w.cell? ⟨O, 3, none⟩ = some vc ∧ w.cell? ⟨O, 4, none⟩ = some vr :=
  ⟨cell_of_row w O 1 _ _ _ h.box, cell_of_row w O 3 _ _ _ h.box, cell_of_row w O 4 _ _ _ h.box⟩
theorem KQ.frozen (h : KQ O B X P n C vc vr cl rl w) (j : Nat) : w.frozen? ⟨O, j, none⟩ = false := frozen_of_row w O j _ _ h.box
theorem KQ.below (h : KQ O B X P n C vc vr cl rl w) (hb : Below w.heap.size w w') : KQ O B X P n C vc vr cl rl w' :=
  ⟨(hb.block O h.olt).trans h.box, ⟨own_blw h.two.1 hb, own_blw h.two.2.1 hb, h.two.2.2⟩, h.lt, h.nc, h.nr⟩
theorem KQ.alloc (h : KQ O B X P n C vc vr cl rl w) (o : Obj) : KQ O B X P n C vc vr cl rl (w.alloc o) := h.below ((Below.refl _ w).alloc (Nat.le_refl _) o)
/-- another block to be apart from: one that no row lies in -/
theorem KQ.apart (h : KQ O B X P n C vc vr cl rl w) {Y : Nat} (hY : w.heap.size ≤ Y) : KQ O B Y P n C vc vr cl rl w :=
  ⟨h.box, h.two, h.lt, fun e => by have := (h.two.1.lt Y e).2; omega, fun e => by have := (h.two.2.1.lt Y e).2; omega⟩
theorem KQ.free (h : KQ O B X P n C vc vr cl rl w) : KQ O B O P n C vc vr cl rl w :=
  ⟨h.box, h.two, h.lt, fun e => by have := (h.two.1.lt O e).1; have := h.lt; omega, fun e => by have := (h.two.2.1.lt O e).1; have := h.lt; omega⟩
theorem KQ.rows (h : KQ O B X P n C vc vr cl rl w) (n' : Int) : KQ O B X P n' C vc vr cl rl (w.setCell ⟨O, 1, none⟩ (.int .i64 n')) := by
  refine ⟨?_, ⟨own_setCell' h.two.1 h.lt, own_setCell' h.two.2.1 h.lt, h.two.2.2⟩, h.lt, h.nc, h.nr⟩
  rw [heap_setCell_same w O 1 _ _ _ h.box]; simp
theorem KQ.app {more : List Int} {g cap : Nat} (h : KQ O B X P n C vc vr cl rl w) (hX : X < w.heap.size)
    (hown : w'.ownsRow B 3 1 (.slice (some ⟨g, 0, none⟩) (cl ++ more).length cap) (cl ++ more).length ((cl ++ more).map (Value.int .i64))) (hg : w.grownBy w' vc.ownBlock) (hat : vc.ownBlock = some g ∨ g = w.heap.size) :
    KQ O B X P n C (.slice (some ⟨g, 0, none⟩) (cl ++ more).length cap) vr (cl ++ more) rl (w'.setCell ⟨O, 3, none⟩ (.slice (some ⟨g, 0, none⟩) (cl ++ more).length cap)) := by
  have h1 : w'.heap[O]? = w.heap[O]? := hg.block O h.olt (fun e => by have := (h.two.1.lt O e.symm).1; have := h.lt; omega)
  have h2 := h.two.app1 hown hg hat
  refine ⟨?_, ⟨own_setCell' h2.1 h.lt, own_setCell' h2.2.1 h.lt, h2.2.2⟩, h.lt, fun e => ?_, h.nr⟩
  · rw [heap_setCell_same w' O 3 _ _ _ (h1.trans h.box)]; simp
  · have e2 : g = X := by simpa [Value.ownBlock] using e
    rcases hat with h3 | h3
    · exact h.nc (by rw [h3, e2])
    · omega
theorem KQ.appR {more : List Int} {g cap : Nat} (h : KQ O B X P n C vc vr cl rl w) (hX : X < w.heap.size)
    (hown : w'.ownsRow B 3 1 (.slice (some ⟨g, 0, none⟩) (rl ++ more).length cap) (rl ++ more).length ((rl ++ more).map (Value.int .i64))) (hg : w.grownBy w' vr.ownBlock) (hat : vr.ownBlock = some g ∨ g = w.heap.size) :
    KQ O B X P n C vc (.slice (some ⟨g, 0, none⟩) (rl ++ more).length cap) cl (rl ++ more) (w'.setCell ⟨O, 4, none⟩ (.slice (some ⟨g, 0, none⟩) (rl ++ more).length cap)) := by
  have h1 : w'.heap[O]? = w.heap[O]? := hg.block O h.olt (fun e => by have := (h.two.2.1.lt O e.symm).1; have := h.lt; omega)
  have h2 := (h.two.swap.app1 hown hg hat).swap
  refine ⟨?_, ⟨own_setCell' h2.1 h.lt, own_setCell' h2.2.1 h.lt, h2.2.2⟩, h.lt, h.nc, fun e => ?_⟩
  · rw [heap_setCell_same w' O 4 _ _ _ (h1.trans h.box)]; simp
  · have e2 : g = X := by simpa [Value.ownBlock] using e
    rcases hat with h3 | h3
    · exact h.nr (by rw [h3, e2])
    · omega
end
/-- the world of one append to a row and its store: all older blocks but O stay -/
theorem kq_grown {W0 w w' : World} {O : Nat} {v u : Value} {j : Nat} (h : W0.grownBy w (some O)) (hg : w.grownBy w' v.ownBlock) (hv : ∀ b, v.ownBlock = some b → W0.heap.size ≤ b) : W0.grownBy (w'.setCell ⟨O, j, none⟩ u) (some O) := by
  have h1 : W0.grownBy w' (some O) := ⟨hg.os.trans h.os, hg.tape.trans h.tape, hg.output.trans h.output, Nat.le_trans h.size hg.size, fun b hb hne => (hg.block b (Nat.lt_of_lt_of_le hb h.size) (fun e => by have := hv b e.symm; omega)).trans (h.block b hb hne)⟩
  exact grownBy_setCell h1 (.inl rfl) u
/-- and a block apart stays -/
theorem kq_other {w w' : World} {O X j : Nat} {v u : Value} (hg : w.grownBy w' v.ownBlock) (hX : X < w.heap.size) (hv : v.ownBlock ≠ some X) (hO : X ≠ O) : (w'.setCell ⟨O, j, none⟩ u).heap[X]? = w.heap[X]? :=
  (heap_setCell_other w' ⟨O, j, none⟩ X u hO).trans (hg.block X hX (fun e => hv e.symm))
/-- (P - y) t modulo P as ngl has it -/
theorem ngl_ref {P y t : Int} : (P - y) * t % P = (0 - y * t % P + P) % P := by
  have h1 : P ∣ (P - y) * t - (0 - y * t % P + P) := by
    have h2 := mod_dvd P (y * t)
    have h3 : P ∣ P * (t - 1) := Int.dvd_mul_right _ _
    refine dvd_of_eq' (Int.dvd_add h2 h3) ?_
    rw [Int.sub_mul, Int.mul_sub, Int.mul_one]
    omega
  exact Int.emod_eq_emod_iff_emod_sub_eq_zero.2 (Int.emod_eq_zero_of_dvd h1)
end Go.Proofs.Ytbgabipngdillaa

namespace Go.Proofs.Ytbgabipngdillaa
open Go.RowKit Go.Shelf

def KeP (P : Int) (a e : Nat) (K : List (Int × Int)) (w : World) (en : Ending) (w' : World) : Prop :=
  ∃ vc vr : Value, en = .returned (.tuple #[.agg #[.int .i64 P, .int .i64 K.length, .int .i64 ((a + e : Nat) : Int), vc, vr], .int .i64 0]) ∧ Below w.heap.size w w' ∧ SI w' vc (kcl P a e K) ∧ SI w' vr (krl P e K)
def Ky1 (P C : Int) (a e : Nat) (KK : List (Int × Int)) (O : Nat) (W0 : World) (iv : Value) (wr : World) : Prop :=
  ∃ (i : Nat) (vc vr : Value), i ≤ KK.length ∧ iv = .int .i64 i ∧ KQ O W0.heap.size O P i C vc vr (kcl P a e (KK.take i)) (krl P e (KK.take i)) wr ∧ W0.grownBy wr (some O)
/-- rounds of an inner loop: f j lies behind CB -/
def Ky2 (P C n : Int) (f : Nat → List Int) (top : Nat) (CB RL : List Int) (O X : Nat) (cX : Array Value) (W0 : World) (jv : Value) (wr : World) : Prop :=
  ∃ (j : Nat) (vc vr : Value), j ≤ top ∧ jv = .int .i64 j ∧ KQ O W0.heap.size X P n C vc vr (CB ++ f j) RL wr ∧ W0.grownBy wr (some O) ∧ wr.heap[X]? = some (.cells cX 64 (0, 0))
theorem ky_step {P C n : Int} {f : Nat → List Int} {top j : Nat} {CB RL : List Int} {O X g9 cap9 : Nat} {cX : Array Value} {W0 wr w6 w9 : World} {vc vr : Value} {s1 : Int} (hj : j < top) (hf : f (j + 1) = f j ++ [s1])
    (h1 : KQ O W0.heap.size X P n C vc vr (CB ++ f j) RL wr) (h2 : W0.grownBy wr (some O)) (h3 : wr.heap[X]? = some (.cells cX 64 (0, 0))) (hXO : X ≠ O) (hb : Below wr.heap.size wr w6)
    (hg : w6.grownBy w9 vc.ownBlock) (ho : w9.ownsRow W0.heap.size 3 1 (.slice (some ⟨g9, 0, none⟩) ((CB ++ f j) ++ [s1]).length cap9) ((CB ++ f j) ++ [s1]).length (((CB ++ f j) ++ [s1]).map (Value.int .i64))) (ha : vc.ownBlock = some g9 ∨ g9 = w6.heap.size) :
    Ky2 P C n f top CB RL O X cX W0 (.int .i64 ((j : Int) + 1)) (w9.setCell ⟨O, 3, none⟩ (.slice (some ⟨g9, 0, none⟩) ((CB ++ f j) ++ [s1]).length cap9)) := by
  have hXl := heap_of_cells h3
  have hz := hb.size
  have hk5 := h1.below hb
  have hX5 : X < w6.heap.size := by omega
  have hvb : ∀ b, vc.ownBlock = some b → W0.heap.size ≤ b := fun b hb => (h1.two.1.lt b hb).1
  have h5 : w6.heap[X]? = wr.heap[X]? := hb.block X hXl
  have hg0 : W0.grownBy w6 (some O) := grownBy_trans h2 (grownBy_of_below hb _)
  have hk9 := hk5.app hX5 ho hg ha
  rw [List.append_assoc, ← hf] at hk9 ⊢
  have hk3 : (w9.setCell ⟨O, 3, none⟩ (.slice (some ⟨g9, 0, none⟩) (CB ++ f (j + 1)).length cap9)).heap[X]? = some (.cells cX 64 (0, 0)) := (kq_other hg hX5 h1.nc hXO).trans (h5.trans h3)
  have hk2 : W0.grownBy (w9.setCell ⟨O, 3, none⟩ (.slice (some ⟨g9, 0, none⟩) (CB ++ f (j + 1)).length cap9)) (some O) := kq_grown hg0 hg hvb
  exact ⟨j + 1, _, vr, by omega, by simp, hk9, hk2, hk3⟩
theorem ky_stepR {P C : Int} {a e i O X g9 cap9 : Nat} {x y s1 : Int} {K : List (Int × Int)} {CB0 RL0 : List Int} {W0 wr w6 w9 : World} {vc vr : Value} (hi : i < K.length) (hT : K.take (i + 1) = K.take i ++ [(x, y)]) (hC : CB0 = kcl P a e (K.take i)) (hR : RL0 = krl P e (K.take i)) (hs : s1 = y * (x ^ e % P) % P)
    (h1 : KQ O W0.heap.size X P ((i : Int) + 1) C vc vr ((CB0 ++ pw P x a) ++ ngl P y (pw P x e)) RL0 wr) (h2 : W0.grownBy wr (some O)) (hXl : X < wr.heap.size) (hb : Below wr.heap.size wr w6)
    (hg : w6.grownBy w9 vr.ownBlock) (ho : w9.ownsRow W0.heap.size 3 1 (.slice (some ⟨g9, 0, none⟩) (RL0 ++ [s1]).length cap9) (RL0 ++ [s1]).length ((RL0 ++ [s1]).map (Value.int .i64))) (ha : vr.ownBlock = some g9 ∨ g9 = w6.heap.size) :
    Ky1 P C a e K O W0 (.int .i64 ((i : Int) + 1)) (w9.setCell ⟨O, 4, none⟩ (.slice (some ⟨g9, 0, none⟩) (RL0 ++ [s1]).length cap9)) := by
  have hvb : ∀ b, vr.ownBlock = some b → W0.heap.size ≤ b := fun b hb => (h1.two.2.1.lt b hb).1
  have hz := hb.size
  have hg0 : W0.grownBy w6 (some O) := grownBy_trans h2 (grownBy_of_below hb _)
  have hk9 := ((h1.below hb).appR (by omega) ho hg ha).free
  have hk2 := kq_grown (j := 4) (u := .slice (some ⟨g9, 0, none⟩) (RL0 ++ [s1]).length cap9) hg0 hg hvb
  have e1 : kcl P a e (K.take (i + 1)) = (CB0 ++ pw P x a) ++ ngl P y (pw P x e) := by rw [hT, kcl_snoc, hC]
  have e2 : krl P e (K.take (i + 1)) = RL0 ++ [s1] := by rw [hT, krl_snoc, hR, hs]
  refine ⟨i + 1, vc, .slice (some ⟨g9, 0, none⟩) (RL0 ++ [s1]).length cap9, by omega, by simp, ?_, hk2⟩
  rw [e1, e2]
  exact hk9
theorem ky_set {w : World} {O j b i : Nat} {u v : Value} (h : w.cell? ⟨b, i, none⟩ = some v) (hne : b ≠ O) : (w.setCell ⟨O, j, none⟩ u).cell? ⟨b, i, none⟩ = some v :=
  (World.cell?_of_block (heap_setCell_other w ⟨O, j, none⟩ b u hne)).trans h
theorem ky_cells {P C n : Int} {CL RL : List Int} {O B X : Nat} {w w' : World} {vc vr : Value} (h : KQ O B X P n C vc vr CL RL w) (hg : w.grownBy w' vc.ownBlock) : w'.cell? ⟨O, 3, none⟩ = some vc ∧ w'.frozen? ⟨O, 3, none⟩ = false := by
  have h1 : w'.heap[O]? = some (.cells #[.int .i64 P, .int .i64 n, .int .i64 C, vc, vr] 76 (0, 0)) := (hg.block O h.olt (fun e => by have := (h.two.1.lt O e.symm).1; have := h.lt; omega)).trans h.box
  exact ⟨cell_of_row w' O 3 _ _ _ h1, frozen_of_row w' O 3 _ _ h1⟩
theorem ky_cellsR {P C n : Int} {CL RL : List Int} {O B X : Nat} {w w' : World} {vc vr : Value} (h : KQ O B X P n C vc vr CL RL w) (hg : w.grownBy w' vr.ownBlock) : w'.cell? ⟨O, 4, none⟩ = some vr ∧ w'.frozen? ⟨O, 4, none⟩ = false := by
  have h1 : w'.heap[O]? = some (.cells #[.int .i64 P, .int .i64 n, .int .i64 C, vc, vr] 76 (0, 0)) := (hg.block O h.olt (fun e => by have := (h.two.2.1.lt O e.symm).1; have := h.lt; omega)).trans h.box
  exact ⟨cell_of_row w' O 4 _ _ _ h1, frozen_of_row w' O 4 _ _ h1⟩
theorem ky_five {w : World} {G : Nat} {T : TypeId} {c0 c1 c2 c3 c4 a b c d e : Value} (h : w.heap[G]? = some (.cells #[c0, c1, c2, c3, c4] T (0, 0))) :
    (((((w.setCell ⟨G, 0, none⟩ a).setCell ⟨G, 1, none⟩ b).setCell ⟨G, 2, none⟩ c).setCell ⟨G, 3, none⟩ d).setCell ⟨G, 4, none⟩ e).heap[G]? = some (.cells #[a, b, c, d, e] T (0, 0)) := by
  have h1 : (w.setCell ⟨G, 0, none⟩ a).heap[G]? = some (.cells #[a, c1, c2, c3, c4] T (0, 0)) := by rw [heap_setCell_same w G 0 _ _ _ h]; simp
  have h2 : ((w.setCell ⟨G, 0, none⟩ a).setCell ⟨G, 1, none⟩ b).heap[G]? = some (.cells #[a, b, c2, c3, c4] T (0, 0)) := by rw [heap_setCell_same _ G 1 _ _ _ h1]; simp
  have h3 : (((w.setCell ⟨G, 0, none⟩ a).setCell ⟨G, 1, none⟩ b).setCell ⟨G, 2, none⟩ c).heap[G]? = some (.cells #[a, b, c, c3, c4] T (0, 0)) := by rw [heap_setCell_same _ G 2 _ _ _ h2]; simp
  have h4 : ((((w.setCell ⟨G, 0, none⟩ a).setCell ⟨G, 1, none⟩ b).setCell ⟨G, 2, none⟩ c).setCell ⟨G, 3, none⟩ d).heap[G]? = some (.cells #[a, b, c, d, c4] T (0, 0)) := by rw [heap_setCell_same _ G 3 _ _ _ h3]; simp
  rw [heap_setCell_same _ G 4 _ _ _ h4]; simp
set_option maxRecDepth 100000 in
set_option maxHeartbeats 8000000 in
theorem rkey_any (P : Int) (l : List (Int × Bool)) (k e : Nat) (v : Value) (w : World) (h : SCl w v l) (hc : ceE P l = 0) (hk : 1 ≤ k) (hkl : k ≤ l.length) (hke : k + 2 * e ≤ 32) (hkn : k ≤ (kn l).length) :
    Calls Try.prog 35 #[.agg #[.int .i64 P], v, .int .i64 k, .int .i64 e] w (KeP P (k + e) e (kn l) w) := by
  have hci := ceE_inv hc
  have hP := prB_bd hci.1
  have hPi : i64r P := by unfold i64r; omega
  have hev := (ce_zero hc).2.2.2
  have hbg : bgE P l k = 0 := by unfold bgE; rw [if_pos hc, if_neg (by omega)]
  have HBG := Lib.hid hbg
  obtain ⟨A, c, rfl⟩ := h.form
  have HS := Lib.hid h
  have HZ : Hid (l.length ≤ 1000000) := (show Hid _ from by show l.length ≤ 1000000; omega)
  have hsr : ∀ t ∈ kn l, i64r t.1 ∧ i64r t.2 := by
    obtain ⟨A', c', e', hc', hm', hr', ha'⟩ := h
    exact kn_rng HZ.out hr'
  have HSR := Lib.hid hsr
  have HEV := Lib.hid hev
  obtain ⟨n, en⟩ : ∃ n, n = l.length := ⟨_, rfl⟩
  have hl32 : n ≤ 32 := by rw [en]; exact hci.2.1
  have hlP : (n : Int) < P := by rw [en]; exact hci.2.2.1
  rw [← en] at HS hkl ⊢
  have HN := Lib.hid en
  clear h hc hci hev hbg hsr en
  go_enter Try.func35, Try.ntmps35
  obtain ⟨F, eF⟩ : ∃ F, F = w.heap.size := ⟨_, rfl⟩
  obtain ⟨w1, ew1⟩ : ∃ w1 : World, w1 = (w.alloc (.cells #[.int .i64 P] 26)).alloc (.cells #[.int .i64 0, .int .i64 0, .int .i64 0, .slice none 0 0, .slice none 0 0] 76) := ⟨_, rfl⟩
  have HWw1 : Hid ((w.alloc (.cells #[.int .i64 P] 26)).alloc (.cells #[.int .i64 0, .int .i64 0, .int .i64 0, .slice none 0 0, .slice none 0 0] 76) = w1) := ew1.symm
  have HAw1 : Hid (Below w.heap.size w w1) := (show Hid _ from by rw [ew1]; exact ((Below.refl _ w).alloc (Nat.le_refl _) _).alloc (by simp) _)
  have HF0w1 : Hid (w1.heap[F]? = some (.cells #[.int .i64 P] 26 (0, 0))) := (show Hid _ from by show _ = _; rw [ew1, eF, Below.heap_alloc _ _ _ (by simp)]; exact heap_alloc_new w _)
  have HF1w1 : Hid (w1.heap[F + 1]? = some (.cells #[.int .i64 0, .int .i64 0, .int .i64 0, .slice none 0 0, .slice none 0 0] 76 (0, 0))) := (show Hid _ from by show _ = _; rw [ew1, eF]; have := heap_alloc_new (w.alloc (.cells #[.int .i64 P] 26)) (.cells #[.int .i64 0, .int .i64 0, .int .i64 0, .slice none 0 0, .slice none 0 0] 76); simpa using this)
  have hFw : w.heap.size ≤ F := by omega
  have HXC : Hid (∀ W, Below w1.heap.size w1 W → W.cell? ⟨F, 0, none⟩ = some (.int .i64 P) ∧ W.cell? ⟨F + 1, 0, none⟩ = some (.int .i64 0) ∧ W.cell? ⟨F + 1, 1, none⟩ = some (.int .i64 0) ∧ W.cell? ⟨F + 1, 2, none⟩ = some (.int .i64 0) ∧ W.cell? ⟨F + 1, 3, none⟩ = some (.slice none 0 0) ∧ W.cell? ⟨F + 1, 4, none⟩ = some (.slice none 0 0)) := (show Hid _ from fun W hg => by
    have hF0 := (hg.block F (heap_of_cells HF0w1.out)).trans HF0w1.out
    have hF1 := (hg.block (F + 1) (heap_of_cells HF1w1.out)).trans HF1w1.out
    exact ⟨cell_of_row W F 0 _ _ _ hF0, cell_of_row W (F + 1) 0 _ _ _ hF1, cell_of_row W (F + 1) 1 _ _ _ hF1, cell_of_row W (F + 1) 2 _ _ _ hF1, cell_of_row W (F + 1) 3 _ _ _ hF1, cell_of_row W (F + 1) 4 _ _ _ hF1⟩)
  go_upto_region 1 with fail
  rw [HWw1.out, ← eF]
  clear ew1 eF
  obtain ⟨f0, _⟩ := HXC.out w1 (Below.refl _ _)
  go_wp2_with fail
  (with_reducible refine (rbegin_any P l k _ w1 hPi (HS.out.below HAw1.out) HZ.out).mono ?_)
  rintro en w2 ⟨rfl, hb2⟩
  rw [HBG.out]
  have HB2 : Hid (Below w1.heap.size w1 w2) := (show Hid _ from hb2)
  clear hb2 f0
  obtain ⟨f0, _⟩ := HXC.out w2 HB2.out
  have d1 : decide ((e : Int) < 0) = false := decide_eq_false (by omega)
  have d2 : decide ((32 : Int) < (e : Int)) = false := decide_eq_false (by omega)
  have d2n : decide (32 < e) = false := decide_eq_false (by omega)
  have d3 : decide ((32 : Int) < (k : Int) + 2 * (e : Int)) = false := decide_eq_false (by omega)
  obtain ⟨O, eO⟩ : ∃ O, O = w2.heap.size := ⟨_, rfl⟩
  obtain ⟨C, eC⟩ : ∃ C : Int, C = (k : Int) + 2 * (e : Int) := ⟨_, rfl⟩
  obtain ⟨w3, ew3⟩ : ∃ w3 : World, w3 = w2.alloc (.cells #[.int .i64 P, .int .i64 0, .int .i64 C, .slice none 0 0, .slice none 0 0] 76) := ⟨_, rfl⟩
  have HO3 : Hid (w3.heap[O]? = some (.cells #[.int .i64 P, .int .i64 0, .int .i64 C, .slice none 0 0, .slice none 0 0] 76 (0, 0))) := (show Hid _ from by rw [ew3, eO]; exact heap_alloc_new w2 _)
  have HB3 : Hid (Below w2.heap.size w2 w3) := (show Hid _ from by rw [ew3]; exact (Below.refl _ w2).alloc (Nat.le_refl _) _)
  have HW3 : Hid (w2.alloc (.cells #[.int .i64 P, .int .i64 0, .int .i64 ((k : Int) + 2 * (e : Int)), .slice none 0 0, .slice none 0 0] 76) = w3) := (show Hid _ from by show _ = _; rw [ew3, eC])
  have HB13 : Hid (Below w1.heap.size w1 w3) := (show Hid _ from HB2.out.trans (HB3.out.mono HB2.out.size))
  have hO1 : w1.heap.size ≤ O := by rw [eO]; exact HB2.out.size
  have HEC := Lib.hid eC
  have HEO := Lib.hid eO
  clear ew3
  go_upto_region 7 with fail
  rw [HW3.out, ← eO, ← eC]
  clear eO eC
  go_wp2_with fail
  (with_reducible refine (rknown_any l _ w3 (HS.out.below (HAw1.out.trans (HB13.out.mono HAw1.out.size))) HZ.out).mono ?_)
  rintro en w4 ⟨v4, rfl, hown4, hb4⟩
  have HB4 := Lib.hid hb4
  have hz34 : w3.heap.size ≤ w4.heap.size := hb4.size
  have hO3l : O < w3.heap.size := heap_of_cells HO3.out
  have HKN : Hid ((kn l).length ≤ n) := (show Hid _ from by have h1 := kn_len l 0; have h2 := HN.out; show (knF 0 l).length ≤ n; omega)
  have HSG : Hid (SG pcs 2 w4.heap.size w4 v4 (kn l)) := (show Hid _ from SG.of_own hown4 (fun t ht y hy => by simp [pcs] at hy; rcases hy with rfl | rfl; exact (HSR.out t ht).1; exact (HSR.out t ht).2) (fun _ _ => rfl))
  obtain ⟨gs, cs4, ev4, hgs1, hgs2⟩ := own_form hown4 (by omega)
  subst ev4
  obtain ⟨K, eK⟩ : ∃ K, K = (kn l).length := ⟨_, rfl⟩
  have HK := Lib.hid eK
  rw [← eK] at HKN HSG hkn ⊢
  have hKn := HKN.out
  have hK0 : KQ O w4.heap.size O P 0 C (.slice none 0 0) (.slice none 0 0) [] [] w4 := ⟨(HB4.out.block O hO3l).trans HO3.out, ⟨World.ownsRow_nil _ _ _ _, World.ownsRow_nil _ _ _ _, fun k hk => by simp [Value.ownBlock] at hk⟩, by omega, by simp [Value.ownBlock], by simp [Value.ownBlock]⟩
  have HK0 := Lib.hid hK0
  have HB14 : Hid (Below w1.heap.size w1 w4) := (show Hid _ from HB13.out.trans (HB4.out.mono HB13.out.size))
  have HGW : Hid (∀ W, w4.grownBy W (some O) → Below w1.heap.size w1 W) := (show Hid _ from fun W hW => HB14.out.grown hW HB14.out.size (fun b hb => by injection hb with hb; omega))
  clear hown4 hb4 eK f0 hK0
  go_wp2_with fail
  go_loopw [47] (fun iv wr => Ky1 P C (k + e) e (kn l) O w4 iv wr) (fun iv _ => K - (intOf iv).toNat)
  case atStart => exact ⟨0, _, _, Nat.zero_le _, rfl, HK0.out, grownBy_refl _ _⟩
  case round =>
    obtain ⟨i, vc, vr, hi, rfl, hkq, hgr⟩ := hrel
    have HKQ := Lib.hid hkq
    have HGR := Lib.hid hgr
    have hzr : w4.heap.size ≤ wr.heap.size := hgr.size
    rw [← HK.out] at hi
    have o1 := hkq.cells.1
    have fo1 := hkq.frozen 1
    clear hkq hgr
    by_cases hiK : i < K
    · have di : decide ((i : Int) < (K : Int)) = true := decide_eq_true (by omega)
      have din : decide (i < K) = true := decide_eq_true hiK
      have his : i < (kn l).length := by rw [← HK.out]; exact hiK
      obtain ⟨A', c', eA', _, _, _, ha'⟩ := pcs_cells HSG.out
      injection eA' with eA1 eA2 eA3
      obtain ⟨b, off, eA, hbl, hcell⟩ := ha' (by omega)
      rw [← eA1] at eA
      injection eA with eA
      injection eA with eb eo
      subst eb eo
      obtain ⟨c0, c1⟩ := hcell i his
      have c0 := HGR.out.cell c0 (by simp; omega)
      have c1 := HGR.out.cell c1 (by simp; omega)
      simp only [Nat.zero_add] at c0 c1
      have hat1 := kn_at (List.getElem_mem his)
      have hel := el_t (HEV.out _ (List.getElem_mem his))
      have HTK : Hid ((kn l).take (i + 1) = (kn l).take i ++ [(kn l)[i]]) := (show Hid _ from List.take_succ_eq_append_getElem his)
      obtain ⟨x, ex⟩ : ∃ x, x = (kn l)[i].1 := ⟨_, rfl⟩
      obtain ⟨y, ey⟩ : ∃ y, y = (kn l)[i].2 := ⟨_, rfl⟩
      have HTK2 : Hid ((kn l).take (i + 1) = (kn l).take i ++ [(x, y)]) := (show Hid _ from by show _ = _; rw [HTK.out, ex, ey])
      rw [← ex] at c0 hat1
      rw [← ey] at c1 hel
      have hx : 0 ≤ x ∧ x < P := by have := HN.out; omega
      clear hcell ex ey ha' eA1 eA2 eA3 hbl HTK hat1
      obtain ⟨X, eX⟩ : ∃ X, X = wr.heap.size := ⟨_, rfl⟩
      obtain ⟨wx, ewx⟩ : ∃ wx : World, wx = wr.alloc (.cells #[.int .i64 x, .int .i64 y] 64) := ⟨_, rfl⟩
      have HWwx : Hid (wr.alloc (.cells #[.int .i64 x, .int .i64 y] 64) = wx) := ewx.symm
      have HAwx : Hid (Below wr.heap.size wr wx) := (show Hid _ from by rw [ewx]; exact (Below.refl _ wr).alloc (Nat.le_refl _) _)
      have HX0wx : Hid (wx.heap[X]? = some (.cells #[.int .i64 x, .int .i64 y] 64 (0, 0))) := (show Hid _ from by show _ = _; rw [ewx, eX]; exact heap_alloc_new wr _)
      have hXr : X = wr.heap.size := eX
      have HKQx : Hid (KQ O w4.heap.size X P i C vc vr (kcl P (k + e) e ((kn l).take i)) (krl P e ((kn l).take i)) wx) := (show Hid _ from by
        rw [ewx]
        exact (HKQ.out.apart (Y := X) (by omega)).alloc _)
      have HGRx : Hid (w4.grownBy wx (some O)) := (show Hid _ from grownBy_trans HGR.out (grownBy_of_below HAwx.out _))
      have hXO : X ≠ O := by have := HKQ.out.olt; omega
      have hXl : X < wx.heap.size := by rw [ewx]; simp; omega
      go_upto_region 10 with fail
      rw [HWwx.out, ← eX]
      clear ewx eX
      clear c0 c1 o1 fo1 hXr
      have o1 := HKQx.out.cells.1
      have fo1 := HKQx.out.frozen 1
      have u1 : IntKind.i64.wrap ((i : Int) + 1) = (i : Int) + 1 := by exact IntWalk.i64_in _ (by omega)
      obtain ⟨wy, ewy⟩ : ∃ wy : World, wy = wx.setCell ⟨O, 1, none⟩ (.int .i64 ((i : Int) + 1)) := ⟨_, rfl⟩
      have HKQy : Hid (KQ O w4.heap.size X P ((i : Int) + 1) C vc vr (kcl P (k + e) e ((kn l).take i)) (krl P e ((kn l).take i)) wy) := (show Hid _ from by rw [ewy]; exact HKQx.out.rows _)
      have HGRy : Hid (w4.grownBy wy (some O)) := (show Hid _ from by rw [ewy]; exact grownBy_setCell HGRx.out (.inl rfl) _)
      have HXy : Hid (wy.heap[X]? = some (.cells #[.int .i64 x, .int .i64 y] 64 (0, 0))) := (show Hid _ from by show _ = _; rw [ewy]; exact (heap_setCell_other wx ⟨O, 1, none⟩ X _ hXO).trans HX0wx.out)
      have HWy : Hid (wx.setCell ⟨O, 1, none⟩ (.int .i64 ((i : Int) + 1)) = wy) := (show Hid _ from ewy.symm)
      obtain ⟨CB0, eCB⟩ : ∃ CB0, CB0 = kcl P (k + e) e ((kn l).take i) := ⟨_, rfl⟩
      obtain ⟨RL0, eRL⟩ : ∃ RL0, RL0 = krl P e ((kn l).take i) := ⟨_, rfl⟩
      rw [← eCB, ← eRL] at HKQy
      have HCB := Lib.hid eCB
      have HRL := Lib.hid eRL
      have hCBl : CB0.length ≤ 2000 := by
        rw [eCB, kcl_len]
        have h1 : ((kn l).take i).length ≤ 32 := by rw [List.length_take]; omega
        have h2 : k + e + e ≤ 32 := by omega
        have := Nat.mul_le_mul h1 h2
        omega
      have hRLl : RL0.length ≤ 32 := by rw [eRL, krl_len, List.length_take]; omega
      clear ewy eCB eRL
      go_wp2_with fail
      rw [HWy.out]
      clear o1 fo1
      obtain ⟨wz, rfl⟩ : ∃ wz : World, wz = wr := ⟨_, rfl⟩
      go_loopw [14] (fun jv wr => Ky2 P C ((i : Int) + 1) (fun j => pw P x j) (k + e) CB0 RL0 O X #[.int .i64 x, .int .i64 y] w4 jv wr) (fun jv _ => (k + e) - (intOf jv).toNat)
      case atStart => exact ⟨0, vc, vr, Nat.zero_le _, rfl, by simpa [pw] using HKQy.out, HGRy.out, HXy.out⟩
      case round =>
        obtain ⟨j, vc1, vr1, hj, rfl, hkq, hgr, hX3⟩ := hrel
        have HKQ1 := Lib.hid hkq
        have HGR1 := Lib.hid hgr
        have HX3 := Lib.hid hX3
        have hzr1 : w4.heap.size ≤ wr.heap.size := hgr.size
        have hFl : F < w4.heap.size := Nat.lt_of_lt_of_le (heap_of_cells HF0w1.out) HB14.out.size
        have hFO : F ≠ O := by have := heap_of_cells HF0w1.out; omega
        have HSR1 : Hid (∀ W, Below wr.heap.size wr W → W.cell? ⟨F, 0, none⟩ = some (.int .i64 P) ∧ W.cell? ⟨X, 0, none⟩ = some (.int .i64 x)) := (show Hid _ from fun W hW =>
          ⟨(HXC.out W ((HGW.out wr HGR1.out).trans (hW.mono (HGW.out wr HGR1.out).size))).1, (hW.cell (p := ⟨X, 0, none⟩) (heap_of_cells HX3.out)).trans (cell_of_row wr X 0 _ _ _ HX3.out)⟩)
        clear hkq hgr hX3
        have uk : IntKind.i64.wrap ((k : Int) + (e : Int)) = (k : Int) + (e : Int) := by exact IntWalk.i64_in _ (by omega)
        have uj : IntKind.i64.wrap ((j : Int) + 1) = (j : Int) + 1 := by exact IntWalk.i64_in _ (by omega)
        by_cases hjt : j < k + e
        · have dj : decide ((j : Int) < (k : Int) + (e : Int)) = true := decide_eq_true (by omega)
          have HS0 := Lib.hid (HSR1.out wr (Below.refl _ _))
          have HOC : Hid (∀ W, Below wr.heap.size wr W → W.cell? ⟨O, 3, none⟩ = some vc1) := (show Hid _ from fun W hW => (HKQ1.out.below hW).cells.2.1)
          have o0 := HOC.out wr (Below.refl _ _)
          obtain ⟨s1, es1⟩ : ∃ s1, s1 = x ^ j % P := ⟨_, rfl⟩
          have HS1 := Lib.hid es1
          clear es1
          go_upto_region 14 with fail
          refine wp_region_noPanic ?_
          refine wp_region_held_drew (S := fun w' => w'.cell? ⟨F, 0, none⟩ = some (.int .i64 P) ∧ w'.cell? ⟨X, 0, none⟩ = some (.int .i64 x)) (by kernel_rfl) ?hs1 (fun hHeld => ?_)
          case hs1 => ((try dsimp only); (first | exact HS0.out | exact HS5.out | exact HS5L.out | exact HS9.out | exact ⟨ky_set HS9.out.1 hFO, ky_set HS9.out.2 hXO⟩ | go_keep))
          (try simp only [Act.put]); (try simp only [List.setIfInBounds_toArray]); (try simp only [List.set_cons_succ]); (try simp only [List.set_cons_zero])
          refine wpAnyH_take (i := 0) (oi := _) (v := ?v1) rfl (by kernel_rfl) (by kernel_rfl) (by kernel_rfl) (fun _ _ _ h => h) (Or.inl ⟨by rfl, ?hy1⟩) (by assumption) ?rs1
          case hy1 => (intro w hSw; (try dsimp only at hSw); go_simp; all_goals with_reducible rfl)
          (try simp only [Act.put]); (try simp only [List.setIfInBounds_toArray]); (try simp only [List.set_cons_succ]); (try simp only [List.set_cons_zero])
          refine wpAnyH_take (i := 2) (oi := _) (v := ?v2) rfl (by kernel_rfl) (by kernel_rfl) (by kernel_rfl) (fun _ _ _ h => h) (Or.inl ⟨by rfl, ?hy2⟩) (by assumption) ?rs2
          case hy2 => (intro w hSw; (try dsimp only at hSw); go_simp; all_goals with_reducible rfl)
          (try simp only [Act.put]); (try simp only [List.setIfInBounds_toArray]); (try simp only [List.set_cons_succ]); (try simp only [List.set_cons_zero])
          refine wpAnyH_take (i := 3) (oi := _) (v := ?v3) rfl (by kernel_rfl) (by kernel_rfl) (by kernel_rfl) (fun _ _ _ h => h) (Or.inl ⟨by rfl, ?hy3⟩) (by assumption) ?rs3
          case hy3 => (intro w hSw; (try dsimp only at hSw); go_simp; all_goals with_reducible rfl)
          (try simp only [Act.put]); (try simp only [List.setIfInBounds_toArray]); (try simp only [List.set_cons_succ]); (try simp only [List.set_cons_zero])
          refine wpAnyH_take (i := 4) (oi := _) (v := ?v4) rfl (by kernel_rfl) (by kernel_rfl) (by kernel_rfl) (fun _ _ _ h => h) (Or.inl ⟨by rfl, ?hy4⟩) (by assumption) ?rs4
          case hy4 => (intro w hSw; (try dsimp only at hSw); go_simp; all_goals with_reducible rfl)
          (try simp only [Act.put]); (try simp only [List.setIfInBounds_toArray]); (try simp only [List.set_cons_succ]); (try simp only [List.set_cons_zero])
          refine wpAnyH_take (i := 5) (oi := _) (v := ?v5) rfl (by kernel_rfl) (by kernel_rfl) (by kernel_rfl) (fun _ _ _ h => h) (Or.inl ⟨by rfl, ?hy5⟩) (by assumption) ?rs5
          case hy5 => (intro w hSw; (try dsimp only at hSw); go_simp; all_goals with_reducible rfl)
          (try simp only [Act.put]); (try simp only [List.setIfInBounds_toArray]); (try simp only [List.set_cons_succ]); (try simp only [List.set_cons_zero])
          refine wpAnyH_ready (rs := [1, 6]) (by kernel_rfl) (by simp) ?_
          refine AllReadyH.cons (o := _) rfl (fun K hK => ?st6_0) ?mo6_0
          case st6_0 =>
            go_simp
            refine hK.out _ _ ?sh6_0 (fun hHeld => ?re6_0)
            case sh6_0 => ((try dsimp only); (first | exact HS0.out | exact HS5.out | exact HS5L.out | exact HS9.out | exact ⟨ky_set HS9.out.1 hFO, ky_set HS9.out.2 hXO⟩ | go_keep))
            clear hK K
            (try simp only [Act.put]); (try simp only [List.setIfInBounds_toArray]); (try simp only [List.set_cons_succ]); (try simp only [List.set_cons_zero])
            refine wpAnyH_ready (rs := [6]) (by kernel_rfl) (by simp) ?_
            refine AllReadyH.cons (o := _) rfl (fun K hK => ?st7_0) ?mo7_0
            case st7_0 =>
              (go_simp; go_at_call 60; refine (rpowG_any P x j _ hP hx (by omega)).mono ?_; rintro e9 w5 ⟨rfl, hb9⟩; rw [← HS1.out]; have HB5 : Hid (Below wr.heap.size wr w5) := (show Hid _ from ⟨hb9.os, hb9.tape, hb9.output, hb9.size, hb9.block⟩); have HS5 := Lib.hid (HSR1.out w5 HB5.out); have HB5L := Lib.hid (HB5.out.alloc HB5.out.size (.cells #[.int .i64 s1] 3)); have HS5L := Lib.hid (HSR1.out _ HB5L.out); have o5 := HOC.out w5 HB5.out; have o5L := HOC.out _ HB5L.out; clear hb9)
              go_wp2_with fail
              refine hK.out _ _ ?sh7_0 (fun hHeld => ?re7_0)
              case sh7_0 => ((try dsimp only); (first | exact HS0.out | exact HS5.out | exact HS5L.out | exact HS9.out | exact ⟨ky_set HS9.out.1 hFO, ky_set HS9.out.2 hXO⟩ | go_keep))
              clear hK K
              (try simp only [Act.put]); (try simp only [List.setIfInBounds_toArray]); (try simp only [List.set_cons_succ]); (try simp only [List.set_cons_zero])
              refine wpAnyH_ready (rs := [7]) (by kernel_rfl) (by simp) ?_
              refine AllReadyH.cons (o := _) rfl (fun K hK => ?st8_0) ?mo8_0
              case st8_0 =>
                go_simp
                refine hK.out _ _ ?sh8_0 (fun hHeld => ?re8_0)
                case sh8_0 => ((try dsimp only); (first | exact HS0.out | exact HS5.out | exact HS5L.out | exact HS9.out | exact ⟨ky_set HS9.out.1 hFO, ky_set HS9.out.2 hXO⟩ | go_keep))
                clear hK K
                (try simp only [Act.put]); (try simp only [List.setIfInBounds_toArray]); (try simp only [List.set_cons_succ]); (try simp only [List.set_cons_zero])
                refine wpAnyH_ready (rs := [8]) (by kernel_rfl) (by simp) ?_
                refine AllReadyH.cons (o := _) rfl (fun K hK => ?st9_0) ?mo9_0
                case st9_0 =>
                  (refine step_append_int1_at _ (by rfl) (.tmp 63) _ 22 (by rfl) w4.heap.size 3 Try.underlying22 iinfo vc1 (CB0 ++ pw P x j) (by rfl) (by first | exact (HKQ1.out.below HB5L.out).two.1 | exact (HKQ1.out.below HB5L.out.drew).two.1) s1 w5.heap.size (by rfl) (by exact cells_new w5 [.int .i64 s1] 3 0 _ rfl) (by rw [List.length_append]; have := (show (pw P x j).length = j by simp [pw]); omega) (by have := HB5L.out.size; have := hzr1; first | omega | (simp at *; omega)) ?_; intro g9 cap9 w9 hown9 hg9 hat9; obtain ⟨o9, fo9⟩ := ky_cells (HKQ1.out.below (by first | exact HB5L.out | exact HB5L.out.drew)) hg9; have HS9 := Lib.hid (And.intro (hg9.cell (a := ⟨F, 0, none⟩) HS5L.out.1 (fun e => by have := (HKQ1.out.two.1.lt F e.symm).1; omega)) (hg9.cell (a := ⟨X, 0, none⟩) HS5L.out.2 (fun e => HKQ1.out.nc e.symm))); have HST := Lib.hid (ky_step hjt (by rw [HS1.out]; exact pw_snoc P x j) HKQ1.out HGR1.out HX3.out hXO (by first | exact HB5L.out | exact HB5L.out.drew) hg9 hown9 hat9); clear hown9 hg9 hat9)
                  refine hK.out _ _ ?sh9_0 (fun hHeld => ?re9_0)
                  case sh9_0 => ((try dsimp only); (first | exact HS0.out | exact HS5.out | exact HS5L.out | exact HS9.out | exact ⟨ky_set HS9.out.1 hFO, ky_set HS9.out.2 hXO⟩ | go_keep))
                  clear hK K
                  (try simp only [Act.put]); (try simp only [List.setIfInBounds_toArray]); (try simp only [List.set_cons_succ]); (try simp only [List.set_cons_zero])
                  refine wpAnyH_take (i := 9) (oi := _) (v := ?v10) rfl (by kernel_rfl) (by kernel_rfl) (by kernel_rfl) (fun _ _ _ h => h) (Or.inl ⟨by rfl, ?hy10⟩) (by assumption) ?rs10
                  case hy10 => (intro w hSw; (try dsimp only at hSw); go_simp; all_goals with_reducible rfl)
                  (try simp only [Act.put]); (try simp only [List.setIfInBounds_toArray]); (try simp only [List.set_cons_succ]); (try simp only [List.set_cons_zero])
                  refine wpAnyH_ready (rs := [10]) (by kernel_rfl) (by simp) ?_
                  refine AllReadyH.cons (o := _) rfl (fun K hK => ?st11_0) ?mo11_0
                  case st11_0 =>
                    go_simp
                    refine hK.out _ _ ?sh11_0 (fun hHeld => ?re11_0)
                    case sh11_0 => ((try dsimp only); (first | exact HS0.out | exact HS5.out | exact HS5L.out | exact HS9.out | exact ⟨ky_set HS9.out.1 hFO, ky_set HS9.out.2 hXO⟩ | go_keep))
                    clear hK K
                    (try simp only [Act.put]); (try simp only [List.setIfInBounds_toArray]); (try simp only [List.set_cons_succ]); (try simp only [List.set_cons_zero])
                    refine wpAnyH_done (by kernel_rfl) ?_ _
                    refine NoPanic.normal ?_
                    go_wp2_with fail
                    go_roundw
                    case rel => simpa [uj, Nat.add_assoc] using HST.out
                    case measure => simp [intOf]; omega
                  exact AllReadyH.nil
                exact AllReadyH.nil
              exact AllReadyH.nil
            exact AllReadyH.nil
          refine AllReadyH.cons (o := _) rfl (fun K hK => ?st6_1) ?mo6_1
          case st6_1 =>
            (go_simp; go_at_call 60; refine (rpowG_any P x j _ hP hx (by omega)).mono ?_; rintro e9 w5 ⟨rfl, hb9⟩; rw [← HS1.out]; have HB5 : Hid (Below wr.heap.size wr w5) := (show Hid _ from ⟨hb9.os, hb9.tape, hb9.output, hb9.size, hb9.block⟩); have HS5 := Lib.hid (HSR1.out w5 HB5.out); have HB5L := Lib.hid (HB5.out.alloc HB5.out.size (.cells #[.int .i64 s1] 3)); have HS5L := Lib.hid (HSR1.out _ HB5L.out); have o5 := HOC.out w5 HB5.out; have o5L := HOC.out _ HB5L.out; clear hb9)
            go_wp2_with fail
            refine hK.out _ _ ?sh6_1 (fun hHeld => ?re6_1)
            case sh6_1 => ((try dsimp only); (first | exact HS0.out | exact HS5.out | exact HS5L.out | exact HS9.out | exact ⟨ky_set HS9.out.1 hFO, ky_set HS9.out.2 hXO⟩ | go_keep))
            clear hK K
            (try simp only [Act.put]); (try simp only [List.setIfInBounds_toArray]); (try simp only [List.set_cons_succ]); (try simp only [List.set_cons_zero])
            refine wpAnyH_ready (rs := [1, 7]) (by kernel_rfl) (by simp) ?_
            refine AllReadyH.cons (o := _) rfl (fun K hK => ?st13_0) ?mo13_0
            case st13_0 =>
              go_simp
              refine hK.out _ _ ?sh13_0 (fun hHeld => ?re13_0)
              case sh13_0 => ((try dsimp only); (first | exact HS0.out | exact HS5.out | exact HS5L.out | exact HS9.out | exact ⟨ky_set HS9.out.1 hFO, ky_set HS9.out.2 hXO⟩ | go_keep))
              clear hK K
              (try simp only [Act.put]); (try simp only [List.setIfInBounds_toArray]); (try simp only [List.set_cons_succ]); (try simp only [List.set_cons_zero])
              refine wpAnyH_ready (rs := [7]) (by kernel_rfl) (by simp) ?_
              refine AllReadyH.cons (o := _) rfl (fun K hK => ?st14_0) ?mo14_0
              case st14_0 =>
                go_simp
                refine hK.out _ _ ?sh14_0 (fun hHeld => ?re14_0)
                case sh14_0 => ((try dsimp only); (first | exact HS0.out | exact HS5.out | exact HS5L.out | exact HS9.out | exact ⟨ky_set HS9.out.1 hFO, ky_set HS9.out.2 hXO⟩ | go_keep))
                clear hK K
                (try simp only [Act.put]); (try simp only [List.setIfInBounds_toArray]); (try simp only [List.set_cons_succ]); (try simp only [List.set_cons_zero])
                refine wpAnyH_ready (rs := [8]) (by kernel_rfl) (by simp) ?_
                refine AllReadyH.cons (o := _) rfl (fun K hK => ?st15_0) ?mo15_0
                case st15_0 =>
                  (refine step_append_int1_at _ (by rfl) (.tmp 63) _ 22 (by rfl) w4.heap.size 3 Try.underlying22 iinfo vc1 (CB0 ++ pw P x j) (by rfl) (by first | exact (HKQ1.out.below HB5L.out).two.1 | exact (HKQ1.out.below HB5L.out.drew).two.1) s1 w5.heap.size (by rfl) (by exact cells_new w5 [.int .i64 s1] 3 0 _ rfl) (by rw [List.length_append]; have := (show (pw P x j).length = j by simp [pw]); omega) (by have := HB5L.out.size; have := hzr1; first | omega | (simp at *; omega)) ?_; intro g9 cap9 w9 hown9 hg9 hat9; obtain ⟨o9, fo9⟩ := ky_cells (HKQ1.out.below (by first | exact HB5L.out | exact HB5L.out.drew)) hg9; have HS9 := Lib.hid (And.intro (hg9.cell (a := ⟨F, 0, none⟩) HS5L.out.1 (fun e => by have := (HKQ1.out.two.1.lt F e.symm).1; omega)) (hg9.cell (a := ⟨X, 0, none⟩) HS5L.out.2 (fun e => HKQ1.out.nc e.symm))); have HST := Lib.hid (ky_step hjt (by rw [HS1.out]; exact pw_snoc P x j) HKQ1.out HGR1.out HX3.out hXO (by first | exact HB5L.out | exact HB5L.out.drew) hg9 hown9 hat9); clear hown9 hg9 hat9)
                  refine hK.out _ _ ?sh15_0 (fun hHeld => ?re15_0)
                  case sh15_0 => ((try dsimp only); (first | exact HS0.out | exact HS5.out | exact HS5L.out | exact HS9.out | exact ⟨ky_set HS9.out.1 hFO, ky_set HS9.out.2 hXO⟩ | go_keep))
                  clear hK K
                  (try simp only [Act.put]); (try simp only [List.setIfInBounds_toArray]); (try simp only [List.set_cons_succ]); (try simp only [List.set_cons_zero])
                  refine wpAnyH_take (i := 9) (oi := _) (v := ?v16) rfl (by kernel_rfl) (by kernel_rfl) (by kernel_rfl) (fun _ _ _ h => h) (Or.inl ⟨by rfl, ?hy16⟩) (by assumption) ?rs16
                  case hy16 => (intro w hSw; (try dsimp only at hSw); go_simp; all_goals with_reducible rfl)
                  (try simp only [Act.put]); (try simp only [List.setIfInBounds_toArray]); (try simp only [List.set_cons_succ]); (try simp only [List.set_cons_zero])
                  refine wpAnyH_ready (rs := [10]) (by kernel_rfl) (by simp) ?_
                  refine AllReadyH.cons (o := _) rfl (fun K hK => ?st17_0) ?mo17_0
                  case st17_0 =>
                    go_simp
                    refine hK.out _ _ ?sh17_0 (fun hHeld => ?re17_0)
                    case sh17_0 => ((try dsimp only); (first | exact HS0.out | exact HS5.out | exact HS5L.out | exact HS9.out | exact ⟨ky_set HS9.out.1 hFO, ky_set HS9.out.2 hXO⟩ | go_keep))
                    clear hK K
                    (try simp only [Act.put]); (try simp only [List.setIfInBounds_toArray]); (try simp only [List.set_cons_succ]); (try simp only [List.set_cons_zero])
                    refine wpAnyH_done (by kernel_rfl) ?_ _
                    refine NoPanic.normal ?_
                    go_wp2_with fail
                    go_roundw
                    case rel => simpa [uj, Nat.add_assoc] using HST.out
                    case measure => simp [intOf]; omega
                  exact AllReadyH.nil
                exact AllReadyH.nil
              exact AllReadyH.nil
            refine AllReadyH.cons (o := _) rfl (fun K hK => ?st13_1) ?mo13_1
            case st13_1 =>
              go_simp
              refine hK.out _ _ ?sh13_1 (fun hHeld => ?re13_1)
              case sh13_1 => ((try dsimp only); (first | exact HS0.out | exact HS5.out | exact HS5L.out | exact HS9.out | exact ⟨ky_set HS9.out.1 hFO, ky_set HS9.out.2 hXO⟩ | go_keep))
              clear hK K
              (try simp only [Act.put]); (try simp only [List.setIfInBounds_toArray]); (try simp only [List.set_cons_succ]); (try simp only [List.set_cons_zero])
              refine wpAnyH_ready (rs := [1]) (by kernel_rfl) (by simp) ?_
              refine AllReadyH.cons (o := _) rfl (fun K hK => ?st19_0) ?mo19_0
              case st19_0 =>
                go_simp
                refine hK.out _ _ ?sh19_0 (fun hHeld => ?re19_0)
                case sh19_0 => ((try dsimp only); (first | exact HS0.out | exact HS5.out | exact HS5L.out | exact HS9.out | exact ⟨ky_set HS9.out.1 hFO, ky_set HS9.out.2 hXO⟩ | go_keep))
                clear hK K
                (try simp only [Act.put]); (try simp only [List.setIfInBounds_toArray]); (try simp only [List.set_cons_succ]); (try simp only [List.set_cons_zero])
                refine wpAnyH_ready (rs := [8]) (by kernel_rfl) (by simp) ?_
                refine AllReadyH.cons (o := _) rfl (fun K hK => ?st20_0) ?mo20_0
                case st20_0 =>
                  (refine step_append_int1_at _ (by rfl) (.tmp 63) _ 22 (by rfl) w4.heap.size 3 Try.underlying22 iinfo vc1 (CB0 ++ pw P x j) (by rfl) (by first | exact (HKQ1.out.below HB5L.out).two.1 | exact (HKQ1.out.below HB5L.out.drew).two.1) s1 w5.heap.size (by rfl) (by exact cells_new w5 [.int .i64 s1] 3 0 _ rfl) (by rw [List.length_append]; have := (show (pw P x j).length = j by simp [pw]); omega) (by have := HB5L.out.size; have := hzr1; first | omega | (simp at *; omega)) ?_; intro g9 cap9 w9 hown9 hg9 hat9; obtain ⟨o9, fo9⟩ := ky_cells (HKQ1.out.below (by first | exact HB5L.out | exact HB5L.out.drew)) hg9; have HS9 := Lib.hid (And.intro (hg9.cell (a := ⟨F, 0, none⟩) HS5L.out.1 (fun e => by have := (HKQ1.out.two.1.lt F e.symm).1; omega)) (hg9.cell (a := ⟨X, 0, none⟩) HS5L.out.2 (fun e => HKQ1.out.nc e.symm))); have HST := Lib.hid (ky_step hjt (by rw [HS1.out]; exact pw_snoc P x j) HKQ1.out HGR1.out HX3.out hXO (by first | exact HB5L.out | exact HB5L.out.drew) hg9 hown9 hat9); clear hown9 hg9 hat9)
                  refine hK.out _ _ ?sh20_0 (fun hHeld => ?re20_0)
                  case sh20_0 => ((try dsimp only); (first | exact HS0.out | exact HS5.out | exact HS5L.out | exact HS9.out | exact ⟨ky_set HS9.out.1 hFO, ky_set HS9.out.2 hXO⟩ | go_keep))
                  clear hK K
                  (try simp only [Act.put]); (try simp only [List.setIfInBounds_toArray]); (try simp only [List.set_cons_succ]); (try simp only [List.set_cons_zero])
                  refine wpAnyH_take (i := 9) (oi := _) (v := ?v21) rfl (by kernel_rfl) (by kernel_rfl) (by kernel_rfl) (fun _ _ _ h => h) (Or.inl ⟨by rfl, ?hy21⟩) (by assumption) ?rs21
                  case hy21 => (intro w hSw; (try dsimp only at hSw); go_simp; all_goals with_reducible rfl)
                  (try simp only [Act.put]); (try simp only [List.setIfInBounds_toArray]); (try simp only [List.set_cons_succ]); (try simp only [List.set_cons_zero])
                  refine wpAnyH_ready (rs := [10]) (by kernel_rfl) (by simp) ?_
                  refine AllReadyH.cons (o := _) rfl (fun K hK => ?st22_0) ?mo22_0
                  case st22_0 =>
                    go_simp
                    refine hK.out _ _ ?sh22_0 (fun hHeld => ?re22_0)
                    case sh22_0 => ((try dsimp only); (first | exact HS0.out | exact HS5.out | exact HS5L.out | exact HS9.out | exact ⟨ky_set HS9.out.1 hFO, ky_set HS9.out.2 hXO⟩ | go_keep))
                    clear hK K
                    (try simp only [Act.put]); (try simp only [List.setIfInBounds_toArray]); (try simp only [List.set_cons_succ]); (try simp only [List.set_cons_zero])
                    refine wpAnyH_done (by kernel_rfl) ?_ _
                    refine NoPanic.normal ?_
                    go_wp2_with fail
                    go_roundw
                    case rel => simpa [uj, Nat.add_assoc] using HST.out
                    case measure => simp [intOf]; omega
                  exact AllReadyH.nil
                exact AllReadyH.nil
              exact AllReadyH.nil
            exact AllReadyH.nil
          exact AllReadyH.nil
        · have dj : decide ((j : Int) < (k : Int) + (e : Int)) = false := decide_eq_false (by omega)
          obtain rfl : j = k + e := by omega
          obtain ⟨CB1, eCB1⟩ : ∃ CB1, CB1 = CB0 ++ pw P x (k + e) := ⟨_, rfl⟩
          rw [← eCB1] at HKQ1
          have hCB1 : CB1.length ≤ 2032 := by rw [eCB1, List.length_append]; have := (show (pw P x (k + e)).length = k + e by simp [pw]); omega
          have HCB1 := Lib.hid eCB1
          clear eCB1
          go_wp2_with fail
          obtain ⟨wv, rfl⟩ : ∃ wv : World, wv = wr := ⟨_, rfl⟩
          go_loopw [15] (fun tv wr => Ky2 P C ((i : Int) + 1) (fun t => ngl P y (pw P x t)) e CB1 RL0 O X #[.int .i64 x, .int .i64 y] w4 tv wr) (fun tv _ => e - (intOf tv).toNat)
          case atStart => exact ⟨0, vc1, vr1, Nat.zero_le _, rfl, by simpa [pw, ngl] using HKQ1.out, HGR1.out, HX3.out⟩
          case round =>
            obtain ⟨t, vc2, vr2, ht, rfl, hkq, hgr, hX3⟩ := hrel
            have HKQ2 := Lib.hid hkq
            have HGR2 := Lib.hid hgr
            have HX4 := Lib.hid hX3
            have hzr2 : w4.heap.size ≤ wr.heap.size := hgr.size
            have HSR2 : Hid (∀ W, Below wr.heap.size wr W → W.cell? ⟨F, 0, none⟩ = some (.int .i64 P) ∧ W.cell? ⟨X, 0, none⟩ = some (.int .i64 x) ∧ W.cell? ⟨X, 1, none⟩ = some (.int .i64 y)) := (show Hid _ from fun W hW =>
              ⟨(HXC.out W ((HGW.out wr HGR2.out).trans (hW.mono (HGW.out wr HGR2.out).size))).1, (hW.cell (p := ⟨X, 0, none⟩) (heap_of_cells HX4.out)).trans (cell_of_row wr X 0 _ _ _ HX4.out), (hW.cell (p := ⟨X, 1, none⟩) (heap_of_cells HX4.out)).trans (cell_of_row wr X 1 _ _ _ HX4.out)⟩)
            clear hkq hgr hX3
            have ut : IntKind.i64.wrap ((t : Int) + 1) = (t : Int) + 1 := by exact IntWalk.i64_in _ (by omega)
            have hP0 : ¬ P = 0 := by omega
            have HS0 := Lib.hid (HSR2.out wr (Below.refl _ _))
            by_cases hte : t < e
            · have dt : decide ((t : Int) < (e : Int)) = true := decide_eq_true (by omega)
              have dtn : decide (t < e) = true := decide_eq_true hte
              have HOC : Hid (∀ W, Below wr.heap.size wr W → W.cell? ⟨O, 3, none⟩ = some vc2) := (show Hid _ from fun W hW => (HKQ2.out.below hW).cells.2.1)
              have o0 := HOC.out wr (Below.refl _ _)
              obtain ⟨s1, es1⟩ : ∃ s1, s1 = x ^ t % P := ⟨_, rfl⟩
              have hs1 : 0 ≤ s1 ∧ s1 < P := by rw [es1]; exact ⟨Int.emod_nonneg _ (by omega), Int.emod_lt_of_pos _ (by omega)⟩
              have HS1 := Lib.hid es1
              have hxy := mul_bd' (show 0 ≤ P - y ∧ P - y ≤ P by omega) hs1 hP.2
              have u1 : IntKind.i64.wrap (P - y) = P - y := by exact IntWalk.i64_in _ (by omega)
              have u2 : IntKind.i64.wrap ((P - y) * s1) = (P - y) * s1 := by exact IntWalk.i64_in _ (by omega)
              obtain ⟨s2, es2⟩ : ∃ s2, s2 = (P - y) * s1 % P := ⟨_, rfl⟩
              have u3 : ((P - y) * s1).tmod P = s2 := by rw [es2]; exact Int.tmod_eq_emod_of_nonneg (by omega)
              have hs2 : 0 ≤ s2 ∧ s2 < P := by rw [es2]; exact ⟨Int.emod_nonneg _ (by omega), Int.emod_lt_of_pos _ (by omega)⟩
              have u4 : IntKind.i64.wrap s2 = s2 := by exact IntWalk.i64_in _ (by omega)
              have HF2 : Hid (ngl P y (pw P x (t + 1)) = ngl P y (pw P x t) ++ [s2]) := (show Hid _ from by show _ = _; rw [pw_snoc, ngl_snoc, es2, ngl_ref, es1])
              clear es1 es2
              go_upto_region 18 with fail
              refine wp_region_noPanic ?_
              refine wp_region_held_drew (S := fun w' => w'.cell? ⟨F, 0, none⟩ = some (.int .i64 P) ∧ w'.cell? ⟨X, 0, none⟩ = some (.int .i64 x) ∧ w'.cell? ⟨X, 1, none⟩ = some (.int .i64 y)) (by kernel_rfl) ?hs2 (fun hHeld => ?_)
              case hs2 => ((try dsimp only); (first | exact HS0.out | exact HS5.out | exact HS5L.out | exact HS9.out | exact ⟨ky_set HS9.out.1 hFO, ky_set HS9.out.2.1 hXO, ky_set HS9.out.2.2 hXO⟩ | go_keep))
              (try simp only [Act.put]); (try simp only [List.setIfInBounds_toArray]); (try simp only [List.set_cons_succ]); (try simp only [List.set_cons_zero])
              refine wpAnyH_take (i := 0) (oi := _) (v := ?v24) rfl (by kernel_rfl) (by kernel_rfl) (by kernel_rfl) (fun _ _ _ h => h) (Or.inl ⟨by rfl, ?hy24⟩) (by assumption) ?rs24
              case hy24 => (intro w hSw; (try dsimp only at hSw); go_simp; all_goals with_reducible rfl)
              (try simp only [Act.put]); (try simp only [List.setIfInBounds_toArray]); (try simp only [List.set_cons_succ]); (try simp only [List.set_cons_zero])
              refine wpAnyH_take (i := 2) (oi := _) (v := ?v25) rfl (by kernel_rfl) (by kernel_rfl) (by kernel_rfl) (fun _ _ _ h => h) (Or.inl ⟨by rfl, ?hy25⟩) (by assumption) ?rs25
              case hy25 => (intro w hSw; (try dsimp only at hSw); go_simp; all_goals with_reducible rfl)
              (try simp only [Act.put]); (try simp only [List.setIfInBounds_toArray]); (try simp only [List.set_cons_succ]); (try simp only [List.set_cons_zero])
              refine wpAnyH_take (i := 3) (oi := _) (v := ?v26) rfl (by kernel_rfl) (by kernel_rfl) (by kernel_rfl) (fun _ _ _ h => h) (Or.inl ⟨by rfl, ?hy26⟩) (by assumption) ?rs26
              case hy26 => (intro w hSw; (try dsimp only at hSw); go_simp; all_goals with_reducible rfl)
              (try simp only [Act.put]); (try simp only [List.setIfInBounds_toArray]); (try simp only [List.set_cons_succ]); (try simp only [List.set_cons_zero])
              refine wpAnyH_take (i := 4) (oi := _) (v := ?v27) rfl (by kernel_rfl) (by kernel_rfl) (by kernel_rfl) (fun _ _ _ h => h) (Or.inl ⟨by rfl, ?hy27⟩) (by assumption) ?rs27
              case hy27 => (intro w hSw; (try dsimp only at hSw); go_simp; all_goals with_reducible rfl)
              (try simp only [Act.put]); (try simp only [List.setIfInBounds_toArray]); (try simp only [List.set_cons_succ]); (try simp only [List.set_cons_zero])
              refine wpAnyH_take (i := 5) (oi := _) (v := ?v28) rfl (by kernel_rfl) (by kernel_rfl) (by kernel_rfl) (fun _ _ _ h => h) (Or.inl ⟨by rfl, ?hy28⟩) (by assumption) ?rs28
              case hy28 => (intro w hSw; (try dsimp only at hSw); go_simp; all_goals with_reducible rfl)
              (try simp only [Act.put]); (try simp only [List.setIfInBounds_toArray]); (try simp only [List.set_cons_succ]); (try simp only [List.set_cons_zero])
              refine wpAnyH_take (i := 6) (oi := _) (v := ?v29) rfl (by kernel_rfl) (by kernel_rfl) (by kernel_rfl) (fun _ _ _ h => h) (Or.inl ⟨by rfl, ?hy29⟩) (by assumption) ?rs29
              case hy29 => (intro w hSw; (try dsimp only at hSw); go_simp; all_goals with_reducible rfl)
              (try simp only [Act.put]); (try simp only [List.setIfInBounds_toArray]); (try simp only [List.set_cons_succ]); (try simp only [List.set_cons_zero])
              refine wpAnyH_take (i := 7) (oi := _) (v := ?v30) rfl (by kernel_rfl) (by kernel_rfl) (by kernel_rfl) (fun _ _ _ h => h) (Or.inl ⟨by rfl, ?hy30⟩) (by assumption) ?rs30
              case hy30 => (intro w hSw; (try dsimp only at hSw); go_simp; all_goals with_reducible rfl)
              (try simp only [Act.put]); (try simp only [List.setIfInBounds_toArray]); (try simp only [List.set_cons_succ]); (try simp only [List.set_cons_zero])
              refine wpAnyH_take (i := 8) (oi := _) (v := ?v31) rfl (by kernel_rfl) (by kernel_rfl) (by kernel_rfl) (fun _ _ _ h => h) (Or.inl ⟨by rfl, ?hy31⟩) (by assumption) ?rs31
              case hy31 => (intro w hSw; (try dsimp only at hSw); go_simp; all_goals with_reducible rfl)
              (try simp only [Act.put]); (try simp only [List.setIfInBounds_toArray]); (try simp only [List.set_cons_succ]); (try simp only [List.set_cons_zero])
              refine wpAnyH_take (i := 9) (oi := _) (v := ?v32) rfl (by kernel_rfl) (by kernel_rfl) (by kernel_rfl) (fun _ _ _ h => h) (Or.inl ⟨by rfl, ?hy32⟩) (by assumption) ?rs32
              case hy32 => (intro w hSw; (try dsimp only at hSw); go_simp; all_goals with_reducible rfl)
              (try simp only [Act.put]); (try simp only [List.setIfInBounds_toArray]); (try simp only [List.set_cons_succ]); (try simp only [List.set_cons_zero])
              refine wpAnyH_take (i := 10) (oi := _) (v := ?v33) rfl (by kernel_rfl) (by kernel_rfl) (by kernel_rfl) (fun _ _ _ h => h) (Or.inl ⟨by rfl, ?hy33⟩) (by assumption) ?rs33
              case hy33 => (intro w hSw; (try dsimp only at hSw); go_simp; all_goals with_reducible rfl)
              (try simp only [Act.put]); (try simp only [List.setIfInBounds_toArray]); (try simp only [List.set_cons_succ]); (try simp only [List.set_cons_zero])
              refine wpAnyH_take (i := 13) (oi := _) (v := ?v34) rfl (by kernel_rfl) (by kernel_rfl) (by kernel_rfl) (fun _ _ _ h => h) (Or.inl ⟨by rfl, ?hy34⟩) (by assumption) ?rs34
              case hy34 => (intro w hSw; (try dsimp only at hSw); go_simp; all_goals with_reducible rfl)
              (try simp only [Act.put]); (try simp only [List.setIfInBounds_toArray]); (try simp only [List.set_cons_succ]); (try simp only [List.set_cons_zero])
              refine wpAnyH_take (i := 14) (oi := _) (v := ?v35) rfl (by kernel_rfl) (by kernel_rfl) (by kernel_rfl) (fun _ _ _ h => h) (Or.inl ⟨by rfl, ?hy35⟩) (by assumption) ?rs35
              case hy35 => (intro w hSw; (try dsimp only at hSw); go_simp; all_goals with_reducible rfl)
              (try simp only [Act.put]); (try simp only [List.setIfInBounds_toArray]); (try simp only [List.set_cons_succ]); (try simp only [List.set_cons_zero])
              refine wpAnyH_ready (rs := [1, 11]) (by kernel_rfl) (by simp) ?_
              refine AllReadyH.cons (o := _) rfl (fun K hK => ?st36_0) ?mo36_0
              case st36_0 =>
                go_simp
                refine hK.out _ _ ?sh36_0 (fun hHeld => ?re36_0)
                case sh36_0 => ((try dsimp only); (first | exact HS0.out | exact HS5.out | exact HS5L.out | exact HS9.out | exact ⟨ky_set HS9.out.1 hFO, ky_set HS9.out.2.1 hXO, ky_set HS9.out.2.2 hXO⟩ | go_keep))
                clear hK K
                (try simp only [Act.put]); (try simp only [List.setIfInBounds_toArray]); (try simp only [List.set_cons_succ]); (try simp only [List.set_cons_zero])
                refine wpAnyH_ready (rs := [11]) (by kernel_rfl) (by simp) ?_
                refine AllReadyH.cons (o := _) rfl (fun K hK => ?st37_0) ?mo37_0
                case st37_0 =>
                  (go_simp; go_at_call 60; refine (rpowG_any P x t _ hP hx (by omega)).mono ?_; rintro e9 w5 ⟨rfl, hb9⟩; rw [← HS1.out]; have HB5 : Hid (Below wr.heap.size wr w5) := (show Hid _ from ⟨hb9.os, hb9.tape, hb9.output, hb9.size, hb9.block⟩); have HS5 := Lib.hid (HSR2.out w5 HB5.out); have HB5L := Lib.hid (HB5.out.alloc HB5.out.size (.cells #[.int .i64 s2] 3)); have HS5L := Lib.hid (HSR2.out _ HB5L.out); have o5 := HOC.out w5 HB5.out; have o5L := HOC.out _ HB5L.out; clear hb9)
                  go_wp2_with fail
                  refine hK.out _ _ ?sh37_0 (fun hHeld => ?re37_0)
                  case sh37_0 => ((try dsimp only); (first | exact HS0.out | exact HS5.out | exact HS5L.out | exact HS9.out | exact ⟨ky_set HS9.out.1 hFO, ky_set HS9.out.2.1 hXO, ky_set HS9.out.2.2 hXO⟩ | go_keep))
                  clear hK K
                  (try simp only [Act.put]); (try simp only [List.setIfInBounds_toArray]); (try simp only [List.set_cons_succ]); (try simp only [List.set_cons_zero])
                  refine wpAnyH_take (i := 12) (oi := _) (v := ?v38) rfl (by kernel_rfl) (by kernel_rfl) (by kernel_rfl) (fun _ _ _ h => h) (Or.inl ⟨by rfl, ?hy38⟩) (by assumption) ?rs38
                  case hy38 => (intro w hSw; (try dsimp only at hSw); go_simp; all_goals with_reducible rfl)
                  (try simp only [Act.put]); (try simp only [List.setIfInBounds_toArray]); (try simp only [List.set_cons_succ]); (try simp only [List.set_cons_zero])
                  refine wpAnyH_take (i := 15) (oi := _) (v := ?v39) rfl (by kernel_rfl) (by kernel_rfl) (by kernel_rfl) (fun _ _ _ h => h) (Or.inl ⟨by rfl, ?hy39⟩) (by assumption) ?rs39
                  case hy39 => (intro w hSw; (try dsimp only at hSw); go_simp; all_goals with_reducible rfl)
                  (try simp only [Act.put]); (try simp only [List.setIfInBounds_toArray]); (try simp only [List.set_cons_succ]); (try simp only [List.set_cons_zero])
                  refine wpAnyH_ready (rs := [16]) (by kernel_rfl) (by simp) ?_
                  refine AllReadyH.cons (o := _) rfl (fun K hK => ?st40_0) ?mo40_0
                  case st40_0 =>
                    go_simp
                    refine hK.out _ _ ?sh40_0 (fun hHeld => ?re40_0)
                    case sh40_0 => ((try dsimp only); (first | exact HS0.out | exact HS5.out | exact HS5L.out | exact HS9.out | exact ⟨ky_set HS9.out.1 hFO, ky_set HS9.out.2.1 hXO, ky_set HS9.out.2.2 hXO⟩ | go_keep))
                    clear hK K
                    (try simp only [Act.put]); (try simp only [List.setIfInBounds_toArray]); (try simp only [List.set_cons_succ]); (try simp only [List.set_cons_zero])
                    refine wpAnyH_ready (rs := [17]) (by kernel_rfl) (by simp) ?_
                    refine AllReadyH.cons (o := _) rfl (fun K hK => ?st41_0) ?mo41_0
                    case st41_0 =>
                      (refine step_append_int1_at _ (by rfl) (.tmp 78) _ 22 (by rfl) w4.heap.size 3 Try.underlying22 iinfo vc2 (CB1 ++ ngl P y (pw P x t)) (by rfl) (by first | exact (HKQ2.out.below HB5L.out).two.1 | exact (HKQ2.out.below HB5L.out.drew).two.1) s2 w5.heap.size (by rfl) (by exact cells_new w5 [.int .i64 s2] 3 0 _ rfl) (by rw [List.length_append]; have := (show (ngl P y (pw P x t)).length = t by simp [pw, ngl]); omega) (by have := HB5L.out.size; have := hzr2; first | omega | (simp at *; omega)) ?_; intro g9 cap9 w9 hown9 hg9 hat9; obtain ⟨o9, fo9⟩ := ky_cells (HKQ2.out.below (by first | exact HB5L.out | exact HB5L.out.drew)) hg9; have HS9 := Lib.hid (And.intro (hg9.cell (a := ⟨F, 0, none⟩) HS5L.out.1 (fun e => by have := (HKQ2.out.two.1.lt F e.symm).1; omega)) (And.intro (hg9.cell (a := ⟨X, 0, none⟩) HS5L.out.2.1 (fun e => HKQ2.out.nc e.symm)) (hg9.cell (a := ⟨X, 1, none⟩) HS5L.out.2.2 (fun e => HKQ2.out.nc e.symm)))); have HST := Lib.hid (ky_step (f := fun t => ngl P y (pw P x t)) hte HF2.out HKQ2.out HGR2.out HX4.out hXO (by first | exact HB5L.out | exact HB5L.out.drew) hg9 hown9 hat9); clear hown9 hg9 hat9)
                      refine hK.out _ _ ?sh41_0 (fun hHeld => ?re41_0)
                      case sh41_0 => ((try dsimp only); (first | exact HS0.out | exact HS5.out | exact HS5L.out | exact HS9.out | exact ⟨ky_set HS9.out.1 hFO, ky_set HS9.out.2.1 hXO, ky_set HS9.out.2.2 hXO⟩ | go_keep))
                      clear hK K
                      (try simp only [Act.put]); (try simp only [List.setIfInBounds_toArray]); (try simp only [List.set_cons_succ]); (try simp only [List.set_cons_zero])
                      refine wpAnyH_take (i := 18) (oi := _) (v := ?v42) rfl (by kernel_rfl) (by kernel_rfl) (by kernel_rfl) (fun _ _ _ h => h) (Or.inl ⟨by rfl, ?hy42⟩) (by assumption) ?rs42
                      case hy42 => (intro w hSw; (try dsimp only at hSw); go_simp; all_goals with_reducible rfl)
                      (try simp only [Act.put]); (try simp only [List.setIfInBounds_toArray]); (try simp only [List.set_cons_succ]); (try simp only [List.set_cons_zero])
                      refine wpAnyH_ready (rs := [19]) (by kernel_rfl) (by simp) ?_
                      refine AllReadyH.cons (o := _) rfl (fun K hK => ?st43_0) ?mo43_0
                      case st43_0 =>
                        go_simp
                        refine hK.out _ _ ?sh43_0 (fun hHeld => ?re43_0)
                        case sh43_0 => ((try dsimp only); (first | exact HS0.out | exact HS5.out | exact HS5L.out | exact HS9.out | exact ⟨ky_set HS9.out.1 hFO, ky_set HS9.out.2.1 hXO, ky_set HS9.out.2.2 hXO⟩ | go_keep))
                        clear hK K
                        (try simp only [Act.put]); (try simp only [List.setIfInBounds_toArray]); (try simp only [List.set_cons_succ]); (try simp only [List.set_cons_zero])
                        refine wpAnyH_done (by kernel_rfl) ?_ _
                        refine NoPanic.normal ?_
                        go_wp2_with fail
                        go_roundw
                        case rel => simpa [ut, Nat.add_assoc] using HST.out
                        case measure => simp [intOf]; omega
                      exact AllReadyH.nil
                    exact AllReadyH.nil
                  exact AllReadyH.nil
                exact AllReadyH.nil
              refine AllReadyH.cons (o := _) rfl (fun K hK => ?st36_1) ?mo36_1
              case st36_1 =>
                (go_simp; go_at_call 60; refine (rpowG_any P x t _ hP hx (by omega)).mono ?_; rintro e9 w5 ⟨rfl, hb9⟩; rw [← HS1.out]; have HB5 : Hid (Below wr.heap.size wr w5) := (show Hid _ from ⟨hb9.os, hb9.tape, hb9.output, hb9.size, hb9.block⟩); have HS5 := Lib.hid (HSR2.out w5 HB5.out); have HB5L := Lib.hid (HB5.out.alloc HB5.out.size (.cells #[.int .i64 s2] 3)); have HS5L := Lib.hid (HSR2.out _ HB5L.out); have o5 := HOC.out w5 HB5.out; have o5L := HOC.out _ HB5L.out; clear hb9)
                go_wp2_with fail
                refine hK.out _ _ ?sh36_1 (fun hHeld => ?re36_1)
                case sh36_1 => ((try dsimp only); (first | exact HS0.out | exact HS5.out | exact HS5L.out | exact HS9.out | exact ⟨ky_set HS9.out.1 hFO, ky_set HS9.out.2.1 hXO, ky_set HS9.out.2.2 hXO⟩ | go_keep))
                clear hK K
                (try simp only [Act.put]); (try simp only [List.setIfInBounds_toArray]); (try simp only [List.set_cons_succ]); (try simp only [List.set_cons_zero])
                refine wpAnyH_take (i := 12) (oi := _) (v := ?v45) rfl (by kernel_rfl) (by kernel_rfl) (by kernel_rfl) (fun _ _ _ h => h) (Or.inl ⟨by rfl, ?hy45⟩) (by assumption) ?rs45
                case hy45 => (intro w hSw; (try dsimp only at hSw); go_simp; all_goals with_reducible rfl)
                (try simp only [Act.put]); (try simp only [List.setIfInBounds_toArray]); (try simp only [List.set_cons_succ]); (try simp only [List.set_cons_zero])
                refine wpAnyH_take (i := 15) (oi := _) (v := ?v46) rfl (by kernel_rfl) (by kernel_rfl) (by kernel_rfl) (fun _ _ _ h => h) (Or.inl ⟨by rfl, ?hy46⟩) (by assumption) ?rs46
                case hy46 => (intro w hSw; (try dsimp only at hSw); go_simp; all_goals with_reducible rfl)
                (try simp only [Act.put]); (try simp only [List.setIfInBounds_toArray]); (try simp only [List.set_cons_succ]); (try simp only [List.set_cons_zero])
                refine wpAnyH_ready (rs := [1, 16]) (by kernel_rfl) (by simp) ?_
                refine AllReadyH.cons (o := _) rfl (fun K hK => ?st47_0) ?mo47_0
                case st47_0 =>
                  go_simp
                  refine hK.out _ _ ?sh47_0 (fun hHeld => ?re47_0)
                  case sh47_0 => ((try dsimp only); (first | exact HS0.out | exact HS5.out | exact HS5L.out | exact HS9.out | exact ⟨ky_set HS9.out.1 hFO, ky_set HS9.out.2.1 hXO, ky_set HS9.out.2.2 hXO⟩ | go_keep))
                  clear hK K
                  (try simp only [Act.put]); (try simp only [List.setIfInBounds_toArray]); (try simp only [List.set_cons_succ]); (try simp only [List.set_cons_zero])
                  refine wpAnyH_ready (rs := [16]) (by kernel_rfl) (by simp) ?_
                  refine AllReadyH.cons (o := _) rfl (fun K hK => ?st48_0) ?mo48_0
                  case st48_0 =>
                    go_simp
                    refine hK.out _ _ ?sh48_0 (fun hHeld => ?re48_0)
                    case sh48_0 => ((try dsimp only); (first | exact HS0.out | exact HS5.out | exact HS5L.out | exact HS9.out | exact ⟨ky_set HS9.out.1 hFO, ky_set HS9.out.2.1 hXO, ky_set HS9.out.2.2 hXO⟩ | go_keep))
                    clear hK K
                    (try simp only [Act.put]); (try simp only [List.setIfInBounds_toArray]); (try simp only [List.set_cons_succ]); (try simp only [List.set_cons_zero])
                    refine wpAnyH_ready (rs := [17]) (by kernel_rfl) (by simp) ?_
                    refine AllReadyH.cons (o := _) rfl (fun K hK => ?st49_0) ?mo49_0
                    case st49_0 =>
                      (refine step_append_int1_at _ (by rfl) (.tmp 78) _ 22 (by rfl) w4.heap.size 3 Try.underlying22 iinfo vc2 (CB1 ++ ngl P y (pw P x t)) (by rfl) (by first | exact (HKQ2.out.below HB5L.out).two.1 | exact (HKQ2.out.below HB5L.out.drew).two.1) s2 w5.heap.size (by rfl) (by exact cells_new w5 [.int .i64 s2] 3 0 _ rfl) (by rw [List.length_append]; have := (show (ngl P y (pw P x t)).length = t by simp [pw, ngl]); omega) (by have := HB5L.out.size; have := hzr2; first | omega | (simp at *; omega)) ?_; intro g9 cap9 w9 hown9 hg9 hat9; obtain ⟨o9, fo9⟩ := ky_cells (HKQ2.out.below (by first | exact HB5L.out | exact HB5L.out.drew)) hg9; have HS9 := Lib.hid (And.intro (hg9.cell (a := ⟨F, 0, none⟩) HS5L.out.1 (fun e => by have := (HKQ2.out.two.1.lt F e.symm).1; omega)) (And.intro (hg9.cell (a := ⟨X, 0, none⟩) HS5L.out.2.1 (fun e => HKQ2.out.nc e.symm)) (hg9.cell (a := ⟨X, 1, none⟩) HS5L.out.2.2 (fun e => HKQ2.out.nc e.symm)))); have HST := Lib.hid (ky_step (f := fun t => ngl P y (pw P x t)) hte HF2.out HKQ2.out HGR2.out HX4.out hXO (by first | exact HB5L.out | exact HB5L.out.drew) hg9 hown9 hat9); clear hown9 hg9 hat9)
                      refine hK.out _ _ ?sh49_0 (fun hHeld => ?re49_0)
                      case sh49_0 => ((try dsimp only); (first | exact HS0.out | exact HS5.out | exact HS5L.out | exact HS9.out | exact ⟨ky_set HS9.out.1 hFO, ky_set HS9.out.2.1 hXO, ky_set HS9.out.2.2 hXO⟩ | go_keep))
                      clear hK K
                      (try simp only [Act.put]); (try simp only [List.setIfInBounds_toArray]); (try simp only [List.set_cons_succ]); (try simp only [List.set_cons_zero])
                      refine wpAnyH_take (i := 18) (oi := _) (v := ?v50) rfl (by kernel_rfl) (by kernel_rfl) (by kernel_rfl) (fun _ _ _ h => h) (Or.inl ⟨by rfl, ?hy50⟩) (by assumption) ?rs50
                      case hy50 => (intro w hSw; (try dsimp only at hSw); go_simp; all_goals with_reducible rfl)
                      (try simp only [Act.put]); (try simp only [List.setIfInBounds_toArray]); (try simp only [List.set_cons_succ]); (try simp only [List.set_cons_zero])
                      refine wpAnyH_ready (rs := [19]) (by kernel_rfl) (by simp) ?_
                      refine AllReadyH.cons (o := _) rfl (fun K hK => ?st51_0) ?mo51_0
                      case st51_0 =>
                        go_simp
                        refine hK.out _ _ ?sh51_0 (fun hHeld => ?re51_0)
                        case sh51_0 => ((try dsimp only); (first | exact HS0.out | exact HS5.out | exact HS5L.out | exact HS9.out | exact ⟨ky_set HS9.out.1 hFO, ky_set HS9.out.2.1 hXO, ky_set HS9.out.2.2 hXO⟩ | go_keep))
                        clear hK K
                        (try simp only [Act.put]); (try simp only [List.setIfInBounds_toArray]); (try simp only [List.set_cons_succ]); (try simp only [List.set_cons_zero])
                        refine wpAnyH_done (by kernel_rfl) ?_ _
                        refine NoPanic.normal ?_
                        go_wp2_with fail
                        go_roundw
                        case rel => simpa [ut, Nat.add_assoc] using HST.out
                        case measure => simp [intOf]; omega
                      exact AllReadyH.nil
                    exact AllReadyH.nil
                  exact AllReadyH.nil
                refine AllReadyH.cons (o := _) rfl (fun K hK => ?st47_1) ?mo47_1
                case st47_1 =>
                  go_simp
                  refine hK.out _ _ ?sh47_1 (fun hHeld => ?re47_1)
                  case sh47_1 => ((try dsimp only); (first | exact HS0.out | exact HS5.out | exact HS5L.out | exact HS9.out | exact ⟨ky_set HS9.out.1 hFO, ky_set HS9.out.2.1 hXO, ky_set HS9.out.2.2 hXO⟩ | go_keep))
                  clear hK K
                  (try simp only [Act.put]); (try simp only [List.setIfInBounds_toArray]); (try simp only [List.set_cons_succ]); (try simp only [List.set_cons_zero])
                  refine wpAnyH_ready (rs := [1]) (by kernel_rfl) (by simp) ?_
                  refine AllReadyH.cons (o := _) rfl (fun K hK => ?st53_0) ?mo53_0
                  case st53_0 =>
                    go_simp
                    refine hK.out _ _ ?sh53_0 (fun hHeld => ?re53_0)
                    case sh53_0 => ((try dsimp only); (first | exact HS0.out | exact HS5.out | exact HS5L.out | exact HS9.out | exact ⟨ky_set HS9.out.1 hFO, ky_set HS9.out.2.1 hXO, ky_set HS9.out.2.2 hXO⟩ | go_keep))
                    clear hK K
                    (try simp only [Act.put]); (try simp only [List.setIfInBounds_toArray]); (try simp only [List.set_cons_succ]); (try simp only [List.set_cons_zero])
                    refine wpAnyH_ready (rs := [17]) (by kernel_rfl) (by simp) ?_
                    refine AllReadyH.cons (o := _) rfl (fun K hK => ?st54_0) ?mo54_0
                    case st54_0 =>
                      (refine step_append_int1_at _ (by rfl) (.tmp 78) _ 22 (by rfl) w4.heap.size 3 Try.underlying22 iinfo vc2 (CB1 ++ ngl P y (pw P x t)) (by rfl) (by first | exact (HKQ2.out.below HB5L.out).two.1 | exact (HKQ2.out.below HB5L.out.drew).two.1) s2 w5.heap.size (by rfl) (by exact cells_new w5 [.int .i64 s2] 3 0 _ rfl) (by rw [List.length_append]; have := (show (ngl P y (pw P x t)).length = t by simp [pw, ngl]); omega) (by have := HB5L.out.size; have := hzr2; first | omega | (simp at *; omega)) ?_; intro g9 cap9 w9 hown9 hg9 hat9; obtain ⟨o9, fo9⟩ := ky_cells (HKQ2.out.below (by first | exact HB5L.out | exact HB5L.out.drew)) hg9; have HS9 := Lib.hid (And.intro (hg9.cell (a := ⟨F, 0, none⟩) HS5L.out.1 (fun e => by have := (HKQ2.out.two.1.lt F e.symm).1; omega)) (And.intro (hg9.cell (a := ⟨X, 0, none⟩) HS5L.out.2.1 (fun e => HKQ2.out.nc e.symm)) (hg9.cell (a := ⟨X, 1, none⟩) HS5L.out.2.2 (fun e => HKQ2.out.nc e.symm)))); have HST := Lib.hid (ky_step (f := fun t => ngl P y (pw P x t)) hte HF2.out HKQ2.out HGR2.out HX4.out hXO (by first | exact HB5L.out | exact HB5L.out.drew) hg9 hown9 hat9); clear hown9 hg9 hat9)
                      refine hK.out _ _ ?sh54_0 (fun hHeld => ?re54_0)
                      case sh54_0 => ((try dsimp only); (first | exact HS0.out | exact HS5.out | exact HS5L.out | exact HS9.out | exact ⟨ky_set HS9.out.1 hFO, ky_set HS9.out.2.1 hXO, ky_set HS9.out.2.2 hXO⟩ | go_keep))
                      clear hK K
                      (try simp only [Act.put]); (try simp only [List.setIfInBounds_toArray]); (try simp only [List.set_cons_succ]); (try simp only [List.set_cons_zero])
                      refine wpAnyH_take (i := 18) (oi := _) (v := ?v55) rfl (by kernel_rfl) (by kernel_rfl) (by kernel_rfl) (fun _ _ _ h => h) (Or.inl ⟨by rfl, ?hy55⟩) (by assumption) ?rs55
                      case hy55 => (intro w hSw; (try dsimp only at hSw); go_simp; all_goals with_reducible rfl)
                      (try simp only [Act.put]); (try simp only [List.setIfInBounds_toArray]); (try simp only [List.set_cons_succ]); (try simp only [List.set_cons_zero])
                      refine wpAnyH_ready (rs := [19]) (by kernel_rfl) (by simp) ?_
                      refine AllReadyH.cons (o := _) rfl (fun K hK => ?st56_0) ?mo56_0
                      case st56_0 =>
                        go_simp
                        refine hK.out _ _ ?sh56_0 (fun hHeld => ?re56_0)
                        case sh56_0 => ((try dsimp only); (first | exact HS0.out | exact HS5.out | exact HS5L.out | exact HS9.out | exact ⟨ky_set HS9.out.1 hFO, ky_set HS9.out.2.1 hXO, ky_set HS9.out.2.2 hXO⟩ | go_keep))
                        clear hK K
                        (try simp only [Act.put]); (try simp only [List.setIfInBounds_toArray]); (try simp only [List.set_cons_succ]); (try simp only [List.set_cons_zero])
                        refine wpAnyH_done (by kernel_rfl) ?_ _
                        refine NoPanic.normal ?_
                        go_wp2_with fail
                        go_roundw
                        case rel => simpa [ut, Nat.add_assoc] using HST.out
                        case measure => simp [intOf]; omega
                      exact AllReadyH.nil
                    exact AllReadyH.nil
                  exact AllReadyH.nil
                exact AllReadyH.nil
              exact AllReadyH.nil
            · have dt : decide ((t : Int) < (e : Int)) = false := decide_eq_false (by omega)
              have dtn : decide (t < e) = false := decide_eq_false hte
              have hte2 : t = e := by omega
              have HKQ3 : Hid (KQ O w4.heap.size X P ((i : Int) + 1) C vc2 vr2 ((CB0 ++ pw P x (k + e)) ++ ngl P y (pw P x e)) RL0 wr) := (show Hid _ from by have h9 := HKQ2.out; rw [hte2, HCB1.out] at h9; exact h9)
              have HOC : Hid (∀ W, Below wr.heap.size wr W → W.cell? ⟨O, 4, none⟩ = some vr2) := (show Hid _ from fun W hW => (HKQ3.out.below hW).cells.2.2)
              have o0 := HOC.out wr (Below.refl _ _)
              obtain ⟨s1, es1⟩ : ∃ s1, s1 = x ^ e % P := ⟨_, rfl⟩
              have hs1 : 0 ≤ s1 ∧ s1 < P := by rw [es1]; exact ⟨Int.emod_nonneg _ (by omega), Int.emod_lt_of_pos _ (by omega)⟩
              have HS1 := Lib.hid es1
              have hxy := mul_bd' (show 0 ≤ y ∧ y ≤ P by omega) hs1 hP.2
              have v2 : IntKind.i64.wrap (y * s1) = y * s1 := by exact IntWalk.i64_in _ (by omega)
              obtain ⟨s2, es2⟩ : ∃ s2, s2 = y * s1 % P := ⟨_, rfl⟩
              have v3 : (y * s1).tmod P = s2 := by rw [es2]; exact Int.tmod_eq_emod_of_nonneg (by omega)
              have hs2 : 0 ≤ s2 ∧ s2 < P := by rw [es2]; exact ⟨Int.emod_nonneg _ (by omega), Int.emod_lt_of_pos _ (by omega)⟩
              have v4 : IntKind.i64.wrap s2 = s2 := by exact IntWalk.i64_in _ (by omega)
              have HF2 : Hid (s2 = y * (x ^ e % P) % P) := (show Hid _ from by show _ = _; rw [es2, es1])
              have hXw : X < wr.heap.size := heap_of_cells HX4.out
              clear es1 es2
              go_upto_region 19 with fail
              refine wp_region_noPanic ?_
              refine wp_region_held_drew (S := fun w' => w'.cell? ⟨F, 0, none⟩ = some (.int .i64 P) ∧ w'.cell? ⟨X, 0, none⟩ = some (.int .i64 x) ∧ w'.cell? ⟨X, 1, none⟩ = some (.int .i64 y)) (by kernel_rfl) ?hs3 (fun hHeld => ?_)
              case hs3 => ((try dsimp only); (first | exact HS0.out | exact HS5.out | exact HS5L.out | exact HS9.out | exact ⟨ky_set HS9.out.1 hFO, ky_set HS9.out.2.1 hXO, ky_set HS9.out.2.2 hXO⟩ | go_keep))
              (try simp only [Act.put]); (try simp only [List.setIfInBounds_toArray]); (try simp only [List.set_cons_succ]); (try simp only [List.set_cons_zero])
              refine wpAnyH_take (i := 0) (oi := _) (v := ?v58) rfl (by kernel_rfl) (by kernel_rfl) (by kernel_rfl) (fun _ _ _ h => h) (Or.inl ⟨by rfl, ?hy58⟩) (by assumption) ?rs58
              case hy58 => (intro w hSw; (try dsimp only at hSw); go_simp; all_goals with_reducible rfl)
              (try simp only [Act.put]); (try simp only [List.setIfInBounds_toArray]); (try simp only [List.set_cons_succ]); (try simp only [List.set_cons_zero])
              refine wpAnyH_take (i := 2) (oi := _) (v := ?v59) rfl (by kernel_rfl) (by kernel_rfl) (by kernel_rfl) (fun _ _ _ h => h) (Or.inl ⟨by rfl, ?hy59⟩) (by assumption) ?rs59
              case hy59 => (intro w hSw; (try dsimp only at hSw); go_simp; all_goals with_reducible rfl)
              (try simp only [Act.put]); (try simp only [List.setIfInBounds_toArray]); (try simp only [List.set_cons_succ]); (try simp only [List.set_cons_zero])
              refine wpAnyH_take (i := 3) (oi := _) (v := ?v60) rfl (by kernel_rfl) (by kernel_rfl) (by kernel_rfl) (fun _ _ _ h => h) (Or.inl ⟨by rfl, ?hy60⟩) (by assumption) ?rs60
              case hy60 => (intro w hSw; (try dsimp only at hSw); go_simp; all_goals with_reducible rfl)
              (try simp only [Act.put]); (try simp only [List.setIfInBounds_toArray]); (try simp only [List.set_cons_succ]); (try simp only [List.set_cons_zero])
              refine wpAnyH_take (i := 4) (oi := _) (v := ?v61) rfl (by kernel_rfl) (by kernel_rfl) (by kernel_rfl) (fun _ _ _ h => h) (Or.inl ⟨by rfl, ?hy61⟩) (by assumption) ?rs61
              case hy61 => (intro w hSw; (try dsimp only at hSw); go_simp; all_goals with_reducible rfl)
              (try simp only [Act.put]); (try simp only [List.setIfInBounds_toArray]); (try simp only [List.set_cons_succ]); (try simp only [List.set_cons_zero])
              refine wpAnyH_take (i := 5) (oi := _) (v := ?v62) rfl (by kernel_rfl) (by kernel_rfl) (by kernel_rfl) (fun _ _ _ h => h) (Or.inl ⟨by rfl, ?hy62⟩) (by assumption) ?rs62
              case hy62 => (intro w hSw; (try dsimp only at hSw); go_simp; all_goals with_reducible rfl)
              (try simp only [Act.put]); (try simp only [List.setIfInBounds_toArray]); (try simp only [List.set_cons_succ]); (try simp only [List.set_cons_zero])
              refine wpAnyH_take (i := 6) (oi := _) (v := ?v63) rfl (by kernel_rfl) (by kernel_rfl) (by kernel_rfl) (fun _ _ _ h => h) (Or.inl ⟨by rfl, ?hy63⟩) (by assumption) ?rs63
              case hy63 => (intro w hSw; (try dsimp only at hSw); go_simp; all_goals with_reducible rfl)
              (try simp only [Act.put]); (try simp only [List.setIfInBounds_toArray]); (try simp only [List.set_cons_succ]); (try simp only [List.set_cons_zero])
              refine wpAnyH_take (i := 7) (oi := _) (v := ?v64) rfl (by kernel_rfl) (by kernel_rfl) (by kernel_rfl) (fun _ _ _ h => h) (Or.inl ⟨by rfl, ?hy64⟩) (by assumption) ?rs64
              case hy64 => (intro w hSw; (try dsimp only at hSw); go_simp; all_goals with_reducible rfl)
              (try simp only [Act.put]); (try simp only [List.setIfInBounds_toArray]); (try simp only [List.set_cons_succ]); (try simp only [List.set_cons_zero])
              refine wpAnyH_take (i := 10) (oi := _) (v := ?v65) rfl (by kernel_rfl) (by kernel_rfl) (by kernel_rfl) (fun _ _ _ h => h) (Or.inl ⟨by rfl, ?hy65⟩) (by assumption) ?rs65
              case hy65 => (intro w hSw; (try dsimp only at hSw); go_simp; all_goals with_reducible rfl)
              (try simp only [Act.put]); (try simp only [List.setIfInBounds_toArray]); (try simp only [List.set_cons_succ]); (try simp only [List.set_cons_zero])
              refine wpAnyH_take (i := 11) (oi := _) (v := ?v66) rfl (by kernel_rfl) (by kernel_rfl) (by kernel_rfl) (fun _ _ _ h => h) (Or.inl ⟨by rfl, ?hy66⟩) (by assumption) ?rs66
              case hy66 => (intro w hSw; (try dsimp only at hSw); go_simp; all_goals with_reducible rfl)
              (try simp only [Act.put]); (try simp only [List.setIfInBounds_toArray]); (try simp only [List.set_cons_succ]); (try simp only [List.set_cons_zero])
              refine wpAnyH_ready (rs := [1, 8]) (by kernel_rfl) (by simp) ?_
              refine AllReadyH.cons (o := _) rfl (fun K hK => ?st67_0) ?mo67_0
              case st67_0 =>
                go_simp
                refine hK.out _ _ ?sh67_0 (fun hHeld => ?re67_0)
                case sh67_0 => ((try dsimp only); (first | exact HS0.out | exact HS5.out | exact HS5L.out | exact HS9.out | exact ⟨ky_set HS9.out.1 hFO, ky_set HS9.out.2.1 hXO, ky_set HS9.out.2.2 hXO⟩ | go_keep))
                clear hK K
                (try simp only [Act.put]); (try simp only [List.setIfInBounds_toArray]); (try simp only [List.set_cons_succ]); (try simp only [List.set_cons_zero])
                refine wpAnyH_ready (rs := [8]) (by kernel_rfl) (by simp) ?_
                refine AllReadyH.cons (o := _) rfl (fun K hK => ?st68_0) ?mo68_0
                case st68_0 =>
                  (go_simp; go_at_call 60; refine (rpowG_any P x e _ hP hx (by omega)).mono ?_; rintro e9 w5 ⟨rfl, hb9⟩; rw [← HS1.out]; have HB5 : Hid (Below wr.heap.size wr w5) := (show Hid _ from ⟨hb9.os, hb9.tape, hb9.output, hb9.size, hb9.block⟩); have HS5 := Lib.hid (HSR2.out w5 HB5.out); have HB5L := Lib.hid (HB5.out.alloc HB5.out.size (.cells #[.int .i64 s2] 3)); have HS5L := Lib.hid (HSR2.out _ HB5L.out); have o5 := HOC.out w5 HB5.out; have o5L := HOC.out _ HB5L.out; clear hb9)
                  go_wp2_with fail
                  refine hK.out _ _ ?sh68_0 (fun hHeld => ?re68_0)
                  case sh68_0 => ((try dsimp only); (first | exact HS0.out | exact HS5.out | exact HS5L.out | exact HS9.out | exact ⟨ky_set HS9.out.1 hFO, ky_set HS9.out.2.1 hXO, ky_set HS9.out.2.2 hXO⟩ | go_keep))
                  clear hK K
                  (try simp only [Act.put]); (try simp only [List.setIfInBounds_toArray]); (try simp only [List.set_cons_succ]); (try simp only [List.set_cons_zero])
                  refine wpAnyH_take (i := 9) (oi := _) (v := ?v69) rfl (by kernel_rfl) (by kernel_rfl) (by kernel_rfl) (fun _ _ _ h => h) (Or.inl ⟨by rfl, ?hy69⟩) (by assumption) ?rs69
                  case hy69 => (intro w hSw; (try dsimp only at hSw); go_simp; all_goals with_reducible rfl)
                  (try simp only [Act.put]); (try simp only [List.setIfInBounds_toArray]); (try simp only [List.set_cons_succ]); (try simp only [List.set_cons_zero])
                  refine wpAnyH_take (i := 12) (oi := _) (v := ?v70) rfl (by kernel_rfl) (by kernel_rfl) (by kernel_rfl) (fun _ _ _ h => h) (Or.inl ⟨by rfl, ?hy70⟩) (by assumption) ?rs70
                  case hy70 => (intro w hSw; (try dsimp only at hSw); go_simp; all_goals with_reducible rfl)
                  (try simp only [Act.put]); (try simp only [List.setIfInBounds_toArray]); (try simp only [List.set_cons_succ]); (try simp only [List.set_cons_zero])
                  refine wpAnyH_ready (rs := [13]) (by kernel_rfl) (by simp) ?_
                  refine AllReadyH.cons (o := _) rfl (fun K hK => ?st71_0) ?mo71_0
                  case st71_0 =>
                    go_simp
                    refine hK.out _ _ ?sh71_0 (fun hHeld => ?re71_0)
                    case sh71_0 => ((try dsimp only); (first | exact HS0.out | exact HS5.out | exact HS5L.out | exact HS9.out | exact ⟨ky_set HS9.out.1 hFO, ky_set HS9.out.2.1 hXO, ky_set HS9.out.2.2 hXO⟩ | go_keep))
                    clear hK K
                    (try simp only [Act.put]); (try simp only [List.setIfInBounds_toArray]); (try simp only [List.set_cons_succ]); (try simp only [List.set_cons_zero])
                    refine wpAnyH_ready (rs := [14]) (by kernel_rfl) (by simp) ?_
                    refine AllReadyH.cons (o := _) rfl (fun K hK => ?st72_0) ?mo72_0
                    case st72_0 =>
                      (refine step_append_int1_at _ (by rfl) (.tmp 97) _ 22 (by rfl) w4.heap.size 3 Try.underlying22 iinfo vr2 RL0 (by rfl) (by first | exact (HKQ3.out.below HB5L.out).two.2.1 | exact (HKQ3.out.below HB5L.out.drew).two.2.1) s2 w5.heap.size (by rfl) (by exact cells_new w5 [.int .i64 s2] 3 0 _ rfl) (by omega) (by have := HB5L.out.size; have := hzr2; first | omega | (simp at *; omega)) ?_; intro g9 cap9 w9 hown9 hg9 hat9; obtain ⟨o9, fo9⟩ := ky_cellsR (HKQ3.out.below (by first | exact HB5L.out | exact HB5L.out.drew)) hg9; have HS9 := Lib.hid (And.intro (hg9.cell (a := ⟨F, 0, none⟩) HS5L.out.1 (fun e => by have := (HKQ3.out.two.2.1.lt F e.symm).1; omega)) (And.intro (hg9.cell (a := ⟨X, 0, none⟩) HS5L.out.2.1 (fun e => HKQ3.out.nr e.symm)) (hg9.cell (a := ⟨X, 1, none⟩) HS5L.out.2.2 (fun e => HKQ3.out.nr e.symm)))); have HST := Lib.hid (ky_stepR his HTK2.out HCB.out HRL.out HF2.out HKQ3.out HGR2.out hXw (by first | exact HB5L.out | exact HB5L.out.drew) hg9 hown9 hat9); clear hown9 hg9 hat9)
                      refine hK.out _ _ ?sh72_0 (fun hHeld => ?re72_0)
                      case sh72_0 => ((try dsimp only); (first | exact HS0.out | exact HS5.out | exact HS5L.out | exact HS9.out | exact ⟨ky_set HS9.out.1 hFO, ky_set HS9.out.2.1 hXO, ky_set HS9.out.2.2 hXO⟩ | go_keep))
                      clear hK K
                      (try simp only [Act.put]); (try simp only [List.setIfInBounds_toArray]); (try simp only [List.set_cons_succ]); (try simp only [List.set_cons_zero])
                      refine wpAnyH_take (i := 15) (oi := _) (v := ?v73) rfl (by kernel_rfl) (by kernel_rfl) (by kernel_rfl) (fun _ _ _ h => h) (Or.inl ⟨by rfl, ?hy73⟩) (by assumption) ?rs73
                      case hy73 => (intro w hSw; (try dsimp only at hSw); go_simp; all_goals with_reducible rfl)
                      (try simp only [Act.put]); (try simp only [List.setIfInBounds_toArray]); (try simp only [List.set_cons_succ]); (try simp only [List.set_cons_zero])
                      refine wpAnyH_ready (rs := [16]) (by kernel_rfl) (by simp) ?_
                      refine AllReadyH.cons (o := _) rfl (fun K hK => ?st74_0) ?mo74_0
                      case st74_0 =>
                        go_simp
                        refine hK.out _ _ ?sh74_0 (fun hHeld => ?re74_0)
                        case sh74_0 => ((try dsimp only); (first | exact HS0.out | exact HS5.out | exact HS5L.out | exact HS9.out | exact ⟨ky_set HS9.out.1 hFO, ky_set HS9.out.2.1 hXO, ky_set HS9.out.2.2 hXO⟩ | go_keep))
                        clear hK K
                        (try simp only [Act.put]); (try simp only [List.setIfInBounds_toArray]); (try simp only [List.set_cons_succ]); (try simp only [List.set_cons_zero])
                        refine wpAnyH_done (by kernel_rfl) ?_ _
                        refine NoPanic.normal ?_
                        go_wp2_with fail
                        go_roundw
                        case rel => simpa [u1, Nat.add_assoc] using HST.out
                        case measure => simp [intOf]; omega
                      exact AllReadyH.nil
                    exact AllReadyH.nil
                  exact AllReadyH.nil
                exact AllReadyH.nil
              refine AllReadyH.cons (o := _) rfl (fun K hK => ?st67_1) ?mo67_1
              case st67_1 =>
                (go_simp; go_at_call 60; refine (rpowG_any P x e _ hP hx (by omega)).mono ?_; rintro e9 w5 ⟨rfl, hb9⟩; rw [← HS1.out]; have HB5 : Hid (Below wr.heap.size wr w5) := (show Hid _ from ⟨hb9.os, hb9.tape, hb9.output, hb9.size, hb9.block⟩); have HS5 := Lib.hid (HSR2.out w5 HB5.out); have HB5L := Lib.hid (HB5.out.alloc HB5.out.size (.cells #[.int .i64 s2] 3)); have HS5L := Lib.hid (HSR2.out _ HB5L.out); have o5 := HOC.out w5 HB5.out; have o5L := HOC.out _ HB5L.out; clear hb9)
                go_wp2_with fail
                refine hK.out _ _ ?sh67_1 (fun hHeld => ?re67_1)
                case sh67_1 => ((try dsimp only); (first | exact HS0.out | exact HS5.out | exact HS5L.out | exact HS9.out | exact ⟨ky_set HS9.out.1 hFO, ky_set HS9.out.2.1 hXO, ky_set HS9.out.2.2 hXO⟩ | go_keep))
                clear hK K
                (try simp only [Act.put]); (try simp only [List.setIfInBounds_toArray]); (try simp only [List.set_cons_succ]); (try simp only [List.set_cons_zero])
                refine wpAnyH_take (i := 9) (oi := _) (v := ?v76) rfl (by kernel_rfl) (by kernel_rfl) (by kernel_rfl) (fun _ _ _ h => h) (Or.inl ⟨by rfl, ?hy76⟩) (by assumption) ?rs76
                case hy76 => (intro w hSw; (try dsimp only at hSw); go_simp; all_goals with_reducible rfl)
                (try simp only [Act.put]); (try simp only [List.setIfInBounds_toArray]); (try simp only [List.set_cons_succ]); (try simp only [List.set_cons_zero])
                refine wpAnyH_take (i := 12) (oi := _) (v := ?v77) rfl (by kernel_rfl) (by kernel_rfl) (by kernel_rfl) (fun _ _ _ h => h) (Or.inl ⟨by rfl, ?hy77⟩) (by assumption) ?rs77
                case hy77 => (intro w hSw; (try dsimp only at hSw); go_simp; all_goals with_reducible rfl)
                (try simp only [Act.put]); (try simp only [List.setIfInBounds_toArray]); (try simp only [List.set_cons_succ]); (try simp only [List.set_cons_zero])
                refine wpAnyH_ready (rs := [1, 13]) (by kernel_rfl) (by simp) ?_
                refine AllReadyH.cons (o := _) rfl (fun K hK => ?st78_0) ?mo78_0
                case st78_0 =>
                  go_simp
                  refine hK.out _ _ ?sh78_0 (fun hHeld => ?re78_0)
                  case sh78_0 => ((try dsimp only); (first | exact HS0.out | exact HS5.out | exact HS5L.out | exact HS9.out | exact ⟨ky_set HS9.out.1 hFO, ky_set HS9.out.2.1 hXO, ky_set HS9.out.2.2 hXO⟩ | go_keep))
                  clear hK K
                  (try simp only [Act.put]); (try simp only [List.setIfInBounds_toArray]); (try simp only [List.set_cons_succ]); (try simp only [List.set_cons_zero])
                  refine wpAnyH_ready (rs := [13]) (by kernel_rfl) (by simp) ?_
                  refine AllReadyH.cons (o := _) rfl (fun K hK => ?st79_0) ?mo79_0
                  case st79_0 =>
                    go_simp
                    refine hK.out _ _ ?sh79_0 (fun hHeld => ?re79_0)
                    case sh79_0 => ((try dsimp only); (first | exact HS0.out | exact HS5.out | exact HS5L.out | exact HS9.out | exact ⟨ky_set HS9.out.1 hFO, ky_set HS9.out.2.1 hXO, ky_set HS9.out.2.2 hXO⟩ | go_keep))
                    clear hK K
                    (try simp only [Act.put]); (try simp only [List.setIfInBounds_toArray]); (try simp only [List.set_cons_succ]); (try simp only [List.set_cons_zero])
                    refine wpAnyH_ready (rs := [14]) (by kernel_rfl) (by simp) ?_
                    refine AllReadyH.cons (o := _) rfl (fun K hK => ?st80_0) ?mo80_0
                    case st80_0 =>
                      (refine step_append_int1_at _ (by rfl) (.tmp 97) _ 22 (by rfl) w4.heap.size 3 Try.underlying22 iinfo vr2 RL0 (by rfl) (by first | exact (HKQ3.out.below HB5L.out).two.2.1 | exact (HKQ3.out.below HB5L.out.drew).two.2.1) s2 w5.heap.size (by rfl) (by exact cells_new w5 [.int .i64 s2] 3 0 _ rfl) (by omega) (by have := HB5L.out.size; have := hzr2; first | omega | (simp at *; omega)) ?_; intro g9 cap9 w9 hown9 hg9 hat9; obtain ⟨o9, fo9⟩ := ky_cellsR (HKQ3.out.below (by first | exact HB5L.out | exact HB5L.out.drew)) hg9; have HS9 := Lib.hid (And.intro (hg9.cell (a := ⟨F, 0, none⟩) HS5L.out.1 (fun e => by have := (HKQ3.out.two.2.1.lt F e.symm).1; omega)) (And.intro (hg9.cell (a := ⟨X, 0, none⟩) HS5L.out.2.1 (fun e => HKQ3.out.nr e.symm)) (hg9.cell (a := ⟨X, 1, none⟩) HS5L.out.2.2 (fun e => HKQ3.out.nr e.symm)))); have HST := Lib.hid (ky_stepR his HTK2.out HCB.out HRL.out HF2.out HKQ3.out HGR2.out hXw (by first | exact HB5L.out | exact HB5L.out.drew) hg9 hown9 hat9); clear hown9 hg9 hat9)
                      refine hK.out _ _ ?sh80_0 (fun hHeld => ?re80_0)
                      case sh80_0 => ((try dsimp only); (first | exact HS0.out | exact HS5.out | exact HS5L.out | exact HS9.out | exact ⟨ky_set HS9.out.1 hFO, ky_set HS9.out.2.1 hXO, ky_set HS9.out.2.2 hXO⟩ | go_keep))
                      clear hK K
                      (try simp only [Act.put]); (try simp only [List.setIfInBounds_toArray]); (try simp only [List.set_cons_succ]); (try simp only [List.set_cons_zero])
                      refine wpAnyH_take (i := 15) (oi := _) (v := ?v81) rfl (by kernel_rfl) (by kernel_rfl) (by kernel_rfl) (fun _ _ _ h => h) (Or.inl ⟨by rfl, ?hy81⟩) (by assumption) ?rs81
                      case hy81 => (intro w hSw; (try dsimp only at hSw); go_simp; all_goals with_reducible rfl)
                      (try simp only [Act.put]); (try simp only [List.setIfInBounds_toArray]); (try simp only [List.set_cons_succ]); (try simp only [List.set_cons_zero])
                      refine wpAnyH_ready (rs := [16]) (by kernel_rfl) (by simp) ?_
                      refine AllReadyH.cons (o := _) rfl (fun K hK => ?st82_0) ?mo82_0
                      case st82_0 =>
                        go_simp
                        refine hK.out _ _ ?sh82_0 (fun hHeld => ?re82_0)
                        case sh82_0 => ((try dsimp only); (first | exact HS0.out | exact HS5.out | exact HS5L.out | exact HS9.out | exact ⟨ky_set HS9.out.1 hFO, ky_set HS9.out.2.1 hXO, ky_set HS9.out.2.2 hXO⟩ | go_keep))
                        clear hK K
                        (try simp only [Act.put]); (try simp only [List.setIfInBounds_toArray]); (try simp only [List.set_cons_succ]); (try simp only [List.set_cons_zero])
                        refine wpAnyH_done (by kernel_rfl) ?_ _
                        refine NoPanic.normal ?_
                        go_wp2_with fail
                        go_roundw
                        case rel => simpa [u1, Nat.add_assoc] using HST.out
                        case measure => simp [intOf]; omega
                      exact AllReadyH.nil
                    exact AllReadyH.nil
                  exact AllReadyH.nil
                refine AllReadyH.cons (o := _) rfl (fun K hK => ?st78_1) ?mo78_1
                case st78_1 =>
                  go_simp
                  refine hK.out _ _ ?sh78_1 (fun hHeld => ?re78_1)
                  case sh78_1 => ((try dsimp only); (first | exact HS0.out | exact HS5.out | exact HS5L.out | exact HS9.out | exact ⟨ky_set HS9.out.1 hFO, ky_set HS9.out.2.1 hXO, ky_set HS9.out.2.2 hXO⟩ | go_keep))
                  clear hK K
                  (try simp only [Act.put]); (try simp only [List.setIfInBounds_toArray]); (try simp only [List.set_cons_succ]); (try simp only [List.set_cons_zero])
                  refine wpAnyH_ready (rs := [1]) (by kernel_rfl) (by simp) ?_
                  refine AllReadyH.cons (o := _) rfl (fun K hK => ?st84_0) ?mo84_0
                  case st84_0 =>
                    go_simp
                    refine hK.out _ _ ?sh84_0 (fun hHeld => ?re84_0)
                    case sh84_0 => ((try dsimp only); (first | exact HS0.out | exact HS5.out | exact HS5L.out | exact HS9.out | exact ⟨ky_set HS9.out.1 hFO, ky_set HS9.out.2.1 hXO, ky_set HS9.out.2.2 hXO⟩ | go_keep))
                    clear hK K
                    (try simp only [Act.put]); (try simp only [List.setIfInBounds_toArray]); (try simp only [List.set_cons_succ]); (try simp only [List.set_cons_zero])
                    refine wpAnyH_ready (rs := [14]) (by kernel_rfl) (by simp) ?_
                    refine AllReadyH.cons (o := _) rfl (fun K hK => ?st85_0) ?mo85_0
                    case st85_0 =>
                      (refine step_append_int1_at _ (by rfl) (.tmp 97) _ 22 (by rfl) w4.heap.size 3 Try.underlying22 iinfo vr2 RL0 (by rfl) (by first | exact (HKQ3.out.below HB5L.out).two.2.1 | exact (HKQ3.out.below HB5L.out.drew).two.2.1) s2 w5.heap.size (by rfl) (by exact cells_new w5 [.int .i64 s2] 3 0 _ rfl) (by omega) (by have := HB5L.out.size; have := hzr2; first | omega | (simp at *; omega)) ?_; intro g9 cap9 w9 hown9 hg9 hat9; obtain ⟨o9, fo9⟩ := ky_cellsR (HKQ3.out.below (by first | exact HB5L.out | exact HB5L.out.drew)) hg9; have HS9 := Lib.hid (And.intro (hg9.cell (a := ⟨F, 0, none⟩) HS5L.out.1 (fun e => by have := (HKQ3.out.two.2.1.lt F e.symm).1; omega)) (And.intro (hg9.cell (a := ⟨X, 0, none⟩) HS5L.out.2.1 (fun e => HKQ3.out.nr e.symm)) (hg9.cell (a := ⟨X, 1, none⟩) HS5L.out.2.2 (fun e => HKQ3.out.nr e.symm)))); have HST := Lib.hid (ky_stepR his HTK2.out HCB.out HRL.out HF2.out HKQ3.out HGR2.out hXw (by first | exact HB5L.out | exact HB5L.out.drew) hg9 hown9 hat9); clear hown9 hg9 hat9)
                      refine hK.out _ _ ?sh85_0 (fun hHeld => ?re85_0)
                      case sh85_0 => ((try dsimp only); (first | exact HS0.out | exact HS5.out | exact HS5L.out | exact HS9.out | exact ⟨ky_set HS9.out.1 hFO, ky_set HS9.out.2.1 hXO, ky_set HS9.out.2.2 hXO⟩ | go_keep))
                      clear hK K
                      (try simp only [Act.put]); (try simp only [List.setIfInBounds_toArray]); (try simp only [List.set_cons_succ]); (try simp only [List.set_cons_zero])
                      refine wpAnyH_take (i := 15) (oi := _) (v := ?v86) rfl (by kernel_rfl) (by kernel_rfl) (by kernel_rfl) (fun _ _ _ h => h) (Or.inl ⟨by rfl, ?hy86⟩) (by assumption) ?rs86
                      case hy86 => (intro w hSw; (try dsimp only at hSw); go_simp; all_goals with_reducible rfl)
                      (try simp only [Act.put]); (try simp only [List.setIfInBounds_toArray]); (try simp only [List.set_cons_succ]); (try simp only [List.set_cons_zero])
                      refine wpAnyH_ready (rs := [16]) (by kernel_rfl) (by simp) ?_
                      refine AllReadyH.cons (o := _) rfl (fun K hK => ?st87_0) ?mo87_0
                      case st87_0 =>
                        go_simp
                        refine hK.out _ _ ?sh87_0 (fun hHeld => ?re87_0)
                        case sh87_0 => ((try dsimp only); (first | exact HS0.out | exact HS5.out | exact HS5L.out | exact HS9.out | exact ⟨ky_set HS9.out.1 hFO, ky_set HS9.out.2.1 hXO, ky_set HS9.out.2.2 hXO⟩ | go_keep))
                        clear hK K
                        (try simp only [Act.put]); (try simp only [List.setIfInBounds_toArray]); (try simp only [List.set_cons_succ]); (try simp only [List.set_cons_zero])
                        refine wpAnyH_done (by kernel_rfl) ?_ _
                        refine NoPanic.normal ?_
                        go_wp2_with fail
                        go_roundw
                        case rel => simpa [u1, Nat.add_assoc] using HST.out
                        case measure => simp [intOf]; omega
                      exact AllReadyH.nil
                    exact AllReadyH.nil
                  exact AllReadyH.nil
                exact AllReadyH.nil
              exact AllReadyH.nil
    · have di : decide ((i : Int) < (K : Int)) = false := decide_eq_false (by omega)
      have din : decide (i < K) = false := decide_eq_false hiK
      obtain rfl : i = K := by omega
      have hkq := HKQ.out
      rw [List.take_of_length_le (by rw [← HK.out]; exact Nat.le_refl _)] at hkq
      obtain ⟨Ac, cc, evc⟩ := own_slice hkq.two.1
      obtain ⟨Ar, cr, evr⟩ := own_slice hkq.two.2.1
      obtain ⟨Lc, eLc⟩ : ∃ L, L = (kcl P (k + e) e (kn l)).length := ⟨_, rfl⟩
      obtain ⟨Lr, eLr⟩ : ∃ L, L = (krl P e (kn l)).length := ⟨_, rfl⟩
      rw [← eLc] at evc
      rw [← eLr] at evr
      have HQ := Lib.hid hkq
      have hBw : Below w1.heap.size w1 wr := HGW.out wr HGR.out
      have HBw := Lib.hid hBw
      obtain ⟨f0, g0, g1, g2, g3, g4⟩ := HXC.out wr hBw
      have hF1 : F + 1 < w1.heap.size := heap_of_cells HF1w1.out
      have hrow := (hBw.block (F + 1) hF1).trans HF1w1.out
      have ff0 := frozen_of_row wr (F + 1) 0 _ _ hrow
      have ff1 := frozen_of_row wr (F + 1) 1 _ _ hrow
      have ff2 := frozen_of_row wr (F + 1) 2 _ _ hrow
      have ff3 := frozen_of_row wr (F + 1) 3 _ _ hrow
      have ff4 := frozen_of_row wr (F + 1) 4 _ _ hrow
      have p0 := cell_of_row wr O 0 _ _ _ hkq.box
      have p1 := cell_of_row wr O 1 _ _ _ hkq.box
      have p2 := cell_of_row wr O 2 _ _ _ hkq.box
      have p3 := cell_of_row wr O 3 _ _ _ hkq.box
      have p4 := cell_of_row wr O 4 _ _ _ hkq.box
      have HEV1 := Lib.hid evc
      have HEV2 := Lib.hid evr
      rw [evc] at p3
      rw [evr] at p4
      have HROW := Lib.hid hrow
      clear hkq hrow hBw o1 fo1 evc evr eLc eLr
      go_wp2_with fail
      have hE := ky_five (a := .int .i64 P) (b := .int .i64 i) (c := .int .i64 C) (d := .slice Ac Lc cc) (e := .slice Ar Lr cr) HROW.out
      have hBE := (((((HAw1.out.trans (HBw.out.mono HAw1.out.size)).setCell (p := ⟨F + 1, 0, none⟩) (by show _ ≤ F + 1; omega) (.int .i64 P)).setCell (p := ⟨F + 1, 1, none⟩) (by show _ ≤ F + 1; omega) (.int .i64 i)).setCell (p := ⟨F + 1, 2, none⟩) (by show _ ≤ F + 1; omega) (.int .i64 C)).setCell (p := ⟨F + 1, 3, none⟩) (by show _ ≤ F + 1; omega) (.slice Ac Lc cc)).setCell (p := ⟨F + 1, 4, none⟩) (by show _ ≤ F + 1; omega) (.slice Ar Lr cr)
      have hF4 : F + 1 < w4.heap.size := Nat.lt_of_lt_of_le hF1 HB14.out.size
      have hs1 := own_setCell' (p := ⟨F + 1, 4, none⟩) (u := .slice Ar Lr cr) (own_setCell' (p := ⟨F + 1, 3, none⟩) (u := .slice Ac Lc cc) (own_setCell' (p := ⟨F + 1, 2, none⟩) (u := .int .i64 C) (own_setCell' (p := ⟨F + 1, 1, none⟩) (u := .int .i64 i) (own_setCell' (p := ⟨F + 1, 0, none⟩) (u := .int .i64 P) HQ.out.two.1 hF4) hF4) hF4) hF4) hF4
      have hs2 := own_setCell' (p := ⟨F + 1, 4, none⟩) (u := .slice Ar Lr cr) (own_setCell' (p := ⟨F + 1, 3, none⟩) (u := .slice Ac Lc cc) (own_setCell' (p := ⟨F + 1, 2, none⟩) (u := .int .i64 C) (own_setCell' (p := ⟨F + 1, 1, none⟩) (u := .int .i64 i) (own_setCell' (p := ⟨F + 1, 0, none⟩) (u := .int .i64 P) HQ.out.two.2.1 hF4) hF4) hF4) hF4) hF4
      rw [HEV1.out] at hs1
      rw [HEV2.out] at hs2
      generalize (((((wr.setCell ⟨F + 1, 0, none⟩ (.int .i64 P)).setCell ⟨F + 1, 1, none⟩ (.int .i64 i)).setCell ⟨F + 1, 2, none⟩ (.int .i64 C)).setCell ⟨F + 1, 3, none⟩ (.slice Ac Lc cc)).setCell ⟨F + 1, 4, none⟩ (.slice Ar Lr cr)) = wE at hE hBE hs1 hs2 ⊢
      have q0 := cell_of_row wE (F + 1) 0 _ _ _ hE
      have q1 := cell_of_row wE (F + 1) 1 _ _ _ hE
      have q2 := cell_of_row wE (F + 1) 2 _ _ _ hE
      have q3 := cell_of_row wE (F + 1) 3 _ _ _ hE
      have q4 := cell_of_row wE (F + 1) 4 _ _ _ hE
      simp at q0 q1 q2 q3 q4
      refine bodyPost_ret (v := .tuple #[.agg #[.int .i64 P, .int .i64 i, .int .i64 C, .slice Ac Lc cc, .slice Ar Lr cr], .int .i64 0]) (by simp [results, Try.results35, go_sem, q0, q1, q2, q3, q4]) rfl ?_
      refine ⟨_, _, ?_, hBE, SI.of_own hs1 (els_r hP.2 (kcl_els hP.1 _ _ _)), SI.of_own hs2 (els_r hP.2 (krl_els hP.1 _ _))⟩
      have h2e : ((k + e + e : Nat) : Int) = C := by rw [HEC.out]; omega
      rw [← HK.out, h2e]
end Go.Proofs.Ytbgabipngdillaa

namespace Go.Proofs.Ytbgabipngdillaa
open Go.RowKit Go.Shelf

/-- what Decode answers: the polynomial and the numbers of the wrong ones, or an error -/
def RcP (P : Int) (l : List (Int × Bool)) (k : Int) (w : World) (en : Ending) (w' : World) : Prop :=
  ∃ (er : Int) (v1 v2 : Value) (p q : List Int), en = .returned (.tuple #[.agg #[v1, v2], .int .i64 er]) ∧ Below w.heap.size w w' ∧ UnR P l k p er ∧
    w'.ownsRow w.heap.size 3 1 v1 p.length (p.map (Value.int .i64)) ∧ w'.ownsRow w.heap.size 3 1 v2 q.length (q.map (Value.int .i64)) ∧ (er = 0 → q = wrg P l p)
theorem de_two {w : World} {G : Nat} {T : TypeId} {c0 c1 a b : Value} (h : w.heap[G]? = some (.cells #[c0, c1] T (0, 0))) :
    ((w.setCell ⟨G, 0, none⟩ a).setCell ⟨G, 1, none⟩ b).heap[G]? = some (.cells #[a, b] T (0, 0)) := by
  have h1 : (w.setCell ⟨G, 0, none⟩ a).heap[G]? = some (.cells #[a, c1] T (0, 0)) := by rw [heap_setCell_same w G 0 _ _ _ h]; simp
  rw [heap_setCell_same _ G 1 _ _ _ h1]; simp
theorem trim_app1 (l : List Int) {y : Int} (h : y ≠ 0) : trim (l ++ [y]) = l ++ [y] := by
  induction l with
  | nil => simp [trim, h]
  | cons c l ih =>
    show trim (c :: (l ++ [y])) = _
    rw [trim_cons, ih, if_neg (by simp)]
    rfl
theorem opE_mk1 {P : Int} {p : List Int} (h : prB P = true) (he : els P p = true) (hl : p.length ≤ 512) : opE P [p] = 0 := by
  unfold opE
  rw [if_neg (by rw [h]; simp), if_neg (by simp [he]), if_neg]
  simp [longB]
  omega
theorem wrg_r {P : Int} {l : List (Int × Bool)} (p : List Int) (hl : l.length ≤ 1000000) : ∀ y ∈ wrg P l p, i64r y := fun y hy => by
  unfold wrg at hy
  obtain ⟨t, ht, rfl⟩ := List.mem_map.1 hy
  have h1 := knF_at l 0 t (List.mem_filter.1 ht).1
  simp at h1
  unfold i64r; omega
theorem wrg_le {P : Int} {l : List (Int × Bool)} (p : List Int) : (wrg P l p).length ≤ (kn l).length := by
  unfold wrg wrk
  rw [List.length_map]
  exact List.length_filter_le _ _
set_option maxRecDepth 100000 in
set_option maxHeartbeats 16000000 in
theorem rdec_any (P : Int) (l : List (Int × Bool)) (k : Int) (v : Value) (w : World) (hPi : i64r P) (h : SCl w v l) (hz : l.length ≤ 1000000) :
    Calls Try.prog 13 #[.agg #[.int .i64 P], v, .int .i64 k] w (RcP P l k w) := by
  have HS := Lib.hid h
  obtain ⟨A, c, rfl⟩ := h.form
  have HZ := Lib.hid hz
  obtain ⟨n, en⟩ : ∃ n, n = l.length := ⟨_, rfl⟩
  rw [← en] at HS ⊢
  have HN := Lib.hid en
  clear h hz en
  go_enter Try.func13, Try.ntmps13
  obtain ⟨F, eF⟩ : ∃ F, F = w.heap.size := ⟨_, rfl⟩
  obtain ⟨w1, ew1⟩ : ∃ w1 : World, w1 = (w.alloc (.cells #[.int .i64 P] 26)).alloc (.cells #[.slice none 0 0, .slice none 0 0] 39) := ⟨_, rfl⟩
  have HWw1 : Hid ((w.alloc (.cells #[.int .i64 P] 26)).alloc (.cells #[.slice none 0 0, .slice none 0 0] 39) = w1) := ew1.symm
  have HAw1 : Hid (Below w.heap.size w w1) := (show Hid _ from by rw [ew1]; exact ((Below.refl _ w).alloc (Nat.le_refl _) _).alloc (by simp) _)
  have HF0w1 : Hid (w1.heap[F]? = some (.cells #[.int .i64 P] 26 (0, 0))) := (show Hid _ from by show _ = _; rw [ew1, eF, Below.heap_alloc _ _ _ (by simp)]; exact heap_alloc_new w _)
  have HF1w1 : Hid (w1.heap[F + 1]? = some (.cells #[.slice none 0 0, .slice none 0 0] 39 (0, 0))) := (show Hid _ from by show _ = _; rw [ew1, eF]; have := heap_alloc_new (w.alloc (.cells #[.int .i64 P] 26)) (.cells #[.slice none 0 0, .slice none 0 0] 39); simpa using this)
  have hFw : w.heap.size ≤ F := by omega
  have HXC : Hid (∀ W, Below w1.heap.size w1 W → W.cell? ⟨F, 0, none⟩ = some (.int .i64 P) ∧ W.cell? ⟨F + 1, 0, none⟩ = some (.slice none 0 0) ∧ W.cell? ⟨F + 1, 1, none⟩ = some (.slice none 0 0)) := (show Hid _ from fun W hg => by
    have hF0 := (hg.block F (heap_of_cells HF0w1.out)).trans HF0w1.out
    have hF1 := (hg.block (F + 1) (heap_of_cells HF1w1.out)).trans HF1w1.out
    exact ⟨cell_of_row W F 0 _ _ _ hF0, cell_of_row W (F + 1) 0 _ _ _ hF1, cell_of_row W (F + 1) 1 _ _ _ hF1⟩)
  go_upto_region 1 with fail
  rw [HWw1.out, ← eF]
  clear ew1 eF
  obtain ⟨f0, z0, z1⟩ := HXC.out w1 (Below.refl _ _)
  go_wp2_with fail
  (with_reducible refine (rfill_any P l k _ w1 hPi (HS.out.below HAw1.out) HZ.out).mono ?_)
  rintro e w2 ⟨v2, rfl, hb2⟩
  have HB2 : Hid (Below w1.heap.size w1 w2) := (show Hid _ from hb2)
  clear hb2 f0 z0 z1
  obtain ⟨f0, z0, z1⟩ := HXC.out w2 HB2.out
  obtain ⟨fe, efe⟩ : ∃ fe, fe = fiE P l k := ⟨_, rfl⟩
  rw [← efe]
  have hF1 : F + 1 < w1.heap.size := heap_of_cells HF1w1.out
  have hrow := (HB2.out.block (F + 1) hF1).trans HF1w1.out
  have ff0 := frozen_of_row w2 (F + 1) 0 _ _ hrow
  have ff1 := frozen_of_row w2 (F + 1) 1 _ _ hrow
  by_cases hf0 : fe = 0
  · subst hf0
    have hfi : fiE P l k = 0 := efe.symm
    obtain ⟨hp, hz32, hlP, hval, hk1, hkn⟩ := fi_zero hfi
    have hce : ceE P l = 0 := by
      unfold fiE at hfi
      by_cases hc : ceE P l = 0
      · exact hc
      · rw [if_neg hc] at hfi; exact hfi
    obtain ⟨kk, ekk⟩ : ∃ kk : Nat, k = (kk : Int) := ⟨k.toNat, by omega⟩
    subst ekk
    have HCE := Lib.hid hce
    have HFI := Lib.hid hfi
    have HROW := Lib.hid hrow
    have hkl : (kn l).length ≤ l.length := kn_len l 0
    have hk1' : 1 ≤ kk := by omega
    have hkn' : kk ≤ (kn l).length := by omega
    clear hrow efe hfi hce hk1 hkn
    have HS2 : Hid (SCl w2 (.slice A n c) l) := (show Hid _ from HS.out.below (HAw1.out.trans (HB2.out.mono HAw1.out.size)))
    go_wp2_with fail
    (with_reducible refine (rknown_any l _ w2 HS2.out HZ.out).mono ?_)
    rintro e w3 ⟨v3, rfl, hown3, hb3⟩
    obtain ⟨K, eK⟩ : ∃ K, K = (kn l).length := ⟨_, rfl⟩
    obtain ⟨A3, c3, ev3⟩ := own_slice hown3
    subst ev3
    rw [← eK] at hkn' hkl ⊢
    have HK := Lib.hid eK
    have HB23 := Lib.hid hb3
    clear hown3 hb3 eK
    go_wp2_with fail
    (with_reducible refine (rradius_any K kk w3 hk1' hkn' (by omega)).mono ?_)
    rintro e9 w9 ⟨rfl, rfl⟩
    obtain ⟨e, ee⟩ : ∃ e, e = (K - kk) / 2 := ⟨_, rfl⟩
    rw [← ee]
    have hke : kk + 2 * e ≤ K := by omega
    have HEE := Lib.hid ee
    clear ee
    have HB13 : Hid (Below w1.heap.size w1 w3) := (show Hid _ from HB2.out.trans (HB23.out.mono HB2.out.size))
    have HS3 : Hid (SCl w3 (.slice A n c) l) := (show Hid _ from HS.out.below (HAw1.out.trans (HB13.out.mono HAw1.out.size)))
    clear f0 z0 z1
    obtain ⟨f0, z0, z1⟩ := HXC.out w3 HB13.out
    have hKEY : Calls Try.prog 35 #[.agg #[.int .i64 P], .slice A n c, .int .i64 kk, .int .i64 e] w3 (KeP P (kk + e) e (kn l) w3) := rkey_any P l kk e _ w3 HS3.out HCE.out hk1' (by omega) (by omega) (by rw [← HK.out]; omega)
    have HKEY := Lib.hid hKEY
    clear hKEY
    go_wp2_with fail
    (with_reducible refine HKEY.out.mono ?_)
    rintro e9 w4 ⟨vc, vr, rfl, hb4, hsc, hsr⟩
    have HB34 := Lib.hid hb4
    have HB14 : Hid (Below w1.heap.size w1 w4) := (show Hid _ from HB13.out.trans (hb4.mono HB13.out.size))
    obtain ⟨Ac, cc, evc⟩ := hsc.form
    obtain ⟨Ar, cr, evr⟩ := hsr.form
    subst evc evr
    have hSOL : ∀ W, Below w4.heap.size w4 W → Calls Try.prog 36 #[.agg #[.int .i64 P, .int .i64 K, .int .i64 ((kk + e + e : Nat) : Int), .slice Ac (kcl P (kk + e) e (kn l)).length cc, .slice Ar (krl P e (kn l)).length cr]] W (SoP P K (kk + e + e) (kcl P (kk + e) e (kn l)) (krl P e (kn l)) W) := fun W hW =>
      rsolve_any P K (kk + e + e) _ _ _ _ W hp (by omega) (by omega) (by omega) (by omega) (by rw [kcl_len, ← HK.out]) (by rw [krl_len, ← HK.out]) (kcl_els (prB_bd hp).1 _ _ _) (krl_els (prB_bd hp).1 _ _) (hsc.below hW) (hsr.below hW)
    have HSOL := Lib.hid hSOL
    rw [← HK.out]
    obtain ⟨nc, enc⟩ : ∃ nc, nc = (kcl P (kk + e) e (kn l)).length := ⟨_, rfl⟩
    obtain ⟨nr, enr⟩ : ∃ nr, nr = (krl P e (kn l)).length := ⟨_, rfl⟩
    obtain ⟨C, eC⟩ : ∃ C, C = kk + e + e := ⟨_, rfl⟩
    rw [← enc, ← enr, ← eC] at HSOL ⊢
    have HC := Lib.hid eC
    clear hsc hsr hSOL enc enr eC hb4 f0 z0 z1
    obtain ⟨f0, z0, z1⟩ := HXC.out w4 HB14.out
    obtain ⟨w5, ew5⟩ : ∃ w5 : World, w5 = w4.alloc (.cells #[.int .i64 P, .int .i64 K, .int .i64 C, .slice Ac nc cc, .slice Ar nr cr] 76) := ⟨_, rfl⟩
    have HB45 : Hid (Below w4.heap.size w4 w5) := (show Hid _ from by rw [ew5]; exact (Below.refl _ w4).alloc (Nat.le_refl _) _)
    have HW5 : Hid (w4.alloc (.cells #[.int .i64 P, .int .i64 K, .int .i64 C, .slice Ac nc cc, .slice Ar nr cr] 76) = w5) := ew5.symm
    clear ew5
    go_wp2_with fail
    rw [HW5.out]
    (with_reducible refine (HSOL.out w5 HB45.out).mono ?_)
    rintro e9 w6 ⟨er, v6, x, rfl, hb6, hcase⟩
    have HB16 : Hid (Below w1.heap.size w1 w6) := (show Hid _ from (HB14.out.trans (HB45.out.mono HB14.out.size)).trans (hb6.mono (Nat.le_trans HB14.out.size HB45.out.size)))
    clear hb6 f0 z0 z1
    obtain ⟨f0, z0, z1⟩ := HXC.out w6 HB16.out
    have hrow := (HB16.out.block (F + 1) hF1).trans HF1w1.out
    have ff0 := frozen_of_row w6 (F + 1) 0 _ _ hrow
    have ff1 := frozen_of_row w6 (F + 1) 1 _ _ hrow
    have HROW6 := Lib.hid hrow
    clear hrow
    have HCASE := Lib.hid hcase
    clear hcase
    rcases HCASE.out with ⟨her, hsx, hex, hox⟩ | ⟨her, hv5, hno⟩
    · subst her
      have hSol : Sol P (kn l) (kk + e) e x := by rw [HK.out, HC.out] at hsx; exact solE_sol.1 hsx
      have hxl : x.length = C := hsx.1
      rw [hxl] at hox
      obtain ⟨gx, cx, ev6, hgx1, hgx2⟩ := own_form hox (by have := HC.out; omega)
      subst ev6
      obtain ⟨a, ea⟩ : ∃ a, a = kk + e := ⟨_, rfl⟩
      have hCa : C = a + e := by have := HC.out; omega
      have hcx : a + e ≤ cx := by
        rcases hox.2 with ⟨q, _⟩ | ⟨_, _, _, q, _, _, q2, _⟩
        · cases q
        · injection q with _ _ q3; omega
      have HSX : Hid (SI w6 (.slice (some ⟨gx, 0, none⟩) C cx) x) := (show Hid _ from by
        have := SI.of_own (l := x) (by rw [hxl]; exact hox) (els_r (prB_bd hp).2 hex)
        exact this)
      have HXl := Lib.hid hxl
      have HSol := Lib.hid hSol
      have HXE := Lib.hid hex
      have HAE := Lib.hid ea
      have ha32 : a + e ≤ 32 := by omega
      have hak : (kk : Int) + (e : Int) = (a : Int) := by omega
      clear hsx hSol hxl hex hox HCASE ea
      subst hCa
      have y0 : (0 : Int) ≤ (a : Int) := by omega
      have y1 : (a : Int) ≤ (cx : Int) := by omega
      have y2 : (a : Int) ≤ (a : Int) + (e : Int) := by omega
      have y3 : IntKind.i64.wrap (a : Int) = (a : Int) := by exact IntWalk.i64_in _ (by omega)
      have y4 : IntKind.i64.wrap ((kk : Int) + (e : Int)) = (a : Int) := by rw [hak]; exact y3
      have y5 : (0 : Int) ≤ (a : Int) + (e : Int) := by omega
      have y6 : ((a : Int)).toNat = a := by omega
      have hxd : (x.drop a).length = e := by rw [List.length_drop, HXl.out]; omega
      have hxt : (x.take a).length = a := by rw [List.length_take, HXl.out]; omega
      have HXD := Lib.hid hxd
      have HXT := Lib.hid hxt
      have HQ1 : Hid (SI w6 (.slice (some ⟨gx, 0, none⟩) a cx) (x.take a)) := (show Hid _ from HSX.out.take (by rw [HXl.out]; omega))
      have HLE : Hid (els P (x.drop a ++ [1]) = true) := (show Hid _ from els_of fun y hy => by
        rcases List.mem_append.1 hy with h | h
        · exact els_all HXE.out y (List.mem_of_mem_drop h)
        · simp at h; subst h; exact el_mk (by have := (prB_bd hp).1; omega))
      obtain ⟨AQ, eAQ⟩ : ∃ AQ, (if cx = a then (some ⟨gx, 0, none⟩ : Option Addr) else some ⟨gx, a, none⟩) = AQ := ⟨_, rfl⟩
      have HQ2 : Hid (SB w6.heap.size w6 (.slice AQ e (cx - a)) (x.drop a)) := (show Hid _ from by
        by_cases hca : cx = a
        · have he0 : e = 0 := by omega
          have h1 : x.drop a = [] := List.eq_nil_of_length_eq_zero (HXD.out.trans he0)
          rw [h1, he0, hca]
          exact ⟨_, _, rfl, by simp, by omega, fun y hy => by simp at hy, fun h => by simp at h⟩
        · have h1 : SI w6 (.slice (some ⟨gx, 0, none⟩) x.length cx) x := by rw [HXl.out]; exact HSX.out
          have h2 := h1.part (lo := a) (k := e) (by rw [HXl.out]; omega)
          rw [List.take_of_length_le (by rw [HXD.out]; omega), Nat.zero_add] at h2
          rw [← eAQ, if_neg hca]
          exact h2)
      have hcm : cx ≤ 9223372036854775807 := by
        obtain ⟨_, _, e9, _, h9, _⟩ := HSX.out
        injection e9; omega
      clear hxd hxt
      go_upto_region 10 with (at_builtin; first
        | (refine wpList_append_ints _ rfl _ _ 22 rfl w6.heap.size 3 Try.underlying22 iinfo (.slice none 0 0) [] (by rfl) (World.ownsRow_nil _ _ _ _) w6.heap.size (.slice AQ e (cx - a)) (x.drop a) (by rfl) (by exact HQ2.out) (by rw [HXD.out]; simp; omega) (Nat.le_refl _) ?_; intro v7 w7 hown7 hg7; rw [List.nil_append] at hown7; have HO7 := Lib.hid hown7; have HB67 : Hid (Below w6.heap.size w6 w7) := (show Hid _ from ra_bel hg7); clear hown7 hg7)
        | (refine wpList_append_int1 w7 rfl _ _ 22 rfl w6.heap.size 3 Try.underlying22 iinfo v7 (x.drop a) (by rfl) (by exact HO7.out) 1 (by rfl) (by rw [HXD.out]; omega) (by exact HB67.out.size) ?_; intro v8 w8 hown8 hg8; have HO8 := Lib.hid hown8; have HB68 : Hid (Below w6.heap.size w6 w8) := (show Hid _ from (HB67.out.alloc HB67.out.size _).grown hg8 (by have := HB67.out.size; simp; omega) (fun b hb => (HO7.out.lt b hb).1)); clear hown8 hg8))
      have hll : (x.drop a ++ [1]).length = e + 1 := by rw [List.length_append, HXD.out]; rfl
      obtain ⟨g8, cap8, ev8, hg81, hg82⟩ := own_form HO8.out (by rw [hll]; omega)
      subst ev8
      rw [hll]
      have HLL := Lib.hid hll
      have HL8 : Hid (SI w8 (.slice (some ⟨g8, 0, none⟩) (e + 1) cap8) (x.drop a ++ [1])) := (show Hid _ from by
        have h := SI.of_own HO8.out (els_r (prB_bd hp).2 HLE.out)
        rw [hll] at h
        exact h)
      have HQ8 : Hid (SI w8 (.slice (some ⟨gx, 0, none⟩) a cx) (x.take a)) := (show Hid _ from HQ1.out.below HB68.out)
      have HB18 : Hid (Below w1.heap.size w1 w8) := (show Hid _ from HB16.out.trans (HB68.out.mono HB16.out.size))
      have HDIV : Hid (∀ W, Below w8.heap.size w8 W → Calls Try.prog 37 #[.agg #[.int .i64 P], .slice (some ⟨gx, 0, none⟩) a cx, .slice (some ⟨g8, 0, none⟩) (e + 1) cap8] W (DiP P (x.take a) (x.drop a ++ [1]) W)) := (show Hid _ from fun W hW =>
        rdivide_any P (x.take a) (x.drop a ++ [1]) _ _ W hp (HQ8.out.below hW) (HL8.out.below hW) (els_of fun y hy => els_all HXE.out y (List.mem_of_mem_take hy)) HLE.out (by rw [HXT.out]; omega) (by rw [HLL.out]; omega) (trim_app1 _ (by decide)) (by simp))
      clear hll f0 z0 z1 ff0 ff1 hg81 hg82 hgx1 hgx2 HQ2 HSX
      obtain ⟨f0, z0, z1⟩ := HXC.out w8 HB18.out
      have f0d := (HXC.out w8.drew HB18.out.drew).1
      go_region_held3 (fun w' => w'.cell? ⟨F, 0, none⟩ = some (.int .i64 P)) (first | exact f0 | exact f0d | exact f10 | go_keep)
        (first | (go_at_call 37; refine (HDIV.out _ (by first | exact Below.refl _ _ | exact (Below.refl _ w8).drew)).mono ?_; rintro e9 w10 ⟨u1, u2, Q, R, rfl, hb10, hoQ, hoR, heQ, heR, htQ, htR, hlQ, hlR, hdv⟩; have HB10 : Hid (Below w8.heap.size w8 w10) := (show Hid _ from ⟨hb10.os, hb10.tape, hb10.output, hb10.size, hb10.block⟩); have HOQ : Hid (w10.ownsRow w8.heap.size 3 1 u1 Q.length (Q.map (Value.int .i64))) := (show Hid _ from hoQ); have HSR : Hid (SI w10 u2 R) := (show Hid _ from SI.of_own hoR (els_r (prB_bd hp).2 heR)); have f10 := (HXC.out w10 (HB18.out.trans (HB10.out.mono HB18.out.size))).1; clear hb10 hoQ hoR))
      have hlQ' : Q.length ≤ kk := by rw [HXT.out, HLL.out] at hlQ; have := HAE.out; omega
      have hlR' : R.length ≤ e := by rw [HLL.out] at hlR; omega
      have HPT : Hid (Pts P (kn l)) := (show Hid _ from kn_pts hlP hval)
      have HDEC : Hid (∀ p, Good P (kn l) kk e p → Q = p ∧ R = []) := (show Hid _ from fun p hg => sol_good hp HPT.out (by rw [← HK.out]; omega) hg HSol.out heQ heR htQ htR hlQ' hlR' (by rw [← HAE.out]; exact hdv))
      have HRAD : Hid (radN l kk = e) := (show Hid _ from by show _ = _; rw [HEE.out, HK.out]; rfl)
      have HQE := Lib.hid heQ
      have HQT := Lib.hid htQ
      have HB110 : Hid (Below w1.heap.size w1 w10) := (show Hid _ from HB18.out.trans (HB10.out.mono HB18.out.size))
      obtain ⟨A1, c1, eu1⟩ := own_slice HOQ.out
      obtain ⟨A2, c2, eu2⟩ := HSR.out.form
      subst eu1 eu2
      obtain ⟨nQ, enQ⟩ : ∃ n, n = Q.length := ⟨_, rfl⟩
      obtain ⟨nR, enR⟩ : ∃ n, n = R.length := ⟨_, rfl⟩
      rw [← enQ] at hlQ' ⊢
      rw [← enR] at hlR' ⊢
      have HnQ := Lib.hid enQ
      have HnR := Lib.hid enR
      have HSQ : Hid (SI w10 (.slice A1 nQ c1) Q) := (show Hid _ from by rw [enQ]; exact SI.of_own HOQ.out (els_r (prB_bd hp).2 heQ))
      have hF10 : F + 1 < w8.heap.size := Nat.lt_of_lt_of_le hF1 HB18.out.size
      have HVAL := Lib.hid hval
      clear heQ heR htQ htR hlQ hlR hdv enQ enR f0 f0d f10 z0 z1 HDIV HSol hval
      obtain ⟨f0, z0, z1⟩ := HXC.out w10 HB110.out
      have hrow := (HB110.out.block (F + 1) hF1).trans HF1w1.out
      have ff0 := frozen_of_row w10 (F + 1) 0 _ _ hrow
      have ff1 := frozen_of_row w10 (F + 1) 1 _ _ hrow
      have HROW10 := Lib.hid hrow
      have HBw8 : Hid (w.heap.size ≤ w8.heap.size) := (show Hid _ from Nat.le_trans HAw1.out.size HB18.out.size)
      have HBw10 : Hid (Below w.heap.size w w10) := (show Hid _ from HAw1.out.trans (HB110.out.mono HAw1.out.size))
      clear hrow
      by_cases hR : nR = 0
      · subst hR
        have dQ : decide ((kk : Int) < (nQ : Int)) = false := decide_eq_false (by omega)
        have dQn : decide (kk < nQ) = false := decide_eq_false (by omega)
        have HSl : Hid (SCl w10 (.slice A n c) l) := (show Hid _ from HS.out.below HBw10.out)
        go_wp2_with fail
        (with_reducible refine (rwrong_any P l Q _ _ w10 HSl.out HCE.out HSQ.out (opE_mk1 hp HQE.out (by rw [← HnQ.out]; omega)) (by rw [← HnQ.out]; omega)).mono ?_)
        rintro e9 w11 ⟨v11, rfl, ho11, hb11⟩
        obtain ⟨A11, c11, ev11⟩ := own_slice ho11
        subst ev11
        have HOW := Lib.hid ho11
        have HB11 := Lib.hid hb11
        have hwle : (wrg P l Q).length ≤ 32 := Nat.le_trans (wrg_le Q) (by rw [← HK.out]; omega)
        obtain ⟨nW, enW⟩ : ∃ n, n = (wrg P l Q).length := ⟨_, rfl⟩
        rw [← enW] at hwle ⊢
        have HnW := Lib.hid enW
        have HWK : Hid (nW = (wrk P (kn l) Q).length) := (show Hid _ from by show _ = _; rw [enW]; unfold wrg; rw [List.length_map])
        have HB111 : Hid (Below w1.heap.size w1 w11) := (show Hid _ from HB110.out.trans (HB11.out.mono HB110.out.size))
        have HBw11 : Hid (Below w.heap.size w w11) := (show Hid _ from HAw1.out.trans (HB111.out.mono HAw1.out.size))
        clear f0 z0 z1 ff0 ff1 HROW10 ho11 hb11 enW
        obtain ⟨f0, z0, z1⟩ := HXC.out w11 HB111.out
        have hrow := (HB111.out.block (F + 1) hF1).trans HF1w1.out
        have ff0 := frozen_of_row w11 (F + 1) 0 _ _ hrow
        have ff1 := frozen_of_row w11 (F + 1) 1 _ _ hrow
        have HROW11 := Lib.hid hrow
        clear hrow
        by_cases hW : nW ≤ e
        · have dW : decide ((e : Int) < (nW : Int)) = false := decide_eq_false (by omega)
          have dWn : decide (e < nW) = false := decide_eq_false (by omega)
          have HG : Hid (Good P (kn l) ((kk : Int)).toNat (radN l ((kk : Int)).toNat) Q) := (show Hid _ from by
            rw [Int.toNat_natCast, HRAD.out]
            exact ⟨by rw [← HnQ.out]; exact hlQ', HQE.out, HQT.out, by rw [← HWK.out]; exact hW⟩)
          go_wp2_with fail
          have hE := de_two (a := .slice A1 nQ c1) (b := .slice A11 nW c11) HROW11.out
          have hBE := ((HBw11.out.setCell (p := ⟨F + 1, 0, none⟩) (by show _ ≤ F + 1; omega) (.slice A1 nQ c1)).setCell (p := ⟨F + 1, 1, none⟩) (by show _ ≤ F + 1; omega) (.slice A11 nW c11))
          have hs1 := own_setCell' (p := ⟨F + 1, 1, none⟩) (u := .slice A11 nW c11) (own_setCell' (p := ⟨F + 1, 0, none⟩) (u := .slice A1 nQ c1) (own_blw HOQ.out HB11.out) hF10) hF10
          have hF11 : F + 1 < w10.heap.size := Nat.lt_of_lt_of_le hF10 HB10.out.size
          have hs2 := own_setCell' (p := ⟨F + 1, 1, none⟩) (u := .slice A11 nW c11) (own_setCell' (p := ⟨F + 1, 0, none⟩) (u := .slice A1 nQ c1) HOW.out hF11) hF11
          generalize ((w11.setCell ⟨F + 1, 0, none⟩ (.slice A1 nQ c1)).setCell ⟨F + 1, 1, none⟩ (.slice A11 nW c11)) = wE at hE hBE hs1 hs2 ⊢
          have q0 := cell_of_row wE (F + 1) 0 _ _ _ hE
          have q1 := cell_of_row wE (F + 1) 1 _ _ _ hE
          simp at q0 q1
          refine bodyPost_ret (v := .tuple #[.agg #[.slice A1 nQ c1, .slice A11 nW c11], .int .i64 0]) (by simp [results, Try.results13, go_sem, q0, q1]) rfl ?_
          refine ⟨0, _, _, Q, wrg P l Q, rfl, hBE, .inr ⟨HFI.out, .inl ⟨rfl, HG.out⟩⟩, ?_, ?_, fun _ => rfl⟩
          · have h9 := own_lo hs1 HBw8.out; rw [← HnQ.out] at h9 ⊢; exact h9
          · have h9 := own_lo hs2 HBw10.out.size; rw [← HnW.out] at h9 ⊢; exact h9
        · have dW : decide ((e : Int) < (nW : Int)) = true := decide_eq_true (by omega)
          have dWn : decide (e < nW) = true := decide_eq_true (by omega)
          have HNO : Hid (∀ p, ¬ Good P (kn l) ((kk : Int)).toNat (radN l ((kk : Int)).toNat) p) := (show Hid _ from fun p hg => by
            rw [Int.toNat_natCast, HRAD.out] at hg
            have h1 := (HDEC.out p hg).1
            have h2 := hg.few
            rw [← h1, ← HWK.out] at h2
            exact hW h2)
          clear hW
          go_wp2_with fail
          have hE := de_two (a := .slice none 0 0) (b := .slice none 0 0) HROW11.out
          have hBE := ((HBw11.out.setCell (p := ⟨F + 1, 0, none⟩) (by show _ ≤ F + 1; omega) (.slice none 0 0)).setCell (p := ⟨F + 1, 1, none⟩) (by show _ ≤ F + 1; omega) (.slice none 0 0))
          generalize ((w11.setCell ⟨F + 1, 0, none⟩ (.slice none 0 0)).setCell ⟨F + 1, 1, none⟩ (.slice none 0 0)) = wE at hE hBE ⊢
          have q0 := cell_of_row wE (F + 1) 0 _ _ _ hE
          have q1 := cell_of_row wE (F + 1) 1 _ _ _ hE
          simp at q0 q1
          refine bodyPost_ret (v := .tuple #[.agg #[.slice none 0 0, .slice none 0 0], .int .i64 12]) (by simp [results, Try.results13, go_sem, q0, q1]) rfl ?_
          exact ⟨12, _, _, [], [], rfl, hBE, .inr ⟨HFI.out, .inr ⟨rfl, rfl, HNO.out⟩⟩, World.ownsRow_nil _ _ _ _, World.ownsRow_nil _ _ _ _, fun h => by simp at h⟩
      · have dR : decide ((0 : Int) < (nR : Int)) = true := decide_eq_true (by omega)
        have dRn : decide (0 < nR) = true := decide_eq_true (by omega)
        have HNO : Hid (∀ p, ¬ Good P (kn l) ((kk : Int)).toNat (radN l ((kk : Int)).toNat) p) := (show Hid _ from fun p hg => by
          rw [Int.toNat_natCast, HRAD.out] at hg
          have h1 := (HDEC.out p hg).2
          exact hR (by rw [HnR.out, h1]; rfl))
        have dR2 : (0 : Int) < (nR : Int) := by omega
        have dR3 : 0 < nR := by omega
        clear hR
        go_wp2_with fail
        have hE := de_two (a := .slice none 0 0) (b := .slice none 0 0) HROW10.out
        have hBE := ((HBw10.out.setCell (p := ⟨F + 1, 0, none⟩) (by show _ ≤ F + 1; omega) (.slice none 0 0)).setCell (p := ⟨F + 1, 1, none⟩) (by show _ ≤ F + 1; omega) (.slice none 0 0))
        generalize ((w10.setCell ⟨F + 1, 0, none⟩ (.slice none 0 0)).setCell ⟨F + 1, 1, none⟩ (.slice none 0 0)) = wE at hE hBE ⊢
        have q0 := cell_of_row wE (F + 1) 0 _ _ _ hE
        have q1 := cell_of_row wE (F + 1) 1 _ _ _ hE
        simp at q0 q1
        refine bodyPost_ret (v := .tuple #[.agg #[.slice none 0 0, .slice none 0 0], .int .i64 12]) (by simp [results, Try.results13, go_sem, q0, q1]) rfl ?_
        exact ⟨12, _, _, [], [], rfl, hBE, .inr ⟨HFI.out, .inr ⟨rfl, rfl, HNO.out⟩⟩, World.ownsRow_nil _ _ _ _, World.ownsRow_nil _ _ _ _, fun h => by simp at h⟩
    · subst her hv5
      have HNO : Hid (∀ p, ¬ Good P (kn l) ((kk : Int)).toNat (radN l ((kk : Int)).toNat) p) := (show Hid _ from fun p hg => by
        rw [Int.toNat_natCast, show radN l kk = e from by rw [HEE.out, HK.out]; rfl] at hg
        obtain ⟨s, hs, _⟩ := good_sol (prB_bd hp).1 hg
        exact hno ⟨s, by rw [HK.out, HC.out]; exact solE_sol.2 hs⟩)
      clear hno
      go_wp2_with fail
      have hE := de_two (a := .slice none 0 0) (b := .slice none 0 0) HROW6.out
      have hBE := (((HAw1.out.trans (HB16.out.mono HAw1.out.size)).setCell (p := ⟨F + 1, 0, none⟩) (by show _ ≤ F + 1; omega) (.slice none 0 0)).setCell (p := ⟨F + 1, 1, none⟩) (by show _ ≤ F + 1; omega) (.slice none 0 0))
      generalize ((w6.setCell ⟨F + 1, 0, none⟩ (.slice none 0 0)).setCell ⟨F + 1, 1, none⟩ (.slice none 0 0)) = wE at hE hBE ⊢
      have q0 := cell_of_row wE (F + 1) 0 _ _ _ hE
      have q1 := cell_of_row wE (F + 1) 1 _ _ _ hE
      simp at q0 q1
      refine bodyPost_ret (v := .tuple #[.agg #[.slice none 0 0, .slice none 0 0], .int .i64 12]) (by simp [results, Try.results13, go_sem, q0, q1]) rfl ?_
      exact ⟨12, _, _, [], [], rfl, hBE, .inr ⟨HFI.out, .inr ⟨rfl, rfl, HNO.out⟩⟩, World.ownsRow_nil _ _ _ _, World.ownsRow_nil _ _ _ _, fun h => by simp at h⟩
  · have d0 : (fe == 0) = false := by simpa using hf0
    have HE := Lib.hid efe
    have HROW := Lib.hid hrow
    clear hrow efe
    go_wp2_with fail
    have hE := de_two (a := .slice none 0 0) (b := .slice none 0 0) HROW.out
    have hBE := (((HAw1.out.trans (HB2.out.mono HAw1.out.size)).setCell (p := ⟨F + 1, 0, none⟩) (by show _ ≤ F + 1; omega) (.slice none 0 0)).setCell (p := ⟨F + 1, 1, none⟩) (by show _ ≤ F + 1; omega) (.slice none 0 0))
    generalize ((w2.setCell ⟨F + 1, 0, none⟩ (.slice none 0 0)).setCell ⟨F + 1, 1, none⟩ (.slice none 0 0)) = wE at hE hBE ⊢
    have q0 := cell_of_row wE (F + 1) 0 _ _ _ hE
    have q1 := cell_of_row wE (F + 1) 1 _ _ _ hE
    simp at q0 q1
    refine bodyPost_ret (v := .tuple #[.agg #[.slice none 0 0, .slice none 0 0], .int .i64 fe]) (by simp [results, Try.results13, go_sem, q0, q1]) rfl ?_
    exact ⟨fe, _, _, [], [], rfl, hBE, .inl ⟨by rw [← HE.out]; exact hf0, HE.out, rfl⟩, World.ownsRow_nil _ _ _ _, World.ownsRow_nil _ _ _ _, fun h => absurd h hf0⟩
end Go.Proofs.Ytbgabipngdillaa

namespace Go.Proofs.Ytbgabipngdillaa
open Go.RowKit Go.Shelf

theorem ag_wrk {P : Int} {L : List (Int × Bool)} (p : List Int) : agC P L p + (wrk P (kn L) p).length = (kn L).length := by
  unfold agC wrk
  generalize kn L = K
  induction K with
  | nil => rfl
  | cons t K ih =>
    have e1 : ∀ s : Int × Int, hit P p s = (val P p s.1 == s.2) := fun _ => rfl
    rw [List.filter_cons, List.filter_cons, e1 t]
    by_cases h : val P p t.1 = t.2
    · rw [if_pos (by rw [beq_iff_eq]; exact h), if_neg (by simp [h])]
      simp only [List.length_cons]
      omega
    · rw [if_neg (by rw [beq_iff_eq]; exact h), if_pos (by simp [h])]
      simp only [List.length_cons]
      omega
theorem good_ag {P : Int} {L : List (Int × Bool)} {k : Nat} (_hk : k ≤ (kn L).length) (p : List Int) :
    Good P (kn L) k (radN L k) p ↔ els P p = true ∧ p.length ≤ k ∧ trim p = p ∧ (kn L).length - radN L k ≤ agC P L p := by
  have h := ag_wrk (P := P) (L := L) p
  constructor
  · rintro ⟨h1, h2, h3, h4⟩
    exact ⟨h2, h1, h3, by omega⟩
  · rintro ⟨h1, h2, h3, h4⟩
    refine ⟨h2, h1, h3, ?_⟩
    have : radN L k ≤ (kn L).length := by unfold radN; omega
    omega
/-- what unique decoding answers at a valid word -/
theorem VW.un {P : Int} {L : List (Int × Bool)} (h : VW P L) {k : Nat} (h1 : 1 ≤ k) (h2 : k ≤ L.length) {p : List Int} {er : Int} (hu : UnR P L k p er) :
    (er = 11 ∧ (kn L).length < k) ∨ (k ≤ (kn L).length ∧ ((er = 0 ∧ Good P (kn L) k (radN L k) p) ∨ (er = 12 ∧ ∀ q, ¬ Good P (kn L) k (radN L k) q))) := by
  have hf := h.fi h1 h2
  rcases hu with ⟨a1, a2, _⟩ | ⟨a1, a2⟩
  · rw [hf] at a1 a2
    by_cases hk : (kn L).length < k
    · rw [if_pos hk] at a2; exact .inl ⟨a2, hk⟩
    · rw [if_neg hk] at a1; exact absurd rfl a1
  · rw [hf] at a1
    by_cases hk : (kn L).length < k
    · rw [if_pos hk] at a1; cases a1
    · refine .inr ⟨by omega, ?_⟩
      rw [Int.toNat_natCast] at a2
      rcases a2 with ⟨b1, b2⟩ | ⟨b1, _, b2⟩
      · exact .inl ⟨b1, b2⟩
      · exact .inr ⟨b1, b2⟩
theorem VW.pts {P : Int} {L : List (Int × Bool)} (h : VW P L) : Pts P (kn L) where
  dif := h.pv
  val := fun t ht => by
    have := (h.kv t ht).2.2
    unfold el at this
    simp at this
    omega
/-- a lesser number of places: never fewer polynomials -/
theorem asc_len {rs rs' : List (List Int)} (h : Asc rs) (h' : Asc rs') (hs : ∀ p ∈ rs', p ∈ rs) : rs'.length ≤ rs.length := by
  have e : rs' = rs.filter (fun p => decide (p ∈ rs')) := h'.ext (h.filter _) fun p => by
    rw [List.mem_filter]
    simp
    exact fun hp => hs p hp
  rw [e]
  exact List.length_filter_le _ _
/-- the polynomials near enough to be the only ones -/
theorem VW.one {P : Int} {L : List (Int × Bool)} (h : VW P L) {k : Nat} (h2 : k ≤ (kn L).length) {rs : List (List Int)} (ha : Asc rs)
    (hm : ∀ p, p ∈ rs ↔ Good P (kn L) k (radN L k) p) {p : List Int} {er : Int} (hc : (er = 0 ∧ Good P (kn L) k (radN L k) p) ∨ (er = 12 ∧ ∀ q, ¬ Good P (kn L) k (radN L k) q)) :
    (er = 0 ∧ rs = [p]) ∨ (er = 12 ∧ rs = []) := by
  rcases hc with ⟨b1, b2⟩ | ⟨b1, b2⟩
  · refine .inl ⟨b1, ha.ext (List.pairwise_singleton _ _) fun q => ?_⟩
    rw [hm q]
    simp
    constructor
    · exact fun hq => good_uniq h.pr h.pts (by unfold radN; omega) hq b2
    · rintro rfl; exact b2
  · refine .inr ⟨b1, ?_⟩
    rw [List.eq_nil_iff_forall_not_mem]
    exact fun q hq => b2 q ((hm q).1 hq)
end Go.Proofs.Ytbgabipngdillaa

namespace Go.Proofs.Ytbgabipngdillaa
open Go.RowKit Go.Shelf

/-- the loop that counts the known cells -/
def LuA (L : List (Int × Bool)) (n : Nat) (w4 : World) (kv iv : Value) (wr : World) : Prop :=
  ∃ (j c : Nat), j ≤ n ∧ iv = .int .i64 j ∧ kv = .int .i64 c ∧ c = (kn (L.take j)).length ∧ Below w4.heap.size w4 wr
/-- the loop over numbers of places, downwards: what was found before is still found -/
def LuR (P : Int) (L : List (Int × Bool)) (k n : Nat) (w5 : World) (lv iv : Value) (wr : World) : Prop :=
  ∃ (q c : Nat) (rs : List (List Int)), k ≤ q + 1 ∧ q ≤ n ∧ iv = .int .i64 q ∧ lv = .int .i64 c ∧ c = rs.length ∧ Asc rs ∧ (∀ p ∈ rs, els P p = true ∧ p.length ≤ k ∧ trim p = p ∧ q + 1 ≤ agC P L p) ∧ Below w5.heap.size w5 wr
set_option maxRecDepth 100000 in
set_option maxHeartbeats 16000000 in
theorem lunique_any (l : List Int) (m8 : Nat) (v : Value) (w : World) (hm8 : m8 < 256) (h : SI w v l) :
    Calls Try.prog 3 #[v, .int .u8 m8] w fun e w' => e = .returned (.bool true) ∧ Below w.heap.size w w' := by
  have HS := Lib.hid h
  obtain ⟨A, c, rfl⟩ := h.form
  clear h
  go_enter Try.func3, Try.ntmps3
  go_wp2_with fail
  (with_reducible refine (lsane_any _).mono ?_)
  rintro e w1 ⟨rfl, hb1⟩
  have HB1 := Lib.hid hb1
  have HS1 := Lib.hid (HS.out.below hb1)
  clear hb1
  go_wp2_with fail
  (with_reducible refine (few_any l _ w1 HS1.out).mono ?_)
  rintro e wz ⟨rfl, hwz⟩
  subst hwz
  by_cases h5 : l.length ≤ 500
  case' neg =>
    have d5 : decide (l.length ≤ 500) = false := decide_eq_false h5
    rw [d5]
    clear d5 h5
    go_wp2_with fail
    go_ret
    exact ⟨rfl, HB1.out⟩
  have d5 : decide (l.length ≤ 500) = true := decide_eq_true h5
  rw [d5]
  clear d5 h5
  go_wp2_with fail
  (with_reducible refine (new_any l _ w1 HS1.out).mono ?_)
  rintro e w2 ⟨rfl, hd2, hb2, hz2⟩
  obtain ⟨g, eg⟩ : ∃ g, g = w1.heap.size := ⟨_, rfl⟩
  rw [← eg] at hd2 ⊢
  have HD2 := Lib.hid hd2
  have HB2 : Hid (Below w.heap.size w w2) := HB1.out.trans (hb2.mono HB1.out.size)
  have HGW : Hid (w.heap.size ≤ g) := (show Hid _ from by rw [eg]; exact HB1.out.size)
  have HG2 : Hid (g < w2.heap.size) := hd2.lt
  clear hd2 hb2 hz2 eg
  go_wp2_with fail
  (with_reducible refine (lcells_any g w2 HD2.out).mono ?_)
  rintro e w3 ⟨P, vl, L, rfl, hpr, hP8, hl1, hl8, hev, hsc, hd3, hg3⟩
  have hPb := prB_bd hpr
  have hPi : i64r P := by unfold i64r; omega
  have HVW : Hid (VW P L) := (show Hid _ from ⟨hpr, by omega, by omega, kn_el hev⟩)
  obtain ⟨Al, cl, evl⟩ := hsc.scl.form
  subst evl
  obtain ⟨n, en⟩ : ∃ n, n = L.length := ⟨_, rfl⟩
  rw [← en] at hsc hl1 hl8 ⊢
  have HN := Lib.hid en
  have HSC := Lib.hid hsc
  clear hsc hev en
  obtain ⟨F, eF⟩ : ∃ F, F = w3.heap.size := ⟨_, rfl⟩
  obtain ⟨w4, ew4⟩ : ∃ w4 : World, w4 = w3.alloc (.cells #[.int .i64 P] 26) := ⟨_, rfl⟩
  have HWw4 : Hid (w3.alloc (.cells #[.int .i64 P] 26) = w4) := ew4.symm
  have HAw4 : Hid (Below w3.heap.size w3 w4) := (show Hid _ from by rw [ew4]; exact (Below.refl _ w3).alloc (Nat.le_refl _) _)
  have HF0w4 : Hid (w4.heap[F]? = some (.cells #[.int .i64 P] 26 (0, 0))) := (show Hid _ from by show _ = _; rw [ew4, eF]; exact heap_alloc_new w3 _)
  have HGF : Hid (g < F) := (show Hid _ from by rw [eF]; exact hd3.lt)
  have HXC : Hid (∀ W, w4.grownBy W (some g) → W.cell? ⟨F, 0, none⟩ = some (.int .i64 P)) := (show Hid _ from fun W hg => by
    have hF0 := (hg.block F (heap_of_cells HF0w4.out) (by have := HGF.out; simp; omega)).trans HF0w4.out
    exact (cell_of_row W F 0 _ _ _ hF0))
  have HD4 := Lib.hid (hd3.below HAw4.out)
  have HSC4 := Lib.hid (HSC.out.below HAw4.out)
  have HG24 : Hid (w2.grownBy w4 (some g)) := grownBy_trans hg3 (grownBy_of_below HAw4.out _)
  have HBF : Hid (∀ W, w4.grownBy W (some g) → Below w.heap.size w W) := (show Hid _ from fun W hg => HB2.out.grown (grownBy_trans HG24.out hg) HB2.out.size (fun k hk => by injection hk with e; subst e; exact HGW.out))
  have HSCW : Hid (∀ W, w4.grownBy W (some g) → SCl W (.slice Al n cl) L) := (show Hid _ from fun W hg => (HSC4.out.grown hg).scl)
  clear hd3 hg3
  go_upto_region 6 with fail
  rw [HWw4.out, ← eF]
  clear ew4 eF
  obtain ⟨q4, eq4⟩ : ∃ q4 : Nat, q4 = min n 4 := ⟨_, rfl⟩
  have hq4 : 1 ≤ q4 ∧ q4 ≤ 4 ∧ q4 ≤ n := by omega
  have hmin : min (n : Int) 4 = (q4 : Int) := by omega
  obtain ⟨k, ek⟩ : ∃ k : Nat, k = 1 + m8 % q4 := ⟨_, rfl⟩
  have hk1 : 1 ≤ k ∧ k ≤ q4 := by have := Nat.mod_lt m8 (show 0 < q4 by omega); omega
  have hkz : 1 + (m8 : Int) % (q4 : Int) = (k : Int) := by rw [ek]; omega
  clear eq4 ek
  have x0 := HXC.out w4 (grownBy_refl _ _)
  go_wp2_with fail
  clear x0
  go_loopw [8, 41] (fun kv iv wr => LuA L n w4 kv iv wr) (fun _ iv _ => n - (intOf iv).toNat)
  case atStart => exact ⟨0, 0, Nat.zero_le _, rfl, rfl, by simp [kn, knF], Below.refl _ _⟩
  case round =>
    obtain ⟨j, cK, hj, rfl, rfl, hcK, hbel⟩ := hrel
    have HB := Lib.hid hbel
    have HCK := Lib.hid hcK
    have hzr := hbel.size
    clear hbel hcK
    by_cases hlt : j < n
    · have dk : decide ((j : Int) < (n : Int)) = true := decide_eq_true (by omega)
      have dkn : decide (j < n) = true := decide_eq_true hlt
      have hlt' : j < L.length := by rw [← HN.out]; exact hlt
      have hsl := HSCW.out wr (grownBy_of_below HB.out _)
      rw [HN.out] at hsl
      obtain ⟨b, off, eA, hbl, hcell⟩ := hsl.at0 (by omega)
      subst eA
      obtain ⟨c0, c1⟩ := hcell j hlt'
      obtain ⟨xv, exv⟩ : ∃ xv, xv = L[j].1 := ⟨_, rfl⟩
      obtain ⟨bv, ebv⟩ : ∃ bv, bv = L[j].2 := ⟨_, rfl⟩
      rw [← exv] at c0
      rw [← ebv] at c1
      have HSN : Hid ((kn (L.take (j + 1))).length = cK + if bv = true then 1 else 0) := (show Hid _ from by
        show _ = _
        rw [kn_snoc L j hlt', HCK.out, ← ebv, List.length_append]
        cases bv <;> simp)
      have hcl : cK ≤ j := by
        have := kn_len (L.take j) 0
        rw [List.length_take] at this
        rw [HCK.out]
        unfold kn
        omega
      have hj8 : j ≤ 8 := by omega
      clear hcell hsl exv ebv
      obtain ⟨X, eX⟩ : ∃ X, X = wr.heap.size := ⟨_, rfl⟩
      obtain ⟨wx, ewx⟩ : ∃ wx : World, wx = wr.alloc (.cells #[.int .i64 xv, .bool bv] 33) := ⟨_, rfl⟩
      have HWwx : Hid (wr.alloc (.cells #[.int .i64 xv, .bool bv] 33) = wx) := ewx.symm
      have HAwx : Hid (Below wr.heap.size wr wx) := (show Hid _ from by rw [ewx]; exact (Below.refl _ wr).alloc (Nat.le_refl _) _)
      have HX0wx : Hid (wx.heap[X]? = some (.cells #[.int .i64 xv, .bool bv] 33 (0, 0))) := (show Hid _ from by show _ = _; rw [ewx, eX]; exact heap_alloc_new wr _)
      have HXX : Hid (∀ W, Below wx.heap.size wx W → W.cell? ⟨X, 0, none⟩ = some (.int .i64 xv) ∧ W.cell? ⟨X, 1, none⟩ = some (.bool bv)) := (show Hid _ from fun W hg => by
        have hX0 := (hg.block X (heap_of_cells HX0wx.out)).trans HX0wx.out
        exact ⟨cell_of_row W X 0 _ _ _ hX0, cell_of_row W X 1 _ _ _ hX0⟩)
      have HBX : Hid (Below w4.heap.size w4 wx) := (show Hid _ from HB.out.trans (HAwx.out.mono hzr))
      go_upto_region 11 with fail
      rw [HWwx.out, ← eX]
      clear ewx eX
      obtain ⟨y0, y1⟩ := HXX.out wx (Below.refl _ _)
      clear c0 c1
      cases bv
      · have HSN2 : Hid (cK = (kn (L.take (j + 1))).length) := (show Hid _ from by show _ = _; have h := HSN.out; simp at h; omega)
        go_wp2_with fail
        go_roundw
        case rel => exact ⟨j + 1, cK, by omega, by go_num, rfl, HSN2.out, HBX.out⟩
        case measure => simp [intOf]; omega
      · have HSN2 : Hid (cK + 1 = (kn (L.take (j + 1))).length) := (show Hid _ from by show _ = _; have h := HSN.out; simp at h; omega)
        go_wp2_with fail
        go_roundw
        case rel => exact ⟨j + 1, cK + 1, by omega, by go_num, by go_num, HSN2.out, HBX.out⟩
        case measure => simp [intOf]; omega
    · have dk : decide ((j : Int) < (n : Int)) = false := decide_eq_false (by omega)
      have dkn : decide (j < n) = false := decide_eq_false hlt
      have HK : Hid (cK = (kn L).length) := (show Hid _ from by
        show _ = _
        rw [HCK.out, List.take_of_length_le (by rw [← HN.out]; omega)])
      have hKn : cK ≤ n := by rw [HK.out, HN.out]; exact kn_len L 0
      clear hj hlt hzr
      obtain ⟨w5, ew5⟩ : ∃ w5 : World, w5 = wr := ⟨_, rfl⟩
      subst ew5
      go_wp2_with fail
      clear dk dkn
      go_loopw [11, 12] (fun lv iv wr => LuR P L k n w5 lv iv wr) (fun _ iv _ => (intOf iv).toNat)
      case atStart => exact ⟨n, 0, [], by omega, Nat.le_refl _, rfl, rfl, rfl, List.Pairwise.nil, fun p hp => by simp at hp, Below.refl _ _⟩
      case round =>
        obtain ⟨q, c, rs, hq1, hq2, rfl, rfl, hc, hasc, hmem, hb5⟩ := hrel
        have HB5 := Lib.hid hb5
        have HASC := Lib.hid hasc
        have HMEM := Lib.hid hmem
        have HC := Lib.hid hc
        have HGr : Hid (w4.grownBy wr (some g)) := (show Hid _ from grownBy_trans (grownBy_of_below HB.out _) (grownBy_of_below hb5 _))
        have HDr : Hid (g < wr.heap.size) := (show Hid _ from Nat.lt_of_lt_of_le HD4.out.lt HGr.out.size)
        have x0 := HXC.out wr HGr.out
        clear hb5 hasc hmem hc
        by_cases hqk : k ≤ q
        · have dq : decide ((k : Int) ≤ (q : Int)) = true := decide_eq_true (by omega)
          have dqn : decide (k ≤ q) = true := decide_eq_true hqk
          have hde := HVW.out.de (k := k) hk1.1 (by rw [← HN.out]; omega) (ag := (q : Int)) (by omega) (by rw [← HN.out]; omega)
          have HDE := Lib.hid hde
          clear hde
          go_wp2_with fail
          (with_reducible refine (decodes_any P L k q _ wr hPi (HSCW.out wr HGr.out) (by have := HVW.out.l10; omega)).mono ?_)
          rintro e w7 ⟨v7, rs2, rfl, hsle7, hasc7, hmem7, hb7⟩
          obtain ⟨A7, c7, ev7⟩ := (hsle7 g HDr.out).form
          subst ev7
          rw [HDE.out] at hmem7 ⊢
          have HB7 : Hid (Below w5.heap.size w5 w7) := (show Hid _ from HB5.out.trans (hb7.mono HB5.out.size))
          have HM2 : Hid (∀ p ∈ rs2, els P p = true ∧ p.length ≤ k ∧ trim p = p ∧ q - 1 + 1 ≤ agC P L p) := (show Hid _ from fun p hp => by
            have h1 := (hmem7 p).1 hp
            have h2 := HVW.out.mem (k := k) (ag := (q : Int)) (by omega) (by omega) p
            rw [show ((k : Int)).toNat = k from rfl, h2] at h1
            exact ⟨h1.2.1, h1.2.2.1, h1.2.2.2.1, by have := h1.2.2.2.2; omega⟩)
          have hle : rs.length ≤ rs2.length := asc_len hasc7 HASC.out fun p hp => by
            rw [hmem7 p]
            have h2 := HVW.out.mem (k := k) (ag := (q : Int)) (by omega) (by omega) p
            rw [show ((k : Int)).toNat = k from rfl, h2]
            obtain ⟨a1, a2, a3, a4⟩ := HMEM.out p hp
            exact ⟨rfl, a1, a2, a3, by omega⟩
          rw [← HC.out] at hle
          obtain ⟨c2, ec2⟩ : ∃ c2, c2 = rs2.length := ⟨_, rfl⟩
          rw [← ec2] at hle ⊢
          have HC2 := Lib.hid ec2
          have HA2 := Lib.hid hasc7
          have dl : decide ((c2 : Int) < (c : Int)) = false := decide_eq_false (by omega)
          have dln : decide (c2 < c) = false := decide_eq_false (by omega)
          clear hsle7 hmem7 hb7 ec2 hasc7 x0
          go_wp2_with fail
          go_roundw
          case rel => exact ⟨q - 1, c2, rs2, by omega, by omega, by rw [show ((q - 1 : Nat) : Int) = (q : Int) - 1 by omega], by go_num, HC2.out, HA2.out, HM2.out, HB7.out⟩
          case measure => simp [intOf]; omega
        · have dq : decide ((k : Int) ≤ (q : Int)) = false := decide_eq_false (by omega)
          have dqn : decide (k ≤ q) = false := decide_eq_false hqk
          clear HASC HMEM HC
          go_wp2_with fail
          (with_reducible refine (rdec_any P L k _ wr hPi (HSCW.out wr HGr.out) (by have := HVW.out.l10; omega)).mono ?_)
          rintro e w7 ⟨er, v1, v2, p, p2, rfl, hb7, hun, ho1, ho2, _⟩
          have hcases := HVW.out.un hk1.1 (by rw [← HN.out]; omega) hun
          rw [← HK.out] at hcases
          have HCASES := Lib.hid hcases
          obtain ⟨A1, c1, ev1⟩ := own_slice ho1
          obtain ⟨A2, c2, ev2⟩ := own_slice ho2
          subst ev1 ev2
          have HO1 := Lib.hid ho1
          obtain ⟨np, enp⟩ : ∃ np, np = p.length := ⟨_, rfl⟩
          obtain ⟨nq, enq⟩ : ∃ nq, nq = p2.length := ⟨_, rfl⟩
          rw [← enp, ← enq]
          have HNP := Lib.hid enp
          have HB57 : Hid (Below w5.heap.size w5 w7) := (show Hid _ from HB5.out.trans (hb7.mono HB5.out.size))
          have HG7 : Hid (w4.grownBy w7 (some g)) := (show Hid _ from grownBy_trans HGr.out (grownBy_of_below hb7 _))
          clear hb7 hun ho1 ho2 enp enq x0 hcases
          obtain ⟨X, eX⟩ : ∃ X, X = w7.heap.size := ⟨_, rfl⟩
          obtain ⟨w8, ew8⟩ : ∃ w8 : World, w8 = w7.alloc (.cells #[.slice A1 np c1, .slice A2 nq c2] 39) := ⟨_, rfl⟩
          have HWw8 : Hid (w7.alloc (.cells #[.slice A1 np c1, .slice A2 nq c2] 39) = w8) := ew8.symm
          have HAw8 : Hid (Below w7.heap.size w7 w8) := (show Hid _ from by rw [ew8]; exact (Below.refl _ w7).alloc (Nat.le_refl _) _)
          have HX0w8 : Hid (w8.heap[X]? = some (.cells #[.slice A1 np c1, .slice A2 nq c2] 39 (0, 0))) := (show Hid _ from by show _ = _; rw [ew8, eX]; exact heap_alloc_new w7 _)
          have HXX : Hid (∀ W, Below w8.heap.size w8 W → W.cell? ⟨X, 0, none⟩ = some (.slice A1 np c1) ∧ W.cell? ⟨X, 1, none⟩ = some (.slice A2 nq c2)) := (show Hid _ from fun W hg => by
            have hX0 := (hg.block X (heap_of_cells HX0w8.out)).trans HX0w8.out
            exact ⟨cell_of_row W X 0 _ _ _ hX0, cell_of_row W X 1 _ _ _ hX0⟩)
          have HG8 : Hid (w4.grownBy w8 (some g)) := (show Hid _ from grownBy_trans HG7.out (grownBy_of_below HAw8.out _))
          go_upto_region 23 with fail
          rw [HWw8.out, ← eX]
          clear ew8 eX
          rcases HCASES.out with ⟨rfl, _⟩ | ⟨hkk, hcase⟩
          · go_wp2_with fail
            go_ret
            exact ⟨rfl, HBF.out _ HG8.out⟩
          have HCASE := Lib.hid hcase
          have d11 : (er == 11) = false := by
            rw [beq_eq_false_iff_ne]
            rcases hcase with ⟨h, _⟩ | ⟨h, _⟩ <;> omega
          clear hcase HCASES
          have hK32 : cK ≤ 32 := by omega
          go_wp2_with fail
          (with_reducible refine (rradius_any cK k w8 hk1.1 hkk hK32).mono ?_)
          rintro e9 w9 ⟨rfl, rfl⟩
          obtain ⟨e, ee⟩ : ∃ e, e = (cK - k) / 2 := ⟨_, rfl⟩
          rw [← ee]
          obtain ⟨ag, eag⟩ : ∃ ag : Nat, ag = cK - e := ⟨_, rfl⟩
          have hag1 : k ≤ ag := by omega
          have hag2 : ag ≤ n := by omega
          have hagz : (cK : Int) - (e : Int) = (ag : Int) := by omega
          have HRAD : Hid ((kn L).length - radN L k = ag) := (show Hid _ from by show _ = _; unfold radN; rw [← HK.out]; omega)
          clear ee eag
          have x8 := HXC.out w8 HG8.out
          have hde := HVW.out.de (k := k) hk1.1 (by rw [← HN.out]; omega) (ag := (ag : Int)) (by omega) (by rw [← HN.out]; omega)
          have HDE := Lib.hid hde
          clear hde
          have HD8 : Hid (g < w8.heap.size) := (show Hid _ from Nat.lt_of_lt_of_le HD4.out.lt HG8.out.size)
          go_wp2_with fail
          (with_reducible refine (decodes_any P L k ag _ w8 hPi (HSCW.out w8 HG8.out) (by have := HVW.out.l10; omega)).mono ?_)
          rintro e9 w9 ⟨v9, rs9, rfl, hsle9, hasc9, hmem9, hb9⟩
          rw [HDE.out] at hmem9 ⊢
          have hM : ∀ p, p ∈ rs9 ↔ Good P (kn L) k (radN L k) p := fun p => by
            rw [hmem9 p, good_ag (by rw [← HK.out]; exact hkk), HRAD.out]
            have h2 := HVW.out.mem (k := k) (ag := (ag : Int)) (by omega) (by omega) p
            rw [show ((k : Int)).toNat = k from rfl, h2]
            constructor
            · rintro ⟨_, h1, h2, h3, h4⟩; exact ⟨h1, h2, h3, by omega⟩
            · rintro ⟨h1, h2, h3, h4⟩; exact ⟨rfl, h1, h2, h3, by omega⟩
          have hone := HVW.out.one (by rw [← HK.out]; exact hkk) hasc9 hM HCASE.out
          have HSL := Lib.hid (hsle9 g HD8.out)
          have HB89 := Lib.hid hb9
          have HG9 : Hid (w4.grownBy w9 (some g)) := (show Hid _ from grownBy_trans HG8.out (grownBy_of_below hb9 _))
          have HO9 : Hid (w9.ownsRow wr.heap.size 3 1 (.slice A1 np c1) p.length (p.map (Value.int .i64))) := (show Hid _ from by
            have h := own_blw (own_blw HO1.out HAw8.out) hb9
            rw [← HNP.out] at h ⊢
            exact h)
          clear hsle9 hasc9 hmem9 hM hb9 HCASE x8
          rcases hone with ⟨rfl, rfl⟩ | ⟨rfl, rfl⟩
          · obtain ⟨A9, c9, ev9, hat9⟩ := HSL.out.sl.at
            subst ev9
            obtain ⟨b, off, B, d, eA, hW⟩ := hat9 0 (by simp)
            subst eA
            simp only [List.getElem_cons_zero, Nat.add_zero] at hW
            rw [← HNP.out] at hW
            have HW := Lib.hid hW
            obtain ⟨h0, hsi⟩ := hW w9 (Below.refl _ _)
            have HSI := Lib.hid hsi
            obtain ⟨y0, y1⟩ := HXX.out w9 HB89.out
            have HP : Hid (∀ W, Below w9.heap.size w9 W → SI W (.slice A1 np c1) p) := (show Hid _ from fun W hW => by
              have h := SI.of_own HO9.out (fun y hy => by
                obtain ⟨_, _, _, _, _, hr, _⟩ := HSI.out
                exact hr y hy)
              exact h.below hW)
            clear hat9 hW hsi
            go_upto_region 29 with fail
            go_region_held3 (fun w' => w'.cell? ⟨b, off, none⟩ = some (.slice B np d) ∧ w'.cell? ⟨X, 0, none⟩ = some (.slice A1 np c1)) (first | exact ⟨h0, y0⟩ | exact H10.out | go_keep)
              (first | (go_at_call 15; refine (same4_any p p _ _ _ (by first | exact (HW.out _ (Below.refl _ _)).2 | exact (HW.out _ (Below.refl _ w9).drew).2) (by first | exact HP.out _ (Below.refl _ _) | exact HP.out _ (Below.refl _ w9).drew)).mono ?_; rintro e10 w10 ⟨rfl, hb10⟩; have HB10 : Hid (Below w9.heap.size w9 w10) := (show Hid _ from ⟨hb10.os, hb10.tape, hb10.output, hb10.size, hb10.block⟩); have H10 := Lib.hid (And.intro (HW.out w10 HB10.out).1 (HXX.out w10 (HB89.out.trans (HB10.out.mono HB89.out.size))).1); clear hb10))
            go_wp2_with fail
            go_ret
            exact ⟨rfl, HBF.out _ (grownBy_trans HG9.out (grownBy_of_below HB10.out _))⟩
          · obtain ⟨A9, c9, ev9⟩ := HSL.out.form
            subst ev9
            go_wp2_with fail
            go_region
            all_goals
              go_wp2_with fail
              go_ret
              exact ⟨rfl, HBF.out _ (grownBy_trans HG9.out (grownBy_of_below (Below.refl _ w9).drew _))⟩
end Go.Proofs.Ytbgabipngdillaa
