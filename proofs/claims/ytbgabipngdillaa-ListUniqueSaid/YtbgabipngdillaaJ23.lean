/- Joined: Lp. -/
import Derived.Test.YtbgabipngdillaaJ13
import Derived.Test.YtbgabipngdillaaJ21
import Derived.Test.YtbgabipngdillaaJ22
namespace Go.Proofs.Ytbgabipngdillaa

theorem drop_knF (l : List (Int × Bool)) (m : Nat) (hm : m + 1 ≤ l.length) :
    knF (l.length - (m + 1)) (l.drop (l.length - (m + 1))) = (if (l.getD (l.length - (m + 1)) (0, false)).2 = true then [(((l.length - (m + 1) : Nat) : Int) + 1, (l.getD (l.length - (m + 1)) (0, false)).1)] else []) ++ knF (l.length - m) (l.drop (l.length - m)) := by
  obtain ⟨j, hj⟩ : ∃ j, j = l.length - (m + 1) := ⟨_, rfl⟩
  have hjl : j < l.length := by omega
  have e1 : l.length - m = j + 1 := by omega
  rw [← hj, e1]
  have e2 : l.drop j = l[j] :: l.drop (j + 1) := List.drop_eq_getElem_cons hjl
  have e3 : l.getD j (0, false) = l[j] := by simp [List.getD, hjl]
  rw [e2, e3]
  rfl
/-- the choices: all sublists of the known cells that are long enough -/
theorem chs_iff (l : List (Int × Bool)) (k : Nat) : ∀ m, m ≤ l.length → ∀ ch, ch.length ≤ k → ∀ c, c ∈ chs l k m ch ↔ c.length = k ∧ ∃ t, t.Sublist (knF (l.length - m) (l.drop (l.length - m))) ∧ c = ch ++ t := by
  intro m
  induction m with
  | zero =>
    intro _ ch hch c
    have e : knF (l.length - 0) (l.drop (l.length - 0)) = [] := by simp [knF]
    rw [e]
    simp only [chs, List.sublist_nil]
    split
    · rename_i h
      simp only [List.mem_singleton]
      constructor
      · rintro rfl
        exact ⟨h, [], rfl, by simp⟩
      · rintro ⟨_, t, rfl, h2⟩
        simpa using h2
    · rename_i h
      simp only [List.not_mem_nil, false_iff]
      rintro ⟨h1, t, rfl, h2⟩
      rw [h2] at h1
      simp at h1
      exact h h1
  | succ m ih =>
    intro hm ch hch c
    rw [drop_knF l m hm]
    by_cases h : ch.length = k
    · simp only [chs, if_pos h, List.mem_singleton]
      constructor
      · rintro rfl
        exact ⟨h, [], List.nil_sublist _, by simp⟩
      · rintro ⟨h1, t, _, h2⟩
        rw [h2, List.length_append] at h1
        have : t = [] := List.eq_nil_of_length_eq_zero (by omega)
        rw [h2, this, List.append_nil]
    · simp only [chs, if_neg h, List.mem_append]
      rw [ih (by omega) ch hch c]
      by_cases hb : (l.getD (l.length - (m + 1)) (0, false)).2 = true
      · rw [if_pos hb, if_pos hb, ih (by omega) _ (by rw [List.length_append]; simp; omega) c]
        constructor
        · rintro (⟨h1, t, h2, h3⟩ | ⟨h1, t, h2, h3⟩)
          · exact ⟨h1, _ :: t, h2.cons_cons _, by rw [h3]; simp⟩
          · exact ⟨h1, t, h2.cons _, h3⟩
        · rintro ⟨h1, t, h2, h3⟩
          simp only [List.cons_append, List.nil_append] at h2
          rcases List.sublist_cons_iff.1 h2 with h4 | ⟨r, rfl, h4⟩
          · exact .inr ⟨h1, t, h4, h3⟩
          · exact .inl ⟨h1, r, h4, by rw [h3]; simp⟩
      · rw [if_neg hb, if_neg hb]
        simp
theorem chs_all (l : List (Int × Bool)) (k : Nat) (c : List (Int × Int)) : c ∈ chs l k l.length [] ↔ c.Sublist (kn l) ∧ c.length = k := by
  rw [chs_iff l k l.length (Nat.le_refl _) [] (Nat.zero_le _) c, Nat.sub_self, List.drop_zero]
  constructor
  · rintro ⟨h1, t, h2, h3⟩
    rw [List.nil_append] at h3
    subst h3
    exact ⟨h2, h1⟩
  · rintro ⟨h1, h2⟩
    exact ⟨h2, c, h1, rfl⟩

theorem kn_el {P : Int} {l : List (Int × Bool)} (h : ∀ x ∈ l, el P x.1 = true) : ∀ t ∈ kn l, el P t.2 = true := fun t ht => by
  obtain ⟨j, hj, _, rfl⟩ := kn_val l t ht
  exact h _ (List.getElem_mem hj)
/-- a valid word -/
structure VW (P : Int) (l : List (Int × Bool)) : Prop where
  pr : prB P = true
  l10 : l.length ≤ 10
  lP : (l.length : Int) < P
  ev : ∀ t ∈ kn l, el P t.2 = true
theorem VW.p2 {P : Int} {l : List (Int × Bool)} (h : VW P l) : 2 ≤ P ∧ P ≤ 65521 := prB_bd h.pr
theorem VW.kv {P : Int} {l : List (Int × Bool)} (h : VW P l) : ∀ t ∈ kn l, 1 ≤ t.1 ∧ t.1 ≤ l.length ∧ el P t.2 = true := fun t ht => by
  obtain ⟨j, hj, _, rfl⟩ := kn_val l t ht
  exact ⟨by simp only; omega, by simp only; omega, h.ev _ ht⟩
theorem VW.ce {P : Int} {l : List (Int × Bool)} (h : VW P l) : ceE P l = 0 :=
  ce_ok h.pr (by have := h.l10; have := h.lP; omega) (fun t ht => by rw [List.take_length] at ht; exact (h.kv t ht).2.2)
theorem VW.pv {P : Int} {l : List (Int × Bool)} (h : VW P l) : (kn l).Pairwise fun a b => ¬ P ∣ a.1 - b.1 := by
  have h1 : (kn l).Pairwise fun a b => a.1 < b.1 := knF_pw l 0
  refine h1.imp_of_mem fun {a b} ha hb hab hd => ?_
  have h2 := h.kv a ha
  have h3 := h.kv b hb
  have h4 := h.lP
  obtain ⟨c, hc⟩ := hd
  have : c = 0 := by
    rcases Int.lt_trichotomy c 0 with hc0 | hc0 | hc0
    · have : P * c ≤ P * (-1) := Int.mul_le_mul_of_nonneg_left (by omega) (by omega)
      omega
    · exact hc0
    · have : P * 1 ≤ P * c := Int.mul_le_mul_of_nonneg_left (by omega) (by omega)
      omega
  rw [this] at hc
  omega
theorem VW.ie {P : Int} {l : List (Int × Bool)} (h : VW P l) {c : List (Int × Int)} (hc : c.Sublist (kn l)) : inE P c = 0 := by
  have hlen : c.length ≤ 10 := by have := hc.length_le; have := kn_len l 0; have := h.l10; unfold kn at *; omega
  have ho : opE P [shX c, shY c] = 0 := by
    unfold opE
    rw [if_neg (by rw [h.pr]; simp), if_neg, if_neg]
    · simp [longB, shX, shY]
      omega
    · simp only [List.all_cons, List.all_nil, Bool.and_true, Bool.and_eq_false_iff, not_or, Bool.not_eq_false]
      refine ⟨els_of fun x hx => ?_, els_of fun x hx => ?_⟩
      · obtain ⟨t, ht, rfl⟩ := List.mem_map.1 hx
        have := h.kv t (hc.subset ht)
        have := h.lP
        exact el_mk (by omega)
      · obtain ⟨t, ht, rfl⟩ := List.mem_map.1 hx
        exact (h.kv t (hc.subset ht)).2.2
  refine (inE_0 ho ?_).1
  have h1 : c.Pairwise fun a b => a.1 < b.1 := (knF_pw l 0).sublist hc
  unfold shX
  rw [List.nodup_iff_pairwise_ne, List.pairwise_map]
  exact h1.imp fun h => by omega
theorem inP_intr {P : Int} {c : List (Int × Int)} (h : inE P c = 0) : inP P c = interp P c := if_pos h
theorem inP_ok {P : Int} {c : List (Int × Int)} (hP : 2 ≤ P) (h : inE P c = 0) : els P (inP P c) = true ∧ (inP P c).length ≤ c.length := by
  rw [inP_intr h]
  unfold interp
  refine ⟨trim_els (newt_els hP c).1, Nat.le_trans (trim_len _) ?_⟩
  rw [(newt_len P c).1]
  split <;> omega
theorem VW.pt {P : Int} {l : List (Int × Bool)} (h : VW P l) {c : List (Int × Int)} (hc : c.Sublist (kn l)) : ∀ t ∈ c, val P (inP P c) t.1 = t.2 := fun t ht => by
  rw [inP_intr (h.ie hc)]
  have hpw : c.Pairwise fun a b => ¬ P ∣ a.1 - b.1 := h.pv.sublist hc
  have hd : ∀ i j (hi : i < c.length) (hj : j < c.length), i ≠ j → ¬ P ∣ c[i].1 - c[j].1 := fun i j hi hj hne hdv => by
    rcases Nat.lt_or_gt_of_ne hne with h1 | h1
    · exact List.pairwise_iff_getElem.1 hpw i j hi hj h1 hdv
    · refine List.pairwise_iff_getElem.1 hpw j i hj hi h1 ?_
      obtain ⟨q, hq⟩ := hdv
      exact ⟨-q, by rw [Int.mul_neg]; omega⟩
  obtain ⟨i, hi, rfl⟩ := List.getElem_of_mem ht
  have h1 := interp_pt h.pr c hd hi
  have h2 := el_t (h.kv _ (hc.subset ht)).2.2
  rw [val_ez]
  have h3 : (ez (interp P c) c[i].1 - c[i].2) % P = 0 := Int.emod_eq_zero_of_dvd h1
  rw [← Int.emod_eq_of_lt h2.1 h2.2]
  exact (Int.emod_eq_emod_iff_emod_sub_eq_zero).2 h3
theorem VW.ag {P : Int} {l : List (Int × Bool)} (h : VW P l) {p : List Int} (he : els P p = true) (hl : p.length ≤ 512) : agE P l p = 0 ∧ agN P l p = agC P l p := by
  refine ag_0 h.ce ?_
  unfold opE
  rw [if_neg (by rw [h.pr]; simp), if_neg (by simp [he]), if_neg]
  simp [longB]
  omega
theorem agC_le {P : Int} {l : List (Int × Bool)} {p : List Int} : agC P l p ≤ l.length := by
  unfold agC
  exact Nat.le_trans (List.length_filter_le _ _) (kn_len l 0)
theorem VW.cho {P : Int} {l : List (Int × Bool)} (h : VW P l) {k : Nat} (hk : k ≤ 512) {c : List (Int × Int)} (hc : c ∈ chs l k l.length []) : c.Sublist (kn l) ∧ c.length = k ∧ inE P c = 0 ∧ els P (inP P c) = true ∧ (inP P c).length ≤ k ∧ agN P l (inP P c) = agC P l (inP P c) ∧ k ≤ agC P l (inP P c) := by
  obtain ⟨h1, h2⟩ := (chs_all l k c).1 hc
  have h3 := h.ie h1
  obtain ⟨h4, h5⟩ := inP_ok h.p2.1 h3
  have h6 := h.ag h4 (by omega)
  refine ⟨h1, h2, h3, h4, by omega, h6.2, ?_⟩
  have h7 : c.Sublist ((kn l).filter (hit P (inP P c))) := by
    have := h1.filter (hit P (inP P c))
    rwa [List.filter_eq_self.2 fun t ht => by unfold hit; rw [beq_iff_eq]; exact h.pt h1 t ht] at this
  have := h7.length_le
  unfold agC
  omega
theorem val_trim {P : Int} (p : List Int) (x : Int) : val P (trim p) x = val P p x := by
  rw [val_ez, val_ez]
  congr 1
  have key : ∀ a b : List Int, (∀ j, gd a j = gd b j) → ez a x = ez b x := by
    intro a
    induction a with
    | nil =>
      intro b
      induction b with
      | nil => intro _; rfl
      | cons c b ih =>
        intro h
        have h0 := h 0
        simp [gd] at h0
        have h1 := ih (fun j => by have := h (j + 1); simpa [gd] using this)
        rw [ez_nil, ez_cons, ← h0, ← h1, ez_nil]
        simp
    | cons c a ih =>
      intro b h
      cases b with
      | nil =>
        have h0 := h 0
        simp [gd] at h0
        have h1 := ih [] (fun j => by have := h (j + 1); simpa [gd] using this)
        rw [ez_nil, ez_cons, h0, h1, ez_nil]
        simp
      | cons d b =>
        have h0 := h 0
        simp [gd] at h0
        have h1 := ih b (fun j => by have := h (j + 1); simpa [gd] using this)
        rw [ez_cons, ez_cons, h0, h1]
  exact key _ _ (trim_gd p)
theorem agC_trim {P : Int} {l : List (Int × Bool)} (p : List Int) : agC P l (trim p) = agC P l p := by
  unfold agC hit
  simp only [val_trim]
/-- a polynomial that is short enough and runs through a choice's cells is the choice's -/
theorem VW.uq {P : Int} {l : List (Int × Bool)} (h : VW P l) {c : List (Int × Int)} (hc : c.Sublist (kn l)) {p : List Int} (he : els P p = true) (hl : p.length ≤ c.length) (hv : ∀ t ∈ c, val P p t.1 = t.2) : trim p = inP P c := by
  have h1 := h.ie hc
  obtain ⟨h2, h3⟩ := inP_ok h.p2.1 h1
  have haz : az P (az_add p (zmul (-1) (inP P c))) := by
    refine pts_roots h.pr (h.pv.sublist hc) _ (by rw [add_len, zmul_len]; omega) fun t ht => ?_
    rw [add_ez, zmul_ez]
    have a := val_dvd (hv t ht)
    have b := val_dvd (h.pt hc t ht)
    obtain ⟨x, hx⟩ := a
    obtain ⟨y, hy⟩ := b
    exact ⟨x - y, by rw [Int.mul_sub]; omega⟩
  have hg : ∀ j, gd p j = gd (inP P c) j := els_cong h.p2.1 he h2 fun j => by
    have := az_gd haz j
    rw [add_gd, zmul_gd] at this
    rw [show gd p j - gd (inP P c) j = gd p j + -1 * gd (inP P c) j by omega]
    exact this
  rw [← @inP_trim P c]
  exact eqz_trim hg
/-- whatever agrees in k places is among the choices -/
theorem VW.found {P : Int} {l : List (Int × Bool)} (h : VW P l) {k : Nat} (_hk : k ≤ 512) {p : List Int} (he : els P p = true) (hl : p.length ≤ k) (ha : k ≤ agC P l p) : ∃ c ∈ chs l k l.length [], inP P c = trim p := by
  refine ⟨((kn l).filter (hit P p)).take k, (chs_all l k _).2 ⟨(List.take_sublist _ _).trans List.filter_sublist, ?_⟩, ?_⟩
  · rw [List.length_take]
    unfold agC at ha
    omega
  · refine (h.uq ((List.take_sublist _ _).trans List.filter_sublist) he ?_ fun t ht => ?_).symm
    · rw [List.length_take]
      unfold agC at ha
      omega
    · have := List.mem_filter.1 (List.mem_of_mem_take ht)
      have h2 := this.2
      unfold hit at h2
      exact beq_iff_eq.1 h2

/-- the most places -/
theorem fold_most (P : Int) (l : List (Int × Bool)) (ag : Int) (cs : List (List (Int × Int))) (hcs : ∀ c ∈ cs, inE P c = 0) : ∀ st, st.2 ≤ (cs.foldl (lookS P l ag) st).2 ∧ (∀ c ∈ cs, agN P l (inP P c) ≤ (cs.foldl (lookS P l ag) st).2) ∧ ((cs.foldl (lookS P l ag) st).2 = st.2 ∨ ∃ c ∈ cs, agN P l (inP P c) = (cs.foldl (lookS P l ag) st).2) := by
  induction cs with
  | nil => intro st; exact ⟨Int.le_refl _, fun c hc => by simp at hc, .inl rfl⟩
  | cons a cs ih =>
    intro st
    obtain ⟨h1, h2, h3⟩ := ih (fun c hc => hcs c (List.mem_cons_of_mem _ hc)) (lookS P l ag st a)
    have h0 := hcs a (List.mem_cons_self)
    have e2 : (lookS P l ag st a).2 = if st.2 < agN P l (inP P a) then agN P l (inP P a) else st.2 := by unfold lookS; rw [if_pos h0]
    simp only [List.foldl_cons]
    rw [e2] at h1 h3
    refine ⟨?_, ?_, ?_⟩
    · split at h1 <;> omega
    · intro c hc
      rcases List.mem_cons.1 hc with rfl | hc
      · split at h1 <;> omega
      · exact h2 c hc
    · rcases h3 with h3 | ⟨c, hc, h3⟩
      · split at h3
        · exact .inr ⟨a, List.mem_cons_self, h3.symm⟩
        · exact .inl h3
      · exact .inr ⟨c, List.mem_cons_of_mem _ hc, h3⟩
theorem VW.most {P : Int} {l : List (Int × Bool)} (h : VW P l) {k : Nat} (hk0 : 1 ≤ k) (hk : k ≤ (kn l).length) (ag : Int) :
    (∀ c ∈ chs l k l.length [], agN P l (inP P c) ≤ (runS P l k ag).2) ∧ (∃ c ∈ chs l k l.length [], agN P l (inP P c) = (runS P l k ag).2) ∧ (k : Int) ≤ (runS P l k ag).2 ∧ (runS P l k ag).2 ≤ l.length := by
  have hl10 := h.l10
  have hkn := kn_len l 0
  have hk5 : k ≤ 512 := by unfold kn at hk; omega
  have hf := fold_most P l ag (chs l k l.length []) (fun c hc => (h.cho hk5 hc).2.2.1) ([], 0)
  have hc0 : (kn l).take k ∈ chs l k l.length [] := (chs_all l k _).2 ⟨List.take_sublist _ _, by rw [List.length_take]; omega⟩
  have h1 := (h.cho hk5 hc0).2.2.2.2.2
  have h2 := hf.2.1 _ hc0
  have hge : (k : Int) ≤ (runS P l k ag).2 := by unfold runS; omega
  have hex : ∃ c ∈ chs l k l.length [], agN P l (inP P c) = (runS P l k ag).2 := by
    rcases hf.2.2 with h3 | h3
    · have : (runS P l k ag).2 = 0 := h3
      omega
    · exact h3
  refine ⟨hf.2.1, hex, hge, ?_⟩
  obtain ⟨c, hc, e⟩ := hex
  rw [← e, (h.cho hk5 hc).2.2.2.2.2.1]
  have := @agC_le P l (inP P c)
  omega
/-- what a search for ag or more places finds, ag at least k -/
theorem VW.mem {P : Int} {l : List (Int × Bool)} (h : VW P l) {k : Nat} (hk : k ≤ 512) {ag : Int} (hag : (k : Int) ≤ ag) (p : List Int) : p ∈ (runS P l k ag).1 ↔ els P p = true ∧ p.length ≤ k ∧ trim p = p ∧ ag ≤ agC P l p := by
  rw [run_mem]
  constructor
  · rintro ⟨c, hc, h1, h2, rfl⟩
    obtain ⟨_, _, _, h4, h5, h6, _⟩ := h.cho hk hc
    exact ⟨h4, h5, inP_trim, by omega⟩
  · rintro ⟨h1, h2, h3, h4⟩
    obtain ⟨c, hc, e⟩ := h.found hk h1 h2 (by omega)
    rw [h3] at e
    obtain ⟨_, _, h5, _, _, h6, _⟩ := h.cho hk hc
    exact ⟨c, hc, h5, by rw [h6, e]; exact h4, e.symm⟩
end Go.Proofs.Ytbgabipngdillaa
