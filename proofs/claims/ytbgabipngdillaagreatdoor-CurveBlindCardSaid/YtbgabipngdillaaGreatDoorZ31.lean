/- Joined: Bp Bq Bl. -/
import Derived.Test.YtbgabipngdillaaGreatDoorZ21
import Derived.Test.YtbgabipngdillaaGreatDoorZ27
namespace Go.Proofs.YtbgabipngdillaaGreatDoor
open Go.RowKit

/-- two columns: the known cells differ by two polynomials -/
def Shf (P : Int) (A B : List Int) (i : Nat) (l m : List (Int × Bool)) : Prop := l.length = m.length ∧ ∀ j (h1 : j < l.length) (h2 : j < m.length), l[j].2 = m[j].2 ∧ (l[j].2 = true → (0 ≤ l[j].1 ∧ l[j].1 < P) ∧ (0 ≤ m[j].1 ∧ m[j].1 < P) ∧ P ∣ (l[j].1 - val P A ((i : Int) + (j : Int) + 1)) - (m[j].1 - val P B ((i : Int) + (j : Int) + 1)))
theorem Shf.tail {P : Int} {A B : List Int} {i : Nat} {x y : Int × Bool} {l m : List (Int × Bool)} (h : Shf P A B i (x :: l) (y :: m)) : Shf P A B (i + 1) l m := by
  refine ⟨by have := h.1; simpa using this, fun j h1 h2 => ?_⟩
  have := h.2 (j + 1) (by simpa using h1) (by simpa using h2)
  have e : (i : Int) + ((j + 1 : Nat) : Int) + 1 = ((i + 1 : Nat) : Int) + (j : Int) + 1 := by omega
  rw [e] at this
  exact this
theorem Shf.symm {P : Int} {A B : List Int} {i : Nat} {l m : List (Int × Bool)} (h : Shf P A B i l m) : Shf P B A i m l := by
  refine ⟨h.1.symm, fun j h1 h2 => ?_⟩
  obtain ⟨a, b⟩ := h.2 j h2 h1
  refine ⟨a.symm, fun hk => ?_⟩
  obtain ⟨c, d, e⟩ := b (a.trans hk)
  refine ⟨d, c, ?_⟩
  have := Int.dvd_neg.2 e
  exact dvd_of_eq' this (by omega)
/-- the polynomial of the other column -/
def shp (P : Int) (A B p : List Int) : List Int := trim ((az_add (az_add p (zmul (-1) A)) B).map (· % P))
theorem shp_val (P : Int) (A B p : List Int) (x : Int) : P ∣ val P (shp P A B p) x - (val P p x - val P A x + val P B x) := by
  unfold shp
  rw [val_ez, ez_trim, val_ez, val_ez, val_ez]
  obtain ⟨k1, h1⟩ := ez_modm (P := P) (az_add (az_add p (zmul (-1) A)) B) x
  rw [add_ez, add_ez, zmul_ez] at h1
  obtain ⟨k2, h2⟩ := mod_dvd P (ez ((az_add (az_add p (zmul (-1) A)) B).map (· % P)) x)
  obtain ⟨k3, h3⟩ := mod_dvd P (ez p x)
  obtain ⟨k4, h4⟩ := mod_dvd P (ez A x)
  obtain ⟨k5, h5⟩ := mod_dvd P (ez B x)
  refine ⟨k1 + k2 - (k3 - k4 + k5), ?_⟩
  rw [Int.mul_sub, Int.mul_add, Int.mul_add, Int.mul_sub]
  omega
theorem shp_right {P a b c d u v : Int} (hd : P ∣ (a - c) - (b - d)) (hu : u = a) (hv : P ∣ v - (u - c + d)) (h1 : 0 ≤ v ∧ v < P) (h2 : 0 ≤ b ∧ b < P) : v = b := by
  subst hu
  have h3 : P ∣ v - b := dvd_of_eq' (Int.dvd_add hv hd) (by omega)
  have h4 := Int.emod_eq_emod_iff_emod_sub_eq_zero.2 (Int.emod_eq_zero_of_dvd h3)
  rwa [Int.emod_eq_of_lt h1.1 h1.2, Int.emod_eq_of_lt h2.1 h2.2] at h4
theorem shp_left {P a b c d u v : Int} (hd : P ∣ (a - c) - (b - d)) (hu : v = b) (hv : P ∣ v - (u - c + d)) (h1 : 0 ≤ u ∧ u < P) (h2 : 0 ≤ a ∧ a < P) : u = a := by
  subst hu
  have h3 : P ∣ u - a := by
    have := Int.dvd_neg.2 (Int.dvd_add hv hd)
    exact dvd_of_eq' this (by omega)
  have h4 := Int.emod_eq_emod_iff_emod_sub_eq_zero.2 (Int.emod_eq_zero_of_dvd h3)
  rwa [Int.emod_eq_of_lt h1.1 h1.2, Int.emod_eq_of_lt h2.1 h2.2] at h4
theorem val_rg {P : Int} (hP : 2 ≤ P) (p : List Int) (x : Int) : 0 ≤ val P p x ∧ val P p x < P := by
  rw [val_ez]; exact ⟨Int.emod_nonneg _ (by omega), Int.emod_lt_of_pos _ (by omega)⟩
/-- the wrong cells are the same -/
theorem Shf.wrong {P : Int} {A B : List Int} (hP : 2 ≤ P) (p : List Int) : ∀ (l m : List (Int × Bool)) (i : Nat), Shf P A B i l m → (wrk P (knF i l) p).map Prod.fst = (wrk P (knF i m) (shp P A B p)).map Prod.fst ∧ (knF i l).length = (knF i m).length
  | [], [], i, _ => by simp [knF, wrk]
  | [], y :: m, i, h => by have := h.1; simp at this
  | x :: l, [], i, h => by have := h.1; simp at this
  | x :: l, y :: m, i, h => by
    obtain ⟨ih, ihl⟩ := Shf.wrong hP p l m (i + 1) h.tail
    obtain ⟨h0, h1⟩ := h.2 0 (by simp) (by simp)
    simp only [List.getElem_cons_zero] at h0 h1
    unfold wrk at ih ⊢
    rw [knF, knF, List.filter_append, List.filter_append, List.map_append, List.map_append, ih, List.length_append, List.length_append, ihl, ← h0]
    cases hk : x.2 with
    | false => simp
    | true =>
      obtain ⟨b1, b2, hd⟩ := h1 hk
      have e : (i : Int) + ((0 : Nat) : Int) + 1 = (i : Int) + 1 := by omega
      rw [e] at hd
      have hv := shp_val P A B p ((i : Int) + 1)
      refine ⟨?_, by simp⟩
      congr 1
      by_cases hr : val P p ((i : Int) + 1) = x.1
      · have := shp_right hd hr hv (val_rg hP _ _) b2
        simp [hr, this]
      · have h2 : ¬ val P (shp P A B p) ((i : Int) + 1) = y.1 := fun e => hr (shp_left hd e hv (val_rg hP _ _) b1)
        simp [hr, h2]
theorem Shf.wrg_eq {P : Int} {A B : List Int} {l m : List (Int × Bool)} (hP : 2 ≤ P) (h : Shf P A B 0 l m) (p : List Int) : wrg P l p = wrg P m (shp P A B p) := (Shf.wrong hP p l m 0 h).1
theorem Shf.kn_eq {P : Int} {A B : List Int} {l m : List (Int × Bool)} (hP : 2 ≤ P) (h : Shf P A B 0 l m) : (kn l).length = (kn m).length := (Shf.wrong hP [] l m 0 h).2
theorem Shf.good {P : Int} {A B p : List Int} {l m : List (Int × Bool)} {k : Nat} (hP : 2 ≤ P) (h : Shf P A B 0 l m) (hA : A.length ≤ k) (hB : B.length ≤ k) (hg : Good P (kn l) k (radN l k) p) : Good P (kn m) k (radN m k) (shp P A B p) where
  len := by
    unfold shp
    refine Nat.le_trans (trim_len _) ?_
    rw [List.length_map, add_len, add_len, zmul_len]
    have := hg.len
    omega
  els := trim_els (els_of fun x hx => by
    obtain ⟨y, _, rfl⟩ := List.mem_map.1 hx
    exact el_mod hP y)
  trm := trim_trim _
  few := by
    have h1 := hg.few
    have h2 := congrArg List.length (h.wrg_eq hP p)
    unfold wrg at h2
    rw [List.length_map, List.length_map] at h2
    unfold radN at h1 ⊢
    rw [← h.kn_eq hP]
    omega
theorem Shf.un {P : Int} {A B : List Int} {l m : List (Int × Bool)} {k : Int} {o1 o2 : List Int} {e1 e2 : Int} (hp : prB P = true) (h : Shf P A B 0 l m) (hA : A.length ≤ k.toNat) (hB : B.length ≤ k.toNat) (f1 : fiE P l k = 0) (f2 : fiE P m k = 0)
    (h1 : UnR P l k o1 e1) (h2 : UnR P m k o2 e2) : e1 = e2 ∧ (e1 = 0 → wrg P l o1 = wrg P m o2) := by
  have hP := (prB_bd hp).1
  rcases h1 with ⟨a, _⟩ | ⟨_, h1⟩
  · exact absurd f1 a
  rcases h2 with ⟨a, _⟩ | ⟨_, h2⟩
  · exact absurd f2 a
  obtain ⟨_, _, f5, f6, _, f8⟩ := fi_zero f2
  rcases h1 with ⟨r1, g1⟩ | ⟨r1, _, n1⟩ <;> rcases h2 with ⟨r2, g2⟩ | ⟨r2, _, n2⟩
  · refine ⟨r1.trans r2.symm, fun _ => ?_⟩
    have e := good_uniq hp (kn_pts f5 f6) (by unfold radN; omega) (h.good hP hA hB g1) g2
    rw [h.wrg_eq hP, e]
  · exact absurd (h.good hP hA hB g1) (n2 _)
  · exact absurd (h.symm.good hP hB hA g2) (n1 _)
  · exact ⟨r1.trans r2.symm, fun e => by rw [r1] at e; cases e⟩
theorem knL_eq : ∀ (L1 L2 : List (Bool × List Int)), L1.length = L2.length → (∀ j (h1 : j < L1.length) (h2 : j < L2.length), L1[j].1 = L2[j].1) → knL L1 = knL L2
  | [], [], _, _ => rfl
  | [], _ :: _, h, _ => by simp at h
  | _ :: _, [], h, _ => by simp at h
  | a :: l, b :: m, h, hk => by
    have ih := knL_eq l m (by simpa using h) fun j h1 h2 => by
      have := hk (j + 1) (by simpa using h1) (by simpa using h2)
      simpa using this
    have h0 := hk 0 (by simp) (by simp)
    simp only [List.getElem_cons_zero] at h0
    unfold knL at ih ⊢
    rw [List.filter_cons, List.filter_cons, ← h0]
    cases a.1 <;> simp [ih]
/-- the statement on two lists of answers -/
theorem blind_plain {P : Int} {n t w : Nat} {L1 L2 : List (Bool × List Int)} {row1 wr1 row2 wr2 : List Int} {er1 er2 : Int} (hp : prB P = true) (hn2 : 2 ≤ n) (hn10 : n ≤ 10) (hnP : (n : Int) < P) (ht1 : 1 ≤ t) (htn : t < n) (hw : w ≤ 64)
    (hL1 : L1.length = n) (hL2 : L2.length = n) (hv1 : ∀ j (h : j < L1.length), L1[j].1 = true → L1[j].2.length = w ∧ els P L1[j].2 = true) (hv2 : ∀ j (h : j < L2.length), L2[j].1 = true → L2[j].2.length = w ∧ els P L2[j].2 = true)
    (hkk : ∀ j (h1 : j < L1.length) (h2 : j < L2.length), L1[j].1 = L2[j].1)
    (hsh : ∀ c, c < w → ∃ A B : List Int, A.length ≤ t + 1 ∧ B.length ≤ t + 1 ∧ ∀ j (h1 : j < L1.length) (h2 : j < L2.length), L1[j].1 = true → P ∣ (gd L1[j].2 c - val P A ((j : Int) + 1)) - (gd L2[j].2 c - val P B ((j : Int) + 1)))
    (hD1 : DeR P n t w L1 row1 wr1 er1) (hD2 : DeR P n t w L2 row2 wr2 er2) : er1 = er2 ∧ wr1 = wr2 := by
  have hP := prB_bd hp
  have hvB : vaB n t = true := decide_eq_true ⟨by omega, by omega, by omega, by omega⟩
  have hcu : cuE P n t = 0 := by unfold cuE; rw [if_neg (by rw [hp]; simp), if_neg (by rw [hvB]; simp; omega)]
  have hknl := knL_eq L1 L2 (by omega) hkk
  have hck : ∀ L : List (Bool × List Int), L.length = n → (∀ j (h : j < L.length), L[j].1 = true → L[j].2.length = w ∧ els P L[j].2 = true) → ckE P w n ((t : Int) + 1) L = if (knL L : Int) < (t : Int) + 1 then 11 else 0 := fun L hL hv => by
    have hwd : wdB w L = true := by
      unfold wdB
      exact all_yes fun j hj => by
        cases h : L[j].1 with
        | false => rfl
        | true => have h2 := (hv j hj h).1; simp; omega
    have hel : elB P L = true := by
      unfold elB
      exact all_yes fun j hj => by
        cases h : L[j].1 with
        | false => rfl
        | true => simp; exact (hv j hj h).2
    unfold ckE
    rw [if_neg (by omega), if_neg (by omega), hwd, if_neg (by simp), hel, if_neg (by simp)]
  have hc1 := hck L1 hL1 hv1
  have hc2 := hck L2 hL2 hv2
  rw [← hknl] at hc2
  have ek : ((t : Int) + 1).toNat = t + 1 := by omega
  have hS : ∀ c, c < w → ∃ A B : List Int, A.length ≤ t + 1 ∧ B.length ≤ t + 1 ∧ Shf P A B 0 (colC L1 c) (colC L2 c) := fun c hc => by
    obtain ⟨A, B, hA, hB, h⟩ := hsh c hc
    refine ⟨A, B, hA, hB, by rw [colC_length, colC_length]; omega, fun j h1 h2 => ?_⟩
    rw [colC_length] at h1 h2
    rw [colC_get _ _ _ h1, colC_get _ _ _ h2]
    refine ⟨hkk j h1 h2, fun hk => ?_⟩
    have hk2 : L2[j].1 = true := (hkk j h1 h2).symm.trans hk
    simp only [] at hk
    rw [if_pos hk, if_pos hk2]
    refine ⟨el_t (els_gd hP.1 (hv1 j h1 hk).2 c), el_t (els_gd hP.1 (hv2 j h2 hk2).2 c), ?_⟩
    have := h j h1 h2 hk
    have e : ((0 : Nat) : Int) + (j : Int) + 1 = (j : Int) + 1 := by omega
    rw [e]; exact this
  have hfi : ∀ L : List (Bool × List Int), L.length = n → (∀ j (h : j < L.length), L[j].1 = true → L[j].2.length = w ∧ els P L[j].2 = true) → ¬ (knL L : Int) < (t : Int) + 1 → ∀ c, fiE P (colC L c) ((t : Int) + 1) = 0 := fun L hL hv hk c => by
    refine fi_good hp (by rw [colC_length]; omega) (by rw [colC_length]; omega) (fun j hj h1 => ?_) (by omega) (by rw [knC_len]; omega)
    have hj' : j < L.length := by rw [colC_length] at hj; exact hj
    rw [colC_get _ _ _ hj'] at h1 ⊢
    simp only at h1 ⊢
    rw [if_pos h1]
    exact el_t (els_gd hP.1 (hv j hj' h1).2 c)
  rcases hD1 with ⟨h, _⟩ | ⟨_, h1⟩
  · exact absurd hcu h
  rcases hD2 with ⟨h, _⟩ | ⟨_, h2⟩
  · exact absurd hcu h
  by_cases hk : (knL L1 : Int) < (t : Int) + 1
  · rw [if_pos hk] at hc1 hc2
    rcases h1 with ⟨_, a1, _, a2⟩ | ⟨a, _⟩
    · rcases h2 with ⟨_, b1, _, b2⟩ | ⟨b, _⟩
      · exact ⟨by rw [a1, b1, hc1, hc2], by rw [a2, b2]⟩
      · rw [hc2] at b; cases b
    · rw [hc1] at a; cases a
  · rw [if_neg hk] at hc1 hc2
    have hf1 := hfi L1 hL1 hv1 hk
    have hf2 := hfi L2 hL2 hv2 (by rw [← hknl]; exact hk)
    have hun : ∀ c, c < w → ∀ o1 e1 o2 e2, UnR P (colC L1 c) ((t : Int) + 1) o1 e1 → UnR P (colC L2 c) ((t : Int) + 1) o2 e2 → e1 = e2 ∧ (e1 = 0 → wrg P (colC L1 c) o1 = wrg P (colC L2 c) o2) := fun c hc o1 e1 o2 e2 u1 u2 => by
      obtain ⟨A, B, hA, hB, hs⟩ := hS c hc
      exact hs.un hp (by omega) (by omega) (hf1 c) (hf2 c) u1 u2
    have hn : ∀ (L : List (Bool × List Int)) c, ∃ o e, UnR P (colC L c) ((t : Int) + 1) o e := fun L c => by
      by_cases hf : fiE P (colC L c) ((t : Int) + 1) = 0
      · by_cases hg : ∃ p, Good P (kn (colC L c)) ((t : Int) + 1).toNat (radN (colC L c) ((t : Int) + 1).toNat) p
        · obtain ⟨p, hg⟩ := hg
          exact ⟨p, 0, .inr ⟨hf, .inl ⟨rfl, hg⟩⟩⟩
        · exact ⟨[], 12, .inr ⟨hf, .inr ⟨rfl, rfl, fun p hp => hg ⟨p, hp⟩⟩⟩⟩
      · exact ⟨[], _, .inl ⟨hf, rfl, rfl⟩⟩
    rcases h1 with ⟨a, _⟩ | ⟨_, h1⟩
    · exact absurd hc1 a
    rcases h2 with ⟨a, _⟩ | ⟨_, h2⟩
    · exact absurd hc2 a
    rcases h1 with ⟨⟨c, hc, o, e, u, ne⟩, a1, _, a2⟩ | ⟨ps1, al1, _, a1⟩
    · rw [Int.toNat_natCast] at hc
      rcases h2 with ⟨_, b1, _, b2⟩ | ⟨ps2, al2, _, b1⟩
      · exact ⟨by rw [a1, b1], by rw [a2, b2]⟩
      · rw [Int.toNat_natCast] at al2
        have := (hun c hc _ _ _ _ u (al2.2.1 c (by rw [al2.1]; exact hc))).1
        exact absurd this ne
    · rw [Int.toNat_natCast] at al1
      rcases h2 with ⟨⟨c, hc, o, e, u, ne⟩, b1, _, b2⟩ | ⟨ps2, al2, _, b1⟩
      · rw [Int.toNat_natCast] at hc
        have := (hun c hc _ _ _ _ (al1.2.1 c (by rw [al1.1]; exact hc)) u).1
        exact absurd this.symm ne
      · rw [Int.toNat_natCast] at al2
        refine ⟨by rw [a1, b1], ?_⟩
        rw [al1.2.2, al2.2.2]
        refine srt_inc (srt_spec _).1 fun x => ?_
        rw [(srt_spec _).2 x, wrA_mem, wrA_mem]
        have hc : ∀ c (h1 : c < ps1.length) (h2 : c < ps2.length), wrg P (colC L1 (0 + c)) ps1[c] = wrg P (colC L2 (0 + c)) ps2[c] := fun c h1 h2 => by
          rw [Nat.zero_add]
          exact (hun c (by rw [← al1.1]; exact h1) _ _ _ _ (al1.2.1 c h1) (al2.2.1 c h2)).2 rfl
        constructor
        · rintro ⟨c, h, hx⟩
          have h2 : c < ps2.length := by rw [al2.1, ← al1.1]; exact h
          exact ⟨c, h2, by rw [← hc c h h2]; exact hx⟩
        · rintro ⟨c, h, hx⟩
          have h1 : c < ps1.length := by rw [al1.1, ← al2.1]; exact h
          exact ⟨c, h1, by rw [hc c h1 h]; exact hx⟩
end Go.Proofs.YtbgabipngdillaaGreatDoor

namespace Go.Proofs.YtbgabipngdillaaGreatDoor
open Go.RowKit

/-- the sum of two rows -/
def ad2 (P : Int) (a b : List Int) : List Int := (List.range a.length).map fun k => (gd a k + gd b k) % P
theorem ad2_len (P : Int) (a b : List Int) : (ad2 P a b).length = a.length := by simp [ad2]
theorem ad2_gd {P : Int} {a b : List Int} {k : Nat} (h : k < a.length) : gd (ad2 P a b) k = (gd a k + gd b k) % P := by
  rw [gd_lt (by rw [ad2_len]; exact h)]; simp [ad2]
theorem ad2_els {P : Int} (hP : 2 ≤ P) (a b : List Int) : els P (ad2 P a b) = true := els_of fun x hx => by
  obtain ⟨k, _, rfl⟩ := List.mem_map.1 hx
  exact el_mod hP _
theorem blind_dec {P : Int} {n t w m i k : Nat} {D E : List Int} {one two : List (List Int)} {L1 L2 : List (Bool × List Int)} {row1 wr1 row2 wr2 : List Int} {er1 er2 : Int} (hp : prB P = true) (hn2 : 2 ≤ n) (hn10 : n ≤ 10) (hnP : (n : Int) < P) (ht1 : 1 ≤ t) (htn : t < n) (hw : w ≤ 64)
    (ho : one.length = m) (ht : two.length = m) (hr1 : ∀ r ∈ one, r.length = w ∧ els P r = true) (hr2 : ∀ r ∈ two, r.length = w ∧ els P r = true)
    (hL1 : L1.length = n) (hL2 : L2.length = n) (hrel : ∀ j (h1 : j < L1.length) (h2 : j < L2.length), L1[j].1 = L2[j].1 ∧ (L1[j].1 = true → ∃ e, L1[j].2 = ad2 P (cmb P (qRow P i D t j m) one w) e ∧ L2[j].2 = ad2 P (cmb P (qRow P k E t j m) two w) e))
    (hD1 : DeR P n t w L1 row1 wr1 er1) (hD2 : DeR P n t w L2 row2 wr2 er2) : er1 = er2 ∧ wr1 = wr2 := by
  have hP := prB_bd hp
  have hcl : ∀ q rows, (cmb P q rows w).length = w := fun q rows => cmbT_len ..
  refine blind_plain hp hn2 hn10 hnP ht1 htn hw hL1 hL2 (fun j hj hk => ?_) (fun j hj hk => ?_) (fun j h1 h2 => (hrel j h1 h2).1) (fun c hc => ⟨Rc P i D t one c, Rc P k E t two c, Rc_len .., Rc_len .., fun j h1 h2 hk => ?_⟩) hD1 hD2
  · obtain ⟨e, h1, _⟩ := (hrel j hj (by omega)).2 hk
    rw [h1]; exact ⟨by rw [ad2_len, hcl], ad2_els hP.1 ..⟩
  · obtain ⟨e, _, h1⟩ := (hrel j (by omega) hj).2 ((hrel j (by omega) hj).1.trans hk)
    rw [h1]; exact ⟨by rw [ad2_len, hcl], ad2_els hP.1 ..⟩
  · obtain ⟨e, e1, e2⟩ := (hrel j h1 h2).2 hk
    have v1 : val P (Rc P i D t one c) ((j : Int) + 1) = gd (cmb P (qRow P i D t j m) one w) c :=
      Rc_val hP.1 (fun r hr => (hr1 r hr).1) hc fun q hq => qRow_gd _ _ _ _ _ _ _ (by omega)
    have v2 : val P (Rc P k E t two c) ((j : Int) + 1) = gd (cmb P (qRow P k E t j m) two w) c :=
      Rc_val hP.1 (fun r hr => (hr2 r hr).1) hc fun q hq => qRow_gd _ _ _ _ _ _ _ (by omega)
    rw [e1, e2, v1, v2, ad2_gd (by rw [hcl]; exact hc), ad2_gd (by rw [hcl]; exact hc)]
    have m1 := mod_dvd P (gd (cmb P (qRow P i D t j m) one w) c + gd e c)
    have m2 := mod_dvd P (gd (cmb P (qRow P k E t j m) two w) c + gd e c)
    exact dvd_of_eq' (Int.dvd_sub m1 m2) (by omega)
end Go.Proofs.YtbgabipngdillaaGreatDoor

namespace Go.Proofs.YtbgabipngdillaaGreatDoor
open Go.RowKit

/-- a slice of ints at block C or behind, outside the blocks X and Y -/
def SY (C : Nat) (W : World) (X Y : Option Nat) (v : Value) (l : List Int) : Prop :=
  ∃ A c, v = .slice A l.length c ∧ l.length ≤ c ∧ c ≤ 9223372036854775807 ∧ (∀ x ∈ l, i64r x) ∧
    (0 < l.length → ∃ b off, A = some ⟨b, off, none⟩ ∧ C ≤ b ∧ b < W.heap.size ∧ some b ≠ X ∧ some b ≠ Y ∧ ∀ j (h : j < l.length), W.cell? ⟨b, off + j, none⟩ = some (.int .i64 l[j]))
theorem SY.keep {C : Nat} {W W' : World} {X Y X' Y' : Option Nat} {v : Value} {l : List Int} (h : SY C W X Y v l) (hs : W.heap.size ≤ W'.heap.size)
    (hb : ∀ b, C ≤ b → b < W.heap.size → some b ≠ X → some b ≠ Y → W'.heap[b]? = W.heap[b]? ∧ some b ≠ X' ∧ some b ≠ Y') : SY C W' X' Y' v l := by
  obtain ⟨A, c, rfl, hc, hm, hr, ha⟩ := h
  refine ⟨A, c, rfl, hc, hm, hr, fun h0 => ?_⟩
  obtain ⟨b, off, rfl, hC, hbl, hx, hy, hcell⟩ := ha h0
  obtain ⟨e, hx', hy'⟩ := hb b hC hbl hx hy
  exact ⟨b, off, rfl, hC, by omega, hx', hy', fun j hj => (World.cell?_of_block e).trans (hcell j hj)⟩
theorem SY.nil (C : Nat) (W : World) (X Y : Option Nat) : SY C W X Y (.slice none 0 0) [] := ⟨none, 0, rfl, Nat.le_refl _, by omega, fun x h => by simp at h, fun h => by simp at h⟩
theorem SY.se {C g : Nat} {W : World} {X Y : Option Nat} {v : Value} {l : List Int} (h : SY C W X Y v l) (hg : g < C) : SE g W v l := by
  obtain ⟨A, c, rfl, hc, hm, hr, ha⟩ := h
  refine ⟨A, c, rfl, hc, hm, hr, fun h0 => ?_⟩
  obtain ⟨b, off, rfl, hC, hbl, _, _, hcell⟩ := ha h0
  exact ⟨b, off, rfl, hbl, by omega, hcell⟩
theorem SY.of_own {W : World} {X Y : Option Nat} {C base : Nat} {e : TypeId} {v : Value} {l : List Int} (h : W.ownsRow base e 1 v l.length (l.map (Value.int .i64))) (hr : ∀ x ∈ l, i64r x) (hC : C ≤ base) (hX : ∀ k, X = some k → k < base) (hY : ∀ k, Y = some k → k < base) : SY C W X Y v l := by
  rcases h.2 with ⟨rfl, hn⟩ | ⟨b, cap, cur, rfl, hb, hgg, hnc, hcm, hcs, htake⟩
  · have : l = [] := List.eq_nil_of_length_eq_zero hn
    subst this
    exact SY.nil ..
  · refine ⟨_, cap, rfl, hnc, by simpa [maxLen] using hcm, hr, fun h0 => ⟨b, 0, rfl, by omega, (Array.getElem?_eq_some_iff.1 hgg).1, fun e => by have := hX b e.symm; omega, fun e => by have := hY b e.symm; omega, fun j hj => ?_⟩⟩
    have := h.cellAt j (by omega)
    rw [Nat.zero_add, this]
    simp [hj]
theorem SY.below {C : Nat} {W W' : World} {X Y : Option Nat} {v : Value} {l : List Int} (h : SY C W X Y v l) (hb : Below W.heap.size W W') : SY C W' X Y v l :=
  h.keep hb.size fun b _ hbl hx hy => ⟨hb.block b hbl, hx, hy⟩
def anc (x : Bool × Value) : List Value := [.bool x.1, x.2]
theorem anc_get (xs : List (Bool × Value)) (j : Nat) (h : j < xs.length) : (xs.flatMap anc)[j * 2]? = some (.bool xs[j].1) ∧ (xs.flatMap anc)[j * 2 + 1]? = some xs[j].2 := fm2_get xs j h
/-- a list of answers under construction; X is the block of another one -/
structure LM (C : Nat) (w : World) (pv : Value) (X : Option Nat) (xs : List (Bool × Value)) (L : List (Bool × List Int)) : Prop where
  ans : w.ownsRow C 52 2 pv xs.length (xs.flatMap anc)
  len : xs.length = L.length
  row : ∀ j (h1 : j < xs.length) (h2 : j < L.length), xs[j].1 = L[j].1 ∧ SY C w pv.ownBlock X xs[j].2 L[j].2
  apl : ∀ b, pv.ownBlock = some b → X ≠ some b
theorem LM.nil (C : Nat) (w : World) (X : Option Nat) : LM C w (.slice none 0 0) X [] [] :=
  ⟨World.ownsRow_nil _ _ _ _, rfl, fun j h => by simp at h, fun b h => by simp [Value.ownBlock] at h⟩
theorem LM.keep {C : Nat} {w w' : World} {pv : Value} {X : Option Nat} {xs : List (Bool × Value)} {L : List (Bool × List Int)} (h : LM C w pv X xs L) (hs : w.heap.size ≤ w'.heap.size) (hk : ∀ b, C ≤ b → b < w.heap.size → w'.heap[b]? = w.heap[b]?) : LM C w' pv X xs L :=
  ⟨own_blk h.ans fun b hb => hk b (h.ans.lt b hb).1 (h.ans.lt b hb).2, h.len, fun j h1 h2 => ⟨(h.row j h1 h2).1, (h.row j h1 h2).2.keep hs fun b hC hb hx hy => ⟨hk b hC hb, hx, hy⟩⟩, h.apl⟩
theorem LM.below {C : Nat} {w w' : World} {pv : Value} {X : Option Nat} {xs : List (Bool × Value)} {L : List (Bool × List Int)} (h : LM C w pv X xs L) (hb : Below w.heap.size w w') : LM C w' pv X xs L := h.keep hb.size fun b _ h2 => hb.block b h2
theorem LM.grown {C g : Nat} {w w' : World} {pv : Value} {X : Option Nat} {xs : List (Bool × Value)} {L : List (Bool × List Int)} (h : LM C w pv X xs L) (hg : w.grownBy w' (some g)) (hgC : g < C) : LM C w' pv X xs L := h.keep hg.size fun b hC h2 => hg.block b h2 (by simp; omega)
/-- one answer more -/
theorem LM.app {C g9 : Nat} {w w' : World} {pv pv' : Value} {X : Option Nat} {xs : List (Bool × Value)} {L : List (Bool × List Int)} {k : Bool} {v : Value} {l : List Int} (h : LM C w pv X xs L) (hX : ∀ b, X = some b → b < w.heap.size)
    (hv : SY C w pv.ownBlock X v l) (ho : w'.ownsRow C 52 2 pv' (xs.length + 1) (xs.flatMap anc ++ [.bool k, v])) (hg : w.grownBy w' pv.ownBlock) (hpv : pv'.ownBlock = some g9) (hat : pv.ownBlock = some g9 ∨ w.heap.size ≤ g9) : LM C w' pv' X (xs ++ [(k, v)]) (L ++ [(k, l)]) := by
  have hk : ∀ b, C ≤ b → b < w.heap.size → some b ≠ pv.ownBlock → some b ≠ X → w'.heap[b]? = w.heap[b]? ∧ some b ≠ pv'.ownBlock ∧ some b ≠ X := fun b _ hb h1 h2 =>
    ⟨hg.block b hb h1, fun e => by rw [hpv] at e; injection e with e; subst e; rcases hat with h3 | h3; exact h1 h3.symm; omega, h2⟩
  refine ⟨by simpa [anc] using ho, by simp [h.len], fun j h1 h2 => ?_, fun b hb e => ?_⟩
  · by_cases hj : j < xs.length
    · have hj' : j < L.length := by rw [← h.len]; exact hj
      rw [List.getElem_append_left hj, List.getElem_append_left hj']
      exact ⟨(h.row j hj hj').1, (h.row j hj hj').2.keep hg.size hk⟩
    · have e1 : j = xs.length := by simp at h1; omega
      subst e1
      have e2 : (xs ++ [(k, v)])[xs.length]'h1 = (k, v) := by simp
      have e3 : (L ++ [(k, l)])[xs.length]'h2 = (k, l) := by simp [h.len]
      rw [e2, e3]
      exact ⟨rfl, hv.keep hg.size hk⟩
  · rw [hpv] at hb
    injection hb with hb
    subst hb
    rcases hat with h3 | h3
    · exact h.apl _ h3 e
    · have := hX _ e; omega
/-- the other list, while this one grows -/
theorem LM.oth {C g9 : Nat} {w w' : World} {pv qv : Value} {ys : List (Bool × Value)} {M : List (Bool × List Int)} (h : LM C w qv pv.ownBlock ys M)
    (hg : w.grownBy w' pv.ownBlock) (hat : pv.ownBlock = some g9 ∨ w.heap.size ≤ g9) : LM C w' qv (some g9) ys M := by
  refine ⟨own_blk h.ans fun b hb => hg.block b (h.ans.lt b hb).2 fun e => h.apl b hb e.symm, h.len, fun j h1 h2 => ⟨(h.row j h1 h2).1, (h.row j h1 h2).2.keep hg.size fun b hC hb h3 h4 => ⟨hg.block b hb h4, h3, fun e => ?_⟩⟩, fun b hb e => ?_⟩
  · injection e with e
    subst e
    rcases hat with h5 | h5
    · exact h4 h5.symm
    · omega
  · injection e with e
    subst e
    rcases hat with h5 | h5
    · exact h.apl _ hb h5
    · have := (h.ans.lt _ hb).2; omega
theorem SY.oth {C g9 : Nat} {w w' : World} {pv qv v : Value} {l : List Int} (h : SY C w qv.ownBlock pv.ownBlock v l) (hg : w.grownBy w' pv.ownBlock) (hat : pv.ownBlock = some g9 ∨ w.heap.size ≤ g9) : SY C w' qv.ownBlock (some g9) v l :=
  h.keep hg.size fun b hC hb h3 h4 => ⟨hg.block b hb h4, h3, fun e => by
    injection e with e
    subst e
    rcases hat with h5 | h5
    · exact h4 h5.symm
    · omega⟩
theorem LM.sae {C g : Nat} {w : World} {pv : Value} {X : Option Nat} {xs : List (Bool × Value)} {L : List (Bool × List Int)} (h : LM C w pv X xs L) (hg : g < C) : SAE g w pv L := by
  have hl := h.len
  rcases h.ans.2 with ⟨e, hn⟩ | ⟨b, cap, cur, e, hb, hgg, hnc, hcm, hcs, htake⟩
  · have : L = [] := List.eq_nil_of_length_eq_zero (by omega)
    subst this
    rw [e]
    exact ⟨none, 0, rfl, Nat.le_refl _, by omega, fun h => by simp at h⟩
  · have ho := h.ans
    rw [e] at ho ⊢
    rw [hl]
    refine ⟨_, cap, rfl, by omega, by simpa [maxLen] using hcm, fun h0 => ⟨b, 0, rfl, (Array.getElem?_eq_some_iff.1 hgg).1, by omega, fun j hj => ?_⟩⟩
    have hj' : j < xs.length := by omega
    obtain ⟨h1, h2⟩ := h.row j hj' hj
    obtain ⟨g1, g2⟩ := anc_get xs j hj'
    have c1 := ho.cellAt (j * 2) (by omega)
    have c2 := ho.cellAt (j * 2 + 1) (by omega)
    rw [g1] at c1
    rw [g2] at c2
    rw [Nat.zero_add]
    exact ⟨by rw [c1, h1], xs[j].2, c2, h2.se hg⟩
/-- two lists -/
structure LM2 (C : Nat) (w : World) (pv qv : Value) (xs ys : List (Bool × Value)) (L M : List (Bool × List Int)) : Prop where
  p : LM C w pv qv.ownBlock xs L
  q : LM C w qv pv.ownBlock ys M
theorem LM2.swap {C : Nat} {w : World} {pv qv : Value} {xs ys : List (Bool × Value)} {L M : List (Bool × List Int)} (h : LM2 C w pv qv xs ys L M) : LM2 C w qv pv ys xs M L := ⟨h.q, h.p⟩
theorem LM2.below {C : Nat} {w w' : World} {pv qv : Value} {xs ys : List (Bool × Value)} {L M : List (Bool × List Int)} (h : LM2 C w pv qv xs ys L M) (hb : Below w.heap.size w w') : LM2 C w' pv qv xs ys L M := ⟨h.p.below hb, h.q.below hb⟩
theorem LM2.grown {C g : Nat} {w w' : World} {pv qv : Value} {xs ys : List (Bool × Value)} {L M : List (Bool × List Int)} (h : LM2 C w pv qv xs ys L M) (hg : w.grownBy w' (some g)) (hgC : g < C) : LM2 C w' pv qv xs ys L M := ⟨h.p.grown hg hgC, h.q.grown hg hgC⟩
/-- the first one grows -/
theorem LM2.app {C g9 n cap : Nat} {w w' : World} {pv qv : Value} {xs ys : List (Bool × Value)} {L M : List (Bool × List Int)} {k : Bool} {v : Value} {l : List Int} (h : LM2 C w pv qv xs ys L M)
    (hv : SY C w pv.ownBlock qv.ownBlock v l) (ho : w'.ownsRow C 52 2 (.slice (some ⟨g9, 0, none⟩) n cap) (xs.length + 1) (xs.flatMap anc ++ [.bool k, v])) (hg : w.grownBy w' pv.ownBlock) (hat : pv.ownBlock = some g9 ∨ w.heap.size ≤ g9) : LM2 C w' (.slice (some ⟨g9, 0, none⟩) n cap) qv (xs ++ [(k, v)]) ys (L ++ [(k, l)]) M :=
  ⟨h.p.app (fun b hb => (h.q.ans.lt b hb).2) hv ho hg rfl hat, h.q.oth hg hat⟩
theorem LM2.qans {C : Nat} {w w4 : World} {pv qv : Value} {xs ys : List (Bool × Value)} {L M : List (Bool × List Int)} (h : LM2 C w pv qv xs ys L M) (o : Obj) (g4 : (w.alloc o).grownBy w4 pv.ownBlock) : w4.ownsRow C 52 2 qv ys.length (ys.flatMap anc) :=
  own_blk (h.q.ans.alloc o) fun b hb => g4.block b (by have := (h.q.ans.lt b hb).2; simp; omega) fun e => h.q.apl b hb e.symm
/-- both grow by one -/
theorem lm2_two {C ga gb ca cb : Nat} {w w4 w5 : World} {pv qv v1 v2 : Value} {xs ys : List (Bool × Value)} {L M : List (Bool × List Int)} {k : Bool} {l1 l2 : List Int} {o1 o2 : Obj} (h : LM2 C w pv qv xs ys L M) (hC : C ≤ w.heap.size)
    (h1 : SY C w pv.ownBlock qv.ownBlock v1 l1) (h2 : SY C w qv.ownBlock pv.ownBlock v2 l2)
    (o4 : w4.ownsRow C 52 2 (.slice (some ⟨ga, 0, none⟩) (xs.length + 1) ca) (xs.length + 1) (xs.flatMap anc ++ [.bool k, v1])) (g4 : (w.alloc o1).grownBy w4 pv.ownBlock) (a4 : pv.ownBlock = some ga ∨ ga = (w.alloc o1).heap.size)
    (o5 : w5.ownsRow C 52 2 (.slice (some ⟨gb, 0, none⟩) (ys.length + 1) cb) (ys.length + 1) (ys.flatMap anc ++ [.bool k, v2])) (g5 : (w4.alloc o2).grownBy w5 qv.ownBlock) (a5 : qv.ownBlock = some gb ∨ gb = (w4.alloc o2).heap.size) :
    LM2 C w5 (.slice (some ⟨ga, 0, none⟩) (xs.length + 1) ca) (.slice (some ⟨gb, 0, none⟩) (ys.length + 1) cb) (xs ++ [(k, v1)]) (ys ++ [(k, v2)]) (L ++ [(k, l1)]) (M ++ [(k, l2)]) ∧ Below C w w5 := by
  have b3 : Below w.heap.size w (w.alloc o1) := (Below.refl _ w).alloc (Nat.le_refl _) _
  have b4 : Below w4.heap.size w4 (w4.alloc o2) := (Below.refl _ w4).alloc (Nat.le_refl _) _
  have a4' : pv.ownBlock = some ga ∨ (w.alloc o1).heap.size ≤ ga := a4.imp id fun e => Nat.le_of_eq e.symm
  have a5' : qv.ownBlock = some gb ∨ (w4.alloc o2).heap.size ≤ gb := a5.imp id fun e => Nat.le_of_eq e.symm
  have k3 := (h.below b3).app (h1.below b3) o4 g4 a4'
  have s3 := (h2.below b3).oth g4 a4'
  have k5 := (k3.below b4).swap.app (s3.below b4) o5 g5 a5'
  refine ⟨k5.swap, ?_⟩
  have z3 := b3.size
  have z4 := g4.size
  have z5 := b4.size
  exact (((Below.refl C w).trans (b3.mono hC)).grown g4 (by omega) fun b hb => (h.p.ans.lt b hb).1).trans (((b4.mono (by omega)).grown g5 (by omega) fun b hb => (h.q.ans.lt b hb).1))
end Go.Proofs.YtbgabipngdillaaGreatDoor
