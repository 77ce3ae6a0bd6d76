/- ListOrder: the walk. -/
import Derived.Test.YtbgabipngdillaaLn
import Derived.Test.YtbgabipngdillaaAz
namespace Go.Proofs.Ytbgabipngdillaa
open Go.RowKit Go.Shelf

theorem SI.rng {w : World} {v : Value} {l : List Int} (h : SI w v l) : ∀ x ∈ l, i64r x := by
  obtain ⟨A, c, _, _, _, hr, _⟩ := h
  exact hr
def eqUp (a b : List Int) (k : Nat) : Bool := (List.range k).all fun j => gd a j == gd b j
theorem eqUp_zero (a b : List Int) : eqUp a b 0 = true := rfl
theorem eqUp_succ (a b : List Int) (k : Nat) : eqUp a b (k + 1) = (eqUp a b k && (gd a k == gd b k)) := by
  unfold eqUp
  rw [List.range_succ, List.all_append]
  simp
theorem eqUp_all (a b : List Int) : eqUp a b (max a.length b.length) = true ↔ eqz a b := by
  unfold eqUp
  rw [List.all_eq_true]
  refine ⟨fun h i => ?_, fun h j _ => by rw [beq_iff_eq]; exact h j⟩
  rcases Nat.lt_or_ge i (max a.length b.length) with h0 | h0
  · exact beq_iff_eq.1 (h i (List.mem_range.2 h0))
  · rw [gd_ge (by omega), gd_ge (by omega)]
/-- the loop's relation -/
def OrR (a b : List Int) (w5 : World) (same i : Value) (wr : World) : Prop := ∃ k : Nat, k ≤ max a.length b.length ∧ same = .bool (eqUp a b k) ∧ i = .int .i64 k ∧ wr = w5
theorem lt_dec {a b : List Int} {t : Bool} (h : lexlt a b ↔ t = true) : decide (cmpV a b < 0) = t := by
  cases t with
  | true => exact decide_eq_true ((cmpV_lt a b).2 (h.2 rfl))
  | false => exact decide_eq_false fun h2 => by have := h.1 ((cmpV_lt a b).1 h2); cases this

set_option maxRecDepth 100000 in
set_option maxHeartbeats 8000000 in
theorem listOrder_any (a b c : List Int) (n : Nat) (va vb vc : Value) (w : World) (hn : n < 256) (hza : a.length ≤ 17592186044416) (hzb : b.length ≤ 17592186044416) (hzc : c.length ≤ 17592186044416) (ha : SI w va a) (hb : SI w vb b) (hc : SI w vc c) :
    Calls Try.prog 5 #[va, vb, vc, .int .u8 n] w fun e w' => e = .returned (.bool true) ∧ Below w.heap.size w w' := by
  have HA := Lib.hid ha
  have HB := Lib.hid hb
  have HC := Lib.hid hc
  obtain ⟨Aa, ka, rfl⟩ := ha.form
  obtain ⟨Ab, kb, rfl⟩ := hb.form
  obtain ⟨Ac, kc, rfl⟩ := hc.form
  clear ha hb hc
  go_enter Try.func5, Try.ntmps5
  go_wp2_with fail
  (with_reducible refine (lsane_any _).mono ?_)
  rintro e w1 ⟨rfl, hb1⟩
  have HB1 := Lib.hid hb1
  have HA1 := Lib.hid (HA.out.below hb1)
  have HBb1 := Lib.hid (HB.out.below hb1)
  have HC1 := Lib.hid (HC.out.below hb1)
  clear hb1
  by_cases h6 : 600 < a.length + b.length + c.length
  · have hd : decide (600 < (a.length : Int) + b.length + c.length) = true := decide_eq_true (by omega)
    go_wp2_with fail
    go_ret
    exact ⟨rfl, HB1.out⟩
  · have hd : decide (600 < (a.length : Int) + b.length + c.length) = false := decide_eq_false (by omega)
    have hal : a.length ≤ 600 := by omega
    have hbl : b.length ≤ 600 := by omega
    have hcl : c.length ≤ 600 := by omega
    have hrem : ((n : Int).tmod 9) = ((n % 9 : Nat) : Int) := by rw [Int.tmod_eq_emod_of_nonneg (by omega)]; omega
    clear hza hzb hzc h6
    go_upto_region 5 with fail
    go_upto_region 6 with (first
      | (at_builtin; refine wpList_append_ints _ rfl _ _ 22 rfl w1.heap.size 3 Try.underlying22 iinfo _ [] rfl (World.ownsRow_nil _ _ _ _) w1.heap.size _ a rfl HA1.out (by simp; omega) (Nat.le_refl _) ?_; intro v2 w2 hown2 hg2; obtain ⟨A2, k2, rfl⟩ := own_slice hown2; have HO2 := Lib.hid hown2; have HG2 := Lib.hid hg2; clear hown2 hg2)
      | (at_builtin; refine wpList_append_zeros _ rfl _ _ 22 3 rfl w1.heap.size 3 Try.underlying22 Try.underlying3 iinfo _ a rfl HO2.out (n % 9) rfl (by omega) HG2.out.size ?_; intro v3 w3 hown3 hg3; obtain ⟨A3, k3, rfl⟩ := own_slice hown3; have HO3 := Lib.hid hown3; have HG3 := Lib.hid hg3; clear hown3 hg3))
    have HBe : Hid (Below w1.heap.size w1 w3) := ((Below.refl _ w1).grown HG2.out (Nat.le_refl _) (fun k hk => by cases hk)).grown HG3.out HG2.out.size (fun k hk => (HO2.out.lt k hk).1)
    have HA3 := Lib.hid (HA1.out.below HBe.out)
    have HB3 := Lib.hid (HBb1.out.below HBe.out)
    have HC3 := Lib.hid (HC1.out.below HBe.out)
    have HZ3 : Hid (SI w3 (.slice A3 (a.length + n % 9) k3) (a ++ List.replicate (n % 9) 0)) := by
      have h := SI.of_own HO3.out (fun x hx => by
        rcases List.mem_append.1 hx with h | h
        · exact HA.out.rng x h
        · rw [(List.mem_replicate.1 h).2]; unfold i64r; omega)
      rw [show (a ++ List.replicate (n % 9) (0 : Int)).length = a.length + n % 9 by simp] at h
      exact h
    have HE3 : Hid (Below w.heap.size w w3) := HB1.out.trans (HBe.out.mono HB1.out.size)
    have hEz : eqz a (a ++ List.replicate (n % 9) 0) := eqz_zeros a _
    have Faa : Hid (decide (cmpV a a < 0) = false) := lt_dec ⟨fun h => absurd h (lex_irr fun _ => rfl), fun h => by cases h⟩
    have Faz : Hid (decide (cmpV a (a ++ List.replicate (n % 9) 0) < 0) = false) := lt_dec ⟨fun h => absurd h (lex_irr hEz), fun h => by cases h⟩
    have Fza : Hid (decide (cmpV (a ++ List.replicate (n % 9) 0) a < 0) = false) := lt_dec ⟨fun h => absurd h (lex_irr hEz.symm), fun h => by cases h⟩
    have hzb : lexlt (a ++ List.replicate (n % 9) 0) b ↔ lexlt a b := lex_eqz hEz.symm fun _ => rfl
    clear HG2 HG3 HO2 HO3 hEz
    have key : ∃ tab tba tbc tac teq : Bool, (lexlt a b ↔ tab = true) ∧ (lexlt b a ↔ tba = true) ∧ (lexlt b c ↔ tbc = true) ∧ (lexlt a c ↔ tac = true) ∧ (eqz a b ↔ teq = true) := by
      have d : ∀ p : Prop, ∃ t : Bool, p ↔ t = true := fun p => by
        by_cases h : p
        · exact ⟨true, by simp [h]⟩
        · exact ⟨false, by simp [h]⟩
      obtain ⟨t1, h1⟩ := d (lexlt a b)
      obtain ⟨t2, h2⟩ := d (lexlt b a)
      obtain ⟨t3, h3⟩ := d (lexlt b c)
      obtain ⟨t4, h4⟩ := d (lexlt a c)
      obtain ⟨t5, h5⟩ := d (eqz a b)
      exact ⟨t1, t2, t3, t4, t5, h1, h2, h3, h4, h5⟩
    obtain ⟨tab, tba, tbc, tac, teq, hab, hba, hbc, hac, heq⟩ := key
    have c1 : ¬ (tab = true ∧ tba = true) := fun h => lex_asym (hab.2 h.1) (hba.2 h.2)
    have c2 : tab = true → tbc = true → tac = true := fun h h2 => hac.1 (lex_trans (hab.2 h) (hbc.2 h2))
    have c3 : teq = true ↔ tab = false ∧ tba = false := by
      constructor
      · intro h
        have he := heq.2 h
        constructor
        · cases tab with
          | false => rfl
          | true => exact absurd (hab.2 rfl) (lex_irr he)
        · cases tba with
          | false => rfl
          | true => exact absurd (hba.2 rfl) (lex_irr he.symm)
      · rintro ⟨rfl, rfl⟩
        rcases lex_or a b with h | h | h
        · exact heq.1 h
        · have := hab.1 h; cases this
        · have := hba.1 h; cases this
    have Fab : Hid (decide (cmpV a b < 0) = tab) := lt_dec hab
    have Fba : Hid (decide (cmpV b a < 0) = tba) := lt_dec hba
    have Fbc : Hid (decide (cmpV b c < 0) = tbc) := lt_dec hbc
    have Fac : Hid (decide (cmpV a c < 0) = tac) := lt_dec hac
    have Fzb : Hid (decide (cmpV (a ++ List.replicate (n % 9) 0) b < 0) = tab) := lt_dec (hzb.trans hab)
    have HEQ : Hid (eqUp a b (max a.length b.length) = teq) := by
      show _ = _
      cases teq with
      | true => exact (eqUp_all a b).2 (heq.2 rfl)
      | false => 
        cases h : eqUp a b (max a.length b.length) with
        | false => rfl
        | true => have := heq.1 ((eqUp_all a b).1 h); cases this
    clear hab hba hbc hac heq hzb
    have hcs : (tab = true ∧ tba = false ∧ teq = false ∧ (tbc = false ∨ tbc = true ∧ tac = true)) ∨ (tab = false ∧ tba = true ∧ teq = false) ∨ (tab = false ∧ tba = false ∧ teq = true) := by
      cases tab <;> cases tba <;> cases teq <;> cases tbc <;> cases tac <;> simp_all
    clear c1 c2 c3
    rcases hcs with ⟨rfl, rfl, rfl, rfl | ⟨rfl, rfl⟩⟩ | ⟨rfl, rfl, rfl⟩ | ⟨rfl, rfl, rfl⟩
    all_goals
      go_wp2_with (first
        | (go_at_call 20; (with_reducible refine (less_any a a _ _ _ HA3.out HA3.out (by omega) (by omega)).mono ?_); rintro e w' ⟨rfl, rfl⟩; rw [Faa.out])
        | (go_at_call 20; (with_reducible refine (less_any a (a ++ List.replicate (n % 9) 0) _ _ _ HA3.out HZ3.out (by omega) (by simp; omega)).mono ?_); rintro e w' ⟨rfl, rfl⟩; rw [Faz.out])
        | (go_at_call 20; (with_reducible refine (less_any (a ++ List.replicate (n % 9) 0) a _ _ _ HZ3.out HA3.out (by simp; omega) (by omega)).mono ?_); rintro e w' ⟨rfl, rfl⟩; rw [Fza.out])
        | (go_at_call 20; (with_reducible refine (less_any a b _ _ _ HA3.out HB3.out (by omega) (by omega)).mono ?_); rintro e w' ⟨rfl, rfl⟩; rw [Fab.out])
        | (go_at_call 20; (with_reducible refine (less_any b a _ _ _ HB3.out HA3.out (by omega) (by omega)).mono ?_); rintro e w' ⟨rfl, rfl⟩; rw [Fba.out])
        | (go_at_call 20; (with_reducible refine (less_any (a ++ List.replicate (n % 9) 0) b _ _ _ HZ3.out HB3.out (by simp; omega) (by omega)).mono ?_); rintro e w' ⟨rfl, rfl⟩; rw [Fzb.out])
        | (go_at_call 20; (with_reducible refine (less_any b c _ _ _ HB3.out HC3.out (by omega) (by omega)).mono ?_); rintro e w' ⟨rfl, rfl⟩; rw [Fbc.out])
        | (go_at_call 20; (with_reducible refine (less_any a c _ _ _ HA3.out HC3.out (by omega) (by omega)).mono ?_); rintro e w' ⟨rfl, rfl⟩; rw [Fac.out]))
      go_loopw [10, 11] (fun same i wr => OrR a b w3 same i wr) (fun _ i _ => max a.length b.length - (intOf i).toNat)
      case atStart => exact ⟨0, Nat.zero_le _, rfl, rfl, rfl⟩
      case round =>
        obtain ⟨k, hk, rfl, rfl, rfl⟩ := hrel
        have HSU := Lib.hid (eqUp_succ a b k)
        obtain ⟨t, ht⟩ : ∃ t, eqUp a b k = t := ⟨_, rfl⟩
        have HT := Lib.hid ht
        rw [ht]
        clear ht
        by_cases hm : k < max a.length b.length
        · by_cases hla : k < a.length
          · obtain ⟨ba, oa, hAa, _, hca⟩ := SB.cells HA3.out (by omega)
            subst hAa
            have hck := hca k hla
            have HGA : Hid (gd a k = a[k]) := gd_lt hla
            have hlai : (k : Int) < (a.length : Int) := by omega
            clear hca
            by_cases hlb : k < b.length
            · obtain ⟨bb, ob, hAb, _, hcb⟩ := SB.cells HB3.out (by omega)
              subst hAb
              have hcl := hcb k hlb
              have HGB : Hid (gd b k = b[k]) := gd_lt hlb
              have hlbi : (k : Int) < (b.length : Int) := by omega
              clear hcb hm
              cases t with
              | true =>
                go_wp2_with fail
                all_goals
                  go_roundw
                  case rel => exact ⟨k + 1, by omega, by rw [HSU.out, HT.out, HGA.out, HGB.out] <;> simp, by go_num, rfl⟩
                  case measure => simp [intOf]; omega
              | false =>
                go_wp2_with fail
                all_goals
                  go_roundw
                  case rel => exact ⟨k + 1, by omega, by rw [HSU.out, HT.out] <;> rfl, by go_num, rfl⟩
                  case measure => simp [intOf]; omega
            · have HGB : Hid (gd b k = 0) := gd_ge (by omega)
              have hlbi : ¬ (k : Int) < (b.length : Int) := by omega
              have hmx : b.length ≤ a.length := by omega
              clear hm
              cases t with
              | true =>
                go_wp2_with fail
                all_goals
                  go_roundw
                  case rel => exact ⟨k + 1, by omega, by rw [HSU.out, HT.out, HGA.out, HGB.out] <;> simp, by go_num, rfl⟩
                  case measure => simp [intOf]; omega
              | false =>
                go_wp2_with fail
                all_goals
                  go_roundw
                  case rel => exact ⟨k + 1, by omega, by rw [HSU.out, HT.out] <;> rfl, by go_num, rfl⟩
                  case measure => simp [intOf]; omega
          · have HGA : Hid (gd a k = 0) := gd_ge (by omega)
            have hlb : k < b.length := by omega
            have hlai : ¬ (k : Int) < (a.length : Int) := by omega
            obtain ⟨bb, ob, hAb, _, hcb⟩ := SB.cells HB3.out (by omega)
            subst hAb
            have hcl := hcb k hlb
            have HGB : Hid (gd b k = b[k]) := gd_lt hlb
            have hlbi : (k : Int) < (b.length : Int) := by omega
            have hmx : a.length ≤ b.length := by omega
            clear hcb hm
            cases t with
            | true =>
              go_wp2_with fail
              all_goals
                go_roundw
                case rel => exact ⟨k + 1, by omega, by rw [HSU.out, HT.out, HGA.out, HGB.out] <;> simp, by go_num, rfl⟩
                case measure => simp [intOf]; omega
            | false =>
              go_wp2_with fail
              all_goals
                go_roundw
                case rel => exact ⟨k + 1, by omega, by rw [HSU.out, HT.out] <;> rfl, by go_num, rfl⟩
                case measure => simp [intOf]; omega
        · have hkk : k = max a.length b.length := by omega
          have HTT : Hid (t = _) := HT.out.symm.trans (hkk ▸ HEQ.out)
          have hlai : ¬ (k : Int) < (a.length : Int) := by omega
          have hlbi : ¬ (k : Int) < (b.length : Int) := by omega
          rw [HTT.out]
          clear hkk
          go_wp2_with (first
        | (go_at_call 20; (with_reducible refine (less_any a a _ _ _ HA3.out HA3.out (by omega) (by omega)).mono ?_); rintro e w' ⟨rfl, rfl⟩; rw [Faa.out])
        | (go_at_call 20; (with_reducible refine (less_any a (a ++ List.replicate (n % 9) 0) _ _ _ HA3.out HZ3.out (by omega) (by simp; omega)).mono ?_); rintro e w' ⟨rfl, rfl⟩; rw [Faz.out])
        | (go_at_call 20; (with_reducible refine (less_any (a ++ List.replicate (n % 9) 0) a _ _ _ HZ3.out HA3.out (by simp; omega) (by omega)).mono ?_); rintro e w' ⟨rfl, rfl⟩; rw [Fza.out])
        | (go_at_call 20; (with_reducible refine (less_any a b _ _ _ HA3.out HB3.out (by omega) (by omega)).mono ?_); rintro e w' ⟨rfl, rfl⟩; rw [Fab.out])
        | (go_at_call 20; (with_reducible refine (less_any b a _ _ _ HB3.out HA3.out (by omega) (by omega)).mono ?_); rintro e w' ⟨rfl, rfl⟩; rw [Fba.out])
        | (go_at_call 20; (with_reducible refine (less_any (a ++ List.replicate (n % 9) 0) b _ _ _ HZ3.out HB3.out (by simp; omega) (by omega)).mono ?_); rintro e w' ⟨rfl, rfl⟩; rw [Fzb.out])
        | (go_at_call 20; (with_reducible refine (less_any b c _ _ _ HB3.out HC3.out (by omega) (by omega)).mono ?_); rintro e w' ⟨rfl, rfl⟩; rw [Fbc.out])
        | (go_at_call 20; (with_reducible refine (less_any a c _ _ _ HA3.out HC3.out (by omega) (by omega)).mono ?_); rintro e w' ⟨rfl, rfl⟩; rw [Fac.out]))
          all_goals
            go_ret
            exact ⟨rfl, HE3.out⟩
end Go.Proofs.Ytbgabipngdillaa
