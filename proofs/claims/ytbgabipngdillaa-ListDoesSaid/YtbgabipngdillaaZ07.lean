/- Joined: Fl Ls Dg Ag Ld. -/
import Derived.Deep.RegionWith
import Derived.Test.YtbgabipngdillaaZ06
import Derived.Test.YtbgabipngdillaaZ04
namespace Go.Proofs.Ytbgabipngdillaa
open Go.RowKit Go.Shelf
attribute [local go_sem] Oper.semAt_some

def fiE (P : Int) (l : List (Int × Bool)) (k : Int) : Int := if ceE P l = 0 then (if k < 1 ∨ (l.length : Int) < k then 1 else if ((kn l).length : Int) < k then 11 else inE P ((kn l).take k.toNat)) else ceE P l
def fiP (P : Int) (l : List (Int × Bool)) (k : Int) : List Int := if ceE P l = 0 ∧ ¬ (k < 1 ∨ (l.length : Int) < k) ∧ ¬ ((kn l).length : Int) < k then inP P ((kn l).take k.toNat) else []
theorem fi_ce {P : Int} {l : List (Int × Bool)} {k : Int} (h : ceE P l ≠ 0) : fiE P l k = ceE P l ∧ fiP P l k = [] := ⟨if_neg h, if_neg fun e => h e.1⟩
theorem fi_rng {P : Int} {l : List (Int × Bool)} {k : Int} (h : ceE P l = 0) (h2 : k < 1 ∨ (l.length : Int) < k) : fiE P l k = 1 ∧ fiP P l k = [] := by
  refine ⟨?_, if_neg fun e => e.2.1 h2⟩
  unfold fiE
  rw [if_pos h, if_pos h2]
theorem fi_few {P : Int} {l : List (Int × Bool)} {k : Int} (h : ceE P l = 0) (h2 : ¬ (k < 1 ∨ (l.length : Int) < k)) (h3 : ((kn l).length : Int) < k) : fiE P l k = 11 ∧ fiP P l k = [] := by
  refine ⟨?_, if_neg fun e => e.2.2 h3⟩
  unfold fiE
  rw [if_pos h, if_neg h2, if_pos h3]
theorem fi_ok {P : Int} {l : List (Int × Bool)} {k : Int} (h : ceE P l = 0) (h2 : ¬ (k < 1 ∨ (l.length : Int) < k)) (h3 : ¬ ((kn l).length : Int) < k) : fiE P l k = inE P ((kn l).take k.toNat) ∧ fiP P l k = inP P ((kn l).take k.toNat) := by
  refine ⟨?_, if_pos ⟨h, h2, h3⟩⟩
  unfold fiE
  rw [if_pos h, if_neg h2, if_neg h3]
theorem kn_i64 {w : World} {v : Value} {l : List (Int × Bool)} (h : SCl w v l) (hz : l.length ≤ 1000000) : ∀ t ∈ kn l, i64r t.1 ∧ i64r t.2 := by
  have hz' := hz
  obtain ⟨A, c, rfl, _, _, hr, _⟩ := h
  intro t ht
  have h1 := kn_at ht
  refine ⟨by unfold i64r; omega, ?_⟩
  have key : ∀ (m : List (Int × Bool)) (i : Nat), (∀ x ∈ m, i64r x.1) → ∀ t ∈ knF i m, i64r t.2 := by
    intro m
    induction m with
    | nil => intro i _ t h; simp [knF] at h
    | cons c m ih =>
      intro i hm t h
      simp only [knF, List.mem_append] at h
      rcases h with h | h
      · split at h
        · simp at h; subst h; exact hm c (by simp)
        · simp at h
      · exact ih (i + 1) (fun x hx => hm x (by simp [hx])) t h
  exact key l 0 hr t ht

theorem fi_sg {w2 : World} {l : List (Int × Bool)} {m base : Nat} {e : TypeId} {v2 : Value} (hown2 : w2.ownsRow base e 2 v2 ((kn l).take m).length ((((kn l).take m).flatMap pcs).map (Value.int .i64))) (hr : ∀ t ∈ kn l, i64r t.1 ∧ i64r t.2) : SG pcs 2 w2.heap.size w2 v2 ((kn l).take m) :=
  SG.of_own hown2 (fun x hx y hy => by
    have hx2 := hr x (List.mem_of_mem_take hx)
    simp [pcs] at hy
    rcases hy with rfl | rfl
    · exact hx2.1
    · exact hx2.2) (fun _ _ => rfl)
set_option maxRecDepth 100000 in
set_option maxHeartbeats 4000000 in
theorem fill_any (P : Int) (l : List (Int × Bool)) (k : Int) (v : Value) (w : World) (hP : i64r P) (h : SCl w v l) (hz : l.length ≤ 1000000) :
    Calls Try.prog 31 #[.agg #[.int .i64 P], v, .int .i64 k] w fun e w' => ∃ v', e = .returned (.tuple #[v', .int .i64 (fiE P l k)]) ∧ w'.ownsRow w.heap.size 3 1 v' (fiP P l k).length ((fiP P l k).map (Value.int .i64)) ∧ Below w.heap.size w w' := by
  have HS := Lib.hid h
  obtain ⟨A, c, rfl⟩ := h.form
  clear h
  go_enter Try.func31, Try.ntmps31
  go_upto_region 1 with fail
  obtain ⟨w0, ew⟩ : ∃ w0 : World, w0 = w.alloc (.cells #[.int .i64 P] 26) := ⟨_, rfl⟩
  have hB0 : Below w.heap.size w w0 := by rw [ew]; exact (Below.refl _ _).alloc (Nat.le_refl _) _
  have hz0 : w.heap.size < w0.heap.size := by rw [ew]; simp
  have b0 : w0.cell? ⟨w.heap.size, 0, none⟩ = some (.int .i64 P) := by rw [ew]; simp [go_sem]
  rw [← ew]
  clear ew
  have HS0 := Lib.hid (HS.out.below hB0)
  go_wp2_with fail
  (with_reducible refine (cells_any P l _ _ hP HS0.out hz).mono ?_)
  rintro e w1 ⟨rfl, hb1⟩
  have hB1 := hB0.trans (hb1.mono hB0.size)
  have hz1 := hb1.size
  have c0 := (hb1.cell (p := ⟨w.heap.size, 0, none⟩) (by show w.heap.size < _; omega)).trans b0
  clear b0
  generalize ceP P l = cp
  by_cases h0 : ceE P l = 0
  · have hcn : ceN P l = (kn l).length := if_pos h0
    have H0 := Lib.hid h0
    rw [h0, hcn]
    clear h0 hcn
    by_cases h1 : k < 1 ∨ (l.length : Int) < k
    · have HE := Lib.hid (fi_rng H0.out h1)
      by_cases h3 : k < 1
      · have hd1 : decide (k < 1) = true := decide_eq_true h3
        go_wp2_with fail
        go_ret2
        exact ⟨.slice none 0 0, by rw [HE.out.1] <;> rfl, by rw [HE.out.2]; exact World.ownsRow_nil _ _ _ _, hB1⟩
      · have hd1 : decide (k < 1) = false := decide_eq_false h3
        have hd2 : decide ((l.length : Int) < k) = true := decide_eq_true (by omega)
        go_wp2_with fail
        go_ret2
        exact ⟨.slice none 0 0, by rw [HE.out.1] <;> rfl, by rw [HE.out.2]; exact World.ownsRow_nil _ _ _ _, hB1⟩
    · by_cases h2 : ((kn l).length : Int) < k
      · have HE := Lib.hid (fi_few H0.out h1 h2)
        have hd1 : decide (k < 1) = false := decide_eq_false (by omega)
        have hd2 : decide ((l.length : Int) < k) = false := decide_eq_false (by omega)
        have hd3 : decide (((kn l).length : Int) < k) = true := decide_eq_true h2
        go_wp2_with fail
        go_ret2
        exact ⟨.slice none 0 0, by rw [HE.out.1] <;> rfl, by rw [HE.out.2]; exact World.ownsRow_nil _ _ _ _, hB1⟩
      · have HE := Lib.hid (fi_ok H0.out h1 h2)
        have hd1 : decide (k < 1) = false := decide_eq_false (by omega)
        have hd2 : decide ((l.length : Int) < k) = false := decide_eq_false (by omega)
        have hd3 : decide (((kn l).length : Int) < k) = false := decide_eq_false h2
        obtain ⟨m, rfl⟩ : ∃ m : Nat, k = m := ⟨k.toNat, by omega⟩
        have hm1 : 1 ≤ m := by omega
        have hm2 : m ≤ (kn l).length := by omega
        have HR := Lib.hid (kn_i64 HS.out hz)
        have HS1 := Lib.hid (HS0.out.below hb1)
        have hkl : (kn l).length ≤ l.length := kn_len l 0
        rw [Int.toNat_natCast] at HE
        clear h1 h2
        go_wp2_with fail
        have hlt : ((kn l).take m).length ≤ 1000000 := by rw [List.length_take]; omega
        go_region_with (first
          | (go_at_call 54; refine (first_any l m _ _ hm1 hm2 (by exact HS1.out) hz).mono ?_; rintro e w2 ⟨v2, rfl, hown2, hb2⟩; have hB2 : Below w.heap.size w w2 := (by first | exact hB1.trans (hb2.mono hB1.size) | exact hB1.drew.trans (hb2.mono hB1.size) | exact hB1.drew.drew.trans (hb2.mono hB1.size)); have c2 : w2.cell? ⟨w.heap.size, 0, none⟩ = some (.int .i64 P) := (hb2.cell (p := ⟨w.heap.size, 0, none⟩) (by show w.heap.size < w1.heap.size; omega)).trans c0; have HG : Hid (SG pcs 2 w2.heap.size w2 v2 ((kn l).take m)) := fi_sg hown2 HR.out; clear hown2)
          | (go_at_call 53; refine (interp_any P _ v2 _ hP (by exact HG.out) hlt).mono ?_; rintro e w3 ⟨v3, rfl, hown3, hb3⟩; have HO3 := Lib.hid hown3; clear hown3))
        all_goals
          go_wp2_with fail
          go_ret2
          exact ⟨v3, by rw [HE.out.1] <;> rfl, by rw [HE.out.2]; exact own_lower HO3.out (by have h5 : w.heap.size ≤ w2.heap.size := hB2.size; exact h5), hB2.trans (hb3.mono hB2.size)⟩
  · have HE := Lib.hid (fi_ce (k := k) h0)
    have hb : (ceE P l != 0) = true := by rw [bne_iff_ne]; exact h0
    have H0 := Lib.hid h0
    clear h0
    go_wp2_with fail
    go_ret2
    exact ⟨.slice none 0 0, by rw [HE.out.1] <;> rfl, by rw [HE.out.2]; exact World.ownsRow_nil _ _ _ _, hB1⟩
end Go.Proofs.Ytbgabipngdillaa

namespace Go.Proofs.Ytbgabipngdillaa
open Go.RowKit Go.Shelf

theorem coefficient_any (l : List Int) (k : Nat) (v : Value) (w : World) (h : SI w v l) (hl : l.length ≤ 1000000) :
    Calls Try.prog 65 #[v, .int .i64 k] w fun e w' => e = .returned (.int .i64 (gd l k)) ∧ w = w' := by
  obtain ⟨A, c, rfl, hcc, hm, hr, ha⟩ := h
  have HA := Lib.hid ha
  clear hr ha
  go_enter Try.func65, Try.ntmps65
  by_cases hlt : k < l.length
  · obtain ⟨b, off, rfl, hb, hcell⟩ := HA.out (by omega)
    have hck := hcell k hlt
    clear hcell
    have hd1 : decide ((k : Int) < (l.length : Int)) = true := decide_eq_true (by omega)
    have hd2 : decide (k < l.length) = true := decide_eq_true hlt
    go_wp2_with fail
    go_ret
    exact ⟨by simp [gd, hlt], rfl⟩
  · have hd1 : decide ((k : Int) < (l.length : Int)) = false := decide_eq_false (by omega)
    have hd2 : decide (k < l.length) = false := decide_eq_false hlt
    go_wp2_with fail
    go_ret
    exact ⟨by simp [gd, hlt], rfl⟩
def cmpI (a b : List Int) : Nat → Nat → Int
  | 0, _ => 0
  | n + 1, i => if gd a i < gd b i then -1 else if gd b i < gd a i then 1 else cmpI a b n (i + 1)
def cmpV (a b : List Int) : Int := cmpI a b (max a.length b.length) 0
theorem compare_any (a b : List Int) (va vb : Value) (w : World) (ha : SI w va a) (hb : SI w vb b) (hla : a.length ≤ 1000000) (hlb : b.length ≤ 1000000) :
    Calls Try.prog 41 #[va, vb] w fun e w' => e = .returned (.int .i64 (cmpV a b)) ∧ w = w' := by
  have HSA := Lib.hid ha
  have HSB := Lib.hid hb
  obtain ⟨A, ca, rfl⟩ := ha.form
  obtain ⟨B, cb, rfl⟩ := hb.form
  clear ha hb
  go_enter Try.func41, Try.ntmps41
  go_wp2_with fail
  case inl =>
    have HN : Hid (cmpV a b = cmpI a b b.length 0) := by show _ = _; unfold cmpV; rw [show max a.length b.length = b.length by omega]
    go_loop [13] (fun i => ∃ k : Nat, k ≤ b.length ∧ i = .int .i64 k ∧ cmpV a b = cmpI a b (b.length - k) k) (fun i => b.length - (intOf i).toNat)
    case atStart => exact ⟨0, Nat.zero_le _, rfl, HN.out⟩
    case round =>
      obtain ⟨k, hk, rfl, hr⟩ := hrel
      have HR := Lib.hid hr
      clear hr
      by_cases hlt : k < b.length
      · have hd1 : decide ((k : Int) < (b.length : Int)) = true := decide_eq_true (by omega)
        have hd2 : decide (k < b.length) = true := decide_eq_true hlt
        have HC : Hid (cmpV a b = if gd a k < gd b k then -1 else if gd b k < gd a k then 1 else cmpI a b (b.length - (k + 1)) (k + 1)) := by
          show _ = _
          rw [HR.out, show b.length - k = b.length - (k + 1) + 1 by omega]
          rfl
        go_wp2_with fail
        (with_reducible refine (coefficient_any a k _ _ HSA.out hla).mono ?_)
        rintro e w' ⟨rfl, rfl⟩
        go_wp2_with fail
        (with_reducible refine (coefficient_any b k _ _ HSB.out hlb).mono ?_)
        rintro e w' ⟨rfl, rfl⟩
        generalize gd a k = x at HC ⊢
        generalize gd b k = y at HC ⊢
        by_cases h1 : x < y
        · have HV : Hid (cmpV a b = -1) := by show _ = _; rw [HC.out, if_pos h1]
          have hx : decide (x < y) = true := decide_eq_true h1
          go_wp2_with fail
          go_ret
          exact ⟨by rw [HV.out] <;> rfl, rfl⟩
        · have hx : decide (x < y) = false := decide_eq_false h1
          by_cases h2 : y < x
          · have HV : Hid (cmpV a b = 1) := by show _ = _; rw [HC.out, if_neg h1, if_pos h2]
            have hy : decide (y < x) = true := decide_eq_true h2
            go_wp2_with fail
            go_ret
            exact ⟨by rw [HV.out] <;> rfl, rfl⟩
          · have HV := HC.out
            rw [if_neg h1, if_neg h2] at HV
            have HV2 := Lib.hid HV
            have hy : decide (y < x) = false := decide_eq_false h2
            clear HV
            go_wp2_with fail
            go_round
            case rel => exact ⟨k + 1, by omega, by go_num, HV2.out⟩
            case measure => simp [intOf]; omega
      · have hkk : k = b.length := by omega
        have HF : Hid (cmpV a b = 0) := by show _ = _; rw [HR.out, hkk, Nat.sub_self]; rfl
        have hd1 : decide ((k : Int) < (b.length : Int)) = false := decide_eq_false (by omega)
        have hd2 : decide (k < b.length) = false := decide_eq_false hlt
        clear hkk
        go_wp2_with fail
        go_ret
        exact ⟨by rw [HF.out] <;> rfl, rfl⟩
  case inr =>
    have HN : Hid (cmpV a b = cmpI a b a.length 0) := by show _ = _; unfold cmpV; rw [show max a.length b.length = a.length by omega]
    go_loop [13] (fun i => ∃ k : Nat, k ≤ a.length ∧ i = .int .i64 k ∧ cmpV a b = cmpI a b (a.length - k) k) (fun i => a.length - (intOf i).toNat)
    case atStart => exact ⟨0, Nat.zero_le _, rfl, HN.out⟩
    case round =>
      obtain ⟨k, hk, rfl, hr⟩ := hrel
      have HR := Lib.hid hr
      clear hr
      by_cases hlt : k < a.length
      · have hd1 : decide ((k : Int) < (a.length : Int)) = true := decide_eq_true (by omega)
        have hd2 : decide (k < a.length) = true := decide_eq_true hlt
        have HC : Hid (cmpV a b = if gd a k < gd b k then -1 else if gd b k < gd a k then 1 else cmpI a b (a.length - (k + 1)) (k + 1)) := by
          show _ = _
          rw [HR.out, show a.length - k = a.length - (k + 1) + 1 by omega]
          rfl
        go_wp2_with fail
        (with_reducible refine (coefficient_any a k _ _ HSA.out hla).mono ?_)
        rintro e w' ⟨rfl, rfl⟩
        go_wp2_with fail
        (with_reducible refine (coefficient_any b k _ _ HSB.out hlb).mono ?_)
        rintro e w' ⟨rfl, rfl⟩
        generalize gd a k = x at HC ⊢
        generalize gd b k = y at HC ⊢
        by_cases h1 : x < y
        · have HV : Hid (cmpV a b = -1) := by show _ = _; rw [HC.out, if_pos h1]
          have hx : decide (x < y) = true := decide_eq_true h1
          go_wp2_with fail
          go_ret
          exact ⟨by rw [HV.out] <;> rfl, rfl⟩
        · have hx : decide (x < y) = false := decide_eq_false h1
          by_cases h2 : y < x
          · have HV : Hid (cmpV a b = 1) := by show _ = _; rw [HC.out, if_neg h1, if_pos h2]
            have hy : decide (y < x) = true := decide_eq_true h2
            go_wp2_with fail
            go_ret
            exact ⟨by rw [HV.out] <;> rfl, rfl⟩
          · have HV := HC.out
            rw [if_neg h1, if_neg h2] at HV
            have HV2 := Lib.hid HV
            have hy : decide (y < x) = false := decide_eq_false h2
            clear HV
            go_wp2_with fail
            go_round
            case rel => exact ⟨k + 1, by omega, by go_num, HV2.out⟩
            case measure => simp [intOf]; omega
      · have hkk : k = a.length := by omega
        have HF : Hid (cmpV a b = 0) := by show _ = _; rw [HR.out, hkk, Nat.sub_self]; rfl
        have hd1 : decide ((k : Int) < (a.length : Int)) = false := decide_eq_false (by omega)
        have hd2 : decide (k < a.length) = false := decide_eq_false hlt
        clear hkk
        go_wp2_with fail
        go_ret
        exact ⟨by rw [HF.out] <;> rfl, rfl⟩
theorem less_any (a b : List Int) (va vb : Value) (w : World) (ha : SI w va a) (hb : SI w vb b) (hla : a.length ≤ 1000000) (hlb : b.length ≤ 1000000) :
    Calls Try.prog 20 #[va, vb] w fun e w' => e = .returned (.bool (decide (cmpV a b < 0))) ∧ w = w' := by
  go_enter Try.func20, Try.ntmps20
  go_wp2_with fail
  (with_reducible refine (compare_any a b _ _ _ ha hb hla hlb).mono ?_)
  rintro e w' ⟨rfl, rfl⟩
  go_wp2_with fail
  go_ret
  exact ⟨rfl, rfl⟩
theorem order_any (a b : List Int) (va vb vs : Value) (w : World) (ha : SI w va a) (hb : SI w vb b) (hla : a.length ≤ 1000000) (hlb : b.length ≤ 1000000) :
    Calls Try.prog 57 #[vs, va, vb] w fun e w' => e = .returned (.int .i64 (cmpV a b)) ∧ w = w' := by
  go_enter Try.func57, Try.ntmps57
  go_wp2_with fail
  (with_reducible refine (compare_any a b _ _ _ ha hb hla hlb).mono ?_)
  rintro e w' ⟨rfl, rfl⟩
  go_wp2_with fail
  go_ret
  exact ⟨rfl, rfl⟩
theorem run1_any (a b : List Int) (va vb : Value) (w : World) (ha : SI w va a) (hb : SI w vb b) (hla : a.length ≤ 1000000) (hlb : b.length ≤ 1000000) :
    Calls Try.prog 59 #[va, vb] w fun e w' => e = .returned (.bool (cmpV a b == 0)) ∧ w = w' := by
  go_enter Try.func59, Try.ntmps59
  go_wp2_with fail
  (with_reducible refine (compare_any a b _ _ _ ha hb hla hlb).mono ?_)
  rintro e w' ⟨rfl, rfl⟩
  go_wp2_with fail
  go_ret
  exact ⟨rfl, rfl⟩
end Go.Proofs.Ytbgabipngdillaa

namespace Go.Proofs.Ytbgabipngdillaa
open Go.RowKit
def dgV (P : Int) (l : List Int) : Int := if opE P [l] = 0 then ((trim l).length : Int) - 1 else 0
set_option maxRecDepth 100000 in
theorem degree_any (P : Int) (l : List Int) (v : Value) (w : World) (hP : i64r P) (h : SI w v l) :
    Calls Try.prog 46 #[.agg #[.int .i64 P], v] w fun e w' => e = .returned (.tuple #[.int .i64 (dgV P l), .int .i64 (opE P [l])]) ∧ Below w.heap.size w w' := by
  have hbP : Below w.heap.size w (w.alloc (.cells #[.int .i64 P] 26)) := (Below.refl _ _).alloc (Nat.le_refl _) _
  have HS := Lib.hid (SI.below h hbP)
  have HS0 := Lib.hid h
  obtain ⟨A, c, rfl⟩ := h.form
  have hSL := SL.one HS.out 22
  rw [World.size_alloc] at hSL
  have HSL := Lib.hid hSL
  clear h hSL
  go_enter Try.func46, Try.ntmps46
  go_wp2_with fail
  (with_reducible refine (open_any P [l] _ _ hP HSL.out).mono ?_); rintro e w1 ⟨rfl, hb1⟩
  generalize hoe : opE P [l] = oe at *
  generalize opV P [l] = ov
  have HOE := Lib.hid hoe
  clear hoe
  have hB1 := (hbP.alloc (by simp) (.cells #[.slice A l.length c] 22)).trans (hb1.mono (by simp; omega))
  by_cases he : oe = 0
  · subst he
    have HD : Hid (dgV P l = ((trim l).length : Int) - 1) := if_pos HOE.out
    have HS1 := Lib.hid (SI.below HS0.out hB1)
    go_wp2_with fail
    (with_reducible refine (trim_any l A c _ HS1.out).mono ?_); rintro e w' ⟨rfl, ht, rfl⟩; clear ht
    have hbd : (trim l).length ≤ 9223372036854775807 := by
      obtain ⟨_, _, e, h1, h2, _⟩ := HS0.out
      injection e with e1 e2 e3
      have := trim_len l
      omega
    go_wp2_with fail
    go_ret2
    exact ⟨by rw [HD.out, HOE.out]; rfl, hB1⟩
  · have HD : Hid (dgV P l = 0) := if_neg (by rw [HOE.out]; exact he)
    have hb : (oe != 0) = true := by rw [bne_iff_ne]; exact he
    have HE := Lib.hid he
    clear he
    go_wp2_with fail
    go_ret2
    exact ⟨by rw [HD.out, HOE.out]; rfl, hB1⟩
end Go.Proofs.Ytbgabipngdillaa

namespace Go.Proofs.Ytbgabipngdillaa
open Go.RowKit Go.Shelf
attribute [local go_sem] Oper.semAt_some

/-- does the polynomial run through a share -/
def hit (P : Int) (p : List Int) (t : Int × Int) : Bool := val P p t.1 == t.2
def agC (P : Int) (l : List (Int × Bool)) (p : List Int) : Nat := ((kn l).filter (hit P p)).length
def agE (P : Int) (l : List (Int × Bool)) (p : List Int) : Int := if ceE P l = 0 then opE P [p] else ceE P l
def agN (P : Int) (l : List (Int × Bool)) (p : List Int) : Int := if agE P l p = 0 then (agC P l p : Int) else 0
theorem ag_ce {P : Int} {l : List (Int × Bool)} {p : List Int} (h : ceE P l ≠ 0) : agE P l p = ceE P l ∧ agN P l p = 0 := by
  have e : agE P l p = ceE P l := if_neg h
  exact ⟨e, if_neg (by rw [e]; exact h)⟩
theorem ag_op {P : Int} {l : List (Int × Bool)} {p : List Int} (h : ceE P l = 0) (h2 : opE P [p] ≠ 0) : agE P l p = opE P [p] ∧ agN P l p = 0 := by
  have e : agE P l p = opE P [p] := if_pos h
  exact ⟨e, if_neg (by rw [e]; exact h2)⟩
theorem ag_0 {P : Int} {l : List (Int × Bool)} {p : List Int} (h : ceE P l = 0) (h2 : opE P [p] = 0) : agE P l p = 0 ∧ agN P l p = agC P l p := by
  have e : agE P l p = 0 := by unfold agE; rw [if_pos h, h2]
  exact ⟨e, if_pos e⟩
theorem ceE_inv {P : Int} {l : List (Int × Bool)} (h : ceE P l = 0) : prB P = true ∧ l.length ≤ 32 ∧ (l.length : Int) < P ∧ ∀ t ∈ kn l, el P t.2 = true := by
  unfold ceE at h
  by_cases h1 : prB P = false
  · rw [if_pos h1] at h; omega
  rw [if_neg h1] at h
  by_cases h2 : 32 < l.length ∨ P ≤ l.length
  · rw [if_pos h2] at h; omega
  rw [if_neg h2] at h
  by_cases h3 : ((kn l).all fun p => el P p.2) = true
  · exact ⟨by simpa using h1, by omega, by omega, fun t ht => List.all_eq_true.1 h3 t ht⟩
  · rw [if_neg h3] at h; omega
theorem opE_one {P : Int} {a : List Int} (h : opE P [a] = 0) : prB P = true ∧ els P a = true ∧ a.length ≤ 512 := by
  unfold opE at h
  by_cases h1 : prB P = false
  · rw [if_pos h1] at h; omega
  rw [if_neg h1] at h
  by_cases h2 : ([a].all (els P)) = false
  · rw [if_pos h2] at h; omega
  rw [if_neg h2] at h
  by_cases h3 : longB [a] = true
  · rw [if_pos h3] at h; omega
  simp [longB] at h1 h2 h3
  exact ⟨h1, h2, by omega⟩
/-- how many of some places are hit -/
def hits (P : Int) (l : List (Int × Bool)) (p : List Int) (pre : List (Fin (kn l).length)) : Nat := (pre.filter fun j => hit P p (kn l)[j]).length
theorem hits_snoc (P : Int) (l : List (Int × Bool)) (p : List Int) (pre : List (Fin (kn l).length)) (j : Fin (kn l).length) : hits P l p (pre ++ [j]) = hits P l p pre + if hit P p (kn l)[j] = true then 1 else 0 := by
  unfold hits
  rw [List.filter_append, List.length_append, List.filter_cons]
  split <;> rfl
theorem hits_one (P : Int) (l : List (Int × Bool)) (p : List Int) (pre : List (Fin (kn l).length)) (j : Fin (kn l).length) : (hit P p (kn l)[j.1] = true → hits P l p (pre ++ [j]) = hits P l p pre + 1) ∧ (hit P p (kn l)[j.1] = false → hits P l p (pre ++ [j]) = hits P l p pre) := by
  constructor
  · intro h
    rw [hits_snoc, if_pos (by simpa using h)]
  · intro h
    rw [hits_snoc, if_neg (by simp [h])]; rfl
theorem hits_upA (P : Int) (l : List (Int × Bool)) (p : List Int) (k : Nat) (h : k ≤ (kn l).length) : hits P l p (upA (kn l).length k) = (((kn l).take k).filter (hit P p)).length := by
  induction k with
  | zero => simp [upA, hits]
  | succ k ih =>
    rw [upA_succ (by omega), hits_snoc, ih (by omega), List.take_succ_eq_append_getElem (by omega), List.filter_append, List.length_append, List.filter_cons]
    simp only [Fin.getElem_fin]
    split <;> rfl
theorem hits_all (P : Int) (l : List (Int × Bool)) (p : List Int) : hits P l p (upA (kn l).length (kn l).length) = agC P l p := by
  rw [hits_upA P l p _ (Nat.le_refl _), List.take_length]; rfl
theorem hits_le (P : Int) (l : List (Int × Bool)) (p : List Int) (pre : List (Fin (kn l).length)) : hits P l p pre ≤ pre.length := List.length_filter_le _ _

set_option maxRecDepth 100000 in
set_option maxHeartbeats 4000000 in
theorem agree_in (P : Int) (l : List (Int × Bool)) (p : List Int) (v vp : Value) (w : World) (hP : i64r P) (h : SCl w v l) (hz : l.length ≤ 1000000) (hp : SI w vp p) :
    CallsIn Fence.wide 8 Try.prog 44 #[.agg #[.int .i64 P], v, vp] w fun e w' => e = .returned (.tuple #[.int .i64 (agN P l p), .int .i64 (agE P l p)]) ∧ Below w.heap.size w w' := by
  have HS := Lib.hid h
  have HSP := Lib.hid hp
  obtain ⟨A, c, rfl⟩ := h.form
  obtain ⟨AP, cp, rfl⟩ := hp.form
  clear h hp
  refine callsIn_of_wp_marks Try.func44 rfl trivial ?_ rfl
  simp only [Try.ntmps44, List.size_toArray, List.length_cons, List.length_nil, Nat.reduceAdd, Nat.reduceSub, Array.replicate_succ, Array.replicate_zero, List.push_toArray, List.append_toArray, List.nil_append, List.cons_append]
  gi_upto_region 1 with fail
  obtain ⟨w0, ew⟩ : ∃ w0 : World, w0 = (w.alloc (.cells #[.int .i64 P] 26)).alloc (.cells #[.slice AP p.length cp] 22) := ⟨_, rfl⟩
  have hB0 : Below w.heap.size w w0 := by rw [ew]; exact ((Below.refl _ _).alloc (Nat.le_refl _) _).alloc (by simp) _
  have hz0 : w.heap.size + 1 < w0.heap.size := by rw [ew]; simp
  have b0 : w0.cell? ⟨w.heap.size, 0, none⟩ = some (.int .i64 P) := by rw [ew]; simp [go_sem]
  have b1 : w0.cell? ⟨w.heap.size + 1, 0, none⟩ = some (.slice AP p.length cp) := by rw [ew]; simp [go_sem]
  rw [← ew]
  clear ew
  have HS0 := Lib.hid (HS.out.below hB0)
  gi_wp2_with fail
  refine ⟨trivial, (callsIn_wide.2 (cells_any P l _ _ hP HS0.out hz)).mono ?_⟩
  rintro e w1 ⟨rfl, hb1⟩
  have hB1 := hB0.trans (hb1.mono hB0.size)
  have hz1 := hb1.size
  have c0 := (hb1.cell (p := ⟨w.heap.size, 0, none⟩) (by show w.heap.size < _; omega)).trans b0
  have c1 := (hb1.cell (p := ⟨w.heap.size + 1, 0, none⟩) (by show w.heap.size + 1 < _; omega)).trans b1
  clear b0 b1
  by_cases h0 : ceE P l = 0
  · obtain ⟨hp, hl32, hlP, hkn⟩ := ceE_inv h0
    have hcp : ceP P l = P := if_pos h0
    have hPb := prB_bd hp
    have HCE := Lib.hid h0
    have HKN := Lib.hid hkn
    rw [h0, hcp]
    generalize ceN P l = cn
    clear h0 hcp hkn hp
    gi_upto_region 4 with fail
    obtain ⟨w2, ew⟩ : ∃ w2 : World, w2 = w1.alloc (.cells #[.int .i64 P] 95) := ⟨_, rfl⟩
    have hb2 : Below w1.heap.size w1 w2 := by rw [ew]; exact (Below.refl _ _).alloc (Nat.le_refl _) _
    have hz2 : w1.heap.size < w2.heap.size := by rw [ew]; simp
    have d0 := (hb2.cell (p := ⟨w.heap.size, 0, none⟩) (by show w.heap.size < _; omega)).trans c0
    have d1 := (hb2.cell (p := ⟨w.heap.size + 1, 0, none⟩) (by show w.heap.size + 1 < _; omega)).trans c1
    have d8 : w2.cell? ⟨w1.heap.size, 0, none⟩ = some (.int .i64 P) := by rw [ew]; exact cell_of_row _ _ 0 _ _ (0, 0) (heap_alloc_new w1 _)
    have hB2 := hB1.trans (hb2.mono hB1.size)
    have HSP2 := Lib.hid (SI.below HSP.out hB2)
    rw [← ew]
    clear ew c0 c1
    gi_wp2_with fail
    refine ⟨trivial, (callsIn_wide.2 (degree_any P p _ _ hP HSP2.out)).mono ?_⟩
    rintro e w3 ⟨rfl, hb3⟩
    have hB3 := hB2.trans (hb3.mono hB2.size)
    have hz3 := hb3.size
    have e0 := (hb3.cell (p := ⟨w.heap.size, 0, none⟩) (by show w.heap.size < _; omega)).trans d0
    have e1 := (hb3.cell (p := ⟨w.heap.size + 1, 0, none⟩) (by show w.heap.size + 1 < _; omega)).trans d1
    have e8 := (hb3.cell (p := ⟨w1.heap.size, 0, none⟩) hz2).trans d8
    clear d0 d1 d8
    generalize dgV P p = dv
    by_cases h1 : opE P [p] = 0
    · obtain ⟨_, hep, hpl⟩ := opE_one h1
      have HOP := Lib.hid h1
      have HEP := Lib.hid hep
      rw [h1]
      clear h1 hep
      gi_upto_region 8 with fail
      obtain ⟨w4, ew⟩ : ∃ w4 : World, w4 = w3.alloc (.cells #[.int .i64 0] 3) := ⟨_, rfl⟩
      have hb4 : Below w3.heap.size w3 w4 := by rw [ew]; exact (Below.refl _ _).alloc (Nat.le_refl _) _
      have hz4 : w3.heap.size < w4.heap.size := by rw [ew]; simp
      have f1 := (hb4.cell (p := ⟨w.heap.size + 1, 0, none⟩) (by show w.heap.size + 1 < _; omega)).trans e1
      have f8 := (hb4.cell (p := ⟨w1.heap.size, 0, none⟩) (by show w1.heap.size < _; omega)).trans e8
      have f13 : w4.cell? ⟨w3.heap.size, 0, none⟩ = some (.int .i64 0) := by rw [ew]; exact cell_of_row _ _ 0 _ _ (0, 0) (heap_alloc_new w3 _)
      have g13 : w4.frozen? ⟨w3.heap.size, 0, none⟩ = false := by rw [ew]; exact frozen_of_row _ _ 0 _ _ (heap_alloc_new w3 _)
      have hB4 := hB3.trans (hb4.mono hB3.size)
      rw [← ew]
      clear ew e0 e1 e8
      gi_wp2_with fail
      refine ⟨trivial, (callsIn_wide.2 (known_any _ _ _ _)).mono ?_⟩
      rintro e w' ⟨rfl, rfl⟩
      gi_wp2_with fail
      obtain ⟨W0, eW⟩ : ∃ W0 : World, W0 = w4.alloc (.cells #[.slice A l.length c] 27) := ⟨_, rfl⟩
      have hbW : Below w4.heap.size w4 W0 := by rw [eW]; exact (Below.refl _ _).alloc (Nat.le_refl _) _
      have hzW : w4.heap.size < W0.heap.size := by rw [eW]; simp
      have cS : W0.cell? ⟨w4.heap.size, 0, none⟩ = some (.slice A l.length c) := by rw [eW]; exact cell_of_row _ _ 0 _ _ (0, 0) (heap_alloc_new w4 _)
      have hBW := hB4.trans (hbW.mono hB4.size)
      have y1 := (hbW.cell (p := ⟨w.heap.size + 1, 0, none⟩) (by show w.heap.size + 1 < _; omega)).trans f1
      have y8 := (hbW.cell (p := ⟨w1.heap.size, 0, none⟩) (by show w1.heap.size < _; omega)).trans f8
      have y13 := (hbW.cell (p := ⟨w3.heap.size, 0, none⟩) hz4).trans f13
      have x13 := (hbW.frozen (p := ⟨w3.heap.size, 0, none⟩) hz4).trans g13
      rw [← eW]
      clear eW f1 f8 f13 g13
      have HA := Lib.hid HS.out
      refine wpIn_rangeFunc_ownG rfl (by omega) (gf := 83) (lb := #[.pointer (some ⟨w4.heap.size, 0, none⟩)]) rfl trivial (enters_of Try.func83 (by kernel_rfl) rfl)
        (kn_stops 7 (by omega) w4.heap.size (fun b => b < w.heap.size) l A c hz W0 (fun k hk => by omega) hzW cS
          (fun h0 => by
            obtain ⟨A', c', e, _, _, _, ha⟩ := HS.out
            injection e with e1 e2 e3
            subst e1
            obtain ⟨b, off, e, hb, hc⟩ := ha h0
            exact ⟨b, off, e, hb, fun j hj => ⟨(hBW.cell (p := ⟨b, off + j * 2, none⟩) hb).trans (hc j hj).1, (hBW.cell (p := ⟨b, off + j * 2 + 1, none⟩) hb).trans (hc j hj).2⟩⟩))
        KB_t (KB_b (fun k hk => by omega)) (Below.refl _ _) (fun _ => rfl)
        (fun pre W => (W.cell? ⟨w.heap.size + 1, 0, none⟩ = some (.slice AP p.length cp) ∧ W.cell? ⟨w1.heap.size, 0, none⟩ = some (.int .i64 P) ∧ W.cell? ⟨w3.heap.size, 0, none⟩ = some (.int .i64 (hits P l p pre)) ∧ W.frozen? ⟨w3.heap.size, 0, none⟩ = false ∧ W0.heap.size ≤ W.heap.size) ∧ Below w.heap.size w W)
        (fun _ _ _ => False)
        (OwnFrom.and (Own.from (fun s A B row hs hg hr => ⟨cell_kept hs.1 hg hr, cell_kept hs.2.1 hg hr, cell_kept hs.2.2.1 hg hr, (frozen_kept hs.2.2.1 hg hr).trans hs.2.2.2.1, Nat.le_trans hs.2.2.2.2 hg.size⟩) _) (ownFrom_below (Nat.le_refl _) (by omega)))
        (fun _ _ _ _ _ hs _ _ => hs)
        ⟨⟨y1, y8, y13, x13, Nat.le_refl _⟩, hBW⟩
        (fun j => { tmps := #[.agg #[.int .i64 P], .slice A l.length c, .slice AP p.length cp, .pointer (some ⟨w.heap.size, 0, none⟩), undef, .pointer (some ⟨w.heap.size + 1, 0, none⟩), .int .i64 0, .int .i64 0, .pointer (some ⟨w1.heap.size, 0, none⟩), .int .i64 cn, .int .i64 0, .int .i64 dv, .int .i64 0, .pointer (some ⟨w3.heap.size, 0, none⟩), .int .i64 (kn l)[j].1, .int .i64 (kn l)[j].2, .tuple #[.int .i64 P, .int .i64 cn, .int .i64 0], .agg #[.int .i64 P], .slice A l.length c, .tuple #[.int .i64 P, .int .i64 cn, .int .i64 0], .int .i64 P, .int .i64 cn, .int .i64 0, .int .i64 0, .bool false, undef, .tuple #[.int .i64 dv, .int .i64 0], .agg #[.int .i64 P], .slice AP p.length cp, .tuple #[.int .i64 dv, .int .i64 0], .int .i64 dv, .int .i64 0, .int .i64 0, .bool false, undef, .slice A l.length c, .func (.func 83) #[] #[.pointer (some ⟨w4.heap.size, 0, none⟩)], .int .i64 (kn l)[j].1, .int .i64 (kn l)[j].2, undef, undef, undef, undef, undef, undef, undef, undef, undef], defers := [] }) ?assign ?body ?done ?stop
      case assign =>
        intro lr x W K hK
        gi_wp2
        exact hK
      case body =>
        rintro lr pre j W ⟨⟨p1, p8, p13, r13, hzz⟩, hB⟩ hpl2
        have hlen2 : pre.length ≤ 1000000 := by
          have h1 : (kn l).length ≤ l.length := kn_len l 0
          omega
        have hhl := hits_le P l p pre
        have hx := kn_at (List.getElem_mem j.2)
        have HHS := Lib.hid (hits_one P l p pre j)
        have HSPW := Lib.hid (SI.below HSP.out hB)
        clear y1 y8 y13 x13 cS hpl2
        simp only [Fin.getElem_fin] at HHS ⊢
        obtain ⟨t, et⟩ : ∃ t, (kn l)[j.1] = t := ⟨_, rfl⟩
        rw [et] at HHS hx ⊢
        clear et
        have hxP : 0 ≤ t.1 ∧ t.1 < P := by omega
        gi_wp2_with fail
        refine ⟨trivial, (CallsIn.inRound lr (callsIn_wide.2 (value_any P t.1 p _ _ hPb hxP HEP.out (by omega) HSPW.out))).mono ?_⟩
        rintro e w5 ⟨rfl, hb5⟩
        have hz5 := hb5.size
        have hkf : KeepsFrom W0.heap.size W w5 := KeepsFrom.of_grownBy (grownBy_of_below hb5 none) (fun j e => by cases e)
        have hkb : KB (fun b => b < w.heap.size) W w5 := KB.of hb5 (fun k hk => by have := hB.size; omega)
        have q1 := (hb5.cell (p := ⟨w.heap.size + 1, 0, none⟩) (by show w.heap.size + 1 < _; omega)).trans p1
        have q8 := (hb5.cell (p := ⟨w1.heap.size, 0, none⟩) (by show w1.heap.size < _; omega)).trans p8
        have q13 := (hb5.cell (p := ⟨w3.heap.size, 0, none⟩) (by show w3.heap.size < _; omega)).trans p13
        have s13 := (hb5.frozen (p := ⟨w3.heap.size, 0, none⟩) (by show w3.heap.size < _; omega)).trans r13
        have hB5 := hB.trans (hb5.mono hB.size)
        clear p1 p8 p13 r13
        cases hh : hit P p t with
        | true =>
          have hv : (val P p t.1 == t.2) = true := hh
          have HH := Lib.hid hh
          clear hh
          gi_wp2_with fail
          have hne : w3.heap.size ≠ w.heap.size + 1 := by omega
          have hne8 : w3.heap.size ≠ w1.heap.size := by omega
          have hk2 : KB (fun b => b < w.heap.size) w5 (w5.setCell ⟨w3.heap.size, 0, none⟩ (.int .i64 ((hits P l p pre : Int) + 1))) := ⟨by simp [World.setCell], fun p hp => World.cell?_setCell_other _ _ _ _ (fun e => by rw [← e] at hp; have h5 : w3.heap.size < w.heap.size := hp; omega)⟩
          refine ⟨hkf.trans ((KeepsOthers.setCell _ _ _).from _), KB_t hkb hk2, ⟨setOther q1 hne, setOther q8 hne8, ?_, by rw [World.frozen?_setCell]; exact s13, ?_⟩, hB5.setCell (p := ⟨w3.heap.size, 0, none⟩) (by show w.heap.size ≤ w3.heap.size; omega) _⟩
          · rw [World.cell?_setCell_same _ _ _ q13, HHS.out.1 HH.out]
            rfl
          · have := (KeepsOthers.setCell w5 ⟨w3.heap.size, 0, none⟩ (.int .i64 ((hits P l p pre : Int) + 1))).size
            omega
        | false =>
          have hv : (val P p t.1 == t.2) = false := hh
          have HH := Lib.hid hh
          clear hh
          gi_wp2_with fail
          exact ⟨hkf, hkb, ⟨q1, q8, by rw [HHS.out.2 HH.out]; exact q13, s13, by omega⟩, hB5⟩
      case done =>
        rintro D ys W hD rfl ⟨⟨p1, p8, p13, r13, hzz⟩, hB⟩ hK
        have HE := Lib.hid (ag_0 HCE.out HOP.out)
        rw [hits_all] at p13
        clear y1 y8 y13 x13 cS
        gi_wp2
        refine ⟨by simp, .inl ⟨_, _, rfl, run_takeDeferred hK, ?_⟩⟩
        exact ⟨_, results_tmp2 rfl _ _ _, by rw [HE.out.1, HE.out.2]; rfl, hB.trans (belowK_b (w := w) (Nat.le_refl _) W D _ _ (by omega) hK rfl rfl)⟩
      case stop =>
        rintro D c pre W _ _ h _
        exact h.elim
    · have HE := Lib.hid (ag_op HCE.out h1)
      have hb : (opE P [p] != 0) = true := by rw [bne_iff_ne]; exact h1
      have H1 := Lib.hid h1
      clear h1
      gi_wp2_with fail
      exact ⟨_, results_tmp2 rfl _ _ _, by rw [HE.out.1, HE.out.2]; rfl, hB3⟩
  · have HE := Lib.hid (ag_ce (p := p) h0)
    have hb : (ceE P l != 0) = true := by rw [bne_iff_ne]; exact h0
    have H0 := Lib.hid h0
    clear h0
    gi_wp2_with fail
    exact ⟨_, results_tmp2 rfl _ _ _, by rw [HE.out.1, HE.out.2]; rfl, hB1.trans (((Below.refl _ _).alloc (Nat.le_refl _) _).mono hB1.size)⟩
theorem agree_any (P : Int) (l : List (Int × Bool)) (p : List Int) (v vp : Value) (w : World) (hP : i64r P) (h : SCl w v l) (hz : l.length ≤ 1000000) (hp : SI w vp p) :
    Calls Try.prog 44 #[.agg #[.int .i64 P], v, vp] w fun e w' => e = .returned (.tuple #[.int .i64 (agN P l p), .int .i64 (agE P l p)]) ∧ Below w.heap.size w w' :=
  callsIn_wide.1 (agree_in P l p v vp w hP h hz hp)
end Go.Proofs.Ytbgabipngdillaa

namespace Go.Proofs.Ytbgabipngdillaa
open Go.RowKit Go.Shelf

/-- all blocks but s and the one of the slice A stay -/
structure LMv (s : Nat) (A : Value) (w : World) (A' : Value) (w' : World) : Prop where
  os : w'.os = w.os
  tape : w'.tape = w.tape
  output : w'.output = w.output
  size : w.heap.size ≤ w'.heap.size
  block : ∀ k, k < w.heap.size → k ≠ s → A.ownBlock ≠ some k → w'.heap[k]? = w.heap[k]?
  own : ∀ g, A'.ownBlock = some g → A.ownBlock = some g ∨ w.heap.size ≤ g
theorem LMv.refl (s : Nat) (A : Value) (w : World) : LMv s A w A w := ⟨rfl, rfl, rfl, Nat.le_refl _, fun _ _ _ _ => rfl, fun _ h => .inl h⟩
theorem LMv.trans {s : Nat} {A B C : Value} {w w' w'' : World} (h : LMv s A w B w') (k : LMv s B w' C w'') : LMv s A w C w'' := by
  refine ⟨k.os.trans h.os, k.tape.trans h.tape, k.output.trans h.output, Nat.le_trans h.size k.size, fun i hi hs hA => ?_, fun g hg => ?_⟩
  · refine (k.block i (Nat.lt_of_lt_of_le hi h.size) hs fun e => ?_).trans (h.block i hi hs hA)
    rcases h.own i e with e | e
    · exact hA e
    · omega
  · rcases k.own g hg with e | e
    · exact h.own g e
    · have := h.size; exact .inr (by omega)
theorem LMv.below {s : Nat} {A A' : Value} {w w' : World} (h : LMv s A w A' w') (hA : ∀ g, A.ownBlock = some g → s < g) {B : Nat} (hB : B ≤ s) (hs : s ≤ w.heap.size) : Below B w w' :=
  ⟨h.os, h.tape, h.output, h.size, fun k hk => h.block k (by omega) (by omega) fun e => by have := hA k e; omega⟩
theorem LMv.of_below {s : Nat} {A : Value} {w w' : World} (h : Below w.heap.size w w') : LMv s A w A w' :=
  ⟨h.os, h.tape, h.output, h.size, fun k hk _ _ => h.block k hk, fun _ h => .inl h⟩

/-- A slice of ints in blocks behind s, none of which is A's own. -/
def SA (s : Nat) (A : Value) (w : World) (v : Value) (l : List Int) : Prop :=
  ∃ P c, v = .slice P l.length c ∧ l.length ≤ c ∧ c ≤ 9223372036854775807 ∧ (∀ x ∈ l, i64r x) ∧
    (0 < l.length → ∃ b off, P = some ⟨b, off, none⟩ ∧ s < b ∧ b < w.heap.size ∧ A.ownBlock ≠ some b ∧ ∀ j (h : j < l.length), w.cell? ⟨b, off + j, none⟩ = some (.int .i64 l[j]))
theorem SA.si {s : Nat} {A : Value} {w : World} {v : Value} {l : List Int} (h : SA s A w v l) : SI w v l := by
  obtain ⟨P, c, rfl, hc, hm, hr, ha⟩ := h
  refine ⟨P, c, rfl, hc, hm, hr, fun h0 => ?_⟩
  obtain ⟨b, off, rfl, _, hb, _, hcell⟩ := ha h0
  exact ⟨b, off, rfl, hb, hcell⟩
theorem SA.keep {s : Nat} {A A' : Value} {w w' : World} {v : Value} {l : List Int} (h : SA s A w v l) (hm : LMv s A w A' w') : SA s A' w' v l := by
  obtain ⟨P, c, rfl, hc, hmx, hr, ha⟩ := h
  refine ⟨P, c, rfl, hc, hmx, hr, fun h0 => ?_⟩
  obtain ⟨b, off, rfl, hsb, hb, hA, hcell⟩ := ha h0
  refine ⟨b, off, rfl, hsb, Nat.lt_of_lt_of_le hb hm.size, fun e => ?_, fun j hj => (World.cell?_of_block (hm.block b hb (by omega) hA)).trans (hcell j hj)⟩
  rcases hm.own b e with e | e
  · exact hA e
  · omega
/-- a new row of the call's own -/
theorem SA.of_own {s : Nat} {A : Value} {w : World} {base : Nat} {e : TypeId} {v : Value} {l : List Int} (h : w.ownsRow base e 1 v l.length (l.map (Value.int .i64))) (hr : ∀ x ∈ l, i64r x) (hs : s < base) (hA : ∀ g, A.ownBlock = some g → g < base) : SA s A w v l := by
  rcases h.2 with ⟨rfl, hn⟩ | ⟨g, cap, cur, rfl, hb, hg, hnc, hcm, hcs, htake⟩
  · have : l = [] := List.eq_nil_of_length_eq_zero hn
    subst this
    exact ⟨none, 0, rfl, Nat.le_refl _, by omega, hr, fun h => by simp at h⟩
  · refine ⟨_, cap, rfl, hnc, by simpa [maxLen] using hcm, hr, fun h0 => ⟨g, 0, rfl, by omega, (Array.getElem?_eq_some_iff.1 hg).1, fun e => by have := hA g e; omega, fun j hj => ?_⟩⟩
    have := h.cellAt j (by omega)
    rw [Nat.zero_add, this]
    simp [hj]

/-- The state of a search at s: what was found so far, and the most places. -/
structure LSt (s : Nat) (P : Int) (vl : Value) (k ag : Int) (w : World) (A : Value) (ps : List (List Int)) (most : Int) : Prop where
  cells : w.heap[s]? = some (.cells #[.int .i64 P, vl, .int .i64 k, .int .i64 ag, A, .int .i64 most] 101 (0, 0))
  own : ∃ vs, w.ownsRow (s + 1) 22 1 A ps.length vs ∧ ∀ j (h : j < vs.length) (h2 : j < ps.length), SA s A w vs[j] ps[j]
theorem LSt.lt {s : Nat} {P : Int} {vl : Value} {k ag : Int} {w : World} {A : Value} {ps : List (List Int)} {most : Int} (h : LSt s P vl k ag w A ps most) : s < w.heap.size ∧ ∀ g, A.ownBlock = some g → s < g ∧ g < w.heap.size := by
  refine ⟨heap_of_cells h.cells, fun g hg => ?_⟩
  obtain ⟨vs, ho, _⟩ := h.own
  have := ho.lt g hg
  omega
/-- new memory alone -/
theorem LSt.below {s : Nat} {P : Int} {vl : Value} {k ag : Int} {w w' : World} {A : Value} {ps : List (List Int)} {most : Int} (h : LSt s P vl k ag w A ps most) (hb : Below w.heap.size w w') : LSt s P vl k ag w' A ps most := by
  refine ⟨(hb.block s h.lt.1).trans h.cells, ?_⟩
  obtain ⟨vs, ho, hv⟩ := h.own
  refine ⟨vs, ⟨ho.1, ?_⟩, fun j h1 h2 => (hv j h1 h2).keep (LMv.of_below hb)⟩
  rcases ho.2 with h0 | ⟨g, cap, cur, rfl, hbg, hg, hnc, hcm, hcs, htake⟩
  · exact .inl h0
  · exact .inr ⟨g, cap, cur, rfl, hbg, (hb.block g (heap_of_cells hg)).trans hg, hnc, hcm, hcs, htake⟩
theorem own_setCell' {w : World} {base e size n : Nat} {v u : Value} {xs : List Value} {p : Addr} (h : w.ownsRow base e size v n xs) (hp : p.block < base) : (w.setCell p u).ownsRow base e size v n xs := by
  refine ⟨h.1, ?_⟩
  rcases h.2 with hn | ⟨g, cap, cur, rfl, hb, hgg, rest⟩
  · exact .inl hn
  · exact .inr ⟨g, cap, cur, rfl, hb, (heap_setCell_other w p g u (by omega)).trans hgg, rest⟩
theorem LMv.setCell (s : Nat) (A A' : Value) (w : World) (i : Nat) (u : Value) (hA : ∀ g, A'.ownBlock = some g → A.ownBlock = some g ∨ w.heap.size ≤ g) : LMv s A w A' (w.setCell ⟨s, i, none⟩ u) :=
  ⟨rfl, rfl, rfl, by simp [World.setCell], fun k _ hs _ => heap_setCell_other w ⟨s, i, none⟩ k u hs, hA⟩
/-- the most places, laid anew -/
theorem LSt.setMost {s : Nat} {P : Int} {vl : Value} {k ag : Int} {w : World} {A : Value} {ps : List (List Int)} {most : Int} (h : LSt s P vl k ag w A ps most) (m : Int) :
    LSt s P vl k ag (w.setCell ⟨s, 5, none⟩ (.int .i64 m)) A ps m ∧ LMv s A w A (w.setCell ⟨s, 5, none⟩ (.int .i64 m)) := by
  have hm := LMv.setCell s A A w 5 (.int .i64 m) (fun g hg => .inl hg)
  refine ⟨⟨?_, ?_⟩, hm⟩
  · have := heap_setCell_same w s 5 _ _ (.int .i64 m) h.cells
    simpa using this
  · obtain ⟨vs, ho, hv⟩ := h.own
    exact ⟨vs, own_setCell' ho (by show s < s + 1; omega), fun j h1 h2 => (hv j h1 h2).keep hm⟩
/-- one more was found -/
theorem LSt.push {s : Nat} {P : Int} {vl : Value} {k ag : Int} {w : World} {A : Value} {ps : List (List Int)} {most : Int} (h : LSt s P vl k ag w A ps most) {vs : List Value} (hv : ∀ j (h : j < vs.length) (h2 : j < ps.length), SA s A w vs[j] ps[j])
    (hvl : vs.length = ps.length) {v : Value} {p : List Int} (hp : SA s A w v p) {w3 : World} {A' : Value} (h3 : w3.ownsRow (s + 1) 22 1 A' (ps.length + 1) (vs ++ [v])) (hg : w.grownBy w3 A.ownBlock)
    (hat : ∀ g, A'.ownBlock = some g → A.ownBlock = some g ∨ w.heap.size ≤ g) :
    LSt s P vl k ag (w3.setCell ⟨s, 4, none⟩ A') A' (ps ++ [p]) most ∧ LMv s A w A' (w3.setCell ⟨s, 4, none⟩ A') := by
  have hlt := h.lt
  have hAs : A.ownBlock ≠ some s := fun e => by have := hlt.2 s e; omega
  have hm1 : LMv s A w A' w3 := ⟨hg.os, hg.tape, hg.output, hg.size, fun k hk _ hA => hg.block k hk fun e => hA e.symm, hat⟩
  have hm2 := LMv.setCell s A' A' w3 4 A' (fun g hg => .inl hg)
  have hm := hm1.trans hm2
  refine ⟨⟨?_, vs ++ [v], ?_, ?_⟩, hm⟩
  · have hc : w3.heap[s]? = some (.cells #[.int .i64 P, vl, .int .i64 k, .int .i64 ag, A, .int .i64 most] 101 (0, 0)) := (hg.block s hlt.1 fun e => hAs e.symm).trans h.cells
    have := heap_setCell_same w3 s 4 _ _ A' hc
    simpa using this
  · have := own_setCell' (u := A') (p := ⟨s, 4, none⟩) h3 (by show s < s + 1; omega)
    simpa using this
  · intro j h1 h2
    by_cases hj : j < ps.length
    · have h5 := (hv j (by omega) hj).keep hm
      rw [List.getElem_append_left (by omega), List.getElem_append_left hj]
      exact h5
    · have hjj : j = ps.length := by simp at h2; omega
      subst hjj
      have h5 := hp.keep hm
      rw [List.getElem_append_right (by omega), List.getElem_append_right (by omega)]
      simpa [hvl] using h5
/-- what look does -/
def lookS (P : Int) (l : List (Int × Bool)) (ag : Int) (st : List (List Int) × Int) (ch : List (Int × Int)) : List (List Int) × Int :=
  if inE P ch = 0 then (if ag ≤ agN P l (inP P ch) then st.1 ++ [inP P ch] else st.1, if st.2 < agN P l (inP P ch) then agN P l (inP P ch) else st.2) else st
end Go.Proofs.Ytbgabipngdillaa
