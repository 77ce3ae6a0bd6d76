/- Fill of the package code: the polynomial through the first known cells. -/
import Derived.Test.YtbgabipngdillaaFi
import Derived.Deep.RegionWith
namespace Go.Proofs.Ytbgabipngdillaa
open Go.RowKit Go.Shelf
attribute [local go_sem] Oper.semAt_some

def fiE (P : Int) (l : List (Int × Bool)) (k : Int) : Int := if ceE P l = 0 then (if k < 1 ∨ (l.length : Int) < k then 1 else if ((kn l).length : Int) < k then 11 else inE P ((kn l).take k.toNat)) else ceE P l
def fiP (P : Int) (l : List (Int × Bool)) (k : Int) : List Int := if ceE P l = 0 ∧ ¬ (k < 1 ∨ (l.length : Int) < k) ∧ ¬ ((kn l).length : Int) < k then inP P ((kn l).take k.toNat) else []
theorem fi_ce {P : Int} {l : List (Int × Bool)} {k : Int} (h : ceE P l ≠ 0) : fiE P l k = ceE P l ∧ fiP P l k = [] := ⟨if_neg h, if_neg fun e => h e.1⟩
theorem fi_rng {P : Int} {l : List (Int × Bool)} {k : Int} (h : ceE P l = 0) (h2 : k < 1 ∨ (l.length : Int) < k) : fiE P l k = 1 ∧ fiP P l k = [] := by
  refine ⟨?_, if_neg fun e => e.2.1 h2⟩
  unfold fiE
  rw [if_pos h, if_pos h2]
theorem fi_few {P : Int} {l : List (Int × Bool)} {k : Int} (h : ceE P l = 0) (h2 : ¬ (k < 1 ∨ (l.length : Int) < k)) (h3 : ((kn l).length : Int) < k) : fiE P l k = 11 ∧ fiP P l k = [] := by
  refine ⟨?_, if_neg fun e => e.2.2 h3⟩
  unfold fiE
  rw [if_pos h, if_neg h2, if_pos h3]
theorem fi_ok {P : Int} {l : List (Int × Bool)} {k : Int} (h : ceE P l = 0) (h2 : ¬ (k < 1 ∨ (l.length : Int) < k)) (h3 : ¬ ((kn l).length : Int) < k) : fiE P l k = inE P ((kn l).take k.toNat) ∧ fiP P l k = inP P ((kn l).take k.toNat) := by
  refine ⟨?_, if_pos ⟨h, h2, h3⟩⟩
  unfold fiE
  rw [if_pos h, if_neg h2, if_neg h3]
theorem kn_i64 {w : World} {v : Value} {l : List (Int × Bool)} (h : SCl w v l) (hz : l.length ≤ 1000000) : ∀ t ∈ kn l, i64r t.1 ∧ i64r t.2 := by
  have hz' := hz
  obtain ⟨A, c, rfl, _, _, hr, _⟩ := h
  intro t ht
  have h1 := kn_at ht
  refine ⟨by unfold i64r; omega, ?_⟩
  have key : ∀ (m : List (Int × Bool)) (i : Nat), (∀ x ∈ m, i64r x.1) → ∀ t ∈ knF i m, i64r t.2 := by
    intro m
    induction m with
    | nil => intro i _ t h; simp [knF] at h
    | cons c m ih =>
      intro i hm t h
      simp only [knF, List.mem_append] at h
      rcases h with h | h
      · split at h
        · simp at h; subst h; exact hm c (by simp)
        · simp at h
      · exact ih (i + 1) (fun x hx => hm x (by simp [hx])) t h
  exact key l 0 hr t ht

theorem fi_sg {w2 : World} {l : List (Int × Bool)} {m base : Nat} {e : TypeId} {v2 : Value} (hown2 : w2.ownsRow base e 2 v2 ((kn l).take m).length ((((kn l).take m).flatMap pcs).map (Value.int .i64))) (hr : ∀ t ∈ kn l, i64r t.1 ∧ i64r t.2) : SG pcs 2 w2.heap.size w2 v2 ((kn l).take m) :=
  SG.of_own hown2 (fun x hx y hy => by
    have hx2 := hr x (List.mem_of_mem_take hx)
    simp [pcs] at hy
    rcases hy with rfl | rfl
    · exact hx2.1
    · exact hx2.2) (fun _ _ => rfl)
set_option maxRecDepth 100000 in
set_option maxHeartbeats 4000000 in
theorem fill_any (P : Int) (l : List (Int × Bool)) (k : Int) (v : Value) (w : World) (hP : i64r P) (h : SCl w v l) (hz : l.length ≤ 1000000) :
    Calls Try.prog 31 #[.agg #[.int .i64 P], v, .int .i64 k] w fun e w' => ∃ v', e = .returned (.tuple #[v', .int .i64 (fiE P l k)]) ∧ w'.ownsRow w.heap.size 3 1 v' (fiP P l k).length ((fiP P l k).map (Value.int .i64)) ∧ Below w.heap.size w w' := by
  have HS := Lib.hid h
  obtain ⟨A, c, rfl⟩ := h.form
  clear h
  go_enter Try.func31, Try.ntmps31
  go_upto_region 1 with fail
  obtain ⟨w0, ew⟩ : ∃ w0 : World, w0 = w.alloc (.cells #[.int .i64 P] 26) := ⟨_, rfl⟩
  have hB0 : Below w.heap.size w w0 := by rw [ew]; exact (Below.refl _ _).alloc (Nat.le_refl _) _
  have hz0 : w.heap.size < w0.heap.size := by rw [ew]; simp
  have b0 : w0.cell? ⟨w.heap.size, 0, none⟩ = some (.int .i64 P) := by rw [ew]; simp [go_sem]
  rw [← ew]
  clear ew
  have HS0 := Lib.hid (HS.out.below hB0)
  go_wp2_with fail
  (with_reducible refine (cells_any P l _ _ hP HS0.out hz).mono ?_)
  rintro e w1 ⟨rfl, hb1⟩
  have hB1 := hB0.trans (hb1.mono hB0.size)
  have hz1 := hb1.size
  have c0 := (hb1.cell (p := ⟨w.heap.size, 0, none⟩) (by show w.heap.size < _; omega)).trans b0
  clear b0
  generalize ceP P l = cp
  by_cases h0 : ceE P l = 0
  · have hcn : ceN P l = (kn l).length := if_pos h0
    have H0 := Lib.hid h0
    rw [h0, hcn]
    clear h0 hcn
    by_cases h1 : k < 1 ∨ (l.length : Int) < k
    · have HE := Lib.hid (fi_rng H0.out h1)
      by_cases h3 : k < 1
      · have hd1 : decide (k < 1) = true := decide_eq_true h3
        go_wp2_with fail
        go_ret2
        exact ⟨.slice none 0 0, by rw [HE.out.1] <;> rfl, by rw [HE.out.2]; exact World.ownsRow_nil _ _ _ _, hB1⟩
      · have hd1 : decide (k < 1) = false := decide_eq_false h3
        have hd2 : decide ((l.length : Int) < k) = true := decide_eq_true (by omega)
        go_wp2_with fail
        go_ret2
        exact ⟨.slice none 0 0, by rw [HE.out.1] <;> rfl, by rw [HE.out.2]; exact World.ownsRow_nil _ _ _ _, hB1⟩
    · by_cases h2 : ((kn l).length : Int) < k
      · have HE := Lib.hid (fi_few H0.out h1 h2)
        have hd1 : decide (k < 1) = false := decide_eq_false (by omega)
        have hd2 : decide ((l.length : Int) < k) = false := decide_eq_false (by omega)
        have hd3 : decide (((kn l).length : Int) < k) = true := decide_eq_true h2
        go_wp2_with fail
        go_ret2
        exact ⟨.slice none 0 0, by rw [HE.out.1] <;> rfl, by rw [HE.out.2]; exact World.ownsRow_nil _ _ _ _, hB1⟩
      · have HE := Lib.hid (fi_ok H0.out h1 h2)
        have hd1 : decide (k < 1) = false := decide_eq_false (by omega)
        have hd2 : decide ((l.length : Int) < k) = false := decide_eq_false (by omega)
        have hd3 : decide (((kn l).length : Int) < k) = false := decide_eq_false h2
        obtain ⟨m, rfl⟩ : ∃ m : Nat, k = m := ⟨k.toNat, by omega⟩
        have hm1 : 1 ≤ m := by omega
        have hm2 : m ≤ (kn l).length := by omega
        have HR := Lib.hid (kn_i64 HS.out hz)
        have HS1 := Lib.hid (HS0.out.below hb1)
        have hkl : (kn l).length ≤ l.length := kn_len l 0
        rw [Int.toNat_natCast] at HE
        clear h1 h2
        go_wp2_with fail
        have hlt : ((kn l).take m).length ≤ 1000000 := by rw [List.length_take]; omega
        go_region_with (first
          | (go_at_call 54; refine (first_any l m _ _ hm1 hm2 (by exact HS1.out) hz).mono ?_; rintro e w2 ⟨v2, rfl, hown2, hb2⟩; have hB2 : Below w.heap.size w w2 := (by first | exact hB1.trans (hb2.mono hB1.size) | exact hB1.drew.trans (hb2.mono hB1.size) | exact hB1.drew.drew.trans (hb2.mono hB1.size)); have c2 : w2.cell? ⟨w.heap.size, 0, none⟩ = some (.int .i64 P) := (hb2.cell (p := ⟨w.heap.size, 0, none⟩) (by show w.heap.size < w1.heap.size; omega)).trans c0; have HG : Hid (SG pcs 2 w2.heap.size w2 v2 ((kn l).take m)) := fi_sg hown2 HR.out; clear hown2)
          | (go_at_call 53; refine (interp_any P _ v2 _ hP (by exact HG.out) hlt).mono ?_; rintro e w3 ⟨v3, rfl, hown3, hb3⟩; have HO3 := Lib.hid hown3; clear hown3))
        all_goals
          go_wp2_with fail
          go_ret2
          exact ⟨v3, by rw [HE.out.1] <;> rfl, by rw [HE.out.2]; exact own_lower HO3.out (by have h5 : w.heap.size ≤ w2.heap.size := hB2.size; exact h5), hB2.trans (hb3.mono hB2.size)⟩
  · have HE := Lib.hid (fi_ce (k := k) h0)
    have hb : (ceE P l != 0) = true := by rw [bne_iff_ne]; exact h0
    have H0 := Lib.hid h0
    clear h0
    go_wp2_with fail
    go_ret2
    exact ⟨.slice none 0 0, by rw [HE.out.1] <;> rfl, by rw [HE.out.2]; exact World.ownsRow_nil _ _ _ _, hB1⟩
end Go.Proofs.Ytbgabipngdillaa
