/- Joined: Un V0. -/
import Derived.Deep.RegionHeld3
import Derived.Deep.QuietTactic
import Derived.BigQuiet
import Derived.Deep.DeepCutAuto
import Derived.Lib.Hide
import Derived.Deep.RegionWith
import Derived.Deep.RegionLaw
import Derived.BigRegion
import Derived.Test.YtbgabipngdillaaJ03
import Derived.Test.YtbgabipngdillaaJ09
import Derived.Test.YtbgabipngdillaaJ15
import Derived.Test.YtbgabipngdillaaJ14
import Derived.Test.YtbgabipngdillaaJ16
import Derived.Test.YtbgabipngdillaaJ05
import Derived.Test.YtbgabipngdillaaJ04
import Derived.Test.YtbgabipngdillaaJ01
import Derived.Test.YtbgabipngdillaaJ07
import Derived.Test.YtbgabipngdillaaJ06
import Derived.Test.YtbgabipngdillaaJ08
import Derived.Test.YtbgabipngdillaaJ11
import Derived.Test.YtbgabipngdillaaJ10
namespace Go.Proofs.Ytbgabipngdillaa
open Go.RowKit

theorem knF_pw (l : List (Int × Bool)) : ∀ i, (knF i l).Pairwise fun a b => a.1 < b.1 := by
  induction l with
  | nil => intro i; simp [knF]
  | cons c l ih =>
    intro i
    rw [knF, List.pairwise_append]
    refine ⟨?_, ih (i + 1), fun a ha b hb => ?_⟩
    · split <;> simp
    · have hb' := knF_at l (i + 1) b hb
      split at ha
      · simp at ha; subst ha; simp at hb' ⊢; omega
      · simp at ha
theorem kn_val (l : List (Int × Bool)) : ∀ t ∈ kn l, ∃ j, ∃ h : j < l.length, l[j].2 = true ∧ t = ((j : Int) + 1, l[j].1) := by
  have key : ∀ (l : List (Int × Bool)) i, ∀ t ∈ knF i l, ∃ j, ∃ h : j < l.length, l[j].2 = true ∧ t = (((i + j : Nat) : Int) + 1, l[j].1) := by
    intro l
    induction l with
    | nil => intro i t ht; simp [knF] at ht
    | cons c l ih =>
      intro i t ht
      rw [knF, List.mem_append] at ht
      rcases ht with ht | ht
      · split at ht
        · rename_i hc
          simp at ht; subst ht
          exact ⟨0, by simp, hc, by simp⟩
        · simp at ht
      · obtain ⟨j, hj, h1, h2⟩ := ih (i + 1) t ht
        refine ⟨j + 1, by simpa using hj, h1, ?_⟩
        rw [h2]
        have : i + 1 + j = i + (j + 1) := by omega
        rw [this]; rfl
  intro t ht
  obtain ⟨j, hj, h1, h2⟩ := key l 0 t ht
  exact ⟨j, hj, h1, by rw [h2]; simp⟩
/-- where Fill finds no fault -/
theorem fi_zero {P : Int} {l : List (Int × Bool)} {k : Int} (h : fiE P l k = 0) : prB P = true ∧ l.length ≤ 32 ∧ (l.length : Int) < P ∧ (∀ j (h : j < l.length), l[j].2 = true → 0 ≤ l[j].1 ∧ l[j].1 < P) ∧ 1 ≤ k ∧ k ≤ ((kn l).length : Int) := by
  unfold fiE at h
  by_cases hc : ceE P l = 0
  · rw [if_pos hc] at h
    by_cases h1 : k < 1 ∨ (l.length : Int) < k
    · rw [if_pos h1] at h; cases h
    · rw [if_neg h1] at h
      by_cases h2 : ((kn l).length : Int) < k
      · rw [if_pos h2] at h; cases h
      · have hc' := hc
        unfold ceE at hc
        by_cases p0 : prB P = false
        · rw [if_pos p0] at hc; cases hc
        · rw [if_neg p0] at hc
          by_cases p1 : 32 < l.length ∨ P ≤ l.length
          · rw [if_pos p1] at hc; cases hc
          · rw [if_neg p1] at hc
            by_cases p2 : ((kn l).all fun p => el P p.2) = true
            · refine ⟨by simpa using p0, by omega, by omega, fun j hj hb => ?_, by omega, by omega⟩
              rw [List.all_eq_true] at p2
              have hm : ((j : Int) + 1, l[j].1) ∈ kn l := by
                have key : ∀ (l : List (Int × Bool)) i j (hj : j < l.length), l[j].2 = true → (((i + j : Nat) : Int) + 1, l[j].1) ∈ knF i l := by
                  intro l
                  induction l with
                  | nil => intro i j hj; simp at hj
                  | cons c l ih =>
                    intro i j hj hb
                    rw [knF, List.mem_append]
                    cases j with
                    | zero => left; simp at hb; simp [hb]
                    | succ j =>
                      right
                      have := ih (i + 1) j (by simpa using hj) (by simpa using hb)
                      have e : i + 1 + j = i + (j + 1) := by omega
                      rw [e] at this
                      simpa using this
                have := key l 0 j hj hb
                show _ ∈ knF 0 l
                simpa using this
              exact el_t (p2 _ hm)
            · rw [if_neg p2] at hc; cases hc
  · rw [if_neg hc] at h; exact absurd h hc
end Go.Proofs.Ytbgabipngdillaa

namespace Go.Proofs.Ytbgabipngdillaa

theorem az_ez {P : Int} {l : List Int} (h : az P l) (x : Int) : P ∣ ez l x := by
  induction l with
  | nil => exact ⟨0, by simp [ez]⟩
  | cons c l ih =>
    obtain ⟨h1, h2⟩ := az_cons.1 h
    rw [ez_cons]
    exact Int.dvd_add h1 (Int.dvd_mul_of_dvd_right (ih h2))
def mulz : List Int → List Int → List Int
  | [], _ => []
  | c :: l, m => az_add (zmul c m) (0 :: mulz l m)
theorem mulz_len (l m : List Int) (hm : m ≠ []) : (mulz l m).length = if l = [] then 0 else l.length + m.length - 1 := by
  have h1 : m.length ≠ 0 := fun e => hm (List.eq_nil_of_length_eq_zero e)
  induction l with
  | nil => rfl
  | cons c l ih =>
    simp only [mulz, add_len, zmul_len, List.length_cons, ih]
    by_cases hl : l = []
    · subst hl; simp; omega
    · have h2 : l.length ≠ 0 := fun e => hl (List.eq_nil_of_length_eq_zero e)
      simp [hl]; omega
theorem mulz_ez (l m : List Int) (x : Int) : ez (mulz l m) x = ez l x * ez m x := by
  induction l with
  | nil => simp [mulz, ez]
  | cons c l ih =>
    simp only [mulz, add_ez, zmul_ez, ez_cons, ih, Int.add_mul, Int.zero_add, Int.mul_assoc]
/-- what a monic divisor leaves decides both parts -/
theorem monic {P : Int} (L : List Int) : ∀ (a R : List Int), R.length ≤ L.length → az P (az_add (mulz a (L ++ [1])) R) → az P a ∧ az P R := by
  intro a
  induction a with
  | nil => intro R _ h; refine ⟨fun c hc => by simp at hc, ?_⟩; cases R <;> simpa [mulz, az_add] using h
  | cons c a ih =>
    intro R hR h
    -- c·b + R has length L.length + 1
    have key : ∀ (u v R : List Int), az P (az_add (az_add u v) R) → az P (az_add (az_add u R) v) := by
      intro u
      induction u with
      | nil =>
        intro v R h
        have c1 : az_add [] R = R := by cases R <;> rfl
        have c2 : az_add [] v = v := by cases v <;> rfl
        rw [c2] at h; rw [c1]
        clear c1 c2
        induction v generalizing R with
        | nil => cases R <;> simpa [az_add] using h
        | cons d v ihv => cases R with
          | nil => simpa [az_add] using h
          | cons r R =>
            simp only [az_add] at h ⊢
            rw [az_cons] at h ⊢
            exact ⟨by rw [Int.add_comm]; exact h.1, ihv R h.2⟩
      | cons p u ihu =>
        intro v R h
        cases v with
        | nil => cases R <;> simpa [az_add] using h
        | cons d v => cases R with
          | nil => simpa [az_add] using h
          | cons r R =>
            simp only [az_add] at h ⊢
            rw [az_cons] at h ⊢
            exact ⟨by have := h.1; rwa [Int.add_right_comm] at this, ihu v R h.2⟩
    have h1 := key _ _ _ h
    -- the first coefficient
    generalize hu : az_add (zmul c (L ++ [1])) R = u at h1
    have hul : u.length = L.length + 1 := by rw [← hu, add_len, zmul_len]; simp; omega
    cases u with
    | nil => simp at hul
    | cons r u =>
      simp only [az_add] at h1
      rw [az_cons] at h1
      have hc0 : ∀ (p q : List Int), az P (az_add p q) → az P (az_add q p) := by
        intro p
        induction p with
        | nil => intro q h; cases q <;> simpa [az_add] using h
        | cons p1 p ihp => intro q h; cases q with
          | nil => simpa [az_add] using h
          | cons q1 q =>
            simp only [az_add] at h ⊢
            rw [az_cons] at h ⊢
            exact ⟨by rw [Int.add_comm]; exact h.1, ihp q h.2⟩
      have h2 := hc0 _ _ h1.2
      obtain ⟨i1, i2⟩ := ih u (by simp at hul; omega) h2
      have hr : P ∣ r := by have := h1.1; simpa using this
      have huz : az P (az_add (zmul c (L ++ [1])) R) := by rw [hu, az_cons]; exact ⟨hr, i2⟩
      clear h h1 h2 hu hul i2 hr hc0 key ih u r
      -- the last coefficient is c
      have fin : ∀ (L R : List Int), R.length ≤ L.length → az P (az_add (zmul c (L ++ [1])) R) → P ∣ c ∧ az P R := by
        intro L
        induction L with
        | nil =>
          intro R hR h
          have : R = [] := List.eq_nil_of_length_eq_zero (by simpa using hR)
          subst this
          exact ⟨by have := h c (by simp [zmul, az_add]); exact this, fun c hc => by simp at hc⟩
        | cons d L ihL =>
          intro R hR h
          cases R with
          | nil =>
            refine ⟨?_, fun c hc => by simp at hc⟩
            have : az P (az_add (zmul c (L ++ [1])) []) := by
              have h' : az P (zmul c (d :: (L ++ [1]))) := by simpa [zmul, az_add] using h
              intro y hy
              have hy' : y ∈ zmul c (L ++ [1]) := by revert hy; cases (zmul c (L ++ [1])) <;> simp [az_add]
              exact h' y (by simp only [zmul, List.map_cons]; exact List.mem_cons_of_mem _ hy')
            exact (ihL [] (by simp) this).1
          | cons r R =>
            have h' : az P ((c * d + r) :: az_add (zmul c (L ++ [1])) R) := by simpa [zmul, az_add] using h
            rw [az_cons] at h'
            obtain ⟨a1, a2⟩ := ihL R (by simpa using hR) h'.2
            refine ⟨a1, ?_⟩
            rw [az_cons]
            refine ⟨?_, a2⟩
            have := Int.dvd_sub h'.1 (Int.dvd_mul_of_dvd_left a1 : P ∣ c * d)
            have e : c * d + r - c * d = r := by omega
            rwa [e] at this
      obtain ⟨f1, f2⟩ := fin L R hR huz
      exact ⟨az_cons.2 ⟨f1, i1⟩, f2⟩
end Go.Proofs.Ytbgabipngdillaa

namespace Go.Proofs.Ytbgabipngdillaa

theorem sm_zero (n : Nat) : sm n (fun _ => 0) = 0 := by induction n with
  | zero => rfl
  | succ n ih => simp [sm, ih]
theorem sm_one {n : Nat} {f : Nat → Int} (c : Nat) (hc : c < n) (h : ∀ k < n, k ≠ c → f k = 0) : sm n f = f c := by
  induction n with
  | zero => omega
  | succ n ih =>
    simp only [sm]
    by_cases e : n = c
    · subst e
      rw [sm_ext (g := fun _ => 0) fun k hk => h k (by omega) (by omega), sm_zero]; omega
    · rw [ih (by omega) fun k hk hn => h k (by omega) hn, h n (by omega) e]; omega
theorem sm_mul {P a : Int} {n : Nat} {f g : Nat → Int} (e : ∀ k < n, P ∣ f k - a * g k) : P ∣ sm n f - a * sm n g := by
  have := sm_lin (P := P) (a := a) (n := n) (f := f) (g := fun _ => 0) (h := g) fun k hk => by have := e k hk; simpa using this
  rw [sm_zero] at this
  simpa using this
/-- a row on a list -/
def dh (n : Nat) (r y : List Int) : Int := sm n fun k => gd r k * gd y k
def gr (M : List (List Int)) (i : Nat) : List Int := M[i]?.getD []
theorem gr_lt {M : List (List Int)} {i : Nat} (h : i < M.length) : gr M i = M[i] := by unfold gr; rw [List.getElem?_eq_getElem h]; rfl
theorem gr_set {M : List (List Int)} {i j : Nat} {r : List Int} (h : i < M.length) : gr (M.set i r) j = if j = i then r else gr M j := by
  unfold gr
  rw [List.getElem?_set]
  by_cases e : i = j
  · subst e; simp [h]
  · rw [if_neg e, if_neg (fun x => e x.symm)]
def swp (M : List (List Int)) (r i : Nat) : List (List Int) := (M.set r (gr M i)).set i (gr M r)
theorem swp_len (M : List (List Int)) (r i : Nat) : (swp M r i).length = M.length := by simp [swp]
theorem gr_swp {M : List (List Int)} {r i : Nat} (hr : r < M.length) (hi : i < M.length) (j : Nat) : gr (swp M r i) j = if j = i then gr M r else if j = r then gr M i else gr M j := by
  unfold swp
  rw [gr_set (by simpa using hi), gr_set hr]
def scl (P b : Int) (l : List Int) : List Int := l.map fun x => x * b % P
theorem scl_len (P b : Int) (l : List Int) : (scl P b l).length = l.length := by simp [scl]
theorem scl_gd {P : Int} (b : Int) (l : List Int) (k : Nat) : gd (scl P b l) k = gd l k * b % P := by
  unfold gd scl
  rw [List.getElem?_map]
  cases l[k]? <;> simp
theorem scl_els {P : Int} (hP : 2 ≤ P) (b : Int) (l : List Int) : els P (scl P b l) = true := els_of fun x hx => by
  obtain ⟨y, _, rfl⟩ := List.mem_map.1 hx
  exact el_mod hP _
def el1 (P : Int) (k : Nat) (f row : List Int) : List Int := if gd row k = 0 then row else addT P row 0 ((0 - gd row k + P) % P) f
def elN (P : Int) (k r : Nat) (f : List Int) (M : List (List Int)) (j : Nat) : List (List Int) :=
  (List.range M.length).map fun n => if n < j ∧ n ≠ r then el1 P k f (gr M n) else gr M n
theorem elN_len (P : Int) (k r : Nat) (f : List Int) (M : List (List Int)) (j : Nat) : (elN P k r f M j).length = M.length := by simp [elN]
theorem gr_elN {P : Int} {k r : Nat} {f : List Int} {M : List (List Int)} {j n : Nat} (h : n < M.length) : gr (elN P k r f M j) n = if n < j ∧ n ≠ r then el1 P k f (gr M n) else gr M n := by
  unfold elN
  rw [gr_lt (by simpa using h)]
  simp
def led1 (P : Int) (k i : Nat) (M : List (List Int)) : List Int := scl P (inv P (gd (gr M i) k)) (gr M i)
def leadM (P : Int) (k r i : Nat) (M : List (List Int)) : List (List Int) := elN P k r (led1 P k i M) ((swp M r i).set r (led1 P k i M)) M.length

structure GE (P : Int) (C : Nat) (M0 M : List (List Int)) (r k : Nat) (ld : List Int) : Prop where
  len : M.length = M0.length
  row : ∀ i, i < M.length → (gr M i).length = C + 1 ∧ els P (gr M i) = true
  rk : r ≤ M.length
  ldl : ld.length = 32
  free : ∀ c, c < k → gd ld c = 0 → ∀ m, r ≤ m → m < M.length → gd (gr M m) c = 0
  led : ∀ c, c < k → gd ld c ≠ 0 → ∃ n : Nat, gd ld c = (n : Int) + 1 ∧ n < r ∧ gd (gr M n) c = 1 ∧ ∀ m, m < M.length → m ≠ n → gd (gr M m) c = 0
  inj : ∀ c d, c < k → d < k → gd ld c = gd ld d → gd ld c ≠ 0 → c = d
  rest : ∀ c, k ≤ c → gd ld c = 0
  all : ∀ n : Nat, n < r → ∃ c, c < k ∧ gd ld c = (n : Int) + 1
  sol : ∀ y, (∀ i, i < M.length → P ∣ dh (C + 1) (gr M i) y) ↔ (∀ i, i < M0.length → P ∣ dh (C + 1) (gr M0 i) y)

theorem GE.none {P : Int} {C r k : Nat} {M0 M : List (List Int)} {ld : List Int} (h : GE P C M0 M r k ld) (h0 : ∀ m, r ≤ m → m < M.length → gd (gr M m) k = 0) : GE P C M0 M r (k + 1) ld where
  len := h.len
  row := h.row
  rk := h.rk
  ldl := h.ldl
  free := fun c hc h1 => by
    by_cases e : c = k
    · subst e; exact h0
    · exact h.free c (by omega) h1
  led := fun c hc h1 => by
    by_cases e : c = k
    · subst e; exact absurd (h.rest c (Nat.le_refl _)) h1
    · exact h.led c (by omega) h1
  inj := fun c d hc hd e1 e2 => by
    by_cases e : c = k
    · subst e; exact absurd (h.rest c (Nat.le_refl _)) e2
    · by_cases e' : d = k
      · subst e'; rw [e1] at e2; exact absurd (h.rest d (Nat.le_refl _)) e2
      · exact h.inj c d (by omega) (by omega) e1 e2
  rest := fun c hc => h.rest c (by omega)
  all := fun n hn => by obtain ⟨c, h1, h2⟩ := h.all n hn; exact ⟨c, by omega, h2⟩
  sol := h.sol

theorem dh_scl {P : Int} (n : Nat) (b : Int) (l y : List Int) : P ∣ dh n (scl P b l) y - b * dh n l y := by
  refine sm_mul fun k _ => ?_
  rw [scl_gd]
  have h1 : P ∣ gd l k * b - gd l k * b % P := mod_dvd' _ _
  have h2 := dvl (k := gd y k) h1
  have h3 := Int.dvd_neg.2 h2
  have e : -((gd l k * b - gd l k * b % P) * gd y k) = gd l k * b % P * gd y k - b * (gd l k * gd y k) := by
    rw [Int.sub_mul, ← Int.mul_assoc, Int.mul_comm b]; omega
  rwa [e] at h3
theorem gd_add0 {P : Int} {tt f : List Int} (x : Int) (h : f.length = tt.length) (k : Nat) (hk : k < tt.length) : gd (addT P tt 0 x f) k = (gd tt k + x * gd f k) % P := by
  rw [addT_gd P tt 0 x f (by omega), if_pos (by omega)]; simp
theorem dh_add {P x : Int} {tt f : List Int} (y : List Int) (h : f.length = tt.length) : P ∣ dh tt.length (addT P tt 0 x f) y - (dh tt.length tt y + x * dh tt.length f y) := by
  refine sm_lin fun k hk => ?_
  rw [gd_add0 x h k hk]
  have h1 : P ∣ (gd tt k + x * gd f k) - (gd tt k + x * gd f k) % P := mod_dvd' _ _
  have h3 := Int.dvd_neg.2 (dvl (k := gd y k) h1)
  have e : -((gd tt k + x * gd f k - (gd tt k + x * gd f k) % P) * gd y k) = (gd tt k + x * gd f k) % P * gd y k - (gd tt k * gd y k + x * (gd f k * gd y k)) := by
    rw [Int.sub_mul, Int.add_mul, Int.mul_assoc]; omega
  rwa [e] at h3
theorem neg_mod {P a : Int} : ∃ q, (0 - a + P) % P = -a + P * q := by
  refine ⟨1 - (0 - a + P) / P, ?_⟩
  have := Int.mul_ediv_add_emod (0 - a + P) P
  rw [Int.mul_sub]; omega
theorem el1_len (P : Int) (k : Nat) (f row : List Int) : (el1 P k f row).length = row.length := by
  unfold el1; split
  · rfl
  · rw [addT_len]
theorem el1_els {P : Int} (hP : 2 ≤ P) (k : Nat) (f : List Int) {row : List Int} (h : els P row = true) : els P (el1 P k f row) = true := by
  unfold el1; split
  · exact h
  · exact addT_els hP h _ _ _
theorem el1_dh {P : Int} (k : Nat) {f row : List Int} (y : List Int) (h : f.length = row.length) (hf : P ∣ dh row.length f y) : P ∣ dh row.length (el1 P k f row) y ↔ P ∣ dh row.length row y := by
  unfold el1
  split
  · exact Iff.rfl
  · have h1 := dh_add (P := P) (x := (0 - gd row k + P) % P) y h
    have h2 : P ∣ (0 - gd row k + P) % P * dh row.length f y := Int.dvd_mul_of_dvd_right hf
    constructor
    · intro h3
      have := Int.dvd_sub (Int.dvd_sub h3 h1) h2
      refine (Int.dvd_congr' ?_).1 this
      omega
    · intro h3
      have := Int.dvd_add (Int.dvd_add h1 h3) h2
      refine (Int.dvd_congr' ?_).1 this
      omega
where Int.dvd_congr' {P a b : Int} (h : a = b) : P ∣ a ↔ P ∣ b := by rw [h]
/-- a column in which the leading row is 0 stays -/
theorem el1_gd0 {P : Int} (hP : 2 ≤ P) (k : Nat) {f row : List Int} (h : f.length = row.length) (hr : els P row = true) (c : Nat) (hf : gd f c = 0) : gd (el1 P k f row) c = gd row c := by
  unfold el1
  split
  · rfl
  · by_cases hc : c < row.length
    · rw [gd_add0 _ h c hc, hf, Int.mul_zero, Int.add_zero]
      have := el_t (els_gd hP hr c)
      exact Int.emod_eq_of_lt this.1 this.2
    · rw [gd_ge (by rw [addT_len]; omega), gd_ge (by omega)]
/-- the column of the leading row becomes 0 elsewhere -/
theorem el1_gdk {P : Int} (k : Nat) {f row : List Int} (h : f.length = row.length) (hf : gd f k = 1) : gd (el1 P k f row) k = 0 := by
  unfold el1
  split
  · assumption
  · by_cases hc : k < row.length
    · rw [gd_add0 _ h k hc, hf, Int.mul_one]
      obtain ⟨q, hq⟩ := neg_mod (P := P) (a := gd row k)
      rw [hq]
      have : gd row k + (-gd row k + P * q) = P * q := by omega
      rw [this]; simp
    · rw [gd_ge (by rw [addT_len]; omega)]

theorem GE.lead {P : Int} {C r k i : Nat} {M0 M : List (List Int)} {ld : List Int} (hp : prB P = true) (h : GE P C M0 M r k ld) (hk : k < C) (hC : C ≤ 32) (hi : r ≤ i) (hil : i < M.length) (hne : gd (gr M i) k ≠ 0) :
    GE P C M0 (leadM P k r i M) (r + 1) (k + 1) (ld.set k ((r : Int) + 1)) := by
  have hP := (prB_bd hp).1
  have hrl : r < M.length := by omega
  have hlen : (leadM P k r i M).length = M.length := by rw [leadM, elN_len, List.length_set, swp_len]
  have hfl : (led1 P k i M).length = C + 1 := by rw [led1, scl_len]; exact (h.row i hil).1
  have hfe : els P (led1 P k i M) = true := scl_els hP _ _
  have hik : gd (gr M i) k % P ≠ 0 := by
    have := el_t (els_gd hP (h.row i hil).2 k)
    rw [Int.emod_eq_of_lt this.1 this.2]; exact hne
  have hfk : gd (led1 P k i M) k = 1 := by
    rw [led1, scl_gd, Int.mul_comm]
    exact inv_mul hp _ hik
  -- rows of the swapped matrix
  have hS : ∀ n, n < M.length → gr (leadM P k r i M) n = if n = r then led1 P k i M else el1 P k (led1 P k i M) (gr M (if n = i then r else n)) := by
    intro n hn
    rw [leadM, gr_elN (by rw [List.length_set, swp_len]; exact hn), gr_set (by rw [swp_len]; exact hrl), gr_swp hrl hil]
    by_cases e : n = r
    · subst e
      rw [if_neg (by omega), if_pos rfl, if_pos rfl]
    · rw [if_pos ⟨hn, e⟩, if_neg e, if_neg e]
      by_cases e2 : n = i
      · rw [if_pos e2, if_pos e2, if_neg e]
      · rw [if_neg e2, if_neg e2, if_neg e]
  have hT : ∀ n, n < M.length → (if n = i then r else n) < M.length := fun n hn => by split <;> omega
  -- zero columns of the leading row
  have hf0 : ∀ c, c < k → gd (led1 P k i M) c = 0 := by
    intro c hc
    have : gd (gr M i) c = 0 := by
      by_cases e : gd ld c = 0
      · exact h.free c hc e i hi hil
      · obtain ⟨n, h1, h2, h3, h4⟩ := h.led c hc e
        exact h4 i hil (by omega)
    rw [led1, scl_gd, this]; simp
  refine ⟨hlen.trans h.len, ?_, by rw [hlen]; omega, by rw [List.length_set]; exact h.ldl, ?_, ?_, ?_, ?_, ?_, ?_⟩
  · intro n hn
    rw [hlen] at hn
    rw [hS n hn]
    split
    · exact ⟨hfl, hfe⟩
    · have := h.row _ (hT n hn)
      exact ⟨by rw [el1_len]; exact this.1, el1_els hP _ _ this.2⟩
  · intro c hc h0 m hm1 hm2
    rw [hlen] at hm2
    rw [gd_set _ _ _ _ (by rw [h.ldl]; omega)] at h0
    by_cases e : c = k
    · rw [if_pos e] at h0; omega
    · rw [if_neg e] at h0
      rw [hS m hm2, if_neg (by omega)]
      have hr := h.row _ (hT m hm2)
      rw [el1_gd0 hP k (by rw [hfl]; exact hr.1.symm) hr.2 c (hf0 c (by omega))]
      refine h.free c (by omega) h0 _ ?_ (hT m hm2)
      split <;> omega
  · intro c hc h0
    rw [gd_set _ _ _ _ (by rw [h.ldl]; omega)] at h0 ⊢
    by_cases e : c = k
    · subst e
      rw [if_pos rfl]
      refine ⟨r, rfl, by omega, ?_, fun m hm hmr => ?_⟩
      · rw [hS r hrl, if_pos rfl]; exact hfk
      · rw [hlen] at hm
        rw [hS m hm, if_neg hmr]
        exact el1_gdk c (by rw [hfl]; exact (h.row _ (hT m hm)).1.symm) hfk
    · rw [if_neg e] at h0 ⊢
      obtain ⟨n, h1, h2, h3, h4⟩ := h.led c (by omega) h0
      refine ⟨n, h1, by omega, ?_, fun m hm hmn => ?_⟩
      · rw [hS n (by omega), if_neg (by omega), if_neg (by omega)]
        have hr := h.row n (by omega)
        rw [el1_gd0 hP k (by rw [hfl]; exact hr.1.symm) hr.2 c (hf0 c (by omega))]
        exact h3
      · rw [hlen] at hm
        rw [hS m hm]
        split
        · exact hf0 c (by omega)
        · have hr := h.row _ (hT m hm)
          rw [el1_gd0 hP k (by rw [hfl]; exact hr.1.symm) hr.2 c (hf0 c (by omega))]
          refine h4 _ (hT m hm) ?_
          split <;> omega
  · intro c d hc hd e1 e2
    rw [gd_set _ _ _ _ (by rw [h.ldl]; omega)] at e1 e2
    rw [gd_set _ _ _ _ (by rw [h.ldl]; omega)] at e1
    by_cases ec : c = k
    · by_cases ed : d = k
      · omega
      · rw [if_pos ec, if_neg ed] at e1
        obtain ⟨n, h1, h2, _⟩ := h.led d (by omega) (by omega)
        omega
    · by_cases ed : d = k
      · rw [if_neg ec, if_pos ed] at e1
        obtain ⟨n, h1, h2, _⟩ := h.led c (by omega) (by omega)
        omega
      · rw [if_neg ec, if_neg ed] at e1
        rw [if_neg ec] at e2
        exact h.inj c d (by omega) (by omega) e1 e2
  · intro c hc
    rw [gd_set _ _ _ _ (by rw [h.ldl]; omega), if_neg (by omega)]
    exact h.rest c (by omega)
  · intro n hn
    by_cases e : n = r
    · refine ⟨k, by omega, ?_⟩
      rw [gd_set _ _ _ _ (by rw [h.ldl]; omega), if_pos rfl, e]
    · obtain ⟨c, h1, h2⟩ := h.all n (by omega)
      refine ⟨c, by omega, ?_⟩
      rw [gd_set _ _ _ _ (by rw [h.ldl]; omega), if_neg (by omega)]
      exact h2
  · intro y
    rw [← h.sol y, hlen]
    -- the leading row
    have hlead : P ∣ dh (C + 1) (led1 P k i M) y ↔ P ∣ dh (C + 1) (gr M i) y := by
      have h1 := dh_scl (P := P) (C + 1) (inv P (gd (gr M i) k)) (gr M i) y
      constructor
      · intro h2
        have h3 := Int.dvd_sub h2 h1
        have e : dh (C + 1) (led1 P k i M) y - (dh (C + 1) (scl P (inv P (gd (gr M i) k)) (gr M i)) y - inv P (gd (gr M i) k) * dh (C + 1) (gr M i) y) = inv P (gd (gr M i) k) * dh (C + 1) (gr M i) y := by
          unfold led1; omega
        rw [e] at h3
        rcases pr_euclid hp _ _ h3 with h4 | h4
        · exfalso
          have h5 := inv_mul hp _ hik
          rw [Int.mul_emod, Int.emod_eq_zero_of_dvd h4] at h5
          simp at h5
        · exact h4
      · intro h2
        have h3 := Int.dvd_add h1 (Int.dvd_mul_of_dvd_right h2 : P ∣ inv P (gd (gr M i) k) * dh (C + 1) (gr M i) y)
        have e : dh (C + 1) (scl P (inv P (gd (gr M i) k)) (gr M i)) y - inv P (gd (gr M i) k) * dh (C + 1) (gr M i) y + inv P (gd (gr M i) k) * dh (C + 1) (gr M i) y = dh (C + 1) (led1 P k i M) y := by
          unfold led1; omega
        rwa [e] at h3
    have hoth : P ∣ dh (C + 1) (led1 P k i M) y → ∀ n, n < M.length → n ≠ r → (P ∣ dh (C + 1) (gr (leadM P k r i M) n) y ↔ P ∣ dh (C + 1) (gr M (if n = i then r else n)) y) := by
      intro hf n hn hnr
      rw [hS n hn, if_neg hnr]
      have hr := h.row _ (hT n hn)
      have := el1_dh (P := P) k (f := led1 P k i M) (row := gr M (if n = i then r else n)) y (by rw [hfl]; exact hr.1.symm) (by rw [hr.1]; exact hf)
      rwa [hr.1] at this
    constructor
    · intro h1
      have hf := h1 r hrl
      rw [hS r hrl, if_pos rfl] at hf
      intro n hn
      by_cases e : n = i
      · subst e; exact hlead.1 hf
      · by_cases e2 : n = r
        · subst e2
          have := (hoth hf i hil (by omega)).1 (h1 i hil)
          rwa [if_pos rfl] at this
        · have := (hoth hf n hn e2).1 (h1 n hn)
          rwa [if_neg e] at this
    · intro h1 n hn
      have hf := hlead.2 (h1 i hil)
      by_cases e2 : n = r
      · subst e2
        rw [hS n hn, if_pos rfl]; exact hf
      · exact (hoth hf n hn e2).2 (h1 _ (hT n hn))

theorem GE.start {P : Int} {C : Nat} {M : List (List Int)} (h : ∀ i, i < M.length → (gr M i).length = C + 1 ∧ els P (gr M i) = true) : GE P C M M 0 0 (zeros 32) where
  len := rfl
  row := h
  rk := Nat.zero_le _
  ldl := by simp [zeros]
  free := fun c hc => by omega
  led := fun c hc => by omega
  inj := fun c d hc => by omega
  rest := fun c _ => by
    by_cases e : c < 32
    · rw [gd_lt (by simpa [zeros] using e)]; simp only [zeros, List.getElem_replicate]
    · exact gd_ge (by simp [zeros]; omega)
  all := fun n hn => by omega
  sol := fun y => Iff.rfl
/-- the solution -/
def solX (C : Nat) (M : List (List Int)) (ld : List Int) : List Int := (List.range C).map fun c => if gd ld c = 0 then 0 else gd (gr M (gd ld c - 1).toNat) C
theorem gd_app1 (x : List Int) (v : Int) (k : Nat) : gd (x ++ [v]) k = if k < x.length then gd x k else if k = x.length then v else 0 := by
  unfold gd
  rw [List.getElem?_append]
  split
  · rfl
  · split
    · rename_i h; subst h; simp
    · rename_i h1 h2
      have : k - x.length ≠ 0 := by omega
      cases e : k - x.length with
      | zero => omega
      | succ j => simp
theorem GE.zero {P : Int} {C r : Nat} {M0 M : List (List Int)} {ld : List Int} (h : GE P C M0 M r C ld) {m : Nat} (hm : r ≤ m) (hm2 : m < M.length) : ∀ c, c < C → gd (gr M m) c = 0 := by
  intro c hc
  by_cases e : gd ld c = 0
  · exact h.free c hc e m hm hm2
  · obtain ⟨n, h1, h2, h3, h4⟩ := h.led c hc e
    exact h4 m hm2 (by omega)
theorem dh_last {C : Nat} {row x : List Int} (v : Int) (hx : x.length = C) : dh (C + 1) row (x ++ [v]) = sm C (fun k => gd row k * gd x k) + gd row C * v := by
  unfold dh
  simp only [sm]
  rw [gd_app1, if_neg (by omega), if_pos hx.symm]
  congr 1
  exact sm_ext fun k hk => by rw [gd_app1, if_pos (by omega)]
theorem GE.no {P : Int} {C r : Nat} {M0 M : List (List Int)} {ld : List Int} (hP : 2 ≤ P) (h : GE P C M0 M r C ld) {m : Nat} (hm : r ≤ m) (hm2 : m < M.length) (hne : gd (gr M m) C ≠ 0) :
    ¬ ∃ x : List Int, x.length = C ∧ ∀ i, i < M0.length → P ∣ dh (C + 1) (gr M0 i) (x ++ [-1]) := by
  rintro ⟨x, hx, hs⟩
  have h1 := (h.sol _).2 hs m hm2
  rw [dh_last _ hx, sm_ext (g := fun _ => 0) fun k hk => by rw [h.zero hm hm2 k hk]; simp, sm_zero] at h1
  have h2 := el_t (els_gd hP (h.row m hm2).2 C)
  have h3 : P ∣ gd (gr M m) C := by
    have := Int.dvd_neg.2 h1
    have e : -(0 + gd (gr M m) C * -1) = gd (gr M m) C := by omega
    rwa [e] at this
  have h4 := Int.emod_eq_zero_of_dvd h3
  rw [Int.emod_eq_of_lt h2.1 h2.2] at h4
  exact hne h4
theorem solX_len (C : Nat) (M : List (List Int)) (ld : List Int) : (solX C M ld).length = C := by simp [solX]
theorem solX_gd {C : Nat} {M : List (List Int)} {ld : List Int} {c : Nat} (h : c < C) : gd (solX C M ld) c = if gd ld c = 0 then 0 else gd (gr M (gd ld c - 1).toNat) C := by
  rw [gd_lt (by rw [solX_len]; exact h)]; simp [solX]
theorem GE.yes {P : Int} {C r : Nat} {M0 M : List (List Int)} {ld : List Int} (hP : 2 ≤ P) (h : GE P C M0 M r C ld) (h0 : ∀ m, r ≤ m → m < M.length → gd (gr M m) C = 0) :
    els P (solX C M ld) = true ∧ ∀ i, i < M0.length → P ∣ dh (C + 1) (gr M0 i) (solX C M ld ++ [-1]) := by
  constructor
  · refine els_of fun v hv => ?_
    obtain ⟨c, hc, rfl⟩ := List.mem_map.1 hv
    rw [List.mem_range] at hc
    split
    · exact el_mk (by omega)
    · rename_i e
      obtain ⟨n, h1, h2, _⟩ := h.led c hc e
      have : (gd ld c - 1).toNat = n := by omega
      rw [this]
      exact els_gd hP (h.row n (by have := h.rk; omega)).2 C
  · refine (h.sol _).1 fun m hm => ?_
    rw [dh_last _ (solX_len _ _ _)]
    by_cases hmr : r ≤ m
    · rw [sm_ext (g := fun _ => 0) fun k hk => by rw [h.zero hmr hm k hk]; simp, sm_zero, h0 m hmr hm]
      exact ⟨0, by simp⟩
    · obtain ⟨c, hc, hl⟩ := h.all m (by omega)
      have hval : gd (solX C M ld) c = gd (gr M m) C := by
        rw [solX_gd hc, if_neg (by omega)]
        congr 2
        omega
      obtain ⟨n, h1, h2, h3, h4⟩ := h.led c hc (by omega)
      have hn : n = m := by omega
      subst hn
      rw [sm_one c hc, h3, hval]
      · exact ⟨0, by omega⟩
      · intro k hk hkc
        rw [solX_gd hk]
        by_cases e : gd ld k = 0
        · rw [if_pos e]; simp
        · obtain ⟨n', h1', h2', h3', h4'⟩ := h.led k hk e
          have : n ≠ n' := fun e' => by
            subst e'
            exact hkc (h.inj k c hk hc (by omega) e)
          rw [h4' n hm this]; simp
end Go.Proofs.Ytbgabipngdillaa

namespace Go.Proofs.Ytbgabipngdillaa

/-- powers -/
def pw (P x : Int) (n : Nat) : List Int := (List.range n).map fun j => x ^ j % P
theorem pw_len (P x : Int) (n : Nat) : (pw P x n).length = n := by simp [pw]
theorem pw_gd {P x : Int} {n j : Nat} (h : j < n) : gd (pw P x n) j = x ^ j % P := by
  rw [gd_lt (by rw [pw_len]; exact h)]; simp [pw]
theorem pw_els {P : Int} (hP : 2 ≤ P) (x : Int) (n : Nat) : els P (pw P x n) = true := els_of fun y hy => by
  obtain ⟨j, _, rfl⟩ := List.mem_map.1 hy
  exact el_mod hP _
def ngl (P y : Int) (l : List Int) : List Int := l.map fun t => (0 - y * t % P + P) % P
/-- the row of a known value, its right side last -/
def krow (P : Int) (a e : Nat) (t : Int × Int) : List Int := pw P t.1 a ++ ngl P t.2 (pw P t.1 e) ++ [t.2 * (t.1 ^ e % P) % P]
theorem gd_app (a b : List Int) (k : Nat) : gd (a ++ b) k = if k < a.length then gd a k else gd b (k - a.length) := by
  unfold gd
  rw [List.getElem?_append]
  split <;> rfl
theorem krow_dh (P : Int) (a e : Nat) (t : Int × Int) (s : List Int) (hs : s.length = a + e) :
    P ∣ dh (a + e + 1) (krow P a e t) (s ++ [-1]) - (ez (s.take a) t.1 - t.2 * ez (s.drop a ++ [1]) t.1) := by
  rw [dh_last _ hs]
  have hA : ez (s.take a) t.1 = sm a fun j => gd s j * t.1 ^ j := by
    rw [ez_sm, List.length_take, Nat.min_eq_left (by omega)]
    exact sm_ext fun k hk => by rw [gd_take, if_pos hk]
  have hB : ez (s.drop a ++ [1]) t.1 = sm e (fun j => gd s (a + j) * t.1 ^ j) + t.1 ^ e := by
    rw [ez_sm]
    have : (s.drop a ++ [1]).length = e + 1 := by simp; omega
    rw [this]
    simp only [sm]
    have hd : (s.drop a).length = e := by simp; omega
    congr 1
    · refine sm_ext fun k hk => ?_
      rw [gd_app, if_pos (by omega)]
      congr 1
      unfold gd; rw [List.getElem?_drop]
    · rw [gd_app, if_neg (by omega), hd, Nat.sub_self]
      simp [gd]
  have hlen : (pw P t.1 a ++ ngl P t.2 (pw P t.1 e)).length = a + e := by simp [pw_len, ngl]
  have hC : gd (krow P a e t) (a + e) = t.2 * (t.1 ^ e % P) % P := by
    unfold krow
    rw [gd_app, if_neg (by omega), hlen, Nat.sub_self]; simp [gd]
  rw [hC, sm_split]
  -- the three parts
  have p1 : P ∣ sm a (fun k => gd (krow P a e t) k * gd s k) - (sm a (fun _ => 0) + 1 * sm a (fun j => gd s j * t.1 ^ j)) := by
    refine sm_lin fun k hk => ?_
    have : gd (krow P a e t) k = t.1 ^ k % P := by
      unfold krow
      rw [gd_app, if_pos (by omega), gd_app, if_pos (by rw [pw_len]; exact hk), pw_gd hk]
    rw [this]
    refine dvd_of_eq' (dvl (k := gd s k) (mod_dvd P (t.1 ^ k))) ?_
    rw [Int.sub_mul, Int.mul_comm (t.1 ^ k)]; omega
  have p2 : P ∣ sm e (fun j => gd (krow P a e t) (a + j) * gd s (a + j)) - (sm e (fun _ => 0) + (-t.2) * sm e (fun j => gd s (a + j) * t.1 ^ j)) := by
    refine sm_lin fun k hk => ?_
    have : gd (krow P a e t) (a + k) = (0 - t.2 * (t.1 ^ k % P) % P + P) % P := by
      unfold krow
      rw [gd_app, if_pos (by omega), gd_app, if_neg (by rw [pw_len]; omega), pw_len]
      have : a + k - a = k := by omega
      rw [this, gd_lt (by simpa [ngl, pw_len] using hk)]
      simp [ngl, pw]
    rw [this]
    obtain ⟨q, hq⟩ := neg_mod (P := P) (a := t.2 * (t.1 ^ k % P) % P)
    rw [hq]
    have h1 := mod_dvd P (t.2 * (t.1 ^ k % P))
    have h2 := dvr (k := t.2) (mod_dvd P (t.1 ^ k))
    have h3 := dvl (k := -gd s (a + k)) (Int.dvd_add h1 h2)
    have h4 := Int.dvd_add h3 (Int.dvd_mul_right P (q * gd s (a + k)))
    refine dvd_of_eq' h4 ?_
    rw [Int.mul_sub, Int.add_mul, Int.sub_mul, Int.sub_mul, Int.add_mul, Int.mul_assoc P q]
    have e1 : -t.2 * (gd s (a + k) * t.1 ^ k) = t.2 * t.1 ^ k * -gd s (a + k) := by
      rw [Int.neg_mul, Int.mul_neg, Int.mul_assoc, Int.mul_comm (t.1 ^ k)]
    rw [e1]
    simp only [Int.mul_neg, Int.neg_mul]
    omega
  have p3 : P ∣ t.2 * (t.1 ^ e % P) % P - t.2 * t.1 ^ e := by
    have h1 := mod_dvd P (t.2 * (t.1 ^ e % P))
    have h2 := dvr (k := t.2) (mod_dvd P (t.1 ^ e))
    refine dvd_of_eq' (Int.dvd_add h1 h2) ?_
    rw [Int.mul_sub]; omega
  rw [hA, hB]
  rw [sm_zero] at p1 p2
  refine dvd_of_eq' (Int.dvd_sub (Int.dvd_add p1 p2) p3) ?_
  rw [Int.mul_add, Int.neg_mul]
  omega

/-- the numbers of the known cells that do not have the polynomial's value -/
def wrk (P : Int) (K : List (Int × Int)) (p : List Int) : List (Int × Int) := K.filter fun t => !(val P p t.1 == t.2)
def wrg (P : Int) (l : List (Int × Bool)) (p : List Int) : List Int := (wrk P (kn l) p).map Prod.fst
/-- a polynomial near enough -/
structure Good (P : Int) (K : List (Int × Int)) (k e : Nat) (p : List Int) : Prop where
  len : p.length ≤ k
  els : els P p = true
  trm : trim p = p
  few : (wrk P K p).length ≤ e
/-- points: different, values in the field -/
structure Pts (P : Int) (K : List (Int × Int)) : Prop where
  dif : K.Pairwise fun a b => ¬ P ∣ a.1 - b.1
  val : ∀ t ∈ K, 0 ≤ t.2 ∧ t.2 < P
def Sol (P : Int) (K : List (Int × Int)) (a e : Nat) (s : List Int) : Prop := s.length = a + e ∧ ∀ t ∈ K, P ∣ dh (a + e + 1) (krow P a e t) (s ++ [-1])

/-- the locator: the product over the points, times a power -/
def locz : List Int → Nat → List Int
  | [], n => List.replicate n 0 ++ [1]
  | a :: X, n => az_add (0 :: locz X n) (zmul (-a) (locz X n))
theorem ez_rep (n : Nat) (x : Int) : ez (List.replicate n 0 ++ [1]) x = x ^ n := by
  induction n with
  | zero => simp [ez]
  | succ n ih => rw [List.replicate_succ, List.cons_append, ez_cons, ih, Int.pow_succ, Int.mul_comm]; omega
theorem locz_len (X : List Int) (n : Nat) : (locz X n).length = X.length + n + 1 := by
  induction X with
  | nil => simp [locz]
  | cons a X ih => simp only [locz, add_len, zmul_len, List.length_cons, ih]; omega
theorem locz_last (X : List Int) (n : Nat) : gd (locz X n) (X.length + n) = 1 := by
  induction X with
  | nil => simp [locz, gd]
  | cons a X ih =>
    have e1 : (a :: X).length + n = (X.length + n) + 1 := by simp; omega
    rw [locz, add_gd, zmul_gd, e1, gd_ge (l := locz X n) (by rw [locz_len]; omega)]
    have : gd (0 :: locz X n) (X.length + n + 1) = gd (locz X n) (X.length + n) := by simp [gd]
    rw [this, ih]; omega
theorem locz_zero (X : List Int) (n : Nat) : ∀ x ∈ X, ez (locz X n) x = 0 := by
  induction X with
  | nil => intro x hx; simp at hx
  | cons a X ih =>
    intro x hx
    have e : ez (locz (a :: X) n) x = (x - a) * ez (locz X n) x := by
      rw [locz, add_ez, zmul_ez, ez_cons, Int.sub_mul, Int.neg_mul]; omega
    rw [e]
    rcases List.mem_cons.1 hx with h | h
    · subst h; simp
    · rw [ih x h]; simp
theorem ez_modm {P : Int} (l : List Int) (x : Int) : P ∣ ez (l.map (· % P)) x - ez l x := by
  induction l with
  | nil => exact ⟨0, by simp [ez]⟩
  | cons c l ih =>
    rw [List.map_cons, ez_cons, ez_cons]
    refine dvd_of_eq' (Int.dvd_add (mod_dvd P c) (dvr (k := x) ih)) ?_
    rw [Int.mul_sub]; omega
theorem last_split (l : List Int) (n : Nat) (h : l.length = n + 1) : l = l.take n ++ [gd l n] := by
  have e : l.take (n + 1) = l := List.take_of_length_le (by omega)
  have e2 : l.take (n + 1) = l.take n ++ [gd l n] := by rw [List.take_succ_eq_append_getElem (by omega), gd_lt (by omega)]
  exact e.symm.trans e2

theorem good_sol {P : Int} {K : List (Int × Int)} {k e : Nat} {p : List Int} (hP : 2 ≤ P) (hg : Good P K k e p) :
    ∃ s, Sol P K (k + e) e s ∧ els P s = true := by
  have hX := hg.few
  generalize hXe : (wrk P K p).map Prod.fst = X at *
  have hXl : X.length = (wrk P K p).length := by rw [← hXe]; simp
  have hLl : (locz X (e - X.length)).length = e + 1 := by rw [locz_len]; omega
  have hLs := last_split _ e hLl
  have hl1 : gd (locz X (e - X.length)) e = 1 := by
    have := locz_last X (e - X.length)
    have e1 : X.length + (e - X.length) = e := by omega
    rwa [e1] at this
  rw [hl1] at hLs
  have hne : locz X (e - X.length) ≠ [] := fun h => by rw [h] at hLl; simp at hLl
  have hql : (mulz p (locz X (e - X.length))).length ≤ k + e := by
    rw [mulz_len _ _ hne]
    have := hg.len
    split <;> omega
  refine ⟨((mulz p (locz X (e - X.length))).map (· % P) ++ zeros (k + e - (mulz p (locz X (e - X.length))).length)) ++ ((locz X (e - X.length)).take e).map (· % P), ⟨?_, fun t ht => ?_⟩, ?_⟩
  · simp [zeros, hLl]; omega
  · have hq0 : ((mulz p (locz X (e - X.length))).map (· % P) ++ zeros (k + e - (mulz p (locz X (e - X.length))).length)).length = k + e := by simp [zeros]; omega
    have hk := krow_dh P (k + e) e t (((mulz p (locz X (e - X.length))).map (· % P) ++ zeros (k + e - (mulz p (locz X (e - X.length))).length)) ++ ((locz X (e - X.length)).take e).map (· % P)) (by
      rw [List.length_append, hq0]; simp [hLl])
    rw [List.take_left' hq0, List.drop_left' hq0] at hk
    -- both values
    have hq := ez_modm (P := P) (mulz p (locz X (e - X.length))) t.1
    have hL := ez_modm (P := P) ((locz X (e - X.length)).take e) t.1
    rw [ez_app _ (zeros _), ez_zeros, Int.mul_zero, Int.add_zero] at hk
    have hLe : ez (locz X (e - X.length)) t.1 = ez ((locz X (e - X.length)).take e) t.1 + t.1 ^ e * 1 := by
      conv => lhs; rw [hLs]
      rw [ez_app]
      have : ((locz X (e - X.length)).take e).length = e := by simp [hLl]
      rw [this]; simp [ez]
    have hLe2 : ez (((locz X (e - X.length)).take e).map (· % P) ++ [1]) t.1 = ez (((locz X (e - X.length)).take e).map (· % P)) t.1 + t.1 ^ e * 1 := by
      rw [ez_app]
      have : (((locz X (e - X.length)).take e).map (· % P)).length = e := by simp [hLl]
      rw [this]; simp [ez]
    rw [hLe2] at hk
    rw [mulz_ez] at hq
    -- right or wrong
    have hrw : P ∣ ez p t.1 * ez (locz X (e - X.length)) t.1 - t.2 * ez (locz X (e - X.length)) t.1 := by
      by_cases hv : val P p t.1 = t.2
      · refine dvd_of_eq' (dvl (k := ez (locz X (e - X.length)) t.1) (val_dvd hv)) ?_
        rw [Int.sub_mul]
      · have hm : t.1 ∈ X := by
          rw [← hXe]
          refine List.mem_map.2 ⟨t, ?_, rfl⟩
          unfold wrk
          rw [List.mem_filter]
          exact ⟨ht, by simpa using hv⟩
        rw [locz_zero _ _ _ hm]
        exact ⟨0, by simp⟩
    have hL2 := dvr (k := t.2) hL
    refine dvd_of_eq' (Int.dvd_add hk (Int.dvd_sub (Int.dvd_add hq hrw) hL2)) ?_
    rw [hLe]
    simp only [Int.mul_add, Int.mul_sub]
    omega
  · refine els_of fun v hv => ?_
    rw [List.mem_append, List.mem_append] at hv
    rcases hv with (hv | hv) | hv
    · obtain ⟨j, _, rfl⟩ := List.mem_map.1 hv
      exact el_mod hP _
    · exact els_all (zeros_els hP _) _ hv
    · obtain ⟨j, _, rfl⟩ := List.mem_map.1 hv
      exact el_mod hP _

theorem rights {P : Int} {K : List (Int × Int)} (p : List Int) : (K.filter fun t => val P p t.1 == t.2).length + (wrk P K p).length = K.length := by
  unfold wrk
  induction K with
  | nil => rfl
  | cons t K ih =>
    simp only [List.filter_cons]
    cases h : (val P p t.1 == t.2) <;> simp <;> omega
theorem rights2 {P : Int} {K : List (Int × Int)} (p q : List Int) : K.length ≤ (K.filter fun t => val P p t.1 == t.2 && val P q t.1 == t.2).length + (wrk P K p).length + (wrk P K q).length := by
  unfold wrk
  induction K with
  | nil => simp
  | cons t K ih =>
    simp only [List.filter_cons]
    cases h : (val P p t.1 == t.2) <;> cases h' : (val P q t.1 == t.2) <;> simp <;> omega
theorem good_uniq {P : Int} {K : List (Int × Int)} {k e : Nat} {p q : List Int} (hpr : prB P = true) (hK : Pts P K) (hn : k + 2 * e ≤ K.length) (hp : Good P K k e p) (hq : Good P K k e q) : p = q := by
  have hP := (prB_bd hpr).1
  have h2 := rights2 (P := P) (K := K) p q
  have hl : (az_add p (zmul (-1) q)).length ≤ (K.filter fun t => val P p t.1 == t.2 && val P q t.1 == t.2).length := by
    rw [add_len, zmul_len]
    have := hp.len; have := hq.len; have := hp.few; have := hq.few
    omega
  have haz := pts_roots hpr (hK.dif.filter _) _ hl fun t ht => by
    rw [List.mem_filter] at ht
    have h1 : val P p t.1 = t.2 ∧ val P q t.1 = t.2 := by simpa using ht.2
    rw [add_ez, zmul_ez]
    exact dvd_of_eq' (Int.dvd_sub (val_dvd h1.1) (val_dvd h1.2)) (by omega)
  refine trim_same hp.trm hq.trm (els_cong hP hp.els hq.els fun k => ?_)
  have := az_gd haz k
  rw [add_gd, zmul_gd] at this
  exact dvd_of_eq' this (by omega)
/-- any solution, divided by its locator, is the polynomial -/
theorem sol_good {P : Int} {K : List (Int × Int)} {k e : Nat} {p s Q R : List Int} (hpr : prB P = true) (hK : Pts P K) (hn : k + 2 * e ≤ K.length) (hp : Good P K k e p)
    (hs : Sol P K (k + e) e s) (hQ : els P Q = true) (hR : els P R = true) (hQt : trim Q = Q) (hRt : trim R = R) (hQl : Q.length ≤ k) (hRl : R.length ≤ e)
    (hdiv : ∀ x, P ∣ ez (s.take (k + e)) x - (ez Q x * ez (s.drop (k + e) ++ [1]) x + ez R x)) : Q = p ∧ R = [] := by
  have hP := (prB_bd hpr).1
  obtain ⟨hsl, hse⟩ := hs
  have hr := rights (P := P) (K := K) p
  have hLl : (s.drop (k + e)).length = e := by simp; omega
  have hne : s.drop (k + e) ++ [1] ≠ [] := by simp
  have hl : (az_add (mulz (az_add Q (zmul (-1) p)) (s.drop (k + e) ++ [1])) R).length ≤ (K.filter fun t => val P p t.1 == t.2).length := by
    rw [add_len, mulz_len _ _ hne, add_len, zmul_len]
    have := hp.len; have := hp.few
    simp only [List.length_append, List.length_singleton, hLl]
    split <;> omega
  have haz := pts_roots hpr (hK.dif.filter _) _ hl fun t ht => by
    rw [List.mem_filter] at ht
    have h1 : val P p t.1 = t.2 := by simpa using ht.2
    have hk := krow_dh P (k + e) e t s hsl
    have he := hse t ht.1
    have h3 := Int.dvd_sub he hk
    rw [add_ez, mulz_ez, add_ez, zmul_ez]
    have h4 := hdiv t.1
    have h5 := dvl (k := ez (s.drop (k + e) ++ [1]) t.1) (val_dvd h1)
    refine dvd_of_eq' (Int.dvd_sub (Int.dvd_sub h3 h4) h5) ?_
    simp only [Int.sub_mul, Int.add_mul, Int.neg_mul, Int.one_mul]
    omega
  obtain ⟨a1, a2⟩ := monic (s.drop (k + e)) _ R (by omega) haz
  constructor
  · refine trim_same hQt hp.trm (els_cong hP hQ hp.els fun j => ?_)
    have := az_gd a1 j
    rw [add_gd, zmul_gd] at this
    exact dvd_of_eq' this (by omega)
  · have : ∀ j, gd R j = 0 := fun j => by
      have h1 := el_t (els_gd hP hR j)
      have h2 := Int.emod_eq_zero_of_dvd (az_gd a2 j)
      rwa [Int.emod_eq_of_lt h1.1 h1.2] at h2
    rw [← hRt]
    exact trim_zeros this
end Go.Proofs.Ytbgabipngdillaa

namespace Go.Proofs.Ytbgabipngdillaa

theorem trim_tk (l : List Int) : trim l = l.take (trim l).length := by
  induction l with
  | nil => rfl
  | cons c l ih =>
    rw [trim_cons]
    split
    · rfl
    · rw [List.length_cons, List.take_succ_cons, ← ih]
theorem trim_top (l : List Int) : trim l = [] ∨ gd l ((trim l).length - 1) ≠ 0 := by
  induction l with
  | nil => exact .inl rfl
  | cons c l ih =>
    rw [trim_cons]
    split
    · exact .inl rfl
    · rename_i h
      refine .inr ?_
      rw [List.length_cons, Nat.add_sub_cancel]
      rcases ih with e | e
      · rw [e]
        intro h0
        exact h ⟨by simpa [gd] using h0, e⟩
      · cases ht : trim l with
        | nil =>
          intro h0
          exact h ⟨by simpa [gd] using h0, ht⟩
        | cons d m =>
          rw [ht] at e
          simpa [gd] using e
theorem trim_fix {l : List Int} (h : l = [] ∨ gd l (l.length - 1) ≠ 0) : trim l = l := by
  have h1 := trim_take (n := l.length) (l := l) (Nat.le_refl _) (fun k hk => gd_ge hk) (by
    rcases h with h | h
    · exact .inl (by simp [h])
    · exact .inr h)
  rwa [List.take_length] at h1
theorem trim_ez (l : List Int) (x : Int) : ez (trim l) x = ez l x := by
  induction l with
  | nil => rfl
  | cons c l ih =>
    rw [trim_cons]
    split
    · rename_i h
      rw [ez_cons, ← ih, h.1, h.2]; simp [ez]
    · rw [ez_cons, ez_cons, ih]
theorem trim_one {l : List Int} (_h : l ≠ []) (h1 : gd l (l.length - 1) ≠ 0) : trim l = l := trim_fix (.inr h1)

structure DV (P : Int) (a b Q T : List Int) (m K : Nat) : Prop where
  div : ∀ x, P ∣ ez a x - (ez Q x * ez b x + ez (T.take m) x)
  elQ : els P Q = true
  elT : els P T = true
  le : m ≤ T.length
  len : Q.length = K
  zero : ∀ j, j + b.length ≤ m → gd Q j = 0
  fit : m + 1 ≤ K + b.length
  top : m = 0 ∨ gd T (m - 1) ≠ 0
theorem DV.start {P : Int} {a b : List Int} (hP : 2 ≤ P) (hb : b ≠ []) (ha : els P a = true) : DV P a b (zeros ((trim a).length + 1 - b.length)) (trim a) (trim a).length ((trim a).length + 1 - b.length) where
  div := fun x => by
    rw [ez_zeros, List.take_length, trim_ez]
    exact ⟨0, by simp⟩
  elQ := zeros_els hP _
  elT := trim_els ha
  le := Nat.le_refl _
  len := by simp [zeros]
  zero := fun j _ => by
    by_cases h : j < ((trim a).length + 1 - b.length)
    · rw [gd_lt (by simpa [zeros] using h)]; simp [zeros]
    · exact gd_ge (by simp [zeros]; omega)
  fit := by
    have : b.length ≠ 0 := fun e => hb (List.eq_nil_of_length_eq_zero e)
    omega
  top := by
    rcases trim_top a with h | h
    · exact .inl (by rw [h]; rfl)
    · exact .inr (by rwa [trim_gd])
/-- a number set at a place that was 0 -/
theorem set_ez {l : List Int} {k : Nat} (h : k < l.length) (h0 : gd l k = 0) (v x : Int) : ez (l.set k v) x = ez l x + v * x ^ k := by
  induction l generalizing k with
  | nil => simp at h
  | cons c l ih =>
    cases k with
    | zero =>
      have : c = 0 := by simpa [gd] using h0
      simp [ez_cons, this]; omega
    | succ k =>
      have h1 := ih (k := k) (by simpa using h) (by simpa [gd] using h0)
      rw [List.set_cons_succ, ez_cons, ez_cons, h1, Int.mul_add, Int.pow_succ, Int.mul_left_comm, Int.mul_comm x (x ^ k)]; omega
theorem DV.step {P : Int} {a b Q T : List Int} {m K : Nat} (hp : prB P = true) (h : DV P a b Q T m K) (hb : b ≠ []) (hbe : els P b = true) (hbt : gd b (b.length - 1) ≠ 0) (hm : b.length ≤ m) :
    DV P a b (Q.set (m - b.length) (gd T (m - 1) * inv P (gd b (b.length - 1)) % P)) (addT P T (m - b.length) ((0 - gd T (m - 1) * inv P (gd b (b.length - 1)) % P + P) % P) b)
      (trim ((addT P T (m - b.length) ((0 - gd T (m - 1) * inv P (gd b (b.length - 1)) % P + P) % P) b).take (m - 1))).length K := by
  have hP := (prB_bd hp).1
  have hb0 : b.length ≠ 0 := fun e => hb (List.eq_nil_of_length_eq_zero e)
  have hle := h.le
  have hfit := h.fit
  have hlen := h.len
  obtain ⟨o, ho⟩ : ∃ o, o = m - b.length := ⟨_, rfl⟩
  have hmo : o + b.length = m := by omega
  rw [← ho]
  generalize hq : gd T (m - 1) * inv P (gd b (b.length - 1)) % P = q
  have hqel : el P q = true := by rw [← hq]; exact el_mod hP _
  generalize hT' : addT P T o ((0 - q + P) % P) b = T'
  have hT'l : T'.length = T.length := by rw [← hT', addT_len]
  have hT'e : els P T' = true := by rw [← hT']; exact addT_els hP h.elT _ _ _
  -- the top becomes 0
  have htop : gd T' (m - 1) = 0 := by
    rw [← hT', addT_gd P T o _ b (by omega), if_pos (by omega)]
    have e1 : m - 1 - o = b.length - 1 := by omega
    rw [e1]
    obtain ⟨z, hz⟩ := neg_mod (P := P) (a := q)
    rw [hz]
    refine Int.emod_eq_zero_of_dvd ?_
    have hbn : gd b (b.length - 1) % P ≠ 0 := by
      have := el_t (els_gd hP hbe (b.length - 1))
      rw [Int.emod_eq_of_lt this.1 this.2]; exact hbt
    have hi := inv_mul hp _ hbn
    have h1 : P ∣ q - gd T (m - 1) * inv P (gd b (b.length - 1)) := by rw [← hq]; exact mod_dvd P _
    have h2 : P ∣ 1 - inv P (gd b (b.length - 1)) * gd b (b.length - 1) := by
      have := mod_dvd P (inv P (gd b (b.length - 1)) * gd b (b.length - 1))
      rwa [hi] at this
    have h3 := dvr (k := gd T (m - 1)) h2
    have h4 := dvl (k := gd b (b.length - 1)) h1
    have h5 := Int.dvd_mul_right P (z * gd b (b.length - 1))
    refine dvd_of_eq' (Int.dvd_add (Int.dvd_sub h3 h4) h5) ?_
    rw [Int.mul_sub, Int.sub_mul, Int.add_mul, Int.neg_mul, Int.mul_assoc, Int.mul_assoc]
    omega
  have hdrop : ∀ x, ez (T'.take m) x = ez (T'.take (m - 1)) x := by
    intro x
    rw [take_ez _ _ (by omega), take_ez _ _ (by omega)]
    obtain ⟨j, hj⟩ : ∃ j, m = j + 1 := ⟨m - 1, by omega⟩
    subst hj
    rw [Nat.add_sub_cancel] at htop ⊢
    simp only [sm]
    rw [htop]; simp
  have htr := trim_tk (T'.take (m - 1))
  have htl := trim_len (T'.take (m - 1))
  have htl2 : (T'.take (m - 1)).length = m - 1 := by simp; omega
  generalize hm' : (trim (T'.take (m - 1))).length = m' at *
  have htake : trim (T'.take (m - 1)) = T'.take m' := by
    rw [htr, List.take_take, Nat.min_eq_left (by omega)]
  refine ⟨fun x => ?_, ?_, hT'e, by omega, by rw [List.length_set]; exact hlen, fun j hj => ?_, by omega, ?_⟩
  · have h0 : gd Q o = 0 := h.zero o (by omega)
    rw [set_ez (by omega) h0, ← htake, trim_ez, ← hdrop]
    have h1 := h.div x
    have h2 := addT_ez (P := P) (y := (0 - q + P) % P) (T := T) (b := b) (o := o) (by omega) x
    rw [hT', hmo] at h2
    obtain ⟨z, hz⟩ := neg_mod (P := P) (a := q)
    rw [hz] at h2
    have h3 := Int.dvd_mul_right P (z * (x ^ o * ez b x))
    refine dvd_of_eq' (Int.dvd_sub (Int.dvd_sub h1 h2) h3) ?_
    rw [Int.add_mul, Int.add_mul, Int.neg_mul, Int.mul_assoc q, Int.mul_assoc P]
    omega
  · refine els_of fun v hv => ?_
    rcases List.mem_or_eq_of_mem_set hv with h1 | h1
    · exact els_all h.elQ v h1
    · rw [h1]; exact hqel
  · rw [gd_set _ _ _ _ (by omega), if_neg (by omega)]
    exact h.zero j (by omega)
  · rcases trim_top (T'.take (m - 1)) with e | e
    · left; rw [← hm', e]; rfl
    · right
      rw [hm', gd_take] at e
      by_cases h0 : m' - 1 < m - 1
      · rwa [if_pos h0] at e
      · rw [if_neg h0] at e; exact absurd rfl e
theorem DV.rest {P : Int} {a b Q T : List Int} {m K : Nat} (h : DV P a b Q T m K) : trim (T.take m) = T.take m := by
  have hl : (T.take m).length = m := by have := h.le; simp; omega
  refine trim_fix ?_
  rcases h.top with e | e
  · left; rw [e]; rfl
  · by_cases h0 : m = 0
    · left; rw [h0]; rfl
    · right; rw [hl, gd_take, if_pos (by omega)]; exact e
end Go.Proofs.Ytbgabipngdillaa

namespace Go.Proofs.Ytbgabipngdillaa
open Go.RowKit

theorem kn_pts {P : Int} {l : List (Int × Bool)} (hl : (l.length : Int) < P) (hv : ∀ j (h : j < l.length), l[j].2 = true → 0 ≤ l[j].1 ∧ l[j].1 < P) : Pts P (kn l) where
  dif := by
    have h1 := knF_pw l 0
    have h2 : ∀ t ∈ kn l, 1 ≤ t.1 ∧ t.1 ≤ (l.length : Int) := fun t ht => by have := knF_at l 0 t ht; simp at this; omega
    refine List.Pairwise.imp_of_mem (fun {a b} ha hb h => ?_) h1
    have b1 := h2 a ha
    have b2 := h2 b hb
    rintro ⟨q, hq⟩
    have hq0 : q < 0 := by
      by_cases h : q < 0
      · exact h
      · have := Int.mul_nonneg (by omega : (0 : Int) ≤ P) (by omega : 0 ≤ q); omega
    have := Int.mul_le_mul_of_nonneg_left (by omega : q ≤ -1) (by omega : (0 : Int) ≤ P)
    omega
  val := fun t ht => by
    obtain ⟨j, hj, h1, rfl⟩ := kn_val l t ht
    exact hv j hj h1
def radN (l : List (Int × Bool)) (k : Nat) : Nat := ((kn l).length - k) / 2
/-- what unique decoding returns: the polynomial, and the error -/
def UnR (P : Int) (l : List (Int × Bool)) (k : Int) (out : List Int) (er : Int) : Prop :=
  (fiE P l k ≠ 0 ∧ er = fiE P l k ∧ out = []) ∨ (fiE P l k = 0 ∧ ((er = 0 ∧ Good P (kn l) k.toNat (radN l k.toNat) out) ∨ (er = 12 ∧ out = [] ∧ ∀ p, ¬ Good P (kn l) k.toNat (radN l k.toNat) p)))
theorem UnR.uniq {P : Int} {l : List (Int × Bool)} {k : Int} {o1 o2 : List Int} {e1 e2 : Int} (h1 : UnR P l k o1 e1) (h2 : UnR P l k o2 e2) : o1 = o2 ∧ e1 = e2 := by
  rcases h1 with ⟨a1, a2, a3⟩ | ⟨a1, ha⟩
  · rcases h2 with ⟨b1, b2, b3⟩ | ⟨b1, _⟩
    · exact ⟨a3.trans b3.symm, a2.trans b2.symm⟩
    · exact absurd b1 a1
  · rcases h2 with ⟨b1, _, _⟩ | ⟨b1, hb⟩
    · exact absurd a1 b1
    · obtain ⟨f1, f2, f3, f4, f5, f6⟩ := fi_zero a1
      rcases ha with ⟨a2, a3⟩ | ⟨a2, a3, a4⟩
      · rcases hb with ⟨b2, b3⟩ | ⟨b2, b3, b4⟩
        · exact ⟨good_uniq f1 (kn_pts f3 f4) (by unfold radN; omega) a3 b3, a2.trans b2.symm⟩
        · exact absurd a3 (b4 _)
      · rcases hb with ⟨b2, b3⟩ | ⟨b2, b3, b4⟩
        · exact absurd b3 (a4 _)
        · exact ⟨a3.trans b3.symm, a2.trans b2.symm⟩
end Go.Proofs.Ytbgabipngdillaa

namespace Go.Proofs.Ytbgabipngdillaa
open Go.RowKit

/-- Block b begins with a list of ints. -/
def RB (w : World) (b : Nat) (l : List Int) : Prop := ∃ tl : List Value, w.heap[b]? = some (.cells (l.map (Value.int .i64) ++ tl).toArray 3 (0, 0))
theorem RB.lt {w : World} {b : Nat} {l : List Int} (h : RB w b l) : b < w.heap.size := by obtain ⟨tl, h⟩ := h; exact heap_of_cells h
theorem RB.cell {w : World} {b : Nat} {l : List Int} (h : RB w b l) {j : Nat} (hj : j < l.length) : w.cell? ⟨b, j, none⟩ = some (.int .i64 l[j]) := by
  obtain ⟨tl, h⟩ := h
  rw [cell_of_row w b j _ _ (0, 0) h]
  rw [List.getElem?_toArray, List.getElem?_append_left (by simpa using hj)]
  simp [hj]
theorem RB.frozen {w : World} {b : Nat} {l : List Int} (h : RB w b l) (j : Nat) : w.frozen? ⟨b, j, none⟩ = false := by obtain ⟨tl, h⟩ := h; exact frozen_of_row w b j _ _ h
theorem RB.kept {w w' : World} {b : Nat} {l : List Int} {r : Option Nat} (h : RB w b l) (hg : w.grownBy w' r) (hne : some b ≠ r) : RB w' b l := by
  have hlt := h.lt
  obtain ⟨tl, h⟩ := h; exact ⟨tl, (hg.block b hlt hne).trans h⟩
theorem RB.below {w w' : World} {b B : Nat} {l : List Int} (h : RB w b l) (hb : Below B w w') (hB : b < B) : RB w' b l := by
  obtain ⟨tl, h⟩ := h; exact ⟨tl, (hb.block b hB).trans h⟩
theorem RB.set {w : World} {b : Nat} {l : List Int} (h : RB w b l) {j : Nat} (hj : j < l.length) (x : Int) : RB (w.setCell ⟨b, j, none⟩ (.int .i64 x)) b (l.set j x) := by
  obtain ⟨tl, h⟩ := h
  refine ⟨tl, ?_⟩
  rw [heap_setCell_same w b j _ _ _ h]
  simp [List.map_set, hj]
theorem RB.setO {w : World} {b : Nat} {l : List Int} (h : RB w b l) {p : Addr} (hp : p.block ≠ b) (u : Value) : RB (w.setCell p u) b l := by
  obtain ⟨tl, h⟩ := h
  exact ⟨tl, (heap_setCell_other w p b u (by omega)).trans h⟩
theorem RB.alloc {w : World} {b : Nat} {l : List Int} (h : RB w b l) (o : Obj) : RB (w.alloc o) b l := h.kept (World.grownBy_alloc w o none) (by simp)
theorem RB.drew {w : World} {b : Nat} {l : List Int} (h : RB w b l) : RB w.drew b l := h
theorem RB.si {w : World} {b c : Nat} {l : List Int} (h : RB w b l) (hr : ∀ x ∈ l, i64r x) (hc : l.length ≤ c) (hm : c ≤ 9223372036854775807) : SI w (.slice (some ⟨b, 0, none⟩) l.length c) l :=
  ⟨some ⟨b, 0, none⟩, c, rfl, hc, hm, hr, fun _ => ⟨b, 0, rfl, h.lt, fun j hj => by rw [Nat.zero_add]; exact h.cell hj⟩⟩
theorem RB.of_own {w : World} {base g n cap : Nat} {l : List Int} {xs : List Value} (h : w.ownsRow base 3 1 (.slice (some ⟨g, 0, none⟩) n cap) n xs) (hx : xs = l.map (Value.int .i64)) : RB w g l ∧ base ≤ g ∧ n ≤ cap ∧ cap ≤ maxLen := by
  rcases h.2 with ⟨e, _⟩ | ⟨g', cap', cur, e, hb, hg, hnc, hcm, hcs, htake⟩
  · cases e
  · injection e with e1 e2 e3
    injection e1 with e1
    injection e1 with e1
    subst e1 e3
    refine ⟨⟨cur.toList.drop (n * 1), ?_⟩, hb, hnc, hcm⟩
    rw [hg, ← hx, ← htake, List.take_append_drop]

/-- rounds of AddTimes -/
def AtRelR (P : Int) (w : World) (b o : Nat) (tt : List Int) (x : Int) (l : List Int) (i : Value) (wr : World) : Prop :=
  ∃ k : Nat, k ≤ l.length ∧ i = .int .i64 k ∧ RB wr b (addT P tt o x (l.take k)) ∧ w.grownBy wr (some b)
set_option maxHeartbeats 2000000 in
theorem addTimesR_any (P : Int) (b o n c : Nat) (tt : List Int) (x : Int) (l : List Int) (v : Value) (w : World) (hP : 2 ≤ P ∧ P ≤ 65521) (hx : 0 ≤ x ∧ x < P) (hto : els P tt = true) (hl : els P l = true)
    (hb : RB w b tt) (h : SI w v l) (hne : ∀ k, v.ownBlock = some k → k ≠ b) (hn : l.length ≤ n) (ho : o + l.length ≤ tt.length) :
    Calls Try.prog 76 #[.int .i64 P, .slice (some ⟨b, o, none⟩) n c, .int .i64 x, v] w fun e w' => (∃ v, e = .returned v) ∧ RB w' b (addT P tt o x l) ∧ w.grownBy w' (some b) := by
  obtain ⟨A, c', rfl, hcc, hm, hr, ha⟩ := h
  have HA := Lib.hid ha
  have HB := Lib.hid hb
  have HL := Lib.hid hl
  have HTO := Lib.hid hto
  clear hr ha hb hl hto
  go_enter Try.func76, Try.ntmps76
  go_wp2_with fail
  go_loopw [12] (fun i wr => AtRelR P w b o tt x l i wr) (fun i _ => l.length - (intOf i).toNat)
  case atStart => exact ⟨0, Nat.zero_le _, rfl, by rw [List.take_zero, addT_zero]; exact HB.out, grownBy_refl _ _⟩
  case round =>
    obtain ⟨k, hk, rfl, hbk, hg⟩ := hrel
    have HBK := Lib.hid hbk
    have HG := Lib.hid hg
    have hz := hg.size
    clear hbk hg
    by_cases hlt : k < l.length
    · obtain ⟨b2, off, rfl, hb2, hcell⟩ := HA.out (by omega)
      have hck := HG.out.cell (hcell k hlt) (fun e => hne b2 rfl (by injection e))
      have hlen2 : (addT P tt o x (l.take k)).length = tt.length := addT_len _ _ _ _ _
      have htk := HBK.out.cell (j := o + k) (by rw [hlen2]; omega)
      have hfk := HBK.out.frozen (o + k)
      have hel := el_t (els_gd hP.1 (addT_els hP.1 HTO.out o x (l.take k)) (o + k))
      have hel2 := el_t (els_all HL.out _ (List.getElem_mem hlt))
      rw [← gd_lt] at htk
      obtain ⟨t, ht⟩ : ∃ t, t = gd (addT P tt o x (l.take k)) (o + k) := ⟨_, rfl⟩
      rw [← ht] at htk hel
      obtain ⟨a, ha⟩ : ∃ a, a = l[k] := ⟨_, rfl⟩
      rw [← ha] at hck hel2
      have HST : Hid (addT P tt o x (l.take (k + 1)) = (addT P tt o x (l.take k)).set (o + k) ((t + x * a) % P)) := by
        show _ = _
        rw [ht, ha]; exact addT_step P tt o x l k hlt ho
      have hm1 : 0 ≤ x * a % P := Int.emod_nonneg _ (by omega)
      have hm2 : x * a % P < P := Int.emod_lt_of_pos _ (by omega)
      have HE : Hid ((t + x * a % P) % P = (t + x * a) % P) := by show _ = _; rw [Int.add_emod, Int.emod_emod_of_dvd _ (Int.dvd_refl P), ← Int.add_emod]
      have hd1 : decide ((k : Int) < (l.length : Int)) = true := decide_eq_true (by omega)
      have hd2 : decide (k < l.length) = true := decide_eq_true hlt
      have z1 : (0 : Int) ≤ (k : Int) := by omega
      have z2 : (k : Int) < (n : Int) := by omega
      clear hcell ht ha hlen2
      go_wp2_with fail
      go_region_with (first | (go_at_call 73; refine (mul_any _ _ _ _ hP hx hel2).mono ?_; rintro e w' ⟨rfl, rfl⟩) | (go_at_call 85; refine (add_any _ _ _ _ hP hel ⟨hm1, hm2⟩).mono ?_; rintro e w' ⟨rfl, rfl⟩))
      all_goals
        go_wp2_with fail
        go_roundw
        case rel =>
          have hs := grownBy_setCell (p := ⟨b, o + k, none⟩) HG.out (.inl rfl) (.int .i64 ((t + x * a) % P))
          exact ⟨k + 1, by omega, by go_num, by rw [HST.out]; exact HBK.out.set (by rw [addT_len]; omega) _, ⟨hs.os, hs.tape, hs.output, hs.size, hs.block⟩⟩
        case measure => simp [intOf]; omega
    · have hkk : k = l.length := by omega
      have hd1 : decide ((k : Int) < (l.length : Int)) = false := decide_eq_false (by omega)
      have hd2 : decide (k < l.length) = false := decide_eq_false hlt
      have HFIN : Hid (RB wr b (addT P tt o x l)) := by show RB _ _ _; have := HBK.out; rwa [hkk, List.take_length] at this
      clear hkk
      go_wp2_with fail
      go_end0
      exact ⟨⟨_, rfl⟩, HFIN.out, HG.out⟩
end Go.Proofs.Ytbgabipngdillaa

namespace Go.Proofs.Ytbgabipngdillaa
open Go.RowKit

def gv (vs : List Value) (i : Nat) : Value := vs[i]?.getD (.slice none 0 0)
theorem gv_lt {vs : List Value} {i : Nat} (h : i < vs.length) : gv vs i = vs[i] := by unfold gv; rw [List.getElem?_eq_getElem h]; rfl
theorem gv_set {vs : List Value} {i j : Nat} {v : Value} (h : i < vs.length) : gv (vs.set i v) j = if j = i then v else gv vs j := by
  unfold gv
  rw [List.getElem?_set]
  by_cases e : i = j
  · subst e; simp [h]
  · rw [if_neg e, if_neg (fun x => e x.symm)]
/-- header i -/
def hd (n : Nat) (bs cs : Nat → Nat) (i : Nat) : Value := .slice (some ⟨bs i, 0, none⟩) n (cs i)
/-- block G holds the headers (and more); row i lies in block bs i, with capacity cs i -/
structure RM (base : Nat) (w : World) (G n m : Nat) (bs cs : Nat → Nat) (M : List (List Int)) : Prop where
  hdr : ∃ L : List Value, w.heap[G]? = some (.cells L.toArray 22 (0, 0)) ∧ ∀ i, i < m → L[i]? = some (hd n bs cs i)
  len : M.length = m
  gb : base ≤ G
  row : ∀ i, i < m → RB w (bs i) (gr M i) ∧ (gr M i).length = n ∧ n ≤ cs i ∧ cs i ≤ 9223372036854775807 ∧ base ≤ bs i ∧ bs i ≠ G
  apart : ∀ i j, i < m → j < m → bs i = bs j → i = j
theorem RM.lt {base : Nat} {w : World} {G n m : Nat} {bs cs : Nat → Nat} {M : List (List Int)} (h : RM base w G n m bs cs M) : G < w.heap.size := by
  obtain ⟨L, h1, _⟩ := h.hdr; exact heap_of_cells h1
theorem RM.cell {base : Nat} {w : World} {G n m : Nat} {bs cs : Nat → Nat} {M : List (List Int)} (h : RM base w G n m bs cs M) {i : Nat} (hi : i < m) : w.cell? ⟨G, i, none⟩ = some (.slice (some ⟨bs i, 0, none⟩) n (cs i)) := by
  obtain ⟨L, h1, h2⟩ := h.hdr
  rw [cell_of_row w G i _ _ (0, 0) h1, List.getElem?_toArray]
  exact h2 i hi
theorem RM.frozen {base : Nat} {w : World} {G n m : Nat} {bs cs : Nat → Nat} {M : List (List Int)} (h : RM base w G n m bs cs M) (i : Nat) : w.frozen? ⟨G, i, none⟩ = false := by
  obtain ⟨L, h1, h2⟩ := h.hdr
  exact frozen_of_row w G i _ _ h1
theorem RM.el {base : Nat} {w : World} {G n m : Nat} {bs cs : Nat → Nat} {M : List (List Int)} (h : RM base w G n m bs cs M) {i j : Nat} (hi : i < m) (hj : j < n) : w.cell? ⟨bs i, j, none⟩ = some (.int .i64 (gd (gr M i) j)) := by
  obtain ⟨h1, h2, _⟩ := h.row i hi
  rw [h1.cell (by omega), gd_lt (by omega)]
theorem RM.keep {base : Nat} {w w' : World} {G n m : Nat} {bs cs : Nat → Nat} {M : List (List Int)} (h : RM base w G n m bs cs M) (hk : ∀ b, base ≤ b → b < w.heap.size → w'.heap[b]? = w.heap[b]?) : RM base w' G n m bs cs M := by
  obtain ⟨L, h1, h2⟩ := h.hdr
  refine ⟨⟨L, (hk G h.gb (heap_of_cells h1)).trans h1, h2⟩, h.len, h.gb, fun i hi => ?_, h.apart⟩
  obtain ⟨⟨tl, r1⟩, r2, r3, r4, r5, r6⟩ := h.row i hi
  exact ⟨⟨tl, (hk _ r5 (heap_of_cells r1)).trans r1⟩, r2, r3, r4, r5, r6⟩
theorem RM.below {base : Nat} {w w' : World} {G n m : Nat} {bs cs : Nat → Nat} {M : List (List Int)} (h : RM base w G n m bs cs M) (hb : Below w.heap.size w w') : RM base w' G n m bs cs M := h.keep fun b _ h2 => hb.block b h2
theorem RM.setB {base : Nat} {w : World} {G n m : Nat} {bs cs : Nat → Nat} {M : List (List Int)} (h : RM base w G n m bs cs M) {p : Addr} (hp : p.block < base) (u : Value) : RM base (w.setCell p u) G n m bs cs M := h.keep fun b h1 _ => heap_setCell_other w p b u (by omega)
theorem RM.drew {base : Nat} {w : World} {G n m : Nat} {bs cs : Nat → Nat} {M : List (List Int)} (h : RM base w G n m bs cs M) : RM base w.drew G n m bs cs M := h.below (Below.refl _ w).drew
/-- two headers exchanged -/
def sw (f : Nat → Nat) (r i j : Nat) : Nat := if j = i then f r else if j = r then f i else f j
theorem RM.swap {base : Nat} {w w' : World} {G n m : Nat} {bs cs : Nat → Nat} {M : List (List Int)} (h : RM base w G n m bs cs M) {r i : Nat} (hr : r < m) (hi : i < m)
    (e : w' = (w.setCell ⟨G, r, none⟩ (hd n bs cs i)).setCell ⟨G, i, none⟩ (hd n bs cs r)) : RM base w' G n m (sw bs r i) (sw cs r i) (swp M r i) := by
  subst e
  obtain ⟨L, h1, h2⟩ := h.hdr
  have hlM := h.len
  have hrL : r < L.length := by have := h2 r hr; exact (List.getElem?_eq_some_iff.1 this).1
  have hiL : i < L.length := by have := h2 i hi; exact (List.getElem?_eq_some_iff.1 this).1
  have e1 := heap_setCell_same w G r _ _ (hd n bs cs i) h1
  have e2 := heap_setCell_same _ G i _ _ (hd n bs cs r) e1
  refine ⟨⟨(L.set r (hd n bs cs i)).set i (hd n bs cs r), by rw [e2]; simp, fun j hj => ?_⟩, by rw [swp_len]; exact hlM, h.gb, fun j hj => ?_, fun a b ha hb hab => ?_⟩
  · rw [List.getElem?_set]
    by_cases ji : i = j
    · subst ji
      rw [if_pos rfl, if_pos (by simpa using hiL)]
      simp [hd, sw]
    · rw [if_neg ji, List.getElem?_set]
      by_cases jr : r = j
      · subst jr
        rw [if_pos rfl, if_pos hrL]
        simp [hd, sw, Ne.symm ji]
      · rw [if_neg jr, h2 j hj]
        simp [hd, sw, Ne.symm ji, Ne.symm jr]
  · have key : ∀ k, k < m → gr (swp M r i) j = gr M k → sw bs r i j = bs k → sw cs r i j = cs k → RB ((w.setCell ⟨G, r, none⟩ (hd n bs cs i)).setCell ⟨G, i, none⟩ (hd n bs cs r)) (sw bs r i j) (gr (swp M r i) j) ∧ (gr (swp M r i) j).length = n ∧ n ≤ sw cs r i j ∧ sw cs r i j ≤ 9223372036854775807 ∧ base ≤ sw bs r i j ∧ sw bs r i j ≠ G := by
      intro k hk g1 g2 g3
      obtain ⟨r1, r2, r3, r4, r5, r6⟩ := h.row k hk
      rw [g1, g2, g3]
      exact ⟨(r1.setO (p := ⟨G, r, none⟩) (fun e => r6 e.symm) _).setO (p := ⟨G, i, none⟩) (fun e => r6 e.symm) _, r2, r3, r4, r5, r6⟩
    have hg := gr_swp (M := M) (r := r) (i := i) (by omega) (by omega) j
    by_cases ji : j = i
    · refine key r hr ?_ ?_ ?_
      · rw [hg, if_pos ji]
      · simp [sw, ji]
      · simp [sw, ji]
    · by_cases jr : j = r
      · refine key i hi ?_ ?_ ?_
        · rw [hg, if_neg ji, if_pos jr]
        · simp only [sw]; rw [if_neg ji, if_pos jr]
        · simp only [sw]; rw [if_neg ji, if_pos jr]
      · refine key j hj ?_ ?_ ?_
        · rw [hg, if_neg ji, if_neg jr]
        · simp only [sw]; rw [if_neg ji, if_neg jr]
        · simp only [sw]; rw [if_neg ji, if_neg jr]
  · have inj := h.apart
    simp only [sw] at hab
    by_cases ai : a = i
    · by_cases bi : b = i
      · omega
      · by_cases br : b = r
        · rw [if_pos ai, if_neg bi, if_pos br] at hab
          have := inj r i hr hi hab; omega
        · rw [if_pos ai, if_neg bi, if_neg br] at hab
          have := inj r b hr hb hab; omega
    · by_cases ar : a = r
      · by_cases bi : b = i
        · rw [if_neg ai, if_pos ar, if_pos bi] at hab
          have := inj i r hi hr hab; omega
        · by_cases br : b = r
          · omega
          · rw [if_neg ai, if_pos ar, if_neg bi, if_neg br] at hab
            have := inj i b hi hb hab; omega
      · by_cases bi : b = i
        · rw [if_neg ai, if_neg ar, if_pos bi] at hab
          have := inj a r ha hr hab; omega
        · by_cases br : b = r
          · rw [if_neg ai, if_neg ar, if_neg bi, if_pos br] at hab
            have := inj a i ha hi hab; omega
          · rw [if_neg ai, if_neg ar, if_neg bi, if_neg br] at hab
            exact inj a b ha hb hab
/-- one row's ints changed -/
theorem RM.upd {base : Nat} {w w' : World} {G n m : Nat} {bs cs : Nat → Nat} {M : List (List Int)} (h : RM base w G n m bs cs M) {i : Nat} (hi : i < m) {l : List Int} (hl : l.length = n) (hg : w.grownBy w' (some (bs i))) (hb : RB w' (bs i) l) :
    RM base w' G n m bs cs (M.set i l) := by
  obtain ⟨L, h1, h2⟩ := h.hdr
  have hlM := h.len
  refine ⟨⟨L, (hg.block G (heap_of_cells h1) (by have := (h.row i hi).2.2.2.2.2; simp; omega)).trans h1, h2⟩, by rw [List.length_set]; exact hlM, h.gb, fun j hj => ?_, h.apart⟩
  rw [gr_set (by omega)]
  obtain ⟨r1, r2, r3, r4, r5, r6⟩ := h.row j hj
  by_cases ji : j = i
  · subst ji
    rw [if_pos rfl]
    exact ⟨hb, hl, r3, r4, r5, r6⟩
  · rw [if_neg ji]
    exact ⟨r1.kept hg (fun e => ji (h.apart j i hj hi (by injection e))), r2, r3, r4, r5, r6⟩
/-- a row scaled as far as place q -/
def scp (P b : Int) (row : List Int) (q : Nat) : List Int := (List.range row.length).map fun t => if t < q then gd row t * b % P else gd row t
theorem scp_len (P b : Int) (row : List Int) (q : Nat) : (scp P b row q).length = row.length := by simp [scp]
theorem scp_gd (P b : Int) (row : List Int) (q t : Nat) (ht : t < row.length) : gd (scp P b row q) t = if t < q then gd row t * b % P else gd row t := by
  rw [gd_lt (by rw [scp_len]; exact ht)]; simp [scp]
theorem scp_zero (P b : Int) (row : List Int) : scp P b row 0 = row := list_ext_gd (scp_len _ _ _ _) fun k hk => by
  rw [scp_len] at hk
  rw [scp_gd _ _ _ _ _ hk, if_neg (by omega)]
theorem scp_end (P b : Int) (row : List Int) : scp P b row row.length = scl P b row := list_ext_gd (by rw [scp_len, scl_len]) fun k hk => by
  rw [scp_len] at hk
  rw [scp_gd _ _ _ _ _ hk, if_pos hk, scl_gd]
theorem scp_set (P b : Int) (row : List Int) (q : Nat) (hq : q < row.length) : (scp P b row q).set q (gd row q * b % P) = scp P b row (q + 1) := list_ext_gd (by rw [List.length_set, scp_len, scp_len]) fun k hk => by
  rw [List.length_set, scp_len] at hk
  rw [gd_set _ _ _ _ (by rw [scp_len]; exact hq), scp_gd _ _ _ _ _ hk, scp_gd _ _ _ _ _ hk]
  by_cases e : k = q
  · rw [if_pos e, if_pos (by omega), e]
  · rw [if_neg e]
    by_cases h : k < q
    · rw [if_pos h, if_pos (by omega)]
    · rw [if_neg h, if_neg (by omega)]
theorem elN_zero (P : Int) (k r : Nat) (f : List Int) (M : List (List Int)) : elN P k r f M 0 = M := by
  apply List.ext_getElem
  · rw [elN_len]
  · intro i h1 h2
    have := gr_elN (P := P) (k := k) (r := r) (f := f) (j := 0) h2
    rw [gr_lt h1, gr_lt h2, if_neg (by omega)] at this
    exact this
theorem gr_ext {A B : List (List Int)} (hl : A.length = B.length) (h : ∀ i, i < A.length → gr A i = gr B i) : A = B := by
  apply List.ext_getElem hl
  intro i h1 h2
  have := h i h1
  rwa [gr_lt h1, gr_lt h2] at this
theorem elN_skip (P : Int) (k r : Nat) (f : List Int) (M : List (List Int)) (j : Nat) (h : j = r ∨ gd (gr M j) k = 0) : elN P k r f M (j + 1) = elN P k r f M j := gr_ext (by rw [elN_len, elN_len]) fun i hi => by
  rw [elN_len] at hi
  rw [gr_elN hi, gr_elN hi]
  by_cases e : i = j
  · subst e
    rw [if_neg (by omega : ¬ (i < i ∧ i ≠ r))]
    rcases h with h | h
    · rw [if_neg (by omega)]
    · split
      · unfold el1; rw [if_pos h]
      · rfl
  · by_cases h : i < j ∧ i ≠ r
    · rw [if_pos h, if_pos (by omega)]
    · rw [if_neg h, if_neg (by omega)]
theorem elN_step (P : Int) (k r : Nat) (f : List Int) (M : List (List Int)) (j : Nat) (hj : j < M.length) (h : j ≠ r) : elN P k r f M (j + 1) = (elN P k r f M j).set j (el1 P k f (gr M j)) := gr_ext (by rw [elN_len, List.length_set, elN_len]) fun i hi => by
  rw [elN_len] at hi
  rw [gr_elN hi, gr_set (by rw [elN_len]; exact hj), gr_elN hi]
  by_cases e : i = j
  · subst e
    rw [if_pos (by omega), if_pos rfl]
  · rw [if_neg e]
    by_cases h : i < j ∧ i ≠ r
    · rw [if_pos h, if_pos (by omega)]
    · rw [if_neg h, if_neg (by omega)]
end Go.Proofs.Ytbgabipngdillaa

namespace Go.Proofs.Ytbgabipngdillaa
open Go.RowKit

theorem SI.part {w : World} {b off c : Nat} {l : List Int} (h : SI w (.slice (some ⟨b, off, none⟩) l.length c) l) {lo k : Nat} (h1 : lo + k ≤ l.length) :
    SI w (.slice (some ⟨b, off + lo, none⟩) k (c - lo)) ((l.drop lo).take k) := by
  have hk : ((l.drop lo).take k).length = k := by simp; omega
  obtain ⟨A', c', e, hc, hm, hr, ha⟩ := h
  injection e with e1 e2 e3
  subst e3
  refine ⟨_, c - lo, by rw [hk], by rw [hk]; omega, by omega, fun x hx => hr x (List.mem_of_mem_drop (List.mem_of_mem_take hx)), fun h0 => ?_⟩
  obtain ⟨b', off', hA, hb, hcell⟩ := ha (by rw [hk] at h0; omega)
  rw [← e1] at hA
  injection hA with hA
  injection hA with hb1 ho1
  subst hb1 ho1
  refine ⟨b, off + lo, rfl, hb, fun j hj => ?_⟩
  have hj' : lo + j < l.length := by rw [hk] at hj; omega
  have := hcell (lo + j) hj'
  rw [Nat.add_assoc, this]
  simp
/-- append(own, u) of a value of one cell -/
theorem step_append_one_at {P : Program} (w : World) {ops : Array Oper} {o : Oper} {a : Act} {K : Act → World → Prop} {Q : Exit → Act → World → Prop} {E : Prop} (hgd : o.guard = none) (s x : Operand) (t : TypeId)
    (ho : o.op = .call { callee := .builtin .append, args := #[s, x], argTypes := #[t, t] })
    (base : Nat) (e : TypeId) (z : Value) (by' : Nat) (ht : P.underlying t = some (.slice e)) (hinfo : (P.info? e).map (fun i => (i.zero, i.size, i.bytes)) = some (some z, 1, by'))
    (v : Value) (n : Nat) (xs : List Value) (hs : a.eval s = v) (hown : w.ownsRow base e 1 v n xs)
    (y : Value) (hy : y.oneCell' = true) (b : Nat) (hx : a.eval x = .slice (some ⟨b, 0, none⟩) 1 1) (hc : w.cell? ⟨b, 0, none⟩ = some y)
    (hbytes : (n + 1) * by' ≤ 140737488355328) (hn : n ≤ 1000000) (hzs : z.cells.size = 1) (hbase : base ≤ w.heap.size)
    (h : ∀ g cap w', w'.ownsRow base e 1 (.slice (some ⟨g, 0, none⟩) (n + 1) cap) (n + 1) (xs ++ [y]) → w.grownBy w' v.ownBlock → (v.ownBlock = some g ∨ g = w.heap.size) → K (a.put o.dst (.slice (some ⟨g, 0, none⟩) (n + 1) cap)) w') :
    if Region.wanted o (yielded ops a.tmps) = true then Oper.wp P o a w K Q else E := by
  obtain ⟨i0, hi0, hz0, hz1, hz2⟩ := info_parts hinfo
  have hw : Region.wanted o (yielded ops a.tmps) = true := by simp [Region.wanted, hgd]
  rw [if_pos hw]
  obtain ⟨v', w', hrun, h2, h3, h4⟩ := run_append_sc_at (P := P) w base t o.type e i0 _ 1 by' ht hi0 hz0 hz1 hz2 hzs (by omega) v _ _ hown (b + 1) (.slice (some ⟨b, 0, none⟩) 1 1) 1 [y] ⟨_, 1, rfl, rfl, fun _ => ⟨b, 0, rfl, by omega, fun j u hu => by
    cases j with
    | zero => simp at hu; subst hu; exact hc
    | succ j => simp at hu⟩⟩ (by intro u hu; simp at hu; subst hu; exact hy) (by unfold maxLen; omega) hbytes hbase
  rcases h2.2 with ⟨_, hn'⟩ | ⟨g, cap, cur, rfl, hb, hg, hnc, hcm, hcs, htake⟩
  · simp at hn'
  · unfold Oper.wp execOp
    simp only [ho, resolve, invoke, builtin, Sem.run_bind, Sem.run_pure, Result.andThen_ok, List.map_toArray, List.map_cons, List.map_nil, hs, hx, hrun]
    refine h g cap w' h2 h3 ?_
    rcases h4 with e4 | e4
    · exact .inl (by rw [← e4]; rfl)
    · exact .inr (by simpa [Value.ownBlock] using e4)
/-- hv is a header row of one's own, of k rows, each in a block of its own -/
structure BR (base : Nat) (w : World) (hv : Value) (n k : Nat) (bs cs : Nat → Nat) (M : List (List Int)) : Prop where
  own : w.ownsRow base 22 1 hv k ((List.range k).map (hd n bs cs))
  len : M.length = k
  row : ∀ i, i < k → RB w (bs i) (gr M i) ∧ (gr M i).length = n ∧ n ≤ cs i ∧ cs i ≤ 9223372036854775807 ∧ base ≤ bs i ∧ hv.ownBlock ≠ some (bs i)
  apart : ∀ i j, i < k → j < k → bs i = bs j → i = j
def upd (f : Nat → Nat) (k b : Nat) (i : Nat) : Nat := if i = k then b else f i
theorem BR.nil (base : Nat) (w : World) (n : Nat) (bs cs : Nat → Nat) : BR base w (.slice none 0 0) n 0 bs cs [] :=
  ⟨World.ownsRow_nil _ _ _ _, rfl, fun i hi => by omega, fun i j hi => by omega⟩
theorem BR.keep {base : Nat} {w w' : World} {hv : Value} {n k : Nat} {bs cs : Nat → Nat} {M : List (List Int)} (h : BR base w hv n k bs cs M) (hk : ∀ b, base ≤ b → b < w.heap.size → w'.heap[b]? = w.heap[b]?) : BR base w' hv n k bs cs M := by
  refine ⟨⟨h.own.1, ?_⟩, h.len, fun i hi => ?_, h.apart⟩
  · rcases h.own.2 with hn | ⟨g, cap, cur, e, hb, hg, rest⟩
    · exact .inl hn
    · exact .inr ⟨g, cap, cur, e, hb, (hk g hb (heap_of_cells hg)).trans hg, rest⟩
  · obtain ⟨⟨tl, r1⟩, r2, r3, r4, r5, r6⟩ := h.row i hi
    exact ⟨⟨tl, (hk _ r5 (heap_of_cells r1)).trans r1⟩, r2, r3, r4, r5, r6⟩
theorem BR.push {base : Nat} {w w0 w1 w2 : World} {hv v : Value} {n k : Nat} {bs cs : Nat → Nat} {M : List (List Int)} (h : BR base w hv n k bs cs M) {row : List Int} {y : Int} {g1 cap1 g2 cap2 : Nat} {o1 o2 : Obj}
    (hw : ∀ b, b < w.heap.size → w0.heap[b]? = w.heap[b]?) (hws : w.heap.size ≤ w0.heap.size) (hvo : ∀ b, v.ownBlock = some b → w.heap.size ≤ b ∧ b < w0.heap.size) (hn : row.length + 1 = n)
    (hg1 : (w0.alloc o1).grownBy w1 v.ownBlock) (ho1 : w1.ownsRow base 3 1 (.slice (some ⟨g1, 0, none⟩) (row ++ [y]).length cap1) (row ++ [y]).length ((row ++ [y]).map (Value.int .i64))) (ha1 : v.ownBlock = some g1 ∨ g1 = (w0.alloc o1).heap.size)
    (hg2 : (w1.alloc o2).grownBy w2 hv.ownBlock) (ho2 : w2.ownsRow base 22 1 (.slice (some ⟨g2, 0, none⟩) (k + 1) cap2) (k + 1) ((List.range k).map (hd n bs cs) ++ [.slice (some ⟨g1, 0, none⟩) (row ++ [y]).length cap1])) (ha2 : hv.ownBlock = some g2 ∨ g2 = (w1.alloc o2).heap.size) :
    BR base w2 (.slice (some ⟨g2, 0, none⟩) (k + 1) cap2) n (k + 1) (upd bs k g1) (upd cs k cap1) (M ++ [row ++ [y]]) := by
  have hl : (row ++ [y]).length = n := by simp; omega
  rw [hl] at ho1 ho2
  obtain ⟨r1, r2, r3, r4⟩ := RB.of_own ho1 rfl
  have hlM := h.len
  have hs1 := hg1.size
  have hs2 := hg2.size
  simp at hs1 hs2
  have hvl := h.own.lt
  have hg1lo : w.heap.size ≤ g1 := by
    rcases ha1 with e | e
    · exact (hvo g1 e).1
    · rw [e]; simp; omega
  have hg1hi : g1 < w1.heap.size := r1.lt
  -- old blocks through both growths
  have old : ∀ b, b < w.heap.size → hv.ownBlock ≠ some b → w2.heap[b]? = w.heap[b]? := by
    intro b hb hne
    rw [hg2.block b (by simp; omega) (fun e => hne e.symm), Below.heap_alloc w1 o2 b (by omega), hg1.block b (by simp; omega) (fun e => by have := (hvo b e.symm).1; omega), Below.heap_alloc w0 o1 b (by omega)]
    exact hw b hb
  have hrow : ∀ i, i < k → bs i < w.heap.size := fun i hi => (h.row i hi).1.lt
  have hhv2 : ∀ b, (Value.slice (some ⟨g2, 0, none⟩) (k + 1) cap2).ownBlock = some b → hv.ownBlock = some b ∨ w1.heap.size ≤ b := by
    intro b hb
    have e : g2 = b := by injection hb
    subst e
    rcases ha2 with e2 | e2
    · exact .inl e2
    · right; rw [e2]; simp
  refine ⟨?_, by simp [hlM], fun i hi => ?_, fun i j hi hj hij => ?_⟩
  · have : (List.range (k + 1)).map (hd n (upd bs k g1) (upd cs k cap1)) = (List.range k).map (hd n bs cs) ++ [.slice (some ⟨g1, 0, none⟩) n cap1] := by
      rw [List.range_succ, List.map_append]
      congr 1
      · apply List.map_congr_left
        intro i hi
        have : i ≠ k := by have := List.mem_range.1 hi; omega
        simp [hd, upd, this]
      · simp [hd, upd]
    rw [this]; exact ho2
  · by_cases e : i = k
    · subst e
      have hgr : gr (M ++ [row ++ [y]]) i = row ++ [y] := by rw [gr_lt (by simp; omega)]; simp [hlM.symm]
      rw [hgr]
      simp only [upd, ↓reduceIte]
      refine ⟨?_, hl, r3, by simpa [maxLen] using r4, r2, fun e2 => ?_⟩
      · obtain ⟨tl, r1⟩ := r1
        refine ⟨tl, ?_⟩
        rw [hg2.block g1 (by simp; omega) (fun e2 => by have := (hvl g1 e2.symm).2; omega), Below.heap_alloc w1 o2 g1 hg1hi]
        exact r1
      · rcases hhv2 g1 e2 with e3 | e3
        · have := (hvl g1 e3).2; omega
        · omega
    · have hik : i < k := by omega
      obtain ⟨⟨tl, q1⟩, q2, q3, q4, q5, q6⟩ := h.row i hik
      have hgr : gr (M ++ [row ++ [y]]) i = gr M i := by
        unfold gr; rw [List.getElem?_append_left (by omega)]
      rw [hgr]
      simp only [upd]
      rw [if_neg e, if_neg e]
      refine ⟨⟨tl, (old _ (hrow i hik) q6).trans q1⟩, q2, q3, q4, q5, fun e2 => ?_⟩
      rcases hhv2 _ e2 with e3 | e3
      · exact q6 e3
      · have := hrow i hik; omega
  · simp only [upd] at hij
    by_cases ei : i = k
    · by_cases ej : j = k
      · omega
      · rw [if_pos ei, if_neg ej] at hij
        have := hrow j (by omega); omega
    · by_cases ej : j = k
      · rw [if_neg ei, if_pos ej] at hij
        have := hrow i (by omega); omega
      · rw [if_neg ei, if_neg ej] at hij
        exact h.apart i j (by omega) (by omega) hij
/-- the finished header row -/
theorem BR.rm {base : Nat} {w : World} {hv : Value} {n k : Nat} {bs cs : Nat → Nat} {M : List (List Int)} (h : BR base w hv n k bs cs M) (hk : 0 < k) : ∃ G c, hv = .slice (some ⟨G, 0, none⟩) k c ∧ k ≤ c ∧ RM base w G n k bs cs M := by
  rcases h.own.2 with ⟨_, hn⟩ | ⟨g, cap, cur, rfl, hb, hg, hnc, hcm, hcs, htake⟩
  · omega
  · refine ⟨g, cap, rfl, hnc, ⟨cur.toList, by rw [hg], fun i hi => ?_⟩, h.len, hb, fun i hi => ?_, h.apart⟩
    · have h1 : (cur.toList.take (k * 1))[i]? = ((List.range k).map (hd n bs cs))[i]? := by rw [htake]
      rw [List.getElem?_take, if_pos (by omega)] at h1
      rw [h1]; simp [hi]
    · obtain ⟨q1, q2, q3, q4, q5, q6⟩ := h.row i hi
      exact ⟨q1, q2, q3, q4, q5, fun e => q6 (by rw [e]; rfl)⟩
end Go.Proofs.Ytbgabipngdillaa

namespace Go.Proofs.Ytbgabipngdillaa
open Go.RowKit

/-- row i of equations, its right side last -/
def eqRow (cl rl : List Int) (C i : Nat) : List Int := (cl.drop (i * C)).take C ++ [gd rl i]
def eqM (cl rl : List Int) (C k : Nat) : List (List Int) := (List.range k).map (eqRow cl rl C)
theorem eqM_succ (cl rl : List Int) (C k : Nat) : eqM cl rl C (k + 1) = eqM cl rl C k ++ [eqRow cl rl C k] := by
  unfold eqM; rw [List.range_succ, List.map_append]; rfl
theorem eqM_len (cl rl : List Int) (C k : Nat) : (eqM cl rl C k).length = k := by simp [eqM]
theorem eqM_gr {cl rl : List Int} {C k i : Nat} (h : i < k) : gr (eqM cl rl C k) i = eqRow cl rl C i := by
  rw [gr_lt (by rw [eqM_len]; exact h)]; simp [eqM]
theorem eqRow_len {cl rl : List Int} {C R i : Nat} (h : cl.length = R * C) (hi : i < R) : (eqRow cl rl C i).length = C + 1 := by
  have : i * C + C ≤ R * C := by have := Nat.mul_le_mul_right C (by omega : i + 1 ≤ R); rwa [Nat.add_mul, Nat.one_mul] at this
  simp [eqRow]; omega
theorem eqRow_els {P : Int} (hP : 2 ≤ P) {cl rl : List Int} (C i : Nat) (h1 : els P cl = true) (h2 : els P rl = true) : els P (eqRow cl rl C i) = true := els_of fun x hx => by
  rw [eqRow, List.mem_append] at hx
  rcases hx with hx | hx
  · exact els_all h1 x (List.mem_of_mem_drop (List.mem_of_mem_take hx))
  · simp at hx; rw [hx]; exact els_gd hP h2 i
def zl32 : List Value := (zeros 32).map (Value.int .i64)

theorem below_grown {B : Nat} {a b : World} {r : Option Nat} (h : a.grownBy b r) (ha : B ≤ a.heap.size) (hr : ∀ k, r = some k → B ≤ k) : Below B a b :=
  ⟨h.os, h.tape, h.output, h.size, fun i hi => h.block i (by omega) (fun e => by have := hr i e.symm; omega)⟩
end Go.Proofs.Ytbgabipngdillaa

namespace Go.Proofs.Ytbgabipngdillaa
open Go.RowKit

theorem grownBy_drew' {a w : World} {r : Option Nat} (h : a.grownBy w r) : a.grownBy w.drew r := ⟨h.os, h.tape, h.output, h.size, h.block⟩
def SolE (P : Int) (R C : Nat) (cl rl x : List Int) : Prop := x.length = C ∧ ∀ i, i < R → P ∣ dh (C + 1) (eqRow cl rl C i) (x ++ [-1])
def SoP (P : Int) (R C : Nat) (cl rl : List Int) (w : World) (e : Ending) (w' : World) : Prop :=
  ∃ (er : Int) (v : Value) (x : List Int), e = .returned (.tuple #[v, .int .i64 er]) ∧ Below w.heap.size w w' ∧
    ((er = 0 ∧ SolE P R C cl rl x ∧ els P x = true ∧ w'.ownsRow w.heap.size 3 1 v x.length (x.map (Value.int .i64))) ∨ (er = 6 ∧ v = .slice none 0 0 ∧ ¬ ∃ x, SolE P R C cl rl x))
theorem eqM_sol {P : Int} {R C : Nat} {cl rl x : List Int} (hx : x.length = C) (h : ∀ i, i < (eqM cl rl C R).length → P ∣ dh (C + 1) (gr (eqM cl rl C R) i) (x ++ [-1])) : SolE P R C cl rl x :=
  ⟨hx, fun i hi => by have := h i (by rw [eqM_len]; exact hi); rwa [eqM_gr hi] at this⟩
/-- the solution as far as place k -/
def soK (C : Nat) (x : List Int) (k : Nat) : List Int := x.take k ++ zeros (C - k)
theorem soK_len {C : Nat} {x : List Int} (hx : x.length = C) (k : Nat) (hk : k ≤ C) : (soK C x k).length = C := by simp [soK, zeros, hx]; omega
theorem soK_gd {C : Nat} {x : List Int} (hx : x.length = C) (k j : Nat) (hk : k ≤ C) : gd (soK C x k) j = if j < k then gd x j else 0 := by
  unfold soK
  rw [gd_app, List.length_take, Nat.min_eq_left (by omega), gd_take]
  by_cases h : j < k
  · rw [if_pos h, if_pos h]; try simp [h]
  · rw [if_neg h, if_neg h]
    by_cases h2 : j - k < C - k
    · rw [gd_lt (by simpa [zeros] using h2)]; simp only [zeros, List.getElem_replicate]
    · exact gd_ge (by simp [zeros]; omega)
theorem soK_step {C : Nat} {x : List Int} (hx : x.length = C) (k : Nat) (hk : k < C) : (soK C x k).set k (gd x k) = soK C x (k + 1) := list_ext_gd (by rw [List.length_set, soK_len hx k (by omega), soK_len hx (k + 1) (by omega)]) fun j hj => by
  rw [gd_set _ _ _ _ (by rw [soK_len hx k (by omega)]; exact hk), soK_gd hx k j (by omega), soK_gd hx (k + 1) j (by omega)]
  by_cases e : j = k
  · rw [if_pos e, if_pos (by omega), e]
  · rw [if_neg e]
    by_cases h : j < k
    · rw [if_pos h, if_pos (by omega)]
    · rw [if_neg h, if_neg (by omega)]
theorem soK_skip {C : Nat} {x : List Int} (hx : x.length = C) (k : Nat) (hk : k < C) (h0 : gd x k = 0) : soK C x (k + 1) = soK C x k := list_ext_gd (by rw [soK_len hx k (by omega), soK_len hx (k + 1) (by omega)]) fun j hj => by
  rw [soK_gd hx k j (by omega), soK_gd hx (k + 1) j (by omega)]
  by_cases e : j = k
  · rw [e, if_pos (by omega), if_neg (by omega), h0]
  · by_cases h : j < k
    · rw [if_pos h, if_pos (by omega)]
    · rw [if_neg h, if_neg (by omega)]
theorem soK_zero {C : Nat} (x : List Int) : soK C x 0 = zeros C := by simp [soK]
theorem soK_end {C : Nat} {x : List Int} (hx : x.length = C) : soK C x C = x := by simp [soK, zeros, ← hx]
end Go.Proofs.Ytbgabipngdillaa

namespace Go.Proofs.Ytbgabipngdillaa
open Go.RowKit

/-- append(own, ints...) of one or more, inside a region that draws its order -/
theorem step_append_ints_at {P : Program} (w : World) {ops : Array Oper} {o : Oper} {a : Act} {K : Act → World → Prop} {Q : Exit → Act → World → Prop} {E : Prop} (hgd : o.guard = none) (s x : Operand) (t : TypeId)
    (ho : o.op = .call { callee := .builtin .append, args := #[s, x], argTypes := #[t, t] })
    (base : Nat) (e : TypeId) (ht : P.underlying t = some (.slice e)) (hinfo : (P.info? e).map (fun i => (i.zero, i.size, i.bytes)) = some (some (.int .i64 0), 1, 8))
    (v : Value) (xs : List Int) (hs : a.eval s = v) (hown : w.ownsRow base e 1 v xs.length (xs.map (Value.int .i64)))
    (B : Nat) (src : Value) (l : List Int) (hx : a.eval x = src) (hr : SB B w src l) (hl : 0 < l.length)
    (hbytes : xs.length + l.length ≤ 17592186044416) (hbase : base ≤ w.heap.size)
    (h : ∀ g cap w', w'.ownsRow base e 1 (.slice (some ⟨g, 0, none⟩) (xs ++ l).length cap) (xs ++ l).length ((xs ++ l).map (Value.int .i64)) → w.grownBy w' v.ownBlock → (v.ownBlock = some g ∨ g = w.heap.size) → K (a.put o.dst (.slice (some ⟨g, 0, none⟩) (xs ++ l).length cap)) w') :
    if Region.wanted o (yielded ops a.tmps) = true then Oper.wp P o a w K Q else E := by
  obtain ⟨i0, hi0, hz0, hz1, hz2⟩ := info_parts hinfo
  have hw : Region.wanted o (yielded ops a.tmps) = true := by simp [Region.wanted, hgd]
  rw [if_pos hw]
  obtain ⟨v', w', hrun, h2, h3, h4⟩ := run_append_sc_at (P := P) w base t o.type e i0 _ 1 8 ht hi0 hz0 hz1 hz2 rfl (by omega) v _ _ hown B src _ _ hr.sc (one_ints l) (by unfold maxLen; omega) (by omega) hbase
  have h2' : w'.ownsRow base e 1 v' (xs ++ l).length ((xs ++ l).map (Value.int .i64)) := by rw [List.length_append, List.map_append]; exact h2
  rcases h2'.2 with ⟨_, hn'⟩ | ⟨g, cap, cur, rfl, hb, hg, hnc, hcm, hcs, htake⟩
  · rw [List.length_append] at hn'; omega
  · unfold Oper.wp execOp
    simp only [ho, resolve, invoke, builtin, Sem.run_bind, Sem.run_pure, Result.andThen_ok, List.map_toArray, List.map_cons, List.map_nil, hs, hx, hrun]
    refine h g cap w' h2' h3 ?_
    rcases h4 with e4 | e4
    · exact .inl (by rw [← e4]; rfl)
    · exact .inr (by simpa [Value.ownBlock] using e4)

/-- the coefficients and the right sides -/
def kcl (P : Int) (a e : Nat) (K : List (Int × Int)) : List Int := K.flatMap fun t => pw P t.1 a ++ ngl P t.2 (pw P t.1 e)
def krl (P : Int) (e : Nat) (K : List (Int × Int)) : List Int := K.map fun t => t.2 * (t.1 ^ e % P) % P
theorem kcl_snoc (P : Int) (a e : Nat) (K : List (Int × Int)) (t : Int × Int) : kcl P a e (K ++ [t]) = kcl P a e K ++ pw P t.1 a ++ ngl P t.2 (pw P t.1 e) := by
  simp [kcl]
theorem krl_snoc (P : Int) (e : Nat) (K : List (Int × Int)) (t : Int × Int) : krl P e (K ++ [t]) = krl P e K ++ [t.2 * (t.1 ^ e % P) % P] := by simp [krl]
theorem ngl_len (P y : Int) (l : List Int) : (ngl P y l).length = l.length := by simp [ngl]
theorem kcl_len (P : Int) (a e : Nat) (K : List (Int × Int)) : (kcl P a e K).length = K.length * (a + e) := by
  induction K with
  | nil => simp [kcl]
  | cons t K ih =>
    have : kcl P a e (t :: K) = (pw P t.1 a ++ ngl P t.2 (pw P t.1 e)) ++ kcl P a e K := by simp [kcl]
    rw [this, List.length_append, ih]
    simp only [List.length_append, pw_len, ngl_len, List.length_cons]
    rw [Nat.add_mul]; omega
theorem krl_len (P : Int) (e : Nat) (K : List (Int × Int)) : (krl P e K).length = K.length := by simp [krl]
theorem ngl_els {P : Int} (hP : 2 ≤ P) (y : Int) (l : List Int) : els P (ngl P y l) = true := els_of fun x hx => by
  obtain ⟨t, _, rfl⟩ := List.mem_map.1 hx
  exact el_mod hP _
theorem kcl_els {P : Int} (hP : 2 ≤ P) (a e : Nat) (K : List (Int × Int)) : els P (kcl P a e K) = true := els_of fun x hx => by
  unfold kcl at hx
  rw [List.mem_flatMap] at hx
  obtain ⟨t, _, hx⟩ := hx
  rcases List.mem_append.1 hx with h | h
  · exact els_all (pw_els hP _ _) x h
  · exact els_all (ngl_els hP _ _) x h
theorem krl_els {P : Int} (hP : 2 ≤ P) (e : Nat) (K : List (Int × Int)) : els P (krl P e K) = true := els_of fun x hx => by
  obtain ⟨t, _, rfl⟩ := List.mem_map.1 hx
  exact el_mod hP _
theorem kcl_row (P : Int) (a e : Nat) : ∀ (K : List (Int × Int)) (i : Nat) (hi : i < K.length), ((kcl P a e K).drop (i * (a + e))).take (a + e) = pw P K[i].1 a ++ ngl P K[i].2 (pw P K[i].1 e) := by
  intro K
  induction K with
  | nil => intro i hi; simp at hi
  | cons t K ih =>
    intro i hi
    have : kcl P a e (t :: K) = (pw P t.1 a ++ ngl P t.2 (pw P t.1 e)) ++ kcl P a e K := by simp [kcl]
    have hl : (pw P t.1 a ++ ngl P t.2 (pw P t.1 e)).length = a + e := by simp [pw_len, ngl_len]
    rw [this]
    cases i with
    | zero => rw [Nat.zero_mul, List.drop_zero, List.take_left' hl]; rfl
    | succ i =>
      have h2 : (i + 1) * (a + e) = (a + e) + i * (a + e) := by rw [Nat.add_mul]; omega
      rw [h2, ← List.drop_drop, List.drop_left' hl]
      exact ih i (by simpa using hi)
theorem eq_krow (P : Int) (a e : Nat) (K : List (Int × Int)) (i : Nat) (hi : i < K.length) : eqRow (kcl P a e K) (krl P e K) (a + e) i = krow P a e K[i] := by
  rw [eqRow, kcl_row P a e K i hi, gd_lt (by rw [krl_len]; exact hi), krow]
  simp [krl]
theorem solE_sol {P : Int} {a e : Nat} {K : List (Int × Int)} {x : List Int} : SolE P K.length (a + e) (kcl P a e K) (krl P e K) x ↔ Sol P K a e x := by
  constructor
  · rintro ⟨h1, h2⟩
    refine ⟨h1, fun t ht => ?_⟩
    obtain ⟨i, hi, rfl⟩ := List.mem_iff_getElem.1 ht
    have := h2 i hi
    rwa [eq_krow P a e K i hi] at this
  · rintro ⟨h1, h2⟩
    refine ⟨h1, fun i hi => ?_⟩
    rw [eq_krow P a e K i hi]
    exact h2 _ (List.getElem_mem hi)
theorem pw_snoc (P x : Int) (n : Nat) : pw P x (n + 1) = pw P x n ++ [x ^ n % P] := by
  unfold pw; rw [List.range_succ, List.map_append]; rfl
theorem pw_take (P x : Int) {n m : Nat} (h : m ≤ n) : (pw P x n).take m = pw P x m := by
  unfold pw; rw [← List.map_take, List.take_range, Nat.min_eq_left h]
theorem ngl_snoc (P y : Int) (l : List Int) (t : Int) : ngl P y (l ++ [t]) = ngl P y l ++ [(0 - y * t % P + P) % P] := by simp [ngl]
end Go.Proofs.Ytbgabipngdillaa
