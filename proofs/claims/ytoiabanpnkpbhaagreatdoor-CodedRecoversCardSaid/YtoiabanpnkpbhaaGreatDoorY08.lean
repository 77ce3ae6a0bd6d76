/- Joined: Rt Ga Rb. -/
import Derived.Deep.RegionWith
import Derived.Deep.RegionHeld3
import Derived.Test.YtoiabanpnkpbhaaGreatDoorY01
import Derived.Test.YtoiabanpnkpbhaaGreatDoorY02
namespace Go.Proofs.YtoiabanpnkpbhaaGreatDoor

/-- the value, in the integers -/
def ez (l : List Int) (x : Int) : Int := l.foldr (fun c s => c + x * s) 0
theorem ez_nil (x : Int) : ez [] x = 0 := rfl
theorem ez_cons (c : Int) (l : List Int) (x : Int) : ez (c :: l) x = c + x * ez l x := rfl
theorem val_ez {P : Int} (l : List Int) (x : Int) : val P l x = ez l x % P := by
  induction l with
  | nil => simp [val, ez]
  | cons c l ih =>
    show (val P l x * x + c) % P = _
    rw [ih, ez_cons, Int.add_emod, Int.mul_emod, Int.emod_emod, ← Int.mul_emod, ← Int.add_emod, Int.mul_comm, Int.add_comm]
/-- all coefficients are 0 modulo P -/
def az (P : Int) (l : List Int) : Prop := ∀ c ∈ l, P ∣ c
theorem az_cons {P c : Int} {l : List Int} : az P (c :: l) ↔ P ∣ c ∧ az P l := by simp [az]
/-- synthetic division by x - a -/
def sd : List Int → Int → List Int
  | [], _ => []
  | _ :: l, a => if l = [] then [] else ez l a :: sd l a
theorem sd_len (l : List Int) (a : Int) : (sd l a).length = l.length - 1 := by
  induction l with
  | nil => rfl
  | cons c l ih =>
    unfold sd
    split
    · rename_i h; subst h; rfl
    · rename_i h
      have : l.length ≠ 0 := fun e => h (List.eq_nil_of_length_eq_zero e)
      simp only [List.length_cons, ih]; omega
theorem sd_ez (l : List Int) (a x : Int) : ez l x = (x - a) * ez (sd l a) x + ez l a := by
  induction l with
  | nil => simp [ez, sd]
  | cons c l ih =>
    unfold sd
    split
    · rename_i h; subst h; simp [ez]
    · rw [ez_cons, ez_cons, ez_cons, ih]
      rw [Int.mul_add, Int.mul_add, Int.mul_left_comm (x - a) x]
      have : x * ez l a = (x - a) * ez l a + a * ez l a := by rw [← Int.add_mul]; congr 1; omega
      rw [this]
      omega
theorem sd_az {P a : Int} {l : List Int} (h : az P (sd l a)) (h0 : P ∣ ez l a) : az P l := by
  induction l with
  | nil => intro c hc; simp at hc
  | cons c l ih =>
    unfold sd at h
    split at h
    · rename_i e; subst e
      rw [az_cons]
      refine ⟨?_, fun c hc => by simp at hc⟩
      simpa [ez] using h0
    · obtain ⟨h1, h2⟩ := az_cons.1 h
      rw [az_cons]
      refine ⟨?_, ih h2 h1⟩
      rw [ez_cons] at h0
      have := Int.dvd_sub h0 (Int.dvd_mul_of_dvd_right h1 : P ∣ a * ez l a)
      have e : c + a * ez l a - a * ez l a = c := by omega
      rwa [e] at this
/-- a polynomial with as many different roots as its length is 0 -/
theorem roots {P : Int} (hp : prB P = true) : ∀ (X : List Int) (l : List Int), l.length ≤ X.length → X.Pairwise (fun a b => ¬ P ∣ a - b) → (∀ x ∈ X, P ∣ ez l x) → az P l := by
  intro X
  induction X with
  | nil =>
    intro l hl _ _
    have : l = [] := List.eq_nil_of_length_eq_zero (by simpa using hl)
    subst this
    intro c hc; simp at hc
  | cons a X ih =>
    intro l hl hX h
    rw [List.pairwise_cons] at hX
    have ha := h a (by simp)
    refine sd_az (a := a) (ih (sd l a) ?_ hX.2 ?_) ha
    · rw [sd_len]; simp at hl; omega
    · intro x hx
      have hx0 := h x (by simp [hx])
      rw [sd_ez l a x] at hx0
      have h1 := Int.dvd_sub hx0 ha
      have e : (x - a) * ez (sd l a) x + ez l a - ez l a = (x - a) * ez (sd l a) x := by omega
      rw [e] at h1
      rcases pr_euclid hp _ _ h1 with h2 | h2
      · exfalso
        apply hX.1 x hx
        have := Int.dvd_neg.2 h2
        have e2 : -(x - a) = a - x := by omega
        rwa [e2] at this
      · exact h2

/-- sums, multiples, products -/
def az_add : List Int → List Int → List Int
  | [], m => m
  | l, [] => l
  | c :: l, d :: m => (c + d) :: az_add l m
theorem add_len (l m : List Int) : (az_add l m).length = max l.length m.length := by
  induction l generalizing m with
  | nil => cases m <;> simp [az_add]
  | cons c l ih => cases m with
    | nil => simp [az_add]
    | cons d m => simp [az_add, ih]
theorem add_ez (l m : List Int) (x : Int) : ez (az_add l m) x = ez l x + ez m x := by
  induction l generalizing m with
  | nil => cases m <;> simp [az_add, ez]
  | cons c l ih => cases m with
    | nil => simp [az_add, ez]
    | cons d m =>
      simp only [az_add, ez_cons, ih, Int.mul_add]; omega
def zmul (a : Int) (l : List Int) : List Int := l.map (a * ·)
theorem zmul_len (a : Int) (l : List Int) : (zmul a l).length = l.length := by simp [zmul]
theorem zmul_ez (a : Int) (l : List Int) (x : Int) : ez (zmul a l) x = a * ez l x := by
  induction l with
  | nil => simp [zmul, ez]
  | cons c l ih =>
    have : zmul a (c :: l) = (a * c) :: zmul a l := rfl
    rw [this, ez_cons, ez_cons, ih, Int.mul_add, Int.mul_left_comm]
def mulz : List Int → List Int → List Int
  | [], _ => []
  | c :: l, m => az_add (zmul c m) (0 :: mulz l m)
theorem mulz_len (l m : List Int) (hm : m ≠ []) : (mulz l m).length = if l = [] then 0 else l.length + m.length - 1 := by
  have h1 : m.length ≠ 0 := fun e => hm (List.eq_nil_of_length_eq_zero e)
  induction l with
  | nil => rfl
  | cons c l ih =>
    simp only [mulz, add_len, zmul_len, List.length_cons, ih]
    by_cases hl : l = []
    · subst hl; simp; omega
    · have h2 : l.length ≠ 0 := fun e => hl (List.eq_nil_of_length_eq_zero e)
      simp [hl]; omega
theorem mulz_ez (l m : List Int) (x : Int) : ez (mulz l m) x = ez l x * ez m x := by
  induction l with
  | nil => simp [mulz, ez]
  | cons c l ih =>
    simp only [mulz, add_ez, zmul_ez, ez_cons, ih, Int.add_mul, Int.zero_add, Int.mul_assoc]
/-- what a monic divisor leaves decides both parts -/
theorem monic {P : Int} (L : List Int) : ∀ (a R : List Int), R.length ≤ L.length → az P (az_add (mulz a (L ++ [1])) R) → az P a ∧ az P R := by
  intro a
  induction a with
  | nil => intro R _ h; refine ⟨fun c hc => by simp at hc, ?_⟩; cases R <;> simpa [mulz, az_add] using h
  | cons c a ih =>
    intro R hR h
    -- c·b + R has length L.length + 1
    have key : ∀ (u v R : List Int), az P (az_add (az_add u v) R) → az P (az_add (az_add u R) v) := by
      intro u
      induction u with
      | nil =>
        intro v R h
        have c1 : az_add [] R = R := by cases R <;> rfl
        have c2 : az_add [] v = v := by cases v <;> rfl
        rw [c2] at h; rw [c1]
        clear c1 c2
        induction v generalizing R with
        | nil => cases R <;> simpa [az_add] using h
        | cons d v ihv => cases R with
          | nil => simpa [az_add] using h
          | cons r R =>
            simp only [az_add] at h ⊢
            rw [az_cons] at h ⊢
            exact ⟨by rw [Int.add_comm]; exact h.1, ihv R h.2⟩
      | cons p u ihu =>
        intro v R h
        cases v with
        | nil => cases R <;> simpa [az_add] using h
        | cons d v => cases R with
          | nil => simpa [az_add] using h
          | cons r R =>
            simp only [az_add] at h ⊢
            rw [az_cons] at h ⊢
            exact ⟨by have := h.1; rwa [Int.add_right_comm] at this, ihu v R h.2⟩
    have h1 := key _ _ _ h
    -- the first coefficient
    generalize hu : az_add (zmul c (L ++ [1])) R = u at h1
    have hul : u.length = L.length + 1 := by rw [← hu, add_len, zmul_len]; simp; omega
    cases u with
    | nil => simp at hul
    | cons r u =>
      simp only [az_add] at h1
      rw [az_cons] at h1
      have hc0 : ∀ (p q : List Int), az P (az_add p q) → az P (az_add q p) := by
        intro p
        induction p with
        | nil => intro q h; cases q <;> simpa [az_add] using h
        | cons p1 p ihp => intro q h; cases q with
          | nil => simpa [az_add] using h
          | cons q1 q =>
            simp only [az_add] at h ⊢
            rw [az_cons] at h ⊢
            exact ⟨by rw [Int.add_comm]; exact h.1, ihp q h.2⟩
      have h2 := hc0 _ _ h1.2
      obtain ⟨i1, i2⟩ := ih u (by simp at hul; omega) h2
      have hr : P ∣ r := by have := h1.1; simpa using this
      have huz : az P (az_add (zmul c (L ++ [1])) R) := by rw [hu, az_cons]; exact ⟨hr, i2⟩
      clear h h1 h2 hu hul i2 hr hc0 key ih u r
      -- the last coefficient is c
      have fin : ∀ (L R : List Int), R.length ≤ L.length → az P (az_add (zmul c (L ++ [1])) R) → P ∣ c ∧ az P R := by
        intro L
        induction L with
        | nil =>
          intro R hR h
          have : R = [] := List.eq_nil_of_length_eq_zero (by simpa using hR)
          subst this
          exact ⟨by have := h c (by simp [zmul, az_add]); exact this, fun c hc => by simp at hc⟩
        | cons d L ihL =>
          intro R hR h
          cases R with
          | nil =>
            refine ⟨?_, fun c hc => by simp at hc⟩
            have : az P (az_add (zmul c (L ++ [1])) []) := by
              have h' : az P (zmul c (d :: (L ++ [1]))) := by simpa [zmul, az_add] using h
              intro y hy
              have hy' : y ∈ zmul c (L ++ [1]) := by revert hy; cases (zmul c (L ++ [1])) <;> simp [az_add]
              exact h' y (by simp only [zmul, List.map_cons]; exact List.mem_cons_of_mem _ hy')
            exact (ihL [] (by simp) this).1
          | cons r R =>
            have h' : az P ((c * d + r) :: az_add (zmul c (L ++ [1])) R) := by simpa [zmul, az_add] using h
            rw [az_cons] at h'
            obtain ⟨a1, a2⟩ := ihL R (by simpa using hR) h'.2
            refine ⟨a1, ?_⟩
            rw [az_cons]
            refine ⟨?_, a2⟩
            have := Int.dvd_sub h'.1 (Int.dvd_mul_of_dvd_left a1 : P ∣ c * d)
            have e : c * d + r - c * d = r := by omega
            rwa [e] at this
      obtain ⟨f1, f2⟩ := fin L R hR huz
      exact ⟨az_cons.2 ⟨f1, i1⟩, f2⟩
end Go.Proofs.YtoiabanpnkpbhaaGreatDoor

namespace Go.Proofs.YtoiabanpnkpbhaaGreatDoor

theorem dvl {P a k : Int} (h : P ∣ a) : P ∣ a * k := by obtain ⟨q, rfl⟩ := h; exact ⟨q * k, by rw [Int.mul_assoc]⟩
theorem dvr {P a k : Int} (h : P ∣ a) : P ∣ k * a := by rw [Int.mul_comm]; exact dvl h
theorem mod_dvd' (P a : Int) : P ∣ a - a % P := ⟨a / P, by have := Int.mul_ediv_add_emod a P; omega⟩
def sm : Nat → (Nat → Int) → Int
  | 0, _ => 0
  | n + 1, f => sm n f + f n
theorem sm_ext {n : Nat} {f g : Nat → Int} (h : ∀ k < n, f k = g k) : sm n f = sm n g := by
  induction n with
  | zero => rfl
  | succ n ih => simp only [sm]; rw [ih fun k hk => h k (by omega), h n (by omega)]
theorem sm_zero (n : Nat) : sm n (fun _ => 0) = 0 := by induction n with
  | zero => rfl
  | succ n ih => simp [sm, ih]
theorem sm_one {n : Nat} {f : Nat → Int} (c : Nat) (hc : c < n) (h : ∀ k < n, k ≠ c → f k = 0) : sm n f = f c := by
  induction n with
  | zero => omega
  | succ n ih =>
    simp only [sm]
    by_cases e : n = c
    · subst e
      rw [sm_ext (g := fun _ => 0) fun k hk => h k (by omega) (by omega), sm_zero]; omega
    · rw [ih (by omega) fun k hk hn => h k (by omega) hn, h n (by omega) e]; omega
theorem sm_lin {P a : Int} {n : Nat} {f g h : Nat → Int} (e : ∀ k < n, P ∣ f k - (g k + a * h k)) : P ∣ sm n f - (sm n g + a * sm n h) := by
  induction n with
  | zero => exact ⟨0, by simp [sm]⟩
  | succ n ih =>
    have h1 := ih fun k hk => e k (by omega)
    have h2 := e n (by omega)
    have h3 := Int.dvd_add h1 h2
    simp only [sm]
    have e3 : sm n f - (sm n g + a * sm n h) + (f n - (g n + a * h n)) = sm n f + f n - (sm n g + g n + a * (sm n h + h n)) := by rw [Int.mul_add]; omega
    rwa [e3] at h3
theorem sm_mul {P a : Int} {n : Nat} {f g : Nat → Int} (e : ∀ k < n, P ∣ f k - a * g k) : P ∣ sm n f - a * sm n g := by
  have := sm_lin (P := P) (a := a) (n := n) (f := f) (g := fun _ => 0) (h := g) fun k hk => by have := e k hk; simpa using this
  rw [sm_zero] at this
  simpa using this
/-- a row on a list -/
def dh (n : Nat) (r y : List Int) : Int := sm n fun k => gd r k * gd y k
def gr (M : List (List Int)) (i : Nat) : List Int := M[i]?.getD []
theorem gr_lt {M : List (List Int)} {i : Nat} (h : i < M.length) : gr M i = M[i] := by unfold gr; rw [List.getElem?_eq_getElem h]; rfl
theorem gr_set {M : List (List Int)} {i j : Nat} {r : List Int} (h : i < M.length) : gr (M.set i r) j = if j = i then r else gr M j := by
  unfold gr
  rw [List.getElem?_set]
  by_cases e : i = j
  · subst e; simp [h]
  · rw [if_neg e, if_neg (fun x => e x.symm)]
def swp (M : List (List Int)) (r i : Nat) : List (List Int) := (M.set r (gr M i)).set i (gr M r)
theorem swp_len (M : List (List Int)) (r i : Nat) : (swp M r i).length = M.length := by simp [swp]
theorem gr_swp {M : List (List Int)} {r i : Nat} (hr : r < M.length) (hi : i < M.length) (j : Nat) : gr (swp M r i) j = if j = i then gr M r else if j = r then gr M i else gr M j := by
  unfold swp
  rw [gr_set (by simpa using hi), gr_set hr]
def scl (P b : Int) (l : List Int) : List Int := l.map fun x => x * b % P
theorem scl_len (P b : Int) (l : List Int) : (scl P b l).length = l.length := by simp [scl]
theorem scl_gd {P : Int} (b : Int) (l : List Int) (k : Nat) : gd (scl P b l) k = gd l k * b % P := by
  unfold gd scl
  rw [List.getElem?_map]
  cases l[k]? <;> simp
theorem scl_els {P : Int} (hP : 2 ≤ P) (b : Int) (l : List Int) : els P (scl P b l) = true := els_of fun x hx => by
  obtain ⟨y, _, rfl⟩ := List.mem_map.1 hx
  exact el_mod hP _
def el1 (P : Int) (k : Nat) (f row : List Int) : List Int := if gd row k = 0 then row else addT P row 0 ((0 - gd row k + P) % P) f
def elN (P : Int) (k r : Nat) (f : List Int) (M : List (List Int)) (j : Nat) : List (List Int) :=
  (List.range M.length).map fun n => if n < j ∧ n ≠ r then el1 P k f (gr M n) else gr M n
theorem elN_len (P : Int) (k r : Nat) (f : List Int) (M : List (List Int)) (j : Nat) : (elN P k r f M j).length = M.length := by simp [elN]
theorem gr_elN {P : Int} {k r : Nat} {f : List Int} {M : List (List Int)} {j n : Nat} (h : n < M.length) : gr (elN P k r f M j) n = if n < j ∧ n ≠ r then el1 P k f (gr M n) else gr M n := by
  unfold elN
  rw [gr_lt (by simpa using h)]
  simp
def led1 (P : Int) (k i : Nat) (M : List (List Int)) : List Int := scl P (inv P (gd (gr M i) k)) (gr M i)
def leadM (P : Int) (k r i : Nat) (M : List (List Int)) : List (List Int) := elN P k r (led1 P k i M) ((swp M r i).set r (led1 P k i M)) M.length

structure GE (P : Int) (C : Nat) (M0 M : List (List Int)) (r k : Nat) (ld : List Int) : Prop where
  len : M.length = M0.length
  row : ∀ i, i < M.length → (gr M i).length = C + 1 ∧ els P (gr M i) = true
  rk : r ≤ M.length
  ldl : ld.length = 32
  free : ∀ c, c < k → gd ld c = 0 → ∀ m, r ≤ m → m < M.length → gd (gr M m) c = 0
  led : ∀ c, c < k → gd ld c ≠ 0 → ∃ n : Nat, gd ld c = (n : Int) + 1 ∧ n < r ∧ gd (gr M n) c = 1 ∧ ∀ m, m < M.length → m ≠ n → gd (gr M m) c = 0
  inj : ∀ c d, c < k → d < k → gd ld c = gd ld d → gd ld c ≠ 0 → c = d
  rest : ∀ c, k ≤ c → gd ld c = 0
  all : ∀ n : Nat, n < r → ∃ c, c < k ∧ gd ld c = (n : Int) + 1
  sol : ∀ y, (∀ i, i < M.length → P ∣ dh (C + 1) (gr M i) y) ↔ (∀ i, i < M0.length → P ∣ dh (C + 1) (gr M0 i) y)

theorem GE.none {P : Int} {C r k : Nat} {M0 M : List (List Int)} {ld : List Int} (h : GE P C M0 M r k ld) (h0 : ∀ m, r ≤ m → m < M.length → gd (gr M m) k = 0) : GE P C M0 M r (k + 1) ld where
  len := h.len
  row := h.row
  rk := h.rk
  ldl := h.ldl
  free := fun c hc h1 => by
    by_cases e : c = k
    · subst e; exact h0
    · exact h.free c (by omega) h1
  led := fun c hc h1 => by
    by_cases e : c = k
    · subst e; exact absurd (h.rest c (Nat.le_refl _)) h1
    · exact h.led c (by omega) h1
  inj := fun c d hc hd e1 e2 => by
    by_cases e : c = k
    · subst e; exact absurd (h.rest c (Nat.le_refl _)) e2
    · by_cases e' : d = k
      · subst e'; rw [e1] at e2; exact absurd (h.rest d (Nat.le_refl _)) e2
      · exact h.inj c d (by omega) (by omega) e1 e2
  rest := fun c hc => h.rest c (by omega)
  all := fun n hn => by obtain ⟨c, h1, h2⟩ := h.all n hn; exact ⟨c, by omega, h2⟩
  sol := h.sol

theorem dh_scl {P : Int} (n : Nat) (b : Int) (l y : List Int) : P ∣ dh n (scl P b l) y - b * dh n l y := by
  refine sm_mul fun k _ => ?_
  rw [scl_gd]
  have h1 : P ∣ gd l k * b - gd l k * b % P := mod_dvd' _ _
  have h2 := dvl (k := gd y k) h1
  have h3 := Int.dvd_neg.2 h2
  have e : -((gd l k * b - gd l k * b % P) * gd y k) = gd l k * b % P * gd y k - b * (gd l k * gd y k) := by
    rw [Int.sub_mul, ← Int.mul_assoc, Int.mul_comm b]; omega
  rwa [e] at h3
theorem gd_add0 {P : Int} {to f : List Int} (x : Int) (h : f.length = to.length) (k : Nat) (hk : k < to.length) : gd (addT P to 0 x f) k = (gd to k + x * gd f k) % P := by
  rw [addT_gd P to 0 x f (by omega), if_pos (by omega)]; simp
theorem dh_add {P x : Int} {to f : List Int} (y : List Int) (h : f.length = to.length) : P ∣ dh to.length (addT P to 0 x f) y - (dh to.length to y + x * dh to.length f y) := by
  refine sm_lin fun k hk => ?_
  rw [gd_add0 x h k hk]
  have h1 : P ∣ (gd to k + x * gd f k) - (gd to k + x * gd f k) % P := mod_dvd' _ _
  have h3 := Int.dvd_neg.2 (dvl (k := gd y k) h1)
  have e : -((gd to k + x * gd f k - (gd to k + x * gd f k) % P) * gd y k) = (gd to k + x * gd f k) % P * gd y k - (gd to k * gd y k + x * (gd f k * gd y k)) := by
    rw [Int.sub_mul, Int.add_mul, Int.mul_assoc]; omega
  rwa [e] at h3
theorem neg_mod {P a : Int} : ∃ q, (0 - a + P) % P = -a + P * q := by
  refine ⟨1 - (0 - a + P) / P, ?_⟩
  have := Int.mul_ediv_add_emod (0 - a + P) P
  rw [Int.mul_sub]; omega
theorem el1_len (P : Int) (k : Nat) (f row : List Int) : (el1 P k f row).length = row.length := by
  unfold el1; split
  · rfl
  · rw [addT_len]
theorem el1_els {P : Int} (hP : 2 ≤ P) (k : Nat) (f : List Int) {row : List Int} (h : els P row = true) : els P (el1 P k f row) = true := by
  unfold el1; split
  · exact h
  · exact addT_els hP h _ _ _
theorem el1_dh {P : Int} (k : Nat) {f row : List Int} (y : List Int) (h : f.length = row.length) (hf : P ∣ dh row.length f y) : P ∣ dh row.length (el1 P k f row) y ↔ P ∣ dh row.length row y := by
  unfold el1
  split
  · exact Iff.rfl
  · have h1 := dh_add (P := P) (x := (0 - gd row k + P) % P) y h
    have h2 : P ∣ (0 - gd row k + P) % P * dh row.length f y := Int.dvd_mul_of_dvd_right hf
    constructor
    · intro h3
      have := Int.dvd_sub (Int.dvd_sub h3 h1) h2
      refine (Int.dvd_congr' ?_).1 this
      omega
    · intro h3
      have := Int.dvd_add (Int.dvd_add h1 h3) h2
      refine (Int.dvd_congr' ?_).1 this
      omega
where Int.dvd_congr' {P a b : Int} (h : a = b) : P ∣ a ↔ P ∣ b := by rw [h]
/-- a column in which the leading row is 0 stays -/
theorem el1_gd0 {P : Int} (hP : 2 ≤ P) (k : Nat) {f row : List Int} (h : f.length = row.length) (hr : els P row = true) (c : Nat) (hf : gd f c = 0) : gd (el1 P k f row) c = gd row c := by
  unfold el1
  split
  · rfl
  · by_cases hc : c < row.length
    · rw [gd_add0 _ h c hc, hf, Int.mul_zero, Int.add_zero]
      have := el_t (els_gd hP hr c)
      exact Int.emod_eq_of_lt this.1 this.2
    · rw [gd_ge (by rw [addT_len]; omega), gd_ge (by omega)]
/-- the column of the leading row becomes 0 elsewhere -/
theorem el1_gdk {P : Int} (k : Nat) {f row : List Int} (h : f.length = row.length) (hf : gd f k = 1) : gd (el1 P k f row) k = 0 := by
  unfold el1
  split
  · assumption
  · by_cases hc : k < row.length
    · rw [gd_add0 _ h k hc, hf, Int.mul_one]
      obtain ⟨q, hq⟩ := neg_mod (P := P) (a := gd row k)
      rw [hq]
      have : gd row k + (-gd row k + P * q) = P * q := by omega
      rw [this]; simp
    · rw [gd_ge (by rw [addT_len]; omega)]

theorem GE.lead {P : Int} {C r k i : Nat} {M0 M : List (List Int)} {ld : List Int} (hp : prB P = true) (h : GE P C M0 M r k ld) (hk : k < C) (hC : C ≤ 32) (hi : r ≤ i) (hil : i < M.length) (hne : gd (gr M i) k ≠ 0) :
    GE P C M0 (leadM P k r i M) (r + 1) (k + 1) (ld.set k ((r : Int) + 1)) := by
  have hP := (prB_bd hp).1
  have hrl : r < M.length := by omega
  have hlen : (leadM P k r i M).length = M.length := by rw [leadM, elN_len, List.length_set, swp_len]
  have hfl : (led1 P k i M).length = C + 1 := by rw [led1, scl_len]; exact (h.row i hil).1
  have hfe : els P (led1 P k i M) = true := scl_els hP _ _
  have hik : gd (gr M i) k % P ≠ 0 := by
    have := el_t (els_gd hP (h.row i hil).2 k)
    rw [Int.emod_eq_of_lt this.1 this.2]; exact hne
  have hfk : gd (led1 P k i M) k = 1 := by
    rw [led1, scl_gd, Int.mul_comm]
    exact inv_mul hp _ hik
  -- rows of the swapped matrix
  have hS : ∀ n, n < M.length → gr (leadM P k r i M) n = if n = r then led1 P k i M else el1 P k (led1 P k i M) (gr M (if n = i then r else n)) := by
    intro n hn
    rw [leadM, gr_elN (by rw [List.length_set, swp_len]; exact hn), gr_set (by rw [swp_len]; exact hrl), gr_swp hrl hil]
    by_cases e : n = r
    · subst e
      rw [if_neg (by omega), if_pos rfl, if_pos rfl]
    · rw [if_pos ⟨hn, e⟩, if_neg e, if_neg e]
      by_cases e2 : n = i
      · rw [if_pos e2, if_pos e2, if_neg e]
      · rw [if_neg e2, if_neg e2, if_neg e]
  have hT : ∀ n, n < M.length → (if n = i then r else n) < M.length := fun n hn => by split <;> omega
  -- zero columns of the leading row
  have hf0 : ∀ c, c < k → gd (led1 P k i M) c = 0 := by
    intro c hc
    have : gd (gr M i) c = 0 := by
      by_cases e : gd ld c = 0
      · exact h.free c hc e i hi hil
      · obtain ⟨n, h1, h2, h3, h4⟩ := h.led c hc e
        exact h4 i hil (by omega)
    rw [led1, scl_gd, this]; simp
  refine ⟨hlen.trans h.len, ?_, by rw [hlen]; omega, by rw [List.length_set]; exact h.ldl, ?_, ?_, ?_, ?_, ?_, ?_⟩
  · intro n hn
    rw [hlen] at hn
    rw [hS n hn]
    split
    · exact ⟨hfl, hfe⟩
    · have := h.row _ (hT n hn)
      exact ⟨by rw [el1_len]; exact this.1, el1_els hP _ _ this.2⟩
  · intro c hc h0 m hm1 hm2
    rw [hlen] at hm2
    rw [gd_set _ _ _ _ (by rw [h.ldl]; omega)] at h0
    by_cases e : c = k
    · rw [if_pos e] at h0; omega
    · rw [if_neg e] at h0
      rw [hS m hm2, if_neg (by omega)]
      have hr := h.row _ (hT m hm2)
      rw [el1_gd0 hP k (by rw [hfl]; exact hr.1.symm) hr.2 c (hf0 c (by omega))]
      refine h.free c (by omega) h0 _ ?_ (hT m hm2)
      split <;> omega
  · intro c hc h0
    rw [gd_set _ _ _ _ (by rw [h.ldl]; omega)] at h0 ⊢
    by_cases e : c = k
    · subst e
      rw [if_pos rfl]
      refine ⟨r, rfl, by omega, ?_, fun m hm hmr => ?_⟩
      · rw [hS r hrl, if_pos rfl]; exact hfk
      · rw [hlen] at hm
        rw [hS m hm, if_neg hmr]
        exact el1_gdk c (by rw [hfl]; exact (h.row _ (hT m hm)).1.symm) hfk
    · rw [if_neg e] at h0 ⊢
      obtain ⟨n, h1, h2, h3, h4⟩ := h.led c (by omega) h0
      refine ⟨n, h1, by omega, ?_, fun m hm hmn => ?_⟩
      · rw [hS n (by omega), if_neg (by omega), if_neg (by omega)]
        have hr := h.row n (by omega)
        rw [el1_gd0 hP k (by rw [hfl]; exact hr.1.symm) hr.2 c (hf0 c (by omega))]
        exact h3
      · rw [hlen] at hm
        rw [hS m hm]
        split
        · exact hf0 c (by omega)
        · have hr := h.row _ (hT m hm)
          rw [el1_gd0 hP k (by rw [hfl]; exact hr.1.symm) hr.2 c (hf0 c (by omega))]
          refine h4 _ (hT m hm) ?_
          split <;> omega
  · intro c d hc hd e1 e2
    rw [gd_set _ _ _ _ (by rw [h.ldl]; omega)] at e1 e2
    rw [gd_set _ _ _ _ (by rw [h.ldl]; omega)] at e1
    by_cases ec : c = k
    · by_cases ed : d = k
      · omega
      · rw [if_pos ec, if_neg ed] at e1
        obtain ⟨n, h1, h2, _⟩ := h.led d (by omega) (by omega)
        omega
    · by_cases ed : d = k
      · rw [if_neg ec, if_pos ed] at e1
        obtain ⟨n, h1, h2, _⟩ := h.led c (by omega) (by omega)
        omega
      · rw [if_neg ec, if_neg ed] at e1
        rw [if_neg ec] at e2
        exact h.inj c d (by omega) (by omega) e1 e2
  · intro c hc
    rw [gd_set _ _ _ _ (by rw [h.ldl]; omega), if_neg (by omega)]
    exact h.rest c (by omega)
  · intro n hn
    by_cases e : n = r
    · refine ⟨k, by omega, ?_⟩
      rw [gd_set _ _ _ _ (by rw [h.ldl]; omega), if_pos rfl, e]
    · obtain ⟨c, h1, h2⟩ := h.all n (by omega)
      refine ⟨c, by omega, ?_⟩
      rw [gd_set _ _ _ _ (by rw [h.ldl]; omega), if_neg (by omega)]
      exact h2
  · intro y
    rw [← h.sol y, hlen]
    -- the leading row
    have hlead : P ∣ dh (C + 1) (led1 P k i M) y ↔ P ∣ dh (C + 1) (gr M i) y := by
      have h1 := dh_scl (P := P) (C + 1) (inv P (gd (gr M i) k)) (gr M i) y
      constructor
      · intro h2
        have h3 := Int.dvd_sub h2 h1
        have e : dh (C + 1) (led1 P k i M) y - (dh (C + 1) (scl P (inv P (gd (gr M i) k)) (gr M i)) y - inv P (gd (gr M i) k) * dh (C + 1) (gr M i) y) = inv P (gd (gr M i) k) * dh (C + 1) (gr M i) y := by
          unfold led1; omega
        rw [e] at h3
        rcases pr_euclid hp _ _ h3 with h4 | h4
        · exfalso
          have h5 := inv_mul hp _ hik
          rw [Int.mul_emod, Int.emod_eq_zero_of_dvd h4] at h5
          simp at h5
        · exact h4
      · intro h2
        have h3 := Int.dvd_add h1 (Int.dvd_mul_of_dvd_right h2 : P ∣ inv P (gd (gr M i) k) * dh (C + 1) (gr M i) y)
        have e : dh (C + 1) (scl P (inv P (gd (gr M i) k)) (gr M i)) y - inv P (gd (gr M i) k) * dh (C + 1) (gr M i) y + inv P (gd (gr M i) k) * dh (C + 1) (gr M i) y = dh (C + 1) (led1 P k i M) y := by
          unfold led1; omega
        rwa [e] at h3
    have hoth : P ∣ dh (C + 1) (led1 P k i M) y → ∀ n, n < M.length → n ≠ r → (P ∣ dh (C + 1) (gr (leadM P k r i M) n) y ↔ P ∣ dh (C + 1) (gr M (if n = i then r else n)) y) := by
      intro hf n hn hnr
      rw [hS n hn, if_neg hnr]
      have hr := h.row _ (hT n hn)
      have := el1_dh (P := P) k (f := led1 P k i M) (row := gr M (if n = i then r else n)) y (by rw [hfl]; exact hr.1.symm) (by rw [hr.1]; exact hf)
      rwa [hr.1] at this
    constructor
    · intro h1
      have hf := h1 r hrl
      rw [hS r hrl, if_pos rfl] at hf
      intro n hn
      by_cases e : n = i
      · subst e; exact hlead.1 hf
      · by_cases e2 : n = r
        · subst e2
          have := (hoth hf i hil (by omega)).1 (h1 i hil)
          rwa [if_pos rfl] at this
        · have := (hoth hf n hn e2).1 (h1 n hn)
          rwa [if_neg e] at this
    · intro h1 n hn
      have hf := hlead.2 (h1 i hil)
      by_cases e2 : n = r
      · subst e2
        rw [hS n hn, if_pos rfl]; exact hf
      · exact (hoth hf n hn e2).2 (h1 _ (hT n hn))

theorem GE.start {P : Int} {C : Nat} {M : List (List Int)} (h : ∀ i, i < M.length → (gr M i).length = C + 1 ∧ els P (gr M i) = true) : GE P C M M 0 0 (zeros 32) where
  len := rfl
  row := h
  rk := Nat.zero_le _
  ldl := by simp [zeros]
  free := fun c hc => by omega
  led := fun c hc => by omega
  inj := fun c d hc => by omega
  rest := fun c _ => by
    by_cases e : c < 32
    · rw [gd_lt (by simpa [zeros] using e)]; simp only [zeros, List.getElem_replicate]
    · exact gd_ge (by simp [zeros]; omega)
  all := fun n hn => by omega
  sol := fun y => Iff.rfl
/-- the solution -/
def solX (C : Nat) (M : List (List Int)) (ld : List Int) : List Int := (List.range C).map fun c => if gd ld c = 0 then 0 else gd (gr M (gd ld c - 1).toNat) C
theorem gd_app1 (x : List Int) (v : Int) (k : Nat) : gd (x ++ [v]) k = if k < x.length then gd x k else if k = x.length then v else 0 := by
  unfold gd
  rw [List.getElem?_append]
  split
  · rfl
  · split
    · rename_i h; subst h; simp
    · rename_i h1 h2
      have : k - x.length ≠ 0 := by omega
      cases e : k - x.length with
      | zero => omega
      | succ j => simp
theorem GE.zero {P : Int} {C r : Nat} {M0 M : List (List Int)} {ld : List Int} (h : GE P C M0 M r C ld) {m : Nat} (hm : r ≤ m) (hm2 : m < M.length) : ∀ c, c < C → gd (gr M m) c = 0 := by
  intro c hc
  by_cases e : gd ld c = 0
  · exact h.free c hc e m hm hm2
  · obtain ⟨n, h1, h2, h3, h4⟩ := h.led c hc e
    exact h4 m hm2 (by omega)
theorem dh_last {C : Nat} {row x : List Int} (v : Int) (hx : x.length = C) : dh (C + 1) row (x ++ [v]) = sm C (fun k => gd row k * gd x k) + gd row C * v := by
  unfold dh
  simp only [sm]
  rw [gd_app1, if_neg (by omega), if_pos hx.symm]
  congr 1
  exact sm_ext fun k hk => by rw [gd_app1, if_pos (by omega)]
theorem GE.no {P : Int} {C r : Nat} {M0 M : List (List Int)} {ld : List Int} (hP : 2 ≤ P) (h : GE P C M0 M r C ld) {m : Nat} (hm : r ≤ m) (hm2 : m < M.length) (hne : gd (gr M m) C ≠ 0) :
    ¬ ∃ x : List Int, x.length = C ∧ ∀ i, i < M0.length → P ∣ dh (C + 1) (gr M0 i) (x ++ [-1]) := by
  rintro ⟨x, hx, hs⟩
  have h1 := (h.sol _).2 hs m hm2
  rw [dh_last _ hx, sm_ext (g := fun _ => 0) fun k hk => by rw [h.zero hm hm2 k hk]; simp, sm_zero] at h1
  have h2 := el_t (els_gd hP (h.row m hm2).2 C)
  have h3 : P ∣ gd (gr M m) C := by
    have := Int.dvd_neg.2 h1
    have e : -(0 + gd (gr M m) C * -1) = gd (gr M m) C := by omega
    rwa [e] at this
  have h4 := Int.emod_eq_zero_of_dvd h3
  rw [Int.emod_eq_of_lt h2.1 h2.2] at h4
  exact hne h4
theorem solX_len (C : Nat) (M : List (List Int)) (ld : List Int) : (solX C M ld).length = C := by simp [solX]
theorem solX_gd {C : Nat} {M : List (List Int)} {ld : List Int} {c : Nat} (h : c < C) : gd (solX C M ld) c = if gd ld c = 0 then 0 else gd (gr M (gd ld c - 1).toNat) C := by
  rw [gd_lt (by rw [solX_len]; exact h)]; simp [solX]
theorem GE.yes {P : Int} {C r : Nat} {M0 M : List (List Int)} {ld : List Int} (hP : 2 ≤ P) (h : GE P C M0 M r C ld) (h0 : ∀ m, r ≤ m → m < M.length → gd (gr M m) C = 0) :
    els P (solX C M ld) = true ∧ ∀ i, i < M0.length → P ∣ dh (C + 1) (gr M0 i) (solX C M ld ++ [-1]) := by
  constructor
  · refine els_of fun v hv => ?_
    obtain ⟨c, hc, rfl⟩ := List.mem_map.1 hv
    rw [List.mem_range] at hc
    split
    · exact el_mk (by omega)
    · rename_i e
      obtain ⟨n, h1, h2, _⟩ := h.led c hc e
      have : (gd ld c - 1).toNat = n := by omega
      rw [this]
      exact els_gd hP (h.row n (by have := h.rk; omega)).2 C
  · refine (h.sol _).1 fun m hm => ?_
    rw [dh_last _ (solX_len _ _ _)]
    by_cases hmr : r ≤ m
    · rw [sm_ext (g := fun _ => 0) fun k hk => by rw [h.zero hmr hm k hk]; simp, sm_zero, h0 m hmr hm]
      exact ⟨0, by simp⟩
    · obtain ⟨c, hc, hl⟩ := h.all m (by omega)
      have hval : gd (solX C M ld) c = gd (gr M m) C := by
        rw [solX_gd hc, if_neg (by omega)]
        congr 2
        omega
      obtain ⟨n, h1, h2, h3, h4⟩ := h.led c hc (by omega)
      have hn : n = m := by omega
      subst hn
      rw [sm_one c hc, h3, hval]
      · exact ⟨0, by omega⟩
      · intro k hk hkc
        rw [solX_gd hk]
        by_cases e : gd ld k = 0
        · rw [if_pos e]; simp
        · obtain ⟨n', h1', h2', h3', h4'⟩ := h.led k hk e
          have : n ≠ n' := fun e' => by
            subst e'
            exact hkc (h.inj k c hk hc (by omega) e)
          rw [h4' n hm this]; simp
end Go.Proofs.YtoiabanpnkpbhaaGreatDoor

namespace Go.Proofs.YtoiabanpnkpbhaaGreatDoor
open Go.RowKit

/-- Block b begins with a list of ints. -/
def RB (w : World) (b : Nat) (l : List Int) : Prop := ∃ tl : List Value, w.heap[b]? = some (.cells (l.map (Value.int .i64) ++ tl).toArray 3 (0, 0))
theorem RB.lt {w : World} {b : Nat} {l : List Int} (h : RB w b l) : b < w.heap.size := by obtain ⟨tl, h⟩ := h; exact heap_of_cells h
theorem RB.cell {w : World} {b : Nat} {l : List Int} (h : RB w b l) {j : Nat} (hj : j < l.length) : w.cell? ⟨b, j, none⟩ = some (.int .i64 l[j]) := by
  obtain ⟨tl, h⟩ := h
  rw [cell_of_row w b j _ _ (0, 0) h]
  rw [List.getElem?_toArray, List.getElem?_append_left (by simpa using hj)]
  simp [hj]
theorem RB.frozen {w : World} {b : Nat} {l : List Int} (h : RB w b l) (j : Nat) : w.frozen? ⟨b, j, none⟩ = false := by obtain ⟨tl, h⟩ := h; exact frozen_of_row w b j _ _ h
theorem RB.kept {w w' : World} {b : Nat} {l : List Int} {r : Option Nat} (h : RB w b l) (hg : w.grownBy w' r) (hne : some b ≠ r) : RB w' b l := by
  have hlt := h.lt
  obtain ⟨tl, h⟩ := h; exact ⟨tl, (hg.block b hlt hne).trans h⟩
theorem RB.below {w w' : World} {b B : Nat} {l : List Int} (h : RB w b l) (hb : Below B w w') (hB : b < B) : RB w' b l := by
  obtain ⟨tl, h⟩ := h; exact ⟨tl, (hb.block b hB).trans h⟩
theorem RB.set {w : World} {b : Nat} {l : List Int} (h : RB w b l) {j : Nat} (hj : j < l.length) (x : Int) : RB (w.setCell ⟨b, j, none⟩ (.int .i64 x)) b (l.set j x) := by
  obtain ⟨tl, h⟩ := h
  refine ⟨tl, ?_⟩
  rw [heap_setCell_same w b j _ _ _ h]
  simp [List.map_set, hj]
theorem RB.setO {w : World} {b : Nat} {l : List Int} (h : RB w b l) {p : Addr} (hp : p.block ≠ b) (u : Value) : RB (w.setCell p u) b l := by
  obtain ⟨tl, h⟩ := h
  exact ⟨tl, (heap_setCell_other w p b u (by omega)).trans h⟩
theorem RB.alloc {w : World} {b : Nat} {l : List Int} (h : RB w b l) (o : Obj) : RB (w.alloc o) b l := h.kept (World.grownBy_alloc w o none) (by simp)
theorem RB.drew {w : World} {b : Nat} {l : List Int} (h : RB w b l) : RB w.drew b l := h
theorem RB.si {w : World} {b c : Nat} {l : List Int} (h : RB w b l) (hr : ∀ x ∈ l, i64r x) (hc : l.length ≤ c) (hm : c ≤ 9223372036854775807) : SI w (.slice (some ⟨b, 0, none⟩) l.length c) l :=
  ⟨some ⟨b, 0, none⟩, c, rfl, hc, hm, hr, fun _ => ⟨b, 0, rfl, h.lt, fun j hj => by rw [Nat.zero_add]; exact h.cell hj⟩⟩
theorem RB.of_own {w : World} {base g n cap : Nat} {l : List Int} {xs : List Value} (h : w.ownsRow base 3 1 (.slice (some ⟨g, 0, none⟩) n cap) n xs) (hx : xs = l.map (Value.int .i64)) : RB w g l ∧ base ≤ g ∧ n ≤ cap ∧ cap ≤ maxLen := by
  rcases h.2 with ⟨e, _⟩ | ⟨g', cap', cur, e, hb, hg, hnc, hcm, hcs, htake⟩
  · cases e
  · injection e with e1 e2 e3
    injection e1 with e1
    injection e1 with e1
    subst e1 e3
    refine ⟨⟨cur.toList.drop (n * 1), ?_⟩, hb, hnc, hcm⟩
    rw [hg, ← hx, ← htake, List.take_append_drop]

/-- rounds of AddTimes -/
def AtRelR (P : Int) (w : World) (b o : Nat) (to : List Int) (x : Int) (l : List Int) (i : Value) (wr : World) : Prop :=
  ∃ k : Nat, k ≤ l.length ∧ i = .int .i64 k ∧ RB wr b (addT P to o x (l.take k)) ∧ w.grownBy wr (some b)
set_option maxHeartbeats 2000000 in
theorem addTimesR_any (P : Int) (b o n c : Nat) (to : List Int) (x : Int) (l : List Int) (v : Value) (w : World) (hP : 2 ≤ P ∧ P ≤ 65521) (hx : 0 ≤ x ∧ x < P) (hto : els P to = true) (hl : els P l = true)
    (hb : RB w b to) (h : SI w v l) (hne : ∀ k, v.ownBlock = some k → k ≠ b) (hn : l.length ≤ n) (ho : o + l.length ≤ to.length) :
    Calls Tryz.prog 49 #[.int .i64 P, .slice (some ⟨b, o, none⟩) n c, .int .i64 x, v] w fun e w' => (∃ v, e = .returned v) ∧ RB w' b (addT P to o x l) ∧ w.grownBy w' (some b) := by
  obtain ⟨A, c', rfl, hcc, hm, hr, ha⟩ := h
  have HA := Lib.hid ha
  have HB := Lib.hid hb
  have HL := Lib.hid hl
  have HTO := Lib.hid hto
  clear hr ha hb hl hto
  go_enter Tryz.func49, Tryz.ntmps49
  go_wp2_with fail
  go_loopw [12] (fun i wr => AtRelR P w b o to x l i wr) (fun i _ => l.length - (intOf i).toNat)
  case atStart => exact ⟨0, Nat.zero_le _, rfl, by rw [List.take_zero, addT_zero]; exact HB.out, grownBy_refl _ _⟩
  case round =>
    obtain ⟨k, hk, rfl, hbk, hg⟩ := hrel
    have HBK := Lib.hid hbk
    have HG := Lib.hid hg
    have hz := hg.size
    clear hbk hg
    by_cases hlt : k < l.length
    · obtain ⟨b2, off, rfl, hb2, hcell⟩ := HA.out (by omega)
      have hck := HG.out.cell (hcell k hlt) (fun e => hne b2 rfl (by injection e))
      have hlen2 : (addT P to o x (l.take k)).length = to.length := addT_len _ _ _ _ _
      have htk := HBK.out.cell (j := o + k) (by rw [hlen2]; omega)
      have hfk := HBK.out.frozen (o + k)
      have hel := el_t (els_gd hP.1 (addT_els hP.1 HTO.out o x (l.take k)) (o + k))
      have hel2 := el_t (els_all HL.out _ (List.getElem_mem hlt))
      rw [← gd_lt] at htk
      obtain ⟨t, ht⟩ : ∃ t, t = gd (addT P to o x (l.take k)) (o + k) := ⟨_, rfl⟩
      rw [← ht] at htk hel
      obtain ⟨a, ha⟩ : ∃ a, a = l[k] := ⟨_, rfl⟩
      rw [← ha] at hck hel2
      have HST : Hid (addT P to o x (l.take (k + 1)) = (addT P to o x (l.take k)).set (o + k) ((t + x * a) % P)) := by
        show _ = _
        rw [ht, ha]; exact addT_step P to o x l k hlt ho
      have hm1 : 0 ≤ x * a % P := Int.emod_nonneg _ (by omega)
      have hm2 : x * a % P < P := Int.emod_lt_of_pos _ (by omega)
      have HE : Hid ((t + x * a % P) % P = (t + x * a) % P) := by show _ = _; rw [Int.add_emod, Int.emod_emod_of_dvd _ (Int.dvd_refl P), ← Int.add_emod]
      have hd1 : decide ((k : Int) < (l.length : Int)) = true := decide_eq_true (by omega)
      have hd2 : decide (k < l.length) = true := decide_eq_true hlt
      have z1 : (0 : Int) ≤ (k : Int) := by omega
      have z2 : (k : Int) < (n : Int) := by omega
      clear hcell ht ha hlen2
      go_wp2_with fail
      go_region_with (first | (go_at_call 53; refine (mul_any _ _ _ _ hP hx hel2).mono ?_; rintro e w' ⟨rfl, rfl⟩) | (go_at_call 55; refine (add_any _ _ _ _ hP hel ⟨hm1, hm2⟩).mono ?_; rintro e w' ⟨rfl, rfl⟩))
      all_goals
        go_wp2_with fail
        go_roundw
        case rel =>
          have hs := grownBy_setCell (p := ⟨b, o + k, none⟩) HG.out (.inl rfl) (.int .i64 ((t + x * a) % P))
          exact ⟨k + 1, by omega, by go_num, by rw [HST.out]; exact HBK.out.set (by rw [addT_len]; omega) _, ⟨hs.os, hs.tape, hs.output, hs.size, hs.block⟩⟩
        case measure => simp [intOf]; omega
    · have hkk : k = l.length := by omega
      have hd1 : decide ((k : Int) < (l.length : Int)) = false := decide_eq_false (by omega)
      have hd2 : decide (k < l.length) = false := decide_eq_false hlt
      have HFIN : Hid (RB wr b (addT P to o x l)) := by show RB _ _ _; have := HBK.out; rwa [hkk, List.take_length] at this
      clear hkk
      go_wp2_with fail
      go_end0
      exact ⟨⟨_, rfl⟩, HFIN.out, HG.out⟩
end Go.Proofs.YtoiabanpnkpbhaaGreatDoor
