/- Joined: Up Kp Rm Sc Wr. -/
import Derived.Lib.Hide
import Derived.Deep.RegionHeld3
import Derived.Deep.DeepCutAuto
import Derived.Deep.QuietTactic
import Derived.BigQuiet
import Derived.Test.YtoiabanpnkpbhaaGreatDoorY08
import Derived.Test.YtoiabanpnkpbhaaGreatDoorY05
import Derived.Test.YtoiabanpnkpbhaaGreatDoorY02
import Derived.Test.YtoiabanpnkpbhaaGreatDoorY06
namespace Go.Proofs.YtoiabanpnkpbhaaGreatDoor

theorem sm_split (n m : Nat) (f : Nat → Int) : sm (n + m) f = sm n f + sm m (fun j => f (n + j)) := by
  induction m with
  | zero => simp [sm]
  | succ m ih => rw [← Nat.add_assoc]; simp only [sm]; rw [ih]; omega
theorem sm_shift (n : Nat) (f : Nat → Int) : sm (n + 1) f = f 0 + sm n (fun j => f (j + 1)) := by
  rw [Nat.add_comm, sm_split]
  simp only [sm]
  have : (fun j => f (1 + j)) = fun j => f (j + 1) := by funext j; rw [Nat.add_comm]
  rw [this]; omega
theorem sm_scale (a : Int) (n : Nat) (f : Nat → Int) : sm n (fun j => a * f j) = a * sm n f := by
  induction n with
  | zero => simp [sm]
  | succ n ih => simp only [sm, ih, Int.mul_add]
theorem ez_sm (l : List Int) (x : Int) : ez l x = sm l.length fun j => gd l j * x ^ j := by
  induction l with
  | nil => rfl
  | cons c l ih =>
    rw [ez_cons, List.length_cons, sm_shift, ih]
    have h0 : gd (c :: l) 0 * x ^ 0 = c := by simp [gd]
    rw [h0]
    congr 1
    rw [← sm_scale]
    refine sm_ext fun k _ => ?_
    have : gd (c :: l) (k + 1) = gd l k := by simp [gd]
    rw [this, Int.pow_succ, Int.mul_left_comm, Int.mul_comm x]
/-- powers -/
def pw (P x : Int) (n : Nat) : List Int := (List.range n).map fun j => x ^ j % P
theorem pw_len (P x : Int) (n : Nat) : (pw P x n).length = n := by simp [pw]
theorem pw_gd {P x : Int} {n j : Nat} (h : j < n) : gd (pw P x n) j = x ^ j % P := by
  rw [gd_lt (by rw [pw_len]; exact h)]; simp [pw]
theorem pw_els {P : Int} (hP : 2 ≤ P) (x : Int) (n : Nat) : els P (pw P x n) = true := els_of fun y hy => by
  obtain ⟨j, _, rfl⟩ := List.mem_map.1 hy
  exact el_mod hP _
def ngl (P y : Int) (l : List Int) : List Int := l.map fun t => (0 - y * t % P + P) % P
/-- the row of a known value, its right side last -/
def krow (P : Int) (a e : Nat) (t : Int × Int) : List Int := pw P t.1 a ++ ngl P t.2 (pw P t.1 e) ++ [t.2 * (t.1 ^ e % P) % P]
theorem gd_app (a b : List Int) (k : Nat) : gd (a ++ b) k = if k < a.length then gd a k else gd b (k - a.length) := by
  unfold gd
  rw [List.getElem?_append]
  split <;> rfl
theorem mod_dvd (P a : Int) : P ∣ a % P - a := by
  have : P ∣ a - a % P := mod_dvd' _ _
  have h := Int.dvd_neg.2 this
  have e : -(a - a % P) = a % P - a := by omega
  rwa [e] at h
theorem dvd_of_eq' {P a b : Int} (h : P ∣ a) (e : a = b) : P ∣ b := e ▸ h
theorem krow_dh (P : Int) (a e : Nat) (t : Int × Int) (s : List Int) (hs : s.length = a + e) :
    P ∣ dh (a + e + 1) (krow P a e t) (s ++ [-1]) - (ez (s.take a) t.1 - t.2 * ez (s.drop a ++ [1]) t.1) := by
  rw [dh_last _ hs]
  have hA : ez (s.take a) t.1 = sm a fun j => gd s j * t.1 ^ j := by
    rw [ez_sm, List.length_take, Nat.min_eq_left (by omega)]
    exact sm_ext fun k hk => by rw [gd_take, if_pos hk]
  have hB : ez (s.drop a ++ [1]) t.1 = sm e (fun j => gd s (a + j) * t.1 ^ j) + t.1 ^ e := by
    rw [ez_sm]
    have : (s.drop a ++ [1]).length = e + 1 := by simp; omega
    rw [this]
    simp only [sm]
    have hd : (s.drop a).length = e := by simp; omega
    congr 1
    · refine sm_ext fun k hk => ?_
      rw [gd_app, if_pos (by omega)]
      congr 1
      unfold gd; rw [List.getElem?_drop]
    · rw [gd_app, if_neg (by omega), hd, Nat.sub_self]
      simp [gd]
  have hlen : (pw P t.1 a ++ ngl P t.2 (pw P t.1 e)).length = a + e := by simp [pw_len, ngl]
  have hC : gd (krow P a e t) (a + e) = t.2 * (t.1 ^ e % P) % P := by
    unfold krow
    rw [gd_app, if_neg (by omega), hlen, Nat.sub_self]; simp [gd]
  rw [hC, sm_split]
  -- the three parts
  have p1 : P ∣ sm a (fun k => gd (krow P a e t) k * gd s k) - (sm a (fun _ => 0) + 1 * sm a (fun j => gd s j * t.1 ^ j)) := by
    refine sm_lin fun k hk => ?_
    have : gd (krow P a e t) k = t.1 ^ k % P := by
      unfold krow
      rw [gd_app, if_pos (by omega), gd_app, if_pos (by rw [pw_len]; exact hk), pw_gd hk]
    rw [this]
    refine dvd_of_eq' (dvl (k := gd s k) (mod_dvd P (t.1 ^ k))) ?_
    rw [Int.sub_mul, Int.mul_comm (t.1 ^ k)]; omega
  have p2 : P ∣ sm e (fun j => gd (krow P a e t) (a + j) * gd s (a + j)) - (sm e (fun _ => 0) + (-t.2) * sm e (fun j => gd s (a + j) * t.1 ^ j)) := by
    refine sm_lin fun k hk => ?_
    have : gd (krow P a e t) (a + k) = (0 - t.2 * (t.1 ^ k % P) % P + P) % P := by
      unfold krow
      rw [gd_app, if_pos (by omega), gd_app, if_neg (by rw [pw_len]; omega), pw_len]
      have : a + k - a = k := by omega
      rw [this, gd_lt (by simpa [ngl, pw_len] using hk)]
      simp [ngl, pw]
    rw [this]
    obtain ⟨q, hq⟩ := neg_mod (P := P) (a := t.2 * (t.1 ^ k % P) % P)
    rw [hq]
    have h1 := mod_dvd P (t.2 * (t.1 ^ k % P))
    have h2 := dvr (k := t.2) (mod_dvd P (t.1 ^ k))
    have h3 := dvl (k := -gd s (a + k)) (Int.dvd_add h1 h2)
    have h4 := Int.dvd_add h3 (Int.dvd_mul_right P (q * gd s (a + k)))
    refine dvd_of_eq' h4 ?_
    rw [Int.mul_sub, Int.add_mul, Int.sub_mul, Int.sub_mul, Int.add_mul, Int.mul_assoc P q]
    have e1 : -t.2 * (gd s (a + k) * t.1 ^ k) = t.2 * t.1 ^ k * -gd s (a + k) := by
      rw [Int.neg_mul, Int.mul_neg, Int.mul_assoc, Int.mul_comm (t.1 ^ k)]
    rw [e1]
    simp only [Int.mul_neg, Int.neg_mul]
    omega
  have p3 : P ∣ t.2 * (t.1 ^ e % P) % P - t.2 * t.1 ^ e := by
    have h1 := mod_dvd P (t.2 * (t.1 ^ e % P))
    have h2 := dvr (k := t.2) (mod_dvd P (t.1 ^ e))
    refine dvd_of_eq' (Int.dvd_add h1 h2) ?_
    rw [Int.mul_sub]; omega
  rw [hA, hB]
  rw [sm_zero] at p1 p2
  refine dvd_of_eq' (Int.dvd_sub (Int.dvd_add p1 p2) p3) ?_
  rw [Int.mul_add, Int.neg_mul]
  omega

/-- the numbers of the known cells that do not have the polynomial's value -/
def wrk (P : Int) (K : List (Int × Int)) (p : List Int) : List (Int × Int) := K.filter fun t => !(val P p t.1 == t.2)
def wrg (P : Int) (l : List (Int × Bool)) (p : List Int) : List Int := (wrk P (kn l) p).map Prod.fst
/-- a polynomial near enough -/
structure Good (P : Int) (K : List (Int × Int)) (k e : Nat) (p : List Int) : Prop where
  len : p.length ≤ k
  els : els P p = true
  trm : trim p = p
  few : (wrk P K p).length ≤ e
/-- points: different, values in the field -/
structure Pts (P : Int) (K : List (Int × Int)) : Prop where
  dif : K.Pairwise fun a b => ¬ P ∣ a.1 - b.1
  val : ∀ t ∈ K, 0 ≤ t.2 ∧ t.2 < P
def Sol (P : Int) (K : List (Int × Int)) (a e : Nat) (s : List Int) : Prop := s.length = a + e ∧ ∀ t ∈ K, P ∣ dh (a + e + 1) (krow P a e t) (s ++ [-1])

theorem val_dvd {P y : Int} {p : List Int} {x : Int} (h : val P p x = y) : P ∣ ez p x - y := by
  rw [val_ez] at h
  rw [← h]
  have := Int.dvd_neg.2 (mod_dvd P (ez p x))
  exact dvd_of_eq' this (by omega)
/-- the locator: the product over the points, times a power -/
def locz : List Int → Nat → List Int
  | [], n => List.replicate n 0 ++ [1]
  | a :: X, n => az_add (0 :: locz X n) (zmul (-a) (locz X n))
theorem locz_len (X : List Int) (n : Nat) : (locz X n).length = X.length + n + 1 := by
  induction X with
  | nil => simp [locz]
  | cons a X ih => simp only [locz, add_len, zmul_len, List.length_cons, ih]; omega
theorem add_gd (l m : List Int) (k : Nat) : gd (az_add l m) k = gd l k + gd m k := by
  induction l generalizing m k with
  | nil => cases m <;> simp [az_add, gd]
  | cons c l ih => cases m with
    | nil => simp [az_add, gd]
    | cons d m => cases k with
      | zero => simp [az_add, gd]
      | succ k => have := ih m k; simpa [az_add, gd] using this
theorem zmul_gd (a : Int) (l : List Int) (k : Nat) : gd (zmul a l) k = a * gd l k := by
  unfold gd zmul
  rw [List.getElem?_map]
  cases l[k]? <;> simp
theorem locz_last (X : List Int) (n : Nat) : gd (locz X n) (X.length + n) = 1 := by
  induction X with
  | nil => simp [locz, gd]
  | cons a X ih =>
    have e1 : (a :: X).length + n = (X.length + n) + 1 := by simp; omega
    rw [locz, add_gd, zmul_gd, e1, gd_ge (l := locz X n) (by rw [locz_len]; omega)]
    have : gd (0 :: locz X n) (X.length + n + 1) = gd (locz X n) (X.length + n) := by simp [gd]
    rw [this, ih]; omega
theorem locz_zero (X : List Int) (n : Nat) : ∀ x ∈ X, ez (locz X n) x = 0 := by
  induction X with
  | nil => intro x hx; simp at hx
  | cons a X ih =>
    intro x hx
    have e : ez (locz (a :: X) n) x = (x - a) * ez (locz X n) x := by
      rw [locz, add_ez, zmul_ez, ez_cons, Int.sub_mul, Int.neg_mul]; omega
    rw [e]
    rcases List.mem_cons.1 hx with h | h
    · subst h; simp
    · rw [ih x h]; simp
theorem ez_modm {P : Int} (l : List Int) (x : Int) : P ∣ ez (l.map (· % P)) x - ez l x := by
  induction l with
  | nil => exact ⟨0, by simp [ez]⟩
  | cons c l ih =>
    rw [List.map_cons, ez_cons, ez_cons]
    refine dvd_of_eq' (Int.dvd_add (mod_dvd P c) (dvr (k := x) ih)) ?_
    rw [Int.mul_sub]; omega
theorem ez_app (l m : List Int) (x : Int) : ez (l ++ m) x = ez l x + x ^ l.length * ez m x := by
  induction l with
  | nil => simp [ez]
  | cons c l ih =>
    rw [List.cons_append, ez_cons, ez_cons, ih, List.length_cons, Int.pow_succ, Int.mul_add, Int.mul_comm (x ^ l.length) x, Int.mul_assoc]; omega
theorem ez_zeros (n : Nat) (x : Int) : ez (zeros n) x = 0 := by
  unfold zeros
  induction n with
  | zero => rfl
  | succ n ih => rw [List.replicate_succ, ez_cons, ih]; simp
theorem last_split (l : List Int) (n : Nat) (h : l.length = n + 1) : l = l.take n ++ [gd l n] := by
  have e : l.take (n + 1) = l := List.take_of_length_le (by omega)
  have e2 : l.take (n + 1) = l.take n ++ [gd l n] := by rw [List.take_succ_eq_append_getElem (by omega), gd_lt (by omega)]
  exact e.symm.trans e2

theorem good_sol {P : Int} {K : List (Int × Int)} {k e : Nat} {p : List Int} (hP : 2 ≤ P) (hg : Good P K k e p) :
    ∃ s, Sol P K (k + e) e s ∧ els P s = true := by
  have hX := hg.few
  generalize hXe : (wrk P K p).map Prod.fst = X at *
  have hXl : X.length = (wrk P K p).length := by rw [← hXe]; simp
  have hLl : (locz X (e - X.length)).length = e + 1 := by rw [locz_len]; omega
  have hLs := last_split _ e hLl
  have hl1 : gd (locz X (e - X.length)) e = 1 := by
    have := locz_last X (e - X.length)
    have e1 : X.length + (e - X.length) = e := by omega
    rwa [e1] at this
  rw [hl1] at hLs
  have hne : locz X (e - X.length) ≠ [] := fun h => by rw [h] at hLl; simp at hLl
  have hql : (mulz p (locz X (e - X.length))).length ≤ k + e := by
    rw [mulz_len _ _ hne]
    have := hg.len
    split <;> omega
  refine ⟨((mulz p (locz X (e - X.length))).map (· % P) ++ zeros (k + e - (mulz p (locz X (e - X.length))).length)) ++ ((locz X (e - X.length)).take e).map (· % P), ⟨?_, fun t ht => ?_⟩, ?_⟩
  · simp [zeros, hLl]; omega
  · have hq0 : ((mulz p (locz X (e - X.length))).map (· % P) ++ zeros (k + e - (mulz p (locz X (e - X.length))).length)).length = k + e := by simp [zeros]; omega
    have hk := krow_dh P (k + e) e t (((mulz p (locz X (e - X.length))).map (· % P) ++ zeros (k + e - (mulz p (locz X (e - X.length))).length)) ++ ((locz X (e - X.length)).take e).map (· % P)) (by
      rw [List.length_append, hq0]; simp [hLl])
    rw [List.take_left' hq0, List.drop_left' hq0] at hk
    -- both values
    have hq := ez_modm (P := P) (mulz p (locz X (e - X.length))) t.1
    have hL := ez_modm (P := P) ((locz X (e - X.length)).take e) t.1
    rw [ez_app _ (zeros _), ez_zeros, Int.mul_zero, Int.add_zero] at hk
    have hLe : ez (locz X (e - X.length)) t.1 = ez ((locz X (e - X.length)).take e) t.1 + t.1 ^ e * 1 := by
      conv => lhs; rw [hLs]
      rw [ez_app]
      have : ((locz X (e - X.length)).take e).length = e := by simp [hLl]
      rw [this]; simp [ez]
    have hLe2 : ez (((locz X (e - X.length)).take e).map (· % P) ++ [1]) t.1 = ez (((locz X (e - X.length)).take e).map (· % P)) t.1 + t.1 ^ e * 1 := by
      rw [ez_app]
      have : (((locz X (e - X.length)).take e).map (· % P)).length = e := by simp [hLl]
      rw [this]; simp [ez]
    rw [hLe2] at hk
    rw [mulz_ez] at hq
    -- right or wrong
    have hrw : P ∣ ez p t.1 * ez (locz X (e - X.length)) t.1 - t.2 * ez (locz X (e - X.length)) t.1 := by
      by_cases hv : val P p t.1 = t.2
      · refine dvd_of_eq' (dvl (k := ez (locz X (e - X.length)) t.1) (val_dvd hv)) ?_
        rw [Int.sub_mul]
      · have hm : t.1 ∈ X := by
          rw [← hXe]
          refine List.mem_map.2 ⟨t, ?_, rfl⟩
          unfold wrk
          rw [List.mem_filter]
          exact ⟨ht, by simpa using hv⟩
        rw [locz_zero _ _ _ hm]
        exact ⟨0, by simp⟩
    have hL2 := dvr (k := t.2) hL
    refine dvd_of_eq' (Int.dvd_add hk (Int.dvd_sub (Int.dvd_add hq hrw) hL2)) ?_
    rw [hLe]
    simp only [Int.mul_add, Int.mul_sub]
    omega
  · refine els_of fun v hv => ?_
    rw [List.mem_append, List.mem_append] at hv
    rcases hv with (hv | hv) | hv
    · obtain ⟨j, _, rfl⟩ := List.mem_map.1 hv
      exact el_mod hP _
    · exact els_all (zeros_els hP _) _ hv
    · obtain ⟨j, _, rfl⟩ := List.mem_map.1 hv
      exact el_mod hP _

theorem rights {P : Int} {K : List (Int × Int)} (p : List Int) : (K.filter fun t => val P p t.1 == t.2).length + (wrk P K p).length = K.length := by
  unfold wrk
  induction K with
  | nil => rfl
  | cons t K ih =>
    simp only [List.filter_cons]
    cases h : (val P p t.1 == t.2) <;> simp <;> omega
theorem rights2 {P : Int} {K : List (Int × Int)} (p q : List Int) : K.length ≤ (K.filter fun t => val P p t.1 == t.2 && val P q t.1 == t.2).length + (wrk P K p).length + (wrk P K q).length := by
  unfold wrk
  induction K with
  | nil => simp
  | cons t K ih =>
    simp only [List.filter_cons]
    cases h : (val P p t.1 == t.2) <;> cases h' : (val P q t.1 == t.2) <;> simp <;> omega
theorem pts_roots {P : Int} (hp : prB P = true) {K : List (Int × Int)} (hK : K.Pairwise fun a b => ¬ P ∣ a.1 - b.1) (l : List Int) (hl : l.length ≤ K.length) (h : ∀ t ∈ K, P ∣ ez l t.1) : az P l := by
  refine roots hp (K.map Prod.fst) l (by simpa using hl) ?_ ?_
  · rw [List.pairwise_map]; exact hK
  · intro x hx
    obtain ⟨t, ht, rfl⟩ := List.mem_map.1 hx
    exact h t ht
theorem az_gd {P : Int} {l : List Int} (h : az P l) (k : Nat) : P ∣ gd l k := by
  by_cases hk : k < l.length
  · rw [gd_lt hk]; exact h _ (List.getElem_mem hk)
  · rw [gd_ge (by omega)]; exact ⟨0, by simp⟩
theorem trim_same {p q : List Int} (hp : trim p = p) (hq : trim q = q) (h : ∀ k, gd p k = gd q k) : p = q := by
  have key : ∀ (p q : List Int), (∀ k, gd p k = gd q k) → trim p = trim q := by
    intro p
    induction p with
    | nil =>
      intro q h
      exact (trim_zeros fun k => by rw [← h k]; simp [gd]).symm
    | cons c p ih =>
      intro q h
      cases q with
      | nil => exact trim_zeros fun k => by rw [h k]; simp [gd]
      | cons d q =>
        have h0 : c = d := by have := h 0; simpa [gd] using this
        have h1 := ih q fun k => by have := h (k + 1); simpa [gd] using this
        rw [trim_cons, trim_cons, h0, h1]
  rw [← hp, ← hq]
  exact key p q h
theorem els_cong {P : Int} {p q : List Int} (hP : 2 ≤ P) (hp : els P p = true) (hq : els P q = true) (h : ∀ k, P ∣ gd p k - gd q k) : ∀ k, gd p k = gd q k := by
  intro k
  have h1 := el_t (els_gd hP hp k)
  have h2 := el_t (els_gd hP hq k)
  have h3 := Int.emod_emod_of_dvd (gd p k) (Int.dvd_refl P)
  have h4 := Int.emod_eq_emod_iff_emod_sub_eq_zero.2 (Int.emod_eq_zero_of_dvd (h k))
  rw [Int.emod_eq_of_lt h1.1 h1.2, Int.emod_eq_of_lt h2.1 h2.2] at h4
  exact h4
theorem good_uniq {P : Int} {K : List (Int × Int)} {k e : Nat} {p q : List Int} (hpr : prB P = true) (hK : Pts P K) (hn : k + 2 * e ≤ K.length) (hp : Good P K k e p) (hq : Good P K k e q) : p = q := by
  have hP := (prB_bd hpr).1
  have h2 := rights2 (P := P) (K := K) p q
  have hl : (az_add p (zmul (-1) q)).length ≤ (K.filter fun t => val P p t.1 == t.2 && val P q t.1 == t.2).length := by
    rw [add_len, zmul_len]
    have := hp.len; have := hq.len; have := hp.few; have := hq.few
    omega
  have haz := pts_roots hpr (hK.dif.filter _) _ hl fun t ht => by
    rw [List.mem_filter] at ht
    have h1 : val P p t.1 = t.2 ∧ val P q t.1 = t.2 := by simpa using ht.2
    rw [add_ez, zmul_ez]
    exact dvd_of_eq' (Int.dvd_sub (val_dvd h1.1) (val_dvd h1.2)) (by omega)
  refine trim_same hp.trm hq.trm (els_cong hP hp.els hq.els fun k => ?_)
  have := az_gd haz k
  rw [add_gd, zmul_gd] at this
  exact dvd_of_eq' this (by omega)
/-- any solution, divided by its locator, is the polynomial -/
theorem sol_good {P : Int} {K : List (Int × Int)} {k e : Nat} {p s Q R : List Int} (hpr : prB P = true) (hK : Pts P K) (hn : k + 2 * e ≤ K.length) (hp : Good P K k e p)
    (hs : Sol P K (k + e) e s) (hQ : els P Q = true) (hR : els P R = true) (hQt : trim Q = Q) (hRt : trim R = R) (hQl : Q.length ≤ k) (hRl : R.length ≤ e)
    (hdiv : ∀ x, P ∣ ez (s.take (k + e)) x - (ez Q x * ez (s.drop (k + e) ++ [1]) x + ez R x)) : Q = p ∧ R = [] := by
  have hP := (prB_bd hpr).1
  obtain ⟨hsl, hse⟩ := hs
  have hr := rights (P := P) (K := K) p
  have hLl : (s.drop (k + e)).length = e := by simp; omega
  have hne : s.drop (k + e) ++ [1] ≠ [] := by simp
  have hl : (az_add (mulz (az_add Q (zmul (-1) p)) (s.drop (k + e) ++ [1])) R).length ≤ (K.filter fun t => val P p t.1 == t.2).length := by
    rw [add_len, mulz_len _ _ hne, add_len, zmul_len]
    have := hp.len; have := hp.few
    simp only [List.length_append, List.length_singleton, hLl]
    split <;> omega
  have haz := pts_roots hpr (hK.dif.filter _) _ hl fun t ht => by
    rw [List.mem_filter] at ht
    have h1 : val P p t.1 = t.2 := by simpa using ht.2
    have hk := krow_dh P (k + e) e t s hsl
    have he := hse t ht.1
    have h3 := Int.dvd_sub he hk
    rw [add_ez, mulz_ez, add_ez, zmul_ez]
    have h4 := hdiv t.1
    have h5 := dvl (k := ez (s.drop (k + e) ++ [1]) t.1) (val_dvd h1)
    refine dvd_of_eq' (Int.dvd_sub (Int.dvd_sub h3 h4) h5) ?_
    simp only [Int.sub_mul, Int.add_mul, Int.neg_mul, Int.one_mul]
    omega
  obtain ⟨a1, a2⟩ := monic (s.drop (k + e)) _ R (by omega) haz
  constructor
  · refine trim_same hQt hp.trm (els_cong hP hQ hp.els fun j => ?_)
    have := az_gd a1 j
    rw [add_gd, zmul_gd] at this
    exact dvd_of_eq' this (by omega)
  · have : ∀ j, gd R j = 0 := fun j => by
      have h1 := el_t (els_gd hP hR j)
      have h2 := Int.emod_eq_zero_of_dvd (az_gd a2 j)
      rwa [Int.emod_eq_of_lt h1.1 h1.2] at h2
    rw [← hRt]
    exact trim_zeros this
end Go.Proofs.YtoiabanpnkpbhaaGreatDoor

namespace Go.Proofs.YtoiabanpnkpbhaaGreatDoor
open Go.RowKit

theorem dvd_pow (P b : Int) : ∀ m : Nat, P ∣ (b % P) ^ m - b ^ m
  | 0 => ⟨0, by simp⟩
  | m + 1 => by
    rw [Int.pow_succ, Int.pow_succ]
    have h1 := dvl (k := b % P) (dvd_pow P b m)
    have h2 := dvr (k := b ^ m) (mod_dvd P b)
    refine dvd_of_eq' (Int.dvd_add h1 h2) ?_
    rw [Int.sub_mul, Int.mul_sub]; omega
theorem pw_even (P x a : Int) (m : Nat) : P ∣ x * (a * a % P) ^ m - x * a ^ (2 * m) := by
  have h := dvr (k := x) (dvd_pow P (a * a) m)
  have e : (a * a) ^ m = a ^ (2 * m) := by rw [Int.pow_mul]; congr 1; rw [Int.pow_succ, Int.pow_succ, Int.pow_zero, Int.one_mul]
  rw [e] at h
  refine dvd_of_eq' h ?_
  rw [Int.mul_sub]
theorem pw_odd (P x a : Int) (m : Nat) : P ∣ (x * a % P) * (a * a % P) ^ m - x * a ^ (2 * m + 1) := by
  have h1 := pw_even P (x * a % P) a m
  have h2 := dvl (k := a ^ (2 * m)) (mod_dvd P (x * a))
  refine dvd_of_eq' (Int.dvd_add h1 h2) ?_
  rw [Int.sub_mul, Int.pow_succ, Int.mul_assoc x a, Int.mul_comm a (a ^ (2 * m))]; omega
def Pw (P a : Int) (n : Nat) (w : World) (xv av nv : Value) (wr : World) : Prop :=
  ∃ (x b : Int) (k : Nat), xv = .int .i64 x ∧ av = .int .i64 b ∧ nv = .int .i64 k ∧ k ≤ 10 ∧ 0 ≤ x ∧ x < P ∧ 0 ≤ b ∧ b < P ∧ P ∣ x * b ^ k - a ^ n ∧ w = wr
set_option maxRecDepth 100000 in
set_option maxHeartbeats 4000000 in
theorem power_any (P a : Int) (n : Nat) (w : World) (hP : 2 ≤ P ∧ P ≤ 65521) (ha : 0 ≤ a ∧ a < P) (hn : n ≤ 10) :
    Calls Tryz.prog 50 #[.int .i64 P, .int .i64 a, .int .i64 n] w fun e w' => e = .returned (.int .i64 (a ^ n % P)) ∧ w = w' := by
  go_enter Tryz.func50, Tryz.ntmps50
  go_wp2_with fail
  go_loopw [7, 1, 2] (fun xv av nv wr => Pw P a n w xv av nv wr) (fun _ _ nv _ => (intOf nv).toNat)
  case atStart => exact ⟨1, a, n, rfl, rfl, rfl, hn, by omega, by omega, ha.1, ha.2, ⟨0, by simp⟩, rfl⟩
  case round =>
    obtain ⟨x, b, k, rfl, rfl, rfl, hk, hx1, hx2, hb1, hb2, hd, rfl⟩ := hrel
    have HD := Lib.hid hd
    clear hd
    by_cases hk0 : k = 0
    · subst hk0
      have HX : Hid (x = a ^ n % P) := (show Hid _ from by
        have h := HD.out
        rw [Int.pow_zero, Int.mul_one] at h
        have h1 := Int.emod_eq_emod_iff_emod_sub_eq_zero.2 (Int.emod_eq_zero_of_dvd h)
        rw [Int.emod_eq_of_lt hx1 hx2] at h1
        exact h1)
      go_wp2_with fail
      go_ret
      exact ⟨by rw [HX.out]; rfl, rfl⟩
    · have hxb : 0 ≤ x * b % P ∧ x * b % P < P := ⟨Int.emod_nonneg _ (by omega), Int.emod_lt_of_pos _ (by omega)⟩
      have hbb : 0 ≤ b * b % P ∧ b * b % P < P := ⟨Int.emod_nonneg _ (by omega), Int.emod_lt_of_pos _ (by omega)⟩
      have HEV : Hid (∀ m : Nat, k = 2 * m → P ∣ x * (b * b % P) ^ m - a ^ n) := (show Hid _ from fun m hm => by
        have h1 := pw_even P x b m
        rw [← hm] at h1
        exact dvd_of_eq' (Int.dvd_add h1 HD.out) (by omega))
      have HOD : Hid (∀ m : Nat, k = 2 * m + 1 → P ∣ (x * b % P) * (b * b % P) ^ m - a ^ n) := (show Hid _ from fun m hm => by
        have h1 := pw_odd P x b m
        rw [← hm] at h1
        exact dvd_of_eq' (Int.dvd_add h1 HD.out) (by omega))
      have hc : k = 1 ∨ k = 2 ∨ k = 3 ∨ k = 4 ∨ k = 5 ∨ k = 6 ∨ k = 7 ∨ k = 8 ∨ k = 9 ∨ k = 10 := by omega
      clear HD hk0 hk
      rcases hc with rfl | rfl | rfl | rfl | rfl | rfl | rfl | rfl | rfl | rfl
      all_goals
        go_wp2_with fail
        repeat ((with_reducible refine (mul_any P _ _ _ hP (by first | exact ⟨hx1, hx2⟩ | exact ⟨hb1, hb2⟩) ⟨hb1, hb2⟩).mono ?_); rintro e w1 ⟨rfl, hw1⟩; subst hw1; go_wp2_with fail)
        first
          | exact ⟨⟨_, _, 0, rfl, rfl, rfl, by omega, hxb.1, hxb.2, hbb.1, hbb.2, HOD.out 0 rfl, rfl⟩, by simp [intOf]⟩
          | exact ⟨⟨_, _, 1, rfl, rfl, rfl, by omega, hxb.1, hxb.2, hbb.1, hbb.2, HOD.out 1 rfl, rfl⟩, by simp [intOf]⟩
          | exact ⟨⟨_, _, 2, rfl, rfl, rfl, by omega, hxb.1, hxb.2, hbb.1, hbb.2, HOD.out 2 rfl, rfl⟩, by simp [intOf]⟩
          | exact ⟨⟨_, _, 3, rfl, rfl, rfl, by omega, hxb.1, hxb.2, hbb.1, hbb.2, HOD.out 3 rfl, rfl⟩, by simp [intOf]⟩
          | exact ⟨⟨_, _, 4, rfl, rfl, rfl, by omega, hxb.1, hxb.2, hbb.1, hbb.2, HOD.out 4 rfl, rfl⟩, by simp [intOf]⟩
          | exact ⟨⟨_, _, 1, rfl, rfl, rfl, by omega, hx1, hx2, hbb.1, hbb.2, HEV.out 1 rfl, rfl⟩, by simp [intOf]⟩
          | exact ⟨⟨_, _, 2, rfl, rfl, rfl, by omega, hx1, hx2, hbb.1, hbb.2, HEV.out 2 rfl, rfl⟩, by simp [intOf]⟩
          | exact ⟨⟨_, _, 3, rfl, rfl, rfl, by omega, hx1, hx2, hbb.1, hbb.2, HEV.out 3 rfl, rfl⟩, by simp [intOf]⟩
          | exact ⟨⟨_, _, 4, rfl, rfl, rfl, by omega, hx1, hx2, hbb.1, hbb.2, HEV.out 4 rfl, rfl⟩, by simp [intOf]⟩
          | exact ⟨⟨_, _, 5, rfl, rfl, rfl, by omega, hx1, hx2, hbb.1, hbb.2, HEV.out 5 rfl, rfl⟩, by simp [intOf]⟩
end Go.Proofs.YtoiabanpnkpbhaaGreatDoor

namespace Go.Proofs.YtoiabanpnkpbhaaGreatDoor
open Go.RowKit

/-- header i -/
def hd (n : Nat) (bs cs : Nat → Nat) (i : Nat) : Value := .slice (some ⟨bs i, 0, none⟩) n (cs i)
/-- block G holds the headers (and more); row i lies in block bs i, with capacity cs i -/
structure RM (base : Nat) (w : World) (G n m : Nat) (bs cs : Nat → Nat) (M : List (List Int)) : Prop where
  hdr : ∃ L : List Value, w.heap[G]? = some (.cells L.toArray 22 (0, 0)) ∧ ∀ i, i < m → L[i]? = some (hd n bs cs i)
  len : M.length = m
  gb : base ≤ G
  row : ∀ i, i < m → RB w (bs i) (gr M i) ∧ (gr M i).length = n ∧ n ≤ cs i ∧ cs i ≤ 9223372036854775807 ∧ base ≤ bs i ∧ bs i ≠ G
  apart : ∀ i j, i < m → j < m → bs i = bs j → i = j
theorem RM.lt {base : Nat} {w : World} {G n m : Nat} {bs cs : Nat → Nat} {M : List (List Int)} (h : RM base w G n m bs cs M) : G < w.heap.size := by
  obtain ⟨L, h1, _⟩ := h.hdr; exact heap_of_cells h1
theorem RM.cell {base : Nat} {w : World} {G n m : Nat} {bs cs : Nat → Nat} {M : List (List Int)} (h : RM base w G n m bs cs M) {i : Nat} (hi : i < m) : w.cell? ⟨G, i, none⟩ = some (.slice (some ⟨bs i, 0, none⟩) n (cs i)) := by
  obtain ⟨L, h1, h2⟩ := h.hdr
  rw [cell_of_row w G i _ _ (0, 0) h1, List.getElem?_toArray]
  exact h2 i hi
theorem RM.frozen {base : Nat} {w : World} {G n m : Nat} {bs cs : Nat → Nat} {M : List (List Int)} (h : RM base w G n m bs cs M) (i : Nat) : w.frozen? ⟨G, i, none⟩ = false := by
  obtain ⟨L, h1, h2⟩ := h.hdr
  exact frozen_of_row w G i _ _ h1
theorem RM.el {base : Nat} {w : World} {G n m : Nat} {bs cs : Nat → Nat} {M : List (List Int)} (h : RM base w G n m bs cs M) {i j : Nat} (hi : i < m) (hj : j < n) : w.cell? ⟨bs i, j, none⟩ = some (.int .i64 (gd (gr M i) j)) := by
  obtain ⟨h1, h2, _⟩ := h.row i hi
  rw [h1.cell (by omega), gd_lt (by omega)]
theorem RM.keep {base : Nat} {w w' : World} {G n m : Nat} {bs cs : Nat → Nat} {M : List (List Int)} (h : RM base w G n m bs cs M) (hk : ∀ b, base ≤ b → b < w.heap.size → w'.heap[b]? = w.heap[b]?) : RM base w' G n m bs cs M := by
  obtain ⟨L, h1, h2⟩ := h.hdr
  refine ⟨⟨L, (hk G h.gb (heap_of_cells h1)).trans h1, h2⟩, h.len, h.gb, fun i hi => ?_, h.apart⟩
  obtain ⟨⟨tl, r1⟩, r2, r3, r4, r5, r6⟩ := h.row i hi
  exact ⟨⟨tl, (hk _ r5 (heap_of_cells r1)).trans r1⟩, r2, r3, r4, r5, r6⟩
theorem RM.below {base : Nat} {w w' : World} {G n m : Nat} {bs cs : Nat → Nat} {M : List (List Int)} (h : RM base w G n m bs cs M) (hb : Below w.heap.size w w') : RM base w' G n m bs cs M := h.keep fun b _ h2 => hb.block b h2
theorem RM.setB {base : Nat} {w : World} {G n m : Nat} {bs cs : Nat → Nat} {M : List (List Int)} (h : RM base w G n m bs cs M) {p : Addr} (hp : p.block < base) (u : Value) : RM base (w.setCell p u) G n m bs cs M := h.keep fun b h1 _ => heap_setCell_other w p b u (by omega)
theorem RM.drew {base : Nat} {w : World} {G n m : Nat} {bs cs : Nat → Nat} {M : List (List Int)} (h : RM base w G n m bs cs M) : RM base w.drew G n m bs cs M := h.below (Below.refl _ w).drew
/-- two headers exchanged -/
def sw (f : Nat → Nat) (r i j : Nat) : Nat := if j = i then f r else if j = r then f i else f j
theorem RM.swap {base : Nat} {w w' : World} {G n m : Nat} {bs cs : Nat → Nat} {M : List (List Int)} (h : RM base w G n m bs cs M) {r i : Nat} (hr : r < m) (hi : i < m)
    (e : w' = (w.setCell ⟨G, r, none⟩ (hd n bs cs i)).setCell ⟨G, i, none⟩ (hd n bs cs r)) : RM base w' G n m (sw bs r i) (sw cs r i) (swp M r i) := by
  subst e
  obtain ⟨L, h1, h2⟩ := h.hdr
  have hlM := h.len
  have hrL : r < L.length := by have := h2 r hr; exact (List.getElem?_eq_some_iff.1 this).1
  have hiL : i < L.length := by have := h2 i hi; exact (List.getElem?_eq_some_iff.1 this).1
  have e1 := heap_setCell_same w G r _ _ (hd n bs cs i) h1
  have e2 := heap_setCell_same _ G i _ _ (hd n bs cs r) e1
  refine ⟨⟨(L.set r (hd n bs cs i)).set i (hd n bs cs r), by rw [e2]; simp, fun j hj => ?_⟩, by rw [swp_len]; exact hlM, h.gb, fun j hj => ?_, fun a b ha hb hab => ?_⟩
  · rw [List.getElem?_set]
    by_cases ji : i = j
    · subst ji
      rw [if_pos rfl, if_pos (by simpa using hiL)]
      simp [hd, sw]
    · rw [if_neg ji, List.getElem?_set]
      by_cases jr : r = j
      · subst jr
        rw [if_pos rfl, if_pos hrL]
        simp [hd, sw, Ne.symm ji]
      · rw [if_neg jr, h2 j hj]
        simp [hd, sw, Ne.symm ji, Ne.symm jr]
  · have key : ∀ k, k < m → gr (swp M r i) j = gr M k → sw bs r i j = bs k → sw cs r i j = cs k → RB ((w.setCell ⟨G, r, none⟩ (hd n bs cs i)).setCell ⟨G, i, none⟩ (hd n bs cs r)) (sw bs r i j) (gr (swp M r i) j) ∧ (gr (swp M r i) j).length = n ∧ n ≤ sw cs r i j ∧ sw cs r i j ≤ 9223372036854775807 ∧ base ≤ sw bs r i j ∧ sw bs r i j ≠ G := by
      intro k hk g1 g2 g3
      obtain ⟨r1, r2, r3, r4, r5, r6⟩ := h.row k hk
      rw [g1, g2, g3]
      exact ⟨(r1.setO (p := ⟨G, r, none⟩) (fun e => r6 e.symm) _).setO (p := ⟨G, i, none⟩) (fun e => r6 e.symm) _, r2, r3, r4, r5, r6⟩
    have hg := gr_swp (M := M) (r := r) (i := i) (by omega) (by omega) j
    by_cases ji : j = i
    · refine key r hr ?_ ?_ ?_
      · rw [hg, if_pos ji]
      · simp [sw, ji]
      · simp [sw, ji]
    · by_cases jr : j = r
      · refine key i hi ?_ ?_ ?_
        · rw [hg, if_neg ji, if_pos jr]
        · simp only [sw]; rw [if_neg ji, if_pos jr]
        · simp only [sw]; rw [if_neg ji, if_pos jr]
      · refine key j hj ?_ ?_ ?_
        · rw [hg, if_neg ji, if_neg jr]
        · simp only [sw]; rw [if_neg ji, if_neg jr]
        · simp only [sw]; rw [if_neg ji, if_neg jr]
  · have inj := h.apart
    simp only [sw] at hab
    by_cases ai : a = i
    · by_cases bi : b = i
      · omega
      · by_cases br : b = r
        · rw [if_pos ai, if_neg bi, if_pos br] at hab
          have := inj r i hr hi hab; omega
        · rw [if_pos ai, if_neg bi, if_neg br] at hab
          have := inj r b hr hb hab; omega
    · by_cases ar : a = r
      · by_cases bi : b = i
        · rw [if_neg ai, if_pos ar, if_pos bi] at hab
          have := inj i r hi hr hab; omega
        · by_cases br : b = r
          · omega
          · rw [if_neg ai, if_pos ar, if_neg bi, if_neg br] at hab
            have := inj i b hi hb hab; omega
      · by_cases bi : b = i
        · rw [if_neg ai, if_neg ar, if_pos bi] at hab
          have := inj a r ha hr hab; omega
        · by_cases br : b = r
          · rw [if_neg ai, if_neg ar, if_neg bi, if_pos br] at hab
            have := inj a i ha hi hab; omega
          · rw [if_neg ai, if_neg ar, if_neg bi, if_neg br] at hab
            exact inj a b ha hb hab
/-- one row's ints changed -/
theorem RM.upd {base : Nat} {w w' : World} {G n m : Nat} {bs cs : Nat → Nat} {M : List (List Int)} (h : RM base w G n m bs cs M) {i : Nat} (hi : i < m) {l : List Int} (hl : l.length = n) (hg : w.grownBy w' (some (bs i))) (hb : RB w' (bs i) l) :
    RM base w' G n m bs cs (M.set i l) := by
  obtain ⟨L, h1, h2⟩ := h.hdr
  have hlM := h.len
  refine ⟨⟨L, (hg.block G (heap_of_cells h1) (by have := (h.row i hi).2.2.2.2.2; simp; omega)).trans h1, h2⟩, by rw [List.length_set]; exact hlM, h.gb, fun j hj => ?_, h.apart⟩
  rw [gr_set (by omega)]
  obtain ⟨r1, r2, r3, r4, r5, r6⟩ := h.row j hj
  by_cases ji : j = i
  · subst ji
    rw [if_pos rfl]
    exact ⟨hb, hl, r3, r4, r5, r6⟩
  · rw [if_neg ji]
    exact ⟨r1.kept hg (fun e => ji (h.apart j i hj hi (by injection e))), r2, r3, r4, r5, r6⟩
/-- the struct of reduced equations -/
def rdc (P C : Int) (hv : Value) (r : Int) (ld : List Int) : List Value := [.int .i64 P, .int .i64 C, hv, .int .i64 r] ++ ld.map (.int .i64)
def RD (w : World) (B : Nat) (P C : Int) (hv : Value) (r : Int) (ld : List Int) : Prop := w.heap[B]? = some (.cells (rdc P C hv r ld).toArray 209 (0, 0))
theorem RD.cells {w : World} {B : Nat} {P C r : Int} {hv : Value} {ld : List Int} (h : RD w B P C hv r ld) :
    w.cell? ⟨B, 0, none⟩ = some (.int .i64 P) ∧ w.cell? ⟨B, 1, none⟩ = some (.int .i64 C) ∧ w.cell? ⟨B, 2, none⟩ = some hv ∧ w.cell? ⟨B, 3, none⟩ = some (.int .i64 r) := by
  refine ⟨?_, ?_, ?_, ?_⟩ <;> · rw [cell_of_row w B _ _ _ (0, 0) h]; simp [rdc]
theorem RD.ld {w : World} {B : Nat} {P C r : Int} {hv : Value} {ld : List Int} (h : RD w B P C hv r ld) {k : Nat} (hk : k < ld.length) : w.cell? ⟨B, 4 + k, none⟩ = some (.int .i64 (gd ld k)) := by
  rw [cell_of_row w B _ _ _ (0, 0) h, gd_lt hk]
  have : 4 + k = k + 4 := by omega
  rw [this]
  simp [rdc, hk]
theorem RD.frozen {w : World} {B : Nat} {P C r : Int} {hv : Value} {ld : List Int} (h : RD w B P C hv r ld) (k : Nat) : w.frozen? ⟨B, k, none⟩ = false := frozen_of_row w B k _ _ h
theorem RD.lt {w : World} {B : Nat} {P C r : Int} {hv : Value} {ld : List Int} (h : RD w B P C hv r ld) : B < w.heap.size := heap_of_cells h
theorem RD.rank {w : World} {B : Nat} {P C r : Int} {hv : Value} {ld : List Int} (h : RD w B P C hv r ld) (x : Int) : RD (w.setCell ⟨B, 3, none⟩ (.int .i64 x)) B P C hv x ld := by
  unfold RD
  rw [heap_setCell_same w B 3 _ _ _ h]
  simp [rdc]
theorem RD.lead {w : World} {B : Nat} {P C r : Int} {hv : Value} {ld : List Int} (h : RD w B P C hv r ld) {k : Nat} (x : Int) : RD (w.setCell ⟨B, 4 + k, none⟩ (.int .i64 x)) B P C hv r (ld.set k x) := by
  unfold RD
  rw [heap_setCell_same w B _ _ _ _ h]
  have : 4 + k = k + 4 := by omega
  rw [this]
  simp [rdc, List.map_set]
theorem RD.kept {w w' : World} {B : Nat} {P C r : Int} {hv : Value} {ld : List Int} (h : RD w B P C hv r ld) (hk : w'.heap[B]? = w.heap[B]?) : RD w' B P C hv r ld := hk.trans h
/-- a row scaled as far as place q -/
def scp (P b : Int) (row : List Int) (q : Nat) : List Int := (List.range row.length).map fun t => if t < q then gd row t * b % P else gd row t
theorem scp_len (P b : Int) (row : List Int) (q : Nat) : (scp P b row q).length = row.length := by simp [scp]
theorem scp_gd (P b : Int) (row : List Int) (q t : Nat) (ht : t < row.length) : gd (scp P b row q) t = if t < q then gd row t * b % P else gd row t := by
  rw [gd_lt (by rw [scp_len]; exact ht)]; simp [scp]
theorem scp_zero (P b : Int) (row : List Int) : scp P b row 0 = row := list_ext_gd (scp_len _ _ _ _) fun k hk => by
  rw [scp_len] at hk
  rw [scp_gd _ _ _ _ _ hk, if_neg (by omega)]
theorem scp_end (P b : Int) (row : List Int) : scp P b row row.length = scl P b row := list_ext_gd (by rw [scp_len, scl_len]) fun k hk => by
  rw [scp_len] at hk
  rw [scp_gd _ _ _ _ _ hk, if_pos hk, scl_gd]
theorem scp_set (P b : Int) (row : List Int) (q : Nat) (hq : q < row.length) : (scp P b row q).set q (gd row q * b % P) = scp P b row (q + 1) := list_ext_gd (by rw [List.length_set, scp_len, scp_len]) fun k hk => by
  rw [List.length_set, scp_len] at hk
  rw [gd_set _ _ _ _ (by rw [scp_len]; exact hq), scp_gd _ _ _ _ _ hk, scp_gd _ _ _ _ _ hk]
  by_cases e : k = q
  · rw [if_pos e, if_pos (by omega), e]
  · rw [if_neg e]
    by_cases h : k < q
    · rw [if_pos h, if_pos (by omega)]
    · rw [if_neg h, if_neg (by omega)]
theorem elN_zero (P : Int) (k r : Nat) (f : List Int) (M : List (List Int)) : elN P k r f M 0 = M := by
  apply List.ext_getElem
  · rw [elN_len]
  · intro i h1 h2
    have := gr_elN (P := P) (k := k) (r := r) (f := f) (j := 0) h2
    rw [gr_lt h1, gr_lt h2, if_neg (by omega)] at this
    exact this
theorem gr_ext {A B : List (List Int)} (hl : A.length = B.length) (h : ∀ i, i < A.length → gr A i = gr B i) : A = B := by
  apply List.ext_getElem hl
  intro i h1 h2
  have := h i h1
  rwa [gr_lt h1, gr_lt h2] at this
theorem elN_skip (P : Int) (k r : Nat) (f : List Int) (M : List (List Int)) (j : Nat) (h : j = r ∨ gd (gr M j) k = 0) : elN P k r f M (j + 1) = elN P k r f M j := gr_ext (by rw [elN_len, elN_len]) fun i hi => by
  rw [elN_len] at hi
  rw [gr_elN hi, gr_elN hi]
  by_cases e : i = j
  · subst e
    rw [if_neg (by omega : ¬ (i < i ∧ i ≠ r))]
    rcases h with h | h
    · rw [if_neg (by omega)]
    · split
      · unfold el1; rw [if_pos h]
      · rfl
  · by_cases h : i < j ∧ i ≠ r
    · rw [if_pos h, if_pos (by omega)]
    · rw [if_neg h, if_neg (by omega)]
theorem elN_step (P : Int) (k r : Nat) (f : List Int) (M : List (List Int)) (j : Nat) (hj : j < M.length) (h : j ≠ r) : elN P k r f M (j + 1) = (elN P k r f M j).set j (el1 P k f (gr M j)) := gr_ext (by rw [elN_len, List.length_set, elN_len]) fun i hi => by
  rw [elN_len] at hi
  rw [gr_elN hi, gr_set (by rw [elN_len]; exact hj), gr_elN hi]
  by_cases e : i = j
  · subst e
    rw [if_pos (by omega), if_pos rfl]
  · rw [if_neg e]
    by_cases h : i < j ∧ i ≠ r
    · rw [if_pos h, if_pos (by omega)]
    · rw [if_neg h, if_neg (by omega)]
def LP (P : Int) (C B G n m c : Nat) (M0 : List (List Int)) (k : Nat) (w : World) : Prop :=
  ∃ (r : Nat) (bs cs : Nat → Nat) (M : List (List Int)) (ld : List Int), RM (B + 1) w G n m bs cs M ∧ RD w B P C (.slice (some ⟨G, 0, none⟩) m c) r ld ∧ GE P C M0 M r k ld
end Go.Proofs.YtoiabanpnkpbhaaGreatDoor

namespace Go.Proofs.YtoiabanpnkpbhaaGreatDoor
open Go.RowKit

/-- equations as a value -/
def eqv (P R C : Int) (vc vr : Value) : Value := .agg #[.int .i64 P, .int .i64 R, .int .i64 C, vc, vr]
set_option maxRecDepth 100000 in
theorem scheck_any (P : Int) (R C : Nat) (cl rl : List Int) (vc vr : Value) (w : World) (hp : prB P = true) (hR : R ≤ 32) (hC : C ≤ 32) (h1 : cl.length = R * C) (h2 : rl.length = R) (he1 : els P cl = true) (he2 : els P rl = true) (hc : SI w vc cl) (hr : SI w vr rl) :
    Calls Tryz.prog 146 #[.agg #[.int .i64 P, .int .i64 R, .int .i64 C, vc, vr]] w fun e w' => e = .returned (.int .i64 0) ∧ Below w.heap.size w w' := by
  have HP := Lib.hid hp
  have hPi : i64r P := by have := prB_bd hp; unfold i64r; omega
  have HC := Lib.hid hc
  have HR := Lib.hid hr
  have E1 := Lib.hid he1
  have E2 := Lib.hid he2
  obtain ⟨A1, c1, rfl, _⟩ := hc
  obtain ⟨A2, c2, rfl, _⟩ := hr
  have hlen : (cl.length : Int) = (R : Int) * (C : Int) := by rw [h1]; simp
  have hRC : R * C ≤ 1024 := Nat.mul_le_mul hR hC
  have hlen1 : cl.length ≤ 1024 := by omega
  have hlen2 : rl.length ≤ 32 := by omega
  obtain ⟨RC, eRC⟩ : ∃ x, x = (R : Int) * (C : Int) := ⟨_, rfl⟩
  have hne1 : ((cl.length : Int) != (R : Int) * (C : Int)) = false := by rw [hlen]; simp
  have hne2 : ((rl.length : Int) != (R : Int)) = false := by rw [h2]; simp
  have b1 : (0 : Int) ≤ (R : Int) * (C : Int) := by rw [← hlen]; omega
  have b2 : (R : Int) * (C : Int) ≤ 1024 := by rw [← hlen]; omega
  have HB : Hid (∀ o : Obj, Below w.heap.size w (w.alloc o)) := fun o => (Below.refl _ w).alloc (Nat.le_refl _) o
  have d1 : decide ((R : Int) < 0) = false := decide_eq_false (by omega)
  have d2 : decide ((32 : Int) < (R : Int)) = false := decide_eq_false (by omega)
  have d3 : decide ((C : Int) < 0) = false := decide_eq_false (by omega)
  have d4 : decide ((32 : Int) < (C : Int)) = false := decide_eq_false (by omega)
  clear h1 h2 he1 he2 hp hlen eRC
  go_enter Tryz.func146, Tryz.ntmps146
  go_wp2_with fail
  (with_reducible refine (of_any P _ hPi).mono ?_); rintro e w1 ⟨rfl, hb1⟩
  have k1 : Hid (ofP P = P) := (show Hid _ from ofP_t HP.out)
  rw [k1.out, HP.out]
  obtain ⟨hc1, hf1⟩ := bcell hb1
  have H1 := Lib.hid hb1
  have hs1 : w.heap.size < w1.heap.size := by have := hb1.size; simp at this; omega
  clear hb1
  have B1 : Hid (Below w.heap.size w w1) := (show Hid _ from (HB.out _).trans (H1.out.mono (by simp)))
  have SC1 : Hid (SI w1 (.slice A1 cl.length c1) cl) := (show Hid _ from HC.out.below B1.out)
  have SR1 : Hid (SI w1 (.slice A2 rl.length c2) rl) := (show Hid _ from HR.out.below B1.out)
  go_wp2_with fail
  (with_reducible refine (all_any P cl _ _ SC1.out).mono ?_); rintro e w2 ⟨rfl, hb2⟩
  rw [E1.out]
  have B2 : Hid (Below w1.heap.size w1 w2) := (show Hid _ from hb2)
  obtain ⟨hc2, hf2⟩ := bcell hb2
  have SR2 : Hid (SI w2 (.slice A2 rl.length c2) rl) := (show Hid _ from SR1.out.below hb2)
  have hs2 : w.heap.size < w2.heap.size := Nat.lt_of_lt_of_le hs1 hb2.size
  clear hb2
  go_wp2_with fail
  (with_reducible refine (all_any P rl _ _ SR2.out).mono ?_); rintro e w3 ⟨rfl, hb3⟩
  rw [E2.out]
  have B3 : Hid (Below w2.heap.size w2 w3) := (show Hid _ from hb3)
  clear hb3
  go_wp2_with fail
  go_ret
  exact ⟨rfl, (B1.out.trans (B2.out.mono B1.out.size)).trans (B3.out.mono (Nat.le_trans B1.out.size B2.out.size))⟩

def rad (n k : Int) : Int := (n - k) / 2
theorem radius_any (n k : Int) (w : World) (hk : 1 ≤ k) (hkn : k ≤ n) (hn : n ≤ 32) :
    Calls Tryz.prog 127 #[.int .i64 n, .int .i64 k] w fun e w' => e = .returned (.tuple #[.int .i64 (rad n k), .int .i64 0]) ∧ w = w' := by
  have h0 : 0 ≤ n - k := by omega
  have h1 : n - k ≤ 32 := by omega
  have d1 : decide (k < 1) = false := decide_eq_false (by omega)
  have d2 : decide (n < 0) = false := decide_eq_false (by omega)
  have d3 : decide (32 < n) = false := decide_eq_false (by omega)
  have d4 : decide (n < k) = false := decide_eq_false (by omega)
  go_enter Tryz.func127, Tryz.ntmps127
  go_wp2_with fail
  go_ret2
  exact ⟨rfl, rfl⟩
def cnt (l : List (Int × Bool)) : Nat := (l.filter (·.2)).length
theorem cnt_kn (l : List (Int × Bool)) : cnt l = (kn l).length := by
  have : ∀ i, (knF i l).length = cnt l := by
    unfold cnt
    induction l with
    | nil => intro i; rfl
    | cons c l ih =>
      intro i
      rw [knF, List.length_append, ih, List.filter_cons]
      cases c.2 <;> simp <;> omega
  exact (this 0).symm
theorem cnt_snoc (l : List (Int × Bool)) (k : Nat) (h : k < l.length) : cnt (l.take (k + 1)) = cnt (l.take k) + if l[k].2 = true then 1 else 0 := by
  unfold cnt
  rw [List.take_succ_eq_append_getElem h, List.filter_append]
  cases hb : l[k].2 <;> simp [hb]
theorem cnt_le (l : List (Int × Bool)) : cnt l ≤ l.length := List.length_filter_le _ _
set_option maxHeartbeats 1000000 in
theorem count_any (l : List (Int × Bool)) (v : Value) (w : World) (h : SCl w v l) (hz : l.length ≤ 1000000) :
    Calls Tryz.prog 128 #[v] w fun e w' => e = .returned (.int .i64 (cnt l : Nat)) ∧ Below w.heap.size w w' := by
  have HS := Lib.hid h
  obtain ⟨A, c, rfl⟩ := h.form
  clear h
  go_enter Tryz.func128, Tryz.ntmps128
  go_wp2_with fail
  go_loopw [3, 8] (fun s i wr => ∃ k : Nat, k ≤ l.length ∧ i = .int .i64 k ∧ s = .int .i64 (cnt (l.take k) : Nat) ∧ Hid (Below w.heap.size w wr)) (fun _ i _ => l.length - (intOf i).toNat)
  case atStart => exact ⟨0, Nat.zero_le _, by go_num, by go_num, (show Hid _ from Below.refl _ _)⟩
  case round =>
    obtain ⟨k, hk, rfl, rfl, HB⟩ := hrel
    by_cases hlt : k < l.length
    · obtain ⟨A', c', e, _, _, _, ha⟩ := HS.out
      injection e with e1 e2 e3
      subst e1
      obtain ⟨b, off, rfl, hb, hcell⟩ := ha (by omega)
      obtain ⟨c1, c2⟩ := hcell k hlt
      have c1 := (HB.out.cell (p := ⟨b, off + k * 2, none⟩) hb).trans c1
      have c2 := (HB.out.cell (p := ⟨b, off + k * 2 + 1, none⟩) hb).trans c2
      have hbw : b < wr.heap.size := Nat.lt_of_lt_of_le hb HB.out.size
      have hcs := Lib.hid (cnt_snoc l k hlt)
      have hle : cnt (l.take k) ≤ k := Nat.le_trans (cnt_le _) (by simp; omega)
      have HBa : Hid (∀ o : Obj, Below w.heap.size w (wr.alloc o)) := (show Hid _ from fun o => HB.out.alloc HB.out.size o)
      obtain ⟨x, ex⟩ : ∃ x, x = l[k].1 := ⟨_, rfl⟩
      rw [← ex] at c1
      clear ha hcell e2 e3 ex
      cases hkb : l[k].2 with
      | true =>
        rw [hkb] at c2
        rw [hkb, if_pos rfl] at hcs
        clear hkb
        go_wp2_with fail
        go_roundw
        case rel => exact ⟨k + 1, by omega, by go_num, by rw [hcs.out]; go_num, HBa.out _⟩
        case measure => simp [intOf]; omega
      | false =>
        rw [hkb] at c2
        rw [hkb, if_neg (by simp)] at hcs
        clear hkb
        go_wp2_with fail
        go_roundw
        case rel => exact ⟨k + 1, by omega, by go_num, by rw [hcs.out]; go_num, HBa.out _⟩
        case measure => simp [intOf]; omega
    · obtain rfl : l.length = k := by omega
      go_wp2_with fail
      go_ret
      exact ⟨ret_int (by rw [List.take_length]), HB.out⟩
def SvP (C m r : Nat) (M : List (List Int)) (w : World) (e : Ending) (w' : World) : Prop :=
  ∃ bb : Bool, e = .returned (.bool bb) ∧ (bb = true → ∀ q, r ≤ q → q < m → gd (gr M q) C = 0) ∧ (bb = false → ∃ q, r ≤ q ∧ q < m ∧ gd (gr M q) C ≠ 0) ∧ Hid (Below w.heap.size w w')
set_option maxHeartbeats 1000000 in
theorem solvable_any (P : Int) (C B G n m c r : Nat) (bs cs : Nat → Nat) (M : List (List Int)) (ld : List Int) (w : World) (hn : n = C + 1) (hm : m ≤ 32) (hr : r ≤ m) (hmc : m ≤ c)
    (hM : RM (B + 1) w G n m bs cs M) (hR : RD w B P C (.slice (some ⟨G, 0, none⟩) m c) r ld) :
    Calls Tryz.prog 148 #[.pointer (some ⟨B, 0, none⟩)] w (SvP C m r M w) := by
  have HM := Lib.hid hM
  have HR := Lib.hid hR
  obtain ⟨cP, cC, cH, cR⟩ := hR.cells
  have hBl := hR.lt
  have hCn : C < n := by omega
  clear hM hR hn
  have z1 : (0 : Int) ≤ (r : Int) := by omega
  have z2 : (r : Int) ≤ (m : Int) := by omega
  go_enter Tryz.func148, Tryz.ntmps148
  by_cases hrc : r = c
  · obtain rfl : m = r := by omega
    subst hrc
    go_wp2_with fail
    go_region_held3 (fun w' => w'.cell? ⟨B, 2, none⟩ = some (.slice (some ⟨G, 0, none⟩) m m) ∧ w'.cell? ⟨B, 3, none⟩ = some (.int .i64 m)) (first | exact ⟨cH, cR⟩ | go_keep) (fail)
    go_wp2_with fail
    go_loop [15] (fun i => i = .int .i64 0) (fun _ => 0)
    case atStart => rfl
    case round =>
      subst hrel
      go_wp2_with fail
      go_ret
      exact ⟨true, rfl, (fun _ q h1 h2 => by omega), (fun h => by cases h), (show Hid _ from (Below.refl _ w).drew)⟩
  · have hrc' : ¬ c = r := fun e => hrc e.symm
    go_wp2_with fail
    go_region_held3 (fun w' => w'.cell? ⟨B, 2, none⟩ = some (.slice (some ⟨G, 0, none⟩) m c) ∧ w'.cell? ⟨B, 3, none⟩ = some (.int .i64 r)) (first | exact ⟨cH, cR⟩ | go_keep) (fail)
    go_wp2_with fail
    go_loop [15] (fun i => ∃ k : Nat, k ≤ m - r ∧ i = .int .i64 k ∧ Hid (∀ q, r ≤ q → q < r + k → gd (gr M q) C = 0)) (fun i => (m - r) - (intOf i).toNat)
    case atStart => exact ⟨0, Nat.zero_le _, by go_num, (show Hid _ from fun q h1 h2 => by omega)⟩
    case round =>
      obtain ⟨k, hk, rfl, HZ⟩ := hrel
      by_cases hlt : k < m - r
      · have hq : r + k < m := by omega
        have ck := HM.out.cell hq
        have ek := HM.out.el hq hCn
        obtain ⟨x, ex⟩ : ∃ x, x = gd (gr M (r + k)) C := ⟨_, rfl⟩
        rw [← ex] at ek
        have y1 : (0 : Int) ≤ (C : Int) := by omega
        have y2 : (C : Int) < (n : Int) := by omega
        by_cases hx : x = 0
        · have HZ2 : Hid (∀ q, r ≤ q → q < r + (k + 1) → gd (gr M q) C = 0) := (show Hid _ from fun q h1 h2 => by
            by_cases e : q = r + k
            · rw [e, ← ex]; exact hx
            · exact HZ.out q h1 (by omega))
          subst hx
          clear ex
          go_wp2_with fail
          go_round
          case rel => exact ⟨k + 1, by omega, by go_num, HZ2⟩
          case measure => simp [intOf]; omega
        · have HX : Hid (gd (gr M (r + k)) C ≠ 0) := (show Hid _ from by rw [← ex]; exact hx)
          have hx1 : (x != 0) = true := by simp [hx]
          clear ex
          go_wp2_with fail
          go_ret
          exact ⟨false, rfl, (fun h => by cases h), (fun _ => ⟨r + k, by omega, hq, HX.out⟩), (show Hid _ from (Below.refl _ w).drew)⟩
      · obtain rfl : m - r = k := by omega
        go_wp2_with fail
        go_ret
        exact ⟨true, rfl, (fun _ q h1 h2 => HZ.out q h1 (by omega)), (fun h => by cases h), (show Hid _ from (Below.refl _ w).drew)⟩
end Go.Proofs.YtoiabanpnkpbhaaGreatDoor

namespace Go.Proofs.YtoiabanpnkpbhaaGreatDoor
open Go.RowKit

theorem wrg_snoc (P : Int) (l : List (Int × Bool)) (p : List Int) (k : Nat) (h : k < l.length) : wrg P (l.take (k + 1)) p = wrg P (l.take k) p ++ if l[k].2 = true ∧ val P p ((k : Int) + 1) ≠ l[k].1 then [(k : Int) + 1] else [] := by
  unfold wrg wrk
  rw [kn_snoc l k h, List.filter_append, List.map_append]
  congr 1
  cases hb : l[k].2
  · simp
  · by_cases hv : val P p ((k : Int) + 1) = l[k].1 <;> simp [hv]
theorem wrg_len (P : Int) (l : List (Int × Bool)) (p : List Int) : (wrg P l p).length ≤ l.length := by
  unfold wrg wrk
  rw [List.length_map]
  exact Nat.le_trans (List.length_filter_le _ _) (by rw [← cnt_kn]; exact cnt_le l)
def WrR (P : Int) (l : List (Int × Bool)) (p : List Int) (w : World) (s i : Value) (wr : World) : Prop :=
  ∃ k : Nat, k ≤ l.length ∧ i = .int .i64 k ∧ wr.ownsRow w.heap.size 3 1 s (wrg P (l.take k) p).length ((wrg P (l.take k) p).map (Value.int .i64)) ∧ Below w.heap.size w wr
set_option maxRecDepth 100000 in
set_option maxHeartbeats 4000000 in
theorem wrongs_any (P : Int) (l : List (Int × Bool)) (p : List Int) (v vp : Value) (w : World) (hP : 2 ≤ P ∧ P ≤ 65521) (h : SCl w v l) (hz : l.length ≤ 1000) (hlP : (l.length : Int) < P) (hs : SI w vp p) (hel : els P p = true) (hpl : p.length ≤ 1000000) :
    Calls Tryz.prog 132 #[.int .i64 P, v, vp] w fun e w' => ∃ v', e = .returned v' ∧ w'.ownsRow w.heap.size 3 1 v' (wrg P l p).length ((wrg P l p).map (Value.int .i64)) ∧ Below w.heap.size w w' := by
  have HS := Lib.hid h
  have HSp := Lib.hid hs
  have HEL := Lib.hid hel
  obtain ⟨A, c, rfl⟩ := h.form
  obtain ⟨Ap, cp, rfl⟩ := hs.form
  clear h hs hel
  go_enter Tryz.func132, Tryz.ntmps132
  go_wp2_with fail
  go_loopw [7, 12] (fun s i wr => WrR P l p w s i wr) (fun _ i _ => l.length - (intOf i).toNat)
  case atStart => exact ⟨0, Nat.zero_le _, rfl, World.ownsRow_nil _ _ _ _, Below.refl _ _⟩
  case round =>
    obtain ⟨k, hk, rfl, hown, hbel⟩ := hrel
    have HO := Lib.hid hown
    have HB := Lib.hid hbel
    have hzr : w.heap.size ≤ wr.heap.size := hbel.size
    clear hown hbel
    by_cases hlt : k < l.length
    · obtain ⟨A', c', e, _, _, _, ha⟩ := HS.out
      injection e with e1 e2 e3
      subst e1
      obtain ⟨b, off, rfl, hb, hcell⟩ := ha (by omega)
      obtain ⟨c1, c2⟩ := hcell k hlt
      have c1 := (HB.out.cell (p := ⟨b, off + k * 2, none⟩) hb).trans c1
      have c2 := (HB.out.cell (p := ⟨b, off + k * 2 + 1, none⟩) hb).trans c2
      have hbw : b < wr.heap.size := by omega
      have HSN := Lib.hid (wrg_snoc P l p k hlt)
      have hwl : (wrg P (l.take k) p).length ≤ 1000 := by have := wrg_len P (l.take k) p; have h2 : (l.take k).length ≤ k := by simp; omega
                                                          omega
      obtain ⟨y, ey⟩ : ∃ y, y = l[k].1 := ⟨_, rfl⟩
      rw [← ey] at c1 HSN
      obtain ⟨kb, ekb⟩ : ∃ kb, kb = l[k].2 := ⟨_, rfl⟩
      rw [← ekb] at c2 HSN
      obtain ⟨W, eW⟩ : ∃ W : World, W = wr.alloc (.cells #[.int .i64 y, .bool kb] 140) := ⟨_, rfl⟩
      have HWa : Hid (wr.alloc (.cells #[.int .i64 y, .bool kb] 140) = W) := eW.symm
      have HOW : Hid (∀ s, wr.ownsRow w.heap.size 3 1 s (wrg P (l.take k) p).length ((wrg P (l.take k) p).map (Value.int .i64)) → W.ownsRow w.heap.size 3 1 s (wrg P (l.take k) p).length ((wrg P (l.take k) p).map (Value.int .i64))) := (show Hid _ from fun s h => by rw [eW]; exact h.alloc _)
      have HBW : Hid (Below w.heap.size w W) := (show Hid _ from by rw [eW]; exact HB.out.alloc hzr _)
      have HCW : Hid (W.heap[wr.heap.size]? = some (.cells #[.int .i64 y, .bool kb] 140 (0, 0))) := (show Hid _ from by show _ = _; rw [eW]; exact heap_alloc_new wr _)
      have hsW : wr.heap.size < W.heap.size := by rw [eW]; simp
      have HSpW : Hid (SI W (.slice Ap p.length cp) p) := (show Hid _ from HSp.out.below HBW.out)
      have x0 : W.cell? ⟨wr.heap.size, 0, none⟩ = some (.int .i64 y) := cell_of_row W wr.heap.size 0 _ _ _ HCW.out
      have x1 : W.cell? ⟨wr.heap.size, 1, none⟩ = some (.bool kb) := cell_of_row W wr.heap.size 1 _ _ _ HCW.out
      have hx : 0 ≤ (k : Int) + 1 ∧ (k : Int) + 1 < P := by omega
      have hwK : IntKind.i64.wrap ((k : Int) + 1) = (k : Int) + 1 := by exact IntWalk.i64_in _ (by omega)
      have hkn : (k : Int) + 1 ≤ 1000 := by omega
      obtain ⟨vv, evv⟩ : ∃ vv, vv = val P p ((k : Int) + 1) := ⟨_, rfl⟩
      rw [← evv] at HSN
      have HVV := Lib.hid evv
      have HVAL : Hid (∀ W' : World, SI W' (.slice Ap p.length cp) p → Calls Tryz.prog 54 #[.int .i64 P, .slice Ap p.length cp, .int .i64 ((k : Int) + 1)] W' fun e w' => e = .returned (.int .i64 vv) ∧ Below W'.heap.size W' w') := (show Hid _ from fun W' h => by rw [evv]; exact value_any P ((k : Int) + 1) p _ W' hP hx HEL.out hpl h)
      clear ha hcell e2 e3 ey ekb eW evv
      have hd : decide (k < l.length) = true := decide_eq_true hlt
      by_cases hh : kb = true ∧ vv ≠ y
      · obtain ⟨hk1, hv1⟩ := hh
        subst hk1
        have HSN2 : Hid (wrg P (l.take (k + 1)) p = wrg P (l.take k) p ++ [(k : Int) + 1]) := (show Hid _ from by show _ = _; rw [HSN.out, if_pos ⟨rfl, hv1⟩])
        have hne : (vv != y) = true := by simp [hv1]
        clear HSN hv1
        go_upto_region 5 with fail
        rw [HWa.out]
        go_region_held3 (fun w' => w'.cell? ⟨wr.heap.size, 0, none⟩ = some (.int .i64 y) ∧ w'.cell? ⟨wr.heap.size, 1, none⟩ = some (.bool true)) (first | exact ⟨x0, x1⟩ | exact ⟨z0, z1⟩ | go_keep)
          ((go_at_call 54; refine (HVAL.out _ (by exact HSpW.out)).mono ?_; rintro e w9 ⟨rfl, hb9⟩; have z0 : w9.cell? ⟨wr.heap.size, 0, none⟩ = some (.int .i64 y) := (hb9.cell (by exact hsW)).trans x0; have z1 : w9.cell? ⟨wr.heap.size, 1, none⟩ = some (.bool true) := (hb9.cell (by exact hsW)).trans x1; have HB9 : Hid (Below W.heap.size W w9) := (show Hid _ from ⟨hb9.os, hb9.tape, hb9.output, hb9.size, hb9.block⟩); clear hb9))
        all_goals
          have HO9 : Hid (w9.ownsRow w.heap.size 3 1 _ (wrg P (l.take k) p).length ((wrg P (l.take k) p).map (Value.int .i64))) := (show Hid _ from own_bel (HOW.out _ HO.out) HB9.out)
          have HB9w : Hid (Below w.heap.size w w9) := (show Hid _ from HBW.out.trans (HB9.out.mono HBW.out.size))
          have hz9 : w.heap.size ≤ w9.heap.size := HB9w.out.size
          go_wp2_with (at_builtin; refine wpList_append_int1 _ rfl _ _ 22 rfl w.heap.size 3 Tryz.underlying22 iinfo _ (wrg P (l.take k) p) rfl (by first | exact HO9.out | exact HO9.out.drew) ((k : Int) + 1) rfl (by omega) (by exact hz9) ?_; intro v8 w8 hown8 hg8; have HO8 := Lib.hid hown8; have HG8 : Hid ((w9.alloc (.cells #[.int .i64 ((k : Int) + 1)] 3)).grownBy w8 _) := (show Hid _ from ⟨hg8.os, hg8.tape, hg8.output, hg8.size, hg8.block⟩); clear hown8 hg8)
          go_roundw
          case rel =>
            refine ⟨k + 1, by omega, by go_num, by rw [HSN2.out]; exact HO8.out, ?_⟩
            exact (HB9w.out.alloc hz9 _).trans (⟨HG8.out.os, HG8.out.tape, HG8.out.output, HG8.out.size, fun i hi => HG8.out.block i (by simp; omega) (fun e1 => by have := (HO9.out.lt i e1.symm).1; omega)⟩)
          case measure => simp [intOf]; omega
      · have HSN2 : Hid (wrg P (l.take (k + 1)) p = wrg P (l.take k) p) := (show Hid _ from by show _ = _; rw [HSN.out, if_neg hh, List.append_nil])
        clear HSN
        cases kb with
        | false =>
          clear hh
          go_upto_region 5 with fail
          rw [HWa.out]
          go_quiet (fail)
          all_goals
            go_wp2_with fail
            go_roundw
            case rel => exact ⟨k + 1, by omega, by go_num, by rw [HSN2.out]; exact own_bel (HOW.out _ HO.out) (Below.drewN (Below.refl _ W) _), Below.drewN HBW.out _⟩
            case measure => simp [intOf]; omega
        | true =>
          have hv1 : vv = y := by
            by_cases e1 : vv = y
            · exact e1
            · exact absurd ⟨rfl, e1⟩ hh
          clear hh
          have HV1 := Lib.hid hv1
          have hne : (vv != y) = false := by rw [hv1]; simp
          clear hv1
          go_upto_region 5 with fail
          rw [HWa.out]
          go_region_held3 (fun w' => w'.cell? ⟨wr.heap.size, 0, none⟩ = some (.int .i64 y) ∧ w'.cell? ⟨wr.heap.size, 1, none⟩ = some (.bool true)) (first | exact ⟨x0, x1⟩ | exact ⟨z0, z1⟩ | go_keep)
            ((go_at_call 54; refine (HVAL.out _ (by exact HSpW.out)).mono ?_; rintro e w9 ⟨rfl, hb9⟩; have z0 : w9.cell? ⟨wr.heap.size, 0, none⟩ = some (.int .i64 y) := (hb9.cell (by exact hsW)).trans x0; have z1 : w9.cell? ⟨wr.heap.size, 1, none⟩ = some (.bool true) := (hb9.cell (by exact hsW)).trans x1; have HB9 : Hid (Below W.heap.size W w9) := (show Hid _ from ⟨hb9.os, hb9.tape, hb9.output, hb9.size, hb9.block⟩); clear hb9))
          all_goals
            have HB9w : Hid (Below w.heap.size w w9) := (show Hid _ from HBW.out.trans (HB9.out.mono HBW.out.size))
            go_wp2_with fail
            go_roundw
            case rel => exact ⟨k + 1, by omega, by go_num, by rw [HSN2.out]; first | exact own_bel (HOW.out _ HO.out) HB9.out | exact (own_bel (HOW.out _ HO.out) HB9.out).drew, by first | exact HB9w.out | exact HB9w.out.drew⟩
            case measure => simp [intOf]; omega
    · obtain rfl : l.length = k := by omega
      have htk : Hid (l.take l.length = l) := (show Hid _ from List.take_length)
      rw [htk.out] at HO
      go_wp2_with fail
      go_ret
      exact ⟨_, rfl, HO.out, HB.out⟩
end Go.Proofs.YtoiabanpnkpbhaaGreatDoor
