/- Joined: Dp Dq Gh Qr Rw. -/
import Derived.Test.YtoiabanpnkpbhaaGreatDoorY21
import Derived.Test.YtoiabanpnkpbhaaGreatDoorY22
import Derived.Test.YtoiabanpnkpbhaaGreatDoorY06
import Derived.Test.YtoiabanpnkpbhaaGreatDoorY14
namespace Go.Proofs.YtoiabanpnkpbhaaGreatDoor
open Go.RowKit

theorem longB_no {a b : List Int} (ha : a.length ≤ 512) (hb : b.length ≤ 512) : longB [a, b] = false := by
  unfold longB; simp; omega
theorem fi_good {P : Int} {l : List (Int × Bool)} {k : Int} (hp : prB P = true) (hl : l.length ≤ 32) (hlP : (l.length : Int) < P) (hv : ∀ j (h : j < l.length), l[j].2 = true → 0 ≤ l[j].1 ∧ l[j].1 < P) (hk1 : 1 ≤ k) (hk : k ≤ ((kn l).length : Int)) : fiE P l k = 0 := by
  have hkl : (kn l).length ≤ l.length := kn_len l 0
  have hel : ∀ t ∈ kn l, 1 ≤ t.1 ∧ t.1 ≤ (l.length : Int) ∧ 0 ≤ t.2 ∧ t.2 < P := fun t ht => by
    obtain ⟨j, hj, h1, rfl⟩ := kn_val l t ht
    have := hv j hj h1
    simp; omega
  have hce : ceE P l = 0 := by
    unfold ceE
    rw [hp, if_neg (by simp), if_neg (by omega), if_pos]
    rw [List.all_eq_true]
    intro t ht
    have := hel t ht
    exact el_mk (by omega)
  unfold fiE
  rw [if_pos hce, if_neg (by omega), if_neg (by omega)]
  have hmem : ∀ t ∈ (kn l).take k.toNat, t ∈ kn l := fun t ht => List.mem_of_mem_take ht
  have hX : els P (shX ((kn l).take k.toNat)) = true := els_of fun x hx => by
    obtain ⟨t, ht, rfl⟩ := List.mem_map.1 hx
    have := hel t (hmem t ht)
    exact el_mk (by omega)
  have hY : els P (shY ((kn l).take k.toNat)) = true := els_of fun x hx => by
    obtain ⟨t, ht, rfl⟩ := List.mem_map.1 hx
    have := hel t (hmem t ht)
    exact el_mk (by omega)
  have hop : opE P [shX ((kn l).take k.toNat), shY ((kn l).take k.toNat)] = 0 := by
    refine ((opE_end hp fun j hj => ?_).2 (longB_no ?_ ?_)).1
    · match j, hj with
      | 0, _ => exact hX
      | 1, _ => exact hY
    · unfold shX; rw [List.length_map, List.length_take]; omega
    · unfold shY; rw [List.length_map, List.length_take]; omega
  refine (inE_0 hop ?_).1
  have hpw := (knF_pw l 0)
  unfold shX
  rw [List.Nodup, List.pairwise_map]
  refine List.Pairwise.imp (fun {a b} h => ?_) (hpw.sublist (List.take_sublist _ _))
  exact fun e => by omega
theorem ez_trim (x : Int) : ∀ l : List Int, ez (trim l) x = ez l x
  | [] => rfl
  | c :: l => by
    rw [trim_cons]
    have ih := ez_trim x l
    by_cases h : c = 0 ∧ trim l = []
    · rw [if_pos h, ez_cons, ← ih, h.2, h.1, ez_nil]; simp
    · rw [if_neg h, ez_cons, ez_cons, ih]
theorem trim_trim (l : List Int) : trim (trim l) = trim l := by
  have h1 : ∀ l : List Int, trim (trim l) = trim l := by
    intro l
    induction l with
    | nil => rfl
    | cons c l ih =>
      rw [trim_cons]
      by_cases h : c = 0 ∧ trim l = []
      · rw [if_pos h]; rfl
      · rw [if_neg h, trim_cons, ih, if_neg h]
  exact h1 l
theorem gd_map_mod (P : Int) (l : List Int) (k : Nat) : gd (l.map (· % P)) k = gd l k % P := by
  unfold gd
  rw [List.getElem?_map]
  cases l[k]? with
  | none => simp
  | some y => rfl
theorem knC_len (l : List (Bool × List Int)) (c : Nat) : (kn (colC l c)).length = knL l := by
  have key : ∀ (l : List (Bool × List Int)) i, (knF i (colC l c)).length = knL l := by
    intro l
    induction l with
    | nil => intro i; simp [colC, knF, knL]
    | cons a l ih =>
      intro i
      have e : colC (a :: l) c = (if a.1 then gd a.2 c else 0, a.1) :: colC l c := rfl
      rw [e, knF, List.length_append, ih]
      unfold knL
      cases h : a.1 <;> simp [h]; omega
  exact key l 0
end Go.Proofs.YtoiabanpnkpbhaaGreatDoor

namespace Go.Proofs.YtoiabanpnkpbhaaGreatDoor
open Go.RowKit

theorem nodup_sub {α : Type} [DecidableEq α] : ∀ (a b : List α), a.Nodup → (∀ x ∈ a, x ∈ b) → a.length ≤ b.length
  | [], _, _, _ => by simp
  | x :: a, b, hd, hs => by
    have hx : x ∈ b := hs x (by simp)
    have h1 := nodup_sub a (b.erase x) (List.nodup_cons.1 hd).2 fun y hy => by
      have h2 : y ≠ x := fun e => (List.nodup_cons.1 hd).1 (e ▸ hy)
      exact (List.mem_erase_of_ne h2).2 (hs y (by simp [hy]))
    rw [List.length_erase_of_mem hx] at h1
    have : 0 < b.length := List.length_pos_of_mem hx
    simp; omega
theorem kn_mem {l : List (Int × Bool)} {j : Nat} (hj : j < l.length) (hb : l[j].2 = true) : ((j : Int) + 1, l[j].1) ∈ kn l := by
  have key : ∀ (l : List (Int × Bool)) i j (hj : j < l.length), l[j].2 = true → (((i + j : Nat) : Int) + 1, l[j].1) ∈ knF i l := by
    intro l
    induction l with
    | nil => intro i j hj; simp at hj
    | cons c l ih =>
      intro i j hj hb
      rw [knF, List.mem_append]
      cases j with
      | zero => left; simp at hb; simp [hb]
      | succ j =>
        right
        have := ih (i + 1) j (by simpa using hj) (by simpa using hb)
        have e : i + 1 + j = i + (j + 1) := by omega
        rw [e] at this
        simpa using this
  have := key l 0 j hj hb
  show _ ∈ knF 0 l
  simpa using this
theorem wrk_nodup (P : Int) (l : List (Int × Bool)) (p : List Int) : (wrg P l p).Nodup := by
  unfold wrg wrk
  rw [List.Nodup, List.pairwise_map]
  exact List.Pairwise.imp (fun {a b} h e => by omega) ((knF_pw l 0).sublist List.filter_sublist)
theorem wrg_mem {P : Int} {L : List (Bool × List Int)} {c : Nat} {p : List Int} {x : Int} : x ∈ wrg P (colC L c) p ↔ ∃ j, ∃ h : j < L.length, L[j].1 = true ∧ x = (j : Int) + 1 ∧ val P p x ≠ gd L[j].2 c := by
  constructor
  · intro hx
    obtain ⟨t, ht, rfl⟩ := List.mem_map.1 hx
    obtain ⟨h1, h2⟩ := List.mem_filter.1 ht
    obtain ⟨j, hj, h3, rfl⟩ := kn_val _ t h1
    have hj' : j < L.length := by rw [colC_length] at hj; exact hj
    rw [colC_get _ _ _ hj'] at h3 h2
    simp only at h3
    refine ⟨j, hj', h3, rfl, ?_⟩
    simp [h3] at h2
    exact h2
  · rintro ⟨j, hj, h1, rfl, h2⟩
    have hj' : j < (colC L c).length := by rw [colC_length]; exact hj
    have h3 := kn_mem (l := colC L c) hj' (by rw [colC_get _ _ _ hj]; exact h1)
    refine List.mem_map.2 ⟨_, List.mem_filter.2 ⟨h3, ?_⟩, rfl⟩
    rw [colC_get _ _ _ hj]
    simp [h1]
    exact h2
end Go.Proofs.YtoiabanpnkpbhaaGreatDoor

namespace Go.Proofs.YtoiabanpnkpbhaaGreatDoor
open Go.RowKit

/-- the coefficients of a group's polynomial, column c: k rows from row o on -/
def hCo (rows : List (List Int)) (o k c : Nat) : List Int := (List.range k).map fun i => gd (gr rows (o + i)) c
theorem hCo_len (rows : List (List Int)) (o k c : Nat) : (hCo rows o k c).length = k := by simp [hCo]
theorem hCo_succ (rows : List (List Int)) (o k c : Nat) : hCo rows o (k + 1) c = hCo rows o k c ++ [gd (gr rows (o + k)) c] := by unfold hCo; rw [List.range_succ, List.map_append]; rfl
theorem hCo_gd (rows : List (List Int)) (o k c i : Nat) : gd (hCo rows o k c) i = if i < k then gd (gr rows (o + i)) c else 0 := by
  by_cases h : i < k
  · rw [if_pos h, gd_lt (by rw [hCo_len]; exact h)]; simp [hCo]
  · rw [if_neg h, gd_ge (by rw [hCo_len]; omega)]
/-- what a server holds of the first k rows of a group -/
def hdT (P : Int) (rows : List (List Int)) (j : Int) (w o k : Nat) : List Int := (List.range k).foldl (fun L i => addT P L 0 (j ^ i % P) (gr rows (o + i))) (zeros w)
theorem hdT_succ (P : Int) (rows : List (List Int)) (j : Int) (w o k : Nat) : hdT P rows j w o (k + 1) = addT P (hdT P rows j w o k) 0 (j ^ k % P) (gr rows (o + k)) := by
  unfold hdT; rw [List.range_succ, List.foldl_append]; rfl
theorem hdT_len (P : Int) (rows : List (List Int)) (j : Int) (w o : Nat) : ∀ k, (hdT P rows j w o k).length = w
  | 0 => by simp [hdT, zeros]
  | k + 1 => by rw [hdT_succ, addT_len]; exact hdT_len ..
theorem hdT_els {P : Int} (hP : 2 ≤ P) (rows : List (List Int)) (j : Int) (w o : Nat) : ∀ k, els P (hdT P rows j w o k) = true
  | 0 => zeros_els hP _
  | k + 1 => by rw [hdT_succ]; exact addT_els hP (hdT_els hP rows j w o k) ..
theorem ez_snoc (l : List Int) (y x : Int) : ez (l ++ [y]) x = ez l x + x ^ l.length * y := by rw [ez_app]; simp [ez]
theorem hdT_ez {P : Int} {rows : List (List Int)} {j : Int} {w o c : Nat} (hw : ∀ r ∈ rows, r.length = w) (hc : c < w) : ∀ k, o + k ≤ rows.length → P ∣ gd (hdT P rows j w o k) c - ez (hCo rows o k c) j
  | 0, _ => by
    have : gd (zeros w) c = 0 := by unfold gd zeros; rw [List.getElem?_replicate]; split <;> rfl
    show P ∣ gd (zeros w) c - ez [] j
    rw [this, ez_nil]; exact ⟨0, by simp⟩
  | k + 1, h => by
    have ih := hdT_ez (P := P) (j := j) (o := o) hw hc k (by omega)
    have hrl : (gr rows (o + k)).length = w := by
      unfold gr; rw [List.getElem?_eq_getElem (show o + k < rows.length by omega)]
      exact hw _ (List.getElem_mem _)
    rw [hdT_succ, hCo_succ, addT_gd _ _ _ _ _ (by rw [hdT_len, hrl]; omega), if_pos (by rw [hrl]; omega), ez_snoc, hCo_len, Nat.sub_zero]
    have h2 := mod_dvd P (gd (hdT P rows j w o k) c + j ^ k % P * gd (gr rows (o + k)) c)
    have h3 := dvl (k := gd (gr rows (o + k)) c) (mod_dvd P (j ^ k))
    refine dvd_of_eq' (Int.dvd_add (Int.dvd_add h2 ih) h3) ?_
    rw [Int.sub_mul]
    omega
/-- the rows of group g, of G rows each -/
def gSz (len G g : Nat) : Nat := min G (len - g * G)
/-- what a server holds of a table -/
def hRows (P : Int) (rows : List (List Int)) (j : Int) (w G n : Nat) : List (List Int) := (List.range n).map fun g => hdT P rows j w (g * G) (gSz rows.length G g)
theorem hRows_len (P : Int) (rows : List (List Int)) (j : Int) (w G n : Nat) : (hRows P rows j w G n).length = n := by simp [hRows]
theorem hRows_gr (P : Int) (rows : List (List Int)) (j : Int) (w G n g : Nat) (h : g < n) : gr (hRows P rows j w G n) g = hdT P rows j w (g * G) (gSz rows.length G g) := by
  unfold gr hRows; rw [List.getElem?_map, List.getElem?_range h]; rfl
theorem hRows_mem {P : Int} (hP : 2 ≤ P) {rows : List (List Int)} {j : Int} {w G n : Nat} : ∀ r ∈ hRows P rows j w G n, r.length = w ∧ els P r = true := fun r hr => by
  obtain ⟨g, _, rfl⟩ := List.mem_map.1 hr
  exact ⟨hdT_len .., hdT_els hP ..⟩
/-- what was drawn for group g -/
def gSl (D : List Int) (t g : Nat) : List Int := (D.drop (g * t)).take t
theorem gSl_len (D : List Int) (t g : Nat) : (gSl D t g).length ≤ t := by unfold gSl; simp; omega
/-- a query's element for group g, to server j -/
def gPt (P want : Int) (D : List Int) (t G g : Nat) (j : Int) : Int := if (g : Int) = want then ((j ^ G % P) * val P (gSl D t g) j % P + 1) % P else (j ^ G % P) * val P (gSl D t g) j % P
def gRow (P want : Int) (D : List Int) (t G k c : Nat) : List Int := (List.range c).map fun g => gPt P want D t G g ((k : Int) + 1)
def gRows (P want : Int) (D : List Int) (t G n c : Nat) : List (List Int) := (List.range n).map fun k => gRow P want D t G k c
theorem gRow_len (P want : Int) (D : List Int) (t G k c : Nat) : (gRow P want D t G k c).length = c := by simp [gRow]
theorem gRows_len (P want : Int) (D : List Int) (t G n c : Nat) : (gRows P want D t G n c).length = n := by simp [gRows]
theorem gRow_succ (P want : Int) (D : List Int) (t G k c : Nat) : gRow P want D t G k (c + 1) = gRow P want D t G k c ++ [gPt P want D t G c ((k : Int) + 1)] := by
  unfold gRow; rw [List.range_succ, List.map_append]; rfl
theorem gRows_succ (P want : Int) (D : List Int) (t G n c : Nat) : gRows P want D t G (n + 1) c = gRows P want D t G n c ++ [gRow P want D t G n c] := by
  unfold gRows; rw [List.range_succ, List.map_append]; rfl
theorem gRow_gd (P want : Int) (D : List Int) (t G k c m : Nat) (h : m < c) : gd (gRow P want D t G k c) m = gPt P want D t G m ((k : Int) + 1) := by
  unfold gRow gd
  rw [List.getElem?_map, List.getElem?_range h]; rfl
theorem gPt_bd {P : Int} (hP : 2 ≤ P) (want : Int) (D : List Int) (t G g : Nat) (j : Int) : 0 ≤ gPt P want D t G g j ∧ gPt P want D t G g j < P := by
  unfold gPt
  split
  · exact ⟨Int.emod_nonneg _ (by omega), Int.emod_lt_of_pos _ (by omega)⟩
  · exact ⟨Int.emod_nonneg _ (by omega), Int.emod_lt_of_pos _ (by omega)⟩
theorem gRow_els {P : Int} (hP : 2 ≤ P) (want : Int) (D : List Int) (t G k c : Nat) : els P (gRow P want D t G k c) = true := els_of fun x hx => by
  obtain ⟨g, _, rfl⟩ := List.mem_map.1 hx
  exact el_mk (gPt_bd hP ..)
/-- 1 at the wanted group -/
def dlt (want g : Nat) : Int := if g = want then 1 else 0
theorem gPt_ez (P : Int) (want : Nat) (D : List Int) (t G g : Nat) (j : Int) : P ∣ gPt P want D t G g j - (dlt want g + j ^ G * ez (gSl D t g) j) := by
  have h1 := mod_dvd P ((j ^ G % P) * val P (gSl D t g) j)
  have h2 := dvl (k := val P (gSl D t g) j) (mod_dvd P (j ^ G))
  have h3 := dvr (k := j ^ G) (mod_dvd P (ez (gSl D t g) j))
  rw [← val_ez] at h3
  have h4 := Int.dvd_add (Int.dvd_add h1 h2) h3
  rw [Int.sub_mul, Int.mul_sub] at h4
  unfold gPt dlt
  by_cases h : g = want
  · subst h
    rw [if_pos rfl, if_pos rfl]
    have h5 := mod_dvd P ((j ^ G % P) * val P (gSl D t g) j % P + 1)
    exact dvd_of_eq' (Int.dvd_add h5 h4) (by omega)
  · rw [if_neg (by omega), if_neg h]
    exact dvd_of_eq' h4 (by omega)
/-- the product of a group's polynomial and its query's -/
def gPr (d : Int) (G : Nat) (h s : List Int) : List Int := az_add (zmul d h) (zeros G ++ mulz h s)
theorem gPr_ez (d : Int) (G : Nat) (h s : List Int) (x : Int) : ez (gPr d G h s) x = ez h x * (d + x ^ G * ez s x) := by
  unfold gPr
  have e : (zeros G).length = G := by simp [zeros]
  rw [add_ez, zmul_ez, ez_app, ez_zeros, e, mulz_ez, Int.mul_add, Int.mul_left_comm, Int.mul_comm d, Int.mul_comm (x ^ G)]
  have e2 : x ^ G * (ez h x * ez s x) = ez h x * (ez s x * x ^ G) := by rw [Int.mul_left_comm, Int.mul_comm (x ^ G)]
  omega
theorem mulz_nil (h : List Int) : (mulz h []).length ≤ h.length := by
  induction h with
  | nil => simp [mulz]
  | cons c l ih => simp only [mulz, add_len, zmul_len, List.length_cons, List.length_nil]; omega
theorem gPr_len (d : Int) (G t : Nat) (h s : List Int) (hh : h.length ≤ G) (hs : s.length ≤ t) (ht : 1 ≤ t) (hG : 1 ≤ G) : (gPr d G h s).length ≤ 2 * G + t - 1 := by
  unfold gPr
  have e : (zeros G).length = G := by simp [zeros]
  rw [add_len, zmul_len, List.length_append, e]
  by_cases hn : s = []
  · subst hn
    have := mulz_nil h
    omega
  · rw [mulz_len _ _ hn]
    split
    · omega
    · omega
theorem gPr_low (d : Int) (G : Nat) (h s : List Int) (k : Nat) (hk : k < G) : gd (gPr d G h s) k = d * gd h k := by
  unfold gPr
  have e : (zeros G).length = G := by simp [zeros]
  rw [add_gd, zmul_gd, gd_app, if_pos (by rw [e]; exact hk)]
  have : gd (zeros G) k = 0 := by unfold gd zeros; rw [List.getElem?_replicate]; split <;> rfl
  rw [this]; omega
/-- the sum over the groups -/
def cgm (want : Nat) (D : List Int) (t G : Nat) (rows : List (List Int)) (c m : Nat) : List Int := (List.range m).foldl (fun A g => az_add A (gPr (dlt want g) G (hCo rows (g * G) (gSz rows.length G g) c) (gSl D t g))) []
theorem cgm_succ (want : Nat) (D : List Int) (t G : Nat) (rows : List (List Int)) (c m : Nat) : cgm want D t G rows c (m + 1) = az_add (cgm want D t G rows c m) (gPr (dlt want m) G (hCo rows (m * G) (gSz rows.length G m) c) (gSl D t m)) := by
  unfold cgm; rw [List.range_succ, List.foldl_append]; rfl
theorem gSz_le (len G g : Nat) : gSz len G g ≤ G := by unfold gSz; omega
theorem cgm_len (want : Nat) (D : List Int) {t G : Nat} (rows : List (List Int)) (c : Nat) (ht : 1 ≤ t) (hG : 1 ≤ G) : ∀ m, (cgm want D t G rows c m).length ≤ 2 * G + t - 1
  | 0 => by simp [cgm]
  | m + 1 => by
    rw [cgm_succ, add_len]
    have := cgm_len want D rows c ht hG m
    have h2 := gPr_len (dlt want m) G t (hCo rows (m * G) (gSz rows.length G m) c) (gSl D t m) (by rw [hCo_len]; exact gSz_le ..) (gSl_len ..) ht hG
    omega
theorem cgm_low (want : Nat) (D : List Int) {t G : Nat} (rows : List (List Int)) (c : Nat) {k : Nat} (hk : k < G) : ∀ m, gd (cgm want D t G rows c m) k = if want < m then gd (hCo rows (want * G) (gSz rows.length G want) c) k else 0
  | 0 => by simp [cgm, gd]
  | m + 1 => by
    rw [cgm_succ, add_gd, gPr_low _ _ _ _ _ hk, cgm_low want D rows c hk m]
    unfold dlt
    by_cases e : m = want
    · subst e; simp
    · by_cases e2 : want < m
      · have e3 : want < m + 1 := by omega
        simp [e2, e, e3]
      · have e3 : ¬ want < m + 1 := by omega
        simp [e2, e, e3]
/-- the polynomial of column c -/
def Gc (P : Int) (want : Nat) (D : List Int) (t G : Nat) (rows : List (List Int)) (c n : Nat) : List Int := trim ((cgm want D t G rows c n).map (· % P))
theorem Gc_els {P : Int} (hP : 2 ≤ P) (want : Nat) (D : List Int) (t G : Nat) (rows : List (List Int)) (c n : Nat) : els P (Gc P want D t G rows c n) = true := trim_els (els_of fun x hx => by
  obtain ⟨y, _, rfl⟩ := List.mem_map.1 hx
  exact el_mod hP y)
theorem Gc_len (P : Int) (want : Nat) (D : List Int) {t G : Nat} (rows : List (List Int)) (c n : Nat) (ht : 1 ≤ t) (hG : 1 ≤ G) : (Gc P want D t G rows c n).length ≤ 2 * G + t - 1 := by
  refine Nat.le_trans (trim_len _) ?_
  rw [List.length_map]; exact cgm_len _ _ _ _ ht hG _
theorem gr_gd_els {P : Int} (hP : 2 ≤ P) {rows : List (List Int)} (he : ∀ r ∈ rows, els P r = true) (m c : Nat) : 0 ≤ gd (gr rows m) c ∧ gd (gr rows m) c < P := by
  unfold gr
  cases h : rows[m]? with
  | none => simp [gd]; omega
  | some r => exact el_t (els_gd hP (he r (List.mem_of_getElem? h)) c)
theorem Gc_low {P : Int} (hP : 2 ≤ P) {want : Nat} {D : List Int} {t G : Nat} {rows : List (List Int)} {c n k : Nat} (hk : k < G) (hn : want < n) (he : ∀ r ∈ rows, els P r = true) : gd (Gc P want D t G rows c n) k = gd (gr rows (want * G + k)) c := by
  unfold Gc
  rw [trim_gd, gd_map_mod, cgm_low want D rows c hk, if_pos hn, hCo_gd]
  by_cases h : k < gSz rows.length G want
  · rw [if_pos h]
    have := gr_gd_els hP he (want * G + k) c
    exact Int.emod_eq_of_lt this.1 this.2
  · rw [if_neg h]
    have h2 : rows.length ≤ want * G + k := by unfold gSz at h; omega
    unfold gr
    rw [List.getElem?_eq_none h2]
    simp [gd]
theorem Gc_cz {P : Int} {want : Nat} {D : List Int} {t w G c n : Nat} {rows : List (List Int)} {j : Nat} (hw : ∀ r ∈ rows, r.length = w) (hc : c < w) (hn : n * G < rows.length + G) :
    ∀ m, m ≤ n → P ∣ gd (cmbT P (gRow P want D t G j n) (hRows P rows ((j : Int) + 1) w G n) w m) c - ez (cgm want D t G rows c m) ((j : Int) + 1)
  | 0, _ => by
    have : gd (zeros w) c = 0 := by unfold gd zeros; rw [List.getElem?_replicate]; split <;> rfl
    show P ∣ gd (zeros w) c - ez [] _
    rw [this, ez_nil]; exact ⟨0, by simp⟩
  | m + 1, h1 => by
    have ih := Gc_cz (P := P) (want := want) (D := D) (t := t) (j := j) hw hc hn m (by omega)
    have hg : m * G ≤ rows.length := by
      have : (m + 1) * G ≤ n * G := Nat.mul_le_mul_right _ h1
      rw [Nat.add_mul] at this
      omega
    have hsz : m * G + gSz rows.length G m ≤ rows.length := by unfold gSz; omega
    rw [cmbT_succ, cgm_succ, hRows_gr _ _ _ _ _ _ _ (by omega), gRow_gd _ _ _ _ _ _ _ _ (by omega), addT_gd _ _ _ _ _ (by rw [cmbT_len, hdT_len]; omega), if_pos (by rw [hdT_len]; omega), Nat.sub_zero, add_ez, gPr_ez]
    have k2 := mod_dvd P (gd (cmbT P (gRow P want D t G j n) (hRows P rows ((j : Int) + 1) w G n) w m) c + gPt P want D t G m ((j : Int) + 1) * gd (hdT P rows ((j : Int) + 1) w (m * G) (gSz rows.length G m)) c)
    have k3 := dvl (k := gd (hdT P rows ((j : Int) + 1) w (m * G) (gSz rows.length G m)) c) (gPt_ez P want D t G m ((j : Int) + 1))
    have k4 := dvr (k := dlt want m + ((j : Int) + 1) ^ G * ez (gSl D t m) ((j : Int) + 1)) (hdT_ez (P := P) (j := (j : Int) + 1) hw hc _ hsz)
    generalize gPt P want D t G m ((j : Int) + 1) = q at *
    generalize gd (hdT P rows ((j : Int) + 1) w (m * G) (gSz rows.length G m)) c = hh at *
    generalize ez (hCo rows (m * G) (gSz rows.length G m) c) ((j : Int) + 1) = hz at *
    generalize dlt want m + ((j : Int) + 1) ^ G * ez (gSl D t m) ((j : Int) + 1) = qz at *
    generalize gd (cmbT P (gRow P want D t G j n) (hRows P rows ((j : Int) + 1) w G n) w m) c = A at *
    refine dvd_of_eq' (Int.dvd_add (Int.dvd_add (Int.dvd_add k2 ih) k3) k4) ?_
    rw [Int.sub_mul, Int.mul_sub, Int.mul_comm qz hh, Int.mul_comm qz hz]
    omega
theorem Gc_val {P : Int} {want : Nat} {D : List Int} {t w G c n : Nat} {rows : List (List Int)} {j : Nat} (hP : 2 ≤ P) (hw : ∀ r ∈ rows, r.length = w) (hc : c < w) (hn : n * G < rows.length + G) :
    val P (Gc P want D t G rows c n) ((j : Int) + 1) = gd (cmb P (gRow P want D t G j n) (hRows P rows ((j : Int) + 1) w G n) w) c := by
  have h1 := Gc_cz (P := P) (want := want) (D := D) (t := t) (j := j) hw hc hn n (Nat.le_refl _)
  have h2 := el_t (els_gd hP (cmbT_els hP (gRow P want D t G j n) (hRows P rows ((j : Int) + 1) w G n) w n) c)
  unfold Gc cmb
  rw [hRows_len, val_ez, ez_trim]
  obtain ⟨k1, hk1⟩ := h1
  obtain ⟨k2, hk2⟩ := ez_modm (P := P) (cgm want D t G rows c n) ((j : Int) + 1)
  have e : ez ((cgm want D t G rows c n).map (· % P)) ((j : Int) + 1) = gd (cmbT P (gRow P want D t G j n) (hRows P rows ((j : Int) + 1) w G n) w n) c + P * (k2 - k1) := by rw [Int.mul_sub]; omega
  rw [e, Int.add_mul_emod_self_left]
  exact Int.emod_eq_of_lt h2.1 h2.2
end Go.Proofs.YtoiabanpnkpbhaaGreatDoor

namespace Go.Proofs.YtoiabanpnkpbhaaGreatDoor
open Go.RowKit Go.Shelf

/-- block G holds the headers vs; each header's row is owned above G; no two share a block -/
structure QR (G : Nat) (w : World) (vs : List Value) (rows : List (List Int)) : Prop where
  cells : w.heap[G]? = some (.cells vs.toArray 22 (0, 0))
  len : vs.length = rows.length
  own : ∀ k (h : k < vs.length) (h' : k < rows.length), w.ownsRow (G + 1) 3 1 vs[k] rows[k].length (rows[k].map (Value.int .i64))
  apart : ∀ i j (hi : i < vs.length) (hj : j < vs.length), i ≠ j → ∀ b, vs[i].ownBlock = some b → vs[j].ownBlock ≠ some b
theorem QR.lt {G : Nat} {w : World} {vs : List Value} {rows : List (List Int)} (h : QR G w vs rows) : G < w.heap.size := heap_of_cells h.cells
theorem QR.below {G : Nat} {w w' : World} {vs : List Value} {rows : List (List Int)} (h : QR G w vs rows) (hb : Below w.heap.size w w') : QR G w' vs rows :=
  ⟨(hb.block G h.lt).trans h.cells, h.len, fun k h1 h2 => own_bel (h.own k h1 h2) hb, h.apart⟩
theorem QR.set3 {G : Nat} {w : World} {vs : List Value} {rows : List (List Int)} (h : QR G w vs rows) {p : Addr} (hp : p.block < G) (u : Value) : QR G (w.setCell p u) vs rows :=
  ⟨(heap_setCell_other w p G u (by omega)).trans h.cells, h.len, fun k h1 h2 => own_set3 (h.own k h1 h2) (by omega) u, h.apart⟩
theorem QR.alloc {G : Nat} {w : World} {vs : List Value} {rows : List (List Int)} (h : QR G w vs rows) (o : Obj) : QR G (w.alloc o) vs rows := h.below ((Below.refl _ w).alloc (Nat.le_refl _) o)
theorem QR.drew {G : Nat} {w : World} {vs : List Value} {rows : List (List Int)} (h : QR G w vs rows) : QR G w.drew vs rows := h.below (Below.refl _ w).drew
theorem QR.cell {G : Nat} {w : World} {vs : List Value} {rows : List (List Int)} (h : QR G w vs rows) {k : Nat} (hk : k < vs.length) : w.cell? ⟨G, k, none⟩ = some vs[k] :=
  cell_of_row w G k _ _ _ (by rw [h.cells]) |>.trans (by simp)
theorem QR.frozen {G : Nat} {w : World} {vs : List Value} {rows : List (List Int)} (h : QR G w vs rows) (k : Nat) : w.frozen? ⟨G, k, none⟩ = false := frozen_of_row w G k _ _ h.cells
/-- one row lengthened and its header laid -/
theorem QR.push {G : Nat} {w w2 : World} {vs : List Value} {rows : List (List Int)} (h : QR G w vs rows) {k : Nat} (hk : k < vs.length) (hk' : k < rows.length) {v' : Value} {y : Int}
    (hown : w2.ownsRow (G + 1) 3 1 v' (rows[k] ++ [y]).length ((rows[k] ++ [y]).map (Value.int .i64)))
    (hg : w.grownBy w2 vs[k].ownBlock) (hat : ∀ b, v'.ownBlock = some b → vs[k].ownBlock = some b ∨ w.heap.size ≤ b) :
    QR G (w2.setCell ⟨G, k, none⟩ v') (vs.set k v') (rows.set k (rows[k] ++ [y])) := by
  have hGo : ∀ b, vs[k].ownBlock = some b → G + 1 ≤ b := fun b hb => ((h.own k hk hk').lt b hb).1
  have hG2 : w2.heap[G]? = some (.cells vs.toArray 22 (0, 0)) := (hg.block G h.lt (fun e => by have := hGo G e.symm; omega)).trans h.cells
  refine ⟨?_, by simp [h.len], ?_, ?_⟩
  · have := heap_setCell_same w2 G k _ _ v' hG2
    simpa using this
  · intro j h1 h2
    by_cases hj : j = k
    · subst hj
      simp only [List.getElem_set_self]
      exact own_set3 hown (by show G < G + 1; omega) v'
    · simp only [List.getElem_set_ne (Ne.symm hj)]
      have hjv : j < vs.length := by simpa using h1
      have hjr : j < rows.length := by simpa using h2
      refine own_set3 ?_ (by show G < G + 1; omega) v'
      have ho := h.own j hjv hjr
      refine ⟨ho.1, ?_⟩
      rcases ho.2 with hn | ⟨g, cap, cur, he, hb, hgg, rest⟩
      · exact .inl hn
      · refine .inr ⟨g, cap, cur, he, hb, (hg.block g (heap_of_cells hgg) (fun e => ?_)).trans hgg, rest⟩
        exact h.apart k j hk hjv (Ne.symm hj) g e.symm (by rw [he]; rfl)
  · intro i j hi hj hij b hbi hbj
    have hi' : i < vs.length := by simpa using hi
    have hj' : j < vs.length := by simpa using hj
    have key : ∀ j (hj : j < vs.length), j ≠ k → ∀ b, v'.ownBlock = some b → vs[j].ownBlock ≠ some b := by
      intro j hj hjk b h1 h2
      rcases hat b h1 with h3 | h3
      · exact h.apart k j hk hj (Ne.symm hjk) b h3 h2
      · have := ((h.own j hj (by rw [← h.len]; exact hj)).lt b h2).2
        omega
    by_cases hik : i = k
    · subst hik
      simp only [List.getElem_set_self] at hbi
      rw [List.getElem_set_ne hij] at hbj
      exact key j hj' (Ne.symm hij) b hbi hbj
    · rw [List.getElem_set_ne (Ne.symm hik)] at hbi
      by_cases hjk : j = k
      · subst hjk
        simp only [List.getElem_set_self] at hbj
        exact key i hi' hik b hbj hbi
      · rw [List.getElem_set_ne (Ne.symm hjk)] at hbj
        exact h.apart i j hi' hj' hij b hbi hbj
/-- one round: a row lengthened behind a literal, its header laid; another block bs stays -/
theorem QR.round {G bs : Nat} {wd wx wy : World} {vs : List Value} {rows : List (List Int)} (h : QR G wx vs rows) {j : Nat} (hjv : j < vs.length) (hjr : j < rows.length) {u : Value} (hvj : vs[j] = u) {R : List Int} (hR : rows[j] = R) {y : Int} {gg cap2 : Nat} {o : Obj}
    (hown : wy.ownsRow (G + 1) 3 1 (.slice (some ⟨gg, 0, none⟩) (R ++ [y]).length cap2) (R ++ [y]).length ((R ++ [y]).map (Value.int .i64)))
    (hg : (wx.alloc o).drew.grownBy wy u.ownBlock) (hat : u.ownBlock = some gg ∨ gg = (wx.alloc o).drew.heap.size)
    (hB : Below G wd wx) (hbs : bs < wx.heap.size) (hbG : bs ≠ G) (hnb : ∀ k (h : k < vs.length), vs[k].ownBlock ≠ some bs) :
    Hid (QR G (wy.setCell ⟨G, j, none⟩ (.slice (some ⟨gg, 0, none⟩) (R ++ [y]).length cap2)) (vs.set j (.slice (some ⟨gg, 0, none⟩) (R ++ [y]).length cap2)) (rows.set j (R ++ [y]))) ∧
    Hid (Below G wd (wy.setCell ⟨G, j, none⟩ (.slice (some ⟨gg, 0, none⟩) (R ++ [y]).length cap2))) ∧
    Hid ((wy.setCell ⟨G, j, none⟩ (.slice (some ⟨gg, 0, none⟩) (R ++ [y]).length cap2)).heap[bs]? = wx.heap[bs]?) ∧
    Hid (∀ k (h : k < (vs.set j (.slice (some ⟨gg, 0, none⟩) (R ++ [y]).length cap2)).length), (vs.set j (.slice (some ⟨gg, 0, none⟩) (R ++ [y]).length cap2))[k].ownBlock ≠ some bs) := by
  subst hvj hR
  have hsz : (wx.alloc o).drew.heap.size = wx.heap.size + 1 := by show (wx.alloc o).heap.size = _; simp
  refine ⟨?_, ?_, ?_, ?_⟩
  · show QR _ _ _ _
    refine QR.push (h.alloc o).drew hjv hjr hown hg (fun b hb => ?_)
    have hb' : gg = b := by injection hb
    subst hb'
    rcases hat with h | h
    · exact .inl h
    · right; rw [h]; exact Nat.le_refl _
  · show Below _ _ _
    exact (((hB.alloc (by have := h.lt; omega) o).drew).grown hg (by have := h.lt; omega) (fun k hk => by have := ((h.own j hjv hjr).lt k hk).1; omega)).setCell (Nat.le_refl _) _
  · show _ = _
    rw [heap_setCell_other _ _ bs _ hbG]
    refine (hg.block bs (by omega) (fun e => hnb j hjv e.symm)).trans ?_
    exact Below.heap_alloc wx _ _ hbs
  · intro k hk e
    have hk' : k < vs.length := by simpa using hk
    by_cases hkj : k = j
    · subst hkj
      rw [List.getElem_set_self] at e
      have e' : gg = bs := by injection e
      rcases hat with h | h
      · exact hnb k hjv (by rw [h, e'])
      · omega
    · rw [List.getElem_set_ne (Ne.symm hkj)] at e
      exact hnb k hk' e
/-- n empty rows -/
theorem QR.made (w : World) (n : Nat) : QR w.heap.size (w.alloc (.cells (List.replicate n (.slice none 0 0)).toArray 22)) (List.replicate n (.slice none 0 0)) (List.replicate n []) := by
  refine ⟨heap_alloc_new w _, by simp, fun k h1 h2 => ?_, fun i j hi hj _ b hb => ?_⟩
  · simp only [List.getElem_replicate]
    exact World.ownsRow_nil _ _ _ _
  · simp [Value.ownBlock] at hb
theorem QR.sl {G : Nat} {w : World} {vs : List Value} {rows : List (List Int)} (h : QR G w vs rows) (hr : ∀ r ∈ rows, ∀ x ∈ r, i64r x) (hm : rows.length ≤ 1000000) : SL w (.slice (some ⟨G, 0, none⟩) rows.length rows.length) rows := by
  refine ⟨_, rows.length, rfl, Nat.le_refl _, by omega, fun h0 => ⟨G, 0, rfl, h.lt, fun j hj => ?_⟩⟩
  have hjv : j < vs.length := by rw [h.len]; exact hj
  have ho := h.own j hjv hj
  obtain ⟨B, d, hv⟩ := own_sl ho
  refine ⟨B, d, ?_, ?_⟩
  · rw [← hv, Nat.zero_add]; exact h.cell hjv
  · rw [← hv]; exact SI.of_own ho (hr _ (List.getElem_mem hj))
theorem madeRows (n : Nat) : madeCells #[Value.slice none 0 0] n = (List.replicate n (Value.slice none 0 0)).toArray := by
  apply Array.toList_inj.1
  rw [toList_madeCells_one]
/-- make([][]int, n) -/
theorem wpList_make_rows {P : Program} (w : World) {ops : Array Oper} {rest : List Oper} {o : Oper} {a : Act} {Q : Exit → Act → World → Prop}
    (hg : o.guard = none) (l c : Operand) (t : TypeId) (hop : o.op = Op.makeSlice t l c) (e : TypeId) (ht : P.underlying t = some (.slice e)) (hinfo : (P.info? e).map (fun i => (i.zero, i.size, i.bytes)) = some (some (.slice none 0 0), 1, 24))
    (L : Int) (n : Nat) (hl : a.eval l = .int .i64 L) (hc : a.eval c = .int .i64 L) (hL : L = (n : Int)) (hn : n ≤ 10000000)
    (hK : wpList P ops Q rest (a.put o.dst (.slice (some ⟨w.heap.size, 0, none⟩) n n)) (w.alloc (.cells (List.replicate n (.slice none 0 0)).toArray e))) :
    wpList P ops Q (o :: rest) a w := by
  obtain ⟨i0, hi0, hz0, hz1, hz2⟩ := info_parts hinfo
  subst hL
  have hrun := run_makeSlice (P := P) w t e i0 _ ht hi0 hz0 .i64 .i64 n n (by omega) (Int.le_refl _) (by rw [hz1]; simp; omega) (by rw [hz2]; omega) (by omega)
  simp only [Int.toNat_natCast] at hrun
  rw [hz1, Nat.mul_one] at hrun
  have hm : madeCells (Value.slice none 0 0).cells n = (List.replicate n (.slice none 0 0)).toArray := madeRows n
  rw [hm] at hrun
  refine wpList_plain hg fun K hK' => ?_
  unfold Oper.wp
  simp [execOp, hop, hl, hc, hrun, Result.andThen]
  exact hK' _ _ hK
end Go.Proofs.YtoiabanpnkpbhaaGreatDoor

namespace Go.Proofs.YtoiabanpnkpbhaaGreatDoor
open Go.RowKit

/-- a slice of rows outside block g -/
def SLE (g : Nat) (w : World) (v : Value) (rows : List (List Int)) : Prop :=
  ∃ A c, v = .slice A rows.length c ∧ rows.length ≤ c ∧ c ≤ 9223372036854775807 ∧
    (0 < rows.length → ∃ b off, A = some ⟨b, off, none⟩ ∧ b < w.heap.size ∧ b ≠ g ∧ ∀ j (h : j < rows.length), ∃ B d, w.cell? ⟨b, off + j, none⟩ = some (.slice B rows[j].length d) ∧ SE g w (.slice B rows[j].length d) rows[j])
theorem SLE.grown {g : Nat} {w w' : World} {v : Value} {rows : List (List Int)} (h : SLE g w v rows) (hg : w.grownBy w' (some g)) : SLE g w' v rows := by
  obtain ⟨A, c, rfl, hc, hm, ha⟩ := h
  refine ⟨A, c, rfl, hc, hm, fun h0 => ?_⟩
  obtain ⟨b, off, rfl, hb, hbg, hcell⟩ := ha h0
  refine ⟨b, off, rfl, by have := hg.size; omega, hbg, fun j hj => ?_⟩
  obtain ⟨B, d, h1, h2⟩ := hcell j hj
  exact ⟨B, d, (World.cell?_of_block (hg.block b hb (by simp; exact hbg))).trans h1, h2.grown hg⟩
theorem SLE.below {g : Nat} {w w' : World} {v : Value} {rows : List (List Int)} (h : SLE g w v rows) (hb : Below w.heap.size w w') : SLE g w' v rows := h.grown (grownBy_of_below hb _)
theorem SLE.sl {g : Nat} {w : World} {v : Value} {rows : List (List Int)} (h : SLE g w v rows) : SL w v rows := by
  obtain ⟨A, c, rfl, hc, hm, ha⟩ := h
  refine ⟨A, c, rfl, hc, hm, fun h0 => ?_⟩
  obtain ⟨b, off, rfl, hb, hbg, hcell⟩ := ha h0
  refine ⟨b, off, rfl, hb, fun j hj => ?_⟩
  obtain ⟨B, d, h1, h2⟩ := hcell j hj
  exact ⟨B, d, h1, h2.si⟩
theorem SLE.form {g : Nat} {w : World} {v : Value} {rows : List (List Int)} (h : SLE g w v rows) : ∃ A c, v = .slice A rows.length c := by
  obtain ⟨A, c, rfl, _⟩ := h; exact ⟨A, c, rfl⟩
theorem SX.se {W : World} {X : Option Nat} {g : Nat} {v : Value} {l : List Int} (h : SX W X (some g) v l) : SE g W v l := by
  obtain ⟨A, c, rfl, hc, hm, hr, ha⟩ := h
  refine ⟨A, c, rfl, hc, hm, hr, fun h0 => ?_⟩
  obtain ⟨b, off, rfl, hbl, _, hy, hcell⟩ := ha h0
  exact ⟨b, off, rfl, hbl, fun e => hy (by rw [e]), hcell⟩
/-- rows under construction: own headers pv, each row outside pv's block and outside g -/
structure RW (G g : Nat) (W : World) (pv : Value) (vs : List Value) (ps : List (List Int)) : Prop where
  len : vs.length = ps.length
  hdr : W.ownsRow G 22 1 pv vs.length vs
  row : ∀ j (h : j < vs.length) (h' : j < ps.length), SX W pv.ownBlock (some g) vs[j] ps[j]
theorem RW.nil (W : World) (G g : Nat) : RW G g W (.slice none 0 0) [] [] := ⟨rfl, World.ownsRow_nil _ _ _ _, fun j h => by simp at h⟩
theorem RW.grown {G g : Nat} {W W' : World} {pv : Value} {vs : List Value} {ps : List (List Int)} (h : RW G g W pv vs ps) (hgG : g < G) (hg : W.grownBy W' (some g)) : RW G g W' pv vs ps :=
  ⟨h.len, own_blk h.hdr fun b hb => hg.block b (h.hdr.lt b hb).2 (by have := (h.hdr.lt b hb).1; simp; omega), fun j h1 h2 => (h.row j h1 h2).keep hg.size fun b hbl hx hy => ⟨hg.block b hbl hy, hx, hy⟩⟩
theorem RW.below {G g : Nat} {W W' : World} {pv : Value} {vs : List Value} {ps : List (List Int)} (h : RW G g W pv vs ps) (hgG : g < G) (hb : Below W.heap.size W W') : RW G g W' pv vs ps := h.grown hgG (grownBy_of_below hb _)
theorem RW.app {G g : Nat} {W W' : World} {pv pv' : Value} {vs : List Value} {ps : List (List Int)} {v : Value} {l : List Int} (h : RW G g W pv vs ps)
    (hx : SX W pv.ownBlock (some g) v l) (ho : W'.ownsRow G 22 1 pv' (vs.length + 1) (vs ++ [v])) (hg : W.grownBy W' pv.ownBlock) (hat : ∀ q, pv'.ownBlock = some q → pv.ownBlock = some q ∨ q = W.heap.size) : RW G g W' pv' (vs ++ [v]) (ps ++ [l]) := by
  have hk : ∀ b, b < W.heap.size → some b ≠ pv.ownBlock → some b ≠ some g → W'.heap[b]? = W.heap[b]? ∧ some b ≠ pv'.ownBlock ∧ some b ≠ some g := fun b hb h1 h2 =>
    ⟨hg.block b hb h1, fun e => by rcases hat b e.symm with h3 | h3; exact h1 h3.symm; omega, h2⟩
  refine ⟨by simp [h.len], by simpa using ho, fun j h1 h2 => ?_⟩
  by_cases hj : j < vs.length
  · have hj' : j < ps.length := by rw [← h.len]; exact hj
    simp only [List.getElem_append_left hj, List.getElem_append_left hj']
    exact (h.row j hj hj').keep hg.size hk
  · have hj1 : j = vs.length := by simp at h1; omega
    have hj2 : j = ps.length := by rw [← h.len]; exact hj1
    subst hj1
    have e1 : (vs ++ [v])[vs.length]'h1 = v := by simp
    have e2 : (ps ++ [l])[vs.length]'h2 = l := by simp [h.len]
    rw [e1, e2]
    exact hx.keep hg.size hk
theorem RW.sle {G g : Nat} {W : World} {pv : Value} {vs : List Value} {ps : List (List Int)} (h : RW G g W pv vs ps) (hgG : g < G) : SLE g W pv ps := by
  rcases h.hdr.2 with ⟨rfl, hn⟩ | ⟨b, cap, cur, rfl, hb, hgg, hnc, hcm, hcs, htake⟩
  · have : ps = [] := List.eq_nil_of_length_eq_zero (by rw [← h.len]; exact hn)
    subst this
    exact ⟨none, 0, rfl, Nat.le_refl _, by omega, fun h => by simp at h⟩
  · refine ⟨some ⟨b, 0, none⟩, cap, by rw [h.len], by rw [← h.len]; exact hnc, by simpa [maxLen] using hcm, fun h0 => ⟨b, 0, rfl, (Array.getElem?_eq_some_iff.1 hgg).1, by omega, fun j hj => ?_⟩⟩
    have hjv : j < vs.length := by rw [h.len]; exact hj
    have h1 := h.hdr.cellAt j (by omega)
    have h3 := (h.row j hjv hj).se
    obtain ⟨B', d, e⟩ := h3.form
    rw [Nat.zero_add]
    rw [List.getElem?_eq_getElem hjv, e] at h1
    rw [e] at h3
    exact ⟨B', d, h1, h3⟩
/-- append(headers, x) where it lies is told -/
theorem wpList_append_one_at {P : Program} (w : World) {ops : Array Oper} {rest : List Oper} {o : Oper} {a : Act} {Q : Exit → Act → World → Prop} (hgd : o.guard = none) (s x : Operand) (t : TypeId)
    (ho : o.op = .call { callee := .builtin .append, args := #[s, x], argTypes := #[t, t] })
    (base : Nat) (e : TypeId) (z : Value) (by' : Nat) (ht : P.underlying t = some (.slice e)) (hinfo : (P.info? e).map (fun i => (i.zero, i.size, i.bytes)) = some (some z, 1, by'))
    (v : Value) (n : Nat) (xs : List Value) (hs : a.eval s = v) (hown : w.ownsRow base e 1 v n xs)
    (y : Value) (hy : y.oneCell' = true) (b : Nat) (hx : a.eval x = .slice (some ⟨b, 0, none⟩) 1 1) (hc : w.cell? ⟨b, 0, none⟩ = some y)
    (hbytes : (n + 1) * by' ≤ 140737488355328) (hn : n ≤ 1000000) (hzs : z.cells.size = 1) (hbase : base ≤ w.heap.size)
    (h : ∀ g cap w', w'.ownsRow base e 1 (.slice (some ⟨g, 0, none⟩) (n + 1) cap) (n + 1) (xs ++ [y]) → w.grownBy w' v.ownBlock → (v.ownBlock = some g ∨ g = w.heap.size) → wpList P ops Q rest (a.put o.dst (.slice (some ⟨g, 0, none⟩) (n + 1) cap)) w') :
    wpList P ops Q (o :: rest) a w := by
  obtain ⟨i0, hi0, hz0, hz1, hz2⟩ := info_parts hinfo
  obtain ⟨v', w', hrun, h2, h3, h4⟩ := run_append_sc_at (P := P) w base t o.type e i0 _ 1 by' ht hi0 hz0 hz1 hz2 hzs (by omega) v _ _ hown (b + 1) (.slice (some ⟨b, 0, none⟩) 1 1) 1 [y] ⟨_, 1, rfl, rfl, fun _ => ⟨b, 0, rfl, by omega, fun j u hu => by
    cases j with
    | zero => simp at hu; subst hu; exact hc
    | succ j => simp at hu⟩⟩ (by intro u hu; simp at hu; subst hu; exact hy) (by unfold maxLen; omega) hbytes hbase
  rcases h2.2 with ⟨_, hn'⟩ | ⟨g, cap, cur, rfl, hb, hg, hnc, hcm, hcs, htake⟩
  · simp at hn'
  · refine Lib.wpList_append_run w hgd s x t t ho _ _ hs hx _ w' hrun (h g cap w' h2 h3 ?_)
    rcases h4 with h4 | h4
    · exact .inl h4.symm
    · exact .inr (by simpa [Value.ownBlock] using h4)
end Go.Proofs.YtoiabanpnkpbhaaGreatDoor
