/- Joined: Vp Vr. -/
import Derived.Test.YtoiabanpnkpbhaaGreatDoorZ34
import Derived.Test.YtoiabanpnkpbhaaGreatDoorZ29
import Derived.Test.YtoiabanpnkpbhaaGreatDoorZ22
import Derived.Test.YtoiabanpnkpbhaaGreatDoorZ21
namespace Go.Proofs.YtoiabanpnkpbhaaGreatDoor
open Go.RowKit

def pvs (p : List Int) (i : Nat) : Int := if i = 0 then 0 else gd p (i - 1)
/-- a polynomial times x + c, k coefficients done -/
def pstK (P c : Int) (p : List Int) (k : Nat) : List Int := (List.range (p.length + 1)).map fun i => if i < k then (pvs p i + c * gd p i) % P else if i = k then pvs p i else 0
theorem pstK_len (P c : Int) (p : List Int) (k : Nat) : (pstK P c p k).length = p.length + 1 := by simp [pstK]
theorem pstK_gd (P c : Int) (p : List Int) (k i : Nat) (h : i < p.length + 1) : gd (pstK P c p k) i = if i < k then (pvs p i + c * gd p i) % P else if i = k then pvs p i else 0 := by
  rw [gd_lt (by rw [pstK_len]; exact h)]; simp [pstK]
theorem pstK_zero (P c : Int) (p : List Int) : pstK P c p 0 = zeros (p.length + 1) := by
  refine list_ext_gd (by rw [pstK_len]; simp [zeros]) fun k hk => ?_
  rw [pstK_len] at hk
  rw [pstK_gd _ _ _ _ _ hk, if_neg (by omega)]
  have e : gd (zeros (p.length + 1)) k = 0 := by unfold gd zeros; rw [List.getElem?_replicate]; split <;> rfl
  rw [e]
  split
  · next h => subst h; rfl
  · rfl
theorem gd_set' (l : List Int) (i : Nat) (x : Int) (k : Nat) (h : i < l.length) : gd (l.set i x) k = if k = i then x else gd l k := by
  unfold gd
  rw [List.getElem?_set]
  by_cases e : i = k
  · subst e; simp [h]
  · rw [if_neg e, if_neg (fun h => e h.symm)]
theorem pvs_bd {P : Int} (hP : 2 ≤ P) {p : List Int} (he : els P p = true) (i : Nat) : 0 ≤ pvs p i ∧ pvs p i < P := by
  unfold pvs
  split
  · omega
  · exact el_t (els_gd hP he _)
theorem pstK_step {P c : Int} (hP : 2 ≤ P) {p : List Int} (he : els P p = true) {k : Nat} (hk : k < p.length) :
    ((pstK P c p k).set (k + 1) ((gd (pstK P c p k) (k + 1) + gd p k) % P)).set k ((gd (pstK P c p k) k + c * gd p k) % P) = pstK P c p (k + 1) := by
  refine list_ext_gd (by rw [List.length_set, List.length_set, pstK_len, pstK_len]) fun i hi => ?_
  rw [List.length_set, List.length_set, pstK_len] at hi
  rw [gd_set' _ _ _ _ (by rw [List.length_set, pstK_len]; omega), gd_set' _ _ _ _ (by rw [pstK_len]; omega), pstK_gd _ _ _ _ _ hi, pstK_gd _ _ _ (k + 1) _ hi, pstK_gd _ _ _ _ k (by omega), pstK_gd _ _ _ _ (k + 1) (by omega)]
  have h1 : (0 + gd p k) % P = gd p k := by
    have := el_t (els_gd hP he k)
    rw [Int.zero_add]; exact Int.emod_eq_of_lt this.1 this.2
  have h2 : pvs p (k + 1) = gd p k := by unfold pvs; rw [if_neg (by omega)]; rfl
  by_cases e1 : i = k
  · subst e1
    rw [if_pos rfl, if_neg (by omega), if_pos rfl, if_pos (by omega)]
  · rw [if_neg e1]
    by_cases e2 : i = k + 1
    · subst e2
      rw [if_pos rfl, if_neg (by omega), if_neg (by omega), h1, if_neg (by omega), if_pos rfl, h2]
    · rw [if_neg e2]
      by_cases e3 : i < k
      · rw [if_pos e3, if_pos (by omega)]
      · rw [if_neg e3, if_neg e1, if_neg (by omega), if_neg e2]
def pst (P c : Int) (p : List Int) : List Int := pstK P c p p.length
theorem pst_len (P c : Int) (p : List Int) : (pst P c p).length = p.length + 1 := pstK_len ..
theorem pst_els {P : Int} (hP : 2 ≤ P) (c : Int) {p : List Int} (he : els P p = true) : els P (pst P c p) = true := els_of fun x hx => by
  obtain ⟨i, _, rfl⟩ := List.mem_map.1 hx
  split
  · exact el_mod hP _
  · split
    · exact el_mk (pvs_bd hP he _)
    · exact el_mk ⟨by omega, by omega⟩
theorem pst_eq {P : Int} (hP : 2 ≤ P) (c : Int) {p : List Int} (he : els P p = true) : pst P c p = (az_add (0 :: p) (zmul c p)).map (· % P) := by
  refine list_ext_gd (by rw [pst_len, List.length_map, add_len, zmul_len]; simp) fun i hi => ?_
  rw [pst_len] at hi
  have e0 : gd (0 :: p) i = pvs p i := by
    unfold pvs
    cases i with
    | zero => rfl
    | succ n => simp [gd]
  rw [gd_map_mod, add_gd, zmul_gd, e0]
  unfold pst
  rw [pstK_gd _ _ _ _ _ hi]
  by_cases h : i < p.length
  · rw [if_pos h]
  · rw [if_neg h, if_pos (by omega), gd_ge (by omega : p.length ≤ i), Int.mul_zero, Int.add_zero]
    have := pvs_bd hP he i
    exact (Int.emod_eq_of_lt this.1 this.2).symm
theorem pst_ez {P : Int} (hP : 2 ≤ P) (c : Int) {p : List Int} (he : els P p = true) (x : Int) : P ∣ ez (pst P c p) x - (x + c) * ez p x := by
  rw [pst_eq hP c he]
  have h := ez_modm (P := P) (az_add (0 :: p) (zmul c p)) x
  rw [add_ez, zmul_ez, ez_cons, Int.zero_add, ← Int.add_mul] at h
  exact h
theorem pst_lead (P c : Int) {p : List Int} (h : 1 ≤ p.length) : gd (pst P c p) p.length = gd p (p.length - 1) := by
  unfold pst
  rw [pstK_gd _ _ _ _ _ (by omega), if_neg (by omega), if_pos rfl]
  unfold pvs
  rw [if_neg (by omega)]
/-- the product of x - j - 1 for the numbers of a list -/
def prodW (P : Int) (W : List Int) : List Int := W.foldl (fun p j => pst P (P - j - 1) p) [1]
theorem prodW_snoc (P : Int) (W : List Int) (j : Int) : prodW P (W ++ [j]) = pst P (P - j - 1) (prodW P W) := by unfold prodW; rw [List.foldl_append]; rfl
theorem prodF_len (P : Int) : ∀ (W p : List Int), (W.foldl (fun p j => pst P (P - j - 1) p) p).length = p.length + W.length
  | [], _ => rfl
  | j :: W, p => by
    show (W.foldl _ (pst P (P - j - 1) p)).length = _
    rw [prodF_len, pst_len, List.length_cons]; omega
theorem prodW_len (P : Int) (W : List Int) : (prodW P W).length = W.length + 1 := by unfold prodW; rw [prodF_len]; simp; omega
theorem prodF_els {P : Int} (hP : 2 ≤ P) : ∀ (W p : List Int), els P p = true → els P (W.foldl (fun p j => pst P (P - j - 1) p) p) = true
  | [], _, h => h
  | j :: W, p, h => prodF_els hP W (pst P (P - j - 1) p) (pst_els hP _ h)
theorem one_els {P : Int} (hP : 2 ≤ P) : els P [1] = true := els_of fun x hx => by
  simp at hx; subst hx; exact el_mk ⟨by omega, by omega⟩
theorem prodW_els {P : Int} (hP : 2 ≤ P) (W : List Int) : els P (prodW P W) = true := prodF_els hP W [1] (one_els hP)
theorem prodF_root {P : Int} (hP : 2 ≤ P) {x : Int} : ∀ (W p : List Int), els P p = true → (P ∣ ez p x ∨ x - 1 ∈ W) → P ∣ ez (W.foldl (fun p j => pst P (P - j - 1) p) p) x
  | [], p, _, h => by rcases h with h | h; exact h; cases h
  | j :: W, p, he, h => by
    refine prodF_root hP W (pst P (P - j - 1) p) (pst_els hP _ he) ?_
    have h1 := pst_ez hP (P - j - 1) he x
    rcases h with h | h
    · left
      have h2 := Int.dvd_add h1 (dvr (k := x + (P - j - 1)) h)
      rwa [Int.sub_add_cancel] at h2
    · rcases List.mem_cons.1 h with h | h
      · left
        have e : x + (P - j - 1) = P := by omega
        rw [e] at h1
        have h2 := Int.dvd_add h1 (Int.dvd_mul_right P (ez p x))
        rwa [Int.sub_add_cancel] at h2
      · right; exact h
theorem prodW_root {P : Int} (hP : 2 ≤ P) {W : List Int} {j : Int} (h : j ∈ W) : P ∣ ez (prodW P W) (j + 1) := prodF_root hP W [1] (one_els hP) (.inr (by rw [Int.add_sub_cancel]; exact h))
theorem prodF_lead {P : Int} : ∀ (W p : List Int), 1 ≤ p.length → gd (W.foldl (fun p j => pst P (P - j - 1) p) p) (p.length + W.length - 1) = gd p (p.length - 1)
  | [], _, _ => rfl
  | j :: W, p, h => by
    have := prodF_lead (P := P) W (pst P (P - j - 1) p) (by rw [pst_len]; omega)
    rw [pst_len, Nat.add_sub_cancel, pst_lead P _ h] at this
    rw [← this]
    congr 1
    rw [List.length_cons]; omega
theorem prodW_lead (P : Int) (W : List Int) : gd (prodW P W) W.length = 1 := by
  have := prodF_lead (P := P) W [1] (by simp)
  rw [show ([1] : List Int).length + W.length - 1 = W.length by simp] at this
  exact this
/-- the other table -/
def othr (P : Int) (rows : List (List Int)) (p : List Int) (k : Nat) : List (List Int) := (List.range k).map fun i => [(gd (gr rows i) 0 + gd p i) % P]
theorem othr_len (P : Int) (rows : List (List Int)) (p : List Int) (k : Nat) : (othr P rows p k).length = k := by simp [othr]
theorem othr_succ (P : Int) (rows : List (List Int)) (p : List Int) (k : Nat) : othr P rows p (k + 1) = othr P rows p k ++ [[(gd (gr rows k) 0 + gd p k) % P]] := by unfold othr; rw [List.range_succ, List.map_append]; rfl
theorem othr_gr (P : Int) (rows : List (List Int)) (p : List Int) (k i : Nat) (h : i < k) : gr (othr P rows p k) i = [(gd (gr rows i) 0 + gd p i) % P] := by
  unfold gr othr; rw [List.getElem?_map, List.getElem?_range h]; rfl
theorem othr_mem {P : Int} (hP : 2 ≤ P) (rows : List (List Int)) (p : List Int) (k : Nat) : ∀ r ∈ othr P rows p k, r.length = 1 ∧ els P r = true := fun r hr => by
  obtain ⟨i, _, rfl⟩ := List.mem_map.1 hr
  refine ⟨rfl, els_of fun x hx => ?_⟩
  simp at hx
  subst hx
  exact el_mod hP _
theorem othr_co {P : Int} {rows : List (List Int)} {p : List Int} {G : Nat} (hp : p.length = G) : hCo (othr P rows p G) 0 G 0 = (az_add (hCo rows 0 G 0) p).map (· % P) := by
  refine list_ext_gd (by rw [hCo_len, List.length_map, add_len, hCo_len, hp]; omega) fun i hi => ?_
  rw [hCo_len] at hi
  rw [gd_map_mod, add_gd, hCo_gd, hCo_gd, if_pos hi, if_pos hi, Nat.zero_add, othr_gr _ _ _ _ _ hi]
  rfl
/-- both are held in the same way by a server at which the polynomial is 0 -/
theorem othr_hold {P : Int} (hP : 2 ≤ P) {rows : List (List Int)} {p : List Int} {G : Nat} {j : Int} (hl : rows.length = G) (hr : ∀ r ∈ rows, r.length = 1) (hp : p.length = G) (hz : P ∣ ez p j) : hRows P rows j 1 G 1 = hRows P (othr P rows p G) j 1 G 1 := by
  unfold hRows
  rw [hl, othr_len]
  refine List.map_congr_left fun g hg => ?_
  have hg0 : g = 0 := by simpa using hg
  subst hg0
  have e : gSz G G 0 = G := by unfold gSz; omega
  rw [e, Nat.zero_mul]
  refine list_ext_gd (by rw [hdT_len, hdT_len]) fun c hc => ?_
  rw [hdT_len] at hc
  have hc0 : c = 0 := by omega
  subst hc0
  have h1 := hdT_ez (P := P) (rows := rows) (j := j) (o := 0) (c := 0) hr hc G (by omega)
  have h2 := hdT_ez (P := P) (rows := othr P rows p G) (j := j) (o := 0) (c := 0) (fun r h => (othr_mem hP rows p G r h).1) hc G (by rw [othr_len]; omega)
  rw [othr_co hp] at h2
  have h3 := ez_modm (P := P) (az_add (hCo rows 0 G 0) p) j
  rw [add_ez] at h3
  refine mod_uniq (el_t (els_gd hP (hdT_els hP ..) 0)) (el_t (els_gd hP (hdT_els hP ..) 0)) ?_
  have h4 := Int.dvd_sub (Int.dvd_sub (Int.dvd_sub h1 h2) h3) hz
  have e : ∀ a b c d e f : Int, a - b - (c - d) - (d - (b + e)) - e = a - c := by intros; omega
  rw [e _ _ _ _ _ 0] at h4
  exact h4
theorem lead_differs {P x : Int} (hP : 2 ≤ P) (hx : 0 ≤ x ∧ x < P) : (x + 1) % P ≠ x := by
  intro h
  by_cases e : x + 1 < P
  · rw [Int.emod_eq_of_lt (by omega) e] at h; omega
  · have e2 : x + 1 = P := by omega
    rw [e2, Int.emod_self] at h; omega
end Go.Proofs.YtoiabanpnkpbhaaGreatDoor

namespace Go.Proofs.YtoiabanpnkpbhaaGreatDoor
open Go.RowKit

noncomputable def regVdC : Code := ((Tryz.f3.body.bind (regionOf 7)).getD .skip)
set_option maxRecDepth 1000000 in
set_option maxHeartbeats 4000000 in
theorem regVd (g q G : Nat) (w : World) (hG : 1 ≤ G ∧ G ≤ 3) (hgq : g < q) (hX : w.heap[q]? = some (.cells #[.int .i64 0, .int .i64 1, .int .i64 G] 29 (0, 0))) (hD : Dk w g) (hN : ∀ W, Dk W g → Calls Tryz.prog 13 #[.pointer (some ⟨g, 0, none⟩), .int .i64 3] W fun e w' => ∃ x, e = .returned (.int .i64 x) ∧ (0 ≤ x ∧ x ≤ 2) ∧ Dk w' g ∧ W.grownBy w' (some g))
    (s0 s1 s2 s5 s6 s7 s8 s9 s10 s11 s12 s13 s14 s15 s16 s17 s18 s19 s20 s21 s22 s23 s24 s25 s26 s27 s28 s29 s30 s31 s32 s33 s34 s35 s36 s37 s38 s39 s40 s41 s42 s43 s44 s45 s46 s47 s48 s49 s50 s51 s52 s53 s54 s55 s56 s57 s58 s59 s60 s61 s62 s63 s64 s65 s66 s67 s68 s69 s70 s71 s72 s73 s74 s75 s76 s77 s78 s79 s80 s81 s82 s83 s84 s85 s86 s87 s88 s89 s90 s91 s92 s93 s94 s95 s96 s97 s98 s99 s100 s101 s102 s103 s104 s105 s106 s107 s108 s109 s110 s111 s112 s113 s114 s115 s116 s117 s118 s119 s120 s121 s122 s123 s124 s125 s126 s127 s128 s129 s130 s131 s132 s133 s134 s135 s136 s137 s138 s139 s140 s141 s142 s143 s144 s145 s146 s147 s148 s149 s150 s151 s152 s153 s154 s155 s156 s157 s158 s159 s160 s161 s162 s163 s164 s165 s166 s167 s168 s169 s170 s171 s172 s173 s174 s175 s176 s177 s178 s179 s180 s181 s182 : Value) (Q : Exit → Act → World → Prop)
    (hK : ∀ (u36 u37 u38 u39 u40 u41 u42 : Value) (n : Nat) (w5 : World) (w' : World), (2 * G ≤ n ∧ n ≤ 2 * G + 2) ∧ w'.heap[q]? = some (.cells #[.int .i64 n, .int .i64 1, .int .i64 G] 29 (0, 0)) ∧ Dk w' g ∧ w.grownBy w5 (some g) ∧ w5.grownBy w' (some q) → Q .normal ⟨List.toArray (s0 :: s1 :: s2 :: (Value.pointer (some ⟨g, 0, none⟩)) :: (Value.pointer (some ⟨q, 0, none⟩)) :: s5 :: s6 :: s7 :: s8 :: s9 :: s10 :: s11 :: s12 :: s13 :: s14 :: s15 :: s16 :: s17 :: s18 :: s19 :: s20 :: s21 :: s22 :: s23 :: s24 :: s25 :: s26 :: s27 :: s28 :: s29 :: s30 :: s31 :: s32 :: s33 :: s34 :: s35 :: u36 :: u37 :: u38 :: u39 :: u40 :: u41 :: u42 :: s43 :: s44 :: s45 :: s46 :: s47 :: s48 :: s49 :: s50 :: s51 :: s52 :: s53 :: s54 :: s55 :: s56 :: s57 :: s58 :: s59 :: s60 :: s61 :: s62 :: s63 :: s64 :: s65 :: s66 :: s67 :: s68 :: s69 :: s70 :: s71 :: s72 :: s73 :: s74 :: s75 :: s76 :: s77 :: s78 :: s79 :: s80 :: s81 :: s82 :: s83 :: s84 :: s85 :: s86 :: s87 :: s88 :: s89 :: s90 :: s91 :: s92 :: s93 :: s94 :: s95 :: s96 :: s97 :: s98 :: s99 :: s100 :: s101 :: s102 :: s103 :: s104 :: s105 :: s106 :: s107 :: s108 :: s109 :: s110 :: s111 :: s112 :: s113 :: s114 :: s115 :: s116 :: s117 :: s118 :: s119 :: s120 :: s121 :: s122 :: s123 :: s124 :: s125 :: s126 :: s127 :: s128 :: s129 :: s130 :: s131 :: s132 :: s133 :: s134 :: s135 :: s136 :: s137 :: s138 :: s139 :: s140 :: s141 :: s142 :: s143 :: s144 :: s145 :: s146 :: s147 :: s148 :: s149 :: s150 :: s151 :: s152 :: s153 :: s154 :: s155 :: s156 :: s157 :: s158 :: s159 :: s160 :: s161 :: s162 :: s163 :: s164 :: s165 :: s166 :: s167 :: s168 :: s169 :: s170 :: s171 :: s172 :: s173 :: s174 :: s175 :: s176 :: s177 :: s178 :: s179 :: s180 :: s181 :: s182 :: []), []⟩ w') :
    Code.wp Tryz.prog regVdC Q ⟨List.toArray (s0 :: s1 :: s2 :: (Value.pointer (some ⟨g, 0, none⟩)) :: (Value.pointer (some ⟨q, 0, none⟩)) :: s5 :: s6 :: s7 :: s8 :: s9 :: s10 :: s11 :: s12 :: s13 :: s14 :: s15 :: s16 :: s17 :: s18 :: s19 :: s20 :: s21 :: s22 :: s23 :: s24 :: s25 :: s26 :: s27 :: s28 :: s29 :: s30 :: s31 :: s32 :: s33 :: s34 :: s35 :: s36 :: s37 :: s38 :: s39 :: s40 :: s41 :: s42 :: s43 :: s44 :: s45 :: s46 :: s47 :: s48 :: s49 :: s50 :: s51 :: s52 :: s53 :: s54 :: s55 :: s56 :: s57 :: s58 :: s59 :: s60 :: s61 :: s62 :: s63 :: s64 :: s65 :: s66 :: s67 :: s68 :: s69 :: s70 :: s71 :: s72 :: s73 :: s74 :: s75 :: s76 :: s77 :: s78 :: s79 :: s80 :: s81 :: s82 :: s83 :: s84 :: s85 :: s86 :: s87 :: s88 :: s89 :: s90 :: s91 :: s92 :: s93 :: s94 :: s95 :: s96 :: s97 :: s98 :: s99 :: s100 :: s101 :: s102 :: s103 :: s104 :: s105 :: s106 :: s107 :: s108 :: s109 :: s110 :: s111 :: s112 :: s113 :: s114 :: s115 :: s116 :: s117 :: s118 :: s119 :: s120 :: s121 :: s122 :: s123 :: s124 :: s125 :: s126 :: s127 :: s128 :: s129 :: s130 :: s131 :: s132 :: s133 :: s134 :: s135 :: s136 :: s137 :: s138 :: s139 :: s140 :: s141 :: s142 :: s143 :: s144 :: s145 :: s146 :: s147 :: s148 :: s149 :: s150 :: s151 :: s152 :: s153 :: s154 :: s155 :: s156 :: s157 :: s158 :: s159 :: s160 :: s161 :: s162 :: s163 :: s164 :: s165 :: s166 :: s167 :: s168 :: s169 :: s170 :: s171 :: s172 :: s173 :: s174 :: s175 :: s176 :: s177 :: s178 :: s179 :: s180 :: s181 :: s182 :: []), []⟩ w := by
  have HK := Lib.hid hK
  have HD := Lib.hid hD
  have HN := Lib.hid hN
  have HX : Hid (∀ W : World, w.grownBy W (some g) → W.cell? ⟨q, 2, none⟩ = some (.int .i64 G) ∧ W.cell? ⟨q, 0, none⟩ = some (.int .i64 0) ∧ W.frozen? ⟨q, 0, none⟩ = false ∧ W.heap[q]? = some (.cells #[.int .i64 0, .int .i64 1, .int .i64 G] 29 (0, 0))) := (show Hid _ from fun W hg => by
    have h := (hg.block q (heap_of_cells hX) (by simp; omega)).trans hX
    exact ⟨cell_of_row W q 2 _ _ _ h, cell_of_row W q 0 _ _ _ h, frozen_of_row W q 0 _ _ h, h⟩)
  obtain ⟨a2, a0, af, _⟩ := HX.out w (grownBy_refl _ _)
  have HDd : Hid (Dk w.drew g) := HD.out
  have k1 : IntKind.i64.wrap (2 * (G : Int)) = 2 * (G : Int) := by exact IntWalk.i64_in _ (by omega)
  have HGQ : Hid (g < q) := hgq
  clear hK hX hD hN
  conv => arg 2; whnf
  go_region_held3 (fun w' => w'.cell? ⟨q, 2, none⟩ = some (.int .i64 G)) (first | exact a2 | exact (World.cell?_setCell_other _ _ _ _ (by simp)).trans a2 | go_keep)
    (first | (go_at_call 13; refine (HN.out _ (by first | exact HD.out | exact HDd.out)).mono ?_; rintro e9 w5 ⟨z, rfl, hz, hd5, hg5⟩; have HD5 : Hid (Dk w5 g) := (show Hid _ from hd5); have HG5 : Hid (w.grownBy w5 (some g)) := (show Hid _ from ⟨hg5.os, hg5.tape, hg5.output, hg5.size, hg5.block⟩); obtain ⟨a2, a0, af, hq5⟩ := HX.out w5 HG5.out; have HQ5 := Lib.hid hq5; have k4 : IntKind.i64.wrap (2 * (G : Int) + z) = 2 * (G : Int) + z := (by exact IntWalk.i64_in _ (by omega)); clear hd5 hg5 hq5))
  all_goals
    obtain ⟨n, en⟩ : ∃ n : Nat, (n : Int) = 2 * (G : Int) + z := ⟨(2 * (G : Int) + z).toNat, by omega⟩
    have hn : 2 * G ≤ n ∧ n ≤ 2 * G + 2 := by omega
    rw [← en]
    have hG6 : w5.grownBy (w5.setCell ⟨q, 0, none⟩ (.int .i64 n)) (some q) := grownBy_setCell (g := q) (p := ⟨q, 0, none⟩) (grownBy_refl _ _) (.inl rfl) _
    have hq6 : (w5.setCell ⟨q, 0, none⟩ (.int .i64 n)).heap[q]? = some (.cells #[.int .i64 n, .int .i64 1, .int .i64 G] 29 (0, 0)) := by
      have := heap_setCell_same w5 q 0 _ _ (.int .i64 n) HQ5.out
      simpa using this
    have hd6 : Dk (w5.setCell ⟨q, 0, none⟩ (.int .i64 n)) g := HD5.out.grown hG6 (fun k hk => by injection hk with e; have := HGQ.out; omega)
    have hk := HK.out
    first
      | exact hk _ _ _ _ _ _ _ n w5 _ ⟨hn, hq6, hd6, HG5.out, hG6⟩
      | exact hk _ _ _ _ _ _ _ n w5 _ ⟨hn, hq6, hd6, HG5.out, grownBy_trans hG6 (grownBy_of_below (Below.refl _ _).drew _)⟩


noncomputable def regVeC : Code := ((Tryz.f3.body.bind (regionOf 10)).getD .skip)
set_option maxRecDepth 1000000 in
set_option maxHeartbeats 4000000 in
theorem regVe (g q n G : Nat) (w : World) (hG : 1 ≤ G ∧ G ≤ n ∧ n ≤ 10) (hX : ∀ W, w.grownBy W (some g) → W.cell? ⟨q, 0, none⟩ = some (.int .i64 n) ∧ W.cell? ⟨q, 2, none⟩ = some (.int .i64 G)) (hD : Dk w g) (hO : ∀ W, Dk W g → Calls Tryz.prog 16 #[.pointer (some ⟨g, 0, none⟩), .int .i64 n] W fun e w' => ∃ (v : Value) (O : List Int), e = .returned v ∧ O.Perm (nums n) ∧ w'.ownsRow W.heap.size 3 1 v O.length (O.map (Value.int .i64)) ∧ Dk w' g ∧ W.grownBy w' (some g))
    (s0 s1 s2 s5 s6 s7 s8 s9 s10 s11 s12 s13 s14 s15 s16 s17 s18 s19 s20 s21 s22 s23 s24 s25 s26 s27 s28 s29 s30 s31 s32 s33 s34 s35 s36 s37 s38 s39 s40 s41 s42 s43 s44 s45 s46 s47 s48 s49 s50 s51 s52 s53 s54 s55 s56 s57 s58 s59 s60 s61 s62 s63 s64 s65 s66 s67 s68 s69 s70 s71 s72 s73 s74 s75 s76 s77 s78 s79 s80 s81 s82 s83 s84 s85 s86 s87 s88 s89 s90 s91 s92 s93 s94 s95 s96 s97 s98 s99 s100 s101 s102 s103 s104 s105 s106 s107 s108 s109 s110 s111 s112 s113 s114 s115 s116 s117 s118 s119 s120 s121 s122 s123 s124 s125 s126 s127 s128 s129 s130 s131 s132 s133 s134 s135 s136 s137 s138 s139 s140 s141 s142 s143 s144 s145 s146 s147 s148 s149 s150 s151 s152 s153 s154 s155 s156 s157 s158 s159 s160 s161 s162 s163 s164 s165 s166 s167 s168 s169 s170 s171 s172 s173 s174 s175 s176 s177 s178 s179 s180 s181 s182 : Value) (Q : Exit → Act → World → Prop)
    (hK : ∀ (u7 u52 u53 u54 u55 u56 u57 u58 u59 : Value) (Ao : Option Addr) (co : Nat) (O : List Int) (w' : World), u7 = Value.slice Ao (G - 1) co ∧ O.Perm (nums n) ∧ SE g w' (.slice Ao (G - 1) co) (O.take (G - 1)) ∧ Dk w' g ∧ w.grownBy w' (some g) → Q .normal ⟨List.toArray (s0 :: s1 :: s2 :: (Value.pointer (some ⟨g, 0, none⟩)) :: (Value.pointer (some ⟨q, 0, none⟩)) :: s5 :: s6 :: u7 :: s8 :: s9 :: s10 :: s11 :: s12 :: s13 :: s14 :: s15 :: s16 :: s17 :: s18 :: s19 :: s20 :: s21 :: s22 :: s23 :: s24 :: s25 :: s26 :: s27 :: s28 :: s29 :: s30 :: s31 :: s32 :: s33 :: s34 :: s35 :: s36 :: s37 :: s38 :: s39 :: s40 :: s41 :: s42 :: s43 :: s44 :: s45 :: s46 :: s47 :: s48 :: s49 :: s50 :: s51 :: u52 :: u53 :: u54 :: u55 :: u56 :: u57 :: u58 :: u59 :: s60 :: s61 :: s62 :: s63 :: s64 :: s65 :: s66 :: s67 :: s68 :: s69 :: s70 :: s71 :: s72 :: s73 :: s74 :: s75 :: s76 :: s77 :: s78 :: s79 :: s80 :: s81 :: s82 :: s83 :: s84 :: s85 :: s86 :: s87 :: s88 :: s89 :: s90 :: s91 :: s92 :: s93 :: s94 :: s95 :: s96 :: s97 :: s98 :: s99 :: s100 :: s101 :: s102 :: s103 :: s104 :: s105 :: s106 :: s107 :: s108 :: s109 :: s110 :: s111 :: s112 :: s113 :: s114 :: s115 :: s116 :: s117 :: s118 :: s119 :: s120 :: s121 :: s122 :: s123 :: s124 :: s125 :: s126 :: s127 :: s128 :: s129 :: s130 :: s131 :: s132 :: s133 :: s134 :: s135 :: s136 :: s137 :: s138 :: s139 :: s140 :: s141 :: s142 :: s143 :: s144 :: s145 :: s146 :: s147 :: s148 :: s149 :: s150 :: s151 :: s152 :: s153 :: s154 :: s155 :: s156 :: s157 :: s158 :: s159 :: s160 :: s161 :: s162 :: s163 :: s164 :: s165 :: s166 :: s167 :: s168 :: s169 :: s170 :: s171 :: s172 :: s173 :: s174 :: s175 :: s176 :: s177 :: s178 :: s179 :: s180 :: s181 :: s182 :: []), []⟩ w') :
    Code.wp Tryz.prog regVeC Q ⟨List.toArray (s0 :: s1 :: s2 :: (Value.pointer (some ⟨g, 0, none⟩)) :: (Value.pointer (some ⟨q, 0, none⟩)) :: s5 :: s6 :: s7 :: s8 :: s9 :: s10 :: s11 :: s12 :: s13 :: s14 :: s15 :: s16 :: s17 :: s18 :: s19 :: s20 :: s21 :: s22 :: s23 :: s24 :: s25 :: s26 :: s27 :: s28 :: s29 :: s30 :: s31 :: s32 :: s33 :: s34 :: s35 :: s36 :: s37 :: s38 :: s39 :: s40 :: s41 :: s42 :: s43 :: s44 :: s45 :: s46 :: s47 :: s48 :: s49 :: s50 :: s51 :: s52 :: s53 :: s54 :: s55 :: s56 :: s57 :: s58 :: s59 :: s60 :: s61 :: s62 :: s63 :: s64 :: s65 :: s66 :: s67 :: s68 :: s69 :: s70 :: s71 :: s72 :: s73 :: s74 :: s75 :: s76 :: s77 :: s78 :: s79 :: s80 :: s81 :: s82 :: s83 :: s84 :: s85 :: s86 :: s87 :: s88 :: s89 :: s90 :: s91 :: s92 :: s93 :: s94 :: s95 :: s96 :: s97 :: s98 :: s99 :: s100 :: s101 :: s102 :: s103 :: s104 :: s105 :: s106 :: s107 :: s108 :: s109 :: s110 :: s111 :: s112 :: s113 :: s114 :: s115 :: s116 :: s117 :: s118 :: s119 :: s120 :: s121 :: s122 :: s123 :: s124 :: s125 :: s126 :: s127 :: s128 :: s129 :: s130 :: s131 :: s132 :: s133 :: s134 :: s135 :: s136 :: s137 :: s138 :: s139 :: s140 :: s141 :: s142 :: s143 :: s144 :: s145 :: s146 :: s147 :: s148 :: s149 :: s150 :: s151 :: s152 :: s153 :: s154 :: s155 :: s156 :: s157 :: s158 :: s159 :: s160 :: s161 :: s162 :: s163 :: s164 :: s165 :: s166 :: s167 :: s168 :: s169 :: s170 :: s171 :: s172 :: s173 :: s174 :: s175 :: s176 :: s177 :: s178 :: s179 :: s180 :: s181 :: s182 :: []), []⟩ w := by
  have HK := Lib.hid hK
  have HD := Lib.hid hD
  have HO := Lib.hid hO
  have HX := Lib.hid hX
  obtain ⟨q0, q2⟩ := hX w (grownBy_refl _ _)
  have HGg : Hid (g < w.heap.size) := hD.lt
  obtain ⟨tt, et⟩ : ∃ tt : Nat, (tt : Int) = (G : Int) - 1 := ⟨G - 1, by omega⟩
  have zt0 : (0 : Int) ≤ (tt : Int) := by omega
  have wt : IntKind.i64.wrap ((G : Int) - 1) = (tt : Int) := by rw [← et]; exact IntWalk.i64_in _ (by omega)
  have HTT : Hid (tt = G - 1) := (show Hid _ from by show _ = _; omega)
  clear hK hD hO hX et
  conv => arg 2; whnf
  go_region_held3 (fun w' => w'.cell? ⟨q, 0, none⟩ = some (.int .i64 n) ∧ w'.cell? ⟨q, 2, none⟩ = some (.int .i64 G)) (first | exact ⟨q0, q2⟩ | go_keep)
    (first | (go_at_call 16; refine (HO.out _ (by exact HD.out)).mono ?_; rintro e9 w9 ⟨vo, O, rfl, hperm, hown, hd9, hg9⟩; have HG9 : Hid (w.grownBy w9 (some g)) := (show Hid _ from ⟨hg9.os, hg9.tape, hg9.output, hg9.size, hg9.block⟩); have HPM := Lib.hid hperm; have HD9 : Hid (Dk w9 g) := (show Hid _ from hd9); have HSO : Hid (SE g w9 vo O) := (show Hid _ from SE.of_own hown (fun x hx => nums_r (by omega) x (hperm.mem_iff.1 hx)) HGg.out); obtain ⟨q0, q2⟩ := HX.out w9 HG9.out; obtain ⟨Ao, co, rfl, hco, hcm, _, _⟩ := HSO.out; have zu : (tt : Int) ≤ (co : Int) := (by have h1 := HPM.out.length_eq; rw [nums_len] at h1; have h2 := HTT.out; omega); have zv : tt ≤ co := (by omega); clear hperm hown hd9 hg9))
  all_goals
    have hOl : O.length = n := by have h1 := HPM.out.length_eq; rwa [nums_len] at h1
    have hS : SE g w9 (.slice Ao tt co) (O.take tt) := by
      obtain ⟨A2, c2, e2, hcl2, hcm2, hr2, ha2⟩ := HSO.out
      injection e2 with e21 e22 e23
      subst e23
      have h0t := HTT.out
      have htl : (O.take tt).length = tt := by rw [List.length_take]; omega
      refine ⟨Ao, co, by rw [htl], by rw [htl]; omega, by omega, fun x hx => hr2 x (List.mem_of_mem_take hx), fun h0 => ?_⟩
      obtain ⟨b2, o2, e3, hb2, hbg2, hc2⟩ := ha2 (by omega)
      refine ⟨b2, o2, by rw [e21]; exact e3, hb2, hbg2, fun j hj => ?_⟩
      rw [hc2 j (by rw [htl] at hj; omega)]
      simp
    have hk := HK.out
    have h1 := HTT.out
    subst h1
    first
      | exact hk _ _ _ _ _ _ _ _ _ Ao co O w9 ⟨rfl, HPM.out, hS, HD9.out, HG9.out⟩
      | exact hk _ _ _ _ _ _ _ _ _ Ao co O w9.drew ⟨rfl, HPM.out, hS, HD9.out, grownBy_trans HG9.out (grownBy_of_below (Below.refl _ w9).drew _)⟩


end Go.Proofs.YtoiabanpnkpbhaaGreatDoor
