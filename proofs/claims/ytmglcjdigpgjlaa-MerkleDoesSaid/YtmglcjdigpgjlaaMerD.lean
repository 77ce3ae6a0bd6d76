/- What Lead of merkle and of privatefetchref12 return. -/
import Derived.Test.YtmglcjdigpgjlaaMerF
namespace Go.Proofs.Ytmglcjdigpgjlaa
open Go.RowKit

/-- where a path leads, and the error -/
def ldE (C I : Int) (ds : List Int) (d : Int) : Int := if lnE C I ≠ 0 then lnE C I else if ds.length ≠ plen C.toNat I.toNat then 2 else if dgs (d :: ds) = true then 0 else 1
def ldV (C I : Int) (ds : List Int) (d : Int) : Int := if ldE C I ds d = 0 then lead C.toNat I.toNat ds d else 0
theorem ld_ln {C I d : Int} {ds : List Int} (h : lnE C I ≠ 0) : ldE C I ds d = lnE C I ∧ ldV C I ds d = 0 := by
  have h1 : ldE C I ds d = lnE C I := by unfold ldE; rw [if_pos h]
  exact ⟨h1, by unfold ldV; rw [h1, if_neg h]⟩
theorem ld_2 {C I d : Int} {ds : List Int} (h : lnE C I = 0) (h' : ds.length ≠ plen C.toNat I.toNat) : ldE C I ds d = 2 ∧ ldV C I ds d = 0 := by
  have h1 : ldE C I ds d = 2 := by unfold ldE; rw [if_neg (by simp [h]), if_pos h']
  exact ⟨h1, by unfold ldV; rw [h1]; rfl⟩
theorem ld_1 {C I d : Int} {ds : List Int} (h : lnE C I = 0) (h' : ds.length = plen C.toNat I.toNat) (h2 : dgs (d :: ds) = false) : ldE C I ds d = 1 ∧ ldV C I ds d = 0 := by
  have h1 : ldE C I ds d = 1 := by unfold ldE; rw [if_neg (by simp [h]), if_neg (by simp [h']), if_neg (by simp [h2])]
  exact ⟨h1, by unfold ldV; rw [h1]; rfl⟩
theorem ld_0 {C I d : Int} {ds : List Int} (h : lnE C I = 0) (h' : ds.length = plen C.toNat I.toNat) (h2 : dgs (d :: ds) = true) : ldE C I ds d = 0 ∧ ldV C I ds d = lead C.toNat I.toNat ds d := by
  have h1 : ldE C I ds d = 0 := by unfold ldE; rw [if_neg (by simp [h]), if_neg (by simp [h']), if_pos h2]
  exact ⟨h1, by unfold ldV; rw [if_pos h1]⟩
theorem lnE_inv {C I : Int} (h : lnE C I = 0) : 0 ≤ I ∧ I < C ∧ C ≤ 1024 ∧ lnV C I = plen C.toNat I.toNat := by
  have h1 := h
  unfold lnE at h1
  split at h1
  · omega
  · split at h1
    · omega
    · exact ⟨by omega, by omega, by omega, by unfold lnV; rw [if_pos h]⟩
theorem dgs_split (l : List Int) : dgs l = true ∨ ∃ k, ∃ h : k < l.length, dg l[k] = false := by
  by_cases h : dgs l = true
  · exact .inl h
  · refine .inr ?_
    simp only [dgs, List.all_eq_true] at h
    by_cases h2 : ∃ k, ∃ h : k < l.length, dg l[k] = false
    · exact h2
    · refine absurd (fun x hx => ?_) h
      obtain ⟨j, hj, rfl⟩ := List.mem_iff_getElem.1 hx
      by_cases h3 : dg l[j] = true
      · exact h3
      · exact absurd ⟨j, hj, by simpa using h3⟩ h2
theorem dgs_at {l : List Int} {k : Nat} (hk : k < l.length) (h : dg l[k] = false) : dgs l = false := by
  by_cases h2 : dgs l = true
  · have := dgs_all h2 _ (List.getElem_mem hk)
    rw [h] at this; cases this
  · simpa using h2
theorem dgs_of {l : List Int} {k : Nat} (hk : k = l.length) (hd : ∀ j (_ : j < k) (_ : k ≤ l.length), dg (l[j]'(by omega)) = true) : dgs l = true := by
  simp only [dgs, List.all_eq_true]
  intro x hx
  obtain ⟨j, hj, rfl⟩ := List.mem_iff_getElem.1 hx
  exact hd j (by omega) (by omega)
theorem dg_node (a b : Int) : dg (node a b) = true := decide_eq_true (by have := node_bd a b; omega)
theorem SI.cut {w : World} {b off n c : Nat} {r : List Int} (h : SI w (.slice (some ⟨b, off, none⟩) n c) r) (h1 : 0 < n) : SI w (.slice (some ⟨b, off + 1, none⟩) (n - 1) (c - 1)) (r.drop 1) := by
  obtain ⟨A, c', e, hc, hm, hr, ha⟩ := h
  injection e with e1 e2 e3
  subst e1; subst e2; subst e3
  refine ⟨_, _, by rw [List.length_drop], by rw [List.length_drop]; omega, by omega, fun x hx => hr x (List.mem_of_mem_drop hx), fun h0 => ?_⟩
  obtain ⟨b', off', e, hb, hcell⟩ := ha h1
  injection e with e; injection e with e1 e2
  subst e1; subst e2
  refine ⟨_, _, rfl, hb, fun j hj => ?_⟩
  rw [List.length_drop] at hj
  rw [List.getElem_drop, show off + 1 + j = off + (1 + j) by omega]
  exact hcell (1 + j) (by omega)
theorem SI.cut0 {w : World} {A : Option Addr} {c : Nat} {r : List Int} (hr : r.length = 1) (hc : c ≤ 9223372036854775807) : SI w (.slice A 0 c) (r.drop 1) :=
  ⟨A, c, by rw [List.length_drop, hr], by rw [List.length_drop]; omega, hc, fun x hx => by
    have h0 : r.drop 1 = [] := List.eq_nil_of_length_eq_zero (by rw [List.length_drop]; omega)
    rw [h0] at hx; simp at hx, fun h => by rw [List.length_drop] at h; omega⟩

/-- the head of a round of Lead -/
def LRel (w : World) (C I : Nat) (ds : List Int) (d0 : Int) (dv rv iv cv : Value) : Prop :=
  ∃ (c i : Nat) (r : List Int) (d : Int), dv = .int .i64 d ∧ iv = .int .i64 i ∧ cv = .int .i64 c ∧ SI w rv r ∧ 1 ≤ c ∧ c ≤ 1024 ∧ i < c ∧ dg d = true ∧ r.length = plen c i ∧ lead c i r d = lead C I ds d0

set_option maxHeartbeats 4000000 in
set_option maxRecDepth 100000 in
theorem plead_any (C I d : Int) (ds : List Int) (vd : Value) (w : World) (hC : i64r C) (hI : i64r I) (_hd : i64r d) (h : SI w vd ds) (hlen : ds.length ≤ 100000) :
    Calls Try.prog 33 #[.agg #[.int .i64 I, .int .i64 C, vd], .int .i64 d] w fun e w' => e = .returned (.tuple #[.int .i64 (ldV C I ds d), .int .i64 (ldE C I ds d)]) ∧ Below w.heap.size w w' := by
  have hS := h
  obtain ⟨A, c, rfl, hcc, hmm, hr, ha⟩ := h
  have HS := Lib.hid hS
  have HRR := Lib.hid hr
  clear ha hS hr
  by_cases h0 : lnE C I = 0
  · obtain ⟨i1, i2, i3, i4⟩ := lnE_inv h0
    have H0 := Lib.hid h0
    have hl0 : (lnE C I != 0) = false := by simp [h0]
    have H4 := Lib.hid i4
    obtain ⟨Cn, rfl⟩ : ∃ n : Nat, C = n := ⟨C.toNat, by omega⟩
    obtain ⟨In, rfl⟩ : ∃ n : Nat, I = n := ⟨I.toNat, by omega⟩
    simp only [Int.toNat_natCast] at H4
    clear h0 i4
    by_cases h1 : ds.length = plen Cn In
    · have hl1 : ((ds.length : Int) != (plen Cn In : Int)) = false := by rw [bne_eq_false_iff_eq]; omega
      have H1 := Lib.hid h1
      clear h1
      go_enter Try.func33, Try.ntmps33
      go_wp2_with fail
      (with_reducible refine (plen_any _ _ _ hC hI).mono ?_); rintro e w' ⟨rfl, rfl⟩
      rw [H4.out]
      have hsz : w.heap.size < (w.alloc (.cells #[.int .i64 In, .int .i64 Cn, .slice A ds.length c] 46)).heap.size := by simp
      have hbx : Below w.heap.size w (w.alloc (.cells #[.int .i64 In, .int .i64 Cn, .slice A ds.length c] 46)) := (Below.refl _ _).alloc (Nat.le_refl _) _
      obtain ⟨wx, ewx⟩ : ∃ wx : World, wx = w.alloc (.cells #[.int .i64 In, .int .i64 Cn, .slice A ds.length c] 46) := ⟨_, rfl⟩
      have x0 : wx.cell? ⟨w.heap.size, 0, none⟩ = some (.int .i64 In) := by rw [ewx]; exact cell_of_row _ _ 0 _ _ (0, 0) (heap_alloc_new w _)
      have x1 : wx.cell? ⟨w.heap.size, 1, none⟩ = some (.int .i64 Cn) := by rw [ewx]; exact cell_of_row _ _ 1 _ _ (0, 0) (heap_alloc_new w _)
      have x2 : wx.cell? ⟨w.heap.size, 2, none⟩ = some (.slice A ds.length c) := by rw [ewx]; exact cell_of_row _ _ 2 _ _ (0, 0) (heap_alloc_new w _)
      rw [← ewx] at hsz hbx ⊢
      clear ewx
      have hSx := SI.below HS.out hbx
      go_wp2_with (at_builtin; refine wpList_append_ints _ rfl _ _ 22 rfl w.heap.size 3 Try.underlying22 iinfo _ [d] rfl (own_lit (base := w.heap.size) wx 3 [.int .i64 d] hbx.size (by simp [maxLen])) wx.heap.size _ ds rfl (SB.below hSx ((Below.refl _ _).alloc (Nat.le_refl _) _)) (by simp; omega) (by simp; omega) ?_; intro v2 w2 hown2 hg2; obtain ⟨g2, cap2, rfl, hg2b, hg2l⟩ := own_form hown2 (by simp))
      have hlL : (d :: ds).length = ds.length + 1 := rfl
      have hown2' : w2.ownsRow w.heap.size 3 1 (.slice (some ⟨g2, 0, none⟩) (d :: ds).length cap2) (d :: ds).length ((d :: ds).map (Value.int .i64)) := hown2
      have hbx2 : Below wx.heap.size wx w2 := ((Below.refl _ _).alloc (Nat.le_refl _) _).grown hg2 (by simp) (fun k hk => by injection hk with hk; exact Nat.le_of_eq hk)
      have hW2 := hbx.trans (hbx2.mono hbx.size)
      have y0 := (hbx2.cell (p := ⟨w.heap.size, 0, none⟩) hsz).trans x0
      have y1 := (hbx2.cell (p := ⟨w.heap.size, 1, none⟩) hsz).trans x1
      have y2 := (hbx2.cell (p := ⟨w.heap.size, 2, none⟩) hsz).trans x2
      have hz2 : w.heap.size < w2.heap.size := by have := hbx2.size; omega
      have hS2 := SI.below HS.out hW2
      have HO := Lib.hid hown2'
      have HL := Lib.hid hlL
      have HS2 := Lib.hid hS2
      clear x0 x1 x2 hown2 hown2' hlL hg2 hS2 hSx
      go_loop [35] (fun i => ∃ k : Nat, k ≤ ds.length + 1 ∧ i = .int .i64 k ∧ ∀ j (_ : j < k) (_ : k ≤ (d :: ds).length), dg ((d :: ds)[j]'(by omega)) = true) (fun i => ds.length + 1 - (intOf i).toNat)
      case atStart => exact ⟨0, Nat.zero_le _, rfl, fun j h => absurd h (by omega)⟩
      case round =>
        obtain ⟨k, hk, rfl, hall⟩ := hrel
        have hall := Lib.hid hall
        by_cases hlt : k < (d :: ds).length
        · have hck := own_int HO.out k hlt
          have hk2 : k < ds.length + 1 := hlt
          by_cases h1 : dg (d :: ds)[k] = true
          · have HA2 := Lib.hid (all_snoc hall.out hlt h1)
            clear y0 y1 y2
            generalize (d :: ds)[k] = z at hck h1
            go_wp2_with ((with_reducible refine (proper_t _ _ h1).mono ?_); rintro e w' ⟨rfl, rfl⟩)
            go_round
            case rel => exact ⟨k + 1, by omega, by go_num, HA2.out⟩
            case measure => simp [intOf]; omega
          · have h1f : dg (d :: ds)[k] = false := by simpa using h1
            have HE := Lib.hid (ld_1 (C := Cn) (I := In) H0.out (by simpa using H1.out) (dgs_at hlt h1f))
            clear y0 y1 y2 h1
            generalize (d :: ds)[k] = z at hck h1f
            go_wp2_with ((with_reducible refine (proper_f _ _ h1f).mono ?_); rintro e w' ⟨rfl, rfl⟩)
            go_ret2
            exact ⟨ret_two HE.out.2.symm HE.out.1.symm, hW2⟩
        · have hdg := dgs_of (show k = (d :: ds).length by rw [HL.out] at hlt ⊢; omega) hall.out
          have HE := Lib.hid (ld_0 (C := Cn) (I := In) H0.out (by simpa using H1.out) hdg)
          have hk2 : ¬ k < ds.length + 1 := hlt
          have hdd : dg d = true := dgs_all hdg d (by simp)
          have HDD := Lib.hid hdd
          clear hdg hdd hlt
          go_wp2_with fail
          go_quiet (fail)
          go_wp2_with fail
          go_loop [1, 10, 11, 12] (fun dv rv iv cv => LRel w2 Cn In ds d dv rv iv cv) (fun _ _ _ c => (intOf c).toNat)
          case atStart => exact ⟨Cn, In, ds, d, rfl, rfl, rfl, HS2.out, by omega, by omega, by omega, HDD.out, H1.out, rfl⟩
          case round =>
            obtain ⟨c', i, r, d', rfl, rfl, rfl, hSr, hc1, hc2, hi, hdd, hrl, hld⟩ := hrel
            obtain ⟨Ar, cr, rfl, hcr, hcm, hrr, har⟩ := id hSr
            have HSr := Lib.hid hSr
            have HRL := Lib.hid hrl
            have HLD := Lib.hid hld
            have hdt := dg_t hdd
            have HDT := Lib.hid hdd
            clear hSr hrl hld hdd
            by_cases hlt : 1 < c'
            · have hxr := xor1 i (by omega)
              by_cases hk : i ^^^ 1 < c'
              · have HU := Lib.hid (plen_up hlt i)
                have HLU := Lib.hid (lead_up hlt hk r d')
                have hrp : 0 < r.length := by have h1 := HRL.out; rw [HU.out, if_pos hk] at h1; omega
                obtain ⟨b, off, rfl, hb, hcell⟩ := har hrp
                have ck := hcell 0 hrp
                simp only [Nat.add_zero] at ck
                have hd1 : decide ((c' : Int) ≤ ((i ^^^ 1 : Nat) : Int)) = false := by simp; omega
                have hd2 : decide (c' ≤ i ^^^ 1) = false := by simp; omega
                have HG := Lib.hid (show r[0]?.getD 0 = r[0] by rw [List.getElem?_eq_getElem hrp]; rfl)
                have hcut : ∀ A', (cr = 1 → A' = some ⟨b, off, none⟩) → (cr ≠ 1 → A' = some ⟨b, off + 1, none⟩) → SI (w2.drewN nq) (.slice A' (r.length - 1) (cr - 1)) (r.drop 1) := by
                  intro A' g1 g2
                  by_cases hcr1 : cr = 1
                  · have hr1 : r.length = 1 := by omega
                    rw [hr1]
                    exact SI.cut0 hr1 (by omega)
                  · rw [g2 hcr1]
                    exact SI.cut HSr.out hrp
                clear hcell har
                have hc3 : (c' + 1) / 2 ≤ 1024 := by omega
                by_cases hev : i % 2 = 0
                · have hd3 : ((i : Int) % 2 == 0) = true := by rw [beq_iff_eq]; omega
                  have HEV := Lib.hid hev
                  clear hev
                  go_wp2_with ((with_reducible refine (pnode_any _ _ _).mono ?_); rintro e w' ⟨rfl, rfl⟩)
                  refine ⟨⟨(c' + 1) / 2, i / 2, r.drop 1, node d' r[0], rfl, by go_num, by go_num, hcut _ (fun h => if_pos h) (fun h => if_neg h), by omega, hc3, by omega, dg_node _ _, ?_, ?_⟩, by simp [intOf]; omega⟩
                  · have h1 := HRL.out; rw [HU.out, if_pos hk] at h1; rw [List.length_drop]; omega
                  · have h1 := HLU.out; rw [if_pos HEV.out, HG.out] at h1; rw [← h1]; exact HLD.out
                · have hd3 : ((i : Int) % 2 == 0) = false := by rw [beq_eq_false_iff_ne]; omega
                  have HEV := Lib.hid hev
                  clear hev
                  go_wp2_with ((with_reducible refine (pnode_any _ _ _).mono ?_); rintro e w' ⟨rfl, rfl⟩)
                  refine ⟨⟨(c' + 1) / 2, i / 2, r.drop 1, node r[0] d', rfl, by go_num, by go_num, hcut _ (fun h => if_pos h) (fun h => if_neg h), by omega, hc3, by omega, dg_node _ _, ?_, ?_⟩, by simp [intOf]; omega⟩
                  · have h1 := HRL.out; rw [HU.out, if_pos hk] at h1; rw [List.length_drop]; omega
                  · have h1 := HLU.out; rw [if_neg HEV.out, HG.out] at h1; rw [← h1]; exact HLD.out
              · have HU := Lib.hid (plen_up hlt i)
                have HLU := Lib.hid (lead_skip hlt hk r d')
                have hd1 : decide ((c' : Int) ≤ ((i ^^^ 1 : Nat) : Int)) = true := by simp; omega
                have hd2 : decide (c' ≤ i ^^^ 1) = true := by simp; omega
                clear har
                go_wp2_with fail
                refine ⟨⟨(c' + 1) / 2, i / 2, r, d', rfl, by go_num, by go_num, HSr.out, by omega, by omega, by omega, HDT.out, ?_, by rw [← HLU.out]; exact HLD.out⟩, by simp [intOf]; omega⟩
                have h1 := HRL.out; rw [HU.out, if_neg hk] at h1; omega
            · have HU := Lib.hid (lead_small (show c' ≤ 1 by omega) i r d')
              clear har
              go_wp2_with fail
              go_ret2
              exact ⟨ret_two (by rw [HE.out.2, Int.toNat_natCast, Int.toNat_natCast, ← HLD.out, HU.out]) HE.out.1.symm, Below.drewN hW2 _⟩
    · have hl1 : ((ds.length : Int) != (plen Cn In : Int)) = true := by rw [bne_iff_ne]; omega
      have HE := Lib.hid (ld_2 (d := d) H0.out (by simpa using h1))
      clear h1
      go_enter Try.func33, Try.ntmps33
      go_wp2_with fail
      (with_reducible refine (plen_any _ _ _ hC hI).mono ?_); rintro e w' ⟨rfl, rfl⟩
      rw [H4.out]
      go_wp2_with fail
      go_ret2
      exact ⟨ret_two HE.out.2.symm HE.out.1.symm, (Below.refl _ _).alloc (Nat.le_refl _) _⟩
  · have hl0 : (lnE C I != 0) = true := by simpa using h0
    have HE := Lib.hid (ld_ln (ds := ds) (d := d) h0)
    clear h0
    go_enter Try.func33, Try.ntmps33
    go_wp2_with ((with_reducible refine (plen_any _ _ _ hC hI).mono ?_); rintro e w' ⟨rfl, rfl⟩)
    go_ret2
    exact ⟨ret_two HE.out.2.symm HE.out.1.symm, (Below.refl _ _).alloc (Nat.le_refl _) _⟩
/-- the head of a round of the reference's Lead -/
def RLRel (C I : Nat) (ds : List Int) (d0 : Int) (dv iv kv cv : Value) : Prop :=
  ∃ (c i k : Nat) (d : Int), dv = .int .i64 d ∧ iv = .int .i64 i ∧ kv = .int .i64 k ∧ cv = .int .i64 c ∧ 1 ≤ c ∧ c ≤ 1024 ∧ i < c ∧ dg d = true ∧ k + plen c i = ds.length ∧ lead c i (ds.drop k) d = lead C I ds d0
theorem plen_lt (c : Nat) : 1 ≤ c → ∀ i, plen c i < c := by
  induction c using Nat.strongRecOn with
  | ind c ih =>
    intro hc i
    by_cases h : c ≤ 1
    · rw [plen_small h]; omega
    · rw [plen_up (by omega)]
      have := ih ((c + 1) / 2) (by omega) (by omega) (i / 2)
      split <;> omega
theorem lsE_cons {d : Int} {ds : List Int} (h : ds.length + 1 ≤ 1024) : lsE (d :: ds) = if dgs (d :: ds) = true then 0 else 1 := by
  unfold lsE
  rw [if_neg (by rw [List.length_cons]; omega)]
set_option maxHeartbeats 4000000 in
set_option maxRecDepth 100000 in
theorem rlead_any (C I d : Int) (ds : List Int) (vd : Value) (w : World) (hC : i64r C) (hI : i64r I) (hd : i64r d) (h : SI w vd ds) (hlen : ds.length ≤ 100000) :
    Calls Try.prog 34 #[.agg #[.int .i64 I, .int .i64 C, vd], .int .i64 d] w fun e w' => e = .returned (.tuple #[.int .i64 (ldV C I ds d), .int .i64 (ldE C I ds d)]) ∧ Below w.heap.size w w' := by
  have hS := h
  obtain ⟨A, c, rfl, hcc, hmm, hr, ha⟩ := h
  have HS := Lib.hid hS
  have HRR := Lib.hid hr
  clear ha hS hr
  by_cases h0 : lnE C I = 0
  · obtain ⟨i1, i2, i3, i4⟩ := lnE_inv h0
    have H0 := Lib.hid h0
    have hl0 : (lnE C I != 0) = false := by simp [h0]
    have H4 := Lib.hid i4
    obtain ⟨Cn, rfl⟩ : ∃ n : Nat, C = n := ⟨C.toNat, by omega⟩
    obtain ⟨In, rfl⟩ : ∃ n : Nat, I = n := ⟨I.toNat, by omega⟩
    simp only [Int.toNat_natCast] at H4
    clear h0 i4
    by_cases h1 : ds.length = plen Cn In
    · have hl1 : ((ds.length : Int) != (plen Cn In : Int)) = false := by rw [bne_eq_false_iff_eq]; omega
      have H1 := Lib.hid h1
      clear h1
      go_enter Try.func34, Try.ntmps34
      go_wp2_with fail
      (with_reducible refine (rlen_any _ _ _ hC hI).mono ?_); rintro e w' ⟨rfl, rfl⟩
      rw [H4.out]
      have hsz : w.heap.size < (w.alloc (.cells #[.int .i64 In, .int .i64 Cn, .slice A ds.length c] 46)).heap.size := by simp
      have hbx : Below w.heap.size w (w.alloc (.cells #[.int .i64 In, .int .i64 Cn, .slice A ds.length c] 46)) := (Below.refl _ _).alloc (Nat.le_refl _) _
      obtain ⟨wx, ewx⟩ : ∃ wx : World, wx = w.alloc (.cells #[.int .i64 In, .int .i64 Cn, .slice A ds.length c] 46) := ⟨_, rfl⟩
      have x0 : wx.cell? ⟨w.heap.size, 0, none⟩ = some (.int .i64 In) := by rw [ewx]; exact cell_of_row _ _ 0 _ _ (0, 0) (heap_alloc_new w _)
      have x1 : wx.cell? ⟨w.heap.size, 1, none⟩ = some (.int .i64 Cn) := by rw [ewx]; exact cell_of_row _ _ 1 _ _ (0, 0) (heap_alloc_new w _)
      have x2 : wx.cell? ⟨w.heap.size, 2, none⟩ = some (.slice A ds.length c) := by rw [ewx]; exact cell_of_row _ _ 2 _ _ (0, 0) (heap_alloc_new w _)
      rw [← ewx] at hsz hbx ⊢
      clear ewx
      have hSx := SI.below HS.out hbx
      go_wp2_with (at_builtin; refine wpList_append_ints _ rfl _ _ 22 rfl w.heap.size 3 Try.underlying22 iinfo _ [d] rfl (own_lit (base := w.heap.size) wx 3 [.int .i64 d] hbx.size (by simp [maxLen])) wx.heap.size _ ds rfl (SB.below hSx ((Below.refl _ _).alloc (Nat.le_refl _) _)) (by simp; omega) (by simp; omega) ?_; intro v2 w2 hown2 hg2; obtain ⟨g2, cap2, rfl, hg2b, hg2l⟩ := own_form hown2 (by simp))
      have hL : SI w2 (.slice (some ⟨g2, 0, none⟩) (ds.length + 1) cap2) (d :: ds) := SI.of_own (l := d :: ds) (v := .slice (some ⟨g2, 0, none⟩) (d :: ds).length cap2) hown2 (by
        intro x hx
        rcases List.mem_cons.1 hx with rfl | hx
        · exact hd
        · exact HRR.out x hx)
      have hbx2 : Below wx.heap.size wx w2 := ((Below.refl _ _).alloc (Nat.le_refl _) _).grown hg2 (by simp) (fun k hk => by injection hk with hk; exact Nat.le_of_eq hk)
      have hW2 := hbx.trans (hbx2.mono hbx.size)
      have y0 := (hbx2.cell (p := ⟨w.heap.size, 0, none⟩) hsz).trans x0
      have y1 := (hbx2.cell (p := ⟨w.heap.size, 1, none⟩) hsz).trans x1
      have y2 := (hbx2.cell (p := ⟨w.heap.size, 2, none⟩) hsz).trans x2
      have hz2 : w.heap.size < w2.heap.size := by have := hbx2.size; omega
      have hS2 := SI.below HS.out hW2
      have HS2 := Lib.hid hS2
      clear x0 x1 x2 hown2 hg2 hS2 hSx
      (with_reducible refine (rchk_any (d :: ds) (.slice (some ⟨g2, 0, none⟩) (ds.length + 1) cap2) _ hL).mono ?_); rintro e w' ⟨rfl, rfl⟩
      have hpl := plen_lt Cn (by omega) In
      have hls := lsE_cons (d := d) (show ds.length + 1 ≤ 1024 by have := H1.out; omega)
      rcases Bool.eq_false_or_eq_true (dgs (d :: ds)) with hdg | hdg
      · have HE := Lib.hid (ld_0 (C := Cn) (I := In) H0.out (by simpa using H1.out) hdg)
        have HDD := Lib.hid (dgs_all hdg d (by simp))
        rw [hls, if_pos hdg]
        clear hdg hls hpl
        go_wp2_with fail
        go_loop [1, 9, 10, 11] (fun dv iv kv cv => RLRel Cn In ds d dv iv kv cv) (fun _ _ _ c => (intOf c).toNat)
        case atStart => exact ⟨Cn, In, 0, d, rfl, rfl, rfl, rfl, by omega, by omega, by omega, HDD.out, by have := H1.out; omega, by rw [List.drop_zero]⟩
        case round =>
          obtain ⟨c', i, k, d', rfl, rfl, rfl, rfl, hc1, hc2, hi, hdd, hrl, hld⟩ := hrel
          have HRL := Lib.hid hrl
          have HLD := Lib.hid hld
          have hdt := dg_t hdd
          have HDT := Lib.hid hdd
          clear hrl hld hdd
          by_cases hlt : 1 < c'
          · have hxr := xor1 i (by omega)
            by_cases hk : i ^^^ 1 < c'
            · have HU := Lib.hid (plen_up hlt i)
              have HLU := Lib.hid (lead_up hlt hk (ds.drop k) d')
              have hrp : k < ds.length := by have h1 := HRL.out; rw [HU.out, if_pos hk] at h1; omega
              obtain ⟨b, off, hA, hb, hcell⟩ := SB.cells HS2.out (by omega)
              subst hA
              have ck := hcell k hrp
              have hd1 : decide (((i ^^^ 1 : Nat) : Int) < (c' : Int)) = true := by simp; omega
              have hd2 : decide (i ^^^ 1 < c') = true := by simp; omega
              have HG := Lib.hid (show (ds.drop k)[0]?.getD 0 = ds[k] by rw [List.getElem?_drop, Nat.add_zero, List.getElem?_eq_getElem hrp]; rfl)
              have HDR := Lib.hid (show (ds.drop k).drop 1 = ds.drop (k + 1) by rw [List.drop_drop])
              clear hcell
              have hc3 : (c' + 1) / 2 ≤ 1024 := by omega
              by_cases hev : i % 2 = 0
              · have hd3 : ((i : Int) % 2 == 0) = true := by rw [beq_iff_eq]; omega
                have HEV := Lib.hid hev
                clear hev
                go_wp2_with ((with_reducible refine (rnode_any _ _ _).mono ?_); rintro e w' ⟨rfl, rfl⟩)
                refine ⟨⟨(c' + 1) / 2, i / 2, k + 1, node d' ds[k], rfl, by go_num, by go_num, by go_num, by omega, hc3, by omega, dg_node _ _, ?_, ?_⟩, by simp [intOf]; omega⟩
                · have h1 := HRL.out; rw [HU.out, if_pos hk] at h1; omega
                · have h1 := HLU.out; rw [if_pos HEV.out, HG.out, HDR.out] at h1; rw [← h1]; exact HLD.out
              · have hd3 : ((i : Int) % 2 == 0) = false := by rw [beq_eq_false_iff_ne]; omega
                have HEV := Lib.hid hev
                clear hev
                go_wp2_with ((with_reducible refine (rnode_any _ _ _).mono ?_); rintro e w' ⟨rfl, rfl⟩)
                refine ⟨⟨(c' + 1) / 2, i / 2, k + 1, node ds[k] d', rfl, by go_num, by go_num, by go_num, by omega, hc3, by omega, dg_node _ _, ?_, ?_⟩, by simp [intOf]; omega⟩
                · have h1 := HRL.out; rw [HU.out, if_pos hk] at h1; omega
                · have h1 := HLU.out; rw [if_neg HEV.out, HG.out, HDR.out] at h1; rw [← h1]; exact HLD.out
            · have HU := Lib.hid (plen_up hlt i)
              have HLU := Lib.hid (lead_skip hlt hk (ds.drop k) d')
              have hd1 : decide (((i ^^^ 1 : Nat) : Int) < (c' : Int)) = false := by simp; omega
              have hd2 : decide (i ^^^ 1 < c') = false := by simp; omega
              go_wp2_with fail
              refine ⟨⟨(c' + 1) / 2, i / 2, k, d', rfl, by go_num, rfl, by go_num, by omega, by omega, by omega, HDT.out, ?_, by rw [← HLU.out]; exact HLD.out⟩, by simp [intOf]; omega⟩
              have h1 := HRL.out; rw [HU.out, if_neg hk] at h1; omega
          · have HU := Lib.hid (lead_small (show c' ≤ 1 by omega) i (ds.drop k) d')
            go_wp2_with fail
            go_ret2
            exact ⟨ret_two (by rw [HE.out.2, Int.toNat_natCast, Int.toNat_natCast, ← HLD.out, HU.out]) HE.out.1.symm, hW2⟩
      · have HE := Lib.hid (ld_1 (C := Cn) (I := In) H0.out (by simpa using H1.out) hdg)
        rw [hls, if_neg (by rw [hdg]; exact Bool.false_ne_true)]
        clear hdg hls hpl
        go_wp2_with fail
        go_ret2
        exact ⟨ret_two HE.out.2.symm HE.out.1.symm, hW2⟩
    · have hl1 : ((ds.length : Int) != (plen Cn In : Int)) = true := by rw [bne_iff_ne]; omega
      have HE := Lib.hid (ld_2 (d := d) H0.out (by simpa using h1))
      clear h1
      go_enter Try.func34, Try.ntmps34
      go_wp2_with fail
      (with_reducible refine (rlen_any _ _ _ hC hI).mono ?_); rintro e w' ⟨rfl, rfl⟩
      rw [H4.out]
      go_wp2_with fail
      go_ret2
      exact ⟨ret_two HE.out.2.symm HE.out.1.symm, (Below.refl _ _).alloc (Nat.le_refl _) _⟩
  · have hl0 : (lnE C I != 0) = true := by simpa using h0
    have HE := Lib.hid (ld_ln (ds := ds) (d := d) h0)
    clear h0
    go_enter Try.func34, Try.ntmps34
    go_wp2_with ((with_reducible refine (rlen_any _ _ _ hC hI).mono ?_); rintro e w' ⟨rfl, rfl⟩)
    go_ret2
    exact ⟨ret_two HE.out.2.symm HE.out.1.symm, (Below.refl _ _).alloc (Nat.le_refl _) _⟩
end Go.Proofs.Ytmglcjdigpgjlaa
