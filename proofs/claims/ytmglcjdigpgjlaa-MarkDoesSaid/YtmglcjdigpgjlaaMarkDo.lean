/- mark and the reference agree: which directories are valid, who is in them, all marks, and what verifies. -/
import Derived.Test.YtmglcjdigpgjlaaMarkFi
namespace Go.Proofs.Ytmglcjdigpgjlaa
open Go.RowKit Go.Maps

theorem SG.sc {α : Type} {enc : α → List Int} {sz B : Nat} {w : World} {v : Value} {l : List α} (h : SG enc sz B w v l) (hl : ∀ x ∈ l, (enc x).length = sz) (hz : 0 < sz) :
    SC B w v l.length sz ((l.flatMap enc).map (Value.int .i64)) := by
  obtain ⟨A, c, rfl, hc, hm, hr, ha⟩ := h
  have hlen : (l.flatMap enc).length = l.length * sz := by
    clear ha hr hc
    induction l with
    | nil => simp
    | cons x l ih =>
      rw [List.flatMap_cons, List.length_append, ih (fun y hy => hl y (by simp [hy])), hl x (by simp), List.length_cons, Nat.add_mul]
      omega
  refine ⟨A, c, rfl, by simpa using hlen, fun h0 => ?_⟩
  obtain ⟨b, off, rfl, hb, hcell⟩ := ha h0
  refine ⟨b, off, rfl, hb, fun j u hu => ?_⟩
  have hj : j < l.length * sz := by
    have := (List.getElem?_eq_some_iff.1 hu).1
    rw [List.length_map] at this
    omega
  have h1 : j / sz < l.length := (Nat.div_lt_iff_lt_mul hz).2 hj
  have h2 := hcell (j / sz) h1 (j % sz) (Nat.mod_lt _ hz)
  rw [show off + (j / sz * sz + j % sz) = off + j by rw [Nat.mul_comm, Nat.div_add_mod]] at h2
  rw [h2, ← hu, List.getElem?_map]
  have h3 := flatMap_get enc sz l hl (j / sz) h1 (j % sz) (Nat.mod_lt _ hz)
  rw [show j / sz * sz + j % sz = j by rw [Nat.mul_comm, Nat.div_add_mod]] at h3
  rw [h3]

theorem flatMap_set (ps : List (Int × Int)) (y : Nat) (s : Int) (hy : y < ps.length) : ((ps.flatMap pcs).map (Value.int .i64)).set (y * 2 + 1) (.int .i64 s) = ((ps.set y (ps[y].1, s)).flatMap pcs).map (Value.int .i64) := by
  rw [← List.map_set]
  congr 1
  induction ps generalizing y with
  | nil => simp at hy
  | cons p ps ih =>
    cases y with
    | zero => simp [pcs]
    | succ y =>
      simp only [List.flatMap_cons, List.set_cons_succ, List.getElem_cons_succ]
      rw [← ih y (by simpa using hy)]
      rw [show (y + 1) * 2 + 1 = (y * 2 + 1) + 2 by omega]
      simp [pcs]

theorem SP_set {w : World} {base g cap : Nat} {ps : List (Int × Int)} (hP : ∀ x ∈ ps, ∀ y ∈ pcs x, i64r y)
    (hown : w.ownsRow base 31 2 (.slice (some ⟨g, 0, none⟩) ps.length cap) ps.length ((ps.flatMap pcs).map (Value.int .i64))) (y : Nat) (hy : y < ps.length) (s : Int) (hs : i64r s) :
    SP (w.setCell ⟨g, y * 2 + 1, none⟩ (.int .i64 s)).heap.size (w.setCell ⟨g, y * 2 + 1, none⟩ (.int .i64 s)) (.slice (some ⟨g, 0, none⟩) ps.length cap) (ps.set y (ps[y].1, s)) := by
  have h1 := (hown.stored (y * 2 + 1) (.int .i64 s)).1
  rw [flatMap_set ps y s hy] at h1
  have hl : (ps.set y (ps[y].1, s)).length = ps.length := List.length_set
  have h2 := SG.of_own (l := ps.set y (ps[y].1, s)) (enc := pcs) (sz := 2) (base := base) (e := 31) (v := .slice (some ⟨g, 0, none⟩) ps.length cap) (by rw [hl]; exact h1) (by
    intro x hx z hz
    rcases List.mem_or_eq_of_mem_set hx with h | h
    · exact hP x h z hz
    · subst h
      simp [pcs] at hz
      rcases hz with rfl | rfl
      · exact hP ps[y] (List.getElem_mem hy) _ (by simp [pcs])
      · exact hs) (fun _ _ => rfl)
  exact h2
theorem set_keep {w : World} {p : Addr} {v : Value} (h : w.cell? p = some v) (q : Addr) : (w.setCell q v).cell? p = some v := by
  by_cases e : q = p
  · subst e; exact World.cell?_setCell_same _ _ _ h
  · exact (World.cell?_setCell_other w q p v (by first | exact e | exact fun h => e h.symm)).trans h
theorem Ppl_r {ps : List (Int × Int)} (h : Ppl ps) (hl : ps.length ≤ 1000) : ∀ x ∈ ps, ∀ y ∈ pcs x, i64r y := by
  intro x hx y hy
  obtain ⟨k, hk, rfl⟩ := List.mem_iff_getElem.1 hx
  have h1 := h.1 k hk
  have h2 := h.2.1 k hk
  simp [pcs] at hy
  unfold i64r
  rcases hy with rfl | rfl <;> omega
theorem Ppl_set_r {ps : List (Int × Int)} (hP : ∀ x ∈ ps, ∀ y ∈ pcs x, i64r y) {y : Nat} (hy : y < ps.length) {s : Int} (hs : i64r s) : ∀ x ∈ ps.set y (ps[y].1, s), ∀ z ∈ pcs x, i64r z := by
  intro x hx z hz
  rcases List.mem_or_eq_of_mem_set hx with h | h
  · exact hP x h z hz
  · subst h
    simp [pcs] at hz
    rcases hz with rfl | rfl
    · exact hP ps[y] (List.getElem_mem hy) _ (by simp [pcs])
    · exact hs
theorem SP_len {B : Nat} {w : World} {A : Option Addr} {n c : Nat} {l : List (Int × Int)} (h : SP B w (.slice A l.length c) l) (hn : l.length = n) : SP B w (.slice A n c) l := by subst hn; exact h
theorem frs_ex (ps : List (Int × Int)) (pid : Int) : ∃ a b c, frs ps pid = .tuple #[.agg #[.int .i64 a, .int .i64 b], .bool c] ∧ i64r b := by
  unfold frs
  cases h : fnd ps pid with
  | none => exact ⟨0, 0, false, rfl, by unfold i64r; omega⟩
  | some p =>
    have := wi_t (fnd_r h).2.2.2
    exact ⟨p.1, p.2, true, rfl, by unfold i64r; omega⟩
theorem own_per {w : World} {base g cap : Nat} {ps : List (Int × Int)} (hown : w.ownsRow base 31 2 (.slice (some ⟨g, 0, none⟩) ps.length cap) ps.length ((ps.flatMap pcs).map (Value.int .i64))) (y : Nat) (hy : y < ps.length) :
    w.cell? ⟨g, y * 2 + 1, none⟩ = some (.int .i64 ps[y].2) := by
  rw [hown.cellAt _ (by omega), List.getElem?_map, flatMap_get pcs 2 ps (fun _ _ => rfl) y hy 1 (by omega)]
  rfl

set_option maxRecDepth 100000 in
set_option maxHeartbeats 4000000 in
theorem mdoes_walk (t l : List Int) (raw : List (Int × Int)) (vt vr vl : Value) (pid sec m : Int) (w : World) (ht : SI w vt t) (hr : SP w.heap.size w vr raw) (hl : SI w vl l) (_hpid : i64r pid) (hsec : i64r sec) :
    Calls Try.prog 3 #[vt, vr, .int .i64 pid, .int .i64 sec, .int .i64 m, vl] w fun e w' => e = .returned (.bool true) ∧ Below w.heap.size w w' := by
  have hap : ∀ (W : World) (v : Value) (l : List (Int × Int)), l.length ≤ 100 → SP W.heap.size W v l → SC W.heap.size W v l.length 2 ((l.flatMap pcs).map (Value.int .i64)) := fun W v l _ h => h.sc (fun _ _ => rfl) (by omega)
  have HAP := Lib.hid hap
  clear hap
  obtain ⟨i0, hi0, hz0, hz1', hz2'⟩ := info_parts pinfo
  go_enter Try.func3, Try.ntmps3
  go_wp2_with fail
  (with_reducible refine (msane_any _).mono ?_); rintro e w1 ⟨rfl, hb1⟩
  have ht1 := SI.below ht hb1
  have hz1 := hb1.size
  go_wp2_with fail
  (with_reducible refine (few_any t vt _ ht1).mono ?_); rintro e w' ⟨rfl, rfl⟩
  obtain ⟨Al, cl, rfl, hcl, hml, _, _⟩ := id hl
  obtain ⟨Ar, cr, rfl, hcr, hmr, _, _⟩ := id hr
  have HL := Lib.hid hl
  have HR := Lib.hid hr
  clear hl hr
  by_cases hf : t.length ≤ 500
  · rw [decide_eq_true hf]
    by_cases hlr : 100 < raw.length
    · go_wp2_with fail
      go_ret
      exact ⟨rfl, hb1⟩
    by_cases hlen : 1000 < l.length
    · go_wp2_with fail
      go_ret
      exact ⟨rfl, hb1⟩
    · go_wp2_with fail
      (with_reducible refine (new_any t vt _ ht1).mono ?_); rintro e w2 ⟨rfl, hdk2, hb2, hz2⟩
      have hW2 := hb1.trans (hb2.mono hb1.size)
      go_wp2_with fail
      (with_reducible refine (next_any 5 _ _ hdk2 (by unfold i64r; omega) (by omega)).mono ?_); rintro e w3 ⟨x, rfl, _, hx, hdk3, hg3⟩
      have hx' := hx (by omega)
      clear hx
      obtain ⟨n, rfl⟩ : ∃ n : Nat, x = n := ⟨x.toNat, by omega⟩
      have hgw : w.heap.size ≤ w1.heap.size := hz1
      have hW3 := hW2.trans (below_of_grownBy hg3 hgw (by omega))
      go_wp2_with fail
      rw [show (1 : Int) + (n : Int) = ((n + 1 : Nat) : Int) by omega]
      (with_reducible refine (people_any (n + 1) _ _ hdk3 (by omega)).mono ?_); rintro e w4 ⟨v4, ps, rfl, hlen4, hP, hown4, hdk4, hg4⟩
      rw [← hlen4] at hown4
      have hz3 := hg3.size
      have hz4 := hg4.size
      have hW4 := hW3.trans (below_of_grownBy hg4 hgw (by omega))
      have hn5 : ps.length ≤ 5 := by omega
      have hn1 : 0 < ps.length := by omega
      clear hlen4
      obtain ⟨g4, c4, rfl, hg4b, hg4l⟩ := own_form hown4 hn1
      have hSP4 := SP_of_ppl hP hown4 (by omega)
      have HP := Lib.hid hP
      clear hP
      go_wp2_with (at_builtin; refine wpList_append_sc _ rfl _ _ 23 rfl w4.heap.size 31 i0 _ 2 16 Try.underlying23 hi0 hz0 hz1' hz2' rfl (by omega) (.slice none 0 0) 0 [] rfl (World.ownsRow_nil _ _ _ _) _ _ _ _ rfl (HAP.out _ _ ps (by omega) hSP4) (one_ints _) (by unfold maxLen; omega) (by omega) (Nat.le_refl _) ?_; intro v5 w5 hown5 hg5; simp only [List.nil_append, Nat.zero_add] at hown5; obtain ⟨g5, cap5, rfl, hg5b, hg5l⟩ := own_form hown5 hn1)
      have hg5r : w4.grownBy w5 none := hg5
      have hdk5 := hdk4.grown hg5r (by simp)
      have hz5 := hg5r.size
      have hW5 := hW4.grown hg5r hW4.size (by simp)
      have hown45 := hown4.kept hg5r (.inr (by simp [Value.ownBlock]))
      (with_reducible refine (next_any _ _ _ hdk5 (by unfold i64r; omega) (by omega)).mono ?_); rintro e w6 ⟨y, rfl, _, hy, hdk6, hg6⟩
      have hy' := hy (by omega)
      clear hy
      obtain ⟨q, rfl⟩ : ∃ q : Nat, y = q := ⟨y.toNat, by omega⟩
      have hq : q < ps.length := by omega
      have hz6 := hg6.size
      have hgd : w1.heap.size < w3.heap.size := by omega
      have hW6 := hW5.trans (below_of_grownBy hg6 hgw (by omega))
      have hown46 := hown45.kept hg6 (.inr (by simp [Value.ownBlock]; omega))
      have hown6 := hown5.kept hg6 (.inr (by simp [Value.ownBlock]; omega))
      have k0 := own_per hown6 q hq
      have kf := hown6.frozenAt (q * 2 + 1)
      have hset := hown6.stored (q * 2 + 1) (.int .i64 sec)
      rw [flatMap_set ps q sec hq] at hset
      have hown47 := hown46.kept hset.2 (.inr (by simp [Value.ownBlock]; omega))
      have hdk7 := hdk6.grown hset.2 (by intro k hk; injection hk with hk; omega)
      have hW7 := hW6.setCell (p := ⟨g5, q * 2 + 1, none⟩) (show w.heap.size ≤ g5 by omega) (.int .i64 sec)
      obtain ⟨w7, ew7⟩ : ∃ w7 : World, w7 = w6.setCell ⟨g5, q * 2 + 1, none⟩ (.int .i64 sec) := ⟨_, rfl⟩
      rw [← ew7] at hset hown47 hdk7 hW7
      have hz7 : w6.heap.size ≤ w7.heap.size := by rw [ew7]; simp
      have HW7 := Lib.hid ew7
      clear ew7
      have hSP7 := SP_of_ppl HP.out hown47 (by omega)
      go_wp2_with (at_builtin; rw [← HW7.out]; refine wpList_append_sc _ rfl _ _ 23 rfl w7.heap.size 31 i0 _ 2 16 Try.underlying23 hi0 hz0 hz1' hz2' rfl (by omega) (.slice none 0 0) 0 [] rfl (World.ownsRow_nil _ _ _ _) _ _ _ _ rfl (HAP.out _ _ ps (by omega) hSP7) (one_ints _) (by unfold maxLen; omega) (by omega) (Nat.le_refl _) ?_; intro v8 w8 hown8 hg8; simp only [List.nil_append, Nat.zero_add] at hown8; obtain ⟨g8, cap8, rfl, hg8b, hg8l⟩ := own_form hown8 hn1)
      have hg8r : w7.grownBy w8 none := hg8
      have hdk8 := hdk7.grown hg8r (by simp)
      have hz8 := hg8r.size
      have hW8 := hW7.grown hg8r hW7.size (by simp)
      have hown48 := hown47.kept hg8r (.inr (by simp [Value.ownBlock]))
      have hown78 := hset.1.kept hg8r (.inr (by simp [Value.ownBlock]))
      have t0 := own_per hown8 0 hn1
      simp only [Nat.zero_mul, Nat.zero_add] at t0
      go_region_held3 (fun w' => w'.cell? ⟨g8, 1, none⟩ = some (.int .i64 (ps[0]'hn1).2)) (first | exact t0 | exact t1 | exact set_keep t1 _ | go_keep)
        (first | (go_at_call 16; refine (next_any _ _ _ (by exact hdk8) (by unfold i64r; omega) (by omega)).mono ?_; rintro e w9 ⟨y2, rfl, _, hy2, hdk9, hg9⟩; obtain ⟨q2, rfl⟩ : ∃ q : Nat, y2 = q := ⟨y2.toNat, by have := hy2 (by omega); omega⟩; have hq2 : q2 < ps.length := (by have := hy2 (by omega); omega); have hown9 := World.ownsRow.kept (base := w7.heap.size) (e := 31) (size := 2) (v := .slice (some ⟨g8, 0, none⟩) ps.length cap8) (n := ps.length) (xs := (ps.flatMap pcs).map (Value.int .i64)) (by exact hown8) hg9 (.inr (by simp [Value.ownBlock]; omega)); have t1 := own_per hown9 0 hn1; simp only [Nat.zero_mul, Nat.zero_add] at t1; have k9 := own_per hown9 q2 hq2; have kf9 := hown9.frozenAt (q2 * 2 + 1); clear hy2))
      have hdr : w8.grownBy w9 (some w1.heap.size) := ⟨hg9.os, hg9.tape, hg9.output, hg9.size, hg9.block⟩
      have hz9 := hdr.size
      have hW9 := hW8.trans (below_of_grownBy hdr hgw (by omega))
      have hown49 := hown48.kept hdr (.inr (by simp [Value.ownBlock]; omega))
      have hown79 := hown78.kept hdr (.inr (by simp [Value.ownBlock]; omega))
      have hset2 := hown9.stored (q2 * 2 + 1) (.int .i64 (ps[0]'hn1).2)
      rw [flatMap_set ps q2 _ hq2] at hset2
      obtain ⟨w10, ew10⟩ : ∃ w10 : World, w10 = w9.setCell ⟨g8, q2 * 2 + 1, none⟩ (.int .i64 (ps[0]'hn1).2) := ⟨_, rfl⟩
      rw [← ew10] at hset2 ⊢
      have hz10 := hset2.2.size
      have hW10 : Below w.heap.size w w10 := by rw [ew10]; exact hW9.setCell (show w.heap.size ≤ g8 by omega) _
      have hown410 := hown49.kept hset2.2 (.inr (by simp [Value.ownBlock]; omega))
      have hown710 := hown79.kept hset2.2 (.inr (by simp [Value.ownBlock]; omega))
      have hPr := Ppl_r HP.out (by omega)
      have S4 : SP w10.heap.size w10 (.slice (some ⟨g4, 0, none⟩) ps.length c4) ps := SG.of_own hown410 hPr (fun _ _ => rfl)
      have S5 : SP w10.heap.size w10 (.slice (some ⟨g5, 0, none⟩) ps.length cap5) (ps.set q (ps[q].1, sec)) := SP_len (SG.of_own (l := ps.set q (ps[q].1, sec)) (v := .slice (some ⟨g5, 0, none⟩) (ps.set q (ps[q].1, sec)).length cap5) (by rw [List.length_set]; exact hown710) (Ppl_set_r hPr hq hsec) (fun _ _ => rfl)) List.length_set
      have S8 : SP w10.heap.size w10 (.slice (some ⟨g8, 0, none⟩) ps.length cap8) (ps.set q2 (ps[q2].1, (ps[0]'hn1).2)) := SP_len (SG.of_own (l := ps.set q2 (ps[q2].1, (ps[0]'hn1).2)) (v := .slice (some ⟨g8, 0, none⟩) (ps.set q2 (ps[q2].1, (ps[0]'hn1).2)).length cap8) (by rw [List.length_set]; exact hset2.1) (Ppl_set_r hPr hq2 (hPr ps[0] (List.getElem_mem hn1) _ (by simp [pcs]))) (fun _ _ => rfl)) List.length_set
      have S1 : SP w10.heap.size w10 (.slice Ar raw.length cr) raw := (HR.out.below hW10).more hW10.size
      obtain ⟨wA, ewA⟩ : ∃ wA : World, wA = w10.alloc (.cells #[.slice Ar raw.length cr, .slice (some ⟨g4, 0, none⟩) ps.length c4, .slice (some ⟨g5, 0, none⟩) ps.length cap5, .slice (some ⟨g8, 0, none⟩) ps.length cap8] 23) := ⟨_, rfl⟩
      have hbA : Below w10.heap.size w10 wA := by rw [ewA]; exact (Below.refl _ _).alloc (Nat.le_refl _) _
      have hWA := hW10.trans (hbA.mono hW10.size)
      have hzA : wA.heap.size = w10.heap.size + 1 := by rw [ewA]; simp
      have hQ : ∀ k, k < 4 → ∃ A c, ∃ l' : List (Int × Int), wA.cell? ⟨w10.heap.size, k, none⟩ = some (.slice A l'.length c) ∧ SP wA.heap.size wA (.slice A l'.length c) l' := by
        intro k hk
        have hcel : ∀ i, wA.cell? ⟨w10.heap.size, i, none⟩ = #[Value.slice Ar raw.length cr, .slice (some ⟨g4, 0, none⟩) ps.length c4, .slice (some ⟨g5, 0, none⟩) ps.length cap5, .slice (some ⟨g8, 0, none⟩) ps.length cap8][i]? := by
          intro i; rw [ewA]; exact cell_of_row _ w10.heap.size i _ _ (0, 0) (heap_alloc_new w10 _)
        have hk4 : k = 0 ∨ k = 1 ∨ k = 2 ∨ k = 3 := by omega
        rcases hk4 with rfl | rfl | rfl | rfl
        · exact ⟨_, _, raw, hcel 0, (S1.below hbA).more hbA.size⟩
        · exact ⟨_, _, ps, hcel 1, (S4.below hbA).more hbA.size⟩
        · exact ⟨_, _, ps.set q (ps[q].1, sec), by rw [List.length_set]; exact hcel 2, by rw [List.length_set]; exact (S5.below hbA).more hbA.size⟩
        · exact ⟨_, _, ps.set q2 (ps[q2].1, (ps[0]'hn1).2), by rw [List.length_set]; exact hcel 3, by rw [List.length_set]; exact (S8.below hbA).more hbA.size⟩
      have HQ := Lib.hid hQ
      have HZ := Lib.hid hzA
      have HA := Lib.hid ewA
      clear hQ hzA ewA S1 S4 S5 S8 hPr hown410 hown710 hset2 ew10 hown49 hown79 hown78 hown48 hown9 hown8 hown47 hown46 hown6 hown45 hown5 hown4 hset k0 kf k9 kf9 t0 t1 HW7 hSP7 hSP4
      go_wp2_with fail
      rw [← HA.out]
      go_loopw [84] (fun i wr => ∃ k : Nat, k ≤ 4 ∧ i = .int .i64 k ∧ Below wA.heap.size wA wr) (fun i _ => 4 - (intOf i).toNat)
      case atStart => exact ⟨0, by omega, rfl, Below.refl _ _⟩
      case round =>
        obtain ⟨wq, rfl⟩ : ∃ wq : World, wq = wr := ⟨_, rfl⟩
        obtain ⟨k, hk, rfl, hbl⟩ := hrel
        have hzq := hbl.size
        have hWq := hWA.trans (hbl.mono hWA.size)
        by_cases hlt : k < 4
        · obtain ⟨A, c, ds, hck, hSk⟩ := HQ.out k hlt
          have hck := (hbl.cell (p := ⟨w10.heap.size, k, none⟩) (by rw [HZ.out]; exact Nat.lt_succ_self _)).trans hck
          have hlb : w10.heap.size < wq.heap.size := by have := HZ.out; omega
          have hSq := (hSk.below hbl)
          go_wp2_with fail
          (with_reducible refine (mcheck_any ds _ _ (hSq.more hzq)).mono ?_); rintro e wc1 ⟨rfl, hc1⟩
          have hSc1 := hSq.below (hc1.mono hzq)
          have hzc1 := hc1.size
          go_wp2_with fail
          (with_reducible refine (rcheck_any ds _ _ (hSc1.more (by omega))).mono ?_); rintro e wc2 ⟨rfl, hc2⟩
          have hSc2 := hSc1.below (hc2.mono (by omega))
          have hzc2 := hc2.size
          have hWc2 := (hWq.trans (hc1.mono hWq.size)).trans (hc2.mono (by have := hWq.size; omega))
          have hbl2 := (hbl.trans (hc1.mono hzq)).trans (hc2.mono (by omega))
          go_wp2_with fail
          (with_reducible refine (mod_any _ _ _ (by omega) (by omega)).mono ?_); rintro e w' ⟨rfl, rfl⟩
          obtain ⟨wB, ewB⟩ : ∃ wB : World, wB = wc2.alloc (.cells #[.int .i64 pid, .int .i64 (pid % 6)] 3) := ⟨_, rfl⟩
          have hbB : Below wA.heap.size wA wB := by rw [ewB]; exact hbl2.alloc (by omega) _
          have hQ2 : ∀ k, k < 2 → ∃ z, wB.cell? ⟨wc2.heap.size, k, none⟩ = some (.int .i64 z) := by
            intro k hk
            have hcel : ∀ i, wB.cell? ⟨wc2.heap.size, i, none⟩ = #[Value.int .i64 pid, .int .i64 (pid % 6)][i]? := by
              intro i; rw [ewB]; exact cell_of_row _ wc2.heap.size i _ _ (0, 0) (heap_alloc_new wc2 _)
            have hk4 : k = 0 ∨ k = 1 := by omega
            rcases hk4 with rfl | rfl
            · exact ⟨_, hcel 0⟩
            · exact ⟨_, hcel 1⟩
          have hzB : wB.heap.size = wc2.heap.size + 1 := by rw [ewB]; simp
          have HQ2 := Lib.hid hQ2
          have HZB := Lib.hid hzB
          have HB := Lib.hid ewB
          have HSk := Lib.hid hSk
          clear hQ2 hzB ewB hck hSq hSc1 hSc2 hSk
          go_wp2_with fail
          rw [← HB.out]
          go_loopw [98] (fun i wr => ∃ k : Nat, k ≤ 2 ∧ i = .int .i64 k ∧ Below wA.heap.size wA wr ∧ Below wB.heap.size wB wr) (fun i _ => 2 - (intOf i).toNat)
          case atStart => exact ⟨0, by omega, rfl, hbB, Below.refl _ _⟩
          case round =>
            obtain ⟨wi, rfl⟩ : ∃ wi : World, wi = wr := ⟨_, rfl⟩
            obtain ⟨j, hj, rfl, hbi, hbj⟩ := hrel
            have hzi := hbi.size
            have hWi := hWA.trans (hbi.mono hWA.size)
            by_cases hlt2 : j < 2
            · obtain ⟨z, hcz⟩ := HQ2.out j hlt2
              have hcz := (hbj.cell (p := ⟨wc2.heap.size, j, none⟩) (by rw [HZB.out]; exact Nat.lt_succ_self _)).trans hcz
              have hlc : wc2.heap.size < wi.heap.size := by have := HZB.out; have := hbj.size; omega
              have hSi := HSk.out.below hbi
              obtain ⟨pa, pb, pc, hfr, hpb⟩ := frs_ex ds z
              have HFR := Lib.hid hfr
              clear hfr
              go_wp2_with fail
              (with_reducible refine (mfind_any ds _ z _ (hSi.more hzi)).mono ?_); rintro e x1 ⟨rfl, h1⟩
              rw [HFR.out]
              have z1 := h1.size
              have b1 : Below wi.heap.size wi (x1.alloc (.cells #[.int .i64 pa, .int .i64 pb] 31)) := h1.alloc h1.size _
              have s1 := hSi.below (b1.mono hzi)
              go_wp2_with fail
              (with_reducible refine (rfind_any ds _ z _ (s1.more (by simp; omega))).mono ?_); rintro e x2 ⟨rfl, h2⟩
              rw [HFR.out]
              have a0 : x2.cell? ⟨x1.heap.size, 0, none⟩ = some (.int .i64 pa) := own_cell h2 0
              have a1 : x2.cell? ⟨x1.heap.size, 1, none⟩ = some (.int .i64 pb) := own_cell h2 1
              have z2 := h2.size
              simp at z2
              have z2' : x1.heap.size < x2.heap.size := by omega
              have b2 : Below wi.heap.size wi (x2.alloc (.cells #[.int .i64 pa, .int .i64 pb] 31)) := (b1.trans (h2.mono b1.size)).alloc (by omega) _
              have W2 := hWi.trans (b2.mono hWi.size)
              go_wp2_with fail
              (with_reducible refine (rsign_any pb l _ _ (SI.below HL.out W2) hpb).mono ?_); rintro e x3 ⟨rfl, h3⟩
              have q0 : x3.cell? ⟨x2.heap.size, 0, none⟩ = some (.int .i64 pa) := own_cell h3 0
              have q1 : x3.cell? ⟨x2.heap.size, 1, none⟩ = some (.int .i64 pb) := own_cell h3 1
              have z3 := h3.size
              simp at z3
              have z3' : x2.heap.size < x3.heap.size := by omega
              have b23 : Below x2.heap.size x2 x3 := ((Below.refl _ _).alloc (Nat.le_refl _) _).trans (h3.mono (by simp))
              have a0 := (b23.cell (p := ⟨x1.heap.size, 0, none⟩) z2').trans a0
              have a1 := (b23.cell (p := ⟨x1.heap.size, 1, none⟩) z2').trans a1
              have b3 := b2.trans (h3.mono b2.size)
              have s3 := hSi.below (b3.mono hzi)
              have W3 := hWi.trans (b3.mono hWi.size)
              go_wp2_with fail
              clear a0 a1 q0 q1
              (with_reducible refine (mverify_any ds _ z l _ m _ (s3.more (by omega)) (SI.below HL.out W3)).mono ?_); rintro e x4 ⟨rfl, h4⟩
              have z4 := h4.size
              have b4 := b3.trans (h4.mono b3.size)
              have s4 := hSi.below (b4.mono hzi)
              have W4 := hWi.trans (b4.mono hWi.size)
              go_wp2_with fail
              (with_reducible refine (rverify_any ds _ z l _ m _ (s4.more (by omega)) (SI.below HL.out W4)).mono ?_); rintro e x5 ⟨rfl, h5⟩
              have z5 := h5.size
              have b5 := b4.trans (h5.mono b4.size)
              have s5 := hSi.below (b5.mono hzi)
              have W5 := hWi.trans (b5.mono hWi.size)
              go_wp2_with fail
              (with_reducible refine (mverify_any ds _ z l _ _ _ (s5.more (by omega)) (SI.below HL.out W5)).mono ?_); rintro e x6 ⟨rfl, h6⟩
              have z6 := h6.size
              have b6 := b5.trans (h6.mono b5.size)
              have s6 := hSi.below (b6.mono hzi)
              have W6 := hWi.trans (b6.mono hWi.size)
              go_wp2_with fail
              (with_reducible refine (rverify_any ds _ z l _ _ _ (s6.more (by omega)) (SI.below HL.out W6)).mono ?_); rintro e x7 ⟨rfl, h7⟩
              have b7 := b6.trans (h7.mono b6.size)
              go_wp2_with fail
              go_roundw
              case rel => exact ⟨j + 1, by omega, by go_num, hbi.trans (b7.mono hzi), hbj.trans (b7.mono hbj.size)⟩
              case measure => simp [intOf]; omega
            · go_wp2_with fail
              go_roundw
              case rel => exact ⟨k + 1, by omega, by go_num, hbi⟩
              case measure => simp [intOf]; omega
        · go_wp2_with fail
          (with_reducible refine (mod_any _ _ _ (by omega) (by omega)).mono ?_); rintro e w' ⟨rfl, rfl⟩
          have hm1 : 0 ≤ sec % 99 := by omega
          have hm2 : sec % 99 < 99 := by omega
          obtain ⟨wB, ewB⟩ : ∃ wB : World, wB = wq.alloc (.cells #[.int .i64 sec, .int .i64 (1 + sec % 99)] 3) := ⟨_, rfl⟩
          have hbB : Below w.heap.size w wB := by rw [ewB]; exact hWq.alloc hWq.size _
          have hQ2 : ∀ k, k < 2 → ∃ z, i64r z ∧ wB.cell? ⟨wq.heap.size, k, none⟩ = some (.int .i64 z) := by
            intro k hk
            have hcel : ∀ i, wB.cell? ⟨wq.heap.size, i, none⟩ = #[Value.int .i64 sec, .int .i64 (1 + sec % 99)][i]? := by
              intro i; rw [ewB]; exact cell_of_row _ wq.heap.size i _ _ (0, 0) (heap_alloc_new wq _)
            have hk4 : k = 0 ∨ k = 1 := by omega
            rcases hk4 with rfl | rfl
            · exact ⟨_, hsec, hcel 0⟩
            · exact ⟨_, by unfold i64r; omega, hcel 1⟩
          have hzB : wB.heap.size = wq.heap.size + 1 := by rw [ewB]; simp
          have HQ2 := Lib.hid hQ2
          have HZB := Lib.hid hzB
          have HB := Lib.hid ewB
          clear hQ2 hzB ewB
          go_wp2_with fail
          rw [← HB.out]
          go_loopw [163] (fun i wr => ∃ k : Nat, k ≤ 2 ∧ i = .int .i64 k ∧ Below wB.heap.size wB wr) (fun i _ => 2 - (intOf i).toNat)
          case atStart => exact ⟨0, by omega, rfl, Below.refl _ _⟩
          case round =>
            obtain ⟨wi, rfl⟩ : ∃ wi : World, wi = wr := ⟨_, rfl⟩
            obtain ⟨j, hj, rfl, hbj⟩ := hrel
            have hzi := hbj.size
            have hWi := hbB.trans (hbj.mono hbB.size)
            by_cases hlt2 : j < 2
            · obtain ⟨z, hzr, hcz⟩ := HQ2.out j hlt2
              have hcz := (hbj.cell (p := ⟨wq.heap.size, j, none⟩) (by rw [HZB.out]; exact Nat.lt_succ_self _)).trans hcz
              have hlc : wq.heap.size < wi.heap.size := by have := HZB.out; omega
              go_wp2_with fail
              (with_reducible refine (msign_any z l _ _ (SI.below HL.out hWi) hzr).mono ?_); rintro e x1 ⟨rfl, h1⟩
              have W1 := hWi.trans (h1.mono hWi.size)
              have z1 := h1.size
              go_wp2_with fail
              (with_reducible refine (rsign_any z l _ _ (SI.below HL.out W1) hzr).mono ?_); rintro e x2 ⟨rfl, h2⟩
              go_wp2_with fail
              go_roundw
              case rel => exact ⟨j + 1, by omega, by go_num, (hbj.trans (h1.mono hzi)).trans (h2.mono (by omega))⟩
              case measure => simp [intOf]; omega
            · go_wp2_with fail
              go_ret
              exact ⟨rfl, hWi⟩
  · rw [decide_eq_false hf]
    go_wp2_with fail
    go_ret
    exact ⟨rfl, hb1⟩
end Go.Proofs.Ytmglcjdigpgjlaa
