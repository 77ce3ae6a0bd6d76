/- Find's digests are its own; a path in which one digest was changed leads elsewhere. -/
import Derived.Test.YtmglcjdigpgjlaaMerV
namespace Go.Proofs.Ytmglcjdigpgjlaa
open Go.RowKit

set_option maxHeartbeats 4000000 in
set_option maxRecDepth 100000 in
theorem pfind_own (l : List Int) (v : Value) (x : Int) (w : World) (h : SI w v l) (hx : i64r x) :
    Calls Try.prog 30 #[v, .int .i64 x] w fun e w' => ∃ v', e = .returned (fdV l x v') ∧ SI w' v' (fdP l x) ∧ w'.ownsRow (w.heap.size + 2) 3 1 v' (fdP l x).length ((fdP l x).map (Value.int .i64)) ∧ Below w.heap.size w w' := by
  by_cases h0 : lsE l = 0
  · have hd : (lsE l != 0) = false := by simp [h0]
    have hlen : l.length ≤ 1024 := by unfold lsE at h0; split at h0 <;> omega
    have H0 := Lib.hid h0
    clear h0
    have hS := h
    obtain ⟨A, c, rfl, hcc, hm, hr, ha⟩ := h
    have HS := Lib.hid hS
    clear ha hS
    obtain ⟨hx1, hx2⟩ := hx
    by_cases h1 : x < 0
    · have HE := Lib.hid (fd_6 H0.out (.inl h1))
      go_enter Try.func30, Try.ntmps30
      go_wp2_with ((with_reducible refine (pchk_any l _ _ (SI.below HS.out ((Below.refl _ _).alloc (Nat.le_refl _) _))).mono ?_); rintro e w' ⟨rfl, rfl⟩)
      exact bodyPost_ret (v := .tuple #[.agg #[.int .i64 0, .int .i64 0, .slice none 0 0], .int .i64 6]) (by simp [results, Try.results30, go_sem]) rfl
        ⟨.slice none 0 0, by rw [HE.out.1], by rw [HE.out.2]; exact SI_nil' _, by rw [HE.out.2]; exact World.ownsRow_nil _ _ _ _, by repeat (first | exact Below.refl _ _ | (refine Below.setCell ?_ (by simp) _) | (refine Below.alloc ?_ (by simp) _))⟩
    by_cases h2 : (l.length : Int) ≤ x
    · have HE := Lib.hid (fd_6 H0.out (.inr h2))
      go_enter Try.func30, Try.ntmps30
      go_wp2_with ((with_reducible refine (pchk_any l _ _ (SI.below HS.out ((Below.refl _ _).alloc (Nat.le_refl _) _))).mono ?_); rintro e w' ⟨rfl, rfl⟩)
      exact bodyPost_ret (v := .tuple #[.agg #[.int .i64 0, .int .i64 0, .slice none 0 0], .int .i64 6]) (by simp [results, Try.results30, go_sem]) rfl
        ⟨.slice none 0 0, by rw [HE.out.1], by rw [HE.out.2]; exact SI_nil' _, by rw [HE.out.2]; exact World.ownsRow_nil _ _ _ _, by repeat (first | exact Below.refl _ _ | (refine Below.setCell ?_ (by simp) _) | (refine Below.alloc ?_ (by simp) _))⟩
    obtain ⟨I, rfl⟩ : ∃ n : Nat, x = n := ⟨x.toNat, by omega⟩
    have HE := Lib.hid (fd_0 (l := l) (I := I) H0.out (by omega))
    have hI : I < l.length := by omega
    have HR := Lib.hid hr
    have hg1 : decide ((I : Int) < 0) = false := decide_eq_false (by omega)
    have hg2 : decide ((l.length : Int) ≤ (I : Int)) = false := by simp; omega
    have hg3 : decide (l.length ≤ I) = false := by simp; omega
    clear h1 h2 hr
    go_enter Try.func30, Try.ntmps30
    go_wp2_with fail
    (with_reducible refine (pchk_any l _ _ (SI.below HS.out ((Below.refl _ _).alloc (Nat.le_refl _) _))).mono ?_); rintro e w' ⟨rfl, rfl⟩
    go_wp2_with fail
    go_loopw [0, 8] (fun v iv wr => FRel w l I v iv wr) (fun v _ _ => lenV v)
    case atStart => exact FRel.start HS.out hI
    case round =>
      obtain ⟨m, i, vd, ds, hSm, rfl, him, hml, hpath, hpb, hres, hown, hap, hbl⟩ := hrel
      have HSm := Lib.hid hSm
      have HP := Lib.hid hpath
      have HB := Lib.hid hpb
      have HZ := Lib.hid hres
      have HO := Lib.hid hown
      have HA := Lib.hid hap
      obtain ⟨A1, c1, rfl, hcc1, hmm1, _, ha1⟩ := hSm
      obtain ⟨Ad, cd, rfl⟩ := own_slice hown
      have hz := hbl.size
      have q0 : wr.cell? ⟨w.heap.size, 0, none⟩ = some (.int .i64 0) := cell_of_row wr _ 0 _ _ _ hres
      have q1 : wr.cell? ⟨w.heap.size, 1, none⟩ = some (.int .i64 0) := cell_of_row wr _ 1 _ _ _ hres
      have q2 : wr.cell? ⟨w.heap.size, 2, none⟩ = some (.slice none 0 0) := cell_of_row wr _ 2 _ _ _ hres
      have f0 : wr.frozen? ⟨w.heap.size, 0, none⟩ = false := frozen_of_row wr _ 0 _ _ hres
      have f1 : wr.frozen? ⟨w.heap.size, 1, none⟩ = false := frozen_of_row wr _ 1 _ _ hres
      have f2 : wr.frozen? ⟨w.heap.size, 2, none⟩ = false := frozen_of_row wr _ 2 _ _ hres
      have hnb : ∀ k, (Value.slice Ad ds.length cd).ownBlock = some k → w.heap.size + 2 ≤ k := fun k hk => (hown.lt k hk).1
      have HNB := Lib.hid hnb
      clear hnb
      have p0 : wr.cell? ⟨w.heap.size + 1, 0, none⟩ = some (.int .i64 I) := cell_of_row wr _ 0 _ _ _ hpb
      have p1 : wr.cell? ⟨w.heap.size + 1, 1, none⟩ = some (.int .i64 l.length) := cell_of_row wr _ 1 _ _ _ hpb
      have p2 : wr.cell? ⟨w.heap.size + 1, 2, none⟩ = some (.slice Ad ds.length cd) := cell_of_row wr _ 2 _ _ _ hpb
      have pf : wr.frozen? ⟨w.heap.size + 1, 2, none⟩ = false := frozen_of_row wr _ 2 _ _ hpb
      have hzb : w.heap.size + 1 < wr.heap.size := heap_of_cells hpb
      clear hpath hpb hres hown hap
      by_cases hlt : 1 < m.length
      · have hxr := xor1 i (by omega)
        have HU := Lib.hid (path_up hlt i)
        have hdl : ds.length ≤ l.length := by
          have := congrArg List.length HP.out
          rw [List.length_append] at this
          have := path_le l I
          omega
        by_cases hk : i ^^^ 1 < m.length
        · have hd1 : decide (((i ^^^ 1 : Nat) : Int) < (m.length : Int)) = true := by simp; omega
          obtain ⟨b, off, rfl, hb, hcell⟩ := ha1 (by omega)
          have ck := hcell (i ^^^ 1) hk
          have e1 : (0 : Int) ≤ ((i ^^^ 1 : Nat) : Int) := by omega
          have e2 : ((i ^^^ 1 : Nat) : Int) < (m.length : Int) := by omega
          have ek := path_get hk
          have HK := Lib.hid ek
          clear hcell ha1 ek
          clear q0 q1 q2 f0 f1 f2
          go_wp2_with fail
          go_region_law (refine step_append_int1_at _ (by rfl) _ _ 22 (by rfl) (w.heap.size + 2) 3 Try.underlying22 iinfo _ ds (by rfl) (by exact (HO.out.alloc (.cells #[.int .i64 m[i ^^^ 1]] 3)).drew) m[i ^^^ 1] wr.heap.size (by rfl) (by exact cells_new wr [.int .i64 m[i ^^^ 1]] 3 0 _ rfl) (by omega) (by simp; omega) ?_; intro g2 cap2 w2 hown2 hg2 hat2; have hb2 : w2.heap[w.heap.size + 1]? = _ := (hg2.block (w.heap.size + 1) (by simp; omega) (fun e => by have := HNB.out _ e.symm; omega)).trans ((Below.heap_alloc wr _ _ hzb).trans HB.out); have p2' : w2.cell? ⟨w.heap.size + 1, 2, none⟩ = some (.slice Ad ds.length cd) := cell_of_row w2 _ 2 _ _ _ hb2; have pf' : w2.frozen? ⟨w.heap.size + 1, 2, none⟩ = false := frozen_of_row w2 _ 2 _ _ hb2)
          all_goals
            obtain ⟨w3, ew3⟩ : ∃ w3 : World, w3 = w2.setCell ⟨w.heap.size + 1, 2, none⟩ (.slice (some ⟨g2, 0, none⟩) (ds.length + 1) cap2) := ⟨_, rfl⟩
            simp only [List.length_append, List.length_cons, List.length_nil, Nat.zero_add] at hown2 ⊢
            rw [← ew3]
            have hz2 : wr.heap.size + 1 ≤ w2.heap.size := by have := hg2.size; simpa using this
            have hpb3 : w3.heap[w.heap.size + 1]? = some (.cells #[.int .i64 I, .int .i64 l.length, .slice (some ⟨g2, 0, none⟩) (ds.length + 1) cap2] 46 (0, 0)) := by
              rw [ew3]; exact heap_setCell_same w2 _ 2 _ _ _ hb2
            have hset : w2.grownBy w3 (some (w.heap.size + 1)) := by rw [ew3]; exact grownBy_setCell (grownBy_refl _ _) (.inl rfl) _
            have hold : ∀ k, k < wr.heap.size → k ≠ w.heap.size + 1 → (Value.slice Ad ds.length cd).ownBlock ≠ some k → w3.heap[k]? = wr.heap[k]? := fun k hk h1 h2 =>
              (hset.block k (by omega) (by simp; omega)).trans ((hg2.block k (by simp; omega) (fun e => h2 e.symm)).trans (Below.heap_alloc wr _ _ hk))
            have hz3 := (hold w.heap.size (by omega) (by omega) (fun e => by have := HNB.out _ e; omega)).trans HZ.out
            have hown3 : w3.ownsRow (w.heap.size + 2) 3 1 (.slice (some ⟨g2, 0, none⟩) (ds.length + 1) cap2) (ds.length + 1) ((ds ++ [m[i ^^^ 1]]).map (Value.int .i64)) := hown2.kept hset (.inr (by
              have := (hown2.lt g2 rfl).1
              simp [Value.ownBlock]; omega))
            have hsz3 : wr.heap.size ≤ w3.heap.size := by have := hset.size; omega
            have hS3 : SI w3 (.slice (some ⟨b, off, none⟩) m.length c1) m := HSm.out.keepB hsz3 (fun k hk => hold k (by
              have := HSm.out.own_lt (by omega) k hk; exact this) (HA.out k hk).2.1 (HA.out k hk).2.2)
            have hb3 : Below w.heap.size w w3 := by
              rw [ew3]
              exact (Below.grown ((hbl.alloc hz (.cells #[.int .i64 m[i ^^^ 1]] 3)).drew) hg2 (by simp; omega) (fun k hk => by have := HNB.out k hk; omega)).setCell (by simp) _
            have hpath3 : (ds ++ [m[i ^^^ 1]]) ++ path (up m) (i / 2) = path l I := by rw [← HP.out, HU.out, HK.out, List.append_assoc]
            have HP3 := Lib.hid hpath3
            have HOWN := Lib.hid hown3
            clear ew3 hold hset hown2 hg2 hb2 p2' pf' p0 p1 p2 pf ck hpath3 hown3
            go_wp2_with fail
            (with_reducible refine (above_own m _ _ hS3 (by omega)).mono ?_)
            rintro e w5 ⟨v5, rfl, h5, hown5, hb5⟩
            have HV5 := Lib.hid h5.len
            have HUL := Lib.hid (up_len m)
            go_wp2_with fail
            go_roundw
            case rel => exact FRel.next hb3 hpb3 hz3 (by rw [List.length_append]; exact HOWN.out) h5 hown5 hb5 him hml HP3.out (by go_num)
            case measure => show lenV v5 < m.length; rw [HV5.out, HUL.out]; omega
        · have hd1 : decide (((i ^^^ 1 : Nat) : Int) < (m.length : Int)) = false := by simp; omega
          clear p0 p1 p2 pf q0 q1 q2 f0 f1 f2
          go_wp2_with fail
          (with_reducible refine (above_own m _ _ HSm.out (by omega)).mono ?_)
          rintro e w5 ⟨v5, rfl, h5, hown5, hb5⟩
          have HV5 := Lib.hid h5.len
          have HUL := Lib.hid (up_len m)
          go_wp2_with fail
          go_roundw
          case rel => exact FRel.next hbl HB.out HZ.out HO.out h5 hown5 hb5 him hml (by have h1 := HP.out; rw [HU.out, if_neg hk, List.nil_append] at h1; exact h1) (by go_num)
          case measure => show lenV v5 < m.length; rw [HV5.out, HUL.out]; omega
      · have HU := Lib.hid (path_small (show m.length ≤ 1 by omega) i)
        clear ha1
        have hS3 : SI wr (.slice Ad ds.length cd) ds := SI.of_own HO.out (fun y hy => path_r HR.out I y (by rw [← HP.out]; simp [hy]))
        have HS3 := Lib.hid hS3
        clear hS3
        go_wp2_with fail
        exact bodyPost_ret (v := .tuple #[.agg #[.int .i64 I, .int .i64 l.length, .slice Ad ds.length cd], .int .i64 0]) (by simp [results, Try.results30, go_sem, q0, q1, q2]) rfl
          ⟨.slice Ad ds.length cd, by rw [HE.out.1], by rw [HE.out.2, ← HP.out, HU.out, List.append_nil]; exact HS3.out.keepB (by simp) (fun k hk => by
            have := HNB.out k hk
            rw [Below.heap_setCell _ _ _ _ (by simp; omega), Below.heap_setCell _ _ _ _ (by simp; omega), Below.heap_setCell _ _ _ _ (by simp; omega)]), by
            rw [HE.out.2, ← HP.out, HU.out, List.append_nil]
            have hne : (Value.slice Ad ds.length cd).ownBlock ≠ some w.heap.size := fun e => by have := HNB.out _ e; omega
            exact ((HO.out.kept (grownBy_setCell (grownBy_refl _ _) (.inl rfl) _) (.inr hne)).kept (grownBy_setCell (grownBy_refl _ _) (.inl rfl) _) (.inr hne)).kept (grownBy_setCell (grownBy_refl _ _) (.inl rfl) _) (.inr hne), ((hbl.setCell (Nat.le_refl _) _).setCell (Nat.le_refl _) _).setCell (Nat.le_refl _) _⟩
  · have hd : (lsE l != 0) = true := by simpa using h0
    have HE := Lib.hid (fd_ls (x := x) h0)
    clear h0
    go_enter Try.func30, Try.ntmps30
    go_wp2_with ((with_reducible refine (pchk_any l _ _ (SI.below h ((Below.refl _ _).alloc (Nat.le_refl _) _))).mono ?_); rintro e w' ⟨rfl, rfl⟩)
    exact bodyPost_ret (v := .tuple #[.agg #[.int .i64 0, .int .i64 0, .slice none 0 0], .int .i64 (lsE l)]) (by simp [results, Try.results30, go_sem]) rfl
      ⟨.slice none 0 0, by rw [HE.out.1], by rw [HE.out.2]; exact SI_nil' _, by rw [HE.out.2]; exact World.ownsRow_nil _ _ _ _, by repeat (first | exact Below.refl _ _ | (refine Below.setCell ?_ (by simp) _) | (refine Below.alloc ?_ (by simp) _))⟩

theorem plen_pos (n : Nat) : ∀ (c i : Nat), c ≤ n → 2 ≤ c → i < c → 1 ≤ plen c i := by
  induction n with
  | zero => intro c i h1 h2; omega
  | succ n ih =>
    intro c i h1 h2 hi
    rw [plen_up (by omega)]
    by_cases hk : i ^^^ 1 < c
    · rw [if_pos hk]; omega
    · have hc : c ≠ 2 := by
        intro e
        subst e
        have h01 : i = 0 ∨ i = 1 := by omega
        rcases h01 with rfl | rfl
        · exact hk (by decide)
        · exact hk (by decide)
      have := ih ((c + 1) / 2) (i / 2) (by omega) (by omega) (by omega)
      omega

set_option maxRecDepth 100000 in
set_option maxHeartbeats 4000000 in
theorem mforges_walk (t : List Int) (vt : Value) (at_ wh : Nat) (by_ : Int) (w : World) (ht : SI w vt t) (_hat : at_ < 256) (_hwh : wh < 256) :
    Calls Try.prog 9 #[vt, .int .u8 at_, .int .u8 wh, .int .i64 by_] w fun e w' => e = .returned (.bool true) ∧ Below w.heap.size w w' := by
  go_enter Try.func9, Try.ntmps9
  go_wp2_with fail
  (with_reducible refine (rsane_any _).mono ?_); rintro e w1 ⟨rfl, hb1⟩
  have ht1 := SI.below ht hb1
  have hz1 := hb1.size
  go_wp2_with fail
  (with_reducible refine (few_any t vt _ ht1).mono ?_); rintro e w' ⟨rfl, rfl⟩
  by_cases hf : t.length ≤ 500
  · rw [decide_eq_true hf]
    go_wp2_with fail
    (with_reducible refine (new_any t vt _ ht1).mono ?_); rintro e w2 ⟨rfl, hdk2, hb2, hz2⟩
    have hW2 := hb1.trans (hb2.mono hb1.size)
    go_wp2_with fail
    (with_reducible refine (leaves_any _ _ hdk2).mono ?_); rintro e w3 ⟨v3, l, rfl, hl, hall, hown3, _, hg3⟩
    have hW3 := hW2.trans (below_of_grownBy hg3 hz1 (by omega))
    obtain ⟨hls, hdl⟩ := lsE_z hl hall
    have hS3 : SI w3 v3 l := SI.of_own hown3 fun x hx => dg_r (hall x hx)
    have HD := Lib.hid hdl
    have HA := Lib.hid hall
    clear hall hdl hown3
    obtain ⟨A, c, rfl, hcc, hcm, hr3, ha3⟩ := id hS3
    have HS3 := Lib.hid hS3
    have HC := Lib.hid ha3
    clear hS3 ha3 hr3
    by_cases h0 : l.length < 2
    · have hd0 : decide ((l.length : Int) < 2) = true := by simp; omega
      have hd1 : decide (l.length < 2) = true := decide_eq_true h0
      go_wp2_with fail
      go_ret
      exact ⟨rfl, hW3⟩
    · have hd0 : decide ((l.length : Int) < 2) = false := by simp; omega
      have hd1 : decide (l.length < 2) = false := decide_eq_false h0
      have hlp : 0 < l.length := by omega
      have hl2 : 2 ≤ l.length := by omega
      obtain ⟨K, hK⟩ : ∃ K : Nat, K = at_ % l.length := ⟨_, rfl⟩
      have hkl : K < l.length := by rw [hK]; exact Nat.mod_lt _ hlp
      have kz : ((at_ : Int) % (l.length : Int)) = (K : Int) := by omega
      clear h0 hK
      obtain ⟨b, off, rfl, hb, hcell⟩ := HC.out hlp
      have ck3 := hcell _ hkl
      have hPA := IsPath.of (i := K) (show l.length ≤ 1024 by omega) HD.out hkl
      have HPA := Lib.hid hPA
      have HFV := Lib.hid (fd_0 hls hkl).1
      have hpl0 := plen_pos _ l.length K (Nat.le_refl _) hl2 hkl
      have hplen : 1 ≤ (path l K).length := by rw [HPA.out.len]; exact hpl0
      have HR := Lib.hid (rtE_z hls)
      have HLS := Lib.hid hls
      clear hcell hPA hpl0
      go_wp2_with fail
      rw [kz]
      clear kz
      (with_reducible refine (proot_any l _ _ HS3.out).mono ?_); rintro e w4 ⟨rfl, hb4⟩
      rw [HR.out, HLS.out]
      have HS4 := Lib.hid (SI.below HS3.out hb4)
      have hz4 := hb4.size
      have hW4 := hW3.trans (hb4.mono hW3.size)
      go_wp2_with fail
      (with_reducible refine (pfind_own l _ (K : Int) _ HS4.out (by unfold i64r; omega)).mono ?_); rintro e w5 ⟨v5, rfl, hS5, hown5, hb5⟩
      rw [HFV.out]
      rw [HPA.out.fp] at hS5 hown5
      have hz5 := hb5.size
      obtain ⟨g5, c5, rfl, hg5b, hg5l⟩ := own_form hown5 hplen
      have HS5 := Lib.hid hS5
      have HO5 := Lib.hid hown5
      clear hS5 hown5
      have hW5 := hW4.trans (hb5.mono hW4.size)
      obtain ⟨J, hJ⟩ : ∃ J : Nat, J = wh % (path l K).length := ⟨_, rfl⟩
      have hjl : J < (path l K).length := by rw [hJ]; exact Nat.mod_lt _ hplen
      have jz : ((wh : Int) % ((path l K).length : Int)) = (J : Int) := by omega
      have hd2 : (((path l K).length : Int) == 0) = false := by rw [beq_eq_false_iff_ne]; omega
      clear hJ
      go_wp2_with fail
      obtain ⟨w6, ew⟩ : ∃ w6 : World, w6 = w5.alloc (.cells #[.int .i64 K, .int .i64 l.length, .slice (some ⟨g5, 0, none⟩) (path l K).length c5] 46) := ⟨_, rfl⟩
      have hbA : Below w5.heap.size w5 w6 := by rw [ew]; exact (Below.refl _ _).alloc (Nat.le_refl _) _
      have m0 : w6.cell? ⟨w5.heap.size, 0, none⟩ = some (.int .i64 K) := by rw [ew]; exact cell_of_row _ _ 0 _ _ (0, 0) (heap_alloc_new w5 _)
      have m1 : w6.cell? ⟨w5.heap.size, 1, none⟩ = some (.int .i64 l.length) := by rw [ew]; exact cell_of_row _ _ 1 _ _ (0, 0) (heap_alloc_new w5 _)
      have m2 : w6.cell? ⟨w5.heap.size, 2, none⟩ = some (.slice (some ⟨g5, 0, none⟩) (path l K).length c5) := by rw [ew]; exact cell_of_row _ _ 2 _ _ (0, 0) (heap_alloc_new w5 _)
      have hown6 : w6.ownsRow (w4.heap.size + 2) 3 1 (.slice (some ⟨g5, 0, none⟩) (path l K).length c5) (path l K).length ((path l K).map (Value.int .i64)) := by rw [ew]; exact HO5.out.alloc _
      have hz6 : w5.heap.size < w6.heap.size := by rw [ew]; simp
      rw [← ew, jz]
      clear ew jz
      have HS6 := Lib.hid (SI.below HS4.out (hb5.trans (hbA.mono hz5)))
      have hW6 := hW5.trans (hbA.mono hW5.size)
      have ck6 := (hbA.cell (p := ⟨b, off + K, none⟩) (show b < w5.heap.size by omega)).trans ((hb5.cell (p := ⟨b, off + K, none⟩) (show b < w4.heap.size by omega)).trans ((hb4.cell (p := ⟨b, off + K, none⟩) hb).trans ck3))
      have k0 := own_int hown6 J hjl
      have kf := hown6.frozenAt J
      have hg56 : g5 < w6.heap.size := by omega
      obtain ⟨y, hy⟩ : ∃ y : Int, y = by_ % 2147483647 := ⟨_, rfl⟩
      have hy1 : 0 ≤ y := by omega
      have hy2 : y < 2147483647 := by omega
      have HDY := Lib.hid (show dg y = true from decide_eq_true ⟨hy1, hy2⟩)
      have HY := Lib.hid hy
      clear hy
      have e1 : 0 ≤ (J : Int) := by omega
      have e2 : (J : Int) < ((path l K).length : Int) := by omega
      have e3 : 0 ≤ (K : Int) := by omega
      have e4 : (K : Int) < (l.length : Int) := by omega
      have HO6 := Lib.hid hown6
      clear ck3 hown6
      go_region_held3 (fun w' => w'.cell? ⟨w5.heap.size, 2, none⟩ = some (.slice (some ⟨g5, 0, none⟩) (path l K).length c5) ∧ w'.cell? ⟨g5, J, none⟩ = some (.int .i64 (path l K)[J])) (first | exact ⟨m2, k0⟩ | go_keep)
        (first | (go_at_call 19; refine (mod_any _ _ _ (by omega) (by omega)).mono ?_; rintro e w' ⟨rfl, rfl⟩; rw [← HY.out]))
      go_wp2_with fail
      try rw [← HY.out]
      obtain ⟨w7, ew⟩ : ∃ w7 : World, w7 = w6.drew := ⟨_, rfl⟩
      have hb7 : Below w6.heap.size w6 w7 := by rw [ew]; exact (Below.refl _ _).drew
      have hz7 : w6.heap.size = w7.heap.size := by rw [ew]; rfl
      have hown7 : w7.ownsRow (w4.heap.size + 2) 3 1 (.slice (some ⟨g5, 0, none⟩) (path l K).length c5) (path l K).length ((path l K).map (Value.int .i64)) := by rw [ew]; exact HO6.out.drew
      have n0 := (hb7.cell (p := ⟨w5.heap.size, 0, none⟩) hz6).trans m0
      have n1 := (hb7.cell (p := ⟨w5.heap.size, 1, none⟩) hz6).trans m1
      have n2 := (hb7.cell (p := ⟨w5.heap.size, 2, none⟩) hz6).trans m2
      have nk := (hb7.cell (p := ⟨b, off + K, none⟩) (show b < w6.heap.size by omega)).trans ck6
      have j0 := own_int hown7 J hjl
      have jf := hown7.frozenAt J
      rw [← ew]
      have hW7 := hW6.trans (hb7.mono hW6.size)
      have HO7 := Lib.hid hown7
      clear ew hown7 m0 m1 m2 ck6 k0 kf
      go_region_with (go_at_call 19; refine (mod_any _ _ _ (by omega) (by omega)).mono ?_; rintro e w' ⟨rfl, rfl⟩)
      all_goals
        go_wp2_with fail
        try rw [← HY.out]
        obtain ⟨w8, ew⟩ : ∃ w8 : World, w8 = (w7.setCell ⟨g5, J, none⟩ (.int .i64 y)).drew := ⟨_, rfl⟩
        have hst := (HO7.out.stored J (.int .i64 y)).1.drew
        rw [← ew] at hst
        have hb8 : Below (w4.heap.size + 2) w7 w8 := by rw [ew]; exact ((Below.refl _ _).setCell hg5b _).drew
        have hO : SI w8 (.slice (some ⟨g5, 0, none⟩) (path l K).length c5) ((path l K).set J y) := by
          have := SI.of_own (l := (path l K).set J y) (e := 3) (base := w4.heap.size + 2) (w := w8) (v := .slice (some ⟨g5, 0, none⟩) (path l K).length c5) (by rw [List.length_set, List.map_set]; exact hst) (by
            intro x hx
            rcases List.mem_or_eq_of_mem_set hx with h | h
            · exact dg_r (dgs_all HPA.out.dg x h)
            · rw [h]; exact dg_r HDY.out)
          exact this
        have hne : ∀ (B o : Nat) (v : Value), B ≠ g5 → w7.cell? ⟨B, o, none⟩ = some v → w8.cell? ⟨B, o, none⟩ = some v := fun B o v hB h => by
          rw [ew]
          exact (World.cell?_setCell_other w7 ⟨g5, J, none⟩ ⟨B, o, none⟩ _ (by first | exact (fun h => hB (congrArg Addr.block h)) | exact (fun h => hB (congrArg Addr.block h).symm))).trans h
        have hz8 : w7.heap.size = w8.heap.size := by rw [ew]; simp [World.setCell, World.drew]
        have t0 := hne w5.heap.size 0 _ (by omega) n0
        have t1 := hne w5.heap.size 1 _ (by omega) n1
        have t2 := hne w5.heap.size 2 _ (by omega) n2
        have tk := hne b (off + K) _ (by omega) nk
        have HO := Lib.hid hO
        have hW8 : Below w.heap.size w w8 := by rw [ew]; exact (hW7.setCell (show w.heap.size ≤ g5 by have := hW4.size; omega) _).drew
        rw [← ew]
        clear ew hO hst hb8 hne n0 n1 n2 nk j0 jf
        have hlen : ((path l K).set J y).length = plen l.length K := by rw [List.length_set]; exact HPA.out.len
        have hdk := HA.out l[K] (List.getElem_mem hkl)
        have hck := ckE_z (C := l.length) (I := K) (rt := root l) (d := l[K]) (ds := (path l K).set J y) (show l.length ≤ 1024 by omega) hkl hlen (dgs_set HPA.out.dg HDY.out J) hdk
        have hls := lead_set _ l.length K (path l K) l[K] J y (Nat.le_refl _) HPA.out.len hjl (dgs_all HPA.out.dg _ (List.getElem_mem hjl)) HDY.out
        rw [lead_root hkl] at hls
        have hb : (ckE l.length K ((path l K).set J y) l[K] (root l) == 0) = ((path l K)[J] == y) := by
          rw [hck, Bool.eq_iff_iff, decide_eq_true_iff, beq_iff_eq]; exact hls
        have hdr := dg_r hdk
        obtain ⟨bb, hbb1, hbb2⟩ : ∃ bb : Bool, (ckE l.length K ((path l K).set J y) l[K] (root l) == 0) = bb ∧ ((path l K)[J] == y) = bb := ⟨_, rfl, hb.symm⟩
        have hpl : ((path l K).set J y).length ≤ 100000 := by rw [List.length_set]; have := path_le l K; omega
        have s0 : w5.heap.size < w8.heap.size := by omega
        have s1 : b < w8.heap.size := by omega
        have HDR := Lib.hid hdr
        clear hck hls hlen hdk hdr hb
        cases bb
        all_goals
          go_region_held3 (fun w' => w'.cell? ⟨w5.heap.size, 0, none⟩ = some (.int .i64 K) ∧ w'.cell? ⟨w5.heap.size, 1, none⟩ = some (.int .i64 l.length) ∧ w'.cell? ⟨w5.heap.size, 2, none⟩ = some (.slice (some ⟨g5, 0, none⟩) (path l K).length c5) ∧ w'.cell? ⟨b, off + K, none⟩ = some (.int .i64 l[K])) (first | exact ⟨t0, t1, t2, tk⟩ | exact ⟨x0, x1, x2, xk⟩ | go_keep)
            (first | (go_at_call 35; refine (pckp_any (l.length : Int) K l[K] (root l) ((path l K).set J y) _ _ (by unfold i64r; omega) (by unfold i64r; omega) HDR.out (by exact HO.out) hpl).mono ?_; rintro e w9 ⟨rfl, hb9⟩; have x0 := (hb9.cell (p := ⟨w5.heap.size, 0, none⟩) s0).trans t0; have x1 := (hb9.cell (p := ⟨w5.heap.size, 1, none⟩) s0).trans t1; have x2 := (hb9.cell (p := ⟨w5.heap.size, 2, none⟩) s0).trans t2; have xk := (hb9.cell (p := ⟨b, off + K, none⟩) s1).trans tk))
          go_wp2_with fail
          go_ret
          exact ⟨rfl, hW8.drew.trans (hb9.mono hW8.size)⟩
  · rw [decide_eq_false hf]
    go_wp2_with fail
    go_ret
    exact ⟨rfl, hb1⟩
end Go.Proofs.Ytmglcjdigpgjlaa
