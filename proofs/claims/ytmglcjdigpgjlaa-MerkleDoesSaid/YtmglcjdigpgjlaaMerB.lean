/- The reference's Find hands back digests in new memory. -/
import Derived.Test.YtmglcjdigpgjlaaMerG
namespace Go.Proofs.Ytmglcjdigpgjlaa
open Go.RowKit
set_option maxHeartbeats 4000000 in
set_option maxRecDepth 100000 in
theorem rfindp_fresh (l : List Int) (v : Value) (x : Int) (w : World) (h : SI w v l) (hx : i64r x) :
    Calls Try.prog 31 #[v, .int .i64 x] w fun e w' => ∃ v', e = .returned (fdV l x v') ∧ SI w' v' (fdP l x) ∧ (∀ k, v'.ownBlock = some k → w.heap.size ≤ k) ∧ Below w.heap.size w w' := by
  by_cases h0 : lsE l = 0
  · have hd : (lsE l != 0) = false := by simp [h0]
    have hlen : l.length ≤ 1024 := by unfold lsE at h0; split at h0 <;> omega
    have H0 := Lib.hid h0
    clear h0
    have hS := h
    obtain ⟨A, c, rfl, hcc, hm, hr, ha⟩ := h
    have HS := Lib.hid hS
    clear ha hS
    obtain ⟨hx1, hx2⟩ := hx
    by_cases h1 : x < 0
    · have HE := Lib.hid (fd_6 H0.out (.inl h1))
      go_enter Try.func31, Try.ntmps31
      go_wp2_with ((with_reducible refine (rchk_any l _ _ (SI.below HS.out ((Below.refl _ _).alloc (Nat.le_refl _) _))).mono ?_); rintro e w' ⟨rfl, rfl⟩)
      exact bodyPost_ret (v := .tuple #[.agg #[.int .i64 0, .int .i64 0, .slice none 0 0], .int .i64 6]) (by simp [results, Try.results31, go_sem]) rfl
        ⟨.slice none 0 0, by rw [HE.out.1], by rw [HE.out.2]; exact SI_nil' _, (fun k hk => by simp [Value.ownBlock] at hk), by repeat (first | exact Below.refl _ _ | (refine Below.setCell ?_ (by simp) _) | (refine Below.alloc ?_ (by simp) _))⟩
    by_cases h2 : (l.length : Int) ≤ x
    · have HE := Lib.hid (fd_6 H0.out (.inr h2))
      go_enter Try.func31, Try.ntmps31
      go_wp2_with ((with_reducible refine (rchk_any l _ _ (SI.below HS.out ((Below.refl _ _).alloc (Nat.le_refl _) _))).mono ?_); rintro e w' ⟨rfl, rfl⟩)
      exact bodyPost_ret (v := .tuple #[.agg #[.int .i64 0, .int .i64 0, .slice none 0 0], .int .i64 6]) (by simp [results, Try.results31, go_sem]) rfl
        ⟨.slice none 0 0, by rw [HE.out.1], by rw [HE.out.2]; exact SI_nil' _, (fun k hk => by simp [Value.ownBlock] at hk), by repeat (first | exact Below.refl _ _ | (refine Below.setCell ?_ (by simp) _) | (refine Below.alloc ?_ (by simp) _))⟩
    obtain ⟨I, rfl⟩ : ∃ n : Nat, x = n := ⟨x.toNat, by omega⟩
    have HE := Lib.hid (fd_0 (l := l) (I := I) H0.out (by omega))
    have hI : I < l.length := by omega
    have HR := Lib.hid hr
    have hg1 : decide ((I : Int) < 0) = false := decide_eq_false (by omega)
    have hg2 : decide ((l.length : Int) ≤ (I : Int)) = false := by simp; omega
    have hg3 : decide (l.length ≤ I) = false := by simp; omega
    clear h1 h2 hr
    go_enter Try.func31, Try.ntmps31
    go_wp2_with fail
    (with_reducible refine (rchk_any l _ _ (SI.below HS.out ((Below.refl _ _).alloc (Nat.le_refl _) _))).mono ?_); rintro e w' ⟨rfl, rfl⟩
    go_wp2_with fail
    go_loopw [0, 8] (fun v iv wr => FRel w l I v iv wr) (fun v _ _ => lenV v)
    case atStart => exact FRel.start HS.out hI
    case round =>
      obtain ⟨m, i, vd, ds, hSm, rfl, him, hml, hpath, hpb, hres, hown, hap, hbl⟩ := hrel
      have HSm := Lib.hid hSm
      have HP := Lib.hid hpath
      have HB := Lib.hid hpb
      have HZ := Lib.hid hres
      have HO := Lib.hid hown
      have HA := Lib.hid hap
      obtain ⟨A1, c1, rfl, hcc1, hmm1, _, ha1⟩ := hSm
      obtain ⟨Ad, cd, rfl⟩ := own_slice hown
      have hz := hbl.size
      have q0 : wr.cell? ⟨w.heap.size, 0, none⟩ = some (.int .i64 0) := cell_of_row wr _ 0 _ _ _ hres
      have q1 : wr.cell? ⟨w.heap.size, 1, none⟩ = some (.int .i64 0) := cell_of_row wr _ 1 _ _ _ hres
      have q2 : wr.cell? ⟨w.heap.size, 2, none⟩ = some (.slice none 0 0) := cell_of_row wr _ 2 _ _ _ hres
      have f0 : wr.frozen? ⟨w.heap.size, 0, none⟩ = false := frozen_of_row wr _ 0 _ _ hres
      have f1 : wr.frozen? ⟨w.heap.size, 1, none⟩ = false := frozen_of_row wr _ 1 _ _ hres
      have f2 : wr.frozen? ⟨w.heap.size, 2, none⟩ = false := frozen_of_row wr _ 2 _ _ hres
      have hnb : ∀ k, (Value.slice Ad ds.length cd).ownBlock = some k → w.heap.size + 2 ≤ k := fun k hk => (hown.lt k hk).1
      have HNB := Lib.hid hnb
      clear hnb
      have p0 : wr.cell? ⟨w.heap.size + 1, 0, none⟩ = some (.int .i64 I) := cell_of_row wr _ 0 _ _ _ hpb
      have p1 : wr.cell? ⟨w.heap.size + 1, 1, none⟩ = some (.int .i64 l.length) := cell_of_row wr _ 1 _ _ _ hpb
      have p2 : wr.cell? ⟨w.heap.size + 1, 2, none⟩ = some (.slice Ad ds.length cd) := cell_of_row wr _ 2 _ _ _ hpb
      have pf : wr.frozen? ⟨w.heap.size + 1, 2, none⟩ = false := frozen_of_row wr _ 2 _ _ hpb
      have hzb : w.heap.size + 1 < wr.heap.size := heap_of_cells hpb
      clear hpath hpb hres hown hap
      by_cases hlt : 1 < m.length
      · have hxr := xor1 i (by omega)
        have HU := Lib.hid (path_up hlt i)
        have hdl : ds.length ≤ l.length := by
          have := congrArg List.length HP.out
          rw [List.length_append] at this
          have := path_le l I
          omega
        by_cases hk : i ^^^ 1 < m.length
        · have hd1 : decide (((i ^^^ 1 : Nat) : Int) < (m.length : Int)) = true := by simp; omega
          obtain ⟨b, off, rfl, hb, hcell⟩ := ha1 (by omega)
          have ck := hcell (i ^^^ 1) hk
          have e1 : (0 : Int) ≤ ((i ^^^ 1 : Nat) : Int) := by omega
          have e2 : ((i ^^^ 1 : Nat) : Int) < (m.length : Int) := by omega
          have ek := path_get hk
          have HK := Lib.hid ek
          clear hcell ha1 ek
          clear q0 q1 q2 f0 f1 f2
          go_wp2_with fail
          go_region_law (refine step_append_int1_at _ (by rfl) _ _ 22 (by rfl) (w.heap.size + 2) 3 Try.underlying22 iinfo _ ds (by rfl) (by exact (HO.out.alloc (.cells #[.int .i64 m[i ^^^ 1]] 3)).drew) m[i ^^^ 1] wr.heap.size (by rfl) (by exact cells_new wr [.int .i64 m[i ^^^ 1]] 3 0 _ rfl) (by omega) (by simp; omega) ?_; intro g2 cap2 w2 hown2 hg2 hat2; have hb2 : w2.heap[w.heap.size + 1]? = _ := (hg2.block (w.heap.size + 1) (by simp; omega) (fun e => by have := HNB.out _ e.symm; omega)).trans ((Below.heap_alloc wr _ _ hzb).trans HB.out); have p2' : w2.cell? ⟨w.heap.size + 1, 2, none⟩ = some (.slice Ad ds.length cd) := cell_of_row w2 _ 2 _ _ _ hb2; have pf' : w2.frozen? ⟨w.heap.size + 1, 2, none⟩ = false := frozen_of_row w2 _ 2 _ _ hb2)
          all_goals
            obtain ⟨w3, ew3⟩ : ∃ w3 : World, w3 = w2.setCell ⟨w.heap.size + 1, 2, none⟩ (.slice (some ⟨g2, 0, none⟩) (ds.length + 1) cap2) := ⟨_, rfl⟩
            simp only [List.length_append, List.length_cons, List.length_nil, Nat.zero_add] at hown2 ⊢
            rw [← ew3]
            have hz2 : wr.heap.size + 1 ≤ w2.heap.size := by have := hg2.size; simpa using this
            have hpb3 : w3.heap[w.heap.size + 1]? = some (.cells #[.int .i64 I, .int .i64 l.length, .slice (some ⟨g2, 0, none⟩) (ds.length + 1) cap2] 46 (0, 0)) := by
              rw [ew3]; exact heap_setCell_same w2 _ 2 _ _ _ hb2
            have hset : w2.grownBy w3 (some (w.heap.size + 1)) := by rw [ew3]; exact grownBy_setCell (grownBy_refl _ _) (.inl rfl) _
            have hold : ∀ k, k < wr.heap.size → k ≠ w.heap.size + 1 → (Value.slice Ad ds.length cd).ownBlock ≠ some k → w3.heap[k]? = wr.heap[k]? := fun k hk h1 h2 =>
              (hset.block k (by omega) (by simp; omega)).trans ((hg2.block k (by simp; omega) (fun e => h2 e.symm)).trans (Below.heap_alloc wr _ _ hk))
            have hz3 := (hold w.heap.size (by omega) (by omega) (fun e => by have := HNB.out _ e; omega)).trans HZ.out
            have hown3 : w3.ownsRow (w.heap.size + 2) 3 1 (.slice (some ⟨g2, 0, none⟩) (ds.length + 1) cap2) (ds.length + 1) ((ds ++ [m[i ^^^ 1]]).map (Value.int .i64)) := hown2.kept hset (.inr (by
              have := (hown2.lt g2 rfl).1
              simp [Value.ownBlock]; omega))
            have hsz3 : wr.heap.size ≤ w3.heap.size := by have := hset.size; omega
            have hS3 : SI w3 (.slice (some ⟨b, off, none⟩) m.length c1) m := HSm.out.keepB hsz3 (fun k hk => hold k (by
              have := HSm.out.own_lt (by omega) k hk; exact this) (HA.out k hk).2.1 (HA.out k hk).2.2)
            have hb3 : Below w.heap.size w w3 := by
              rw [ew3]
              exact (Below.grown ((hbl.alloc hz (.cells #[.int .i64 m[i ^^^ 1]] 3)).drew) hg2 (by simp; omega) (fun k hk => by have := HNB.out k hk; omega)).setCell (by simp) _
            have hpath3 : (ds ++ [m[i ^^^ 1]]) ++ path (up m) (i / 2) = path l I := by rw [← HP.out, HU.out, HK.out, List.append_assoc]
            have HP3 := Lib.hid hpath3
            have HOWN := Lib.hid hown3
            clear ew3 hold hset hown2 hg2 hb2 p2' pf' p0 p1 p2 pf ck hpath3 hown3
            go_wp2_with fail
            (with_reducible refine (rup_own m _ _ hS3 (by omega)).mono ?_)
            rintro e w5 ⟨v5, rfl, h5, hown5, hb5⟩
            have HV5 := Lib.hid h5.len
            have HUL := Lib.hid (up_len m)
            go_wp2_with fail
            go_roundw
            case rel => exact FRel.next hb3 hpb3 hz3 (by rw [List.length_append]; exact HOWN.out) h5 hown5 hb5 him hml HP3.out (by go_num)
            case measure => show lenV v5 < m.length; rw [HV5.out, HUL.out]; omega
        · have hd1 : decide (((i ^^^ 1 : Nat) : Int) < (m.length : Int)) = false := by simp; omega
          clear p0 p1 p2 pf q0 q1 q2 f0 f1 f2
          go_wp2_with fail
          (with_reducible refine (rup_own m _ _ HSm.out (by omega)).mono ?_)
          rintro e w5 ⟨v5, rfl, h5, hown5, hb5⟩
          have HV5 := Lib.hid h5.len
          have HUL := Lib.hid (up_len m)
          go_wp2_with fail
          go_roundw
          case rel => exact FRel.next hbl HB.out HZ.out HO.out h5 hown5 hb5 him hml (by have h1 := HP.out; rw [HU.out, if_neg hk, List.nil_append] at h1; exact h1) (by go_num)
          case measure => show lenV v5 < m.length; rw [HV5.out, HUL.out]; omega
      · have HU := Lib.hid (path_small (show m.length ≤ 1 by omega) i)
        clear ha1
        have hS3 : SI wr (.slice Ad ds.length cd) ds := SI.of_own HO.out (fun y hy => path_r HR.out I y (by rw [← HP.out]; simp [hy]))
        have HS3 := Lib.hid hS3
        clear hS3
        go_wp2_with fail
        exact bodyPost_ret (v := .tuple #[.agg #[.int .i64 I, .int .i64 l.length, .slice Ad ds.length cd], .int .i64 0]) (by simp [results, Try.results31, go_sem, q0, q1, q2]) rfl
          ⟨.slice Ad ds.length cd, by rw [HE.out.1], by rw [HE.out.2, ← HP.out, HU.out, List.append_nil]; exact HS3.out.keepB (by simp) (fun k hk => by
            have := HNB.out k hk
            rw [Below.heap_setCell _ _ _ _ (by simp; omega), Below.heap_setCell _ _ _ _ (by simp; omega), Below.heap_setCell _ _ _ _ (by simp; omega)]), (fun k hk => by have := HNB.out k hk; omega), ((hbl.setCell (Nat.le_refl _) _).setCell (Nat.le_refl _) _).setCell (Nat.le_refl _) _⟩
  · have hd : (lsE l != 0) = true := by simpa using h0
    have HE := Lib.hid (fd_ls (x := x) h0)
    clear h0
    go_enter Try.func31, Try.ntmps31
    go_wp2_with ((with_reducible refine (rchk_any l _ _ (SI.below h ((Below.refl _ _).alloc (Nat.le_refl _) _))).mono ?_); rintro e w' ⟨rfl, rfl⟩)
    exact bodyPost_ret (v := .tuple #[.agg #[.int .i64 0, .int .i64 0, .slice none 0 0], .int .i64 (lsE l)]) (by simp [results, Try.results31, go_sem]) rfl
      ⟨.slice none 0 0, by rw [HE.out.1], by rw [HE.out.2]; exact SI_nil' _, (fun k hk => by simp [Value.ownBlock] at hk), by repeat (first | exact Below.refl _ _ | (refine Below.setCell ?_ (by simp) _) | (refine Below.alloc ?_ (by simp) _))⟩
end Go.Proofs.Ytmglcjdigpgjlaa
