/- A list in which one element changed has another root. -/
import Derived.Test.YtmglcjdigpgjlaaMerZ
namespace Go.Proofs.Ytmglcjdigpgjlaa
open Go.RowKit

theorem dgs_set {l : List Int} (h : dgs l = true) {y : Int} (hy : dg y = true) (k : Nat) : dgs (l.set k y) = true := by
  have h1 := dgs_all h
  simp only [dgs, List.all_eq_true]
  intro x hx
  rcases List.mem_or_eq_of_mem_set hx with h | h
  · exact h1 x h
  · rw [h]; exact hy
theorem root_set {l : List Int} {k : Nat} (hk : k < l.length) (hd : dgs l = true) {y : Int} (hy : dg y = true) :
    lead l.length k (path l k) y = root (l.set k y) ∧ ((root l == root (l.set k y)) = (l[k] == y)) := by
  have h1 := lead_root (l := l.set k y) (i := k) (by rw [List.length_set]; exact hk)
  rw [path_set _ l k y hk (Nat.le_refl _), List.getElem_set_self] at h1
  simp only [List.length_set] at h1
  refine ⟨h1, ?_⟩
  rw [Bool.eq_iff_iff, beq_iff_eq, beq_iff_eq, ← h1, ← lead_root hk]
  exact ⟨fun h => lead_inj _ _ _ _ _ _ (Nat.le_refl _) (dgs_all hd _ (List.getElem_mem hk)) hy h, fun h => by rw [h]⟩

set_option maxRecDepth 100000 in
set_option maxHeartbeats 4000000 in
theorem mchanges_walk (t : List Int) (vt : Value) (at_ : Nat) (by_ : Int) (w : World) (ht : SI w vt t) (_hat : at_ < 256) :
    Calls Try.prog 8 #[vt, .int .u8 at_, .int .i64 by_] w fun e w' => e = .returned (.bool true) ∧ Below w.heap.size w w' := by
  go_enter Try.func8, Try.ntmps8
  go_wp2_with fail
  (with_reducible refine (rsane_any _).mono ?_); rintro e w1 ⟨rfl, hb1⟩
  have ht1 := SI.below ht hb1
  have hz1 := hb1.size
  go_wp2_with fail
  (with_reducible refine (few_any t vt _ ht1).mono ?_); rintro e w' ⟨rfl, rfl⟩
  by_cases hf : t.length ≤ 500
  · rw [decide_eq_true hf]
    go_wp2_with fail
    (with_reducible refine (new_any t vt _ ht1).mono ?_); rintro e w2 ⟨rfl, hdk2, hb2, hz2⟩
    have hW2 := hb1.trans (hb2.mono hb1.size)
    go_wp2_with fail
    (with_reducible refine (leaves_any _ _ hdk2).mono ?_); rintro e w3 ⟨v3, l, rfl, hl, hall, hown3, _, hg3⟩
    have hW3 := hW2.trans (below_of_grownBy hg3 hz1 (by omega))
    obtain ⟨hls, hdl⟩ := lsE_z hl hall
    have hS3 : SI w3 v3 l := SI.of_own hown3 fun x hx => dg_r (hall x hx)
    have HD := Lib.hid hdl
    have HA := Lib.hid hall
    clear hall hdl hown3
    obtain ⟨A, c, rfl, hcc, hcm, hr3, ha3⟩ := id hS3
    have HS3 := Lib.hid hS3
    have HC := Lib.hid ha3
    clear hS3 ha3 hr3
    by_cases h0 : l.length = 0
    · have hd0 : ((l.length : Int) == 0) = true := by rw [beq_iff_eq]; omega
      go_wp2_with fail
      go_ret
      exact ⟨rfl, hW3⟩
    · have hd0 : ((l.length : Int) == 0) = false := by rw [beq_eq_false_iff_ne]; omega
      have hlp : 0 < l.length := by omega
      obtain ⟨K, hK⟩ : ∃ K : Nat, K = at_ % l.length := ⟨_, rfl⟩
      have hkl : K < l.length := by rw [hK]; exact Nat.mod_lt _ hlp
      have kz : ((at_ : Int) % (l.length : Int)) = (K : Int) := by omega
      clear h0 hK
      obtain ⟨b, off, rfl, hb, hcell⟩ := HC.out hlp
      have ck3 := hcell _ hkl
      have hPA := IsPath.of (i := K) (show l.length ≤ 1024 by omega) HD.out hkl
      have HPA := Lib.hid hPA
      have HFV := Lib.hid (fd_0 hls hkl).1
      clear hcell hPA
      go_wp2_with fail
      rw [kz]
      clear kz
      (with_reducible refine (pfind_any l _ ((K : Nat) : Int) _ HS3.out (by unfold i64r; omega)).mono ?_); rintro e w4 ⟨v4, rfl, hS4, hb4⟩
      rw [HFV.out]
      rw [HPA.out.fp] at hS4
      have hz4 := hb4.size
      obtain ⟨A4, c4, rfl, hcc4, hcm4, _, _⟩ := id hS4
      have HS4 := Lib.hid hS4
      clear hS4
      have hW4 := hW3.trans (hb4.mono hW3.size)
      have hbP : Below w4.heap.size w4 (w4.alloc (.cells #[.int .i64 K, .int .i64 l.length, .slice A4 (path l K).length c4] 46)) := (Below.refl _ _).alloc (Nat.le_refl _) _
      have HSP := Lib.hid (SI.below HS3.out (hb4.trans (hbP.mono hz4)))
      go_wp2_with (at_builtin; refine wpList_append_ints _ rfl _ _ 22 rfl (w4.heap.size + 1) 3 Try.underlying22 iinfo (.slice none 0 0) [] rfl (World.ownsRow_nil _ _ _ _) _ _ l rfl HSP.out (by simp; omega) (by simp) ?_; intro v10 w10 hown10 hg10; simp only [List.nil_append] at hown10; obtain ⟨g10, cap10, rfl, hg10b, hg10l⟩ := own_form hown10 hlp; have k0 := own_int hown10 _ hkl; have kf := hown10.frozenAt K)
      (with_reducible refine (mod_any _ _ _ (by omega) (by omega)).mono ?_); rintro e w' ⟨rfl, rfl⟩
      obtain ⟨y, hy⟩ : ∃ y : Int, y = by_ % 2147483647 := ⟨_, rfl⟩
      have hy1 : 0 ≤ y := by omega
      have hy2 : y < 2147483647 := by omega
      have hdy : dg y = true := decide_eq_true ⟨hy1, hy2⟩
      rw [← hy]
      clear hy
      have HDY := Lib.hid hdy
      clear hdy
      go_wp2_with fail
      obtain ⟨w11, ew⟩ : ∃ w11 : World, w11 = w10.setCell ⟨g10, K, none⟩ (.int .i64 y) := ⟨_, rfl⟩
      have hst := hown10.stored K (.int .i64 y)
      have gk : w11.cell? ⟨g10, K, none⟩ = some (.int .i64 y) := by rw [ew]; exact World.cell?_setCell_same _ _ _ k0
      rw [← ew] at hst ⊢
      have hb11 : Below (w4.heap.size + 1) (w4.alloc (.cells #[.int .i64 K, .int .i64 l.length, .slice A4 (path l K).length c4] 46)) w11 := by
        rw [ew]
        exact ((Below.refl _ _).grown hg10 (by simp) (by simp [Value.ownBlock])).setCell hg10b _
      have hz11 := hb11.size
      simp at hz11
      have hO : SI w11 (.slice (some ⟨g10, 0, none⟩) l.length cap10) (l.set K y) := by
        have := SI.of_own (l := l.set K y) (e := 3) (base := w4.heap.size + 1) (w := w11) (v := .slice (some ⟨g10, 0, none⟩) l.length cap10) (by rw [List.length_set, List.map_set]; exact hst.1) (by
          intro x hx
          rcases List.mem_or_eq_of_mem_set hx with h | h
          · exact dg_r (HA.out x h)
          · rw [h]; exact dg_r HDY.out)
        exact this
      have HO := Lib.hid hO
      have hg11 : g10 < w11.heap.size := by have := (hst.1.lt g10 rfl).2; omega
      have hdm := dgs_set HD.out HDY.out K
      have hlm : lsE (l.set K y) = 0 := lsE_d (by rw [List.length_set]; omega) hdm
      have hrs := root_set hkl HD.out HDY.out
      have hfm := (fd_0 (l := l.set K y) (I := K) hlm (by rw [List.length_set]; exact hkl))
      have HDM := Lib.hid hdm
      have HLM := Lib.hid hlm
      have HRM := Lib.hid (rtE_z hlm)
      have HR := Lib.hid (rtE_z hls)
      have HLS := Lib.hid hls
      have HRS := Lib.hid hrs
      have HFM := Lib.hid (hfm.1)
      have HFP := Lib.hid (hfm.2.trans (path_set _ l K y hkl (Nat.le_refl _)))
      have hB : Below w4.heap.size w4 w11 := hbP.trans (hb11.mono (by omega))
      have HS11 := Lib.hid (SI.below HS3.out (hb4.trans (hB.mono hz4)))
      have HP11 := Lib.hid (SI.below HS4.out hB)
      have p2 : w11.cell? ⟨w4.heap.size, 2, none⟩ = some (.slice A4 (path l K).length c4) := (hb11.cell (p := ⟨w4.heap.size, 2, none⟩) (show w4.heap.size < w4.heap.size + 1 by omega)).trans (cell_of_row _ _ 2 _ _ (0, 0) (heap_alloc_new w4 _))
      have p1 : w11.cell? ⟨w4.heap.size, 1, none⟩ = some (.int .i64 l.length) := (hb11.cell (p := ⟨w4.heap.size, 1, none⟩) (show w4.heap.size < w4.heap.size + 1 by omega)).trans (cell_of_row _ _ 1 _ _ (0, 0) (heap_alloc_new w4 _))
      have p0 : w11.cell? ⟨w4.heap.size, 0, none⟩ = some (.int .i64 K) := (hb11.cell (p := ⟨w4.heap.size, 0, none⟩) (show w4.heap.size < w4.heap.size + 1 by omega)).trans (cell_of_row _ _ 0 _ _ (0, 0) (heap_alloc_new w4 _))
      have ck11 := (hB.cell (p := ⟨b, off + K, none⟩) (Nat.lt_of_lt_of_le hb hz4)).trans ((hb4.cell (p := ⟨b, off + K, none⟩) hb).trans ck3)
      have hW11 := hW4.trans (hB.mono hW4.size)
      clear ew hst hdm hlm hrs hfm hls ck3 k0 kf hO
      have hl11 : w4.heap.size < w11.heap.size := by omega
      have hlb11 : b < w11.heap.size := by omega
      go_wp2_with fail
      (with_reducible refine (proot_any l _ _ HS11.out).mono ?_); rintro e w12 ⟨rfl, hb12⟩
      rw [HR.out, HLS.out]
      have HO12 := Lib.hid (SI.below HO.out hb12)
      go_wp2_with fail
      (with_reducible refine (proot_any (l.set K y) _ _ HO12.out).mono ?_); rintro e w13 ⟨rfl, hb13⟩
      rw [HRM.out, HLM.out]
      have hB13 : Below w11.heap.size w11 w13 := hb12.trans (hb13.mono hb12.size)
      have hz13 := hB13.size
      have r0 := (hB13.cell (p := ⟨w4.heap.size, 0, none⟩) hl11).trans p0
      have r1 := (hB13.cell (p := ⟨w4.heap.size, 1, none⟩) hl11).trans p1
      have r2 := (hB13.cell (p := ⟨w4.heap.size, 2, none⟩) hl11).trans p2
      have rg := (hB13.cell (p := ⟨g10, K, none⟩) hg11).trans gk
      have rk := (hB13.cell (p := ⟨b, off + K, none⟩) hlb11).trans ck11
      have HP13 := Lib.hid (SI.below HP11.out hB13)
      have HO13 := Lib.hid (SI.below HO.out hB13)
      have hW13 := hW11.trans (hB13.mono hW11.size)
      have hld := ldE_z (C := l.length) (I := K) (d := y) (show l.length ≤ 1024 by omega) hkl HPA.out.len HPA.out.dg HDY.out
      have HLD := Lib.hid (hld.2.trans HRS.out.1)
      have HLE := Lib.hid hld.1
      have hpl : (path l K).length ≤ 100000 := by have := path_le l K; omega
      have s0 : w4.heap.size < w13.heap.size := by omega
      have s1 : g10 < w13.heap.size := by omega
      have s2 : b < w13.heap.size := by omega
      have e1 : 0 ≤ (K : Int) := by omega
      have e2 : (K : Int) < (l.length : Int) := by omega
      clear p0 p1 p2 gk ck11 hld
      go_wp2_with fail
      go_region_held3 (fun w' => w'.cell? ⟨w4.heap.size, 0, none⟩ = some (.int .i64 K) ∧ w'.cell? ⟨w4.heap.size, 1, none⟩ = some (.int .i64 l.length) ∧ w'.cell? ⟨w4.heap.size, 2, none⟩ = some (.slice A4 (path l K).length c4) ∧ w'.cell? ⟨g10, K, none⟩ = some (.int .i64 y)) (first | exact ⟨r0, r1, r2, rg⟩ | exact ⟨t0, t1, t2, tg⟩ | go_keep)
        (first | (go_at_call 33; refine (plead_any (l.length : Int) K y (path l K) _ _ (by unfold i64r; omega) (by unfold i64r; omega) (by unfold i64r; omega) (by exact HP13.out) hpl).mono ?_; rintro e w14 ⟨rfl, hb14⟩; rw [HLD.out, HLE.out]; have t0 := (hb14.cell (p := ⟨w4.heap.size, 0, none⟩) s0).trans r0; have t1 := (hb14.cell (p := ⟨w4.heap.size, 1, none⟩) s0).trans r1; have t2 := (hb14.cell (p := ⟨w4.heap.size, 2, none⟩) s0).trans r2; have tg := (hb14.cell (p := ⟨g10, K, none⟩) s1).trans rg; have tk := (hb14.cell (p := ⟨b, off + K, none⟩) s2).trans rk))
      have hB14 : Below w11.heap.size w11 w14 := hB13.drew.trans (hb14.mono (by exact hz13))
      have hz14 := hB14.size
      have HO14 := Lib.hid (SI.below HO.out hB14)
      have HP14 := Lib.hid (SI.below HP11.out hB14)
      have hW14 := hW11.trans (hB14.mono hW11.size)
      clear r0 r1 r2 rg rk
      go_wp2_with fail
      (with_reducible refine (pfind_any (l.set K y) _ (K : Int) _ HO14.out (by unfold i64r; omega)).mono ?_); rintro e w15 ⟨v15, rfl, hS15, hb15⟩
      rw [HFM.out, List.length_set]
      rw [HFP.out] at hS15
      have hz15 := hb15.size
      obtain ⟨A15, c15, rfl, hcc15, hcm15, _, _⟩ := id hS15
      have HS15 := Lib.hid hS15
      have HP15 := Lib.hid (SI.below HP14.out hb15)
      have hW15 := hW14.trans (hb15.mono hW14.size)
      have s3 : w4.heap.size < w14.heap.size := by omega
      have s4 : g10 < w14.heap.size := by omega
      have s5 : b < w14.heap.size := by omega
      have u0 := (hb15.cell (p := ⟨w4.heap.size, 0, none⟩) s3).trans t0
      have u1 := (hb15.cell (p := ⟨w4.heap.size, 1, none⟩) s3).trans t1
      have u2 := (hb15.cell (p := ⟨w4.heap.size, 2, none⟩) s3).trans t2
      have ug := (hb15.cell (p := ⟨g10, K, none⟩) s4).trans tg
      have uk := (hb15.cell (p := ⟨b, off + K, none⟩) s5).trans tk
      clear t0 t1 t2 tg tk hS15
      have hbA : Below w15.heap.size w15 (w15.alloc (.cells #[.int .i64 K, .int .i64 l.length, .slice A15 (path l K).length c15] 46)) := (Below.refl _ _).alloc (Nat.le_refl _) _
      go_wp2_with fail
      obtain ⟨w16, ew⟩ : ∃ w16 : World, w16 = w15.alloc (.cells #[.int .i64 K, .int .i64 l.length, .slice A15 (path l K).length c15] 46) := ⟨_, rfl⟩
      have m0 : w16.cell? ⟨w15.heap.size, 0, none⟩ = some (.int .i64 K) := by rw [ew]; exact cell_of_row _ _ 0 _ _ (0, 0) (heap_alloc_new w15 _)
      have m1 : w16.cell? ⟨w15.heap.size, 1, none⟩ = some (.int .i64 l.length) := by rw [ew]; exact cell_of_row _ _ 1 _ _ (0, 0) (heap_alloc_new w15 _)
      have m2 : w16.cell? ⟨w15.heap.size, 2, none⟩ = some (.slice A15 (path l K).length c15) := by rw [ew]; exact cell_of_row _ _ 2 _ _ (0, 0) (heap_alloc_new w15 _)
      have hz16 : w15.heap.size < w16.heap.size := by rw [ew]; simp
      rw [← ew] at hbA ⊢
      clear ew
      have HP16 := Lib.hid (SI.below HP15.out hbA)
      have HQ16 := Lib.hid (SI.below HS15.out hbA)
      have hW16 := hW15.trans (hbA.mono hW15.size)
      have s6 : w4.heap.size < w15.heap.size := by omega
      have s7 : g10 < w15.heap.size := by omega
      have s8 : b < w15.heap.size := by omega
      have v0 := (hbA.cell (p := ⟨w4.heap.size, 0, none⟩) s6).trans u0
      have v1 := (hbA.cell (p := ⟨w4.heap.size, 1, none⟩) s6).trans u1
      have v2 := (hbA.cell (p := ⟨w4.heap.size, 2, none⟩) s6).trans u2
      have vg := (hbA.cell (p := ⟨g10, K, none⟩) s7).trans ug
      have vk := (hbA.cell (p := ⟨b, off + K, none⟩) s8).trans uk
      clear u0 u1 u2 ug uk
      have HSM := Lib.hid (show smB (K : Int) l.length K l.length (path l K) (path l K) = true from decide_eq_true ⟨rfl, rfl, rfl⟩)
      have hr := HRS.out.2
      obtain ⟨bb, hbb1, hbb2⟩ : ∃ bb : Bool, (root l == root (l.set K y)) = bb ∧ (l[K] == y) = bb := ⟨_, rfl, hr.symm⟩
      clear hr
      cases bb
      all_goals
        go_region_held3 (fun w' => w'.cell? ⟨w4.heap.size, 0, none⟩ = some (.int .i64 K) ∧ w'.cell? ⟨w4.heap.size, 1, none⟩ = some (.int .i64 l.length) ∧ w'.cell? ⟨w4.heap.size, 2, none⟩ = some (.slice A4 (path l K).length c4) ∧ w'.cell? ⟨g10, K, none⟩ = some (.int .i64 y) ∧ w'.cell? ⟨b, off + K, none⟩ = some (.int .i64 l[K]) ∧ w'.cell? ⟨w15.heap.size, 0, none⟩ = some (.int .i64 K) ∧ w'.cell? ⟨w15.heap.size, 1, none⟩ = some (.int .i64 l.length) ∧ w'.cell? ⟨w15.heap.size, 2, none⟩ = some (.slice A15 (path l K).length c15)) (first | exact ⟨v0, v1, v2, vg, vk, m0, m1, m2⟩ | exact ⟨x0, x1, x2, x3, x4, x5, x6, x7⟩ | go_keep)
          (first | (go_at_call 32; refine (same_any (K : Int) l.length K l.length (path l K) (path l K) _ _ _ (by exact HP16.out) (by exact HQ16.out)).mono ?_; rintro e w17 ⟨rfl, hb17⟩; rw [HSM.out]; have x0 := (hb17.cell (p := ⟨w4.heap.size, 0, none⟩) (show w4.heap.size < w16.heap.size by omega)).trans v0; have x1 := (hb17.cell (p := ⟨w4.heap.size, 1, none⟩) (show w4.heap.size < w16.heap.size by omega)).trans v1; have x2 := (hb17.cell (p := ⟨w4.heap.size, 2, none⟩) (show w4.heap.size < w16.heap.size by omega)).trans v2; have x3 := (hb17.cell (p := ⟨g10, K, none⟩) (show g10 < w16.heap.size by omega)).trans vg; have x4 := (hb17.cell (p := ⟨b, off + K, none⟩) (show b < w16.heap.size by omega)).trans vk; have x5 := (hb17.cell (p := ⟨w15.heap.size, 0, none⟩) (show w15.heap.size < w16.heap.size by omega)).trans m0; have x6 := (hb17.cell (p := ⟨w15.heap.size, 1, none⟩) (show w15.heap.size < w16.heap.size by omega)).trans m1; have x7 := (hb17.cell (p := ⟨w15.heap.size, 2, none⟩) (show w15.heap.size < w16.heap.size by omega)).trans m2))
        go_wp2_with fail
        go_ret
        exact ⟨rfl, hW16.drew.trans (hb17.mono hW16.size)⟩
  · rw [decide_eq_false hf]
    go_wp2_with fail
    go_ret
    exact ⟨rfl, hb1⟩
end Go.Proofs.Ytmglcjdigpgjlaa
