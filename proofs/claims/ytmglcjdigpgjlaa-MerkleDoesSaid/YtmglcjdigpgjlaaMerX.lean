/- Each element's path leads to the root, and no other digest does by it. -/
import Derived.Test.YtmglcjdigpgjlaaMerS
namespace Go.Proofs.Ytmglcjdigpgjlaa
open Go.RowKit

theorem lsE_z {l : List Int} (h : l.length ≤ 19) (hd : ∀ x ∈ l, dg x = true) : lsE l = 0 ∧ dgs l = true := by
  have h1 : dgs l = true := by simpa [dgs] using hd
  exact ⟨by unfold lsE; rw [if_neg (by omega), if_pos h1], h1⟩
theorem rtE_z {l : List Int} (h : lsE l = 0) : rtE l = root l := by unfold rtE; rw [if_pos h]
theorem ldE_z {C I : Nat} {ds : List Int} {d : Int} (hC : C ≤ 1024) (hI : I < C) (hl : ds.length = plen C I) (hd : dgs ds = true) (hdd : dg d = true) : ldE C I ds d = 0 ∧ ldV C I ds d = lead C I ds d := by
  have := ld_0 (C := C) (I := I) (lnE_0 hC hI).1 (by simpa using hl) (show dgs (d :: ds) = true by simpa [dgs] using ⟨hdd, by simpa [dgs] using hd⟩)
  simpa using this
theorem ckE_z {C I : Nat} {ds : List Int} {d rt : Int} (hC : C ≤ 1024) (hI : I < C) (hl : ds.length = plen C I) (hd : dgs ds = true) (hdd : dg d = true) : (ckE C I ds d rt == 0) = decide (lead C I ds d = rt) := by
  obtain ⟨h1, h2⟩ := ldE_z hC hI hl hd hdd
  unfold ckE
  rw [if_neg (by simp [h1]), h2]
  by_cases e : lead C I ds d = rt
  · rw [if_neg (by simp [e])]; simp [e]
  · rw [if_pos e]; simp [e]
/-- The path of an element of a list of digests. -/
structure IsPath (l : List Int) (i : Nat) : Prop where
  fe : fdE l i = 0
  fp : fdP l i = path l i
  ln : lnE (l.length : Int) i = 0 ∧ lnV (l.length : Int) i = plen l.length i
  len : (path l i).length = plen l.length i
  dg : dgs (path l i) = true
theorem IsPath.of {l : List Int} {i : Nat} (h : l.length ≤ 1024) (hd : dgs l = true) (hi : i < l.length) : IsPath l i := by
  have h0 : lsE l = 0 := by unfold lsE; rw [if_neg (by omega), if_pos hd]
  have hf := fd_0 h0 hi
  refine ⟨?_, hf.2, lnE_0 h hi, path_len _ l i (Nat.le_refl _), path_dgs _ l i (Nat.le_refl _) hd⟩
  unfold fdE
  rw [if_neg (by simp [h0]), if_neg (by omega)]
theorem root_nil : root [] = 0 := rfl

set_option maxRecDepth 100000 in
set_option maxHeartbeats 4000000 in
theorem mleads_walk (t : List Int) (vt : Value) (oth : Int) (w : World) (ht : SI w vt t) :
    Calls Try.prog 7 #[vt, .int .i64 oth] w fun e w' => e = .returned (.bool true) ∧ Below w.heap.size w w' := by
  go_enter Try.func7, Try.ntmps7
  go_wp2_with fail
  (with_reducible refine (rsane_any _).mono ?_); rintro e w1 ⟨rfl, hb1⟩
  have ht1 := SI.below ht hb1
  have hz1 := hb1.size
  go_wp2_with fail
  (with_reducible refine (few_any t vt _ ht1).mono ?_); rintro e w' ⟨rfl, rfl⟩
  by_cases hf : t.length ≤ 500
  · rw [decide_eq_true hf]
    go_wp2_with fail
    (with_reducible refine (new_any t vt _ ht1).mono ?_); rintro e w2 ⟨rfl, hdk2, hb2, hz2⟩
    have hW2 := hb1.trans (hb2.mono hb1.size)
    go_wp2_with fail
    (with_reducible refine (leaves_any _ _ hdk2).mono ?_); rintro e w3 ⟨v3, l, rfl, hl, hall, hown3, _, hg3⟩
    have hW3 := hW2.trans (below_of_grownBy hg3 hz1 (by omega))
    obtain ⟨hls, hdl⟩ := lsE_z hl hall
    have hS3 : SI w3 v3 l := SI.of_own hown3 fun x hx => dg_r (hall x hx)
    have HD := Lib.hid hdl
    have HA := Lib.hid hall
    clear hall hdl hown3
    obtain ⟨A, c, rfl, hcc, hcm, hr3, ha3⟩ := id hS3
    have HS3 := Lib.hid hS3
    have HC := Lib.hid ha3
    clear hS3 ha3 hr3
    go_wp2_with fail
    (with_reducible refine (proot_any l _ _ HS3.out).mono ?_); rintro e w4 ⟨rfl, hb4⟩
    rw [rtE_z hls, hls]
    have hW4 := hW3.trans (hb4.mono hW3.size)
    have HR := Lib.hid (root_dg HD.out)
    by_cases h0 : l.length = 0
    · have hd0 : ((l.length : Int) == 0) = true := by rw [beq_iff_eq]; omega
      have hl0 : l = [] := List.eq_nil_of_length_eq_zero h0
      have hd1 : (root l != 0) = false := by rw [hl0]; rfl
      clear hl0
      go_wp2_with fail
      refine wp_loop_rounds 1 ?_
      rw [rounds_succ]
      have hlz : ¬ 0 < l.length := by omega
      go_wp2_with fail
      go_ret
      exact ⟨rfl, hW4⟩
    · have hd0 : ((l.length : Int) == 0) = false := by rw [beq_eq_false_iff_ne]; omega
      clear h0
      go_wp2_with fail
      go_loopw [41] (fun i wr => ∃ k : Nat, k ≤ l.length ∧ i = .int .i64 k ∧ Below w3.heap.size w3 wr) (fun i _ => l.length - (intOf i).toNat)
      case atStart => exact ⟨0, Nat.zero_le _, rfl, hb4⟩
      case round =>
        obtain ⟨k, hk, rfl, hbl⟩ := hrel
        have hzq := hbl.size
        have hWq := hW3.trans (hbl.mono hW3.size)
        by_cases hlt : k < l.length
        · obtain ⟨b, off, rfl, hb, hcell⟩ := HC.out (by omega)
          have ck := (hbl.cell (p := ⟨b, off + k, none⟩) hb).trans (hcell k hlt)
          have hb2 : b < wr.heap.size := by omega
          have HPA := IsPath.of (i := k) (show l.length ≤ 1024 by omega) HD.out hlt
          have HPP := Lib.hid HPA
          have hfv := (fd_0 hls hlt).1
          have HFV := Lib.hid hfv
          have hdk := HA.out l[k] (List.getElem_mem hlt)
          have HDK := Lib.hid hdk
          have HDR := Lib.hid (dg_r hdk)
          have HLD := Lib.hid (lead_root hlt)
          clear hcell HPA hfv hdk
          go_wp2_with fail
          (with_reducible refine (pfind_any l _ k _ (SI.below HS3.out hbl) (by unfold i64r; omega)).mono ?_); rintro e w5 ⟨v5, rfl, hS5, hb5⟩
          rw [HFV.out]
          rw [HPP.out.fp] at hS5
          have hz5 := hb5.size
          obtain ⟨A5, c5, rfl, hcc5, hcm5, _, _⟩ := id hS5
          have HS5 := Lib.hid hS5
          clear hS5
          go_wp2_with fail
          have hbA : Below w5.heap.size w5 (w5.alloc (.cells #[.int .i64 k, .int .i64 l.length, .slice A5 (path l k).length c5] 46)) := (Below.refl _ _).alloc (Nat.le_refl _) _
          (with_reducible refine (plen_any _ _ _ (by unfold i64r; omega) (by unfold i64r; omega)).mono ?_); rintro e w' ⟨rfl, rfl⟩
          rw [HPP.out.ln.1, HPP.out.ln.2]
          have hpe : ((path l k).length : Int) = (plen l.length k : Int) := by rw [HPP.out.len]
          have hpn : (((path l k).length : Int) != (plen l.length k : Int)) = false := by rw [hpe]; simp
          clear hpe
          have hSA := SI.below HS5.out hbA
          have HSA := Lib.hid hSA
          clear hSA
          go_wp2_with fail
          (with_reducible refine (pckp_any (l.length : Int) k l[k] (root l) (path l k) _ _ (by unfold i64r; omega) (by unfold i64r; omega) HDR.out (by exact HSA.out) (by have := path_le l k; omega)).mono ?_); rintro e w6 ⟨rfl, hb6⟩
          have hck := ckE_z (C := l.length) (I := k) (rt := root l) (show l.length ≤ 1024 by omega) hlt HPP.out.len HPP.out.dg HDK.out
          rw [HLD.out] at hck
          have hck0 : ckE (l.length : Int) k (path l k) l[k] (root l) = 0 := by simpa using hck
          rw [hck0]
          have q0 : w6.cell? ⟨w5.heap.size, 0, none⟩ = some (.int .i64 k) := own_cell hb6 0
          have q1 : w6.cell? ⟨w5.heap.size, 1, none⟩ = some (.int .i64 l.length) := own_cell hb6 1
          have q2 : w6.cell? ⟨w5.heap.size, 2, none⟩ = some (.slice A5 (path l k).length c5) := own_cell hb6 2
          have hz6 := hb6.size
          simp at hz6
          have hz6' : w5.heap.size < w6.heap.size := by omega
          have hb36 : Below w3.heap.size w3 w6 := (hbl.trans (hb5.mono hzq)).trans ((hbA.mono (by omega)).trans (hb6.mono (by simp; omega)))
          have hbA6 := SI.below HSA.out hb6
          have HSA6 := Lib.hid hbA6
          clear hck hck0 hbA6
          go_wp2_with fail
          (with_reducible refine (mod_any _ _ _ (by omega) (by omega)).mono ?_); rintro e w' ⟨rfl, rfl⟩
          have hm1 : 0 ≤ oth % 2147483647 := by omega
          have hm2 : oth % 2147483647 < 2147483647 := by omega
          go_wp2_with fail
          (with_reducible refine (pckp_any (l.length : Int) k (oth % 2147483647) (root l) (path l k) _ _ (by unfold i64r; omega) (by unfold i64r; omega) (by unfold i64r; omega) (by exact HSA6.out) (by have := path_le l k; omega)).mono ?_); rintro e w7 ⟨rfl, hb7⟩
          have hdo : dg (oth % 2147483647) = true := decide_eq_true ⟨hm1, hm2⟩
          have hck := ckE_z (C := l.length) (I := k) (rt := root l) (d := oth % 2147483647) (show l.length ≤ 1024 by omega) hlt HPP.out.len HPP.out.dg hdo
          have hiff : (lead l.length k (path l k) (oth % 2147483647) = root l) = (l[k] = oth % 2147483647) := by
            rw [← HLD.out]
            exact propext ⟨fun h => (lead_inj _ _ _ _ _ _ (Nat.le_refl _) hdo HDK.out h).symm, fun h => by rw [h]⟩
          have hbr := hb36.trans (hb7.mono (by omega))
          have hckk : (ckE (l.length : Int) k (path l k) (oth % 2147483647) (root l) == 0) = decide (l[k] = oth % 2147483647) := hck.trans (decide_eq_decide.2 (iff_of_eq hiff))
          by_cases e : l[k] = oth % 2147483647
          · have hx1 : (ckE (l.length : Int) k (path l k) (oth % 2147483647) (root l) == 0) = true := by rw [hckk]; simpa using e
            have hx2 : (l[k] == oth % 2147483647) = true := by simpa using e
            clear hckk hck hiff hdo e
            go_wp2_with fail
            go_roundw
            case rel => exact ⟨k + 1, by omega, by go_num, hbr⟩
            case measure => simp [intOf]; omega
          · have hx1 : (ckE (l.length : Int) k (path l k) (oth % 2147483647) (root l) == 0) = false := by rw [hckk]; simpa using e
            have hx2 : (l[k] == oth % 2147483647) = false := by simpa using e
            clear hckk hck hiff hdo e
            go_wp2_with fail
            go_roundw
            case rel => exact ⟨k + 1, by omega, by go_num, hbr⟩
            case measure => simp [intOf]; omega
        · go_wp2_with fail
          go_ret
          exact ⟨rfl, hWq⟩
  · rw [decide_eq_false hf]
    go_wp2_with fail
    go_ret
    exact ⟨rfl, hb1⟩
end Go.Proofs.Ytmglcjdigpgjlaa
