/- Everybody in a valid directory is found by its ID, and nobody else; different secrets have different marks of the same numbers. -/
import Derived.Test.YtmglcjdigpgjlaaMarkW
namespace Go.Proofs.Ytmglcjdigpgjlaa
open Go.RowKit Go.Maps

theorem frs_in {ps : List (Int × Int)} (h : Ppl ps) (hl : ps.length ≤ 16) {k : Nat} (hk : k < ps.length) : frs ps ps[k].1 = .tuple #[.agg #[.int .i64 ps[k].1, .int .i64 ps[k].2], .bool true] := by
  unfold frs; rw [Ppl_fnd h hl hk]
theorem frs_out {ps : List (Int × Int)} (h : Ppl ps) (pid : Int) (hp : ¬ (1 ≤ pid ∧ pid ≤ ps.length)) : frs ps pid = .tuple #[.agg #[.int .i64 0, .int .i64 0], .bool false] := by
  unfold frs; rw [Ppl_out h pid hp]
theorem frs_id {ps : List (Int × Int)} (h : Ppl ps) (hl : ps.length ≤ 16) (pid : Int) (hp : 1 ≤ pid ∧ pid ≤ ps.length) : ∃ a b, frs ps pid = .tuple #[.agg #[.int .i64 a, .int .i64 b], .bool true] := by
  obtain ⟨p, e⟩ := Ppl_in h hl pid hp
  exact ⟨p.1, p.2, by unfold frs; rw [e]⟩
theorem sgn_ne {ps : List (Int × Int)} (h : Ppl ps) (hl : ps.length ≤ 16) {j k : Nat} (hj : j < k) (hk : k < ps.length) (n : List Int) (hn : n.length ≤ 16384) : sgn (ps[j]'(by omega)).2 n ≠ sgn ps[k].2 n := by
  have h1 := h.2.1 j (by omega)
  have h2 := h.2.1 k hk
  have h3 := h.2.2 j k hj hk
  rw [sgn_0 (by omega) hn, sgn_0 (by omega) hn]
  intro e
  have := rowd_sec _ _ _ (by omega) (by omega) e
  omega

set_option maxRecDepth 100000 in
set_option maxHeartbeats 4000000 in
theorem mfinds_walk (t l : List Int) (vt vl : Value) (pid : Int) (w : World) (ht : SI w vt t) (hl : SI w vl l) (_hpid : i64r pid) :
    Calls Try.prog 5 #[vt, .int .i64 pid, vl] w fun e w' => e = .returned (.bool true) ∧ Below w.heap.size w w' := by
  go_enter Try.func5, Try.ntmps5
  go_wp2_with fail
  (with_reducible refine (msane_any _).mono ?_); rintro e w1 ⟨rfl, hb1⟩
  have ht1 := SI.below ht hb1
  have hl1 := SI.below hl hb1
  have hz1 := hb1.size
  go_wp2_with fail
  (with_reducible refine (few_any t vt _ ht1).mono ?_); rintro e w' ⟨rfl, rfl⟩
  by_cases hf : t.length ≤ 500
  · rw [decide_eq_true hf]
    obtain ⟨Al, cl, rfl, hcl, hml, hrl, hal⟩ := id hl1
    have HL := Lib.hid hl
    clear hal hrl hl1 hl
    by_cases hlen : 1000 < l.length
    · go_wp2_with fail
      go_ret
      exact ⟨rfl, hb1⟩
    · go_wp2_with fail
      (with_reducible refine (new_any t vt _ ht1).mono ?_); rintro e w2 ⟨rfl, hdk2, hb2, hz2⟩
      have hW2 := hb1.trans (hb2.mono hb1.size)
      go_wp2_with fail
      (with_reducible refine (next_any 9 _ _ hdk2 (by unfold i64r; omega) (by omega)).mono ?_); rintro e w3 ⟨x, rfl, _, hx, hdk3, hg3⟩
      have hx' := hx (by omega)
      clear hx
      obtain ⟨n, rfl⟩ : ∃ n : Nat, x = n := ⟨x.toNat, by omega⟩
      have hgw : w.heap.size ≤ w1.heap.size := hz1
      have hW3 := hW2.trans (below_of_grownBy hg3 hgw (by omega))
      go_wp2_with fail
      (with_reducible refine (people_any n _ _ hdk3 (by omega)).mono ?_); rintro e w4 ⟨v4, ps, rfl, hlen4, hP, hown4, hdk4, hg4⟩
      rw [← hlen4] at hown4
      have hz3 := hg3.size
      have hz4 := hg4.size
      have hW4 := hW3.trans (below_of_grownBy hg4 hgw (by omega))
      have hn5 : ps.length ≤ 8 := by omega
      clear hlen4
      have hSP4 := SP_of_ppl hP hown4 (by omega)
      go_wp2_with fail
      (with_reducible refine (mcheck_any ps _ _ hSP4).mono ?_); rintro e w5 ⟨rfl, hb5⟩
      rw [Ppl_chk hP (by omega)]
      have hW5 := hW4.trans (hb5.mono hW4.size)
      have hSP5 := hSP4.below hb5
      have hz5 := hb5.size
      obtain ⟨A4, c4, rfl, hcc4, hcm4, _, ha4⟩ := id hSP5
      have HA4 := Lib.hid ha4
      have HSP := Lib.hid hSP5
      have HP := Lib.hid hP
      clear ha4 hSP5 hP hSP4 hown4
      go_wp2_with fail
      go_loopw [42] (fun i wr => ∃ k : Nat, k ≤ ps.length ∧ i = .int .i64 k ∧ Below w5.heap.size w5 wr) (fun i _ => ps.length - (intOf i).toNat)
      case atStart => exact ⟨0, Nat.zero_le _, rfl, Below.refl _ _⟩
      case round =>
        obtain ⟨wq, rfl⟩ : ∃ wq : World, wq = wr := ⟨_, rfl⟩
        obtain ⟨k, hk, rfl, hbl⟩ := hrel
        have hzq := hbl.size
        have hWq := hW5.trans (hbl.mono hW5.size)
        have hSPq := HSP.out.below (hbl.mono hz5)
        have hlq := SI.below HL.out hWq
        by_cases hlt : k < ps.length
        · obtain ⟨b, off, rfl, hb, hcell⟩ := HA4.out (by omega)
          have c0 : wq.cell? ⟨b, off + k * 2, none⟩ = some (.int .i64 ps[k].1) := (hbl.cell (p := ⟨b, _, none⟩) (by show b < _; omega)).trans (hcell k hlt 0 (by omega))
          have c1 : wq.cell? ⟨b, off + k * 2 + 1, none⟩ = some (.int .i64 ps[k].2) := (hbl.cell (p := ⟨b, _, none⟩) (by show b < _; omega)).trans (hcell k hlt 1 (by omega))
          have hb2 : b < wq.heap.size := by omega
          have HK := Lib.hid hcell
          have hsec := HP.out.2.1 k hlt
          clear hcell
          go_wp2_with fail
          have hbA : Below wq.heap.size wq (wq.alloc (.cells #[.int .i64 ps[k].1, .int .i64 ps[k].2] 31)) := (Below.refl _ _).alloc (Nat.le_refl _) _
          (with_reducible refine (mfind_any ps _ ps[k].1 _ ((hSPq.below (hbA.mono (by omega))).more (by simp; omega))).mono ?_); rintro e w6 ⟨rfl, hb6⟩
          rw [frs_in HP.out (by omega) hlt]
          have p0 : w6.cell? ⟨wq.heap.size, 0, none⟩ = some (.int .i64 ps[k].1) := own_cell hb6 0
          have p1 : w6.cell? ⟨wq.heap.size, 1, none⟩ = some (.int .i64 ps[k].2) := own_cell hb6 1
          have hz6 := hb6.size
          simp at hz6
          have hz6' : wq.heap.size < w6.heap.size := by omega
          have hbq6 : Below wq.heap.size wq w6 := hbA.trans (hb6.mono (by simp))
          go_wp2_with fail
          have hbB : Below w6.heap.size w6 (w6.alloc (.cells #[.int .i64 ps[k].1, .int .i64 ps[k].2] 31)) := (Below.refl _ _).alloc (Nat.le_refl _) _
          have hW6 := hWq.trans (hbq6.mono hWq.size)
          have hW7 := hW6.trans (hbB.mono hW6.size)
          (with_reducible refine (msign_any ps[k].2 l _ _ (SI.below HL.out hW7) (by unfold i64r; omega)).mono ?_); rintro e w7 ⟨rfl, hb7⟩
          rw [sgnE_0 (by omega) (by omega)]
          have q0 : w7.cell? ⟨w6.heap.size, 0, none⟩ = some (.int .i64 ps[k].1) := own_cell hb7 0
          have q1 : w7.cell? ⟨w6.heap.size, 1, none⟩ = some (.int .i64 ps[k].2) := own_cell hb7 1
          have hz7 := hb7.size
          simp at hz7
          have hz7' : w6.heap.size < w7.heap.size := by omega
          have hb67 : Below w6.heap.size w6 w7 := hbB.trans (hb7.mono (by simp))
          have p0 := (hb67.cell (p := ⟨wq.heap.size, 0, none⟩) (by show wq.heap.size < _; omega)).trans p0
          have p1 := (hb67.cell (p := ⟨wq.heap.size, 1, none⟩) (by show wq.heap.size < _; omega)).trans p1
          have hbq7 : Below wq.heap.size wq w7 := hbq6.trans (hb67.mono (by omega))
          have hW8 := hW6.trans (hb67.mono hW6.size)
          have hSP8 := hSPq.below (hbq7.mono (by omega))
          go_wp2_with fail
          clear p0 p1 q0 q1
          have hb57 : Below w5.heap.size w5 w7 := hbl.trans (hbq7.mono hzq)
          go_loopw [76] (fun i wr => ∃ j : Nat, j ≤ k ∧ i = .int .i64 j ∧ Below w5.heap.size w5 wr) (fun i _ => k - (intOf i).toNat)
          case atStart => exact ⟨0, Nat.zero_le _, rfl, hb57⟩
          case round =>
            obtain ⟨j, hj, rfl, hbi⟩ := hrel
            have hzi := hbi.size
            have hWi := hW5.trans (hbi.mono hW5.size)
            by_cases hjk : j < k
            · have d0 : wr.cell? ⟨b, off + j * 2, none⟩ = some (.int .i64 (ps[j]'(by omega)).1) := (hbi.cell (p := ⟨b, _, none⟩) (by show b < _; omega)).trans (HK.out j (by omega) 0 (by omega))
              have d1 : wr.cell? ⟨b, off + j * 2 + 1, none⟩ = some (.int .i64 (ps[j]'(by omega)).2) := (hbi.cell (p := ⟨b, _, none⟩) (by show b < _; omega)).trans (HK.out j (by omega) 1 (by omega))
              have hb3 : b < wr.heap.size := by omega
              have hsj := HP.out.2.1 j (by omega)
              have hne := sgn_ne HP.out (by omega) hjk hlt l (by omega)
              have hd : (sgn (ps[j]'(by omega)).2 l == sgn ps[k].2 l) = false := by rw [beq_eq_false_iff_ne]; exact hne
              clear hne
              have hbC : Below wr.heap.size wr (wr.alloc (.cells #[.int .i64 (ps[j]'(by omega)).1, .int .i64 (ps[j]'(by omega)).2] 31)) := (Below.refl _ _).alloc (Nat.le_refl _) _
              have hWi2 := hWi.trans (hbC.mono hWi.size)
              go_wp2_with fail
              (with_reducible refine (msign_any (ps[j]'(by omega)).2 l _ _ (SI.below HL.out hWi2) (by unfold i64r; omega)).mono ?_); rintro e w8 ⟨rfl, hb8⟩
              rw [sgnE_0 (by omega) (by omega)]
              go_wp2_with fail
              go_roundw
              case rel => exact ⟨j + 1, by omega, by go_num, hbi.trans ((hbC.trans (hb8.mono (by simp))).mono (by omega))⟩
              case measure => simp [intOf]; omega
            · go_wp2_with fail
              go_roundw
              case rel => exact ⟨k + 1, by omega, by go_num, hbi⟩
              case measure => simp [intOf]; omega
        · obtain rfl : k = ps.length := by omega
          go_wp2_with fail
          (with_reducible refine (mfind_any ps _ pid _ (hSPq.more (by omega))).mono ?_); rintro e w6 ⟨rfl, hb6⟩
          have hWe := hWq.trans (hb6.mono hWq.size)
          by_cases hin : 1 ≤ pid ∧ pid ≤ ps.length
          · obtain ⟨a, b, e⟩ := frs_id HP.out (by omega) pid hin
            rw [e]
            obtain ⟨h1, h2⟩ := hin
            clear e
            go_wp2_with fail
            go_ret
            exact ⟨rfl, hWe.alloc hWe.size _⟩
          · rw [frs_out HP.out pid hin]
            by_cases h1 : 1 ≤ pid
            · have h2 : decide (pid ≤ (ps.length : Int)) = false := by simp; omega
              clear hin
              go_wp2_with fail
              go_ret
              exact ⟨rfl, hWe.alloc hWe.size _⟩
            · go_wp2_with fail
              go_ret
              exact ⟨rfl, hWe.alloc hWe.size _⟩
  · rw [decide_eq_false hf]
    go_wp2_with fail
    go_ret
    exact ⟨rfl, hb1⟩
end Go.Proofs.Ytmglcjdigpgjlaa
