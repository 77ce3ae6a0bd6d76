/- What Check of the packages mark and privatefetchref22 returns. -/
import Derived.Test.YtmglcjdigpgjlaaMarkP
import Derived.Test.YtmglcjdigpgjlaaMap
import Derived.Test.YtmglcjdigpgjlaaPeople
namespace Go.Proofs.Ytmglcjdigpgjlaa
open Go.RowKit Go.Maps

theorem within_t (n : Int) (w : World) (h : wi n = true) :
    Calls Try.prog 41 #[.int .i64 n] w fun e w' => e = .returned (.bool true) ∧ w = w' := by
  obtain ⟨h1, h2⟩ := wi_t h
  clear h
  go_enter Try.func41, Try.ntmps41
  go_wp2
  go_ret
  exact ⟨rfl, rfl⟩
theorem within_f (n : Int) (w : World) (h : wi n = false) :
    Calls Try.prog 41 #[.int .i64 n] w fun e w' => e = .returned (.bool false) ∧ w = w' := by
  have h1 := wi_f h
  clear h
  by_cases h2 : 1 ≤ n
  · have h3 : 2147483647 ≤ n := by omega
    go_enter Try.func41, Try.ntmps41
    go_wp2
    go_ret
    exact ⟨ret_bool (by simp; omega), rfl⟩
  · go_enter Try.func41, Try.ntmps41
    go_wp2
    go_ret
    exact ⟨rfl, rfl⟩
theorem number_t (n : Int) (w : World) (h : wi n = true) :
    Calls Try.prog 42 #[.int .i64 n] w fun e w' => e = .returned (.bool true) ∧ w = w' := by
  obtain ⟨h1, h2⟩ := wi_t h
  clear h
  go_enter Try.func42, Try.ntmps42
  go_wp2
  go_ret
  exact ⟨rfl, rfl⟩
theorem number_f (n : Int) (w : World) (h : wi n = false) :
    Calls Try.prog 42 #[.int .i64 n] w fun e w' => e = .returned (.bool false) ∧ w = w' := by
  have h1 := wi_f h
  clear h
  by_cases h2 : 1 ≤ n
  · have h3 : 2147483647 ≤ n := by omega
    go_enter Try.func42, Try.ntmps42
    go_wp2
    go_ret
    exact ⟨ret_bool (by simp; omega), rfl⟩
  · go_enter Try.func42, Try.ntmps42
    go_wp2
    go_ret
    exact ⟨rfl, rfl⟩

theorem zeroB (w : World) : (zeroValue 4).run Try.prog w = .ok (.bool false) w := by kernel_rfl
def secs (l : List (Int × Int)) (k : Nat) : List Int := ((l.take k).map (·.2)).reverse
theorem take_snd (l : List (Int × Int)) (k : Nat) (h : k < l.length) : secs l (k + 1) = l[k].2 :: (secs l k) := by
  unfold secs
  rw [List.take_succ_eq_append_getElem h, List.map_append, List.reverse_append]
  rfl
set_option maxHeartbeats 1000000 in
theorem mcheck_any (l : List (Int × Int)) (v : Value) (w : World) (h : SP w.heap.size w v l) :
    Calls Try.prog 17 #[v] w fun e w' => e = .returned (.int .i64 (chk l)) ∧ Below w.heap.size w w' := by
  obtain ⟨A, c, rfl, hc, hm, hr, ha⟩ := h
  by_cases hlen : 16 < l.length
  · have HC := Lib.hid (show chk l = 4 by unfold chk; rw [if_pos hlen])
    go_enter Try.func17, Try.ntmps17
    go_wp2
    go_ret
    exact ⟨ret_int HC.out.symm, Below.refl _ _⟩
  · have HC := Lib.hid (show chk l = fst (bad l) 0 (l.length - 0) by unfold chk; rw [if_neg hlen]; rfl)
    have hmf : ∀ W : World, (Instr.makeMap 67 none).run Try.prog W = .ok (.map (some W.heap.size)) (W.alloc (.map #[] 0)) := fun W => run_makeMap _ W
    go_enter Try.func17, Try.ntmps17
    go_wp2
    go_loopw [12] (fun i wr => ∃ k : Nat, k ≤ l.length ∧ i = .int .i64 k ∧ fst (bad l) k (l.length - k) = fst (bad l) 0 (l.length - 0) ∧ BM Try.prog 3 4 wr w.heap.size k (secs l k) ∧ Below w.heap.size w wr) (fun i _ => l.length - (intOf i).toNat)
    case atStart => exact ⟨0, Nat.zero_le _, rfl, rfl, BM.made _ _ _ _, (Below.refl _ _).alloc (Nat.le_refl _) _⟩
    case round =>
      obtain ⟨k, hk, rfl, hf, hbm, hbl⟩ := hrel
      have hcw := hbm.lt
      by_cases hlt : k < l.length
      · obtain ⟨b, off, rfl, hb, hcell⟩ := ha (by omega)
        have c0 : wr.cell? ⟨b, off + k * 2, none⟩ = some (.int .i64 l[k].1) := (hbl.cell hb).trans (hcell k hlt 0 (by omega))
        have c1 : wr.cell? ⟨b, off + k * 2 + 1, none⟩ = some (.int .i64 l[k].2) := (hbl.cell hb).trans (hcell k hlt 1 (by omega))
        have hb2 : b < wr.heap.size := by have := hbl.size; omega
        have HF := Lib.hid hf
        have HK := Lib.hid hcell
        have r1 : i64r l[k].1 := hr _ (List.getElem_mem hlt) _ (by simp [pcs])
        have r2 : i64r l[k].2 := hr _ (List.getElem_mem hlt) _ (by simp [pcs])
        clear hcell ha hr hf
        have hbl' : ∀ o n, Below w.heap.size w ((wr.alloc o).drewN n) := fun o n => Below.drewN (hbl.alloc hbl.size o) n
        by_cases h1 : wi l[k].1 = true
        · by_cases h2 : wi l[k].2 = true
          · by_cases h0 : 0 < k
            · have hc2 := HK.out (k - 1) (by omega) 0 (by omega)
              have d0 : wr.cell? ⟨b, off + (k - 1) * 2, none⟩ = some (.int .i64 (l[k - 1]'(by omega)).1) := (hbl.cell hb).trans hc2
              clear hc2
              have hsub : IntKind.i64.wrap ((k : Int) - 1) = (k : Int) - 1 := IntWalk.i64_in _ (by omega)
              have hsub0 : 0 ≤ (k : Int) - 1 := by omega
              have hsubn : ((k : Int) - 1).toNat = k - 1 := by omega
              by_cases h5 : l[k].1 ≤ (l[k - 1]'(by omega)).1
              · have hbad := Lib.hid ((fst_hit (bad l) _ _ hlt (by rw [bad_5 hlt h1 h2 h0 h5]; decide)).trans (bad_5 hlt h1 h2 h0 h5))
                go_wp2_with (first | ((with_reducible refine (within_t _ _ h1).mono ?_); rintro e w' ⟨rfl, rfl⟩) | ((with_reducible refine (within_t _ _ h2).mono ?_); rintro e w' ⟨rfl, rfl⟩))
                go_quiet (fail)
                go_wp2
                go_ret
                exact ⟨ret_int (by rw [HC.out, ← HF.out, hbad.out]), hbl' _ _⟩
              · have h5' : ¬ (0 < k ∧ l[k].1 ≤ (l[k - 1]?.getD (0, 0)).1) := by rw [List.getElem?_eq_getElem (by omega)]; simp; omega
                have H5 := Lib.hid h5'
                clear h5'
                by_cases h7 : has (secs l k) l[k].2 = true
                · have hbad := Lib.hid ((fst_hit (bad l) _ _ hlt (by rw [bad_7 hlt h1 h2 H5.out (by simpa [has, secs] using h7)]; decide)).trans (bad_7 hlt h1 h2 H5.out (by simpa [has, secs] using h7)))
                  go_wp2_with (first | ((with_reducible refine (within_t _ _ h1).mono ?_); rintro e w' ⟨rfl, rfl⟩) | ((with_reducible refine (within_t _ _ h2).mono ?_); rintro e w' ⟨rfl, rfl⟩))
                  go_quiet (fail)
                  go_wp2_with (first | (at_lookup; refine wpList_lookup_BM _ rfl _ _ 67 rfl 3 4 Try.underlying67 Try.underlying3 Try.underlying4 (zeroB _) w.heap.size k _ rfl (by exact ((hbm.alloc _).drewN _)) _ rfl r2 ?_))
                  go_ret
                  exact ⟨ret_int (by rw [HC.out, ← HF.out, hbad.out]), hbl' _ _⟩
                · have h7f : has (secs l k) l[k].2 = false := by simpa using h7
                  have hgo := Lib.hid (fst_go (bad l) _ _ hlt (bad_0 hlt h1 h2 H5.out (by simpa [has, secs] using h7f)))
                  go_wp2_with (first | ((with_reducible refine (within_t _ _ h1).mono ?_); rintro e w' ⟨rfl, rfl⟩) | ((with_reducible refine (within_t _ _ h2).mono ?_); rintro e w' ⟨rfl, rfl⟩))
                  go_quiet (fail)
                  go_wp2_with (first | (at_lookup; refine wpList_lookup_BM _ rfl _ _ 67 rfl 3 4 Try.underlying67 Try.underlying3 Try.underlying4 (zeroB _) w.heap.size k _ rfl (by exact ((hbm.alloc _).drewN _)) _ rfl r2 ?_) | (at_mapUpdate; refine wpList_update_BM _ rfl _ _ _ 67 rfl 3 4 Try.underlying67 Try.underlying3 Try.underlying4 w.heap.size k _ rfl (by exact ((hbm.alloc _).drewN _)) (by unfold maxLen; omega) _ rfl r2 rfl ?_; intro w3 hbm3 hg3))
                  go_roundw
                  case rel => exact ⟨k + 1, by omega, by go_num, by rw [← hgo.out]; exact HF.out, by rw [take_snd l k hlt]; exact hbm3, (hbl' _ _).grown hg3 (by simp; omega) (by simp)⟩
                  case measure => simp [intOf]; omega
            · have h5' : ¬ (0 < k ∧ l[k].1 ≤ (l[k - 1]?.getD (0, 0)).1) := by omega
              have H5 := Lib.hid h5'
              clear h5'
              by_cases h7 : has (secs l k) l[k].2 = true
              · have hbad := Lib.hid ((fst_hit (bad l) _ _ hlt (by rw [bad_7 hlt h1 h2 H5.out (by simpa [has, secs] using h7)]; decide)).trans (bad_7 hlt h1 h2 H5.out (by simpa [has, secs] using h7)))
                go_wp2_with (first | ((with_reducible refine (within_t _ _ h1).mono ?_); rintro e w' ⟨rfl, rfl⟩) | ((with_reducible refine (within_t _ _ h2).mono ?_); rintro e w' ⟨rfl, rfl⟩))
                go_quiet (fail)
                go_wp2_with (first | (at_lookup; refine wpList_lookup_BM _ rfl _ _ 67 rfl 3 4 Try.underlying67 Try.underlying3 Try.underlying4 (zeroB _) w.heap.size k _ rfl (by exact ((hbm.alloc _).drewN _)) _ rfl r2 ?_))
                go_ret
                exact ⟨ret_int (by rw [HC.out, ← HF.out, hbad.out]), hbl' _ _⟩
              · have h7f : has (secs l k) l[k].2 = false := by simpa using h7
                have hgo := Lib.hid (fst_go (bad l) _ _ hlt (bad_0 hlt h1 h2 H5.out (by simpa [has, secs] using h7f)))
                go_wp2_with (first | ((with_reducible refine (within_t _ _ h1).mono ?_); rintro e w' ⟨rfl, rfl⟩) | ((with_reducible refine (within_t _ _ h2).mono ?_); rintro e w' ⟨rfl, rfl⟩))
                go_quiet (fail)
                go_wp2_with (first | (at_lookup; refine wpList_lookup_BM _ rfl _ _ 67 rfl 3 4 Try.underlying67 Try.underlying3 Try.underlying4 (zeroB _) w.heap.size k _ rfl (by exact ((hbm.alloc _).drewN _)) _ rfl r2 ?_) | (at_mapUpdate; refine wpList_update_BM _ rfl _ _ _ 67 rfl 3 4 Try.underlying67 Try.underlying3 Try.underlying4 w.heap.size k _ rfl (by exact ((hbm.alloc _).drewN _)) (by unfold maxLen; omega) _ rfl r2 rfl ?_; intro w3 hbm3 hg3))
                go_roundw
                case rel => exact ⟨k + 1, by omega, by go_num, by rw [← hgo.out]; exact HF.out, by rw [take_snd l k hlt]; exact hbm3, (hbl' _ _).grown hg3 (by simp; omega) (by simp)⟩
                case measure => simp [intOf]; omega
          · have h2f : wi l[k].2 = false := by simpa using h2
            have hbad := Lib.hid ((fst_hit (bad l) _ _ hlt (by rw [bad_1' hlt h2f]; decide)).trans (bad_1' hlt h2f))
            go_wp2_with (first | ((with_reducible refine (within_t _ _ h1).mono ?_); rintro e w' ⟨rfl, rfl⟩) | ((with_reducible refine (within_f _ _ h2f).mono ?_); rintro e w' ⟨rfl, rfl⟩))
            go_ret
            exact ⟨ret_int (by rw [HC.out, ← HF.out, hbad.out]), hbl.alloc hbl.size _⟩
        · have h1f : wi l[k].1 = false := by simpa using h1
          have hbad := Lib.hid ((fst_hit (bad l) _ _ hlt (by rw [bad_1 hlt h1f]; decide)).trans (bad_1 hlt h1f))
          go_wp2_with ((with_reducible refine (within_f _ _ h1f).mono ?_); rintro e w' ⟨rfl, rfl⟩)
          go_ret
          exact ⟨ret_int (by rw [HC.out, ← HF.out, hbad.out]), hbl.alloc hbl.size _⟩
      · have HF := Lib.hid hf
        clear hf
        obtain rfl : k = l.length := by omega
        go_wp2
        go_ret
        exact ⟨ret_int (by rw [HC.out, ← HF.out]; simp [fst]), hbl⟩

set_option maxHeartbeats 1000000 in
theorem rcheck_any (l : List (Int × Int)) (v : Value) (w : World) (h : SP w.heap.size w v l) :
    Calls Try.prog 18 #[v] w fun e w' => e = .returned (.int .i64 (chk l)) ∧ Below w.heap.size w w' := by
  obtain ⟨A, c, rfl, hc, hm, hr, ha⟩ := h
  by_cases hlen : 16 < l.length
  · have HC := Lib.hid (show chk l = 4 by unfold chk; rw [if_pos hlen])
    go_enter Try.func18, Try.ntmps18
    go_wp2
    go_ret
    exact ⟨ret_int HC.out.symm, Below.refl _ _⟩
  · have HC := Lib.hid (show chk l = fst (bad l) 0 (l.length - 0) by unfold chk; rw [if_neg hlen]; rfl)
    go_enter Try.func18, Try.ntmps18
    go_wp2
    go_loopw [12] (fun i wr => ∃ k : Nat, k ≤ l.length ∧ i = .int .i64 k ∧ fst (bad l) k (l.length - k) = fst (bad l) 0 (l.length - 0) ∧ Below w.heap.size w wr) (fun i _ => l.length - (intOf i).toNat)
    case atStart => exact ⟨0, Nat.zero_le _, rfl, rfl, Below.refl _ _⟩
    case round =>
      obtain ⟨wq, rfl⟩ : ∃ wq : World, wq = wr := ⟨_, rfl⟩
      obtain ⟨k, hk, rfl, hf, hbl⟩ := hrel
      by_cases hlt : k < l.length
      · obtain ⟨b, off, rfl, hb, hcell⟩ := ha (by omega)
        have c0 : wq.cell? ⟨b, off + k * 2, none⟩ = some (.int .i64 l[k].1) := (hbl.cell hb).trans (hcell k hlt 0 (by omega))
        have c1 : wq.cell? ⟨b, off + k * 2 + 1, none⟩ = some (.int .i64 l[k].2) := (hbl.cell hb).trans (hcell k hlt 1 (by omega))
        have hb2 : b < wq.heap.size := by have := hbl.size; omega
        have HF := Lib.hid hf
        have HK := Lib.hid hcell
        clear hcell ha hr hf
        have hbl' : ∀ o n, Below w.heap.size w ((wq.alloc o).drewN n) := fun o n => Below.drewN (hbl.alloc hbl.size o) n
        by_cases h1 : wi l[k].1 = true
        · by_cases h2 : wi l[k].2 = true
          · by_cases h0 : 0 < k
            · have hc2 := HK.out (k - 1) (by omega) 0 (by omega)
              have d0 : wq.cell? ⟨b, off + (k - 1) * 2, none⟩ = some (.int .i64 (l[k - 1]'(by omega)).1) := (hbl.cell hb).trans hc2
              clear hc2
              have hsub : IntKind.i64.wrap ((k : Int) - 1) = (k : Int) - 1 := IntWalk.i64_in _ (by omega)
              have hsub0 : 0 ≤ (k : Int) - 1 := by omega
              have hsubn : ((k : Int) - 1).toNat = k - 1 := by omega
              by_cases h5 : l[k].1 ≤ (l[k - 1]'(by omega)).1
              · have hbad := Lib.hid ((fst_hit (bad l) _ _ hlt (by rw [bad_5 hlt h1 h2 h0 h5]; decide)).trans (bad_5 hlt h1 h2 h0 h5))
                go_wp2_with (first | ((with_reducible refine (number_t _ _ h1).mono ?_); rintro e w' ⟨rfl, rfl⟩) | ((with_reducible refine (number_t _ _ h2).mono ?_); rintro e w' ⟨rfl, rfl⟩))
                go_quiet (fail)
                go_wp2
                go_ret
                exact ⟨ret_int (by rw [HC.out, ← HF.out, hbad.out]), hbl' _ _⟩
              · have h5' : ¬ (0 < k ∧ l[k].1 ≤ (l[k - 1]?.getD (0, 0)).1) := by rw [List.getElem?_eq_getElem (by omega)]; simp; omega
                have H5 := Lib.hid h5'
                clear h5'
                go_wp2_with (first | ((with_reducible refine (number_t _ _ h1).mono ?_); rintro e w' ⟨rfl, rfl⟩) | ((with_reducible refine (number_t _ _ h2).mono ?_); rintro e w' ⟨rfl, rfl⟩))
                go_quiet (fail)
                go_wp2
                clear d0
                obtain ⟨wo, ewo⟩ : ∃ wo : World, wo = (wq.alloc (.cells #[.int .i64 l[k].1, .int .i64 l[k].2] 31)).drewN nq := ⟨_, rfl⟩
                have hwb : Below w.heap.size w wo := by rw [ewo]; exact hbl' _ _
                have hps : wo.heap.size = wq.heap.size + 1 := by rw [ewo]; simp
                have hp2 : wo.cell? ⟨wq.heap.size, 1, none⟩ = some (.int .i64 l[k].2) := by rw [ewo]; exact cell_of_row (wq.alloc (.cells #[.int .i64 l[k].1, .int .i64 l[k].2] 31)) _ 1 _ _ (0, 0) (heap_alloc_new _ _)
                have HP := Lib.hid hps
                clear hps
                rw [← ewo]
                clear ewo
                go_loopw [44] (fun i w2 => ∃ j : Nat, j ≤ k ∧ i = .int .i64 j ∧ (∀ q, q < j → ((l[q]?).getD (0, 0)).2 ≠ l[k].2) ∧ Below wo.heap.size wo w2) (fun i _ => k - (intOf i).toNat)
                case atStart => exact ⟨0, Nat.zero_le _, rfl, fun q hq => absurd hq (by omega), Below.refl _ _⟩
                case round =>
                  obtain ⟨j, hj, rfl, hno, hb2'⟩ := hrel
                  have HN := Lib.hid hno
                  clear hno
                  have hp3 := (hb2'.cell (p := ⟨wq.heap.size, 1, none⟩) (by rw [HP.out]; exact Nat.lt_succ_self _)).trans hp2
                  have hz3 : wq.heap.size < wr.heap.size := by have := hb2'.size; have := HP.out; omega
                  have hbl2 : Below w.heap.size w wr := hwb.trans (hb2'.mono (by have := hwb.size; omega))
                  by_cases hjk : j < k
                  · have e0 : wr.cell? ⟨b, off + j * 2, none⟩ = some (.int .i64 (l[j]'(by omega)).1) := (hbl2.cell hb).trans (HK.out j (by omega) 0 (by omega))
                    have e1 : wr.cell? ⟨b, off + j * 2 + 1, none⟩ = some (.int .i64 (l[j]'(by omega)).2) := (hbl2.cell hb).trans (HK.out j (by omega) 1 (by omega))
                    have hz4 : b < wr.heap.size := by have := hbl2.size; omega
                    by_cases h7 : (l[j]'(by omega)).2 = l[k].2
                    · have hin : ((l.take k).map (·.2)).contains l[k].2 = true := by
                        simp only [List.contains_iff_mem, List.mem_map]
                        exact ⟨(l[j]'(by omega)), List.mem_take_iff_getElem.2 ⟨j, by omega, rfl⟩, h7⟩
                      have hbad := Lib.hid ((fst_hit (bad l) _ _ hlt (by rw [bad_7 hlt h1 h2 H5.out hin]; decide)).trans (bad_7 hlt h1 h2 H5.out hin))
                      have h7' : ((l[j]'(by omega)).2 == l[k].2) = true := by simpa using h7
                      clear hin h7
                      go_wp2
                      go_ret
                      exact ⟨ret_int (by rw [HC.out, ← HF.out, hbad.out]), hbl2.alloc hbl2.size _⟩
                    · have h7' : ((l[j]'(by omega)).2 == l[k].2) = false := by simpa using h7
                      have HS : Hid (∀ q, q < j + 1 → ((l[q]?).getD (0, 0)).2 ≠ l[k].2) := by
                        intro q hq
                        by_cases hqj : q = j
                        · subst hqj; rw [List.getElem?_eq_getElem (by omega)]; exact h7
                        · exact HN.out q (by omega)
                      clear h7
                      go_wp2
                      go_roundw
                      case rel => exact ⟨j + 1, by omega, by go_num, HS.out, hb2'.alloc hb2'.size _⟩
                      case measure => simp [intOf]; omega
                  · have HS : Hid (((l.take k).map (·.2)).contains l[k].2 = false) := by
                      show ((l.take k).map (·.2)).contains l[k].2 = false
                      simp only [List.contains_eq_mem, decide_eq_false_iff_not, List.mem_map, not_exists, not_and]
                      intro x hx
                      obtain ⟨q, hq, rfl⟩ := List.mem_take_iff_getElem.1 hx
                      have := HN.out q (by omega)
                      rw [List.getElem?_eq_getElem (by omega)] at this
                      exact this
                    have hgo := Lib.hid (fst_go (bad l) _ _ hlt (bad_0 hlt h1 h2 H5.out HS.out))
                    go_wp2
                    go_roundw
                    case rel => exact ⟨k + 1, by omega, by go_num, by rw [← hgo.out]; exact HF.out, hbl2⟩
                    case measure => simp [intOf]; omega
            · have h5' : ¬ (0 < k ∧ l[k].1 ≤ (l[k - 1]?.getD (0, 0)).1) := by omega
              have H5 := Lib.hid h5'
              clear h5'
              go_wp2_with (first | ((with_reducible refine (number_t _ _ h1).mono ?_); rintro e w' ⟨rfl, rfl⟩) | ((with_reducible refine (number_t _ _ h2).mono ?_); rintro e w' ⟨rfl, rfl⟩))
              go_quiet (fail)
              go_wp2
              obtain ⟨wo, ewo⟩ : ∃ wo : World, wo = (wq.alloc (.cells #[.int .i64 l[k].1, .int .i64 l[k].2] 31)).drewN nq := ⟨_, rfl⟩
              have hwb : Below w.heap.size w wo := by rw [ewo]; exact hbl' _ _
              have hps : wo.heap.size = wq.heap.size + 1 := by rw [ewo]; simp
              have hp2 : wo.cell? ⟨wq.heap.size, 1, none⟩ = some (.int .i64 l[k].2) := by rw [ewo]; exact cell_of_row (wq.alloc (.cells #[.int .i64 l[k].1, .int .i64 l[k].2] 31)) _ 1 _ _ (0, 0) (heap_alloc_new _ _)
              have HP := Lib.hid hps
              clear hps
              rw [← ewo]
              clear ewo
              go_loopw [44] (fun i w2 => ∃ j : Nat, j ≤ k ∧ i = .int .i64 j ∧ (∀ q, q < j → ((l[q]?).getD (0, 0)).2 ≠ l[k].2) ∧ Below wo.heap.size wo w2) (fun i _ => k - (intOf i).toNat)
              case atStart => exact ⟨0, Nat.zero_le _, rfl, fun q hq => absurd hq (by omega), Below.refl _ _⟩
              case round =>
                obtain ⟨j, hj, rfl, hno, hb2'⟩ := hrel
                have HN := Lib.hid hno
                clear hno
                have hp3 := (hb2'.cell (p := ⟨wq.heap.size, 1, none⟩) (by rw [HP.out]; exact Nat.lt_succ_self _)).trans hp2
                have hz3 : wq.heap.size < wr.heap.size := by have := hb2'.size; have := HP.out; omega
                have hbl2 : Below w.heap.size w wr := hwb.trans (hb2'.mono (by have := hwb.size; omega))
                by_cases hjk : j < k
                · exact absurd hjk (by omega)
                · have HS : Hid (((l.take k).map (·.2)).contains l[k].2 = false) := by
                    show ((l.take k).map (·.2)).contains l[k].2 = false
                    simp only [List.contains_eq_mem, decide_eq_false_iff_not, List.mem_map, not_exists, not_and]
                    intro x hx
                    obtain ⟨q, hq, rfl⟩ := List.mem_take_iff_getElem.1 hx
                    have := HN.out q (by omega)
                    rw [List.getElem?_eq_getElem (by omega)] at this
                    exact this
                  have hgo := Lib.hid (fst_go (bad l) _ _ hlt (bad_0 hlt h1 h2 H5.out HS.out))
                  go_wp2
                  go_roundw
                  case rel => exact ⟨k + 1, by omega, by go_num, by rw [← hgo.out]; exact HF.out, hbl2⟩
                  case measure => simp [intOf]; omega
          · have h2f : wi l[k].2 = false := by simpa using h2
            have hbad := Lib.hid ((fst_hit (bad l) _ _ hlt (by rw [bad_1' hlt h2f]; decide)).trans (bad_1' hlt h2f))
            go_wp2_with (first | ((with_reducible refine (number_t _ _ h1).mono ?_); rintro e w' ⟨rfl, rfl⟩) | ((with_reducible refine (number_f _ _ h2f).mono ?_); rintro e w' ⟨rfl, rfl⟩))
            go_ret
            exact ⟨ret_int (by rw [HC.out, ← HF.out, hbad.out]), hbl.alloc hbl.size _⟩
        · have h1f : wi l[k].1 = false := by simpa using h1
          have hbad := Lib.hid ((fst_hit (bad l) _ _ hlt (by rw [bad_1 hlt h1f]; decide)).trans (bad_1 hlt h1f))
          go_wp2_with ((with_reducible refine (number_f _ _ h1f).mono ?_); rintro e w' ⟨rfl, rfl⟩)
          go_ret
          exact ⟨ret_int (by rw [HC.out, ← HF.out, hbad.out]), hbl.alloc hbl.size _⟩
      · have HF := Lib.hid hf
        clear hf
        obtain rfl : k = l.length := by omega
        go_wp2
        go_ret
        exact ⟨ret_int (by rw [HC.out, ← HF.out]; simp [fst]), hbl⟩
end Go.Proofs.Ytmglcjdigpgjlaa
