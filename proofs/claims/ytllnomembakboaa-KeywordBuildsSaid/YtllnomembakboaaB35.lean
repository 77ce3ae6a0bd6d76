/- Joined: On. -/
import Derived.Test.YtllnomembakboaaB13
namespace Go.Proofs.Ytllnomembakboaa
open Go.RowKit

set_option maxRecDepth 100000 in
set_option maxHeartbeats 8000000 in
theorem rbucket_any (l : List (ByteArray × Int)) (v : Value) (w : World) (h : SV ecs 2 w.heap.size w v l) (hk : ∀ e ∈ l, e.1.size ≤ 9223372036854775807) :
    Calls Try.prog 58 #[v] w fun e w' => e = .returned (.bool (ascB l)) ∧ Below w.heap.size w w' := by
  obtain ⟨A, c, rfl⟩ := h.form
  have HS := Lib.hid h
  have HK := Lib.hid hk
  have hll : l.length ≤ 9223372036854775807 := by obtain ⟨_, _, _, h1, h2, _⟩ := h; omega
  clear h hk
  go_enter Try.func58, Try.ntmps58
  go_wp2_with fail
  go_loopw [7] (fun iv wr => ∃ i : Nat, i ≤ l.length ∧ iv = .int .i64 i ∧ Below w.heap.size w wr ∧ ascB (l.take i) = true) (fun iv _ => l.length - (intOf iv).toNat)
  case atStart => exact ⟨0, Nat.zero_le _, rfl, Below.refl _ _, rfl⟩
  case round =>
    obtain ⟨i, hi, rfl, hb, has⟩ := hrel
    have HB := Lib.hid hb
    have HAS := Lib.hid has
    have hz := hb.size
    clear hb has
    by_cases hlt : i < l.length
    · have HSr : Hid (SV ecs 2 wr.heap.size wr (.slice A l.length c) l) := (show Hid _ from (HS.out.below HB.out).more hz)
      obtain ⟨_, hat⟩ := HSr.out.at
      obtain ⟨b, off, rfl, hbl, hcell⟩ := hat i hlt
      obtain ⟨key, ekey⟩ : ∃ key, key = l[i].1 := ⟨_, rfl⟩
      obtain ⟨x, ex⟩ : ∃ x, x = l[i].2 := ⟨_, rfl⟩
      have c0 : wr.cell? ⟨b, off + i * 2, none⟩ = some (.string key) := by rw [ekey]; exact hcell wr (Below.refl _ _) 0 (by omega)
      have c1 : wr.cell? ⟨b, off + i * 2 + 1, none⟩ = some (.int .i64 x) := by rw [ex]; exact hcell wr (Below.refl _ _) 1 (by omega)
      have hei : l[i] = (key, x) := by rw [ekey, ex]
      have HEI := Lib.hid hei
      have hks : key.size ≤ 9223372036854775807 := by rw [ekey]; exact HK.out _ (List.getElem_mem hlt)
      have HPRE : Hid (0 < i → ∃ key2 x2, l[i - 1]'(by omega) = (key2, x2) ∧ ∀ W, Below wr.heap.size wr W → W.cell? ⟨b, off + (i - 1) * 2, none⟩ = some (.string key2) ∧ W.cell? ⟨b, off + (i - 1) * 2 + 1, none⟩ = some (.int .i64 x2)) := (show Hid _ from fun h0 => by
        obtain ⟨b', off', e, _, hcell2⟩ := hat (i - 1) (by omega)
        injection e with e
        injection e with e1 e2
        subst e1 e2
        exact ⟨_, _, rfl, fun W hW => ⟨hcell2 W hW 0 (by omega), hcell2 W hW 1 (by omega)⟩⟩)
      have wi : IntKind.i64.wrap ((i : Int) + 1) = (i : Int) + 1 := by exact IntWalk.i64_in _ (by omega)
      have zi0 : 0 ≤ (i : Int) := by omega
      clear hat hcell ekey ex hei
      obtain ⟨X, eX⟩ : ∃ X, X = wr.heap.size := ⟨_, rfl⟩
      obtain ⟨wx, ewx⟩ : ∃ wx : World, wx = wr.alloc (.cells #[.string key, .int .i64 x] 41) := ⟨_, rfl⟩
      have HWwx : Hid (wr.alloc (.cells #[.string key, .int .i64 x] 41) = wx) := ewx.symm
      have HAwx : Hid (Below wr.heap.size wr wx) := (show Hid _ from by rw [ewx]; exact (Below.refl _ wr).alloc (Nat.le_refl _) _)
      have HX0wx : Hid (wx.heap[X]? = some (.cells #[.string key, .int .i64 x] 41 (0, 0))) := (show Hid _ from by show _ = _; rw [ewx, eX]; exact heap_alloc_new wr _)
      have HX : Hid (∀ W, Below wx.heap.size wx W → W.cell? ⟨X, 0, none⟩ = some (.string key) ∧ W.cell? ⟨X, 1, none⟩ = some (.int .i64 x)) := (show Hid _ from fun W hg => by
        have hX0 := (hg.block X (heap_of_cells HX0wx.out)).trans HX0wx.out
        exact ⟨cell_of_row W X 0 _ _ _ hX0, cell_of_row W X 1 _ _ _ hX0⟩)
      go_upto_region 4 with fail
      rw [HWwx.out, ← eX]
      clear ewx eX
      obtain ⟨k0, k1⟩ := HX.out wx (Below.refl _ _)
      clear c0 c1
      have q0 : ∀ p : BW wx, p.on.cell? ⟨X, 0, none⟩ = some (.string key) := fun p => (HX.out p.on p.ok).1
      have q1 : ∀ p : BW wx, p.on.cell? ⟨X, 1, none⟩ = some (.int .i64 x) := fun p => (HX.out p.on p.ok).2
      clear k0 k1
      cases hv : ven (key, x)
      · have HV := Lib.hid hv
        have HVC : Hid (∀ W, Calls Try.prog 43 #[.agg #[.string key, .int .i64 x]] W fun e w' => e = .returned (.bool false) ∧ Below W.heap.size W w') := (show Hid _ from fun W => by have h := rvalid_any key x W hks; rwa [hv] at h)
        clear hv
        refine wp_region_bw (by kernel_rfl) (by kernel_rfl) ?_
        repeat (go_big_quiet_step (first | (go_at_call 43; exact Calls.bw_of (HVC.out _))))
        refine wpQuiet_nil ?_
        intro _ hw'
        obtain ⟨pq, rfl⟩ := hw'
        obtain ⟨wy, HBwy, hpq⟩ : ∃ (x : World) (_ : Hid (Below wx.heap.size wx x)), pq.on = x := ⟨_, pq.h, rfl⟩
        rw [hpq]
        clear hpq pq
        go_wp2_with fail
        refine bodyPost_ret (v := .bool false) (by simp [results, Try.results58, go_sem]) rfl ?_
        exact ⟨by rw [ascB_val hlt (by rw [HEI.out]; exact HV.out)], HB.out.trans ((HAwx.out.trans (HBwy.out.mono HAwx.out.size)).mono hz)⟩
      · have HV := Lib.hid hv
        have HVC : Hid (∀ W, Calls Try.prog 43 #[.agg #[.string key, .int .i64 x]] W fun e w' => e = .returned (.bool true) ∧ Below W.heap.size W w') := (show Hid _ from fun W => by have h := rvalid_any key x W hks; rwa [hv] at h)
        clear hv
        by_cases h0 : 0 < i
        · obtain ⟨key2, x2, hpe, hpc⟩ := HPRE.out h0
          have HPE := Lib.hid hpe
          have HPC : Hid (∀ W, Below wx.heap.size wx W → W.cell? ⟨b, off + (i - 1) * 2, none⟩ = some (.string key2) ∧ W.cell? ⟨b, off + (i - 1) * 2 + 1, none⟩ = some (.int .i64 x2)) := (show Hid _ from fun W hW => hpc W (HAwx.out.trans (hW.mono HAwx.out.size)))
          have q2 : ∀ p : BW wx, p.on.cell? ⟨b, off + (i - 1) * 2, none⟩ = some (.string key2) := fun p => (HPC.out p.on p.ok).1
          have q3 : ∀ p : BW wx, p.on.cell? ⟨b, off + (i - 1) * 2 + 1, none⟩ = some (.int .i64 x2) := fun p => (HPC.out p.on p.ok).2
          have d0 : decide (0 < (i : Int)) = true := decide_eq_true (by omega)
          have d0n : decide (0 < i) = true := decide_eq_true h0
          have y0 : 0 ≤ (i : Int) - 1 := by omega
          have y1 : (i : Int) - 1 < (l.length : Int) := by omega
          have y2 : IntKind.i64.wrap ((i : Int) - 1) = (i : Int) - 1 := by exact IntWalk.i64_in _ (by omega)
          have y3 : ((i : Int) - 1).toNat = i - 1 := by omega
          have HPE2 : Hid (l[i - 1].1 = key2 ∧ l[i].1 = key) := (show Hid _ from ⟨by rw [HPE.out], by rw [HEI.out]⟩)
          clear hpe hpc
          cases hkk : klt key2 key
          · have HKK := Lib.hid hkk
            cases hkl : klt key key2
            · have heq : key = key2 := by
                by_cases e : key = key2
                · exact e
                · rcases klt_total e with h1 | h1
                  · rw [hkl] at h1; cases h1
                  · rw [hkk] at h1; cases h1
              have d1 : Op.bytesLess key.toList key2.toList = false := hkl
              have d2 : (key.toList == key2.toList) = true := by rw [heq]; exact beq_self_eq_true _
              clear hkk hkl heq
              refine wp_region_bw (by kernel_rfl) (by kernel_rfl) ?_
              repeat (go_big_quiet_step (first | (go_at_call 43; exact Calls.bw_of (HVC.out _))))
              refine wpQuiet_nil ?_
              intro _ hw'
              obtain ⟨pq, rfl⟩ := hw'
              obtain ⟨wy, HBwy, hpq⟩ : ∃ (x : World) (_ : Hid (Below wx.heap.size wx x)), pq.on = x := ⟨_, pq.h, rfl⟩
              rw [hpq]
              clear hpq pq
              go_wp2_with fail
              refine bodyPost_ret (v := .bool false) (by simp [results, Try.results58, go_sem]) rfl ?_
              exact ⟨by rw [ascB_lt hlt h0 (by rw [HPE2.out.1, HPE2.out.2]; exact HKK.out)], HB.out.trans ((HAwx.out.trans (HBwy.out.mono HAwx.out.size)).mono hz)⟩
            · have d1 : Op.bytesLess key.toList key2.toList = true := hkl
              clear hkk hkl
              refine wp_region_bw (by kernel_rfl) (by kernel_rfl) ?_
              repeat (go_big_quiet_step (first | (go_at_call 43; exact Calls.bw_of (HVC.out _))))
              refine wpQuiet_nil ?_
              intro _ hw'
              obtain ⟨pq, rfl⟩ := hw'
              obtain ⟨wy, HBwy, hpq⟩ : ∃ (x : World) (_ : Hid (Below wx.heap.size wx x)), pq.on = x := ⟨_, pq.h, rfl⟩
              rw [hpq]
              clear hpq pq
              go_wp2_with fail
              refine bodyPost_ret (v := .bool false) (by simp [results, Try.results58, go_sem]) rfl ?_
              exact ⟨by rw [ascB_lt hlt h0 (by rw [HPE2.out.1, HPE2.out.2]; exact HKK.out)], HB.out.trans ((HAwx.out.trans (HBwy.out.mono HAwx.out.size)).mono hz)⟩
          · have HKK := Lib.hid hkk
            have d1 : Op.bytesLess key.toList key2.toList = false := klt_asymm hkk
            have d2 : (key.toList == key2.toList) = false := by
              rw [beq_eq_false_iff_ne]
              intro e
              obtain rfl := tl_inj e
              rw [klt_irrefl] at hkk
              cases hkk
            clear hkk
            refine wp_region_bw (by kernel_rfl) (by kernel_rfl) ?_
            repeat (go_big_quiet_step (first | (go_at_call 43; exact Calls.bw_of (HVC.out _))))
            refine wpQuiet_nil ?_
            intro _ hw'
            obtain ⟨pq, rfl⟩ := hw'
            obtain ⟨wy, HBwy, hpq⟩ : ∃ (x : World) (_ : Hid (Below wx.heap.size wx x)), pq.on = x := ⟨_, pq.h, rfl⟩
            rw [hpq]
            clear hpq pq
            go_wp2_with fail
            go_roundw
            case rel => exact ⟨i + 1, hlt, by go_num, HB.out.trans ((HAwx.out.trans (HBwy.out.mono HAwx.out.size)).mono hz), ascB_step HAS.out hlt (by rw [HEI.out]; exact HV.out) (fun _ => by rw [HPE2.out.1, HPE2.out.2]; exact HKK.out)⟩
            case measure => simp [intOf]; omega
        · have d0 : decide (0 < (i : Int)) = false := decide_eq_false (by omega)
          have d0n : decide (0 < i) = false := decide_eq_false h0
          refine wp_region_bw (by kernel_rfl) (by kernel_rfl) ?_
          repeat (go_big_quiet_step (first | (go_at_call 43; exact Calls.bw_of (HVC.out _))))
          refine wpQuiet_nil ?_
          intro _ hw'
          obtain ⟨pq, rfl⟩ := hw'
          obtain ⟨wy, HBwy, hpq⟩ : ∃ (x : World) (_ : Hid (Below wx.heap.size wx x)), pq.on = x := ⟨_, pq.h, rfl⟩
          rw [hpq]
          clear hpq pq
          go_wp2_with fail
          go_roundw
          case rel => exact ⟨i + 1, hlt, by go_num, HB.out.trans ((HAwx.out.trans (HBwy.out.mono HAwx.out.size)).mono hz), ascB_step HAS.out hlt (by rw [HEI.out]; exact HV.out) (fun h => absurd h h0)⟩
          case measure => simp [intOf]; omega
    · have hie : i = l.length := by omega
      go_wp2_with fail
      refine bodyPost_ret (v := .bool true) (by simp [results, Try.results58, go_sem]) rfl ?_
      have h := HAS.out
      rw [hie, List.take_length] at h
      exact ⟨by rw [h], HB.out⟩
end Go.Proofs.Ytllnomembakboaa
