/- Joined: Lb. -/
import Derived.Test.YtbgabipngdillaaZ30
import Derived.Test.YtbgabipngdillaaZ09
namespace Go.Proofs.Ytbgabipngdillaa
open Go.RowKit Go.Shelf

def KnE (P : Int) (l : List (Int × Bool)) (k : Nat) : Prop := ∀ t ∈ kn (l.take k), el P t.2 = true
theorem kn_mem_step {l : List (Int × Bool)} {k : Nat} (h : k < l.length) (t : Int × Int) : t ∈ kn (l.take (k + 1)) ↔ t ∈ kn (l.take k) ∨ (l[k].2 = true ∧ t = ((k : Int) + 1, l[k].1)) := by
  rw [kn_snoc l k h]
  by_cases hb : l[k].2 = true
  · rw [if_pos hb]; simp [hb]
  · rw [if_neg hb]; simp [hb]
theorem KnE.step {P : Int} {l : List (Int × Bool)} {k : Nat} (h : KnE P l k) (hk : k < l.length) (he : l[k].2 = true → el P l[k].1 = true) : KnE P l (k + 1) := fun t ht => by
  rcases (kn_mem_step hk t).1 ht with h1 | ⟨h1, h2⟩
  · exact h t h1
  · rw [h2]; exact he h1
theorem ce_ok {P : Int} {l : List (Int × Bool)} (h : prB P = true) (h2 : ¬ (32 < l.length ∨ P ≤ l.length)) (h3 : KnE P l l.length) : ceE P l = 0 := by
  unfold ceE
  rw [if_neg (by rw [h]; simp), if_neg h2, if_pos]
  rw [List.all_eq_true]
  have := h3
  unfold KnE at this
  rw [List.take_length] at this
  exact this
theorem ce_bad {P : Int} {l : List (Int × Bool)} {k : Nat} (h : prB P = true) (h2 : ¬ (32 < l.length ∨ P ≤ l.length)) (hk : k < l.length) (h3 : l[k].2 = true) (h4 : el P l[k].1 = false) : ceE P l = 9 := by
  unfold ceE
  rw [if_neg (by rw [h]; simp), if_neg h2, if_neg]
  intro ha
  rw [List.all_eq_true] at ha
  have hm : ((k : Int) + 1, l[k].1) ∈ kn l := by
    have h5 := (kn_mem_step hk ((k : Int) + 1, l[k].1)).2 (.inr ⟨h3, rfl⟩)
    rw [kn_pre] at h5
    exact List.mem_of_mem_take h5
  have := ha _ hm
  rw [h4] at this
  cases this

set_option maxRecDepth 100000 in
set_option maxHeartbeats 4000000 in
theorem rcells_any (P : Int) (l : List (Int × Bool)) (v : Value) (w : World) (hP : i64r P) (h : SCl w v l) (hz : l.length ≤ 1000000) :
    Calls Try.prog 39 #[.agg #[.int .i64 P], v] w fun e w' => e = .returned (.int .i64 (ceE P l)) ∧ Below w.heap.size w w' := by
  obtain ⟨A, c, rfl⟩ := h.form
  have HS := Lib.hid h
  clear h
  go_enter Try.func39, Try.ntmps39
  obtain ⟨F, eF⟩ : ∃ F, F = w.heap.size := ⟨_, rfl⟩
  obtain ⟨w1, ew1⟩ : ∃ w1 : World, w1 = w.alloc (.cells #[.int .i64 P] 26) := ⟨_, rfl⟩
  have HWw1 : Hid (w.alloc (.cells #[.int .i64 P] 26) = w1) := ew1.symm
  have HAw1 : Hid (Below w.heap.size w w1) := (show Hid _ from by rw [ew1]; exact (Below.refl _ w).alloc (Nat.le_refl _) _)
  have HF0w1 : Hid (w1.heap[F]? = some (.cells #[.int .i64 P] 26 (0, 0))) := (show Hid _ from by show _ = _; rw [ew1, eF]; exact heap_alloc_new w _)
  have HXC : Hid (∀ W, Below w1.heap.size w1 W → W.cell? ⟨F, 0, none⟩ = some (.int .i64 P)) := (show Hid _ from fun W hg => by
    have hF0 := (hg.block F (heap_of_cells HF0w1.out)).trans HF0w1.out
    exact (cell_of_row W F 0 _ _ _ hF0))
  go_upto_region 1 with fail
  rw [HWw1.out, ← eF]
  clear ew1 eF
  have x0 := HXC.out w1 (Below.refl _ _)
  go_wp2_with fail
  (with_reducible refine (rcheck_any P w1 hP).mono ?_)
  rintro e w2 ⟨rfl, hb2⟩
  have HB2 : Hid (Below w1.heap.size w1 w2) := (show Hid _ from hb2)
  have HBw : Hid (Below w.heap.size w w2) := (show Hid _ from HAw1.out.trans (hb2.mono HAw1.out.size))
  clear hb2 x0
  by_cases hp : prB P = true
  case' neg =>
    have hpf : prB P = false := by simpa using hp
    have HR : Hid (ceE P l = 9) := (show Hid _ from by show _ = _; unfold ceE; rw [if_pos hpf])
    rw [rcE_f hpf]
    go_wp2_with fail
    go_ret
    rw [HR.out]
    exact ⟨rfl, HBw.out⟩
  rw [rcE_t hp]
  have HP := Lib.hid hp
  have hPb := prB_bd hp
  have x2 := HXC.out w2 HB2.out
  clear hp
  by_cases h32 : 32 < l.length
  case' pos =>
    have dz : decide ((32 : Int) < (l.length : Int)) = true := decide_eq_true (by omega)
    have HR : Hid (ceE P l = 4) := (show Hid _ from by show _ = _; unfold ceE; rw [if_neg (by rw [HP.out]; simp), if_pos (.inl h32)])
    go_wp2_with fail
    go_ret
    rw [HR.out]
    exact ⟨rfl, HBw.out⟩
  have dz : decide ((32 : Int) < (l.length : Int)) = false := decide_eq_false (by omega)
  by_cases hPl : P ≤ l.length
  case' pos =>
    have dz2 : decide (P ≤ (l.length : Int)) = true := decide_eq_true hPl
    have HR : Hid (ceE P l = 4) := (show Hid _ from by show _ = _; unfold ceE; rw [if_neg (by rw [HP.out]; simp), if_pos (.inr hPl)])
    go_wp2_with fail
    go_ret
    rw [HR.out]
    exact ⟨rfl, HBw.out⟩
  have dz2 : decide (P ≤ (l.length : Int)) = false := decide_eq_false hPl
  have HN : Hid (¬ (32 < l.length ∨ P ≤ l.length)) := (show Hid _ from by rintro (h | h) <;> omega)
  go_wp2_with fail
  go_loopw [25] (fun iv wr => ∃ k : Nat, k ≤ l.length ∧ iv = .int .i64 k ∧ Below w1.heap.size w1 wr ∧ KnE P l k) (fun iv _ => l.length - (intOf iv).toNat)
  case atStart => exact ⟨0, Nat.zero_le _, rfl, HB2.out, fun t ht => by simp [kn, knF] at ht⟩
  case round =>
    obtain ⟨k, hk, rfl, hbr, hke⟩ := hrel
    have HBR := Lib.hid hbr
    have HKE := Lib.hid hke
    clear hbr hke x2
    by_cases hlk : k < l.length
    · have dk : decide ((k : Int) < (l.length : Int)) = true := decide_eq_true (by omega)
      have dkn : decide (k < l.length) = true := decide_eq_true hlk
      have hsr := HS.out.below (HAw1.out.trans (HBR.out.mono HAw1.out.size))
      obtain ⟨b, off, eA, hbl, hcell⟩ := hsr.at0 (by omega)
      subst eA
      obtain ⟨c0, c1⟩ := hcell k hlk
      clear hcell hsr
      obtain ⟨xv, exv⟩ : ∃ xv, xv = l[k].1 := ⟨_, rfl⟩
      obtain ⟨bv, ebv⟩ : ∃ bv, bv = l[k].2 := ⟨_, rfl⟩
      rw [← exv] at c0
      rw [← ebv] at c1
      have hxr : i64r xv := by rw [exv]; exact HS.out.rng _ (List.getElem_mem hlk)
      have HXV := Lib.hid exv
      have HBV := Lib.hid ebv
      clear exv ebv
      obtain ⟨X, eX⟩ : ∃ X, X = wr.heap.size := ⟨_, rfl⟩
      obtain ⟨wx, ewx⟩ : ∃ wx : World, wx = wr.alloc (.cells #[.int .i64 xv, .bool bv] 33) := ⟨_, rfl⟩
      have HWwx : Hid (wr.alloc (.cells #[.int .i64 xv, .bool bv] 33) = wx) := ewx.symm
      have HAwx : Hid (Below wr.heap.size wr wx) := (show Hid _ from by rw [ewx]; exact (Below.refl _ wr).alloc (Nat.le_refl _) _)
      have HX0wx : Hid (wx.heap[X]? = some (.cells #[.int .i64 xv, .bool bv] 33 (0, 0))) := (show Hid _ from by show _ = _; rw [ewx, eX]; exact heap_alloc_new wr _)
      have HXX : Hid (∀ W, Below wx.heap.size wx W → W.cell? ⟨X, 0, none⟩ = some (.int .i64 xv) ∧ W.cell? ⟨X, 1, none⟩ = some (.bool bv)) := (show Hid _ from fun W hg => by
        have hX0 := (hg.block X (heap_of_cells HX0wx.out)).trans HX0wx.out
        exact ⟨cell_of_row W X 0 _ _ _ hX0, cell_of_row W X 1 _ _ _ hX0⟩)
      have HBX : Hid (Below w1.heap.size w1 wx) := (show Hid _ from HBR.out.trans (HAwx.out.mono HBR.out.size))
      have HLI : Hid (SI (wx.alloc (.cells #[.int .i64 xv] 3)) (.slice (some ⟨wx.heap.size, 0, none⟩) 1 1) [xv]) := (show Hid _ from by
        refine ⟨some ⟨wx.heap.size, 0, none⟩, 1, rfl, Nat.le_refl _, by omega, fun y hy => by simp at hy; subst hy; exact hxr, fun _ => ⟨wx.heap.size, 0, rfl, by simp, fun j hj => ?_⟩⟩
        have hj0 : j = 0 := by simp at hj; omega
        subst hj0
        exact cell_of_row _ _ 0 _ _ (0, 0) (heap_alloc_new wx _))
      go_upto_region 9 with fail
      rw [HWwx.out, ← eX]
      clear ewx eX
      obtain ⟨y0, y1⟩ := HXX.out wx (Below.refl _ _)
      have x3 := HXC.out wx HBX.out
      clear c0 c1
      cases bv
      · go_wp2_with fail
        go_roundw
        case rel => exact ⟨k + 1, by omega, by go_num, HBX.out, HKE.out.step hlk (fun h => by rw [← HBV.out] at h; cases h)⟩
        case measure => simp [intOf]; omega
      · go_wp2_with fail
        (with_reducible refine (rin_any P [xv] _ _ hP HLI.out).mono ?_)
        rintro e w4 ⟨rfl, hb4⟩
        have HB4 : Hid (Below w1.heap.size w1 w4) := (show Hid _ from (HBX.out.alloc HBX.out.size _).trans (hb4.mono (by have := HBX.out.size; simp; omega)))
        have HIN : Hid (inB P [xv] = el P xv) := (show Hid _ from by show _ = _; unfold inB; rw [HP.out]; simp [els])
        clear hb4 y0 y1 x3
        rw [HIN.out]
        by_cases he : el P xv = true
        · rw [he]
          have HE := Lib.hid he
          clear he
          go_wp2_with fail
          go_roundw
          case rel => exact ⟨k + 1, by omega, by go_num, HB4.out, HKE.out.step hlk (fun _ => by rw [← HXV.out]; exact HE.out)⟩
          case measure => simp [intOf]; omega
        · have he2 : el P xv = false := by simpa using he
          rw [he2]
          have HR : Hid (ceE P l = 9) := (show Hid _ from ce_bad HP.out HN.out hlk HBV.out.symm (by rw [← HXV.out]; exact he2))
          clear he he2
          go_wp2_with fail
          go_ret
          rw [HR.out]
          exact ⟨rfl, HAw1.out.trans (HB4.out.mono HAw1.out.size)⟩
    · have dk : decide ((k : Int) < (l.length : Int)) = false := decide_eq_false (by omega)
      have dkn : decide (k < l.length) = false := decide_eq_false hlk
      have hkl : k = l.length := by omega
      have HR : Hid (ceE P l = 0) := (show Hid _ from ce_ok HP.out HN.out (hkl ▸ HKE.out))
      clear hkl
      go_wp2_with fail
      go_ret
      rw [HR.out]
      exact ⟨rfl, HAw1.out.trans (HBR.out.mono HAw1.out.size)⟩
end Go.Proofs.Ytbgabipngdillaa
