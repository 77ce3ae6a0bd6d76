/- Joined: Az Dr Ds. -/
import Derived.Lib.AppendZerosOnto
import Derived.Lib.SliceRun
import Derived.Deep.RegionHeld3
import Derived.Deep.RegionWith
import Derived.Deep.Cut
import Derived.Test.YtoiabanpnkpbhaaGreatDoorY02
import Derived.Test.YtoiabanpnkpbhaaGreatDoorY01
namespace Go.Proofs.YtoiabanpnkpbhaaGreatDoor
open Go.RowKit

end Go.Proofs.YtoiabanpnkpbhaaGreatDoor

namespace Go.Proofs.YtoiabanpnkpbhaaGreatDoor
open Go.RowKit

theorem own_sl {w : World} {base e size n : Nat} {v : Value} {xs : List Value} (h : w.ownsRow base e size v n xs) : ∃ A c, v = .slice A n c := by
  rcases h.2 with ⟨rfl, rfl⟩ | ⟨g, cap, cur, rfl, _⟩
  · exact ⟨_, _, rfl⟩
  · exact ⟨_, _, rfl⟩
theorem SI.form' {w : World} {v : Value} {l : List Int} (h : SI w v l) : ∃ A c, v = .slice A l.length c := by
  obtain ⟨A, c, rfl, _⟩ := h
  exact ⟨A, c, rfl⟩
/-- the first error of c draws below n, from a place on -/
def drE (l : List Int) (n : Int) : Nat → Nat → Int
  | _, 0 => 0
  | i, c + 1 => if i < l.length then (if gd l i < 0 ∨ n ≤ gd l i then 8 else drE l n (i + 1) c) else 3
theorem drE_of {l : List Int} {n : Int} : ∀ {c i : Nat}, (∀ j, j < c → i + j < l.length ∧ 0 ≤ gd l (i + j) ∧ gd l (i + j) < n) → drE l n i c = 0 := by
  intro c
  induction c with
  | zero => intro i _; rfl
  | succ c ih =>
    intro i h
    have h0 := h 0 (by omega)
    simp only [Nat.add_zero] at h0
    unfold drE
    rw [if_pos h0.1, if_neg (by omega)]
    exact ih fun j hj => by have := h (j + 1) (by omega); rwa [show i + (j + 1) = i + 1 + j by omega] at this
/-- the next number -/
def nxE (l : List Int) (n : Int) (i : Nat) : Int := if i < l.length then (if gd l i < 0 ∨ n ≤ gd l i then 8 else 0) else 3
def nxV (l : List Int) (n : Int) (i : Nat) : Int := if nxE l n i = 0 then gd l i else 0
def nxA (l : List Int) (n : Int) (i : Nat) : Int := if nxE l n i = 0 then (i : Int) + 1 else i
theorem nx_er {l : List Int} {n : Int} {i : Nat} {e : Int} (h : nxE l n i = e) (he : e ≠ 0) : nxE l n i = e ∧ nxV l n i = 0 ∧ nxA l n i = i := by
  refine ⟨h, ?_, ?_⟩
  · unfold nxV; rw [if_neg (by omega)]
  · unfold nxA; rw [if_neg (by omega)]
theorem nx_ok {l : List Int} {n : Int} {i : Nat} (h : nxE l n i = 0) : nxE l n i = 0 ∧ nxV l n i = gd l i ∧ nxA l n i = (i : Int) + 1 := by
  refine ⟨h, ?_, ?_⟩
  · unfold nxV; rw [if_pos h]
  · unfold nxA; rw [if_pos h]

set_option maxRecDepth 100000 in
set_option maxHeartbeats 4000000 in
theorem tnext_any (l : List Int) (i : Nat) (n : Int) (b : Nat) (vn vd : Value) (w : World) (hl : SI w vn l) (hi : i ≤ l.length) (hlm : l.length ≤ 1000000) (hb : w.heap[b]? = some (.cells #[vn, .int .i64 i, vd] 125 (0, 0))) :
    Calls Tryz.prog 99 #[.pointer (some ⟨b, 0, none⟩), .int .i64 n] w fun e w' => e = .returned (.tuple #[.int .i64 (nxV l n i), .int .i64 (nxE l n i)]) ∧ w.grownBy w' (some b) ∧ w'.heap.size = w.heap.size ∧
      w'.heap[b]? = some (.cells #[vn, .int .i64 (nxA l n i), vd] 125 (0, 0)) := by
  have HL := Lib.hid hl
  have HB := Lib.hid hb
  obtain ⟨A, c, rfl⟩ := hl.form'
  have c0 : w.cell? ⟨b, 0, none⟩ = some (.slice A l.length c) := cell_of_row w b 0 _ _ _ hb
  have c1 : w.cell? ⟨b, 1, none⟩ = some (.int .i64 i) := cell_of_row w b 1 _ _ _ hb
  have f1 : w.frozen? ⟨b, 1, none⟩ = false := frozen_of_row w b 1 _ _ hb
  clear hl hb
  go_enter Tryz.func99, Tryz.ntmps99
  by_cases h3 : i < l.length
  · have hd : ((i : Int) == (l.length : Int)) = false := by rw [beq_eq_false_iff_ne]; omega
    have hd' : decide ((i : Int) = (l.length : Int)) = false := decide_eq_false (by omega)
    obtain ⟨a, off, hA, _, hcell⟩ := SB.cells HL.out (by omega)
    subst hA
    have hck := hcell i h3
    have HG : Hid (gd l i = l[i]) := gd_lt h3
    have hi1 : (i : Int) < (l.length : Int) := by omega
    clear hcell
    go_wp2_with fail
    go_quiet (fail)
    obtain ⟨q0, hq0⟩ : ∃ q0, nq = q0 := ⟨_, rfl⟩
    rw [hq0]
    clear hq0
    obtain ⟨w0, ew0⟩ : ∃ w0 : World, w0 = w.drewN q0 := ⟨_, rfl⟩
    have HW0 : Hid (w0 = w.drewN q0) := ew0
    have b0 : w0.cell? ⟨b, 0, none⟩ = some (.slice (some ⟨a, off, none⟩) l.length c) := by rw [ew0]; exact c0
    have b1 : w0.cell? ⟨b, 1, none⟩ = some (.int .i64 i) := by rw [ew0]; exact c1
    have bk : w0.cell? ⟨a, off + i, none⟩ = some (.int .i64 l[i]) := by rw [ew0]; exact hck
    rw [← ew0]
    clear ew0
    go_wp2_with fail
    go_quiet (fail)
    obtain ⟨m, hm⟩ : ∃ m, w0.drewN nq = w.drewN m := ⟨q0 + nq, by rw [HW0.out, World.drewN_drewN]⟩
    rw [hm]
    clear hm b0 b1 bk
    obtain ⟨w1, ew1⟩ : ∃ w1 : World, w1 = w.drewN m := ⟨_, rfl⟩
    have HW1 : Hid (w1 = w.drewN m) := ew1
    have d0 : w1.cell? ⟨b, 0, none⟩ = some (.slice (some ⟨a, off, none⟩) l.length c) := by rw [ew1]; exact c0
    have d1 : w1.cell? ⟨b, 1, none⟩ = some (.int .i64 i) := by rw [ew1]; exact c1
    have dk : w1.cell? ⟨a, off + i, none⟩ = some (.int .i64 l[i]) := by rw [ew1]; exact hck
    have df : w1.frozen? ⟨b, 1, none⟩ = false := by rw [ew1]; exact f1
    rw [← ew1]
    clear ew1 c0 c1 hck f1
    have HX : Hid (nxE l n i = if l[i] < 0 ∨ n ≤ l[i] then 8 else 0) := by show _ = _; unfold nxE; rw [if_pos h3, HG.out]
    by_cases hx : l[i] < 0 ∨ n ≤ l[i]
    · have HE : Hid (nxE l n i = 8 ∧ nxV l n i = 0 ∧ nxA l n i = i) := nx_er (by rw [HX.out, if_pos hx]) (by omega)
      by_cases h0 : l[i] < 0
      · have hz : decide (l[i] < 0) = true := decide_eq_true h0
        clear hx
        go_wp2_with fail
        refine bodyPost_ret (v := .tuple #[.int .i64 0, .int .i64 8]) (by simp [results, Tryz.results99, go_sem]) rfl ⟨?_, ?_, ?_, ?_⟩
        · rw [HE.out.1, HE.out.2.1]
        · rw [HW1.out]; exact grownBy_drewN (grownBy_refl w _) m
        · rw [HW1.out]; rfl
        · rw [HE.out.2.2, HW1.out]; exact HB.out
      · have hz : decide (l[i] < 0) = false := decide_eq_false h0
        have hz2 : decide (n ≤ l[i]) = true := decide_eq_true (by omega)
        clear hx
        go_wp2_with fail
        refine bodyPost_ret (v := .tuple #[.int .i64 0, .int .i64 8]) (by simp [results, Tryz.results99, go_sem]) rfl ⟨?_, ?_, ?_, ?_⟩
        · rw [HE.out.1, HE.out.2.1]
        · rw [HW1.out]; exact grownBy_drewN (grownBy_refl w _) m
        · rw [HW1.out]; rfl
        · rw [HE.out.2.2, HW1.out]; exact HB.out
    · have HE : Hid (nxE l n i = 0 ∧ nxV l n i = gd l i ∧ nxA l n i = (i : Int) + 1) := nx_ok (by rw [HX.out, if_neg hx])
      have hz : decide (l[i] < 0) = false := decide_eq_false (by omega)
      have hz2 : decide (n ≤ l[i]) = false := decide_eq_false (by omega)
      clear hx
      go_wp2_with fail
      refine bodyPost_ret (v := .tuple #[.int .i64 l[i], .int .i64 0]) (by simp [results, Tryz.results99, go_sem]) rfl ⟨?_, ?_, ?_, ?_⟩
      · rw [HE.out.1, HE.out.2.1, HG.out]
      · rw [HW1.out]; exact grownBy_setCell (grownBy_drewN (grownBy_refl w _) m) (.inl rfl) _
      · rw [HW1.out]; simp [World.setCell, World.drewN]
      · rw [HE.out.2.2]
        have := heap_setCell_same w1 b 1 _ _ (.int .i64 ((i : Int) + 1)) (by rw [HW1.out]; exact HB.out)
        simpa using this
  · obtain rfl : i = l.length := by omega
    have HE : Hid (nxE l n l.length = 3 ∧ nxV l n l.length = 0 ∧ nxA l n l.length = l.length) := nx_er (by unfold nxE; rw [if_neg (by omega)]) (by omega)
    go_wp2_with fail
    go_quiet (fail)
    go_wp2_with fail
    refine bodyPost_ret (v := .tuple #[.int .i64 0, .int .i64 3]) (by simp [results, Tryz.results99, go_sem]) rfl ⟨?_, grownBy_drewN (grownBy_refl w _) nq, rfl, ?_⟩
    · rw [HE.out.1, HE.out.2.1]
    · rw [HE.out.2.2]; exact HB.out
theorem own_set3 {w : World} {base e size n : Nat} {v : Value} {xs : List Value} {p : Addr} (h : w.ownsRow base e size v n xs) (hp : p.block < base) (u : Value) : (w.setCell p u).ownsRow base e size v n xs := by
  refine ⟨h.1, ?_⟩
  rcases h.2 with hn | ⟨g, cap, cur, rfl, hb, hgg, rest⟩
  · exact .inl hn
  · exact .inr ⟨g, cap, cur, rfl, hb, (heap_setCell_other w p g u (by omega)).trans hgg, rest⟩
/-- in the middle of the draws -/
def DrR (l : List Int) (n : Int) (i0 c b : Nat) (vn : Value) (w : World) (i : Value) (wr : World) : Prop :=
  ∃ (k : Nat) (vd : Value), k ≤ c ∧ i0 + k ≤ l.length ∧ i = .int .i64 k ∧ wr.heap[b]? = some (.cells #[vn, .int .i64 ((i0 + k : Nat) : Int), vd] 125 (0, 0)) ∧ wr.ownsRow w.heap.size 3 1 vd ((l.drop i0).take k).length (((l.drop i0).take k).map (Value.int .i64)) ∧ w.grownBy wr (some b) ∧ drE l n i0 c = drE l n (i0 + k) (c - k)
theorem drE_step {l : List Int} {n : Int} {i0 c k : Nat} (hk : k < c) : drE l n (i0 + k) (c - k) = if nxE l n (i0 + k) = 0 then drE l n (i0 + (k + 1)) (c - (k + 1)) else nxE l n (i0 + k) := by
  obtain ⟨m, hm⟩ : ∃ m, c - k = m + 1 := ⟨c - k - 1, by omega⟩
  rw [hm, show c - (k + 1) = m by omega]
  unfold nxE
  conv => lhs; unfold drE
  by_cases h : i0 + k < l.length
  · rw [if_pos h, if_pos h]
    by_cases h2 : gd l (i0 + k) < 0 ∨ n ≤ gd l (i0 + k)
    · rw [if_pos h2, if_pos h2, if_neg (by omega)]
    · rw [if_neg h2, if_neg h2, if_pos rfl]; rfl
  · rw [if_neg h, if_neg h, if_neg (by omega)]
theorem nx_lt {l : List Int} {n : Int} {i : Nat} (h : nxE l n i = 0) : i < l.length := by
  unfold nxE at h
  split at h
  · assumption
  · omega
set_option maxRecDepth 100000 in
set_option maxHeartbeats 4000000 in
theorem draw_any (l : List Int) (i0 : Nat) (n : Int) (c : Nat) (b : Nat) (vn : Value) (w : World) (hl : SB b w vn l) (hi : i0 ≤ l.length) (hlm : l.length ≤ 1000000) (hc : (c : Int) ≤ 9223372036854775807) (hb : w.heap[b]? = some (.cells #[vn, .int .i64 i0, .slice none 0 0] 125 (0, 0))) :
    Calls Tryz.prog 79 #[.pointer (some ⟨b, 0, none⟩), .int .i64 n, .int .i64 c] w fun e w' => e = .returned (.int .i64 (drE l n i0 c)) ∧ w.grownBy w' (some b) ∧
      (drE l n i0 c = 0 → ∃ vd, w'.heap[b]? = some (.cells #[vn, .int .i64 ((i0 + c : Nat) : Int), vd] 125 (0, 0)) ∧ w'.ownsRow w.heap.size 3 1 vd ((l.drop i0).take c).length (((l.drop i0).take c).map (Value.int .i64))) := by
  have HL := Lib.hid hl
  have HB := Lib.hid hb
  have hbw : b < w.heap.size := heap_of_cells hb
  clear hl hb
  go_enter Tryz.func79, Tryz.ntmps79
  go_wp2_with fail
  go_loopw [7] (fun i wr => DrR l n i0 c b vn w i wr) (fun i _ => c - (intOf i).toNat)
  case atStart => exact ⟨0, .slice none 0 0, Nat.zero_le _, hi, rfl, HB.out, by simpa using World.ownsRow_nil w w.heap.size 3 1, grownBy_refl w _, rfl⟩
  case round =>
    obtain ⟨k, vd, hk, hik, rfl, hbr, hown, hgr, hdr⟩ := hrel
    have HG := Lib.hid hgr
    have HBR := Lib.hid hbr
    have HO := Lib.hid hown
    have HD := Lib.hid hdr
    have hzr := hgr.size
    clear hgr hbr hown hdr
    by_cases hlt : k < c
    · have HST := Lib.hid (HD.out.trans (drE_step (l := l) (n := n) (i0 := i0) hlt))
      have hd1 : decide ((k : Int) < (c : Int)) = true := decide_eq_true (by omega)
      have HLr : Hid (SB b wr vn l) := HL.out.keep fun p hp => World.cell?_of_block (HG.out.block p.block (by omega) (by simp; omega))
      go_wp2_with fail
      (with_reducible refine (tnext_any l (i0 + k) n b vn vd _ (HLr.out.si (by omega)) hik hlm HBR.out).mono ?_)
      rintro e w2 ⟨rfl, hg2, hz2, hb2⟩
      have HG2 : Hid (w.grownBy w2 (some b)) := grownBy_trans HG.out hg2
      have HO2 := Lib.hid (HO.out.kept hg2 (.inr fun e => by have := (HO.out.lt b e).1; omega))
      have hzw : w.heap.size ≤ w2.heap.size := by omega
      by_cases hx : nxE l n (i0 + k) = 0
      · have HX := Lib.hid (nx_ok hx)
        have hlk := nx_lt hx
        rw [HX.out.1, HX.out.2.1]
        rw [HX.out.2.2] at hb2
        have HS2 : Hid (drE l n i0 c = drE l n (i0 + (k + 1)) (c - (k + 1))) := by have h := HST.out; rw [if_pos hx] at h; exact h
        have HB2 := Lib.hid hb2
        obtain ⟨Ad, cd, rfl⟩ := own_sl HO.out
        have HTK : Hid ((l.drop i0).take (k + 1) = (l.drop i0).take k ++ [gd l (i0 + k)]) := by
          show _ = _
          rw [List.take_succ_eq_append_getElem (by simp; omega), gd_lt hlk]
          simp
        have hlen : ((l.drop i0).take k).length = k := by simp; omega
        obtain ⟨D, hD⟩ : ∃ D, (l.drop i0).take k = D := ⟨_, rfl⟩
        rw [hD] at HO2 HB2 HTK hlen
        have HLE := Lib.hid hlen
        obtain ⟨y, hy⟩ : ∃ y, gd l (i0 + k) = y := ⟨_, rfl⟩
        rw [hy] at HTK ⊢
        have c2 : w2.cell? ⟨b, 2, none⟩ = some (.slice Ad D.length cd) := cell_of_row w2 b 2 _ _ _ HB2.out
        have HF2 : Hid (∀ (o : Obj) (w3 : World), (w2.alloc o).grownBy w3 (Value.slice Ad D.length cd).ownBlock → w3.heap[b]? = w2.heap[b]?) := fun o w3 hg => (hg.block b (by have := heap_of_cells HB2.out; simp; omega) (fun e => by have := (HO2.out.lt b e.symm).1; omega)).trans (Below.heap_alloc _ _ _ (heap_of_cells HB2.out))
        have hDl : D.length ≤ 1000000 := by omega
        have HOB : Hid (∀ k, (Value.slice Ad D.length cd).ownBlock = some k → w.heap.size ≤ k) := fun k hk => (HO2.out.lt k hk).1
        clear hx hb2 hg2 hz2 hlen hD hy
        go_wp2_with (at_builtin; refine wpList_append_int1 _ rfl (.tmp 30) (.tmp 32) 22 rfl w.heap.size 3 Tryz.underlying22 iinfo _ D rfl HO2.out y rfl (by omega) hzw ?_; intro v3 w3 hown3 hg3; obtain ⟨A3, k3, rfl⟩ := own_sl hown3; have HO3 := Lib.hid hown3; have HG3 := Lib.hid hg3; have c3 := (World.cell?_of_block (a := ⟨b, 2, none⟩) (HF2.out _ _ HG3.out)).trans c2; have f3 : w3.frozen? ⟨b, 2, none⟩ = false := frozen_of_row w3 b 2 _ _ ((HF2.out _ _ HG3.out).trans HB2.out); clear hown3 hg3)
        go_roundw
        case rel =>
          refine ⟨k + 1, .slice A3 (D ++ [y]).length k3, by omega, by omega, by go_num, ?_, ?_, ?_, HS2.out⟩
          · have := heap_setCell_same w3 b 2 _ _ (.slice A3 (D ++ [y]).length k3) ((HF2.out _ _ HG3.out).trans HB2.out)
            simpa [Int.add_assoc] using this
          · rw [HTK.out]
            exact own_set3 HO3.out hbw _
          · exact grownBy_setCell (grownBy_own (grownBy_alloc' HG2.out _) HG3.out HOB.out) (.inl rfl) _
        case measure => simp [intOf]; omega
      · have hne := hx
        have HS2 : Hid (drE l n i0 c = nxE l n (i0 + k)) := by have h := HST.out; rw [if_neg hx] at h; exact h
        obtain ⟨er, her⟩ : ∃ er, nxE l n (i0 + k) = er := ⟨_, rfl⟩
        have HER := Lib.hid her
        rw [her] at hne ⊢
        have hbn : (er != 0) = true := by rw [bne_iff_ne]; exact hne
        have HNE := Lib.hid hne
        clear hx her hne
        go_wp2_with fail
        go_ret
        exact ⟨by rw [HS2.out, HER.out] <;> rfl, HG2.out, fun h => absurd (HER.out.symm.trans (HS2.out.symm.trans h)) HNE.out⟩
    · obtain rfl : k = c := by omega
      have HZ : Hid (drE l n i0 k = 0) := by show _ = _; rw [HD.out, Nat.sub_self]; rfl
      have hd1 : decide ((k : Int) < (k : Int)) = false := decide_eq_false (by omega)
      go_wp2_with fail
      go_ret
      exact ⟨by rw [HZ.out] <;> rfl, HG.out, fun _ => ⟨vd, HBR.out, HO.out⟩⟩
end Go.Proofs.YtoiabanpnkpbhaaGreatDoor

namespace Go.Proofs.YtoiabanpnkpbhaaGreatDoor
open Go.RowKit

def tvB (l : List Int) (at_ : Int) : Bool := decide (l.length ≤ 16384 ∧ 0 ≤ at_ ∧ at_ ≤ (l.length : Int))
def liB (n : Int) : Bool := decide (1 ≤ n ∧ n ≤ 2147483647)
theorem tvalid_any (l : List Int) (at_ : Int) (v : Value) (w : World) (h : SI w v l) :
    Calls Tryz.prog 77 #[.agg #[v, .int .i64 at_]] w fun e w' => e = .returned (.bool (tvB l at_)) ∧ Below w.heap.size w w' := by
  obtain ⟨A, c, rfl⟩ := h.form'
  clear h
  have HB : Hid (∀ o : Obj, Below w.heap.size w (w.alloc o)) := fun o => (Below.refl _ w).alloc (Nat.le_refl _) o
  go_enter Tryz.func77, Tryz.ntmps77
  by_cases h1 : l.length ≤ 16384
  · have d1 : decide ((l.length : Int) ≤ 16384) = true := decide_eq_true (by omega)
    by_cases h2 : 0 ≤ at_
    · have d2 : decide (0 ≤ at_) = true := decide_eq_true h2
      by_cases h3 : at_ ≤ (l.length : Int)
      · have d3 : decide (at_ ≤ (l.length : Int)) = true := decide_eq_true h3
        have HE : Hid (tvB l at_ = true) := decide_eq_true ⟨h1, h2, h3⟩
        go_wp2_with fail
        go_ret
        exact ⟨by rw [HE.out] <;> rfl, HB.out _⟩
      · have d3 : decide (at_ ≤ (l.length : Int)) = false := decide_eq_false h3
        have HE : Hid (tvB l at_ = false) := decide_eq_false fun h => h3 h.2.2
        go_wp2_with fail
        go_ret
        exact ⟨by rw [HE.out] <;> rfl, HB.out _⟩
    · have d2 : decide (0 ≤ at_) = false := decide_eq_false h2
      have HE : Hid (tvB l at_ = false) := decide_eq_false fun h => h2 h.2.1
      go_wp2_with fail
      go_ret
      exact ⟨by rw [HE.out] <;> rfl, HB.out _⟩
  · have d1 : decide ((l.length : Int) ≤ 16384) = false := decide_eq_false (by omega)
    have HE : Hid (tvB l at_ = false) := decide_eq_false fun h => h1 h.1
    go_wp2_with fail
    go_ret
    exact ⟨by rw [HE.out] <;> rfl, HB.out _⟩
theorem tlimit_any (n : Int) (w : World) : Calls Tryz.prog 78 #[.int .i64 n] w fun e w' => e = .returned (.bool (liB n)) ∧ w = w' := by
  go_enter Tryz.func78, Tryz.ntmps78
  by_cases h1 : 1 ≤ n
  · have d1 : decide (1 ≤ n) = true := decide_eq_true h1
    by_cases h2 : n ≤ 2147483647
    · have d2 : decide (n ≤ 2147483647) = true := decide_eq_true h2
      have HE : Hid (liB n = true) := decide_eq_true ⟨h1, h2⟩
      go_wp2_with fail
      go_ret
      exact ⟨by rw [HE.out] <;> rfl, rfl⟩
    · have d2 : decide (n ≤ 2147483647) = false := decide_eq_false h2
      have HE : Hid (liB n = false) := decide_eq_false fun h => h2 h.2
      go_wp2_with fail
      go_ret
      exact ⟨by rw [HE.out] <;> rfl, rfl⟩
  · have d1 : decide (1 ≤ n) = false := decide_eq_false h1
    have HE : Hid (liB n = false) := decide_eq_false fun h => h1 h.1
    go_wp2_with fail
    go_ret
    exact ⟨by rw [HE.out] <;> rfl, rfl⟩
theorem own_lo {w : World} {base base' e size n : Nat} {v : Value} {xs : List Value} (h : w.ownsRow base e size v n xs) (hb : base' ≤ base) : w.ownsRow base' e size v n xs := by
  refine ⟨h.1, ?_⟩
  rcases h.2 with hn | ⟨g, cap, cur, rfl, hbg, rest⟩
  · exact .inl hn
  · exact .inr ⟨g, cap, cur, rfl, by omega, rest⟩
theorem own_bel {w w' : World} {base e size n : Nat} {v : Value} {xs : List Value} (h : w.ownsRow base e size v n xs) (hb : Below w.heap.size w w') : w'.ownsRow base e size v n xs := by
  refine ⟨h.1, ?_⟩
  rcases h.2 with hn | ⟨g, cap, cur, rfl, hbg, hgg, rest⟩
  · exact .inl hn
  · exact .inr ⟨g, cap, cur, rfl, hbg, (hb.block g (heap_of_cells hgg)).trans hgg, rest⟩
set_option maxRecDepth 100000 in
/-- slices.Clone of ints -/
theorem clone_any (l : List Int) (v : Value) (w : World) (h : SI w v l) (hl : l.length ≤ 1000000) :
    Calls Tryz.prog 80 #[v] w fun e w' => ∃ v', e = .returned v' ∧ w'.ownsRow w.heap.size 3 1 v' l.length (l.map (Value.int .i64)) ∧ Below w.heap.size w w' := by
  have HS := Lib.hid h
  obtain ⟨A, c, rfl⟩ := h.form'
  clear h
  rcases A with _ | a
  · have hl0 : l = [] := by
      rcases Nat.eq_zero_or_pos l.length with h | h
      · exact List.eq_nil_of_length_eq_zero h
      · obtain ⟨b, off, e, _⟩ := SB.cells HS.out h; cases e
    subst hl0
    have hn := Lib.run_eql_slice_nil (P := Tryz.prog) w 22 3 none 0 c 0 0 Tryz.underlying22
    go_enter Tryz.func80, Tryz.ntmps80
    go_wp2_with fail
    go_ret
    exact ⟨_, rfl, by simpa using World.ownsRow_nil w w.heap.size 3 1, Below.refl _ _⟩
  · have hn := Lib.run_eql_slice_nil (P := Tryz.prog) w 22 3 (some a) l.length c 0 0 Tryz.underlying22
    go_enter Tryz.func80, Tryz.ntmps80
    have hO : Hid ((w.alloc (.cells #[] 3)).ownsRow w.heap.size 3 1 (.slice (some ⟨w.heap.size, 0, none⟩) 0 0) 0 []) := own_lit (base := w.heap.size) w 3 [] (Nat.le_refl _) (by simp)
    have HSB : Hid (SB w.heap.size (w.alloc (.cells #[] 3)) (.slice (some a) l.length c) l) := SB.below HS.out ((Below.refl _ w).alloc (Nat.le_refl _) _)
    go_wp2_with (at_builtin; refine wpList_append_ints _ rfl _ _ 22 rfl w.heap.size 3 Tryz.underlying22 iinfo _ [] rfl hO.out w.heap.size _ l rfl HSB.out (by simp; omega) (by simp) ?_; intro v2 w2 hown2 hg2; have HO2 := Lib.hid hown2; have HG2 := Lib.hid hg2; clear hown2 hg2)
    go_ret
    refine ⟨_, rfl, by simpa using HO2.out, ((Below.refl _ w).alloc (Nat.le_refl _) _).grown HG2.out (by simp) (fun k hk => ?_)⟩
    have := hO.out.lt k hk
    omega
/-- both cells of a block of two laid anew -/
theorem store2 {w : World} {R : Nat} {t : TypeId} {x y : Value} (a b : Value) (h : w.heap[R]? = some (.cells #[x, y] t (0, 0))) : ((w.setCell ⟨R, 0, none⟩ a).setCell ⟨R, 1, none⟩ b).heap[R]? = some (.cells #[a, b] t (0, 0)) := by
  have h1 := heap_setCell_same w R 0 _ _ a h
  have h2 := heap_setCell_same _ R 1 _ _ b h1
  simpa using h2
def dsE (l : List Int) (at_ n c : Int) : Int := if tvB l at_ = false then 2 else if liB n = false ∨ c < 0 then 1 else drE l n at_.toNat c.toNat
end Go.Proofs.YtoiabanpnkpbhaaGreatDoor
