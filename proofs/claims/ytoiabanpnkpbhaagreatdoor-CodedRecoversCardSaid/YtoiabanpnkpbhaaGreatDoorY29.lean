/- Joined: Od Fw Fx Ma Mb. -/
import Derived.Test.YtoiabanpnkpbhaaGreatDoorY28
import Derived.Test.YtoiabanpnkpbhaaGreatDoorY21
import Derived.Test.YtoiabanpnkpbhaaGreatDoorY24
import Derived.Test.YtoiabanpnkpbhaaGreatDoorY23
namespace Go.Proofs.YtoiabanpnkpbhaaGreatDoor
open Go.RowKit

def nums (n : Nat) : List Int := (List.range n).map fun (j : Nat) => (j : Int)
theorem nums_succ (n : Nat) : nums (n + 1) = nums n ++ [(n : Int)] := by
  unfold nums
  rw [List.range_succ, List.map_append]; rfl
theorem nums_len (n : Nat) : (nums n).length = n := by unfold nums; simp
theorem nums_bd (n : Nat) : ∀ x ∈ nums n, 0 ≤ x ∧ x < (n : Int) := by
  intro x hx
  obtain ⟨j, hj, rfl⟩ := List.mem_map.1 hx
  have := List.mem_range.1 hj
  omega
theorem nums_nodup (n : Nat) : (nums n).Nodup := by
  unfold nums
  rw [List.Nodup, List.pairwise_map]
  exact List.Pairwise.imp (fun h e => h (by omega)) List.nodup_range
theorem nums_r {n : Nat} (hn : n ≤ 1000) : ∀ x ∈ nums n, i64r x := fun x hx => by have := nums_bd n x hx; unfold i64r; omega
theorem perm_step {O R L : List Int} {k : Nat} (hk : k < R.length) (h : (O ++ R).Perm L) : ((O ++ [R[k]]) ++ (R.take k ++ R.drop (k + 1))).Perm L := by
  refine List.Perm.trans ?_ h
  rw [List.append_assoc]
  refine List.Perm.append_left O ?_
  have e : R = R.take k ++ R[k] :: R.drop (k + 1) := by
    rw [← List.drop_eq_getElem_cons hk, List.take_append_drop]
  have h2 : (R[k] :: (R.take k ++ R.drop (k + 1))).Perm (R.take k ++ R[k] :: R.drop (k + 1)) := List.perm_middle.symm
  exact h2.trans (List.Perm.of_eq e.symm)
def Od1 (n B : Nat) (w0 : World) (v i : Value) (wr : World) : Prop := ∃ k : Nat, k ≤ n ∧ i = .int .i64 k ∧ wr.ownsRow B 3 1 v (nums k).length ((nums k).map (Value.int .i64)) ∧ Below B w0 wr
def Od2 (n g B : Nat) (w0 : World) (rv ov : Value) (wr : World) : Prop :=
  ∃ (vr vo : Value) (R O : List Int), vr = rv ∧ vo = ov ∧ (O ++ R).Perm (nums n) ∧ wr.ownsRow B 3 1 vo O.length (O.map (Value.int .i64)) ∧ SX wr (some g) vo.ownBlock vr R ∧ Dk wr g ∧ w0.grownBy wr (some g) ∧ B ≤ wr.heap.size
def lenV : Value → Nat | .slice _ n _ => n | _ => 0
set_option maxRecDepth 100000 in
set_option maxHeartbeats 4000000 in
theorem order_any (n g : Nat) (w : World) (hD : Dk w g) (hn : n ≤ 1000) :
    Calls Tryz.prog 16 #[.pointer (some ⟨g, 0, none⟩), .int .i64 n] w fun e w' => ∃ (v : Value) (O : List Int), e = .returned v ∧ O.Perm (nums n) ∧ w'.ownsRow w.heap.size 3 1 v O.length (O.map (Value.int .i64)) ∧ Dk w' g ∧ w.grownBy w' (some g) := by
  have HD := Lib.hid hD
  have hgw : g < w.heap.size := hD.lt
  obtain ⟨B, eB⟩ : ∃ B, B = w.heap.size := ⟨_, rfl⟩
  have HEB := Lib.hid eB
  rw [← eB] at hgw ⊢
  clear hD
  obtain ⟨i0, hi0, hi1, hi2, hi3⟩ := info_parts iinfo
  go_enter Tryz.func16, Tryz.ntmps16
  go_wp2_with fail
  clear eB
  go_loopw [5, 10] (fun v i wr => Od1 n B w v i wr) (fun _ i _ => n - (intOf i).toNat)
  case atStart => exact ⟨0, Nat.zero_le _, rfl, by simpa [nums] using World.ownsRow_nil w B 3 1, Below.refl _ _⟩
  case round =>
    obtain ⟨k, hk, rfl, hown, hbel⟩ := hrel
    obtain ⟨A, c, rfl⟩ := own_sl hown
    have HO := Lib.hid hown
    have HB := Lib.hid hbel
    have hBr : B ≤ wr.heap.size := by have := hbel.size; have := HEB.out; omega
    clear hown hbel
    by_cases hlt : k < n
    · have dk : decide (k < n) = true := decide_eq_true hlt
      have hl : (nums k).length ≤ 1000 := by rw [nums_len]; omega
      obtain ⟨D, hD⟩ : ∃ D, D = nums k := ⟨_, rfl⟩
      rw [← hD] at HO hl ⊢
      have HSN : Hid (nums (k + 1) = D ++ [(k : Int)]) := (show Hid _ from by show _ = _; rw [nums_succ, ← hD])
      clear hD
      go_wp2_with (at_builtin; refine wpList_append_int1 _ rfl _ _ 22 rfl B 3 Tryz.underlying22 iinfo _ D rfl HO.out (k : Int) rfl (by omega) hBr ?_; intro v3 w3 hown3 hg3; have HO3 := Lib.hid hown3; have HG3 := Lib.hid hg3; clear hown3 hg3)
      go_roundw
      case rel =>
        refine ⟨k + 1, by omega, by go_num, by rw [HSN.out]; exact HO3.out, ?_⟩
        exact (HB.out.alloc hBr _).grown HG3.out (by simp; omega) (fun k hk => (HO.out.lt k hk).1)
      case measure => simp [intOf]; omega
    · have dk : decide (k < n) = false := decide_eq_false hlt
      have hkn : k = n := by omega
      rw [hkn] at HO ⊢
      have HGr : Hid (w.grownBy wr (some g)) := (show Hid _ from grownBy_of_below (by rw [← HEB.out]; exact HB.out) _)
      have HDr : Hid (Dk wr g) := (show Hid _ from HD.out.below (by rw [← HEB.out]; exact HB.out))
      have HSX : Hid (SX wr (some g) (Value.slice none 0 0).ownBlock (.slice A (nums n).length c) (nums n)) := (show Hid _ from SX.of_own HO.out (nums_r hn) (fun k hk => by injection hk with e; omega) (fun k hk => by simp [Value.ownBlock] at hk))
      clear hkn hlt
      go_wp2_with fail
      go_loopw [5, 6] (fun rv ov wz => Od2 n g B w rv ov wz) (fun rv _ _ => lenV rv)
      case atStart => exact ⟨_, _, nums n, [], rfl, rfl, by simp, World.ownsRow_nil _ _ _ _, HSX.out, HDr.out, HGr.out, hBr⟩
      case round =>
        obtain ⟨vr, vo, R, O, rfl, rfl, hperm, hown, hsx, hd, hgr, hB⟩ := hrel
        obtain ⟨Ar, cr, rfl⟩ := hsx.si.form
        obtain ⟨Ao, co, rfl⟩ := own_sl hown
        have HP := Lib.hid hperm
        have HOO := Lib.hid hown
        have HSR := Lib.hid hsx
        have HDD := Lib.hid hd
        have HGG := Lib.hid hgr
        have hln : O.length + R.length = n := by have := hperm.length_eq; rw [List.length_append, nums_len] at this; exact this
        clear hperm hown hsx hd hgr
        by_cases hlt : 0 < R.length
        · have dr : decide (0 < R.length) = true := decide_eq_true hlt
          have dr2 : decide ((0 : Int) < (R.length : Int)) = true := decide_eq_true (by omega)
          have ri : i64r (R.length : Int) := by unfold i64r; omega
          have ri2 : (R.length : Int) ≤ 4611686018427387904 := by omega
          go_wp2_with fail
          (with_reducible refine (next_any (R.length : Int) g wr HDD.out ri ri2).mono ?_)
          rintro e w1 ⟨x, rfl, _, hx, hd1, hg1⟩
          obtain ⟨hx1, hx2⟩ := hx (by omega)
          obtain ⟨k, rfl⟩ : ∃ k : Nat, x = k := ⟨x.toNat, by omega⟩
          have hkR : k < R.length := by omega
          have HD1 := Lib.hid hd1
          have HG1 := Lib.hid hg1
          have hob : ∀ b, (Value.slice Ao O.length co).ownBlock = some b → B ≤ b ∧ b < wr.heap.size := HOO.out.lt
          have HO1 : Hid (w1.ownsRow B 3 1 (.slice Ao O.length co) O.length (O.map (Value.int .i64))) := (show Hid _ from own_blk HOO.out fun b hb => hg1.block b (hob b hb).2 (by have := (hob b hb).1; simp; omega))
          have HS1 : Hid (SX w1 (some g) (Value.slice Ao O.length co).ownBlock (.slice Ar R.length cr) R) := (show Hid _ from HSR.out.keep hg1.size fun b hb h1 h2 => ⟨hg1.block b hb h1, h1, h2⟩)
          have HSI1 : Hid (SI w1 (.slice Ar R.length cr) R) := HS1.out.si
          obtain ⟨A', c', e', hrc, hcm, _, har⟩ := HS1.out
          injection e' with e1 e2 e3
          subst e1
          subst e3
          obtain ⟨br, orr, rfl, hbr, hbg, hbo, hcell⟩ := har hlt
          have ck := hcell k hkR
          have HPS : Hid (((O ++ [R[k]]) ++ (R.take k ++ R.drop (k + 1))).Perm (nums n)) := perm_step hkR HP.out
          have hxr : i64r R[k] := by
            have h1 : R[k] ∈ nums n := HP.out.mem_iff.1 (List.mem_append.2 (.inr (List.getElem_mem hkR)))
            exact nums_r hn _ h1
          obtain ⟨y, ey⟩ : ∃ y, y = R[k] := ⟨_, rfl⟩
          rw [← ey] at ck HPS hxr
          have hB1 : B ≤ w1.heap.size := by have := hg1.size; omega
          have z1 : (0 : Int) ≤ (k : Int) := by omega
          have z2 : (k : Int) < (R.length : Int) := by omega
          have z3 : (k : Int) ≤ (R.length : Int) := by omega
          have z4 : (k : Int) ≤ (cr : Int) := by omega
          have z5 : (k : Int) + 1 ≤ (R.length : Int) := by omega
          have z6 : IntKind.i64.wrap ((k : Int) + 1) = (k : Int) + 1 := by exact IntWalk.i64_in _ (by omega)
          have hOl : O.length ≤ 1000 := by omega
          clear hx hx1 hd1 hg1 hob har hcell ey dr dr2 ri ri2
          go_wp2_with (at_builtin; refine wpList_append_own_at _ rfl _ _ 22 rfl B 3 i0 _ 1 8 Tryz.underlying22 hi0 hi1 hi2 hi3 rfl (by omega) _ _ _ rfl (HO1.out.alloc _) ⟨w1.heap.size, 0, none⟩ 1 1 [.int .i64 y] rfl rfl (cells_new w1 _ _) (by intro u hu; simp at hu; subst hu; rfl) (by unfold maxLen; omega) (by omega) (by simp; omega) ?_; intro v3 w3 hown3 hg3 _ hat3; have HO3 := Lib.hid hown3; have HG3 : Hid ((w1.alloc (.cells #[.int .i64 y] 3)).grownBy w3 (Value.slice Ao O.length co).ownBlock) := (show Hid _ from hg3); have HA3 : Hid (v3.ownBlock = (Value.slice Ao O.length co).ownBlock ∨ v3.ownBlock = some (w1.alloc (.cells #[.int .i64 y] 3)).heap.size) := (show Hid _ from hat3); clear hown3 hg3 hat3)
          have hal : Below w1.heap.size w1 (w1.alloc (.cells #[.int .i64 y] 3)) := (Below.refl _ w1).alloc (Nat.le_refl _) _
          have hsz1 : (w1.alloc (.cells #[.int .i64 y] 3)).heap.size = w1.heap.size + 1 := by simp
          have HS3 : Hid (SX w3 (some g) v3.ownBlock (.slice (some ⟨br, orr, none⟩) R.length cr) R) := (show Hid _ from (HS1.out.keep (X' := some g) (Y' := (Value.slice Ao O.length co).ownBlock) hal.size fun b hb h1 h2 => ⟨hal.block b hb, h1, h2⟩).keep HG3.out.size fun b hb h1 h2 => ⟨HG3.out.block b hb h2, h1, fun e => by
            rcases HA3.out with h3 | h3
            · exact h2 (by rw [e, h3])
            · rw [h3] at e; injection e with e; omega⟩)
          have HTK : Hid (SX w3 (some g) v3.ownBlock (.slice (some ⟨br, orr, none⟩) k k) (R.take k)) := (show Hid _ from by
            obtain ⟨A2, c2, e2, _, hcm2, hr2, ha2⟩ := HS3.out
            injection e2 with e21 e22 e23
            have htl : (R.take k).length = k := by rw [List.length_take]; omega
            refine ⟨_, k, by rw [htl], by rw [htl]; exact Nat.le_refl _, by omega, fun x hx => hr2 x (List.mem_of_mem_take hx), fun h0 => ?_⟩
            obtain ⟨b2, o2, e3, hb2, hx2, hy2, hc2⟩ := ha2 (by omega)
            rw [← e21] at e3
            injection e3 with e3
            injection e3 with e31 e32
            subst e31 e32
            refine ⟨br, orr, rfl, hb2, hx2, hy2, fun j hj => ?_⟩
            rw [hc2 j (by rw [htl] at hj; omega)]
            simp)
          have HTL : Hid (SI w3 (.slice (some ⟨br, orr + (k + 1), none⟩) (R.length - (k + 1)) (cr - (k + 1))) (R.drop (k + 1))) := (show Hid _ from by
            obtain ⟨A2, c2, e2, hcl2, hcm2, hr2, ha2⟩ := HS3.out
            injection e2 with e21 e22 e23
            have htl : (R.drop (k + 1)).length = R.length - (k + 1) := List.length_drop
            refine ⟨_, cr - (k + 1), by rw [htl], by rw [htl]; omega, by omega, fun x hx => hr2 x (List.mem_of_mem_drop hx), fun h0 => ?_⟩
            obtain ⟨b2, o2, e3, hb2, hx2, hy2, hc2⟩ := ha2 (by omega)
            rw [← e21] at e3
            injection e3 with e3
            injection e3 with e31 e32
            subst e31 e32
            refine ⟨br, orr + (k + 1), rfl, hb2, fun j hj => ?_⟩
            rw [htl] at hj
            rw [Nat.add_assoc, hc2 (k + 1 + j) (by omega)]
            simp)
          have hg3s : g < w3.heap.size := by have := HG3.out.size; omega
          have hv3b : ∀ b, v3.ownBlock = some b → b < w3.heap.size := fun b hb => (HO3.out.lt b hb).2
          have HV3 := Lib.hid hv3b
          have HB3 : Hid (w.grownBy w3 (some g)) := (show Hid _ from grownBy_own (grownBy_trans (grownBy_trans HGG.out HG1.out) (World.grownBy_alloc w1 _ _)) HG3.out (fun k hk => by have := (HO1.out.lt k hk).1; have := HEB.out; omega))
          have HD3 : Hid (Dk w3 g) := (show Hid _ from (HD1.out.alloc _).grown HG3.out (fun k hk => by have := (HO1.out.lt k hk).1; omega))
          have htl : (R.take k).length = k := by rw [List.length_take]; omega
          have HTKL := Lib.hid htl
          have hsum : (R.take k).length + (R.drop (k + 1)).length ≤ 1000000 := by rw [List.length_drop, htl]; omega
          have HLEN : Hid ((R.take k ++ R.drop (k + 1)).length < R.length) := (show Hid _ from by show _ < _; rw [List.length_append, List.length_drop, htl]; omega)
          have HO3b : Hid (w3.ownsRow B 3 1 v3 (O ++ [y]).length ((O ++ [y]).map (Value.int .i64))) := (show Hid _ from by
            have h := HO3.out
            rw [List.length_append, List.map_append]; exact h)
          have hB3 : B ≤ w3.heap.size := by have := HG3.out.size; omega
          have HFIN : Hid (∀ (A' : Option Addr) (c' : Nat) (w' : World), Below w3.heap.size w3 w' → SX w' (some g) v3.ownBlock (.slice A' (R.take k ++ R.drop (k + 1)).length c') (R.take k ++ R.drop (k + 1)) → Od2 n g B w (.slice A' (R.take k ++ R.drop (k + 1)).length c') v3 w') := (show Hid _ from fun A' c' w' hb hs =>
            ⟨_, _, R.take k ++ R.drop (k + 1), O ++ [y], rfl, rfl, HPS.out, own_bel HO3b.out hb, hs, HD3.out.below hb, grownBy_trans HB3.out (grownBy_of_below hb _), by have := hb.size; omega⟩)
          have z7 : (0 : Int) ≤ (k : Int) + 1 := by omega
          clear hv3b htl hal hsz1 z2
          by_cases hck : cr = k + 1
          · have HTL0 : Hid (SI w3 (.slice (some ⟨br, orr, none⟩) (R.length - (k + 1)) (cr - (k + 1))) (R.drop (k + 1))) := (show Hid _ from by
              have hl : (R.drop (k + 1)).length = R.length - (k + 1) := List.length_drop
              have h0 : R.length - (k + 1) = 0 := by omega
              refine ⟨_, cr - (k + 1), by rw [hl], by rw [hl]; omega, by omega, fun x hx => ?_, fun h => by omega⟩
              have : R.drop (k + 1) = [] := List.eq_nil_of_length_eq_zero (by omega)
              rw [this] at hx; cases hx)
            have hck' : (cr = k + 1) = True := eq_true hck
            clear hck
            go_region_law (refine step_append_cut _ (by rfl) (.tmp 35) _ 22 (by rfl) 3 Tryz.underlying22 iinfo (some g) v3.ownBlock (some ⟨br, orr, none⟩) k (.slice (some ⟨br, orr, none⟩) (R.length - (k + 1)) (cr - (k + 1))) (R.take k) (R.drop (k + 1)) (by simp [Act.eval, Act.put, go_sem]) (by simp [Act.eval, Act.put, go_sem]) (by exact HTKL.out) (by exact HTK.out) (by exact HTL0.out) (by exact hsum) (by intro b hb; injection hb with e; subst e; exact hg3s) (by exact HV3.out) ?_; intro A9 c9 w9 hb9 hs9; have HB9 : Hid (Below w3.heap.size w3 w9) := (show Hid _ from ⟨hb9.os, hb9.tape, hb9.output, hb9.size, hb9.block⟩); have HS9 := Lib.hid hs9; clear hb9 hs9)
            all_goals
              go_wp2_with fail
              simp only [Act.put, List.getElem_toArray, List.getElem_cons_succ, List.getElem_cons_zero]
              go_roundw
              case rel =>
                have h := HFIN.out _ _ _ HB9.out HS9.out
                simpa using h
              case measure =>
                have h := HLEN.out
                simpa [lenV] using h
          · go_region_law (refine step_append_cut _ (by rfl) (.tmp 35) _ 22 (by rfl) 3 Tryz.underlying22 iinfo (some g) v3.ownBlock (some ⟨br, orr, none⟩) k (.slice (some ⟨br, orr + (k + 1), none⟩) (R.length - (k + 1)) (cr - (k + 1))) (R.take k) (R.drop (k + 1)) (by simp [Act.eval, Act.put, go_sem]) (by simp [Act.eval, Act.put, go_sem]) (by exact HTKL.out) (by exact HTK.out) (by exact HTL.out) (by exact hsum) (by intro b hb; injection hb with e; subst e; exact hg3s) (by exact HV3.out) ?_; intro A9 c9 w9 hb9 hs9; have HB9 : Hid (Below w3.heap.size w3 w9) := (show Hid _ from ⟨hb9.os, hb9.tape, hb9.output, hb9.size, hb9.block⟩); have HS9 := Lib.hid hs9; clear hb9 hs9)
            all_goals
              go_wp2_with fail
              simp only [Act.put, List.getElem_toArray, List.getElem_cons_succ, List.getElem_cons_zero]
              go_roundw
              case rel =>
                have h := HFIN.out _ _ _ HB9.out HS9.out
                simpa using h
              case measure =>
                have h := HLEN.out
                simpa [lenV] using h
        · have dr : decide (0 < R.length) = false := decide_eq_false hlt
          have dr2 : decide ((0 : Int) < (R.length : Int)) = false := decide_eq_false (by omega)
          have hR0 : R = [] := List.eq_nil_of_length_eq_zero (by omega)
          have HF : Hid (O.Perm (nums n)) := (show Hid _ from by have := HP.out; rw [hR0, List.append_nil] at this; exact this)
          clear hR0
          go_wp2_with fail
          go_ret
          exact ⟨_, O, rfl, HF.out, HOO.out, HDD.out, HGG.out⟩
end Go.Proofs.YtoiabanpnkpbhaaGreatDoor

namespace Go.Proofs.YtoiabanpnkpbhaaGreatDoor
open Go.RowKit

/-- a block of answers, known whole -/
def AKv (w : World) (b : Nat) (xs : List (Bool × Value)) : Prop := w.heap[b]? = some (.cells (xs.flatMap fun x => [.bool x.1, x.2]).toArray 61 (0, 0))
theorem fm2_get : ∀ (xs : List (Bool × Value)) (j : Nat) (h : j < xs.length), (xs.flatMap fun x => [Value.bool x.1, x.2])[j * 2]? = some (.bool xs[j].1) ∧ (xs.flatMap fun x => [Value.bool x.1, x.2])[j * 2 + 1]? = some xs[j].2
  | x :: t, 0, _ => by simp
  | x :: t, j + 1, h => by
    have := fm2_get t j (by simpa using h)
    have e1 : (j + 1) * 2 = j * 2 + 1 + 1 := by omega
    have e2 : (j + 1) * 2 + 1 = j * 2 + 1 + 1 + 1 := by omega
    refine ⟨?_, ?_⟩
    · rw [e1]; simpa using this.1
    · rw [e2]; simpa using this.2
theorem fm2_set : ∀ (xs : List (Bool × Value)) (j : Nat) (_ : j < xs.length) (b : Bool) (v : Value), ((xs.flatMap fun x => [Value.bool x.1, x.2]).set (j * 2) (.bool b)).set (j * 2 + 1) v = (xs.set j (b, v)).flatMap fun x => [Value.bool x.1, x.2]
  | x :: t, 0, _, b, v => by simp
  | x :: t, j + 1, h, b, v => by
    have := fm2_set t j (by simpa using h) b v
    have e1 : (j + 1) * 2 = j * 2 + 1 + 1 := by omega
    have e2 : (j + 1) * 2 + 1 = j * 2 + 1 + 1 + 1 := by omega
    rw [e1]
    simpa using this
theorem AKv.lt {w : World} {b : Nat} {xs : List (Bool × Value)} (h : AKv w b xs) : b < w.heap.size := heap_of_cells h
theorem AKv.below {w w' : World} {b B : Nat} {xs : List (Bool × Value)} (h : AKv w b xs) (hb : Below B w w') (hB : b < B) : AKv w' b xs := (hb.block b hB).trans h
theorem AKv.cells {w : World} {b : Nat} {xs : List (Bool × Value)} (h : AKv w b xs) (j : Nat) (hj : j < xs.length) : w.cell? ⟨b, j * 2, none⟩ = some (.bool xs[j].1) ∧ w.cell? ⟨b, j * 2 + 1, none⟩ = some xs[j].2 := by
  have h1 := fm2_get xs j hj
  refine ⟨?_, ?_⟩
  · rw [cell_of_row w b (j * 2) _ _ _ h]; simpa using h1.1
  · rw [cell_of_row w b (j * 2 + 1) _ _ _ h]; simpa using h1.2
theorem AKv.frozen {w : World} {b : Nat} {xs : List (Bool × Value)} (h : AKv w b xs) (j : Nat) : w.frozen? ⟨b, j, none⟩ = false := frozen_of_row w b j _ _ h
theorem AKv.set {w : World} {b : Nat} {xs : List (Bool × Value)} (h : AKv w b xs) (j : Nat) (hj : j < xs.length) (k : Bool) (v : Value) : AKv ((w.setCell ⟨b, j * 2, none⟩ (.bool k)).setCell ⟨b, j * 2 + 1, none⟩ v) b (xs.set j (k, v)) := by
  have h1 := heap_setCell_same w b (j * 2) _ _ (.bool k) h
  have h2 := heap_setCell_same _ b (j * 2 + 1) _ _ v h1
  unfold AKv
  rw [h2, ← fm2_set xs j hj]
  simp
theorem AKv.san {w : World} {b n : Nat} {xs : List (Bool × Value)} {L : List (Bool × List Int)} (h : AKv w b xs) (hl : xs.length = L.length) (hn : n = L.length) (hm : n ≤ 1000000)
    (hr : ∀ j (h1 : j < xs.length) (h2 : j < L.length), xs[j].1 = L[j].1 ∧ SI w xs[j].2 L[j].2) : SAn w (.slice (some ⟨b, 0, none⟩) n n) L := by
  subst hn
  refine ⟨_, _, rfl, Nat.le_refl _, by omega, fun h0 => ⟨b, 0, rfl, h.lt, fun j hj => ?_⟩⟩
  have hjx : j < xs.length := by omega
  obtain ⟨h1, h2⟩ := h.cells j hjx
  obtain ⟨h3, h4⟩ := hr j hjx hj
  rw [Nat.zero_add]
  exact ⟨by rw [h1, h3], xs[j].2, h2, h4⟩
end Go.Proofs.YtoiabanpnkpbhaaGreatDoor

namespace Go.Proofs.YtoiabanpnkpbhaaGreatDoor
open Go.RowKit

/-- the headers of rows outside a block, for all worlds behind -/
theorem SLE.view {g : Nat} {w : World} {v : Value} {rows : List (List Int)} (h : SLE g w v rows) (h0 : 0 < rows.length) : ∃ (ba oa c : Nat) (H : Nat → Value), v = .slice (some ⟨ba, oa, none⟩) rows.length c ∧ ba < w.heap.size ∧
    ∀ W, w.grownBy W (some g) → ∀ j (hj : j < rows.length), W.cell? ⟨ba, oa + j, none⟩ = some (H j) ∧ SE g W (H j) rows[j] ∧ ∃ B d, H j = .slice B rows[j].length d := by
  obtain ⟨A, c, rfl, hc, hm, ha⟩ := h
  obtain ⟨b, off, rfl, hb, hbg, hcell⟩ := ha h0
  refine ⟨b, off, c, fun j => (w.cell? ⟨b, off + j, none⟩).getD undef, rfl, hb, fun W hg j hj => ?_⟩
  obtain ⟨B, d, h1, h2⟩ := hcell j hj
  have e : (w.cell? ⟨b, off + j, none⟩).getD undef = .slice B rows[j].length d := by rw [h1]; rfl
  refine ⟨?_, ?_, B, d, e⟩
  · show _ = some ((w.cell? ⟨b, off + j, none⟩).getD undef)
    rw [e]; exact (World.cell?_of_block (hg.block b hb (by simp; exact hbg))).trans h1
  · show SE g W ((w.cell? ⟨b, off + j, none⟩).getD undef) _
    rw [e]; exact h2.grown hg
/-- the error of an answer to a query of this law -/
theorem coE_zero {P : Int} {q : List Int} {rows : List (List Int)} {w : Nat} (hp : prB P = true) (hw : w ≤ 64) (hl : q.length = rows.length) (hr : ∀ r ∈ rows, r.length = w ∧ els P r = true) (hq : els P q = true) : coE P q rows w = 0 := by
  have h1 : (rows.all fun r => decide ((r.length : Int) = (w : Int))) = true := all_yes fun j hj => decide_eq_true (by have := (hr _ (List.getElem_mem hj)).1; omega)
  unfold coE
  rw [hp, if_neg (by simp), if_neg (by omega), if_neg (by omega), h1, if_neg (by simp), hq, if_neg (by simp), all_yes (fun j hj => (hr _ (List.getElem_mem hj)).2), if_neg (by simp)]
end Go.Proofs.YtoiabanpnkpbhaaGreatDoor

namespace Go.Proofs.YtoiabanpnkpbhaaGreatDoor
open Go.RowKit

/-- a slice of answers outside block g -/
def SAE (g : Nat) (w : World) (v : Value) (l : List (Bool × List Int)) : Prop :=
  ∃ A c, v = .slice A l.length c ∧ l.length ≤ c ∧ c ≤ 9223372036854775807 ∧
    (0 < l.length → ∃ b off, A = some ⟨b, off, none⟩ ∧ b < w.heap.size ∧ b ≠ g ∧ ∀ j (h : j < l.length), w.cell? ⟨b, off + j * 2, none⟩ = some (.bool l[j].1) ∧ ∃ vr, w.cell? ⟨b, off + j * 2 + 1, none⟩ = some vr ∧ SE g w vr l[j].2)
theorem SAE.grown {g : Nat} {w w' : World} {v : Value} {l : List (Bool × List Int)} (h : SAE g w v l) (hg : w.grownBy w' (some g)) : SAE g w' v l := by
  obtain ⟨A, c, rfl, hc, hm, ha⟩ := h
  refine ⟨A, c, rfl, hc, hm, fun h0 => ?_⟩
  obtain ⟨b, off, rfl, hb, hbg, hcell⟩ := ha h0
  have hk : w'.heap[b]? = w.heap[b]? := hg.block b hb (by simp; exact hbg)
  refine ⟨b, off, rfl, by have := hg.size; omega, hbg, fun j hj => ?_⟩
  obtain ⟨h1, vr, h2, h3⟩ := hcell j hj
  exact ⟨(World.cell?_of_block hk).trans h1, vr, (World.cell?_of_block hk).trans h2, h3.grown hg⟩
theorem SAE.below {g : Nat} {w w' : World} {v : Value} {l : List (Bool × List Int)} (h : SAE g w v l) (hb : Below w.heap.size w w') : SAE g w' v l := h.grown (grownBy_of_below hb _)
theorem SAE.san {g : Nat} {w : World} {v : Value} {l : List (Bool × List Int)} (h : SAE g w v l) : SAn w v l := by
  obtain ⟨A, c, rfl, hc, hm, ha⟩ := h
  refine ⟨A, c, rfl, hc, hm, fun h0 => ?_⟩
  obtain ⟨b, off, rfl, hb, hbg, hcell⟩ := ha h0
  refine ⟨b, off, rfl, hb, fun j hj => ?_⟩
  obtain ⟨h1, vr, h2, h3⟩ := hcell j hj
  exact ⟨h1, vr, h2, h3.si⟩
theorem SAE.form {g : Nat} {w : World} {v : Value} {l : List (Bool × List Int)} (h : SAE g w v l) : ∃ A c, v = .slice A l.length c := by
  obtain ⟨A, c, rfl, _⟩ := h; exact ⟨A, c, rfl⟩
/-- one cell of an owned row laid anew -/
theorem own_upd {w : World} {base e size n b cap : Nat} {xs : List Value} (h : w.ownsRow base e size (.slice (some ⟨b, 0, none⟩) n cap) n xs) (i : Nat) (u : Value) :
    (w.setCell ⟨b, i, none⟩ u).ownsRow base e size (.slice (some ⟨b, 0, none⟩) n cap) n (xs.set i u) := by
  obtain ⟨hl, h⟩ := h
  refine ⟨by simp [hl], .inr ?_⟩
  rcases h with ⟨e1, _⟩ | ⟨g', cap', cur, e1, hb, hg, hnc, hcm, hcs, ht⟩
  · cases e1
  · injection e1 with e1 e2 e3
    injection e1 with e1
    injection e1 with e1
    subst e1 e3
    have h1 := heap_setCell_same w b i _ _ u hg
    refine ⟨b, cap, _, rfl, hb, h1, hnc, hcm, by simp [hcs], ?_⟩
    rw [← ht]
    simp [List.take_set]
theorem own_upd_other {w : World} {base e size n : Nat} {v : Value} {xs : List Value} (h : w.ownsRow base e size v n xs) {p : Addr} (hp : v.ownBlock ≠ some p.block) (u : Value) : (w.setCell p u).ownsRow base e size v n xs :=
  own_blk h fun b hb => heap_setCell_other w p b u (fun e => hp (by rw [hb, e]))
/-- append(own, one literal of several cells) where it lies is told -/
theorem wpList_append_lit_at {P : Program} (w : World) {ops : Array Oper} {rest : List Oper} {o : Oper} {a : Act} {Q : Exit → Act → World → Prop} (hgd : o.guard = none) (s x : Operand) (t : TypeId)
    (ho : o.op = .call { callee := .builtin .append, args := #[s, x], argTypes := #[t, t] })
    (base : Nat) (e : TypeId) (z : Value) (size by' : Nat) (ht : P.underlying t = some (.slice e)) (hinfo : (P.info? e).map (fun i => (i.zero, i.size, i.bytes)) = some (some z, size, by'))
    (v : Value) (n : Nat) (xs : List Value) (hs : a.eval s = v) (hown : w.ownsRow base e size v n xs)
    (news : List Value) (hnl : news.length = size) (h1 : ∀ u ∈ news, u.oneCell' = true) (b : Nat) (hx : a.eval x = .slice (some ⟨b, 0, none⟩) 1 1) (hc : ∀ j u, news[j]? = some u → w.cell? ⟨b, j, none⟩ = some u)
    (hbytes : (n + 1) * by' ≤ 140737488355328) (hn : n ≤ 1000000) (hzs : z.cells.size = size) (hsz : 0 < size) (hbase : base ≤ w.heap.size)
    (h : ∀ g cap w', w'.ownsRow base e size (.slice (some ⟨g, 0, none⟩) (n + 1) cap) (n + 1) (xs ++ news) → w.grownBy w' v.ownBlock → (v.ownBlock = some g ∨ g = w.heap.size) → wpList P ops Q rest (a.put o.dst (.slice (some ⟨g, 0, none⟩) (n + 1) cap)) w') :
    wpList P ops Q (o :: rest) a w := by
  obtain ⟨i0, hi0, hz0, hz1, hz2⟩ := info_parts hinfo
  obtain ⟨v', w', hrun, h2, h3, h4⟩ := run_append_sc_at (P := P) w base t o.type e i0 _ size by' ht hi0 hz0 hz1 hz2 hzs hsz v _ _ hown (b + 1) (.slice (some ⟨b, 0, none⟩) 1 1) 1 news ⟨_, 1, rfl, by omega, fun _ => ⟨b, 0, rfl, by omega, fun j u hu => by rw [Nat.zero_add]; exact hc j u hu⟩⟩ h1 (by unfold maxLen; omega) hbytes hbase
  rcases h2.2 with ⟨_, hn'⟩ | ⟨g, cap, cur, rfl, hb, hg, hnc, hcm, hcs, htake⟩
  · omega
  · refine Lib.wpList_append_run w hgd s x t t ho _ _ hs hx _ w' hrun (h g cap w' h2 h3 ?_)
    rcases h4 with h4 | h4
    · exact .inl h4.symm
    · exact .inr (by simpa [Value.ownBlock] using h4)
/-- the answers, their rows, each in memory of its own -/
structure AM (C : Nat) (w : World) (pv : Value) (n : Nat) (V : Nat → Value) (K : Nat → Bool) (Cn : Nat → List Int) : Prop where
  ans : w.ownsRow C 61 2 pv n ((List.range n).flatMap fun j => [.bool (K j), if K j then V j else .slice none 0 0])
  row : ∀ j, j < n → w.ownsRow C 3 1 (V j) (Cn j).length ((Cn j).map (Value.int .i64))
  apl : ∀ j, j < n → ∀ q, (V j).ownBlock = some q → pv.ownBlock ≠ some q
  apart : ∀ i j, i < n → j < n → i ≠ j → ∀ q, (V i).ownBlock = some q → (V j).ownBlock ≠ some q
theorem AM.keep {C : Nat} {w w' : World} {pv : Value} {n : Nat} {V : Nat → Value} {K : Nat → Bool} {Cn : Nat → List Int} (h : AM C w pv n V K Cn) (hk : ∀ b, C ≤ b → b < w.heap.size → (pv.ownBlock = some b ∨ ∃ j, j < n ∧ (V j).ownBlock = some b) → w'.heap[b]? = w.heap[b]?) : AM C w' pv n V K Cn :=
  ⟨own_blk h.ans fun b hb => hk b (h.ans.lt b hb).1 (h.ans.lt b hb).2 (.inl hb), fun j hj => own_blk (h.row j hj) fun b hb => hk b ((h.row j hj).lt b hb).1 ((h.row j hj).lt b hb).2 (.inr ⟨j, hj, hb⟩), h.apl, h.apart⟩
theorem AM.grown {C g : Nat} {w w' : World} {pv : Value} {n : Nat} {V : Nat → Value} {K : Nat → Bool} {Cn : Nat → List Int} (h : AM C w pv n V K Cn) (hg : w.grownBy w' (some g)) (hgC : g < C) : AM C w' pv n V K Cn :=
  h.keep fun b h1 h2 _ => hg.block b h2 (by simp; omega)
end Go.Proofs.YtoiabanpnkpbhaaGreatDoor

namespace Go.Proofs.YtoiabanpnkpbhaaGreatDoor
open Go.RowKit

/-- what Answers makes of right answers -/
def AnR (P : Int) (rows : List (List Int)) (wrong silent : Nat) (L : List (Bool × List Int)) (bad : List Int) : Prop :=
  L.length = rows.length ∧ (∀ j (h : j < L.length), L[j].1 = true → L[j].2.length = (gr rows j).length ∧ els P L[j].2 = true) ∧ inc bad ∧
    (∀ x, x ∈ bad ↔ ∃ j, ∃ h : j < L.length, L[j].1 = true ∧ x = (j : Int) + 1 ∧ L[j].2 ≠ gr rows j) ∧ bad.length ≤ wrong ∧ rows.length ≤ knL L + silent
end Go.Proofs.YtoiabanpnkpbhaaGreatDoor
