/- Joined: Ac Od Ct Hp. -/
import Derived.Deep.AppendSrc
import Derived.Deep.Upon
import Derived.Test.YtbgabipngdillaaGreatDoorZ12
import Derived.Test.YtbgabipngdillaaGreatDoorZ15
import Derived.Test.YtbgabipngdillaaGreatDoorZ04
import Derived.Test.YtbgabipngdillaaGreatDoorZ13
namespace Go.Proofs.YtbgabipngdillaaGreatDoor
open Go.RowKit

theorem run_append_cut {P : Program} (W : World) (t ty e : TypeId) (ht : P.underlying t = some (.slice e)) (hinfo : (P.info? e).map (fun i => (i.zero, i.size, i.bytes)) = some (some (.int .i64 0), 1, 8))
    (X Y : Option Nat) (A : Option Addr) (k : Nat) (src : Value) (l1 l2 : List Int) (hk : l1.length = k) (h1 : SX W X Y (.slice A k k) l1) (h2 : SI W src l2) (hb : l1.length + l2.length ≤ 1000000)
    (hX : ∀ b, X = some b → b < W.heap.size) (hY : ∀ b, Y = some b → b < W.heap.size) :
    ∃ A' c' w', (Builtin.append_ #[t, t] ty #[.slice A k k, src]).run P W = .ok (.slice A' (l1 ++ l2).length c') w' ∧ Below W.heap.size W w' ∧ SX w' X Y (.slice A' (l1 ++ l2).length c') (l1 ++ l2) := by
  obtain ⟨i0, hi0, hz0, hz1, hz2⟩ := info_parts hinfo
  subst hk
  obtain ⟨As, cs, rfl, hcs, hms, hrs, has⟩ := h2
  have hsrc : Src P i0.size t (.slice As l2.length cs) l2.length (l2.map (Value.int .i64)) W := by
    rw [hz1]
    rcases Nat.eq_zero_or_pos l2.length with h0 | h0
    · have hl2 : l2 = [] := List.eq_nil_of_length_eq_zero h0
      subst hl2
      cases As with
      | none => exact Src.ofNil W ht cs
      | some a => exact Src.ofSlice W ht a 0 cs [] (by simp) (by simp) (by simp)
    · obtain ⟨b, off, rfl, hbl, hcell⟩ := has h0
      refine Src.ofSlice W ht ⟨b, off, none⟩ _ cs _ (by simp) (fun j u hu => ?_) (fun u hu => by obtain ⟨x, _, rfl⟩ := List.mem_map.1 hu; rfl)
      have hj : j < l2.length := by
        rcases Nat.lt_or_ge j l2.length with h | h
        · exact h
        · rw [List.getElem?_eq_none (by simpa using h)] at hu; cases hu
      have ha : (⟨b, off, none⟩ : Addr).add j = ⟨b, off + j, none⟩ := by unfold Addr.add; split <;> simp_all
      rw [ha, hcell j hj]
      simpa [hj] using hu
  rcases Nat.eq_zero_or_pos l2.length with h0 | h0
  · have hl2 : l2 = [] := List.eq_nil_of_length_eq_zero h0
    subst hl2
    refine ⟨A, l1.length, W, ?_, Below.refl _ _, by simpa using h1⟩
    have := run_append_nothing (P := P) W t t ty e i0 ht hi0 A l1.length l1.length (Nat.le_refl _) _ hsrc
    simpa using this
  · obtain ⟨A1, c1, e1, hc1, hm1, hr1, ha1⟩ := h1
    injection e1 with e1 e2 e3
    subst e1
    have hold : (Builtin.firstCells i0.size l1.length (.slice A l1.length l1.length)).run P W.drew = .ok (l1.map (Value.int .i64)).toArray W.drew := by
      rw [hz1]
      rcases Nat.eq_zero_or_pos l1.length with hz | hz
      · have hl1 : l1 = [] := List.eq_nil_of_length_eq_zero hz
        subst hl1
        cases A with
        | none => exact run_firstCells_none W.drew 1 0 0 0
        | some a => exact run_firstCells_some W.drew 1 0 a 0 0 [] (by simp) (by simp)
      · obtain ⟨b, off, rfl, hbl, _, _, hcell⟩ := ha1 hz
        refine run_firstCells_some W.drew 1 _ ⟨b, off, none⟩ _ _ _ (by simp) (fun j u hu => ?_)
        have hj : j < l1.length := by
          rcases Nat.lt_or_ge j l1.length with h | h
          · exact h
          · rw [List.getElem?_eq_none (by simpa using h)] at hu; cases hu
        have ha : (⟨b, off, none⟩ : Addr).add j = ⟨b, off + j, none⟩ := by unfold Addr.add; split <;> simp_all
        rw [ha]
        have h3 : W.cell? ⟨b, off + j, none⟩ = some (.int .i64 l1[j]) := hcell j hj
        have h4 : W.drew.cell? ⟨b, off + j, none⟩ = some (.int .i64 l1[j]) := h3
        rw [h4]
        simpa [hj] using hu
    have hfit : Builtin.nextslicecap (l1.length + l2.length) l1.length * i0.bytes ≤ 281474976710656 := by
      rw [hz2]
      have := nextslicecap_le (need := l1.length + l2.length) (old := l1.length) (by omega)
      omega
    have hrun := run_append_grow_src (P := P) W t t ty e i0 _ ht hi0 hz0 A l1.length l1.length _ hold _ _ _ hsrc (by omega) (by omega) hfit
    have hge := grownCap_ge W (l1.length + l2.length) l1.length e
    have hle := grownCap_le_maxLen W (l1.length + l2.length) l1.length e (by unfold maxLen; omega)
    have hlen : (l1 ++ l2).length = l1.length + l2.length := by simp
    refine ⟨some ⟨W.heap.size, 0, none⟩, _, _, by rw [hlen]; exact hrun, ?_, ?_⟩
    · exact ((Below.refl _ W).drew).alloc (Nat.le_refl _) _
    · refine ⟨_, _, rfl, by rw [hlen]; exact hge, by unfold maxLen at hle; omega, fun x hx => ?_, fun _ => ⟨W.heap.size, 0, rfl, by simp, fun e => by have := hX _ e.symm; omega, fun e => by have := hY _ e.symm; omega, fun j hj => ?_⟩⟩
      · rcases List.mem_append.1 hx with h | h
        · exact hr1 x h
        · exact hrs x h
      · have hn := heap_alloc_new W.drew (.cells ((l1.map (Value.int .i64) ++ l2.map (Value.int .i64)).toArray ++ Builtin.zeroCells (Value.int .i64 0).cells (grownCap W (l1.length + l2.length) l1.length e - (l1.length + l2.length))) e)
        rw [cell_of_row _ W.heap.size (0 + j) _ _ _ hn, Nat.zero_add]
        rw [Array.getElem?_append_left (by simp; omega)]
        rw [← List.map_append, List.getElem?_toArray, List.getElem?_map, List.getElem?_eq_getElem hj]
        rfl
/-- the same inside a region that draws its order -/
theorem step_append_cut {P : Program} (w : World) {ops : Array Oper} {o : Oper} {a : Act} {K : Act → World → Prop} {Q : Exit → Act → World → Prop} {E : Prop} (hgd : o.guard = none) (s x : Operand) (t : TypeId)
    (ho : o.op = .call { callee := .builtin .append, args := #[s, x], argTypes := #[t, t] })
    (e : TypeId) (ht : P.underlying t = some (.slice e)) (hinfo : (P.info? e).map (fun i => (i.zero, i.size, i.bytes)) = some (some (.int .i64 0), 1, 8))
    (X Y : Option Nat) (A : Option Addr) (k : Nat) (src : Value) (l1 l2 : List Int) (hs : a.eval s = .slice A k k) (hx : a.eval x = src) (hk : l1.length = k) (h1 : SX w X Y (.slice A k k) l1) (h2 : SI w src l2) (hb : l1.length + l2.length ≤ 1000000)
    (hX : ∀ b, X = some b → b < w.heap.size) (hY : ∀ b, Y = some b → b < w.heap.size)
    (h : ∀ A' c' w', Below w.heap.size w w' → SX w' X Y (.slice A' (l1 ++ l2).length c') (l1 ++ l2) → K (a.put o.dst (.slice A' (l1 ++ l2).length c')) w') :
    if Region.wanted o (yielded ops a.tmps) = true then Oper.wp P o a w K Q else E := by
  have hw : Region.wanted o (yielded ops a.tmps) = true := by simp [Region.wanted, hgd]
  rw [if_pos hw]
  obtain ⟨A', c', w', hrun, hbel, hsx⟩ := run_append_cut (P := P) w t o.type e ht hinfo X Y A k src l1 l2 hk h1 h2 hb hX hY
  unfold Oper.wp execOp
  simp only [ho, resolve, invoke, builtin, Sem.run_bind, Sem.run_pure, Result.andThen_ok, List.map_toArray, List.map_cons, List.map_nil, hs, hx, hrun]
  exact h A' c' w' hbel hsx
end Go.Proofs.YtbgabipngdillaaGreatDoor

namespace Go.Proofs.YtbgabipngdillaaGreatDoor
open Go.RowKit

def nums (n : Nat) : List Int := (List.range n).map fun (j : Nat) => (j : Int)
theorem nums_succ (n : Nat) : nums (n + 1) = nums n ++ [(n : Int)] := by
  unfold nums
  rw [List.range_succ, List.map_append]; rfl
theorem nums_len (n : Nat) : (nums n).length = n := by unfold nums; simp
theorem nums_bd (n : Nat) : ∀ x ∈ nums n, 0 ≤ x ∧ x < (n : Int) := by
  intro x hx
  obtain ⟨j, hj, rfl⟩ := List.mem_map.1 hx
  have := List.mem_range.1 hj
  omega
theorem nums_nodup (n : Nat) : (nums n).Nodup := by
  unfold nums
  rw [List.Nodup, List.pairwise_map]
  exact List.Pairwise.imp (fun h e => h (by omega)) List.nodup_range
theorem nums_r {n : Nat} (hn : n ≤ 1000) : ∀ x ∈ nums n, i64r x := fun x hx => by have := nums_bd n x hx; unfold i64r; omega
theorem perm_step {O R L : List Int} {k : Nat} (hk : k < R.length) (h : (O ++ R).Perm L) : ((O ++ [R[k]]) ++ (R.take k ++ R.drop (k + 1))).Perm L := by
  refine List.Perm.trans ?_ h
  rw [List.append_assoc]
  refine List.Perm.append_left O ?_
  have e : R = R.take k ++ R[k] :: R.drop (k + 1) := by
    rw [← List.drop_eq_getElem_cons hk, List.take_append_drop]
  have h2 : (R[k] :: (R.take k ++ R.drop (k + 1))).Perm (R.take k ++ R[k] :: R.drop (k + 1)) := List.perm_middle.symm
  exact h2.trans (List.Perm.of_eq e.symm)
def Od1 (n B : Nat) (w0 : World) (v i : Value) (wr : World) : Prop := ∃ k : Nat, k ≤ n ∧ i = .int .i64 k ∧ wr.ownsRow B 3 1 v (nums k).length ((nums k).map (Value.int .i64)) ∧ Below B w0 wr
def Od2 (n g B : Nat) (w0 : World) (rv ov : Value) (wr : World) : Prop :=
  ∃ (vr vo : Value) (R O : List Int), vr = rv ∧ vo = ov ∧ (O ++ R).Perm (nums n) ∧ wr.ownsRow B 3 1 vo O.length (O.map (Value.int .i64)) ∧ SX wr (some g) vo.ownBlock vr R ∧ Dk wr g ∧ w0.grownBy wr (some g) ∧ B ≤ wr.heap.size
def lenV : Value → Nat | .slice _ n _ => n | _ => 0
set_option maxRecDepth 100000 in
set_option maxHeartbeats 4000000 in
theorem order_any (n g : Nat) (w : World) (hD : Dk w g) (hn : n ≤ 1000) :
    Calls Tryz.prog 15 #[.pointer (some ⟨g, 0, none⟩), .int .i64 n] w fun e w' => ∃ (v : Value) (O : List Int), e = .returned v ∧ O.Perm (nums n) ∧ w'.ownsRow w.heap.size 3 1 v O.length (O.map (Value.int .i64)) ∧ Dk w' g ∧ w.grownBy w' (some g) := by
  have HD := Lib.hid hD
  have hgw : g < w.heap.size := hD.lt
  obtain ⟨B, eB⟩ : ∃ B, B = w.heap.size := ⟨_, rfl⟩
  have HEB := Lib.hid eB
  rw [← eB] at hgw ⊢
  clear hD
  obtain ⟨i0, hi0, hi1, hi2, hi3⟩ := info_parts iinfo
  go_enter Tryz.func15, Tryz.ntmps15
  go_wp2_with fail
  clear eB
  go_loopw [5, 10] (fun v i wr => Od1 n B w v i wr) (fun _ i _ => n - (intOf i).toNat)
  case atStart => exact ⟨0, Nat.zero_le _, rfl, by simpa [nums] using World.ownsRow_nil w B 3 1, Below.refl _ _⟩
  case round =>
    obtain ⟨k, hk, rfl, hown, hbel⟩ := hrel
    obtain ⟨A, c, rfl⟩ := own_sl hown
    have HO := Lib.hid hown
    have HB := Lib.hid hbel
    have hBr : B ≤ wr.heap.size := by have := hbel.size; have := HEB.out; omega
    clear hown hbel
    by_cases hlt : k < n
    · have dk : decide (k < n) = true := decide_eq_true hlt
      have hl : (nums k).length ≤ 1000 := by rw [nums_len]; omega
      obtain ⟨D, hD⟩ : ∃ D, D = nums k := ⟨_, rfl⟩
      rw [← hD] at HO hl ⊢
      have HSN : Hid (nums (k + 1) = D ++ [(k : Int)]) := (show Hid _ from by show _ = _; rw [nums_succ, ← hD])
      clear hD
      go_wp2_with (at_builtin; refine wpList_append_int1 _ rfl _ _ 22 rfl B 3 Tryz.underlying22 iinfo _ D rfl HO.out (k : Int) rfl (by omega) hBr ?_; intro v3 w3 hown3 hg3; have HO3 := Lib.hid hown3; have HG3 := Lib.hid hg3; clear hown3 hg3)
      go_roundw
      case rel =>
        refine ⟨k + 1, by omega, by go_num, by rw [HSN.out]; exact HO3.out, ?_⟩
        exact (HB.out.alloc hBr _).grown HG3.out (by simp; omega) (fun k hk => (HO.out.lt k hk).1)
      case measure => simp [intOf]; omega
    · have dk : decide (k < n) = false := decide_eq_false hlt
      have hkn : k = n := by omega
      rw [hkn] at HO ⊢
      have HGr : Hid (w.grownBy wr (some g)) := (show Hid _ from grownBy_of_below (by rw [← HEB.out]; exact HB.out) _)
      have HDr : Hid (Dk wr g) := (show Hid _ from HD.out.below (by rw [← HEB.out]; exact HB.out))
      have HSX : Hid (SX wr (some g) (Value.slice none 0 0).ownBlock (.slice A (nums n).length c) (nums n)) := (show Hid _ from SX.of_own HO.out (nums_r hn) (fun k hk => by injection hk with e; omega) (fun k hk => by simp [Value.ownBlock] at hk))
      clear hkn hlt
      go_wp2_with fail
      go_loopw [5, 6] (fun rv ov wz => Od2 n g B w rv ov wz) (fun rv _ _ => lenV rv)
      case atStart => exact ⟨_, _, nums n, [], rfl, rfl, by simp, World.ownsRow_nil _ _ _ _, HSX.out, HDr.out, HGr.out, hBr⟩
      case round =>
        obtain ⟨vr, vo, R, O, rfl, rfl, hperm, hown, hsx, hd, hgr, hB⟩ := hrel
        obtain ⟨Ar, cr, rfl⟩ := hsx.si.form
        obtain ⟨Ao, co, rfl⟩ := own_sl hown
        have HP := Lib.hid hperm
        have HOO := Lib.hid hown
        have HSR := Lib.hid hsx
        have HDD := Lib.hid hd
        have HGG := Lib.hid hgr
        have hln : O.length + R.length = n := by have := hperm.length_eq; rw [List.length_append, nums_len] at this; exact this
        clear hperm hown hsx hd hgr
        by_cases hlt : 0 < R.length
        · have dr : decide (0 < R.length) = true := decide_eq_true hlt
          have dr2 : decide ((0 : Int) < (R.length : Int)) = true := decide_eq_true (by omega)
          have ri : i64r (R.length : Int) := by unfold i64r; omega
          have ri2 : (R.length : Int) ≤ 4611686018427387904 := by omega
          go_wp2_with fail
          (with_reducible refine (next_any (R.length : Int) g wr HDD.out ri ri2).mono ?_)
          rintro e w1 ⟨x, rfl, _, hx, hd1, hg1⟩
          obtain ⟨hx1, hx2⟩ := hx (by omega)
          obtain ⟨k, rfl⟩ : ∃ k : Nat, x = k := ⟨x.toNat, by omega⟩
          have hkR : k < R.length := by omega
          have HD1 := Lib.hid hd1
          have HG1 := Lib.hid hg1
          have hob : ∀ b, (Value.slice Ao O.length co).ownBlock = some b → B ≤ b ∧ b < wr.heap.size := HOO.out.lt
          have HO1 : Hid (w1.ownsRow B 3 1 (.slice Ao O.length co) O.length (O.map (Value.int .i64))) := (show Hid _ from own_blk HOO.out fun b hb => hg1.block b (hob b hb).2 (by have := (hob b hb).1; simp; omega))
          have HS1 : Hid (SX w1 (some g) (Value.slice Ao O.length co).ownBlock (.slice Ar R.length cr) R) := (show Hid _ from HSR.out.keep hg1.size fun b hb h1 h2 => ⟨hg1.block b hb h1, h1, h2⟩)
          have HSI1 : Hid (SI w1 (.slice Ar R.length cr) R) := HS1.out.si
          obtain ⟨A', c', e', hrc, hcm, _, har⟩ := HS1.out
          injection e' with e1 e2 e3
          subst e1
          subst e3
          obtain ⟨br, orr, rfl, hbr, hbg, hbo, hcell⟩ := har hlt
          have ck := hcell k hkR
          have HPS : Hid (((O ++ [R[k]]) ++ (R.take k ++ R.drop (k + 1))).Perm (nums n)) := perm_step hkR HP.out
          have hxr : i64r R[k] := by
            have h1 : R[k] ∈ nums n := HP.out.mem_iff.1 (List.mem_append.2 (.inr (List.getElem_mem hkR)))
            exact nums_r hn _ h1
          obtain ⟨y, ey⟩ : ∃ y, y = R[k] := ⟨_, rfl⟩
          rw [← ey] at ck HPS hxr
          have hB1 : B ≤ w1.heap.size := by have := hg1.size; omega
          have z1 : (0 : Int) ≤ (k : Int) := by omega
          have z2 : (k : Int) < (R.length : Int) := by omega
          have z3 : (k : Int) ≤ (R.length : Int) := by omega
          have z4 : (k : Int) ≤ (cr : Int) := by omega
          have z5 : (k : Int) + 1 ≤ (R.length : Int) := by omega
          have z6 : IntKind.i64.wrap ((k : Int) + 1) = (k : Int) + 1 := by exact IntWalk.i64_in _ (by omega)
          have hOl : O.length ≤ 1000 := by omega
          clear hx hx1 hd1 hg1 hob har hcell ey dr dr2 ri ri2
          go_wp2_with (at_builtin; refine wpList_append_own_at _ rfl _ _ 22 rfl B 3 i0 _ 1 8 Tryz.underlying22 hi0 hi1 hi2 hi3 rfl (by omega) _ _ _ rfl (HO1.out.alloc _) ⟨w1.heap.size, 0, none⟩ 1 1 [.int .i64 y] rfl rfl (cells_new w1 _ _) (by intro u hu; simp at hu; subst hu; rfl) (by unfold maxLen; omega) (by omega) (by simp; omega) ?_; intro v3 w3 hown3 hg3 _ hat3; have HO3 := Lib.hid hown3; have HG3 : Hid ((w1.alloc (.cells #[.int .i64 y] 3)).grownBy w3 (Value.slice Ao O.length co).ownBlock) := (show Hid _ from hg3); have HA3 : Hid (v3.ownBlock = (Value.slice Ao O.length co).ownBlock ∨ v3.ownBlock = some (w1.alloc (.cells #[.int .i64 y] 3)).heap.size) := (show Hid _ from hat3); clear hown3 hg3 hat3)
          have hal : Below w1.heap.size w1 (w1.alloc (.cells #[.int .i64 y] 3)) := (Below.refl _ w1).alloc (Nat.le_refl _) _
          have hsz1 : (w1.alloc (.cells #[.int .i64 y] 3)).heap.size = w1.heap.size + 1 := by simp
          have HS3 : Hid (SX w3 (some g) v3.ownBlock (.slice (some ⟨br, orr, none⟩) R.length cr) R) := (show Hid _ from (HS1.out.keep (X' := some g) (Y' := (Value.slice Ao O.length co).ownBlock) hal.size fun b hb h1 h2 => ⟨hal.block b hb, h1, h2⟩).keep HG3.out.size fun b hb h1 h2 => ⟨HG3.out.block b hb h2, h1, fun e => by
            rcases HA3.out with h3 | h3
            · exact h2 (by rw [e, h3])
            · rw [h3] at e; injection e with e; omega⟩)
          have HTK : Hid (SX w3 (some g) v3.ownBlock (.slice (some ⟨br, orr, none⟩) k k) (R.take k)) := (show Hid _ from by
            obtain ⟨A2, c2, e2, _, hcm2, hr2, ha2⟩ := HS3.out
            injection e2 with e21 e22 e23
            have htl : (R.take k).length = k := by rw [List.length_take]; omega
            refine ⟨_, k, by rw [htl], by rw [htl]; exact Nat.le_refl _, by omega, fun x hx => hr2 x (List.mem_of_mem_take hx), fun h0 => ?_⟩
            obtain ⟨b2, o2, e3, hb2, hx2, hy2, hc2⟩ := ha2 (by omega)
            rw [← e21] at e3
            injection e3 with e3
            injection e3 with e31 e32
            subst e31 e32
            refine ⟨br, orr, rfl, hb2, hx2, hy2, fun j hj => ?_⟩
            rw [hc2 j (by rw [htl] at hj; omega)]
            simp)
          have HTL : Hid (SI w3 (.slice (some ⟨br, orr + (k + 1), none⟩) (R.length - (k + 1)) (cr - (k + 1))) (R.drop (k + 1))) := (show Hid _ from by
            obtain ⟨A2, c2, e2, hcl2, hcm2, hr2, ha2⟩ := HS3.out
            injection e2 with e21 e22 e23
            have htl : (R.drop (k + 1)).length = R.length - (k + 1) := List.length_drop
            refine ⟨_, cr - (k + 1), by rw [htl], by rw [htl]; omega, by omega, fun x hx => hr2 x (List.mem_of_mem_drop hx), fun h0 => ?_⟩
            obtain ⟨b2, o2, e3, hb2, hx2, hy2, hc2⟩ := ha2 (by omega)
            rw [← e21] at e3
            injection e3 with e3
            injection e3 with e31 e32
            subst e31 e32
            refine ⟨br, orr + (k + 1), rfl, hb2, fun j hj => ?_⟩
            rw [htl] at hj
            rw [Nat.add_assoc, hc2 (k + 1 + j) (by omega)]
            simp)
          have hg3s : g < w3.heap.size := by have := HG3.out.size; omega
          have hv3b : ∀ b, v3.ownBlock = some b → b < w3.heap.size := fun b hb => (HO3.out.lt b hb).2
          have HV3 := Lib.hid hv3b
          have HB3 : Hid (w.grownBy w3 (some g)) := (show Hid _ from grownBy_own (grownBy_trans (grownBy_trans HGG.out HG1.out) (World.grownBy_alloc w1 _ _)) HG3.out (fun k hk => by have := (HO1.out.lt k hk).1; have := HEB.out; omega))
          have HD3 : Hid (Dk w3 g) := (show Hid _ from (HD1.out.alloc _).grown HG3.out (fun k hk => by have := (HO1.out.lt k hk).1; omega))
          have htl : (R.take k).length = k := by rw [List.length_take]; omega
          have HTKL := Lib.hid htl
          have hsum : (R.take k).length + (R.drop (k + 1)).length ≤ 1000000 := by rw [List.length_drop, htl]; omega
          have HLEN : Hid ((R.take k ++ R.drop (k + 1)).length < R.length) := (show Hid _ from by show _ < _; rw [List.length_append, List.length_drop, htl]; omega)
          have HO3b : Hid (w3.ownsRow B 3 1 v3 (O ++ [y]).length ((O ++ [y]).map (Value.int .i64))) := (show Hid _ from by
            have h := HO3.out
            rw [List.length_append, List.map_append]; exact h)
          have hB3 : B ≤ w3.heap.size := by have := HG3.out.size; omega
          have HFIN : Hid (∀ (A' : Option Addr) (c' : Nat) (w' : World), Below w3.heap.size w3 w' → SX w' (some g) v3.ownBlock (.slice A' (R.take k ++ R.drop (k + 1)).length c') (R.take k ++ R.drop (k + 1)) → Od2 n g B w (.slice A' (R.take k ++ R.drop (k + 1)).length c') v3 w') := (show Hid _ from fun A' c' w' hb hs =>
            ⟨_, _, R.take k ++ R.drop (k + 1), O ++ [y], rfl, rfl, HPS.out, own_bel HO3b.out hb, hs, HD3.out.below hb, grownBy_trans HB3.out (grownBy_of_below hb _), by have := hb.size; omega⟩)
          have z7 : (0 : Int) ≤ (k : Int) + 1 := by omega
          clear hv3b htl hal hsz1 z2
          by_cases hck : cr = k + 1
          · have HTL0 : Hid (SI w3 (.slice (some ⟨br, orr, none⟩) (R.length - (k + 1)) (cr - (k + 1))) (R.drop (k + 1))) := (show Hid _ from by
              have hl : (R.drop (k + 1)).length = R.length - (k + 1) := List.length_drop
              have h0 : R.length - (k + 1) = 0 := by omega
              refine ⟨_, cr - (k + 1), by rw [hl], by rw [hl]; omega, by omega, fun x hx => ?_, fun h => by omega⟩
              have : R.drop (k + 1) = [] := List.eq_nil_of_length_eq_zero (by omega)
              rw [this] at hx; cases hx)
            have hck' : (cr = k + 1) = True := eq_true hck
            clear hck
            go_region_law (refine step_append_cut _ (by rfl) (.tmp 35) _ 22 (by rfl) 3 Tryz.underlying22 iinfo (some g) v3.ownBlock (some ⟨br, orr, none⟩) k (.slice (some ⟨br, orr, none⟩) (R.length - (k + 1)) (cr - (k + 1))) (R.take k) (R.drop (k + 1)) (by simp [Act.eval, Act.put, go_sem]) (by simp [Act.eval, Act.put, go_sem]) (by exact HTKL.out) (by exact HTK.out) (by exact HTL0.out) (by exact hsum) (by intro b hb; injection hb with e; subst e; exact hg3s) (by exact HV3.out) ?_; intro A9 c9 w9 hb9 hs9; have HB9 : Hid (Below w3.heap.size w3 w9) := (show Hid _ from ⟨hb9.os, hb9.tape, hb9.output, hb9.size, hb9.block⟩); have HS9 := Lib.hid hs9; clear hb9 hs9)
            all_goals
              go_wp2_with fail
              simp only [Act.put, List.getElem_toArray, List.getElem_cons_succ, List.getElem_cons_zero]
              go_roundw
              case rel =>
                have h := HFIN.out _ _ _ HB9.out HS9.out
                simpa using h
              case measure =>
                have h := HLEN.out
                simpa [lenV] using h
          · go_region_law (refine step_append_cut _ (by rfl) (.tmp 35) _ 22 (by rfl) 3 Tryz.underlying22 iinfo (some g) v3.ownBlock (some ⟨br, orr, none⟩) k (.slice (some ⟨br, orr + (k + 1), none⟩) (R.length - (k + 1)) (cr - (k + 1))) (R.take k) (R.drop (k + 1)) (by simp [Act.eval, Act.put, go_sem]) (by simp [Act.eval, Act.put, go_sem]) (by exact HTKL.out) (by exact HTK.out) (by exact HTL.out) (by exact hsum) (by intro b hb; injection hb with e; subst e; exact hg3s) (by exact HV3.out) ?_; intro A9 c9 w9 hb9 hs9; have HB9 : Hid (Below w3.heap.size w3 w9) := (show Hid _ from ⟨hb9.os, hb9.tape, hb9.output, hb9.size, hb9.block⟩); have HS9 := Lib.hid hs9; clear hb9 hs9)
            all_goals
              go_wp2_with fail
              simp only [Act.put, List.getElem_toArray, List.getElem_cons_succ, List.getElem_cons_zero]
              go_roundw
              case rel =>
                have h := HFIN.out _ _ _ HB9.out HS9.out
                simpa using h
              case measure =>
                have h := HLEN.out
                simpa [lenV] using h
        · have dr : decide (0 < R.length) = false := decide_eq_false hlt
          have dr2 : decide ((0 : Int) < (R.length : Int)) = false := decide_eq_false (by omega)
          have hR0 : R = [] := List.eq_nil_of_length_eq_zero (by omega)
          have HF : Hid (O.Perm (nums n)) := (show Hid _ from by have := HP.out; rw [hR0, List.append_nil] at this; exact this)
          clear hR0
          go_wp2_with fail
          go_ret
          exact ⟨_, O, rfl, HF.out, HOO.out, HDD.out, HGG.out⟩
end Go.Proofs.YtbgabipngdillaaGreatDoor

namespace Go.Proofs.YtbgabipngdillaaGreatDoor
open Go.RowKit

theorem rep_get (K j : Nat) (h : j < (List.replicate K (5 : Int)).length) : (List.replicate K (5 : Int))[j] = 5 := by simp
theorem five_le {k : Nat} (h : k ≤ 4) : (5 : Int) ^ k ≤ 625 := by
  match k, h with
  | 0, _ => decide
  | 1, _ => decide
  | 2, _ => decide
  | 3, _ => decide
  | 4, _ => decide
theorem five_pos (k : Nat) : (1 : Int) ≤ 5 ^ k := by
  induction k with
  | zero => decide
  | succ k ih => rw [Int.pow_succ]; omega
theorem rep_cells {w : World} {A : Option Addr} {n c K : Nat} (h : SI w (.slice A n c) (List.replicate K 5)) (h0 : 0 < K) : ∃ b off, A = some ⟨b, off, none⟩ ∧ b < w.heap.size ∧ ∀ j, j < K → w.cell? ⟨b, off + j, none⟩ = some (.int .i64 5) := by
  obtain ⟨b, off, e, hb, hc⟩ := SB.cells h (by simpa using h0)
  exact ⟨b, off, e, hb, fun j hj => by rw [hc j (by simpa using hj), rep_get]⟩
set_option maxRecDepth 100000 in
theorem count5_any (K : Nat) (v : Value) (w : World) (hK : K ≤ 4) (h : SI w v (List.replicate K 5)) :
    Calls Tryz.prog 14 #[v] w fun e w' => e = .returned (.tuple #[.int .i64 (5 ^ K), .int .i64 0]) ∧ w = w' := by
  have HS := Lib.hid h
  obtain ⟨A, c, rfl⟩ := h.form'
  rw [List.length_replicate] at HS ⊢
  clear h
  have d1 : decide (16384 < (K : Int)) = false := decide_eq_false (by omega)
  have d2 : decide (16384 < K) = false := decide_eq_false (by omega)
  go_enter Tryz.func14, Tryz.ntmps14
  go_wp2_with fail
  go_loopw [4, 12] (fun s i wr => ∃ k : Nat, k ≤ K ∧ i = .int .i64 k ∧ s = .int .i64 (5 ^ k) ∧ w = wr) (fun _ i _ => K - (intOf i).toNat)
  case atStart => exact ⟨0, Nat.zero_le _, rfl, rfl, rfl⟩
  case round =>
    obtain ⟨k, hk, rfl, rfl, rfl⟩ := hrel
    by_cases hlt : k < K
    · have dk : decide (k < K) = true := decide_eq_true hlt
      obtain ⟨b, off, rfl, hb, hcell⟩ := rep_cells HS.out (by omega)
      have ck := hcell k hlt
      have HP : Hid ((5 : Int) ^ k * 5 = 5 ^ (k + 1)) := (Int.pow_succ 5 k).symm
      have hp1 := five_le (k := k) (by omega)
      have hp2 := five_pos k
      obtain ⟨p, ep⟩ : ∃ p : Int, p = 5 ^ k := ⟨_, rfl⟩
      rw [← ep] at HP hp1 hp2 ⊢
      have hq : Int.tdiv 1099511627776 5 = 219902325555 := by decide
      have d3 : decide (219902325555 < p) = false := decide_eq_false (by omega)
      have w1 : IntKind.i64.wrap (p * 5) = p * 5 := by exact IntWalk.i64_in _ (by omega)
      clear hcell ep
      go_wp2_with fail
      go_roundw
      case rel => exact ⟨k + 1, by omega, by go_num, by rw [HP.out], by simp⟩
      case measure => simp [intOf]; omega
    · have dk : decide (k < K) = false := decide_eq_false hlt
      obtain rfl : k = K := by omega
      go_wp2_with fail
      refine bodyPost_ret (results_tmp2 rfl _ _ _) rfl ?_
      exact ⟨rfl, rfl⟩

def digs (K N : Nat) : List Int := (List.range K).map fun j => ((N / 5 ^ j % 5 : Nat) : Int)
theorem digs_len (K N : Nat) : (digs K N).length = K := by simp [digs]
theorem digs_succ (K N : Nat) : digs (K + 1) N = digs K N ++ [((N / 5 ^ K % 5 : Nat) : Int)] := by
  unfold digs
  rw [List.range_succ, List.map_append]; rfl
theorem digs_els (K N : Nat) : els 5 (digs K N) = true := els_of fun x hx => by
  obtain ⟨j, _, rfl⟩ := List.mem_map.1 hx
  have := Nat.mod_lt (N / 5 ^ j) (show 0 < 5 by omega)
  exact decide_eq_true ⟨by omega, by omega⟩
def AtR (K N O : Nat) (w2 : World) (nv iv : Value) (wr : World) : Prop :=
  ∃ (k : Nat) (v : Value), k ≤ K ∧ iv = .int .i64 k ∧ nv = .int .i64 ((N / 5 ^ k : Nat) : Int) ∧ TAc O v (digs k N) wr ∧ Below O w2 wr
set_option maxRecDepth 100000 in
set_option maxHeartbeats 4000000 in
theorem at5_any (K N : Nat) (v : Value) (w : World) (hK : K ≤ 4) (hN : (N : Int) < 5 ^ K) (h : SI w v (List.replicate K 5)) :
    Calls Tryz.prog 16 #[v, .int .i64 N] w fun e w' => ∃ v1, e = .returned (.tuple #[.agg #[v1, .int .i64 0], .int .i64 0]) ∧ Below w.heap.size w w' ∧ w'.ownsRow w.heap.size 3 1 v1 (digs K N).length ((digs K N).map (Value.int .i64)) := by
  have HS := Lib.hid h
  obtain ⟨A, c, rfl⟩ := h.form'
  rw [List.length_replicate] at HS ⊢
  have hN5 := five_le hK
  obtain ⟨T, eT⟩ : ∃ T : Int, T = 5 ^ K := ⟨_, rfl⟩
  rw [← eT] at hN hN5
  have HT := Lib.hid eT
  clear h eT
  have d1 : decide ((N : Int) < 0) = false := decide_eq_false (by omega)
  have d2 : decide (T ≤ (N : Int)) = false := decide_eq_false (by omega)
  go_enter Tryz.func16, Tryz.ntmps16
  obtain ⟨R, eR⟩ : ∃ R, R = w.heap.size := ⟨_, rfl⟩
  obtain ⟨w1, ew1⟩ : ∃ w1 : World, w1 = w.alloc (.cells #[.slice none 0 0, .int .i64 0] 39) := ⟨_, rfl⟩
  have HW1 : Hid (w.alloc (.cells #[.slice none 0 0, .int .i64 0] 39) = w1) := ew1.symm
  have HR1 : Hid (w1.heap[R]? = some (.cells #[.slice none 0 0, .int .i64 0] 39 (0, 0))) := (show Hid _ from by show _ = _; rw [ew1, eR]; exact heap_alloc_new w _)
  have HB1 : Hid (Below w.heap.size w w1) := (show Hid _ from by rw [ew1]; exact (Below.refl _ w).alloc (Nat.le_refl _) _)
  have hz1 : w1.heap.size = R + 1 := by rw [ew1, eR]; simp
  have HS1 := Lib.hid (HS.out.below HB1.out)
  have HER := Lib.hid eR
  have HZ1 := Lib.hid hz1
  clear ew1 hz1
  go_upto_region 1 with fail
  rw [HW1.out, ← eR]
  clear eR
  go_wp2_with fail
  (with_reducible refine (count5_any K _ w1 hK HS1.out).mono ?_)
  rintro e wz ⟨rfl, hwz⟩
  subst hwz
  rw [← HT.out]
  go_wp2_with fail
  obtain ⟨O, eO⟩ : ∃ O, O = w1.heap.size := ⟨_, rfl⟩
  obtain ⟨w2, ew2⟩ : ∃ w2 : World, w2 = w1.alloc (.cells #[.slice none 0 0, .int .i64 0] 39) := ⟨_, rfl⟩
  have HW2 : Hid (w1.alloc (.cells #[.slice none 0 0, .int .i64 0] 39) = w2) := ew2.symm
  have HK2 : Hid (TAc O (.slice none 0 0) [] w2) := (show Hid _ from by
    rw [ew2, eO]
    exact ⟨heap_alloc_new w1 _, World.ownsRow_nil _ _ _ _⟩)
  have HB2 : Hid (Below w1.heap.size w1 w2) := (show Hid _ from by rw [ew2]; exact (Below.refl _ w1).alloc (Nat.le_refl _) _)
  have hOR : O = R + 1 := by rw [eO]; exact HZ1.out
  have HOR := Lib.hid hOR
  have hRO : R < O := by omega
  rw [HW2.out, ← eO]
  have HEO := Lib.hid eO
  clear ew2 eO hOR
  go_loopw [1, 30] (fun s i wr => AtR K N O w2 s i wr) (fun _ i _ => K - (intOf i).toNat)
  case atStart => exact ⟨0, .slice none 0 0, Nat.zero_le _, rfl, by simp, HK2.out, Below.refl _ _⟩
  case round =>
    obtain ⟨k, va, hk, rfl, rfl, hTA, hBel⟩ := hrel
    have HTA := Lib.hid hTA
    have HBel := Lib.hid hBel
    clear hTA hBel
    by_cases hlt : k < K
    · obtain ⟨b, off, rfl, hb, hcell⟩ := rep_cells HS1.out (by omega)
      have k1 := hcell k hlt
      have HB2r : Hid (Below w1.heap.size w1 wr) := (show Hid _ from HB2.out.trans (HBel.out.mono (by rw [← HEO.out]; exact Nat.le_refl _)))
      have c1 := (HB2r.out.cell (p := ⟨b, off + k, none⟩) hb).trans k1
      have HSN : Hid (digs (k + 1) N = digs k N ++ [((N / 5 ^ k % 5 : Nat) : Int)]) := digs_succ k N
      have hnb : N / 5 ^ k ≤ 625 := Nat.le_trans (Nat.div_le_self _ _) (by omega)
      have hs' : N / 5 ^ (k + 1) = N / 5 ^ k / 5 := by rw [Nat.pow_succ, ← Nat.div_div_eq_div_mul]
      obtain ⟨s, es⟩ : ∃ s, s = N / 5 ^ k := ⟨_, rfl⟩
      obtain ⟨s2, es2⟩ : ∃ s, s = N / 5 ^ (k + 1) := ⟨_, rfl⟩
      have HS2 := Lib.hid es2
      rw [← es, ← es2] at hs'
      rw [← es] at HSN hnb ⊢
      have HDV : Hid ((s : Int).tdiv 5 = (s2 : Int)) := (show Hid _ from by
        show _ = _
        rw [Int.tdiv_eq_ediv_of_nonneg (by omega)]; omega)
      obtain ⟨y, ey⟩ : ∃ y : Int, y = ((s % 5 : Nat) : Int) := ⟨_, rfl⟩
      have m3 : (s : Int).tmod 5 = y := by rw [ey, Int.tmod_eq_emod_of_nonneg (by omega)]; omega
      rw [← ey] at HSN
      obtain ⟨ns, ens⟩ : ∃ ns, ns = digs k N := ⟨_, rfl⟩
      have hnl : ns.length ≤ 4 := by rw [ens, digs_len]; omega
      rw [← ens] at HTA HSN
      obtain ⟨dv, edv⟩ : ∃ dv : Int, dv = (s : Int).tdiv 5 := ⟨_, rfl⟩
      have m4 : (s : Int).tdiv 5 = dv := edv.symm
      have m5 : IntKind.i64.wrap dv = dv := by rw [edv, HDV.out]; exact IntWalk.i64_in _ (by omega)
      rw [m4] at HDV
      have cO0 : wr.cell? ⟨O, 0, none⟩ = some va := cell_of_row wr O 0 _ _ _ HTA.out.1
      have fO0 : wr.frozen? ⟨O, 0, none⟩ = false := frozen_of_row wr O 0 _ _ HTA.out.1
      have hOr : O < wr.heap.size := HTA.out.lt
      have hbr : b < wr.heap.size := by have := HB2r.out.size; omega
      have HREL : Hid (∀ (g9 cap9 : Nat) (w9 : World), (wr.alloc (.cells #[.int .i64 y] 3)).grownBy w9 va.ownBlock → w9.ownsRow (O + 1) 3 1 (.slice (some ⟨g9, 0, none⟩) (ns ++ [y]).length cap9) (ns ++ [y]).length ((ns ++ [y]).map (Value.int .i64)) → AtR K N O w2 (.int .i64 dv) (.int .i64 ((k : Int) + 1)) (w9.setCell ⟨O, 0, none⟩ (.slice (some ⟨g9, 0, none⟩) (ns.length + 1) cap9))) := (show Hid _ from fun g9 cap9 w9 hg ho => by
        obtain ⟨q1, q2⟩ := HTA.out.step HBel.out hg ho
        exact ⟨k + 1, _, by omega, by simp, by rw [HDV.out, HS2.out], by rw [HSN.out]; exact q1, q2⟩)
      have HFZ : Hid (∀ w9 : World, (wr.alloc (.cells #[.int .i64 y] 3)).grownBy w9 va.ownBlock → w9.frozen? ⟨O, 0, none⟩ = false) := (show Hid _ from fun w9 hg => HTA.out.frozen hg)
      have HNE : Hid (some O ≠ va.ownBlock) := HTA.out.ne
      have HOV : Hid (wr.ownsRow (O + 1) 3 1 va ns.length (ns.map (Value.int .i64))) := HTA.out.2
      have z3 : decide (k < K) = true := decide_eq_true hlt
      clear k1 hcell es es2 hs' ey ens edv
      go_upto_region 10 with fail
      go_region_law (refine step_append_int1_at _ (by rfl) (.tmp 35) _ 22 (by rfl) (O + 1) 3 Tryz.underlying22 iinfo va ns (by rfl) (by first | exact HOV.out.alloc (.cells #[.int .i64 y] 3) | exact (HOV.out.alloc (.cells #[.int .i64 y] 3)).drew) y wr.heap.size (by rfl) (by exact cells_new wr [.int .i64 y] 3 0 _ rfl) (by omega) (by simp; omega) ?_; intro g9 cap9 w9 hown9 hg9 hat9; have HG9 : Hid ((wr.alloc (.cells #[.int .i64 y] 3)).grownBy w9 va.ownBlock) := (show Hid _ from ⟨hg9.os, hg9.tape, hg9.output, hg9.size, hg9.block⟩); have HO9 := Lib.hid hown9; have cO0 : w9.cell? ⟨O, 0, none⟩ = some va := hg9.cell (cell_al (.cells #[.int .i64 y] 3) cO0) HNE.out; have fO0 : w9.frozen? ⟨O, 0, none⟩ = false := HFZ.out w9 HG9.out; clear hg9 hown9 hat9)
      all_goals
        go_wp2_with fail
        go_roundw
        case rel => exact HREL.out g9 cap9 w9 HG9.out HO9.out
        case measure => simp [intOf]; omega
    · have z3 : decide (k < K) = false := decide_eq_false hlt
      have hkK : k = K := by omega
      rw [hkK] at HTA
      obtain ⟨Av, cv, ev⟩ := own_sl HTA.out.2
      subst ev
      rw [digs_len] at HTA
      have cO0 : wr.cell? ⟨O, 0, none⟩ = some (.slice Av K cv) := cell_of_row wr O 0 _ _ _ HTA.out.1
      have cO1 : wr.cell? ⟨O, 1, none⟩ = some (.int .i64 0) := cell_of_row wr O 1 _ _ _ HTA.out.1
      have HRr : Hid (wr.heap[R]? = some (.cells #[.slice none 0 0, .int .i64 0] 39 (0, 0))) := (show Hid _ from (HBel.out.block R (by omega)).trans ((HB2.out.block R (by rw [HZ1.out]; omega)).trans HR1.out))
      have cR0 : wr.cell? ⟨R, 0, none⟩ = some (.slice none 0 0) := cell_of_row wr R 0 _ _ _ HRr.out
      have cR1 : wr.cell? ⟨R, 1, none⟩ = some (.int .i64 0) := cell_of_row wr R 1 _ _ _ HRr.out
      have fR0 : wr.frozen? ⟨R, 0, none⟩ = false := frozen_of_row wr R 0 _ _ HRr.out
      have fR1 : wr.frozen? ⟨R, 1, none⟩ = false := frozen_of_row wr R 1 _ _ HRr.out
      clear hkK
      go_wp2_with fail
      have HW := store2 (.slice Av K cv) (.int .i64 0) HRr.out
      have q0 := cell_of_row _ R 0 _ _ _ HW
      have q1 := cell_of_row _ R 1 _ _ _ HW
      simp only [List.getElem?_toArray, List.getElem?_cons_zero, List.getElem?_cons_succ] at q0 q1
      refine bodyPost_ret (v := .tuple #[.agg #[.slice Av K cv, .int .i64 0], .int .i64 0]) (by simp [results, Tryz.results16, go_sem, q0, q1]) rfl ⟨_, rfl, ?_, ?_⟩
      · have hb : Below w.heap.size w wr := (HB1.out.trans (HB2.out.mono HB1.out.size)).trans (HBel.out.mono (by have := HER.out; omega))
        exact (hb.setCell (by show _ ≤ R; have := HER.out; omega) _).setCell (by show _ ≤ R; have := HER.out; omega) _
      · have ho := HTA.out.2
        rw [digs_len] at ho ⊢
        exact own_lo (base := O + 1) (own_set3 (own_set3 ho (p := ⟨R, 0, none⟩) (by show R < O + 1; omega) _) (p := ⟨R, 1, none⟩) (by show R < O + 1; omega) _) (by have := HER.out; omega)
end Go.Proofs.YtbgabipngdillaaGreatDoor

namespace Go.Proofs.YtbgabipngdillaaGreatDoor

theorem pr5 : prB 5 = true := by kernel_rfl
/-- a list of digits as a number -/
def v5 (L : List Int) : Int := L.foldl (fun u x => u * 5 + x) 0
theorem v5_snoc (L : List Int) (x : Int) : v5 (L ++ [x]) = v5 L * 5 + x := by unfold v5; rw [List.foldl_append]; rfl
theorem v5_bd (L : List Int) (h : els 5 L = true) : 0 ≤ v5 L ∧ v5 L < 5 ^ L.length := by
  have key : ∀ (L : List Int) (a : Int) (k : Nat), (∀ x ∈ L, 0 ≤ x ∧ x < 5) → 0 ≤ a → a < 5 ^ k → 0 ≤ L.foldl (fun u x => u * 5 + x) a ∧ L.foldl (fun u x => u * 5 + x) a < 5 ^ (k + L.length) := by
    intro L
    induction L with
    | nil => intro a k _ h0 h1; exact ⟨h0, h1⟩
    | cons x L ih =>
      intro a k hx h0 h1
      have hx0 := hx x (by simp)
      have h2 : (5 : Int) ^ (k + 1) = 5 ^ k * 5 := Int.pow_succ 5 k
      have := ih (a * 5 + x) (k + 1) (fun y hy => hx y (by simp [hy])) (by omega) (by omega)
      have e : k + 1 + L.length = k + (x :: L).length := by simp; omega
      rw [e] at this
      exact this
  have := key L 0 0 (fun x hx => el_t (els_all h x hx)) (by omega) (by decide)
  simpa [v5] using this
theorem v5_inj {A B : List Int} (hl : A.length = B.length) (ha : els 5 A = true) (hb : els 5 B = true) (h : v5 A = v5 B) : A = B := by
  have key : ∀ (A B : List Int) (a b : Int), A.length = B.length → (∀ x ∈ A, 0 ≤ x ∧ x < 5) → (∀ x ∈ B, 0 ≤ x ∧ x < 5) → A.foldl (fun u x => u * 5 + x) a = B.foldl (fun u x => u * 5 + x) b → a = b ∧ A = B := by
    intro A
    induction A with
    | nil =>
      intro B a b hl _ _ h
      have : B = [] := List.eq_nil_of_length_eq_zero (by simpa using hl.symm)
      subst this
      exact ⟨h, rfl⟩
    | cons x A ih =>
      intro B a b hl hA hB h
      match B, hl with
      | y :: B, hl =>
        obtain ⟨h1, h2⟩ := ih B (a * 5 + x) (b * 5 + y) (by simpa using hl) (fun z hz => hA z (by simp [hz])) (fun z hz => hB z (by simp [hz])) h
        have hx := hA x (by simp)
        have hy := hB y (by simp)
        exact ⟨by omega, by rw [h2, show x = y by omega]⟩
  exact (key A B 0 0 hl (fun x hx => el_t (els_all ha x hx)) (fun x hx => el_t (els_all hb x hx)) h).2
/-- what the servers who see, as digits -/
def row5 (i : Int) (D : List Int) (t n j : Nat) : List Int := (List.range n).map fun m => qPt 5 i D t m j
def dgt (i : Int) (D : List Int) (t n : Nat) (who : List Int) : List Int := who.flatMap fun j => row5 i D t n j.toNat
theorem row5_len (i : Int) (D : List Int) (t n j : Nat) : (row5 i D t n j).length = n := by simp [row5]
theorem row5_succ (i : Int) (D : List Int) (t n j : Nat) : row5 i D t (n + 1) j = row5 i D t n j ++ [qPt 5 i D t n j] := by
  unfold row5; rw [List.range_succ, List.map_append]; rfl
theorem dgt_snoc (i : Int) (D : List Int) (t n : Nat) (who : List Int) (j : Int) : dgt i D t n (who ++ [j]) = dgt i D t n who ++ row5 i D t n j.toNat := by simp [dgt]
theorem dgt_len (i : Int) (D : List Int) (t n : Nat) : ∀ who : List Int, (dgt i D t n who).length = who.length * n
  | [] => by simp [dgt]
  | j :: who => by
    have := dgt_len i D t n who
    show (row5 i D t n j.toNat ++ dgt i D t n who).length = (who.length + 1) * n
    rw [List.length_append, row5_len, this, Nat.add_mul]; omega
theorem row5_els (i : Int) (D : List Int) (t n j : Nat) : els 5 (row5 i D t n j) = true := els_of fun x hx => by
  obtain ⟨m, _, rfl⟩ := List.mem_map.1 hx
  exact decide_eq_true (qPt_r (by omega) D t m j)
theorem dgt_els (i : Int) (D : List Int) (t n : Nat) (who : List Int) : els 5 (dgt i D t n who) = true := els_of fun x hx => by
  obtain ⟨j, _, hj⟩ := List.mem_flatMap.1 hx
  exact els_all (row5_els i D t n j.toNat) x hj
theorem dgt_inj {i : Int} {D D' : List Int} {t n : Nat} : ∀ {who : List Int}, dgt i D t n who = dgt i D' t n who → ∀ j ∈ who, ∀ m, m < n → qPt 5 i D t m j.toNat = qPt 5 i D' t m j.toNat
  | [], _, j, hj, _, _ => by cases hj
  | k :: who, h, j, hj, m, hm => by
    have h' : row5 i D t n k.toNat ++ dgt i D t n who = row5 i D' t n k.toNat ++ dgt i D' t n who := h
    obtain ⟨h1, h2⟩ := List.append_inj h' (by rw [row5_len, row5_len])
    rcases List.mem_cons.1 hj with rfl | hj
    · have h3 : (row5 i D t n j.toNat)[m]? = (row5 i D' t n j.toNat)[m]? := by rw [h1]
      simpa [row5, hm] using h3
    · exact dgt_inj h2 j hj m hm
theorem piece_eq {c : Int} {A B X : List Int} (hA : A.length = X.length) (hB : B.length = X.length) (ea : els 5 A = true) (eb : els 5 B = true) (hX : X.Pairwise fun a b => ¬ (5 : Int) ∣ a - b) (h0 : ∀ x ∈ X, ¬ (5 : Int) ∣ x) (h : ∀ x ∈ X, val 5 (c :: A) x = val 5 (c :: B) x) : A = B := by
  have haz : az 5 (az_add A (zmul (-1) B)) := roots pr5 X _ (by rw [add_len, zmul_len]; omega) hX fun x hx => by
    have h1 := h x hx
    rw [val_ez, val_ez, ez_cons, ez_cons] at h1
    have h2 : (5 : Int) ∣ x * (ez A x - ez B x) := by
      have e : x * (ez A x - ez B x) = (c + x * ez A x) - (c + x * ez B x) := by rw [Int.mul_sub]; omega
      rw [e]
      exact Int.dvd_of_emod_eq_zero (by omega)
    rw [add_ez, zmul_ez]
    rcases pr_euclid pr5 _ _ h2 with h3 | h3
    · exact absurd h3 (h0 x hx)
    · have e : ez A x + -1 * ez B x = ez A x - ez B x := by omega
      rw [e]; exact h3
  have hg : ∀ k, gd A k = gd B k := els_cong (by omega) ea eb fun k => by
    have := az_gd haz k
    rw [add_gd, zmul_gd] at this
    have e : gd A k + -1 * gd B k = gd A k - gd B k := by omega
    rwa [e] at this
  refine List.ext_getElem (by omega) fun k h1 h2 => ?_
  have := hg k
  rwa [gd_lt h1, gd_lt h2] at this
/-- equal views: equal tapes -/
theorem view_inj {i : Int} {D D' : List Int} {t n : Nat} {who : List Int} (hw : who.length = t) (hd : who.Nodup) (hb : ∀ j ∈ who, 0 ≤ j ∧ j < 4) (hD : D.length = n * t) (hD' : D'.length = n * t) (e : els 5 D = true) (e' : els 5 D' = true)
    (h : dgt i D t n who = dgt i D' t n who) : D = D' := by
  have hp : ∀ m, m < n → (D.drop (m * t)).take t = (D'.drop (m * t)).take t := fun m hm => by
    have hmt : m * t + t ≤ n * t := by
      have := Nat.mul_le_mul_right t (show m + 1 ≤ n by omega)
      rw [Nat.add_mul] at this; omega
    refine piece_eq (c := if (m : Int) = i then 1 else 0) (X := who.map fun j => ((j.toNat : Nat) : Int) + 1) (by simp; omega) (by simp; omega) (els_of fun x hx => els_all e x (List.mem_of_mem_drop (List.mem_of_mem_take hx))) (els_of fun x hx => els_all e' x (List.mem_of_mem_drop (List.mem_of_mem_take hx))) ?_ ?_ ?_
    · rw [List.pairwise_map]
      refine List.Pairwise.imp_of_mem (fun {a b} ha hb' hne => ?_) hd
      have h1 := hb a ha
      have h2 := hb b hb'
      have h3 : a ≠ b := hne
      intro hdv
      omega
    · intro x hx
      obtain ⟨j, hj, rfl⟩ := List.mem_map.1 hx
      have := hb j hj
      omega
    · intro x hx
      obtain ⟨j, hj, rfl⟩ := List.mem_map.1 hx
      exact dgt_inj h j hj m hm
  refine List.ext_getElem (by omega) fun k h1 h2 => ?_
  rcases Nat.eq_zero_or_pos t with ht | ht
  · subst ht; rw [hD] at h1; omega
  have hm : k / t < n := (Nat.div_lt_iff_lt_mul ht).2 (by omega)
  have h3 := hp (k / t) hm
  have hk : k / t * t + k % t = k := by have := Nat.div_add_mod k t; rw [Nat.mul_comm] at this; exact this
  have hr : k % t < t := Nat.mod_lt _ ht
  have h4 : ((D.drop (k / t * t)).take t)[k % t]? = ((D'.drop (k / t * t)).take t)[k % t]? := by rw [h3]
  rw [List.getElem?_take_of_lt hr, List.getElem?_take_of_lt hr, List.getElem?_drop, List.getElem?_drop, hk, List.getElem?_eq_getElem h1, List.getElem?_eq_getElem h2] at h4
  injection h4
theorem digs_inj {K : Nat} : ∀ {N N' : Nat}, N < 5 ^ K → N' < 5 ^ K → digs K N = digs K N' → N = N' := by
  intro N N' h h' e
  have hj : ∀ j, j < K → N / 5 ^ j % 5 = N' / 5 ^ j % 5 := fun j hj => by
    have hg : ∀ M : Nat, (digs K M)[j]? = some ((M / 5 ^ j % 5 : Nat) : Int) := fun M => by
      unfold digs
      rw [List.getElem?_map, List.getElem?_range hj]; rfl
    have h1 : some ((N / 5 ^ j % 5 : Nat) : Int) = some ((N' / 5 ^ j % 5 : Nat) : Int) := by rw [← hg, ← hg, e]
    injection h1 with h1
    exact Int.natCast_inj.1 h1
  have key : ∀ k, k ≤ K → N / 5 ^ (K - k) = N' / 5 ^ (K - k) := by
    intro k
    induction k with
    | zero => intro _; rw [Nat.sub_zero, Nat.div_eq_of_lt h, Nat.div_eq_of_lt h']
    | succ k ih =>
      intro hk
      have h1 := ih (by omega)
      have h2 := hj (K - (k + 1)) (by omega)
      have e1 : K - k = (K - (k + 1)) + 1 := by omega
      rw [e1, Nat.pow_succ, ← Nat.div_div_eq_div_mul, ← Nat.div_div_eq_div_mul] at h1
      omega
  have := key K (Nat.le_refl _)
  simpa using this
/-- the code of the view of tape number N -/
def fvw (i : Int) (t n : Nat) (who : List Int) (N : Nat) : Nat := (v5 (dgt i (digs (n * t) N) t n who)).toNat
theorem fvw_bd {i : Int} {t n : Nat} {who : List Int} (hw : who.length = t) (N : Nat) : fvw i t n who N < 5 ^ (n * t) ∧ v5 (dgt i (digs (n * t) N) t n who) = (fvw i t n who N : Int) := by
  have h1 := v5_bd _ (dgt_els i (digs (n * t) N) t n who)
  have hlen : (dgt i (digs (n * t) N) t n who).length = n * t := by rw [dgt_len, hw, Nat.mul_comm]
  rw [hlen] at h1
  unfold fvw
  refine ⟨?_, by omega⟩
  have : ((5 : Nat) ^ (n * t) : Nat) = ((5 : Int) ^ (n * t)) := by simp
  omega
theorem fvw_inj {i : Int} {t n : Nat} {who : List Int} (hw : who.length = t) (hd : who.Nodup) (hb : ∀ j ∈ who, 0 ≤ j ∧ j < 4) {N N' : Nat} (hN : N < 5 ^ (n * t)) (hN' : N' < 5 ^ (n * t)) (h : fvw i t n who N = fvw i t n who N') : N = N' := by
  have h1 := (fvw_bd (i := i) (n := n) hw N).2
  have h2 := (fvw_bd (i := i) (n := n) hw N').2
  have h3 : dgt i (digs (n * t) N) t n who = dgt i (digs (n * t) N') t n who := v5_inj (by rw [dgt_len, dgt_len]) (dgt_els ..) (dgt_els ..) (by rw [h1, h2, h])
  exact digs_inj hN hN' (view_inj hw hd hb (digs_len _ _) (digs_len _ _) (digs_els _ _) (digs_els _ _) h3)
/-- how often each number is met -/
def cn (f : Nat → Nat) (k u : Nat) : Nat := ((List.range k).map f).count u
theorem cn_succ (f : Nat → Nat) (k u : Nat) : cn f (k + 1) u = cn f k u + if f k = u then 1 else 0 := by
  unfold cn
  rw [List.range_succ, List.map_append, List.count_append]
  by_cases h : f k = u
  · simp [h]
  · simp [h]
theorem pigeon : ∀ (N : Nat) (L : List Nat), L.Nodup → (∀ x ∈ L, x < N) → L.length ≤ N
  | 0, L, _, h => by
    cases L with
    | nil => simp
    | cons x L => exact absurd (h x (by simp)) (by omega)
  | N + 1, L, hd, h => by
    have h1 := pigeon N (L.erase N) (hd.erase N) fun x hx => by
      have h2 := h x (List.mem_of_mem_erase hx)
      have h3 : x ≠ N := ((List.Nodup.mem_erase_iff hd).1 hx).1
      omega
    have h4 : L.length ≤ (L.erase N).length + 1 := by
      by_cases hm : N ∈ L
      · rw [List.length_erase_of_mem hm]; omega
      · rw [List.erase_of_not_mem hm]; omega
    omega
theorem cn_one {f : Nat → Nat} {N : Nat} (hb : ∀ k, k < N → f k < N) (hi : ∀ k k', k < N → k' < N → f k = f k' → k = k') {u : Nat} (hu : u < N) : cn f N u = 1 := by
  have hd : ((List.range N).map f).Nodup := by
    rw [List.Nodup, List.pairwise_map]
    refine List.Pairwise.imp_of_mem (fun {a b} ha hb' hne e => ?_) List.nodup_range
    exact hne (hi a b (List.mem_range.1 ha) (List.mem_range.1 hb') e)
  have hm : u ∈ (List.range N).map f := by
    by_cases hm : u ∈ (List.range N).map f
    · exact hm
    · exfalso
      have h1 := pigeon N (u :: (List.range N).map f) (List.nodup_cons.2 ⟨hm, hd⟩) fun x hx => by
        rcases List.mem_cons.1 hx with rfl | hx
        · exact hu
        · obtain ⟨k, hk, rfl⟩ := List.mem_map.1 hx
          exact hb k (List.mem_range.1 hk)
      simp at h1
      omega
  unfold cn
  have h1 := List.nodup_iff_count.1 hd u
  have h2 := List.count_pos_iff.2 hm
  omega
end Go.Proofs.YtbgabipngdillaaGreatDoor
