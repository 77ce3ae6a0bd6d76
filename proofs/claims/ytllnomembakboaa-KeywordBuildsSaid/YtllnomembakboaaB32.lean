/- Joined: Rf Rg. -/
import Derived.Deep.AppendSrc
import Derived.Deep.Upon
import Derived.Deep.RegionLaw
import Derived.Test.YtllnomembakboaaB02
import Derived.Test.YtllnomembakboaaB01
import Derived.Test.YtllnomembakboaaB10
import Derived.Test.YtllnomembakboaaB05
import Derived.Test.YtllnomembakboaaB04
import Derived.Test.YtllnomembakboaaB08
namespace Go.Proofs.Ytllnomembakboaa
open Go.RowKit

def SX (W : World) (X Y : Option Nat) (v : Value) (l : List Int) : Prop :=
  ∃ A c, v = .slice A l.length c ∧ l.length ≤ c ∧ c ≤ 9223372036854775807 ∧ (∀ x ∈ l, i64r x) ∧
    (0 < l.length → ∃ b off, A = some ⟨b, off, none⟩ ∧ b < W.heap.size ∧ some b ≠ X ∧ some b ≠ Y ∧ ∀ j (h : j < l.length), W.cell? ⟨b, off + j, none⟩ = some (.int .i64 l[j]))
theorem SX.keep {W W' : World} {X Y X' Y' : Option Nat} {v : Value} {l : List Int} (h : SX W X Y v l) (hs : W.heap.size ≤ W'.heap.size)
    (hb : ∀ b, b < W.heap.size → some b ≠ X → some b ≠ Y → W'.heap[b]? = W.heap[b]? ∧ some b ≠ X' ∧ some b ≠ Y') : SX W' X' Y' v l := by
  obtain ⟨A, c, rfl, hc, hm, hr, ha⟩ := h
  refine ⟨A, c, rfl, hc, hm, hr, fun h0 => ?_⟩
  obtain ⟨b, off, rfl, hbl, hx, hy, hcell⟩ := ha h0
  obtain ⟨e, hx', hy'⟩ := hb b hbl hx hy
  exact ⟨b, off, rfl, by omega, hx', hy', fun j hj => (World.cell?_of_block e).trans (hcell j hj)⟩
theorem SX.si {W : World} {X Y : Option Nat} {v : Value} {l : List Int} (h : SX W X Y v l) : SI W v l := by
  obtain ⟨A, c, rfl, hc, hm, hr, ha⟩ := h
  refine ⟨A, c, rfl, hc, hm, hr, fun h0 => ?_⟩
  obtain ⟨b, off, rfl, hbl, _, _, hcell⟩ := ha h0
  exact ⟨b, off, rfl, hbl, hcell⟩
theorem SX.of_own {W : World} {X Y : Option Nat} {base : Nat} {e : TypeId} {v : Value} {l : List Int} (h : W.ownsRow base e 1 v l.length (l.map (Value.int .i64))) (hr : ∀ x ∈ l, i64r x) (hX : ∀ k, X = some k → k < base) (hY : ∀ k, Y = some k → k < base) : SX W X Y v l := by
  rcases h.2 with ⟨rfl, hn⟩ | ⟨b, cap, cur, rfl, hb, hgg, hnc, hcm, hcs, htake⟩
  · have : l = [] := List.eq_nil_of_length_eq_zero hn
    subst this
    exact ⟨none, 0, rfl, Nat.le_refl _, by omega, hr, fun h => by simp at h⟩
  · refine ⟨_, cap, rfl, hnc, by simpa [maxLen] using hcm, hr, fun h0 => ⟨b, 0, rfl, (Array.getElem?_eq_some_iff.1 hgg).1, fun e => by have := hX b e.symm; omega, fun e => by have := hY b e.symm; omega, fun j hj => ?_⟩⟩
    have := h.cellAt j (by omega)
    rw [Nat.zero_add, this]
    simp [hj]
theorem own_blk {w w' : World} {base e size n : Nat} {v : Value} {xs : List Value} (h : w.ownsRow base e size v n xs) (hk : ∀ b, v.ownBlock = some b → w'.heap[b]? = w.heap[b]?) : w'.ownsRow base e size v n xs := by
  refine ⟨h.1, ?_⟩
  rcases h.2 with hn | ⟨b, cap, cur, rfl, hb, hg, rest⟩
  · exact .inl hn
  · exact .inr ⟨b, cap, cur, rfl, hb, (hk b rfl).trans hg, rest⟩
theorem run_append_cut {P : Program} (W : World) (t ty e : TypeId) (ht : P.underlying t = some (.slice e)) (hinfo : (P.info? e).map (fun i => (i.zero, i.size, i.bytes)) = some (some (.int .i64 0), 1, 8))
    (X Y : Option Nat) (A : Option Addr) (k : Nat) (src : Value) (l1 l2 : List Int) (hk : l1.length = k) (h1 : SX W X Y (.slice A k k) l1) (h2 : SI W src l2) (hb : l1.length + l2.length ≤ 1000000)
    (hX : ∀ b, X = some b → b < W.heap.size) (hY : ∀ b, Y = some b → b < W.heap.size) :
    ∃ A' c' w', (Builtin.append_ #[t, t] ty #[.slice A k k, src]).run P W = .ok (.slice A' (l1 ++ l2).length c') w' ∧ Below W.heap.size W w' ∧ SX w' X Y (.slice A' (l1 ++ l2).length c') (l1 ++ l2) := by
  obtain ⟨i0, hi0, hz0, hz1, hz2⟩ := info_parts hinfo
  subst hk
  obtain ⟨As, cs, rfl, hcs, hms, hrs, has⟩ := h2
  have hsrc : Src P i0.size t (.slice As l2.length cs) l2.length (l2.map (Value.int .i64)) W := by
    rw [hz1]
    rcases Nat.eq_zero_or_pos l2.length with h0 | h0
    · have hl2 : l2 = [] := List.eq_nil_of_length_eq_zero h0
      subst hl2
      cases As with
      | none => exact Src.ofNil W ht cs
      | some a => exact Src.ofSlice W ht a 0 cs [] (by simp) (by simp) (by simp)
    · obtain ⟨b, off, rfl, hbl, hcell⟩ := has h0
      refine Src.ofSlice W ht ⟨b, off, none⟩ _ cs _ (by simp) (fun j u hu => ?_) (fun u hu => by obtain ⟨x, _, rfl⟩ := List.mem_map.1 hu; rfl)
      have hj : j < l2.length := by
        rcases Nat.lt_or_ge j l2.length with h | h
        · exact h
        · rw [List.getElem?_eq_none (by simpa using h)] at hu; cases hu
      have ha : (⟨b, off, none⟩ : Addr).add j = ⟨b, off + j, none⟩ := by unfold Addr.add; split <;> simp_all
      rw [ha, hcell j hj]
      simpa [hj] using hu
  rcases Nat.eq_zero_or_pos l2.length with h0 | h0
  · have hl2 : l2 = [] := List.eq_nil_of_length_eq_zero h0
    subst hl2
    refine ⟨A, l1.length, W, ?_, Below.refl _ _, by simpa using h1⟩
    have := run_append_nothing (P := P) W t t ty e i0 ht hi0 A l1.length l1.length (Nat.le_refl _) _ hsrc
    simpa using this
  · obtain ⟨A1, c1, e1, hc1, hm1, hr1, ha1⟩ := h1
    injection e1 with e1 e2 e3
    subst e1
    have hold : (Builtin.firstCells i0.size l1.length (.slice A l1.length l1.length)).run P W.drew = .ok (l1.map (Value.int .i64)).toArray W.drew := by
      rw [hz1]
      rcases Nat.eq_zero_or_pos l1.length with hz | hz
      · have hl1 : l1 = [] := List.eq_nil_of_length_eq_zero hz
        subst hl1
        cases A with
        | none => exact run_firstCells_none W.drew 1 0 0 0
        | some a => exact run_firstCells_some W.drew 1 0 a 0 0 [] (by simp) (by simp)
      · obtain ⟨b, off, rfl, hbl, _, _, hcell⟩ := ha1 hz
        refine run_firstCells_some W.drew 1 _ ⟨b, off, none⟩ _ _ _ (by simp) (fun j u hu => ?_)
        have hj : j < l1.length := by
          rcases Nat.lt_or_ge j l1.length with h | h
          · exact h
          · rw [List.getElem?_eq_none (by simpa using h)] at hu; cases hu
        have ha : (⟨b, off, none⟩ : Addr).add j = ⟨b, off + j, none⟩ := by unfold Addr.add; split <;> simp_all
        rw [ha]
        have h3 : W.cell? ⟨b, off + j, none⟩ = some (.int .i64 l1[j]) := hcell j hj
        have h4 : W.drew.cell? ⟨b, off + j, none⟩ = some (.int .i64 l1[j]) := h3
        rw [h4]
        simpa [hj] using hu
    have hfit : Builtin.nextslicecap (l1.length + l2.length) l1.length * i0.bytes ≤ 281474976710656 := by
      rw [hz2]
      have := nextslicecap_le (need := l1.length + l2.length) (old := l1.length) (by omega)
      omega
    have hrun := run_append_grow_src (P := P) W t t ty e i0 _ ht hi0 hz0 A l1.length l1.length _ hold _ _ _ hsrc (by omega) (by omega) hfit
    have hge := grownCap_ge W (l1.length + l2.length) l1.length e
    have hle := grownCap_le_maxLen W (l1.length + l2.length) l1.length e (by unfold maxLen; omega)
    have hlen : (l1 ++ l2).length = l1.length + l2.length := by simp
    refine ⟨some ⟨W.heap.size, 0, none⟩, _, _, by rw [hlen]; exact hrun, ?_, ?_⟩
    · exact ((Below.refl _ W).drew).alloc (Nat.le_refl _) _
    · refine ⟨_, _, rfl, by rw [hlen]; exact hge, by unfold maxLen at hle; omega, fun x hx => ?_, fun _ => ⟨W.heap.size, 0, rfl, by simp, fun e => by have := hX _ e.symm; omega, fun e => by have := hY _ e.symm; omega, fun j hj => ?_⟩⟩
      · rcases List.mem_append.1 hx with h | h
        · exact hr1 x h
        · exact hrs x h
      · have hn := heap_alloc_new W.drew (.cells ((l1.map (Value.int .i64) ++ l2.map (Value.int .i64)).toArray ++ Builtin.zeroCells (Value.int .i64 0).cells (grownCap W (l1.length + l2.length) l1.length e - (l1.length + l2.length))) e)
        rw [cell_of_row _ W.heap.size (0 + j) _ _ _ hn, Nat.zero_add]
        rw [Array.getElem?_append_left (by simp; omega)]
        rw [← List.map_append, List.getElem?_toArray, List.getElem?_map, List.getElem?_eq_getElem hj]
        rfl
/-- the same inside a region that draws its order -/
theorem step_append_cut {P : Program} (w : World) {ops : Array Oper} {o : Oper} {a : Act} {K : Act → World → Prop} {Q : Exit → Act → World → Prop} {E : Prop} (hgd : o.guard = none) (s x : Operand) (t : TypeId)
    (ho : o.op = .call { callee := .builtin .append, args := #[s, x], argTypes := #[t, t] })
    (e : TypeId) (ht : P.underlying t = some (.slice e)) (hinfo : (P.info? e).map (fun i => (i.zero, i.size, i.bytes)) = some (some (.int .i64 0), 1, 8))
    (X Y : Option Nat) (A : Option Addr) (k : Nat) (src : Value) (l1 l2 : List Int) (hs : a.eval s = .slice A k k) (hx : a.eval x = src) (hk : l1.length = k) (h1 : SX w X Y (.slice A k k) l1) (h2 : SI w src l2) (hb : l1.length + l2.length ≤ 1000000)
    (hX : ∀ b, X = some b → b < w.heap.size) (hY : ∀ b, Y = some b → b < w.heap.size)
    (h : ∀ A' c' w', Below w.heap.size w w' → SX w' X Y (.slice A' (l1 ++ l2).length c') (l1 ++ l2) → K (a.put o.dst (.slice A' (l1 ++ l2).length c')) w') :
    if Region.wanted o (yielded ops a.tmps) = true then Oper.wp P o a w K Q else E := by
  have hw : Region.wanted o (yielded ops a.tmps) = true := by simp [Region.wanted, hgd]
  rw [if_pos hw]
  obtain ⟨A', c', w', hrun, hbel, hsx⟩ := run_append_cut (P := P) w t o.type e ht hinfo X Y A k src l1 l2 hk h1 h2 hb hX hY
  unfold Oper.wp execOp
  simp only [ho, resolve, invoke, builtin, Sem.run_bind, Sem.run_pure, Result.andThen_ok, List.map_toArray, List.map_cons, List.map_nil, hs, hx, hrun]
  exact h A' c' w' hbel hsx
def nums (n : Nat) : List Int := (List.range n).map fun (j : Nat) => (j : Int)
theorem nums_succ (n : Nat) : nums (n + 1) = nums n ++ [(n : Int)] := by
  unfold nums
  rw [List.range_succ, List.map_append]; rfl
theorem nums_len (n : Nat) : (nums n).length = n := by unfold nums; simp
theorem nums_bd (n : Nat) : ∀ x ∈ nums n, 0 ≤ x ∧ x < (n : Int) := by
  intro x hx
  obtain ⟨j, hj, rfl⟩ := List.mem_map.1 hx
  have := List.mem_range.1 hj
  omega
theorem nums_nodup (n : Nat) : (nums n).Nodup := by
  unfold nums
  rw [List.Nodup, List.pairwise_map]
  exact List.Pairwise.imp (fun h e => h (by omega)) List.nodup_range
theorem nums_r {n : Nat} (hn : n ≤ 1000) : ∀ x ∈ nums n, i64r x := fun x hx => by have := nums_bd n x hx; unfold i64r; omega
theorem perm_step {O R L : List Int} {k : Nat} (hk : k < R.length) (h : (O ++ R).Perm L) : ((O ++ [R[k]]) ++ (R.take k ++ R.drop (k + 1))).Perm L := by
  refine List.Perm.trans ?_ h
  rw [List.append_assoc]
  refine List.Perm.append_left O ?_
  have e : R = R.take k ++ R[k] :: R.drop (k + 1) := by
    rw [← List.drop_eq_getElem_cons hk, List.take_append_drop]
  have h2 : (R[k] :: (R.take k ++ R.drop (k + 1))).Perm (R.take k ++ R[k] :: R.drop (k + 1)) := List.perm_middle.symm
  exact h2.trans (List.Perm.of_eq e.symm)
def Od1 (n B : Nat) (w0 : World) (v i : Value) (wr : World) : Prop := ∃ k : Nat, k ≤ n ∧ i = .int .i64 k ∧ wr.ownsRow B 3 1 v (nums k).length ((nums k).map (Value.int .i64)) ∧ Below B w0 wr
def Od2 (n g B : Nat) (w0 : World) (rv ov : Value) (wr : World) : Prop :=
  ∃ (vr vo : Value) (R O : List Int), vr = rv ∧ vo = ov ∧ (O ++ R).Perm (nums n) ∧ wr.ownsRow B 3 1 vo O.length (O.map (Value.int .i64)) ∧ SX wr (some g) vo.ownBlock vr R ∧ Dk wr g ∧ w0.grownBy wr (some g) ∧ B ≤ wr.heap.size
def lenV : Value → Nat | .slice _ n _ => n | _ => 0
set_option maxRecDepth 100000 in
set_option maxHeartbeats 4000000 in
theorem mkorder_any (n g : Nat) (w : World) (hD : Dk w g) (hn : n ≤ 1000) :
    Calls Try.prog 31 #[.pointer (some ⟨g, 0, none⟩), .int .i64 n] w fun e w' => ∃ (v : Value) (O : List Int), e = .returned v ∧ O.Perm (nums n) ∧ w'.ownsRow w.heap.size 3 1 v O.length (O.map (Value.int .i64)) ∧ Dk w' g ∧ w.grownBy w' (some g) := by
  have HD := Lib.hid hD
  have hgw : g < w.heap.size := hD.lt
  obtain ⟨B, eB⟩ : ∃ B, B = w.heap.size := ⟨_, rfl⟩
  have HEB := Lib.hid eB
  rw [← eB] at hgw ⊢
  clear hD
  obtain ⟨i0, hi0, hi1, hi2, hi3⟩ := info_parts iinfo
  go_enter Try.func31, Try.ntmps31
  go_wp2_with fail
  clear eB
  go_loopw [5, 10] (fun v i wr => Od1 n B w v i wr) (fun _ i _ => n - (intOf i).toNat)
  case atStart => exact ⟨0, Nat.zero_le _, rfl, by simpa [nums] using World.ownsRow_nil w B 3 1, Below.refl _ _⟩
  case round =>
    obtain ⟨k, hk, rfl, hown, hbel⟩ := hrel
    obtain ⟨A, c, rfl⟩ := own_sl hown
    have HO := Lib.hid hown
    have HB := Lib.hid hbel
    have hBr : B ≤ wr.heap.size := by have := hbel.size; have := HEB.out; omega
    clear hown hbel
    by_cases hlt : k < n
    · have dk : decide (k < n) = true := decide_eq_true hlt
      have hl : (nums k).length ≤ 1000 := by rw [nums_len]; omega
      obtain ⟨D, hD⟩ : ∃ D, D = nums k := ⟨_, rfl⟩
      rw [← hD] at HO hl ⊢
      have HSN : Hid (nums (k + 1) = D ++ [(k : Int)]) := (show Hid _ from by show _ = _; rw [nums_succ, ← hD])
      clear hD
      go_wp2_with (at_builtin; refine wpList_append_int1 _ rfl _ _ 22 rfl B 3 Try.underlying22 iinfo _ D rfl HO.out (k : Int) rfl (by omega) hBr ?_; intro v3 w3 hown3 hg3; have HO3 := Lib.hid hown3; have HG3 := Lib.hid hg3; clear hown3 hg3)
      go_roundw
      case rel =>
        refine ⟨k + 1, by omega, by go_num, by rw [HSN.out]; exact HO3.out, ?_⟩
        exact (HB.out.alloc hBr _).grown HG3.out (by simp; omega) (fun k hk => (HO.out.lt k hk).1)
      case measure => simp [intOf]; omega
    · have dk : decide (k < n) = false := decide_eq_false hlt
      have hkn : k = n := by omega
      rw [hkn] at HO ⊢
      have HGr : Hid (w.grownBy wr (some g)) := (show Hid _ from grownBy_of_below (by rw [← HEB.out]; exact HB.out) _)
      have HDr : Hid (Dk wr g) := (show Hid _ from HD.out.below (by rw [← HEB.out]; exact HB.out))
      have HSX : Hid (SX wr (some g) (Value.slice none 0 0).ownBlock (.slice A (nums n).length c) (nums n)) := (show Hid _ from SX.of_own HO.out (nums_r hn) (fun k hk => by injection hk with e; omega) (fun k hk => by simp [Value.ownBlock] at hk))
      clear hkn hlt
      go_wp2_with fail
      go_loopw [5, 6] (fun rv ov wz => Od2 n g B w rv ov wz) (fun rv _ _ => lenV rv)
      case atStart => exact ⟨_, _, nums n, [], rfl, rfl, by simp, World.ownsRow_nil _ _ _ _, HSX.out, HDr.out, HGr.out, hBr⟩
      case round =>
        obtain ⟨vr, vo, R, O, rfl, rfl, hperm, hown, hsx, hd, hgr, hB⟩ := hrel
        obtain ⟨Ar, cr, rfl⟩ : ∃ A c, vr = .slice A R.length c := by obtain ⟨A, c, e, _⟩ := hsx.si; exact ⟨A, c, e⟩
        obtain ⟨Ao, co, rfl⟩ := own_sl hown
        have HP := Lib.hid hperm
        have HOO := Lib.hid hown
        have HSR := Lib.hid hsx
        have HDD := Lib.hid hd
        have HGG := Lib.hid hgr
        have hln : O.length + R.length = n := by have := hperm.length_eq; rw [List.length_append, nums_len] at this; exact this
        clear hperm hown hsx hd hgr
        by_cases hlt : 0 < R.length
        · have dr : decide (0 < R.length) = true := decide_eq_true hlt
          have dr2 : decide ((0 : Int) < (R.length : Int)) = true := decide_eq_true (by omega)
          have ri : i64r (R.length : Int) := by unfold i64r; omega
          have ri2 : (R.length : Int) ≤ 4611686018427387904 := by omega
          go_wp2_with fail
          (with_reducible refine (next_any (R.length : Int) g wr HDD.out ri ri2).mono ?_)
          rintro e w1 ⟨x, rfl, _, hx, hd1, hg1⟩
          obtain ⟨hx1, hx2⟩ := hx (by omega)
          obtain ⟨k, rfl⟩ : ∃ k : Nat, x = k := ⟨x.toNat, by omega⟩
          have hkR : k < R.length := by omega
          have HD1 := Lib.hid hd1
          have HG1 := Lib.hid hg1
          have hob : ∀ b, (Value.slice Ao O.length co).ownBlock = some b → B ≤ b ∧ b < wr.heap.size := HOO.out.lt
          have HO1 : Hid (w1.ownsRow B 3 1 (.slice Ao O.length co) O.length (O.map (Value.int .i64))) := (show Hid _ from own_blk HOO.out fun b hb => hg1.block b (hob b hb).2 (by have := (hob b hb).1; simp; omega))
          have HS1 : Hid (SX w1 (some g) (Value.slice Ao O.length co).ownBlock (.slice Ar R.length cr) R) := (show Hid _ from HSR.out.keep hg1.size fun b hb h1 h2 => ⟨hg1.block b hb h1, h1, h2⟩)
          have HSI1 : Hid (SI w1 (.slice Ar R.length cr) R) := HS1.out.si
          obtain ⟨A', c', e', hrc, hcm, _, har⟩ := HS1.out
          injection e' with e1 e2 e3
          subst e1
          subst e3
          obtain ⟨br, orr, rfl, hbr, hbg, hbo, hcell⟩ := har hlt
          have ck := hcell k hkR
          have HPS : Hid (((O ++ [R[k]]) ++ (R.take k ++ R.drop (k + 1))).Perm (nums n)) := perm_step hkR HP.out
          have hxr : i64r R[k] := by
            have h1 : R[k] ∈ nums n := HP.out.mem_iff.1 (List.mem_append.2 (.inr (List.getElem_mem hkR)))
            exact nums_r hn _ h1
          obtain ⟨y, ey⟩ : ∃ y, y = R[k] := ⟨_, rfl⟩
          rw [← ey] at ck HPS hxr
          have hB1 : B ≤ w1.heap.size := by have := hg1.size; omega
          have z1 : (0 : Int) ≤ (k : Int) := by omega
          have z2 : (k : Int) < (R.length : Int) := by omega
          have z3 : (k : Int) ≤ (R.length : Int) := by omega
          have z4 : (k : Int) ≤ (cr : Int) := by omega
          have z5 : (k : Int) + 1 ≤ (R.length : Int) := by omega
          have z6 : IntKind.i64.wrap ((k : Int) + 1) = (k : Int) + 1 := by exact IntWalk.i64_in _ (by omega)
          have hOl : O.length ≤ 1000 := by omega
          clear hx hx1 hd1 hg1 hob har hcell ey dr dr2 ri ri2
          go_wp2_with (at_builtin; refine wpList_append_own_at _ rfl _ _ 22 rfl B 3 i0 _ 1 8 Try.underlying22 hi0 hi1 hi2 hi3 rfl (by omega) _ _ _ rfl (HO1.out.alloc _) ⟨w1.heap.size, 0, none⟩ 1 1 [.int .i64 y] rfl rfl (cells_new w1 _ _) (by intro u hu; simp at hu; subst hu; rfl) (by unfold maxLen; omega) (by omega) (by simp; omega) ?_; intro v3 w3 hown3 hg3 _ hat3; have HO3 := Lib.hid hown3; have HG3 : Hid ((w1.alloc (.cells #[.int .i64 y] 3)).grownBy w3 (Value.slice Ao O.length co).ownBlock) := (show Hid _ from hg3); have HA3 : Hid (v3.ownBlock = (Value.slice Ao O.length co).ownBlock ∨ v3.ownBlock = some (w1.alloc (.cells #[.int .i64 y] 3)).heap.size) := (show Hid _ from hat3); clear hown3 hg3 hat3)
          have hal : Below w1.heap.size w1 (w1.alloc (.cells #[.int .i64 y] 3)) := (Below.refl _ w1).alloc (Nat.le_refl _) _
          have hsz1 : (w1.alloc (.cells #[.int .i64 y] 3)).heap.size = w1.heap.size + 1 := by simp
          have HS3 : Hid (SX w3 (some g) v3.ownBlock (.slice (some ⟨br, orr, none⟩) R.length cr) R) := (show Hid _ from (HS1.out.keep (X' := some g) (Y' := (Value.slice Ao O.length co).ownBlock) hal.size fun b hb h1 h2 => ⟨hal.block b hb, h1, h2⟩).keep HG3.out.size fun b hb h1 h2 => ⟨HG3.out.block b hb h2, h1, fun e => by
            rcases HA3.out with h3 | h3
            · exact h2 (by rw [e, h3])
            · rw [h3] at e; injection e with e; omega⟩)
          have HTK : Hid (SX w3 (some g) v3.ownBlock (.slice (some ⟨br, orr, none⟩) k k) (R.take k)) := (show Hid _ from by
            obtain ⟨A2, c2, e2, _, hcm2, hr2, ha2⟩ := HS3.out
            injection e2 with e21 e22 e23
            have htl : (R.take k).length = k := by rw [List.length_take]; omega
            refine ⟨_, k, by rw [htl], by rw [htl]; exact Nat.le_refl _, by omega, fun x hx => hr2 x (List.mem_of_mem_take hx), fun h0 => ?_⟩
            obtain ⟨b2, o2, e3, hb2, hx2, hy2, hc2⟩ := ha2 (by omega)
            rw [← e21] at e3
            injection e3 with e3
            injection e3 with e31 e32
            subst e31 e32
            refine ⟨br, orr, rfl, hb2, hx2, hy2, fun j hj => ?_⟩
            rw [hc2 j (by rw [htl] at hj; omega)]
            simp)
          have HTL : Hid (SI w3 (.slice (some ⟨br, orr + (k + 1), none⟩) (R.length - (k + 1)) (cr - (k + 1))) (R.drop (k + 1))) := (show Hid _ from by
            obtain ⟨A2, c2, e2, hcl2, hcm2, hr2, ha2⟩ := HS3.out
            injection e2 with e21 e22 e23
            have htl : (R.drop (k + 1)).length = R.length - (k + 1) := List.length_drop
            refine ⟨_, cr - (k + 1), by rw [htl], by rw [htl]; omega, by omega, fun x hx => hr2 x (List.mem_of_mem_drop hx), fun h0 => ?_⟩
            obtain ⟨b2, o2, e3, hb2, hx2, hy2, hc2⟩ := ha2 (by omega)
            rw [← e21] at e3
            injection e3 with e3
            injection e3 with e31 e32
            subst e31 e32
            refine ⟨br, orr + (k + 1), rfl, hb2, fun j hj => ?_⟩
            rw [htl] at hj
            rw [Nat.add_assoc, hc2 (k + 1 + j) (by omega)]
            simp)
          have hg3s : g < w3.heap.size := by have := HG3.out.size; omega
          have hv3b : ∀ b, v3.ownBlock = some b → b < w3.heap.size := fun b hb => (HO3.out.lt b hb).2
          have HV3 := Lib.hid hv3b
          have HB3 : Hid (w.grownBy w3 (some g)) := (show Hid _ from grownBy_own (grownBy_trans (grownBy_trans HGG.out HG1.out) (World.grownBy_alloc w1 _ _)) HG3.out (fun k hk => by have := (HO1.out.lt k hk).1; have := HEB.out; omega))
          have HD3 : Hid (Dk w3 g) := (show Hid _ from (HD1.out.alloc _).grown HG3.out (fun k hk => by have := (HO1.out.lt k hk).1; omega))
          have htl : (R.take k).length = k := by rw [List.length_take]; omega
          have HTKL := Lib.hid htl
          have hsum : (R.take k).length + (R.drop (k + 1)).length ≤ 1000000 := by rw [List.length_drop, htl]; omega
          have HLEN : Hid ((R.take k ++ R.drop (k + 1)).length < R.length) := (show Hid _ from by show _ < _; rw [List.length_append, List.length_drop, htl]; omega)
          have HO3b : Hid (w3.ownsRow B 3 1 v3 (O ++ [y]).length ((O ++ [y]).map (Value.int .i64))) := (show Hid _ from by
            have h := HO3.out
            rw [List.length_append, List.map_append]; exact h)
          have hB3 : B ≤ w3.heap.size := by have := HG3.out.size; omega
          have HFIN : Hid (∀ (A' : Option Addr) (c' : Nat) (w' : World), Below w3.heap.size w3 w' → SX w' (some g) v3.ownBlock (.slice A' (R.take k ++ R.drop (k + 1)).length c') (R.take k ++ R.drop (k + 1)) → Od2 n g B w (.slice A' (R.take k ++ R.drop (k + 1)).length c') v3 w') := (show Hid _ from fun A' c' w' hb hs =>
            ⟨_, _, R.take k ++ R.drop (k + 1), O ++ [y], rfl, rfl, HPS.out, own_bel HO3b.out hb, hs, HD3.out.below hb, grownBy_trans HB3.out (grownBy_of_below hb _), by have := hb.size; omega⟩)
          have z7 : (0 : Int) ≤ (k : Int) + 1 := by omega
          clear hv3b htl hal hsz1 z2
          by_cases hck : cr = k + 1
          · have HTL0 : Hid (SI w3 (.slice (some ⟨br, orr, none⟩) (R.length - (k + 1)) (cr - (k + 1))) (R.drop (k + 1))) := (show Hid _ from by
              have hl : (R.drop (k + 1)).length = R.length - (k + 1) := List.length_drop
              have h0 : R.length - (k + 1) = 0 := by omega
              refine ⟨_, cr - (k + 1), by rw [hl], by rw [hl]; omega, by omega, fun x hx => ?_, fun h => by omega⟩
              have : R.drop (k + 1) = [] := List.eq_nil_of_length_eq_zero (by omega)
              rw [this] at hx; cases hx)
            have hck' : (cr = k + 1) = True := eq_true hck
            clear hck
            go_region_law (refine step_append_cut _ (by rfl) (.tmp 35) _ 22 (by rfl) 3 Try.underlying22 iinfo (some g) v3.ownBlock (some ⟨br, orr, none⟩) k (.slice (some ⟨br, orr, none⟩) (R.length - (k + 1)) (cr - (k + 1))) (R.take k) (R.drop (k + 1)) (by simp [Act.eval, Act.put, go_sem]) (by simp [Act.eval, Act.put, go_sem]) (by exact HTKL.out) (by exact HTK.out) (by exact HTL0.out) (by exact hsum) (by intro b hb; injection hb with e; subst e; exact hg3s) (by exact HV3.out) ?_; intro A9 c9 w9 hb9 hs9; have HB9 : Hid (Below w3.heap.size w3 w9) := (show Hid _ from ⟨hb9.os, hb9.tape, hb9.output, hb9.size, hb9.block⟩); have HS9 := Lib.hid hs9; clear hb9 hs9)
            all_goals
              go_wp2_with fail
              simp only [Act.put, List.getElem_toArray, List.getElem_cons_succ, List.getElem_cons_zero]
              go_roundw
              case rel =>
                have h := HFIN.out _ _ _ HB9.out HS9.out
                simpa using h
              case measure =>
                have h := HLEN.out
                simpa [lenV] using h
          · go_region_law (refine step_append_cut _ (by rfl) (.tmp 35) _ 22 (by rfl) 3 Try.underlying22 iinfo (some g) v3.ownBlock (some ⟨br, orr, none⟩) k (.slice (some ⟨br, orr + (k + 1), none⟩) (R.length - (k + 1)) (cr - (k + 1))) (R.take k) (R.drop (k + 1)) (by simp [Act.eval, Act.put, go_sem]) (by simp [Act.eval, Act.put, go_sem]) (by exact HTKL.out) (by exact HTK.out) (by exact HTL.out) (by exact hsum) (by intro b hb; injection hb with e; subst e; exact hg3s) (by exact HV3.out) ?_; intro A9 c9 w9 hb9 hs9; have HB9 : Hid (Below w3.heap.size w3 w9) := (show Hid _ from ⟨hb9.os, hb9.tape, hb9.output, hb9.size, hb9.block⟩); have HS9 := Lib.hid hs9; clear hb9 hs9)
            all_goals
              go_wp2_with fail
              simp only [Act.put, List.getElem_toArray, List.getElem_cons_succ, List.getElem_cons_zero]
              go_roundw
              case rel =>
                have h := HFIN.out _ _ _ HB9.out HS9.out
                simpa using h
              case measure =>
                have h := HLEN.out
                simpa [lenV] using h
        · have dr : decide (0 < R.length) = false := decide_eq_false hlt
          have dr2 : decide ((0 : Int) < (R.length : Int)) = false := decide_eq_false (by omega)
          have hR0 : R = [] := List.eq_nil_of_length_eq_zero (by omega)
          have HF : Hid (O.Perm (nums n)) := (show Hid _ from by have := HP.out; rw [hR0, List.append_nil] at this; exact this)
          clear hR0
          go_wp2_with fail
          go_ret
          exact ⟨_, O, rfl, HF.out, HOO.out, HDD.out, HGG.out⟩
end Go.Proofs.Ytllnomembakboaa

namespace Go.Proofs.Ytllnomembakboaa
open Go.RowKit

section
variable {α : Type} {enc : α → List Value} {sz : Nat}
theorem fm_cells {w : World} {b off : Nat} {l : List α} (hsz : 0 < sz) (henc : ∀ x, (enc x).length = sz) (hc : ∀ j (h : j < l.length) i, i < sz → w.cell? ⟨b, off + (j * sz + i), none⟩ = (enc l[j])[i]?) :
    ∀ q u, (l.flatMap enc)[q]? = some u → w.cell? ((⟨b, off, none⟩ : Addr).add q) = some u := by
  intro q u hu
  have hlen : (l.flatMap enc).length = l.length * sz := by
    clear hc hu
    induction l with
    | nil => simp
    | cons x l ih => rw [List.flatMap_cons, List.length_append, henc, ih, List.length_cons, Nat.add_mul]; omega
  have hq : q < l.length * sz := by
    rcases Nat.lt_or_ge q (l.length * sz) with h | h
    · exact h
    · rw [List.getElem?_eq_none (by omega)] at hu; cases hu
  have hj : q / sz < l.length := Nat.div_lt_of_lt_mul (by rw [Nat.mul_comm]; exact hq)
  have hi : q % sz < sz := Nat.mod_lt _ hsz
  have hqe : q / sz * sz + q % sz = q := by rw [Nat.mul_comm]; exact Nat.div_add_mod q sz
  have h1 := hc (q / sz) hj (q % sz) hi
  have h2 := flatMap_get enc sz l (fun x _ => henc x) (q / sz) hj (q % sz) hi
  rw [hqe] at h1 h2
  have ha : (⟨b, off, none⟩ : Addr).add q = ⟨b, off + q, none⟩ := by unfold Addr.add; split <;> simp_all
  rw [ha, h1, ← h2, hu]
theorem run_append_cutE {P : Program} (W : World) (t ty e : TypeId) (z : Value) (bytes : Nat) (ht : P.underlying t = some (.slice e)) (hinfo : (P.info? e).map (fun i => (i.zero, i.size, i.bytes)) = some (some z, sz, bytes)) (hsz : 0 < sz) (hby : bytes ≤ 64)
    (henc : ∀ x, (enc x).length = sz) (hone : ∀ x, ∀ u ∈ enc x, u.oneCell' = true)
    (A : Option Addr) (k : Nat) (src : Value) (l1 l2 : List α) (hk : l1.length = k) (h1 : SV enc sz W.heap.size W (.slice A k k) l1) (h2 : SV enc sz W.heap.size W src l2) (hb : l1.length + l2.length ≤ 1000000) :
    ∃ A' c' w', (Builtin.append_ #[t, t] ty #[.slice A k k, src]).run P W = .ok (.slice A' (l1 ++ l2).length c') w' ∧ Below W.heap.size W w' ∧ SV enc sz w'.heap.size w' (.slice A' (l1 ++ l2).length c') (l1 ++ l2) := by
  obtain ⟨i0, hi0, hz0, hz1, hz2⟩ := info_parts hinfo
  subst hk
  obtain ⟨As, cs, rfl, hcs, hms, has⟩ := h2
  have hfl : ∀ l : List α, (l.flatMap enc).length = l.length * sz := by
    intro l
    induction l with
    | nil => simp
    | cons x l ih => rw [List.flatMap_cons, List.length_append, henc, ih, List.length_cons, Nat.add_mul]; omega
  have hol : ∀ l : List α, ∀ u ∈ l.flatMap enc, u.oneCell' = true := by
    intro l u hu
    obtain ⟨x, _, hx⟩ := List.mem_flatMap.1 hu
    exact hone x u hx
  have hsrc : Src P i0.size t (.slice As l2.length cs) l2.length (l2.flatMap enc) W := by
    rw [hz1]
    rcases Nat.eq_zero_or_pos l2.length with h0 | h0
    · have hl2 : l2 = [] := List.eq_nil_of_length_eq_zero h0
      subst hl2
      cases As with
      | none => exact Src.ofNil W ht cs
      | some a => exact Src.ofSlice W ht a 0 cs [] (by simp) (by simp) (by simp)
    · obtain ⟨b, off, rfl, hbl, hcell⟩ := has h0
      exact Src.ofSlice W ht ⟨b, off, none⟩ _ cs _ (hfl l2) (fm_cells hsz henc hcell) (hol l2)
  rcases Nat.eq_zero_or_pos l2.length with h0 | h0
  · have hl2 : l2 = [] := List.eq_nil_of_length_eq_zero h0
    subst hl2
    refine ⟨A, l1.length, W, ?_, Below.refl _ _, by simpa using h1⟩
    have := run_append_nothing (P := P) W t t ty e i0 ht hi0 A l1.length l1.length (Nat.le_refl _) _ hsrc
    simpa using this
  · obtain ⟨A1, c1, e1, hc1, hm1, ha1⟩ := h1
    injection e1 with e1 e2 e3
    subst e1
    have hold : (Builtin.firstCells i0.size l1.length (.slice A l1.length l1.length)).run P W.drew = .ok (l1.flatMap enc).toArray W.drew := by
      rw [hz1]
      rcases Nat.eq_zero_or_pos l1.length with hz | hz
      · have hl1 : l1 = [] := List.eq_nil_of_length_eq_zero hz
        subst hl1
        cases A with
        | none => exact run_firstCells_none W.drew sz 0 0 0
        | some a => exact run_firstCells_some W.drew sz 0 a 0 0 [] (by simp) (by simp)
      · obtain ⟨b, off, rfl, hbl, hcell⟩ := ha1 hz
        exact run_firstCells_some W.drew sz _ ⟨b, off, none⟩ _ _ _ (hfl l1) (fm_cells (w := W.drew) hsz henc hcell)
    have hfit : Builtin.nextslicecap (l1.length + l2.length) l1.length * i0.bytes ≤ 281474976710656 := by
      rw [hz2]
      have h9 := nextslicecap_le (need := l1.length + l2.length) (old := l1.length) (by omega)
      exact Nat.le_trans (Nat.mul_le_mul h9 hby) (by omega)
    have hrun := run_append_grow_src (P := P) W t t ty e i0 _ ht hi0 hz0 A l1.length l1.length _ hold _ _ _ hsrc (by omega) (by omega) hfit
    have hge := grownCap_ge W (l1.length + l2.length) l1.length e
    have hle := grownCap_le_maxLen W (l1.length + l2.length) l1.length e (by unfold maxLen; omega)
    have hlen : (l1 ++ l2).length = l1.length + l2.length := by simp
    refine ⟨some ⟨W.heap.size, 0, none⟩, _, _, by rw [hlen]; exact hrun, ?_, ?_⟩
    · exact ((Below.refl _ W).drew).alloc (Nat.le_refl _) _
    · refine ⟨_, _, rfl, by rw [hlen]; exact hge, by unfold maxLen at hle; omega, fun _ => ⟨W.heap.size, 0, rfl, by simp, fun j hj i hi => ?_⟩⟩
      have hn := heap_alloc_new W.drew (.cells ((l1.flatMap enc ++ l2.flatMap enc).toArray ++ Builtin.zeroCells z.cells (grownCap W (l1.length + l2.length) l1.length e - (l1.length + l2.length))) e)
      have hjs : j * sz + i < (l1.flatMap enc ++ l2.flatMap enc).length := by
        rw [List.length_append, hfl, hfl, ← Nat.add_mul, ← hlen]
        have : j * sz + sz ≤ (l1 ++ l2).length * sz := by rw [← Nat.succ_mul]; exact Nat.mul_le_mul_right _ hj
        omega
      rw [cell_of_row _ W.heap.size (0 + (j * sz + i)) _ _ _ hn, Nat.zero_add]
      rw [Array.getElem?_append_left (by simpa using hjs), List.getElem?_toArray, ← List.flatMap_append]
      exact flatMap_get enc sz (l1 ++ l2) (fun x _ => henc x) j hj i hi
/-- the same inside a region that draws its order -/
theorem step_append_cutE {P : Program} (enc : α → List Value) (w : World) {ops : Array Oper} {o : Oper} {a : Act} {K : Act → World → Prop} {Q : Exit → Act → World → Prop} {E : Prop} (hgd : o.guard = none) (s x : Operand) (t : TypeId)
    (ho : o.op = .call { callee := .builtin .append, args := #[s, x], argTypes := #[t, t] })
    (e : TypeId) (z : Value) (bytes : Nat) (ht : P.underlying t = some (.slice e)) (hinfo : (P.info? e).map (fun i => (i.zero, i.size, i.bytes)) = some (some z, sz, bytes)) (hsz : 0 < sz) (hby : bytes ≤ 64)
    (henc : ∀ x, (enc x).length = sz) (hone : ∀ x, ∀ u ∈ enc x, u.oneCell' = true)
    (A : Option Addr) (k : Nat) (src : Value) (l1 l2 : List α) (hs : a.eval s = .slice A k k) (hx : a.eval x = src) (hk : l1.length = k) (h1 : SV enc sz w.heap.size w (.slice A k k) l1) (h2 : SV enc sz w.heap.size w src l2) (hb : l1.length + l2.length ≤ 1000000)
    (h : ∀ A' c' w', Below w.heap.size w w' → SV enc sz w'.heap.size w' (.slice A' (l1 ++ l2).length c') (l1 ++ l2) → K (a.put o.dst (.slice A' (l1 ++ l2).length c')) w') :
    if Region.wanted o (yielded ops a.tmps) = true then Oper.wp P o a w K Q else E := by
  have hw : Region.wanted o (yielded ops a.tmps) = true := by simp [Region.wanted, hgd]
  rw [if_pos hw]
  obtain ⟨A', c', w', hrun, hbel, hsx⟩ := run_append_cutE (P := P) (enc := enc) w t o.type e z bytes ht hinfo hsz hby henc hone A k src l1 l2 hk h1 h2 hb
  unfold Oper.wp execOp
  simp only [ho, resolve, invoke, builtin, Sem.run_bind, Sem.run_pure, Result.andThen_ok, List.map_toArray, List.map_cons, List.map_nil, hs, hx, hrun]
  exact h A' c' w' hbel hsx
/-- a beginning, and what is behind -/
theorem SV.take {B : Nat} {w : World} {A : Option Addr} {n c k : Nat} {l : List α} (h : SV enc sz B w (.slice A n c) l) (hk : k ≤ l.length) : SV enc sz B w (.slice A k k) (l.take k) := by
  obtain ⟨A', c', e, h1, h2, h3⟩ := h
  injection e with e1 e2 e3
  subst e1
  have hl : (l.take k).length = k := by rw [List.length_take, Nat.min_eq_left hk]
  refine ⟨A, k, by rw [hl], by rw [List.length_take]; omega, by omega, fun h0 => ?_⟩
  rw [List.length_take] at h0
  obtain ⟨b, off, e, hb, hc⟩ := h3 (by omega)
  refine ⟨b, off, e, hb, fun j hj i hi => ?_⟩
  rw [List.length_take] at hj
  rw [hc j (by omega) i hi, List.getElem_take]
theorem SV.drop {B : Nat} {w : World} {A : Option Addr} {n c k : Nat} {l : List α} (h : SV enc sz B w (.slice A n c) l) (hk : k < l.length) : ∃ A', (A' = if c = k then A else A.map fun a => ⟨a.block, a.off + k * sz, none⟩) ∧ SV enc sz B w (.slice A' (n - k) (c - k)) (l.drop k) := by
  obtain ⟨A0, c', e, h1, h2, h3⟩ := h
  injection e with e1 e2 e3
  subst e1 e2 e3
  obtain ⟨b, off, rfl, hb, hc⟩ := h3 (by omega)
  have hck : ¬ (c = k) := by omega
  refine ⟨_, rfl, some ⟨b, off + k * sz, none⟩, c - k, ?_, by rw [List.length_drop]; omega, by omega, fun h0 => ⟨b, off + k * sz, rfl, hb, fun j hj i hi => ?_⟩⟩
  · rw [if_neg hck, List.length_drop]; rfl
  · rw [List.length_drop] at hj
    rw [List.getElem_drop, Nat.add_assoc, ← Nat.add_assoc (k * sz), ← Nat.add_mul]
    exact hc (k + j) (by omega) i hi
end
end Go.Proofs.Ytllnomembakboaa
