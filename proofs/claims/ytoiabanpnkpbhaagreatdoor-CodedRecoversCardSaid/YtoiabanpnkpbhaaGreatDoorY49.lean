/- Joined: Qd Qf. -/
import Derived.Test.YtoiabanpnkpbhaaGreatDoorY48
import Derived.Test.YtoiabanpnkpbhaaGreatDoorY46
import Derived.Test.YtoiabanpnkpbhaaGreatDoorY23
namespace Go.Proofs.YtoiabanpnkpbhaaGreatDoor
open Go.RowKit

/-- block H holds T headers, the first m of which are of rows with n ints, each in a block of its own -/
structure OM (base : Nat) (w : World) (H T n m : Nat) (bs : Nat → Nat) (M : Nat → List Int) : Prop where
  hdr : w.heap[H]? = some (.cells ((List.range T).map fun i => if i < m then Value.slice (some ⟨bs i, 0, none⟩) n n else .slice none 0 0).toArray 22 (0, 0))
  hb : base ≤ H
  mT : m ≤ T
  row : ∀ i, i < m → BK w (bs i) (M i) ∧ (M i).length = n ∧ base ≤ bs i ∧ bs i ≠ H
  apart : ∀ i j, i < m → j < m → bs i = bs j → i = j
theorem OM.start (w : World) (T n : Nat) (bs : Nat → Nat) (M : Nat → List Int) : OM w.heap.size (w.alloc (.cells (List.replicate T (.slice none 0 0)).toArray 22)) w.heap.size T n 0 bs M := by
  refine ⟨?_, Nat.le_refl _, Nat.zero_le _, fun i hi => by omega, fun i j hi => by omega⟩
  have e : (List.range T).map (fun i => if i < 0 then Value.slice (some ⟨bs i, 0, none⟩) n n else .slice none 0 0) = List.replicate T (.slice none 0 0) := by
    refine List.ext_getElem (by simp) fun j h1 h2 => by simp
  rw [e]; exact heap_alloc_new w _
theorem OM.lt {base : Nat} {w : World} {H T n m : Nat} {bs : Nat → Nat} {M : Nat → List Int} (h : OM base w H T n m bs M) : H < w.heap.size := heap_of_cells h.hdr
theorem OM.cell {base : Nat} {w : World} {H T n m : Nat} {bs : Nat → Nat} {M : Nat → List Int} (h : OM base w H T n m bs M) {i : Nat} (hi : i < m) : w.cell? ⟨H, i, none⟩ = some (.slice (some ⟨bs i, 0, none⟩) n n) := by
  have := h.mT
  rw [cell_of_row w H i _ _ (0, 0) h.hdr]
  simp only [List.getElem?_toArray, List.getElem?_map]
  rw [List.getElem?_range (by omega)]
  simp [hi]
theorem OM.cellN {base : Nat} {w : World} {H T n m : Nat} {bs : Nat → Nat} {M : Nat → List Int} (h : OM base w H T n m bs M) {i : Nat} (hi : m ≤ i) (hT : i < T) : w.cell? ⟨H, i, none⟩ = some (.slice none 0 0) := by
  rw [cell_of_row w H i _ _ (0, 0) h.hdr]
  simp only [List.getElem?_toArray, List.getElem?_map]
  rw [List.getElem?_range hT]
  simp [show ¬ i < m by omega]
theorem OM.frozen {base : Nat} {w : World} {H T n m : Nat} {bs : Nat → Nat} {M : Nat → List Int} (h : OM base w H T n m bs M) (i : Nat) : w.frozen? ⟨H, i, none⟩ = false := frozen_of_row w H i _ _ h.hdr
theorem OM.keep {base : Nat} {w w' : World} {H T n m : Nat} {bs : Nat → Nat} {M : Nat → List Int} (h : OM base w H T n m bs M) (hk : ∀ b, b < w.heap.size → w'.heap[b]? = w.heap[b]?) : OM base w' H T n m bs M :=
  ⟨(hk H h.lt).trans h.hdr, h.hb, h.mT, fun i hi => ⟨(hk _ (h.row i hi).1.lt).trans (h.row i hi).1, (h.row i hi).2⟩, h.apart⟩
theorem OM.below {base : Nat} {w w' : World} {H T n m : Nat} {bs : Nat → Nat} {M : Nat → List Int} (h : OM base w H T n m bs M) (hb : Below w.heap.size w w') : OM base w' H T n m bs M := h.keep fun b hbl => hb.block b hbl
def up {α : Type} (f : Nat → α) (m : Nat) (x : α) (i : Nat) : α := if i = m then x else f i
/-- one more row is made -/
theorem OM.add {base : Nat} {w : World} {H T n m : Nat} {bs : Nat → Nat} {M : Nat → List Int} (h : OM base w H T n m bs M) (hm : m < T) (hbase : base ≤ w.heap.size) :
    OM base ((w.alloc (.cells ((zeros n).map (Value.int .i64)).toArray 3)).setCell ⟨H, m, none⟩ (.slice (some ⟨w.heap.size, 0, none⟩) n n)) H T n (m + 1) (up bs m w.heap.size) (up M m (zeros n)) := by
  have hA : ∀ b, b < w.heap.size → (w.alloc (.cells ((zeros n).map (Value.int .i64)).toArray 3)).heap[b]? = w.heap[b]? := fun b hb => Below.heap_alloc _ _ _ hb
  have hH := (hA H h.lt).trans h.hdr
  have hne : ∀ b, b ≠ H → ((w.alloc (.cells ((zeros n).map (Value.int .i64)).toArray 3)).setCell ⟨H, m, none⟩ (.slice (some ⟨w.heap.size, 0, none⟩) n n)).heap[b]? = (w.alloc (.cells ((zeros n).map (Value.int .i64)).toArray 3)).heap[b]? := fun b hb => heap_setCell_other _ _ b _ hb
  have hlt := h.lt
  refine ⟨?_, h.hb, by omega, fun i hi => ?_, fun i j hi hj e => ?_⟩
  · rw [heap_setCell_same _ H m _ _ _ hH]
    refine congrArg (fun x => some (Obj.cells x 22 (0, 0))) ?_
    apply Array.toList_inj.1
    simp only [Array.toList_setIfInBounds]
    refine List.ext_getElem (by simp) fun j h1 h2 => ?_
    have hj : j < T := by simpa using h2
    rw [List.getElem_set]
    simp only [List.getElem_map, List.getElem_range]
    by_cases e : m = j
    · subst e; simp [up]
    · rw [if_neg e]
      by_cases hjm : j < m
      · rw [if_pos hjm, if_pos (by omega)]; simp [up, show ¬ j = m by omega]
      · rw [if_neg hjm, if_neg (by omega)]
  · by_cases e : i = m
    · subst e
      have e1 : up bs i w.heap.size i = w.heap.size := by simp [up]
      have e2 : up M i (zeros n) i = zeros n := by simp [up]
      rw [e1, e2]
      exact ⟨(hne _ (by omega)).trans (heap_alloc_new w _), by simp [zeros], hbase, by omega⟩
    · have e1 : up bs m w.heap.size i = bs i := by simp [up, e]
      have e2 : up M m (zeros n) i = M i := by simp [up, e]
      obtain ⟨r1, r2, r3, r4⟩ := h.row i (by omega)
      rw [e1, e2]
      exact ⟨(hne _ r4).trans ((hA _ r1.lt).trans r1), r2, r3, r4⟩
  · by_cases ei : i = m
    · by_cases ej : j = m
      · omega
      · exfalso
        have := (h.row j (by omega)).1.lt
        simp [up, ei, ej] at e; omega
    · by_cases ej : j = m
      · exfalso
        have := (h.row i (by omega)).1.lt
        simp [up, ei, ej] at e; omega
      · simp [up, ei, ej] at e
        exact h.apart i j (by omega) (by omega) e
/-- an element is stored -/
theorem OM.set {base : Nat} {w : World} {H T n m : Nat} {bs : Nat → Nat} {M : Nat → List Int} (h : OM base w H T n m bs M) {i : Nat} (hi : i < m) (c : Nat) (x : Int) :
    OM base (w.setCell ⟨bs i, c, none⟩ (.int .i64 x)) H T n m bs (up M i ((M i).set c x)) := by
  obtain ⟨r1, r2, r3, r4⟩ := h.row i hi
  refine ⟨(heap_setCell_other _ _ H _ (fun e => r4 e.symm)).trans h.hdr, h.hb, h.mT, fun j hj => ?_, h.apart⟩
  by_cases e : j = i
  · subst e
    have e2 : up M j ((M j).set c x) j = (M j).set c x := by simp [up]
    rw [e2]
    exact ⟨r1.set c x, by rw [List.length_set]; exact r2, r3, r4⟩
  · have e2 : up M i ((M i).set c x) j = M j := by simp [up, e]
    obtain ⟨q1, q2, q3, q4⟩ := h.row j hj
    rw [e2]
    exact ⟨(heap_setCell_other _ _ (bs j) _ (fun e' => e (h.apart j i hj hi e'))).trans q1, q2, q3, q4⟩
theorem OM.sl {base : Nat} {w : World} {H T n : Nat} {bs : Nat → Nat} {M : Nat → List Int} (h : OM base w H T n T bs M) (hr : ∀ i, i < T → ∀ x ∈ M i, i64r x) (hT : T ≤ 1000000) (hn : n ≤ 1000000) : SL w (.slice (some ⟨H, 0, none⟩) T T) ((List.range T).map M) := by
  refine ⟨_, T, by simp, by simp, by omega, fun h0 => ⟨H, 0, rfl, h.lt, fun j hj => ?_⟩⟩
  have hjT : j < T := by simpa using hj
  obtain ⟨r1, r2, _, _⟩ := h.row j hjT
  have hs := r1.si0 (hr j hjT) (by omega)
  have e : ((List.range T).map M)[j]'hj = M j := by simp
  rw [e]
  refine ⟨some ⟨bs j, 0, none⟩, n, ?_, ?_⟩
  · rw [Nat.zero_add, h.cell hjT, r2]
  · rw [r2] at hs ⊢; exact hs
/-- what has been stored, when group g is at column c and coefficient i -/
def Cnd (G g c i x c' : Nat) : Prop := x / G < g ∨ (x / G = g ∧ (c' < c ∨ (c' = c ∧ x % G < i)))
instance (G g c i x c' : Nat) : Decidable (Cnd G g c i x c') := by unfold Cnd; infer_instance
def rV (P : Int) (sv : List Int) (hs : List (List (List Int))) (G x c : Nat) : Int := gd (interp P (rPts sv hs G (x / G) c)) (x % G)
def RmS (P : Int) (sv : List Int) (hs : List (List (List Int))) (G wd T g c i : Nat) (M : Nat → List Int) : Prop := ∀ x, x < T → (M x).length = wd ∧ ∀ c', c' < wd → gd (M x) c' = if Cnd G g c i x c' then rV P sv hs G x c' else 0
theorem RmS.congr {P : Int} {sv : List Int} {hs : List (List (List Int))} {G wd T g c i g2 c2 i2 : Nat} {M : Nat → List Int} (h : RmS P sv hs G wd T g c i M) (he : ∀ x c', x < T → c' < wd → (Cnd G g c i x c' ↔ Cnd G g2 c2 i2 x c') ∨ rV P sv hs G x c' = 0) : RmS P sv hs G wd T g2 c2 i2 M := fun x hx => by
  refine ⟨(h x hx).1, fun c' hc => ?_⟩
  rw [(h x hx).2 c' hc]
  rcases he x c' hx hc with h1 | h1
  · by_cases h2 : Cnd G g c i x c'
    · rw [if_pos h2, if_pos (h1.1 h2)]
    · rw [if_neg h2, if_neg (fun h3 => h2 (h1.2 h3))]
  · rw [h1]; simp
theorem RmS.start {P : Int} {sv : List Int} {hs : List (List (List Int))} {G wd T : Nat} {M : Nat → List Int} (h : ∀ x, x < T → M x = zeros wd) : RmS P sv hs G wd T 0 0 0 M := fun x hx => by
  rw [h x hx]
  refine ⟨by simp [zeros], fun c' hc => ?_⟩
  rw [if_neg (fun h => by unfold Cnd at h; rcases h with h | ⟨_, h | ⟨_, h⟩⟩ <;> exact absurd h (Nat.not_lt_zero _))]
  simp [zeros, gd, hc]
theorem RmS.set {P : Int} {sv : List Int} {hs : List (List (List Int))} {G wd T g c i : Nat} {M : Nat → List Int} (h : RmS P sv hs G wd T g c i M) (hi : i < G) (hc : c < wd) {y : Int} (hy : y = gd (interp P (rPts sv hs G g c)) i) : RmS P sv hs G wd T g c (i + 1) (up M (g * G + i) ((M (g * G + i)).set c y)) := fun x hxT => by
  have hd : (g * G + i) / G = g ∧ (g * G + i) % G = i := by
    have hG : 0 < G := by omega
    constructor
    · rw [Nat.add_comm, Nat.add_mul_div_right _ _ hG, Nat.div_eq_of_lt hi, Nat.zero_add]
    · rw [Nat.add_comm, Nat.add_mul_mod_self_right, Nat.mod_eq_of_lt hi]
  by_cases e : x = g * G + i
  · subst e
    have e2 : up M (g * G + i) ((M (g * G + i)).set c y) (g * G + i) = (M (g * G + i)).set c y := by simp [up]
    rw [e2]
    obtain ⟨h1, h2⟩ := h _ hxT
    refine ⟨by rw [List.length_set]; exact h1, fun c' hc' => ?_⟩
    rw [gd_set _ _ _ _ (by omega)]
    by_cases ec : c' = c
    · subst ec
      rw [if_pos rfl, if_pos (by unfold Cnd; rw [hd.1, hd.2]; omega), hy]
      unfold rV; rw [hd.1, hd.2]
    · rw [if_neg ec, h2 c' hc']
      by_cases h3 : Cnd G g c i (g * G + i) c'
      · rw [if_pos h3, if_pos (by unfold Cnd at h3 ⊢; omega)]
      · rw [if_neg h3, if_neg (by unfold Cnd at h3 ⊢; omega)]
  · have e2 : up M (g * G + i) ((M (g * G + i)).set c y) x = M x := by simp [up, e]
    rw [e2]
    obtain ⟨h1, h2⟩ := h _ hxT
    refine ⟨h1, fun c' hc' => ?_⟩
    rw [h2 c' hc']
    have key : ¬ (x / G = g ∧ x % G = i) := fun ⟨a, b⟩ => e (by rw [← a, ← b, Nat.mul_comm]; exact (Nat.div_add_mod x G).symm)
    by_cases h3 : Cnd G g c i x c'
    · rw [if_pos h3, if_pos (by unfold Cnd at h3 ⊢; omega)]
    · rw [if_neg h3, if_neg (by unfold Cnd at h3 ⊢; omega)]
theorem rAll_get (P : Int) (sv : List Int) (hs : List (List (List Int))) (G wd : Nat) (hG : 0 < G) : ∀ (k x : Nat) (h : x < (rAll P sv hs G wd k).length), (rAll P sv hs G wd k)[x] = (List.range wd).map fun c => rV P sv hs G x c
  | 0, x, h => by simp [rAll] at h
  | k + 1, x, h => by
    have hl := rAll_len P sv hs G wd k
    have hl1 := rAll_len P sv hs G wd (k + 1)
    by_cases hx : x < (rAll P sv hs G wd k).length
    · have ih := rAll_get P sv hs G wd hG k x hx
      have e : (rAll P sv hs G wd (k + 1))[x] = (rAll P sv hs G wd k ++ rGrp P sv hs G wd k)[x]'(by rw [← rAll_succ]; exact h) := by congr 1; exact rAll_succ ..
      rw [e, List.getElem_append_left hx, ih]
    · have e : (rAll P sv hs G wd (k + 1))[x] = (rAll P sv hs G wd k ++ rGrp P sv hs G wd k)[x]'(by rw [← rAll_succ]; exact h) := by congr 1; exact rAll_succ ..
      rw [Nat.add_mul, Nat.one_mul] at hl1
      obtain ⟨i, rfl⟩ : ∃ i, x = k * G + i := ⟨x - k * G, by omega⟩
      have hi : i < G := by omega
      have hd : (k * G + i) / G = k ∧ (k * G + i) % G = i := by
        constructor
        · rw [Nat.add_comm, Nat.add_mul_div_right _ _ hG, Nat.div_eq_of_lt hi, Nat.zero_add]
        · rw [Nat.add_comm, Nat.add_mul_mod_self_right, Nat.mod_eq_of_lt hi]
      rw [e, List.getElem_append_right (by omega)]
      have e2 : k * G + i - (rAll P sv hs G wd k).length = i := by omega
      simp only [e2, rGrp, rPols, List.getElem_map, List.getElem_range, List.map_map]
      refine List.map_congr_left fun c _ => ?_
      unfold rV
      rw [hd.1, hd.2]; rfl
theorem RmS.done {P : Int} {sv : List Int} {hs : List (List (List Int))} {G wd N : Nat} {M : Nat → List Int} (hG : 0 < G) (h : RmS P sv hs G wd (N * G) N 0 0 M) : (List.range (N * G)).map M = rAll P sv hs G wd N := by
  refine List.ext_getElem (by rw [rAll_len]; simp) fun x h1 h2 => ?_
  rw [rAll_get P sv hs G wd hG N x h2]
  have hx : x < N * G := by simpa using h1
  obtain ⟨h3, h4⟩ := h x hx
  simp only [List.getElem_map, List.getElem_range]
  refine list_ext_gd (by simp [h3]) fun c hc => ?_
  have hc' : c < wd := by omega
  have hq : x / G < N := (Nat.div_lt_iff_lt_mul hG).2 hx
  rw [h4 c hc', if_pos (.inl hq)]
  unfold gd
  rw [List.getElem?_map, List.getElem?_range hc']; rfl
end Go.Proofs.YtoiabanpnkpbhaaGreatDoor

namespace Go.Proofs.YtoiabanpnkpbhaaGreatDoor
open Go.RowKit

theorem step_append_lit_at {P : Program} (w : World) {ops : Array Oper} {o : Oper} {a : Act} {K : Act → World → Prop} {Q : Exit → Act → World → Prop} {E : Prop} (hgd : o.guard = none) (s x : Operand) (t : TypeId)
    (ho : o.op = .call { callee := .builtin .append, args := #[s, x], argTypes := #[t, t] })
    (base : Nat) (e : TypeId) (z : Value) (size by' : Nat) (ht : P.underlying t = some (.slice e)) (hinfo : (P.info? e).map (fun i => (i.zero, i.size, i.bytes)) = some (some z, size, by'))
    (v : Value) (n : Nat) (xs : List Value) (hs : a.eval s = v) (hown : w.ownsRow base e size v n xs)
    (news : List Value) (hnl : news.length = size) (h1 : ∀ u ∈ news, u.oneCell' = true) (b : Nat) (hx : a.eval x = .slice (some ⟨b, 0, none⟩) 1 1) (hc : ∀ j u, news[j]? = some u → w.cell? ⟨b, j, none⟩ = some u)
    (hbytes : (n + 1) * by' ≤ 140737488355328) (hn : n ≤ 1000000) (hzs : z.cells.size = size) (hsz : 0 < size) (hbase : base ≤ w.heap.size)
    (h : ∀ g cap w', w'.ownsRow base e size (.slice (some ⟨g, 0, none⟩) (n + 1) cap) (n + 1) (xs ++ news) → w.grownBy w' v.ownBlock → (v.ownBlock = some g ∨ g = w.heap.size) → K (a.put o.dst (.slice (some ⟨g, 0, none⟩) (n + 1) cap)) w') :
    if Region.wanted o (yielded ops a.tmps) = true then Oper.wp P o a w K Q else E := by
  obtain ⟨i0, hi0, hz0, hz1, hz2⟩ := info_parts hinfo
  have hw : Region.wanted o (yielded ops a.tmps) = true := by simp [Region.wanted, hgd]
  rw [if_pos hw]
  obtain ⟨v', w', hrun, h2, h3, h4⟩ := run_append_sc_at (P := P) w base t o.type e i0 _ size by' ht hi0 hz0 hz1 hz2 hzs hsz v _ _ hown (b + 1) (.slice (some ⟨b, 0, none⟩) 1 1) 1 news ⟨_, 1, rfl, by omega, fun _ => ⟨b, 0, rfl, by omega, fun j u hu => by rw [Nat.zero_add]; exact hc j u hu⟩⟩ h1 (by unfold maxLen; omega) hbytes hbase
  rcases h2.2 with ⟨_, hn'⟩ | ⟨g, cap, cur, rfl, hb, hg, hnc, hcm, hcs, htake⟩
  · simp at hn'
  · unfold Oper.wp execOp
    simp only [ho, resolve, invoke, builtin, Sem.run_bind, Sem.run_pure, Result.andThen_ok, List.map_toArray, List.map_cons, List.map_nil, hs, hx, hrun]
    refine h g cap w' h2 h3 ?_
    rcases h4 with e4 | e4
    · exact .inl (by rw [← e4]; rfl)
    · exact .inr (by simpa [Value.ownBlock] using e4)
noncomputable def regF53C : Code := ((Tryz.f43.body.bind (regionOf 53)).getD .skip)
set_option maxRecDepth 1000000 in
set_option maxHeartbeats 4000000 in
theorem regF53 (base bs os bh oh b1 o1 b2 o2 M cs ch N d1 wd d2 i g c : Nat) (j y : Int) (v : Value) (l : List (Int × Int)) (w : World) (hi : i < M) (hg : g < N) (hc : c < wd) (hll : l.length ≤ 1000) (hbase : base ≤ w.heap.size) (hX : ∀ W, Below base w W → W.cell? ⟨bs, os + i, none⟩ = some (.int .i64 j) ∧ W.cell? ⟨bh, oh + i, none⟩ = some (.slice (some ⟨b1, o1, none⟩) N d1) ∧ W.cell? ⟨b1, o1 + g, none⟩ = some (.slice (some ⟨b2, o2, none⟩) wd d2) ∧ W.cell? ⟨b2, o2 + c, none⟩ = some (.int .i64 y)) (hO : w.ownsRow base 114 2 v l.length ((l.flatMap pcs).map (Value.int .i64)))
    (s0 s1 s2 s3 s6 s7 s8 s9 s10 s11 s12 s13 s14 s15 s16 s17 s18 s19 s20 s21 s22 s23 s24 s25 s26 s31 s32 s33 s34 s35 s36 s37 s38 s39 s40 s41 s42 s43 s44 s45 s46 s47 s48 s49 s50 s51 s52 s53 s54 s55 s56 s57 s58 s59 s60 s61 s62 s63 s64 s65 s66 s67 s68 s69 s70 s71 s72 s73 s74 s75 s76 s77 s78 s79 s80 s81 s82 s83 s84 s85 s86 s87 s88 s89 s90 s91 s92 s93 s94 s95 s96 s97 s98 s99 s100 s101 s102 s103 s104 s105 s106 s107 s108 s109 s110 s111 s112 s113 s114 s115 s116 s117 s118 s119 s120 s121 s122 s123 s124 s125 s126 s127 s128 s129 s130 s131 s132 s133 s134 s135 s136 s137 s138 s139 s140 s141 s142 s143 s144 s145 s146 s147 s148 s149 s150 s151 s152 s153 s154 s155 s156 s157 s158 s159 s160 s161 s162 s163 s164 s165 s166 s167 s168 s169 s170 s171 s172 s173 s174 s175 s176 s177 s178 s179 s180 s181 s182 s183 s184 s185 s186 s187 s188 s189 s190 s191 s192 s193 s194 s195 s196 s197 s198 s199 s200 s201 s202 s203 s204 s205 s206 s207 s208 s209 s210 s211 s212 : Value) (Q : Exit → Act → World → Prop)
    (hK : ∀ (u29 u166 u167 u168 u169 u170 u171 u172 u173 u174 u175 u176 u177 u178 u179 u180 u181 u182 u183 : Value) (w' : World), w'.ownsRow base 114 2 u29 (l ++ [(j, y)]).length (((l ++ [(j, y)]).flatMap pcs).map (Value.int .i64)) ∧ Below base w w' → Q .normal ⟨List.toArray (s0 :: s1 :: s2 :: s3 :: (Value.slice (some ⟨bs, os, none⟩) M cs) :: (Value.slice (some ⟨bh, oh, none⟩) M ch) :: s6 :: s7 :: s8 :: s9 :: s10 :: s11 :: s12 :: s13 :: s14 :: s15 :: s16 :: s17 :: s18 :: s19 :: s20 :: s21 :: s22 :: s23 :: s24 :: s25 :: s26 :: (Value.int .i64 (g : Int)) :: (Value.int .i64 (c : Int)) :: u29 :: (Value.int .i64 (i : Int)) :: s31 :: s32 :: s33 :: s34 :: s35 :: s36 :: s37 :: s38 :: s39 :: s40 :: s41 :: s42 :: s43 :: s44 :: s45 :: s46 :: s47 :: s48 :: s49 :: s50 :: s51 :: s52 :: s53 :: s54 :: s55 :: s56 :: s57 :: s58 :: s59 :: s60 :: s61 :: s62 :: s63 :: s64 :: s65 :: s66 :: s67 :: s68 :: s69 :: s70 :: s71 :: s72 :: s73 :: s74 :: s75 :: s76 :: s77 :: s78 :: s79 :: s80 :: s81 :: s82 :: s83 :: s84 :: s85 :: s86 :: s87 :: s88 :: s89 :: s90 :: s91 :: s92 :: s93 :: s94 :: s95 :: s96 :: s97 :: s98 :: s99 :: s100 :: s101 :: s102 :: s103 :: s104 :: s105 :: s106 :: s107 :: s108 :: s109 :: s110 :: s111 :: s112 :: s113 :: s114 :: s115 :: s116 :: s117 :: s118 :: s119 :: s120 :: s121 :: s122 :: s123 :: s124 :: s125 :: s126 :: s127 :: s128 :: s129 :: s130 :: s131 :: s132 :: s133 :: s134 :: s135 :: s136 :: s137 :: s138 :: s139 :: s140 :: s141 :: s142 :: s143 :: s144 :: s145 :: s146 :: s147 :: s148 :: s149 :: s150 :: s151 :: s152 :: s153 :: s154 :: s155 :: s156 :: s157 :: s158 :: s159 :: s160 :: s161 :: s162 :: s163 :: s164 :: s165 :: u166 :: u167 :: u168 :: u169 :: u170 :: u171 :: u172 :: u173 :: u174 :: u175 :: u176 :: u177 :: u178 :: u179 :: u180 :: u181 :: u182 :: u183 :: s184 :: s185 :: s186 :: s187 :: s188 :: s189 :: s190 :: s191 :: s192 :: s193 :: s194 :: s195 :: s196 :: s197 :: s198 :: s199 :: s200 :: s201 :: s202 :: s203 :: s204 :: s205 :: s206 :: s207 :: s208 :: s209 :: s210 :: s211 :: s212 :: []), []⟩ w') :
    Code.wp Tryz.prog regF53C Q ⟨List.toArray (s0 :: s1 :: s2 :: s3 :: (Value.slice (some ⟨bs, os, none⟩) M cs) :: (Value.slice (some ⟨bh, oh, none⟩) M ch) :: s6 :: s7 :: s8 :: s9 :: s10 :: s11 :: s12 :: s13 :: s14 :: s15 :: s16 :: s17 :: s18 :: s19 :: s20 :: s21 :: s22 :: s23 :: s24 :: s25 :: s26 :: (Value.int .i64 (g : Int)) :: (Value.int .i64 (c : Int)) :: (v) :: (Value.int .i64 (i : Int)) :: s31 :: s32 :: s33 :: s34 :: s35 :: s36 :: s37 :: s38 :: s39 :: s40 :: s41 :: s42 :: s43 :: s44 :: s45 :: s46 :: s47 :: s48 :: s49 :: s50 :: s51 :: s52 :: s53 :: s54 :: s55 :: s56 :: s57 :: s58 :: s59 :: s60 :: s61 :: s62 :: s63 :: s64 :: s65 :: s66 :: s67 :: s68 :: s69 :: s70 :: s71 :: s72 :: s73 :: s74 :: s75 :: s76 :: s77 :: s78 :: s79 :: s80 :: s81 :: s82 :: s83 :: s84 :: s85 :: s86 :: s87 :: s88 :: s89 :: s90 :: s91 :: s92 :: s93 :: s94 :: s95 :: s96 :: s97 :: s98 :: s99 :: s100 :: s101 :: s102 :: s103 :: s104 :: s105 :: s106 :: s107 :: s108 :: s109 :: s110 :: s111 :: s112 :: s113 :: s114 :: s115 :: s116 :: s117 :: s118 :: s119 :: s120 :: s121 :: s122 :: s123 :: s124 :: s125 :: s126 :: s127 :: s128 :: s129 :: s130 :: s131 :: s132 :: s133 :: s134 :: s135 :: s136 :: s137 :: s138 :: s139 :: s140 :: s141 :: s142 :: s143 :: s144 :: s145 :: s146 :: s147 :: s148 :: s149 :: s150 :: s151 :: s152 :: s153 :: s154 :: s155 :: s156 :: s157 :: s158 :: s159 :: s160 :: s161 :: s162 :: s163 :: s164 :: s165 :: s166 :: s167 :: s168 :: s169 :: s170 :: s171 :: s172 :: s173 :: s174 :: s175 :: s176 :: s177 :: s178 :: s179 :: s180 :: s181 :: s182 :: s183 :: s184 :: s185 :: s186 :: s187 :: s188 :: s189 :: s190 :: s191 :: s192 :: s193 :: s194 :: s195 :: s196 :: s197 :: s198 :: s199 :: s200 :: s201 :: s202 :: s203 :: s204 :: s205 :: s206 :: s207 :: s208 :: s209 :: s210 :: s211 :: s212 :: []), []⟩ w := by
  have HK := Lib.hid hK
  have HO := Lib.hid hO
  have HX := Lib.hid hX
  obtain ⟨c1, c2, c3, c4⟩ := hX w (Below.refl _ _)
  have HBA : Hid (Below w.heap.size w (w.alloc (.cells #[.int .i64 j, .int .i64 y] 114))) := (show Hid _ from (Below.refl _ w).alloc (Nat.le_refl _) _)
  have y1 : (0 : Int) ≤ (i : Int) := by omega
  have y2 : (i : Int) < (M : Int) := by omega
  have y3 : (0 : Int) ≤ (g : Int) := by omega
  have y4 : (g : Int) < (N : Int) := by omega
  have y5 : (0 : Int) ≤ (c : Int) := by omega
  have y6 : (c : Int) < (wd : Int) := by omega
  clear hK hO hX
  conv => arg 2; whnf
  go_region_held3 (fun w' => w'.cell? ⟨bs, os + i, none⟩ = some (.int .i64 j) ∧ w'.cell? ⟨bh, oh + i, none⟩ = some (.slice (some ⟨b1, o1, none⟩) N d1) ∧ w'.cell? ⟨b1, o1 + g, none⟩ = some (.slice (some ⟨b2, o2, none⟩) wd d2) ∧ w'.cell? ⟨b2, o2 + c, none⟩ = some (.int .i64 y)) (first | exact ⟨c1, c2, c3, c4⟩ | go_keep)
    (first
      | (refine step_append_lit_at _ (by rfl) (.tmp 166) _ 112 (by rfl) base 114 _ 2 16 Tryz.underlying112 shinfo v l.length ((l.flatMap pcs).map (Value.int .i64)) (by rfl) (by first | exact HO.out.alloc (.cells #[.int .i64 j, .int .i64 y] 114) | exact (HO.out.alloc (.cells #[.int .i64 j, .int .i64 y] 114)).drew) [.int .i64 j, .int .i64 y] rfl (by intro u hu; simp at hu; rcases hu with rfl | rfl <;> rfl) w.heap.size (by rfl) (by intro k u hu; have h := cells_new w [.int .i64 j, .int .i64 y] 114 k u hu; rw [addr_add] at h; exact h) (by omega) (by omega) rfl (by omega) (by first | omega | (simp; omega)) ?_; intro g9 cap9 w9 hown9 hg9 hat9; have HO9 := Lib.hid hown9; have HB9 : Hid (Below base w w9) := (show Hid _ from by first | exact ((Below.refl base w).alloc hbase (.cells #[.int .i64 j, .int .i64 y] 114)).grown hg9 (by simp; omega) (fun q hq => (HO.out.lt q hq).1) | exact (((Below.refl base w).alloc hbase (.cells #[.int .i64 j, .int .i64 y] 114)).drew).grown hg9 (by simp; omega) (fun q hq => (HO.out.lt q hq).1)); obtain ⟨c1, c2, c3, c4⟩ := HX.out w9 HB9.out; clear hown9 hg9 hat9))
  all_goals
    have hk := HK.out
    have ho : w9.ownsRow base 114 2 (.slice (some ⟨g9, 0, none⟩) (l.length + 1) cap9) (l ++ [(j, y)]).length (((l ++ [(j, y)]).flatMap pcs).map (Value.int .i64)) := by
      have h := HO9.out
      simpa [pcs] using h
    first
      | exact hk _ _ _ _ _ _ _ _ _ _ _ _ _ _ _ _ _ _ _ w9 ⟨ho, HB9.out⟩
      | exact hk _ _ _ _ _ _ _ _ _ _ _ _ _ _ _ _ _ _ _ w9.drew ⟨ho.drew, HB9.out.drew⟩

end Go.Proofs.YtoiabanpnkpbhaaGreatDoor
