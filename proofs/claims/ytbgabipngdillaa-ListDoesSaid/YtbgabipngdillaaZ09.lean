/- Joined: Ch. -/
import Derived.Test.YtbgabipngdillaaZ08
namespace Go.Proofs.Ytbgabipngdillaa
open Go.RowKit Go.Shelf

section
variable {P : Program}
/-- append of one element to a full slice, or to nil: a new block -/
theorem run_append_full (w : World) (t ty e : TypeId) (i : TypeInfo) (z : Value) (size bytes : Nat) (ht : P.underlying t = some (.slice e)) (hi : P.info? e = some i) (hz : i.zero = some z)
    (hsize : i.size = size) (hby : i.bytes = bytes) (hzs : z.cells.size = size) (A : Option Addr) (n c : Nat) (olds : List Value) (hl : olds.length = n * size) (hA0 : n = 0 → A = none ∧ c = 0)
    (hA : 0 < n → c = n ∧ ∃ b off, A = some ⟨b, off, none⟩ ∧ ∀ j u, olds[j]? = some u → w.cell? ⟨b, off + j, none⟩ = some u)
    (ad : Addr) (m cc : Nat) (news : List Value) (hnl : news.length = m * size) (hnews : ∀ j u, news[j]? = some u → w.cell? (ad.add j) = some u) (hm : 0 < m) (hbytes : (n + m) * bytes ≤ 140737488355328) (h63 : n + m ≤ maxLen) :
    ∃ cap w', (Builtin.append_ #[t, t] ty #[.slice A n c, .slice (some ad) m cc]).run P w = .ok (.slice (some ⟨w.heap.size, 0, none⟩) (n + m) cap) w' ∧ w'.ownsRow w.heap.size e size (.slice (some ⟨w.heap.size, 0, none⟩) (n + m) cap) (n + m) (olds ++ news) ∧ Below w.heap.size w w' := by
  subst hsize
  subst hby
  have hlen : (olds ++ news).length = (n + m) * i.size := by rw [List.length_append, hl, hnl, Nat.add_mul]
  have hbel : ∀ o : Obj, Below w.heap.size w (w.drew.alloc o) := fun o => (Below.refl _ w).drew.alloc (Nat.le_refl _) o
  have hm63 : n + m ≤ 9223372036854775807 := by simp only [maxLen] at h63; omega
  have grown : ∀ (old : Nat) , (w.drew.alloc (.cells (olds.toArray ++ news.toArray ++ Builtin.zeroCells z.cells (grownCap w (n + m) old e - (n + m))) e)).ownsRow w.heap.size e i.size
        (.slice (some ⟨w.heap.size, 0, none⟩) (n + m) (grownCap w (n + m) old e)) (n + m) (olds ++ news) := by
    intro old
    have hge := grownCap_ge w (n + m) old e
    have hcm : grownCap w (n + m) old e ≤ maxLen := grownCap_le_maxLen w (n + m) old e h63
    refine ⟨hlen, .inr ⟨w.heap.size, _, _, rfl, Nat.le_refl _, heap_alloc_new w.drew _, hge, hcm, ?_, ?_⟩⟩
    · simp only [Array.size_append, List.size_toArray, size_zeroCells, hzs, hl, hnl, ← Nat.add_mul]
      congr 1
      omega
    · simp only [Array.toList_append, List.append_assoc]
      rw [← List.append_assoc, ← hlen]
      exact List.take_left
  rcases Nat.eq_zero_or_pos n with h0 | h0
  · subst h0
    obtain ⟨rfl, rfl⟩ := hA0 rfl
    have : olds = [] := List.eq_nil_of_length_eq_zero (by simpa using hl)
    subst this
    have hr := run_append_nil (P := P) w t ty e i z ht hi hz ad m cc news hnl hnews hm (by omega) (by have hb := hbytes; simp only [Nat.zero_add] at hb; omega)
    have hgr := grown 0
    simp only [Nat.zero_add, List.nil_append, Array.empty_append] at hgr ⊢
    exact ⟨_, _, hr, hgr, hbel _⟩
  · obtain ⟨rfl, b, off, rfl, hc⟩ := hA h0
    have hr := run_append_grow (P := P) w t ty e i z ht hi hz ⟨b, off, none⟩ c c olds hl (fun j u hu => by
      have : (⟨b, off, none⟩ : Addr).add j = ⟨b, off + j, none⟩ := by unfold Addr.add; split <;> simp_all
      rw [this]; exact hc j u hu) ad m cc news hnl hnews (by omega) (by omega) (growslice_fits (by omega) hbytes)
    exact ⟨_, _, hr, grown c, hbel _⟩

theorem step_append_full {w : World} {ops : Array Oper} {o : Oper} {a : Act} {K : Act → World → Prop} {Q : Exit → Act → World → Prop} {E : Prop} (hgd : o.guard = none) (s x : Operand) (t : TypeId)
    (ho : o.op = .call { callee := .builtin .append, args := #[s, x], argTypes := #[t, t] })
    (e : TypeId) (size bytes : Nat) (zv : Value) (ht : P.underlying t = some (.slice e)) (hinfo : (P.info? e).map (fun i => (i.zero, i.size, i.bytes)) = some (some zv, size, bytes)) (hzs : zv.cells.size = size)
    (A : Option Addr) (n c : Nat) (hs : a.eval s = .slice A n c) (olds : List Value) (hl : olds.length = n * size) (hA0 : n = 0 → A = none ∧ c = 0)
    (hA : 0 < n → c = n ∧ ∃ b off, A = some ⟨b, off, none⟩ ∧ ∀ j u, olds[j]? = some u → w.cell? ⟨b, off + j, none⟩ = some u)
    (ad : Addr) (m cc : Nat) (hx : a.eval x = .slice (some ad) m cc) (news : List Value) (hnl : news.length = m * size) (hnews : ∀ j u, news[j]? = some u → w.cell? (ad.add j) = some u) (hm : 0 < m) (hbytes : (n + m) * bytes ≤ 140737488355328) (h63 : n + m ≤ maxLen)
    (h : ∀ cap w', w'.ownsRow w.heap.size e size (.slice (some ⟨w.heap.size, 0, none⟩) (n + m) cap) (n + m) (olds ++ news) → Below w.heap.size w w' → K (a.put o.dst (.slice (some ⟨w.heap.size, 0, none⟩) (n + m) cap)) w') :
    if Region.wanted o (yielded ops a.tmps) = true then Oper.wp P o a w K Q else E := by
  obtain ⟨i0, hi0, hi1, hi2, hi3⟩ := info_parts hinfo
  have hw : Region.wanted o (yielded ops a.tmps) = true := by simp [Region.wanted, hgd]
  rw [if_pos hw]
  obtain ⟨cap, w', hrun, h2, h3⟩ := run_append_full (P := P) w t o.type e i0 zv size bytes ht hi0 hi1 hi2 hi3 hzs A n c olds hl hA0 hA ad m cc news hnl hnews hm hbytes h63
  unfold Oper.wp execOp
  simp only [ho, resolve, invoke, builtin, Sem.run_bind, Sem.run_pure, Result.andThen_ok, List.map_toArray, List.map_cons, List.map_nil, hs, hx, hrun]
  exact h cap w' h2 h3
end

/-- all choices of k known cells that begin with ch, out of the last m cells -/
def chs (l : List (Int × Bool)) (k : Nat) : Nat → List (Int × Int) → List (List (Int × Int))
  | 0, ch => if ch.length = k then [ch] else []
  | m + 1, ch => if ch.length = k then [ch] else (if (l.getD (l.length - (m + 1)) (0, false)).2 = true then chs l k m (ch ++ [(((l.length - (m + 1) : Nat) : Int) + 1, (l.getD (l.length - (m + 1)) (0, false)).1)]) else []) ++ chs l k m ch
theorem chs_len (l : List (Int × Bool)) (k : Nat) : ∀ m ch, (chs l k m ch).length ≤ 2 ^ m := by
  intro m
  induction m with
  | zero => intro ch; unfold chs; split <;> simp
  | succ m ih =>
    intro ch
    unfold chs
    have hp : 1 ≤ 2 ^ m := Nat.one_le_two_pow
    split
    · simp; omega
    · have h2 := ih ch
      have h1 := ih (ch ++ [(((l.length - (m + 1) : Nat) : Int) + 1, (l.getD (l.length - (m + 1)) (0, false)).1)])
      rw [List.length_append, Nat.pow_succ]
      split
      · omega
      · simp; omega
theorem look_len (P : Int) (l : List (Int × Bool)) (ag : Int) (cs : List (List (Int × Int))) : ∀ st, (cs.foldl (lookS P l ag) st).1.length ≤ st.1.length + cs.length := by
  induction cs with
  | nil => intro st; simp
  | cons c cs ih =>
    intro st
    have := ih (lookS P l ag st c)
    have h2 : (lookS P l ag st c).1.length ≤ st.1.length + 1 := by
      unfold lookS
      split
      · dsimp only; split <;> simp
      · omega
    simp only [List.foldl_cons, List.length_cons]
    omega

/-- The shares that were chosen: nil, or in a block behind s that is not A's own. -/
def SK (s : Nat) (A : Value) (w : World) (v : Value) (ch : List (Int × Int)) : Prop :=
  ∃ P c, v = .slice P ch.length c ∧ ch.length ≤ c ∧ c ≤ 9223372036854775807 ∧ (∀ x ∈ ch, i64r x.1 ∧ i64r x.2) ∧ (ch.length = 0 → P = none ∧ c = 0) ∧
    (0 < ch.length → ∃ b off, P = some ⟨b, off, none⟩ ∧ s < b ∧ b < w.heap.size ∧ A.ownBlock ≠ some b ∧ ∀ j u, ((ch.flatMap pcs).map (Value.int .i64))[j]? = some u → w.cell? ⟨b, off + j, none⟩ = some u)
theorem SK.keep {s : Nat} {A A' : Value} {w w' : World} {v : Value} {ch : List (Int × Int)} (h : SK s A w v ch) (hm : LMv s A w A' w') : SK s A' w' v ch := by
  obtain ⟨P, c, rfl, hc, hmx, hr, h0, ha⟩ := h
  refine ⟨P, c, rfl, hc, hmx, hr, h0, fun h0 => ?_⟩
  obtain ⟨b, off, rfl, hsb, hb, hA, hcell⟩ := ha h0
  refine ⟨b, off, rfl, hsb, Nat.lt_of_lt_of_le hb hm.size, fun e => ?_, fun j u hu => (World.cell?_of_block (hm.block b hb (by omega) hA)).trans (hcell j u hu)⟩
  rcases hm.own b e with e | e
  · exact hA e
  · omega
theorem pcs_len (ch : List (Int × Int)) : ((ch.flatMap pcs).map (Value.int .i64)).length = ch.length * 2 := by
  rw [List.length_map]
  induction ch with
  | nil => rfl
  | cons c t ih => simp only [List.flatMap_cons, List.length_append, List.length_cons, ih]; simp [pcs]; omega
theorem below_al {w w2 : World} {o : Obj} (h : Below (w.alloc o).heap.size (w.alloc o) w2) : Below w.heap.size w w2 :=
  ((Below.refl _ w).alloc (Nat.le_refl _) o).trans (h.mono (by simp))
theorem own_pcs {w : World} {base g n cap : Nat} (g' : Nat) {e : TypeId} {ch : List (Int × Int)} {t : Int × Int} (h : w.ownsRow base e 2 (.slice (some ⟨g, 0, none⟩) n cap) n ((ch.flatMap pcs).map (Value.int .i64) ++ (pcs t).map (Value.int .i64))) (hg : g = g') :
    w.ownsRow base e 2 (.slice (some ⟨g', 0, none⟩) n cap) n (((ch ++ [t]).flatMap pcs).map (Value.int .i64)) := by
  subst hg
  simpa using h
theorem SK.rng {s : Nat} {A : Value} {w : World} {v : Value} {ch : List (Int × Int)} (h : SK s A w v ch) : ∀ x ∈ ch, i64r x.1 ∧ i64r x.2 := by
  obtain ⟨P, c, _, _, _, hr, _⟩ := h
  exact hr
theorem SK.nil0 {s : Nat} {A : Value} {w : World} {P : Option Addr} {n c : Nat} {ch : List (Int × Int)} (h : SK s A w (.slice P n c) ch) : ch.length = 0 → P = none ∧ ch.length = 0 := by
  obtain ⟨P', c', e, _, _, _, h0, _⟩ := h
  injection e with e1 e2 e3
  subst e1
  exact fun h => ⟨(h0 h).1, h⟩
theorem SK.at1 {s : Nat} {A : Value} {w : World} {P : Option Addr} {n c : Nat} {ch : List (Int × Int)} {W : World} (h : SK s A w (.slice P n c) ch) (hb : Below w.heap.size w W) (h0 : 0 < ch.length) : ∃ b off, P = some ⟨b, off, none⟩ ∧ ∀ j u, ((ch.flatMap pcs).map (Value.int .i64))[j]? = some u → W.cell? ⟨b, off + j, none⟩ = some u := by
  obtain ⟨P', c', e, _, _, _, _, ha⟩ := h
  injection e with e1 e2 e3
  subst e1
  obtain ⟨b, off, hP, _, hbl, _, hc⟩ := ha h0
  exact ⟨b, off, hP, fun j u hu => (hb.cell hbl).trans (hc j u hu)⟩
theorem SK.sg {s : Nat} {A : Value} {w : World} {v : Value} {ch : List (Int × Int)} (h : SK s A w v ch) : SG pcs 2 w.heap.size w v ch := by
  obtain ⟨P, c, rfl, hc, hmx, hr, h0, ha⟩ := h
  refine ⟨P, c, rfl, hc, hmx, fun x hx y hy => ?_, fun h0 => ?_⟩
  · simp [pcs] at hy
    rcases hy with rfl | rfl
    · exact (hr x hx).1
    · exact (hr x hx).2
  · obtain ⟨b, off, rfl, hsb, hb, hA, hcell⟩ := ha h0
    refine ⟨b, off, rfl, hb, fun j hj i hi => ?_⟩
    have hf := flatMap_get pcs 2 ch (fun _ _ => rfl) j hj i hi
    have hsome : ∃ y, (pcs ch[j])[i]? = some y := by
      rcases (by omega : i = 0 ∨ i = 1) with rfl | rfl
      · exact ⟨_, rfl⟩
      · exact ⟨_, rfl⟩
    obtain ⟨y, hy⟩ := hsome
    rw [hy] at hf ⊢
    exact hcell (j * 2 + i) (.int .i64 y) (by rw [List.getElem?_map, hf]; rfl)
theorem SK.of_own {s : Nat} {A : Value} {w : World} {base : Nat} {e : TypeId} {g cap n : Nat} {ch : List (Int × Int)} (hn : ch.length = n) (hn0 : 0 < n) (h : w.ownsRow base e 2 (.slice (some ⟨g, 0, none⟩) n cap) n ((ch.flatMap pcs).map (Value.int .i64))) (hr : ∀ x ∈ ch, i64r x.1 ∧ i64r x.2) (hs : s < base) (hA : ∀ g, A.ownBlock = some g → g < base) :
    SK s A w (.slice (some ⟨g, 0, none⟩) n cap) ch := by
  subst hn
  rcases h.2 with ⟨h0, hn⟩ | ⟨g', cap', cur, h0, hb, hg, hnc, hcm, hcs, htake⟩
  · cases h0
  · injection h0 with h1 h2 h3
    injection h1 with h1
    injection h1 with h1
    subst h1
    subst h3
    refine ⟨_, cap, rfl, hnc, by simpa [maxLen] using hcm, hr, fun h => by omega, fun _ => ⟨g, 0, rfl, by omega, heap_of_cells hg, fun e => by have := hA g e; omega, fun j u hu => ?_⟩⟩
    have hj : j < ch.length * 2 := by
      have := (List.getElem?_eq_some_iff.1 hu).1
      have hl := h.1
      omega
    have := h.cellAt j hj
    rw [Nat.zero_add, this, hu]
theorem shinfo' : (Try.prog.info? 64).map (fun i => (i.zero, i.size, i.bytes)) = some (some (.agg #[.int .i64 0, .int .i64 0]), 2, 16) := by kernel_rfl

theorem SCl.at0 {w : World} {A : Option Addr} {n c : Nat} {l : List (Int × Bool)} (h : SCl w (.slice A n c) l) (h0 : 0 < l.length) : ∃ b off, A = some ⟨b, off, none⟩ ∧ b < w.heap.size ∧ ∀ j (h : j < l.length), w.cell? ⟨b, off + j * 2, none⟩ = some (.int .i64 l[j].1) ∧ w.cell? ⟨b, off + j * 2 + 1, none⟩ = some (.bool l[j].2) := by
  obtain ⟨A', c', e, _, _, _, ha⟩ := h
  injection e with e1 e2 e3
  subst e1
  exact ha h0
theorem SCl.blk {w : World} {b off n c : Nat} {l : List (Int × Bool)} (h : SCl w (.slice (some ⟨b, off, none⟩) n c) l) (h0 : 0 < l.length) : b < w.heap.size := by
  obtain ⟨b', off', e, hb, _⟩ := h.at0 h0
  injection e with e
  injection e with e
  subst e
  exact hb
theorem SCl.rng {w : World} {v : Value} {l : List (Int × Bool)} (h : SCl w v l) : ∀ x ∈ l, i64r x.1 := by
  obtain ⟨A, c, rfl, _, _, hr, _⟩ := h
  exact hr
/-- the search behind some cells of the loop -/
def ChR (s : Nat) (P : Int) (l : List (Int × Bool)) (vl : Value) (k : Nat) (ag : Int) (ch : List (Int × Int)) (F : List (List Int) × Int) (j0 : Nat) (A : Value) (w : World) (i : Value) (wr : World) : Prop :=
  ∃ (j : Nat) (A' : Value) (st : List (List Int) × Int), j0 ≤ j ∧ j ≤ l.length ∧ i = .int .i64 j ∧ LSt s P vl k ag wr A' st.1 st.2 ∧ LMv s A w A' wr ∧ (chs l k (l.length - j) ch).foldl (lookS P l ag) st = F ∧ st.1.length + 2 ^ (l.length - j) ≤ 1000000
theorem chs_step {l : List (Int × Bool)} {k : Nat} {ch : List (Int × Int)} {j : Nat} (hj : j < l.length) (hc : ¬ ch.length = k) :
    chs l k (l.length - j) ch = (if l[j].2 = true then chs l k (l.length - (j + 1)) (ch ++ [((j : Int) + 1, l[j].1)]) else []) ++ chs l k (l.length - (j + 1)) ch := by
  obtain ⟨m, hm⟩ : ∃ m, l.length - j = m + 1 := ⟨l.length - j - 1, by omega⟩
  rw [hm, show l.length - (j + 1) = m by omega]
  have hg : l.getD (l.length - (m + 1)) (0, false) = l[j] := by
    rw [show l.length - (m + 1) = j by omega]
    simp [List.getD, hj]
  conv => lhs; unfold chs
  rw [if_neg hc, hg, show l.length - (m + 1) = j by omega]
theorem chs_end {l : List (Int × Bool)} {k : Nat} {ch : List (Int × Int)} (hc : ¬ ch.length = k) : chs l k 0 ch = [] := by
  unfold chs
  rw [if_neg hc]
theorem fold_step {α β : Type} (f : β → α → β) (a b : List α) (c : List α) (x : β) (h : c = a ++ b) : c.foldl f x = b.foldl f (a.foldl f x) := by rw [h, List.foldl_append]
set_option maxRecDepth 100000 in
set_option maxHeartbeats 4000000 in
theorem choose_any (P : Int) (l : List (Int × Bool)) (k : Nat) (ag : Int) (s : Nat) (vl : Value) (w0 : World) (hP : i64r P) (hl : SCl w0 vl l) (hs0 : w0.heap.size ≤ s) (hz : l.length ≤ 1000) (hk : k ≤ 1000) : ∀ (m : Nat) (ch : List (Int × Int)) (vc A : Value) (ps : List (List Int)) (most : Int) (w : World),
    m ≤ l.length → ch.length ≤ k → Below w0.heap.size w0 w → LSt s P vl k ag w A ps most → SK s A w vc ch → ps.length + 2 ^ m ≤ 1000000 →
    Calls Try.prog 55 #[.pointer (some ⟨s, 0, none⟩), .int .i64 ((l.length - m : Nat) : Int), vc] w fun e w' => e = .returned (.tuple #[]) ∧ ∃ A', LSt s P vl k ag w' A' ((chs l k m ch).foldl (lookS P l ag) (ps, most)).1 ((chs l k m ch).foldl (lookS P l ag) (ps, most)).2 ∧ LMv s A w A' w' := by
  intro m
  induction m using Nat.strongRecOn with
  | ind m ih =>
  intro ch vc A ps most w hm hch hb0 hst hsk hps
  have HT := Lib.hid hst
  have HK := Lib.hid hsk
  have HL0 := Lib.hid hl
  have HB0 := Lib.hid hb0
  have IH := Lib.hid ih
  obtain ⟨Pc, kc, rfl, _⟩ := hsk
  obtain ⟨Al, cl, rfl⟩ := hl.form
  have c2 : w.cell? ⟨s, 2, none⟩ = some (.int .i64 k) := cell_of_row w s 2 _ _ _ HT.out.cells
  clear hst hb0 ih hl
  have hpw : 1 ≤ 2 ^ m := Nat.one_le_two_pow
  go_enter Try.func55, Try.ntmps55
  by_cases hc : ch.length = k
  · have hd : decide ((ch.length : Int) = (k : Int)) = true := decide_eq_true (by omega)
    have hd2 : ((ch.length : Int) == (k : Int)) = true := by rw [beq_iff_eq]; omega
    have HE : Hid (chs l k m ch = [ch]) := by
      show _ = _
      cases m with
      | zero => unfold chs; rw [if_pos hc]
      | succ m => unfold chs; rw [if_pos hc]
    have HC := Lib.hid hc
    clear hc
    go_wp2_with fail
    (with_reducible refine (look_any P l ch k ag s _ _ A ps most w0 w hP HL0.out HB0.out (by omega) HT.out HK.out.sg (by omega) (by omega)).mono ?_)
    rintro e w1 ⟨rfl, A1, hT1, hM1⟩
    go_wp2_with fail
    refine bodyPost_ret (v := .tuple #[]) (by simp [results, Try.results55, go_sem]) rfl ?_
    rw [HE.out]
    exact ⟨rfl, A1, hT1, hM1⟩
  · have hd : decide ((ch.length : Int) = (k : Int)) = false := decide_eq_false (by omega)
    have hd2 : ((ch.length : Int) == (k : Int)) = false := by rw [beq_eq_false_iff_ne]; omega
    have HC := Lib.hid hc
    have hclt : ch.length < k := by omega
    have hlm : ∃ j0, l.length - m = j0 := ⟨_, rfl⟩
    obtain ⟨j0, hj0⟩ := hlm
    have HJ0 := Lib.hid hj0
    rw [hj0]
    clear hc hj0
    obtain ⟨F, hF⟩ : ∃ F, (chs l k m ch).foldl (lookS P l ag) (ps, most) = F := ⟨_, rfl⟩
    have HF := Lib.hid hF
    rw [hF]
    clear hF
    go_wp2_with fail
    go_loopw [6] (fun i wr => ChR s P l (.slice Al l.length cl) k ag ch F j0 A w i wr) (fun i _ => l.length - (intOf i).toNat)
    case atStart =>
      refine ⟨j0, A, (ps, most), Nat.le_refl _, by have := HJ0.out; omega, rfl, HT.out, LMv.refl _ _ _, ?_, ?_⟩
      · rw [show l.length - j0 = m by have := HJ0.out; omega]; exact HF.out
      · rw [show l.length - j0 = m by have := HJ0.out; omega]; exact hps
    case round =>
      obtain ⟨j, A1, st, hj0j, hjl, rfl, hT1, hM1, hf, hln⟩ := hrel
      have HT1 := Lib.hid hT1
      have HM1 := Lib.hid hM1
      have HFF := Lib.hid hf
      have HBL : Hid (Below w0.heap.size w0 wr) := HB0.out.trans (HM1.out.below (fun g hg => (HT.out.lt.2 g hg).1) hs0 (by have := HT.out.lt.1; omega))
      have HLW := Lib.hid (HL0.out.below HBL.out)
      have q1 : wr.cell? ⟨s, 1, none⟩ = some (.slice Al l.length cl) := cell_of_row wr s 1 _ _ _ HT1.out.cells
      have hsw : s < wr.heap.size := HT1.out.lt.1
      clear hT1 hM1 hf
      by_cases hlt : j < l.length
      · have hd1 : decide ((j : Int) < (l.length : Int)) = true := decide_eq_true (by omega)
        have hd2 : decide (j < l.length) = true := decide_eq_true hlt
        have HST := Lib.hid (chs_step (k := k) (ch := ch) hlt HC.out)
        obtain ⟨b, off, hAl, hbl, hcell⟩ := HLW.out.at0 (by omega)
        subst hAl
        obtain ⟨e0, e1⟩ := hcell j hlt
        have hbs : b < s := Nat.lt_of_lt_of_le (HL0.out.blk (by omega)) hs0
        clear hcell
        have hpj : 2 ^ (l.length - j) = 2 ^ (l.length - (j + 1)) * 2 := by rw [show l.length - j = (l.length - (j + 1)) + 1 by omega, Nat.pow_succ]
        have hpj1 : 1 ≤ 2 ^ (l.length - (j + 1)) := Nat.one_le_two_pow
        have hln2 : st.1.length + 2 ^ (l.length - (j + 1)) * 2 ≤ 1000000 := by omega
        have hpe : ∃ pj, 2 ^ (l.length - (j + 1)) = pj := ⟨_, rfl⟩
        obtain ⟨pj, hpe⟩ := hpe
        rw [hpe] at hln2 hpj1
        have HPJE := Lib.hid hpe
        clear hpe
        clear hpj hln
        by_cases hkn : l[j].2 = true
        · rw [hkn] at e1
          have HST1 := HST.out
          rw [if_pos hkn] at HST1
          have HFS := Lib.hid ((fold_step (lookS P l ag) _ _ _ st HST1).symm.trans HFF.out)
          have hrj : i64r l[j].1 := HL0.out.rng _ (List.getElem_mem hlt)
          have hjr : i64r ((j : Int) + 1) := by unfold i64r; omega
          have HN1 : Hid ((chs l k (l.length - (j + 1)) (ch ++ [((j : Int) + 1, l[j].1)])).length ≤ 2 ^ (l.length - (j + 1))) := chs_len _ _ _ _
          clear hkn HST1
          have HKW := Lib.hid (HK.out.keep HM1.out)
          have HIJ : Hid (∀ (vc : Value) (w : World), Below w0.heap.size w0 w → LSt s P (.slice (some ⟨b, off, none⟩) l.length cl) k ag w A1 st.1 st.2 → SK s A1 w vc (ch ++ [((j : Int) + 1, l[j].1)]) →
              Calls Try.prog 55 #[.pointer (some ⟨s, 0, none⟩), .int .i64 ((j : Int) + 1), vc] w fun e w' => e = .returned (.tuple #[]) ∧ ∃ A', LSt s P (.slice (some ⟨b, off, none⟩) l.length cl) k ag w' A' ((chs l k (l.length - (j + 1)) (ch ++ [((j : Int) + 1, l[j].1)])).foldl (lookS P l ag) st).1 ((chs l k (l.length - (j + 1)) (ch ++ [((j : Int) + 1, l[j].1)])).foldl (lookS P l ag) st).2 ∧ LMv s A1 w A' w') := by
            intro vc w h1 h2 h3
            have := IH.out (l.length - (j + 1)) (by have := HJ0.out; omega) (ch ++ [((j : Int) + 1, l[j].1)]) vc A1 st.1 st.2 w (by omega) (by simp; omega) h1 h2 h3 (by rw [HPJE.out]; omega)
            rw [show ((l.length - (l.length - (j + 1)) : Nat) : Int) = (j : Int) + 1 by omega] at this
            exact this
          have HRC : Hid (∀ x ∈ ch ++ [((j : Int) + 1, l[j].1)], i64r x.1 ∧ i64r x.2) := by
            intro x hx
            rcases List.mem_append.1 hx with h | h
            · exact HK.out.rng x h
            · simp at h; subst h; exact ⟨hjr, hrj⟩
          have HFL : Hid (((ch.flatMap pcs).map (Value.int .i64)).length = ch.length * 2) := pcs_len ch
          have hwj : IntKind.i64.wrap ((j : Int) + 1) = (j : Int) + 1 := IntWalk.i64_in _ (by omega)
          clear hjr hrj
          go_wp2_with fail
          go_region_held3 (fun w' => w'.cell? ⟨s, 1, none⟩ = some (.slice (some ⟨b, off, none⟩) l.length cl) ∧ w'.cell? ⟨b, off + j * 2, none⟩ = some (.int .i64 l[j].1)) (first | exact ⟨q1, e0⟩ | exact ⟨x1, x0⟩ | go_keep)
            (first
              | (refine step_append_full (by rfl) _ _ 62 (by rfl) 64 2 16 (.agg #[.int .i64 0, .int .i64 0]) Try.underlying62 shinfo' (by rfl) Pc ch.length ch.length (by rfl) ((ch.flatMap pcs).map (Value.int .i64)) ?a1 ?a2 ?a3 ⟨wr.heap.size, 0, none⟩ 1 1 (by rfl) ((pcs ((j : Int) + 1, l[j].1)).map (Value.int .i64)) ?a4 ?a5 ?a6 ?a7 ?a8 ?a9
                 case a1 => exact HFL.out
                 case a2 => exact HK.out.nil0
                 case a3 => exact fun h0 => ⟨rfl, HKW.out.at1 (by first | exact ((Below.refl _ _).alloc (Nat.le_refl _) _).drew | exact (Below.refl _ _).alloc (Nat.le_refl _) _) h0⟩
                 case a4 => rfl
                 case a5 => exact cells_new wr _ _
                 case a6 => omega
                 case a7 => omega
                 case a8 => (unfold maxLen; omega)
                 intro cap2 w2 hown2 hb2
                 have HB2 : Hid (Below wr.heap.size wr w2) := (by first | exact below_al hb2 | exact below_al hb2.drew_left)
                 have x1 := (HB2.out.cell (p := ⟨s, 1, none⟩) (by exact hsw)).trans q1
                 have x0 := (HB2.out.cell (p := ⟨b, off + j * 2, none⟩) (by exact hbl)).trans e0
                 have HSK2 := Lib.hid (SK.of_own (s := s) (A := A1) (ch := ch ++ [((j : Int) + 1, l[j].1)]) (by simp) (by omega) (own_pcs (wr.heap.size + 1) hown2 (by simp)) HRC.out (by first | exact Nat.lt_succ_of_lt hsw | (simp; omega)) (fun g hg => by have := (HT1.out.lt.2 g hg).2; first | exact Nat.lt_succ_of_lt this | (simp; omega)))
                 clear hown2 hb2)
              | (go_at_call 55; refine (HIJ.out _ _ (by exact HBL.out.trans (HB2.out.mono (Nat.le_trans hs0 (Nat.le_of_lt hsw)))) (by exact HT1.out.below HB2.out) (by exact HSK2.out)).mono ?_; rintro e w3 ⟨rfl, A3, hT3, hM3⟩; have HT3 := Lib.hid hT3; have HM3 := Lib.hid hM3; have x1 : w3.cell? ⟨s, 1, none⟩ = some (.slice (some ⟨b, off, none⟩) l.length cl) := cell_of_row w3 s 1 _ _ _ HT3.out.cells; have x0 := ((HM3.out.below (fun g hg => (HT1.out.lt.2 g hg).1) (Nat.le_refl _) (Nat.le_trans (Nat.le_of_lt hsw) HB2.out.size)).cell (p := ⟨b, off + j * 2, none⟩) hbs).trans x0; clear hT3 hM3))
          have HLN : Hid (((chs l k (l.length - (j + 1)) (ch ++ [((j : Int) + 1, l[j].1)])).foldl (lookS P l ag) st).1.length ≤ st.1.length + pj) := by
            have h1 := look_len P l ag (chs l k (l.length - (j + 1)) (ch ++ [((j : Int) + 1, l[j].1)])) st
            have h2 := HN1.out
            rw [HPJE.out] at h2
            show _ ≤ _
            omega
          clear hpj1
          go_wp2_with fail
          go_roundw
          case rel => exact ⟨j + 1, A3, _, by omega, by omega, by go_num, HT3.out, (HM1.out.trans (LMv.of_below HB2.out)).trans HM3.out, HFS.out, by rw [HPJE.out]; have := HLN.out; omega⟩
          case measure => simp [intOf]; omega
        · have hkf : l[j].2 = false := by simpa using hkn
          rw [hkf] at e1
          rw [if_neg hkn, List.nil_append] at HST
          have HFS : Hid ((chs l k (l.length - (j + 1)) ch).foldl (lookS P l ag) st = F) := by show _ = _; rw [← HST.out]; exact HFF.out
          have HPJ := Lib.hid hpj1
          clear hkn hkf hpj1
          go_wp2_with fail
          go_roundw
          case rel => exact ⟨j + 1, A1, st, by omega, by omega, by go_num, HT1.out, HM1.out, HFS.out, by rw [HPJE.out]; omega⟩
          case measure => simp [intOf]; omega
      · obtain rfl : j = l.length := by omega
        have hd1 : decide (((l.length : Nat) : Int) < (l.length : Int)) = false := decide_eq_false (by omega)
        have hd2 : decide (l.length < l.length) = false := decide_eq_false (by omega)
        have HFE := HFF.out
        rw [Nat.sub_self, chs_end HC.out] at HFE
        have HFE2 := Lib.hid HFE
        clear HFE
        go_wp2_with fail
        go_end0
        rw [← HFE2.out]
        exact ⟨rfl, A1, HT1.out, HM1.out⟩
end Go.Proofs.Ytbgabipngdillaa
