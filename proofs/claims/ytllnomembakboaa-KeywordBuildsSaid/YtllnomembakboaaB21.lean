/- Joined: Kn. -/
import Derived.Test.YtllnomembakboaaB10
import Derived.Test.YtllnomembakboaaB07
namespace Go.Proofs.Ytllnomembakboaa
open Go.RowKit

theorem ecs_at {w : World} {base g cap : Nat} {l : List (ByteArray × Int)} (h : w.ownsRow base 41 2 (.slice (some ⟨g, 0, none⟩) l.length cap) l.length (l.flatMap ecs)) (j : Nat) (hj : j < l.length) : w.cell? ⟨g, j * 2, none⟩ = some (.string l[j].1) ∧ w.cell? ⟨g, j * 2 + 1, none⟩ = some (.int .i64 l[j].2) := by
  have h1 := h.cellAt (j * 2) (by omega)
  have h2 := h.cellAt (j * 2 + 1) (by omega)
  have e1 := flatMap_get ecs 2 l (fun x _ => ecs_len x) j hj 0 (by omega)
  have e2 := flatMap_get ecs 2 l (fun x _ => ecs_len x) j hj 1 (by omega)
  rw [Nat.add_zero] at e1
  exact ⟨h1.trans (e1.trans rfl), h2.trans (e2.trans rfl)⟩
def BuL (n : Nat) (es : List (ByteArray × Int)) (w2 : World) (sv iv : Value) (wr : World) : Prop :=
  ∃ (i : Nat) (S : List (ByteArray × Int)), i ≤ n ∧ iv = .int .i64 (i : Nat) ∧ S.Perm (es.take i) ∧ Asc S ∧ wr.ownsRow w2.heap.size 41 2 sv S.length (S.flatMap ecs) ∧ Below w2.heap.size w2 wr ∧ EnV (es.take i) ∧ ecode (es.take i) (es.drop i) = ecode [] es
theorem drop_cell {w : World} {base g cap m : Nat} {S : List (ByteArray × Int)} {z : ByteArray × Int} (h : w.ownsRow base 41 2 (.slice (some ⟨g, 0, none⟩) (S.length + 1) cap) (S.length + 1) ((S ++ [z]).flatMap ecs)) (hm : m ≤ S.length) :
    ∀ j v, ((S.drop m).flatMap ecs)[j]? = some v → w.cell? ⟨g, m * 2 + j, none⟩ = some v := by
  intro j v hj
  obtain ⟨hlt, _⟩ := List.getElem?_eq_some_iff.1 hj
  rw [fm_len, List.length_drop] at hlt
  have h1 := h.cellAt (m * 2 + j) (by omega)
  rw [h1, List.flatMap_append, List.getElem?_append_left (by rw [fm_len]; omega)]
  rw [← List.take_append_drop m S, List.flatMap_append, List.getElem?_append_right (by rw [fm_len, List.length_take]; omega), fm_len, List.length_take, Nat.min_eq_left hm, show m * 2 + j - m * 2 = j by omega]
  exact hj
theorem ins_cells {w8 : World} {g cap m n : Nat} {cur : Array Value} {cs : List Value} (hm : m ≤ n) (hn : n + 1 ≤ cap) (hc : cur.size = cap * 2) (hl : cs.length = (n - m) * 2)
    (h8 : w8.heap[g]? = some (.cells (cur.toList.take ((m + 1) * 2) ++ cs ++ cur.toList.drop ((m + 1) * 2 + cs.length)).toArray 41 (0, 0))) :
    ∃ v0 v1, w8.cell? ⟨g, m * 2, none⟩ = some v0 ∧ w8.cell? ⟨g, m * 2 + 1, none⟩ = some v1 ∧ w8.frozen? ⟨g, m * 2, none⟩ = false ∧ w8.frozen? ⟨g, m * 2 + 1, none⟩ = false := by
  have hlen : (cur.toList.take ((m + 1) * 2) ++ cs ++ cur.toList.drop ((m + 1) * 2 + cs.length)).toArray.size = cap * 2 := by
    simp [hc, hl]; omega
  have k0 := Array.getElem?_eq_getElem (show m * 2 < (cur.toList.take ((m + 1) * 2) ++ cs ++ cur.toList.drop ((m + 1) * 2 + cs.length)).toArray.size by omega)
  have k1 := Array.getElem?_eq_getElem (show m * 2 + 1 < (cur.toList.take ((m + 1) * 2) ++ cs ++ cur.toList.drop ((m + 1) * 2 + cs.length)).toArray.size by omega)
  exact ⟨_, _, (cell_of_row w8 g (m * 2) _ _ _ h8).trans k0, (cell_of_row w8 g (m * 2 + 1) _ _ _ h8).trans k1, frozen_of_row w8 g (m * 2) _ _ h8, frozen_of_row w8 g (m * 2 + 1) _ _ h8⟩
theorem ecs_one_all (l : List (ByteArray × Int)) : ∀ u ∈ l.flatMap ecs, u.oneCell' = true := by
  intro u hu
  obtain ⟨e, _, h⟩ := List.mem_flatMap.1 hu
  exact ecs_one e u h
theorem keep_x {wr w7 w8 : World} {g7 X : Nat} {v : Value} {o : Obj} (hown : ∀ k, v.ownBlock = some k → k < X) (hX : X < wr.heap.size) (hg7 : (wr.alloc o).grownBy w7 v.ownBlock) (hat : v.ownBlock = some g7 ∨ g7 = wr.heap.size + 1) (hg8 : w7.grownBy w8 (some g7)) (off : Nat) (u : Value)
    (h : wr.cell? ⟨X, off, none⟩ = some u) : w8.cell? ⟨X, off, none⟩ = some u := by
  have h0 : (wr.alloc o).cell? ⟨X, off, none⟩ = some u := (World.cell?_of_block (Below.heap_alloc wr o X hX)).trans h
  have h1 := hg7.cell h0 (fun e => by have := hown X e.symm; omega)
  refine hg8.cell h1 (fun e => ?_)
  injection e with e
  have e : X = g7 := e
  rcases hat with h | h
  · have := hown g7 h; omega
  · omega
theorem ins_perm {es S : List (ByteArray × Int)} {i m : Nat} {e : ByteArray × Int} (h : S.Perm (es.take i)) (hi : i < es.length) (he : e = es[i]) : (S.take m ++ e :: S.drop m).Perm (es.take (i + 1)) := by
  subst he
  refine List.perm_middle.trans ?_
  rw [List.take_append_drop, List.take_succ_eq_append_getElem hi]
  exact ((h.cons _).trans (List.perm_append_comm (l₁ := [es[i]]) (l₂ := es.take i)))
theorem ins_lo {es S : List (ByteArray × Int)} {i m : Nat} {key : ByteArray} (h : S.Perm (es.take i)) (hi : i < es.length) (hn : ∀ j (_ : j < i), es[j].1 ≠ es[i].1) (hk : key = es[i].1) (hm : 0 < m) (hmS : m ≤ S.length) (hkk : klt key S[m - 1].1 = false) : ∃ x, S[m - 1]? = some x ∧ klt x.1 key = true := by
  refine ⟨_, List.getElem?_eq_getElem (by omega), ?_⟩
  have hmem : S[m - 1] ∈ es.take i := h.mem_iff.1 (List.getElem_mem _)
  obtain ⟨j, hj, e⟩ := List.getElem_of_mem hmem
  rw [List.getElem_take] at e
  have hjl : j < i := by simp at hj; omega
  have hne : es[j].1 ≠ es[i].1 := hn j hjl
  rw [e, ← hk] at hne
  rcases klt_total hne with h1 | h1
  · exact h1
  · rw [hkk] at h1; simp at h1
/-- no directory -/
def noDir : Value := .agg #[.int .i64 0, .slice none 0 0, .int .i64 0, .slice none 0 0]
/-- what Build answers for a valid hashing and slots -/
def BuP (B : Nat) (ps : List (Int × Int)) (slots : Nat) (es : List (ByteArray × Int)) (w : World) (e : Ending) (w' : World) : Prop :=
  Below w.heap.size w w' ∧ ((ecode [] es ≠ 0 ∧ e = .returned (.tuple #[noDir, .int .i64 (ecode [] es)])) ∨
    (ecode [] es = 0 ∧ ∃ S : List (ByteArray × Int), S.Perm es ∧ Asc S ∧
      (((¬ ∃ out, Asg (hss B ps S) (fun _ => slots) out) ∧ e = .returned (.tuple #[noDir, .int .i64 15])) ∨
       ∃ (out : List Int) (pv ev : Value), LexF (hss B ps S) (fun _ => slots) out ∧ e = .returned (.tuple #[.agg #[.int .i64 B, pv, .int .i64 slots, ev], .int .i64 0]) ∧
        w'.ownsRow w.heap.size 69 2 pv ps.length (ps.flatMap hcs) ∧ SLo w.heap.size w' ev (dist S out B))))
theorem own_set {w : World} {base e size n X i : Nat} {v u : Value} {xs : List Value} (h : w.ownsRow base e size v n xs) (hne : v.ownBlock ≠ some X) : (w.setCell ⟨X, i, none⟩ u).ownsRow base e size v n xs :=
  h.kept (grownBy_setCell (g := X) (p := ⟨X, i, none⟩) (grownBy_refl _ _) (.inl rfl) u) (.inr hne)
theorem EN.put {base G X i : Nat} {u : Value} {bs : List (List (ByteArray × Int))} {vs : List Value} {w : World} (h : EN base G bs vs w) (hX : X ≠ G) (hb : X < base) : EN base G bs vs (w.setCell ⟨X, i, none⟩ u) :=
  ⟨(Below.heap_setCell w _ _ G (Ne.symm hX)).trans h.hdr, h.lv, fun b h1 h2 => own_set (h.row b h1 h2) (fun e => by have := ((h.row b h1 h2).lt X e).1; omega), h.apart, h.gb⟩
def ReL (Bn : Nat) (out : List Int) (S : List (ByteArray × Int)) (M : Nat) (w6 : World) (iv : Value) (wr : World) : Prop :=
  ∃ (i : Nat) (bs : List (List (ByteArray × Int))) (vs : List Value), i ≤ out.length ∧ iv = .int .i64 (i : Nat) ∧ bs = dist (S.take i) (out.take i) Bn ∧ EN w6.heap.size M bs vs wr ∧ w6.grownBy wr (some M)
def HoL (B : Int) (ps : List (Int × Int)) (S : List (ByteArray × Int)) (wl : World) (hv iv : Value) (wr : World) : Prop :=
  ∃ (j : Nat) (vs : List Value), j ≤ S.length ∧ iv = .int .i64 (j : Nat) ∧ HD wl.heap.size wr hv vs ((S.take j).map fun e => hms B ps (dg e.1)) ∧ Below wl.heap.size wl wr
set_option maxRecDepth 100000 in
set_option maxHeartbeats 16000000 in
theorem rbuild_any (B : Nat) (ps : List (Int × Int)) (slots : Nat) (es : List (ByteArray × Int)) (pv lv : Value) (w : World) (hv : HV B ps) (hs1 : 1 ≤ slots) (hs2 : slots ≤ 8) (he : ∀ e ∈ es, e.1.size ≤ 9223372036854775807) (hel : es.length ≤ 256) (hp : SG pcs 2 w.heap.size w pv ps) (hl : SV ecs 2 w.heap.size w lv es) :
    Calls Try.prog 27 #[.agg #[.int .i64 B, pv], .int .i64 slots, lv] w (BuP B ps slots es w) := by
  obtain ⟨Ap, cp, ep⟩ : ∃ A c, pv = .slice A ps.length c := by obtain ⟨A, c, e, _⟩ := hp; exact ⟨A, c, e⟩
  subst ep
  obtain ⟨Al, cl, rfl⟩ := hl.form
  have HPS := Lib.hid hp
  have HLS := Lib.hid hl
  have HE := Lib.hid he
  have hV := Lib.hid hv
  have e1 : decide ((slots : Int) < 1) = false := decide_eq_false (by omega)
  have e2 : decide (8 < (slots : Int)) = false := decide_eq_false (by omega)
  have e1n : decide (slots < 1) = false := decide_eq_false (by omega)
  have e2n : decide (8 < slots) = false := decide_eq_false (by omega)
  have e3 : decide (256 < (es.length : Int)) = false := decide_eq_false (by omega)
  have e3n : decide (256 < es.length) = false := decide_eq_false (by omega)
  clear hp hl he hv
  go_enter Try.func27, Try.ntmps27
  obtain ⟨F, eF⟩ : ∃ F, F = w.heap.size := ⟨_, rfl⟩
  obtain ⟨w1, ew1⟩ : ∃ w1 : World, w1 = (w.alloc (.cells #[.int .i64 B, .slice Ap ps.length cp] 25)).alloc (.cells #[.int .i64 0, .slice none 0 0, .int .i64 0, .slice none 0 0] 28) := ⟨_, rfl⟩
  have HWw1 : Hid ((w.alloc (.cells #[.int .i64 B, .slice Ap ps.length cp] 25)).alloc (.cells #[.int .i64 0, .slice none 0 0, .int .i64 0, .slice none 0 0] 28) = w1) := ew1.symm
  have HAw1 : Hid (Below w.heap.size w w1) := (show Hid _ from by rw [ew1]; exact ((Below.refl _ w).alloc (Nat.le_refl _) _).alloc (by simp) _)
  have HF0w1 : Hid (w1.heap[F]? = some (.cells #[.int .i64 B, .slice Ap ps.length cp] 25 (0, 0))) := (show Hid _ from by show _ = _; rw [ew1, eF, Below.heap_alloc _ _ _ (by simp)]; exact heap_alloc_new w _)
  have HF1w1 : Hid (w1.heap[F + 1]? = some (.cells #[.int .i64 0, .slice none 0 0, .int .i64 0, .slice none 0 0] 28 (0, 0))) := (show Hid _ from by show _ = _; rw [ew1, eF]; have := heap_alloc_new (w.alloc (.cells #[.int .i64 B, .slice Ap ps.length cp] 25)) (.cells #[.int .i64 0, .slice none 0 0, .int .i64 0, .slice none 0 0] 28); simpa using this)
  have HX : Hid (∀ W, Below w1.heap.size w1 W → W.cell? ⟨F, 0, none⟩ = some (.int .i64 B) ∧ W.cell? ⟨F, 1, none⟩ = some (.slice Ap ps.length cp) ∧ W.cell? ⟨F + 1, 0, none⟩ = some (.int .i64 0) ∧ W.cell? ⟨F + 1, 1, none⟩ = some (.slice none 0 0) ∧ W.cell? ⟨F + 1, 2, none⟩ = some (.int .i64 0) ∧ W.cell? ⟨F + 1, 3, none⟩ = some (.slice none 0 0)) := (show Hid _ from fun W hg => by
    have hF0 := (hg.block F (heap_of_cells HF0w1.out)).trans HF0w1.out
    have hF1 := (hg.block (F + 1) (heap_of_cells HF1w1.out)).trans HF1w1.out
    exact ⟨cell_of_row W F 0 _ _ _ hF0, cell_of_row W F 1 _ _ _ hF0, cell_of_row W (F + 1) 0 _ _ _ hF1, cell_of_row W (F + 1) 1 _ _ _ hF1, cell_of_row W (F + 1) 2 _ _ _ hF1, cell_of_row W (F + 1) 3 _ _ _ hF1⟩)
  have hF1 : F + 1 < w1.heap.size := heap_of_cells HF1w1.out
  have hFw : w.heap.size ≤ F := by omega
  go_upto_region 1 with fail
  rw [HWw1.out, ← eF]
  clear ew1 eF
  have HPS1 := Lib.hid ((HPS.out.below HAw1.out).more HAw1.out.size)
  obtain ⟨x0, x1, _⟩ := HX.out w1 (Below.refl _ _)
  go_wp2_with fail
  (with_reducible refine (rcheck_ok B ps _ w1 hV.out HPS1.out).mono ?_)
  rintro e w2 ⟨rfl, hb2⟩
  have HB2 : Hid (Below w.heap.size w w2) := (show Hid _ from HAw1.out.trans (hb2.mono HAw1.out.size))
  have HX2 := Lib.hid hb2
  clear hb2 x0 x1
  go_wp2_with fail
  go_loopw [8, 41] (fun sv iv wr => BuL es.length es w2 sv iv wr) (fun _ iv _ => es.length - (intOf iv).toNat)
  case atStart => exact ⟨0, [], Nat.zero_le _, rfl, List.Perm.nil, Asc.nil, World.ownsRow_nil _ _ _ _, Below.refl _ _, EnV.nil, rfl⟩
  case round =>
    obtain ⟨i, S, hi, rfl, hpm, has, hown, hbel, henv, hecd⟩ := hrel
    have HENV := Lib.hid henv
    have HECD := Lib.hid hecd
    clear henv hecd
    have HPM := Lib.hid hpm
    have HAS := Lib.hid has
    have HO := Lib.hid hown
    have HBL := Lib.hid hbel
    have hSl : S.length = i := by rw [hpm.length_eq, List.length_take]; omega
    have HSL := Lib.hid hSl
    have hz2 := hbel.size
    obtain ⟨As, cs, rfl⟩ := own_sl hown
    clear hpm has hown hbel hSl
    by_cases hlt : i < es.length
    · have HLr : Hid (SV ecs 2 wr.heap.size wr (.slice Al es.length cl) es) := (show Hid _ from ((HLS.out.below HB2.out).more HB2.out.size |>.below HBL.out).more HBL.out.size)
      obtain ⟨_, hat⟩ := HLr.out.at
      obtain ⟨b, off, rfl, hb, hcell⟩ := hat i hlt
      have HCELL := Lib.hid hcell
      obtain ⟨key, ekey⟩ : ∃ key, key = es[i].1 := ⟨_, rfl⟩
      obtain ⟨x, ex⟩ : ∃ x, x = es[i].2 := ⟨_, rfl⟩
      have c0 : wr.cell? ⟨b, off + i * 2, none⟩ = some (.string key) := by rw [ekey]; exact hcell wr (Below.refl _ _) 0 (by omega)
      have c1 : wr.cell? ⟨b, off + i * 2 + 1, none⟩ = some (.int .i64 x) := by rw [ex]; exact hcell wr (Below.refl _ _) 1 (by omega)
      have hks : key.size ≤ 9223372036854775807 := by rw [ekey]; exact HE.out _ (List.getElem_mem hlt)
      have hei : es[i] = (key, x) := by rw [ekey, ex]
      have HEI := Lib.hid hei
      have HKEY := Lib.hid ekey
      have HXE := Lib.hid ex
      have wi : IntKind.i64.wrap ((i : Int) + 1) = (i : Int) + 1 := by exact IntWalk.i64_in _ (by omega)
      have hcl : es.length ≤ cl := by obtain ⟨_, _, e, h, _⟩ := HLr.out; injection e with e1 e2 e3; omega
      have zi0 : 0 ≤ (i : Int) := by omega
      have zi1 : (i : Int) ≤ (cl : Int) := by omega
      have zi2 : i ≤ cl := by omega
      clear hat hcell ekey ex hei
      obtain ⟨X, eX⟩ : ∃ X, X = wr.heap.size := ⟨_, rfl⟩
      obtain ⟨wx, ewx⟩ : ∃ wx : World, wx = wr.alloc (.cells #[.string key, .int .i64 x] 41) := ⟨_, rfl⟩
      have HWwx : Hid (wr.alloc (.cells #[.string key, .int .i64 x] 41) = wx) := ewx.symm
      have HAwx : Hid (Below wr.heap.size wr wx) := (show Hid _ from by rw [ewx]; exact (Below.refl _ wr).alloc (Nat.le_refl _) _)
      have HX0wx : Hid (wx.heap[X]? = some (.cells #[.string key, .int .i64 x] 41 (0, 0))) := (show Hid _ from by show _ = _; rw [ewx, eX]; exact heap_alloc_new wr _)
      have HXX : Hid (∀ W, Below wx.heap.size wx W → W.cell? ⟨X, 0, none⟩ = some (.string key) ∧ W.cell? ⟨X, 1, none⟩ = some (.int .i64 x)) := (show Hid _ from fun W hg => by
        have hX0 := (hg.block X (heap_of_cells HX0wx.out)).trans HX0wx.out
        exact ⟨cell_of_row W X 0 _ _ _ hX0, cell_of_row W X 1 _ _ _ hX0⟩)
      have hXr : wr.heap.size ≤ X := by omega
      have hXl : X < wx.heap.size := heap_of_cells HX0wx.out
      go_upto_region 11 with fail
      rw [HWwx.out, ← eX]
      clear ewx eX
      obtain ⟨k0, k1⟩ := HXX.out wx (Below.refl _ _)
      clear c0 c1
      go_wp2_with fail
      (with_reducible refine (rvalid_any key x wx hks).mono ?_)
      rintro e w3 ⟨rfl, hb3⟩
      obtain ⟨vb, hvb⟩ : ∃ vb, vb = ven (key, x) := ⟨_, rfl⟩
      rw [← hvb]
      have HVB := Lib.hid hvb
      have HB3 := Lib.hid hb3
      have HBr3 : Hid (Below wr.heap.size wr w3) := (show Hid _ from HAwx.out.trans (hb3.mono HAwx.out.size))
      obtain ⟨k0, k1⟩ := HXX.out w3 hb3
      have HX3 : Hid (Below w1.heap.size w1 w3) := (show Hid _ from HX2.out.trans ((HBL.out.trans (HBr3.out.mono HBL.out.size)).mono HX2.out.size))
      clear hb3 hvb
      cases vb
      case' false =>
        obtain ⟨x0, x1, d0, d1, d2, d3⟩ := HX.out w3 HX3.out
        have hD5 : (w3).heap[F + 1]? = some (.cells #[.int .i64 0, .slice none 0 0, .int .i64 0, .slice none 0 0] 28 (0, 0)) := (HX3.out.block (F + 1) hF1).trans HF1w1.out
        have f0 : (w3).frozen? ⟨F + 1, 0, none⟩ = false := frozen_of_row w3 (F + 1) 0 _ _ hD5
        have f1 : (w3).frozen? ⟨F + 1, 1, none⟩ = false := frozen_of_row w3 (F + 1) 1 _ _ hD5
        have f2 : (w3).frozen? ⟨F + 1, 2, none⟩ = false := frozen_of_row w3 (F + 1) 2 _ _ hD5
        have f3 : (w3).frozen? ⟨F + 1, 3, none⟩ = false := frozen_of_row w3 (F + 1) 3 _ _ hD5
        clear hD5
        go_wp2_with fail
        refine bodyPost_ret (v := .tuple #[.agg #[.int .i64 0, .slice none 0 0, .int .i64 0, .slice none 0 0], .int .i64 1]) (by simp [results, Try.results27, go_sem, d0, d1, d2, d3]) rfl ⟨?bz, ?h1⟩
        case bz =>
          have h := HAw1.out.trans (HX3.out.mono HAw1.out.size)
          exact (((h.setCell (by show w.heap.size ≤ F + 1; omega) _).setCell (by show w.heap.size ≤ F + 1; omega) _).setCell (by show w.heap.size ≤ F + 1; omega) _).setCell (by show w.heap.size ≤ F + 1; omega) _
        case h1 =>
          have hv := ecode_range hlt (by rw [HEI.out]; exact HVB.out.symm)
          rw [HECD.out] at hv
          exact .inl ⟨by rw [hv]; decide, by rw [hv]; rfl⟩
      obtain ⟨wo, rfl⟩ : ∃ wo : World, wo = wr := ⟨_, rfl⟩
      go_wp2_with fail
      clear k0 k1
      go_loopw [54] (fun iv wq => ∃ k : Nat, k ≤ i ∧ iv = .int .i64 k ∧ Below w3.heap.size w3 wq ∧ ∀ j (h : j < es.length), j < k → es[j].1 ≠ key) (fun iv _ => i - (intOf iv).toNat)
      case atStart => exact ⟨0, Nat.zero_le _, rfl, Below.refl _ _, fun j _ h => by omega⟩
      case round =>
        obtain ⟨k, hk, rfl, hb4, hno⟩ := hrel
        have HNO := Lib.hid hno
        clear hno
        have HB4 := Lib.hid hb4
        have hz4 := hb4.size
        have HBr4 : Hid (Below wo.heap.size wo wr) := (show Hid _ from HBr3.out.trans (hb4.mono HBr3.out.size))
        obtain ⟨k0, k1⟩ := HXX.out wr (HB3.out.trans (hb4.mono HB3.out.size))
        clear hb4
        by_cases hki : k < i
        · obtain ⟨_, hat⟩ := HLr.out.at
          obtain ⟨b', off', e, hb', hcell⟩ := hat k (by omega)
          injection e with e
          injection e with e4 e5
          subst e4 e5
          obtain ⟨key2, ekey2⟩ : ∃ key, key = es[k].1 := ⟨_, rfl⟩
          obtain ⟨x2, ex2⟩ : ∃ x, x = es[k].2 := ⟨_, rfl⟩
          have c0 : wr.cell? ⟨b, off + k * 2, none⟩ = some (.string key2) := by rw [ekey2]; exact hcell wr HBr4.out 0 (by omega)
          have c1 : wr.cell? ⟨b, off + k * 2 + 1, none⟩ = some (.int .i64 x2) := by rw [ex2]; exact hcell wr HBr4.out 1 (by omega)
          have HK2 : Hid (es[k].1 = key2) := (show Hid _ from ekey2.symm)
          have y0 : 0 ≤ (k : Int) := by omega
          have y1 : (k : Int) < (i : Int) := by omega
          have wk : IntKind.i64.wrap ((k : Int) + 1) = (k : Int) + 1 := by exact IntWalk.i64_in _ (by omega)
          clear hat hcell ekey2 ex2
          obtain ⟨Y, eY⟩ : ∃ Y, Y = wr.heap.size := ⟨_, rfl⟩
          obtain ⟨wy, ewy⟩ : ∃ wy : World, wy = wr.alloc (.cells #[.string key2, .int .i64 x2] 41) := ⟨_, rfl⟩
          have HWwy : Hid (wr.alloc (.cells #[.string key2, .int .i64 x2] 41) = wy) := ewy.symm
          have HAwy : Hid (Below wr.heap.size wr wy) := (show Hid _ from by rw [ewy]; exact (Below.refl _ wr).alloc (Nat.le_refl _) _)
          have HY0wy : Hid (wy.heap[Y]? = some (.cells #[.string key2, .int .i64 x2] 41 (0, 0))) := (show Hid _ from by show _ = _; rw [ewy, eY]; exact heap_alloc_new wr _)
          have HXY : Hid (∀ W, Below wy.heap.size wy W → W.cell? ⟨Y, 0, none⟩ = some (.string key2) ∧ W.cell? ⟨Y, 1, none⟩ = some (.int .i64 x2)) := (show Hid _ from fun W hg => by
            have hY0 := (hg.block Y (heap_of_cells HY0wy.out)).trans HY0wy.out
            exact ⟨cell_of_row W Y 0 _ _ _ hY0, cell_of_row W Y 1 _ _ _ hY0⟩)
          have hXw : X < wr.heap.size := by have := HB3.out.size; omega
          have hXY : X ≠ Y := by omega
          go_upto_region 16 with fail
          rw [HWwy.out, ← eY]
          clear ewy eY
          obtain ⟨y2, y3⟩ := HXY.out wy (Below.refl _ _)
          have k2 : wy.cell? ⟨X, 0, none⟩ = some (.string key) := (HXX.out wy (HB3.out.trans ((HB4.out.trans (HAwy.out.mono HB4.out.size)).mono HB3.out.size))).1
          have HB5 : Hid (Below w3.heap.size w3 wy) := (show Hid _ from HB4.out.trans (HAwy.out.mono HB4.out.size))
          have HX5 : Hid (Below w1.heap.size w1 wy) := (show Hid _ from HX3.out.trans (HB5.out.mono HX3.out.size))
          clear c0 c1 k0 k1
          cases hkk : (key2.toList == key.toList)
          case' true =>
            have HKK := Lib.hid hkk
            obtain ⟨x0, x1, d0, d1, d2, d3⟩ := HX.out wy HX5.out
            have hD5 : (wy).heap[F + 1]? = some (.cells #[.int .i64 0, .slice none 0 0, .int .i64 0, .slice none 0 0] 28 (0, 0)) := (HX5.out.block (F + 1) hF1).trans HF1w1.out
            have f0 : (wy).frozen? ⟨F + 1, 0, none⟩ = false := frozen_of_row wy (F + 1) 0 _ _ hD5
            have f1 : (wy).frozen? ⟨F + 1, 1, none⟩ = false := frozen_of_row wy (F + 1) 1 _ _ hD5
            have f2 : (wy).frozen? ⟨F + 1, 2, none⟩ = false := frozen_of_row wy (F + 1) 2 _ _ hD5
            have f3 : (wy).frozen? ⟨F + 1, 3, none⟩ = false := frozen_of_row wy (F + 1) 3 _ _ hD5
            clear hD5
            go_wp2_with fail
            clear hkk
            refine bodyPost_ret (v := .tuple #[.agg #[.int .i64 0, .slice none 0 0, .int .i64 0, .slice none 0 0], .int .i64 7]) (by simp [results, Try.results27, go_sem, d0, d1, d2, d3]) rfl ⟨?bz, ?h1⟩
            case bz =>
              have h := HAw1.out.trans (HX5.out.mono HAw1.out.size)
              exact (((h.setCell (by show w.heap.size ≤ F + 1; omega) _).setCell (by show w.heap.size ≤ F + 1; omega) _).setCell (by show w.heap.size ≤ F + 1; omega) _).setCell (by show w.heap.size ≤ F + 1; omega) _
            case h1 =>
              have hv : ven es[i] = true := by rw [HEI.out]; exact HVB.out.symm
              have h := ecode_twice hlt hv (j := k) hki (by rw [HEI.out, HK2.out]; exact tl_inj (by simpa using HKK.out))
              rw [HECD.out] at h
              exact .inl ⟨by rw [h]; decide, by rw [h]; rfl⟩
          have HKK := Lib.hid hkk
          go_wp2_with fail
          go_roundw
          case rel => exact ⟨k + 1, by omega, by go_num, HB5.out, fun j h hj => by
            rcases Nat.lt_or_ge j k with h1 | h1
            · exact HNO.out j h h1
            · have : j = k := by omega
              subst this
              rw [HK2.out]
              intro e
              have h2 := HKK.out
              rw [e] at h2
              simp at h2⟩
          case measure => simp [intOf]; omega
        · have hke : k = i := by omega
          have HKE := Lib.hid hke
          have HVI : Hid (ven es[i] = true) := (show Hid _ from by rw [HEI.out]; exact HVB.out.symm)
          have HNI : Hid (∀ j (_ : j < i), es[j].1 ≠ es[i].1) := (show Hid _ from fun j hj => by rw [HEI.out]; exact HNO.out j (by omega) (by omega))
          have hS1 : S.length ≤ 256 := by have := HSL.out; omega
          clear hke k0 k1
          obtain ⟨wp, rfl⟩ : ∃ wp : World, wp = wr := ⟨_, rfl⟩
          go_wp2_with fail
          go_loopw [13] (fun kv wq => ∃ k : Nat, k ≤ S.length ∧ kv = .int .i64 k ∧ (∀ x ∈ S.drop k, klt key x.1 = true) ∧ Below wp.heap.size wp wq) (fun kv _ => (intOf kv).toNat)
          case atStart => exact ⟨S.length, Nat.le_refl _, rfl, fun x hx => by simp at hx, Below.refl _ _⟩
          case round =>
            obtain ⟨m, hm, rfl, hgt, hb6⟩ := hrel
            have HGT := Lib.hid hgt
            have HB6 := Lib.hid hb6
            have HBr6 : Hid (Below wo.heap.size wo wr) := (show Hid _ from HBr4.out.trans (hb6.mono HBr4.out.size))
            have HO6 : Hid (wr.ownsRow w2.heap.size 41 2 (.slice As S.length cs) S.length (S.flatMap ecs)) := (show Hid _ from own_bel HO.out HBr6.out)
            obtain ⟨k0, k1⟩ := HXX.out wr (HB3.out.trans ((HB4.out.trans (hb6.mono hz4)).mono HB3.out.size))
            have hzr6 : w2.heap.size ≤ wr.heap.size := by have := HBr6.out.size; omega
            clear hgt hb6
            by_cases hm0 : 0 < m
            · obtain ⟨g, cap, e, hg1, hg2⟩ := own_form HO6.out (by omega)
              injection e with e4 e5 e6
              subst e4 e6
              obtain ⟨c0, c1⟩ := ecs_at HO6.out (m - 1) (by omega)
              obtain ⟨key3, ekey3⟩ : ∃ key, key = S[m - 1].1 := ⟨_, rfl⟩
              rw [← ekey3] at c0
              have d0 : decide (0 < (m : Int)) = true := decide_eq_true (by omega)
              have d0n : decide (0 < m) = true := decide_eq_true hm0
              have y0 : 0 ≤ (m : Int) - 1 := by omega
              have y1 : (m : Int) - 1 < (S.length : Int) := by omega
              have y2 : IntKind.i64.wrap ((m : Int) - 1) = (m : Int) - 1 := by exact IntWalk.i64_in _ (by omega)
              have y3 : ((m : Int) - 1).toNat = m - 1 := by omega
              have HK3 := Lib.hid ekey3
              clear c1 ekey3
              cases hkk : klt key key3
              · have hv1 : (!(Op.bytesLess key3.toList key.toList || key3.toList == key.toList)) = false := by rw [kgt_eq]; exact hkk
                have HLO : Hid (0 < m → ∃ x, S[m - 1]? = some x ∧ klt x.1 key = true) := (show Hid _ from fun _ => ins_lo HPM.out hlt HNI.out HKEY.out hm0 hm (by rw [← HK3.out]; exact hkk))
                go_wp2_with fail
                go_quiet (fail)
                clear c0 hv1
                go_wp2_with (at_builtin; refine wpList_append_el_at ecs _ rfl _ _ 29 rfl w2.heap.size 41 _ 2 24 Try.underlying29 einfo rfl (by omega) (by omega) _ S (by rfl) (by exact HO6.out) ((⟨#[]⟩ : ByteArray), (0 : Int)) rfl (ecs_one _) (by rfl) ?c1 ?c2 ?_)
                case c1 => omega
                case c2 => exact hzr6
                intro g7 cap7 w7 ho7 hg7 hat7
                have HO7 : Hid (w7.ownsRow w2.heap.size 41 2 (.slice (some ⟨g7, 0, none⟩) (S.length + 1) cap7) (S.length + 1) ((S ++ [((⟨#[]⟩ : ByteArray), (0 : Int))]).flatMap ecs)) := (show Hid _ from by show World.ownsRow _ _ _ _ _ _ _; simpa using ho7)
                obtain ⟨cur, hcur, hcs7, hnc7, hcm7, hMg7⟩ := own_cur HO7.out
                have HCUR := Lib.hid hcur
                have hCL : ((S.drop m).flatMap ecs).length = (S.length - m) * 2 := by rw [fm_len, List.length_drop]
                have HSRC := Lib.hid (drop_cell HO7.out hm)
                have HL7 := Lib.hid hCL
                have k00 := k0
                have k01 := k1
                clear ho7 hcur k0 k1 hCL
                go_upto_region 23 with fail
                refine regB23 g7 m S.length cap7 cur ((S.drop m).flatMap ecs) w7 hm hnc7 hS1 HCUR.out hcs7 HL7.out HSRC.out ?q1 ?_ (frn_of (by rfl)) (by rfl) (by rfl)
                case q1 => exact ecs_one_all _
                simp (maxSteps := 9000000) only [seg_s, seg_t, seg_z]
                rintro u86 u87 u88 u89 u90 u91 u92 u93 w8 ⟨h8, hg8⟩
                have HW8 : Hid (Below w2.heap.size w2 w8) := (show Hid _ from (((HBL.out.trans ((Below.drewN HBr6.out _).mono hz2)).alloc hzr6 _).grown hg7 (by simp; omega) (fun k hk => (HO6.out.lt k hk).1)).grown hg8 (by have := hg7.size; simp at this; omega) (fun k hk => by injection hk with hk; omega))
                have HOW := fun k hk => Nat.lt_of_lt_of_le (HO.out.lt k hk).2 hXr
                have hXr6 : X < wr.heap.size := by have := HB3.out.size; have := HB6.out.size; omega
                have k0 : w8.cell? ⟨X, 0, none⟩ = some (.string key) := keep_x (wr := wr.drewN _) HOW hXr6 hg7 hat7 hg8 _ _ k00
                have k1 : w8.cell? ⟨X, 1, none⟩ = some (.int .i64 x) := keep_x (wr := wr.drewN _) HOW hXr6 hg7 hat7 hg8 _ _ k01
                obtain ⟨v0, v1, c0, c1, f0, f1⟩ := ins_cells hm hnc7 hcs7 HL7.out h8
                have HNEW := Lib.hid (ins_own (e := (key, x)) HO7.out hm HCUR.out h8)
                clear h8 hg8 hg7 hat7 HOW k00 k01
                have hSL' : (S.take m ++ (key, x) :: S.drop m).length = S.length + 1 := by simp; omega
                have HSL' := Lib.hid hSL'
                clear hSL'
                go_wp2_with fail
                go_roundw
                case rel =>
                  exact ⟨i + 1, S.take m ++ (key, x) :: S.drop m, hlt, by go_num, ins_perm HPM.out hlt (by rw [HKEY.out, HXE.out]), Asc.ins HAS.out hm HGT.out HLO.out, by rw [HSL'.out]; exact HNEW.out, (HW8.out.setCell hMg7 _).setCell hMg7 _, HENV.out.snoc hlt HVI.out HNI.out, by rw [← HECD.out]; exact (ecode_next hlt HVI.out HNI.out).symm⟩
                case measure => simp [intOf]; omega
              · have hv1 : (!(Op.bytesLess key3.toList key.toList || key3.toList == key.toList)) = true := by rw [kgt_eq]; exact hkk
                go_wp2_with fail
                go_quiet (fail)
                clear c0 hv1
                go_wp2_with fail
                go_roundw
                case rel => exact ⟨m - 1, by omega, by go_num, fun x hx => by
                  rcases Nat.lt_or_ge (m - 1) S.length with h1 | h1
                  · rw [List.drop_eq_getElem_cons h1] at hx
                    rcases List.mem_cons.1 hx with rfl | hx
                    · rw [← HK3.out]; exact hkk
                    · exact HGT.out x (by rwa [show m - 1 + 1 = m by omega] at hx)
                  · omega, Below.drewN HB6.out _⟩
                case measure => simp [intOf]; omega
            · have HLO : Hid (0 < m → ∃ x, S[m - 1]? = some x ∧ klt x.1 key = true) := (show Hid _ from fun h => absurd h hm0)
              have d0 : decide (0 < (m : Int)) = false := decide_eq_false (by omega)
              have d0n : decide (0 < m) = false := decide_eq_false hm0
              go_wp2_with fail
              go_quiet (fail)
              go_wp2_with (at_builtin; refine wpList_append_el_at ecs _ rfl _ _ 29 rfl w2.heap.size 41 _ 2 24 Try.underlying29 einfo rfl (by omega) (by omega) _ S (by rfl) (by exact HO6.out) ((⟨#[]⟩ : ByteArray), (0 : Int)) rfl (ecs_one _) (by rfl) ?c1 ?c2 ?_)
              case c1 => omega
              case c2 => exact hzr6
              intro g7 cap7 w7 ho7 hg7 hat7
              have HO7 : Hid (w7.ownsRow w2.heap.size 41 2 (.slice (some ⟨g7, 0, none⟩) (S.length + 1) cap7) (S.length + 1) ((S ++ [((⟨#[]⟩ : ByteArray), (0 : Int))]).flatMap ecs)) := (show Hid _ from by show World.ownsRow _ _ _ _ _ _ _; simpa using ho7)
              obtain ⟨cur, hcur, hcs7, hnc7, hcm7, hMg7⟩ := own_cur HO7.out
              have HCUR := Lib.hid hcur
              have hCL : ((S.drop m).flatMap ecs).length = (S.length - m) * 2 := by rw [fm_len, List.length_drop]
              have HSRC := Lib.hid (drop_cell HO7.out hm)
              have HL7 := Lib.hid hCL
              have k00 := k0
              have k01 := k1
              clear ho7 hcur k0 k1 hCL
              go_upto_region 23 with fail
              refine regB23 g7 m S.length cap7 cur ((S.drop m).flatMap ecs) w7 hm hnc7 hS1 HCUR.out hcs7 HL7.out HSRC.out ?q1 ?_ (frn_of (by rfl)) (by rfl) (by rfl)
              case q1 => exact ecs_one_all _
              simp (maxSteps := 9000000) only [seg_s, seg_t, seg_z]
              rintro u86 u87 u88 u89 u90 u91 u92 u93 w8 ⟨h8, hg8⟩
              have HW8 : Hid (Below w2.heap.size w2 w8) := (show Hid _ from (((HBL.out.trans ((Below.drewN HBr6.out _).mono hz2)).alloc hzr6 _).grown hg7 (by simp; omega) (fun k hk => (HO6.out.lt k hk).1)).grown hg8 (by have := hg7.size; simp at this; omega) (fun k hk => by injection hk with hk; omega))
              have HOW := fun k hk => Nat.lt_of_lt_of_le (HO.out.lt k hk).2 hXr
              have hXr6 : X < wr.heap.size := by have := HB3.out.size; have := HB6.out.size; omega
              have k0 : w8.cell? ⟨X, 0, none⟩ = some (.string key) := keep_x (wr := wr.drewN _) HOW hXr6 hg7 hat7 hg8 _ _ k00
              have k1 : w8.cell? ⟨X, 1, none⟩ = some (.int .i64 x) := keep_x (wr := wr.drewN _) HOW hXr6 hg7 hat7 hg8 _ _ k01
              obtain ⟨v0, v1, c0, c1, f0, f1⟩ := ins_cells hm hnc7 hcs7 HL7.out h8
              have HNEW := Lib.hid (ins_own (e := (key, x)) HO7.out hm HCUR.out h8)
              clear h8 hg8 hg7 hat7 HOW k00 k01
              have hSL' : (S.take m ++ (key, x) :: S.drop m).length = S.length + 1 := by simp; omega
              have HSL' := Lib.hid hSL'
              clear hSL'
              go_wp2_with fail
              go_roundw
              case rel =>
                exact ⟨i + 1, S.take m ++ (key, x) :: S.drop m, hlt, by go_num, ins_perm HPM.out hlt (by rw [HKEY.out, HXE.out]), Asc.ins HAS.out hm HGT.out HLO.out, by rw [HSL'.out]; exact HNEW.out, (HW8.out.setCell hMg7 _).setCell hMg7 _, HENV.out.snoc hlt HVI.out HNI.out, by rw [← HECD.out]; exact (ecode_next hlt HVI.out HNI.out).symm⟩
              case measure => simp [intOf]; omega
    · have hie : i = es.length := by omega
      have hpm : S.Perm es := by have h := HPM.out; rwa [hie, List.take_length] at h
      have HPS2 := Lib.hid hpm
      have hec0 : ecode [] es = 0 := by have h := HECD.out; rw [hie, ecode_end] at h; exact h.symm
      have HEC0 := Lib.hid hec0
      have HVS : Hid (∀ e ∈ S, ven e = true) := (show Hid _ from fun e he => (ecode_env hec0).1 e (hpm.mem_iff.1 he))
      clear hec0
      have hSe : S.length = es.length := hpm.length_eq
      clear hpm hie hi
      obtain ⟨wl, rfl⟩ : ∃ wl : World, wl = wr := ⟨_, rfl⟩
      have HSE := Lib.hid hSe
      have hS2 : S.length ≤ 256 := by omega
      clear hSe
      go_wp2_with fail
      go_loopw [14, 101] (fun hv iv wr => HoL B ps S wl hv iv wr) (fun _ iv _ => S.length - (intOf iv).toNat)
      case atStart => exact ⟨0, [], Nat.zero_le _, rfl, HD.nil _ _, Below.refl _ _⟩
      case round =>
        obtain ⟨j, vs, hj, rfl, hhd, hb⟩ := hrel
        have HH := Lib.hid hhd
        have HB := Lib.hid hb
        have hzl := hb.size
        obtain ⟨Ah, ch, rfl⟩ := own_sl hhd.1
        clear hhd hb
        by_cases hjl : j < S.length
        · obtain ⟨g, cap, e, hg1, hg2⟩ := own_form HO.out (by omega)
          injection e with e4 e5 e6
          subst e4 e6
          obtain ⟨c0, c1⟩ := ecs_at (own_bel HO.out HB.out) j hjl
          obtain ⟨key, ekey⟩ : ∃ key, key = S[j].1 := ⟨_, rfl⟩
          obtain ⟨x, ex⟩ : ∃ x, x = S[j].2 := ⟨_, rfl⟩
          rw [← ekey] at c0
          rw [← ex] at c1
          have hkyv : ky key = true := by
            have h := HVS.out _ (List.getElem_mem hjl)
            rw [ekey]
            simp only [ven, Bool.and_eq_true] at h
            exact h.1.1
          have hks : key.size ≤ 9223372036854775807 := by have := (ky_bd hkyv).2; omega
          have HKY := Lib.hid hkyv
          have HKEY := Lib.hid ekey
          have wj : IntKind.i64.wrap ((j : Int) + 1) = (j : Int) + 1 := by exact IntWalk.i64_in _ (by omega)
          have zi0 : 0 ≤ (j : Int) := by omega
          clear hkyv ekey ex
          obtain ⟨X, eX⟩ : ∃ X, X = wr.heap.size := ⟨_, rfl⟩
          obtain ⟨wx, ewx⟩ : ∃ wx : World, wx = wr.alloc (.cells #[.string key, .int .i64 x] 41) := ⟨_, rfl⟩
          have HWwx : Hid (wr.alloc (.cells #[.string key, .int .i64 x] 41) = wx) := ewx.symm
          have HAwx : Hid (Below wr.heap.size wr wx) := (show Hid _ from by rw [ewx]; exact (Below.refl _ wr).alloc (Nat.le_refl _) _)
          have HX0wx : Hid (wx.heap[X]? = some (.cells #[.string key, .int .i64 x] 41 (0, 0))) := (show Hid _ from by show _ = _; rw [ewx, eX]; exact heap_alloc_new wr _)
          have HXX : Hid (∀ W, Below wx.heap.size wx W → W.cell? ⟨X, 0, none⟩ = some (.string key) ∧ W.cell? ⟨X, 1, none⟩ = some (.int .i64 x)) := (show Hid _ from fun W hg => by
            have hX0 := (hg.block X (heap_of_cells HX0wx.out)).trans HX0wx.out
            exact ⟨cell_of_row W X 0 _ _ _ hX0, cell_of_row W X 1 _ _ _ hX0⟩)
          go_upto_region 30 with fail
          rw [HWwx.out, ← eX]
          clear ewx eX
          obtain ⟨k0, k1⟩ := HXX.out wx (Below.refl _ _)
          have HL2 : Hid (Below w2.heap.size w2 wx) := (show Hid _ from HBL.out.trans ((HB.out.trans (HAwx.out.mono HB.out.size)).mono HBL.out.size))
          obtain ⟨x0, x1, _⟩ := HX.out wx (HX2.out.trans (HL2.out.mono HX2.out.size))
          have HSG : Hid (SG pcs 2 wx.heap.size wx (.slice Ap ps.length cp) ps) := (show Hid _ from (HPS.out.below (HB2.out.trans (HL2.out.mono HB2.out.size))).more (Nat.le_trans HB2.out.size HL2.out.size))
          have HAh := Lib.hid HH.out
          clear c0 c1 k1
          go_wp2_with fail
          (with_reducible refine (r20Homes_ok B ps key _ wx hV.out hks HSG.out).mono ?_)
          rintro e w4 ⟨hok, _⟩
          obtain ⟨v', rfl, ho4, hb4⟩ := hok HKY.out
          have HO4 := Lib.hid ho4
          have HB4 := Lib.hid hb4
          have HD4 : Hid (HD wl.heap.size w4 (.slice Ah vs.length ch) vs ((S.take j).map fun e => hms B ps (dg e.1))) := (show Hid _ from (HH.out.on HAwx.out).on hb4)
          have hvs : vs.length ≤ 256 := by have h := HH.out.2.1; simp at h; omega
          have hw4 : wl.heap.size ≤ w4.heap.size := by have := HAwx.out.size; have := hb4.size; omega
          obtain ⟨A4, c4, rfl⟩ := own_sl ho4
          clear hok ho4 hb4 k0 x0 x1
          go_wp2_with (at_builtin; refine wpList_append_el_at one _ rfl _ _ 88 rfl wl.heap.size 22 _ 1 24 Try.underlying88 slinfo rfl (by omega) (by omega) _ vs (by rfl) (by exact HD4.out.1) (.slice A4 (hms B ps (dg key)).length c4) rfl (by intro u hu; simp [one] at hu; subst hu; rfl) (by rfl) ?c1 ?c2 ?_)
          case c1 => omega
          case c2 => exact hw4
          intro g7 cap7 w7 ho7 hg7 hat7
          have HNEW : Hid (HD wl.heap.size w7 (.slice (some ⟨g7, 0, none⟩) (vs.length + 1) cap7) (vs ++ [.slice A4 (hms B ps (dg key)).length c4]) ((S.take (j + 1)).map fun e => hms B ps (dg e.1))) := (show Hid _ from by
            have h9 := HD.app (cap := cap7) HD4.out HO4.out (fun k hk => Nat.lt_of_lt_of_le (HH.out.1.lt k hk).2 HAwx.out.size) (Nat.le_trans hzl HAwx.out.size) hg7 hat7 (by simpa using ho7)
            have e1 : (vs ++ [Value.slice A4 (hms B ps (dg key)).length c4]).length = vs.length + 1 := by simp
            rw [e1] at h9
            rw [List.take_succ_eq_append_getElem hjl, List.map_append, List.map_singleton, ← HKEY.out]
            exact h9)
          have HW7 : Hid (Below wl.heap.size wl w7) := (show Hid _ from ((HB.out.trans ((HAwx.out.trans (HB4.out.mono HAwx.out.size)).mono HB.out.size)).alloc hw4 _).grown hg7 (by simp; omega) (fun k hk => (HD4.out.1.lt k hk).1))
          clear ho7 hg7 hat7
          go_wp2_with fail
          go_roundw
          case rel => exact ⟨j + 1, _, hjl, by go_num, HNEW.out, HW7.out⟩
          case measure => simp [intOf]; omega
        · have hje : j = S.length := by omega
          subst hje
          obtain ⟨Bn, rfl⟩ : ∃ Bn : Nat, Bn = B := ⟨_, rfl⟩
          have hB1 := hV.out.1
          obtain ⟨hs, ehs⟩ : ∃ hs, hs = hss Bn ps S := ⟨_, rfl⟩
          have HHS : Hid (HD wl.heap.size wr (.slice Ah vs.length ch) vs hs) := (show Hid _ from by have h := HH.out; rw [List.take_length] at h; rw [ehs]; exact h)
          have hhl : hs.length = S.length := by rw [ehs, hss_len]
          have HHL := Lib.hid hhl
          have HEH := Lib.hid ehs
          have hbd : ∀ l ∈ hs, ∀ y ∈ l, 0 ≤ y ∧ y < (Bn : Int) := by rw [ehs]; exact hss_bd hB1
          have HBD := Lib.hid hbd
          have hbn : Bn ≤ 1000000 := by have := hV.out.b2; omega
          have hB2 : Hid (Below w2.heap.size w2 wr) := (show Hid _ from HBL.out.trans (HB.out.mono HBL.out.size))
          obtain ⟨x0, x1, _⟩ := HX.out wr (HX2.out.trans (hB2.out.mono HX2.out.size))
          have HSL : Hid (SLb wr.heap.size wr (.slice Ah vs.length ch) hs) := (show Hid _ from HHS.out.slb fun l hl y hy => by have := hbd l hl y hy; unfold i64r; omega)
          clear ehs hbd
          obtain ⟨wq, rfl⟩ : ∃ wq : World, wq = wr := ⟨_, rfl⟩
          go_wp2_with fail
          (with_reducible refine (first_any Bn slots hs HBD.out (by rw [HHL.out]; omega) hbn hs2 wq _ HSL.out).mono ?_)
          rintro e w5 ⟨r, out, v5, rfl, hoo, hb5, hlx, hnl⟩
          have HLX := Lib.hid hlx
          have HNL := Lib.hid hnl
          have HOO := Lib.hid hoo
          have HB5 := Lib.hid hb5
          have HX5 : Hid (Below w1.heap.size w1 w5) := (show Hid _ from (HX2.out.trans (hB2.out.mono HX2.out.size)).trans (hb5.mono (Nat.le_trans HX2.out.size hB2.out.size)))
          obtain ⟨x0, x1, d0, d1, d2, d3⟩ := HX.out w5 HX5.out
          have hD5 : w5.heap[F + 1]? = some (.cells #[.int .i64 0, .slice none 0 0, .int .i64 0, .slice none 0 0] 28 (0, 0)) := (HX5.out.block (F + 1) hF1).trans HF1w1.out
          have f0 : w5.frozen? ⟨F + 1, 0, none⟩ = false := frozen_of_row w5 (F + 1) 0 _ _ hD5
          have f1 : w5.frozen? ⟨F + 1, 1, none⟩ = false := frozen_of_row w5 (F + 1) 1 _ _ hD5
          have f2 : w5.frozen? ⟨F + 1, 2, none⟩ = false := frozen_of_row w5 (F + 1) 2 _ _ hD5
          have f3 : w5.frozen? ⟨F + 1, 3, none⟩ = false := frozen_of_row w5 (F + 1) 3 _ _ hD5
          have HD5 := Lib.hid hD5
          clear hD5
          obtain ⟨A5, c5, rfl⟩ := own_sl hoo
          clear hlx hnl hoo hb5
          cases r
          · go_wp2_with fail
            refine bodyPost_ret (v := .tuple #[.agg #[.int .i64 0, .slice none 0 0, .int .i64 0, .slice none 0 0], .int .i64 15]) (by simp [results, Try.results27, go_sem, d0, d1, d2, d3]) rfl ⟨?b1, .inr ⟨HEC0.out, S, HPS2.out, HAS.out, .inl ⟨by rw [← HEH.out]; exact HNL.out (by first | exact rfl | exact trivial), rfl⟩⟩⟩
            case b1 =>
              have h := HAw1.out.trans (HX5.out.mono HAw1.out.size)
              exact (((h.setCell (by show w.heap.size ≤ F + 1; omega) _).setCell (by show w.heap.size ≤ F + 1; omega) _).setCell (by show w.heap.size ≤ F + 1; omega) _).setCell (by show w.heap.size ≤ F + 1; omega) _
          · have HLF : Hid (LexF hs (fun _ => slots) out) := (show Hid _ from HLX.out (by first | exact rfl | exact trivial))
            go_wp2_with fail
            go_upto_region 36 with fail
            have HSG5 : Hid (SG pcs 2 w5.heap.size w5 (.slice Ap ps.length cp) ps) := (show Hid _ from (HPS.out.below (HAw1.out.trans (HX5.out.mono HAw1.out.size))).more (Nat.le_trans HAw1.out.size HX5.out.size))
            have hps4 : ps.length ≤ 1000 := by have := hV.out.l2; omega
            refine regB36 F Bn slots cp Ap ps w5 hbn hps4 ((HX5.out.block F (by omega)).trans HF0w1.out) HSG5.out ?_ (frn_of (by rfl)) (by rfl) (by rfl)
            simp (maxSteps := 9000000) only [seg_s, seg_t, seg_z]
            rintro u128 u129 u130 u131 u132 u133 u134 u135 u136 u137 u138 D M pv w6 ⟨hD6, hM6, hpv6, hDM, hpD, hpM, hDl, hMl, hb6⟩
            have HD6 := Lib.hid hD6
            have HPV6 := Lib.hid hpv6
            have HPM := Lib.hid hpM
            have HB6 := Lib.hid hb6
            have HEN6 : Hid (EN w6.heap.size M (List.replicate Bn []) (List.replicate Bn (.slice none 0 0)) w6) := (show Hid _ from EN.made hM6 (heap_of_cells hM6))
            have hM6l : M < w6.heap.size := heap_of_cells hM6
            have hD6l : D < w6.heap.size := heap_of_cells hD6
            have hz6 := hb6.size
            have HS5 : Hid (w5.ownsRow w2.heap.size 41 2 (.slice As S.length cs) S.length (S.flatMap ecs)) := (show Hid _ from own_bel HO.out (HB.out.trans (HB5.out.mono HB.out.size)))
            clear hD6 hM6 hpv6 hpD hpM hb6 d0 d1 d2 d3 f0 f1 f2 f3 x0 x1
            go_wp2_with fail
            go_loopw [141] (fun iv wr => ReL Bn out S M w6 iv wr) (fun iv _ => out.length - (intOf iv).toNat)
            case atStart => exact ⟨0, _, _, Nat.zero_le _, rfl, (dist_nil Bn).symm, HEN6.out, grownBy_refl _ _⟩
            case round =>
              obtain ⟨i, bs, vs, hi, rfl, hbs, hen, hg6⟩ := hrel
              have HBS := Lib.hid hbs
              have hbl : bs.length = Bn := by rw [hbs, dist_len]
              have hol : out.length = S.length := by rw [HLF.out.asg.len, HHL.out]
              have HOL := Lib.hid hol
              have HEN := Lib.hid hen
              have HG6 := Lib.hid hg6
              have HBL5 : Hid (Below w5.heap.size w5 wr) := (show Hid _ from HB6.out.grown hg6 hz6 (fun k hk => by injection hk with hk; omega))
              have HDr : Hid (wr.heap[D]? = some (.cells #[.int .i64 Bn, pv, .int .i64 slots, .slice (some ⟨M, 0, none⟩) Bn Bn] 28 (0, 0))) := (show Hid _ from (hg6.block D hD6l (fun e => by injection e with e; exact hDM e)).trans HD6.out)
              have hzr := hg6.size
              clear hen hg6 hbs hol
              by_cases hio : i < out.length
              · obtain ⟨go, co, e, hgo1, hgo2⟩ := own_form (own_bel HOO.out HBL5.out) (by omega)
                injection e with e4 e5 e6
                subst e4 e6
                have cO := own_int (own_bel HOO.out HBL5.out) i hio
                obtain ⟨bn, hbn1, hbn2⟩ : ∃ bn : Nat, out[i] = (bn : Int) ∧ bn < Bn := by
                  have h := HBD.out _ (List.getElem_mem (by have := HLF.out.asg.len; omega)) _ (HLF.out.asg.mem i hio (by have := HLF.out.asg.len; omega))
                  exact ⟨out[i].toNat, by omega, by omega⟩
                have HBN := Lib.hid hbn1
                rw [hbn1] at cO
                have hiS : i < S.length := by have := HOL.out; omega
                have wi : IntKind.i64.wrap ((i : Int) + 1) = (i : Int) + 1 := by exact IntWalk.i64_in _ (by omega)
                have zi0 : 0 ≤ (i : Int) := by omega
                clear hbn1
                have hbb : bn < bs.length := by omega
                have hbv : bn < vs.length := by rw [HEN.out.lv]; exact hbb
                obtain ⟨Ab, cb, hAb⟩ := own_sl (HEN.out.row bn hbv hbb)
                have HAB := Lib.hid hAb
                have HOB4 : Hid (wr.ownsRow w6.heap.size 41 2 (.slice Ab bs[bn].length cb) bs[bn].length (bs[bn].flatMap ecs)) := (show Hid _ from by have h := HEN.out.row bn hbv hbb; rw [hAb] at h; exact h)
                have HC4 : Hid (wr.cell? ⟨M, bn, none⟩ = some (.slice Ab bs[bn].length cb) ∧ wr.frozen? ⟨M, bn, none⟩ = false) := (show Hid _ from by have h := HEN.out.cells hbv; rw [hAb] at h; exact h)
                obtain ⟨gS, cS, e, hgS1, hgS2⟩ := own_form (own_bel HS5.out HBL5.out) (by omega)
                injection e with e4 e5 e6
                subst e4 e6
                have hgS : gS < w5.heap.size := (HS5.out.lt gS rfl).2
                have HCS := Lib.hid (ecs_at (own_bel HS5.out HBL5.out) i hiS)
                have hll : bs[bn].length ≤ 256 := by
                  have h1 : bs[bn] = (dist (S.take i) (out.take i) Bn)[bn]'(by rw [dist_len]; exact hbn2) := List.getElem_of_eq HBS.out _
                  have h2 := (dist_sub (S := S.take i) (out := out.take i) (B := Bn) (b := bn) (by rw [dist_len]; exact hbn2)).length_le
                  rw [h1]
                  rw [List.length_take] at h2
                  omega
                have hds : bs.set bn (bs[bn] ++ [S[i]]) = dist (S.take (i + 1)) (out.take (i + 1)) Bn := by
                  have h := dist_step (S := S) (out := out) (B := Bn) (i := i) (bn := bn) hiS hio HBN.out (by rw [dist_len]; exact hbn2)
                  have h1 : bs[bn] = (dist (S.take i) (out.take i) Bn)[bn]'(by rw [dist_len]; exact hbn2) := List.getElem_of_eq HBS.out _
                  rw [← h, ← h1, ← HBS.out]
                have HDS := Lib.hid hds
                clear hds
                have HNE : Hid (∀ k, (Value.slice Ab bs[bn].length cb).ownBlock = some k → k ≠ M ∧ k ≠ D ∧ k ≠ gS) := (show Hid _ from fun k hk => by have := (HOB4.out.lt k hk).1; omega)
                clear hAb
                go_wp2_with fail
                go_upto_region 40 with fail
                refine regB40 D M Bn bn i gS S.length cs w6.heap.size cb Ab bs[bn] S[i].1 S[i].2 wr hbn2 hbn hiS hll hzr (cell_of_row wr D 3 _ _ _ HDr.out) HC4.out.1 HC4.out.2 HCS.out.1 HCS.out.2 HOB4.out hDM (by omega) HNE.out ?_ (frn_of (by rfl)) (by rfl) (by rfl) (by rfl) (by rfl)
                simp (maxSteps := 9000000) only [seg_s, seg_t, seg_z]
                rintro u146 u147 u148 u149 u150 u151 u152 u153 u154 u155 u156 u157 u158 u159 u160 g9 cap9 w9 w10 ⟨hg9, hat9, ho9, rfl⟩
                have HEN9 : Hid (EN w6.heap.size M (bs.set bn (bs[bn] ++ [S[i]])) (vs.set bn (.slice (some ⟨g9, 0, none⟩) (bs[bn].length + 1) cap9)) (w9.setCell ⟨M, bn, none⟩ (.slice (some ⟨g9, 0, none⟩) (bs[bn].length + 1) cap9))) := (show Hid _ from HEN.out.app hbv hbb hzr (by rw [HAB.out]; exact hg9) (by rw [HAB.out]; exact hat9) ho9)
                have HG9 : Hid (w6.grownBy (w9.setCell ⟨M, bn, none⟩ (.slice (some ⟨g9, 0, none⟩) (bs[bn].length + 1) cap9)) (some M)) := (show Hid _ from grownBy_setCell (grownBy_own (grownBy_alloc' HG6.out _) hg9 (fun k hk => (HOB4.out.lt k hk).1)) (.inl rfl) _)
                clear hg9 hat9 ho9
                go_wp2_with fail
                go_roundw
                case rel => exact ⟨i + 1, _, _, hio, by go_num, HDS.out, HEN9.out, HG9.out⟩
                case measure => simp [intOf]; omega
              · have hie : i = out.length := by omega
                subst hie
                obtain ⟨Apv, cpv, rfl⟩ := own_sl HPV6.out
                have hFr : wr.heap[F + 1]? = some (.cells #[.int .i64 0, .slice none 0 0, .int .i64 0, .slice none 0 0] 28 (0, 0)) := (HBL5.out.block (F + 1) (heap_of_cells HD5.out)).trans HD5.out
                have hF5 : F + 1 < w5.heap.size := heap_of_cells HD5.out
                obtain ⟨d0, d1, d2, d3, f0, f1, f2, f3⟩ := dir_cells hFr
                have c0 : wr.cell? ⟨D, 0, none⟩ = some (.int .i64 Bn) := cell_of_row wr D 0 _ _ _ HDr.out
                have c1 : wr.cell? ⟨D, 1, none⟩ = some (.slice Apv ps.length cpv) := cell_of_row wr D 1 _ _ _ HDr.out
                have c2 : wr.cell? ⟨D, 2, none⟩ = some (.int .i64 slots) := cell_of_row wr D 2 _ _ _ HDr.out
                have c3 : wr.cell? ⟨D, 3, none⟩ = some (.slice (some ⟨M, 0, none⟩) Bn Bn) := cell_of_row wr D 3 _ _ _ HDr.out
                clear hFr
                go_wp2_with fail
                refine bodyPost_ret (v := .tuple #[.agg #[.int .i64 Bn, .slice Apv ps.length cpv, .int .i64 slots, .slice (some ⟨M, 0, none⟩) Bn Bn], .int .i64 0]) (by simp [results, Try.results27, go_sem, d0, d1, d2, d3]) rfl ⟨?b1, .inr ⟨HEC0.out, S, HPS2.out, HAS.out, .inr ⟨out, _, _, by rw [← HEH.out]; exact HLF.out, rfl, ?b3, ?b4⟩⟩⟩
                case b1 =>
                  have h := HAw1.out.trans ((HX5.out.trans (HBL5.out.mono HX5.out.size)).mono HAw1.out.size)
                  exact (((h.setCell (by show w.heap.size ≤ F + 1; omega) _).setCell (by show w.heap.size ≤ F + 1; omega) _).setCell (by show w.heap.size ≤ F + 1; omega) _).setCell (by show w.heap.size ≤ F + 1; omega) _
                case b3 =>
                  have h := HPV6.out.kept HG6.out (.inr HPM.out)
                  have hne : (Value.slice Apv ps.length cpv).ownBlock ≠ some (F + 1) := fun e => by have := (HPV6.out.lt _ e).1; omega
                  exact own_lo (own_set (own_set (own_set (own_set h hne) hne) hne) hne) (by have := HX5.out.size; have := HAw1.out.size; omega)
                case b4 =>
                  have hFM : F + 1 ≠ M := by omega
                  have hF6 : F + 1 < w6.heap.size := by omega
                  have h := (((HEN.out.put (i := 0) (u := .int .i64 Bn) hFM hF6).put (i := 1) (u := .slice Apv ps.length cpv) hFM hF6).put (i := 2) (u := .int .i64 slots) hFM hF6).put (i := 3) (u := .slice (some ⟨M, 0, none⟩) Bn Bn) hFM hF6
                  have h9 := h.slo (lo := w.heap.size) (by omega) (by have := HX5.out.size; have := HAw1.out.size; omega)
                  rw [hbl] at h9
                  have h8 := HBS.out
                  rw [List.take_length, HOL.out, List.take_length] at h8
                  rw [← h8]
                  exact h9
end Go.Proofs.Ytllnomembakboaa
