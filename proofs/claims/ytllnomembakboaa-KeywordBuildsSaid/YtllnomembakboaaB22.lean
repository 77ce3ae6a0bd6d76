/- Joined: Nw Oa Ob Oc Od. -/
import Derived.Test.YtllnomembakboaaB20
import Derived.Test.YtllnomembakboaaB21
import Derived.Test.YtllnomembakboaaB17
import Derived.Test.YtllnomembakboaaB07
namespace Go.Proofs.Ytllnomembakboaa
open Go.RowKit

def K1 (M n : Nat) (es : List (ByteArray × Int)) (w2 : World) (iv : Value) (wr : World) : Prop :=
  ∃ i : Nat, i ≤ n ∧ iv = .int .i64 (i : Nat) ∧ BS Try.prog 9 4 wr M i (kys es i) ∧ w2.grownBy wr (some M) ∧ EnV (es.take i) ∧ ecode (es.take i) (es.drop i) = ecode [] es
def K2 (B : Nat) (ps : List (Int × Int)) (slots : Nat) (S : List (ByteArray × Int)) (Pb G : Nat) (w7 : World) (iv : Value) (wr : World) : Prop :=
  ∃ (j : Nat) (hv : Value) (vs : List Value), j ≤ S.length ∧ iv = .int .i64 (j : Nat) ∧ HD w7.heap.size wr hv vs ((hss B ps S).take j) ∧ wr.heap[Pb]? = some (.cells #[.int .i64 slots, hv, .slice (some ⟨G, 0, none⟩) B B, .int .i64 0] 90 (0, 0)) ∧ w7.grownBy wr (some Pb)
def K3 (b0 B slots : Nat) (hs : List (List Int)) (hv : Value) (Pb G : Nat) (wB : World) (iv : Value) (wr : World) : Prop :=
  ∃ (i : Nat) (ls : List (List Int)) (vb : List Value), i ≤ hs.length ∧ iv = .int .i64 (i : Nat) ∧ PI b0 Pb G wr.heap.size hs.length B slots 0 hv B ls vb wr ∧ Stt hs (fun _ => slots) (upto i) ls ∧ wB.grownBy wr (some G) ∧ ∀ q, inV vb q → wB.heap.size ≤ q
def K4 (b0 B slots : Nat) (hs : List (List Int)) (hv : Value) (Pb : Nat) (wC : World) (iv : Value) (wr : World) : Prop :=
  ∃ (GI cg F : Nat) (ls : List (List Int)) (vb : List Value) (out : List Int), out.length ≤ hs.length ∧ iv = .int .i64 (out.length : Nat) ∧ PI b0 Pb GI wr.heap.size hs.length B slots F hv cg ls vb wr ∧ Stt hs (fun _ => slots) (upto hs.length) ls ∧ Set ls out ∧ Lex hs (fun _ => slots) out ∧ wC.grownBy wr (some Pb)
def K5 (b0 B slots : Nat) (hs : List (List Int)) (hv : Value) (Pb : Nat) (wC : World) (out row : List Int) (iv : Value) (wr : World) : Prop :=
  ∃ (k GI cg F : Nat) (ls : List (List Int)) (vb : List Value), k ≤ row.length ∧ iv = .int .i64 (k : Nat) ∧ PI b0 Pb GI wr.heap.size hs.length B slots F hv cg ls vb wr ∧ Stt hs (fun _ => slots) (upto hs.length) ls ∧ Set ls out ∧ wC.grownBy wr (some Pb) ∧ ∀ x ∈ row.take k, ¬ Ext hs (fun _ => slots) (out ++ [x])
def K6 (G GI DD N B slots : Nat) (ls2 : List (List Int)) (vb2 : List Value) (S : List (ByteArray × Int)) (out : List Int) (v5 : Value) (wF : World) (iv : Value) (wr : World) : Prop :=
  ∃ (b : Nat) (ls : List (List Int)) (ev : Value) (es : List Value), b ≤ B ∧ iv = .int .i64 (b : Nat) ∧ IN G GI DD N B ls vb2 wr ∧ (∀ c, b ≤ c → bk ls c = bk ls2 c) ∧ HE wF.heap.size wr ev es ((dist S out B).take b) ∧ wr.heap[DD]? = some (.cells #[.int .i64 B, v5, .int .i64 slots, ev] 28 (0, 0)) ∧ FW DD GI vb2 wF vb2 wr
def K7 (S : List (ByteArray × Int)) (l : List Int) (wG : World) (lv iv : Value) (wr : World) : Prop :=
  ∃ (k : Nat) (q : List (ByteArray × Int)), k ≤ l.length ∧ iv = .int .i64 (k : Nat) ∧ q = (l.take k).map (fun x => S.getD x.toNat (⟨#[]⟩, 0)) ∧ wr.ownsRow wG.heap.size 41 2 lv q.length (q.flatMap ecs) ∧ Below wG.heap.size wG wr
set_option maxRecDepth 100000 in
set_option maxHeartbeats 16000000 in
theorem kbuild_any (B : Nat) (ps : List (Int × Int)) (slots : Nat) (es : List (ByteArray × Int)) (pv lv : Value) (w : World) (hv : HV B ps) (hs1 : 1 ≤ slots) (hs2 : slots ≤ 8) (he : ∀ e ∈ es, e.1.size ≤ 9223372036854775807) (hel : es.length ≤ 256) (hp : SG pcs 2 w.heap.size w pv ps) (hl : SV ecs 2 w.heap.size w lv es) :
    Calls Try.prog 26 #[.agg #[.int .i64 B, pv], .int .i64 slots, lv] w (BuP B ps slots es w) := by
  obtain ⟨Ap, cp, ep⟩ : ∃ A c, pv = .slice A ps.length c := by obtain ⟨A, c, e, _⟩ := hp; exact ⟨A, c, e⟩
  subst ep
  obtain ⟨Al, cl, rfl⟩ := hl.form
  have HPS := Lib.hid hp
  have HLS := Lib.hid hl
  have HESZ := Lib.hid he
  have hV := Lib.hid hv
  have e3 : decide (256 < (es.length : Int)) = false := decide_eq_false (by omega)
  have e3n : decide (256 < es.length) = false := decide_eq_false (by omega)
  have s1 : decide (1 ≤ (slots : Int)) = true := decide_eq_true (by omega)
  have s2 : decide ((slots : Int) ≤ 8) = true := decide_eq_true (by omega)
  clear hp hl he hv
  go_enter Try.func26, Try.ntmps26
  obtain ⟨F, eF⟩ : ∃ F, F = w.heap.size := ⟨_, rfl⟩
  obtain ⟨w1, ew1⟩ : ∃ w1 : World, w1 = (w.alloc (.cells #[.int .i64 B, .slice Ap ps.length cp] 25)).alloc (.cells #[.int .i64 0, .slice none 0 0, .int .i64 0, .slice none 0 0] 28) := ⟨_, rfl⟩
  have HWw1 : Hid ((w.alloc (.cells #[.int .i64 B, .slice Ap ps.length cp] 25)).alloc (.cells #[.int .i64 0, .slice none 0 0, .int .i64 0, .slice none 0 0] 28) = w1) := ew1.symm
  have HAw1 : Hid (Below w.heap.size w w1) := (show Hid _ from by rw [ew1]; exact ((Below.refl _ w).alloc (Nat.le_refl _) _).alloc (by simp) _)
  have HF0w1 : Hid (w1.heap[F]? = some (.cells #[.int .i64 B, .slice Ap ps.length cp] 25 (0, 0))) := (show Hid _ from by show _ = _; rw [ew1, eF, Below.heap_alloc _ _ _ (by simp)]; exact heap_alloc_new w _)
  have HF1w1 : Hid (w1.heap[F + 1]? = some (.cells #[.int .i64 0, .slice none 0 0, .int .i64 0, .slice none 0 0] 28 (0, 0))) := (show Hid _ from by show _ = _; rw [ew1, eF]; have := heap_alloc_new (w.alloc (.cells #[.int .i64 B, .slice Ap ps.length cp] 25)) (.cells #[.int .i64 0, .slice none 0 0, .int .i64 0, .slice none 0 0] 28); simpa using this)
  have HX : Hid (∀ W, Below w1.heap.size w1 W → W.cell? ⟨F, 0, none⟩ = some (.int .i64 B) ∧ W.cell? ⟨F, 1, none⟩ = some (.slice Ap ps.length cp) ∧ W.cell? ⟨F + 1, 0, none⟩ = some (.int .i64 0) ∧ W.cell? ⟨F + 1, 1, none⟩ = some (.slice none 0 0) ∧ W.cell? ⟨F + 1, 2, none⟩ = some (.int .i64 0) ∧ W.cell? ⟨F + 1, 3, none⟩ = some (.slice none 0 0)) := (show Hid _ from fun W hg => by
    have hF0 := (hg.block F (heap_of_cells HF0w1.out)).trans HF0w1.out
    have hF1 := (hg.block (F + 1) (heap_of_cells HF1w1.out)).trans HF1w1.out
    exact ⟨cell_of_row W F 0 _ _ _ hF0, cell_of_row W F 1 _ _ _ hF0, cell_of_row W (F + 1) 0 _ _ _ hF1, cell_of_row W (F + 1) 1 _ _ _ hF1, cell_of_row W (F + 1) 2 _ _ _ hF1, cell_of_row W (F + 1) 3 _ _ _ hF1⟩)
  have hF1 : F + 1 < w1.heap.size := heap_of_cells HF1w1.out
  have hFw : w.heap.size ≤ F := by omega
  go_upto_region 1 with fail
  rw [HWw1.out, ← eF]
  clear ew1 eF
  have HPS1 := Lib.hid ((HPS.out.below HAw1.out).more HAw1.out.size)
  obtain ⟨x0, x1, _⟩ := HX.out w1 (Below.refl _ _)
  go_wp2_with fail
  (with_reducible refine (hcheck_ok B ps _ w1 hV.out HPS1.out).mono ?_)
  rintro e w2 ⟨rfl, hb2⟩
  have HB2 : Hid (Below w.heap.size w w2) := (show Hid _ from HAw1.out.trans (hb2.mono HAw1.out.size))
  have HX2 := Lib.hid hb2
  clear hb2 x0 x1
  go_wp2_with fail
  (with_reducible refine (slotted_any slots w2).mono ?_)
  rintro e w2' ⟨rfl, hw2⟩
  subst hw2
  rw [s1, s2]
  have hmf : (Instr.makeMap 74 none).run Try.prog w2 = .ok (.map (some w2.heap.size)) (w2.alloc (.map #[] 0)) := run_makeMap _ w2
  obtain ⟨M, eM⟩ : ∃ M, M = w2.heap.size := ⟨_, rfl⟩
  obtain ⟨w3, ew3⟩ : ∃ w3 : World, w3 = w2.alloc (.map #[] 0) := ⟨_, rfl⟩
  have HBS3 : Hid (BS Try.prog 9 4 w3 M 0 []) := (show Hid _ from by rw [ew3, eM]; exact BS.made _ _ _ _)
  have HX3 : Hid (Below w1.heap.size w1 w3) := (show Hid _ from by rw [ew3]; exact HX2.out.alloc HX2.out.size _)
  have HB3 : Hid (Below w.heap.size w w3) := (show Hid _ from HAw1.out.trans (HX3.out.mono HAw1.out.size))
  have hMw : w1.heap.size ≤ M := by rw [eM]; exact HX2.out.size
  have hz3 : M < w3.heap.size := by rw [ew3, eM]; simp
  clear s1 s2
  go_upto_region 8 with fail
  rw [← eM, ← ew3]
  clear hmf ew3 eM
  go_wp2_with fail
  go_loopw [42] (fun iv wr => K1 M es.length es w3 iv wr) (fun iv _ => es.length - (intOf iv).toNat)
  case atStart => exact ⟨0, Nat.zero_le _, rfl, by rw [kys_zero]; exact HBS3.out, grownBy_refl _ _, EnV.nil, rfl⟩
  case round =>
    obtain ⟨i, hi, rfl, hbs, hgr, henv, hecd⟩ := hrel
    have HBS := Lib.hid hbs
    have HGR := Lib.hid hgr
    have HENV := Lib.hid henv
    have HECD := Lib.hid hecd
    have hzr := hgr.size
    have HXr : Hid (Below w1.heap.size w1 wr) := (show Hid _ from HX3.out.grown hgr HX3.out.size (fun k hk => by injection hk with hk; omega))
    have hwr := HXr.out.size
    clear hbs hgr henv hecd
    by_cases hlt : i < es.length
    · have HLr : Hid (SV ecs 2 wr.heap.size wr (.slice Al es.length cl) es) := (show Hid _ from (HLS.out.below (HAw1.out.trans (HXr.out.mono HAw1.out.size))).more (by have := HAw1.out.size; omega))
      obtain ⟨_, hat⟩ := HLr.out.at
      obtain ⟨b, off, rfl, hb, hcell⟩ := hat i hlt
      obtain ⟨key, ekey⟩ : ∃ key, key = es[i].1 := ⟨_, rfl⟩
      obtain ⟨x, ex⟩ : ∃ x, x = es[i].2 := ⟨_, rfl⟩
      have c0 : wr.cell? ⟨b, off + i * 2, none⟩ = some (.string key) := by rw [ekey]; exact hcell wr (Below.refl _ _) 0 (by omega)
      have c1 : wr.cell? ⟨b, off + i * 2 + 1, none⟩ = some (.int .i64 x) := by rw [ex]; exact hcell wr (Below.refl _ _) 1 (by omega)
      have hei : es[i] = (key, x) := by rw [ekey, ex]
      have HEI := Lib.hid hei
      have hks : key.size ≤ 9223372036854775807 := by rw [ekey]; exact HESZ.out _ (List.getElem_mem hlt)
      have wi : IntKind.i64.wrap ((i : Int) + 1) = (i : Int) + 1 := by exact IntWalk.i64_in _ (by omega)
      have hcl : es.length ≤ cl := by obtain ⟨_, _, e, h, _⟩ := HLr.out; injection e with e1 e2 e3; omega
      have zi0 : 0 ≤ (i : Int) := by omega
      clear hat hcell ekey ex hei
      obtain ⟨X, eX⟩ : ∃ X, X = wr.heap.size := ⟨_, rfl⟩
      obtain ⟨wx, ewx⟩ : ∃ wx : World, wx = wr.alloc (.cells #[.string key, .int .i64 x] 41) := ⟨_, rfl⟩
      have HWwx : Hid (wr.alloc (.cells #[.string key, .int .i64 x] 41) = wx) := ewx.symm
      have HAwx : Hid (Below wr.heap.size wr wx) := (show Hid _ from by rw [ewx]; exact (Below.refl _ wr).alloc (Nat.le_refl _) _)
      have HX0wx : Hid (wx.heap[X]? = some (.cells #[.string key, .int .i64 x] 41 (0, 0))) := (show Hid _ from by show _ = _; rw [ewx, eX]; exact heap_alloc_new wr _)
      have HXX : Hid (∀ W, Below wx.heap.size wx W → W.cell? ⟨X, 0, none⟩ = some (.string key) ∧ W.cell? ⟨X, 1, none⟩ = some (.int .i64 x)) := (show Hid _ from fun W hg => by
        have hX0 := (hg.block X (heap_of_cells HX0wx.out)).trans HX0wx.out
        exact ⟨cell_of_row W X 0 _ _ _ hX0, cell_of_row W X 1 _ _ _ hX0⟩)
      have hXr : wr.heap.size ≤ X := by omega
      go_upto_region 11 with fail
      rw [HWwx.out, ← eX]
      clear ewx eX
      obtain ⟨k0, k1⟩ := HXX.out wx (Below.refl _ _)
      clear c0 c1
      go_wp2_with fail
      (with_reducible refine (valid_any key x wx hks).mono ?_)
      rintro e w4 ⟨rfl, hb4⟩
      obtain ⟨vb, hvb⟩ : ∃ vb, vb = ven (key, x) := ⟨_, rfl⟩
      rw [← hvb]
      have HVB := Lib.hid hvb
      have HB4 := Lib.hid hb4
      have HBr4 : Hid (Below wr.heap.size wr w4) := (show Hid _ from HAwx.out.trans (hb4.mono HAwx.out.size))
      have HX4 : Hid (Below w1.heap.size w1 w4) := (show Hid _ from HXr.out.trans (HBr4.out.mono hwr))
      obtain ⟨k0, k1⟩ := HXX.out w4 hb4
      have HBS4 : Hid (BS Try.prog 9 4 w4 M i (kys es i)) := (show Hid _ from HBS.out.kept (grownBy_of_below HBr4.out none) (by simp))
      clear hb4 hvb
      cases vb
      case' false =>
        obtain ⟨x0, x1, d0, d1, d2, d3⟩ := HX.out w4 HX4.out
        have hD5 : (w4).heap[F + 1]? = some (.cells #[.int .i64 0, .slice none 0 0, .int .i64 0, .slice none 0 0] 28 (0, 0)) := (HX4.out.block (F + 1) hF1).trans HF1w1.out
        have f0 : (w4).frozen? ⟨F + 1, 0, none⟩ = false := frozen_of_row w4 (F + 1) 0 _ _ hD5
        have f1 : (w4).frozen? ⟨F + 1, 1, none⟩ = false := frozen_of_row w4 (F + 1) 1 _ _ hD5
        have f2 : (w4).frozen? ⟨F + 1, 2, none⟩ = false := frozen_of_row w4 (F + 1) 2 _ _ hD5
        have f3 : (w4).frozen? ⟨F + 1, 3, none⟩ = false := frozen_of_row w4 (F + 1) 3 _ _ hD5
        clear hD5
        go_wp2_with fail
        refine bodyPost_ret (v := .tuple #[.agg #[.int .i64 0, .slice none 0 0, .int .i64 0, .slice none 0 0], .int .i64 1]) (by simp [results, Try.results26, go_sem, d0, d1, d2, d3]) rfl ⟨?bz, ?h1⟩
        case bz =>
          have h := HAw1.out.trans (HX4.out.mono HAw1.out.size)
          exact (((h.setCell (by show w.heap.size ≤ F + 1; omega) _).setCell (by show w.heap.size ≤ F + 1; omega) _).setCell (by show w.heap.size ≤ F + 1; omega) _).setCell (by show w.heap.size ≤ F + 1; omega) _
        case h1 =>
          have hv := ecode_range hlt (by rw [HEI.out]; exact HVB.out.symm)
          rw [HECD.out] at hv
          exact .inl ⟨by rw [hv]; decide, by rw [hv]; rfl⟩
      have hMX : M ≠ X := by omega
      have hkm : key.size ≤ maxLen := by unfold maxLen; omega
      have hnm : i < maxLen := by unfold maxLen; omega
      cases hkk : (kys es i).contains key.data.toList
      case' true =>
        have HKK := Lib.hid hkk
        clear hkk
        obtain ⟨x0, x1, d0, d1, d2, d3⟩ := HX.out w4 HX4.out
        have hD5 : (w4).heap[F + 1]? = some (.cells #[.int .i64 0, .slice none 0 0, .int .i64 0, .slice none 0 0] 28 (0, 0)) := (HX4.out.block (F + 1) hF1).trans HF1w1.out
        have f0 : (w4).frozen? ⟨F + 1, 0, none⟩ = false := frozen_of_row w4 (F + 1) 0 _ _ hD5
        have f1 : (w4).frozen? ⟨F + 1, 1, none⟩ = false := frozen_of_row w4 (F + 1) 1 _ _ hD5
        have f2 : (w4).frozen? ⟨F + 1, 2, none⟩ = false := frozen_of_row w4 (F + 1) 2 _ _ hD5
        have f3 : (w4).frozen? ⟨F + 1, 3, none⟩ = false := frozen_of_row w4 (F + 1) 3 _ _ hD5
        clear hD5
        go_wp2_with (first | (at_lookup; refine wpList_lookup_BS _ rfl _ _ 74 rfl 9 4 Try.underlying74 Try.underlying9 Try.underlying4 (zeroB _) M i _ rfl (by exact HBS4.out) key rfl hkm ?_; rw [HKK.out]))
        refine bodyPost_ret (v := .tuple #[.agg #[.int .i64 0, .slice none 0 0, .int .i64 0, .slice none 0 0], .int .i64 7]) (by simp [results, Try.results26, go_sem, d0, d1, d2, d3]) rfl ⟨?bz, ?h1⟩
        case bz =>
          have h := HAw1.out.trans (HX4.out.mono HAw1.out.size)
          exact (((h.setCell (by show w.heap.size ≤ F + 1; omega) _).setCell (by show w.heap.size ≤ F + 1; omega) _).setCell (by show w.heap.size ≤ F + 1; omega) _).setCell (by show w.heap.size ≤ F + 1; omega) _
        case h1 =>
          have hv : ven es[i] = true := by rw [HEI.out]; exact HVB.out.symm
          obtain ⟨j, hj, hji, e⟩ := kys_has HKK.out
          have h := ecode_twice hlt hv hji (by rw [HEI.out]; exact e)
          rw [HECD.out] at h
          exact .inl ⟨by rw [h]; decide, by rw [h]; rfl⟩
      have HKK := Lib.hid hkk
      clear hkk
      have HVI : Hid (ven es[i] = true) := (show Hid _ from by rw [HEI.out]; exact HVB.out.symm)
      have HNI : Hid (∀ j (_ : j < i), es[j].1 ≠ es[i].1) := (show Hid _ from fun j hj => by rw [HEI.out]; exact kys_not (by omega) HKK.out j hj)
      go_wp2_with (first
        | (at_lookup; refine wpList_lookup_BS _ rfl _ _ 74 rfl 9 4 Try.underlying74 Try.underlying9 Try.underlying4 (zeroB _) M i _ rfl (by exact HBS4.out) key rfl hkm ?_; rw [HKK.out])
        | (at_mapUpdate; refine wpList_update_BS _ rfl _ _ _ 74 rfl 9 4 Try.underlying74 Try.underlying9 Try.underlying4 M i _ rfl (by exact HBS4.out) hnm key rfl hkm rfl ?_; intro w5 hb5 hg5; have HBS5 := Lib.hid hb5; have HG5 := Lib.hid hg5; clear hb5 hg5))
      go_roundw
      case rel => exact ⟨i + 1, hlt, by go_num, by rw [kys_succ hlt, HEI.out]; exact HBS5.out, grownBy_trans (grownBy_trans HGR.out (grownBy_of_below HBr4.out _)) HG5.out, HENV.out.snoc hlt HVI.out HNI.out, by rw [← HECD.out]; exact (ecode_next hlt HVI.out HNI.out).symm⟩
      case measure => simp [intOf]; omega
    · have hie : i = es.length := by omega
      have hec0 : ecode [] es = 0 := by have h := HECD.out; rw [hie, ecode_end] at h; exact h.symm
      have HEC0 := Lib.hid hec0
      have HLr : Hid (SV ecs 2 wr.heap.size wr (.slice Al es.length cl) es) := (show Hid _ from (HLS.out.below (HAw1.out.trans (HXr.out.mono HAw1.out.size))).more (by have := HAw1.out.size; omega))
      have HBX := Lib.hid (SV.boxE HLr.out)
      have hezz : es.length ≤ 1000000 := by omega
      clear hec0 hie
      obtain ⟨wl, rfl⟩ : ∃ wl : World, wl = wr := ⟨_, rfl⟩
      go_wp2_with fail
      (with_reducible refine (values_any Al es.length cl wl).mono ?_)
      rintro e w4 ⟨rfl, hw4⟩
      rw [← hw4] at HBX
      have HB4 : Hid (Below wl.heap.size wl w4) := (show Hid _ from by rw [hw4]; exact (Below.refl _ _).alloc (Nat.le_refl _) _)
      clear hw4
      go_wp2_with fail
      (with_reducible refine (sorted_any es wl.heap.size hezz w4 HBX.out).mono ?_)
      rintro e w5 ⟨S, v5, rfl, hpm, hsr, ho5, hb5⟩
      obtain ⟨As, cs, rfl⟩ := own_sl ho5
      have HPM := Lib.hid hpm
      have HAS := Lib.hid (hsr.asc ((hpm.map _).nodup_iff.2 (ecode_env HEC0.out).2))
      have HVS : Hid (∀ e ∈ S, ven e = true) := (show Hid _ from fun e he => (ecode_env HEC0.out).1 e (hpm.mem_iff.1 he))
      have HO5 := Lib.hid ho5
      have hSl : S.length ≤ 256 := by rw [hpm.length_eq]; exact hel
      have HX5 : Hid (Below w1.heap.size w1 w5) := (show Hid _ from (HXr.out.trans (HB4.out.mono hwr)).trans (hb5.mono (Nat.le_trans hwr HB4.out.size)))
      have hz4 := HB4.out.size
      have hz5 := hb5.size
      clear hpm hsr ho5 hb5
      have hB1 := hV.out.b1
      have hB2 := hV.out.b2
      have hBm : B ≤ 1000000 := by omega
      have hmk := made_rows B hBm w5
      obtain ⟨x0, x1, _⟩ := HX.out w5 HX5.out
      obtain ⟨G, eG⟩ : ∃ G, G = w5.heap.size := ⟨_, rfl⟩
      obtain ⟨w6, ew6⟩ : ∃ w6 : World, w6 = w5.alloc (.cells (Array.replicate B (Value.slice none 0 0)) 22) := ⟨_, rfl⟩
      have hz6 : w6.heap.size = G + 1 := by rw [ew6, eG]; simp
      have HG6 : Hid (w6.heap[G]? = some (.cells (Array.replicate B (Value.slice none 0 0)) 22 (0, 0))) := (show Hid _ from by rw [ew6, eG]; exact heap_alloc_new w5 _)
      have HB6 : Hid (Below w5.heap.size w5 w6) := (show Hid _ from by rw [ew6]; exact (Below.refl _ _).alloc (Nat.le_refl _) _)
      obtain ⟨Pb, ePb⟩ : ∃ P, P = w6.heap.size := ⟨_, rfl⟩
      obtain ⟨w7, ew7⟩ : ∃ w7 : World, w7 = w6.alloc (.cells #[.int .i64 slots, .slice none 0 0, .slice (some ⟨G, 0, none⟩) B B, .int .i64 0] 90) := ⟨_, rfl⟩
      have hz7 : w7.heap.size = Pb + 1 := by rw [ew7, ePb]; simp
      have HP7 : Hid (w7.heap[Pb]? = some (.cells #[.int .i64 slots, .slice none 0 0, .slice (some ⟨G, 0, none⟩) B B, .int .i64 0] 90 (0, 0))) := (show Hid _ from by rw [ew7, ePb]; exact heap_alloc_new w6 _)
      have HG7 : Hid (w7.heap[G]? = some (.cells (Array.replicate B (Value.slice none 0 0)) 22 (0, 0))) := (show Hid _ from by rw [ew7]; exact (Below.heap_alloc _ _ _ (by omega)).trans HG6.out)
      have HB7 : Hid (Below w5.heap.size w5 w7) := (show Hid _ from by rw [ew7]; exact HB6.out.alloc HB6.out.size _)
      have hGP : G < Pb := by omega
      have hG5 : w5.heap.size ≤ G := Nat.le_of_eq eG.symm
      have HO7 : Hid (w7.ownsRow w4.heap.size 41 2 (.slice As S.length cs) S.length (S.flatMap ecs)) := (show Hid _ from own_bel HO5.out HB7.out)
      have HX7 : Hid (Below w1.heap.size w1 w7) := (show Hid _ from HX5.out.trans (HB7.out.mono HX5.out.size))
      have HW6 := Lib.hid ew6
      have HW7 := Lib.hid ew7
      have HEG := Lib.hid eG
      have HEP : Hid (Pb = G + 1) := (show Hid _ from ePb.trans hz6)
      have hP5 : w5.heap.size ≤ Pb := by omega
      have HZ7 : Hid (w7.heap.size = Pb + 1) := hz7
      have hPl : Pb < w7.heap.size := by omega
      clear hz6 hz7 ew6 ew7 eG ePb
      go_upto_region 19 with fail
      rw [← HEG.out, ← HW6.out, ← HEP.out, ← HW7.out]
      clear hmk x0 x1
      go_wp2_with fail
      go_loopw [72] (fun iv wr => K2 B ps slots S Pb G w7 iv wr) (fun iv _ => S.length - (intOf iv).toNat)
      case atStart => exact ⟨0, _, [], Nat.zero_le _, rfl, HD.nil _ _, HP7.out, grownBy_refl _ _⟩
      case round =>
        obtain ⟨j, hv, vs, hj, rfl, hhd, hpb, hgr⟩ := hrel
        have HH := Lib.hid hhd
        have HPB := Lib.hid hpb
        have HGR7 := Lib.hid hgr
        have hzr7 := hgr.size
        obtain ⟨Ah, ch, rfl⟩ := own_sl hhd.1
        clear hhd hpb hgr
        by_cases hjl : j < S.length
        · skip
          -- {A
          have HOr : Hid (wr.ownsRow w4.heap.size 41 2 (.slice As S.length cs) S.length (S.flatMap ecs)) := (show Hid _ from HO7.out.kept HGR7.out (.inr (fun e => by have := (HO5.out.lt Pb e).2; omega)))
          obtain ⟨gS, capS, e, hg1, hg2⟩ := own_form HOr.out (by omega)
          injection e with e4 e5 e6
          subst e4 e6
          obtain ⟨c0, c1⟩ := ecs_at HOr.out j hjl
          obtain ⟨key, ekey⟩ : ∃ key, key = S[j].1 := ⟨_, rfl⟩
          obtain ⟨x, ex⟩ : ∃ x, x = S[j].2 := ⟨_, rfl⟩
          rw [← ekey] at c0
          rw [← ex] at c1
          have hkyv : ky key = true := by
            have h := HVS.out _ (List.getElem_mem hjl)
            rw [ekey]
            simp only [ven, Bool.and_eq_true] at h
            exact h.1.1
          have hks : key.size ≤ 9223372036854775807 := by have := (ky_bd hkyv).2; omega
          have hkey : (hss B ps S)[j]'(by rw [hss_len]; exact hjl) = hms B ps (dg key) := by rw [ekey]; simp [hss]
          have HKEY := Lib.hid hkey
          have wj : IntKind.i64.wrap ((j : Int) + 1) = (j : Int) + 1 := by exact IntWalk.i64_in _ (by omega)
          have zj0 : 0 ≤ (j : Int) := by omega
          have hnb : ∀ q, (Value.slice Ah vs.length ch).ownBlock = some q → w7.heap.size ≤ q := fun q hq => (HH.out.1.lt q hq).1
          have HNB := Lib.hid hnb
          clear ekey ex hkyv hnb e5 hkey
          obtain ⟨X, eX⟩ : ∃ X, X = wr.heap.size := ⟨_, rfl⟩
          obtain ⟨wx, ewx⟩ : ∃ wx : World, wx = wr.alloc (.cells #[.string key, .int .i64 x] 41) := ⟨_, rfl⟩
          have HWwx : Hid (wr.alloc (.cells #[.string key, .int .i64 x] 41) = wx) := ewx.symm
          have HAwx : Hid (Below wr.heap.size wr wx) := (show Hid _ from by rw [ewx]; exact (Below.refl _ wr).alloc (Nat.le_refl _) _)
          have HX0wx : Hid (wx.heap[X]? = some (.cells #[.string key, .int .i64 x] 41 (0, 0))) := (show Hid _ from by show _ = _; rw [ewx, eX]; exact heap_alloc_new wr _)
          have HXX : Hid (∀ W, Below wx.heap.size wx W → W.cell? ⟨X, 0, none⟩ = some (.string key) ∧ W.cell? ⟨X, 1, none⟩ = some (.int .i64 x)) := (show Hid _ from fun W hg => by
            have hX0 := (hg.block X (heap_of_cells HX0wx.out)).trans HX0wx.out
            exact ⟨cell_of_row W X 0 _ _ _ hX0, cell_of_row W X 1 _ _ _ hX0⟩)
          have hPr : Pb < wr.heap.size := heap_of_cells HPB.out
          have HPBx : Hid (wx.heap[Pb]? = some (.cells #[.int .i64 slots, .slice Ah vs.length ch, .slice (some ⟨G, 0, none⟩) B B, .int .i64 0] 90 (0, 0))) := (show Hid _ from (HAwx.out.block Pb hPr).trans HPB.out)
          have HXx : Hid (Below w1.heap.size w1 wx) := (show Hid _ from (HX7.out.grown HGR7.out HX7.out.size (fun k hk => by injection hk with hk; have := HX5.out.size; omega)).trans (HAwx.out.mono (by have := HX7.out.size; omega)))
          have HHx : Hid (HD w7.heap.size wx (.slice Ah vs.length ch) vs ((hss B ps S).take j)) := (show Hid _ from HH.out.on HAwx.out)
          have HSGx : Hid (SG pcs 2 wx.heap.size wx (.slice Ap ps.length cp) ps) := (show Hid _ from (HPS.out.below (HAw1.out.trans (HXx.out.mono HAw1.out.size))).more (by have := HAw1.out.size; have := HXx.out.size; omega))
          have hvs : vs.length ≤ 256 := by have h := HH.out.2.1; simp at h; omega
          have hzx : w7.heap.size ≤ wx.heap.size := by have := HAwx.out.size; omega
          have hPx : Pb < wx.heap.size := heap_of_cells HPBx.out
          have hFx : F + 1 < wx.heap.size := by have := HXx.out.size; omega
          have hXlt : X < wx.heap.size := heap_of_cells HX0wx.out
          go_upto_region 22 with fail
          rw [HWwx.out, ← eX]
          clear ewx eX
          obtain ⟨k0, k1⟩ := HXX.out wx (Below.refl _ _)
          obtain ⟨x0, x1, _⟩ := HX.out wx HXx.out
          have p1 : wx.cell? ⟨Pb, 1, none⟩ = some (.slice Ah vs.length ch) := cell_of_row wx Pb 1 _ _ _ HPBx.out
          clear c0 c1
          go_region_law (first
            | (go_simp; go_at_call 41; refine (khomes_ok B ps key _ _ hV.out hks (by first | exact HSGx.out | exact HSGx.out.below (Below.refl _ _).drew)).mono ?_; rintro e8 w8 ⟨v8, rfl, ho8, hb8⟩; obtain ⟨A8, c8, rfl⟩ := own_sl ho8; have HB8 : Hid (Below wx.heap.size wx w8) := (show Hid _ from ⟨hb8.os, hb8.tape, hb8.output, hb8.size, hb8.block⟩); have HO8 : Hid (w8.ownsRow wx.heap.size 3 1 (.slice A8 (hms B ps (dg key)).length c8) (hms B ps (dg key)).length ((hms B ps (dg key)).map (Value.int .i64))) := (show Hid _ from ho8); have p1 := (HB8.out.cell (p := ⟨Pb, 1, none⟩) hPx).trans p1; have HD8 := Lib.hid (HHx.out.on HB8.out); have hz8 := HB8.out.size; have hP8 : Pb < w8.heap.size := (by omega); clear ho8 hb8)
            | (refine step_append_el_at one _ (by rfl) (.tmp 80) _ 88 (by rfl) w7.heap.size 22 _ 1 24 Try.underlying88 slinfo rfl (by omega) (by omega) (.slice Ah vs.length ch) vs (by rfl) (by first | exact HD8.out.1.alloc _ | exact (HD8.out.1.alloc _).drew) (.slice A8 (hms B ps (dg key)).length c8) rfl (by intro u hu; simp [one] at hu; subst hu; rfl) w8.heap.size (by rfl) (by exact cells_at w8 (one (.slice A8 (hms B ps (dg key)).length c8)) _) (by omega) (by simp; omega) ?_; intro g9 cap9 w9 ho9 hg9 ha9; have HO9 := Lib.hid ho9; have HG9 : Hid ((w8.alloc (.cells (one (.slice A8 (hms B ps (dg key)).length c8)).toArray 22)).grownBy w9 (Value.slice Ah vs.length ch).ownBlock) := (show Hid _ from ⟨hg9.os, hg9.tape, hg9.output, hg9.size, hg9.block⟩); have HA9 := Lib.hid ha9; have HP9 : Hid (w9.heap[Pb]? = some (.cells #[.int .i64 slots, .slice Ah vs.length ch, .slice (some ⟨G, 0, none⟩) B B, .int .i64 0] 90 (0, 0))) := (show Hid _ from (HG9.out.block Pb (by simp; omega) (fun e => by have := HNB.out _ e.symm; omega)).trans ((Below.heap_alloc _ _ _ (by omega)).trans ((HB8.out.block Pb hPx).trans HPBx.out))); have q1 := cell_of_row w9 Pb 1 _ _ _ HP9.out; have f1 := frozen_of_row w9 Pb 1 _ _ HP9.out; clear ho9 hg9 ha9))
          all_goals
            obtain ⟨z1, z2, z3⟩ := hd_store (a0 := w7) HD8.out HO8.out (fun k hk => Nat.lt_of_lt_of_le (HHx.out.1.lt k hk).2 (Nat.le_refl _)) hzx HG9.out (by simpa using HA9.out) (by simpa using HO9.out) HP9.out hPl (grownBy_trans HGR7.out (grownBy_trans (grownBy_of_below HAwx.out _) (grownBy_of_below HB8.out _))) (Nat.le_refl _)
            have Z1 := Lib.hid z1
            have Z2 := Lib.hid z2
            have Z3 := Lib.hid z3
            clear z1 z2 z3
            go_wp2_with fail
            go_roundw
            case rel => exact ⟨j + 1, _, _, hjl, by go_num, by rw [List.take_succ_eq_append_getElem (by rw [hss_len]; exact hjl), HKEY.out]; exact Z1.out, Z2.out, Z3.out⟩
            case measure => simp [intOf]; omega
          -- A}
        · have hje : j = S.length := by omega
          subst hje
          obtain ⟨hs, ehs⟩ : ∃ hs, hs = hss B ps S := ⟨_, rfl⟩
          have hhl : hs.length = S.length := by rw [ehs, hss_len]
          have HEH := Lib.hid ehs
          have HHS : Hid (HD w7.heap.size wr (.slice Ah vs.length ch) vs hs) := (show Hid _ from by have h := HH.out; rw [← hss_len B ps S, List.take_length] at h; rw [ehs]; exact h)
          have HBD : Hid (∀ l ∈ hs, ∀ y ∈ l, 0 ≤ y ∧ y < (B : Int)) := (show Hid _ from by rw [ehs]; exact hss_bd hB1)
          have hvl : vs.length = hs.length := HHS.out.2.1
          have HSLD := Lib.hid HHS.out.sld
          have HGr : Hid (wr.heap[G]? = some (.cells (Array.replicate B (Value.slice none 0 0)) 22 (0, 0))) := (show Hid _ from (HGR7.out.block G (by omega) (by simp; omega)).trans HG7.out)
          have HPI0 : Hid (PI G Pb G wr.heap.size hs.length B slots 0 (.slice Ah vs.length ch) B (List.replicate B []) (List.replicate B (.slice none 0 0)) wr) := (show Hid _ from PI.start HGr.out HPB.out (by have := heap_of_cells HPB.out; omega) (by omega) (Nat.le_refl _))
          have HXr7 : Hid (Below w1.heap.size w1 wr) := (show Hid _ from HX7.out.grown HGR7.out HX7.out.size (fun k hk => by injection hk with hk; have := HX5.out.size; omega))
          have HOr : Hid (wr.ownsRow w4.heap.size 41 2 (.slice As S.length cs) S.length (S.flatMap ecs)) := (show Hid _ from HO7.out.kept HGR7.out (.inr (fun e => by have := (HO5.out.lt Pb e).2; omega)))
          rw [hvl] at HPB HSLD HPI0 HHS
          clear ehs
          obtain ⟨wB, rfl⟩ : ∃ wB : World, wB = wr := ⟨_, rfl⟩
          have hhN : hs.length ≤ 256 := by omega
          rw [← hhl]
          have HHL := Lib.hid hhl
          clear hhl
          go_wp2_with fail
          go_loopw [92] (fun iv wr => K3 G B slots hs (.slice Ah hs.length ch) Pb G wB iv wr) (fun iv _ => hs.length - (intOf iv).toNat)
          case atStart => exact ⟨0, _, _, Nat.zero_le _, rfl, HPI0.out, Stt.nil _ _ _, grownBy_refl _ _, fun q hq => absurd hq (inV_nil _ _)⟩
          case round =>
            obtain ⟨i, ls, vb, hi, rfl, hpi, hst, hgb, hvq⟩ := hrel
            have HPI := Lib.hid hpi
            have HST := Lib.hid hst
            have HGB := Lib.hid hgb
            have HVQ := Lib.hid hvq
            have hzb := hgb.size
            clear hpi hst hgb hvq
            have HXq : Hid (Below w1.heap.size w1 wr) := (show Hid _ from HXr7.out.grown HGB.out HXr7.out.size (fun k hk => by injection hk with hk; have := HX5.out.size; omega))
            by_cases hlt : i < hs.length
            · skip
              -- {B
              have HSL : Hid (SLD (fun k => w7.heap.size ≤ k ∧ k < wB.heap.size) wr (.slice Ah hs.length ch) hs) := (show Hid _ from HSLD.out.keep (fun p hp => World.cell?_of_block (HGB.out.block _ hp.2 (by simp; omega))))
              obtain ⟨bh, oh, Ar, cr, eA, hbh, hco, hrb⟩ := HSL.out.row i hlt
              subst eA
              obtain ⟨p0, p1, p2, p3⟩ := HPI.out.cells
              obtain ⟨x0, x1, _⟩ := HX.out wr HXq.out
              have wi : IntKind.i64.wrap ((i : Int) + 1) = (i : Int) + 1 := by exact IntWalk.i64_in _ (by omega)
              have y0 : 0 ≤ (i : Int) := by omega
              have y1 : (i : Int) < (hs.length : Int) := by omega
              have HC : Hid (∀ W, Sm (wr.alloc (.cells (Array.replicate B (Value.bool false)) 4)) W → Calls Try.prog 53 #[.pointer (some ⟨Pb, 0, none⟩), .int .i64 i, .slice Ar hs[i].length cr, .slice (some ⟨wr.heap.size, 0, none⟩) B B] W (PrR G Pb G B slots i (.slice (some ⟨bh, oh, none⟩) hs.length ch) hs wB)) := (show Hid _ from fun W hW =>
                put_round HPI.out HST.out HGB.out HVQ.out (fun k hk => ⟨hk.2, by omega⟩) HSL.out hlt hrb HBD.out (by omega) hBm hs2 hW)
              have hPr : Pb < wr.heap.size := heap_of_cells HPI.out.blk
              have hFr : F < wr.heap.size := by have := HXq.out.size; omega
              have hbr : bh < wr.heap.size := by omega
              have hmk := made_bools B hBm
              have HCB : Hid (wB.cell? ⟨bh, oh + i, none⟩ = some (.slice Ar hs[i].length cr)) := (show Hid _ from (World.cell?_of_block (a := ⟨bh, oh + i, none⟩) (HGB.out.block bh hbh.2 (by simp; omega))).symm.trans hco)
              clear hrb
              go_upto_region 27 with fail
              go_region_held3 (fun w' => w'.cell? ⟨Pb, 1, none⟩ = some (.slice (some ⟨bh, oh, none⟩) hs.length ch) ∧ w'.cell? ⟨bh, oh + i, none⟩ = some (.slice Ar hs[i].length cr) ∧ w'.cell? ⟨F, 0, none⟩ = some (.int .i64 B)) (first | exact ⟨p1, hco, x0⟩ | exact ⟨q1, q2, q0⟩ | go_keep)
                (first
                  | (go_at_call 53; refine (HC.out _ ⟨by rfl, by rfl, by rfl, by rfl⟩).mono ?_; rintro e w8 ⟨r, ls8, vs8, rfl, hpi8, hgb8, hvq8, ht8, hf8⟩; have HPI8 := Lib.hid hpi8; have HGB8 := Lib.hid hgb8; have HVQ8 := Lib.hid hvq8; have HT8 := Lib.hid ht8; have HF8 := Lib.hid hf8; obtain ⟨_, q1, _, _⟩ := hpi8.cells; have q2 := (World.cell?_of_block (a := ⟨bh, oh + i, none⟩) (hgb8.block bh hbh.2 (by simp; omega))).trans HCB.out; have HX8 : Hid (Below w1.heap.size w1 w8) := (show Hid _ from HXr7.out.grown hgb8 HXr7.out.size (fun k hk => by injection hk with hk; have := HX5.out.size; omega)); obtain ⟨q0, _⟩ := HX.out w8 HX8.out; clear hpi8 hgb8 hvq8 ht8 hf8))
              all_goals
                cases r
                · clear x0 x1 p0 p1 p2 p3 hco q0 q1 q2
                  obtain ⟨x0, x1, d0, d1, d2, d3⟩ := HX.out w8 HX8.out
                  have hD5 : (w8).heap[F + 1]? = some (.cells #[.int .i64 0, .slice none 0 0, .int .i64 0, .slice none 0 0] 28 (0, 0)) := (HX8.out.block (F + 1) hF1).trans HF1w1.out
                  have f0 : (w8).frozen? ⟨F + 1, 0, none⟩ = false := frozen_of_row w8 (F + 1) 0 _ _ hD5
                  have f1 : (w8).frozen? ⟨F + 1, 1, none⟩ = false := frozen_of_row w8 (F + 1) 1 _ _ hD5
                  have f2 : (w8).frozen? ⟨F + 1, 2, none⟩ = false := frozen_of_row w8 (F + 1) 2 _ _ hD5
                  have f3 : (w8).frozen? ⟨F + 1, 3, none⟩ = false := frozen_of_row w8 (F + 1) 3 _ _ hD5
                  clear hD5
                  go_wp2_with fail
                  refine bodyPost_ret (v := .tuple #[.agg #[.int .i64 0, .slice none 0 0, .int .i64 0, .slice none 0 0], .int .i64 15]) (by simp [results, Try.results26, go_sem, d0, d1, d2, d3]) rfl ⟨?bz, ?h1⟩
                  case bz =>
                    have h := HAw1.out.trans (HX8.out.mono HAw1.out.size)
                    exact (((h.setCell (by show w.heap.size ≤ F + 1; omega) _).setCell (by show w.heap.size ≤ F + 1; omega) _).setCell (by show w.heap.size ≤ F + 1; omega) _).setCell (by show w.heap.size ≤ F + 1; omega) _
                  case h1 => exact .inr ⟨HEC0.out, S, HPM.out, HAS.out, .inl ⟨by rw [← HEH.out]; exact HF8.out (by trivial), rfl⟩⟩
                · go_wp2_with fail
                  go_roundw
                  case rel => exact ⟨i + 1, ls8, vs8, hlt, by go_num, HPI8.out, HT8.out (by trivial), HGB8.out, HVQ8.out⟩
                  case measure => simp [intOf]; omega
              -- B}
            · have hie : i = hs.length := by omega
              have HST2 : Hid (Stt hs (fun _ => slots) (upto hs.length) ls) := (show Hid _ from by rw [← hie]; exact HST.out)
              have HLX : Hid (Lex hs (fun _ => slots) []) := (show Hid _ from Lex.nil (by obtain ⟨o, ha, _⟩ := HST2.out.asg; exact ⟨o, ha⟩))
              have HSLC : Hid (SLD (fun k => w7.heap.size ≤ k ∧ k < wB.heap.size) wr (.slice Ah hs.length ch) hs) := (show Hid _ from HSLD.out.keep (fun p hp => World.cell?_of_block (HGB.out.block _ hp.2 (by simp; omega))))
              clear hie
              obtain ⟨wC, rfl⟩ : ∃ wC : World, wC = wr := ⟨_, rfl⟩
              go_wp2_with fail
              go_loopw [113] (fun iv wr => K4 G B slots hs (.slice Ah hs.length ch) Pb wC iv wr) (fun iv _ => hs.length - (intOf iv).toNat)
              case atStart => exact ⟨G, B, 0, ls, vb, [], Nat.zero_le _, rfl, HPI.out, HST2.out, fun j h => by simp at h, HLX.out, grownBy_refl _ _⟩
              case round =>
                obtain ⟨GI, cg, Fx, ls2, vb2, out, hi2, rfl, hpi2, hst2, hset2, hlex2, hgc⟩ := hrel
                have HPI2 := Lib.hid hpi2
                have HSTT := Lib.hid hst2
                have HSET := Lib.hid hset2
                have HLEX := Lib.hid hlex2
                have HGC := Lib.hid hgc
                have hzc := hgc.size
                clear hpi2 hst2 hset2 hlex2 hgc
                have HXc : Hid (Below w1.heap.size w1 wr) := (show Hid _ from HXq.out.grown HGC.out HXq.out.size (fun k hk => by injection hk with hk; have := HX5.out.size; omega))
                by_cases hlt2 : out.length < hs.length
                · skip
                  -- {C
                  have HSLr : Hid (SLD (fun k => w7.heap.size ≤ k ∧ k < wB.heap.size) wr (.slice Ah hs.length ch) hs) := (show Hid _ from HSLC.out.keep (fun p hp => World.cell?_of_block (HGC.out.block _ (by omega) (by simp; omega))))
                  obtain ⟨bh, oh, Ar, cr, eA, hbh, hco, hrb⟩ := HSLr.out.row out.length hlt2
                  subst eA
                  obtain ⟨row, erow⟩ : ∃ r, r = hs[out.length] := ⟨_, rfl⟩
                  rw [← erow] at hco hrb
                  have HRB := Lib.hid hrb
                  have HER := Lib.hid erow
                  have HROW : Hid (∀ x ∈ row, 0 ≤ x ∧ x < (B : Int)) := (show Hid _ from by rw [erow]; exact HBD.out _ (List.getElem_mem hlt2))
                  have hrl : row.length ≤ 9223372036854775807 := by
                    obtain ⟨_, _, _, _, _, _⟩ := hrb
                    omega
                  obtain ⟨p0, p1, p2, p3⟩ := HPI2.out.cells
                  have y0 : 0 ≤ (out.length : Int) := by omega
                  have y1 : (out.length : Int) < (hs.length : Int) := by omega
                  have wo : IntKind.i64.wrap ((out.length : Int) + 1) = (out.length : Int) + 1 := by exact IntWalk.i64_in _ (by omega)
                  clear hrb erow
                  go_wp2_with fail
                  clear p0 p1 p2 p3 hco
                  obtain ⟨wD, rfl⟩ : ∃ wD : World, wD = wr := ⟨_, rfl⟩
                  go_loopw [124] (fun iv wq => K5 G B slots hs (.slice (some ⟨bh, oh, none⟩) hs.length ch) Pb wC out row iv wq) (fun iv _ => row.length - (intOf iv).toNat)
                  case atStart => exact ⟨0, GI, cg, Fx, ls2, vb2, Nat.zero_le _, rfl, HPI2.out, HSTT.out, HSET.out, HGC.out, fun x hx => by simp at hx⟩
                  case round =>
                    obtain ⟨k, GI3, cg3, F3, ls3, vb3, hk, rfl, hpi3, hst3, hset3, hgc3, hno3⟩ := hrel
                    have HPI3 := Lib.hid hpi3
                    have HST3 := Lib.hid hst3
                    have HSET3 := Lib.hid hset3
                    have HGC3 := Lib.hid hgc3
                    have HNO3 := Lib.hid hno3
                    have hzc3 := hgc3.size
                    clear hpi3 hst3 hset3 hgc3 hno3
                    by_cases hkt : k < row.length
                    · obtain ⟨_, _, e, _, _, ha⟩ := HRB.out
                      injection e with e1 e2 e3
                      subst e1 e3
                      obtain ⟨b, off, rfl, hb, hcell⟩ := ha (by omega)
                      have c0 : wr.cell? ⟨b, off + k, none⟩ = some (.int .i64 row[k]) := ((World.cell?_of_block (a := ⟨b, off + k, none⟩) (HGC3.out.block b (by omega) (by simp; omega))).trans (World.cell?_of_block (a := ⟨b, off + k, none⟩) (HGC.out.block b (by omega) (by simp; omega))).symm).trans (hcell k hkt)
                      have hx := HROW.out row[k] (List.getElem_mem hkt)
                      obtain ⟨x, ex⟩ : ∃ x, x = row[k] := ⟨_, rfl⟩
                      rw [← ex] at c0 hx
                      obtain ⟨bn, rfl⟩ : ∃ bn : Nat, x = bn := ⟨x.toNat, by omega⟩
                      have hbn : bn < B := by omega
                      have HBN : Hid (row[k] = (bn : Int)) := (show Hid _ from ex.symm)
                      have wk : IntKind.i64.wrap ((k : Int) + 1) = (k : Int) + 1 := by exact IntWalk.i64_in _ (by omega)
                      have z0 : 0 ≤ (k : Int) := by omega
                      have z1 : (k : Int) < (row.length : Int) := by omega
                      have HSL3 : Hid (SLD (fun k => w7.heap.size ≤ k ∧ k < wB.heap.size) wr (.slice (some ⟨bh, oh, none⟩) hs.length ch) hs) := (show Hid _ from HSLC.out.keep (fun p hp => World.cell?_of_block (HGC3.out.block _ (by omega) (by simp; omega))))
                      have HC : Hid (Calls Try.prog 54 #[.pointer (some ⟨Pb, 0, none⟩), .int .i64 out.length, .int .i64 bn] wr (SeR G Pb hs.length B slots F3 (.slice (some ⟨bh, oh, none⟩) hs.length ch) hs out.length bn ls3 wr)) := (show Hid _ from
                        settle_any G Pb GI3 wr.heap.size hs.length B slots F3 cg3 (fun k => w7.heap.size ≤ k ∧ k < wB.heap.size) _ hs ls3 vb3 wr out.length bn HPI3.out HBD.out rfl (by omega) hBm hs2 HSL3.out (fun k hk => by omega) HST3.out hlt2 hbn (by rw [hf_at hlt2, ← HER.out, ← HBN.out]; exact List.getElem_mem hkt))
                      clear ha hcell ex hx
                      go_wp2_with fail
                      (with_reducible refine HC.out.mono ?_)
                      rintro e w8 ⟨r, GI8, cg8, ls8, vs8, rfl, hpi8, hg8, ht8, hf8⟩
                      have HPI8 := Lib.hid hpi8
                      have HG8 := Lib.hid hg8
                      have HT8 := Lib.hid ht8
                      have HF8 := Lib.hid hf8
                      clear hpi8 hg8 ht8 hf8
                      cases r
                      · obtain ⟨rfl, hno8⟩ := HF8.out rfl
                        have HNO8 : Hid (∀ x ∈ row.take (k + 1), ¬ Ext hs (fun _ => slots) (out ++ [x])) := (show Hid _ from fun x hx => by
                          rw [List.take_succ_eq_append_getElem hkt, List.mem_append, List.mem_singleton] at hx
                          rcases hx with hx | hx
                          · exact HNO3.out x hx
                          · rw [hx, HBN.out]; exact Set.not_ext HST3.out HSET3.out hno8)
                        clear hno8
                        go_wp2_with fail
                        go_roundw
                        case rel => exact ⟨k + 1, GI8, cg8, F3, _, vs8, hkt, by go_num, HPI8.out, HST3.out, HSET3.out, grownBy_trans HGC3.out HG8.out, HNO8.out⟩
                        case measure => simp [intOf]; omega
                      · have HST8 := Lib.hid (HT8.out rfl)
                        have HS8 : Hid (Set ls8 (out ++ [(bn : Int)])) := (show Hid _ from HSET3.out.snoc HST8.out)
                        have HL8 : Hid (Lex hs (fun _ => slots) (out ++ [(bn : Int)])) := (show Hid _ from by
                          have hk2 : k < hs[out.length].length := by rw [← HER.out]; exact hkt
                          have hb2 : hs[out.length][k] = (bn : Int) := (List.getElem_of_eq HER.out hkt).symm.trans HBN.out
                          have h := HLEX.out.snoc hlt2 hk2 (by rw [hb2]; exact Set.ext HST8.out.1 (by simp; omega) HS8.out) (by rw [← HER.out]; exact HNO3.out)
                          rwa [hb2] at h)
                        obtain ⟨q0, q1, q2, q3⟩ := HPI8.out.cells
                        have f3 := frozen_of_row w8 Pb 3 _ _ HPI8.out.blk
                        go_wp2_with fail
                        go_roundw
                        case rel =>
                          have hsz : ∀ u, (w8.setCell ⟨Pb, 3, none⟩ u).heap.size = w8.heap.size := fun u => by simp
                          exact ⟨GI8, cg8, out.length + 1, ls8, vs8, out ++ [(bn : Int)], by simp; omega, by simp, by rw [hsz]; exact HPI8.out.setF (out.length + 1), HST8.out.1, HS8.out, HL8.out, grownBy_setCell (grownBy_trans HGC3.out HG8.out) (.inl rfl) _⟩
                        case measure => simp [intOf]; omega
                    · exact (HLEX.out.all hlt2 (fun x hx => HNO3.out x (by rw [show k = row.length by omega, List.take_length, HER.out]; exact hx))).elim
                  -- C}
                · have hol : out.length = hs.length := by omega
                  have HLF : Hid (LexF hs (fun _ => slots) out) := (show Hid _ from HLEX.out.full hol)
                  have HOL := Lib.hid hol
                  clear hol
                  obtain ⟨x0, x1, _⟩ := HX.out wr HXc.out
                  have HY : Hid (Below w5.heap.size w5 wr) := (show Hid _ from ((HB7.out.grown HGR7.out HB7.out.size (fun k hk => by injection hk with hk; omega)).grown HGB.out (by have := HB7.out.size; omega) (fun k hk => by injection hk with hk; omega)).grown HGC.out (by have := HB7.out.size; omega) (fun k hk => by injection hk with hk; omega))
                  have hlps1 : 0 < ps.length := by have := hV.out.l1; omega
                  have hlps2 : ps.length ≤ 1000000 := by have := hV.out.l2; omega
                  obtain ⟨DD, eD⟩ : ∃ D, D = wr.heap.size := ⟨_, rfl⟩
                  obtain ⟨wE, ewE⟩ : ∃ w : World, w = wr.alloc (.cells #[.int .i64 B, .slice Ap ps.length cp, .int .i64 slots, .slice none 0 0] 28) := ⟨_, rfl⟩
                  have hzE : wE.heap.size = DD + 1 := by rw [ewE, eD]; simp
                  have HDE : Hid (wE.heap[DD]? = some (.cells #[.int .i64 B, .slice Ap ps.length cp, .int .i64 slots, .slice none 0 0] 28 (0, 0))) := (show Hid _ from by rw [ewE, eD]; exact heap_alloc_new wr _)
                  have HPIE : Hid (PI G Pb GI DD hs.length B slots Fx (.slice Ah hs.length ch) cg ls2 vb2 wE) := (show Hid _ from by rw [ewE, eD]; exact HPI2.out.alloc _)
                  have HXE : Hid (Below w1.heap.size w1 wE) := (show Hid _ from by rw [ewE]; exact HXc.out.alloc HXc.out.size _)
                  have HYE : Hid (Below w5.heap.size w5 wE) := (show Hid _ from by rw [ewE]; exact HY.out.alloc HY.out.size _)
                  have HSGE : Hid (SG pcs 2 wE.heap.size wE (.slice Ap ps.length cp) ps) := (show Hid _ from (HPS.out.below (HAw1.out.trans (HXE.out.mono HAw1.out.size))).more (by have := HAw1.out.size; have := HXE.out.size; omega))
                  have HEWE := Lib.hid ewE
                  have HED := Lib.hid eD
                  have hDG : w5.heap.size ≤ DD := by rw [eD]; exact HY.out.size
                  have hGID : GI < DD := by rw [eD]; exact heap_of_cells HPI2.out.inn.hdr
                  have HVD : Hid (∀ q, inV vb2 q → q < DD) := (show Hid _ from fun q hq => by rw [eD]; exact HPI2.out.lt hq)
                  clear eD ewE
                  go_upto_region 41 with fail
                  rw [← HED.out, ← HEWE.out]
                  clear x0 x1
                  obtain ⟨x0, x1, _⟩ := HX.out wE HXE.out
                  go_wp2_with fail
                  (with_reducible refine (cloneS_any ps _ wE HSGE.out hlps1 hlps2).mono ?_)
                  rintro e wf ⟨v5, rfl, ho5, hb5⟩
                  obtain ⟨A5, c5, rfl⟩ := own_sl ho5
                  have HDf : Hid (wf.heap[DD]? = some (.cells #[.int .i64 B, .slice Ap ps.length cp, .int .i64 slots, .slice none 0 0] 28 (0, 0))) := (show Hid _ from (hb5.block DD (by omega)).trans HDE.out)
                  have c1 := cell_of_row wf DD 1 _ _ _ HDf.out
                  have f1 := frozen_of_row wf DD 1 _ _ HDf.out
                  obtain ⟨wF, ewF⟩ : ∃ w : World, w = wf.setCell ⟨DD, 1, none⟩ (.slice A5 ps.length c5) := ⟨_, rfl⟩
                  have HEWF := Lib.hid ewF
                  have hdF : (wf.setCell ⟨DD, 1, none⟩ (.slice A5 ps.length c5)).heap[DD]? = some (.cells #[.int .i64 B, .slice A5 ps.length c5, .int .i64 slots, .slice none 0 0] 28 (0, 0)) := by
                    have h := heap_setCell_same wf DD 1 _ _ (.slice A5 ps.length c5) HDf.out
                    simpa using h
                  have HDF : Hid (wF.heap[DD]? = some (.cells #[.int .i64 B, .slice A5 ps.length c5, .int .i64 slots, .slice none 0 0] 28 (0, 0))) := (show Hid _ from by rw [ewF]; exact hdF)
                  have hgF : wf.grownBy wF (some DD) := by rw [ewF]; exact grownBy_setCell (g := DD) (p := ⟨DD, 1, none⟩) (grownBy_refl _ _) (.inl rfl) _
                  have HPIF : Hid (PI G Pb GI DD hs.length B slots Fx (.slice Ah hs.length ch) cg ls2 vb2 wF) := (show Hid _ from (HPIE.out.on hb5).same hgF (by omega))
                  have HVF : Hid (wF.ownsRow wE.heap.size 69 2 (.slice A5 ps.length c5) ps.length (ps.flatMap hcs)) := (show Hid _ from ho5.kept hgF (.inr (fun e => by have := (ho5.lt _ e).1; omega)))
                  have HXF : Hid (Below w1.heap.size w1 wF) := (show Hid _ from (HXE.out.trans (hb5.mono HXE.out.size)).grown hgF (by have := HXE.out.size; have := hb5.size; omega) (fun k hk => by injection hk with hk; have := HX5.out.size; omega))
                  have HYF : Hid (Below w5.heap.size w5 wF) := (show Hid _ from (HYE.out.trans (hb5.mono HYE.out.size)).grown hgF (by have := HYE.out.size; have := hb5.size; omega) (fun k hk => by injection hk with hk; omega))
                  have hzF : DD < wF.heap.size := heap_of_cells HDF.out
                  have hzEF : wE.heap.size ≤ wF.heap.size := Nat.le_trans hb5.size hgF.size
                  have hvF : ∀ k, (Value.slice A5 ps.length c5).ownBlock = some k → k < wF.heap.size := fun k hk => (HVF.out.lt k hk).2
                  have HVLT := Lib.hid hvF
                  obtain ⟨p0, p1, p2, p3⟩ := HPIF.out.cells
                  clear ho5 hb5 ewF hgF hvF hdF x0 x1
                  go_upto_region 42 with fail
                  rw [← HEWF.out]
                  go_wp2_with fail
                  clear p0 p1 p2 p3 f1 c1
                  go_loopw [152] (fun iv wr => K6 G GI DD hs.length B slots ls2 vb2 S out (.slice A5 ps.length c5) wF iv wr) (fun iv _ => B - (intOf iv).toNat)
                  case atStart => exact ⟨0, ls2, _, [], Nat.zero_le _, rfl, HPIF.out.inn, fun _ _ => rfl, by rw [List.take_zero]; exact HE.nil _ _, HDF.out, FW.refl _ _ _ _⟩
                  case round =>
                    obtain ⟨b, ls, ev, vE, hb, rfl, hin, hbk, hhe, hdd, hfw⟩ := hrel
                    have HIN := Lib.hid hin
                    have HBK := Lib.hid hbk
                    have HHE := Lib.hid hhe
                    have HDD := Lib.hid hdd
                    have HFW := Lib.hid hfw
                    have hzr := hfw.size
                    obtain ⟨Ae, ce, rfl⟩ := own_sl hhe.1
                    clear hin hbk hhe hdd hfw
                    by_cases hbt : b < B
                    · skip
                      -- {D
                      have hlv := HIN.out.lv
                      have hll := HIN.out.ll
                      have hbv : b < vb2.length := by omega
                      have hbl : b < ls.length := by omega
                      have hrow := HIN.out.row b hbv hbl
                      obtain ⟨lb, elb⟩ : ∃ l, l = ls[b] := ⟨_, rfl⟩
                      obtain ⟨Ab, cb, eb⟩ := own_sl hrow
                      obtain ⟨g0, g1⟩ := HIN.out.cells hbv
                      have hits := HIN.out.its _ (List.getElem_mem hbl)
                      rw [← elb] at eb hrow hits
                      rw [eb] at g0 hrow
                      have HROW := Lib.hid hrow
                      have HEB := Lib.hid eb
                      have HELB := Lib.hid elb
                      have HITS := Lib.hid hits.1
                      have hl8 : lb.length ≤ 8 := hits.2
                      have z0 : 0 ≤ (b : Int) := by omega
                      have z1 : (b : Int) < (B : Int) := by omega
                      have wb : IntKind.i64.wrap ((b : Int) + 1) = (b : Int) + 1 := by exact IntWalk.i64_in _ (by omega)
                      clear hrow eb elb hits g1
                      go_wp2_with fail
                      (with_reducible refine (sort_own lb _ wr (by omega) HROW.out).mono ?_)
                      rintro e wG ⟨rfl, hoG, hgG⟩
                      obtain ⟨l, el⟩ : ∃ l, l = lb.mergeSort fun x y => decide (x ≤ y) := ⟨_, rfl⟩
                      rw [← el] at hoG
                      have HEL := Lib.hid el
                      have hpl : l.Perm lb := by rw [el]; exact List.mergeSort_perm _ _
                      have hll2 : lb.length = l.length := hpl.length_eq.symm
                      have HIT2 : Hid (∀ x ∈ l, 0 ≤ x ∧ x < (hs.length : Int)) := (show Hid _ from fun x hx => HITS.out x (hpl.mem_iff.1 hx))
                      rw [hll2] at hoG hgG HEB
                      have HOG := Lib.hid hoG
                      have HING : Hid (IN G GI DD hs.length B (ls.set b l) vb2 wG) := (show Hid _ from HIN.out.sorted hbv hbl (by rw [← HELB.out]; exact hpl) (by rw [HEB.out]; exact hgG) (by rw [HEB.out]; exact hoG))
                      have HFWG : Hid (FW DD GI vb2 wF vb2 wG) := (show Hid _ from HFW.out.stepO hbv (by rw [HEB.out]; exact hgG))
                      have hrb : ∀ k, (Value.slice Ab l.length cb).ownBlock = some k → k < DD := fun k hk => HVD.out k ⟨b, hbv, by rw [HEB.out]; exact hk⟩
                      have HHEG : Hid (HE wF.heap.size wG (.slice Ae vE.length ce) vE ((dist S out B).take b)) := (show Hid _ from HHE.out.keptO hgG (fun k hk => by have := hrb k hk; omega))
                      have HDDG : Hid (wG.heap[DD]? = some (.cells #[.int .i64 B, .slice A5 ps.length c5, .int .i64 slots, .slice Ae vE.length ce] 28 (0, 0))) := (show Hid _ from (hgG.block DD (heap_of_cells HDD.out) (fun e => by have := hrb DD e.symm; omega)).trans HDD.out)
                      have hzG : wF.heap.size ≤ wG.heap.size := HFWG.out.size
                      have HYG : Hid (Below w5.heap.size w5 wG) := (show Hid _ from HYF.out.trans (HFWG.out.below HYF.out.size (by omega) (by have := HING.out.gi; omega) (fun q ⟨c, h1, h2⟩ => by have := (HING.out.lt h1 h2).1; omega)))
                      have HPL := Lib.hid hpl
                      have HLL := Lib.hid hll2
                      have hl9 : l.length ≤ 8 := by omega
                      clear hoG hgG el hpl hrb g0
                      rw [hll2]
                      clear hll2
                      go_wp2_with fail
                      go_loopw [21, 160] (fun lv iv wq => K7 S l wG lv iv wq) (fun _ iv _ => l.length - (intOf iv).toNat)
                      case atStart => exact ⟨0, [], Nat.zero_le _, rfl, by simp, World.ownsRow_nil _ _ _ _, Below.refl _ _⟩
                      case round =>
                        obtain ⟨k, q, hk, rfl, hq, hoq, hbq⟩ := hrel
                        obtain ⟨Aq, cq, rfl⟩ := own_sl hoq
                        have HQ := Lib.hid hq
                        have HOQ := Lib.hid hoq
                        have HBQ := Lib.hid hbq
                        have hzq := hbq.size
                        have hql : q.length = k := by rw [hq]; simp; omega
                        have HQL := Lib.hid hql
                        have HYQ : Hid (Below w5.heap.size w5 wr) := (show Hid _ from HYG.out.trans (hbq.mono HYG.out.size))
                        clear hq hoq hbq
                        by_cases hkt : k < l.length
                        · skip
                          -- {E
                          have hxk := HIT2.out _ (List.getElem_mem hkt)
                          have hS0 : hs.length = S.length := HHL.out
                          obtain ⟨gq, cap, e5, _, _⟩ := own_form HOG.out (by omega)
                          injection e5 with e6 e7 e8
                          subst e6
                          have d0 : wr.cell? ⟨gq, k, none⟩ = some (.int .i64 l[k]) := (HBQ.out.cell (p := ⟨gq, k, none⟩) (HOG.out.lt gq rfl).2).trans (own_int HOG.out k hkt)
                          obtain ⟨x, ex⟩ : ∃ x, x = l[k] := ⟨_, rfl⟩
                          rw [← ex] at d0 hxk
                          obtain ⟨xn, rfl⟩ : ∃ xn : Nat, x = xn := ⟨x.toNat, by omega⟩
                          have hxS : xn < S.length := by omega
                          obtain ⟨gS, capS, e, hg1, hg2⟩ := own_form HO5.out (by omega)
                          injection e with e9 e10 e11
                          subst e9
                          obtain ⟨c0, c1⟩ := ecs_at HO5.out xn hxS
                          have hgS : gS < w5.heap.size := (HO5.out.lt gS rfl).2
                          obtain ⟨key, ekey⟩ : ∃ key, key = S[xn].1 := ⟨_, rfl⟩
                          obtain ⟨y, ey⟩ : ∃ y, y = S[xn].2 := ⟨_, rfl⟩
                          rw [← ekey] at c0
                          rw [← ey] at c1
                          have k0 := (HYQ.out.cell (p := ⟨gS, xn * 2, none⟩) hgS).trans c0
                          have k1 := (HYQ.out.cell (p := ⟨gS, xn * 2 + 1, none⟩) hgS).trans c1
                          have hnx : q ++ [(key, y)] = (l.take (k + 1)).map fun x => S.getD x.toNat (⟨#[]⟩, 0) := by
                            rw [List.take_succ_eq_append_getElem hkt, List.map_append, ← HQ.out, List.map_singleton, ← ex, Int.toNat_natCast]
                            simp [hxS, ekey, ey]
                          have HNX := Lib.hid hnx
                          have zk0 : 0 ≤ (k : Int) := by omega
                          have zk1 : (k : Int) < (l.length : Int) := by omega
                          have zx0 : 0 ≤ (xn : Int) := by omega
                          have zx1 : (xn : Int) < (hs.length : Int) := by omega
                          have wk : IntKind.i64.wrap ((k : Int) + 1) = (k : Int) + 1 := by exact IntWalk.i64_in _ (by omega)
                          have hq7 : q.length + 1 ≤ 1000000 := by omega
                          clear hnx c0 c1 ekey ey ex e7 e8 e10 e11 hS0 hql
                          go_wp2_with (at_builtin; refine wpList_append_el_at ecs _ rfl _ _ 29 rfl wG.heap.size 41 _ 2 24 Try.underlying29 einfo rfl (by omega) (by omega) _ q (by rfl) (by exact HOQ.out) (key, y) rfl (ecs_one _) (by rfl) ?c1 ?c2 ?_)
                          case c1 => exact hq7
                          case c2 => exact hzq
                          intro g7 cap7 w7' ho7 hg7 hat7
                          have HO7' := Lib.hid ho7
                          have HB7' : Hid (Below wG.heap.size wG w7') := (show Hid _ from (HBQ.out.alloc hzq _).grown hg7 (by simp; omega) (fun k hk => (HOQ.out.lt k hk).1))
                          clear ho7 hg7 hat7
                          go_wp2_with fail
                          go_roundw
                          case rel => exact ⟨k + 1, q ++ [(key, y)], hkt, by go_num, HNX.out, by simpa using HO7'.out, HB7'.out⟩
                          case measure => simp [intOf]; omega
                          -- E}
                        · have hke : k = l.length := by omega
                          have HQE : Hid (q = (dist S out B)[b]'(by rw [dist_len]; exact hbt)) := (show Hid _ from by
                            rw [HQ.out, hke, List.take_length, HEL.out, HELB.out, ← bk_eq hbl, HBK.out b (Nat.le_refl _)]
                            exact bucket_dist HSTT.out HHL.out.symm HOL.out HSET.out _ _)
                          have HINr : Hid (IN G GI DD hs.length B (ls.set b l) vb2 wr) := (show Hid _ from HING.out.on HBQ.out)
                          have HFWr : Hid (FW DD GI vb2 wF vb2 wr) := (show Hid _ from HFWG.out.on HBQ.out)
                          have HHEr : Hid (HE wF.heap.size wr (.slice Ae vE.length ce) vE ((dist S out B).take b)) := (show Hid _ from HHEG.out.on HBQ.out)
                          have HDDr : Hid (wr.heap[DD]? = some (.cells #[.int .i64 B, .slice A5 ps.length c5, .int .i64 slots, .slice Ae vE.length ce] 28 (0, 0))) := (show Hid _ from (HBQ.out.block DD (heap_of_cells HDDG.out)).trans HDDG.out)
                          have hvE : vE.length = b := by have h := HHEr.out.2.1; rw [List.length_take, dist_len] at h; omega
                          have k3 := cell_of_row wr DD 3 _ _ _ HDDr.out
                          have hE7 : vE.length + 1 ≤ 1000000 := by omega
                          have hzFr : wF.heap.size ≤ wr.heap.size := HFWr.out.size
                          have HDr : Hid (DD < wr.heap.size) := heap_of_cells HDDr.out
                          have hzFq : wF.heap.size ≤ wG.heap.size := hzG
                          clear hke hvE hql
                          go_wp2_with (at_builtin; refine wpList_append_el_at one wr rfl _ _ 26 rfl wF.heap.size 29 _ 1 24 Try.underlying26 elinfo rfl (by omega) (by omega) (.slice Ae vE.length ce) vE (by rfl) (by exact HHEr.out.1) (.slice Aq q.length cq) rfl (by intro u hu; simp [one] at hu; subst hu; rfl) (by rfl) ?c1 ?c2 ?_)
                          case c1 => exact hE7
                          case c2 => exact hzFr
                          intro g9 cap9 w9 ho9 hg9 hat9
                          have HG9 := Lib.hid hg9
                          have hevb : ∀ k, (Value.slice Ae vE.length ce).ownBlock = some k → wF.heap.size ≤ k := fun k hk => (HHEr.out.1.lt k hk).1
                          have HDD9 : Hid (w9.heap[DD]? = some (.cells #[.int .i64 B, .slice A5 ps.length c5, .int .i64 slots, .slice Ae vE.length ce] 28 (0, 0))) := (show Hid _ from (hg9.block DD (by have := HDr.out; simp; omega) (fun e => by have := hevb DD e.symm; omega)).trans ((Below.heap_alloc _ _ _ HDr.out).trans HDDr.out))
                          have HHE9 : Hid (HE wF.heap.size w9 (.slice (some ⟨g9, 0, none⟩) (vE.length + 1) cap9) (vE ++ [Value.slice Aq q.length cq]) ((dist S out B).take (b + 1))) := (show Hid _ from by
                            have h := HE.app (cap := cap9) HHEr.out HOQ.out (fun k hk => (HHEG.out.1.lt k hk).2) hzFq hg9 hat9 (by simpa using ho9)
                            have e1 : (vE ++ [Value.slice Aq q.length cq]).length = vE.length + 1 := by simp
                            rw [e1] at h
                            rw [List.take_succ_eq_append_getElem (by rw [dist_len]; exact hbt), ← HQE.out]
                            exact h)
                          have HFW9 : Hid (FW DD GI vb2 wF vb2 w9) := (show Hid _ from (HFWr.out.on ((Below.refl _ _).alloc (Nat.le_refl _) _)).grown hg9 hevb)
                          have HIN9 : Hid (IN G GI DD hs.length B (ls.set b l) vb2 w9) := (show Hid _ from (HINr.out.on ((Below.refl _ _).alloc (Nat.le_refl _) _)).grown hg9 (fun k hk => ⟨by have := hevb k hk; omega, fun e => by have := hevb k hk; have := HVD.out k e; omega⟩))
                          have q3 := cell_of_row w9 DD 3 _ _ _ HDD9.out
                          have f3 := frozen_of_row w9 DD 3 _ _ HDD9.out
                          clear ho9 hg9 hat9 hevb k3
                          go_wp2_with fail
                          go_roundw
                          case rel =>
                            have hm : ∀ u, w9.grownBy (w9.setCell ⟨DD, 3, none⟩ u) (some DD) := fun u => grownBy_setCell (g := DD) (p := ⟨DD, 3, none⟩) (grownBy_refl _ _) (.inl rfl) _
                            refine ⟨b + 1, ls.set b l, _, vE ++ [Value.slice Aq q.length cq], hbt, by go_num, HIN9.out.grown (hm _) (fun k hk => ?_), fun c hc => by rw [bk_set_ne (by omega)]; exact HBK.out c (by omega), HHE9.out.kept (hm _) hzF, ?_, HFW9.out.step (hm _) (.inl rfl)⟩
                            · injection hk with hk
                              subst hk
                              exact ⟨by omega, fun e => by have := HVD.out _ e; omega⟩
                            · have h := heap_setCell_same w9 DD 3 _ _ (.slice (some ⟨g9, 0, none⟩) (vE.length + 1) cap9) HDD9.out
                              simpa using h
                          case measure => simp [intOf]; omega
                      -- D}
                    · have hbe : b = B := by omega
                      have HTK : Hid ((dist S out B).take b = dist S out B) := (show Hid _ from by rw [hbe, List.take_of_length_le (by rw [dist_len]; exact Nat.le_refl _)]; exact rfl)
                      have HXQ : Hid (Below w1.heap.size w1 wr) := (show Hid _ from HXF.out.trans (HFW.out.below HXF.out.size (by have := HX5.out.size; omega) (by have := HIN.out.gi; have := HX5.out.size; omega) (fun q ⟨c, h1, h2⟩ => by have := (HIN.out.lt h1 h2).1; have := HX5.out.size; omega)))
                      have r0 := cell_of_row wr DD 0 _ _ _ HDD.out
                      have r1 := cell_of_row wr DD 1 _ _ _ HDD.out
                      have r2 := cell_of_row wr DD 2 _ _ _ HDD.out
                      have r3 := cell_of_row wr DD 3 _ _ _ HDD.out
                      have hFD : F + 1 < DD := by have := HX5.out.size; omega
                      have hwF : w.heap.size ≤ wF.heap.size := by have := HX5.out.size; have := HAw1.out.size; omega
                      have hwE : w.heap.size ≤ wE.heap.size := by have := HX5.out.size; have := HAw1.out.size; omega
                      have hEF : DD < wE.heap.size := by omega
                      clear hbe
                      obtain ⟨x0, x1, d0, d1, d2, d3⟩ := HX.out wr HXQ.out
                      have hD5 : (wr).heap[F + 1]? = some (.cells #[.int .i64 0, .slice none 0 0, .int .i64 0, .slice none 0 0] 28 (0, 0)) := (HXQ.out.block (F + 1) hF1).trans HF1w1.out
                      have f0 : (wr).frozen? ⟨F + 1, 0, none⟩ = false := frozen_of_row wr (F + 1) 0 _ _ hD5
                      have f1 : (wr).frozen? ⟨F + 1, 1, none⟩ = false := frozen_of_row wr (F + 1) 1 _ _ hD5
                      have f2 : (wr).frozen? ⟨F + 1, 2, none⟩ = false := frozen_of_row wr (F + 1) 2 _ _ hD5
                      have f3 : (wr).frozen? ⟨F + 1, 3, none⟩ = false := frozen_of_row wr (F + 1) 3 _ _ hD5
                      clear hD5
                      go_wp2_with fail
                      refine bodyPost_ret (v := .tuple #[.agg #[.int .i64 B, .slice A5 ps.length c5, .int .i64 slots, .slice Ae vE.length ce], .int .i64 0]) (by simp [results, Try.results26, go_sem, d0, d1, d2, d3]) rfl ⟨?bz, .inr ⟨HEC0.out, S, HPM.out, HAS.out, .inr ⟨out, _, _, by rw [← HEH.out]; exact HLF.out, rfl, ?ow, ?sl⟩⟩⟩
                      case bz =>
                        have h := HAw1.out.trans (HXQ.out.mono HAw1.out.size)
                        exact (((h.setCell (by show w.heap.size ≤ F + 1; omega) _).setCell (by show w.heap.size ≤ F + 1; omega) _).setCell (by show w.heap.size ≤ F + 1; omega) _).setCell (by show w.heap.size ≤ F + 1; omega) _
                      case ow =>
                        refine own_lo (own_blk HVF.out (fun k hk => ?_)) hwE
                        have h1 := (HVF.out.lt k hk).1
                        have h2 := HVLT.out k hk
                        rw [(grownF4 wr (F + 1) _ _ _ _).block k (by have := HFW.out.size; omega) (by simp; omega)]
                        exact HFW.out.block k h2 (by omega) (by omega) (fun e => by have := HVD.out k e; omega)
                      case sl =>
                        rw [← HTK.out]
                        exact ((HHE.out.kept (grownF4 wr (F + 1) _ _ _ _) (by omega)).low hwF).slo
end Go.Proofs.Ytllnomembakboaa

namespace Go.Proofs.Ytllnomembakboaa
open Go.RowKit

def notF (n : Int) : Value := .tuple #[.int .i64 0, .bool false, .int .i64 n]
/-- what Find answers in a valid directory -/
def findV (B : Nat) (ps : List (Int × Int)) (bs : List (List (ByteArray × Int))) (key : ByteArray) : Value :=
  if ky key = true then pickV (pickF key ((hms B ps (dg key)).map fun x => bs.getD x.toNat [])) else notF 1
def FiR (B : Nat) (ps : List (Int × Int)) (slots : Int) (bs : List (List (ByteArray × Int))) (key : ByteArray) (w : World) (e : Ending) (w' : World) : Prop :=
  Below w.heap.size w w' ∧ ((¬ DirOK B ps slots bs ∧ e = .returned (notF 2)) ∨ (DirOK B ps slots bs ∧ e = .returned (findV B ps bs key)))
def F1 (hl : List Int) (vs : List Value) (w4 : World) (ov iv : Value) (wr : World) : Prop :=
  ∃ (k : Nat) (q : List Value), k ≤ hl.length ∧ iv = .int .i64 (k : Nat) ∧ q = (hl.take k).map (fun x => vs.getD x.toNat (.slice none 0 0)) ∧ wr.ownsRow w4.heap.size 29 1 ov q.length (q.flatMap one) ∧ Below w4.heap.size w4 wr
set_option maxRecDepth 100000 in
set_option maxHeartbeats 4000000 in
theorem find_any (B : Nat) (ps : List (Int × Int)) (slots : Int) (bs : List (List (ByteArray × Int))) (pv ev : Value) (key : ByteArray) (w : World) (hv : HV B ps) (hp : SG pcs 2 w.heap.size w pv ps) (he : SLe w.heap.size w ev bs) (hk : ∀ l ∈ bs, ∀ e ∈ l, e.1.size ≤ 9223372036854775807) (hn : bs.flatten.length ≤ 1000000) (hks : key.size ≤ 9223372036854775807) :
    Calls Try.prog 18 #[.agg #[.int .i64 B, pv, .int .i64 slots, ev], .string key] w (FiR B ps slots bs key w) := by
  obtain ⟨Ap, cp, rfl⟩ : ∃ A c, pv = .slice A ps.length c := by obtain ⟨A, c, e, _⟩ := hp; exact ⟨A, c, e⟩
  have HSE := Lib.hid he
  obtain ⟨vs, hvl, hsv, hrows⟩ := he
  obtain ⟨Ae, ce, rfl⟩ := hsv.form
  have HSV := Lib.hid hsv
  have HROWS := Lib.hid hrows
  have HVL := Lib.hid hvl
  have HPS := Lib.hid hp
  have HV' := Lib.hid hv
  have HK := Lib.hid hk
  rw [hvl] at HSE
  rw [hvl]
  clear hsv hrows hvl hp hv hk
  go_enter Try.func18, Try.ntmps18
  obtain ⟨F, eF⟩ : ∃ F, F = w.heap.size := ⟨_, rfl⟩
  obtain ⟨w1, ew1⟩ : ∃ w1 : World, w1 = w.alloc (.cells #[.int .i64 B, .slice Ap ps.length cp, .int .i64 slots, .slice Ae bs.length ce] 28) := ⟨_, rfl⟩
  have HWw1 : Hid (w.alloc (.cells #[.int .i64 B, .slice Ap ps.length cp, .int .i64 slots, .slice Ae bs.length ce] 28) = w1) := ew1.symm
  have HAw1 : Hid (Below w.heap.size w w1) := (show Hid _ from by rw [ew1]; exact (Below.refl _ w).alloc (Nat.le_refl _) _)
  have HF0w1 : Hid (w1.heap[F]? = some (.cells #[.int .i64 B, .slice Ap ps.length cp, .int .i64 slots, .slice Ae bs.length ce] 28 (0, 0))) := (show Hid _ from by show _ = _; rw [ew1, eF]; exact heap_alloc_new w _)
  have HX : Hid (∀ W, Below w1.heap.size w1 W → W.cell? ⟨F, 0, none⟩ = some (.int .i64 B) ∧ W.cell? ⟨F, 1, none⟩ = some (.slice Ap ps.length cp) ∧ W.cell? ⟨F, 2, none⟩ = some (.int .i64 slots) ∧ W.cell? ⟨F, 3, none⟩ = some (.slice Ae bs.length ce)) := (show Hid _ from fun W hg => by
    have hF0 := (hg.block F (heap_of_cells HF0w1.out)).trans HF0w1.out
    exact ⟨cell_of_row W F 0 _ _ _ hF0, cell_of_row W F 1 _ _ _ hF0, cell_of_row W F 2 _ _ _ hF0, cell_of_row W F 3 _ _ _ hF0⟩)
  have hFw : w.heap.size ≤ F := by omega
  go_upto_region 1 with fail
  rw [HWw1.out, ← eF]
  clear ew1 eF
  have HPS1 := Lib.hid ((HPS.out.below HAw1.out).more HAw1.out.size)
  have HSE1 : Hid (SLe w1.heap.size w1 (.slice Ae bs.length ce) bs) := (show Hid _ from by
    obtain ⟨us, h1, h2, h3⟩ := HSE.out
    exact ⟨us, h1, (h2.below HAw1.out).more HAw1.out.size, fun j a b => ((h3 j a b).below HAw1.out).more HAw1.out.size⟩)
  obtain ⟨x0, x1, x2, x3⟩ := HX.out w1 (Below.refl _ _)
  go_wp2_with fail
  (with_reducible refine (kcheck_ok B ps slots bs _ _ w1 HV'.out HPS1.out HSE1.out HK.out hn).mono ?_)
  rintro e w2 ⟨r, rfl, hok, hb2⟩
  have HOK := Lib.hid hok
  have HX2 := Lib.hid hb2
  clear hok hb2 x0 x1 x2 x3
  have HBW : Hid (Below w.heap.size w w2) := (show Hid _ from HAw1.out.trans (HX2.out.mono HAw1.out.size))
  obtain ⟨x0, x1, x2, x3⟩ := HX.out w2 HX2.out
  cases r
  · have HNO : Hid (¬ DirOK B ps slots bs) := (show Hid _ from fun h => by have h1 := HOK.out.2 h; cases h1)
    go_wp2_with fail
    all_goals refine bodyPost_ret (v := notF 2) (by simp [notF, results, Try.results18, go_sem]) rfl ?_
    all_goals exact ⟨HBW.out, .inl ⟨HNO.out, rfl⟩⟩
  · have HDOK : Hid (DirOK B ps slots bs) := (show Hid _ from HOK.out.1 rfl)
    go_wp2_with fail
    (with_reducible refine (proper_any key w2 hks).mono ?_)
    rintro e w3 ⟨rfl, hw3⟩
    subst hw3
    cases hky : ky key
    · have HKY := Lib.hid hky
      have HNIL : Hid (SLe w2.heap.size w2 (.slice none 0 0) []) := (show Hid _ from ⟨[], rfl, SV.nil _ _, fun j h => by simp at h⟩)
      go_wp2_with fail
      (with_reducible refine (pick_any key [] _ w2 hks HNIL.out).mono ?_)
      rintro e w4 ⟨rfl, hb4⟩
      have HB4 := Lib.hid hb4
      rw [if_neg (by rw [HKY.out]; decide)]
      clear hb4 hky
      go_wp2_with fail
      all_goals refine bodyPost_ret (v := notF 1) (by simp [notF, results, Try.results18, go_sem]) rfl ?_
      all_goals exact ⟨HBW.out.trans (HB4.out.mono HBW.out.size), .inr ⟨HDOK.out, by unfold findV; rw [if_neg (by rw [HKY.out]; decide)]⟩⟩
    · have HKY := Lib.hid hky
      have hlen : bs.length = B := HDOK.out.len
      have HLEN := Lib.hid hlen
      have HSG2 : Hid (SG pcs 2 w2.heap.size w2 (.slice Ap ps.length cp) ps) := (show Hid _ from (HPS.out.below HBW.out).more HBW.out.size)
      clear hky hlen
      go_wp2_with fail
      (with_reducible refine (khomes_ok B ps key _ w2 HV'.out hks HSG2.out).mono ?_)
      rintro e w4 ⟨v8, rfl, ho8, hb8⟩
      obtain ⟨hl, ehl⟩ : ∃ l, l = hms B ps (dg key) := ⟨_, rfl⟩
      rw [← ehl] at ho8
      have HEL := Lib.hid ehl
      have hll : hl.length ≤ 4 := by rw [ehl, hms_len]; exact HV'.out.l2
      have HHB : Hid (∀ x ∈ hl, 0 ≤ x ∧ x < (B : Int)) := (show Hid _ from by rw [ehl]; exact fun x hx => hms_bd HV'.out.b1 hx)
      obtain ⟨A8, c8, rfl⟩ := own_sl ho8
      have HO8 := Lib.hid ho8
      have HB8 := Lib.hid hb8
      have HX4 : Hid (Below w1.heap.size w1 w4) := (show Hid _ from HX2.out.trans (hb8.mono HX2.out.size))
      have HW4 : Hid (Below w.heap.size w w4) := (show Hid _ from HBW.out.trans (hb8.mono HBW.out.size))
      clear ho8 hb8 ehl
      go_wp2_with fail
      clear x0 x1 x2 x3
      go_loopw [8, 23] (fun ov iv wr => F1 hl vs w4 ov iv wr) (fun _ iv _ => hl.length - (intOf iv).toNat)
      case atStart => exact ⟨0, [], Nat.zero_le _, rfl, by simp, World.ownsRow_nil _ _ _ _, Below.refl _ _⟩
      case round =>
        obtain ⟨k, q, hk, rfl, hq, hoq, hbq⟩ := hrel
        obtain ⟨Aq, cq, rfl⟩ := own_sl hoq
        have HQ := Lib.hid hq
        have HOQ := Lib.hid hoq
        have HBQ := Lib.hid hbq
        have hzq := hbq.size
        have hql : q.length = k := by rw [hq, List.length_map, List.length_take]; omega
        have HQL := Lib.hid hql
        have HXq : Hid (Below w1.heap.size w1 wr) := (show Hid _ from HX4.out.trans (hbq.mono HX4.out.size))
        have HWq : Hid (Below w.heap.size w wr) := (show Hid _ from HW4.out.trans (hbq.mono HW4.out.size))
        clear hq hoq hbq hql
        by_cases hkt : k < hl.length
        · have hx := HHB.out _ (List.getElem_mem hkt)
          obtain ⟨g8, cap8, e5, _, _⟩ := own_form HO8.out (by omega)
          injection e5 with e6 e7 e8
          subst e6
          have d0 : wr.cell? ⟨g8, k, none⟩ = some (.int .i64 hl[k]) := (HBQ.out.cell (p := ⟨g8, k, none⟩) (HO8.out.lt g8 rfl).2).trans (own_int HO8.out k hkt)
          obtain ⟨x, ex⟩ : ∃ x, x = hl[k] := ⟨_, rfl⟩
          rw [← ex] at d0 hx
          obtain ⟨bn, rfl⟩ : ∃ bn : Nat, x = bn := ⟨x.toNat, by omega⟩
          have hbn : bn < vs.length := by rw [HVL.out, HLEN.out]; omega
          have hbn2 : bn < bs.length := by rw [HLEN.out]; omega
          obtain ⟨_, hat⟩ := HSV.out.at
          obtain ⟨p, o, rfl, hpl, hc⟩ := hat bn hbn
          have c0 : wr.cell? ⟨p, o + bn, none⟩ = some vs[bn] := by simpa [one] using hc wr HWq.out 0 (by omega)
          obtain ⟨Ar, cr, er⟩ := (HROWS.out bn hbn hbn2).form
          rw [er] at c0
          obtain ⟨x0, x1, x2, x3⟩ := HX.out wr HXq.out
          have hnx : q ++ [Value.slice Ar bs[bn].length cr] = (hl.take (k + 1)).map fun x => vs.getD x.toNat (.slice none 0 0) := by
            rw [List.take_succ_eq_append_getElem hkt, List.map_append, ← HQ.out, List.map_singleton, ← ex, Int.toNat_natCast, ← er]
            simp [hbn]
          have HNX := Lib.hid hnx
          have zk0 : 0 ≤ (k : Int) := by omega
          have zk1 : (k : Int) < (hl.length : Int) := by omega
          have zx0 : 0 ≤ (bn : Int) := by omega
          have zx1 : (bn : Int) < (bs.length : Int) := by omega
          have wk : IntKind.i64.wrap ((k : Int) + 1) = (k : Int) + 1 := by exact IntWalk.i64_in _ (by omega)
          have hq7 : q.length + 1 ≤ 1000000 := by have := HQL.out; omega
          clear hnx hat hc ex e7 e8 er
          go_wp2_with (at_builtin; refine wpList_append_el_at one _ rfl _ _ 26 rfl w4.heap.size 29 _ 1 24 Try.underlying26 elinfo rfl (by omega) (by omega) _ q (by rfl) (by exact HOQ.out) (.slice Ar bs[bn].length cr) rfl (by intro u hu; simp [one] at hu; subst hu; rfl) (by rfl) ?c1 ?c2 ?_)
          intro g7 cap7 w7 ho7 hg7 hat7
          have HO7 := Lib.hid ho7
          have HB7 : Hid (Below w4.heap.size w4 w7) := (show Hid _ from (HBQ.out.alloc hzq _).grown hg7 (by simp; omega) (fun k hk => (HOQ.out.lt k hk).1))
          clear ho7 hg7 hat7
          go_wp2_with fail
          go_roundw
          case rel => exact ⟨k + 1, q ++ [Value.slice Ar bs[bn].length cr], hkt, by go_num, HNX.out, by simpa using HO7.out, HB7.out⟩
          case measure => simp [intOf]; omega
        · have hke : k = hl.length := by omega
          have hqe : q = hl.map fun x => vs.getD x.toNat (.slice none 0 0) := by rw [HQ.out, hke, List.take_length]
          have HQE := Lib.hid hqe
          have HFE : Hid (SLe wr.heap.size wr (.slice Aq q.length cq) (hl.map fun x => bs.getD x.toNat [])) := (show Hid _ from by
            refine ⟨q, by rw [hqe]; simp, SV.of_own HOQ.out (fun _ _ => rfl), fun j h1 h2 => ?_⟩
            have hjl : j < hl.length := by simpa using h2
            have hx := HHB.out _ (List.getElem_mem hjl)
            have hbn : hl[j].toNat < vs.length := by rw [HVL.out, HLEN.out]; omega
            have hbn2 : hl[j].toNat < bs.length := by rw [HLEN.out]; omega
            have e1 : q[j] = vs[hl[j].toNat] := by simp only [hqe]; simp [hbn]
            have e2 : (hl.map fun x => bs.getD x.toNat [])[j] = bs[hl[j].toNat] := by simp [hbn2]
            rw [e1, e2]
            exact ((HROWS.out _ hbn hbn2).below HWq.out).more HWq.out.size)
          clear hke hqe
          obtain ⟨wl, rfl⟩ : ∃ wl : World, wl = wr := ⟨_, rfl⟩
          go_wp2_with fail
          (with_reducible refine (pick_any key _ _ wl hks HFE.out).mono ?_)
          rintro e w9 ⟨rfl, hb9⟩
          have HB9 : Hid (Below w.heap.size w w9) := (show Hid _ from HWq.out.trans (hb9.mono HWq.out.size))
          rw [if_pos HKY.out]
          obtain ⟨o, eo⟩ : ∃ o, o = pickF key (hl.map fun x => bs.getD x.toNat []) := ⟨_, rfl⟩
          have HFV : Hid (findV B ps bs key = pickV o) := (show Hid _ from by rw [eo, HEL.out]; unfold findV; rw [if_pos HKY.out]; exact rfl)
          rw [← eo]
          clear hb9 eo
          cases o with
          | none =>
            simp only [pickV]
            go_wp2_with fail
            all_goals refine bodyPost_ret (v := .tuple #[.int .i64 0, .bool false, .int .i64 0]) (by simp [results, Try.results18, go_sem]) rfl ?_
            all_goals exact ⟨HB9.out, .inr ⟨HDOK.out, by rw [HFV.out]; rfl⟩⟩
          | some n =>
            simp only [pickV]
            go_wp2_with fail
            all_goals refine bodyPost_ret (v := .tuple #[.int .i64 n, .bool true, .int .i64 0]) (by simp [results, Try.results18, go_sem]) rfl ?_
            all_goals exact ⟨HB9.out, .inr ⟨HDOK.out, by rw [HFV.out]; rfl⟩⟩
end Go.Proofs.Ytllnomembakboaa

namespace Go.Proofs.Ytllnomembakboaa
open Go.RowKit

set_option maxRecDepth 100000 in
set_option maxHeartbeats 2000000 in
theorem encode_nil (w : World) : Calls Try.prog 32 #[.int .i64 2, .slice none 0 0] w fun e w' => e = .returned (.tuple #[.string ⟨(zeros 74).toArray⟩, .int .i64 0]) ∧ Below w.heap.size w w' := by
  go_enter Try.func32, Try.ntmps32
  go_wp2_with fail
  (with_reducible refine (slotted_any 2 w).mono ?_)
  rintro e w2 ⟨rfl, hw2⟩
  subst hw2
  go_wp2_with fail
  (with_reducible refine (ascends_any [] (.slice none 0 0) w (SV.nil _ _) (fun e he => by simp at he)).mono ?_)
  rintro e w4 ⟨rfl, hb4⟩
  have HB4 := Lib.hid hb4
  have hz4 := hb4.size
  rw [show ascB [] = true from by decide]
  clear hb4
  have hmb : (Instr.makeSlice 63 (.int .i64 74) (.int .i64 74)).run Try.prog w4 = _ := made_bytes 74 (by omega) w4
  obtain ⟨w5, ew5⟩ : ∃ w5 : World, w5 = w4.alloc (.cells (Array.replicate 74 (Value.int .u8 0)) 5) := ⟨_, rfl⟩
  obtain ⟨Z, eZ⟩ : ∃ Z, Z = w4.heap.size := ⟨_, rfl⟩
  rw [← ew5, ← eZ] at hmb
  have HO5 : Hid (w5.ownsRow Z 5 1 (.slice (some ⟨Z, 0, none⟩) 74 74) (zeros 74).length ((zeros 74).flatMap bcs)) := (show Hid _ from by rw [ew5, eZ]; exact own_zeros w4 74 (by omega))
  have HB5 : Hid (Below w.heap.size w w5) := (show Hid _ from by rw [ew5]; exact HB4.out.alloc hz4 _)
  have hcv := run_string_own w5 Z _ (zeros 74) HO5.out (by simp [zeros])
  clear ew5 eZ
  go_upto_region 9 with fail
  go_wp2_with fail
  go_loopw [31] (fun iv wr => iv = .int .i64 0 ∧ wr = w5) (fun _ _ => 0)
  case atStart => exact ⟨rfl, rfl⟩
  case round =>
    obtain ⟨rfl, rfl⟩ := hrel
    go_wp2_with fail
    refine bodyPost_ret (v := .tuple #[.string ⟨(zeros 74).toArray⟩, .int .i64 0]) (by simp [results, Try.results32, go_sem]) rfl ?_
    exact ⟨rfl, HB5.out⟩
end Go.Proofs.Ytllnomembakboaa

namespace Go.Proofs.Ytllnomembakboaa
open Go.RowKit

def exP : List (Int × Int) := [(1, 0), (2, 0)]
def exA : ByteArray := ⟨#[97]⟩
def exB : ByteArray := ⟨#[98]⟩
def exE : List (ByteArray × Int) := [(exB, 2), (exA, 1)]
def exS : List (ByteArray × Int) := [(exA, 1), (exB, 2)]
theorem ex_hv : HV (1 : Nat) exP := ⟨by decide, by decide, by decide, by decide, by decide⟩
theorem ex_hms (n : Int) : hms (1 : Nat) exP n = [0, 0] := by
  have h : ∀ x : Int, x % 1 = 0 := fun x => by omega
  simp [hms, exP, h]
theorem ex_code : ecode [] exE = 0 := by decide +kernel
theorem ex_asc : Asc exS := by
  have h : ascB exS = true := by decide +kernel
  exact (ascB_iff.1 h).2
theorem ex_sorted {S : List (ByteArray × Int)} (h : S.Perm exE) (ha : Asc S) : S = exS := by
  have hp : exE.Perm exS := List.Perm.swap _ _ _
  exact Asc.uniq ha ex_asc (h.trans hp)
theorem ex_hss : hss (1 : Nat) exP exS = [[0, 0], [0, 0]] := by
  show [hms (1 : Nat) exP (dg exA), hms (1 : Nat) exP (dg exB)] = _
  rw [ex_hms, ex_hms]
theorem ex_asg : ∃ out, Asg (hss (1 : Nat) exP exS) (fun _ => 2) out := by
  rw [ex_hss]
  refine ⟨[0, 0], by decide, fun i h1 h2 => ?_, fun b => ?_⟩
  · match i, h1 with
    | 0, _ => simp
    | 1, _ => simp
  · have := List.count_le_length (a := (b : Int)) (l := [0, 0])
    simpa using this
theorem ex_out {out : List Int} (h : Asg (hss (1 : Nat) exP exS) (fun _ => 2) out) : out = [0, 0] := by
  rw [ex_hss] at h
  have hl := h.len
  have h0 := h.mem 0 (by rw [hl]; decide) (by decide)
  have h1 := h.mem 1 (by rw [hl]; decide) (by decide)
  match out, hl with
  | [a, b], _ =>
    simp at h0 h1
    rw [h0, h1]
theorem ex_dist : dist exS [0, 0] 1 = [exS] := by decide +kernel
theorem ex_ok : DirOK 1 exP 2 [exS] := by
  refine ⟨by decide, by decide, rfl, fun b h => ?_, fun b h e he => ?_, by decide +kernel⟩
  · have hb : b = 0 := by simpa using h
    subst hb
    show ((exS.length : Nat) : Int) ≤ 2 ∧ ascB exS = true
    exact ⟨by decide, by decide +kernel⟩
  · have hb : b = 0 := by simpa using h
    subst hb
    rw [ex_hms]
    decide
theorem ex_find : findV 1 exP [exS] exB = .tuple #[.int .i64 2, .bool true, .int .i64 0] := by
  have hk : ky exB = true := by decide +kernel
  unfold findV
  rw [if_pos hk, ex_hms]
  have : pickF exB ([0, 0].map fun x : Int => [exS].getD x.toNat []) = some 2 := by decide +kernel
  rw [this]
  rfl
end Go.Proofs.Ytllnomembakboaa

namespace Go.Proofs.Ytllnomembakboaa
open Go.RowKit

theorem sv_new {α : Type} {enc : α → List Value} {sz b : Nat} {t : TypeId} {l : List α} {W : World} (h : W.heap[b]? = some (.cells (l.flatMap enc).toArray t (0, 0))) (hl : ∀ x ∈ l, (enc x).length = sz) (hn : l.length ≤ 1000000) (hs : (l.flatMap enc).length = l.length * sz) :
    SV enc sz W.heap.size W (.slice (some ⟨b, 0, none⟩) l.length l.length) l :=
  SV.of_own (base := b) (e := t) ⟨hs, .inr ⟨b, l.length, _, rfl, Nat.le_refl _, h, Nat.le_refl _, by unfold maxLen; omega, by simpa using hs, by rw [← hs]; exact List.take_of_length_le (Nat.le_refl _)⟩⟩ hl
theorem sbd_own {w : World} {base : Nat} {v : Value} {l : List Int} (h : w.ownsRow base 3 1 v l.length (l.map (Value.int .i64))) : SBD (fun k => k < w.heap.size) w v l := by
  rcases h.2 with ⟨e, hn⟩ | ⟨g, cap, cur, e, hb, hg, hnc, hcm, hcs, ht⟩
  · have : l = [] := List.eq_nil_of_length_eq_zero hn
    rw [e, this]
    exact ⟨none, 0, rfl, Nat.le_refl _, by omega, fun h => by simp at h⟩
  · rw [e] at h ⊢
    exact ⟨_, cap, rfl, hnc, by unfold maxLen at hcm; omega, fun _ => ⟨g, 0, rfl, heap_of_cells hg, fun i hi => by rw [Nat.zero_add]; exact own_int h i hi⟩⟩
theorem SBD.below {w w' : World} {v : Value} {l : List Int} (h : SBD (fun k => k < w.heap.size) w v l) (hb : Below w.heap.size w w') : SBD (fun k => k < w'.heap.size) w' v l :=
  (h.keep fun _ hp => hb.cell hp).imp fun _ hk => Nat.lt_of_lt_of_le hk hb.size
theorem ex_i64 : ∀ x ∈ exP, ∀ y ∈ pcs x, i64r y := by
  intro x hx y hy
  simp [exP] at hx
  rcases hx with rfl | rfl <;> (simp [pcs] at hy; rcases hy with rfl | rfl <;> (unfold i64r; omega))
set_option maxRecDepth 100000 in
set_option maxHeartbeats 4000000 in
theorem sane_any (w : World) : Calls Try.prog 9 #[] w fun e w' => e = .returned (.bool true) ∧ Below w.heap.size w w' := by
  go_enter Try.func9, Try.ntmps9
  obtain ⟨W, eW⟩ : ∃ W : World, W = ((w.alloc (.cells #[.int .i64 1, .int .i64 0, .int .i64 2, .int .i64 0] 69)).alloc (.cells #[.int .i64 1, .slice (some ⟨w.heap.size, 0, none⟩) 2 2] 25)).alloc (.cells #[.string ⟨#[98]⟩, .int .i64 2, .string ⟨#[97]⟩, .int .i64 1] 41) := ⟨_, rfl⟩
  obtain ⟨Z, eZ⟩ : ∃ Z, Z = w.heap.size := ⟨_, rfl⟩
  have hzW : W.heap.size = Z + 3 := by rw [eW, eZ]; simp
  have HBW : Hid (Below w.heap.size w W) := (show Hid _ from by rw [eW]; exact (((Below.refl _ w).alloc (Nat.le_refl _) _).alloc (by simp) _).alloc (by simp; omega) _)
  have hb0 : W.heap[Z]? = some (.cells #[.int .i64 1, .int .i64 0, .int .i64 2, .int .i64 0] 69 (0, 0)) := by
    rw [eW, eZ, Below.heap_alloc _ _ _ (by simp; omega), Below.heap_alloc _ _ _ (by simp)]
    exact heap_alloc_new w _
  have hb1 : W.heap[Z + 1]? = some (.cells #[.int .i64 1, .slice (some ⟨Z, 0, none⟩) 2 2] 25 (0, 0)) := by
    rw [eW, eZ, Below.heap_alloc _ _ _ (by simp)]
    have h := heap_alloc_new (w.alloc (.cells #[.int .i64 1, .int .i64 0, .int .i64 2, .int .i64 0] 69)) (.cells #[.int .i64 1, .slice (some ⟨w.heap.size, 0, none⟩) 2 2] 25)
    simpa using h
  have hb2 : W.heap[Z + 2]? = some (.cells #[.string ⟨#[98]⟩, .int .i64 2, .string ⟨#[97]⟩, .int .i64 1] 41 (0, 0)) := by
    have h := heap_alloc_new ((w.alloc (.cells #[.int .i64 1, .int .i64 0, .int .i64 2, .int .i64 0] 69)).alloc (.cells #[.int .i64 1, .slice (some ⟨w.heap.size, 0, none⟩) 2 2] 25)) (.cells #[.string ⟨#[98]⟩, .int .i64 2, .string ⟨#[97]⟩, .int .i64 1] 41)
    rw [eW, eZ]
    simpa using h
  have HSG : Hid (SG pcs 2 W.heap.size W (.slice (some ⟨Z, 0, none⟩) 2 2) exP) := (show Hid _ from SG.of_own (base := Z) (e := 69) ⟨rfl, .inr ⟨Z, 2, _, rfl, Nat.le_refl _, hb0, Nat.le_refl _, by unfold maxLen; omega, rfl, rfl⟩⟩ ex_i64 (by decide))
  have HSV : Hid (SV ecs 2 W.heap.size W (.slice (some ⟨Z + 1 + 1, 0, none⟩) 2 2) exE) := (show Hid _ from sv_new (enc := ecs) (sz := 2) (l := exE) (W := W) (b := Z + 1 + 1) (t := 41) hb2 (fun x _ => ecs_len x) (by decide) rfl)
  have HEW := Lib.hid eW
  have HEZ := Lib.hid eZ
  clear eW eZ
  go_wp2_with fail
  rw [← HEW.out, ← HEZ.out]
  have hC : Calls Try.prog 26 #[.agg #[.int .i64 1, .slice (some ⟨Z, 0, none⟩) 2 2], .int .i64 2, .slice (some ⟨Z + 1 + 1, 0, none⟩) 2 2] W (BuP 1 exP 2 exE W) := kbuild_any 1 exP 2 exE _ _ W ex_hv (by omega) (by omega) (by decide) (by decide) HSG.out HSV.out
  (with_reducible refine hC.mono ?_)
  rintro e w5 ⟨hb5, h5⟩
  rcases h5 with ⟨h, _⟩ | ⟨_, S, hpm, has, h5⟩
  · exact absurd ex_code h
  obtain rfl := ex_sorted hpm has
  rcases h5 with ⟨h, _⟩ | ⟨out, pv, ev, hlf, he, hpo, hsl⟩
  · exact absurd ex_asg h
  obtain rfl := ex_out hlf.asg
  have he2 : e = .returned (.tuple #[.agg #[.int .i64 1, pv, .int .i64 2, ev], .int .i64 0]) := he
  clear he hC
  subst he2
  rw [ex_dist] at hsl
  obtain ⟨Ap, cp, rfl⟩ := own_sl hpo
  obtain ⟨Ae, ce, rfl⟩ := hsl.form
  have HB5 := Lib.hid hb5
  have HPO := Lib.hid hpo
  have HSL := Lib.hid hsl
  have hz5 := hb5.size
  have c0 := (hb5.cell (p := ⟨Z + 1, 0, none⟩) (by show Z + 1 < _; omega)).trans (cell_of_row W (Z + 1) 0 _ _ _ hb1)
  have c1 := (hb5.cell (p := ⟨Z + 1, 1, none⟩) (by show Z + 1 < _; omega)).trans (cell_of_row W (Z + 1) 1 _ _ _ hb1)
  clear hb5 hpo hsl hlf hpm has
  obtain ⟨w6, ew6⟩ : ∃ w6 : World, w6 = w5.alloc (.cells #[.int .i64 1, .slice Ap exP.length cp, .int .i64 2, .slice Ae 1 ce] 28) := ⟨_, rfl⟩
  have hb6 : Below w5.heap.size w5 w6 := by rw [ew6]; exact (Below.refl _ w5).alloc (Nat.le_refl _) _
  have HB6 := Lib.hid hb6
  have HSG6 : Hid (SG pcs 2 w6.heap.size w6 (.slice Ap exP.length cp) exP) := (show Hid _ from ((SG.of_own (enc := pcs) HPO.out ex_i64 (by decide)).below hb6).more hb6.size)
  have HSE6 : Hid (SLe w6.heap.size w6 (.slice Ae 1 ce) [exS]) := (show Hid _ from by
    obtain ⟨vs, h1, h2, h3⟩ := HSL.out
    exact ⟨vs, h1, (h2.sv.below hb6).more hb6.size, fun j a b => ((h3 j a b).sv.below hb6).more hb6.size⟩)
  have HEW6 := Lib.hid ew6
  clear ew6 hb6
  go_wp2_with fail
  rw [← HEW6.out]
  have hF : Calls Try.prog 18 #[.agg #[.int .i64 1, .slice Ap exP.length cp, .int .i64 2, .slice Ae 1 ce], .string ⟨#[98]⟩] w6 (FiR 1 exP 2 [exS] exB w6) := find_any 1 exP 2 [exS] _ _ exB w6 ex_hv HSG6.out HSE6.out (by decide) (by decide) (by decide)
  (with_reducible refine hF.mono ?_)
  rintro e w7 ⟨hb7, h7⟩
  rcases h7 with ⟨h, _⟩ | ⟨_, he⟩
  · exact absurd ex_ok h
  rw [ex_find] at he
  subst he
  have HB7 : Hid (Below W.heap.size W w7) := (show Hid _ from (HB5.out.trans (HB6.out.mono hz5)).trans (hb7.mono (Nat.le_trans hz5 HB6.out.size)))
  clear hb7 hF
  go_wp2_with fail
  (with_reducible refine (encode_nil w7).mono ?_)
  rintro e w8 ⟨rfl, hb8⟩
  have HB8 : Hid (Below W.heap.size W w8) := (show Hid _ from HB7.out.trans (hb8.mono HB7.out.size))
  clear c0 c1 hb8
  have c0 := (HB8.out.cell (p := ⟨Z + 1, 0, none⟩) (by show Z + 1 < _; omega)).trans (cell_of_row W (Z + 1) 0 _ _ _ hb1)
  have c1 := (HB8.out.cell (p := ⟨Z + 1, 1, none⟩) (by show Z + 1 < _; omega)).trans (cell_of_row W (Z + 1) 1 _ _ _ hb1)
  have HSG8 : Hid (SG pcs 2 w8.heap.size w8 (.slice (some ⟨Z, 0, none⟩) 2 2) exP) := (show Hid _ from (HSG.out.below HB8.out).more HB8.out.size)
  obtain ⟨zs, ezs⟩ : ∃ zs : ByteArray, zs = ⟨(zeros 74).toArray⟩ := ⟨_, rfl⟩
  have hzs : zs.size = 74 := by rw [ezs]; decide
  rw [← ezs]
  clear ezs
  go_wp2_with fail
  have hH : Calls Try.prog 22 #[.agg #[.int .i64 1, .slice (some ⟨Z, 0, none⟩) 2 2], .string ⟨#[122, 122]⟩] w8 _ := kHomes_ok (1 : Nat) exP ⟨#[122, 122]⟩ _ w8 ex_hv (by decide) HSG8.out
  (with_reducible refine hH.mono ?_)
  rintro e w9 ⟨h9, _⟩
  obtain ⟨v9, rfl, ho9, hb9⟩ := h9 (by decide)
  rw [ex_hms] at ho9
  obtain ⟨A9, c9, rfl⟩ := own_sl ho9
  have HO9 := Lib.hid ho9
  have HB9 : Hid (Below W.heap.size W w9) := (show Hid _ from HB8.out.trans (hb9.mono HB8.out.size))
  clear ho9 hb9 h9 hH
  go_wp2_with fail
  obtain ⟨wx, ewx⟩ : ∃ wx : World, wx = w9.alloc (.cells #[.int .i64 0, .int .i64 0] 3) := ⟨_, rfl⟩
  obtain ⟨Y, eY⟩ : ∃ Y, Y = w9.heap.size := ⟨_, rfl⟩
  have hbx : Below w9.heap.size w9 wx := by rw [ewx]; exact (Below.refl _ w9).alloc (Nat.le_refl _) _
  have HA : Hid (SBD (fun k => k < wx.heap.size) wx (.slice A9 2 c9) [0, 0]) := (show Hid _ from (sbd_own (l := [0, 0]) HO9.out).below hbx)
  have hyb : wx.heap[Y]? = some (.cells #[.int .i64 0, .int .i64 0] 3 (0, 0)) := by rw [ewx, eY]; exact heap_alloc_new w9 _
  have HB : Hid (SBD (fun k => k < wx.heap.size) wx (.slice (some ⟨Y, 0, none⟩) 2 2) [0, 0]) := (show Hid _ from sbd_own (base := Y) (l := [0, 0]) ⟨rfl, .inr ⟨Y, 2, _, rfl, Nat.le_refl _, hyb, Nat.le_refl _, by unfold maxLen; omega, rfl, rfl⟩⟩)
  have HBX : Hid (Below W.heap.size W wx) := (show Hid _ from HB9.out.trans (hbx.mono HB9.out.size))
  rw [← ewx, ← eY]
  clear ewx eY hyb hbx
  (with_reducible refine (same_any [0, 0] [0, 0] _ _ wx HA.out HB.out (by decide) (by decide)).mono ?_)
  rintro e w10 ⟨rfl, hb10⟩
  have HB10 : Hid (Below w.heap.size w w10) := (show Hid _ from HBW.out.trans ((HBX.out.trans (hb10.mono HBX.out.size)).mono HBW.out.size))
  rw [show decide (([0, 0] : List Int) = [0, 0]) = true from by decide]
  clear hb10
  go_wp2_with fail
  go_ret
  exact ⟨rfl, HB10.out⟩
end Go.Proofs.Ytllnomembakboaa
