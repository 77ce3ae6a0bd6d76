/- Joined: Oq. -/
import Derived.Test.YtllnomembakboaaB34
import Derived.Test.YtllnomembakboaaB35
namespace Go.Proofs.Ytllnomembakboaa
open Go.RowKit

theorem encE_parts (e : ByteArray × Int) : encE e = ([byt (e.1.size : Int)] ++ e.1.data.toList) ++ List.replicate (32 - e.1.size) 0 ++ [byt e.2, byt (e.2 / 256), byt (e.2 / 65536), byt (e.2 / 16777216)] := rfl
theorem OB.stays {w w' : World} {base X : Nat} {v : Value} {L : List UInt8} {cs : Array Value} {t : TypeId} (h : OB w base v L) (hX : w.heap[X]? = some (.cells cs t (0, 0))) (ht : t ≠ 5) (hg : w.grownBy w' v.ownBlock) : w'.heap[X]? = some (.cells cs t (0, 0)) := by
  refine (hg.block X (heap_of_cells hX) (fun e => ?_)).trans hX
  rcases h.2 with ⟨rfl, _⟩ | ⟨g, cap, cur, rfl, _, hg2, _⟩
  · simp [Value.ownBlock] at e
  · have e2 : X = g := by simpa [Value.ownBlock] using e
    subst e2
    rw [hX] at hg2
    injection hg2 with hg2
    injection hg2 with _ e3
    exact ht e3
theorem OB.staysA {w w' : World} {base X : Nat} {v : Value} {L : List UInt8} {cs : Array Value} {t : TypeId} {o : Obj} (h : OB w base v L) (hX : w.heap[X]? = some (.cells cs t (0, 0))) (ht : t ≠ 5) (hg : (w.alloc o).grownBy w' v.ownBlock) : w'.heap[X]? = some (.cells cs t (0, 0)) :=
  OB.stays (w := w.alloc o) (World.ownsRow.alloc h _) ((Below.heap_alloc w o X (heap_of_cells hX)).trans hX) ht hg
theorem OB.below {w w' w0 : World} {base n : Nat} {v : Value} {L : List UInt8} (h : OB w base v L) (hb : Below n w0 w) (hn : n ≤ base) (hw : n ≤ w0.heap.size) (hg : w.grownBy w' v.ownBlock) : Below n w0 w' :=
  hb.grown hg (by have := hb.size; omega) (fun k hk => by have := (h.lt k hk).1; omega)
theorem OB.belowA {w w' w0 : World} {base n : Nat} {v : Value} {L : List UInt8} {o : Obj} (h : OB w base v L) (hb : Below n w0 w) (hn : n ≤ base) (hw : n ≤ w0.heap.size) (hg : (w.alloc o).grownBy w' v.ownBlock) : Below n w0 w' :=
  OB.below (w := w.alloc o) (World.ownsRow.alloc h _) (hb.alloc (by have := hb.size; omega) _) hn hw hg
set_option maxRecDepth 100000 in
set_option maxHeartbeats 4000000 in
theorem rencode_any (n : Int) (l : List (ByteArray × Int)) (v : Value) (w : World) (h : SV ecs 2 w.heap.size w v l) (hk : ∀ e ∈ l, e.1.size ≤ 9223372036854775807) :
    Calls Try.prog 34 #[.int .i64 n, v] w fun e w' => e = .returned (encV n l) ∧ Below w.heap.size w w' := by
  obtain ⟨A, c, rfl⟩ := h.form
  have HS := Lib.hid h
  have HK := Lib.hid hk
  clear h hk
  go_enter Try.func34, Try.ntmps34
  by_cases hs : 1 ≤ n ∧ n ≤ 8
  case neg =>
    have HN := Lib.hid hs
    by_cases h1 : n < 1
    · go_wp2_with fail
      all_goals refine bodyPost_ret (v := .tuple #[.string ⟨#[]⟩, .int .i64 1]) (by simp [results, Try.results34, go_sem]) rfl ?_
      all_goals exact ⟨by rw [encV_range HN.out], Below.refl _ _⟩
    · have h2 : 8 < n := by omega
      have d1 : decide (n < 1) = false := decide_eq_false h1
      go_wp2_with fail
      all_goals refine bodyPost_ret (v := .tuple #[.string ⟨#[]⟩, .int .i64 1]) (by simp [results, Try.results34, go_sem]) rfl ?_
      all_goals exact ⟨by rw [encV_range HN.out], Below.refl _ _⟩
  have e1 : decide (n < 1) = false := decide_eq_false (by omega)
  have e2 : decide (8 < n) = false := decide_eq_false (by omega)
  by_cases hl : (l.length : Int) ≤ n
  case neg =>
    have d1 : decide (n < (l.length : Int)) = true := decide_eq_true (by omega)
    have HN := Lib.hid hs
    have HL := Lib.hid hl
    go_wp2_with fail
    refine bodyPost_ret (v := .tuple #[.string ⟨#[]⟩, .int .i64 4]) (by simp [results, Try.results34, go_sem]) rfl ?_
    exact ⟨by rw [encV_limit HN.out (Int.not_le.2 HL.out)], Below.refl _ _⟩
  obtain ⟨N, rfl⟩ : ∃ N : Nat, n = N := ⟨n.toNat, by omega⟩
  have d1 : decide ((N : Int) < (l.length : Int)) = false := decide_eq_false (by omega)
  have d2 : ¬ ((N : Int) < (l.length : Int)) := by omega
  have hN : 1 ≤ N ∧ N ≤ 8 := by omega
  have hlN : l.length ≤ N := by omega
  have e1n : decide (N < 1) = false := decide_eq_false (by omega)
  have e2n : decide (8 < N) = false := decide_eq_false (by omega)
  clear hs hl
  go_wp2_with fail
  (with_reducible refine (rbucket_any l _ w HS.out HK.out).mono ?_)
  rintro e w4 ⟨rfl, hb4⟩
  have HB4 := Lib.hid hb4
  have hz4 := hb4.size
  clear hb4
  cases has : ascB l
  · have HA := Lib.hid has
    go_wp2_with fail
    refine bodyPost_ret (v := .tuple #[.string ⟨#[]⟩, .int .i64 2]) (by simp [results, Try.results34, go_sem]) rfl ?_
    exact ⟨by rw [encV_form (by omega) (by omega) HA.out], HB4.out⟩
  have HA := Lib.hid has
  have hvs := (ascB_iff.1 has).1
  have HV := Lib.hid hvs
  clear has hvs d1 d2
  go_wp2_with fail
  go_loopw [6, 24] (fun bv' iv wr => ∃ i : Nat, i ≤ l.length ∧ iv = .int .i64 i ∧ OB wr w4.heap.size bv' ((l.take i).flatMap encE) ∧ Below w4.heap.size w4 wr) (fun _ iv _ => l.length - (intOf iv).toNat)
  case atStart => exact ⟨0, Nat.zero_le _, rfl, OB.nil _ _, Below.refl _ _⟩
  case round =>
    obtain ⟨i, hi, rfl, ho, hb⟩ := hrel
    have HO := Lib.hid ho
    have HB := Lib.hid hb
    have HBW : Hid (Below w.heap.size w wr) := (show Hid _ from HB4.out.trans (hb.mono hz4))
    have hzr := hb.size
    clear ho hb
    by_cases hit : i < l.length
    · obtain ⟨_, hat⟩ := HS.out.at
      obtain ⟨p, o, rfl, hp, d1⟩ := hat i hit
      obtain ⟨key, ek⟩ : ∃ x, x = l[i].1 := ⟨_, rfl⟩
      obtain ⟨x, ex⟩ : ∃ m, m = l[i].2 := ⟨_, rfl⟩
      have k0 : wr.cell? ⟨p, o + i * 2, none⟩ = some (.string key) := by rw [ek]; exact d1 wr HBW.out 0 (by omega)
      have k1 : wr.cell? ⟨p, o + i * 2 + 1, none⟩ = some (.int .i64 x) := by rw [ex]; exact d1 wr HBW.out 1 (by omega)
      have HE : Hid (l[i] = (key, x)) := (show Hid _ from by rw [ek, ex]; exact rfl)
      have hve := HV.out _ (List.getElem_mem hit)
      rw [HE.out] at hve
      have hky : ky key = true := by simp [ven] at hve; exact hve.1.1
      have hkb := ky_bd hky
      have hxb : 0 ≤ x ∧ x < 2147483647 := by simp [ven] at hve; omega
      have HKY := Lib.hid hky
      have z0 : 0 ≤ (i : Int) := by omega
      have z1 : (i : Int) < (l.length : Int) := by omega
      have wi : IntKind.i64.wrap ((i : Int) + 1) = (i : Int) + 1 := by exact IntWalk.i64_in _ (by omega)
      have hpl : ((l.take i).flatMap encE).length = i * 37 := pre_len HV.out hit
      obtain ⟨L, eL⟩ : ∃ L, L = (l.take i).flatMap encE := ⟨_, rfl⟩
      rw [← eL] at HO hpl
      have HL := Lib.hid eL
      have hLl : L.length ≤ 296 := by omega
      clear hat d1 ek ex hky hve eL hpl
      obtain ⟨X, eX⟩ : ∃ X, X = wr.heap.size := ⟨_, rfl⟩
      obtain ⟨wx, ewx⟩ : ∃ wx : World, wx = wr.alloc (.cells #[.string key, .int .i64 x] 41) := ⟨_, rfl⟩
      have HWwx : Hid (wr.alloc (.cells #[.string key, .int .i64 x] 41) = wx) := ewx.symm
      have HAwx : Hid (Below wr.heap.size wr wx) := (show Hid _ from by rw [ewx]; exact (Below.refl _ wr).alloc (Nat.le_refl _) _)
      have HX0wx : Hid (wx.heap[X]? = some (.cells #[.string key, .int .i64 x] 41 (0, 0))) := (show Hid _ from by show _ = _; rw [ewx, eX]; exact heap_alloc_new wr _)
      have hXr : wr.heap.size ≤ X := by omega
      go_upto_region 11 with fail
      rw [HWwx.out, ← eX]
      clear ewx eX
      have HZx : Hid (OB wx w4.heap.size u6 L) := (show Hid _ from by unfold OB; rw [← HWwx.out]; exact HO.out.alloc _)
      have HBx : Hid (Below w4.heap.size w4 wx) := (show Hid _ from HB.out.trans (HAwx.out.mono hzr))
      have hzx := HBx.out.size
      have hX1 : w4.heap.size ≤ X := by omega
      have HX0 : Hid (wx.heap[X]? = some (.cells #[.string key, .int .i64 x] 41 (0, 0))) := HX0wx
      have x0 : wx.cell? ⟨X, 0, none⟩ = some (.string key) := cell_of_row wx X 0 _ _ _ HX0.out
      obtain ⟨b8, hb8⟩ : ∃ b : UInt8, b = byt key.size := ⟨_, rfl⟩
      have wu : IntKind.u8.wrap (key.size : Int) = (b8.toNat : Int) := by rw [hb8, byt_nat, IntKind.wrap_u8]
      have HB8 := Lib.hid hb8
      have he5 : (41 : TypeId) ≠ 5 := by decide
      have HE5 := Lib.hid he5
      clear k0 k1 hb8 he5
      go_upto_region 12 with (at_builtin; refine wpList_app_lit _ rfl _ _ 63 rfl w4.heap.size Try.underlying63 binfo _ L [b8] _ rfl 1 rfl (by rfl) (by exact HZx.out) (by rfl) (by simp; omega) hzx ?_; intro v1 w1 ho1 hg1; have HO1 := Lib.hid ho1; have HG1 := Lib.hid hg1; clear ho1 hg1)
      have HX1 := Lib.hid (HZx.out.staysA HX0.out HE5.out HG1.out)
      have HB1 := Lib.hid (HZx.out.belowA HBx.out (Nat.le_refl _) (Nat.le_refl _) HG1.out)
      have x1 : w1.cell? ⟨X, 0, none⟩ = some (.string key) := cell_of_row w1 X 0 _ _ _ HX1.out
      have hz1 := HB1.out.size
      clear x0
      go_upto_region 13 with (at_builtin; refine wpList_app_str _ rfl _ _ 63 9 rfl w4.heap.size Try.underlying63 Try.underlying9 binfo _ (L ++ [b8]) (by rfl) (by exact HO1.out) key (by rfl) (by simp; omega) hz1 ?_; intro v2 w2 ho2 hg2; have HO2 := Lib.hid ho2; have HG2 : Hid (w1.grownBy w2 v1.ownBlock) := Lib.hid hg2; clear ho2 hg2)
      have HX2 := Lib.hid (HO1.out.stays HX1.out HE5.out HG2.out)
      have HB2 := Lib.hid (HO1.out.below HB1.out (Nat.le_refl _) (Nat.le_refl _) HG2.out)
      have x2 : w2.cell? ⟨X, 0, none⟩ = some (.string key) := cell_of_row w2 X 0 _ _ _ HX2.out
      have hz2 := HB2.out.size
      have w32 : IntKind.i64.wrap (32 - (key.size : Int)) = ((32 - key.size : Nat) : Int) := by rw [IntWalk.i64_in _ (by omega)]; omega
      clear x1
      go_upto_region 14 with (at_builtin; refine wpList_app_zero _ rfl _ _ 63 3 rfl w4.heap.size Try.underlying63 Try.underlying3 binfo _ (L ++ [b8] ++ key.data.toList) (by rfl) (by exact HO2.out) (32 - key.size) (by rfl) (by simp; omega) hz2 ?_; intro v3 w3 ho3 hg3; have HO3 := Lib.hid ho3; have HG3 : Hid (w2.grownBy w3 v2.ownBlock) := Lib.hid hg3; clear ho3 hg3)
      have HX3 := Lib.hid (HO2.out.stays HX2.out HE5.out HG3.out)
      have HB3 := Lib.hid (HO2.out.below HB2.out (Nat.le_refl _) (Nat.le_refl _) HG3.out)
      have x3 : w3.cell? ⟨X, 1, none⟩ = some (.int .i64 x) := cell_of_row w3 X 1 _ _ _ HX3.out
      have hz3 := HB3.out.size
      clear x2 w32
      obtain ⟨T, eT⟩ : ∃ T, T = L ++ [b8] ++ key.data.toList ++ List.replicate (32 - key.size) 0 := ⟨_, rfl⟩
      have hTl : T.length ≤ 400 := by rw [eT]; simp; omega
      rw [← eT] at HO3
      have HT := Lib.hid eT
      have hcs : (#[Value.int IntKind.u8 (x % 256), Value.int IntKind.u8 (x / 256 % 256), Value.int IntKind.u8 (x / 65536 % 256), Value.int IntKind.u8 (x / 16777216)] : Array Value) = (([byt x, byt (x / 256), byt (x / 65536), byt (x / 16777216)]).map bv).toArray := by
        simp only [List.map_cons, List.map_nil, bv, byt_nat]
        rw [show x / 16777216 % 256 = x / 16777216 by omega]
      have HCS := Lib.hid hcs
      clear eT hcs
      go_upto_region 15 with (at_builtin; refine wpList_app_lit _ rfl _ _ 63 rfl w4.heap.size Try.underlying63 binfo _ T [byt x, byt (x / 256), byt (x / 65536), byt (x / 16777216)] _ HCS.out 4 rfl (by rfl) (by exact HO3.out) (by rfl) (by simp; omega) hz3 ?_; intro v5 w5 ho5 hg5; have HO5 := Lib.hid ho5; have HG5 : Hid ((w3.alloc (.cells #[Value.int IntKind.u8 (x % 256), Value.int IntKind.u8 (x / 256 % 256), Value.int IntKind.u8 (x / 65536 % 256), Value.int IntKind.u8 (x / 16777216)] 5)).grownBy w5 v3.ownBlock) := Lib.hid hg5; clear ho5 hg5)
      have HB5 := Lib.hid (HO3.out.belowA HB3.out (Nat.le_refl _) (Nat.le_refl _) HG5.out)
      have hfin : OB w5 w4.heap.size v5 ((l.take (i + 1)).flatMap encE) := by
        have h := HO5.out
        rw [HT.out, HB8.out, HL.out] at h
        rw [List.take_succ_eq_append_getElem hit, List.flatMap_append, HE.out]
        simpa [encE_parts] using h
      have HFIN := Lib.hid hfin
      clear x3 hfin
      go_wp2_with fail
      go_roundw
      case rel => exact ⟨i + 1, hit, by go_num, HFIN.out, HB5.out⟩
      case measure => simp [intOf]; omega
    · have hie : i = l.length := by omega
      have hL : (l.take i).flatMap encE = l.flatMap encE := by rw [hie, List.take_length]
      rw [hL] at HO
      obtain ⟨L, eL⟩ : ∃ L, L = l.flatMap encE := ⟨_, rfl⟩
      have hLl : L.length = l.length * 37 := by rw [eL]; exact encL_len HV.out
      rw [← eL] at HO
      have HL := Lib.hid eL
      obtain ⟨k, ek⟩ : ∃ k, k = (N - l.length) * 37 := ⟨_, rfl⟩
      have wk1 : IntKind.i64.wrap ((N : Int) - (l.length : Int)) = ((N - l.length : Nat) : Int) := by rw [IntWalk.i64_in _ (by omega)]; omega
      have wk2 : IntKind.i64.wrap (((N - l.length : Nat) : Int) * 37) = (k : Int) := by rw [IntWalk.i64_in _ (by omega)]; omega
      have hk : L.length + k = N * 37 := by rw [hLl, ek]; omega
      have HK2 := Lib.hid ek
      have hk3 : L.length + k ≤ 1000000000 := by omega
      have hk4 : 0 < L.length + k := by omega
      clear hL eL ek hLl hk
      go_upto_region 16 with fail
      go_wp2_with (at_builtin; refine wpList_app_zero _ rfl _ _ 63 3 rfl w4.heap.size Try.underlying63 Try.underlying3 binfo _ L (by rfl) (by exact HO.out) k (by rfl) hk3 hzr ?_; intro v5 w5 ho5 hg5; have hcv := run_string_own w5 w4.heap.size v5 (L ++ List.replicate k 0) (by rw [bcs_bv]; exact ho5) (by simp; omega); have HG5 : Hid (wr.grownBy w5 u6.ownBlock) := Lib.hid hg5; clear ho5 hg5)
      have HB5 := Lib.hid (HO.out.below HB.out (Nat.le_refl _) (Nat.le_refl _) HG5.out)
      refine bodyPost_ret (v := .tuple #[.string ⟨(L ++ List.replicate k 0).toArray⟩, .int .i64 0]) (by simp [results, Try.results34, go_sem]) rfl ?_
      exact ⟨by rw [encV_ok hN hlN HA.out, HL.out, HK2.out]; rfl, HB4.out.trans (HB5.out.mono hz4)⟩
end Go.Proofs.Ytllnomembakboaa
