/- Joined: Rh. -/
import Derived.Test.YtllnomembakboaaB22
import Derived.Test.YtllnomembakboaaB30
import Derived.Test.YtllnomembakboaaB13
import Derived.Test.YtllnomembakboaaB32
namespace Go.Proofs.Ytllnomembakboaa
open Go.RowKit

def nilE : ByteArray × Int := (⟨#[]⟩, 0)
/-- entries in the order of O, the first k -/
def mOf (es : List (ByteArray × Int)) (O : List Int) (k : Nat) : List (ByteArray × Int) := (O.take k).map fun x => es.getD x.toNat nilE
theorem mOf_succ {es : List (ByteArray × Int)} {O : List Int} {k : Nat} (h : k < O.length) : mOf es O (k + 1) = mOf es O k ++ [es.getD O[k].toNat nilE] := by
  unfold mOf
  rw [List.take_succ_eq_append_getElem h, List.map_append]
  rfl
theorem mOf_len {es : List (ByteArray × Int)} {O : List Int} {k : Nat} (h : k ≤ O.length) : (mOf es O k).length = k := by
  unfold mOf
  rw [List.length_map, List.length_take, Nat.min_eq_left h]
theorem mOf_perm {es : List (ByteArray × Int)} {O : List Int} (h : O.Perm (nums es.length)) : (mOf es O O.length).Perm es := by
  unfold mOf
  rw [List.take_length]
  refine (h.map _).trans (List.Perm.of_eq ?_)
  unfold nums
  rw [List.map_map]
  apply List.ext_getElem
  · simp
  · intro j h1 h2
    simp [List.getElem?_eq_getElem h2]
theorem SLe.on {w w' : World} {v : Value} {bs : List (List (ByteArray × Int))} (h : SLe w.heap.size w v bs) (hb : Below w.heap.size w w') : SLe w'.heap.size w' v bs := by
  obtain ⟨vs, h1, h2, h3⟩ := h
  exact ⟨vs, h1, h2.on hb, fun j a b => (h3 j a b).on hb⟩
theorem SLo.sle2 {lo : Nat} {w : World} {v : Value} {bs : List (List (ByteArray × Int))} (h : SLo lo w v bs) : SLe w.heap.size w v bs := by
  obtain ⟨vs, h1, h2, h3⟩ := h
  exact ⟨vs, h1, h2.sv, fun j a b => (h3 j a b).sv⟩
theorem dir_at {w : World} {X : Nat} {a b c d : Value} {t : TypeId} (h : w.heap[X]? = some (.cells #[a, b, c, d] t (0, 0))) : w.cell? ⟨X, 0, none⟩ = some a ∧ w.cell? ⟨X, 1, none⟩ = some b ∧ w.cell? ⟨X, 2, none⟩ = some c ∧ w.cell? ⟨X, 3, none⟩ = some d :=
  ⟨cell_of_row w X 0 _ _ _ h, cell_of_row w X 1 _ _ _ h, cell_of_row w X 2 _ _ _ h, cell_of_row w X 3 _ _ _ h⟩
theorem set4_far (W : World) (D X i : Nat) (a b c d : Value) (h : X ≠ D) : ((((W.setCell ⟨D, 0, none⟩ a).setCell ⟨D, 1, none⟩ b).setCell ⟨D, 2, none⟩ c).setCell ⟨D, 3, none⟩ d).cell? ⟨X, i, none⟩ = W.cell? ⟨X, i, none⟩ :=
  World.cell?_of_block ((Below.heap_setCell _ _ _ X h).trans ((Below.heap_setCell _ _ _ X h).trans ((Below.heap_setCell _ _ _ X h).trans (Below.heap_setCell _ _ _ X h))))
theorem SLe.none (B : Nat) (w : World) : SLe B w (.slice none 0 0) [] := ⟨[], rfl, SV.nil _ _, fun j h => by simp at h⟩
set_option maxRecDepth 100000 in
set_option maxHeartbeats 16000000 in
theorem order20_any (l : List Int) (v : Value) (lx : Nat) (w : World) (h : SI w v l) (hlx : lx < 256) : Calls Try.prog 5 #[v, .int .u8 lx] w fun e w' => e = .returned (.bool true) ∧ Below w.heap.size w w' := by
  have HSI := Lib.hid h
  clear h
  go_enter Try.func5, Try.ntmps5
  go_wp2_with fail
  (with_reducible refine (sane_any w).mono ?_)
  rintro e w1 ⟨rfl, hb1⟩
  have HB1 := Lib.hid hb1
  have HSI1 : Hid (SI w1 v l) := (show Hid _ from HSI.out.below hb1)
  clear hb1
  go_wp2_with fail
  (with_reducible refine (few_any l _ w1 HSI1.out).mono ?_)
  rintro e w1' ⟨rfl, hw1⟩
  subst hw1
  by_cases hfew : l.length ≤ 500
  case' neg =>
    have d5 : decide (l.length ≤ 500) = false := decide_eq_false hfew
    rw [d5]
    clear d5 hfew
    go_wp2_with fail
    all_goals go_ret
    all_goals exact ⟨rfl, HB1.out⟩
  have d5 : decide (l.length ≤ 500) = true := decide_eq_true hfew
  rw [d5]
  clear d5 hfew
  go_wp2_with fail
  (with_reducible refine (new_any l _ w1 HSI1.out).mono ?_)
  rintro e w2 ⟨rfl, hd2, hb2, hz2⟩
  obtain ⟨g, eg⟩ : ∃ g, g = w1.heap.size := ⟨_, rfl⟩
  rw [← eg] at hd2 hz2
  rw [← eg]
  have HD2 := Lib.hid hd2
  have HB2 : Hid (Below w.heap.size w w2) := (show Hid _ from HB1.out.trans (hb2.mono HB1.out.size))
  have hgw : w.heap.size ≤ g := by rw [eg]; exact HB1.out.size
  clear hd2 hb2 eg
  go_wp2_with fail
  (with_reducible refine (hashing_any g w2 HD2.out).mono ?_)
  rintro e w3 ⟨B0, ps, pv, rfl, hv, ho3, hd3, hg3⟩
  obtain ⟨B, rfl⟩ : ∃ B : Nat, B0 = B := ⟨B0.toNat, by have := hv.b1; omega⟩
  have HV := Lib.hid hv
  have HO3 := Lib.hid ho3
  have HD3 := Lib.hid hd3
  have HG3 := Lib.hid hg3
  have hz3 := hg3.size
  obtain ⟨Ap, cp, rfl⟩ := own_sl ho3
  clear hv ho3 hd3 hg3
  go_wp2_with fail
  (with_reducible refine (next_any 3 g w3 HD3.out (by unfold i64r; omega) (by omega)).mono ?_)
  rintro e w4 ⟨x, rfl, _, hx, hd4, hg4⟩
  have hx := hx (by omega)
  obtain ⟨sl, hsl⟩ : ∃ sl : Nat, 1 + x = (sl : Int) := ⟨(1 + x).toNat, by omega⟩
  have wsl : IntKind.i64.wrap (1 + x) = (sl : Int) := by rw [hsl]; exact IntWalk.i64_in _ (by omega)
  have HD4 := Lib.hid hd4
  have HG4 := Lib.hid hg4
  have hz4 := hg4.size
  have hs1 : 1 ≤ sl := by omega
  have hs4 : sl ≤ 3 := by omega
  clear hd4 hg4 hsl
  go_wp2_with fail
  (with_reducible refine (entries_any 9 g w4 HD4.out (by omega) (by omega)).mono ?_)
  rintro e w5 ⟨es, lv, rfl, hes, hel, ho5, hd5, hg5⟩
  have HES := Lib.hid hes
  have HO5 := Lib.hid ho5
  have HD5 := Lib.hid hd5
  have HG5 := Lib.hid hg5
  have hz5 := hg5.size
  have hel9 : es.length ≤ 9 := by omega
  obtain ⟨Al, cl, rfl⟩ := own_sl ho5
  clear hes ho5 hd5 hg5 hel
  obtain ⟨H, eH⟩ : ∃ H, H = w5.heap.size := ⟨_, rfl⟩
  obtain ⟨w6, ew6⟩ : ∃ w6 : World, w6 = w5.alloc (.cells #[.int .i64 B, .slice Ap ps.length cp] 25) := ⟨_, rfl⟩
  have HWw6 : Hid (w5.alloc (.cells #[.int .i64 B, .slice Ap ps.length cp] 25) = w6) := ew6.symm
  have HAw6 : Hid (Below w5.heap.size w5 w6) := (show Hid _ from by rw [ew6]; exact (Below.refl _ w5).alloc (Nat.le_refl _) _)
  have HH0w6 : Hid (w6.heap[H]? = some (.cells #[.int .i64 B, .slice Ap ps.length cp] 25 (0, 0))) := (show Hid _ from by show _ = _; rw [ew6, eH]; exact heap_alloc_new w5 _)
  have hH6 : H < w6.heap.size := heap_of_cells HH0w6.out
  have hH5 : w5.heap.size ≤ H := Nat.le_of_eq eH.symm
  have HGA : Hid (w2.grownBy w6 (some g)) := (show Hid _ from grownBy_trans HG3.out (grownBy_trans HG4.out (grownBy_trans HG5.out (grownBy_of_below HAw6.out _))))
  have HD6 := Lib.hid (HD5.out.below HAw6.out)
  have HPV6 : Hid (SVo hcs 2 w2.heap.size w6 (.slice Ap ps.length cp) ps) := (show Hid _ from (((SVo.of_own HO3.out (fun x _ => hcs_len x)).grown HG4.out (by omega)).grown HG5.out (by omega)).below HAw6.out)
  have HLV6 : Hid (SVo ecs 2 w4.heap.size w6 (.slice Al es.length cl) es) := (show Hid _ from (SVo.of_own HO5.out (fun x _ => ecs_len x)).below HAw6.out)
  have HB6 : Hid (Below w.heap.size w w6) := (show Hid _ from HB2.out.grown HGA.out HB2.out.size (fun k hk => by injection hk with hk; omega))
  go_upto_region 7 with fail
  rw [HWw6.out, ← eH]
  clear ew6 eH
  go_wp2_with fail
  (with_reducible refine (mkorder_any es.length g w6 HD6.out (by omega)).mono ?_)
  rintro e w7 ⟨ov7, O, rfl, hop, ho7, hd7, hg7⟩
  obtain ⟨AO, cO, rfl⟩ := own_sl ho7
  have HOP := Lib.hid hop
  have HO7 := Lib.hid ho7
  have hz7 := hg7.size
  have hOl : O.length = es.length := by have := hop.length_eq; rwa [nums_len] at this
  have HOL := Lib.hid hOl
  have HOB : Hid (∀ y ∈ O, 0 ≤ y ∧ y < (es.length : Int)) := (show Hid _ from fun y hy => nums_bd es.length y (hop.mem_iff.1 hy))
  have HPV7 := Lib.hid (HPV6.out.grown hg7 (by omega))
  have HLV7 := Lib.hid (HLV6.out.grown hg7 (by omega))
  have HB7 : Hid (Below w.heap.size w w7) := (show Hid _ from HB6.out.grown hg7 HB6.out.size (fun k hk => by injection hk with hk; omega))
  have HH7 : Hid (w7.heap[H]? = some (.cells #[.int .i64 B, .slice Ap ps.length cp] 25 (0, 0))) := (show Hid _ from (hg7.block H hH6 (by simp; omega)).trans HH0w6.out)
  have hH7 := heap_of_cells HH7.out
  have hwz7 := HB7.out.size
  have HXH : Hid (∀ W, Below w7.heap.size w7 W → W.cell? ⟨H, 0, none⟩ = some (.int .i64 B) ∧ W.cell? ⟨H, 1, none⟩ = some (.slice Ap ps.length cp)) := (show Hid _ from fun W hW => by
    have e1 := (hW.block H hH7).trans HH7.out
    exact ⟨cell_of_row W H 0 _ _ _ e1, cell_of_row W H 1 _ _ _ e1⟩)
  have hO9 : O.length ≤ 9 := by omega
  clear hop ho7 hd7 hg7 hOl
  go_wp2_with fail
  go_loopw [9, 38] (fun ov iv wr => ∃ k : Nat, k ≤ O.length ∧ iv = .int .i64 k ∧ wr.ownsRow w7.heap.size 41 2 ov (mOf es O k).length ((mOf es O k).flatMap ecs) ∧ Below w7.heap.size w7 wr) (fun _ iv _ => O.length - (intOf iv).toNat)
  case atStart => exact ⟨0, Nat.zero_le _, rfl, World.ownsRow_nil _ _ _ _, Below.refl _ _⟩
  case round =>
    obtain ⟨k, hk, rfl, ho, hb⟩ := hrel
    have HO := Lib.hid ho
    have HB := Lib.hid hb
    have hzr := hb.size
    clear ho hb
    by_cases hkt : k < O.length
    · -- {A
      obtain ⟨gO, cgO, eO, _, _⟩ := own_form HO7.out (by omega)
      injection eO with eO1 eO2 eO3
      subst eO1
      have hyb := HOB.out _ (List.getElem_mem hkt)
      have d0 : wr.cell? ⟨gO, k, none⟩ = some (.int .i64 O[k]) := (HB.out.cell (p := ⟨gO, k, none⟩) (HO7.out.lt gO rfl).2).trans (own_int HO7.out k hkt)
      have hsc := mOf_succ (es := es) hkt
      obtain ⟨y, ey⟩ : ∃ y, y = O[k] := ⟨_, rfl⟩
      rw [← ey] at d0 hyb hsc
      obtain ⟨j, rfl⟩ : ∃ j : Nat, y = j := ⟨y.toNat, by omega⟩
      have hje : j < es.length := by omega
      obtain ⟨_, hat⟩ := HLV7.out.sv.at
      obtain ⟨p, o, rfl, hp, hcell⟩ := hat j hje
      obtain ⟨key, ek⟩ : ∃ k', k' = es[j].1 := ⟨_, rfl⟩
      obtain ⟨n, en⟩ : ∃ n, n = es[j].2 := ⟨_, rfl⟩
      have c0 : wr.cell? ⟨p, o + j * 2, none⟩ = some (.string key) := by rw [ek]; exact hcell wr HB.out 0 (by omega)
      have c1 : wr.cell? ⟨p, o + j * 2 + 1, none⟩ = some (.int .i64 n) := by rw [en]; exact hcell wr HB.out 1 (by omega)
      have hgd : es.getD j nilE = (key, n) := by rw [ek, en]; simp [hje]
      rw [Int.toNat_natCast, hgd] at hsc
      have HSC := Lib.hid hsc
      have hml : (mOf es O k).length = k := mOf_len hk
      have z0 : 0 ≤ (k : Int) := by omega
      have z1 : (k : Int) < (O.length : Int) := by omega
      have z2 : 0 ≤ (j : Int) := by omega
      have z3 : (j : Int) < (es.length : Int) := by omega
      have wk : IntKind.i64.wrap ((k : Int) + 1) = (k : Int) + 1 := by exact IntWalk.i64_in _ (by omega)
      have hm6 : (mOf es O k).length + 1 ≤ 1000000 := by omega
      clear hat hcell ek en hgd hsc hml ey eO2 eO3
      go_wp2_with (at_builtin; refine wpList_append_el ecs _ rfl _ _ 29 rfl w7.heap.size 41 _ 2 24 Try.underlying29 einfo rfl (by omega) (by omega) _ (mOf es O k) (by rfl) (by exact HO.out) (key, n) rfl (ecs_one _) (by rfl) ?c1 ?c2 ?_)
      intro v4 w4' ho4 hg4
      have HO4 : Hid (w4'.ownsRow w7.heap.size 41 2 v4 (mOf es O (k + 1)).length ((mOf es O (k + 1)).flatMap ecs)) := (show Hid _ from by
        show World.ownsRow _ _ _ _ _ _ _
        rw [HSC.out]
        simpa using ho4)
      have HB4 : Hid (Below w7.heap.size w7 w4') := (show Hid _ from (HB.out.alloc hzr _).grown hg4 (by simp; omega) (fun k hk => (HO.out.lt k hk).1))
      clear ho4 hg4
      go_wp2_with fail
      go_roundw
      case rel => exact ⟨k + 1, hkt, by go_num, HO4.out, HB4.out⟩
      case measure => simp [intOf]; omega
      -- A}
    · have hke : k = O.length := by omega
      subst hke
      have hmp := mOf_perm HOP.out
      obtain ⟨ml, eml⟩ : ∃ ml, ml = mOf es O O.length := ⟨_, rfl⟩
      rw [← eml] at hmp HO
      have hmll : ml.length ≤ 9 := by rw [hmp.length_eq]; exact hel9
      have HMP := Lib.hid hmp
      obtain ⟨Am, cm, em⟩ := own_sl HO.out
      subst em
      have HSM : Hid (SV ecs 2 wr.heap.size wr (.slice Am ml.length cm) ml) := (show Hid _ from SV.of_own HO.out (fun x _ => ecs_len x))
      have HEM : Hid (EnV ml) := (show Hid _ from HES.out.env.perm hmp.symm)
      have HMS : Hid (∀ e ∈ ml, e.1.size ≤ 9223372036854775807) := (show Hid _ from fun e he => HES.out.size e (hmp.mem_iff.1 he))
      have HPVr : Hid (SG pcs 2 wr.heap.size wr (.slice Ap ps.length cp) ps) := (show Hid _ from ((HPV7.out.sg HV.out).below HB.out).more hzr)
      have HLVr : Hid (SV ecs 2 wr.heap.size wr (.slice Al es.length cl) es) := (show Hid _ from HLV7.out.sv.on HB.out)
      have HBWr : Hid (Below w.heap.size w wr) := (show Hid _ from HB7.out.trans (HB.out.mono hwz7))
      obtain ⟨wa, rfl⟩ : ∃ wa : World, wa = wr := ⟨_, rfl⟩
      obtain ⟨x0, x1⟩ := HXH.out wa HB.out
      clear eml hmp
      go_wp2_with fail
      (with_reducible refine (kbuild_any B ps sl es _ _ wa HV.out hs1 (by omega) HES.out.size (by omega) HPVr.out HLVr.out).mono ?_)
      rintro e w9 ⟨hb9, hres⟩
      have HB9 := Lib.hid hb9
      have hz9 := hb9.size
      have HX9 : Hid (Below w7.heap.size w7 w9) := (show Hid _ from HB.out.trans (hb9.mono hzr))
      have HB9W : Hid (Below w.heap.size w w9) := (show Hid _ from HBWr.out.trans (hb9.mono HBWr.out.size))
      rcases hres with ⟨hne, _⟩ | ⟨_, S, hp, ha, hres⟩
      · exact absurd (ecode_ok HES.out.env) hne
      have HP := Lib.hid hp
      have HA := Lib.hid ha
      clear hp ha hb9 x0 x1
      rcases hres with ⟨hno, rfl⟩ | ⟨out, pv2, ev2, hlx, rfl, ho9, hsl9⟩
      · simp only [noDir]
        have HNO := Lib.hid hno
        obtain ⟨D, eD⟩ : ∃ D, D = w9.heap.size := ⟨_, rfl⟩
        obtain ⟨w10, ew10⟩ : ∃ w10 : World, w10 = w9.alloc (.cells #[.int .i64 0, .slice none 0 0, .int .i64 0, .slice none 0 0] 28) := ⟨_, rfl⟩
        have HWw10 : Hid (w9.alloc (.cells #[.int .i64 0, .slice none 0 0, .int .i64 0, .slice none 0 0] 28) = w10) := ew10.symm
        have HAw10 : Hid (Below w9.heap.size w9 w10) := (show Hid _ from by rw [ew10]; exact (Below.refl _ w9).alloc (Nat.le_refl _) _)
        have HD0w10 : Hid (w10.heap[D]? = some (.cells #[.int .i64 0, .slice none 0 0, .int .i64 0, .slice none 0 0] 28 (0, 0))) := (show Hid _ from by show _ = _; rw [ew10, eD]; exact heap_alloc_new w9 _)
        have HX10 : Hid (Below w7.heap.size w7 w10) := (show Hid _ from HX9.out.trans (HAw10.out.mono HX9.out.size))
        have HB10W : Hid (Below w.heap.size w w10) := (show Hid _ from HB9W.out.trans (HAw10.out.mono HB9W.out.size))
        have HBa : Hid (Below wa.heap.size wa w10) := (show Hid _ from HB9.out.trans (HAw10.out.mono hz9))
        go_upto_region 14 with fail
        rw [HWw10.out, ← eD]
        clear ew10 eD
        obtain ⟨x0, x1⟩ := HXH.out w10 HX10.out
        go_wp2_with fail
        (with_reducible refine (kbuild_any B ps sl ml _ _ w10 HV.out hs1 (by omega) HMS.out (by omega) ((HPVr.out.below HBa.out).more HBa.out.size) (HSM.out.on HBa.out)).mono ?_)
        rintro e w11 ⟨hb11, hres⟩
        rcases hres with ⟨hne, _⟩ | ⟨_, S2, hp2, ha2, hres⟩
        · exact absurd (ecode_ok HEM.out) hne
        obtain rfl : S2 = S := Asc.uniq ha2 HA.out (hp2.trans (HMP.out.trans HP.out.symm))
        obtain rfl : e = .returned (.tuple #[noDir, .int .i64 15]) := by
          rcases hres with ⟨_, h⟩ | ⟨out2, _, _, hlx2, _⟩
          · exact h
          · exact absurd ⟨out2, hlx2.asg⟩ HNO.out
        simp only [noDir]
        have HX11 := Lib.hid hb11
        obtain ⟨E, eE⟩ : ∃ E, E = w11.heap.size := ⟨_, rfl⟩
        obtain ⟨w12, ew12⟩ : ∃ w12 : World, w12 = w11.alloc (.cells #[.int .i64 0, .slice none 0 0, .int .i64 0, .slice none 0 0] 28) := ⟨_, rfl⟩
        have HWw12 : Hid (w11.alloc (.cells #[.int .i64 0, .slice none 0 0, .int .i64 0, .slice none 0 0] 28) = w12) := ew12.symm
        have HAw12 : Hid (Below w11.heap.size w11 w12) := (show Hid _ from by rw [ew12]; exact (Below.refl _ w11).alloc (Nat.le_refl _) _)
        have HE0w12 : Hid (w12.heap[E]? = some (.cells #[.int .i64 0, .slice none 0 0, .int .i64 0, .slice none 0 0] 28 (0, 0))) := (show Hid _ from by show _ = _; rw [ew12, eE]; exact heap_alloc_new w11 _)
        have HB12W : Hid (Below w.heap.size w w12) := (show Hid _ from HB10W.out.trans ((HX11.out.trans (HAw12.out.mono HX11.out.size)).mono HB10W.out.size))
        have HDw12 : Hid (w12.heap[D]? = some (.cells #[.int .i64 0, .slice none 0 0, .int .i64 0, .slice none 0 0] 28 (0, 0))) := (show Hid _ from (HAw12.out.block D (Nat.lt_of_lt_of_le (heap_of_cells HD0w10.out) HX11.out.size)).trans ((HX11.out.block D (heap_of_cells HD0w10.out)).trans HD0w10.out))
        clear x0 x1 hb11 hp2 ha2
        go_upto_region 15 with fail
        rw [HWw12.out, ← eE]
        clear ew12 eE
        obtain ⟨d0, d1, d2, d3, _⟩ := dir_cells HDw12.out
        obtain ⟨e0, e1, e2, e3, _⟩ := dir_cells HE0w12.out
        go_wp2_with fail
        (with_reducible refine (rsameD_any 0 0 0 0 [] [] [] [] _ _ _ _ w12 (SV.nil _ _) (SV.nil _ _) (SLe.none _ _) (SLe.none _ _) (by simp) (by simp) (by simp) (by simp)).mono ?_)
        rintro e w13 ⟨rfl, hb13⟩
        have HB13 : Hid (Below w.heap.size w w13) := (show Hid _ from HB12W.out.trans (hb13.mono HB12W.out.size))
        rw [show DirE (0, [], 0, []) (0, [], 0, []) = true from dirE_yes rfl rfl rfl rfl]
        clear hb13
        by_cases hn0 : es.length = 0
        · have hq : ((es.length : Int) == 0) = true := by rw [beq_iff_eq]; omega
          clear hn0
          go_wp2_with fail
          all_goals go_ret
          all_goals exact ⟨rfl, HB13.out⟩
        · have hq : ((es.length : Int) == 0) = false := by rw [beq_eq_false_iff_ne]; omega
          clear hn0
          go_wp2_with fail
          all_goals go_ret
          all_goals exact ⟨rfl, HB13.out⟩
      · obtain ⟨Aq, cq, rfl⟩ := own_sl ho9
        obtain ⟨bs, ebs⟩ : ∃ bs, bs = dist S out B := ⟨_, rfl⟩
        rw [← ebs] at hsl9
        obtain ⟨Ae, ce, rfl⟩ := hsl9.form
        have HLX := Lib.hid hlx
        have HEB := Lib.hid ebs
        have HQ9 : Hid (SV hcs 2 w9.heap.size w9 (.slice Aq ps.length cq) ps) := (show Hid _ from SV.of_own ho9 (fun x _ => hcs_len x))
        have HSE9 : Hid (SLe w9.heap.size w9 (.slice Ae bs.length ce) bs) := (show Hid _ from hsl9.sle2)
        have hbl : bs.length = B := by rw [ebs, dist_len]
        have hB64 := HV.out.b2
        have hp4 := HV.out.l2
        have HROW : Hid (∀ l ∈ bs, l.length ≤ 1000000) := (show Hid _ from fun l hl => by
          obtain ⟨b, hb, rfl⟩ := List.getElem_of_mem hl
          subst ebs
          have h1 := (dist_sub hb).length_le
          have h2 := HP.out.length_eq
          omega)
        have hb64 : bs.length ≤ 64 := by omega
        clear hlx ebs ho9 hsl9 hbl
        obtain ⟨D, eD⟩ : ∃ D, D = w9.heap.size := ⟨_, rfl⟩
        obtain ⟨w10, ew10⟩ : ∃ w10 : World, w10 = w9.alloc (.cells #[.int .i64 B, .slice Aq ps.length cq, .int .i64 sl, .slice Ae bs.length ce] 28) := ⟨_, rfl⟩
        have HWw10 : Hid (w9.alloc (.cells #[.int .i64 B, .slice Aq ps.length cq, .int .i64 sl, .slice Ae bs.length ce] 28) = w10) := ew10.symm
        have HAw10 : Hid (Below w9.heap.size w9 w10) := (show Hid _ from by rw [ew10]; exact (Below.refl _ w9).alloc (Nat.le_refl _) _)
        have HD0w10 : Hid (w10.heap[D]? = some (.cells #[.int .i64 B, .slice Aq ps.length cq, .int .i64 sl, .slice Ae bs.length ce] 28 (0, 0))) := (show Hid _ from by show _ = _; rw [ew10, eD]; exact heap_alloc_new w9 _)
        have HX10 : Hid (Below w7.heap.size w7 w10) := (show Hid _ from HX9.out.trans (HAw10.out.mono HX9.out.size))
        have HB10W : Hid (Below w.heap.size w w10) := (show Hid _ from HB9W.out.trans (HAw10.out.mono HB9W.out.size))
        have HBa : Hid (Below wa.heap.size wa w10) := (show Hid _ from HB9.out.trans (HAw10.out.mono hz9))
        go_upto_region 14 with fail
        rw [HWw10.out, ← eD]
        clear ew10 eD
        obtain ⟨x0, x1⟩ := HXH.out w10 HX10.out
        go_wp2_with fail
        (with_reducible refine (kbuild_any B ps sl ml _ _ w10 HV.out hs1 (by omega) HMS.out (by omega) ((HPVr.out.below HBa.out).more HBa.out.size) (HSM.out.on HBa.out)).mono ?_)
        rintro e w11 ⟨hb11, hres⟩
        rcases hres with ⟨hne, _⟩ | ⟨_, S2, hp2, ha2, hres⟩
        · exact absurd (ecode_ok HEM.out) hne
        obtain rfl : S2 = S := Asc.uniq ha2 HA.out (hp2.trans (HMP.out.trans HP.out.symm))
        obtain ⟨out2, pv3, ev3, hlx2, rfl, ho11, hsl11⟩ : ∃ out2 pv ev, LexF (hss B ps S2) (fun _ => sl) out2 ∧ e = .returned (.tuple #[.agg #[.int .i64 B, pv, .int .i64 sl, ev], .int .i64 0]) ∧ w11.ownsRow w10.heap.size 69 2 pv ps.length (ps.flatMap hcs) ∧ SLo w10.heap.size w11 ev (dist S2 out2 B) := by
          rcases hres with ⟨hno, _⟩ | h
          · exact absurd ⟨out, HLX.out.asg⟩ hno
          · exact h
        obtain rfl : out2 = out := LexF.uniq hlx2 HLX.out
        rw [← HEB.out] at hsl11
        obtain ⟨Ar, cr, rfl⟩ := own_sl ho11
        obtain ⟨Af, cf, rfl⟩ := hsl11.form
        have HX11 := Lib.hid hb11
        obtain ⟨E, eE⟩ : ∃ E, E = w11.heap.size := ⟨_, rfl⟩
        obtain ⟨w12, ew12⟩ : ∃ w12 : World, w12 = w11.alloc (.cells #[.int .i64 B, .slice Ar ps.length cr, .int .i64 sl, .slice Af bs.length cf] 28) := ⟨_, rfl⟩
        have HWw12 : Hid (w11.alloc (.cells #[.int .i64 B, .slice Ar ps.length cr, .int .i64 sl, .slice Af bs.length cf] 28) = w12) := ew12.symm
        have HAw12 : Hid (Below w11.heap.size w11 w12) := (show Hid _ from by rw [ew12]; exact (Below.refl _ w11).alloc (Nat.le_refl _) _)
        have HE0w12 : Hid (w12.heap[E]? = some (.cells #[.int .i64 B, .slice Ar ps.length cr, .int .i64 sl, .slice Af bs.length cf] 28 (0, 0))) := (show Hid _ from by show _ = _; rw [ew12, eE]; exact heap_alloc_new w11 _)
        have HB912 : Hid (Below w9.heap.size w9 w12) := (show Hid _ from HAw10.out.trans ((HX11.out.trans (HAw12.out.mono HX11.out.size)).mono HAw10.out.size))
        have HB12W : Hid (Below w.heap.size w w12) := (show Hid _ from HB10W.out.trans ((HX11.out.trans (HAw12.out.mono HX11.out.size)).mono HB10W.out.size))
        have HX12 : Hid (Below w7.heap.size w7 w12) := (show Hid _ from HX10.out.trans ((HX11.out.trans (HAw12.out.mono HX11.out.size)).mono HX10.out.size))
        have HDw12 : Hid (w12.heap[D]? = some (.cells #[.int .i64 B, .slice Aq ps.length cq, .int .i64 sl, .slice Ae bs.length ce] 28 (0, 0))) := (show Hid _ from (HAw12.out.block D (Nat.lt_of_lt_of_le (heap_of_cells HD0w10.out) HX11.out.size)).trans ((HX11.out.block D (heap_of_cells HD0w10.out)).trans HD0w10.out))
        have HQ12 : Hid (SV hcs 2 w12.heap.size w12 (.slice Aq ps.length cq) ps) := (show Hid _ from HQ9.out.on HB912.out)
        have HR12 : Hid (SV hcs 2 w12.heap.size w12 (.slice Ar ps.length cr) ps) := (show Hid _ from (SV.of_own ho11 (fun x _ => hcs_len x)).on HAw12.out)
        have HSE12 : Hid (SLe w12.heap.size w12 (.slice Ae bs.length ce) bs) := (show Hid _ from HSE9.out.on HB912.out)
        have HSF12 : Hid (SLe w12.heap.size w12 (.slice Af bs.length cf) bs) := (show Hid _ from hsl11.sle2.on HAw12.out)
        clear x0 x1 hb11 hp2 ha2 hlx2 ho11 hsl11
        go_upto_region 15 with fail
        rw [HWw12.out, ← eE]
        clear ew12 eE
        obtain ⟨d0, d1, d2, d3⟩ := dir_at HDw12.out
        obtain ⟨e0, e1, e2, e3⟩ := dir_at HE0w12.out
        go_wp2_with fail
        (with_reducible refine (rsameD_any B B sl sl ps ps bs bs _ _ _ _ w12 HQ12.out HR12.out HSE12.out HSF12.out (by omega) (by omega) HROW.out HROW.out).mono ?_)
        rintro e w13 ⟨rfl, hb13⟩
        have HB13 : Hid (Below w.heap.size w w13) := (show Hid _ from HB12W.out.trans (hb13.mono HB12W.out.size))
        have HX13 : Hid (Below w7.heap.size w7 w13) := (show Hid _ from HX12.out.trans (hb13.mono HX12.out.size))
        rw [show DirE ((B : Int), ps, (sl : Int), bs) ((B : Int), ps, (sl : Int), bs) = true from dirE_yes rfl rfl rfl rfl]
        clear hb13 d0 d1 d2 d3 e0 e1 e2 e3
        by_cases hn0 : es.length = 0
        · have hq : ((es.length : Int) == 0) = true := by rw [beq_iff_eq]; omega
          clear hn0
          go_wp2_with fail
          all_goals go_ret
          all_goals exact ⟨rfl, HB13.out⟩
        · have hq : ((es.length : Int) == 0) = false := by rw [beq_eq_false_iff_ne]; omega
          have hnz : ¬ ((es.length : Int) = 0) := by omega
          obtain ⟨K, eK⟩ : ∃ K, K = lx % es.length := ⟨_, rfl⟩
          have hKn : K < es.length := by rw [eK]; exact Nat.mod_lt _ (by omega)
          have hK1 : (lx : Int) % (es.length : Int) = (K : Int) := by rw [eK]; rfl
          have hK2 : (lx : Int).tmod (es.length : Int) = (K : Int) := by rw [Int.tmod_eq_emod_of_nonneg (by omega), hK1]
          clear eK
          have HLVx : Hid (SV ecs 2 w13.heap.size w13 (.slice Al es.length cl) es) := (show Hid _ from HLV7.out.sv.on HX13.out)
          have hcl : es.length ≤ cl ∧ cl ≤ 9223372036854775807 := by obtain ⟨A', c', e', h1, h2, _⟩ := HLVx.out; injection e' with _ _ e3; subst e3; exact ⟨h1, h2⟩
          obtain ⟨ba, oa, rfl⟩ : ∃ b off, Al = some ⟨b, off, none⟩ := by
            obtain ⟨A', c', e', h1, h2, h3⟩ := HLVx.out
            injection e' with e1 _ _
            obtain ⟨b, off, e, _⟩ := h3 (by omega)
            exact ⟨b, off, e1.trans e⟩
          have HT1 : Hid (∀ W, Below w13.heap.size w13 W → SV ecs 2 W.heap.size W (.slice (some ⟨ba, oa, none⟩) K K) (es.take K)) := (show Hid _ from fun W hW => (HLVx.out.on hW).take (by omega))
          obtain ⟨A2, hA2, ht2⟩ : ∃ A2, (if cl = K + 1 then some (⟨ba, oa, none⟩ : Addr) else some ⟨ba, oa + (K + 1) * 2, none⟩) = A2 ∧ ∀ W, Below w13.heap.size w13 W → SV ecs 2 W.heap.size W (.slice A2 (es.length - (K + 1)) (cl - (K + 1))) (es.drop (K + 1)) := by
            refine ⟨_, rfl, fun W hW => ?_⟩
            by_cases hk1 : K + 1 < es.length
            · obtain ⟨A', eA', hs⟩ := (HLVx.out.on hW).drop hk1
              rw [eA'] at hs
              exact hs
            · have hd : es.drop (K + 1) = [] := List.drop_of_length_le (by omega)
              have h0 : es.length - (K + 1) = 0 := by omega
              rw [hd, h0]
              exact ⟨_, _, rfl, Nat.zero_le _, by omega, fun h => by simp at h⟩
          have HT2 := Lib.hid ht2
          have HBU : Hid (∀ (w : World) (e : Ending) (w' : World), BuP B ps sl (es.take K ++ es.drop (K + 1)) w e w' → Below w.heap.size w w' ∧ ∃ A n c A' n' c', e = .returned (.tuple #[.agg #[.int .i64 B, .slice A n c, .int .i64 sl, .slice A' n' c'], .int .i64 0])) := (show Hid _ from fun w e w' h => by
            obtain ⟨hb, h⟩ := h
            refine ⟨hb, ?_⟩
            have hee : es.take K ++ es.drop (K + 1) = es.eraseIdx K := (List.eraseIdx_eq_take_drop_succ ..).symm
            rw [hee] at h
            have henv : EnV (es.eraseIdx K) := HES.out.env.sub (List.eraseIdx_sublist ..)
            rcases h with ⟨hne, _⟩ | ⟨_, S', hp', ha', h⟩
            · exact absurd (ecode_ok henv) hne
            rcases h with ⟨hno, _⟩ | ⟨_, pv, ev, _, he, hpo, hso⟩
            · exact absurd (order_less hKn HP.out HA.out hp' ha' ⟨_, HLX.out.asg⟩) hno
            · obtain ⟨A, c, rfl⟩ := own_sl hpo
              obtain ⟨A', c', rfl⟩ := hso.form
              exact ⟨_, _, _, _, _, _, he⟩)
          have HSZ : Hid (∀ e ∈ es.take K ++ es.drop (K + 1), e.1.size ≤ 9223372036854775807) := (show Hid _ from fun e he => by
            rcases List.mem_append.1 he with h | h
            · exact HES.out.size e (List.mem_of_mem_take h)
            · exact HES.out.size e (List.mem_of_mem_drop h))
          have hl9 : (es.take K ++ es.drop (K + 1)).length ≤ 256 := by rw [List.length_append, List.length_take, List.length_drop]; omega
          have htl : (es.take K).length = K := by rw [List.length_take]; omega
          have hdl : (es.take K).length + (es.drop (K + 1)).length ≤ 1000000 := by rw [List.length_take, List.length_drop]; omega
          have HTL := Lib.hid htl
          have HDL := Lib.hid hdl
          have HPx : Hid (∀ W, Below w13.heap.size w13 W → SG pcs 2 W.heap.size W (.slice Ap ps.length cp) ps) := (show Hid _ from fun W hW => ((HPV7.out.sg HV.out).below (HX13.out.trans (hW.mono HX13.out.size))).more (HX13.out.trans (hW.mono HX13.out.size)).size)
          have HHx : Hid (∀ W, Below w13.heap.size w13 W → W.cell? ⟨H, 0, none⟩ = some (.int .i64 B) ∧ W.cell? ⟨H, 1, none⟩ = some (.slice Ap ps.length cp)) := (show Hid _ from fun W hW => HXH.out W (HX13.out.trans (hW.mono HX13.out.size)))
          obtain ⟨x0, x1⟩ := HHx.out w13 (Below.refl _ _)
          have z0 : (0 : Int) ≤ (K : Int) := by omega
          have z1 : (K : Int) ≤ (cl : Int) := by omega
          have z2 : (K : Int) ≤ (es.length : Int) := by omega
          have z3 : (0 : Int) ≤ (K : Int) + 1 := by omega
          have z4 : (K : Int) + 1 ≤ (es.length : Int) := by omega
          have z5 : IntKind.i64.wrap ((K : Int) + 1) = (K : Int) + 1 := by exact IntWalk.i64_in _ (by omega)
          have HB13' : Hid (∀ W, Below w13.heap.size w13 W → Below w.heap.size w W) := (show Hid _ from fun W hW => HB13.out.trans (hW.mono HB13.out.size))
          have HHlt : Hid (H < w13.heap.size) := (show Hid _ from Nat.lt_of_lt_of_le hH7 HX13.out.size)
          clear ht2 htl hdl
          go_upto_region 20 with fail
          go_region_held3 (fun w' => w'.cell? ⟨H, 0, none⟩ = some (.int .i64 B) ∧ w'.cell? ⟨H, 1, none⟩ = some (.slice Ap ps.length cp)) (first | exact ⟨x0, x1⟩ | exact ⟨y0, y1⟩ | exact ⟨(set4_far _ _ H 0 _ _ _ _ q8).trans y0, (set4_far _ _ H 1 _ _ _ _ q8).trans y1⟩ | go_keep)
            (first
              | (refine step_append_cutE ecs _ (by rfl) (.tmp 99) (.tmp 103) 29 (by rfl) 41 _ 24 Try.underlying29 einfo (by omega) (by omega) ecs_len ecs_one (some ⟨ba, oa, none⟩) K (.slice A2 (es.length - (K + 1)) (cl - (K + 1))) (es.take K) (es.drop (K + 1)) (by rfl) (by rfl) HTL.out (by exact HT1.out _ ((Below.refl _ _).drew)) (by exact HT2.out _ ((Below.refl _ _).drew)) HDL.out ?_; intro A9 c9 w9x hb9x hs9x; have HB9x : Hid (Below w13.heap.size w13 w9x) := (show Hid _ from ⟨hb9x.os, hb9x.tape, hb9x.output, hb9x.size, hb9x.block⟩); rw [List.length_append, List.length_take, List.length_drop] at hs9x; have HS9x := Lib.hid hs9x; obtain ⟨y0, y1⟩ := HHx.out w9x HB9x.out; clear hb9x hs9x)
              | (refine step_append_cutE ecs _ (by rfl) (.tmp 99) (.tmp 103) 29 (by rfl) 41 _ 24 Try.underlying29 einfo (by omega) (by omega) ecs_len ecs_one (some ⟨ba, oa, none⟩) K (.slice A2 (es.length - (K + 1)) (cl - (K + 1))) (es.take K) (es.drop (K + 1)) (by rfl) (by rfl) HTL.out (by exact HT1.out _ (((Below.refl _ w13).alloc (Nat.le_refl _) _).drew)) (by exact HT2.out _ (((Below.refl _ w13).alloc (Nat.le_refl _) _).drew)) HDL.out ?_; intro A9 c9 w9x hb9x hs9x; have hD9 : w9x.heap[w13.heap.size]? = some (.cells #[.int .i64 0, .slice none 0 0, .int .i64 0, .slice none 0 0] 28 (0, 0)) := (hb9x.block _ (by simp)).trans (by first | exact heap_alloc_new w13 _ | exact heap_alloc_new w13.drew _); have HDz := Lib.hid hD9; have HB9x : Hid (Below w13.heap.size w13 w9x) := (show Hid _ from (((Below.refl _ w13).alloc (Nat.le_refl _) _).drew).trans (hb9x.mono (by simp))); clear hD9; rw [List.length_append, List.length_take, List.length_drop] at hs9x; have HS9x := Lib.hid hs9x; obtain ⟨y0, y1⟩ := HHx.out w9x HB9x.out; clear hb9x hs9x)
              | (refine step_append_cutE ecs _ (by rfl) (.tmp 99) (.tmp 103) 29 (by rfl) 41 _ 24 Try.underlying29 einfo (by omega) (by omega) ecs_len ecs_one (some ⟨ba, oa, none⟩) K (.slice A2 (es.length - (K + 1)) (cl - (K + 1))) (es.take K) (es.drop (K + 1)) (by rfl) (by rfl) HTL.out (by exact HT1.out _ (((Below.refl _ w13).drew).alloc (Nat.le_refl _) _)) (by exact HT2.out _ (((Below.refl _ w13).drew).alloc (Nat.le_refl _) _)) HDL.out ?_; intro A9 c9 w9x hb9x hs9x; have hD9 : w9x.heap[w13.heap.size]? = some (.cells #[.int .i64 0, .slice none 0 0, .int .i64 0, .slice none 0 0] 28 (0, 0)) := (hb9x.block _ (by simp)).trans (by first | exact heap_alloc_new w13 _ | exact heap_alloc_new w13.drew _); have HDz := Lib.hid hD9; have HB9x : Hid (Below w13.heap.size w13 w9x) := (show Hid _ from (((Below.refl _ w13).drew).alloc (Nat.le_refl _) _).trans (hb9x.mono (by simp))); clear hD9; rw [List.length_append, List.length_take, List.length_drop] at hs9x; have HS9x := Lib.hid hs9x; obtain ⟨y0, y1⟩ := HHx.out w9x HB9x.out; clear hb9x hs9x)
              | (revert HDz; intro HDz; go_at_call 26; refine (kbuild_any B ps sl (es.take K ++ es.drop (K + 1)) _ _ _ HV.out hs1 (by omega) HSZ.out hl9 (by exact HPx.out _ (HB9x.out)) (by exact HS9x.out)).mono ?_; rintro e5 w15 h5; obtain ⟨hb15, A5, n5, c5, A5', n5', c5', rfl⟩ := HBU.out _ _ _ h5; have HB15 : Hid (Below w13.heap.size w13 w15) := (show Hid _ from HB9x.out.trans (hb15.mono HB9x.out.size)); have hD15 : w15.heap[w13.heap.size]? = some (.cells #[.int .i64 0, .slice none 0 0, .int .i64 0, .slice none 0 0] 28 (0, 0)) := (hb15.block _ (heap_of_cells HDz.out)).trans HDz.out; obtain ⟨t0, t1, t2, t3, f0, f1, f2, f3⟩ := dir_cells hD15; obtain ⟨y0, y1⟩ := HHx.out w15 HB15.out; have q8 : H ≠ w13.heap.size := Nat.ne_of_lt HHlt.out; have q9 : w.heap.size ≤ w13.heap.size := HB13.out.size; clear hD15 hb15 h5)
              | (go_at_call 26; refine (kbuild_any B ps sl (es.take K ++ es.drop (K + 1)) _ _ _ HV.out hs1 (by omega) HSZ.out hl9 (by exact HPx.out _ (HB9x.out.alloc HB9x.out.size _)) (by exact HS9x.out.on ((Below.refl _ w9x).alloc (Nat.le_refl _) _))).mono ?_; rintro e5 w15 h5; obtain ⟨hb15, A5, n5, c5, A5', n5', c5', rfl⟩ := HBU.out _ _ _ h5; have HB15 : Hid (Below w13.heap.size w13 w15) := (show Hid _ from (HB9x.out.alloc HB9x.out.size _).trans (hb15.mono (by have := HB9x.out.size; simp; omega))); have hD15 : w15.heap[w9x.heap.size]? = some (.cells #[.int .i64 0, .slice none 0 0, .int .i64 0, .slice none 0 0] 28 (0, 0)) := (hb15.block _ (by simp)).trans (heap_alloc_new w9x _); obtain ⟨t0, t1, t2, t3, f0, f1, f2, f3⟩ := dir_cells hD15; obtain ⟨y0, y1⟩ := HHx.out w15 HB15.out; have q8 : H ≠ w9x.heap.size := Nat.ne_of_lt (Nat.lt_of_lt_of_le HHlt.out HB9x.out.size); have q9 : w.heap.size ≤ w9x.heap.size := Nat.le_trans HB13.out.size HB9x.out.size; clear hD15 hb15 h5)
              | (go_at_call 26; refine (kbuild_any B ps sl (es.take K ++ es.drop (K + 1)) _ _ _ HV.out hs1 (by omega) HSZ.out hl9 (by exact HPx.out _ (HB9x.out)) (by exact HS9x.out)).mono ?_; rintro e5 w15 h5; obtain ⟨hb15, A5, n5, c5, A5', n5', c5', rfl⟩ := HBU.out _ _ _ h5; have HB15 : Hid (Below w13.heap.size w13 w15) := (show Hid _ from HB9x.out.trans (hb15.mono HB9x.out.size)); obtain ⟨y0, y1⟩ := HHx.out w15 HB15.out; clear hb15 h5))
          all_goals go_wp2_with fail
          all_goals go_ret
          all_goals first
            | exact ⟨rfl, (HB13'.out _ HB15.out).alloc (HB13'.out _ HB15.out).size _⟩
            | exact ⟨rfl, ((((HB13'.out _ HB15.out).setCell q9 _).setCell q9 _).setCell q9 _).setCell q9 _⟩
end Go.Proofs.Ytllnomembakboaa
