/- The factor of Newton's step in poly.Interpolate. -/
import Derived.Test.YtbgabipngdillaaIn
namespace Go.Proofs.Ytbgabipngdillaa
open Go.RowKit

theorem sub_any2 (P a b : Int) (w : World) (hP : 2 ≤ P ∧ P ≤ 65521) (ha : 0 ≤ a ∧ a < P) (hb : 0 ≤ b ∧ b < P) :
    Calls Try.prog 74 #[.int .i64 P, .int .i64 a, .int .i64 b] w fun e w' => e = .returned (.int .i64 ((a - b) % P)) ∧ w = w' :=
  (sub_any P a b w hP ha hb).mono fun e w' ⟨he, hw⟩ => ⟨by rw [he, Int.add_emod_right], hw⟩
noncomputable def reg23C : Code := ((Try.f53.body.bind (regionOf 23)).getD .skip)
set_option maxRecDepth 1000000 in
set_option maxHeartbeats 4000000 in
theorem reg23 (P x y : Int) (poly node : List Int) (vp vn : Value) (bv ov nv cv i : Nat) (w : World) (hp : prB P = true) (hx : 0 ≤ x ∧ x < P) (hy : 0 ≤ y ∧ y < P) (hep : els P poly = true) (hen : els P node = true) (hlp : poly.length ≤ 1000000) (hln : node.length ≤ 1000000) (hSp : SI w vp poly) (hSn : SI w vn node) (hi : i < nv) (hb : bv < w.heap.size) (hn0 : w.cell? ⟨bv, ov + i, none⟩ = some (.int .i64 y))
    (s0 s1 s2 s3 s4 s5 s6 s8 s9 s11 s12 s13 s14 s19 s20 s21 s22 s23 s24 s25 s26 s27 s28 s29 s30 s31 s32 s33 s34 s35 s36 s37 s38 s39 s40 s41 s42 s43 s44 s45 s46 s47 s48 s49 s50 s51 s52 s53 s54 s55 s56 s57 s58 s59 s60 s61 s62 s63 s64 s65 s66 s67 s68 s69 s70 s71 s72 s73 s74 s75 s76 s77 s78 s79 s80 s81 s82 s83 s84 s85 s86 s87 s88 s89 s90 s91 s92 s93 s94 s95 s96 s97 s98 s99 s100 s101 s102 s103 s104 s105 s106 s107 s108 s109 : Value) (Q : Exit → Act → World → Prop)
    (hK : ∀ (u70 u71 u72 u73 u74 u75 u76 u77 u78 u79 u80 u81 u82 u83 u84 u85 u86 u87 : Value) (w' : World), Below w.heap.size w w' → Q .normal ⟨List.toArray (s0 :: s1 :: s2 :: s3 :: s4 :: s5 :: s6 :: (Value.slice (some ⟨bv, ov, none⟩) nv cv) :: s8 :: s9 :: (Value.int .i64 P) :: s11 :: s12 :: s13 :: s14 :: (vp) :: (vn) :: (Value.int .i64 (i : Int)) :: (Value.int .i64 x) :: (Value.int .i64 (byN P (poly, node) (x, y))) :: s20 :: s21 :: s22 :: s23 :: s24 :: s25 :: s26 :: s27 :: s28 :: s29 :: s30 :: s31 :: s32 :: s33 :: s34 :: s35 :: s36 :: s37 :: s38 :: s39 :: s40 :: s41 :: s42 :: s43 :: s44 :: s45 :: s46 :: s47 :: s48 :: s49 :: s50 :: s51 :: s52 :: s53 :: s54 :: s55 :: s56 :: s57 :: s58 :: s59 :: s60 :: s61 :: s62 :: s63 :: s64 :: s65 :: s66 :: s67 :: s68 :: s69 :: u70 :: u71 :: u72 :: u73 :: u74 :: u75 :: u76 :: u77 :: u78 :: u79 :: u80 :: u81 :: u82 :: u83 :: u84 :: u85 :: u86 :: u87 :: s88 :: s89 :: s90 :: s91 :: s92 :: s93 :: s94 :: s95 :: s96 :: s97 :: s98 :: s99 :: s100 :: s101 :: s102 :: s103 :: s104 :: s105 :: s106 :: s107 :: s108 :: s109 :: []), []⟩ w') :
    Code.wp Try.prog reg23C Q ⟨List.toArray (s0 :: s1 :: s2 :: s3 :: s4 :: s5 :: s6 :: (Value.slice (some ⟨bv, ov, none⟩) nv cv) :: s8 :: s9 :: (Value.int .i64 P) :: s11 :: s12 :: s13 :: s14 :: (vp) :: (vn) :: (Value.int .i64 (i : Int)) :: (Value.int .i64 x) :: s19 :: s20 :: s21 :: s22 :: s23 :: s24 :: s25 :: s26 :: s27 :: s28 :: s29 :: s30 :: s31 :: s32 :: s33 :: s34 :: s35 :: s36 :: s37 :: s38 :: s39 :: s40 :: s41 :: s42 :: s43 :: s44 :: s45 :: s46 :: s47 :: s48 :: s49 :: s50 :: s51 :: s52 :: s53 :: s54 :: s55 :: s56 :: s57 :: s58 :: s59 :: s60 :: s61 :: s62 :: s63 :: s64 :: s65 :: s66 :: s67 :: s68 :: s69 :: s70 :: s71 :: s72 :: s73 :: s74 :: s75 :: s76 :: s77 :: s78 :: s79 :: s80 :: s81 :: s82 :: s83 :: s84 :: s85 :: s86 :: s87 :: s88 :: s89 :: s90 :: s91 :: s92 :: s93 :: s94 :: s95 :: s96 :: s97 :: s98 :: s99 :: s100 :: s101 :: s102 :: s103 :: s104 :: s105 :: s106 :: s107 :: s108 :: s109 :: []), []⟩ w := by
  have HK := Lib.hid hK
  have SP := Lib.hid hSp
  have SN := Lib.hid hSn
  have eP := Lib.hid hep
  have eN := Lib.hid hen
  have HP := Lib.hid hp
  have n0 := hn0
  have hbx := hb
  have L := Lib.hid (LB.of (Below.refl w.heap.size w))
  have hPb := prB_bd hp
  have h1 := val_bd hPb.1 poly x
  have h2 := val_bd hPb.1 node x
  have h3 := inv_bd hPb.1 (val P node x)
  obtain ⟨v1, e1⟩ : ∃ v, val P poly x = v := ⟨_, rfl⟩
  obtain ⟨v2, e2⟩ : ∃ v, val P node x = v := ⟨_, rfl⟩
  rw [e1] at h1
  rw [e2] at h2 h3
  have HBY : Hid ((y - v1) % P * inv P v2 % P = byN P (poly, node) (x, y)) := by show _ = _; rw [← e1, ← e2]; unfold byN; rw [Int.add_emod_right]
  have E1 := Lib.hid e1
  have E2 := Lib.hid e2
  clear hK hSp hSn hep hen hp hn0 hb e1 e2
  have h4 : 0 ≤ (y - v1) % P ∧ (y - v1) % P < P := ⟨Int.emod_nonneg _ (by omega), Int.emod_lt_of_pos _ (by omega)⟩
  have z1 : (0 : Int) ≤ (i : Int) := by omega
  have z2 : (i : Int) < (nv : Int) := by omega
  conv => arg 2; whnf
  go_region_held3 (fun w' => w'.cell? ⟨bv, ov + i, none⟩ = some (.int .i64 y)) (first | exact n0 | go_keep)
    (first
      | (go_at_call 68; refine (value_any P x poly vp _ hPb hx eP.out hlp (by exact SP.out)).mono ?_; rintro e wn ⟨rfl, hbn⟩; rw [E1.out]; have n0 := (hbn.cell (p := ⟨bv, ov + i, none⟩) hbx).trans n0; have SN := Lib.hid (SI.below (by exact SN.out) hbn); have hbx := Nat.lt_of_lt_of_le hbx hbn.size; have L := Lib.hid (LB.of (L.out.to.trans (Below.mono (Below.drew_left hbn) L.out.2.2.2.1))); clear eP)
      | (go_at_call 68; refine (value_any P x node vn _ hPb hx eN.out hln (by exact SN.out)).mono ?_; rintro e wn ⟨rfl, hbn⟩; rw [E2.out]; have n0 := (hbn.cell (p := ⟨bv, ov + i, none⟩) hbx).trans n0; have hbx := Nat.lt_of_lt_of_le hbx hbn.size; have L := Lib.hid (LB.of (L.out.to.trans (Below.mono hbn L.out.2.2.2.1))); clear eN)
      | (go_at_call 74; refine (sub_any2 P y v1 _ hPb hy h1).mono ?_; rintro e wn ⟨rfl, rfl⟩)
      | (go_at_call 75; refine (inverse_any P v2 _ HP.out h2).mono ?_; rintro e wn ⟨rfl, rfl⟩)
      | (go_at_call 73; refine (mul_any P _ _ _ hPb h4 h3).mono ?_; rintro e wn ⟨rfl, rfl⟩))
  all_goals
    have hk := HK.out
    rw [← HBY.out] at hk
    exact hk _ _ _ _ _ _ _ _ _ _ _ _ _ _ _ _ _ _ _ L.out.to

end Go.Proofs.Ytbgabipngdillaa
