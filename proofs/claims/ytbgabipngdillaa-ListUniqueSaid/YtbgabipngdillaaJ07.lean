/- Joined: In In2. -/
import Derived.Deep.RegionLaw
import Derived.Deep.AppendLies
import Derived.Test.YtbgabipngdillaaJ06
import Derived.Test.YtbgabipngdillaaJ01
namespace Go.Proofs.Ytbgabipngdillaa
open Go.RowKit

def regionOf (n : Nat) : Code → Option Code
  | .region k ops d => if k = n then some (.region k ops d) else none
  | .seq a b => (regionOf n a).or (regionOf n b)
  | .block _ c => regionOf n c
  | .loop c => regionOf n c
  | .scope c => regionOf n c
  | .cond _ a b => (regionOf n a).or (regionOf n b)
  | _ => none
/-- two rows of one's own, in different blocks -/
def TwoR (B : Nat) (w : World) (v : Value) (xs : List Int) (u : Value) (ys : List Int) : Prop :=
  w.ownsRow B 3 1 v xs.length (xs.map (Value.int .i64)) ∧ w.ownsRow B 3 1 u ys.length (ys.map (Value.int .i64)) ∧ ∀ k, v.ownBlock = some k → u.ownBlock ≠ some k
theorem TwoR.alloc {B : Nat} {w : World} {v u : Value} {xs ys : List Int} (h : TwoR B w v xs u ys) (o : Obj) : TwoR B (w.alloc o) v xs u ys := ⟨h.1.alloc _, h.2.1.alloc _, h.2.2⟩
theorem TwoR.app1 {B g cap : Nat} {w w' : World} {v u : Value} {xs ys zs : List Int} (h : TwoR B w v xs u ys) (hown : w'.ownsRow B 3 1 (.slice (some ⟨g, 0, none⟩) zs.length cap) zs.length (zs.map (Value.int .i64)))
    (hg : w.grownBy w' v.ownBlock) (hat : v.ownBlock = some g ∨ g = w.heap.size) : TwoR B w' (.slice (some ⟨g, 0, none⟩) zs.length cap) zs u ys := by
  refine ⟨hown, h.2.1.kept hg ?_, fun k hk => ?_⟩
  · cases hv : v.ownBlock with
    | none => cases hu : u.ownBlock <;> simp
    | some k => exact .inr (fun e => h.2.2 k hv e)
  · simp [Value.ownBlock] at hk
    subst hk
    rcases hat with e | e
    · exact h.2.2 _ e
    · intro e2
      have := (h.2.1.lt _ e2).2
      omega
theorem TwoR.swap {B : Nat} {w : World} {v u : Value} {xs ys : List Int} (h : TwoR B w v xs u ys) : TwoR B w u ys v xs := ⟨h.2.1, h.1, fun k h1 h2 => h.2.2 k h2 h1⟩
/-- what stays below a block, in words that a draw does not turn -/
def LB (B : Nat) (a w : World) : Prop := w.os = a.os ∧ w.tape = a.tape ∧ w.output = a.output ∧ a.heap.size ≤ w.heap.size ∧ ∀ i, i < B → w.heap[i]? = a.heap[i]?
theorem LB.of {B : Nat} {a w : World} (h : Below B a w) : LB B a w := ⟨h.os, h.tape, h.output, h.size, fun i hi => h.block i hi⟩
theorem LB.to {B : Nat} {a w : World} (h : LB B a w) : Below B a w := ⟨h.1, h.2.1, h.2.2.1, h.2.2.2.1, fun i hi => h.2.2.2.2 i hi⟩
theorem LB.al {B : Nat} {a w : World} (h : LB B a w) (hB : B ≤ a.heap.size) (o : Obj) : LB B a (w.alloc o) := LB.of (h.to.alloc (Nat.le_trans hB h.2.2.2.1) o)
theorem LB.gr {B : Nat} {a w w' : World} {r : Option Nat} (h : LB B a w) (hB : B ≤ a.heap.size) (hg : w.grownBy w' r) (hr : ∀ k, r = some k → B ≤ k) : LB B a w' := LB.of (h.to.grown hg (Nat.le_trans hB h.2.2.2.1) hr)
theorem cell_al {w : World} {p : Addr} {v : Value} (o : Obj) (h : w.cell? p = some v) : (w.alloc o).cell? p = some v :=
  (((Below.refl w.heap.size w).alloc (Nat.le_refl _) o).cell (World.block_lt_of_cell? w _ h)).trans h
theorem ne_own {B a n : Nat} {w : World} {v : Value} {xs : List Value} (h : w.ownsRow B 3 1 v n xs) (ha : w.heap.size ≤ a) : some a ≠ v.ownBlock := fun e => by
  have := (h.lt _ e.symm).2
  omega
theorem cells_next (w : World) (o : Obj) (u : Value) (t : TypeId) : ((w.alloc o).alloc (.cells #[u] t)).cell? ⟨w.heap.size + 1, 0, none⟩ = some u := by simp [go_sem]
noncomputable def reg5C : Code := ((Try.f53.body.bind (regionOf 5)).getD .skip)
set_option maxRecDepth 1000000 in
set_option maxHeartbeats 4000000 in
theorem reg5 (B G : Nat) (x y : Int) (xs ys : List Int) (v6 v7 : Value) (w : World) (hT : TwoR B w v6 xs v7 ys) (hx0 : w.cell? ⟨G, 0, none⟩ = some (.int .i64 x)) (hx1 : w.cell? ⟨G, 1, none⟩ = some (.int .i64 y)) (hG : ∀ k, v6.ownBlock = some k ∨ v7.ownBlock = some k → k ≠ G) (hGl : G < w.heap.size) (hB : B ≤ w.heap.size) (hxl : xs.length + 1 ≤ 17592186044416) (hyl : ys.length + 1 ≤ 17592186044416)
    (s0 s1 s2 s3 s4 s5 s8 s10 s11 s12 s13 s14 s15 s16 s17 s18 s19 s20 s21 s22 s23 s24 s25 s26 s27 s28 s29 s30 s31 s32 s33 s34 s35 s36 s37 s38 s39 s40 s41 s42 s43 s44 s45 s46 s47 s48 s49 s50 s51 s52 s53 s54 s55 s56 s57 s58 s59 s60 s61 s62 s63 s64 s65 s66 s67 s68 s69 s70 s71 s72 s73 s74 s75 s76 s77 s78 s79 s80 s81 s82 s83 s84 s85 s86 s87 s88 s89 s90 s91 s92 s93 s94 s95 s96 s97 s98 s99 s100 s101 s102 s103 s104 s105 s106 s107 s108 s109 : Value) (Q : Exit → Act → World → Prop)
    (hK : ∀ (u27 u28 u29 u30 u31 u32 u33 u34 u35 u36 : Value) (v6' v7' : Value) (w' : World), TwoR B w' v6' (xs ++ [x]) v7' (ys ++ [y]) → Below B w w' → Q .normal ⟨List.toArray (s0 :: s1 :: s2 :: s3 :: s4 :: s5 :: (v6') :: (v7') :: s8 :: (Value.pointer (some ⟨G, 0, none⟩)) :: s10 :: s11 :: s12 :: s13 :: s14 :: s15 :: s16 :: s17 :: s18 :: s19 :: s20 :: s21 :: s22 :: s23 :: s24 :: s25 :: s26 :: u27 :: u28 :: u29 :: u30 :: u31 :: u32 :: u33 :: u34 :: u35 :: u36 :: s37 :: s38 :: s39 :: s40 :: s41 :: s42 :: s43 :: s44 :: s45 :: s46 :: s47 :: s48 :: s49 :: s50 :: s51 :: s52 :: s53 :: s54 :: s55 :: s56 :: s57 :: s58 :: s59 :: s60 :: s61 :: s62 :: s63 :: s64 :: s65 :: s66 :: s67 :: s68 :: s69 :: s70 :: s71 :: s72 :: s73 :: s74 :: s75 :: s76 :: s77 :: s78 :: s79 :: s80 :: s81 :: s82 :: s83 :: s84 :: s85 :: s86 :: s87 :: s88 :: s89 :: s90 :: s91 :: s92 :: s93 :: s94 :: s95 :: s96 :: s97 :: s98 :: s99 :: s100 :: s101 :: s102 :: s103 :: s104 :: s105 :: s106 :: s107 :: s108 :: s109 :: []), []⟩ w') :
    Code.wp Try.prog reg5C Q ⟨List.toArray (s0 :: s1 :: s2 :: s3 :: s4 :: s5 :: (v6) :: (v7) :: s8 :: (Value.pointer (some ⟨G, 0, none⟩)) :: s10 :: s11 :: s12 :: s13 :: s14 :: s15 :: s16 :: s17 :: s18 :: s19 :: s20 :: s21 :: s22 :: s23 :: s24 :: s25 :: s26 :: s27 :: s28 :: s29 :: s30 :: s31 :: s32 :: s33 :: s34 :: s35 :: s36 :: s37 :: s38 :: s39 :: s40 :: s41 :: s42 :: s43 :: s44 :: s45 :: s46 :: s47 :: s48 :: s49 :: s50 :: s51 :: s52 :: s53 :: s54 :: s55 :: s56 :: s57 :: s58 :: s59 :: s60 :: s61 :: s62 :: s63 :: s64 :: s65 :: s66 :: s67 :: s68 :: s69 :: s70 :: s71 :: s72 :: s73 :: s74 :: s75 :: s76 :: s77 :: s78 :: s79 :: s80 :: s81 :: s82 :: s83 :: s84 :: s85 :: s86 :: s87 :: s88 :: s89 :: s90 :: s91 :: s92 :: s93 :: s94 :: s95 :: s96 :: s97 :: s98 :: s99 :: s100 :: s101 :: s102 :: s103 :: s104 :: s105 :: s106 :: s107 :: s108 :: s109 :: []), []⟩ w := by
  have HK := Lib.hid hK
  have T := Lib.hid hT
  have T0 := T
  have x0 := hx0
  have x1 := hx1
  have hz := Nat.le_refl w.heap.size
  have L := Lib.hid (LB.of (Below.refl B w))
  have hGG := Lib.hid hG
  have hGl2 := hGl
  clear hK hT hx0 hx1 hG
  conv => arg 2; whnf
  go_region_held3 (fun w' => w'.cell? ⟨G, 0, none⟩ = some (.int .i64 x) ∧ w'.cell? ⟨G, 1, none⟩ = some (.int .i64 y)) (first | exact ⟨x0, x1⟩ | go_keep)
    (first
      | (refine step_append_int1_at _ (by rfl) (.tmp 27) _ 22 (by rfl) B 3 Try.underlying22 iinfo _ xs (by rfl) (by first | exact T.out.1 | exact (T.out.alloc _).1 | exact ((T.out.alloc _).alloc _).1) x _ (by rfl) (by first | exact n1 | (simp [go_sem]; done)) hxl (by first | omega | (simp; omega)) ?_; intro g2 cap2 w2 hown2 hg2 hat2; have x0 := hg2.cell (a := ⟨G, 0, none⟩) (by first | exact x0 | exact cell_al _ x0 | exact cell_al _ (cell_al _ x0)) (fun e => hGG.out _ (.inl e.symm) rfl); have x1 := hg2.cell (a := ⟨G, 1, none⟩) (by first | exact x1 | exact cell_al _ x1 | exact cell_al _ (cell_al _ x1)) (fun e => hGG.out _ (.inl e.symm) rfl); have L2 := Lib.hid (LB.gr (by first | exact L.out | exact L.out.al hB _ | exact (L.out.al hB _).al hB _) hB hg2 (fun k hk => (T.out.1.lt k hk).1)); have T := Lib.hid (TwoR.app1 (by first | exact T.out | exact T.out.alloc _ | exact (T.out.alloc _).alloc _) hown2 hg2 hat2); have L := L2; have hsz2 : w.heap.size ≤ w2.heap.size := L.out.2.2.2.1; first | have n2 := hg2.cell (a := ⟨w.heap.size, 0, none⟩) (v := .int .i64 y) (cell_al _ (cells_new w [.int .i64 y] 3 0 _ rfl)) (ne_own T0.out.1 (Nat.le_refl _)) | have n2 := hg2.cell (a := ⟨w.heap.size + 1, 0, none⟩) (v := .int .i64 y) (cells_next w (.cells #[.int .i64 x] 3) (.int .i64 y) 3) (ne_own T0.out.1 (Nat.le_succ _)) | skip)
      | (refine step_append_int1_at _ (by rfl) (.tmp 32) _ 22 (by rfl) B 3 Try.underlying22 iinfo _ ys (by rfl) (by first | exact T.out.2.1 | exact (T.out.alloc _).2.1 | exact ((T.out.alloc _).alloc _).2.1) y _ (by rfl) (by first | exact n2 | (simp [go_sem]; done)) hyl (by first | omega | (simp; omega)) ?_; intro g3 cap3 w3 hown3 hg3 hat3; have x0 := hg3.cell (a := ⟨G, 0, none⟩) (by first | exact x0 | exact cell_al _ x0 | exact cell_al _ (cell_al _ x0)) (fun e => hGG.out _ (.inr e.symm) rfl); have x1 := hg3.cell (a := ⟨G, 1, none⟩) (by first | exact x1 | exact cell_al _ x1 | exact cell_al _ (cell_al _ x1)) (fun e => hGG.out _ (.inr e.symm) rfl); have L2 := Lib.hid (LB.gr (by first | exact L.out | exact L.out.al hB _ | exact (L.out.al hB _).al hB _) hB hg3 (fun k hk => (T.out.2.1.lt k hk).1)); have T := Lib.hid (TwoR.swap (TwoR.app1 (by first | exact T.out.swap | exact (T.out.alloc _).swap | exact ((T.out.alloc _).alloc _).swap) hown3 hg3 hat3)); have L := L2; have hsz3 : w.heap.size ≤ w3.heap.size := L.out.2.2.2.1; first | have n1 := hg3.cell (a := ⟨w.heap.size, 0, none⟩) (v := .int .i64 x) (cell_al _ (cells_new w [.int .i64 x] 3 0 _ rfl)) (ne_own T0.out.2.1 (Nat.le_refl _)) | have n1 := hg3.cell (a := ⟨w.heap.size + 1, 0, none⟩) (v := .int .i64 x) (cells_next w (.cells #[.int .i64 y] 3) (.int .i64 x) 3) (ne_own T0.out.2.1 (Nat.le_succ _)) | skip))
  all_goals
    have t := T.out
    simp only [List.length_append, List.length_singleton] at t
    exact HK.out _ _ _ _ _ _ _ _ _ _ _ _ _ t L.out.to

end Go.Proofs.Ytbgabipngdillaa

namespace Go.Proofs.Ytbgabipngdillaa
open Go.RowKit

theorem sub_any2 (P a b : Int) (w : World) (hP : 2 ≤ P ∧ P ≤ 65521) (ha : 0 ≤ a ∧ a < P) (hb : 0 ≤ b ∧ b < P) :
    Calls Try.prog 74 #[.int .i64 P, .int .i64 a, .int .i64 b] w fun e w' => e = .returned (.int .i64 ((a - b) % P)) ∧ w = w' :=
  (sub_any P a b w hP ha hb).mono fun e w' ⟨he, hw⟩ => ⟨by rw [he, Int.add_emod_right], hw⟩
noncomputable def reg23C : Code := ((Try.f53.body.bind (regionOf 23)).getD .skip)
set_option maxRecDepth 1000000 in
set_option maxHeartbeats 4000000 in
theorem reg23 (P x y : Int) (poly node : List Int) (vp vn : Value) (bv ov nv cv i : Nat) (w : World) (hp : prB P = true) (hx : 0 ≤ x ∧ x < P) (hy : 0 ≤ y ∧ y < P) (hep : els P poly = true) (hen : els P node = true) (hlp : poly.length ≤ 1000000) (hln : node.length ≤ 1000000) (hSp : SI w vp poly) (hSn : SI w vn node) (hi : i < nv) (hb : bv < w.heap.size) (hn0 : w.cell? ⟨bv, ov + i, none⟩ = some (.int .i64 y))
    (s0 s1 s2 s3 s4 s5 s6 s8 s9 s11 s12 s13 s14 s19 s20 s21 s22 s23 s24 s25 s26 s27 s28 s29 s30 s31 s32 s33 s34 s35 s36 s37 s38 s39 s40 s41 s42 s43 s44 s45 s46 s47 s48 s49 s50 s51 s52 s53 s54 s55 s56 s57 s58 s59 s60 s61 s62 s63 s64 s65 s66 s67 s68 s69 s70 s71 s72 s73 s74 s75 s76 s77 s78 s79 s80 s81 s82 s83 s84 s85 s86 s87 s88 s89 s90 s91 s92 s93 s94 s95 s96 s97 s98 s99 s100 s101 s102 s103 s104 s105 s106 s107 s108 s109 : Value) (Q : Exit → Act → World → Prop)
    (hK : ∀ (u70 u71 u72 u73 u74 u75 u76 u77 u78 u79 u80 u81 u82 u83 u84 u85 u86 u87 : Value) (w' : World), Below w.heap.size w w' → Q .normal ⟨List.toArray (s0 :: s1 :: s2 :: s3 :: s4 :: s5 :: s6 :: (Value.slice (some ⟨bv, ov, none⟩) nv cv) :: s8 :: s9 :: (Value.int .i64 P) :: s11 :: s12 :: s13 :: s14 :: (vp) :: (vn) :: (Value.int .i64 (i : Int)) :: (Value.int .i64 x) :: (Value.int .i64 (byN P (poly, node) (x, y))) :: s20 :: s21 :: s22 :: s23 :: s24 :: s25 :: s26 :: s27 :: s28 :: s29 :: s30 :: s31 :: s32 :: s33 :: s34 :: s35 :: s36 :: s37 :: s38 :: s39 :: s40 :: s41 :: s42 :: s43 :: s44 :: s45 :: s46 :: s47 :: s48 :: s49 :: s50 :: s51 :: s52 :: s53 :: s54 :: s55 :: s56 :: s57 :: s58 :: s59 :: s60 :: s61 :: s62 :: s63 :: s64 :: s65 :: s66 :: s67 :: s68 :: s69 :: u70 :: u71 :: u72 :: u73 :: u74 :: u75 :: u76 :: u77 :: u78 :: u79 :: u80 :: u81 :: u82 :: u83 :: u84 :: u85 :: u86 :: u87 :: s88 :: s89 :: s90 :: s91 :: s92 :: s93 :: s94 :: s95 :: s96 :: s97 :: s98 :: s99 :: s100 :: s101 :: s102 :: s103 :: s104 :: s105 :: s106 :: s107 :: s108 :: s109 :: []), []⟩ w') :
    Code.wp Try.prog reg23C Q ⟨List.toArray (s0 :: s1 :: s2 :: s3 :: s4 :: s5 :: s6 :: (Value.slice (some ⟨bv, ov, none⟩) nv cv) :: s8 :: s9 :: (Value.int .i64 P) :: s11 :: s12 :: s13 :: s14 :: (vp) :: (vn) :: (Value.int .i64 (i : Int)) :: (Value.int .i64 x) :: s19 :: s20 :: s21 :: s22 :: s23 :: s24 :: s25 :: s26 :: s27 :: s28 :: s29 :: s30 :: s31 :: s32 :: s33 :: s34 :: s35 :: s36 :: s37 :: s38 :: s39 :: s40 :: s41 :: s42 :: s43 :: s44 :: s45 :: s46 :: s47 :: s48 :: s49 :: s50 :: s51 :: s52 :: s53 :: s54 :: s55 :: s56 :: s57 :: s58 :: s59 :: s60 :: s61 :: s62 :: s63 :: s64 :: s65 :: s66 :: s67 :: s68 :: s69 :: s70 :: s71 :: s72 :: s73 :: s74 :: s75 :: s76 :: s77 :: s78 :: s79 :: s80 :: s81 :: s82 :: s83 :: s84 :: s85 :: s86 :: s87 :: s88 :: s89 :: s90 :: s91 :: s92 :: s93 :: s94 :: s95 :: s96 :: s97 :: s98 :: s99 :: s100 :: s101 :: s102 :: s103 :: s104 :: s105 :: s106 :: s107 :: s108 :: s109 :: []), []⟩ w := by
  have HK := Lib.hid hK
  have SP := Lib.hid hSp
  have SN := Lib.hid hSn
  have eP := Lib.hid hep
  have eN := Lib.hid hen
  have HP := Lib.hid hp
  have n0 := hn0
  have hbx := hb
  have L := Lib.hid (LB.of (Below.refl w.heap.size w))
  have hPb := prB_bd hp
  have h1 := val_bd hPb.1 poly x
  have h2 := val_bd hPb.1 node x
  have h3 := inv_bd hPb.1 (val P node x)
  obtain ⟨v1, e1⟩ : ∃ v, val P poly x = v := ⟨_, rfl⟩
  obtain ⟨v2, e2⟩ : ∃ v, val P node x = v := ⟨_, rfl⟩
  rw [e1] at h1
  rw [e2] at h2 h3
  have HBY : Hid ((y - v1) % P * inv P v2 % P = byN P (poly, node) (x, y)) := by show _ = _; rw [← e1, ← e2]; unfold byN; rw [Int.add_emod_right]
  have E1 := Lib.hid e1
  have E2 := Lib.hid e2
  clear hK hSp hSn hep hen hp hn0 hb e1 e2
  have h4 : 0 ≤ (y - v1) % P ∧ (y - v1) % P < P := ⟨Int.emod_nonneg _ (by omega), Int.emod_lt_of_pos _ (by omega)⟩
  have z1 : (0 : Int) ≤ (i : Int) := by omega
  have z2 : (i : Int) < (nv : Int) := by omega
  conv => arg 2; whnf
  go_region_held3 (fun w' => w'.cell? ⟨bv, ov + i, none⟩ = some (.int .i64 y)) (first | exact n0 | go_keep)
    (first
      | (go_at_call 68; refine (value_any P x poly vp _ hPb hx eP.out hlp (by exact SP.out)).mono ?_; rintro e wn ⟨rfl, hbn⟩; rw [E1.out]; have n0 := (hbn.cell (p := ⟨bv, ov + i, none⟩) hbx).trans n0; have SN := Lib.hid (SI.below (by exact SN.out) hbn); have hbx := Nat.lt_of_lt_of_le hbx hbn.size; have L := Lib.hid (LB.of (L.out.to.trans (Below.mono (Below.drew_left hbn) L.out.2.2.2.1))); clear eP)
      | (go_at_call 68; refine (value_any P x node vn _ hPb hx eN.out hln (by exact SN.out)).mono ?_; rintro e wn ⟨rfl, hbn⟩; rw [E2.out]; have n0 := (hbn.cell (p := ⟨bv, ov + i, none⟩) hbx).trans n0; have hbx := Nat.lt_of_lt_of_le hbx hbn.size; have L := Lib.hid (LB.of (L.out.to.trans (Below.mono hbn L.out.2.2.2.1))); clear eN)
      | (go_at_call 74; refine (sub_any2 P y v1 _ hPb hy h1).mono ?_; rintro e wn ⟨rfl, rfl⟩)
      | (go_at_call 75; refine (inverse_any P v2 _ HP.out h2).mono ?_; rintro e wn ⟨rfl, rfl⟩)
      | (go_at_call 73; refine (mul_any P _ _ _ hPb h4 h3).mono ?_; rintro e wn ⟨rfl, rfl⟩))
  all_goals
    have hk := HK.out
    rw [← HBY.out] at hk
    exact hk _ _ _ _ _ _ _ _ _ _ _ _ _ _ _ _ _ _ _ L.out.to

end Go.Proofs.Ytbgabipngdillaa
