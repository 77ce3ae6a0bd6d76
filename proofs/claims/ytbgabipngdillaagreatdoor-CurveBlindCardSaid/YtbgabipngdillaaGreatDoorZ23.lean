/- Joined: Rq2 Fw Fx. -/
import Derived.Test.YtbgabipngdillaaGreatDoorZ21
import Derived.Test.YtbgabipngdillaaGreatDoorZ16
import Derived.Test.YtbgabipngdillaaGreatDoorZ15
import Derived.Test.YtbgabipngdillaaGreatDoorZ22
import Derived.Test.YtbgabipngdillaaGreatDoorZ17
namespace Go.Proofs.YtbgabipngdillaaGreatDoor
open Go.RowKit

noncomputable def regFsC : Code := ((Tryz.f8.body.bind (regionOf 23)).getD .skip)
set_option maxRecDepth 1000000 in
set_option maxHeartbeats 4000000 in
theorem regFs (X br or_ m cr i cw : Nat) (Aw : Option Addr) (vrow vri : Value) (w : World) (him : i < m) (hX : ∀ W, Below w.heap.size w W → W.cell? ⟨X, 0, none⟩ = some vrow ∧ W.cell? ⟨X, 1, none⟩ = some (.slice Aw 0 cw) ∧ W.cell? ⟨br, or_ + i, none⟩ = some vri) (hQ : ∀ W, Below w.heap.size w W → Calls Tryz.prog 32 #[vrow, vri] W fun e w' => e = .returned (.bool true) ∧ Below W.heap.size W w')
    (s0 s1 s2 s3 s4 s5 s6 s7 s8 s9 s12 s13 s14 s15 s16 s17 s18 s19 s20 s23 s24 s25 s26 s27 s28 s29 s30 s31 s32 s33 s34 s35 s36 s37 s38 s39 s40 s41 s42 s43 s44 s45 s46 s47 s48 s49 s50 s51 s52 s53 s54 s55 s56 s57 s58 s59 s60 s61 s62 s63 s64 s65 s66 s67 s68 s69 s70 s71 s72 s73 s74 s75 s76 s77 s78 s79 s80 s81 s82 s83 s84 s85 s86 s87 s88 s89 s90 s91 s92 s93 s94 s95 s96 s97 s98 s99 s100 s101 s102 s103 s104 s105 s106 s107 s108 s109 s110 s111 s112 s113 s114 s115 s116 s117 s118 s119 s120 s121 s122 s123 s124 s125 s126 s127 s128 s129 s130 s131 s132 s133 s134 s135 s136 s137 s138 s139 s140 s141 s142 s143 s144 s145 s146 s147 s148 s149 s150 s151 s152 s153 s154 s155 s156 s157 s158 s159 s160 s161 s162 s163 s164 s165 s166 s167 s168 : Value) (Q : Exit → Act → World → Prop)
    (hK : ∀ (u117 u118 u119 u120 u121 u122 u123 u124 u125 u126 u127 u128 u129 u130 u131 u132 u133 : Value) (w' : World), Below w.heap.size w w' → Q .normal ⟨List.toArray (s0 :: s1 :: s2 :: s3 :: s4 :: s5 :: s6 :: s7 :: s8 :: s9 :: (Value.slice (some ⟨br, or_, none⟩) m cr) :: (Value.int .i64 (i : Int)) :: s12 :: s13 :: s14 :: s15 :: s16 :: s17 :: s18 :: s19 :: s20 :: (Value.pointer (some ⟨X, 0, none⟩)) :: (Value.int .i64 0) :: s23 :: s24 :: s25 :: s26 :: s27 :: s28 :: s29 :: s30 :: s31 :: s32 :: s33 :: s34 :: s35 :: s36 :: s37 :: s38 :: s39 :: s40 :: s41 :: s42 :: s43 :: s44 :: s45 :: s46 :: s47 :: s48 :: s49 :: s50 :: s51 :: s52 :: s53 :: s54 :: s55 :: s56 :: s57 :: s58 :: s59 :: s60 :: s61 :: s62 :: s63 :: s64 :: s65 :: s66 :: s67 :: s68 :: s69 :: s70 :: s71 :: s72 :: s73 :: s74 :: s75 :: s76 :: s77 :: s78 :: s79 :: s80 :: s81 :: s82 :: s83 :: s84 :: s85 :: s86 :: s87 :: s88 :: s89 :: s90 :: s91 :: s92 :: s93 :: s94 :: s95 :: s96 :: s97 :: s98 :: s99 :: s100 :: s101 :: s102 :: s103 :: s104 :: s105 :: s106 :: s107 :: s108 :: s109 :: s110 :: s111 :: s112 :: s113 :: s114 :: s115 :: s116 :: u117 :: u118 :: u119 :: u120 :: u121 :: u122 :: u123 :: u124 :: u125 :: u126 :: u127 :: u128 :: u129 :: u130 :: u131 :: u132 :: u133 :: (Value.bool false) :: s135 :: s136 :: s137 :: s138 :: s139 :: s140 :: s141 :: s142 :: s143 :: s144 :: s145 :: s146 :: s147 :: s148 :: s149 :: s150 :: s151 :: s152 :: s153 :: s154 :: s155 :: s156 :: s157 :: s158 :: s159 :: s160 :: s161 :: s162 :: s163 :: s164 :: s165 :: s166 :: s167 :: s168 :: []), []⟩ w') :
    Code.wp Tryz.prog regFsC Q ⟨List.toArray (s0 :: s1 :: s2 :: s3 :: s4 :: s5 :: s6 :: s7 :: s8 :: s9 :: (Value.slice (some ⟨br, or_, none⟩) m cr) :: (Value.int .i64 (i : Int)) :: s12 :: s13 :: s14 :: s15 :: s16 :: s17 :: s18 :: s19 :: s20 :: (Value.pointer (some ⟨X, 0, none⟩)) :: (Value.int .i64 0) :: s23 :: s24 :: s25 :: s26 :: s27 :: s28 :: s29 :: s30 :: s31 :: s32 :: s33 :: s34 :: s35 :: s36 :: s37 :: s38 :: s39 :: s40 :: s41 :: s42 :: s43 :: s44 :: s45 :: s46 :: s47 :: s48 :: s49 :: s50 :: s51 :: s52 :: s53 :: s54 :: s55 :: s56 :: s57 :: s58 :: s59 :: s60 :: s61 :: s62 :: s63 :: s64 :: s65 :: s66 :: s67 :: s68 :: s69 :: s70 :: s71 :: s72 :: s73 :: s74 :: s75 :: s76 :: s77 :: s78 :: s79 :: s80 :: s81 :: s82 :: s83 :: s84 :: s85 :: s86 :: s87 :: s88 :: s89 :: s90 :: s91 :: s92 :: s93 :: s94 :: s95 :: s96 :: s97 :: s98 :: s99 :: s100 :: s101 :: s102 :: s103 :: s104 :: s105 :: s106 :: s107 :: s108 :: s109 :: s110 :: s111 :: s112 :: s113 :: s114 :: s115 :: s116 :: s117 :: s118 :: s119 :: s120 :: s121 :: s122 :: s123 :: s124 :: s125 :: s126 :: s127 :: s128 :: s129 :: s130 :: s131 :: s132 :: s133 :: s134 :: s135 :: s136 :: s137 :: s138 :: s139 :: s140 :: s141 :: s142 :: s143 :: s144 :: s145 :: s146 :: s147 :: s148 :: s149 :: s150 :: s151 :: s152 :: s153 :: s154 :: s155 :: s156 :: s157 :: s158 :: s159 :: s160 :: s161 :: s162 :: s163 :: s164 :: s165 :: s166 :: s167 :: s168 :: []), []⟩ w := by
  have HK := Lib.hid hK
  have HQ := Lib.hid hQ
  have HX := Lib.hid hX
  obtain ⟨x0, x1, r0⟩ := hX w (Below.refl _ w)
  have z1 : (0 : Int) ≤ (i : Int) := by omega
  have z2 : (i : Int) < (m : Int) := by omega
  clear hK hQ hX
  conv => arg 2; whnf
  go_region_held3 (fun w' => w'.cell? ⟨X, 0, none⟩ = some vrow ∧ w'.cell? ⟨X, 1, none⟩ = some (.slice Aw 0 cw) ∧ w'.cell? ⟨br, or_ + i, none⟩ = some vri) (first | exact ⟨x0, x1, r0⟩ | go_keep)
    (first
      | (go_at_call 32; refine (HQ.out _ (by first | exact Below.refl _ _ | exact (Below.refl _ w).drew)).mono ?_; rintro e9 w9 ⟨rfl, hb9⟩; have HB9 : Hid (Below w.heap.size w w9) := (show Hid _ from ⟨hb9.os, hb9.tape, hb9.output, hb9.size, hb9.block⟩); obtain ⟨x0, x1, r0⟩ := HX.out w9 HB9.out; clear hb9))
  all_goals
    have hk := HK.out
    first
      | exact hk _ _ _ _ _ _ _ _ _ _ _ _ _ _ _ _ _ _ HB9.out
      | exact hk _ _ _ _ _ _ _ _ _ _ _ _ _ _ _ _ _ _ HB9.out.drew


noncomputable def regFtC : Code := ((Tryz.f8.body.bind (regionOf 28)).getD .skip)
set_option maxRecDepth 1000000 in
set_option maxHeartbeats 4000000 in
theorem regFt (X br or_ m cr i cw : Nat) (Aw : Option Addr) (vrow vri : Value) (w : World) (him : i < m) (hX : ∀ W, Below w.heap.size w W → W.cell? ⟨X, 0, none⟩ = some vrow ∧ W.cell? ⟨X, 1, none⟩ = some (.slice Aw 0 cw) ∧ W.cell? ⟨br, or_ + i, none⟩ = some vri) (hQ : ∀ W, Below w.heap.size w W → Calls Tryz.prog 32 #[vrow, vri] W fun e w' => e = .returned (.bool true) ∧ Below W.heap.size W w')
    (s0 s1 s2 s3 s4 s5 s6 s7 s8 s9 s12 s13 s14 s15 s16 s17 s18 s19 s20 s21 s22 s25 s26 s27 s28 s29 s30 s31 s32 s33 s34 s35 s36 s37 s38 s39 s40 s41 s42 s43 s44 s45 s46 s47 s48 s49 s50 s51 s52 s53 s54 s55 s56 s57 s58 s59 s60 s61 s62 s63 s64 s65 s66 s67 s68 s69 s70 s71 s72 s73 s74 s75 s76 s77 s78 s79 s80 s81 s82 s83 s84 s85 s86 s87 s88 s89 s90 s91 s92 s93 s94 s95 s96 s97 s98 s99 s100 s101 s102 s103 s104 s105 s106 s107 s108 s109 s110 s111 s112 s113 s114 s115 s116 s117 s118 s119 s120 s121 s122 s123 s124 s125 s126 s127 s128 s129 s130 s131 s132 s133 s134 s135 s136 s137 s138 s139 s140 s141 s142 s143 s144 s145 s146 s147 s148 s149 s150 s151 s152 s153 s154 s155 s156 s157 s158 s159 s160 s161 s162 s163 s164 s165 s166 s167 s168 : Value) (Q : Exit → Act → World → Prop)
    (hK : ∀ (u152 u153 u154 u155 u156 u157 u158 u159 u160 u161 u162 u163 u164 u165 u166 u167 : Value) (w' : World), Below w.heap.size w w' → Q .normal ⟨List.toArray (s0 :: s1 :: s2 :: s3 :: (Value.bool true) :: s5 :: s6 :: s7 :: s8 :: s9 :: (Value.slice (some ⟨br, or_, none⟩) m cr) :: (Value.int .i64 (i : Int)) :: s12 :: s13 :: s14 :: s15 :: s16 :: s17 :: s18 :: s19 :: s20 :: s21 :: s22 :: (Value.pointer (some ⟨X, 0, none⟩)) :: (Value.int .i64 0) :: s25 :: s26 :: s27 :: s28 :: s29 :: s30 :: s31 :: s32 :: s33 :: s34 :: s35 :: s36 :: s37 :: s38 :: s39 :: s40 :: s41 :: s42 :: s43 :: s44 :: s45 :: s46 :: s47 :: s48 :: s49 :: s50 :: s51 :: s52 :: s53 :: s54 :: s55 :: s56 :: s57 :: s58 :: s59 :: s60 :: s61 :: s62 :: s63 :: s64 :: s65 :: s66 :: s67 :: s68 :: s69 :: s70 :: s71 :: s72 :: s73 :: s74 :: s75 :: s76 :: s77 :: s78 :: s79 :: s80 :: s81 :: s82 :: s83 :: s84 :: s85 :: s86 :: s87 :: s88 :: s89 :: s90 :: s91 :: s92 :: s93 :: s94 :: s95 :: s96 :: s97 :: s98 :: s99 :: s100 :: s101 :: s102 :: s103 :: s104 :: s105 :: s106 :: s107 :: s108 :: s109 :: s110 :: s111 :: s112 :: s113 :: s114 :: s115 :: s116 :: s117 :: s118 :: s119 :: s120 :: s121 :: s122 :: s123 :: s124 :: s125 :: s126 :: s127 :: s128 :: s129 :: s130 :: s131 :: s132 :: s133 :: s134 :: s135 :: s136 :: s137 :: s138 :: s139 :: s140 :: s141 :: s142 :: s143 :: s144 :: s145 :: s146 :: s147 :: s148 :: s149 :: s150 :: s151 :: u152 :: u153 :: u154 :: u155 :: u156 :: u157 :: u158 :: u159 :: u160 :: u161 :: u162 :: u163 :: u164 :: u165 :: u166 :: u167 :: (Value.bool true) :: []), []⟩ w') :
    Code.wp Tryz.prog regFtC Q ⟨List.toArray (s0 :: s1 :: s2 :: s3 :: s4 :: s5 :: s6 :: s7 :: s8 :: s9 :: (Value.slice (some ⟨br, or_, none⟩) m cr) :: (Value.int .i64 (i : Int)) :: s12 :: s13 :: s14 :: s15 :: s16 :: s17 :: s18 :: s19 :: s20 :: s21 :: s22 :: (Value.pointer (some ⟨X, 0, none⟩)) :: (Value.int .i64 0) :: s25 :: s26 :: s27 :: s28 :: s29 :: s30 :: s31 :: s32 :: s33 :: s34 :: s35 :: s36 :: s37 :: s38 :: s39 :: s40 :: s41 :: s42 :: s43 :: s44 :: s45 :: s46 :: s47 :: s48 :: s49 :: s50 :: s51 :: s52 :: s53 :: s54 :: s55 :: s56 :: s57 :: s58 :: s59 :: s60 :: s61 :: s62 :: s63 :: s64 :: s65 :: s66 :: s67 :: s68 :: s69 :: s70 :: s71 :: s72 :: s73 :: s74 :: s75 :: s76 :: s77 :: s78 :: s79 :: s80 :: s81 :: s82 :: s83 :: s84 :: s85 :: s86 :: s87 :: s88 :: s89 :: s90 :: s91 :: s92 :: s93 :: s94 :: s95 :: s96 :: s97 :: s98 :: s99 :: s100 :: s101 :: s102 :: s103 :: s104 :: s105 :: s106 :: s107 :: s108 :: s109 :: s110 :: s111 :: s112 :: s113 :: s114 :: s115 :: s116 :: s117 :: s118 :: s119 :: s120 :: s121 :: s122 :: s123 :: s124 :: s125 :: s126 :: s127 :: s128 :: s129 :: s130 :: s131 :: s132 :: s133 :: s134 :: s135 :: s136 :: s137 :: s138 :: s139 :: s140 :: s141 :: s142 :: s143 :: s144 :: s145 :: s146 :: s147 :: s148 :: s149 :: s150 :: s151 :: s152 :: s153 :: s154 :: s155 :: s156 :: s157 :: s158 :: s159 :: s160 :: s161 :: s162 :: s163 :: s164 :: s165 :: s166 :: s167 :: s168 :: []), []⟩ w := by
  have HK := Lib.hid hK
  have HQ := Lib.hid hQ
  have HX := Lib.hid hX
  obtain ⟨x0, x1, r0⟩ := hX w (Below.refl _ w)
  have z1 : (0 : Int) ≤ (i : Int) := by omega
  have z2 : (i : Int) < (m : Int) := by omega
  clear hK hQ hX
  conv => arg 2; whnf
  go_region_held3 (fun w' => w'.cell? ⟨X, 0, none⟩ = some vrow ∧ w'.cell? ⟨X, 1, none⟩ = some (.slice Aw 0 cw) ∧ w'.cell? ⟨br, or_ + i, none⟩ = some vri) (first | exact ⟨x0, x1, r0⟩ | go_keep)
    (first
      | (go_at_call 32; refine (HQ.out _ (by first | exact Below.refl _ _ | exact (Below.refl _ w).drew)).mono ?_; rintro e9 w9 ⟨rfl, hb9⟩; have HB9 : Hid (Below w.heap.size w w9) := (show Hid _ from ⟨hb9.os, hb9.tape, hb9.output, hb9.size, hb9.block⟩); obtain ⟨x0, x1, r0⟩ := HX.out w9 HB9.out; clear hb9))
  all_goals
    have hk := HK.out
    first
      | exact hk _ _ _ _ _ _ _ _ _ _ _ _ _ _ _ _ _ HB9.out
      | exact hk _ _ _ _ _ _ _ _ _ _ _ _ _ _ _ _ _ HB9.out.drew


end Go.Proofs.YtbgabipngdillaaGreatDoor

namespace Go.Proofs.YtbgabipngdillaaGreatDoor
open Go.RowKit

/-- a block of answers, known whole -/
def AKv (w : World) (b : Nat) (xs : List (Bool × Value)) : Prop := w.heap[b]? = some (.cells (xs.flatMap fun x => [.bool x.1, x.2]).toArray 52 (0, 0))
theorem anMade : ∀ n, n ≤ 8 → madeCells (Value.agg #[.bool false, .slice none 0 0]).cells (n * 2) = ((List.replicate n (false, Value.slice none 0 0)).flatMap fun x => [Value.bool x.1, x.2]).toArray
  | 0, _ => by kernel_rfl
  | 1, _ => by kernel_rfl
  | 2, _ => by kernel_rfl
  | 3, _ => by kernel_rfl
  | 4, _ => by kernel_rfl
  | 5, _ => by kernel_rfl
  | 6, _ => by kernel_rfl
  | 7, _ => by kernel_rfl
  | 8, _ => by kernel_rfl
  | k + 9, h => absurd h (by omega)
theorem mk_ans (n : Nat) (hn : n ≤ 8) (W : World) : (Instr.makeSlice 50 (.int .i64 (n : Int)) (.int .i64 (n : Int))).run Tryz.prog W = .ok (.slice (some ⟨W.heap.size, 0, none⟩) n n) (W.alloc (.cells ((List.replicate n (false, Value.slice none 0 0)).flatMap fun x => [Value.bool x.1, x.2]).toArray 52)) := by
  obtain ⟨i0, hi0, hz0, hz1, hz2⟩ := info_parts (P := Tryz.prog) (e := 52) aninfo
  have hrun := run_makeSlice (P := Tryz.prog) W 50 52 i0 _ Tryz.underlying50 hi0 hz0 .i64 .i64 n n (by omega) (Int.le_refl _) (by rw [hz1]; simp; omega) (by rw [hz2]; omega) (by omega)
  simp only [Int.toNat_natCast] at hrun
  rw [hz1, anMade n hn] at hrun
  exact hrun
theorem fm2_get : ∀ (xs : List (Bool × Value)) (j : Nat) (h : j < xs.length), (xs.flatMap fun x => [Value.bool x.1, x.2])[j * 2]? = some (.bool xs[j].1) ∧ (xs.flatMap fun x => [Value.bool x.1, x.2])[j * 2 + 1]? = some xs[j].2
  | x :: t, 0, _ => by simp
  | x :: t, j + 1, h => by
    have := fm2_get t j (by simpa using h)
    have e1 : (j + 1) * 2 = j * 2 + 1 + 1 := by omega
    have e2 : (j + 1) * 2 + 1 = j * 2 + 1 + 1 + 1 := by omega
    refine ⟨?_, ?_⟩
    · rw [e1]; simpa using this.1
    · rw [e2]; simpa using this.2
theorem fm2_set : ∀ (xs : List (Bool × Value)) (j : Nat) (_ : j < xs.length) (b : Bool) (v : Value), ((xs.flatMap fun x => [Value.bool x.1, x.2]).set (j * 2) (.bool b)).set (j * 2 + 1) v = (xs.set j (b, v)).flatMap fun x => [Value.bool x.1, x.2]
  | x :: t, 0, _, b, v => by simp
  | x :: t, j + 1, h, b, v => by
    have := fm2_set t j (by simpa using h) b v
    have e1 : (j + 1) * 2 = j * 2 + 1 + 1 := by omega
    have e2 : (j + 1) * 2 + 1 = j * 2 + 1 + 1 + 1 := by omega
    rw [e1]
    simpa using this
theorem AKv.lt {w : World} {b : Nat} {xs : List (Bool × Value)} (h : AKv w b xs) : b < w.heap.size := heap_of_cells h
theorem AKv.below {w w' : World} {b B : Nat} {xs : List (Bool × Value)} (h : AKv w b xs) (hb : Below B w w') (hB : b < B) : AKv w' b xs := (hb.block b hB).trans h
theorem AKv.cells {w : World} {b : Nat} {xs : List (Bool × Value)} (h : AKv w b xs) (j : Nat) (hj : j < xs.length) : w.cell? ⟨b, j * 2, none⟩ = some (.bool xs[j].1) ∧ w.cell? ⟨b, j * 2 + 1, none⟩ = some xs[j].2 := by
  have h1 := fm2_get xs j hj
  refine ⟨?_, ?_⟩
  · rw [cell_of_row w b (j * 2) _ _ _ h]; simpa using h1.1
  · rw [cell_of_row w b (j * 2 + 1) _ _ _ h]; simpa using h1.2
theorem AKv.frozen {w : World} {b : Nat} {xs : List (Bool × Value)} (h : AKv w b xs) (j : Nat) : w.frozen? ⟨b, j, none⟩ = false := frozen_of_row w b j _ _ h
theorem AKv.set {w : World} {b : Nat} {xs : List (Bool × Value)} (h : AKv w b xs) (j : Nat) (hj : j < xs.length) (k : Bool) (v : Value) : AKv ((w.setCell ⟨b, j * 2, none⟩ (.bool k)).setCell ⟨b, j * 2 + 1, none⟩ v) b (xs.set j (k, v)) := by
  have h1 := heap_setCell_same w b (j * 2) _ _ (.bool k) h
  have h2 := heap_setCell_same _ b (j * 2 + 1) _ _ v h1
  unfold AKv
  rw [h2, ← fm2_set xs j hj]
  simp
theorem AKv.san {w : World} {b n : Nat} {xs : List (Bool × Value)} {L : List (Bool × List Int)} (h : AKv w b xs) (hl : xs.length = L.length) (hn : n = L.length) (hm : n ≤ 1000000)
    (hr : ∀ j (h1 : j < xs.length) (h2 : j < L.length), xs[j].1 = L[j].1 ∧ SI w xs[j].2 L[j].2) : SAn w (.slice (some ⟨b, 0, none⟩) n n) L := by
  subst hn
  refine ⟨_, _, rfl, Nat.le_refl _, by omega, fun h0 => ⟨b, 0, rfl, h.lt, fun j hj => ?_⟩⟩
  have hjx : j < xs.length := by omega
  obtain ⟨h1, h2⟩ := h.cells j hjx
  obtain ⟨h3, h4⟩ := hr j hjx hj
  rw [Nat.zero_add]
  exact ⟨by rw [h1, h3], xs[j].2, h2, h4⟩
end Go.Proofs.YtbgabipngdillaaGreatDoor

namespace Go.Proofs.YtbgabipngdillaaGreatDoor
open Go.RowKit

/-- which answers are known after some steps -/
def fwL (n : Nat) (O : List Int) (R : Nat → List Int) : List (Bool × List Int) := (List.range n).map fun (j : Nat) => if (j : Int) ∈ O then (true, R j) else (false, [])
def fwX (n : Nat) (O : List Int) (H : Nat → Value) : List (Bool × Value) := (List.range n).map fun (j : Nat) => if (j : Int) ∈ O then (true, H j) else (false, .slice none 0 0)
theorem fwL_len (n : Nat) (O : List Int) (R : Nat → List Int) : (fwL n O R).length = n := by simp [fwL]
theorem fwX_len (n : Nat) (O : List Int) (H : Nat → Value) : (fwX n O H).length = n := by simp [fwX]
theorem fwL_get (n : Nat) (O : List Int) (R : Nat → List Int) (j : Nat) (h : j < (fwL n O R).length) : (fwL n O R)[j] = if (j : Int) ∈ O then (true, R j) else (false, []) := by simp [fwL]
theorem fwX_get (n : Nat) (O : List Int) (H : Nat → Value) (j : Nat) (h : j < (fwX n O H).length) : (fwX n O H)[j] = if (j : Int) ∈ O then (true, H j) else (false, .slice none 0 0) := by simp [fwX]
theorem fwX_nil (n : Nat) (H : Nat → Value) : fwX n [] H = List.replicate n (false, .slice none 0 0) := by
  refine List.ext_getElem (by rw [fwX_len]; simp) fun j h1 h2 => ?_
  rw [fwX_get]; simp
theorem fwX_set (n : Nat) (O : List Int) (H : Nat → Value) (j : Nat) : (fwX n O H).set j (true, H j) = fwX n (O ++ [(j : Int)]) H := by
  refine List.ext_getElem (by rw [List.length_set, fwX_len, fwX_len]) fun q h1 h2 => ?_
  rw [List.getElem_set, fwX_get]
  by_cases h : j = q
  · subst h; rw [if_pos rfl, fwX_get, if_pos (by simp)]
  · rw [if_neg h, fwX_get]
    have e : ((q : Int) ∈ O ++ [(j : Int)]) ↔ (q : Int) ∈ O := by
      simp; intro e; omega
    by_cases hq : (q : Int) ∈ O
    · rw [if_pos hq, if_pos (e.2 hq)]
    · rw [if_neg hq, if_neg (fun h => hq (e.1 h))]
theorem fw_kn {n : Nat} {O : List Int} {R : Nat → List Int} (hd : O.Nodup) (hb : ∀ j ∈ O, 0 ≤ j ∧ j < (n : Int)) : knL (fwL n O R) = O.length := by
  have h1 : knL (fwL n O R) = ((List.range n).filter fun (j : Nat) => decide ((j : Int) ∈ O)).length := by
    unfold knL fwL
    rw [List.filter_map, List.length_map]
    congr 1
    refine List.filter_congr fun j _ => ?_
    by_cases h : (j : Int) ∈ O <;> simp [h]
  rw [h1]
  have h2 : (((List.range n).filter fun (j : Nat) => decide ((j : Int) ∈ O)).map fun j : Nat => (j : Int)).length ≤ O.length := by
    refine nodup_sub _ _ ?_ fun x hx => ?_
    · rw [List.Nodup, List.pairwise_map]
      exact List.Pairwise.imp (fun {a b} h e => h (by omega)) (List.nodup_range.sublist List.filter_sublist)
    · obtain ⟨j, hj, rfl⟩ := List.mem_map.1 hx
      simpa using (List.mem_filter.1 hj).2
  have h3 : O.length ≤ (((List.range n).filter fun (j : Nat) => decide ((j : Int) ∈ O)).map fun j : Nat => (j : Int)).length := nodup_sub _ _ hd fun x hx => by
    have := hb x hx
    refine List.mem_map.2 ⟨x.toNat, List.mem_filter.2 ⟨List.mem_range.2 (by omega), ?_⟩, by omega⟩
    have e : ((x.toNat : Nat) : Int) = x := by omega
    rw [e]; simpa using hx
  rw [List.length_map] at h2 h3
  omega
/-- what Decode says of the answers that are there -/
theorem fw_dec {P : Int} {n t i w : Nat} {D : List Int} {rows : List (List Int)} {O : List Int} {row wr : List Int} {er : Int} (hp : prB P = true) (hn2 : 2 ≤ n) (hn10 : n ≤ 10) (hnP : (n : Int) < P) (ht1 : 1 ≤ t) (htn : t < n)
    (hi : i < rows.length) (hrw : ∀ r ∈ rows, r.length = w ∧ els P r = true) (hw : w ≤ 64) (hd : O.Nodup) (hb : ∀ j ∈ O, 0 ≤ j ∧ j < (n : Int))
    (hD : DeR P n t w (fwL n O fun (j : Nat) => cmb P (qRow P i D t j rows.length) rows w) row wr er) : (O.length < t + 1 → er = 11) ∧ (t + 1 ≤ O.length → er = 0 ∧ row = gr rows i ∧ wr = []) := by
  have hP := prB_bd hp
  have hv : ∀ j (h : j < (fwL n O fun (j : Nat) => cmb P (qRow P i D t j rows.length) rows w).length), (fwL n O fun (j : Nat) => cmb P (qRow P i D t j rows.length) rows w)[j].1 = true → (fwL n O fun (j : Nat) => cmb P (qRow P i D t j rows.length) rows w)[j].2.length = w ∧ els P (fwL n O fun (j : Nat) => cmb P (qRow P i D t j rows.length) rows w)[j].2 = true := fun j h h1 => by
    rw [fwL_get] at h1 ⊢
    by_cases hj : (j : Int) ∈ O
    · rw [if_pos hj]; exact ⟨cmbT_len .., cmbT_els hP.1 ..⟩
    · rw [if_neg hj] at h1; simp at h1
  have hk := fw_kn (R := fun j => cmb P (qRow P i D t j rows.length) rows w) hd hb
  refine ⟨fun h => dec_few hp hn2 hn10 hnP ht1 htn hw (fwL_len ..) (by omega) hv hD, fun h => dec_all (D := D) hp hn2 hn10 hnP ht1 htn hi hrw hw (fwL_len ..) (by omega) hv (bad := []) List.Pairwise.nil (fun x => ?_) (by simp) hD⟩
  refine ⟨fun h => by simp at h, fun ⟨j, hj, h1, _, h2⟩ => ?_⟩
  exfalso
  rw [fwL_get] at h1 h2
  by_cases hj' : (j : Int) ∈ O
  · rw [if_pos hj'] at h2; exact h2 rfl
  · rw [if_neg hj'] at h1; simp at h1
/-- the headers of rows outside a block, for all worlds behind -/
theorem SLE.view {g : Nat} {w : World} {v : Value} {rows : List (List Int)} (h : SLE g w v rows) (h0 : 0 < rows.length) : ∃ (ba oa c : Nat) (H : Nat → Value), v = .slice (some ⟨ba, oa, none⟩) rows.length c ∧ ba < w.heap.size ∧
    ∀ W, w.grownBy W (some g) → ∀ j (hj : j < rows.length), W.cell? ⟨ba, oa + j, none⟩ = some (H j) ∧ SE g W (H j) rows[j] ∧ ∃ B d, H j = .slice B rows[j].length d := by
  obtain ⟨A, c, rfl, hc, hm, ha⟩ := h
  obtain ⟨b, off, rfl, hb, hbg, hcell⟩ := ha h0
  refine ⟨b, off, c, fun j => (w.cell? ⟨b, off + j, none⟩).getD undef, rfl, hb, fun W hg j hj => ?_⟩
  obtain ⟨B, d, h1, h2⟩ := hcell j hj
  have e : (w.cell? ⟨b, off + j, none⟩).getD undef = .slice B rows[j].length d := by rw [h1]; rfl
  refine ⟨?_, ?_, B, d, e⟩
  · show _ = some ((w.cell? ⟨b, off + j, none⟩).getD undef)
    rw [e]; exact (World.cell?_of_block (hg.block b hb (by simp; exact hbg))).trans h1
  · show SE g W ((w.cell? ⟨b, off + j, none⟩).getD undef) _
    rw [e]; exact h2.grown hg
def Fw1 (n b : Nat) (O : List Int) (H : Nat → Value) (w12 : World) (iv : Value) (wr : World) : Prop :=
  ∃ k : Nat, k ≤ n ∧ iv = .int .i64 k ∧ AKv wr b (fwX n (O.take k) H) ∧ w12.grownBy wr (some b)
/-- the error of an answer to a query of this law -/
theorem coE_zero {P : Int} {q : List Int} {rows : List (List Int)} {w : Nat} (hp : prB P = true) (hw : w ≤ 64) (hl : q.length = rows.length) (hr : ∀ r ∈ rows, r.length = w ∧ els P r = true) (hq : els P q = true) : coE P q rows w = 0 := by
  have h1 : (rows.all fun r => decide ((r.length : Int) = (w : Int))) = true := all_yes fun j hj => decide_eq_true (by have := (hr _ (List.getElem_mem hj)).1; omega)
  unfold coE
  rw [hp, if_neg (by simp), if_neg (by omega), if_neg (by omega), h1, if_neg (by simp), hq, if_neg (by simp), all_yes (fun j hj => (hr _ (List.getElem_mem hj)).2), if_neg (by simp)]
theorem qRow_els {P : Int} (hP : 2 ≤ P) (want : Int) (D : List Int) (t k c : Nat) : els P (qRow P want D t k c) = true := els_of fun x hx => by
  unfold qRow at hx
  obtain ⟨m, _, rfl⟩ := List.mem_map.1 hx
  exact el_mk (qPt_r hP D t m k)
theorem ans_rows {P : Int} {want : Int} {D : List Int} {t n m w : Nat} {rows : List (List Int)} (hp : prB P = true) (hw : w ≤ 64) (hm : rows.length = m) (hr : ∀ r ∈ rows, r.length = w ∧ els P r = true) :
    (qRows P want D t n m).map (ansR P rows w) = (List.range n).map fun (j : Nat) => cmb P (qRow P want D t j m) rows w := by
  unfold qRows
  rw [List.map_map]
  refine List.map_congr_left fun j _ => ?_
  show ansR P rows w (qRow P want D t j m) = _
  unfold ansR
  rw [if_pos (coE_zero hp hw (by rw [qRow_len, hm]) hr (qRow_els (prB_bd hp).1 ..)), Int.toNat_natCast]
end Go.Proofs.YtbgabipngdillaaGreatDoor
