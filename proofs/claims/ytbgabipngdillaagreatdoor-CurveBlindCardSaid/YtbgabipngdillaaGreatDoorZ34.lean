/- Joined: Rq6 Bw. -/
import Derived.Test.YtbgabipngdillaaGreatDoorZ21
import Derived.Test.YtbgabipngdillaaGreatDoorZ16
import Derived.Test.YtbgabipngdillaaGreatDoorZ31
import Derived.Test.YtbgabipngdillaaGreatDoorZ32
import Derived.Test.YtbgabipngdillaaGreatDoorZ33
namespace Go.Proofs.YtbgabipngdillaaGreatDoor
open Go.RowKit

noncomputable def regKC : Code := ((Tryz.f7.body.bind (regionOf 11)).getD .skip)
set_option maxRecDepth 1000000 in
set_option maxHeartbeats 4000000 in
theorem regK (g F p n t m i K a : Nat) (P : Int) (vl : Value) (w : World) (wa_ : IntKind.i64.wrap (a : Int) = (a : Int)) (ea1 : (a : Int).tmod (m : Int) = (i : Int)) (hm0 : ¬ m = 0) (hX : ∀ W, w.grownBy W (some g) → W.cell? ⟨F, 0, none⟩ = some (.int .i64 P) ∧ W.cell? ⟨p, 0, none⟩ = some (.int .i64 n) ∧ W.cell? ⟨p, 1, none⟩ = some (.int .i64 t)) (hD : Dk w g) (hS : ∀ W, w.grownBy W (some g) → Dk W g → Calls Tryz.prog 19 #[.pointer (some ⟨g, 0, none⟩), vl] W fun e w' => ∃ A1 c1 ns, e = .returned (.agg #[.slice A1 K c1, .int .i64 0]) ∧ ns.length = K ∧ els P ns = true ∧ SE g w' (.slice A1 K c1) ns ∧ Dk w' g ∧ W.grownBy w' (some g)) (hQ : ∀ W A1 c1 ns, ns.length = K → els P ns = true → SI W (.slice A1 K c1) ns → Calls Tryz.prog 17 #[.agg #[.int .i64 P], .agg #[.int .i64 n, .int .i64 t], .int .i64 m, .int .i64 i, .agg #[.slice A1 K c1, .int .i64 0]] W fun e w' => ∃ Aq cq A2 c2, e = .returned (.tuple #[.slice Aq n cq, .agg #[.slice A2 K c2, .int .i64 K], .int .i64 0]) ∧ Below W.heap.size W w' ∧ QRv W.heap.size w' (.slice Aq n cq) (qRows P i ns t n m))
    (s0 s1 s3 s4 s5 s6 s11 s13 s14 s15 s16 s17 s18 s19 s20 s21 s22 s23 s24 s25 s26 s27 s28 s29 s30 s31 s32 s33 s34 s35 s36 s37 s38 s39 s40 s41 s42 s43 s44 s45 s46 s47 s48 s49 s50 s51 s52 s53 s54 s55 s56 s57 s58 s59 s60 s61 s62 s63 s64 s65 s66 s67 s68 s69 s70 s71 s72 s73 s74 s75 s76 s77 s78 s79 s80 s81 s82 s83 s84 s85 s86 s87 s88 s89 s90 s91 s92 s93 s94 s95 s96 s97 s98 s99 s100 s101 s102 s103 s104 s105 s106 s107 s108 s109 s110 s111 s112 s113 s114 s115 s116 s117 s118 s119 s120 s121 s122 s123 s124 s125 s126 s127 s128 s129 s130 s131 s132 s133 s134 s135 s136 s137 s138 s139 s140 s141 s142 s143 s144 s145 s146 s147 s148 s149 s150 s151 s152 s153 s154 s155 s156 s157 s158 s159 s160 s161 s162 s163 s164 s165 s166 s167 s168 s169 s170 s171 s172 s173 s174 s175 s176 s177 s178 s179 s180 s181 s182 s183 s184 s185 s186 s187 s188 s189 s190 s191 s192 s193 s194 s195 s196 s197 s198 : Value) (Q : Exit → Act → World → Prop)
    (hK : ∀ (u19 u20 u86 u87 u88 u89 u90 u91 u92 u93 u94 u95 u96 u97 u98 u99 u100 : Value) (ns : List Int) (w' : World), ns.length = K ∧ els P ns = true ∧ SLE g w' u19 (qRows P i ns t n m) ∧ Dk w' g ∧ w.grownBy w' (some g) ∧ (∃ T vt, u20 = .pointer (some ⟨T, 0, none⟩) ∧ w'.heap[T]? = some (.cells #[vt, .int .i64 K] 39 (0, 0))) → Q .normal ⟨List.toArray (s0 :: s1 :: (Value.int .u8 (a : Int)) :: s3 :: s4 :: s5 :: s6 :: (Value.pointer (some ⟨g, 0, none⟩)) :: (Value.pointer (some ⟨F, 0, none⟩)) :: (Value.pointer (some ⟨p, 0, none⟩)) :: (Value.int .i64 (m : Int)) :: s11 :: (vl) :: s13 :: s14 :: s15 :: s16 :: s17 :: s18 :: u19 :: u20 :: (Value.int .i64 0) :: s22 :: s23 :: s24 :: s25 :: s26 :: s27 :: s28 :: s29 :: s30 :: s31 :: s32 :: s33 :: s34 :: s35 :: s36 :: s37 :: s38 :: s39 :: s40 :: s41 :: s42 :: s43 :: s44 :: s45 :: s46 :: s47 :: s48 :: s49 :: s50 :: s51 :: s52 :: s53 :: s54 :: s55 :: s56 :: s57 :: s58 :: s59 :: s60 :: s61 :: s62 :: s63 :: s64 :: s65 :: s66 :: s67 :: s68 :: s69 :: s70 :: s71 :: s72 :: s73 :: s74 :: s75 :: s76 :: s77 :: s78 :: s79 :: s80 :: s81 :: s82 :: s83 :: s84 :: s85 :: u86 :: u87 :: u88 :: u89 :: u90 :: u91 :: u92 :: u93 :: u94 :: u95 :: u96 :: u97 :: u98 :: u99 :: u100 :: s101 :: s102 :: s103 :: s104 :: s105 :: s106 :: s107 :: s108 :: s109 :: s110 :: s111 :: s112 :: s113 :: s114 :: s115 :: s116 :: s117 :: s118 :: s119 :: s120 :: s121 :: s122 :: s123 :: s124 :: s125 :: s126 :: s127 :: s128 :: s129 :: s130 :: s131 :: s132 :: s133 :: s134 :: s135 :: s136 :: s137 :: s138 :: s139 :: s140 :: s141 :: s142 :: s143 :: s144 :: s145 :: s146 :: s147 :: s148 :: s149 :: s150 :: s151 :: s152 :: s153 :: s154 :: s155 :: s156 :: s157 :: s158 :: s159 :: s160 :: s161 :: s162 :: s163 :: s164 :: s165 :: s166 :: s167 :: s168 :: s169 :: s170 :: s171 :: s172 :: s173 :: s174 :: s175 :: s176 :: s177 :: s178 :: s179 :: s180 :: s181 :: s182 :: s183 :: s184 :: s185 :: s186 :: s187 :: s188 :: s189 :: s190 :: s191 :: s192 :: s193 :: s194 :: s195 :: s196 :: s197 :: s198 :: []), []⟩ w') :
    Code.wp Tryz.prog regKC Q ⟨List.toArray (s0 :: s1 :: (Value.int .u8 (a : Int)) :: s3 :: s4 :: s5 :: s6 :: (Value.pointer (some ⟨g, 0, none⟩)) :: (Value.pointer (some ⟨F, 0, none⟩)) :: (Value.pointer (some ⟨p, 0, none⟩)) :: (Value.int .i64 (m : Int)) :: s11 :: (vl) :: s13 :: s14 :: s15 :: s16 :: s17 :: s18 :: s19 :: s20 :: s21 :: s22 :: s23 :: s24 :: s25 :: s26 :: s27 :: s28 :: s29 :: s30 :: s31 :: s32 :: s33 :: s34 :: s35 :: s36 :: s37 :: s38 :: s39 :: s40 :: s41 :: s42 :: s43 :: s44 :: s45 :: s46 :: s47 :: s48 :: s49 :: s50 :: s51 :: s52 :: s53 :: s54 :: s55 :: s56 :: s57 :: s58 :: s59 :: s60 :: s61 :: s62 :: s63 :: s64 :: s65 :: s66 :: s67 :: s68 :: s69 :: s70 :: s71 :: s72 :: s73 :: s74 :: s75 :: s76 :: s77 :: s78 :: s79 :: s80 :: s81 :: s82 :: s83 :: s84 :: s85 :: s86 :: s87 :: s88 :: s89 :: s90 :: s91 :: s92 :: s93 :: s94 :: s95 :: s96 :: s97 :: s98 :: s99 :: s100 :: s101 :: s102 :: s103 :: s104 :: s105 :: s106 :: s107 :: s108 :: s109 :: s110 :: s111 :: s112 :: s113 :: s114 :: s115 :: s116 :: s117 :: s118 :: s119 :: s120 :: s121 :: s122 :: s123 :: s124 :: s125 :: s126 :: s127 :: s128 :: s129 :: s130 :: s131 :: s132 :: s133 :: s134 :: s135 :: s136 :: s137 :: s138 :: s139 :: s140 :: s141 :: s142 :: s143 :: s144 :: s145 :: s146 :: s147 :: s148 :: s149 :: s150 :: s151 :: s152 :: s153 :: s154 :: s155 :: s156 :: s157 :: s158 :: s159 :: s160 :: s161 :: s162 :: s163 :: s164 :: s165 :: s166 :: s167 :: s168 :: s169 :: s170 :: s171 :: s172 :: s173 :: s174 :: s175 :: s176 :: s177 :: s178 :: s179 :: s180 :: s181 :: s182 :: s183 :: s184 :: s185 :: s186 :: s187 :: s188 :: s189 :: s190 :: s191 :: s192 :: s193 :: s194 :: s195 :: s196 :: s197 :: s198 :: []), []⟩ w := by
  have HK := Lib.hid hK
  have HS := Lib.hid hS
  have HQ := Lib.hid hQ
  have HX := Lib.hid hX
  have HD := Lib.hid hD
  obtain ⟨f0, p0, p1⟩ := hX w (grownBy_refl _ _)
  have HGZ : Hid (w.grownBy (w.alloc (.cells #[.slice none 0 0, .int .i64 0] 39)) (some g)) := (show Hid _ from grownBy_of_below ((Below.refl _ w).alloc (Nat.le_refl _) _) _)
  have HGZd : Hid (w.grownBy (w.alloc (.cells #[.slice none 0 0, .int .i64 0] 39)).drew (some g)) := (show Hid _ from grownBy_of_below ((Below.refl _ w).alloc (Nat.le_refl _) _).drew _)
  have HG0 : Hid (w.grownBy w (some g)) := (show Hid _ from grownBy_refl _ _)
  have HG0d : Hid (w.grownBy w.drew (some g)) := (show Hid _ from grownBy_of_below (Below.refl _ w).drew _)
  have HDZ : Hid (Dk (w.alloc (.cells #[.slice none 0 0, .int .i64 0] 39)) g) := (show Hid _ from hD.alloc _)
  have HZC : Hid (∀ U V : World, g < U.heap.size → (U.alloc (.cells #[.slice none 0 0, .int .i64 0] 39)).grownBy V (some g) → V.heap[U.heap.size]? = some (.cells #[.slice none 0 0, .int .i64 0] 39 (0, 0)) ∧ V.cell? ⟨U.heap.size, 0, none⟩ = some (.slice none 0 0) ∧ V.cell? ⟨U.heap.size, 1, none⟩ = some (.int .i64 0) ∧ V.frozen? ⟨U.heap.size, 0, none⟩ = false ∧ V.frozen? ⟨U.heap.size, 1, none⟩ = false) := (show Hid _ from fun U V hU hg => by
    have hv := (hg.block U.heap.size (by simp) (by simp; omega)).trans (heap_alloc_new U _)
    exact ⟨hv, cell_of_row V _ 0 _ _ _ hv, cell_of_row V _ 1 _ _ _ hv, frozen_of_row V _ 0 _ _ hv, frozen_of_row V _ 1 _ _ hv⟩)
  have hgw := hD.lt
  clear hK hS hQ hX hD
  conv => arg 2; whnf
  go_region_held3 (fun w' => w'.cell? ⟨F, 0, none⟩ = some (.int .i64 P) ∧ w'.cell? ⟨p, 0, none⟩ = some (.int .i64 n) ∧ w'.cell? ⟨p, 1, none⟩ = some (.int .i64 t)) (first | exact ⟨f0, p0, p1⟩ | exact HX.out _ (grownBy_own (grownBy_own HGF.out (grownBy_setCell (grownBy_refl _ _) (.inl rfl) _) (fun k hk => by injection hk with e; subst e; exact HZF.out)) (grownBy_setCell (grownBy_refl _ _) (.inl rfl) _) (fun k hk => by injection hk with e; subst e; exact HZF.out)) | exact HX.out _ (grownBy_trans HGF.out (grownBy_of_below ((Below.refl _ _).alloc (Nat.le_refl _) _) _)) | go_keep)
    (first
      | (go_at_call 19; refine (HS.out _ (by first | exact HGZ.out | exact HGZd.out) (by exact HDZ.out)).mono ?_; rintro e8 w8 ⟨A1, c1, ns, rfl, hnl, hel, hse, hd8, hg8⟩; have HNL := Lib.hid hnl; have HEL := Lib.hid hel; have HSE : Hid (SE g w8 (.slice A1 K c1) ns) := (show Hid _ from hse); have HD8 : Hid (Dk w8 g) := (show Hid _ from hd8); have HGz8 : Hid ((w.alloc (.cells #[.slice none 0 0, .int .i64 0] 39)).grownBy w8 (some g)) := (show Hid _ from ⟨hg8.os, hg8.tape, hg8.output, hg8.size, hg8.block⟩); have HG8 : Hid (w.grownBy w8 (some g)) := (show Hid _ from grownBy_trans HGZ.out HGz8.out); obtain ⟨hz0, z0, z1, y0, y1⟩ := HZC.out w w8 (by exact hgw) HGz8.out; clear hz0; obtain ⟨f0, p0, p1⟩ := HX.out w8 HG8.out; clear hnl hel hse hd8 hg8)
      | (go_at_call 19; refine (HS.out _ (by first | exact HG0.out | exact HG0d.out) (by exact HD.out)).mono ?_; rintro e8 w8 ⟨A1, c1, ns, rfl, hnl, hel, hse, hd8, hg8⟩; have HNL := Lib.hid hnl; have HEL := Lib.hid hel; have HSE : Hid (SE g w8 (.slice A1 K c1) ns) := (show Hid _ from hse); have HD8 : Hid (Dk w8 g) := (show Hid _ from hd8); have HG8 : Hid (w.grownBy w8 (some g)) := (show Hid _ from ⟨hg8.os, hg8.tape, hg8.output, hg8.size, hg8.block⟩); have HBz8 : Hid (Below w8.heap.size w8 (w8.alloc (.cells #[.slice none 0 0, .int .i64 0] 39))) := (show Hid _ from (Below.refl _ w8).alloc (Nat.le_refl _) _); obtain ⟨f0, p0, p1⟩ := HX.out w8 HG8.out; clear hnl hel hse hd8 hg8)
      | (revert HGz8; intro HGz8; go_at_call 17; refine (HQ.out w8 A1 c1 ns HNL.out HEL.out (by exact HSE.out.si)).mono ?_; rintro e9 w9 ⟨Aq, cq, A2, c2, rfl, hb9, hq9⟩; have HB9 : Hid (Below w8.heap.size w8 w9) := (show Hid _ from ⟨hb9.os, hb9.tape, hb9.output, hb9.size, hb9.block⟩); have HQ9 : Hid (QRv w8.heap.size w9 (.slice Aq n cq) (qRows P i ns t n m)) := (show Hid _ from hq9); have HG89 : Hid (w8.grownBy w9 (some g)) := (show Hid _ from grownBy_of_below HB9.out _); have HGF : Hid (w.grownBy w9 (some g)) := (show Hid _ from grownBy_trans HG8.out HG89.out); obtain ⟨hz0, z0, z1, y0, y1⟩ := HZC.out w w9 (by exact hgw) (grownBy_trans HGz8.out HG89.out); have HZF : Hid (w.heap.size ≤ w.heap.size) := (show Hid _ from Nat.le_refl _); have HZH := Lib.hid hz0; clear hz0; obtain ⟨f0, p0, p1⟩ := HX.out w9 HGF.out; have HDF : Hid (Dk w9 g) := (show Hid _ from HD8.out.below HB9.out); clear hb9 hq9)
      | (go_at_call 17; refine (HQ.out w8 A1 c1 ns HNL.out HEL.out (by exact HSE.out.si)).mono ?_; rintro e9 w9 ⟨Aq, cq, A2, c2, rfl, hb9, hq9⟩; have HB9 : Hid (Below w8.heap.size w8 w9) := (show Hid _ from ⟨hb9.os, hb9.tape, hb9.output, hb9.size, hb9.block⟩); have HQ9 : Hid (QRv w8.heap.size w9 (.slice Aq n cq) (qRows P i ns t n m)) := (show Hid _ from hq9); have HG89 : Hid (w8.grownBy w9 (some g)) := (show Hid _ from grownBy_of_below HB9.out _); have HGF : Hid (w.grownBy w9 (some g)) := (show Hid _ from grownBy_trans HG8.out HG89.out); obtain ⟨f0, p0, p1⟩ := HX.out w9 HGF.out; have HDF : Hid (Dk w9 g) := (show Hid _ from HD8.out.below HB9.out); clear hb9 hq9)
      | (go_at_call 17; refine (HQ.out (w8.alloc (.cells #[.slice none 0 0, .int .i64 0] 39)) A1 c1 ns HNL.out HEL.out (by exact (HSE.out.below HBz8.out).si)).mono ?_; rintro e9 w9 ⟨Aq, cq, A2, c2, rfl, hb9, hq9⟩; have HB9z : Hid (Below (w8.alloc (.cells #[.slice none 0 0, .int .i64 0] 39)).heap.size (w8.alloc (.cells #[.slice none 0 0, .int .i64 0] 39)) w9) := (show Hid _ from ⟨hb9.os, hb9.tape, hb9.output, hb9.size, hb9.block⟩); have HB9 : Hid (Below w8.heap.size w8 w9) := (show Hid _ from HBz8.out.trans (HB9z.out.mono HBz8.out.size)); have HQ9 : Hid (QRv (w8.alloc (.cells #[.slice none 0 0, .int .i64 0] 39)).heap.size w9 (.slice Aq n cq) (qRows P i ns t n m)) := (show Hid _ from hq9); have HG89 : Hid (w8.grownBy w9 (some g)) := (show Hid _ from grownBy_of_below HB9.out _); have HGF : Hid (w.grownBy w9 (some g)) := (show Hid _ from grownBy_trans HG8.out HG89.out); have HDF : Hid (Dk w9 g) := (show Hid _ from HD8.out.below HB9.out); obtain ⟨hz0, z0, z1, y0, y1⟩ := HZC.out w8 w9 (by exact HD8.out.lt) (grownBy_of_below HB9z.out _); have HZF : Hid (w.heap.size ≤ w8.heap.size) := (show Hid _ from HG8.out.size); have HZH := Lib.hid hz0; clear hz0; obtain ⟨f0, p0, p1⟩ := HX.out w9 HGF.out; clear hb9 hq9))
  all_goals
    have hk := HK.out
    have hg8 := HD8.out.lt
    have hz8 := HG8.out.size
    refine hk _ _ _ _ _ _ _ _ _ _ _ _ _ _ _ _ _ ns _ ⟨HNL.out, HEL.out, ?_⟩
    first
      | exact ⟨(HQ9.out.below ((Below.refl _ _).alloc (Nat.le_refl _) _)).sle (by first | omega | (simp; omega)), HDF.out.alloc _, grownBy_trans HGF.out (grownBy_of_below ((Below.refl _ _).alloc (Nat.le_refl _) _) _), _, _, rfl, heap_alloc_new w9 _⟩
      | exact ⟨(HQ9.out.set2 (z := w8.heap.size) (by simp) _ _).sle (by first | omega | (simp; omega)), HDF.out.set2 (by omega) _ _, grown_set2 HGF.out (by omega) _ _, _, _, rfl, store2 _ _ HZH.out⟩
      | exact ⟨(HQ9.out.set2 (z := w.heap.size) (by have h := HGz8.out.size; simp at h; omega) _ _).sle (by omega), HDF.out.set2 (by omega) _ _, grown_set2 HGF.out (by omega) _ _, _, _, rfl, store2 _ _ HZH.out⟩


end Go.Proofs.YtbgabipngdillaaGreatDoor

namespace Go.Proofs.YtbgabipngdillaaGreatDoor
open Go.RowKit

/-- the answers so far: of one table and of the other, the same wrong parts on top -/
def BLR (P : Int) (X Y : List (List Int)) (k : Nat) (L M : List (Bool × List Int)) : Prop :=
  L.length = k ∧ M.length = k ∧ ∀ j (h1 : j < L.length) (h2 : j < M.length), L[j].1 = M[j].1 ∧ (L[j].1 = true → ∃ e, L[j].2 = ad2 P (gr X j) e ∧ M[j].2 = ad2 P (gr Y j) e)
theorem BLR.app {P : Int} {X Y : List (List Int)} {k : Nat} {L M : List (Bool × List Int)} (h : BLR P X Y k L M) (b : Bool) (l m : List Int) (hlm : b = true → ∃ e, l = ad2 P (gr X k) e ∧ m = ad2 P (gr Y k) e) : BLR P X Y (k + 1) (L ++ [(b, l)]) (M ++ [(b, m)]) := by
  obtain ⟨h1, h2, h3⟩ := h
  refine ⟨by simp [h1], by simp [h2], fun j j1 j2 => ?_⟩
  by_cases hj : j < k
  · rw [List.getElem_append_left (by omega), List.getElem_append_left (by omega)]
    exact h3 j _ _
  · have e : j = k := by simp at j1; omega
    subst e
    have e1 : (L ++ [(b, l)])[j]'j1 = (b, l) := by simp [h1]
    have e2 : (M ++ [(b, m)])[j]'j2 = (b, m) := by simp [h2]
    rw [e1, e2]
    exact ⟨rfl, hlm⟩
def Bd1 (n g : Nat) (P : Int) (X Y : List (List Int)) (w9 : World) (v u iv : Value) (wr : World) : Prop :=
  ∃ (k : Nat) (pv qv : Value) (xs ys : List (Bool × Value)) (L M : List (Bool × List Int)), pv = v ∧ qv = u ∧ k ≤ n ∧ iv = .int .i64 k ∧ BLR P X Y k L M ∧ LM2 w9.heap.size wr pv qv xs ys L M ∧ Dk wr g ∧ w9.grownBy wr (some g)
theorem bd_end {n g k ga gb ca cb : Nat} {P : Int} {X Y : List (List Int)} {w9 wz w4 w5 : World} {pv qv v1 v2 : Value} {xs ys : List (Bool × Value)} {L M : List (Bool × List Int)} {b : Bool} {l1 l2 : List Int} {o1 o2 : Obj} (hk : k < n) (hb : BLR P X Y k L M) (h : LM2 w9.heap.size wz pv qv xs ys L M) (hd : Dk wz g) (hg9 : g < w9.heap.size) (hg : w9.grownBy wz (some g))
    (hlm : b = true → ∃ e, l1 = ad2 P (gr X k) e ∧ l2 = ad2 P (gr Y k) e)
    (h1 : SY w9.heap.size wz pv.ownBlock qv.ownBlock v1 l1) (h2 : SY w9.heap.size wz qv.ownBlock pv.ownBlock v2 l2)
    (o4 : w4.ownsRow w9.heap.size 52 2 (.slice (some ⟨ga, 0, none⟩) (xs.length + 1) ca) (xs.length + 1) (xs.flatMap anc ++ [.bool b, v1])) (g4 : (wz.alloc o1).grownBy w4 pv.ownBlock) (a4 : pv.ownBlock = some ga ∨ ga = (wz.alloc o1).heap.size)
    (o5 : w5.ownsRow w9.heap.size 52 2 (.slice (some ⟨gb, 0, none⟩) (ys.length + 1) cb) (ys.length + 1) (ys.flatMap anc ++ [.bool b, v2])) (g5 : (w4.alloc o2).grownBy w5 qv.ownBlock) (a5 : qv.ownBlock = some gb ∨ gb = (w4.alloc o2).heap.size) :
    Bd1 n g P X Y w9 (.slice (some ⟨ga, 0, none⟩) (xs.length + 1) ca) (.slice (some ⟨gb, 0, none⟩) (ys.length + 1) cb) (.int .i64 ((k : Int) + 1)) w5 := by
  obtain ⟨q1, q2⟩ := lm2_two h hg.size h1 h2 o4 g4 a4 o5 g5 a5
  refine ⟨k + 1, _, _, _, _, _, _, rfl, rfl, by omega, by go_num, hb.app b l1 l2 hlm, q1, hd.of fun i hi => q2.block i (by omega), ?_⟩
  exact ⟨q2.os.trans hg.os, q2.tape.trans hg.tape, q2.output.trans hg.output, Nat.le_trans hg.size q2.size, fun i hi hn => (q2.block i hi).trans (hg.block i hi hn)⟩
set_option maxRecDepth 100000 in
set_option maxHeartbeats 8000000 in
theorem blind_any (l : List Int) (a b : Nat) (v : Value) (w : World) (ha : a < 256) (hb : b < 256) (h : SI w v l) (hE : EW w) :
    Calls Tryz.prog 7 #[v, .int .u8 a, .int .u8 b] w fun e w' => e = .returned (.bool true) ∧ Below w.heap.size w w' := by
  have HS := Lib.hid h
  have HE := Lib.hid hE
  obtain ⟨A, c, rfl⟩ := h.form
  clear h hE
  go_enter Tryz.func7, Tryz.ntmps7
  go_wp2_with fail
  (with_reducible refine (sane_any _ HE.out).mono ?_)
  rintro e w1 ⟨rfl, hb1⟩
  have HB1 := Lib.hid hb1
  have HS1 := Lib.hid (HS.out.below hb1)
  clear hb1
  go_wp2_with fail
  (with_reducible refine (few_any l _ w1 HS1.out).mono ?_)
  rintro e wz ⟨rfl, hwz⟩
  subst hwz
  by_cases h5 : l.length ≤ 500
  · have d5 : decide (l.length ≤ 500) = true := decide_eq_true h5
    rw [d5]
    clear d5 h5
    go_wp2_with fail
    (with_reducible refine (new_any l _ w1 HS1.out).mono ?_)
    rintro e w2 ⟨rfl, hd2, hb2, hz2⟩
    obtain ⟨g, eg⟩ : ∃ g, g = w1.heap.size := ⟨_, rfl⟩
    rw [← eg] at hd2 ⊢
    have HD2 := Lib.hid hd2
    have HB2 : Hid (Below w.heap.size w w2) := HB1.out.trans (hb2.mono HB1.out.size)
    have HGW : Hid (w.heap.size ≤ g) := (show Hid _ from by rw [eg]; exact HB1.out.size)
    have HG2 : Hid (g < w2.heap.size) := hd2.lt
    clear hd2 hb2 hz2 eg
    go_wp2_with fail
    (with_reducible refine (plan_any g w2 HD2.out).mono ?_)
    rintro e w3 ⟨P, n0, t0, rfl, hd3, hg3, hpr, hnP, hn2, hn7, ht1, htn⟩
    obtain ⟨n, rfl⟩ : ∃ n : Nat, n0 = n := ⟨n0.toNat, by omega⟩
    obtain ⟨t, rfl⟩ : ∃ t : Nat, t0 = t := ⟨t0.toNat, by omega⟩
    have HPR := Lib.hid hpr
    have hPb := prB_bd hpr
    obtain ⟨F, eF⟩ : ∃ F, F = w3.heap.size := ⟨_, rfl⟩
    obtain ⟨w4, ew4⟩ : ∃ w4 : World, w4 = (w3.alloc (.cells #[.int .i64 P] 31)).alloc (.cells #[.int .i64 n, .int .i64 t] 29) := ⟨_, rfl⟩
    have HW4 : Hid ((w3.alloc (.cells #[.int .i64 P] 31)).alloc (.cells #[.int .i64 n, .int .i64 t] 29) = w4) := ew4.symm
    have HF4 : Hid (w4.heap[F]? = some (.cells #[.int .i64 P] 31 (0, 0))) := (show Hid _ from by show _ = _; rw [ew4, eF, Below.heap_alloc _ _ _ (by simp)]; exact heap_alloc_new w3 _)
    have HP4 : Hid (w4.heap[F + 1]? = some (.cells #[.int .i64 n, .int .i64 t] 29 (0, 0))) := (show Hid _ from by show _ = _; rw [ew4, eF]; have := heap_alloc_new (w3.alloc (.cells #[.int .i64 P] 31)) (.cells #[.int .i64 n, .int .i64 t] 29); simpa using this)
    have HB34 : Hid (Below w3.heap.size w3 w4) := (show Hid _ from by rw [ew4]; exact ((Below.refl _ w3).alloc (Nat.le_refl _) _).alloc (by simp) _)
    have HD4 := Lib.hid (hd3.below HB34.out)
    have HGF : Hid (g < F) := (show Hid _ from by rw [eF]; have := hg3.size; have := HG2.out; show g < _; omega)
    have HG24 : Hid (w2.grownBy w4 (some g)) := grownBy_trans hg3 (grownBy_of_below HB34.out _)
    have HFF := Lib.hid eF
    have HG4 : Hid (g < w4.heap.size) := HD4.out.lt
    have HXC : Hid (∀ W, w4.grownBy W (some g) → W.cell? ⟨F, 0, none⟩ = some (.int .i64 P) ∧ W.cell? ⟨F + 1, 0, none⟩ = some (.int .i64 n) ∧ W.cell? ⟨F + 1, 1, none⟩ = some (.int .i64 t)) := (show Hid _ from fun W hg => by
      have h1 := (hg.block F (heap_of_cells HF4.out) (by have := HGF.out; simp; omega)).trans HF4.out
      have h2 := (hg.block (F + 1) (heap_of_cells HP4.out) (by have := HGF.out; simp; omega)).trans HP4.out
      exact ⟨cell_of_row W F 0 _ _ _ h1, cell_of_row W (F + 1) 0 _ _ _ h2, cell_of_row W (F + 1) 1 _ _ _ h2⟩)
    have HBF : Hid (∀ W, w4.grownBy W (some g) → Below w.heap.size w W) := (show Hid _ from fun W hg => HB2.out.grown (grownBy_trans HG24.out hg) HB2.out.size (fun k hk => by injection hk with e; subst e; exact HGW.out))
    clear hd3 hg3 hpr
    go_upto_region 7 with fail
    rw [HW4.out, ← eF]
    clear ew4 eF
    go_wp2_with fail
    (with_reducible refine (next_any 4 g w4 HD4.out (by unfold i64r; omega) (by omega)).mono ?_)
    rintro e w5 ⟨x, rfl, _, hx, hd5, hg5⟩
    obtain ⟨hx1, hx2⟩ := hx (by omega)
    obtain ⟨m, em⟩ : ∃ m : Nat, (m : Int) = 1 + x := ⟨(1 + x).toNat, by omega⟩
    have hm1 : 1 ≤ m := by omega
    have hm4 : m ≤ 4 := by omega
    have wm : IntKind.i64.wrap (1 + x) = (m : Int) := by rw [em]; exact IntWalk.i64_in _ (by omega)
    have HD5 := Lib.hid hd5
    have HG45 : Hid (w4.grownBy w5 (some g)) := hg5
    clear hx hx1 hx2 em hd5 hg5
    go_wp2_with fail
    (with_reducible refine (next_any 3 g w5 HD5.out (by unfold i64r; omega) (by omega)).mono ?_)
    rintro e w6 ⟨y, rfl, _, hy, hd6, hg6⟩
    obtain ⟨hy1, hy2⟩ := hy (by omega)
    obtain ⟨wd, ewd⟩ : ∃ wd : Nat, (wd : Int) = 1 + y := ⟨(1 + y).toNat, by omega⟩
    have hwd1 : 1 ≤ wd := by omega
    have hwd3 : wd ≤ 3 := by omega
    have wwd : IntKind.i64.wrap (1 + y) = (wd : Int) := by rw [ewd]; exact IntWalk.i64_in _ (by omega)
    have HD6 := Lib.hid hd6
    have HG46 : Hid (w4.grownBy w6 (some g)) := (show Hid _ from grownBy_trans HG45.out hg6)
    clear hy hy1 hy2 ewd hd6 hg6
    obtain ⟨f0, p0, p1⟩ := HXC.out w6 HG46.out
    have hPi : i64r P := by unfold i64r; omega
    go_wp2_with fail
    (with_reducible refine (limits_any P n t m w6 hPi).mono ?_)
    rintro e w8 ⟨vl, rfl, hb8, hok8, _⟩
    clear f0 p0 p1 wm wwd
    obtain ⟨K, eK⟩ : ∃ K, K = m * t := ⟨_, rfl⟩
    have hcc : ccE P n t m = 0 := by
      have hv : vaB n t = true := decide_eq_true ⟨by omega, by omega, by omega, by omega⟩
      have hc : cuE P n t = 0 := by unfold cuE; rw [if_neg (by rw [HPR.out]; simp), if_neg (by rw [hv]; simp; omega)]
      unfold ccE; rw [if_neg (by omega), hc]
    rw [hcc]
    have hol := hok8 hcc
    have hmt : ((m : Int) * (t : Int)).toNat = K := by rw [eK, ← Int.natCast_mul]; rfl
    rw [hmt] at hol
    have HKM : Hid ((K : Int) = (m : Int) * (t : Int)) := (show Hid _ from by show _ = _; rw [eK, Int.natCast_mul])
    have HKb : Hid (K ≤ 35) := (show Hid _ from by show _ ≤ _; rw [eK]; exact Nat.le_trans (Nat.mul_le_mul hm4 (by omega : t ≤ 7)) (by omega))
    have HG6g : Hid (g < w6.heap.size) := (show Hid _ from HD6.out.lt)
    have HSE8 : Hid (SE g w8 vl (List.replicate K P)) := (show Hid _ from SE.of_own hol (fun x hx => by rw [(List.mem_replicate.1 hx).2]; exact hPi) HG6g.out)
    have HG48 : Hid (w4.grownBy w8 (some g)) := (show Hid _ from grownBy_trans HG46.out (grownBy_of_below hb8 _))
    have HD8 := Lib.hid (HD6.out.below hb8)
    clear hb8 hok8 hol eK hcc hmt
    obtain ⟨Al, cl, evl⟩ := HSE8.out.form
    subst evl
    rw [List.length_replicate] at HSE8 ⊢
    have HXF : Hid (∀ W, w8.grownBy W (some g) → W.cell? ⟨F, 0, none⟩ = some (.int .i64 P)) := (show Hid _ from fun W hg => (HXC.out W (grownBy_trans HG48.out hg)).1)
    have HRWS : Hid (∀ W, w8.grownBy W (some g) → Dk W g → Calls Tryz.prog 24 #[.pointer (some ⟨g, 0, none⟩), .agg #[.int .i64 P], .int .i64 m, .int .i64 wd] W fun e w' => ∃ A c rows, e = .returned (.slice A m c) ∧ (rows.length = m ∧ ∀ r ∈ rows, r.length = wd ∧ els P r = true) ∧ SLE g w' (.slice A m c) rows ∧ Dk w' g ∧ W.grownBy w' (some g)) := (show Hid _ from fun W hg hd =>
      (rows_any g m wd P W hd (by omega) (by omega) (by omega)).mono fun e w' ⟨vr, rows, h1, h2, h3, h4, h5, h6⟩ => by
        obtain ⟨Ar, cr, evr⟩ := h4.form
        rw [h2] at evr
        subst evr
        exact ⟨Ar, cr, rows, h1, ⟨h2, h3⟩, h4, h5, h6⟩)
    go_upto_region 9 with fail
    apply regL g F m wd P (fun rows => rows.length = m ∧ ∀ r ∈ rows, r.length = wd ∧ els P r = true) w8 HXF.out HD8.out HRWS.out
    rintro u14 u15 u61 u62 u63 u64 u65 u66 u67 u68 u69 u70 one two w9 ⟨⟨hl1, hr1⟩, ⟨hl2, hr2⟩, hs1, hs2, hd9, hg9⟩
    have HL1 := Lib.hid hl1
    have HL2 := Lib.hid hl2
    have HR1 := Lib.hid hr1
    have HR2 := Lib.hid hr2
    obtain ⟨Ao, co, evo⟩ := hs1.form
    obtain ⟨At, ct, evt⟩ := hs2.form
    rw [hl1] at evo
    rw [hl2] at evt
    subst evo evt
    have HS19 := Lib.hid hs1
    have HS29 := Lib.hid hs2
    have HD9 := Lib.hid hd9
    have HG89 : Hid (w8.grownBy w9 (some g)) := hg9
    have HG49 : Hid (w4.grownBy w9 (some g)) := (show Hid _ from grownBy_trans HG48.out hg9)
    clear hl1 hl2 hr1 hr2 hs1 hs2 hd9 hg9 HXF HRWS
    obtain ⟨ea1, ea2⟩ := u8_tmod a m (by omega)
    obtain ⟨eb1, eb2⟩ := u8_tmod b m (by omega)
    rw [Int.toNat_natCast] at ea1 ea2 eb1 eb2
    obtain ⟨i, ei⟩ : ∃ i, i = a % m := ⟨_, rfl⟩
    obtain ⟨q, eq⟩ : ∃ q, q = b % m := ⟨_, rfl⟩
    rw [← ei] at ea1 ea2
    rw [← eq] at eb1 eb2
    have him : i < m := by omega
    have hqm : q < m := by omega
    have hm0 : ¬ m = 0 := by omega
    have hm0' : ¬ (m : Int) = 0 := by omega
    have wi : IntKind.i64.wrap ((i : Nat) : Int) = (i : Int) := by exact IntWalk.i64_in _ (by omega)
    have wq_ : IntKind.i64.wrap ((q : Nat) : Int) = (q : Int) := by exact IntWalk.i64_in _ (by omega)
    have wa_ : IntKind.i64.wrap ((a : Nat) : Int) = (a : Int) := by exact IntWalk.i64_in _ (by omega)
    have wb_ : IntKind.i64.wrap ((b : Nat) : Int) = (b : Int) := by exact IntWalk.i64_in _ (by omega)
    clear ei eq
    have HSD : Hid (∀ W, w9.grownBy W (some g) → Dk W g → Calls Tryz.prog 19 #[.pointer (some ⟨g, 0, none⟩), .slice Al K cl] W fun e w' => ∃ A1 c1 ns, e = .returned (.agg #[.slice A1 K c1, .int .i64 0]) ∧ ns.length = K ∧ els P ns = true ∧ SE g w' (.slice A1 K c1) ns ∧ Dk w' g ∧ W.grownBy w' (some g)) := (show Hid _ from fun W hg hd =>
      (seed_any g (List.replicate K P) _ W hd (HSE8.out.grown (grownBy_trans HG89.out hg)) (by have := HKb.out; simp; omega) (limits_ok hPb)).mono fun e w' ⟨v1, ns, h1, h2, h3, h4, h5, h6⟩ => by
        have hnK : ns.length = K := by rw [h5]; simp
        obtain ⟨A1, c1, ev1⟩ := h6.form
        rw [hnK] at ev1
        subst ev1
        exact ⟨A1, c1, ns, h1, hnK, inL_els h4 hnK, h6, h2, h3⟩)
    have HQS : Hid (∀ i : Nat, i < m → ∀ W A1 c1 ns, ns.length = K → els P ns = true → SI W (.slice A1 K c1) ns → Calls Tryz.prog 17 #[.agg #[.int .i64 P], .agg #[.int .i64 n, .int .i64 t], .int .i64 m, .int .i64 i, .agg #[.slice A1 K c1, .int .i64 0]] W fun e w' => ∃ Aq cq A2 c2, e = .returned (.tuple #[.slice Aq n cq, .agg #[.slice A2 K c2, .int .i64 K], .int .i64 0]) ∧ Below W.heap.size W w' ∧ QRv W.heap.size w' (.slice Aq n cq) (qRows P i ns t n m)) := (show Hid _ from fun i him W A1 c1 ns hl he hs =>
      (queriesF_any P n t m i ns 0 _ W hPi (by unfold i64r; omega) hs).mono fun e w' ⟨vq, v1, a1, h1, h2, h3, _⟩ => by
        obtain ⟨_, hq0⟩ := quE_zero (P := P) (n := n) (t := t) (m := m) (i := i) (ns := ns) HPR.out (by omega) (by omega) (by omega) (by omega) (by omega) (by omega) (by omega) (by omega) (by rw [hl]; exact HKM.out) he
        rw [hq0] at h1 h3
        obtain ⟨e1, h5, h6⟩ := h3 rfl
        have htk : (ns.drop 0).take ((m : Int) * (t : Int)).toNat = ns := by rw [List.drop_zero, ← HKM.out, Int.toNat_natCast, ← hl, List.take_length]
        rw [htk] at h6
        simp only [Int.toNat_natCast] at h6
        obtain ⟨A2, c2, ev1⟩ := h5.form'
        rw [hl] at ev1
        subst ev1
        obtain ⟨G, vs, hB, evq, hq, hr, hm⟩ := h6
        rw [qRows_len] at evq
        subst evq
        have ea : a1 = (K : Int) := by rw [e1, HKM.out]; simp
        subst ea
        exact ⟨_, _, A2, c2, h1, h2, G, vs, hB, by rw [qRows_len], hq, hr, hm⟩)
    have HX9 : Hid (∀ W, w9.grownBy W (some g) → W.cell? ⟨F, 0, none⟩ = some (.int .i64 P) ∧ W.cell? ⟨F + 1, 0, none⟩ = some (.int .i64 n) ∧ W.cell? ⟨F + 1, 1, none⟩ = some (.int .i64 t)) := (show Hid _ from fun W hg => HXC.out W (grownBy_trans HG49.out hg))
    go_upto_region 10 with fail
    apply regJ g F (F + 1) n t m i K a P (.slice Al K cl) w9 wa_ ea1 hm0 HX9.out HD9.out HSD.out (HQS.out i him)
    rintro u16 u17 u71 u72 u73 u74 u75 u76 u77 u78 u79 u80 u81 u82 u83 u84 u85 ns w10 ⟨_, _, hsq, hd10, hg10, _⟩
    obtain ⟨Aq, cq, evq⟩ := hsq.form
    rw [qRows_len] at evq
    subst evq
    have HSQ10 := Lib.hid hsq
    have HD10 := Lib.hid hd10
    have HG910 : Hid (w9.grownBy w10 (some g)) := hg10
    have HX10 : Hid (∀ W, w10.grownBy W (some g) → W.cell? ⟨F, 0, none⟩ = some (.int .i64 P) ∧ W.cell? ⟨F + 1, 0, none⟩ = some (.int .i64 n) ∧ W.cell? ⟨F + 1, 1, none⟩ = some (.int .i64 t)) := (show Hid _ from fun W hg => HX9.out W (grownBy_trans HG910.out hg))
    clear hsq hd10 hg10 wa_ ea1 wi
    go_upto_region 11 with fail
    apply regK g F (F + 1) n t m q K b P (.slice Al K cl) w10 wb_ eb1 hm0 HX10.out HD10.out (fun W hg => HSD.out W (grownBy_trans HG910.out hg)) (HQS.out q hqm)
    rintro u19 u20 u86 u87 u88 u89 u90 u91 u92 u93 u94 u95 u96 u97 u98 u99 u100 ms w11 ⟨_, _, hsr, hd11, hg11, _⟩
    obtain ⟨Av, cv, evv⟩ := hsr.form
    rw [qRows_len] at evv
    subst evv
    have HSR11 := Lib.hid hsr
    have HD11 := Lib.hid hd11
    have HSQ11 := Lib.hid (HSQ10.out.grown hg11)
    have HG911 : Hid (w9.grownBy w11 (some g)) := (show Hid _ from grownBy_trans HG910.out hg11)
    have HS111 := Lib.hid (HS19.out.grown HG911.out)
    have HS211 := Lib.hid (HS29.out.grown HG911.out)
    have HG411 : Hid (w4.grownBy w11 (some g)) := (show Hid _ from grownBy_trans HG49.out HG911.out)
    clear hsr hd11 hg11 wb_ eb1 wq_ HSD HQS
    obtain ⟨X, eX⟩ : ∃ X, X = (List.range n).map fun (j : Nat) => cmb P (qRow P i ns t j m) one wd := ⟨_, rfl⟩
    obtain ⟨Y, eY⟩ : ∃ Y, Y = (List.range n).map fun (j : Nat) => cmb P (qRow P q ms t j m) two wd := ⟨_, rfl⟩
    have HXe := Lib.hid eX
    have HYe := Lib.hid eY
    have HXl : Hid (X.length = n) := Lib.hid (by rw [eX]; simp)
    have HYl : Hid (Y.length = n) := Lib.hid (by rw [eY]; simp)
    have HGX : Hid (∀ j, j < n → gr X j = cmb P (qRow P i ns t j m) one wd) := (show Hid _ from fun j hj => by rw [eX]; unfold gr; rw [List.getElem?_map, List.getElem?_range hj]; rfl)
    have HGY : Hid (∀ j, j < n → gr Y j = cmb P (qRow P q ms t j m) two wd) := (show Hid _ from fun j hj => by rw [eY]; unfold gr; rw [List.getElem?_map, List.getElem?_range hj]; rfl)
    have HXF : Hid (∀ W, w11.grownBy W (some g) → W.cell? ⟨F, 0, none⟩ = some (.int .i64 P)) := (show Hid _ from fun W hg => (HXC.out W (grownBy_trans HG411.out hg)).1)
    have HAN : Hid (∀ W u v Z, ((u = .slice Ao m co ∧ v = .slice Aq n cq ∧ Z = X) ∨ (u = .slice At m ct ∧ v = .slice Av n cv ∧ Z = Y)) → w11.grownBy W (some g) → Calls Tryz.prog 28 #[.agg #[.int .i64 P], .int .i64 wd, u, v] W fun e w' => ∃ Aa ca, e = .returned (.slice Aa n ca) ∧ Below W.heap.size W w' ∧ SLE g w' (.slice Aa n ca) Z) := (show Hid _ from fun W u v Z hc hg => by
      have hgW : g < W.heap.size := by have := HD11.out.lt; have := hg.size; omega
      rcases hc with ⟨rfl, rfl, rfl⟩ | ⟨rfl, rfl, rfl⟩
      · refine (answers_any P wd one (qRows P i ns t n m) g _ _ W hPi hgW (HS111.out.grown hg).sl (HSQ11.out.grown hg).sl (by rw [qRows_len]; omega)).mono fun e w' ⟨v, h1, h2, h3⟩ => ?_
        rw [ans_rows HPR.out (by omega) HL1.out HR1.out, ← HXe.out] at h3
        obtain ⟨Aa, ca, e1⟩ := h3.form
        subst e1
        rw [HXl.out] at h1 h3
        exact ⟨Aa, ca, h1, h2, h3⟩
      · refine (answers_any P wd two (qRows P q ms t n m) g _ _ W hPi hgW (HS211.out.grown hg).sl (HSR11.out.grown hg).sl (by rw [qRows_len]; omega)).mono fun e w' ⟨v, h1, h2, h3⟩ => ?_
        rw [ans_rows HPR.out (by omega) HL2.out HR2.out, ← HYe.out] at h3
        obtain ⟨Aa, ca, e1⟩ := h3.form
        subst e1
        rw [HYl.out] at h1 h3
        exact ⟨Aa, ca, h1, h2, h3⟩)
    clear eX eY
    go_upto_region 14 with fail
    apply regM g F n wd P (.slice Ao m co) (.slice At m ct) (.slice Aq n cq) (.slice Av n cv) X Y w11 HXF.out HAN.out
    rintro u22 u23 u107 u108 u109 u110 u111 u112 u113 u114 u115 u116 w12 ⟨hsx, hsy, hb12⟩
    have HG1112 : Hid (w11.grownBy w12 (some g)) := (show Hid _ from grownBy_of_below hb12 _)
    have HG412 : Hid (w4.grownBy w12 (some g)) := (show Hid _ from grownBy_trans HG411.out HG1112.out)
    have HD12 : Hid (Dk w12 g) := (show Hid _ from HD11.out.below hb12)
    obtain ⟨bx, ox, cx, Hx, evx, _, hvx⟩ := hsx.view (by rw [HXl.out]; omega)
    obtain ⟨by_, oy, cy, Hy, evy, _, hvy⟩ := hsy.view (by rw [HYl.out]; omega)
    rw [HXl.out] at evx
    rw [HYl.out] at evy
    subst evx evy
    have HVX : Hid (∀ W, w12.grownBy W (some g) → ∀ j, j < n → W.cell? ⟨bx, ox + j, none⟩ = some (Hx j) ∧ SE g W (Hx j) (gr X j)) := (show Hid _ from fun W hg j hj => by
      have hj' : j < X.length := by rw [HXl.out]; exact hj
      have e : gr X j = X[j] := by unfold gr; rw [List.getElem?_eq_getElem hj']; rfl
      rw [e]; exact ⟨(hvx W hg j hj').1, (hvx W hg j hj').2.1⟩)
    have HVY : Hid (∀ W, w12.grownBy W (some g) → ∀ j, j < n → W.cell? ⟨by_, oy + j, none⟩ = some (Hy j) ∧ SE g W (Hy j) (gr Y j)) := (show Hid _ from fun W hg j hj => by
      have hj' : j < Y.length := by rw [HYl.out]; exact hj
      have e : gr Y j = Y[j] := by unfold gr; rw [List.getElem?_eq_getElem hj']; rfl
      rw [e]; exact ⟨(hvy W hg j hj').1, (hvy W hg j hj').2.1⟩)
    have HXX : Hid (∀ j, j < n → (gr X j).length = wd ∧ els P (gr X j) = true) := (show Hid _ from fun j hj => by rw [HGX.out j hj]; exact ⟨cmbT_len .., cmbT_els hPb.1 ..⟩)
    have HYY : Hid (∀ j, j < n → (gr Y j).length = wd ∧ els P (gr Y j) = true) := (show Hid _ from fun j hj => by rw [HGY.out j hj]; exact ⟨cmbT_len .., cmbT_els hPb.1 ..⟩)
    have HGg : Hid (g < w12.heap.size) := (show Hid _ from HD12.out.lt)
    have HXF12 : Hid (∀ W, w12.grownBy W (some g) → W.cell? ⟨F, 0, none⟩ = some (.int .i64 P)) := (show Hid _ from fun W hg => HXF.out W (grownBy_trans HG1112.out hg))
    clear hsx hsy hb12 hvx hvy HXF HAN
    go_wp2_with fail
    go_loopw [24, 25, 119] (fun v u iv wr => Bd1 n g P X Y w12 v u iv wr) (fun _ _ iv _ => n - (intOf iv).toNat)
    case atStart => exact ⟨0, _, _, [], [], [], [], rfl, rfl, Nat.zero_le _, rfl, ⟨rfl, rfl, fun j h => by simp at h⟩, ⟨LM.nil .., LM.nil ..⟩, HD12.out, grownBy_refl _ _⟩
    case round =>
      obtain ⟨k, pv, qv, xs, ys, L, M, rfl, rfl, hk, rfl, hbr, hlm, hd, hg⟩ := hrel
      have HBR := Lib.hid hbr
      have HLM := Lib.hid hlm
      have HD := Lib.hid hd
      have HG := Lib.hid hg
      have hxl : xs.length ≤ 10 := by have := hlm.p.len; have := hbr.1; omega
      have hyl : ys.length ≤ 10 := by have := hlm.q.len; have := hbr.2.1; omega
      have HZ : Hid (w12.heap.size ≤ wr.heap.size) := hg.size
      clear hbr hlm hd hg
      by_cases hlk : k < n
      · have dk : decide (k < n) = true := decide_eq_true hlk
        go_wp2_with fail
        (with_reducible refine (next_any 6 g wr HD.out (by unfold i64r; omega) (by omega)).mono ?_)
        rintro e w13 ⟨x, rfl, _, hx, hd13, hg13⟩
        have HD13 := Lib.hid hd13
        have HLM13 := Lib.hid (HLM.out.grown hg13 HGg.out)
        have HG13 : Hid (w12.grownBy w13 (some g)) := (show Hid _ from grownBy_trans HG.out hg13)
        have HZ13 : Hid (w12.heap.size ≤ w13.heap.size) := HG13.out.size
        clear hx hd13 hg13
        by_cases hx0 : x = 0
        · have b0 : (x == 0) = true := by rw [beq_iff_eq]; exact hx0
          have b0' : decide (x = 0) = true := decide_eq_true hx0
          clear hx0
          go_wp2_with (at_builtin; first
            | (revert HQA; intro HQA; refine wpList_append_lit_at _ rfl _ _ 50 rfl w12.heap.size 52 _ 2 32 Tryz.underlying50 aninfo qv ys.length (ys.flatMap anc) rfl (HQA.out.alloc _) [.bool false, .slice none 0 0] rfl (by intro u hu; simp at hu; rcases hu with rfl | rfl <;> rfl) w4z.heap.size rfl (fun j u hu => by have h := cells_new w4z [.bool false, .slice none 0 0] 52 j u hu; rw [addr_add] at h; exact h) (by omega) (by omega) rfl (by omega) (by have := HZA.out; simp; omega) ?_; intro gb cb w5z hown5 hg5 hat5; have HO5 := Lib.hid hown5; have HG5 := Lib.hid hg5; have HA5 := Lib.hid hat5; clear hown5 hg5 hat5)
            | (refine wpList_append_lit_at _ rfl _ _ 50 rfl w12.heap.size 52 _ 2 32 Tryz.underlying50 aninfo pv xs.length (xs.flatMap anc) rfl (HLM13.out.p.ans.alloc _) [.bool false, .slice none 0 0] rfl (by intro u hu; simp at hu; rcases hu with rfl | rfl <;> rfl) w13.heap.size rfl (fun j u hu => by have h := cells_new w13 [.bool false, .slice none 0 0] 52 j u hu; rw [addr_add] at h; exact h) (by omega) (by omega) rfl (by omega) (by have := HZ13.out; simp; omega) ?_; intro ga ca w4z hown4 hg4 hat4; have HGA := Lib.hid hg4; have HOA := Lib.hid hown4; have HAA := Lib.hid hat4; have HQA := Lib.hid (HLM13.out.qans _ hg4); have HZA : Hid (w12.heap.size ≤ w4z.heap.size) := (show Hid _ from by have h := hg4.size; have := HZ13.out; simp at h; show _ ≤ _; omega); clear hown4 hg4 hat4))
          go_roundw
          case rel => exact bd_end hlk HBR.out HLM13.out HD13.out HGg.out HG13.out (fun h => by cases h) (SY.nil ..) (SY.nil ..) HOA.out HGA.out HAA.out HO5.out HG5.out HA5.out
          case measure => simp [intOf]; omega
        · have b0 : (x == 0) = false := by rw [beq_eq_false_iff_ne]; exact hx0
          have b0' : decide (x = 0) = false := decide_eq_false hx0
          obtain ⟨B, eB⟩ : ∃ B, B = w13.heap.size := ⟨_, rfl⟩
          obtain ⟨w14, ew14⟩ : ∃ w14 : World, w14 = w13.alloc (.cells ((zeros wd).map (Value.int .i64)).toArray 3) := ⟨_, rfl⟩
          have HW14 : Hid (w13.alloc (.cells ((zeros wd).map (Value.int .i64)).toArray 3) = w14) := ew14.symm
          have HB14 : Hid (Below w13.heap.size w13 w14) := (show Hid _ from by rw [ew14]; exact (Below.refl _ w13).alloc (Nat.le_refl _) _)
          have HS14 : Hid (SE g w14 (.slice (some ⟨B, 0, none⟩) wd wd) (zeros wd)) := (show Hid _ from by
            have hv : w14.heap[B]? = some (.cells ((zeros wd).map (Value.int .i64)).toArray 3 (0, 0)) := by rw [ew14, eB]; exact heap_alloc_new w13 _
            have hl : (zeros wd).length = wd := by simp [zeros]
            refine ⟨_, wd, by rw [hl], by rw [hl]; exact Nat.le_refl _, by omega, fun x hx => ?_, fun _ => ⟨B, 0, rfl, heap_of_cells hv, by have := HGg.out; have := HZ13.out; omega, fun j hj => ?_⟩⟩
            · rw [List.eq_of_mem_replicate hx]; unfold i64r; omega
            · rw [cell_of_row w14 B _ _ _ _ hv]; simp [hj])
          have HD14 := Lib.hid (HD13.out.below HB14.out)
          have HLM14 := Lib.hid (HLM13.out.below HB14.out)
          have HG14 : Hid (w12.grownBy w14 (some g)) := (show Hid _ from grownBy_trans HG13.out (grownBy_of_below HB14.out _))
          clear hx0
          go_wp2_with (at_make; refine wpList_make_ints _ rfl _ _ 22 rfl 3 Tryz.underlying22 iinfo _ wd rfl rfl rfl (by omega) ?_)
          rw [HW14.out, ← eB]
          clear ew14 eB
          (with_reducible refine (next_any 3 g w14 HD14.out (by unfold i64r; omega) (by omega)).mono ?_)
          rintro e w16 ⟨y, rfl, _, hy, hd16, hg16⟩
          have HD16 := Lib.hid hd16
          have HLM16 := Lib.hid (HLM14.out.grown hg16 HGg.out)
          have HG16 : Hid (w12.grownBy w16 (some g)) := (show Hid _ from grownBy_trans HG14.out hg16)
          obtain ⟨vw, evw⟩ : ∃ vw, vw = Value.slice (some ⟨B, 0, none⟩) wd wd := ⟨_, rfl⟩
          have HVW : Hid (SI w16 vw (zeros wd)) := (show Hid _ from by rw [evw]; exact (HS14.out.grown hg16).si)
          rw [← evw]
          obtain ⟨ev, eev⟩ : ∃ ev, ev = zeros wd := ⟨_, rfl⟩
          rw [← eev] at HVW
          have HEV : Hid (ev.length = wd ∧ els P ev = true) := (show Hid _ from by rw [eev]; exact ⟨by simp [zeros], zeros_els hPb.1 _⟩)
          clear hy hd16 hg16 evw eev b0 b0'
          by_cases hy0 : y = 0
          case' pos =>
            have b1 : (y == 0) = true := by rw [beq_iff_eq]; exact hy0
            have b1' : decide (y = 0) = true := decide_eq_true hy0
            have f0 := HXF12.out w16 HG16.out
            clear hy0
            go_wp2_with fail
            (with_reducible refine (elements_any g wd P w16 HD16.out (by omega) (by omega)).mono ?_)
            rintro e w17 ⟨vw, ev, rfl, hel, hee, heo, hd17, hg17⟩
            have HEV : Hid (ev.length = wd ∧ els P ev = true) := ⟨hel, hee⟩
            have HVW : Hid (SI w17 vw ev) := (show Hid _ from (SE.of_own (g := g) heo (els_r (by omega) hee) HD16.out.lt).si)
            have HLM16 := Lib.hid (HLM16.out.grown hg17 HGg.out)
            have HG16 : Hid (w12.grownBy w17 (some g)) := (show Hid _ from grownBy_trans HG16.out hg17)
            have HD16 := Lib.hid hd17
            clear hel hee heo hd17 hg17 f0
            obtain ⟨w16, e16⟩ : ∃ w16 : World, w16 = w17 := ⟨_, rfl⟩
            rw [← e16] at HD16 HLM16 HG16 HVW ⊢
            clear e16
          case' neg =>
            have b1 : (y == 0) = false := by rw [beq_eq_false_iff_ne]; exact hy0
            have b1' : decide (y = 0) = false := decide_eq_false hy0
            clear hy0
          all_goals
            have HX16 : Hid (∀ W, Below w16.heap.size w16 W → W.cell? ⟨F, 0, none⟩ = some (.int .i64 P) ∧ W.cell? ⟨bx, ox + k, none⟩ = some (Hx k)) := (show Hid _ from fun W hb => by
              have hg := grownBy_trans HG16.out (grownBy_of_below hb _)
              exact ⟨HXF12.out W hg, (HVX.out W hg k hlk).1⟩)
            have HA1 : Hid (∀ W, Below w16.heap.size w16 W → Calls Tryz.prog 42 #[.agg #[.int .i64 P], Hx k, vw] W fun e w' => ∃ A c, e = .returned (.tuple #[.slice A wd c, .int .i64 0]) ∧ Below W.heap.size W w' ∧ w'.ownsRow w16.heap.size 3 1 (.slice A wd c) wd ((ad2 P (gr X k) ev).map (Value.int .i64))) := (show Hid _ from fun W hb => by
              have hg := grownBy_trans HG16.out (grownBy_of_below hb _)
              have hl := (HXX.out k hlk).1
              refine (add_ok P (gr X k) ev (Hx k) vw W HPR.out (HVX.out W hg k hlk).2.si (HVW.out.below hb) (HXX.out k hlk).2 HEV.out.2 (by rw [hl, HEV.out.1]) (by omega)).mono fun e w' ⟨A, c, h1, h2, h3⟩ => ?_
              rw [hl] at h1 h3
              exact ⟨A, c, h1, h2, own_lo h3 hb.size⟩)
            go_upto_region 24 with fail
            apply regN F bx ox n cx k wd P (Hx k) vw (ad2 P (gr X k) ev) w16 hlk HX16.out HA1.out
            rintro u28 u29 u142 u143 u144 u145 u146 u147 u148 u149 u150 u151 w18 ⟨hb18, A28, c28, rfl, ho28⟩
            have HB18 := Lib.hid hb18
            have HO28 := Lib.hid ho28
            clear hb18 ho28 HX16 HA1
            have HX18 : Hid (∀ W, Below w18.heap.size w18 W → W.cell? ⟨F, 0, none⟩ = some (.int .i64 P) ∧ W.cell? ⟨by_, oy + k, none⟩ = some (Hy k)) := (show Hid _ from fun W hb => by
              have hg := grownBy_trans HG16.out (grownBy_trans (grownBy_of_below HB18.out _) (grownBy_of_below hb _))
              exact ⟨HXF12.out W hg, (HVY.out W hg k hlk).1⟩)
            have HA2 : Hid (∀ W, Below w18.heap.size w18 W → Calls Tryz.prog 42 #[.agg #[.int .i64 P], Hy k, vw] W fun e w' => ∃ A c, e = .returned (.tuple #[.slice A wd c, .int .i64 0]) ∧ Below W.heap.size W w' ∧ w'.ownsRow w18.heap.size 3 1 (.slice A wd c) wd ((ad2 P (gr Y k) ev).map (Value.int .i64))) := (show Hid _ from fun W hb => by
              have hg := grownBy_trans HG16.out (grownBy_trans (grownBy_of_below HB18.out _) (grownBy_of_below hb _))
              have hl := (HYY.out k hlk).1
              refine (add_ok P (gr Y k) ev (Hy k) vw W HPR.out (HVY.out W hg k hlk).2.si ((HVW.out.below HB18.out).below hb) (HYY.out k hlk).2 HEV.out.2 (by rw [hl, HEV.out.1]) (by omega)).mono fun e w' ⟨A, c, h1, h2, h3⟩ => ?_
              rw [hl] at h1 h3
              exact ⟨A, c, h1, h2, own_lo h3 hb.size⟩)
            go_upto_region 25 with fail
            apply regO F by_ oy n cy k wd P (Hy k) vw (ad2 P (gr Y k) ev) w18 hlk HX18.out HA2.out
            rintro u30 u31 u152 u153 u154 u155 u156 u157 u158 u159 u160 u161 w19 ⟨hb19, A30, c30, rfl, ho30⟩
            have HB1619 : Hid (Below w16.heap.size w16 w19) := (show Hid _ from HB18.out.trans (hb19.mono HB18.out.size))
            have HLM13 := Lib.hid (HLM16.out.below HB1619.out)
            have HD13 := Lib.hid (HD16.out.below HB1619.out)
            have HG13 : Hid (w12.grownBy w19 (some g)) := (show Hid _ from grownBy_trans HG16.out (grownBy_of_below HB1619.out _))
            have HZ13 : Hid (w12.heap.size ≤ w19.heap.size) := HG13.out.size
            have HZ16 : Hid (w12.heap.size ≤ w16.heap.size) := HG16.out.size
            have HZ18 : Hid (w16.heap.size ≤ w18.heap.size) := HB18.out.size
            have HSY1 : Hid (SY w12.heap.size w19 pv.ownBlock qv.ownBlock (.slice A28 wd c28) (ad2 P (gr X k) ev)) := (show Hid _ from SY.of_own (base := w16.heap.size) (e := 3) (by
                have hl : (ad2 P (gr X k) ev).length = wd := by rw [ad2_len]; exact (HXX.out k hlk).1
                rw [hl]; exact own_bel HO28.out hb19) (els_r (by omega) (ad2_els hPb.1 ..)) HZ16.out (fun b hb => (HLM16.out.p.ans.lt b hb).2) (fun b hb => (HLM16.out.q.ans.lt b hb).2))
            have HSY2 : Hid (SY w12.heap.size w19 qv.ownBlock pv.ownBlock (.slice A30 wd c30) (ad2 P (gr Y k) ev)) := (show Hid _ from SY.of_own (base := w18.heap.size) (e := 3) (by
                have hl : (ad2 P (gr Y k) ev).length = wd := by rw [ad2_len]; exact (HYY.out k hlk).1
                rw [hl]; exact ho30) (els_r (by omega) (ad2_els hPb.1 ..)) (Nat.le_trans HZ16.out HZ18.out) (fun b hb => Nat.lt_of_lt_of_le (HLM16.out.q.ans.lt b hb).2 HZ18.out) (fun b hb => Nat.lt_of_lt_of_le (HLM16.out.p.ans.lt b hb).2 HZ18.out))
            clear hb19 ho30 HX18 HA2
            go_wp2_with (at_builtin; first
              | (revert HQA; intro HQA; refine wpList_append_lit_at _ rfl _ _ 50 rfl w12.heap.size 52 _ 2 32 Tryz.underlying50 aninfo qv ys.length (ys.flatMap anc) rfl (HQA.out.alloc _) [.bool true, .slice A30 wd c30] rfl (by intro u hu; simp at hu; rcases hu with rfl | rfl <;> rfl) w4z.heap.size rfl (fun j u hu => by have h := cells_new w4z [.bool true, .slice A30 wd c30] 52 j u hu; rw [addr_add] at h; exact h) (by omega) (by omega) rfl (by omega) (by have := HZA.out; simp; omega) ?_; intro gb cb w5z hown5 hg5 hat5; have HO5 := Lib.hid hown5; have HG5 := Lib.hid hg5; have HA5 := Lib.hid hat5; clear hown5 hg5 hat5)
              | (refine wpList_append_lit_at _ rfl _ _ 50 rfl w12.heap.size 52 _ 2 32 Tryz.underlying50 aninfo pv xs.length (xs.flatMap anc) rfl (HLM13.out.p.ans.alloc _) [.bool true, .slice A28 wd c28] rfl (by intro u hu; simp at hu; rcases hu with rfl | rfl <;> rfl) w19.heap.size rfl (fun j u hu => by have h := cells_new w19 [.bool true, .slice A28 wd c28] 52 j u hu; rw [addr_add] at h; exact h) (by omega) (by omega) rfl (by omega) (by have := HZ13.out; simp; omega) ?_; intro ga ca w4z hown4 hg4 hat4; have HGA := Lib.hid hg4; have HOA := Lib.hid hown4; have HAA := Lib.hid hat4; have HQA := Lib.hid (HLM13.out.qans _ hg4); have HZA : Hid (w12.heap.size ≤ w4z.heap.size) := (show Hid _ from by have h := hg4.size; have := HZ13.out; simp at h; show _ ≤ _; omega); clear hown4 hg4 hat4))
            go_roundw
            case rel => exact bd_end hlk HBR.out HLM13.out HD13.out HGg.out HG13.out (fun _ => ⟨ev, rfl, rfl⟩) HSY1.out HSY2.out HOA.out HGA.out HAA.out HO5.out HG5.out HA5.out
            case measure => simp [intOf]; omega
      · have dk : decide (k < n) = false := decide_eq_false hlk
        have hkn : n = k := by omega
        subst hkn
        have HLn : Hid (L.length = n) := HBR.out.1
        have HMn : Hid (M.length = n) := HBR.out.2.1
        have HS1 : Hid (SAE g wr pv L) := (show Hid _ from HLM.out.p.sae HGg.out)
        have HSM : Hid (SAE g wr qv M) := (show Hid _ from HLM.out.q.sae HGg.out)
        obtain ⟨Ap, cp, ep⟩ := HS1.out.form
        obtain ⟨Au, cu, eu⟩ := HSM.out.form
        rw [HLn.out] at ep
        rw [HMn.out] at eu
        subst ep eu
        have HG4r : Hid (w4.grownBy wr (some g)) := (show Hid _ from grownBy_trans HG412.out HG.out)
        have HE1 : Hid (EW wr) := HE.out.below (HBF.out wr HG4r.out)
        obtain ⟨f0, p0, p1⟩ := HXC.out wr HG4r.out
        go_wp2_with fail
        (with_reducible refine (cdecode_any P n t wd L _ wr hPi HS1.out.san (by rw [HLn.out]; omega) HE1.out).mono ?_)
        rintro e w13 ⟨row1, wrl1, er1, va1, vb1, rfl, hb1, hde1, hro1, hwl1⟩
        obtain ⟨Ar1, cr1, er1'⟩ := hro1.form'
        subst er1'
        obtain ⟨Aw1, cw1, ew1'⟩ := hwl1.form'
        subst ew1'
        obtain ⟨lr1, elr1⟩ : ∃ l, l = row1.length := ⟨_, rfl⟩
        obtain ⟨lw1, elw1⟩ : ∃ l, l = wrl1.length := ⟨_, rfl⟩
        rw [← elr1] at ⊢
        rw [← elw1] at hwl1 ⊢
        have HDE1 := Lib.hid hde1
        have HWL1 := Lib.hid hwl1
        have HB1 : Hid (Below wr.heap.size wr w13) := hb1
        obtain ⟨X1, eX1⟩ : ∃ X, X = w13.heap.size := ⟨_, rfl⟩
        obtain ⟨w13a, ewa1⟩ : ∃ wa : World, wa = w13.alloc (.cells #[.slice Ar1 lr1 cr1, .slice Aw1 lw1 cw1] 68) := ⟨_, rfl⟩
        have HW1 : Hid (w13.alloc (.cells #[.slice Ar1 lr1 cr1, .slice Aw1 lw1 cw1] 68) = w13a) := ewa1.symm
        have HXA1 : Hid (w13a.heap[X1]? = some (.cells #[.slice Ar1 lr1 cr1, .slice Aw1 lw1 cw1] 68 (0, 0))) := (show Hid _ from by show _ = _; rw [ewa1, eX1]; exact heap_alloc_new w13 _)
        have HBA1 : Hid (Below w13.heap.size w13 w13a) := (show Hid _ from by rw [ewa1]; exact (Below.refl _ w13).alloc (Nat.le_refl _) _)
        have HBB1 : Hid (Below wr.heap.size wr w13a) := (show Hid _ from HB1.out.trans (HBA1.out.mono HB1.out.size))
        clear hb1 hde1 hro1 hwl1 elr1 elw1 f0 p0 p1
        go_upto_region 29 with fail
        rw [HW1.out, ← eX1]
        clear ewa1 eX1
        have HG4s : Hid (w4.grownBy w13a (some g)) := (show Hid _ from grownBy_trans HG4r.out (grownBy_of_below HBB1.out _))
        have HS2 : Hid (SAE g w13a (.slice Au n cu) M) := (show Hid _ from HSM.out.below HBB1.out)
        have HE2 : Hid (EW w13a) := HE.out.below (HBF.out w13a HG4s.out)
        obtain ⟨f0, p0, p1⟩ := HXC.out w13a HG4s.out
        go_wp2_with fail
        (with_reducible refine (cdecode_any P n t wd M _ w13a hPi HS2.out.san (by rw [HMn.out]; omega) HE2.out).mono ?_)
        rintro e w14 ⟨row2, wrl2, er2, va2, vb2, rfl, hb2, hde2, hro2, hwl2⟩
        obtain ⟨Ar2, cr2, er2'⟩ := hro2.form'
        subst er2'
        obtain ⟨Aw2, cw2, ew2'⟩ := hwl2.form'
        subst ew2'
        obtain ⟨lr2, elr2⟩ : ∃ l, l = row2.length := ⟨_, rfl⟩
        obtain ⟨lw2, elw2⟩ : ∃ l, l = wrl2.length := ⟨_, rfl⟩
        rw [← elr2] at ⊢
        rw [← elw2] at hwl2 ⊢
        have HDE2 := Lib.hid hde2
        have HWL2 := Lib.hid hwl2
        have HB2 : Hid (Below w13a.heap.size w13a w14) := hb2
        obtain ⟨X2, eX2⟩ : ∃ X, X = w14.heap.size := ⟨_, rfl⟩
        obtain ⟨w14a, ewa2⟩ : ∃ wa : World, wa = w14.alloc (.cells #[.slice Ar2 lr2 cr2, .slice Aw2 lw2 cw2] 68) := ⟨_, rfl⟩
        have HW2 : Hid (w14.alloc (.cells #[.slice Ar2 lr2 cr2, .slice Aw2 lw2 cw2] 68) = w14a) := ewa2.symm
        have HXA2 : Hid (w14a.heap[X2]? = some (.cells #[.slice Ar2 lr2 cr2, .slice Aw2 lw2 cw2] 68 (0, 0))) := (show Hid _ from by show _ = _; rw [ewa2, eX2]; exact heap_alloc_new w14 _)
        have HBA2 : Hid (Below w14.heap.size w14 w14a) := (show Hid _ from by rw [ewa2]; exact (Below.refl _ w14).alloc (Nat.le_refl _) _)
        have HBB2 : Hid (Below w13a.heap.size w13a w14a) := (show Hid _ from HB2.out.trans (HBA2.out.mono HB2.out.size))
        clear hb2 hde2 hro2 hwl2 elr2 elw2 f0 p0 p1
        go_upto_region 30 with fail
        rw [HW2.out, ← eX2]
        clear ewa2 eX2
        obtain ⟨hee, hww⟩ := blind_dec (D := ns) (E := ms) (i := i) (k := q) (m := m) HPR.out (by omega) (by omega) (by omega) (by omega) (by omega) (by omega) HL1.out HL2.out HR1.out HR2.out HLn.out HMn.out (fun j h1 h2 => by
          obtain ⟨e1, e2⟩ := HBR.out.2.2 j h1 h2
          refine ⟨e1, fun h => ?_⟩
          obtain ⟨e, e3, e4⟩ := e2 h
          rw [HGX.out j (by have := HLn.out; omega)] at e3
          rw [HGY.out j (by have := HLn.out; omega)] at e4
          exact ⟨e, e3, e4⟩) HDE1.out HDE2.out
        subst hee
        have HWW := Lib.hid hww
        clear hww
        have x1 : w14a.cell? ⟨X1, 1, none⟩ = some (.slice Aw1 lw1 cw1) := cell_of_row w14a X1 1 _ _ _ ((HBB2.out.block X1 (heap_of_cells HXA1.out)).trans HXA1.out)
        have x2 : w14a.cell? ⟨X2, 1, none⟩ = some (.slice Aw2 lw2 cw2) := cell_of_row w14a X2 1 _ _ _ HXA2.out
        have HBf : Hid (Below w.heap.size w w14a) := (show Hid _ from HBF.out w14a (grownBy_trans HG4s.out (grownBy_of_below HBB2.out _)))
        have HSA : Hid (Calls Tryz.prog 32 #[.slice Aw1 lw1 cw1, .slice Aw2 lw2 cw2] w14a fun e w' => e = .returned (.bool true) ∧ Below w14a.heap.size w14a w') := (show Hid _ from by
          refine (same4_any wrl1 wrl2 _ _ w14a ((HWL1.out.below HBA1.out).below HBB2.out) (HWL2.out.below HBA2.out)).mono fun e w' ⟨h3, h4⟩ => ⟨by rw [h3, HWW.out]; simp, h4⟩)
        go_wp2_with fail
        (with_reducible refine HSA.out.mono ?_)
        rintro e w15 ⟨rfl, hb15⟩
        have HBe : Hid (Below w.heap.size w w15) := (show Hid _ from HBf.out.trans (hb15.mono HBf.out.size))
        clear hb15 x1 x2
        go_wp2_with fail
        go_ret
        exact ⟨rfl, HBe.out⟩
  · have d5 : decide (l.length ≤ 500) = false := decide_eq_false h5
    rw [d5]
    clear d5 h5
    go_wp2_with fail
    go_ret
    exact ⟨rfl, HB1.out⟩
end Go.Proofs.YtbgabipngdillaaGreatDoor
