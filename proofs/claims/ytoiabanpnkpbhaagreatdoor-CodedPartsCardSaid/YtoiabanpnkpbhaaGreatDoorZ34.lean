/- Joined: Vb Bq Va Ad. -/
import Derived.Test.YtoiabanpnkpbhaaGreatDoorZ29
import Derived.Test.YtoiabanpnkpbhaaGreatDoorZ22
import Derived.Test.YtoiabanpnkpbhaaGreatDoorZ21
import Derived.Test.YtoiabanpnkpbhaaGreatDoorZ23
namespace Go.Proofs.YtoiabanpnkpbhaaGreatDoor
open Go.RowKit

noncomputable def regVaC : Code := ((Tryz.f5.body.bind (regionOf 8)).getD .skip)
set_option maxRecDepth 1000000 in
set_option maxHeartbeats 4000000 in
theorem regVa (g F m wd : Nat) (P : Int) (T : List (List Int) → Prop) (w : World) (hX : ∀ W, w.grownBy W (some g) → W.cell? ⟨F, 0, none⟩ = some (.int .i64 P)) (hD : Dk w g) (hR : ∀ W, w.grownBy W (some g) → Dk W g → Calls Tryz.prog 15 #[.pointer (some ⟨g, 0, none⟩), .agg #[.int .i64 P], .int .i64 m, .int .i64 wd] W fun e w' => ∃ A c rows, e = .returned (.slice A m c) ∧ T rows ∧ SLE g w' (.slice A m c) rows ∧ Dk w' g ∧ W.grownBy w' (some g))
    (s0 s1 s2 s3 s4 s7 s10 s11 s12 s13 s14 s15 s16 s17 s18 s19 s20 s21 s22 s23 s24 s25 s26 s27 s28 s29 s30 s31 s32 s33 s34 s35 s36 s37 s38 s39 s40 s41 s42 s43 s44 s45 s46 s47 s48 s49 s50 s51 s52 s53 s54 s55 s56 s57 s58 s59 s60 s61 s62 s63 s64 s65 s66 s67 s68 s69 s70 s71 s72 s73 s74 s75 s76 s77 s78 s79 s80 s81 s82 s83 s84 s85 s86 s87 s88 s89 s90 s91 s92 s93 s94 s95 s96 s97 s98 s99 s100 s101 s102 s103 s104 s105 s106 s107 s108 s109 s110 s111 s112 s113 s114 s115 s116 s117 s118 s119 s120 s121 s122 s123 s124 s125 s126 s127 s128 s129 s130 s131 s132 s133 s134 s135 s136 s137 s138 s139 s140 s141 s142 s143 s144 s145 s146 s147 s148 s149 s150 s151 s152 s153 s154 s155 s156 s157 s158 s159 s160 s161 s162 s163 s164 s165 s166 s167 s168 s169 s170 s171 s172 s173 : Value) (Q : Exit → Act → World → Prop)
    (hK : ∀ (u10 u11 u44 u45 u46 u47 u48 u49 u50 u51 u52 u53 : Value) (one two : List (List Int)) (w' : World), T one ∧ T two ∧ SLE g w' u10 one ∧ SLE g w' u11 two ∧ Dk w' g ∧ w.grownBy w' (some g) → Q .normal ⟨List.toArray (s0 :: s1 :: s2 :: s3 :: s4 :: (Value.pointer (some ⟨g, 0, none⟩)) :: (Value.pointer (some ⟨F, 0, none⟩)) :: s7 :: (Value.int .i64 (m : Int)) :: (Value.int .i64 (wd : Int)) :: u10 :: u11 :: s12 :: s13 :: s14 :: s15 :: s16 :: s17 :: s18 :: s19 :: s20 :: s21 :: s22 :: s23 :: s24 :: s25 :: s26 :: s27 :: s28 :: s29 :: s30 :: s31 :: s32 :: s33 :: s34 :: s35 :: s36 :: s37 :: s38 :: s39 :: s40 :: s41 :: s42 :: s43 :: u44 :: u45 :: u46 :: u47 :: u48 :: u49 :: u50 :: u51 :: u52 :: u53 :: s54 :: s55 :: s56 :: s57 :: s58 :: s59 :: s60 :: s61 :: s62 :: s63 :: s64 :: s65 :: s66 :: s67 :: s68 :: s69 :: s70 :: s71 :: s72 :: s73 :: s74 :: s75 :: s76 :: s77 :: s78 :: s79 :: s80 :: s81 :: s82 :: s83 :: s84 :: s85 :: s86 :: s87 :: s88 :: s89 :: s90 :: s91 :: s92 :: s93 :: s94 :: s95 :: s96 :: s97 :: s98 :: s99 :: s100 :: s101 :: s102 :: s103 :: s104 :: s105 :: s106 :: s107 :: s108 :: s109 :: s110 :: s111 :: s112 :: s113 :: s114 :: s115 :: s116 :: s117 :: s118 :: s119 :: s120 :: s121 :: s122 :: s123 :: s124 :: s125 :: s126 :: s127 :: s128 :: s129 :: s130 :: s131 :: s132 :: s133 :: s134 :: s135 :: s136 :: s137 :: s138 :: s139 :: s140 :: s141 :: s142 :: s143 :: s144 :: s145 :: s146 :: s147 :: s148 :: s149 :: s150 :: s151 :: s152 :: s153 :: s154 :: s155 :: s156 :: s157 :: s158 :: s159 :: s160 :: s161 :: s162 :: s163 :: s164 :: s165 :: s166 :: s167 :: s168 :: s169 :: s170 :: s171 :: s172 :: s173 :: []), []⟩ w') :
    Code.wp Tryz.prog regVaC Q ⟨List.toArray (s0 :: s1 :: s2 :: s3 :: s4 :: (Value.pointer (some ⟨g, 0, none⟩)) :: (Value.pointer (some ⟨F, 0, none⟩)) :: s7 :: (Value.int .i64 (m : Int)) :: (Value.int .i64 (wd : Int)) :: s10 :: s11 :: s12 :: s13 :: s14 :: s15 :: s16 :: s17 :: s18 :: s19 :: s20 :: s21 :: s22 :: s23 :: s24 :: s25 :: s26 :: s27 :: s28 :: s29 :: s30 :: s31 :: s32 :: s33 :: s34 :: s35 :: s36 :: s37 :: s38 :: s39 :: s40 :: s41 :: s42 :: s43 :: s44 :: s45 :: s46 :: s47 :: s48 :: s49 :: s50 :: s51 :: s52 :: s53 :: s54 :: s55 :: s56 :: s57 :: s58 :: s59 :: s60 :: s61 :: s62 :: s63 :: s64 :: s65 :: s66 :: s67 :: s68 :: s69 :: s70 :: s71 :: s72 :: s73 :: s74 :: s75 :: s76 :: s77 :: s78 :: s79 :: s80 :: s81 :: s82 :: s83 :: s84 :: s85 :: s86 :: s87 :: s88 :: s89 :: s90 :: s91 :: s92 :: s93 :: s94 :: s95 :: s96 :: s97 :: s98 :: s99 :: s100 :: s101 :: s102 :: s103 :: s104 :: s105 :: s106 :: s107 :: s108 :: s109 :: s110 :: s111 :: s112 :: s113 :: s114 :: s115 :: s116 :: s117 :: s118 :: s119 :: s120 :: s121 :: s122 :: s123 :: s124 :: s125 :: s126 :: s127 :: s128 :: s129 :: s130 :: s131 :: s132 :: s133 :: s134 :: s135 :: s136 :: s137 :: s138 :: s139 :: s140 :: s141 :: s142 :: s143 :: s144 :: s145 :: s146 :: s147 :: s148 :: s149 :: s150 :: s151 :: s152 :: s153 :: s154 :: s155 :: s156 :: s157 :: s158 :: s159 :: s160 :: s161 :: s162 :: s163 :: s164 :: s165 :: s166 :: s167 :: s168 :: s169 :: s170 :: s171 :: s172 :: s173 :: []), []⟩ w := by
  have HK := Lib.hid hK
  have HX := Lib.hid hX
  have HD := Lib.hid hD
  have HR := Lib.hid hR
  have f0 := hX w (grownBy_refl _ _)
  have HG0 : Hid (w.grownBy w (some g)) := (show Hid _ from grownBy_refl _ _)
  have HG0d : Hid (w.grownBy w.drew (some g)) := (show Hid _ from grownBy_of_below (Below.refl _ w).drew _)
  clear hK hX hD hR
  conv => arg 2; whnf
  go_region_held3 (fun w' => w'.cell? ⟨F, 0, none⟩ = some (.int .i64 P)) (first | exact f0 | go_keep)
    (first
      | (revert HS8; intro HS8; go_at_call 15; refine (HR.out _ (by first | exact HG8.out | exact HG8d.out) (by exact HD8.out)).mono ?_; rintro e9 w9 ⟨A9, c9, rows9, rfl, hr9, hs9, hd9, hg9⟩; have HR9 : Hid (T rows9) := (show Hid _ from hr9); have HS9 : Hid (SLE g w9 (.slice A9 m c9) rows9) := (show Hid _ from hs9); have HD9 : Hid (Dk w9 g) := (show Hid _ from hd9); have HG89 : Hid (w8.grownBy w9 (some g)) := (show Hid _ from ⟨hg9.os, hg9.tape, hg9.output, hg9.size, hg9.block⟩); have HG9 : Hid (w.grownBy w9 (some g)) := (show Hid _ from grownBy_trans HG8.out HG89.out); have HS89 : Hid (SLE g w9 (.slice A8 m c8) rows8) := (show Hid _ from HS8.out.grown HG89.out); have f0 := HX.out w9 HG9.out; clear hr9 hs9 hd9 hg9)
      | (go_at_call 15; refine (HR.out _ (by first | exact HG0.out | exact HG0d.out) (by exact HD.out)).mono ?_; rintro e8 w8 ⟨A8, c8, rows8, rfl, hr8, hs8, hd8, hg8⟩; have HR8 : Hid (T rows8) := (show Hid _ from hr8); have HS8 : Hid (SLE g w8 (.slice A8 m c8) rows8) := (show Hid _ from hs8); have HD8 : Hid (Dk w8 g) := (show Hid _ from hd8); have HG8 : Hid (w.grownBy w8 (some g)) := (show Hid _ from ⟨hg8.os, hg8.tape, hg8.output, hg8.size, hg8.block⟩); have HG8d : Hid (w.grownBy w8.drew (some g)) := (show Hid _ from grownBy_trans HG8.out (grownBy_of_below (Below.refl _ w8).drew _)); have f0 := HX.out w8 HG8.out; clear hr8 hs8 hd8 hg8))
  all_goals
    have hk := HK.out
    first
      | exact hk _ _ _ _ _ _ _ _ _ _ _ _ rows8 rows9 w9 ⟨HR8.out, HR9.out, HS89.out, HS9.out, HD9.out, HG9.out⟩
      | exact hk _ _ _ _ _ _ _ _ _ _ _ _ rows9 rows8 w9 ⟨HR9.out, HR8.out, HS9.out, HS89.out, HD9.out, HG9.out⟩
      | exact hk _ _ _ _ _ _ _ _ _ _ _ _ rows8 rows9 w9.drew ⟨HR8.out, HR9.out, HS89.out, HS9.out, HD9.out, grownBy_trans HG9.out (grownBy_of_below (Below.refl _ w9).drew _)⟩
      | exact hk _ _ _ _ _ _ _ _ _ _ _ _ rows9 rows8 w9.drew ⟨HR9.out, HR8.out, HS9.out, HS89.out, HD9.out, grownBy_trans HG9.out (grownBy_of_below (Below.refl _ w9).drew _)⟩


noncomputable def regVbC : Code := ((Tryz.f5.body.bind (regionOf 13)).getD .skip)
set_option maxRecDepth 1000000 in
set_option maxHeartbeats 4000000 in
theorem regVb (F bx ox by_ oy n cx cy j wd : Nat) (P : Int) (vx vy : Value) (Z : List Int) (w : World) (hjn : j < n) (hX : ∀ W, Below w.heap.size w W → W.cell? ⟨F, 0, none⟩ = some (.int .i64 P) ∧ W.cell? ⟨bx, ox + j, none⟩ = some vx ∧ W.cell? ⟨by_, oy + j, none⟩ = some vy) (hA : ∀ W, Below w.heap.size w W → Calls Tryz.prog 24 #[.agg #[.int .i64 P], vx, vy] W fun e w' => ∃ A c, e = .returned (.tuple #[.slice A wd c, .int .i64 0]) ∧ Below W.heap.size W w' ∧ w'.ownsRow w.heap.size 3 1 (.slice A wd c) wd (Z.map (Value.int .i64)))
    (s0 s1 s2 s3 s4 s5 s7 s8 s9 s12 s14 s15 s16 s17 s18 s19 s20 s21 s22 s23 s24 s25 s26 s27 s28 s29 s30 s31 s32 s33 s34 s35 s36 s37 s38 s39 s40 s41 s42 s43 s44 s45 s46 s47 s48 s49 s50 s51 s52 s53 s54 s55 s56 s57 s58 s59 s60 s61 s62 s63 s64 s65 s66 s67 s68 s69 s70 s71 s72 s73 s74 s75 s76 s77 s78 s79 s80 s81 s82 s83 s84 s85 s86 s87 s88 s89 s90 s91 s92 s93 s94 s95 s96 s97 s98 s99 s100 s101 s102 s103 s104 s105 s106 s107 s108 s109 s110 s111 s112 s113 s114 s115 s116 s117 s118 s119 s120 s121 s122 s123 s124 s125 s126 s127 s128 s129 s130 s131 s132 s133 s134 s135 s136 s137 s138 s139 s140 s141 s142 s143 s144 s145 s146 s147 s148 s149 s150 s151 s152 s153 s154 s155 s156 s157 s158 s159 s160 s161 s162 s163 s164 s165 s166 s167 s168 s169 s170 s171 s172 s173 : Value) (Q : Exit → Act → World → Prop)
    (hK : ∀ (u14 u15 u59 u60 u61 u62 u63 u64 u65 u66 u67 u68 u69 u70 u71 : Value) (w' : World), Below w.heap.size w w' ∧ (∃ A c, u14 = Value.slice A wd c ∧ w'.ownsRow w.heap.size 3 1 (.slice A wd c) wd (Z.map (Value.int .i64))) → Q .normal ⟨List.toArray (s0 :: s1 :: s2 :: s3 :: s4 :: s5 :: (Value.pointer (some ⟨F, 0, none⟩)) :: s7 :: s8 :: s9 :: (Value.slice (some ⟨bx, ox, none⟩) n cx) :: (Value.slice (some ⟨by_, oy, none⟩) n cy) :: s12 :: (Value.int .i64 (j : Int)) :: u14 :: u15 :: s16 :: s17 :: s18 :: s19 :: s20 :: s21 :: s22 :: s23 :: s24 :: s25 :: s26 :: s27 :: s28 :: s29 :: s30 :: s31 :: s32 :: s33 :: s34 :: s35 :: s36 :: s37 :: s38 :: s39 :: s40 :: s41 :: s42 :: s43 :: s44 :: s45 :: s46 :: s47 :: s48 :: s49 :: s50 :: s51 :: s52 :: s53 :: s54 :: s55 :: s56 :: s57 :: s58 :: u59 :: u60 :: u61 :: u62 :: u63 :: u64 :: u65 :: u66 :: u67 :: u68 :: u69 :: u70 :: u71 :: s72 :: s73 :: s74 :: s75 :: s76 :: s77 :: s78 :: s79 :: s80 :: s81 :: s82 :: s83 :: s84 :: s85 :: s86 :: s87 :: s88 :: s89 :: s90 :: s91 :: s92 :: s93 :: s94 :: s95 :: s96 :: s97 :: s98 :: s99 :: s100 :: s101 :: s102 :: s103 :: s104 :: s105 :: s106 :: s107 :: s108 :: s109 :: s110 :: s111 :: s112 :: s113 :: s114 :: s115 :: s116 :: s117 :: s118 :: s119 :: s120 :: s121 :: s122 :: s123 :: s124 :: s125 :: s126 :: s127 :: s128 :: s129 :: s130 :: s131 :: s132 :: s133 :: s134 :: s135 :: s136 :: s137 :: s138 :: s139 :: s140 :: s141 :: s142 :: s143 :: s144 :: s145 :: s146 :: s147 :: s148 :: s149 :: s150 :: s151 :: s152 :: s153 :: s154 :: s155 :: s156 :: s157 :: s158 :: s159 :: s160 :: s161 :: s162 :: s163 :: s164 :: s165 :: s166 :: s167 :: s168 :: s169 :: s170 :: s171 :: s172 :: s173 :: []), []⟩ w') :
    Code.wp Tryz.prog regVbC Q ⟨List.toArray (s0 :: s1 :: s2 :: s3 :: s4 :: s5 :: (Value.pointer (some ⟨F, 0, none⟩)) :: s7 :: s8 :: s9 :: (Value.slice (some ⟨bx, ox, none⟩) n cx) :: (Value.slice (some ⟨by_, oy, none⟩) n cy) :: s12 :: (Value.int .i64 (j : Int)) :: s14 :: s15 :: s16 :: s17 :: s18 :: s19 :: s20 :: s21 :: s22 :: s23 :: s24 :: s25 :: s26 :: s27 :: s28 :: s29 :: s30 :: s31 :: s32 :: s33 :: s34 :: s35 :: s36 :: s37 :: s38 :: s39 :: s40 :: s41 :: s42 :: s43 :: s44 :: s45 :: s46 :: s47 :: s48 :: s49 :: s50 :: s51 :: s52 :: s53 :: s54 :: s55 :: s56 :: s57 :: s58 :: s59 :: s60 :: s61 :: s62 :: s63 :: s64 :: s65 :: s66 :: s67 :: s68 :: s69 :: s70 :: s71 :: s72 :: s73 :: s74 :: s75 :: s76 :: s77 :: s78 :: s79 :: s80 :: s81 :: s82 :: s83 :: s84 :: s85 :: s86 :: s87 :: s88 :: s89 :: s90 :: s91 :: s92 :: s93 :: s94 :: s95 :: s96 :: s97 :: s98 :: s99 :: s100 :: s101 :: s102 :: s103 :: s104 :: s105 :: s106 :: s107 :: s108 :: s109 :: s110 :: s111 :: s112 :: s113 :: s114 :: s115 :: s116 :: s117 :: s118 :: s119 :: s120 :: s121 :: s122 :: s123 :: s124 :: s125 :: s126 :: s127 :: s128 :: s129 :: s130 :: s131 :: s132 :: s133 :: s134 :: s135 :: s136 :: s137 :: s138 :: s139 :: s140 :: s141 :: s142 :: s143 :: s144 :: s145 :: s146 :: s147 :: s148 :: s149 :: s150 :: s151 :: s152 :: s153 :: s154 :: s155 :: s156 :: s157 :: s158 :: s159 :: s160 :: s161 :: s162 :: s163 :: s164 :: s165 :: s166 :: s167 :: s168 :: s169 :: s170 :: s171 :: s172 :: s173 :: []), []⟩ w := by
  have HK := Lib.hid hK
  have HX := Lib.hid hX
  have HA := Lib.hid hA
  obtain ⟨f0, c0, d0⟩ := hX w (Below.refl _ _)
  have z1 : (0 : Int) ≤ (j : Int) := by omega
  have z2 : (j : Int) < (n : Int) := by omega
  clear hK hX hA
  conv => arg 2; whnf
  go_region_held3 (fun w' => w'.cell? ⟨F, 0, none⟩ = some (.int .i64 P) ∧ w'.cell? ⟨bx, ox + j, none⟩ = some vx ∧ w'.cell? ⟨by_, oy + j, none⟩ = some vy) (first | exact ⟨f0, c0, d0⟩ | go_keep)
    (first
      | (go_at_call 24; refine (HA.out _ (by first | exact Below.refl _ _ | exact (Below.refl _ w).drew)).mono ?_; rintro e9 w9 ⟨A9, c9, rfl, hb9, ho9⟩; have HO9 := Lib.hid ho9; have HB9 : Hid (Below w.heap.size w w9) := (show Hid _ from ⟨hb9.os, hb9.tape, hb9.output, hb9.size, hb9.block⟩); obtain ⟨f0, c0, d0⟩ := HX.out w9 HB9.out; clear hb9 ho9))
  all_goals
    have hk := HK.out
    first
      | exact hk _ _ _ _ _ _ _ _ _ _ _ _ _ _ _ w9 ⟨HB9.out, _, _, rfl, HO9.out⟩
      | exact hk _ _ _ _ _ _ _ _ _ _ _ _ _ _ _ w9.drew ⟨HB9.out.drew, _, _, rfl, HO9.out⟩


noncomputable def regVcC : Code := ((Tryz.f5.body.bind (regionOf 26)).getD .skip)
set_option maxRecDepth 1000000 in
set_option maxHeartbeats 4000000 in
theorem regVc (F bx ox by_ oy n cx cy j wd : Nat) (P : Int) (vx vy : Value) (Z : List Int) (w : World) (hjn : j < n) (hX : ∀ W, Below w.heap.size w W → W.cell? ⟨F, 0, none⟩ = some (.int .i64 P) ∧ W.cell? ⟨bx, ox + j, none⟩ = some vx ∧ W.cell? ⟨by_, oy + j, none⟩ = some vy) (hA : ∀ W, Below w.heap.size w W → Calls Tryz.prog 24 #[.agg #[.int .i64 P], vx, vy] W fun e w' => ∃ A c, e = .returned (.tuple #[.slice A wd c, .int .i64 0]) ∧ Below W.heap.size W w' ∧ w'.ownsRow w.heap.size 3 1 (.slice A wd c) wd (Z.map (Value.int .i64)))
    (s0 s1 s2 s3 s4 s5 s7 s8 s9 s10 s11 s12 s13 s14 s15 s16 s18 s20 s21 s22 s23 s24 s26 s27 s28 s29 s30 s31 s32 s33 s34 s35 s36 s37 s38 s39 s40 s41 s42 s43 s44 s45 s46 s47 s48 s49 s50 s51 s52 s53 s54 s55 s56 s57 s58 s59 s60 s61 s62 s63 s64 s65 s66 s67 s68 s69 s70 s71 s72 s73 s74 s75 s76 s77 s78 s79 s80 s81 s82 s83 s84 s85 s86 s87 s88 s89 s90 s91 s92 s93 s94 s95 s96 s97 s98 s99 s100 s101 s102 s103 s104 s105 s106 s107 s108 s109 s110 s111 s112 s113 s114 s115 s116 s117 s118 s119 s120 s121 s122 s123 s124 s125 s126 s127 s128 s129 s130 s131 s132 s133 s134 s135 s136 s137 s138 s139 s140 s141 s142 s143 s144 s145 s146 s147 s148 s149 s150 s151 s152 s153 s154 s155 s156 s157 s158 s159 s160 s161 s162 s163 s164 s165 s166 s167 s168 s169 s170 s171 s172 s173 : Value) (Q : Exit → Act → World → Prop)
    (hK : ∀ (u26 u27 u153 u154 u155 u156 u157 u158 u159 u160 u161 u162 u163 u164 u165 : Value) (w' : World), Below w.heap.size w w' ∧ (∃ A c, u26 = Value.slice A wd c ∧ w'.ownsRow w.heap.size 3 1 (.slice A wd c) wd (Z.map (Value.int .i64))) → Q .normal ⟨List.toArray (s0 :: s1 :: s2 :: s3 :: s4 :: s5 :: (Value.pointer (some ⟨F, 0, none⟩)) :: s7 :: s8 :: s9 :: s10 :: s11 :: s12 :: s13 :: s14 :: s15 :: s16 :: (Value.slice (some ⟨bx, ox, none⟩) n cx) :: s18 :: (Value.slice (some ⟨by_, oy, none⟩) n cy) :: s20 :: s21 :: s22 :: s23 :: s24 :: (Value.int .i64 (j : Int)) :: u26 :: u27 :: s28 :: s29 :: s30 :: s31 :: s32 :: s33 :: s34 :: s35 :: s36 :: s37 :: s38 :: s39 :: s40 :: s41 :: s42 :: s43 :: s44 :: s45 :: s46 :: s47 :: s48 :: s49 :: s50 :: s51 :: s52 :: s53 :: s54 :: s55 :: s56 :: s57 :: s58 :: s59 :: s60 :: s61 :: s62 :: s63 :: s64 :: s65 :: s66 :: s67 :: s68 :: s69 :: s70 :: s71 :: s72 :: s73 :: s74 :: s75 :: s76 :: s77 :: s78 :: s79 :: s80 :: s81 :: s82 :: s83 :: s84 :: s85 :: s86 :: s87 :: s88 :: s89 :: s90 :: s91 :: s92 :: s93 :: s94 :: s95 :: s96 :: s97 :: s98 :: s99 :: s100 :: s101 :: s102 :: s103 :: s104 :: s105 :: s106 :: s107 :: s108 :: s109 :: s110 :: s111 :: s112 :: s113 :: s114 :: s115 :: s116 :: s117 :: s118 :: s119 :: s120 :: s121 :: s122 :: s123 :: s124 :: s125 :: s126 :: s127 :: s128 :: s129 :: s130 :: s131 :: s132 :: s133 :: s134 :: s135 :: s136 :: s137 :: s138 :: s139 :: s140 :: s141 :: s142 :: s143 :: s144 :: s145 :: s146 :: s147 :: s148 :: s149 :: s150 :: s151 :: s152 :: u153 :: u154 :: u155 :: u156 :: u157 :: u158 :: u159 :: u160 :: u161 :: u162 :: u163 :: u164 :: u165 :: s166 :: s167 :: s168 :: s169 :: s170 :: s171 :: s172 :: s173 :: []), []⟩ w') :
    Code.wp Tryz.prog regVcC Q ⟨List.toArray (s0 :: s1 :: s2 :: s3 :: s4 :: s5 :: (Value.pointer (some ⟨F, 0, none⟩)) :: s7 :: s8 :: s9 :: s10 :: s11 :: s12 :: s13 :: s14 :: s15 :: s16 :: (Value.slice (some ⟨bx, ox, none⟩) n cx) :: s18 :: (Value.slice (some ⟨by_, oy, none⟩) n cy) :: s20 :: s21 :: s22 :: s23 :: s24 :: (Value.int .i64 (j : Int)) :: s26 :: s27 :: s28 :: s29 :: s30 :: s31 :: s32 :: s33 :: s34 :: s35 :: s36 :: s37 :: s38 :: s39 :: s40 :: s41 :: s42 :: s43 :: s44 :: s45 :: s46 :: s47 :: s48 :: s49 :: s50 :: s51 :: s52 :: s53 :: s54 :: s55 :: s56 :: s57 :: s58 :: s59 :: s60 :: s61 :: s62 :: s63 :: s64 :: s65 :: s66 :: s67 :: s68 :: s69 :: s70 :: s71 :: s72 :: s73 :: s74 :: s75 :: s76 :: s77 :: s78 :: s79 :: s80 :: s81 :: s82 :: s83 :: s84 :: s85 :: s86 :: s87 :: s88 :: s89 :: s90 :: s91 :: s92 :: s93 :: s94 :: s95 :: s96 :: s97 :: s98 :: s99 :: s100 :: s101 :: s102 :: s103 :: s104 :: s105 :: s106 :: s107 :: s108 :: s109 :: s110 :: s111 :: s112 :: s113 :: s114 :: s115 :: s116 :: s117 :: s118 :: s119 :: s120 :: s121 :: s122 :: s123 :: s124 :: s125 :: s126 :: s127 :: s128 :: s129 :: s130 :: s131 :: s132 :: s133 :: s134 :: s135 :: s136 :: s137 :: s138 :: s139 :: s140 :: s141 :: s142 :: s143 :: s144 :: s145 :: s146 :: s147 :: s148 :: s149 :: s150 :: s151 :: s152 :: s153 :: s154 :: s155 :: s156 :: s157 :: s158 :: s159 :: s160 :: s161 :: s162 :: s163 :: s164 :: s165 :: s166 :: s167 :: s168 :: s169 :: s170 :: s171 :: s172 :: s173 :: []), []⟩ w := by
  have HK := Lib.hid hK
  have HX := Lib.hid hX
  have HA := Lib.hid hA
  obtain ⟨f0, c0, d0⟩ := hX w (Below.refl _ _)
  have z1 : (0 : Int) ≤ (j : Int) := by omega
  have z2 : (j : Int) < (n : Int) := by omega
  clear hK hX hA
  conv => arg 2; whnf
  go_region_held3 (fun w' => w'.cell? ⟨F, 0, none⟩ = some (.int .i64 P) ∧ w'.cell? ⟨bx, ox + j, none⟩ = some vx ∧ w'.cell? ⟨by_, oy + j, none⟩ = some vy) (first | exact ⟨f0, c0, d0⟩ | go_keep)
    (first
      | (go_at_call 24; refine (HA.out _ (by first | exact Below.refl _ _ | exact (Below.refl _ w).drew)).mono ?_; rintro e9 w9 ⟨A9, c9, rfl, hb9, ho9⟩; have HO9 := Lib.hid ho9; have HB9 : Hid (Below w.heap.size w w9) := (show Hid _ from ⟨hb9.os, hb9.tape, hb9.output, hb9.size, hb9.block⟩); obtain ⟨f0, c0, d0⟩ := HX.out w9 HB9.out; clear hb9 ho9))
  all_goals
    have hk := HK.out
    first
      | exact hk _ _ _ _ _ _ _ _ _ _ _ _ _ _ _ w9 ⟨HB9.out, _, _, rfl, HO9.out⟩
      | exact hk _ _ _ _ _ _ _ _ _ _ _ _ _ _ _ w9.drew ⟨HB9.out.drew, _, _, rfl, HO9.out⟩


end Go.Proofs.YtoiabanpnkpbhaaGreatDoor

namespace Go.Proofs.YtoiabanpnkpbhaaGreatDoor
open Go.RowKit

/-- the sum of two rows -/
def ad2 (P : Int) (a b : List Int) : List Int := (List.range a.length).map fun k => (gd a k + gd b k) % P
theorem ad2_len (P : Int) (a b : List Int) : (ad2 P a b).length = a.length := by simp [ad2]
theorem ad2_gd {P : Int} {a b : List Int} {k : Nat} (h : k < a.length) : gd (ad2 P a b) k = (gd a k + gd b k) % P := by
  rw [gd_lt (by rw [ad2_len]; exact h)]; simp [ad2]
theorem ad2_els {P : Int} (hP : 2 ≤ P) (a b : List Int) : els P (ad2 P a b) = true := els_of fun x hx => by
  obtain ⟨k, _, rfl⟩ := List.mem_map.1 hx
  exact el_mod hP _
end Go.Proofs.YtoiabanpnkpbhaaGreatDoor

namespace Go.Proofs.YtoiabanpnkpbhaaGreatDoor
open Go.RowKit

/-- the sum of two tables, the first k rows -/
def sum2 (P : Int) (one two : List (List Int)) (k : Nat) : List (List Int) := (List.range k).map fun i => ad2 P (gr one i) (gr two i)
theorem sum2_len (P : Int) (one two : List (List Int)) (k : Nat) : (sum2 P one two k).length = k := by simp [sum2]
theorem sum2_succ (P : Int) (one two : List (List Int)) (k : Nat) : sum2 P one two (k + 1) = sum2 P one two k ++ [ad2 P (gr one k) (gr two k)] := by unfold sum2; rw [List.range_succ, List.map_append]; rfl
theorem sum2_gr (P : Int) (one two : List (List Int)) (k i : Nat) (h : i < k) : gr (sum2 P one two k) i = ad2 P (gr one i) (gr two i) := by
  unfold gr sum2; rw [List.getElem?_map, List.getElem?_range h]; rfl
theorem gr_mem {rows : List (List Int)} {i : Nat} (h : i < rows.length) : gr rows i ∈ rows := by
  have : gr rows i = rows[i] := by unfold gr; rw [List.getElem?_eq_getElem h]; rfl
  rw [this]; exact List.getElem_mem h
theorem sum2_mem {P : Int} (hP : 2 ≤ P) {one two : List (List Int)} {w k : Nat} (h1 : ∀ r ∈ one, r.length = w) (hk : k ≤ one.length) : ∀ r ∈ sum2 P one two k, r.length = w ∧ els P r = true := fun r hr => by
  obtain ⟨i, hi, rfl⟩ := List.mem_map.1 hr
  have hi' : i < k := by simpa using hi
  exact ⟨by rw [ad2_len]; exact h1 _ (gr_mem (by omega)), ad2_els hP ..⟩
theorem hCo_add {P : Int} {one two : List (List Int)} {w o c m : Nat} {j : Int} (h1 : ∀ r ∈ one, r.length = w) (hm : m ≤ one.length) (hc : c < w) : ∀ k, o + k ≤ m →
    P ∣ ez (hCo (sum2 P one two m) o k c) j - (ez (hCo one o k c) j + ez (hCo two o k c) j)
  | 0, _ => by
    show P ∣ ez [] j - (ez [] j + ez [] j)
    rw [ez_nil]; exact ⟨0, by simp⟩
  | k + 1, h => by
    have ih := hCo_add (P := P) (one := one) (two := two) (m := m) (o := o) (j := j) h1 hm hc k (by omega)
    rw [hCo_succ, hCo_succ, hCo_succ, ez_snoc, ez_snoc, ez_snoc, hCo_len, hCo_len, hCo_len, sum2_gr _ _ _ _ _ (by omega)]
    have hl : (gr one (o + k)).length = w := h1 _ (gr_mem (show o + k < one.length by omega))
    rw [ad2_gd (by rw [hl]; exact hc)]
    have h2 := dvr (k := j ^ k) (mod_dvd P (gd (gr one (o + k)) c + gd (gr two (o + k)) c))
    have h3 := Int.dvd_add ih h2
    rw [Int.mul_sub, Int.mul_add] at h3
    have e : ∀ a b c d e f : Int, a - (b + c) + (d - (e + f)) = a + d - (b + e + (c + f)) := by intros; omega
    rw [e] at h3
    exact h3
theorem mod_uniq {P x y : Int} (hx : 0 ≤ x ∧ x < P) (hy : 0 ≤ y ∧ y < P) (h : P ∣ x - y) : x = y := by
  have h1 : (x - y) % P = 0 := Int.emod_eq_zero_of_dvd h
  have e : x % P = y % P := Int.emod_eq_emod_iff_emod_sub_eq_zero.2 h1
  rw [Int.emod_eq_of_lt hx.1 hx.2, Int.emod_eq_of_lt hy.1 hy.2] at e
  exact e
theorem hdT_add {P : Int} (hP : 2 ≤ P) {one two : List (List Int)} {w o k m : Nat} {j : Int} (h1 : ∀ r ∈ one, r.length = w) (h2 : ∀ r ∈ two, r.length = w) (hm : m = one.length) (hm2 : m = two.length) (hk : o + k ≤ m) :
    ad2 P (hdT P one j w o k) (hdT P two j w o k) = hdT P (sum2 P one two m) j w o k := by
  refine list_ext_gd (by rw [ad2_len, hdT_len, hdT_len]) fun c hc => ?_
  rw [ad2_len, hdT_len] at hc
  rw [ad2_gd (by rw [hdT_len]; exact hc)]
  have h3 := hdT_ez (P := P) (j := j) (o := o) (c := c) h1 hc k (by omega)
  have h4 := hdT_ez (P := P) (j := j) (o := o) (c := c) h2 hc k (by omega)
  have h5 := hdT_ez (P := P) (rows := sum2 P one two m) (j := j) (o := o) (c := c) (fun r hr => (sum2_mem hP h1 (by omega) r hr).1) hc k (by rw [sum2_len]; omega)
  have h6 := hCo_add (P := P) (one := one) (two := two) (o := o) (c := c) (j := j) (m := m) h1 (by omega) hc k hk
  have h7 := mod_dvd P (gd (hdT P one j w o k) c + gd (hdT P two j w o k) c)
  have b1 := el_t (els_gd hP (hdT_els hP (sum2 P one two m) j w o k) c)
  refine mod_uniq ⟨Int.emod_nonneg _ (by omega), Int.emod_lt_of_pos _ (by omega)⟩ b1 ?_
  have h8 := Int.dvd_sub (Int.dvd_sub (Int.dvd_add h7 (Int.dvd_add h3 h4)) h6) h5
  have e : ∀ a b c d e f g : Int, a - (b + c) + (b - d + (c - e)) - (f - (d + e)) - (g - f) = a - g := by intros; omega
  rw [e] at h8
  exact h8
end Go.Proofs.YtoiabanpnkpbhaaGreatDoor

namespace Go.Proofs.YtoiabanpnkpbhaaGreatDoor
open Go.RowKit

theorem inB_t {P : Int} {l : List Int} (hp : prB P = true) (he : els P l = true) : inB P l = true := by unfold inB; rw [hp, he]; rfl
set_option maxHeartbeats 2000000 in
theorem two_ok (P : Int) (a b : List Int) (va vb : Value) (w : World) (hp : prB P = true) (ha : SI w va a) (hb : SI w vb b) (hea : els P a = true) (heb : els P b = true) (hl : a.length = b.length) :
    Calls Tryz.prog 56 #[.agg #[.int .i64 P], va, vb] w fun e w' => e = .returned (.int .i64 0) ∧ Below w.heap.size w w' := by
  have hPb := prB_bd hp
  have hPi : i64r P := by unfold i64r; omega
  have HIA := Lib.hid (inB_t hp hea)
  have HIB := Lib.hid (inB_t hp heb)
  have HA := Lib.hid ha
  have HB := Lib.hid hb
  obtain ⟨A, c, rfl⟩ := ha.form
  obtain ⟨B, d, rfl⟩ := hb.form
  obtain ⟨n, en⟩ : ∃ n, n = a.length := ⟨_, rfl⟩
  have HEN := Lib.hid en
  rw [← hl, ← en] at HB ⊢
  rw [← en] at HA
  clear ha hb hea heb hp hl en
  go_enter Tryz.func56, Tryz.ntmps56
  obtain ⟨F, eF⟩ : ∃ F, F = w.heap.size := ⟨_, rfl⟩
  obtain ⟨w1, ew⟩ : ∃ w1 : World, w1 = w.alloc (.cells #[.int .i64 P] 31) := ⟨_, rfl⟩
  have HW1 : Hid (w.alloc (.cells #[.int .i64 P] 31) = w1) := ew.symm
  have HB1 : Hid (Below w.heap.size w w1) := (show Hid _ from by rw [ew]; exact (Below.refl _ w).alloc (Nat.le_refl _) _)
  have HF1 : Hid (w1.heap[F]? = some (.cells #[.int .i64 P] 31 (0, 0))) := (show Hid _ from by show _ = _; rw [ew, eF]; exact heap_alloc_new w _)
  go_upto_region 1 with fail
  rw [HW1.out, ← eF]
  clear ew eF
  have f0 : w1.cell? ⟨F, 0, none⟩ = some (.int .i64 P) := cell_of_row w1 F 0 _ _ _ HF1.out
  go_wp2_with fail
  (with_reducible refine (rin_any P a _ w1 hPi (HA.out.below HB1.out)).mono ?_)
  rintro e w2 ⟨rfl, hb2⟩
  have HB2 : Hid (Below w.heap.size w w2) := HB1.out.trans (hb2.mono HB1.out.size)
  have HF2 : Hid (w2.heap[F]? = some (.cells #[.int .i64 P] 31 (0, 0))) := (hb2.block F (heap_of_cells HF1.out)).trans HF1.out
  rw [HIA.out]
  clear hb2 f0
  have f0 : w2.cell? ⟨F, 0, none⟩ = some (.int .i64 P) := cell_of_row w2 F 0 _ _ _ HF2.out
  go_wp2_with fail
  (with_reducible refine (rin_any P b _ w2 hPi (HB.out.below HB2.out)).mono ?_)
  rintro e w3 ⟨rfl, hb3⟩
  have HB3 : Hid (Below w.heap.size w w3) := HB2.out.trans (hb3.mono HB2.out.size)
  rw [HIB.out]
  clear hb3 f0
  go_wp2_with fail
  go_ret
  exact ⟨rfl, HB3.out⟩
/-- the sums so far -/
def adT (P : Int) (a b : List Int) (k : Nat) : List Int := (List.range k).map fun k => (gd a k + gd b k) % P
theorem adT_succ (P : Int) (a b : List Int) (k : Nat) : adT P a b (k + 1) = adT P a b k ++ [(gd a k + gd b k) % P] := by unfold adT; rw [List.range_succ, List.map_append]; rfl
theorem adT_len (P : Int) (a b : List Int) (k : Nat) : (adT P a b k).length = k := by simp [adT]
def Ad1 (P : Int) (a b : List Int) (n : Nat) (w2 : World) (v iv : Value) (wr : World) : Prop :=
  ∃ (k : Nat) (pv : Value) (ns : List Int), pv = v ∧ k ≤ n ∧ iv = .int .i64 k ∧ ns = adT P a b k ∧ wr.ownsRow w2.heap.size 3 1 pv ns.length (ns.map (Value.int .i64)) ∧ Below w2.heap.size w2 wr
set_option maxRecDepth 100000 in
set_option maxHeartbeats 4000000 in
theorem add_ok (P : Int) (a b : List Int) (va vb : Value) (w : World) (hp : prB P = true) (ha : SI w va a) (hb : SI w vb b) (hea : els P a = true) (heb : els P b = true) (hl : a.length = b.length) (hz : a.length ≤ 100000) :
    Calls Tryz.prog 24 #[.agg #[.int .i64 P], va, vb] w fun e w' => ∃ A c, e = .returned (.tuple #[.slice A a.length c, .int .i64 0]) ∧ Below w.heap.size w w' ∧ w'.ownsRow w.heap.size 3 1 (.slice A a.length c) a.length ((ad2 P a b).map (Value.int .i64)) := by
  have hPb := prB_bd hp
  have HP := Lib.hid hp
  have HEA := Lib.hid hea
  have HEB := Lib.hid heb
  have HA := Lib.hid ha
  have HB := Lib.hid hb
  obtain ⟨A, c, rfl⟩ := ha.form
  obtain ⟨B, d, rfl⟩ := hb.form
  obtain ⟨n, en⟩ : ∃ n, n = a.length := ⟨_, rfl⟩
  have HL := Lib.hid hl
  have HEN := Lib.hid en
  rw [← hl, ← en] at HB ⊢
  rw [← en] at HA hz
  clear ha hb hea heb hp hl en
  go_enter Tryz.func24, Tryz.ntmps24
  obtain ⟨F, eF⟩ : ∃ F, F = w.heap.size := ⟨_, rfl⟩
  obtain ⟨w1, ew⟩ : ∃ w1 : World, w1 = w.alloc (.cells #[.int .i64 P] 31) := ⟨_, rfl⟩
  have HW1 : Hid (w.alloc (.cells #[.int .i64 P] 31) = w1) := ew.symm
  have HB1 : Hid (Below w.heap.size w w1) := (show Hid _ from by rw [ew]; exact (Below.refl _ w).alloc (Nat.le_refl _) _)
  have HF1 : Hid (w1.heap[F]? = some (.cells #[.int .i64 P] 31 (0, 0))) := (show Hid _ from by show _ = _; rw [ew, eF]; exact heap_alloc_new w _)
  go_upto_region 1 with fail
  rw [HW1.out, ← eF]
  clear ew eF
  have f0 : w1.cell? ⟨F, 0, none⟩ = some (.int .i64 P) := cell_of_row w1 F 0 _ _ _ HF1.out
  go_wp2_with fail
  (with_reducible refine (two_ok P a b _ _ w1 HP.out (HA.out.below HB1.out) (HB.out.below HB1.out) HEA.out HEB.out HL.out).mono ?_)
  rintro e w2 ⟨rfl, hb2⟩
  have HB2 : Hid (Below w.heap.size w w2) := HB1.out.trans (hb2.mono HB1.out.size)
  have HF2 : Hid (w2.heap[F]? = some (.cells #[.int .i64 P] 31 (0, 0))) := (hb2.block F (heap_of_cells HF1.out)).trans HF1.out
  clear hb2 f0
  go_wp2_with fail
  go_loopw [9, 20] (fun v iv wr => Ad1 P a b n w2 v iv wr) (fun _ iv _ => n - (intOf iv).toNat)
  case atStart => exact ⟨0, _, [], rfl, Nat.zero_le _, rfl, rfl, World.ownsRow_nil _ _ _ _, Below.refl _ _⟩
  case round =>
    obtain ⟨k, pv, ns, rfl, hk, rfl, hns, hown, hb⟩ := hrel
    have HO := Lib.hid hown
    have HBr := Lib.hid hb
    have HNS := Lib.hid hns
    have hnl : ns.length = k := by rw [hns, adT_len]
    have HNL := Lib.hid hnl
    have hzr : w2.heap.size ≤ wr.heap.size := hb.size
    have HBw : Hid (Below w.heap.size w wr) := HB2.out.trans (hb.mono HB2.out.size)
    by_cases hlk : k < n
    · have dk : decide (k < n) = true := decide_eq_true hlk
      have f0 : wr.cell? ⟨F, 0, none⟩ = some (.int .i64 P) := cell_of_row wr F 0 _ _ _ ((hb.block F (heap_of_cells HF2.out)).trans HF2.out)
      obtain ⟨A1, c1, e1, _, _, _, ha⟩ := HA.out.below HB2.out
      injection e1 with e1 e2 e3
      subst e1
      obtain ⟨ba, oa, rfl, hba, hca⟩ := ha (by rw [← HEN.out]; omega)
      obtain ⟨B1, d1, e4, _, _, _, hb'⟩ := HB.out.below HB2.out
      injection e4 with e4 e5 e6
      subst e4
      obtain ⟨bb, ob, rfl, hbb, hcb⟩ := hb' (by rw [← HL.out, ← HEN.out]; omega)
      have ca := (hb.cell (p := ⟨ba, oa + k, none⟩) hba).trans (hca k (by rw [← HEN.out]; exact hlk))
      have cb := (hb.cell (p := ⟨bb, ob + k, none⟩) hbb).trans (hcb k (by rw [← HL.out, ← HEN.out]; exact hlk))
      have hF2 : F < w2.heap.size := heap_of_cells HF2.out
      obtain ⟨x, ex⟩ : ∃ x, x = a[k]'(by rw [← HEN.out]; exact hlk) := ⟨_, rfl⟩
      obtain ⟨y, ey⟩ : ∃ y, y = b[k]'(by rw [← HL.out, ← HEN.out]; exact hlk) := ⟨_, rfl⟩
      rw [← ex] at ca
      rw [← ey] at cb
      have hx : 0 ≤ x ∧ x < P := by rw [ex]; exact el_t (els_all HEA.out _ (List.getElem_mem _))
      have hy : 0 ≤ y ∧ y < P := by rw [ey]; exact el_t (els_all HEB.out _ (List.getElem_mem _))
      obtain ⟨z, ez'⟩ : ∃ z, z = (x + y) % P := ⟨_, rfl⟩
      have hzb : 0 ≤ z ∧ z < P := by rw [ez']; exact ⟨Int.emod_nonneg _ (by omega), Int.emod_lt_of_pos _ (by omega)⟩
      have m1 : IntKind.i64.wrap (x + y) = x + y := by exact IntWalk.i64_in _ (by omega)
      have m2 : (x + y).tmod P = z := by rw [Int.tmod_eq_emod_of_nonneg (by omega)]; exact ez'.symm
      have m3 : IntKind.i64.wrap z = z := by exact IntWalk.i64_in _ (by omega)
      have m4 : ¬ P = 0 := by omega
      have z1 : (0 : Int) ≤ (k : Int) := by omega
      have z2 : (k : Int) < (n : Int) := by omega
      have hnl' : ns.length ≤ 100000 := by omega
      have HZ : Hid (adT P a b (k + 1) = ns ++ [z]) := (show Hid _ from by
        show _ = _
        rw [adT_succ, ← HNS.out, ez', ex, ey, gd_lt (by rw [← HEN.out]; exact hlk), gd_lt (by rw [← HL.out, ← HEN.out]; exact hlk)])
      have HTO : Hid (∀ q, pv.ownBlock = some q → w2.heap.size ≤ q) := (show Hid _ from fun q hq => (HO.out.lt q hq).1)
      have HCL : Hid (∀ w9 : World, (wr.alloc (.cells #[.int .i64 z] 3)).grownBy w9 pv.ownBlock → w9.cell? ⟨F, 0, none⟩ = some (.int .i64 P) ∧ w9.cell? ⟨ba, oa + k, none⟩ = some (.int .i64 x) ∧ w9.cell? ⟨bb, ob + k, none⟩ = some (.int .i64 y)) := (show Hid _ from fun w9 hg => by
        have hB : Below w2.heap.size wr w9 := ((Below.refl _ wr).alloc hzr _).grown hg (by simp; omega) HTO.out
        exact ⟨(hB.cell (p := ⟨F, 0, none⟩) hF2).trans f0, (hB.cell (p := ⟨ba, oa + k, none⟩) hba).trans ca, (hB.cell (p := ⟨bb, ob + k, none⟩) hbb).trans cb⟩)
      clear hns hown hb hnl ha hb' hca hcb ex ey ez' e2 e3 e5 e6
      go_upto_region 8 with fail
      go_region_held3 (fun w' => w'.cell? ⟨F, 0, none⟩ = some (.int .i64 P) ∧ w'.cell? ⟨ba, oa + k, none⟩ = some (.int .i64 x) ∧ w'.cell? ⟨bb, ob + k, none⟩ = some (.int .i64 y)) (first | exact ⟨f0, ca, cb⟩ | exact HCL.out _ HG9.out | go_keep)
        (first | (refine step_append_int1_at _ (by rfl) (.tmp 23) _ 22 (by rfl) w2.heap.size 3 Tryz.underlying22 iinfo pv ns (by rfl) (by first | exact HO.out.alloc (.cells #[.int .i64 z] 3) | exact (HO.out.alloc (.cells #[.int .i64 z] 3)).drew) z wr.heap.size (by rfl) (by exact cells_new wr [.int .i64 z] 3 0 _ rfl) (by omega) (by simp; omega) ?_; intro g9 cap9 w9 hown9 hg9 hat9; have HG9 : Hid ((wr.alloc (.cells #[.int .i64 z] 3)).grownBy w9 pv.ownBlock) := (show Hid _ from ⟨hg9.os, hg9.tape, hg9.output, hg9.size, hg9.block⟩); have HO9 := Lib.hid hown9; clear hown9 hg9 hat9))
      all_goals
        go_wp2_with fail
        go_roundw
        case rel =>
          refine ⟨k + 1, _, ns ++ [z], rfl, by omega, by go_num, HZ.out.symm, by simpa using HO9.out, ?_⟩
          exact (HBr.out.alloc (Nat.le_trans (Nat.le_refl _) hzr) _).grown HG9.out (by simp; omega) HTO.out
        case measure => simp [intOf]; omega
    · have dk : decide (k < n) = false := decide_eq_false hlk
      have hkn : k = n := by omega
      subst hkn
      rw [hnl] at hown
      obtain ⟨A5, c5, e5⟩ := own_sl' hown
      subst e5
      have HO5 : Hid (wr.ownsRow w.heap.size 3 1 (.slice A5 k c5) k ((ad2 P a b).map (Value.int .i64))) := (show Hid _ from by
        have e : ad2 P a b = ns := by rw [HNS.out, HEN.out]; rfl
        rw [e]; exact own_lo hown HB2.out.size)
      clear hns hown hb hnl
      go_wp2_with fail
      refine bodyPost_ret (results_tmp2 rfl _ _ _) rfl ?_
      exact ⟨_, _, rfl, HBw.out, HO5.out⟩
end Go.Proofs.YtoiabanpnkpbhaaGreatDoor
