/- Joined: Vw. -/
import Derived.Test.YtoiabanpnkpbhaaGreatDoorZ32
import Derived.Test.YtoiabanpnkpbhaaGreatDoorZ36
import Derived.Test.YtoiabanpnkpbhaaGreatDoorZ34
import Derived.Test.YtoiabanpnkpbhaaGreatDoorZ24
import Derived.Test.YtoiabanpnkpbhaaGreatDoorZ22
import Derived.Test.YtoiabanpnkpbhaaGreatDoorZ28
namespace Go.Proofs.YtoiabanpnkpbhaaGreatDoor
open Go.RowKit

/-- the sum so far -/
def Lin1 (g m : Nat) (P : Int) (one two : List (List Int)) (w9 : World) (v iv : Value) (wr : World) : Prop :=
  ∃ (k : Nat) (pv : Value) (vs : List Value), pv = v ∧ k ≤ m ∧ iv = .int .i64 k ∧ RW w9.heap.size g wr pv vs (sum2 P one two k) ∧ Below w9.heap.size w9 wr
theorem gr_is {rows : List (List Int)} {j : Nat} (h : j < rows.length) : gr rows j = rows[j] := by unfold gr; rw [List.getElem?_eq_getElem h]; rfl
theorem SLE.look {g n c : Nat} {w : World} {A : Option Addr} {rows : List (List Int)} (h : SLE g w (.slice A n c) rows) (hn : n = rows.length) (h0 : 0 < n) : ∃ (b o : Nat) (H : Nat → Value), A = some ⟨b, o, none⟩ ∧ b < w.heap.size ∧
    ∀ W, w.grownBy W (some g) → ∀ j, j < n → W.cell? ⟨b, o + j, none⟩ = some (H j) ∧ SE g W (H j) (gr rows j) ∧ ∃ B d, H j = .slice B (gr rows j).length d := by
  obtain ⟨b, o, c', H, e, hb, hv⟩ := h.view (by omega)
  injection e with e1 e2 e3
  refine ⟨b, o, H, e1, hb, fun W hg j hj => ?_⟩
  rw [gr_is (by omega)]
  exact hv W hg j (by omega)
set_option maxRecDepth 100000 in
set_option maxHeartbeats 16000000 in
theorem linear_any (l : List Int) (a : Nat) (v : Value) (w : World) (ha : a < 256) (h : SI w v l) (hE : EW w) :
    Calls Tryz.prog 5 #[v, .int .u8 a] w fun e w' => e = .returned (.bool true) ∧ Below w.heap.size w w' := by
  have HS := Lib.hid h
  have HE := Lib.hid hE
  obtain ⟨A, c, rfl⟩ := h.form
  clear h hE
  go_enter Tryz.func5, Tryz.ntmps5
  go_wp2_with fail
  (with_reducible refine (sane_any _ HE.out).mono ?_)
  rintro e w1 ⟨rfl, hb1⟩
  have HB1 := Lib.hid hb1
  have HS1 := Lib.hid (HS.out.below hb1)
  clear hb1
  go_wp2_with fail
  (with_reducible refine (few_any l _ w1 HS1.out).mono ?_)
  rintro e wz ⟨rfl, hwz⟩
  subst hwz
  by_cases h5 : l.length ≤ 500
  · have d5 : decide (l.length ≤ 500) = true := decide_eq_true h5
    rw [d5]
    clear d5 h5
    go_wp2_with fail
    (with_reducible refine (new_any l _ w1 HS1.out).mono ?_)
    rintro e w2 ⟨rfl, hd2, hb2, hz2⟩
    obtain ⟨g, eg⟩ : ∃ g, g = w1.heap.size := ⟨_, rfl⟩
    rw [← eg] at hd2 ⊢
    have HD2 := Lib.hid hd2
    have HB2 : Hid (Below w.heap.size w w2) := HB1.out.trans (hb2.mono HB1.out.size)
    have HGW : Hid (w.heap.size ≤ g) := (show Hid _ from by rw [eg]; exact HB1.out.size)
    have HG2 : Hid (g < w2.heap.size) := hd2.lt
    clear hd2 hb2 hz2 eg
    go_wp2_with fail
    (with_reducible refine (storage_any g w2 HD2.out).mono ?_)
    rintro e w3 ⟨P, n0, t0', G0, rfl, hd3, hg3, hV, ht2, hG3⟩
    have hn2 := hV.n2
    have hn10 := hV.n10
    have hnP := hV.nP
    have ht1 := hV.t1
    have hG1 := hV.G1
    obtain ⟨n, rfl⟩ : ∃ n : Nat, n0 = n := ⟨n0.toNat, by omega⟩
    obtain ⟨t, rfl⟩ : ∃ t : Nat, t0' = t := ⟨t0'.toNat, by omega⟩
    obtain ⟨G, rfl⟩ : ∃ G : Nat, G0 = G := ⟨G0.toNat, by omega⟩
    have HPR := Lib.hid hV
    have hPb := hV.pb
    obtain ⟨F, eF⟩ : ∃ F, F = w3.heap.size := ⟨_, rfl⟩
    obtain ⟨w4, ew4⟩ : ∃ w4 : World, w4 = (w3.alloc (.cells #[.int .i64 P] 31)).alloc (.cells #[.int .i64 n, .int .i64 t, .int .i64 G] 29) := ⟨_, rfl⟩
    have HW4 : Hid ((w3.alloc (.cells #[.int .i64 P] 31)).alloc (.cells #[.int .i64 n, .int .i64 t, .int .i64 G] 29) = w4) := ew4.symm
    have HF4 : Hid (w4.heap[F]? = some (.cells #[.int .i64 P] 31 (0, 0))) := (show Hid _ from by show _ = _; rw [ew4, eF, Below.heap_alloc _ _ _ (by simp)]; exact heap_alloc_new w3 _)
    have HP4 : Hid (w4.heap[F + 1]? = some (.cells #[.int .i64 n, .int .i64 t, .int .i64 G] 29 (0, 0))) := (show Hid _ from by show _ = _; rw [ew4, eF]; have := heap_alloc_new (w3.alloc (.cells #[.int .i64 P] 31)) (.cells #[.int .i64 n, .int .i64 t, .int .i64 G] 29); simpa using this)
    have HB34 : Hid (Below w3.heap.size w3 w4) := (show Hid _ from by rw [ew4]; exact ((Below.refl _ w3).alloc (Nat.le_refl _) _).alloc (by simp) _)
    have HD4 := Lib.hid (hd3.below HB34.out)
    have HGF : Hid (g < F) := (show Hid _ from by rw [eF]; have := hg3.size; have := HG2.out; show g < _; omega)
    have HG24 : Hid (w2.grownBy w4 (some g)) := grownBy_trans hg3 (grownBy_of_below HB34.out _)
    have HFF := Lib.hid eF
    have HXC : Hid (∀ W, w4.grownBy W (some g) → W.cell? ⟨F, 0, none⟩ = some (.int .i64 P) ∧ W.cell? ⟨F + 1, 0, none⟩ = some (.int .i64 n) ∧ W.cell? ⟨F + 1, 1, none⟩ = some (.int .i64 t) ∧ W.cell? ⟨F + 1, 2, none⟩ = some (.int .i64 G)) := (show Hid _ from fun W hg => by
      have h1 := (hg.block F (heap_of_cells HF4.out) (by have := HGF.out; simp; omega)).trans HF4.out
      have h2 := (hg.block (F + 1) (heap_of_cells HP4.out) (by have := HGF.out; simp; omega)).trans HP4.out
      exact ⟨cell_of_row W F 0 _ _ _ h1, cell_of_row W (F + 1) 0 _ _ _ h2, cell_of_row W (F + 1) 1 _ _ _ h2, cell_of_row W (F + 1) 2 _ _ _ h2⟩)
    have HBF : Hid (∀ W, w4.grownBy W (some g) → Below w.heap.size w W) := (show Hid _ from fun W hg => HB2.out.grown (grownBy_trans HG24.out hg) HB2.out.size (fun k hk => by injection hk with e; subst e; exact HGW.out))
    clear hd3 hg3 hV
    go_upto_region 7 with fail
    rw [HW4.out, ← eF]
    clear ew4 eF
    go_wp2_with fail
    (with_reducible refine (next_any 7 g w4 HD4.out (i64_s (by omega)) (by omega)).mono ?_)
    rintro e w5 ⟨x, rfl, _, hx, hd5, hg5⟩
    obtain ⟨hx1, hx2⟩ := hx (by omega)
    obtain ⟨m, rfl⟩ : ∃ m : Nat, x = m := ⟨x.toNat, by omega⟩
    have hm6 : m ≤ 6 := by omega
    have HD5 := Lib.hid hd5
    have HG45 : Hid (w4.grownBy w5 (some g)) := hg5
    clear hx hx1 hx2 hd5 hg5
    go_wp2_with fail
    (with_reducible refine (next_any 4 g w5 HD5.out (i64_s (by omega)) (by omega)).mono ?_)
    rintro e w6 ⟨y, rfl, _, hy, hd6, hg6⟩
    obtain ⟨hy1, hy2⟩ := hy (by omega)
    obtain ⟨wd, rfl⟩ : ∃ wd : Nat, y = wd := ⟨y.toNat, by omega⟩
    have hwd3 : wd ≤ 3 := by omega
    have HD6 := Lib.hid hd6
    have HG46 : Hid (w4.grownBy w6 (some g)) := (show Hid _ from grownBy_trans HG45.out hg6)
    clear hy hy1 hy2 hd6 hg6
    have HXF : Hid (∀ W, w6.grownBy W (some g) → W.cell? ⟨F, 0, none⟩ = some (.int .i64 P)) := (show Hid _ from fun W hg => (HXC.out W (grownBy_trans HG46.out hg)).1)
    have HRWS : Hid (∀ W, w6.grownBy W (some g) → Dk W g → Calls Tryz.prog 15 #[.pointer (some ⟨g, 0, none⟩), .agg #[.int .i64 P], .int .i64 m, .int .i64 wd] W fun e w' => ∃ A c rows, e = .returned (.slice A m c) ∧ (rows.length = m ∧ ∀ r ∈ rows, r.length = wd ∧ els P r = true) ∧ SLE g w' (.slice A m c) rows ∧ Dk w' g ∧ W.grownBy w' (some g)) := (show Hid _ from fun W _ hd =>
      (rows_any g m wd P W hd (by omega) (by omega) (by omega)).mono fun e w' ⟨vr, rows, h1, h2, h3, h4, h5, h6⟩ => by
        obtain ⟨Ar, cr, evr⟩ := h4.form
        rw [h2] at evr
        subst evr
        exact ⟨Ar, cr, rows, h1, ⟨h2, h3⟩, h4, h5, h6⟩)
    go_upto_region 8 with fail
    apply regVa g F m wd P (fun rows => rows.length = m ∧ ∀ r ∈ rows, r.length = wd ∧ els P r = true) w6 HXF.out HD6.out HRWS.out
    rintro u10 u11 u44 u45 u46 u47 u48 u49 u50 u51 u52 u53 one two w9 ⟨⟨hl1, hr1⟩, ⟨hl2, hr2⟩, hs1, hs2, hd9, hg9⟩
    have HL1 := Lib.hid hl1
    have HL2 := Lib.hid hl2
    have HR1 := Lib.hid hr1
    have HR2 := Lib.hid hr2
    obtain ⟨Ao, co, evo⟩ := hs1.form
    obtain ⟨At, ct, evt⟩ := hs2.form
    rw [hl1] at evo
    rw [hl2] at evt
    subst evo evt
    have HS19 := Lib.hid hs1
    have HS29 := Lib.hid hs2
    have HD9 := Lib.hid hd9
    have HGg : Hid (g < w9.heap.size) := hd9.lt
    have HG49 : Hid (w4.grownBy w9 (some g)) := (show Hid _ from grownBy_trans HG46.out hg9)
    clear hl1 hl2 hr1 hr2 hs1 hs2 hd9 hg9 HXF HRWS
    go_wp2_with fail
    go_loopw [12, 56] (fun v iv wr => Lin1 g m P one two w9 v iv wr) (fun _ iv _ => m - (intOf iv).toNat)
    case atStart => exact ⟨0, _, [], rfl, Nat.zero_le _, rfl, RW.nil _ _ _, Below.refl _ _⟩
    case round =>
      obtain ⟨k, pv, vs, rfl, hk, rfl, hrw, hb⟩ := hrel
      have HRW := Lib.hid hrw
      have HB := Lib.hid hb
      have hz := hb.size
      have HG4r : Hid (w4.grownBy wr (some g)) := (show Hid _ from grownBy_trans HG49.out (grownBy_of_below hb _))
      have HG9r : Hid (w9.grownBy wr (some g)) := (show Hid _ from grownBy_of_below hb _)
      clear hrw hb
      by_cases hlk : k < m
      · have dk : decide (k < m) = true := decide_eq_true hlk
        obtain ⟨bx, ox, Hx, e1, _, hvx⟩ := HS19.out.look HL1.out.symm (by omega)
        obtain ⟨by_, oy, Hy, e2, _, hvy⟩ := HS29.out.look HL2.out.symm (by omega)
        subst e1 e2
        have HVX := Lib.hid hvx
        have HVY := Lib.hid hvy
        have HX : Hid (∀ W, Below wr.heap.size wr W → W.cell? ⟨F, 0, none⟩ = some (.int .i64 P) ∧ W.cell? ⟨bx, ox + k, none⟩ = some (Hx k) ∧ W.cell? ⟨by_, oy + k, none⟩ = some (Hy k)) := (show Hid _ from fun W hb => by
          have hg := grownBy_trans HG9r.out (grownBy_of_below hb _)
          exact ⟨(HXC.out W (grownBy_trans HG49.out hg)).1, (hvx W hg k hlk).1, (hvy W hg k hlk).1⟩)
        have hma : (gr one k).length = wd ∧ els P (gr one k) = true := HR1.out _ (gr_mem (by have := HL1.out; omega))
        have hmb : (gr two k).length = wd ∧ els P (gr two k) = true := HR2.out _ (gr_mem (by have := HL2.out; omega))
        have HMA := Lib.hid hma
        have HA : Hid (∀ W, Below wr.heap.size wr W → Calls Tryz.prog 24 #[.agg #[.int .i64 P], Hx k, Hy k] W fun e w' => ∃ A c, e = .returned (.tuple #[.slice A wd c, .int .i64 0]) ∧ Below W.heap.size W w' ∧ w'.ownsRow wr.heap.size 3 1 (.slice A wd c) wd ((ad2 P (gr one k) (gr two k)).map (Value.int .i64))) := (show Hid _ from fun W hb => by
          have hg := grownBy_trans HG9r.out (grownBy_of_below hb _)
          refine (add_ok P (gr one k) (gr two k) (Hx k) (Hy k) W HPR.out.pr (hvx W hg k hlk).2.1.si (hvy W hg k hlk).2.1.si hma.2 hmb.2 (by rw [hma.1, hmb.1]) (by rw [hma.1]; omega)).mono fun e w' ⟨A, c, h1, h2, h3⟩ => ?_
          rw [hma.1] at h1 h3
          exact ⟨A, c, h1, h2, own_lo h3 hb.size⟩)
        clear hvx hvy hma hmb
        go_upto_region 13 with fail
        apply regVb F bx ox by_ oy m co ct k wd P (Hx k) (Hy k) (ad2 P (gr one k) (gr two k)) wr hlk HX.out HA.out
        rintro u14 u15 u59 u60 u61 u62 u63 u64 u65 u66 u67 u68 u69 u70 u71 w2 ⟨hb2, A1, c1, rfl, hown⟩
        have hnl : (ad2 P (gr one k) (gr two k)).length = wd := by rw [ad2_len]; exact HMA.out.1
        have HB2' : Hid (Below wr.heap.size wr w2) := hb2
        have hz2 : w9.heap.size ≤ w2.heap.size := Nat.le_trans hz hb2.size
        have HRW2 : Hid (RW w9.heap.size g w2 pv vs (sum2 P one two k)) := (show Hid _ from HRW.out.below HGg.out hb2)
        have HSX : Hid (SX (w2.alloc (.cells #[.slice A1 wd c1] 22)) pv.ownBlock (some g) (.slice A1 wd c1) (ad2 P (gr one k) (gr two k))) := (show Hid _ from SX.of_own (by rw [hnl]; exact hown.alloc _) (els_r hPb.2 (ad2_els hPb.1 ..)) (fun q hq => (HRW.out.hdr.lt q hq).2) (fun q hq => by injection hq with e; have := HGg.out; omega))
        have hvn : vs.length ≤ 1000 := by have := HRW.out.len; rw [sum2_len] at this; omega
        clear hown hb2 HX HA hnl
        go_wp2_with (at_builtin; refine wpList_append_one_at _ rfl _ _ 33 rfl w9.heap.size 22 (.slice none 0 0) 24 Tryz.underlying33 ilinfo pv vs.length vs rfl (HRW2.out.hdr.alloc _) (.slice A1 wd c1) rfl w2.heap.size rfl (cells_new w2 [.slice A1 wd c1] 22 0 _ rfl) (by omega) (by omega) rfl (by simp; omega) ?_; intro g9 cap9 wa hown9 hg9 hat9; have HO9 := Lib.hid hown9; have HG9 := Lib.hid hg9; have HA9 := Lib.hid hat9; clear hown9 hg9 hat9)
        have HBA : Hid (Below w2.heap.size w2 (w2.alloc (.cells #[.slice A1 wd c1] 22))) := (show Hid _ from (Below.refl _ w2).alloc (Nat.le_refl _) _)
        have HRW9 : Hid (RW w9.heap.size g wa (.slice (some ⟨g9, 0, none⟩) (vs.length + 1) cap9) (vs ++ [.slice A1 wd c1]) (sum2 P one two (k + 1))) := (show Hid _ from by
          rw [sum2_succ]
          exact (HRW2.out.below HGg.out HBA.out).app HSX.out HO9.out HG9.out (fun q hq => by
            have e : g9 = q := by simpa [Value.ownBlock] using hq
            subst e; exact HA9.out))
        have HB9' : Hid (Below w9.heap.size w9 wa) := (show Hid _ from ((HB.out.trans (HB2'.out.mono hz)).trans (HBA.out.mono hz2)).grown HG9.out (by have := HBA.out.size; omega) (fun q hq => (HRW2.out.hdr.lt q hq).1))
        go_roundw
        case rel => exact ⟨k + 1, _, _, rfl, by omega, by go_num, HRW9.out, HB9'.out⟩
        case measure => simp [intOf]; omega
      · have dk : decide (k < m) = false := decide_eq_false hlk
        have hkm : m = k := by omega
        subst hkm
        have HS3 : Hid (SLE g wr pv (sum2 P one two m)) := (show Hid _ from HRW.out.sle HGg.out)
        obtain ⟨Ap, cp, ep⟩ := HS3.out.form
        rw [sum2_len] at ep
        subst ep
        obtain ⟨wf, ewf⟩ : ∃ wf : World, wf = wr := ⟨_, rfl⟩
        rw [← ewf] at HRW HB HG4r HG9r HS3 ⊢
        clear ewf hz
        obtain ⟨N, eN⟩ : ∃ N, N = ngr m G := ⟨_, rfl⟩
        obtain ⟨ea1, ea2⟩ := u8_tmod a n (by omega)
        rw [Int.toNat_natCast] at ea1 ea2
        obtain ⟨i, ei⟩ : ∃ i, i = a % n := ⟨_, rfl⟩
        rw [← ei] at ea1 ea2
        have hin : i < n := by omega
        obtain ⟨j, ej⟩ : ∃ j : Nat, (j : Int) = 1 + (i : Int) := ⟨1 + i, by omega⟩
        have hj : 1 ≤ (j : Int) ∧ (j : Int) ≤ n := by omega
        have hn0 : ¬ n = 0 := by omega
        have hn0' : ¬ (n : Int) = 0 := by omega
        have wi : IntKind.i64.wrap ((i : Nat) : Int) = (i : Int) := by exact IntWalk.i64_in _ (by omega)
        have wa_ : IntKind.i64.wrap ((a : Nat) : Int) = (a : Int) := by exact IntWalk.i64_in _ (by omega)
        have wj : IntKind.i64.wrap (1 + (i : Int)) = (j : Int) := by rw [← ej]; exact IntWalk.i64_in _ (by omega)
        have HH : Hid (∀ W v rows, rows.length = m → (∀ r ∈ rows, r.length = wd ∧ els P r = true) → SL W v rows → g < W.heap.size → Calls Tryz.prog 17 #[.agg #[.int .i64 P], .agg #[.int .i64 n, .int .i64 t, .int .i64 G], .int .i64 wd, v, .int .i64 j] W fun e w' => ∃ A c, e = .returned (.tuple #[.slice A N c, .int .i64 0]) ∧ Below W.heap.size W w' ∧ SLE g w' (.slice A N c) (hRows P rows j wd G N)) := (show Hid _ from fun W v rows hl hr hs hg => by
          have := hold_ok P n t G wd j g rows v W HPR.out hj (by omega) (by omega) hr hs hg
          rw [hl, ← eN] at this
          exact this)
        have HGR : Hid (∀ W, Calls Tryz.prog 25 #[.agg #[.int .i64 n, .int .i64 t, .int .i64 G], .int .i64 m] W fun e w' => e = .returned (.tuple #[.int .i64 N, .int .i64 0]) ∧ Below W.heap.size W w') := (show Hid _ from fun W => by
          have := groups_ok n t G m W (by omega) (by omega)
          rw [← eN] at this
          exact this)
        have HNb : Hid (N * G < m + G ∧ N ≤ 100) := (show Hid _ from by
          have h := ngr_bd (len := m) (G := G) (by omega)
          rw [← eN] at h
          refine ⟨h.1, ?_⟩
          have h2 : N * 1 ≤ N * G := Nat.mul_le_mul_left _ (by omega)
          omega)
        have HHL : Hid (∀ rows : List (List Int), (hRows P rows j wd G N).length = N) := (show Hid _ from fun rows => hRows_len ..)
        have HPL : Hid (∀ q, q < N → ad2 P (gr (hRows P one j wd G N) q) (gr (hRows P two j wd G N) q) = gr (hRows P (sum2 P one two m) j wd G N) q) := (show Hid _ from fun q hq => by
          rw [hRows_gr _ _ _ _ _ _ _ hq, hRows_gr _ _ _ _ _ _ _ hq, hRows_gr _ _ _ _ _ _ _ hq, sum2_len, HL1.out, HL2.out]
          refine hdT_add hPb.1 (fun r hr => (HR1.out r hr).1) (fun r hr => (HR2.out r hr).1) HL1.out.symm HL2.out.symm ?_
          unfold gSz
          have h3 := HNb.out.1
          have h4 : q * G + G ≤ N * G := by
            have := Nat.mul_le_mul_right G (show q + 1 ≤ N by omega)
            rw [Nat.add_mul, Nat.one_mul] at this
            exact this
          omega)
        have HGH : Hid (∀ (rows : List (List Int)) q, q < N → (gr (hRows P rows j wd G N) q).length = wd ∧ els P (gr (hRows P rows j wd G N) q) = true) := (show Hid _ from fun rows q hq => hRows_mem hPb.1 _ (gr_mem (by rw [hRows_len]; exact hq)))
        have HGf : Hid (g < wf.heap.size) := (show Hid _ from by have := HB.out.size; have := HGg.out; show g < _; omega)
        clear ei ej eN
        obtain ⟨f0, s0, s1, s2⟩ := HXC.out wf HG4r.out
        go_upto_region 16 with fail
        go_wp2_with fail
        (with_reducible refine (HH.out wf _ one HL1.out HR1.out (HS19.out.grown HG9r.out).sl HGf.out).mono ?_)
        rintro e w11 ⟨Ax, cx, rfl, hb11, hs11⟩
        clear wi wa_ wj ea1 hn0 hn0' f0 s0 s1 s2
        have HB11 : Hid (Below wf.heap.size wf w11) := hb11
        have HX11 := Lib.hid hs11
        have HG11 : Hid (w4.grownBy w11 (some g)) := (show Hid _ from grownBy_trans HG4r.out (grownBy_of_below hb11 _))
        have HGx : Hid (g < w11.heap.size) := (show Hid _ from by have := hb11.size; have := HGf.out; show g < _; omega)
        have HS2x := Lib.hid ((HS29.out.grown HG9r.out).below hb11)
        have HS3x := Lib.hid (HS3.out.below hb11)
        clear hb11 hs11
        obtain ⟨f0, s0, s1, s2⟩ := HXC.out w11 HG11.out
        go_wp2_with fail
        (with_reducible refine (HH.out w11 _ two HL2.out HR2.out HS2x.out.sl HGx.out).mono ?_)
        rintro e w12 ⟨Ay, cy, rfl, hb12, hs12⟩
        clear f0 s0 s1 s2
        have HX12 := Lib.hid (HX11.out.below hb12)
        have HY12 := Lib.hid hs12
        have HB12 : Hid (Below wf.heap.size wf w12) := (show Hid _ from HB11.out.trans (hb12.mono HB11.out.size))
        have HG12 : Hid (w4.grownBy w12 (some g)) := (show Hid _ from grownBy_trans HG11.out (grownBy_of_below hb12 _))
        have HGy : Hid (g < w12.heap.size) := (show Hid _ from by have := hb12.size; have := HGx.out; show g < _; omega)
        have HS3y := Lib.hid (HS3x.out.below hb12)
        clear hb12 hs12
        obtain ⟨f0, s0, s1, s2⟩ := HXC.out w12 HG12.out
        go_wp2_with fail
        (with_reducible refine (HH.out w12 _ (sum2 P one two m) (sum2_len ..) (sum2_mem hPb.1 (fun r hr => (HR1.out r hr).1) (by rw [HL1.out]; exact Nat.le_refl _)) HS3y.out.sl HGy.out).mono ?_)
        rintro e w13 ⟨Az, cz, rfl, hb13, hs13⟩
        clear f0 s0 s1 s2
        have HX13 := Lib.hid (HX12.out.below hb13)
        have HY13 := Lib.hid (HY12.out.below hb13)
        have HZ13 := Lib.hid hs13
        have HB13 : Hid (Below wf.heap.size wf w13) := (show Hid _ from HB12.out.trans (hb13.mono HB12.out.size))
        have HG13 : Hid (w4.grownBy w13 (some g)) := (show Hid _ from grownBy_trans HG12.out (grownBy_of_below hb13 _))
        clear hb13 hs13
        obtain ⟨f0, s0, s1, s2⟩ := HXC.out w13 HG13.out
        go_wp2_with fail
        (with_reducible refine (HGR.out w13).mono ?_)
        rintro e w14 ⟨rfl, hb14⟩
        clear f0 s0 s1 s2
        have HX14 := Lib.hid (HX13.out.below hb14)
        have HY14 := Lib.hid (HY13.out.below hb14)
        have HZ14 := Lib.hid (HZ13.out.below hb14)
        have HB14 : Hid (Below wf.heap.size wf w14) := (show Hid _ from HB13.out.trans (hb14.mono HB13.out.size))
        have HG14 : Hid (w4.grownBy w14 (some g)) := (show Hid _ from grownBy_trans HG13.out (grownBy_of_below hb14 _))
        have HBe : Hid (Below w.heap.size w w14) := HBF.out w14 HG14.out
        clear hb14
        go_wp2_with fail
        go_loopw [150] (fun iv wr => ∃ q : Nat, q ≤ N ∧ iv = .int .i64 q ∧ Below w14.heap.size w14 wr) (fun iv _ => N - (intOf iv).toNat)
        case atStart => exact ⟨0, Nat.zero_le _, rfl, Below.refl _ _⟩
        case round =>
          obtain ⟨q, hq, rfl, hb⟩ := hrel
          have hNb := HNb.out.2
          have HB := Lib.hid hb
          have HGr : Hid (w14.grownBy wr (some g)) := (show Hid _ from grownBy_of_below hb _)
          clear hb
          by_cases hlq : q < N
          · have dq : decide (q < N) = true := decide_eq_true hlq
            obtain ⟨bx, ox, Hx, e1, _, hvx⟩ := HX14.out.look (HHL.out one).symm (by omega)
            obtain ⟨by_, oy, Hy, e2, _, hvy⟩ := HY14.out.look (HHL.out two).symm (by omega)
            obtain ⟨bz, oz, Hz, e3, _, hvz⟩ := HZ14.out.look (HHL.out _).symm (by omega)
            subst e1 e2 e3
            have HVZ := Lib.hid hvz
            have HX : Hid (∀ W, Below wr.heap.size wr W → W.cell? ⟨F, 0, none⟩ = some (.int .i64 P) ∧ W.cell? ⟨bx, ox + q, none⟩ = some (Hx q) ∧ W.cell? ⟨by_, oy + q, none⟩ = some (Hy q)) := (show Hid _ from fun W hb => by
              have hg := grownBy_trans HGr.out (grownBy_of_below hb _)
              exact ⟨(HXC.out W (grownBy_trans HG14.out hg)).1, (hvx W hg q hlq).1, (hvy W hg q hlq).1⟩)
            have hma := HGH.out one q hlq
            have hmb := HGH.out two q hlq
            have HMA := Lib.hid hma
            have HA : Hid (∀ W, Below wr.heap.size wr W → Calls Tryz.prog 24 #[.agg #[.int .i64 P], Hx q, Hy q] W fun e w' => ∃ A c, e = .returned (.tuple #[.slice A wd c, .int .i64 0]) ∧ Below W.heap.size W w' ∧ w'.ownsRow wr.heap.size 3 1 (.slice A wd c) wd ((ad2 P (gr (hRows P one j wd G N) q) (gr (hRows P two j wd G N) q)).map (Value.int .i64))) := (show Hid _ from fun W hb => by
              have hg := grownBy_trans HGr.out (grownBy_of_below hb _)
              refine (add_ok P _ _ (Hx q) (Hy q) W HPR.out.pr (hvx W hg q hlq).2.1.si (hvy W hg q hlq).2.1.si hma.2 hmb.2 (by rw [hma.1, hmb.1]) (by rw [hma.1]; omega)).mono fun e w' ⟨A, c, h1, h2, h3⟩ => ?_
              rw [hma.1] at h1 h3
              exact ⟨A, c, h1, h2, own_lo h3 hb.size⟩)
            clear hvx hvy hvz hma hmb
            go_upto_region 26 with fail
            apply regVc F bx ox by_ oy N cx cy q wd P (Hx q) (Hy q) (ad2 P (gr (hRows P one j wd G N) q) (gr (hRows P two j wd G N) q)) wr hlq HX.out HA.out
            rintro u26 u27 u153 u154 u155 u156 u157 u158 u159 u160 u161 u162 u163 u164 u165 w2 ⟨hb2, A1, c1, rfl, hown⟩
            have hg2 := grownBy_trans HGr.out (grownBy_of_below hb2 (some g))
            obtain ⟨cz0, hz1, Bz, dz, ez⟩ := HVZ.out w2 hg2 q hlq
            have hnl : (ad2 P (gr (hRows P one j wd G N) q) (gr (hRows P two j wd G N) q)).length = wd := by rw [ad2_len]; exact HMA.out.1
            have HSA : Hid (Calls Tryz.prog 26 #[.slice A1 wd c1, Hz q] w2 fun e w' => e = .returned (.bool true) ∧ Below w2.heap.size w2 w') := (show Hid _ from by
              refine (same4_any (ad2 P (gr (hRows P one j wd G N) q) (gr (hRows P two j wd G N) q)) (gr (hRows P (sum2 P one two m) j wd G N) q) _ _ w2 (SE.of_own (g := g) (base := wr.heap.size) (by rw [hnl]; exact hown) (els_r hPb.2 (ad2_els hPb.1 ..)) (by have := HGr.out.size; have := HGg.out; have := HB14.out.size; have := HGf.out; omega)).si hz1.si).mono fun e w' ⟨h3, h4⟩ => ⟨by rw [h3, HPL.out q hlq]; simp, h4⟩)
            have HB2 : Hid (Below w14.heap.size w14 w2) := (show Hid _ from HB.out.trans (hb2.mono HB.out.size))
            clear hb2 hown hz1 hnl HX HA hg2
            rw [ez] at cz0 HSA
            clear ez
            go_wp2_with fail
            (with_reducible refine HSA.out.mono ?_)
            rintro e w3 ⟨rfl, hb3⟩
            have HB3 : Hid (Below w14.heap.size w14 w3) := (show Hid _ from HB2.out.trans (hb3.mono HB2.out.size))
            clear hb3 cz0
            go_wp2_with fail
            go_roundw
            case rel => exact ⟨q + 1, by omega, by go_num, HB3.out⟩
            case measure => simp [intOf]; omega
          · have dq : decide (q < N) = false := decide_eq_false hlq
            go_wp2_with fail
            go_ret
            exact ⟨rfl, HBe.out.trans (HB.out.mono HBe.out.size)⟩
  · have d5 : decide (l.length ≤ 500) = false := decide_eq_false h5
    rw [d5]
    clear d5 h5
    go_wp2_with fail
    go_ret
    exact ⟨rfl, HB1.out⟩
end Go.Proofs.YtoiabanpnkpbhaaGreatDoor
