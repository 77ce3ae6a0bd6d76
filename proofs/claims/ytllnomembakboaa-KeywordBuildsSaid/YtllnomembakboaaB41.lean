/- Joined: Rn Ro. -/
import Derived.Test.YtllnomembakboaaB40
import Derived.Test.YtllnomembakboaaB22
import Derived.Test.YtllnomembakboaaB30
namespace Go.Proofs.Ytllnomembakboaa
open Go.RowKit

/-- a directory is valid -/
def VD (B : Int) (ps : List (Int × Int)) (slots : Int) (bs : List (List (ByteArray × Int))) : Prop := HV B ps ∧ DirOK B.toNat ps slots bs
set_option maxRecDepth 100000 in
theorem rpick_any (key : ByteArray) (bs : List (List (ByteArray × Int))) (v : Value) (w : World) (hks : key.size ≤ 9223372036854775807) (h : SLe w.heap.size w v bs) :
    Calls Try.prog 21 #[.string key, v] w fun e w' => e = .returned (if ky key = true then pickV (pickF key bs) else .tuple #[.int .i64 0, .bool false, .int .i64 1]) ∧ Below w.heap.size w w' := by
  obtain ⟨vs, hvl, hsv, hrows⟩ := h
  obtain ⟨A, c, rfl⟩ := hsv.form
  have hbl : bs.length ≤ 9223372036854775807 := by obtain ⟨_, _, _, h1, h2, _⟩ := hsv; omega
  have HSV := Lib.hid hsv
  have HROWS := Lib.hid hrows
  have HVL := Lib.hid hvl
  rw [hvl]
  clear hsv hrows hvl
  go_enter Try.func21, Try.ntmps21
  go_wp2_with fail
  (with_reducible refine (rkey_any key w hks).mono ?_)
  rintro e w2 ⟨rfl, hw2⟩
  subst hw2
  cases hky : ky key
  · go_wp2_with fail
    all_goals refine bodyPost_ret (v := .tuple #[.int .i64 0, .bool false, .int .i64 1]) (by simp [results, Try.results21, go_sem]) rfl ?_
    all_goals exact ⟨by simp, Below.refl _ _⟩
  · go_wp2_with fail
    go_loopw [16] (fun iv wr => ∃ i : Nat, i ≤ bs.length ∧ iv = .int .i64 i ∧ (∀ l ∈ bs.take i, ∀ e ∈ l, e.1 ≠ key) ∧ Below w.heap.size w wr) (fun iv _ => bs.length - (intOf iv).toNat)
    case atStart => exact ⟨0, Nat.zero_le _, rfl, fun l hl => by simp at hl, Below.refl _ _⟩
    case round =>
      obtain ⟨i, hi, rfl, hno, hbw⟩ := hrel
      have HNO := Lib.hid hno
      have HBW := Lib.hid hbw
      have hzw := hbw.size
      clear hno hbw
      by_cases hit : i < bs.length
      · obtain ⟨_, hat⟩ := HSV.out.at
        have hiv : i < vs.length := by rw [HVL.out]; exact hit
        obtain ⟨b, off, rfl, hb, hc⟩ := hat i hiv
        have c0 : wr.cell? ⟨b, off + i, none⟩ = some vs[i] := by simpa [one] using hc wr HBW.out 0 (by omega)
        have hrow := HROWS.out i hiv hit
        obtain ⟨Ar, cr, er⟩ := hrow.form
        obtain ⟨row, erow⟩ : ∃ r, r = bs[i] := ⟨_, rfl⟩
        rw [er, ← erow] at c0
        rw [er, ← erow] at hrow
        have HROW := Lib.hid hrow
        have HER := Lib.hid erow
        have hrl : row.length ≤ 9223372036854775807 := by obtain ⟨_, _, e, h1, h2, _⟩ := hrow; omega
        have z0 : 0 ≤ (i : Int) := by omega
        have z1 : (i : Int) < (bs.length : Int) := by omega
        have wi : IntKind.i64.wrap ((i : Int) + 1) = (i : Int) + 1 := by exact IntWalk.i64_in _ (by omega)
        clear hat hc hrow er erow
        go_wp2_with fail
        clear c0
        go_loopw [22] (fun iv wq => ∃ j : Nat, j ≤ row.length ∧ iv = .int .i64 j ∧ (∀ e ∈ row.take j, e.1 ≠ key) ∧ Below w.heap.size w wq) (fun iv _ => row.length - (intOf iv).toNat)
        case atStart => exact ⟨0, Nat.zero_le _, rfl, fun l hl => by simp at hl, HBW.out⟩
        case round =>
          obtain ⟨j, hj, rfl, hno2, hbw2⟩ := hrel
          have HNO2 := Lib.hid hno2
          have HBW2 := Lib.hid hbw2
          have hzw2 := hbw2.size
          clear hno2 hbw2
          by_cases hjt : j < row.length
          · obtain ⟨_, hat⟩ := HROW.out.at
            obtain ⟨p, o, rfl, hp, hcell⟩ := hat j hjt
            obtain ⟨k, ek⟩ : ∃ k, k = row[j].1 := ⟨_, rfl⟩
            obtain ⟨x, ex⟩ : ∃ x, x = row[j].2 := ⟨_, rfl⟩
            have c0 : wr.cell? ⟨p, o + j * 2, none⟩ = some (.string k) := by rw [ek]; exact hcell wr HBW2.out 0 (by omega)
            have c1 : wr.cell? ⟨p, o + j * 2 + 1, none⟩ = some (.int .i64 x) := by rw [ex]; exact hcell wr HBW2.out 1 (by omega)
            have HEJ : Hid (row[j] = (k, x)) := (show Hid _ from by rw [ek, ex]; exact rfl)
            have y0 : 0 ≤ (j : Int) := by omega
            have y1 : (j : Int) < (row.length : Int) := by omega
            have wj : IntKind.i64.wrap ((j : Int) + 1) = (j : Int) + 1 := by exact IntWalk.i64_in _ (by omega)
            clear hat hcell ek ex
            obtain ⟨X, eX⟩ : ∃ X, X = wr.heap.size := ⟨_, rfl⟩
            obtain ⟨wx, ewx⟩ : ∃ wx : World, wx = wr.alloc (.cells #[.string k, .int .i64 x] 41) := ⟨_, rfl⟩
            have HWwx : Hid (wr.alloc (.cells #[.string k, .int .i64 x] 41) = wx) := ewx.symm
            have HAwx : Hid (Below wr.heap.size wr wx) := (show Hid _ from by rw [ewx]; exact (Below.refl _ wr).alloc (Nat.le_refl _) _)
            have HX0wx : Hid (wx.heap[X]? = some (.cells #[.string k, .int .i64 x] 41 (0, 0))) := (show Hid _ from by show _ = _; rw [ewx, eX]; exact heap_alloc_new wr _)
            have HXX : Hid (∀ W, Below wx.heap.size wx W → W.cell? ⟨X, 0, none⟩ = some (.string k) ∧ W.cell? ⟨X, 1, none⟩ = some (.int .i64 x)) := (show Hid _ from fun W hg => by
              have hX0 := (hg.block X (heap_of_cells HX0wx.out)).trans HX0wx.out
              exact ⟨cell_of_row W X 0 _ _ _ hX0, cell_of_row W X 1 _ _ _ hX0⟩)
            go_upto_region 9 with fail
            rw [HWwx.out, ← eX]
            clear ewx eX
            obtain ⟨k0, k1⟩ := HXX.out wx (Below.refl _ _)
            have HBX : Hid (Below w.heap.size w wx) := (show Hid _ from HBW2.out.trans (HAwx.out.mono (by omega)))
            clear c0 c1
            by_cases hkk : k = key
            · subst hkk
              have HPK : Hid (pickF k bs = some x) := (show Hid _ from pickF_hit hit HER.out hjt HEJ.out HNO.out HNO2.out)
              go_wp2_with fail
              refine bodyPost_ret (v := .tuple #[.int .i64 x, .bool true, .int .i64 0]) (by simp [results, Try.results21, go_sem]) rfl ?_
              exact ⟨by rw [HPK.out]; rfl, HBX.out⟩
            · have hkl : (k.toList == key.toList) = false := by
                rw [beq_eq_false_iff_ne]
                exact fun e => hkk (tl_inj e)
              have HNX : Hid (∀ e ∈ row.take (j + 1), e.1 ≠ key) := (show Hid _ from fun e he => by
                rw [List.take_succ_eq_append_getElem hjt, List.mem_append, List.mem_singleton] at he
                rcases he with he | he
                · exact HNO2.out e he
                · rw [he, HEJ.out]; exact hkk)
              go_wp2_with fail
              go_roundw
              case rel => exact ⟨j + 1, hjt, by go_num, HNX.out, HBX.out⟩
              case measure => simp [intOf]; omega
          · have HNX : Hid (∀ l ∈ bs.take (i + 1), ∀ e ∈ l, e.1 ≠ key) := (show Hid _ from fun l hl => by
              rw [List.take_succ_eq_append_getElem hit, List.mem_append, List.mem_singleton] at hl
              rcases hl with hl | hl
              · exact HNO.out l hl
              · intro e he
                have hje : j = row.length := by omega
                have h := HNO2.out e
                rw [hje, List.take_length, HER.out] at h
                exact h (hl ▸ he))
            go_wp2_with fail
            go_roundw
            case rel => exact ⟨i + 1, hit, by go_num, HNX.out, HBW2.out⟩
            case measure => simp [intOf]; omega
      · have hie : i = bs.length := by omega
        have HPK : Hid (pickF key bs = none) := (show Hid _ from pickF_none.2 (by have h := HNO.out; rw [hie, List.take_length] at h; exact h))
        go_wp2_with fail
        refine bodyPost_ret (v := .tuple #[.int .i64 0, .bool false, .int .i64 0]) (by simp [results, Try.results21, go_sem]) rfl ?_
        exact ⟨by rw [HPK.out]; rfl, HBW.out⟩

def ChA (B : Int) (ps : List (Int × Int)) (slots : Int) (bs : List (List (ByteArray × Int))) (w : World) (e : Ending) (w' : World) : Prop :=
  ∃ r : Bool, e = .returned (.int .i64 (if r = true then 0 else 2)) ∧ (r = true ↔ VD B ps slots bs) ∧ Below w.heap.size w w'
theorem HV.nat {B : Int} {ps : List (Int × Int)} (h : HV B ps) : ∃ n : Nat, B = n := ⟨B.toNat, by have := h.b1; omega⟩
theorem kcheck_all (B : Int) (ps : List (Int × Int)) (slots : Int) (bs : List (List (ByteArray × Int))) (pv ev : Value) (w : World) (hp : SG pcs 2 w.heap.size w pv ps) (he : SLe w.heap.size w ev bs) (hk : ∀ l ∈ bs, ∀ e ∈ l, e.1.size ≤ 9223372036854775807) :
    Calls Try.prog 16 #[.agg #[.int .i64 B, pv, .int .i64 slots, ev]] w (ChA B ps slots bs w) := by
  by_cases hv : HV B ps
  · obtain ⟨n, rfl⟩ := hv.nat
    exact (kcheck_raw n ps slots bs pv ev w hv hp he hk).mono fun e w' ⟨r, h1, h2, h3⟩ => ⟨r, h1, by rw [h2]; exact ⟨fun h => ⟨hv, by rw [Int.toNat_natCast]; exact h⟩, fun h => by have := h.2; rwa [Int.toNat_natCast] at this⟩, h3⟩
  · exact (kcheck_bad B ps slots bs pv ev w hv hp he).mono fun e w' ⟨h1, h2⟩ => ⟨false, h1, ⟨fun h => by (cases h), fun h => absurd h.1 hv⟩, h2⟩
theorem rcheck_all (B : Int) (ps : List (Int × Int)) (slots : Int) (bs : List (List (ByteArray × Int))) (pv ev : Value) (w : World) (hp : SG pcs 2 w.heap.size w pv ps) (he : SLe w.heap.size w ev bs) (hk : ∀ l ∈ bs, ∀ e ∈ l, e.1.size ≤ 9223372036854775807) :
    Calls Try.prog 17 #[.agg #[.int .i64 B, pv, .int .i64 slots, ev]] w (ChA B ps slots bs w) := by
  by_cases hv : HV B ps
  · obtain ⟨n, rfl⟩ := hv.nat
    exact (rcheck_dir n ps slots bs pv ev w hv hp he hk).mono fun e w' ⟨r, h1, h2, h3⟩ => ⟨r, h1, by rw [h2]; exact ⟨fun h => ⟨hv, by rw [Int.toNat_natCast]; exact h⟩, fun h => by have := h.2; rwa [Int.toNat_natCast] at this⟩, h3⟩
  · exact (rcheck_bad B ps slots bs pv ev w hv hp he).mono fun e w' ⟨h1, h2⟩ => ⟨false, h1, ⟨fun h => by (cases h), fun h => absurd h.1 hv⟩, h2⟩
theorem DirOK.flat {B : Nat} {ps : List (Int × Int)} {slots : Int} {bs : List (List (ByteArray × Int))} (h : DirOK B ps slots bs) : ∀ k, k ≤ bs.length → posE bs k ≤ 8 * k := by
  intro k
  induction k with
  | zero => intro _; simp [posE]
  | succ k ih =>
    intro hk
    have h1 := ih (by omega)
    have h2 := (h.row k (by omega)).1
    have h3 := h.s2
    rw [posE_succ (by omega)]
    omega
/-- in a valid directory the homes of a key are enough to find it -/
theorem pick_home {B : Nat} {ps : List (Int × Int)} {slots : Int} {bs : List (List (ByteArray × Int))} {key : ByteArray} (hB : 1 ≤ (B : Int)) (h : DirOK B ps slots bs) : pickF key ((hms B ps (dg key)).map fun x => bs.getD x.toNat []) = pickF key bs := by
  apply Option.ext
  intro n
  have hfl : ∀ l ∈ bs, ∀ e ∈ l, e ∈ bs.flatten := fun l hl e he => List.mem_flatten.2 ⟨l, hl, he⟩
  have hin : ∀ l ∈ ((hms B ps (dg key)).map fun x => bs.getD x.toNat []), l ∈ bs := by
    intro l hl
    obtain ⟨x, hx, rfl⟩ := List.mem_map.1 hl
    have hxb := hms_bd hB hx
    have hlt : x.toNat < bs.length := by rw [h.len]; omega
    rw [getD_in hlt]
    exact List.getElem_mem _
  constructor
  · intro hp
    obtain ⟨l, hl, hn⟩ := pickF_some hp
    obtain ⟨m, hm⟩ := pickF_mem (hin l hl) hn
    obtain ⟨l2, hl2, hn2⟩ := pickF_some hm
    rw [hm, keys_uniq h.nd (hfl l (hin l hl) _ hn) (hfl l2 hl2 _ hn2)]
  · intro hp
    obtain ⟨l, hl, hn⟩ := pickF_some hp
    obtain ⟨b, hb, rfl⟩ := List.getElem_of_mem hl
    have hh := h.home b hb _ hn
    rw [List.contains_iff_mem] at hh
    have hmem : bs[b] ∈ ((hms B ps (dg key)).map fun x => bs.getD x.toNat []) := List.mem_map.2 ⟨_, hh, by rw [Int.toNat_natCast, getD_in hb]⟩
    obtain ⟨m, hm⟩ := pickF_mem hmem hn
    obtain ⟨l2, hl2, hn2⟩ := pickF_some hm
    rw [hm, keys_uniq h.nd (hfl _ (List.getElem_mem hb) _ hn) (hfl l2 (hin l2 hl2) _ hn2)]
/-- what Find answers -/
def FiA (B : Int) (ps : List (Int × Int)) (slots : Int) (bs : List (List (ByteArray × Int))) (key : ByteArray) (w : World) (e : Ending) (w' : World) : Prop :=
  Below w.heap.size w w' ∧ ((¬ VD B ps slots bs ∧ e = .returned (notF 2)) ∨ (VD B ps slots bs ∧ e = .returned (if ky key = true then pickV (pickF key bs) else notF 1)))
set_option maxRecDepth 100000 in
set_option maxHeartbeats 4000000 in
theorem kfind_bad (B : Int) (ps : List (Int × Int)) (slots : Int) (bs : List (List (ByteArray × Int))) (pv ev : Value) (key : ByteArray) (w : World) (hn : ¬ VD B ps slots bs) (hp : SG pcs 2 w.heap.size w pv ps) (he : SLe w.heap.size w ev bs) (hk : ∀ l ∈ bs, ∀ e ∈ l, e.1.size ≤ 9223372036854775807) :
    Calls Try.prog 18 #[.agg #[.int .i64 B, pv, .int .i64 slots, ev], .string key] w fun e w' => e = .returned (notF 2) ∧ Below w.heap.size w w' := by
  obtain ⟨Ap, cp, rfl⟩ : ∃ A c, pv = .slice A ps.length c := by obtain ⟨A, c, e, _⟩ := hp; exact ⟨A, c, e⟩
  obtain ⟨Ae, ce, rfl⟩ : ∃ A c, ev = .slice A bs.length c := by obtain ⟨vs, h1, h2, _⟩ := he; obtain ⟨A, c, e⟩ := h2.form; exact ⟨A, c, by rw [e, h1]⟩
  have HPS := Lib.hid hp
  have HSE := Lib.hid he
  have HK := Lib.hid hk
  have HN := Lib.hid hn
  clear hp he hk hn
  go_enter Try.func18, Try.ntmps18
  obtain ⟨F, eF⟩ : ∃ F, F = w.heap.size := ⟨_, rfl⟩
  obtain ⟨w1, ew1⟩ : ∃ w1 : World, w1 = w.alloc (.cells #[.int .i64 B, .slice Ap ps.length cp, .int .i64 slots, .slice Ae bs.length ce] 28) := ⟨_, rfl⟩
  have HWw1 : Hid (w.alloc (.cells #[.int .i64 B, .slice Ap ps.length cp, .int .i64 slots, .slice Ae bs.length ce] 28) = w1) := ew1.symm
  have HAw1 : Hid (Below w.heap.size w w1) := (show Hid _ from by rw [ew1]; exact (Below.refl _ w).alloc (Nat.le_refl _) _)
  have HF0w1 : Hid (w1.heap[F]? = some (.cells #[.int .i64 B, .slice Ap ps.length cp, .int .i64 slots, .slice Ae bs.length ce] 28 (0, 0))) := (show Hid _ from by show _ = _; rw [ew1, eF]; exact heap_alloc_new w _)
  have HX : Hid (∀ W, Below w1.heap.size w1 W → W.cell? ⟨F, 0, none⟩ = some (.int .i64 B) ∧ W.cell? ⟨F, 1, none⟩ = some (.slice Ap ps.length cp) ∧ W.cell? ⟨F, 2, none⟩ = some (.int .i64 slots) ∧ W.cell? ⟨F, 3, none⟩ = some (.slice Ae bs.length ce)) := (show Hid _ from fun W hg => by
    have hF0 := (hg.block F (heap_of_cells HF0w1.out)).trans HF0w1.out
    exact ⟨cell_of_row W F 0 _ _ _ hF0, cell_of_row W F 1 _ _ _ hF0, cell_of_row W F 2 _ _ _ hF0, cell_of_row W F 3 _ _ _ hF0⟩)
  go_upto_region 1 with fail
  rw [HWw1.out, ← eF]
  clear ew1 eF
  have HPS1 := Lib.hid ((HPS.out.below HAw1.out).more HAw1.out.size)
  have HSE1 : Hid (SLe w1.heap.size w1 (.slice Ae bs.length ce) bs) := (show Hid _ from by
    obtain ⟨us, h1, h2, h3⟩ := HSE.out
    exact ⟨us, h1, (h2.below HAw1.out).more HAw1.out.size, fun j a b => ((h3 j a b).below HAw1.out).more HAw1.out.size⟩)
  obtain ⟨x0, x1, x2, x3⟩ := HX.out w1 (Below.refl _ _)
  go_wp2_with fail
  (with_reducible refine (kcheck_all B ps slots bs _ _ w1 HPS1.out HSE1.out HK.out).mono ?_)
  rintro e w2 ⟨r, rfl, hok, hb2⟩
  obtain rfl : r = false := by
    cases r
    · rfl
    · exact absurd (hok.1 rfl) HN.out
  have HBW : Hid (Below w.heap.size w w2) := (show Hid _ from HAw1.out.trans (hb2.mono HAw1.out.size))
  clear hok hb2 x0 x1 x2 x3
  go_wp2_with fail
  all_goals refine bodyPost_ret (v := notF 2) (by simp [notF, results, Try.results18, go_sem]) rfl ?_
  all_goals exact ⟨rfl, HBW.out⟩
theorem kfind_all (B : Int) (ps : List (Int × Int)) (slots : Int) (bs : List (List (ByteArray × Int))) (pv ev : Value) (key : ByteArray) (w : World) (hp : SG pcs 2 w.heap.size w pv ps) (he : SLe w.heap.size w ev bs) (hk : ∀ l ∈ bs, ∀ e ∈ l, e.1.size ≤ 9223372036854775807) (hks : key.size ≤ 9223372036854775807) :
    Calls Try.prog 18 #[.agg #[.int .i64 B, pv, .int .i64 slots, ev], .string key] w (FiA B ps slots bs key w) := by
  by_cases hv : VD B ps slots bs
  · obtain ⟨n, rfl⟩ := hv.1.nat
    have hd : DirOK n ps slots bs := by have := hv.2; rwa [Int.toNat_natCast] at this
    have hfl := hd.flat bs.length (Nat.le_refl _)
    rw [posE_all] at hfl
    have h64 := hv.1.b2
    have hlen := hd.len
    refine (find_any n ps slots bs pv ev key w hv.1 hp he hk (by omega) hks).mono fun e w' ⟨h1, h2⟩ => ⟨h1, .inr ⟨hv, ?_⟩⟩
    rcases h2 with ⟨h, _⟩ | ⟨_, h⟩
    · exact absurd hd h
    · rw [h]
      unfold findV
      rw [pick_home hv.1.b1 hd]
  · exact (kfind_bad B ps slots bs pv ev key w hv hp he hk).mono fun e w' ⟨h1, h2⟩ => ⟨h2, .inl ⟨hv, h1⟩⟩
set_option maxRecDepth 100000 in
set_option maxHeartbeats 4000000 in
theorem rfind_all (B : Int) (ps : List (Int × Int)) (slots : Int) (bs : List (List (ByteArray × Int))) (pv ev : Value) (key : ByteArray) (w : World) (hp : SG pcs 2 w.heap.size w pv ps) (he : SLe w.heap.size w ev bs) (hk : ∀ l ∈ bs, ∀ e ∈ l, e.1.size ≤ 9223372036854775807) (hks : key.size ≤ 9223372036854775807) :
    Calls Try.prog 19 #[.agg #[.int .i64 B, pv, .int .i64 slots, ev], .string key] w (FiA B ps slots bs key w) := by
  obtain ⟨Ap, cp, rfl⟩ : ∃ A c, pv = .slice A ps.length c := by obtain ⟨A, c, e, _⟩ := hp; exact ⟨A, c, e⟩
  obtain ⟨Ae, ce, rfl⟩ : ∃ A c, ev = .slice A bs.length c := by obtain ⟨vs, h1, h2, _⟩ := he; obtain ⟨A, c, e⟩ := h2.form; exact ⟨A, c, by rw [e, h1]⟩
  have HPS := Lib.hid hp
  have HSE := Lib.hid he
  have HK := Lib.hid hk
  clear hp he hk
  go_enter Try.func19, Try.ntmps19
  obtain ⟨F, eF⟩ : ∃ F, F = w.heap.size := ⟨_, rfl⟩
  obtain ⟨w1, ew1⟩ : ∃ w1 : World, w1 = w.alloc (.cells #[.int .i64 B, .slice Ap ps.length cp, .int .i64 slots, .slice Ae bs.length ce] 28) := ⟨_, rfl⟩
  have HWw1 : Hid (w.alloc (.cells #[.int .i64 B, .slice Ap ps.length cp, .int .i64 slots, .slice Ae bs.length ce] 28) = w1) := ew1.symm
  have HAw1 : Hid (Below w.heap.size w w1) := (show Hid _ from by rw [ew1]; exact (Below.refl _ w).alloc (Nat.le_refl _) _)
  have HF0w1 : Hid (w1.heap[F]? = some (.cells #[.int .i64 B, .slice Ap ps.length cp, .int .i64 slots, .slice Ae bs.length ce] 28 (0, 0))) := (show Hid _ from by show _ = _; rw [ew1, eF]; exact heap_alloc_new w _)
  have HX : Hid (∀ W, Below w1.heap.size w1 W → W.cell? ⟨F, 0, none⟩ = some (.int .i64 B) ∧ W.cell? ⟨F, 1, none⟩ = some (.slice Ap ps.length cp) ∧ W.cell? ⟨F, 2, none⟩ = some (.int .i64 slots) ∧ W.cell? ⟨F, 3, none⟩ = some (.slice Ae bs.length ce)) := (show Hid _ from fun W hg => by
    have hF0 := (hg.block F (heap_of_cells HF0w1.out)).trans HF0w1.out
    exact ⟨cell_of_row W F 0 _ _ _ hF0, cell_of_row W F 1 _ _ _ hF0, cell_of_row W F 2 _ _ _ hF0, cell_of_row W F 3 _ _ _ hF0⟩)
  go_upto_region 1 with fail
  rw [HWw1.out, ← eF]
  clear ew1 eF
  have HPS1 := Lib.hid ((HPS.out.below HAw1.out).more HAw1.out.size)
  have HSEW : Hid (∀ W, Below w.heap.size w W → SLe W.heap.size W (.slice Ae bs.length ce) bs) := (show Hid _ from fun W hW => by
    obtain ⟨us, h1, h2, h3⟩ := HSE.out
    exact ⟨us, h1, h2.on hW, fun j a b => (h3 j a b).on hW⟩)
  obtain ⟨x0, x1, x2, x3⟩ := HX.out w1 (Below.refl _ _)
  go_wp2_with fail
  (with_reducible refine (rcheck_all B ps slots bs _ _ w1 HPS1.out (HSEW.out w1 HAw1.out) HK.out).mono ?_)
  rintro e w2 ⟨r, rfl, hok, hb2⟩
  have HOK := Lib.hid hok
  have HX2 := Lib.hid hb2
  have HBW : Hid (Below w.heap.size w w2) := (show Hid _ from HAw1.out.trans (hb2.mono HAw1.out.size))
  clear hok hb2 x0 x1 x2 x3
  obtain ⟨x0, x1, x2, x3⟩ := HX.out w2 HX2.out
  cases r
  · have HNO : Hid (¬ VD B ps slots bs) := (show Hid _ from fun h => by have h1 := HOK.out.2 h; cases h1)
    go_wp2_with fail
    all_goals refine bodyPost_ret (v := notF 2) (by simp [notF, results, Try.results19, go_sem]) rfl ?_
    all_goals exact ⟨HBW.out, .inl ⟨HNO.out, rfl⟩⟩
  · have HVD : Hid (VD B ps slots bs) := (show Hid _ from HOK.out.1 rfl)
    go_wp2_with fail
    (with_reducible refine (rpick_any key bs _ w2 hks (HSEW.out w2 HBW.out)).mono ?_)
    rintro e w3 ⟨rfl, hb3⟩
    have HB3 : Hid (Below w.heap.size w w3) := (show Hid _ from HBW.out.trans (hb3.mono HBW.out.size))
    obtain ⟨a, b, c, eV⟩ : ∃ a b c, (if ky key = true then pickV (pickF key bs) else .tuple #[.int .i64 0, .bool false, .int .i64 1]) = .tuple #[.int .i64 a, .bool b, .int .i64 c] := by
      split
      · cases pickF key bs with
        | none => exact ⟨_, _, _, rfl⟩
        | some n => exact ⟨_, _, _, rfl⟩
      · exact ⟨_, _, _, rfl⟩
    rw [eV]
    have HEV := Lib.hid eV
    clear hb3 eV
    go_wp2_with fail
    all_goals refine bodyPost_ret (v := .tuple #[.int .i64 a, .bool b, .int .i64 c]) (by simp [results, Try.results19, go_sem]) rfl ?_
    all_goals exact ⟨HB3.out, .inr ⟨HVD.out, by rw [← HEV.out]; rfl⟩⟩
/-- what Homes answers -/
def HoA (B : Int) (ps : List (Int × Int)) (key : ByteArray) (w : World) (e : Ending) (w' : World) : Prop :=
  ∃ (v : Value) (l : List Int) (c : Int), e = .returned (.tuple #[v, .int .i64 c]) ∧ SBD (fun k => k < w'.heap.size) w' v l ∧ Below w.heap.size w w' ∧ c = (if hvB B ps = true then if ky key = true then 0 else 1 else 2) ∧ l = (if hvB B ps = true ∧ ky key = true then hms B ps (dg key) else [])
theorem SBD.none (D : Nat → Prop) (w : World) : SBD D w (.slice none 0 0) [] := ⟨Option.none, 0, rfl, Nat.le_refl _, by omega, fun h => by simp at h⟩
set_option maxHeartbeats 4000000 in
theorem khomes_bad (B : Int) (ps : List (Int × Int)) (s : ByteArray) (v : Value) (w : World) (hv : ¬ HV B ps) (h : SG pcs 2 w.heap.size w v ps) :
    Calls Try.prog 22 #[.agg #[.int .i64 B, v], .string s] w fun e w' => e = .returned (.tuple #[.slice none 0 0, .int .i64 2]) ∧ Below w.heap.size w w' := by
  obtain ⟨A, c, rfl⟩ : ∃ A c, v = .slice A ps.length c := by obtain ⟨A, c, e, _⟩ := h; exact ⟨A, c, e⟩
  have HS := Lib.hid h
  have HN := Lib.hid hv
  clear h hv
  go_enter Try.func22, Try.ntmps22
  obtain ⟨F, eF⟩ : ∃ F, F = w.heap.size := ⟨_, rfl⟩
  obtain ⟨w1, ew1⟩ : ∃ w1 : World, w1 = w.alloc (.cells #[.int .i64 B, .slice A ps.length c] 25) := ⟨_, rfl⟩
  have HWw1 : Hid (w.alloc (.cells #[.int .i64 B, .slice A ps.length c] 25) = w1) := ew1.symm
  have HAw1 : Hid (Below w.heap.size w w1) := (show Hid _ from by rw [ew1]; exact (Below.refl _ w).alloc (Nat.le_refl _) _)
  have HF0w1 : Hid (w1.heap[F]? = some (.cells #[.int .i64 B, .slice A ps.length c] 25 (0, 0))) := (show Hid _ from by show _ = _; rw [ew1, eF]; exact heap_alloc_new w _)
  have HX : Hid (∀ W, Below w1.heap.size w1 W → W.cell? ⟨F, 0, none⟩ = some (.int .i64 B) ∧ W.cell? ⟨F, 1, none⟩ = some (.slice A ps.length c)) := (show Hid _ from fun W hg => by
    have hF0 := (hg.block F (heap_of_cells HF0w1.out)).trans HF0w1.out
    exact ⟨cell_of_row W F 0 _ _ _ hF0, cell_of_row W F 1 _ _ _ hF0⟩)
  go_upto_region 1 with fail
  rw [HWw1.out, ← eF]
  clear ew1 eF
  have HPS1 := Lib.hid ((HS.out.below HAw1.out).more HAw1.out.size)
  obtain ⟨x0, x1⟩ := HX.out w1 (Below.refl _ _)
  go_wp2_with fail
  (with_reducible refine (hcheck_raw B ps _ w1 HPS1.out).mono ?_)
  rintro e w2 ⟨rfl, hb2⟩
  rw [hcV_no HN.out]
  have HBW : Hid (Below w.heap.size w w2) := (show Hid _ from HAw1.out.trans (hb2.mono HAw1.out.size))
  clear hb2 x0 x1
  go_wp2_with fail
  all_goals refine bodyPost_ret (v := .tuple #[.slice none 0 0, .int .i64 2]) (by simp [results, Try.results22, go_sem]) rfl ?_
  all_goals exact ⟨rfl, HBW.out⟩
theorem khomes_all (B : Int) (ps : List (Int × Int)) (s : ByteArray) (v : Value) (w : World) (hs : s.size ≤ 9223372036854775807) (h : SG pcs 2 w.heap.size w v ps) :
    Calls Try.prog 22 #[.agg #[.int .i64 B, v], .string s] w (HoA B ps s w) := by
  by_cases hv : HV B ps
  · have hvb := hvB_iff.2 hv
    refine (kHomes_ok B ps s v w hv hs h).mono fun e w' ⟨h1, h2⟩ => ?_
    cases hk : ky s
    · obtain ⟨he, hb⟩ := h2 hk
      exact ⟨_, [], 1, he, SBD.none _ _, hb, by simp [hvb, hk], by simp [hvb, hk]⟩
    · obtain ⟨v', he, ho, hb⟩ := h1 hk
      exact ⟨v', _, 0, he, sbd_own2 ho, hb, by simp [hvb, hk], by simp [hvb, hk]⟩
  · have hvb := hvB_no hv
    exact (khomes_bad B ps s v w hv h).mono fun e w' ⟨h1, h2⟩ => ⟨_, [], 2, h1, SBD.none _ _, h2, by simp [hvb], by simp [hvb]⟩
set_option maxHeartbeats 4000000 in
theorem rhomes_bad (B : Int) (ps : List (Int × Int)) (s : ByteArray) (v : Value) (w : World) (hv : ¬ HV B ps) (h : SG pcs 2 w.heap.size w v ps) :
    Calls Try.prog 23 #[.agg #[.int .i64 B, v], .string s] w fun e w' => e = .returned (.tuple #[.slice none 0 0, .int .i64 2]) ∧ Below w.heap.size w w' := by
  obtain ⟨A, c, rfl⟩ : ∃ A c, v = .slice A ps.length c := by obtain ⟨A, c, e, _⟩ := h; exact ⟨A, c, e⟩
  have HS := Lib.hid h
  have HN := Lib.hid hv
  clear h hv
  go_enter Try.func23, Try.ntmps23
  obtain ⟨F, eF⟩ : ∃ F, F = w.heap.size := ⟨_, rfl⟩
  obtain ⟨w1, ew1⟩ : ∃ w1 : World, w1 = w.alloc (.cells #[.int .i64 B, .slice A ps.length c] 25) := ⟨_, rfl⟩
  have HWw1 : Hid (w.alloc (.cells #[.int .i64 B, .slice A ps.length c] 25) = w1) := ew1.symm
  have HAw1 : Hid (Below w.heap.size w w1) := (show Hid _ from by rw [ew1]; exact (Below.refl _ w).alloc (Nat.le_refl _) _)
  have HF0w1 : Hid (w1.heap[F]? = some (.cells #[.int .i64 B, .slice A ps.length c] 25 (0, 0))) := (show Hid _ from by show _ = _; rw [ew1, eF]; exact heap_alloc_new w _)
  have HX : Hid (∀ W, Below w1.heap.size w1 W → W.cell? ⟨F, 0, none⟩ = some (.int .i64 B) ∧ W.cell? ⟨F, 1, none⟩ = some (.slice A ps.length c)) := (show Hid _ from fun W hg => by
    have hF0 := (hg.block F (heap_of_cells HF0w1.out)).trans HF0w1.out
    exact ⟨cell_of_row W F 0 _ _ _ hF0, cell_of_row W F 1 _ _ _ hF0⟩)
  go_upto_region 1 with fail
  rw [HWw1.out, ← eF]
  clear ew1 eF
  have HPS1 := Lib.hid ((HS.out.below HAw1.out).more HAw1.out.size)
  obtain ⟨x0, x1⟩ := HX.out w1 (Below.refl _ _)
  go_wp2_with fail
  (with_reducible refine (rcheck_raw B ps _ w1 HPS1.out).mono ?_)
  rintro e w2 ⟨rfl, hb2⟩
  rw [hcV_no HN.out]
  have HBW : Hid (Below w.heap.size w w2) := (show Hid _ from HAw1.out.trans (hb2.mono HAw1.out.size))
  clear hb2 x0 x1
  go_wp2_with fail
  all_goals refine bodyPost_ret (v := .tuple #[.slice none 0 0, .int .i64 2]) (by simp [results, Try.results23, go_sem]) rfl ?_
  all_goals exact ⟨rfl, HBW.out⟩
theorem rhomes_all (B : Int) (ps : List (Int × Int)) (s : ByteArray) (v : Value) (w : World) (hs : s.size ≤ 9223372036854775807) (h : SG pcs 2 w.heap.size w v ps) :
    Calls Try.prog 23 #[.agg #[.int .i64 B, v], .string s] w (HoA B ps s w) := by
  by_cases hv : HV B ps
  · have hvb := hvB_iff.2 hv
    refine (r20Homes_ok B ps s v w hv hs h).mono fun e w' ⟨h1, h2⟩ => ?_
    cases hk : ky s
    · obtain ⟨he, hb⟩ := h2 hk
      exact ⟨_, [], 1, he, SBD.none _ _, hb, by simp [hvb, hk], by simp [hvb, hk]⟩
    · obtain ⟨v', he, ho, hb⟩ := h1 hk
      exact ⟨v', _, 0, he, sbd_own2 ho, hb, by simp [hvb, hk], by simp [hvb, hk]⟩
  · have hvb := hvB_no hv
    exact (rhomes_bad B ps s v w hv h).mono fun e w' ⟨h1, h2⟩ => ⟨_, [], 2, h1, SBD.none _ _, h2, by simp [hvb], by simp [hvb]⟩
end Go.Proofs.Ytllnomembakboaa

namespace Go.Proofs.Ytllnomembakboaa
open Go.RowKit

set_option maxRecDepth 100000 in
set_option maxHeartbeats 4000000 in
theorem kbuild_bad (B : Int) (ps : List (Int × Int)) (slots : Int) (es : List (ByteArray × Int)) (pv lv : Value) (w : World) (hbad : ¬ (HV B ps ∧ 1 ≤ slots ∧ slots ≤ 8)) (hp : SG pcs 2 w.heap.size w pv ps) (hl : SV ecs 2 w.heap.size w lv es) :
    Calls Try.prog 26 #[.agg #[.int .i64 B, pv], .int .i64 slots, lv] w fun e w' => Below w.heap.size w w' ∧ e = .returned (.tuple #[noDir, .int .i64 (if hvB B ps = true then 1 else 2)]) := by
  obtain ⟨Ap, cp, ep⟩ : ∃ A c, pv = .slice A ps.length c := by obtain ⟨A, c, e, _⟩ := hp; exact ⟨A, c, e⟩
  subst ep
  obtain ⟨Al, cl, rfl⟩ := hl.form
  have HPS := Lib.hid hp
  have HBAD := Lib.hid hbad
  obtain ⟨cd, ecd⟩ : ∃ cd : Int, cd = (if hvB B ps = true then 1 else 2) := ⟨_, rfl⟩
  rw [← ecd]
  have HCD := Lib.hid ecd
  clear hp hl hbad ecd
  go_enter Try.func26, Try.ntmps26
  obtain ⟨F, eF⟩ : ∃ F, F = w.heap.size := ⟨_, rfl⟩
  obtain ⟨w1, ew1⟩ : ∃ w1 : World, w1 = (w.alloc (.cells #[.int .i64 B, .slice Ap ps.length cp] 25)).alloc (.cells #[.int .i64 0, .slice none 0 0, .int .i64 0, .slice none 0 0] 28) := ⟨_, rfl⟩
  have HWw1 : Hid ((w.alloc (.cells #[.int .i64 B, .slice Ap ps.length cp] 25)).alloc (.cells #[.int .i64 0, .slice none 0 0, .int .i64 0, .slice none 0 0] 28) = w1) := ew1.symm
  have HAw1 : Hid (Below w.heap.size w w1) := (show Hid _ from by rw [ew1]; exact ((Below.refl _ w).alloc (Nat.le_refl _) _).alloc (by simp) _)
  have HF0w1 : Hid (w1.heap[F]? = some (.cells #[.int .i64 B, .slice Ap ps.length cp] 25 (0, 0))) := (show Hid _ from by show _ = _; rw [ew1, eF, Below.heap_alloc _ _ _ (by simp)]; exact heap_alloc_new w _)
  have HF1w1 : Hid (w1.heap[F + 1]? = some (.cells #[.int .i64 0, .slice none 0 0, .int .i64 0, .slice none 0 0] 28 (0, 0))) := (show Hid _ from by show _ = _; rw [ew1, eF]; have := heap_alloc_new (w.alloc (.cells #[.int .i64 B, .slice Ap ps.length cp] 25)) (.cells #[.int .i64 0, .slice none 0 0, .int .i64 0, .slice none 0 0] 28); simpa using this)
  have HX : Hid (∀ W, Below w1.heap.size w1 W → W.cell? ⟨F, 0, none⟩ = some (.int .i64 B) ∧ W.cell? ⟨F, 1, none⟩ = some (.slice Ap ps.length cp) ∧ W.cell? ⟨F + 1, 0, none⟩ = some (.int .i64 0) ∧ W.cell? ⟨F + 1, 1, none⟩ = some (.slice none 0 0) ∧ W.cell? ⟨F + 1, 2, none⟩ = some (.int .i64 0) ∧ W.cell? ⟨F + 1, 3, none⟩ = some (.slice none 0 0)) := (show Hid _ from fun W hg => by
    have hF0 := (hg.block F (heap_of_cells HF0w1.out)).trans HF0w1.out
    have hF1 := (hg.block (F + 1) (heap_of_cells HF1w1.out)).trans HF1w1.out
    exact ⟨cell_of_row W F 0 _ _ _ hF0, cell_of_row W F 1 _ _ _ hF0, cell_of_row W (F + 1) 0 _ _ _ hF1, cell_of_row W (F + 1) 1 _ _ _ hF1, cell_of_row W (F + 1) 2 _ _ _ hF1, cell_of_row W (F + 1) 3 _ _ _ hF1⟩)
  have hF1 : F + 1 < w1.heap.size := heap_of_cells HF1w1.out
  have hFw : w.heap.size ≤ F := by omega
  go_upto_region 1 with fail
  rw [HWw1.out, ← eF]
  clear ew1 eF
  have HPS1 := Lib.hid ((HPS.out.below HAw1.out).more HAw1.out.size)
  obtain ⟨x0, x1, _⟩ := HX.out w1 (Below.refl _ _)
  go_wp2_with fail
  (with_reducible refine (hcheck_raw B ps _ w1 HPS1.out).mono ?_)
  rintro e w2 ⟨rfl, hb2⟩
  have HX2 := Lib.hid hb2
  clear hb2 x0 x1
  by_cases hv : HV B ps
  · rw [hcV_ok hv]
    have hs : ¬ (1 ≤ slots ∧ slots ≤ 8) := fun h => HBAD.out ⟨hv, h⟩
    have HVB : Hid (hvB B ps = true) := Lib.hid (hvB_iff.2 hv)
    clear hv
    go_wp2_with fail
    (with_reducible refine (slotted_any slots w2).mono ?_)
    rintro e w2' ⟨rfl, hw2⟩
    subst hw2
    have hsl : (decide (1 ≤ slots) && decide (slots ≤ 8)) = false := by
      rw [Bool.eq_false_iff]
      intro h
      simp at h
      exact hs h
    rw [hsl]
    clear hsl hs
    obtain ⟨x0, x1, d0, d1, d2, d3⟩ := HX.out w2 HX2.out
    have hD5 : (w2).heap[F + 1]? = some (.cells #[.int .i64 0, .slice none 0 0, .int .i64 0, .slice none 0 0] 28 (0, 0)) := (HX2.out.block (F + 1) hF1).trans HF1w1.out
    have f0 : (w2).frozen? ⟨F + 1, 0, none⟩ = false := frozen_of_row w2 (F + 1) 0 _ _ hD5
    have f1 : (w2).frozen? ⟨F + 1, 1, none⟩ = false := frozen_of_row w2 (F + 1) 1 _ _ hD5
    have f2 : (w2).frozen? ⟨F + 1, 2, none⟩ = false := frozen_of_row w2 (F + 1) 2 _ _ hD5
    have f3 : (w2).frozen? ⟨F + 1, 3, none⟩ = false := frozen_of_row w2 (F + 1) 3 _ _ hD5
    clear hD5
    go_wp2_with fail
    all_goals
      refine bodyPost_ret (v := .tuple #[.agg #[.int .i64 0, .slice none 0 0, .int .i64 0, .slice none 0 0], .int .i64 1]) (by simp [results, Try.results26, go_sem, d0, d1, d2, d3]) rfl ⟨?bz, ?h1⟩
      case bz =>
        have h := HAw1.out.trans (HX2.out.mono HAw1.out.size)
        exact (((h.setCell (by show w.heap.size ≤ F + 1; omega) _).setCell (by show w.heap.size ≤ F + 1; omega) _).setCell (by show w.heap.size ≤ F + 1; omega) _).setCell (by show w.heap.size ≤ F + 1; omega) _
      case h1 =>
          have h9 := HCD.out
          rw [HVB.out] at h9
          rw [h9]
          rfl
  · rw [hcV_no hv]
    have HVB : Hid (hvB B ps = false) := Lib.hid (hvB_no hv)
    obtain ⟨x0, x1, d0, d1, d2, d3⟩ := HX.out w2 HX2.out
    have hD5 : (w2).heap[F + 1]? = some (.cells #[.int .i64 0, .slice none 0 0, .int .i64 0, .slice none 0 0] 28 (0, 0)) := (HX2.out.block (F + 1) hF1).trans HF1w1.out
    have f0 : (w2).frozen? ⟨F + 1, 0, none⟩ = false := frozen_of_row w2 (F + 1) 0 _ _ hD5
    have f1 : (w2).frozen? ⟨F + 1, 1, none⟩ = false := frozen_of_row w2 (F + 1) 1 _ _ hD5
    have f2 : (w2).frozen? ⟨F + 1, 2, none⟩ = false := frozen_of_row w2 (F + 1) 2 _ _ hD5
    have f3 : (w2).frozen? ⟨F + 1, 3, none⟩ = false := frozen_of_row w2 (F + 1) 3 _ _ hD5
    clear hD5
    go_wp2_with fail
    all_goals
      refine bodyPost_ret (v := .tuple #[.agg #[.int .i64 0, .slice none 0 0, .int .i64 0, .slice none 0 0], .int .i64 2]) (by simp [results, Try.results26, go_sem, d0, d1, d2, d3]) rfl ⟨?bz, ?h1⟩
      case bz =>
        have h := HAw1.out.trans (HX2.out.mono HAw1.out.size)
        exact (((h.setCell (by show w.heap.size ≤ F + 1; omega) _).setCell (by show w.heap.size ≤ F + 1; omega) _).setCell (by show w.heap.size ≤ F + 1; omega) _).setCell (by show w.heap.size ≤ F + 1; omega) _
      case h1 =>
          have h9 := HCD.out
          rw [HVB.out] at h9
          rw [h9]
          rfl
set_option maxRecDepth 100000 in
set_option maxHeartbeats 4000000 in
theorem rbuild_bad (B : Int) (ps : List (Int × Int)) (slots : Int) (es : List (ByteArray × Int)) (pv lv : Value) (w : World) (hbad : ¬ (HV B ps ∧ 1 ≤ slots ∧ slots ≤ 8)) (hp : SG pcs 2 w.heap.size w pv ps) (hl : SV ecs 2 w.heap.size w lv es) :
    Calls Try.prog 27 #[.agg #[.int .i64 B, pv], .int .i64 slots, lv] w fun e w' => Below w.heap.size w w' ∧ e = .returned (.tuple #[noDir, .int .i64 (if hvB B ps = true then 1 else 2)]) := by
  obtain ⟨Ap, cp, ep⟩ : ∃ A c, pv = .slice A ps.length c := by obtain ⟨A, c, e, _⟩ := hp; exact ⟨A, c, e⟩
  subst ep
  obtain ⟨Al, cl, rfl⟩ := hl.form
  have HPS := Lib.hid hp
  have HBAD := Lib.hid hbad
  obtain ⟨cd, ecd⟩ : ∃ cd : Int, cd = (if hvB B ps = true then 1 else 2) := ⟨_, rfl⟩
  rw [← ecd]
  have HCD := Lib.hid ecd
  clear hp hl hbad ecd
  go_enter Try.func27, Try.ntmps27
  obtain ⟨F, eF⟩ : ∃ F, F = w.heap.size := ⟨_, rfl⟩
  obtain ⟨w1, ew1⟩ : ∃ w1 : World, w1 = (w.alloc (.cells #[.int .i64 B, .slice Ap ps.length cp] 25)).alloc (.cells #[.int .i64 0, .slice none 0 0, .int .i64 0, .slice none 0 0] 28) := ⟨_, rfl⟩
  have HWw1 : Hid ((w.alloc (.cells #[.int .i64 B, .slice Ap ps.length cp] 25)).alloc (.cells #[.int .i64 0, .slice none 0 0, .int .i64 0, .slice none 0 0] 28) = w1) := ew1.symm
  have HAw1 : Hid (Below w.heap.size w w1) := (show Hid _ from by rw [ew1]; exact ((Below.refl _ w).alloc (Nat.le_refl _) _).alloc (by simp) _)
  have HF0w1 : Hid (w1.heap[F]? = some (.cells #[.int .i64 B, .slice Ap ps.length cp] 25 (0, 0))) := (show Hid _ from by show _ = _; rw [ew1, eF, Below.heap_alloc _ _ _ (by simp)]; exact heap_alloc_new w _)
  have HF1w1 : Hid (w1.heap[F + 1]? = some (.cells #[.int .i64 0, .slice none 0 0, .int .i64 0, .slice none 0 0] 28 (0, 0))) := (show Hid _ from by show _ = _; rw [ew1, eF]; have := heap_alloc_new (w.alloc (.cells #[.int .i64 B, .slice Ap ps.length cp] 25)) (.cells #[.int .i64 0, .slice none 0 0, .int .i64 0, .slice none 0 0] 28); simpa using this)
  have HX : Hid (∀ W, Below w1.heap.size w1 W → W.cell? ⟨F, 0, none⟩ = some (.int .i64 B) ∧ W.cell? ⟨F, 1, none⟩ = some (.slice Ap ps.length cp) ∧ W.cell? ⟨F + 1, 0, none⟩ = some (.int .i64 0) ∧ W.cell? ⟨F + 1, 1, none⟩ = some (.slice none 0 0) ∧ W.cell? ⟨F + 1, 2, none⟩ = some (.int .i64 0) ∧ W.cell? ⟨F + 1, 3, none⟩ = some (.slice none 0 0)) := (show Hid _ from fun W hg => by
    have hF0 := (hg.block F (heap_of_cells HF0w1.out)).trans HF0w1.out
    have hF1 := (hg.block (F + 1) (heap_of_cells HF1w1.out)).trans HF1w1.out
    exact ⟨cell_of_row W F 0 _ _ _ hF0, cell_of_row W F 1 _ _ _ hF0, cell_of_row W (F + 1) 0 _ _ _ hF1, cell_of_row W (F + 1) 1 _ _ _ hF1, cell_of_row W (F + 1) 2 _ _ _ hF1, cell_of_row W (F + 1) 3 _ _ _ hF1⟩)
  have hF1 : F + 1 < w1.heap.size := heap_of_cells HF1w1.out
  have hFw : w.heap.size ≤ F := by omega
  go_upto_region 1 with fail
  rw [HWw1.out, ← eF]
  clear ew1 eF
  have HPS1 := Lib.hid ((HPS.out.below HAw1.out).more HAw1.out.size)
  obtain ⟨x0, x1, _⟩ := HX.out w1 (Below.refl _ _)
  go_wp2_with fail
  (with_reducible refine (rcheck_raw B ps _ w1 HPS1.out).mono ?_)
  rintro e w2 ⟨rfl, hb2⟩
  have HX2 := Lib.hid hb2
  clear hb2 x0 x1
  by_cases hv : HV B ps
  · rw [hcV_ok hv]
    have hs : ¬ (1 ≤ slots ∧ slots ≤ 8) := fun h => HBAD.out ⟨hv, h⟩
    have HVB : Hid (hvB B ps = true) := Lib.hid (hvB_iff.2 hv)
    clear hv
    by_cases g1 : slots < 1
    · have d1' : decide (slots < 1) = true := decide_eq_true g1
      obtain ⟨x0, x1, d0, d1, d2, d3⟩ := HX.out w2 HX2.out
      have hD5 : (w2).heap[F + 1]? = some (.cells #[.int .i64 0, .slice none 0 0, .int .i64 0, .slice none 0 0] 28 (0, 0)) := (HX2.out.block (F + 1) hF1).trans HF1w1.out
      have f0 : (w2).frozen? ⟨F + 1, 0, none⟩ = false := frozen_of_row w2 (F + 1) 0 _ _ hD5
      have f1 : (w2).frozen? ⟨F + 1, 1, none⟩ = false := frozen_of_row w2 (F + 1) 1 _ _ hD5
      have f2 : (w2).frozen? ⟨F + 1, 2, none⟩ = false := frozen_of_row w2 (F + 1) 2 _ _ hD5
      have f3 : (w2).frozen? ⟨F + 1, 3, none⟩ = false := frozen_of_row w2 (F + 1) 3 _ _ hD5
      clear hD5
      go_wp2_with fail
      all_goals
        refine bodyPost_ret (v := .tuple #[.agg #[.int .i64 0, .slice none 0 0, .int .i64 0, .slice none 0 0], .int .i64 1]) (by simp [results, Try.results27, go_sem, d0, d1, d2, d3]) rfl ⟨?bz, ?h1⟩
        case bz =>
          have h := HAw1.out.trans (HX2.out.mono HAw1.out.size)
          exact (((h.setCell (by show w.heap.size ≤ F + 1; omega) _).setCell (by show w.heap.size ≤ F + 1; omega) _).setCell (by show w.heap.size ≤ F + 1; omega) _).setCell (by show w.heap.size ≤ F + 1; omega) _
        case h1 =>
          have h9 := HCD.out
          rw [HVB.out] at h9
          rw [h9]
          rfl
    · have d1' : decide (slots < 1) = false := decide_eq_false g1
      have g2 : 8 < slots := by omega
      have d2' : decide (8 < slots) = true := decide_eq_true g2
      obtain ⟨x0, x1, d0, d1, d2, d3⟩ := HX.out w2 HX2.out
      have hD5 : (w2).heap[F + 1]? = some (.cells #[.int .i64 0, .slice none 0 0, .int .i64 0, .slice none 0 0] 28 (0, 0)) := (HX2.out.block (F + 1) hF1).trans HF1w1.out
      have f0 : (w2).frozen? ⟨F + 1, 0, none⟩ = false := frozen_of_row w2 (F + 1) 0 _ _ hD5
      have f1 : (w2).frozen? ⟨F + 1, 1, none⟩ = false := frozen_of_row w2 (F + 1) 1 _ _ hD5
      have f2 : (w2).frozen? ⟨F + 1, 2, none⟩ = false := frozen_of_row w2 (F + 1) 2 _ _ hD5
      have f3 : (w2).frozen? ⟨F + 1, 3, none⟩ = false := frozen_of_row w2 (F + 1) 3 _ _ hD5
      clear hD5
      go_wp2_with fail
      all_goals
        refine bodyPost_ret (v := .tuple #[.agg #[.int .i64 0, .slice none 0 0, .int .i64 0, .slice none 0 0], .int .i64 1]) (by simp [results, Try.results27, go_sem, d0, d1, d2, d3]) rfl ⟨?bz, ?h1⟩
        case bz =>
          have h := HAw1.out.trans (HX2.out.mono HAw1.out.size)
          exact (((h.setCell (by show w.heap.size ≤ F + 1; omega) _).setCell (by show w.heap.size ≤ F + 1; omega) _).setCell (by show w.heap.size ≤ F + 1; omega) _).setCell (by show w.heap.size ≤ F + 1; omega) _
        case h1 =>
          have h9 := HCD.out
          rw [HVB.out] at h9
          rw [h9]
          rfl
  · rw [hcV_no hv]
    have HVB : Hid (hvB B ps = false) := Lib.hid (hvB_no hv)
    obtain ⟨x0, x1, d0, d1, d2, d3⟩ := HX.out w2 HX2.out
    have hD5 : (w2).heap[F + 1]? = some (.cells #[.int .i64 0, .slice none 0 0, .int .i64 0, .slice none 0 0] 28 (0, 0)) := (HX2.out.block (F + 1) hF1).trans HF1w1.out
    have f0 : (w2).frozen? ⟨F + 1, 0, none⟩ = false := frozen_of_row w2 (F + 1) 0 _ _ hD5
    have f1 : (w2).frozen? ⟨F + 1, 1, none⟩ = false := frozen_of_row w2 (F + 1) 1 _ _ hD5
    have f2 : (w2).frozen? ⟨F + 1, 2, none⟩ = false := frozen_of_row w2 (F + 1) 2 _ _ hD5
    have f3 : (w2).frozen? ⟨F + 1, 3, none⟩ = false := frozen_of_row w2 (F + 1) 3 _ _ hD5
    clear hD5
    go_wp2_with fail
    all_goals
      refine bodyPost_ret (v := .tuple #[.agg #[.int .i64 0, .slice none 0 0, .int .i64 0, .slice none 0 0], .int .i64 2]) (by simp [results, Try.results27, go_sem, d0, d1, d2, d3]) rfl ⟨?bz, ?h1⟩
      case bz =>
        have h := HAw1.out.trans (HX2.out.mono HAw1.out.size)
        exact (((h.setCell (by show w.heap.size ≤ F + 1; omega) _).setCell (by show w.heap.size ≤ F + 1; omega) _).setCell (by show w.heap.size ≤ F + 1; omega) _).setCell (by show w.heap.size ≤ F + 1; omega) _
      case h1 =>
          have h9 := HCD.out
          rw [HVB.out] at h9
          rw [h9]
          rfl
/-- what Build answers -/
def BuA (B : Int) (ps : List (Int × Int)) (slots : Int) (es : List (ByteArray × Int)) (w : World) (e : Ending) (w' : World) : Prop :=
  Below w.heap.size w w' ∧ ((HV B ps ∧ 1 ≤ slots ∧ slots ≤ 8 ∧ BuP B.toNat ps slots.toNat es w e w') ∨ (¬ (HV B ps ∧ 1 ≤ slots ∧ slots ≤ 8) ∧ e = .returned (.tuple #[noDir, .int .i64 (if hvB B ps = true then 1 else 2)])))
theorem kbuild_all (B : Int) (ps : List (Int × Int)) (slots : Int) (es : List (ByteArray × Int)) (pv lv : Value) (w : World) (he : ∀ e ∈ es, e.1.size ≤ 9223372036854775807) (hel : es.length ≤ 256) (hp : SG pcs 2 w.heap.size w pv ps) (hl : SV ecs 2 w.heap.size w lv es) :
    Calls Try.prog 26 #[.agg #[.int .i64 B, pv], .int .i64 slots, lv] w (BuA B ps slots es w) := by
  by_cases h : HV B ps ∧ 1 ≤ slots ∧ slots ≤ 8
  · obtain ⟨n, rfl⟩ : ∃ n : Nat, B = n := ⟨B.toNat, by have := h.1.b1; omega⟩
    obtain ⟨s, rfl⟩ : ∃ s : Nat, slots = s := ⟨slots.toNat, by omega⟩
    exact (kbuild_any n ps s es pv lv w h.1 (by omega) (by omega) he hel hp hl).mono fun e w' hb => ⟨hb.1, .inl ⟨h.1, h.2.1, h.2.2, by rw [Int.toNat_natCast, Int.toNat_natCast]; exact hb⟩⟩
  · exact (kbuild_bad B ps slots es pv lv w h hp hl).mono fun e w' hb => ⟨hb.1, .inr ⟨h, hb.2⟩⟩
theorem rbuild_all (B : Int) (ps : List (Int × Int)) (slots : Int) (es : List (ByteArray × Int)) (pv lv : Value) (w : World) (he : ∀ e ∈ es, e.1.size ≤ 9223372036854775807) (hel : es.length ≤ 256) (hp : SG pcs 2 w.heap.size w pv ps) (hl : SV ecs 2 w.heap.size w lv es) :
    Calls Try.prog 27 #[.agg #[.int .i64 B, pv], .int .i64 slots, lv] w (BuA B ps slots es w) := by
  by_cases h : HV B ps ∧ 1 ≤ slots ∧ slots ≤ 8
  · obtain ⟨n, rfl⟩ : ∃ n : Nat, B = n := ⟨B.toNat, by have := h.1.b1; omega⟩
    obtain ⟨s, rfl⟩ : ∃ s : Nat, slots = s := ⟨slots.toNat, by omega⟩
    exact (rbuild_any n ps s es pv lv w h.1 (by omega) (by omega) he hel hp hl).mono fun e w' hb => ⟨hb.1, .inl ⟨h.1, h.2.1, h.2.2, by rw [Int.toNat_natCast, Int.toNat_natCast]; exact hb⟩⟩
  · exact (rbuild_bad B ps slots es pv lv w h hp hl).mono fun e w' hb => ⟨hb.1, .inr ⟨h, hb.2⟩⟩
/-- a directory in memory -/
def DiV (w : World) (v : Value) (B : Int) (ps : List (Int × Int)) (sl : Int) (bs : List (List (ByteArray × Int))) : Prop :=
  ∃ A1 c1 A2 c2, v = .agg #[.int .i64 B, .slice A1 ps.length c1, .int .i64 sl, .slice A2 bs.length c2] ∧ SV hcs 2 w.heap.size w (.slice A1 ps.length c1) ps ∧ SLe w.heap.size w (.slice A2 bs.length c2) bs ∧ ps.length ≤ 1000000 ∧ bs.length ≤ 1000000 ∧ ∀ l ∈ bs, l.length ≤ 1000000
theorem DiV.none (w : World) : DiV w noDir 0 [] 0 [] := ⟨Option.none, 0, Option.none, 0, rfl, SV.nil _ _, ⟨[], rfl, SV.nil _ _, fun j h => by simp at h⟩, by simp, by simp, by simp⟩
theorem bup_div {B : Nat} {ps : List (Int × Int)} {sl : Nat} {es S : List (ByteArray × Int)} {out : List Int} {pv ev : Value} {w w' : World} (hv : HV B ps) (hes : es.length ≤ 256) (hp : S.Perm es) (h1 : w'.ownsRow w.heap.size 69 2 pv ps.length (ps.flatMap hcs)) (h2 : SLo w.heap.size w' ev (dist S out B)) :
    DiV w' (.agg #[.int .i64 B, pv, .int .i64 sl, ev]) B ps sl (dist S out B) := by
  obtain ⟨A1, c1, rfl⟩ := own_sl h1
  obtain ⟨A2, c2, rfl⟩ := h2.form
  have hl := hv.l2
  have hb := hv.b2
  refine ⟨A1, c1, A2, c2, rfl, SV.of_own h1 (fun x _ => hcs_len x), ?_, by omega, by rw [dist_len]; omega, fun l hl => ?_⟩
  · obtain ⟨vs, a1, a2, a3⟩ := h2
    exact ⟨vs, a1, a2.sv, fun j a b => (a3 j a b).sv⟩
  · obtain ⟨b, hb, rfl⟩ := List.getElem_of_mem hl
    have h3 := (dist_sub hb).length_le
    have h4 := hp.length_eq
    omega
/-- two answers of Build -/
theorem BuA.same {B : Int} {ps : List (Int × Int)} {slots : Int} {es : List (ByteArray × Int)} {w w1 w2 w3 : World} {e1 e2 : Ending} (hes : es.length ≤ 256) (h : BuA B ps slots es w e1 w1) (k : BuA B ps slots es w2 e2 w3) :
    ∃ (v1 v2 : Value) (B' : Int) (ps' : List (Int × Int)) (sl' : Int) (bs' : List (List (ByteArray × Int))) (cd : Int), e1 = .returned (.tuple #[v1, .int .i64 cd]) ∧ e2 = .returned (.tuple #[v2, .int .i64 cd]) ∧ DiV w1 v1 B' ps' sl' bs' ∧ DiV w3 v2 B' ps' sl' bs' := by
  obtain ⟨_, h⟩ := h
  obtain ⟨_, k⟩ := k
  rcases h with ⟨hv, g1, g2, _, h⟩ | ⟨hn, rfl⟩
  · have k := k.resolve_right (fun kn => kn.1 ⟨hv, g1, g2⟩)
    obtain ⟨_, _, _, _, k⟩ := k
    obtain ⟨n, rfl⟩ : ∃ n : Nat, B = n := ⟨B.toNat, by have := hv.b1; omega⟩
    rw [Int.toNat_natCast] at h k
    rcases h with ⟨hc, rfl⟩ | ⟨hc, S, hp, ha, h⟩
    · rcases k with ⟨_, rfl⟩ | ⟨kc, _⟩
      · exact ⟨_, _, _, _, _, _, _, rfl, rfl, DiV.none _, DiV.none _⟩
      · exact absurd kc hc
    · rcases k with ⟨kc, _⟩ | ⟨_, S2, hp2, ha2, k⟩
      · exact absurd hc kc
      · obtain rfl : S2 = S := Asc.uniq ha2 ha (hp2.trans hp.symm)
        rcases h with ⟨hno, rfl⟩ | ⟨out, pv, ev, hlx, rfl, ho, hs⟩
        · rcases k with ⟨_, rfl⟩ | ⟨out2, _, _, hlx2, _⟩
          · exact ⟨_, _, _, _, _, _, _, rfl, rfl, DiV.none _, DiV.none _⟩
          · exact absurd ⟨out2, hlx2.asg⟩ hno
        · rcases k with ⟨hno, _⟩ | ⟨out2, pv2, ev2, hlx2, rfl, ho2, hs2⟩
          · exact absurd ⟨out, hlx.asg⟩ hno
          · obtain rfl : out2 = out := LexF.uniq hlx2 hlx
            exact ⟨_, _, _, _, _, _, _, rfl, rfl, bup_div hv hes hp ho hs, bup_div hv hes hp ho2 hs2⟩
  · rcases k with ⟨kv, k1, k2, _⟩ | ⟨_, rfl⟩
    · exact absurd ⟨kv, k1, k2⟩ hn
    · exact ⟨_, _, _, _, _, _, _, rfl, rfl, DiV.none _, DiV.none _⟩
end Go.Proofs.Ytllnomembakboaa
