/- Joined: Ck Dy Rf3 Cm. -/
import Derived.Test.YtbgabipngdillaaGreatDoorZ11
import Derived.Test.YtbgabipngdillaaGreatDoorZ02
import Derived.Test.YtbgabipngdillaaGreatDoorZ13
import Derived.Test.YtbgabipngdillaaGreatDoorZ05
namespace Go.Proofs.YtbgabipngdillaaGreatDoor
open Go.RowKit

def knL (l : List (Bool × List Int)) : Nat := (l.filter fun a => a.1).length
def wdB (width : Int) (l : List (Bool × List Int)) : Bool := l.all fun a => !a.1 || decide ((a.2.length : Int) = width)
def elB (P : Int) (l : List (Bool × List Int)) : Bool := l.all fun a => !a.1 || els P a.2
/-- what Check returns -/
def ckE (P width servers need : Int) (l : List (Bool × List Int)) : Int :=
  if width < 0 ∨ 64 < width then 4 else if (l.length : Int) ≠ servers then 2 else if wdB width l = false then 2 else if elB P l = false then 9 else if (knL l : Int) < need then 11 else 0
theorem take_all {p : Bool × List Int → Bool} {l : List (Bool × List Int)} {k : Nat} (h : k < l.length) : (l.take (k + 1)).all p = ((l.take k).all p && p l[k]) := by
  rw [← List.take_append_getElem h, List.all_append]; simp
theorem take_kn {l : List (Bool × List Int)} {k : Nat} (h : k < l.length) : knL (l.take (k + 1)) = knL (l.take k) + if l[k].1 then 1 else 0 := by
  unfold knL
  rw [← List.take_append_getElem h, List.filter_append, List.length_append]
  cases e : l[k].1 <;> simp [e]
theorem wdB_no {width : Int} {l : List (Bool × List Int)} {k : Nat} (h : k < l.length) (h1 : l[k].1 = true) (h2 : (l[k].2.length : Int) ≠ width) : wdB width l = false := by
  cases e : wdB width l with
  | false => rfl
  | true =>
    unfold wdB at e
    rw [List.all_eq_true] at e
    have := e _ (List.getElem_mem h)
    simp [h1] at this
    exact absurd this h2
def CkR (P width : Int) (l : List (Bool × List Int)) (w1 : World) (kv bv iv : Value) (wr : World) : Prop :=
  ∃ i : Nat, i ≤ l.length ∧ iv = .int .i64 i ∧ kv = .int .i64 (knL (l.take i)) ∧ bv = .bool (elB P (l.take i)) ∧ wdB width (l.take i) = true ∧ Below w1.heap.size w1 wr
set_option maxRecDepth 100000 in
set_option maxHeartbeats 4000000 in
theorem ccheck2_any (P width servers need : Int) (l : List (Bool × List Int)) (v : Value) (w : World) (h : SAn w v l) (hz : l.length ≤ 1000000) :
    Calls Tryz.prog 53 #[.agg #[.int .i64 P], .int .i64 width, .int .i64 servers, .int .i64 need, v] w fun e w' => e = .returned (.int .i64 (ckE P width servers need l)) ∧ Below w.heap.size w w' := by
  have HS := Lib.hid h
  obtain ⟨A, c, rfl⟩ := h.form
  clear h
  obtain ⟨F, eF⟩ : ∃ F, F = w.heap.size := ⟨_, rfl⟩
  obtain ⟨w1, ew1⟩ : ∃ w1 : World, w1 = w.alloc (.cells #[.int .i64 P] 31) := ⟨_, rfl⟩
  have HW1 : Hid (w.alloc (.cells #[.int .i64 P] 31) = w1) := ew1.symm
  have HF1 : Hid (w1.heap[F]? = some (.cells #[.int .i64 P] 31 (0, 0))) := (show Hid _ from by show _ = _; rw [ew1, eF]; exact heap_alloc_new w _)
  have HB1 : Hid (Below w.heap.size w w1) := (show Hid _ from by rw [ew1]; exact (Below.refl _ w).alloc (Nat.le_refl _) _)
  have HEF := Lib.hid eF
  clear ew1
  go_enter Tryz.func53, Tryz.ntmps53
  go_upto_region 1 with fail
  rw [HW1.out, ← eF]
  clear eF
  by_cases h1 : width < 0
  · have d1 : decide (width < 0) = true := decide_eq_true h1
    have HR : Hid (ckE P width servers need l = 4) := by show _ = _; unfold ckE; rw [if_pos (.inl h1)]
    clear h1
    go_wp2_with fail
    go_ret
    exact ⟨by rw [HR.out] <;> rfl, HB1.out⟩
  · have d1 : decide (width < 0) = false := decide_eq_false h1
    by_cases h2 : 64 < width
    · have d2 : decide (64 < width) = true := decide_eq_true h2
      have HR : Hid (ckE P width servers need l = 4) := by show _ = _; unfold ckE; rw [if_pos (.inr h2)]
      clear h1 h2
      go_wp2_with fail
      go_ret
      exact ⟨by rw [HR.out] <;> rfl, HB1.out⟩
    · have d2 : decide (64 < width) = false := decide_eq_false h2
      have HWD : Hid (¬ (width < 0 ∨ 64 < width)) := (show Hid _ from fun h => h.elim h1 h2)
      by_cases h3 : (l.length : Int) = servers
      · have d3 : ((l.length : Int) != servers) = false := by rw [bne_eq_false_iff_eq]; exact h3
        have HL := Lib.hid h3
        clear h1 h2 h3
        go_wp2_with fail
        go_loopw [11, 12, 27] (fun kv bv iv wr => CkR P width l w1 kv bv iv wr) (fun _ _ iv _ => l.length - (intOf iv).toNat)
        case atStart => exact ⟨0, Nat.zero_le _, rfl, by simp [knL], by simp [elB], by simp [wdB], Below.refl _ _⟩
        case round =>
          obtain ⟨i, hi, rfl, rfl, rfl, hwd, hbel⟩ := hrel
          have HWX := Lib.hid hwd
          have HBE := Lib.hid hbel
          have HBw : Hid (Below w.heap.size w wr) := (show Hid _ from HB1.out.trans (HBE.out.mono HB1.out.size))
          clear hwd hbel
          have hkn : knL (l.take i) ≤ i := by
            unfold knL
            have h1 := List.length_filter_le (fun a : Bool × List Int => a.1) (l.take i)
            rw [List.length_take] at h1; omega
          by_cases hlt : i < l.length
          · have dl : decide (i < l.length) = true := decide_eq_true hlt
            obtain ⟨A', c', e, _, _, ha⟩ := HS.out
            injection e with e1 e2 e3
            subst e1
            obtain ⟨b, off, rfl, hb, hcell⟩ := ha (by omega)
            obtain ⟨c1, vr, c2, hsr⟩ := hcell i hlt
            have c1 := (HBw.out.cell (p := ⟨b, off + i * 2, none⟩) hb).trans c1
            have c2 := (HBw.out.cell (p := ⟨b, off + i * 2 + 1, none⟩) hb).trans c2
            have HTW := Lib.hid (take_all (p := fun a => !a.1 || decide ((a.2.length : Int) = width)) hlt)
            have HTE := Lib.hid (take_all (p := fun a => !a.1 || els P a.2) hlt)
            have HTK := Lib.hid (take_kn hlt)
            have HNO : Hid (l[i].1 = true → (l[i].2.length : Int) ≠ width → wdB width l = false) := (show Hid _ from fun x y => wdB_no hlt x y)
            obtain ⟨row, er⟩ : ∃ row, row = l[i].2 := ⟨_, rfl⟩
            obtain ⟨kb, ekb⟩ : ∃ kb, kb = l[i].1 := ⟨_, rfl⟩
            have HSR := Lib.hid (hsr.below HBw.out)
            obtain ⟨Ar, cr, rfl⟩ := hsr.form
            rw [← er] at c2 HSR HTW HTE HNO
            rw [← ekb] at c1 HTW HTE HTK HNO
            obtain ⟨kn, ekn⟩ : ∃ kn, kn = knL (l.take i) := ⟨_, rfl⟩
            rw [← ekn] at HTK hkn ⊢
            obtain ⟨eb, eeb⟩ : ∃ eb, eb = elB P (l.take i) := ⟨_, rfl⟩
            have HEB := Lib.hid eeb
            rw [← eeb]
            have wk : IntKind.i64.wrap ((kn : Int) + 1) = (kn : Int) + 1 := by exact IntWalk.i64_in _ (by omega)
            clear ha hcell e2 e3 er ekb hsr ekn eeb
            obtain ⟨wx, ewx⟩ : ∃ wx : World, wx = wr.alloc (.cells #[.bool kb, .slice Ar row.length cr] 52) := ⟨_, rfl⟩
            have HWX2 : Hid (wr.alloc (.cells #[.bool kb, .slice Ar row.length cr] 52) = wx) := ewx.symm
            have HAX : Hid (wx.heap[wr.heap.size]? = some (.cells #[.bool kb, .slice Ar row.length cr] 52 (0, 0))) := (show Hid _ from by show _ = _; rw [ewx]; exact heap_alloc_new wr _)
            have HBX : Hid (Below wr.heap.size wr wx) := (show Hid _ from by rw [ewx]; exact (Below.refl _ wr).alloc (Nat.le_refl _) _)
            have hzr : w1.heap.size ≤ wr.heap.size := HBE.out.size
            have HBX1 : Hid (Below w1.heap.size w1 wx) := (show Hid _ from HBE.out.trans (HBX.out.mono hzr))
            have HFX : Hid (wx.heap[F]? = some (.cells #[.int .i64 P] 31 (0, 0))) := (show Hid _ from (HBX1.out.block F (heap_of_cells HF1.out)).trans HF1.out)
            obtain ⟨Q, eQ⟩ : ∃ Q, Q = wr.heap.size := ⟨_, rfl⟩
            rw [← eQ] at HAX
            go_upto_region 9 with fail
            rw [HWX2.out, ← eQ]
            clear ewx eQ c1 c2
            have a0 : wx.cell? ⟨Q, 0, none⟩ = some (.bool kb) := cell_of_row wx Q 0 _ _ _ HAX.out
            have a1 : wx.cell? ⟨Q, 1, none⟩ = some (.slice Ar row.length cr) := cell_of_row wx Q 1 _ _ _ HAX.out
            have f0 : wx.cell? ⟨F, 0, none⟩ = some (.int .i64 P) := cell_of_row wx F 0 _ _ _ HFX.out
            cases kb with
            | false =>
              go_wp2_with fail
              go_roundw
              case rel => exact ⟨i + 1, by omega, by go_num, by rw [HTK.out]; rfl, by unfold elB; rw [HTE.out, HEB.out]; simp [elB], by unfold wdB; rw [HTW.out]; have := HWX.out; unfold wdB at this; rw [this]; rfl, HBX1.out⟩
              case measure => simp [intOf]; omega
            | true =>
              by_cases hw : (row.length : Int) = width
              · have dw : ((row.length : Int) != width) = false := by rw [bne_eq_false_iff_eq]; exact hw
                have HWI := Lib.hid hw
                clear hw
                have HSX : Hid (SI wx (.slice Ar row.length cr) row) := (show Hid _ from HSR.out.below HBX.out)
                cases eb with
                | false =>
                  go_wp2_with fail
                  go_roundw
                  case rel => exact ⟨i + 1, by omega, by go_num, by rw [HTK.out]; simp, by unfold elB; rw [HTE.out]; have := HEB.out; unfold elB at this; rw [← this]; rfl, by unfold wdB; rw [HTW.out]; have := HWX.out; unfold wdB at this; rw [this]; simp [HWI.out], HBX1.out⟩
                  case measure => simp [intOf]; omega
                | true =>
                  go_wp2_with fail
                  (with_reducible refine (all_any P row _ _ HSX.out).mono ?_)
                  rintro e w9 ⟨rfl, hb9⟩
                  have HB9 : Hid (Below w1.heap.size w1 w9) := (show Hid _ from HBX1.out.trans (hb9.mono HBX1.out.size))
                  clear hb9
                  go_wp2_with fail
                  go_roundw
                  case rel => exact ⟨i + 1, by omega, by go_num, by rw [HTK.out]; simp, by unfold elB; rw [HTE.out]; have := HEB.out; unfold elB at this; rw [← this]; simp, by unfold wdB; rw [HTW.out]; have := HWX.out; unfold wdB at this; rw [this]; simp [HWI.out], HB9.out⟩
                  case measure => simp [intOf]; omega
              · have dw : ((row.length : Int) != width) = true := by rw [bne_iff_ne]; exact hw
                have HR : Hid (ckE P width servers need l = 2) := by show _ = _; unfold ckE; rw [if_neg HWD.out, if_neg (by rw [HL.out]; simp), if_pos (HNO.out rfl hw)]
                clear hw
                go_wp2_with fail
                go_ret
                exact ⟨by rw [HR.out] <;> rfl, HB1.out.trans (HBX1.out.mono HB1.out.size)⟩
          · have dl : decide (i < l.length) = false := decide_eq_false hlt
            have hil : l.take i = l := List.take_of_length_le (by omega)
            rw [hil] at HWX ⊢
            have HW : Hid (¬ wdB width l = false) := by show ¬ _; rw [HWX.out]; simp
            obtain ⟨eb, eeb⟩ : ∃ eb, eb = elB P l := ⟨_, rfl⟩
            obtain ⟨kn, ekn⟩ : ∃ kn, kn = knL l := ⟨_, rfl⟩
            have HEB := Lib.hid eeb
            have HKN := Lib.hid ekn
            rw [← eeb, ← ekn]
            clear hil eeb ekn hkn
            cases eb with
            | false =>
              have HR : Hid (ckE P width servers need l = 9) := by show _ = _; unfold ckE; rw [if_neg HWD.out, if_neg (by rw [HL.out]; simp), if_neg HW.out, if_pos HEB.out.symm]
              go_wp2_with fail
              go_ret
              exact ⟨by rw [HR.out] <;> rfl, HBw.out⟩
            | true =>
              by_cases hk : (kn : Int) < need
              · have dk : decide ((kn : Int) < need) = true := decide_eq_true hk
                have HR : Hid (ckE P width servers need l = 11) := by show _ = _; unfold ckE; rw [if_neg HWD.out, if_neg (by rw [HL.out]; simp), if_neg HW.out, if_neg (by rw [← HEB.out]; simp), if_pos (by rw [← HKN.out]; exact hk)]
                clear hk
                go_wp2_with fail
                go_ret
                exact ⟨by rw [HR.out] <;> rfl, HBw.out⟩
              · have dk : decide ((kn : Int) < need) = false := decide_eq_false hk
                have HR : Hid (ckE P width servers need l = 0) := by show _ = _; unfold ckE; rw [if_neg HWD.out, if_neg (by rw [HL.out]; simp), if_neg HW.out, if_neg (by rw [← HEB.out]; simp), if_neg (by rw [← HKN.out]; exact hk)]
                clear hk
                go_wp2_with fail
                go_ret
                exact ⟨by rw [HR.out] <;> rfl, HBw.out⟩
      · have d3 : ((l.length : Int) != servers) = true := by rw [bne_iff_ne]; exact h3
        have HR : Hid (ckE P width servers need l = 2) := by show _ = _; unfold ckE; rw [if_neg HWD.out, if_pos h3]
        clear h1 h2 h3
        go_wp2_with fail
        go_ret
        exact ⟨by rw [HR.out] <;> rfl, HB1.out⟩
end Go.Proofs.YtbgabipngdillaaGreatDoor

namespace Go.Proofs.YtbgabipngdillaaGreatDoor
open Go.RowKit

/-- what Decode returns -/
def DeR (P n t width : Int) (l : List (Bool × List Int)) (row wr : List Int) (er : Int) : Prop :=
  (cuE P n t ≠ 0 ∧ er = cuE P n t ∧ row = [] ∧ wr = []) ∨ (cuE P n t = 0 ∧
    ((ckE P width n (t + 1) l ≠ 0 ∧ er = ckE P width n (t + 1) l ∧ row = [] ∧ wr = []) ∨ (ckE P width n (t + 1) l = 0 ∧
      ((AlN P (t + 1) l width.toNat ∧ er = 12 ∧ row = [] ∧ wr = []) ∨ (∃ ps, AlR P (t + 1) l width.toNat ps wr ∧ row = ps.map (fun p => gd p 0) ∧ er = 0)))))
def DeP (P n t width : Int) (l : List (Bool × List Int)) (w : World) (e : Ending) (w' : World) : Prop :=
  ∃ row wr er v1 v2, e = .returned (.tuple #[.agg #[v1, v2], .int .i64 er]) ∧ Below w.heap.size w w' ∧ DeR P n t width l row wr er ∧ SI w' v1 row ∧ SI w' v2 wr
/-- the loop over the polynomials -/
def De1 (O : Nat) (w9 : World) (v2 : Value) (ps : List (List Int)) (iv : Value) (wr : World) : Prop :=
  ∃ (j : Nat) (u : Value), j ≤ ps.length ∧ iv = .int .i64 j ∧ wr.heap[O]? = some (.cells #[u, v2] 68 (0, 0)) ∧ wr.ownsRow (O + 1) 3 1 u ((ps.take j).map fun p => gd p 0).length (((ps.take j).map fun p => gd p 0).map (Value.int .i64)) ∧ Below O w9 wr
theorem de1_step {O j : Nat} {w9 wr w8 : World} {v2 u v' : Value} {ps : List (List Int)} {xs : List Int} {y : Int} (hj : j < ps.length) (hxs : (ps.take (j + 1)).map (fun p => gd p 0) = xs ++ [y])
    (hO : wr.heap[O]? = some (.cells #[u, v2] 68 (0, 0))) (hown : wr.ownsRow (O + 1) 3 1 u xs.length (xs.map (Value.int .i64))) (hb : Below O w9 wr)
    (hg : (wr.alloc (.cells #[.int .i64 y] 3)).grownBy w8 u.ownBlock) (ho : w8.ownsRow (O + 1) 3 1 v' (xs ++ [y]).length ((xs ++ [y]).map (Value.int .i64))) :
    De1 O w9 v2 ps (.int .i64 ((j : Int) + 1)) (w8.setCell ⟨O, 0, none⟩ v') := by
  have hlt := heap_of_cells hO
  have hu : ∀ q, u.ownBlock = some q → O + 1 ≤ q := fun q hq => (hown.lt q hq).1
  have h8 : w8.heap[O]? = some (.cells #[u, v2] 68 (0, 0)) := (hg.block O (by simp; omega) (fun e => by have := hu O e.symm; omega)).trans ((Below.heap_alloc wr _ O hlt).trans hO)
  refine ⟨j + 1, v', by omega, by go_num, ?_, ?_, ?_⟩
  · have := heap_setCell_same w8 O 0 _ _ v' h8
    simpa using this
  · rw [hxs]; exact own_set3 ho (by show O < O + 1; omega) _
  · exact (((hb.alloc (Nat.le_of_lt hlt) _)).grown hg (by simp; omega) (fun k hk => by have := hu k hk; omega)).setCell (Nat.le_refl _) _
theorem ckE_ok {P width servers need : Int} {l : List (Bool × List Int)} (h : ckE P width servers need l = 0) : 0 ≤ width ∧ width ≤ 64 ∧ (l.length : Int) = servers ∧ wdB width l = true ∧ elB P l = true ∧ need ≤ (knL l : Int) := by
  unfold ckE at h
  by_cases h1 : width < 0 ∨ 64 < width
  · rw [if_pos h1] at h; omega
  · rw [if_neg h1] at h
    by_cases h2 : (l.length : Int) ≠ servers
    · rw [if_pos h2] at h; omega
    · rw [if_neg h2] at h
      cases h3 : wdB width l with
      | false => rw [h3] at h; simp at h
      | true =>
        rw [h3, if_neg (by simp)] at h
        cases h4 : elB P l with
        | false => rw [h4] at h; simp at h
        | true =>
          rw [h4, if_neg (by simp)] at h
          by_cases h5 : (knL l : Int) < need
          · rw [if_pos h5] at h; omega
          · exact ⟨by omega, by omega, by omega, rfl, rfl, by omega⟩
theorem wdB_at {width : Int} {l : List (Bool × List Int)} (h : wdB width l = true) : ∀ a ∈ l, a.1 = true → (a.2.length : Int) = width := fun a ha h1 => by
  unfold wdB at h
  rw [List.all_eq_true] at h
  have := h a ha
  simpa [h1] using this
theorem alR_wr {P k : Int} {l : List (Bool × List Int)} {n : Nat} {ps : List (List Int)} {ws : List Int} (h : AlR P k l n ps ws) : ∀ x ∈ ws, 1 ≤ x ∧ x ≤ (l.length : Int) := fun x hx => by
  have h1 := h.2.2
  rw [h1] at hx
  exact wrA_bd P l ps x (((srt_spec _).2 x).1 hx)
set_option maxRecDepth 100000 in
set_option maxHeartbeats 8000000 in
theorem cdecode_any (P n t width : Int) (l : List (Bool × List Int)) (v : Value) (w : World) (hP : i64r P) (h : SAn w v l) (hz : l.length ≤ 1000000) (hE : EW w) :
    Calls Tryz.prog 34 #[.agg #[.int .i64 P], .agg #[.int .i64 n, .int .i64 t], .int .i64 width, v] w (DeP P n t width l w) := by
  have HE := Lib.hid hE
  have HS := Lib.hid h
  obtain ⟨A, c, rfl⟩ := h.form
  clear h hE
  go_enter Tryz.func34, Tryz.ntmps34
  go_upto_region 1 with fail
  obtain ⟨wa, ew⟩ : ∃ wa : World, wa = ((w.alloc (.cells #[.int .i64 P] 31)).alloc (.cells #[.int .i64 n, .int .i64 t] 29)).alloc (.cells #[.slice none 0 0, .slice none 0 0] 68) := ⟨_, rfl⟩
  have HBa : Hid (Below w.heap.size w wa) := by show Below _ _ _; rw [ew]; exact (((Below.refl _ w).alloc (Nat.le_refl _) _).alloc (by simp) _).alloc (by simp; omega) _
  have hza : wa.heap.size = w.heap.size + 3 := by rw [ew]; simp
  have HF : Hid (wa.heap[w.heap.size]? = some (.cells #[.int .i64 P] 31 (0, 0))) := by
    show _ = _; rw [ew, Below.heap_alloc _ _ _ (by simp; omega), Below.heap_alloc _ _ _ (by simp)]; exact heap_alloc_new w _
  have HT : Hid (wa.heap[w.heap.size + 1]? = some (.cells #[.int .i64 n, .int .i64 t] 29 (0, 0))) := by
    show _ = _; rw [ew, Below.heap_alloc _ _ _ (by simp)]; have := heap_alloc_new (w.alloc (.cells #[.int .i64 P] 31)) (.cells #[.int .i64 n, .int .i64 t] 29); simpa using this
  have HR : Hid (wa.heap[w.heap.size + 2]? = some (.cells #[.slice none 0 0, .slice none 0 0] 68 (0, 0))) := by
    show _ = _; rw [ew]; have := heap_alloc_new ((w.alloc (.cells #[.int .i64 P] 31)).alloc (.cells #[.int .i64 n, .int .i64 t] 29)) (.cells #[.slice none 0 0, .slice none 0 0] 68); simpa using this
  rw [← ew]
  clear ew
  obtain ⟨F, hF⟩ : ∃ F, w.heap.size = F := ⟨_, rfl⟩
  have HFF := Lib.hid hF
  rw [hF] at HF HT HR hza ⊢
  have HZA := Lib.hid hza
  clear hF hza
  have cF0 : wa.cell? ⟨F, 0, none⟩ = some (.int .i64 P) := cell_of_row wa F 0 _ _ _ HF.out
  have cT0 : wa.cell? ⟨F + 1, 0, none⟩ = some (.int .i64 n) := cell_of_row wa (F + 1) 0 _ _ _ HT.out
  have cT1 : wa.cell? ⟨F + 1, 1, none⟩ = some (.int .i64 t) := cell_of_row wa (F + 1) 1 _ _ _ HT.out
  go_wp2_with fail
  (with_reducible refine (cCheck_any P n t _ hP).mono ?_)
  rintro e w1 ⟨rfl, hb1⟩
  have HBw : Hid (Below w.heap.size w w1) := HBa.out.trans (hb1.mono HBa.out.size)
  have HF1 : Hid (w1.heap[F]? = some (.cells #[.int .i64 P] 31 (0, 0))) := (hb1.block F (heap_of_cells HF.out)).trans HF.out
  have HT1 : Hid (w1.heap[F + 1]? = some (.cells #[.int .i64 n, .int .i64 t] 29 (0, 0))) := (hb1.block (F + 1) (heap_of_cells HT.out)).trans HT.out
  have HR1 : Hid (w1.heap[F + 2]? = some (.cells #[.slice none 0 0, .slice none 0 0] 68 (0, 0))) := (hb1.block (F + 2) (heap_of_cells HR.out)).trans HR.out
  clear cF0 cT0 cT1 hb1
  by_cases h0 : cuE P n t = 0
  · have HZ := Lib.hid h0
    obtain ⟨hpr, hv, hnP⟩ := cuE_ok h0
    obtain ⟨b1, b2, b3, b4⟩ := vaB_bd hv
    rw [h0]
    clear h0 hpr hv
    have d0 : ((0 : Int) != 0) = false := rfl
    have cT0 : w1.cell? ⟨F + 1, 0, none⟩ = some (.int .i64 n) := cell_of_row w1 (F + 1) 0 _ _ _ HT1.out
    have cT1 : w1.cell? ⟨F + 1, 1, none⟩ = some (.int .i64 t) := cell_of_row w1 (F + 1) 1 _ _ _ HT1.out
    have cF0 : w1.cell? ⟨F, 0, none⟩ = some (.int .i64 P) := cell_of_row w1 F 0 _ _ _ HF1.out
    have wt : IntKind.i64.wrap (t + 1) = t + 1 := by exact IntWalk.i64_in _ (by omega)
    have HS1 := Lib.hid (HS.out.below HBw.out)
    go_wp2_with fail
    (with_reducible refine (ccheck2_any P width n (t + 1) l _ _ HS1.out hz).mono ?_)
    rintro e w2 ⟨rfl, hb2⟩
    have HB2 := Lib.hid hb2
    have HBw2 : Hid (Below w.heap.size w w2) := HBw.out.trans (hb2.mono HBw.out.size)
    have HF2 : Hid (w2.heap[F]? = some (.cells #[.int .i64 P] 31 (0, 0))) := (hb2.block F (heap_of_cells HF1.out)).trans HF1.out
    have HT2 : Hid (w2.heap[F + 1]? = some (.cells #[.int .i64 n, .int .i64 t] 29 (0, 0))) := (hb2.block (F + 1) (heap_of_cells HT1.out)).trans HT1.out
    have HR2 : Hid (w2.heap[F + 2]? = some (.cells #[.slice none 0 0, .slice none 0 0] 68 (0, 0))) := (hb2.block (F + 2) (heap_of_cells HR1.out)).trans HR1.out
    have HS2 := Lib.hid (HS1.out.below hb2)
    clear cF0 cT0 cT1 hb2
    by_cases hk : ckE P width n (t + 1) l = 0
    · have HK := Lib.hid hk
      obtain ⟨w0, w64, hln, hwd, _, _⟩ := ckE_ok hk
      rw [hk]
      obtain ⟨wd, ewd⟩ : ∃ wd : Nat, width = wd := ⟨width.toNat, by omega⟩
      subst ewd
      have HAT : Hid (∀ a ∈ l, a.1 = true → wd ≤ a.2.length) := (show Hid _ from fun a ha h1 => by have := wdB_at hwd a ha h1; omega)
      have hl10 : l.length ≤ 400 := by omega
      have hwd64 : wd ≤ 2000 := by omega
      have cT1 : w2.cell? ⟨F + 1, 1, none⟩ = some (.int .i64 t) := cell_of_row w2 (F + 1) 1 _ _ _ HT2.out
      have cF0 : w2.cell? ⟨F, 0, none⟩ = some (.int .i64 P) := cell_of_row w2 F 0 _ _ _ HF2.out
      obtain ⟨k1, ek1⟩ : ∃ k1, k1 = t + 1 := ⟨_, rfl⟩
      have hk1b : k1 ≤ 1000 := by omega
      obtain ⟨C, eC⟩ : ∃ C, C = w2.heap.size := ⟨_, rfl⟩
      obtain ⟨w3, ew3⟩ : ∃ w3 : World, w3 = w2.alloc (.cells #[.int .i64 P, .int .i64 k1, .slice A l.length c] 103) := ⟨_, rfl⟩
      have HW3 : Hid (w2.alloc (.cells #[.int .i64 P, .int .i64 (t + 1), .slice A l.length c] 103) = w3) := (show Hid _ from by show _ = _; rw [ew3, ek1])
      have HC3 : Hid (w3.heap[C]? = some (.cells #[.int .i64 P, .int .i64 k1, .slice A l.length c] 103 (0, 0))) := (show Hid _ from by show _ = _; rw [ew3, eC]; exact heap_alloc_new w2 _)
      have HB3 : Hid (Below w2.heap.size w2 w3) := (show Hid _ from by rw [ew3]; exact (Below.refl _ w2).alloc (Nat.le_refl _) _)
      have HBw3 : Hid (Below w.heap.size w w3) := HBw2.out.trans (HB3.out.mono HBw2.out.size)
      have HS3 := Lib.hid (HS2.out.below HB3.out)
      have HE3 : Hid (EW w3) := HE.out.below HBw3.out
      have HR3 : Hid (w3.heap[F + 2]? = some (.cells #[.slice none 0 0, .slice none 0 0] 68 (0, 0))) := (HB3.out.block (F + 2) (heap_of_cells HR2.out)).trans HR2.out
      have HEK := Lib.hid ek1
      have HEC := Lib.hid eC
      clear hk hwd
      go_upto_region 8 with fail
      rw [HW3.out, ← eC]
      clear ew3 eC ek1 cT1 cF0 wt
      have c0 : w3.cell? ⟨C, 0, none⟩ = some (.int .i64 P) := cell_of_row w3 C 0 _ _ _ HC3.out
      have c1 : w3.cell? ⟨C, 1, none⟩ = some (.int .i64 k1) := cell_of_row w3 C 1 _ _ _ HC3.out
      have c2 : w3.cell? ⟨C, 2, none⟩ = some (.slice A l.length c) := cell_of_row w3 C 2 _ _ _ HC3.out
      go_wp2_with fail
      (with_reducible refine (call_any P k1 l wd _ _ hP HS3.out hl10 hwd64 HAT.out HE3.out).mono ?_)
      rintro e9 w9 ⟨pv, wv, er, rfl, hb9, hcs⟩
      have HB9 := Lib.hid hb9
      have HCS := Lib.hid hcs
      have HBw9 : Hid (Below w.heap.size w w9) := HBw3.out.trans (hb9.mono HBw3.out.size)
      have HR9 : Hid (w9.heap[F + 2]? = some (.cells #[.slice none 0 0, .slice none 0 0] 68 (0, 0))) := (hb9.block (F + 2) (heap_of_cells HR3.out)).trans HR3.out
      have hF9 : F + 2 < w9.heap.size := heap_of_cells HR9.out
      clear hb9 hcs c0 c1 c2
      rcases HCS.out with ⟨rfl, ps, ws, hAL, hSL, hWS⟩ | ⟨rfl, rfl, rfl, hN⟩
      · obtain ⟨A9, c9, epv, hp1, hp2, hp, hpl, hph, hpa⟩ := hSL.heads
        subst epv
        obtain ⟨Aw, cw, ewv⟩ := own_sl' hWS
        subst ewv
        have HAL := Lib.hid hAL
        have HPH := Lib.hid hph
        have HPA := Lib.hid hpa
        have HPL := Lib.hid hpl
        have HWS : Hid (w9.ownsRow w3.heap.size 3 1 (.slice Aw ws.length cw) ws.length (ws.map (Value.int .i64))) := hWS
        have HWX : Hid (∀ x ∈ ws, i64r x) := (show Hid _ from fun x hx => by have := alR_wr hAL x hx; unfold i64r; omega)
        have HF3 : Hid (F + 2 < w3.heap.size) := heap_of_cells HR3.out
        have hpsl : ps.length ≤ 2000 := by have := hAL.1; omega
        clear hAL hSL hph hpa hpl HCS hp1 hp2 hWS
        obtain ⟨O, eO⟩ : ∃ O, O = w9.heap.size := ⟨_, rfl⟩
        obtain ⟨w10, ew10⟩ : ∃ w10 : World, w10 = w9.alloc (.cells #[.slice none 0 0, .slice Aw ws.length cw] 68) := ⟨_, rfl⟩
        have HW10 : Hid (w9.alloc (.cells #[.slice none 0 0, .slice Aw ws.length cw] 68) = w10) := ew10.symm
        have HO10 : Hid (w10.heap[O]? = some (.cells #[.slice none 0 0, .slice Aw ws.length cw] 68 (0, 0))) := (show Hid _ from by show _ = _; rw [ew10, eO]; exact heap_alloc_new w9 _)
        have HB10 : Hid (Below O w9 w10) := (show Hid _ from by rw [ew10, eO]; exact (Below.refl _ w9).alloc (Nat.le_refl _) _)
        have HEO := Lib.hid eO
        rw [← eO] at hF9
        go_upto_region 12 with fail
        rw [HW10.out, ← eO]
        clear ew10 eO
        go_wp2_with fail
        go_loopw [60] (fun iv wz => De1 O w9 (.slice Aw ws.length cw) ps iv wz) (fun iv _ => ps.length - (intOf iv).toNat)
        case atStart => exact ⟨0, .slice none 0 0, Nat.zero_le _, rfl, HO10.out, by simpa using World.ownsRow_nil w10 (O + 1) 3 1, HB10.out⟩
        case round =>
          obtain ⟨q, u, hq, rfl, hO, hown, hbz⟩ := hrel
          have HOW := Lib.hid hown
          have HBZ := Lib.hid hbz
          have HOO := Lib.hid hO
          have hOr : O < wr.heap.size := heap_of_cells hO
          clear hown hbz hO
          by_cases hlq : q < ps.length
          · have dq : decide (q < ps.length) = true := decide_eq_true hlq
            have hqh : q < hp.length := by rw [HPL.out]; exact hlq
            obtain ⟨b9, off9, eA9, hb9, hc9⟩ := HPA.out (by omega)
            subst eA9
            obtain ⟨Bq, dq', ehq, hsq⟩ := HPH.out q hqh hlq
            have hBz9 : Below w9.heap.size w9 wr := by rw [← HEO.out]; exact HBZ.out
            have cq := (hBz9.cell (p := ⟨b9, off9 + q, none⟩) hb9).trans (hc9 q hqh)
            rw [ehq] at cq hsq
            have HSQ : Hid (SI wr (.slice Bq ps[q].length dq') ps[q]) := hsq.below hBz9
            have HUQ : Hid (ps[q].length ≤ 1000) := unr_len (HAL.out.2.1 q hlq) hk1b
            have HSN : Hid ((ps.take (q + 1)).map (fun p => gd p 0) = (ps.take q).map (fun p => gd p 0) ++ [gd ps[q] 0]) := (show Hid _ from by
              show _ = _
              rw [← List.take_append_getElem hlq, List.map_append]; rfl)
            obtain ⟨pq, epq⟩ : ∃ pq, pq = ps[q] := ⟨_, rfl⟩
            rw [← epq] at cq HSQ HUQ HSN
            obtain ⟨y, ey⟩ : ∃ y, y = gd pq 0 := ⟨_, rfl⟩
            have HCO : Hid (∀ W, Below wr.heap.size wr W → Calls Tryz.prog 56 #[.slice Bq pq.length dq', .int .i64 0] W fun e w' => e = .returned (.int .i64 y) ∧ W = w') := (show Hid _ from fun W hb => (coef0_any pq _ W (HSQ.out.below hb) (by have := HUQ.out; omega)).mono fun e w' ⟨h1, h2⟩ => ⟨by rw [h1, ey], h2⟩)
            rw [← ey] at HSN
            obtain ⟨UV, eUV⟩ : ∃ UV, UV = (ps.take q).map (fun p => gd p 0) := ⟨_, rfl⟩
            have hUl : UV.length ≤ 2000 := by rw [eUV]; simp; omega
            rw [← eUV] at HOW HSN
            have HREL : Hid (∀ (g9 cap9 : Nat) (w8 : World), (wr.alloc (.cells #[.int .i64 y] 3)).grownBy w8 u.ownBlock → w8.ownsRow (O + 1) 3 1 (.slice (some ⟨g9, 0, none⟩) (UV ++ [y]).length cap9) (UV ++ [y]).length ((UV ++ [y]).map (Value.int .i64)) →
                De1 O w9 (.slice Aw ws.length cw) ps (.int .i64 ((q : Int) + 1)) (w8.setCell ⟨O, 0, none⟩ (.slice (some ⟨g9, 0, none⟩) (UV.length + 1) cap9))) := (show Hid _ from fun g9 cap9 w8 hg ho => by
              have h1 := de1_step hlq HSN.out HOO.out HOW.out HBZ.out hg ho
              rw [List.length_append] at h1
              exact h1)
            have cO0 : wr.cell? ⟨O, 0, none⟩ = some u := cell_of_row wr O 0 _ _ _ HOO.out
            have fO0 : wr.frozen? ⟨O, 0, none⟩ = false := frozen_of_row wr O 0 _ _ HOO.out
            have HNO : Hid (∀ q, q ≤ O → some q ≠ u.ownBlock) := (show Hid _ from fun q hq e1 => by have := (HOW.out.lt q e1.symm).1; omega)
            have HZF : Hid (∀ wb : World, (wr.alloc (.cells #[.int .i64 y] 3)).grownBy wb u.ownBlock → wb.frozen? ⟨O, 0, none⟩ = false) := (show Hid _ from fun wb hg => frozen_of_row wb O 0 _ _ ((hg.block O (by simp; omega) (HNO.out O (Nat.le_refl _))).trans ((Below.heap_alloc wr _ O hOr).trans HOO.out)))
            clear ehq hsq hc9 epq eUV ey hBz9
            go_upto_region 15 with fail
            go_region_law (first
              | (refine step_append_int1_at _ (by rfl) (.tmp 65) _ 22 (by rfl) (O + 1) 3 Tryz.underlying22 iinfo u UV (by rfl) (by first | exact HOW.out.alloc (.cells #[.int .i64 y] 3) | exact (HOW.out.alloc (.cells #[.int .i64 y] 3)).drew) y wr.heap.size (by rfl) (by exact cells_new wr [.int .i64 y] 3 0 _ rfl) (by omega) (by simp; omega) ?_; intro g9 cap9 w8 hown9 hg9 hat9;
                 have HG9 : Hid ((wr.alloc (.cells #[.int .i64 y] 3)).grownBy w8 u.ownBlock) := (show Hid _ from ⟨hg9.os, hg9.tape, hg9.output, hg9.size, hg9.block⟩); have HO9 := Lib.hid hown9; have cO0 : w8.cell? ⟨O, 0, none⟩ = some u := hg9.cell (cell_al (.cells #[.int .i64 y] 3) cO0) (HNO.out O (Nat.le_refl O)); have fO0 : w8.frozen? ⟨O, 0, none⟩ = false := HZF.out w8 HG9.out; clear hg9 hown9 hat9)
              | (go_simp; go_at_call 56; refine (HCO.out _ (by first | exact Below.refl _ _ | exact (Below.refl _ _).drew)).mono ?_; rintro e9 w8 ⟨rfl, rfl⟩))
            all_goals
              go_wp2_with fail
              go_roundw
              case rel => exact HREL.out g9 cap9 w8 HG9.out HO9.out
              case measure => simp [intOf]; omega
          · have dq : decide (q < ps.length) = false := decide_eq_false hlq
            have hqe : q = ps.length := by omega
            have hBz9 : Below w9.heap.size w9 wr := by rw [← HEO.out]; exact HBZ.out
            obtain ⟨Au, cu, eu⟩ := own_sl' HOW.out
            subst eu
            have HSU : Hid (wr.ownsRow (O + 1) 3 1 (.slice Au ((ps.take q).map fun p => gd p 0).length cu) (ps.map fun p => gd p 0).length ((ps.map fun p => gd p 0).map (Value.int .i64))) := (show Hid _ from by
              have h := HOW.out
              rw [hqe, List.take_length] at h ⊢
              exact h)
            generalize ((ps.take q).map fun p => gd p 0).length = nu at HSU HOW HOO
            have HBF : Hid (Below w.heap.size w wr) := HBw9.out.trans (hBz9.mono HBw9.out.size)
            have HRr : Hid (wr.heap[F + 2]? = some (.cells #[.slice none 0 0, .slice none 0 0] 68 (0, 0))) := (hBz9.block (F + 2) (heap_of_cells HR9.out)).trans HR9.out
            have HWR : Hid (wr.ownsRow w3.heap.size 3 1 (.slice Aw ws.length cw) ws.length (ws.map (Value.int .i64))) := (show Hid _ from own_bel HWS.out hBz9)
            have HUX : Hid (∀ x ∈ ps.map fun p => gd p 0, i64r x) := (show Hid _ from fun x hx => by
              obtain ⟨p, hp', rfl⟩ := List.mem_map.1 hx
              obtain ⟨r, hr, rfl⟩ := List.mem_iff_getElem.1 hp'
              exact unr_gd (HAL.out.2.1 r hr))
            have cO0 : wr.cell? ⟨O, 0, none⟩ = some (.slice Au nu cu) := cell_of_row wr O 0 _ _ _ HOO.out
            have cO1 : wr.cell? ⟨O, 1, none⟩ = some (.slice Aw ws.length cw) := cell_of_row wr O 1 _ _ _ HOO.out
            have cR0 : wr.cell? ⟨F + 2, 0, none⟩ = some (.slice none 0 0) := cell_of_row wr (F + 2) 0 _ _ _ HRr.out
            have cR1 : wr.cell? ⟨F + 2, 1, none⟩ = some (.slice none 0 0) := cell_of_row wr (F + 2) 1 _ _ _ HRr.out
            have fR0 : wr.frozen? ⟨F + 2, 0, none⟩ = false := frozen_of_row wr (F + 2) 0 _ _ HRr.out
            have fR1 : wr.frozen? ⟨F + 2, 1, none⟩ = false := frozen_of_row wr (F + 2) 1 _ _ HRr.out
            clear hqe hBz9
            go_wp2_with fail
            have HW := store2 (.slice Au nu cu) (.slice Aw ws.length cw) HRr.out
            have q0 := cell_of_row _ (F + 2) 0 _ _ _ HW
            have q1 := cell_of_row _ (F + 2) 1 _ _ _ HW
            simp only [List.getElem?_toArray, List.getElem?_cons_zero, List.getElem?_cons_succ] at q0 q1
            have hFw : w.heap.size ≤ F + 2 := by have := HFF.out; omega
            refine bodyPost_ret (v := .tuple #[.agg #[.slice Au nu cu, .slice Aw ws.length cw], .int .i64 0]) (by simp [results, Tryz.results34, go_sem, q0, q1]) rfl ⟨ps.map fun p => gd p 0, ws, 0, _, _, rfl, ?_, .inr ⟨HZ.out, .inr ⟨HK.out, .inr ⟨ps, ?_, rfl, rfl⟩⟩⟩, ?_, ?_⟩
            · exact (HBF.out.setCell (by show _ ≤ F + 2; exact hFw) _).setCell (by show _ ≤ F + 2; exact hFw) _
            · rw [← HEK.out, Int.toNat_natCast]; exact HAL.out
            · exact SI.of_own (own_set3 (own_set3 HSU.out (by show F + 2 < O + 1; omega) _) (by show F + 2 < O + 1; omega) _) HUX.out
            · exact SI.of_own (own_set3 (own_set3 HWR.out (by exact HF3.out) _) (by exact HF3.out) _) HWX.out
      · have HN := Lib.hid hN
        clear hN HCS
        have cR0 : w9.cell? ⟨F + 2, 0, none⟩ = some (.slice none 0 0) := cell_of_row w9 (F + 2) 0 _ _ _ HR9.out
        have cR1 : w9.cell? ⟨F + 2, 1, none⟩ = some (.slice none 0 0) := cell_of_row w9 (F + 2) 1 _ _ _ HR9.out
        have fR0 : w9.frozen? ⟨F + 2, 0, none⟩ = false := frozen_of_row w9 (F + 2) 0 _ _ HR9.out
        have fR1 : w9.frozen? ⟨F + 2, 1, none⟩ = false := frozen_of_row w9 (F + 2) 1 _ _ HR9.out
        go_wp2_with fail
        have HW := store2 (.slice none 0 0) (.slice none 0 0) HR9.out
        have q0 := cell_of_row _ (F + 2) 0 _ _ _ HW
        have q1 := cell_of_row _ (F + 2) 1 _ _ _ HW
        simp only [List.getElem?_toArray, List.getElem?_cons_zero, List.getElem?_cons_succ] at q0 q1
        have hFw : w.heap.size ≤ F + 2 := by have := HFF.out; omega
        refine bodyPost_ret (v := .tuple #[.agg #[.slice none 0 0, .slice none 0 0], .int .i64 12]) (by simp [results, Tryz.results34, go_sem, q0, q1]) rfl ⟨[], [], 12, _, _, rfl, ?_, .inr ⟨HZ.out, .inr ⟨HK.out, .inl ⟨?_, rfl, rfl, rfl⟩⟩⟩, si_nil _, si_nil _⟩
        · exact (HBw9.out.setCell (by show _ ≤ F + 2; exact hFw) _).setCell (by show _ ≤ F + 2; exact hFw) _
        · rw [← HEK.out, Int.toNat_natCast]; exact HN.out
    · obtain ⟨er, her⟩ : ∃ er, ckE P width n (t + 1) l = er := ⟨_, rfl⟩
      have HER := Lib.hid her
      rw [her] at hk ⊢
      have H0 := Lib.hid hk
      have d1 : (er != 0) = true := by rw [bne_iff_ne]; exact hk
      have d2 : (er == 0) = false := by rw [beq_eq_false_iff_ne]; exact hk
      clear her hk
      have cR0 : w2.cell? ⟨F + 2, 0, none⟩ = some (.slice none 0 0) := cell_of_row w2 (F + 2) 0 _ _ _ HR2.out
      have cR1 : w2.cell? ⟨F + 2, 1, none⟩ = some (.slice none 0 0) := cell_of_row w2 (F + 2) 1 _ _ _ HR2.out
      have fR0 : w2.frozen? ⟨F + 2, 0, none⟩ = false := frozen_of_row w2 (F + 2) 0 _ _ HR2.out
      have fR1 : w2.frozen? ⟨F + 2, 1, none⟩ = false := frozen_of_row w2 (F + 2) 1 _ _ HR2.out
      go_wp2_with fail
      have HW := store2 (.slice none 0 0) (.slice none 0 0) HR2.out
      have q0 := cell_of_row _ (F + 2) 0 _ _ _ HW
      have q1 := cell_of_row _ (F + 2) 1 _ _ _ HW
      simp only [List.getElem?_toArray, List.getElem?_cons_zero, List.getElem?_cons_succ] at q0 q1
      have hFw : w.heap.size ≤ F + 2 := by have := HFF.out; omega
      refine bodyPost_ret (v := .tuple #[.agg #[.slice none 0 0, .slice none 0 0], .int .i64 er]) (by simp [results, Tryz.results34, go_sem, q0, q1]) rfl ⟨[], [], er, _, _, rfl, ?_, .inr ⟨HZ.out, .inl ⟨by rw [HER.out]; exact H0.out, HER.out.symm, rfl, rfl⟩⟩, si_nil _, si_nil _⟩
      exact (HBw2.out.setCell (by show _ ≤ F + 2; exact hFw) _).setCell (by show _ ≤ F + 2; exact hFw) _
  · obtain ⟨er, her⟩ : ∃ er, cuE P n t = er := ⟨_, rfl⟩
    have HER := Lib.hid her
    rw [her] at h0 ⊢
    have H0 := Lib.hid h0
    have d0 : (er != 0) = true := by rw [bne_iff_ne]; exact h0
    have d1 : (er == 0) = false := by rw [beq_eq_false_iff_ne]; exact h0
    clear her h0
    have cR0 : w1.cell? ⟨F + 2, 0, none⟩ = some (.slice none 0 0) := cell_of_row w1 (F + 2) 0 _ _ _ HR1.out
    have cR1 : w1.cell? ⟨F + 2, 1, none⟩ = some (.slice none 0 0) := cell_of_row w1 (F + 2) 1 _ _ _ HR1.out
    have fR0 : w1.frozen? ⟨F + 2, 0, none⟩ = false := frozen_of_row w1 (F + 2) 0 _ _ HR1.out
    have fR1 : w1.frozen? ⟨F + 2, 1, none⟩ = false := frozen_of_row w1 (F + 2) 1 _ _ HR1.out
    go_wp2_with fail
    have HW := store2 (.slice none 0 0) (.slice none 0 0) HR1.out
    have q0 := cell_of_row _ (F + 2) 0 _ _ _ HW
    have q1 := cell_of_row _ (F + 2) 1 _ _ _ HW
    simp only [List.getElem?_toArray, List.getElem?_cons_zero, List.getElem?_cons_succ] at q0 q1
    have hFw : w.heap.size ≤ F + 2 := by have := HFF.out; omega
    refine bodyPost_ret (v := .tuple #[.agg #[.slice none 0 0, .slice none 0 0], .int .i64 er]) (by simp [results, Tryz.results34, go_sem, q0, q1]) rfl ⟨[], [], er, _, _, rfl, ?_, .inl ⟨by rw [HER.out]; exact H0.out, HER.out.symm, rfl, rfl⟩, si_nil _, si_nil _⟩
    exact (HBw.out.setCell (by show _ ≤ F + 2; exact hFw) _).setCell (by show _ ≤ F + 2; exact hFw) _
end Go.Proofs.YtbgabipngdillaaGreatDoor

namespace Go.Proofs.YtbgabipngdillaaGreatDoor
open Go.RowKit

def rcE (P : Int) : Int := if prB P = true then 0 else 9
theorem rcE_t {P : Int} (h : prB P = true) : rcE P = 0 := if_pos h
theorem rcE_f {P : Int} (h : prB P = false) : rcE P = 9 := by unfold rcE; rw [h]; rfl
set_option maxHeartbeats 2000000 in
theorem rcheck_any (P : Int) (w : World) (hP : i64r P) :
    Calls Tryz.prog 52 #[.agg #[.int .i64 P]] w fun e w' => e = .returned (.int .i64 (rcE P)) ∧ Below w.heap.size w w' := by
  obtain ⟨hP1, hP2⟩ := hP
  by_cases h1 : P < 2
  · have HB := Lib.hid (prB_f (.inl h1))
    have d1 : decide (P < 2) = true := decide_eq_true h1
    go_enter Tryz.func52, Tryz.ntmps52
    go_wp2_with fail
    go_ret
    exact ⟨by rw [rcE_f HB.out]; first | rfl | simp, (Below.refl _ _).alloc (Nat.le_refl _) _⟩
  by_cases h2 : 65521 < P
  · have HB := Lib.hid (prB_f (.inr h2))
    have d1 : decide (P < 2) = false := decide_eq_false h1
    have d2 : decide (65521 < P) = true := decide_eq_true h2
    go_enter Tryz.func52, Tryz.ntmps52
    go_wp2_with fail
    go_ret
    exact ⟨by rw [rcE_f HB.out]; first | rfl | simp, (Below.refl _ _).alloc (Nat.le_refl _) _⟩
  have h3 : 2 ≤ P := by omega
  have h4 : P ≤ 65521 := by omega
  have d1 : decide (P < 2) = false := decide_eq_false h1
  have d2 : decide (65521 < P) = false := decide_eq_false h2
  clear h1 h2
  go_enter Tryz.func52, Tryz.ntmps52
  obtain ⟨F, eF⟩ : ∃ F, F = w.heap.size := ⟨_, rfl⟩
  obtain ⟨w1, ew⟩ : ∃ w1 : World, w1 = w.alloc (.cells #[.int .i64 P] 31) := ⟨_, rfl⟩
  have HW1 : Hid (w.alloc (.cells #[.int .i64 P] 31) = w1) := ew.symm
  have HB1 : Hid (Below w.heap.size w w1) := (show Hid _ from by rw [ew]; exact (Below.refl _ w).alloc (Nat.le_refl _) _)
  have HF1 : Hid (w1.heap[F]? = some (.cells #[.int .i64 P] 31 (0, 0))) := (show Hid _ from by show _ = _; rw [ew, eF]; exact heap_alloc_new w _)
  go_upto_region 1 with fail
  rw [HW1.out, ← eF]
  clear ew eF
  have f0 : w1.cell? ⟨F, 0, none⟩ = some (.int .i64 P) := cell_of_row w1 F 0 _ _ _ HF1.out
  go_wp2_with fail
  go_loopw [3] (fun i wr => ∃ d : Nat, 2 ≤ d ∧ d ≤ 256 ∧ i = .int .i64 d ∧ (∀ e : Nat, 2 ≤ e → e < d → P % e ≠ 0) ∧ w1 = wr) (fun i _ => 300 - (intOf i).toNat)
  case atStart => exact ⟨2, by omega, by omega, rfl, fun e h1 h2 => absurd h1 (by omega), rfl⟩
  case round =>
    obtain ⟨d, hd1, hd2, rfl, hno, rfl⟩ := hrel
    have HN := Lib.hid hno
    clear hno
    have hdd : (d : Int) * d ≤ 65536 := by
      have : (d : Int) * d ≤ 256 * 256 := Int.mul_le_mul (by omega) (by omega) (by omega) (by omega)
      omega
    have hdn : 0 ≤ (d : Int) * d := Int.mul_nonneg (by omega) (by omega)
    have wdd : IntKind.i64.wrap ((d : Int) * d) = (d : Int) * d := by exact IntWalk.i64_in _ (by omega)
    have wdp : IntKind.i64.wrap ((d : Int) + 1) = (d : Int) + 1 := by exact IntWalk.i64_in _ (by omega)
    have wP : IntKind.i64.wrap (P % (d : Int)) = P % (d : Int) := by
      have h1 := Int.emod_nonneg P (show (d : Int) ≠ 0 by omega)
      have h2 := Int.emod_lt_of_pos P (show (0 : Int) < d by omega)
      exact IntWalk.i64_in _ (by omega)
    have wtm : P.tmod (d : Int) = P % (d : Int) := Int.tmod_eq_emod_of_nonneg (by omega)
    have hd0 : ¬ d = 0 := by omega
    have hd0' : ¬ (d : Int) = 0 := by omega
    by_cases hc : (d : Int) * d ≤ P
    · have dc : decide ((d : Int) * d ≤ P) = true := decide_eq_true hc
      have hd3 : d < 256 := by
        rcases Nat.lt_or_ge d 256 with h | h
        · exact h
        · have h5 : (256 : Int) * 256 ≤ (d : Int) * d := Int.mul_le_mul (by omega) (by omega) (by omega) (by omega)
          omega
      by_cases hm : P % d = 0
      · have HB := Lib.hid (prB_div hd1 hc hm)
        have hb1 : (P % (d : Int) == 0) = true := by rw [beq_iff_eq]; exact hm
        clear hm
        go_wp2_with fail
        go_ret
        exact ⟨by rw [rcE_f HB.out]; first | rfl | simp, HB1.out⟩
      · have hb1 : (P % (d : Int) == 0) = false := by rw [beq_eq_false_iff_ne]; exact hm
        have HM := Lib.hid hm
        clear hm
        go_wp2_with fail
        go_roundw
        case rel => exact ⟨d + 1, by omega, by omega, by go_num, fun e h1 h2 => by
          by_cases h : e = d
          · subst h; exact HM.out
          · exact HN.out e h1 (by omega), by first | trivial | rfl⟩
        case measure => simp [intOf]; omega
    · have dc : decide ((d : Int) * d ≤ P) = false := decide_eq_false hc
      have HB : Hid (prB P = true) := prB_of h3 h4 (fun e h1 h2 => by
        refine HN.out e h1 ?_
        rcases Nat.lt_or_ge e d with h | h
        · exact h
        · have h5 : (d : Int) * d ≤ (e : Int) * e := Int.mul_le_mul (by omega) (by omega) (by omega) (by omega)
          omega)
      clear hc
      go_wp2_with fail
      go_ret
      exact ⟨by rw [rcE_t HB.out]; first | rfl | simp, HB1.out⟩
def inB (P : Int) (l : List Int) : Bool := prB P && els P l
theorem els_take_succ {P : Int} {l : List Int} {j : Nat} (h : j < l.length) : els P (l.take (j + 1)) = (els P (l.take j) && el P l[j]) := by
  rw [← List.take_append_getElem h]
  unfold els
  rw [List.all_append]; simp
set_option maxHeartbeats 2000000 in
theorem rin_any (P : Int) (l : List Int) (v : Value) (w : World) (hP : i64r P) (h : SI w v l) :
    Calls Tryz.prog 61 #[.agg #[.int .i64 P], v] w fun e w' => e = .returned (.bool (inB P l)) ∧ Below w.heap.size w w' := by
  obtain ⟨A, c, rfl, hcl, hcm, hr, ha⟩ := h
  have HA := Lib.hid ha
  clear ha hr
  go_enter Tryz.func61, Tryz.ntmps61
  obtain ⟨F, eF⟩ : ∃ F, F = w.heap.size := ⟨_, rfl⟩
  obtain ⟨w1, ew⟩ : ∃ w1 : World, w1 = w.alloc (.cells #[.int .i64 P] 31) := ⟨_, rfl⟩
  have HW1 : Hid (w.alloc (.cells #[.int .i64 P] 31) = w1) := ew.symm
  have HB1 : Hid (Below w.heap.size w w1) := (show Hid _ from by rw [ew]; exact (Below.refl _ w).alloc (Nat.le_refl _) _)
  have HF1 : Hid (w1.heap[F]? = some (.cells #[.int .i64 P] 31 (0, 0))) := (show Hid _ from by show _ = _; rw [ew, eF]; exact heap_alloc_new w _)
  go_upto_region 1 with fail
  rw [HW1.out, ← eF]
  clear ew eF
  have f0 : w1.cell? ⟨F, 0, none⟩ = some (.int .i64 P) := cell_of_row w1 F 0 _ _ _ HF1.out
  go_wp2_with fail
  (with_reducible refine (rcheck_any P _ hP).mono ?_)
  rintro e w2 ⟨rfl, hb2⟩
  have HBw : Hid (Below w.heap.size w w2) := HB1.out.trans (hb2.mono HB1.out.size)
  have HF2 : Hid (w2.heap[F]? = some (.cells #[.int .i64 P] 31 (0, 0))) := (hb2.block F (heap_of_cells HF1.out)).trans HF1.out
  clear hb2 f0
  cases hp : prB P with
  | false =>
    have HP' : Hid (inB P l = false) := (show Hid _ from by show _ = _; unfold inB; rw [hp]; rfl)
    rw [rcE_f hp]
    have d0 : ((9 : Int) != 0) = true := rfl
    clear hp
    go_wp2_with fail
    go_ret
    exact ⟨by rw [HP'.out]; first | rfl | simp, HBw.out⟩
  | true =>
    have HP := Lib.hid hp
    rw [rcE_t hp]
    have d0 : ((0 : Int) != 0) = false := rfl
    clear hp
    have f0 : w2.cell? ⟨F, 0, none⟩ = some (.int .i64 P) := cell_of_row w2 F 0 _ _ _ HF2.out
    go_wp2_with fail
    go_loopw [12] (fun iv wr => ∃ j : Nat, j ≤ l.length ∧ iv = .int .i64 j ∧ els P (l.take j) = true ∧ w2 = wr) (fun iv _ => l.length - (intOf iv).toNat)
    case atStart => exact ⟨0, Nat.zero_le _, rfl, by simp [els], rfl⟩
    case round =>
      obtain ⟨j, hj, rfl, hel, rfl⟩ := hrel
      have HEL := Lib.hid hel
      clear hel
      by_cases hlj : j < l.length
      · have dj : decide (j < l.length) = true := decide_eq_true hlj
        obtain ⟨b, off, rfl, hbw, hc⟩ := HA.out (by omega)
        have cj := (HBw.out.cell (p := ⟨b, off + j, none⟩) hbw).trans (hc j hlj)
        obtain ⟨x, ex⟩ : ∃ x, x = l[j] := ⟨_, rfl⟩
        rw [← ex] at cj
        have HX := Lib.hid ex
        clear hc ex
        by_cases hx0 : x < 0
        · have HN : Hid (inB P l = false) := (show Hid _ from by
            show _ = _
            unfold inB
            rw [els_no hlj (by rw [← HX.out]; unfold el; simp; omega), Bool.and_false])
          have d1 : decide (x < 0) = true := decide_eq_true hx0
          go_wp2_with fail
          go_ret
          exact ⟨by rw [HN.out]; first | rfl | simp, HBw.out⟩
        · have d1 : decide (x < 0) = false := decide_eq_false hx0
          by_cases hxP : P ≤ x
          · have HN : Hid (inB P l = false) := (show Hid _ from by
              show _ = _
              unfold inB
              rw [els_no hlj (by rw [← HX.out]; unfold el; simp; omega), Bool.and_false])
            have d2 : decide (P ≤ x) = true := decide_eq_true hxP
            go_wp2_with fail
            go_ret
            exact ⟨by rw [HN.out]; first | rfl | simp, HBw.out⟩
          · have d2 : decide (P ≤ x) = false := decide_eq_false hxP
            go_wp2_with fail
            go_roundw
            case rel => exact ⟨j + 1, by omega, by go_num, by rw [els_take_succ hlj, HEL.out, ← HX.out]; unfold el; simp; omega, by first | trivial | rfl⟩
            case measure => simp [intOf]; omega
      · have dj : decide (j < l.length) = false := decide_eq_false hlj
        have hjl : j = l.length := by omega
        have HY : Hid (inB P l = true) := (show Hid _ from by
          have h := HEL.out
          rw [hjl, List.take_length] at h
          show _ = _
          unfold inB; rw [HP.out, h]; rfl)
        clear hjl
        go_wp2_with fail
        go_ret
        exact ⟨by rw [HY.out]; first | rfl | simp, HBw.out⟩
end Go.Proofs.YtbgabipngdillaaGreatDoor

namespace Go.Proofs.YtbgabipngdillaaGreatDoor
open Go.RowKit

def cmbT (P : Int) (c : List Int) (rows : List (List Int)) (width k : Nat) : List Int := (List.range k).foldl (fun L i => addT P L 0 (gd c i) (gr rows i)) (zeros width)
def cmb (P : Int) (c : List Int) (rows : List (List Int)) (width : Nat) : List Int := cmbT P c rows width rows.length
theorem cmbT_succ (P : Int) (c : List Int) (rows : List (List Int)) (width k : Nat) : cmbT P c rows width (k + 1) = addT P (cmbT P c rows width k) 0 (gd c k) (gr rows k) := by
  unfold cmbT
  rw [List.range_succ, List.foldl_append]; rfl
theorem cmbT_len (P : Int) (c : List Int) (rows : List (List Int)) (width : Nat) : ∀ k, (cmbT P c rows width k).length = width
  | 0 => by simp [cmbT, zeros]
  | k + 1 => by rw [cmbT_succ, addT_len, cmbT_len P c rows width k]
theorem cmbT_els {P : Int} (hP : 2 ≤ P) (c : List Int) (rows : List (List Int)) (width : Nat) : ∀ k, els P (cmbT P c rows width k) = true
  | 0 => by simpa [cmbT] using zeros_els hP width
  | k + 1 => by rw [cmbT_succ]; exact addT_els hP (cmbT_els hP c rows width k) 0 _ _
/-- the error of Combine -/
def coE (P : Int) (c : List Int) (rows : List (List Int)) (width : Int) : Int :=
  if prB P = false then 9 else if width < 0 ∨ 64 < width then 4 else if c.length ≠ rows.length then 2 else if (rows.all fun r => decide ((r.length : Int) = width)) = false then 2 else if els P c = false then 9 else if (rows.all (els P)) = false then 9 else 0
def CmP (P : Int) (c : List Int) (rows : List (List Int)) (width : Int) (w : World) (e : Ending) (w' : World) : Prop :=
  ∃ v, e = .returned (.tuple #[v, .int .i64 (coE P c rows width)]) ∧ Below w.heap.size w w' ∧ (coE P c rows width ≠ 0 → v = .slice none 0 0) ∧
    (coE P c rows width = 0 → w'.ownsRow w.heap.size 3 1 v (cmb P c rows width.toNat).length ((cmb P c rows width.toNat).map (Value.int .i64)))
theorem all_no {α : Type} {p : α → Bool} {l : List α} {j : Nat} (h : j < l.length) (hb : p l[j] = false) : l.all p = false := by
  cases e : l.all p with
  | false => rfl
  | true => rw [List.all_eq_true] at e; have := e _ (List.getElem_mem h); rw [hb] at this; cases this
theorem all_yes {α : Type} {p : α → Bool} {l : List α} (h : ∀ j (h : j < l.length), p l[j] = true) : l.all p = true := by
  rw [List.all_eq_true]
  intro x hx
  obtain ⟨j, hj, rfl⟩ := List.mem_iff_getElem.1 hx
  exact h j hj
def Cm3 (P : Int) (c : List Int) (rows : List (List Int)) (width b : Nat) (w5 : World) (iv : Value) (wr : World) : Prop :=
  ∃ i : Nat, i ≤ rows.length ∧ iv = .int .i64 i ∧ BK wr b (cmbT P c rows width i) ∧ Below w5.heap.size w5 wr
def Cm4 (P : Int) (L : List Int) (x : Int) (r : List Int) (b : Nat) (w5 : World) (iv : Value) (wr : World) : Prop :=
  ∃ k : Nat, k ≤ r.length ∧ iv = .int .i64 k ∧ BK wr b (addT P L 0 x (r.take k)) ∧ Below w5.heap.size w5 wr
set_option maxRecDepth 100000 in
set_option maxHeartbeats 8000000 in
theorem combine_any (P : Int) (c : List Int) (rows : List (List Int)) (width : Int) (vc vr : Value) (w : World) (hP : i64r P) (hc : SI w vc c) (hr : SL w vr rows) :
    Calls Tryz.prog 73 #[.agg #[.int .i64 P], vc, vr, .int .i64 width] w (CmP P c rows width w) := by
  obtain ⟨Ar, cr, rfl, hr1, hr2, hs, hhl, hhs, hha⟩ := hr.heads
  have HHS := Lib.hid hhs
  have HHA := Lib.hid hha
  have HHL := Lib.hid hhl
  have HC := Lib.hid hc
  obtain ⟨Ac, cc, rfl⟩ := hc.form
  clear hc hr hhs hha hhl
  go_enter Tryz.func73, Tryz.ntmps73
  obtain ⟨F, eF⟩ : ∃ F, F = w.heap.size := ⟨_, rfl⟩
  obtain ⟨w1, ew⟩ : ∃ w1 : World, w1 = w.alloc (.cells #[.int .i64 P] 31) := ⟨_, rfl⟩
  have HW1 : Hid (w.alloc (.cells #[.int .i64 P] 31) = w1) := ew.symm
  have HB1 : Hid (Below w.heap.size w w1) := (show Hid _ from by rw [ew]; exact (Below.refl _ w).alloc (Nat.le_refl _) _)
  have HF1 : Hid (w1.heap[F]? = some (.cells #[.int .i64 P] 31 (0, 0))) := (show Hid _ from by show _ = _; rw [ew, eF]; exact heap_alloc_new w _)
  have HEF := Lib.hid eF
  go_upto_region 1 with fail
  rw [HW1.out, ← eF]
  clear ew eF
  have f0 : w1.cell? ⟨F, 0, none⟩ = some (.int .i64 P) := cell_of_row w1 F 0 _ _ _ HF1.out
  go_wp2_with fail
  (with_reducible refine (rcheck_any P _ hP).mono ?_)
  rintro e w2 ⟨rfl, hb2⟩
  have HBw : Hid (Below w.heap.size w w2) := HB1.out.trans (hb2.mono HB1.out.size)
  have HF2 : Hid (w2.heap[F]? = some (.cells #[.int .i64 P] 31 (0, 0))) := (hb2.block F (heap_of_cells HF1.out)).trans HF1.out
  clear hb2 f0
  cases hp : prB P with
  | false =>
    have HE : Hid (coE P c rows width = 9) := (show Hid _ from by show _ = _; unfold coE; rw [hp]; rfl)
    rw [rcE_f hp]
    have d0 : ((9 : Int) != 0) = true := rfl
    clear hp
    go_wp2_with fail
    go_ret2
    exact ⟨_, by rw [HE.out]; rfl, HBw.out, fun _ => rfl, fun h => by rw [HE.out] at h; omega⟩
  | true =>
    have HP := Lib.hid hp
    have hPb := prB_bd hp
    rw [rcE_t hp]
    have d0 : ((0 : Int) != 0) = false := rfl
    clear hp
    by_cases hw0 : width < 0
    · have HE : Hid (coE P c rows width = 4) := (show Hid _ from by show _ = _; unfold coE; rw [HP.out, if_neg (by simp), if_pos (.inl hw0)])
      have d1 : decide (width < 0) = true := decide_eq_true hw0
      go_wp2_with fail
      go_ret2
      exact ⟨_, by rw [HE.out]; rfl, HBw.out, fun _ => rfl, fun h => by rw [HE.out] at h; omega⟩
    · have d1 : decide (width < 0) = false := decide_eq_false hw0
      by_cases hw64 : 64 < width
      · have HE : Hid (coE P c rows width = 4) := (show Hid _ from by show _ = _; unfold coE; rw [HP.out, if_neg (by simp), if_pos (.inr hw64)])
        have d2 : decide (64 < width) = true := decide_eq_true hw64
        go_wp2_with fail
        go_ret2
        exact ⟨_, by rw [HE.out]; rfl, HBw.out, fun _ => rfl, fun h => by rw [HE.out] at h; omega⟩
      · have d2 : decide (64 < width) = false := decide_eq_false hw64
        obtain ⟨wd, rfl⟩ : ∃ n : Nat, width = n := ⟨width.toNat, by omega⟩
        have hwd : wd ≤ 64 := by omega
        by_cases hcl : c.length = rows.length
        · have d3 : ((c.length : Int) != (rows.length : Int)) = false := by rw [bne_eq_false_iff_eq]; omega
          have d3' : (c.length != rows.length) = false := by rw [bne_eq_false_iff_eq]; exact hcl
          have HCL := Lib.hid hcl
          clear hcl hw0 hw64
          go_wp2_with fail
          clear d3 d3'
          go_loopw [38] (fun iv wr => ∃ j : Nat, j ≤ rows.length ∧ iv = .int .i64 j ∧ (∀ q (h : q < rows.length), q < j → rows[q].length = wd) ∧ w2 = wr) (fun iv _ => rows.length - (intOf iv).toNat)
          case atStart => exact ⟨0, Nat.zero_le _, rfl, fun q h1 h2 => by omega, rfl⟩
          case round =>
            obtain ⟨j, hj, rfl, hall, rfl⟩ := hrel
            have HALL := Lib.hid hall
            clear hall
            by_cases hlj : j < rows.length
            · have dj : decide (j < rows.length) = true := decide_eq_true hlj
              obtain ⟨b, off, rfl, hbw, hcell⟩ := HHA.out (by omega)
              have hjh : j < hs.length := by rw [HHL.out]; exact hlj
              obtain ⟨B, d, ehj, hsj⟩ := HHS.out j hjh hlj
              have cj := (HBw.out.cell (p := ⟨b, off + j, none⟩) hbw).trans (hcell j hjh)
              rw [ehj] at cj
              obtain ⟨rl, erl⟩ : ∃ rl, rl = rows[j].length := ⟨_, rfl⟩
              have HRL := Lib.hid erl
              rw [← erl] at cj
              clear hcell ehj hsj erl
              by_cases hne : rl = wd
              · have d3 : ((rl : Int) != (wd : Int)) = false := by rw [bne_eq_false_iff_eq]; omega
                have d3' : (rl != wd) = false := by rw [bne_eq_false_iff_eq]; exact hne
                have HNE := Lib.hid hne
                clear hne
                go_wp2_with fail
                go_roundw
                case rel => exact ⟨j + 1, by omega, by go_num, fun q h1 h2 => by
                  by_cases hq : q < j
                  · exact HALL.out q h1 hq
                  · have : q = j := by omega
                    subst this
                    rw [← HRL.out]; exact HNE.out, by first | trivial | rfl⟩
                case measure => simp [intOf]; omega
              · have d3 : ((rl : Int) != (wd : Int)) = true := by rw [bne_iff_ne]; omega
                have d3' : (rl != wd) = true := by rw [bne_iff_ne]; exact hne
                have HE : Hid (coE P c rows wd = 2) := (show Hid _ from by
                  show _ = _
                  unfold coE
                  rw [HP.out, if_neg (by simp), if_neg (by omega), if_neg (by rw [HCL.out]; simp), if_pos (all_no hlj (by simp; have := HRL.out; omega))])
                clear hne
                go_wp2_with fail
                go_ret2
                exact ⟨_, by rw [HE.out]; rfl, HBw.out, fun _ => rfl, fun h => by rw [HE.out] at h; omega⟩
            · have dj : decide (j < rows.length) = false := decide_eq_false hlj
              have HWD : Hid (∀ q (h : q < rows.length), rows[q].length = wd) := (show Hid _ from fun q h => HALL.out q h (by omega))
              have HAW : Hid ((rows.all fun r => decide ((r.length : Int) = (wd : Int))) = true) := (show Hid _ from all_yes fun q h => decide_eq_true (by have := HWD.out q h; omega))
              have f0 : w2.cell? ⟨F, 0, none⟩ = some (.int .i64 P) := cell_of_row w2 F 0 _ _ _ HF2.out
              clear HALL
              go_wp2_with fail
              (with_reducible refine (rin_any P c _ _ hP (HC.out.below HBw.out)).mono ?_)
              rintro e w3 ⟨rfl, hb3⟩
              have HBw3 : Hid (Below w.heap.size w w3) := HBw.out.trans (hb3.mono HBw.out.size)
              have HF3 : Hid (w3.heap[F]? = some (.cells #[.int .i64 P] 31 (0, 0))) := (hb3.block F (heap_of_cells HF2.out)).trans HF2.out
              clear hb3 f0
              cases hin : inB P c with
              | false =>
                have HE : Hid (coE P c rows wd = 9) := (show Hid _ from by
                  have h : els P c = false := by unfold inB at hin; rw [HP.out] at hin; simpa using hin
                  show _ = _
                  unfold coE
                  rw [HP.out, if_neg (by simp), if_neg (by omega), if_neg (by rw [HCL.out]; simp), HAW.out, if_neg (by simp), h]; rfl)
                clear hin
                go_wp2_with fail
                go_ret2
                exact ⟨_, by rw [HE.out]; rfl, HBw3.out, fun _ => rfl, fun h => by rw [HE.out] at h; omega⟩
              | true =>
                have HEC : Hid (els P c = true) := (show Hid _ from by show _ = _; unfold inB at hin; rw [HP.out] at hin; simpa using hin)
                clear hin
                go_wp2_with fail
                go_loopw [53] (fun iv wr => ∃ j : Nat, j ≤ rows.length ∧ iv = .int .i64 j ∧ (∀ q (h : q < rows.length), q < j → els P rows[q] = true) ∧ Below w3.heap.size w3 wr) (fun iv _ => rows.length - (intOf iv).toNat)
                case atStart => exact ⟨0, Nat.zero_le _, rfl, fun q h1 h2 => by omega, Below.refl _ _⟩
                case round =>
                  obtain ⟨j, hj, rfl, hall, hbr⟩ := hrel
                  have HALL := Lib.hid hall
                  have HBR := Lib.hid hbr
                  have HBwr : Hid (Below w.heap.size w wr) := HBw3.out.trans (hbr.mono HBw3.out.size)
                  have HFr : Hid (wr.heap[F]? = some (.cells #[.int .i64 P] 31 (0, 0))) := (hbr.block F (heap_of_cells HF3.out)).trans HF3.out
                  clear hall hbr
                  by_cases hlj : j < rows.length
                  · have dj : decide (j < rows.length) = true := decide_eq_true hlj
                    obtain ⟨b, off, rfl, hbw, hcell⟩ := HHA.out (by omega)
                    have hjh : j < hs.length := by rw [HHL.out]; exact hlj
                    obtain ⟨B, d, ehj, hsj⟩ := HHS.out j hjh hlj
                    have cj := (HBwr.out.cell (p := ⟨b, off + j, none⟩) hbw).trans (hcell j hjh)
                    rw [ehj] at cj hsj
                    have HSJ : Hid (SI wr (.slice B rows[j].length d) rows[j]) := hsj.below HBwr.out
                    obtain ⟨r, er⟩ : ∃ r, r = rows[j] := ⟨_, rfl⟩
                    rw [← er] at cj HSJ
                    have HR := Lib.hid er
                    have f0 : wr.cell? ⟨F, 0, none⟩ = some (.int .i64 P) := cell_of_row wr F 0 _ _ _ HFr.out
                    clear hcell ehj hsj er
                    go_wp2_with fail
                    (with_reducible refine (rin_any P r _ _ hP HSJ.out).mono ?_)
                    rintro e w4 ⟨rfl, hb4⟩
                    have HB4 := Lib.hid hb4
                    clear hb4 f0 cj
                    cases hin : inB P r with
                    | false =>
                      have HE : Hid (coE P c rows wd = 9) := (show Hid _ from by
                        have h : els P rows[j] = false := by rw [← HR.out]; unfold inB at hin; rw [HP.out] at hin; simpa using hin
                        show _ = _
                        unfold coE
                        rw [HP.out, if_neg (by simp), if_neg (by omega), if_neg (by rw [HCL.out]; simp), HAW.out, if_neg (by simp), HEC.out, if_neg (by simp), if_pos (all_no hlj h)])
                      clear hin
                      go_wp2_with fail
                      go_ret2
                      exact ⟨_, by rw [HE.out]; rfl, HBwr.out.trans (HB4.out.mono HBwr.out.size), fun _ => rfl, fun h => by rw [HE.out] at h; omega⟩
                    | true =>
                      have HER : Hid (els P rows[j] = true) := (show Hid _ from by show _ = _; rw [← HR.out]; unfold inB at hin; rw [HP.out] at hin; simpa using hin)
                      clear hin
                      go_wp2_with fail
                      go_roundw
                      case rel => exact ⟨j + 1, by omega, by go_num, fun q h1 h2 => by
                        by_cases hq : q < j
                        · exact HALL.out q h1 hq
                        · have : q = j := by omega
                          subst this
                          exact HER.out, HBR.out.trans (HB4.out.mono HBR.out.size)⟩
                      case measure => simp [intOf]; omega
                  · have dj : decide (j < rows.length) = false := decide_eq_false hlj
                    have HER : Hid (∀ q (h : q < rows.length), els P rows[q] = true) := (show Hid _ from fun q h => HALL.out q h (by omega))
                    have HE : Hid (coE P c rows wd = 0) := (show Hid _ from by
                      show _ = _
                      unfold coE
                      rw [HP.out, if_neg (by simp), if_neg (by omega), if_neg (by rw [HCL.out]; simp), HAW.out, if_neg (by simp), HEC.out, if_neg (by simp), all_yes HER.out, if_neg (by simp)])
                    clear HALL
                    obtain ⟨w5, ew5⟩ : ∃ w5 : World, w5 = wr := ⟨_, rfl⟩
                    rw [← ew5] at HBwr HFr ⊢
                    clear ew5 HBR
                    have hmk := wd
                    clear hmk
                    go_wp2_with (at_make; refine wpList_make_ints _ rfl _ _ 22 rfl 3 Tryz.underlying22 iinfo _ wd rfl rfl rfl (by omega) ?_)
                    obtain ⟨b, eb⟩ : ∃ b, b = w5.heap.size := ⟨_, rfl⟩
                    obtain ⟨w6, ew6⟩ : ∃ w6 : World, w6 = w5.alloc (.cells ((zeros wd).map (Value.int .i64)).toArray 3) := ⟨_, rfl⟩
                    have HB6 : Hid (Below w5.heap.size w5 w6) := (show Hid _ from by rw [ew6]; exact (Below.refl _ _).alloc (Nat.le_refl _) _)
                    have HK6 : Hid (BK w6 b (cmbT P c rows wd 0)) := (show Hid _ from by rw [ew6, eb]; exact heap_alloc_new w5 _)
                    have HEB := Lib.hid eb
                    have hFb : F < b := by rw [eb]; exact heap_of_cells HFr.out
                    have HRW : Hid (∀ i (h : i < rows.length), ∃ B d, ∀ W, Below w5.heap.size w5 W → (∃ bh oh, Ar = some ⟨bh, oh, none⟩ ∧ W.cell? ⟨bh, oh + i, none⟩ = some (.slice B wd d)) ∧ SI W (.slice B wd d) rows[i]) := (show Hid _ from fun i hi => by
                      obtain ⟨bh, oh, eA, hbh, hcell⟩ := HHA.out (by omega)
                      have hih : i < hs.length := by rw [HHL.out]; exact hi
                      obtain ⟨B, d, ehj, hsj⟩ := HHS.out i hih hi
                      rw [ehj, HWD.out i hi] at hsj
                      refine ⟨B, d, fun W hb => ?_⟩
                      have hbw := HBwr.out.trans (hb.mono HBwr.out.size)
                      have cj := (hbw.cell (p := ⟨bh, oh + i, none⟩) hbh).trans (hcell i hih)
                      rw [ehj, HWD.out i hi] at cj
                      exact ⟨⟨bh, oh, eA, cj⟩, hsj.below hbw⟩)
                    have HCW : Hid (∀ W, Below w5.heap.size w5 W → ∀ i (h : i < c.length), ∃ bh oh, Ac = some ⟨bh, oh, none⟩ ∧ W.cell? ⟨bh, oh + i, none⟩ = some (.int .i64 c[i])) := (show Hid _ from fun W hb i hi => by
                      have hbw := HBwr.out.trans (hb.mono HBwr.out.size)
                      obtain ⟨A2, c2, e2, _, _, _, ha2⟩ := HC.out
                      injection e2 with e21 e22 e23
                      obtain ⟨bh, oh, e3, hbh, hcell⟩ := ha2 (by omega)
                      exact ⟨bh, oh, by rw [e21]; exact e3, (hbw.cell (p := ⟨bh, oh + i, none⟩) hbh).trans (hcell i hi)⟩)
                    have HFW : Hid (∀ W, Below w5.heap.size w5 W → W.cell? ⟨F, 0, none⟩ = some (.int .i64 P)) := (show Hid _ from fun W hb => cell_of_row W F 0 _ _ _ ((hb.block F (heap_of_cells HFr.out)).trans HFr.out))
                    rw [← ew6, ← eb]
                    clear ew6 eb
                    go_wp2_with fail
                    go_loopw [66] (fun iv wr => Cm3 P c rows wd b w5 iv wr) (fun iv _ => rows.length - (intOf iv).toNat)
                    case atStart => exact ⟨0, Nat.zero_le _, rfl, HK6.out, HB6.out⟩
                    case round =>
                      obtain ⟨i, hi, rfl, hbk, hb6⟩ := hrel
                      have HBK := Lib.hid hbk
                      have HB := Lib.hid hb6
                      clear hbk hb6
                      by_cases hli : i < rows.length
                      · have di : decide (i < rows.length) = true := decide_eq_true hli
                        obtain ⟨B, d, hri⟩ := HRW.out i hli
                        obtain ⟨⟨bh, oh, eA, ci⟩, _⟩ := hri _ HB.out
                        subst eA
                        have hsi := fun W hb => (hri W hb).2
                        clear hri
                        have hrl : rows[i].length = wd := HWD.out i hli
                        obtain ⟨r, er⟩ : ∃ r, r = rows[i] := ⟨_, rfl⟩
                        obtain ⟨L, eL⟩ : ∃ L, L = cmbT P c rows wd i := ⟨_, rfl⟩
                        rw [← er] at hsi hrl
                        rw [← eL] at HBK
                        have HLL : Hid (L.length = wd) := (show Hid _ from by show _ = _; rw [eL, cmbT_len])
                        have HLE : Hid (els P L = true) := (show Hid _ from by show _ = _; rw [eL]; exact cmbT_els hPb.1 ..)
                        have HRE : Hid (els P r = true) := (show Hid _ from by show _ = _; rw [er]; exact HER.out i hli)
                        have hic : i < c.length := by rw [HCL.out]; exact hli
                        obtain ⟨x, ex⟩ : ∃ x, x = c[i] := ⟨_, rfl⟩
                        have hxb : 0 ≤ x ∧ x < P := by rw [ex]; exact el_t (els_all HEC.out _ (List.getElem_mem hic))
                        have HNX : Hid (cmbT P c rows wd (i + 1) = addT P L 0 x r) := (show Hid _ from by
                          show _ = _
                          rw [cmbT_succ, ← eL, ex, er, gd_lt hic]
                          unfold gr
                          rw [List.getElem?_eq_getElem hli]; rfl)
                        have HX : Hid (∀ W, Below w5.heap.size w5 W → ∃ bc oc, Ac = some ⟨bc, oc, none⟩ ∧ W.cell? ⟨bc, oc + i, none⟩ = some (.int .i64 x)) := (show Hid _ from fun W hb => by rw [ex]; exact HCW.out W hb i hic)
                        have HSR : Hid (∀ W, Below w5.heap.size w5 W → ∀ k (h : k < r.length), ∃ bb ob, B = some ⟨bb, ob, none⟩ ∧ W.cell? ⟨bb, ob + k, none⟩ = some (.int .i64 r[k])) := (show Hid _ from fun W hb k hk => by
                          obtain ⟨A2, c2, e2, _, _, _, ha2⟩ := hsi W hb
                          injection e2 with e21 e22 e23
                          obtain ⟨bb, ob, e3, hbb, hcell⟩ := ha2 (by omega)
                          exact ⟨bb, ob, by rw [e21]; exact e3, hcell k hk⟩)
                        clear hsi eL er ex
                        rw [← hrl] at ci
                        have hrl64 : r.length ≤ 64 := by omega
                        have hwr := hrl
                        go_wp2_with fail
                        obtain ⟨wo, ewo⟩ : ∃ wo : World, wo = wr := ⟨_, rfl⟩
                        rw [← ewo] at HBK HB ⊢
                        clear ewo ci hwr
                        go_loopw [73] (fun iv wr => Cm4 P L x r b w5 iv wr) (fun iv _ => r.length - (intOf iv).toNat)
                        case atStart => exact ⟨0, Nat.zero_le _, rfl, by rw [List.take_zero, addT_zero]; exact HBK.out, HB.out⟩
                        case round =>
                          obtain ⟨k, hk, rfl, hbk, hb6⟩ := hrel
                          have HBKk := Lib.hid hbk
                          have HBk := Lib.hid hb6
                          clear hbk hb6
                          by_cases hlk : k < r.length
                          · have dk : decide (k < r.length) = true := decide_eq_true hlk
                            obtain ⟨bb, ob, eB, ck⟩ := HSR.out _ HBk.out k hlk
                            subst eB
                            obtain ⟨bc, oc, eC, cx⟩ := HX.out _ HBk.out
                            subst eC
                            have f0 := HFW.out _ HBk.out
                            have hlen2 : (addT P L 0 x (r.take k)).length = wd := by rw [addT_len]; exact HLL.out
                            have htk := HBKk.out.cell (j := k) (by rw [hlen2]; omega)
                            have hfk := HBKk.out.frozen k
                            have hel := el_t (els_gd hPb.1 (addT_els hPb.1 HLE.out 0 x (r.take k)) k)
                            have hel2 := el_t (els_all HRE.out _ (List.getElem_mem hlk))
                            rw [← gd_lt] at htk
                            obtain ⟨t, ht⟩ : ∃ t, t = gd (addT P L 0 x (r.take k)) k := ⟨_, rfl⟩
                            rw [← ht] at htk hel
                            obtain ⟨y, hy⟩ : ∃ y, y = r[k] := ⟨_, rfl⟩
                            rw [← hy] at ck hel2
                            have HST : Hid (addT P L 0 x (r.take (k + 1)) = (addT P L 0 x (r.take k)).set k ((t + x * y) % P)) := by
                              have h := addT_step P L 0 x r k hlk (by have := HLL.out; omega)
                              rw [Nat.zero_add] at h
                              show _ = _
                              rw [ht, hy]; exact h
                            have hxy := mul_bd hxb hel2 hPb.2
                            have w1_ : IntKind.i64.wrap (x * y) = x * y := by exact IntWalk.i64_in _ (by omega)
                            have w2_ : IntKind.i64.wrap (t + x * y) = t + x * y := by exact IntWalk.i64_in _ (by omega)
                            have w3_ : (t + x * y).tmod P = (t + x * y) % P := Int.tmod_eq_emod_of_nonneg (by omega)
                            have w4_ : IntKind.i64.wrap ((t + x * y) % P) = (t + x * y) % P := by
                              have h1 := Int.emod_nonneg (t + x * y) (show P ≠ 0 by omega)
                              have h2 := Int.emod_lt_of_pos (t + x * y) (show 0 < P by omega)
                              exact IntWalk.i64_in _ (by omega)
                            have hP0 : ¬ P = 0 := by omega
                            have z1 : (0 : Int) ≤ (k : Int) := by omega
                            have z2 : (k : Int) < (wd : Int) := by omega
                            have z3 : (0 : Int) ≤ (i : Int) := by omega
                            have z4 : (i : Int) < (c.length : Int) := by omega
                            clear ht hy hlen2 hel hel2 hxy
                            go_upto_region 29 with fail
                            go_region
                            all_goals
                              go_wp2_with fail
                              go_roundw
                              case rel => exact ⟨k + 1, by omega, by go_num, by rw [HST.out]; exact HBKk.out.set _ _, by first | exact HBk.out.setCell (by have := HEB.out; show _ ≤ b; omega) _ | exact (Below.drewN (HBk.out.setCell (by have := HEB.out; show _ ≤ b; omega) _) _)⟩
                              case measure => simp [intOf]; omega
                          · have dk : decide (k < r.length) = false := decide_eq_false hlk
                            have hkk : k = r.length := by omega
                            have HFK : Hid (BK wr b (cmbT P c rows wd (i + 1))) := (show Hid _ from by
                              have h := HBKk.out
                              rw [hkk, List.take_length] at h
                              rw [HNX.out]; exact h)
                            clear hkk
                            go_wp2_with fail
                            go_roundw
                            case rel => exact ⟨i + 1, by omega, by go_num, HFK.out, HBk.out⟩
                            case measure => simp [intOf]; omega
                      · have di : decide (i < rows.length) = false := decide_eq_false hli
                        have HKF : Hid (BK wr b (cmb P c rows wd)) := (show Hid _ from by
                          have h := HBK.out
                          rw [show i = rows.length by omega] at h; exact h)
                        have HBF : Hid (Below w.heap.size w wr) := HBwr.out.trans (HB.out.mono HBwr.out.size)
                        go_wp2_with fail
                        go_ret2
                        refine ⟨_, by rw [HE.out]; rfl, HBF.out, fun h => absurd HE.out h, fun _ => ?_⟩
                        have hl : (cmb P c rows wd).length = wd := cmbT_len ..
                        have h := BK.own HKF.out (base := w.heap.size) (by have := HBwr.out.size; have := HEB.out; omega) (by rw [hl]; omega)
                        rw [hl] at h
                        rw [Int.toNat_natCast, hl]
                        exact h
        · have d3 : ((c.length : Int) != (rows.length : Int)) = true := by rw [bne_iff_ne]; omega
          have d3' : (c.length != rows.length) = true := by rw [bne_iff_ne]; exact hcl
          have HE : Hid (coE P c rows wd = 2) := (show Hid _ from by show _ = _; unfold coE; rw [HP.out, if_neg (by simp), if_neg (by omega), if_pos hcl])
          clear hcl
          go_wp2_with fail
          go_ret2
          exact ⟨_, by rw [HE.out]; rfl, HBw.out, fun _ => rfl, fun h => by rw [HE.out] at h; omega⟩
end Go.Proofs.YtbgabipngdillaaGreatDoor
