/- What a person has signed verifies for it; numbers of which one was changed do not; nothing verifies for who is not there. -/
import Derived.Test.YtmglcjdigpgjlaaMarkL
import Derived.Test.YtmglcjdigpgjlaaMarkS
import Derived.Deep.RegionHeld3
import Derived.Deep.RegionWith
namespace Go.Proofs.Ytmglcjdigpgjlaa
open Go.RowKit Go.Maps

theorem SP_of_ppl {w : World} {base : Nat} {v : Value} {ps : List (Int × Int)} (h : Ppl ps) (hown : w.ownsRow base 31 2 v ps.length ((ps.flatMap pcs).map (Value.int .i64))) (hl : ps.length ≤ 1000) : SP w.heap.size w v ps :=
  SG.of_own hown (fun x hx y hy => by
    obtain ⟨k, hk, rfl⟩ := List.mem_iff_getElem.1 hx
    have h1 := h.1 k hk
    have h2 := h.2.1 k hk
    simp [pcs] at hy
    unfold i64r
    rcases hy with rfl | rfl <;> omega) (fun _ _ => rfl)
theorem own_form {w : World} {base e size n : Nat} {v : Value} {xs : List Value} (h : w.ownsRow base e size v n xs) (hn : 0 < n) : ∃ g cap, v = .slice (some ⟨g, 0, none⟩) n cap ∧ base ≤ g ∧ g < w.heap.size := by
  rcases h.2 with ⟨rfl, hn'⟩ | ⟨g, cap, cur, rfl, hb, hg, hnc, hcm, hcs, htake⟩
  · omega
  · exact ⟨g, cap, rfl, hb, heap_of_cells hg⟩
theorem own_int {w : World} {base e g cap : Nat} {l : List Int} (h : w.ownsRow base e 1 (.slice (some ⟨g, 0, none⟩) l.length cap) l.length (l.map (Value.int .i64))) (j : Nat) (hj : j < l.length) :
    w.cell? ⟨g, j, none⟩ = some (.int .i64 l[j]) := by
  have k0 := h.cellAt j (by omega)
  rw [List.getElem?_map, List.getElem?_eq_getElem hj] at k0
  exact k0
theorem own_cell {w w1 : World} {cs : Array Value} {T : TypeId} (h : Below (w.alloc (.cells cs T)).heap.size (w.alloc (.cells cs T)) w1) (i : Nat) : w1.cell? ⟨w.heap.size, i, none⟩ = cs[i]? := by
  rw [h.cell (by simp), cell_of_row _ w.heap.size i cs T (0, 0) (heap_alloc_new w _)]
theorem SP_nil (B : Nat) (w : World) : SP B w (.slice none 0 0) [] := ⟨none, 0, rfl, Nat.le_refl _, by omega, by simp, fun h => by simp at h⟩
theorem SG.cells {α : Type} {enc : α → List Int} {sz B c n : Nat} {A : Option Addr} {w : World} {l : List α} (h : SG enc sz B w (.slice A n c) l) (h0 : 0 < l.length) :
    ∃ b off, A = some ⟨b, off, none⟩ ∧ b < B ∧ ∀ j (h : j < l.length) i, i < sz → w.cell? ⟨b, off + (j * sz + i), none⟩ = (enc l[j])[i]?.map (Value.int .i64) := by
  obtain ⟨A', c', e, _, _, _, ha⟩ := h
  injection e with e1 e2 e3
  subst e1
  exact ha h0
theorem SB.cells {B c n : Nat} {A : Option Addr} {w : World} {l : List Int} (h : SB B w (.slice A n c) l) (h0 : 0 < l.length) :
    ∃ b off, A = some ⟨b, off, none⟩ ∧ b < B ∧ ∀ j (h : j < l.length), w.cell? ⟨b, off + j, none⟩ = some (.int .i64 l[j]) := by
  obtain ⟨A', c', e, _, _, _, ha⟩ := h
  injection e with e1 e2 e3
  subst e1
  exact ha h0
set_option maxRecDepth 100000 in
set_option maxHeartbeats 4000000 in
theorem mverifies_walk (t l : List Int) (vt vl : Value) (at_ : Nat) (by_ : Int) (w : World) (ht : SI w vt t) (hl : SI w vl l) (hat : at_ < 65536) (hby : i64r by_) :
    Calls Try.prog 4 #[vt, vl, .int .u16 at_, .int .i64 by_] w fun e w' => e = .returned (.bool true) ∧ Below w.heap.size w w' := by
  go_enter Try.func4, Try.ntmps4
  go_wp2_with fail
  (with_reducible refine (msane_any _).mono ?_); rintro e w1 ⟨rfl, hb1⟩
  have ht1 := SI.below ht hb1
  have hl1 := SI.below hl hb1
  have hz1 := hb1.size
  go_wp2_with fail
  (with_reducible refine (few_any t vt _ ht1).mono ?_); rintro e w' ⟨rfl, rfl⟩
  by_cases hf : t.length ≤ 500
  · rw [decide_eq_true hf]
    obtain ⟨Al, cl, rfl, hcl, hml, hrl, hal⟩ := id hl1
    have HAL := Lib.hid hal
    have HRL := Lib.hid hrl
    have HL1 := Lib.hid hl1
    have HL := Lib.hid hl
    clear hal hrl hl1 hl
    by_cases hlen : 1000 < l.length
    · go_wp2_with fail
      go_ret
      exact ⟨rfl, hb1⟩
    · go_wp2_with fail
      (with_reducible refine (new_any t vt _ ht1).mono ?_); rintro e w2 ⟨rfl, hdk2, hb2, hz2⟩
      have hW2 := hb1.trans (hb2.mono hb1.size)
      go_wp2_with fail
      (with_reducible refine (next_any 5 _ _ hdk2 (by unfold i64r; omega) (by omega)).mono ?_); rintro e w3 ⟨x, rfl, _, hx, hdk3, hg3⟩
      have hx' := hx (by omega)
      clear hx
      obtain ⟨n, rfl⟩ : ∃ n : Nat, x = n := ⟨x.toNat, by omega⟩
      have hgw : w.heap.size ≤ w1.heap.size := hz1
      have hW3 := hW2.trans (below_of_grownBy hg3 hgw (by omega))
      go_wp2_with fail
      rw [show (1 : Int) + (n : Int) = ((n + 1 : Nat) : Int) by omega]
      (with_reducible refine (people_any (n + 1) _ _ hdk3 (by omega)).mono ?_); rintro e w4 ⟨v4, ps, rfl, hlen4, hP, hown4, hdk4, hg4⟩
      rw [← hlen4] at hown4
      have hz3 := hg3.size
      have hz4 := hg4.size
      have hW4 := hW3.trans (below_of_grownBy hg4 hgw (by omega))
      have hn5 : ps.length ≤ 5 := by omega
      have hn1 : 1 ≤ ps.length := by omega
      clear hlen4
      obtain ⟨A4, c4, rfl, hcc4, hcm4, _, _⟩ := SP_of_ppl hP hown4 (by omega)
      go_wp2_with fail
      (with_reducible refine (next_any _ _ _ hdk4 (by unfold i64r; omega) (by omega)).mono ?_); rintro e w5 ⟨y, rfl, _, hy, hdk5, hg5⟩
      have hy' := hy (by omega)
      clear hy
      obtain ⟨q, rfl⟩ : ∃ q : Nat, y = q := ⟨y.toNat, by omega⟩
      have hq : q < ps.length := by omega
      have hz5 := hg5.size
      have hW5 := hW4.trans (below_of_grownBy hg5 hgw (by omega))
      have hown5 := hown4.kept hg5 (.inr fun e => by have := (hown4.lt _ e).1; omega)
      have hSP5 := SP_of_ppl hP hown5 (by omega)
      obtain ⟨b, off, hA4, hb, hcell⟩ := SG.cells hSP5 (by omega)
      subst hA4
      have c0 : w5.cell? ⟨b, off + q * 2, none⟩ = some (.int .i64 ps[q].1) := hcell q hq 0 (by omega)
      have c1 : w5.cell? ⟨b, off + q * 2 + 1, none⟩ = some (.int .i64 ps[q].2) := hcell q hq 1 (by omega)
      have hsec := hP.2.1 q hq
      have hid := hP.1 q hq
      have HID := Lib.hid hid
      clear hcell hid
      go_wp2_with fail
      have hW6 : ∀ o, Below w.heap.size w (w5.alloc o) := fun o => hW5.alloc hW5.size _
      have hl6 : ∀ o, SI (w5.alloc o) _ l := fun o => SI.below HL.out (hW6 o)
      (with_reducible refine (msign_any ps[q].2 l _ _ (hl6 _) (by unfold i64r; omega)).mono ?_); rintro e w6 ⟨rfl, hb6⟩
      rw [sgnE_0 (by omega) (by omega)]
      have p0 : w6.cell? ⟨w5.heap.size, 0, none⟩ = some (.int .i64 ps[q].1) := own_cell hb6 0
      have p1 : w6.cell? ⟨w5.heap.size, 1, none⟩ = some (.int .i64 ps[q].2) := own_cell hb6 1
      have hz6 := hb6.size
      simp at hz6
      have hW7 := (hW6 _).trans (hb6.mono (hW6 _).size)
      have hb56 : Below w5.heap.size w5 w6 := ((Below.refl _ _).alloc (Nat.le_refl _) _).trans (hb6.mono (by simp))
      have hSP6 := hSP5.below hb56
      have hl7 := SI.below HL.out hW7
      go_wp2_with fail
      (with_reducible refine (mverify_any ps _ ps[q].1 l _ _ _ (hSP6.more (by omega)) hl7).mono ?_); rintro e w7 ⟨rfl, hb7⟩
      rw [vfy_yes hP (by omega) hq (by omega)]
      have p0 := (hb7.cell (p := ⟨w5.heap.size, 0, none⟩) (Nat.lt_of_lt_of_le (Nat.lt_succ_self _) hz6)).trans p0
      have p1 := (hb7.cell (p := ⟨w5.heap.size, 1, none⟩) (Nat.lt_of_lt_of_le (Nat.lt_succ_self _) hz6)).trans p1
      have hz7 := hb7.size
      have hW8 := hW7.trans (hb7.mono hW7.size)
      have hSP7 := hSP6.below (hb7.mono (by omega))
      have hl8 := SI.below HL.out hW8
      go_wp2_with fail
      (with_reducible refine (mverify_any ps _ 99 l _ _ _ (hSP7.more (by omega)) hl8).mono ?_); rintro e w8 ⟨rfl, hb8⟩
      rw [vfy_out hP 99 (by omega)]
      have p0 := (hb8.cell (p := ⟨w5.heap.size, 0, none⟩) (by show w5.heap.size < _; omega)).trans p0
      have p1 := (hb8.cell (p := ⟨w5.heap.size, 1, none⟩) (by show w5.heap.size < _; omega)).trans p1
      have hz8 := hb8.size
      have hW9 := hW8.trans (hb8.mono hW8.size)
      have hSP8 := hSP7.below (hb8.mono (by omega))
      have hl9 := SI.below HL.out hW9
      go_wp2_with fail
      (with_reducible refine (mverify_any [] _ ps[q].1 l _ _ _ (SP_nil _ _) hl9).mono ?_); rintro e w9 ⟨rfl, hb9⟩
      rw [vfy_nil]
      have p0 := (hb9.cell (p := ⟨w5.heap.size, 0, none⟩) (by show w5.heap.size < _; omega)).trans p0
      have p1 := (hb9.cell (p := ⟨w5.heap.size, 1, none⟩) (by show w5.heap.size < _; omega)).trans p1
      have hz9 := hb9.size
      have hW10 := hW9.trans (hb9.mono hW9.size)
      have hSP9 := hSP8.below (hb9.mono (by omega))
      have hl10 := SI.below HL.out hW10
      by_cases hl0 : l.length = 0
      · have hd : ((l.length : Int) == 0) = true := by rw [beq_iff_eq]; omega
        clear hl0
        go_wp2_with fail
        go_ret
        exact ⟨rfl, hW10⟩
      · have hd : ((l.length : Int) == 0) = false := by rw [beq_eq_false_iff_ne]; omega
        have hlp : 0 < l.length := by omega
        have hkl : at_ % l.length < l.length := Nat.mod_lt _ hlp
        clear hl0
        go_wp2_with (at_builtin; refine wpList_append_ints _ rfl _ _ 22 rfl w9.heap.size 3 Try.underlying22 iinfo (.slice none 0 0) [] rfl (World.ownsRow_nil _ _ _ _) _ _ l rfl hl10 (by simp; omega) (Nat.le_refl _) ?_; intro v10 w10 hown10 hg10; simp only [List.nil_append] at hown10; obtain ⟨g10, cap10, rfl, hg10b, hg10l⟩ := own_form hown10 hlp; have k0 := own_int hown10 _ hkl; have kf := hown10.frozenAt (at_ % l.length))
        obtain ⟨w11, ew⟩ : ∃ w11 : World, w11 = w10.setCell ⟨g10, at_ % l.length, none⟩ (.int .i64 by_) := ⟨_, rfl⟩
        obtain ⟨bl, ol, hAl, hbl, hlc⟩ := SB.cells hl10 hlp
        have hAl' : bl < w1.heap.size := by
          obtain ⟨b', o', e, hb', _⟩ := HAL.out hlp
          rw [hAl] at e
          injection e with e; injection e with e1 e2
          omega
        subst hAl
        have hst := hown10.stored (at_ % l.length) (.int .i64 by_)
        rw [← ew] at hst ⊢
        have hb11 : Below w9.heap.size w9 w11 := by
          rw [ew]
          exact ((Below.refl _ _).grown hg10 (Nat.le_refl _) (by simp [Value.ownBlock])).setCell hg10b _
        have hz11 := hb11.size
        have hO : SI w11 (.slice (some ⟨g10, 0, none⟩) l.length cap10) (l.set (at_ % l.length) by_) := by
          have := SI.of_own (l := l.set (at_ % l.length) by_) (e := 3) (base := w9.heap.size) (w := w11) (v := .slice (some ⟨g10, 0, none⟩) l.length cap10) (by rw [List.length_set, List.map_set]; exact hst.1) (by
            intro x hx
            rcases List.mem_or_eq_of_mem_set hx with h | h
            · exact HRL.out x h
            · rw [h]; exact hby)
          exact this
        have hSP11 := (hSP9.below (hb11.mono (by omega))).more (show w5.heap.size ≤ w11.heap.size by omega)
        have p0 := (hb11.cell (p := ⟨w5.heap.size, 0, none⟩) (by show w5.heap.size < _; omega)).trans p0
        have hlk := (hb11.cell (p := ⟨bl, ol + at_ % l.length, none⟩) (by show bl < _; omega)).trans (hlc _ hkl)
        have hW11 := hW10.trans (hb11.mono hW10.size)
        have hV := Lib.hid (vfy_set hP (by omega) hq (show l.length ≤ 16384 by omega) (at_ % l.length) hkl by_)
        have e1 : 0 ≤ (at_ : Int) % (l.length : Int) := by omega
        have e2 : (at_ : Int) % (l.length : Int) < (l.length : Int) := by omega
        have e3 : ((at_ : Int) % (l.length : Int)).toNat = at_ % l.length := by omega
        clear ew hst hlc
        go_region_held3 (fun w' => w'.cell? ⟨w5.heap.size, 0, none⟩ = some (.int .i64 ps[q].1) ∧ w'.cell? ⟨bl, ol + at_ % l.length, none⟩ = some (.int .i64 l[at_ % l.length])) (first | exact ⟨p0, hlk⟩ | exact ⟨q0, q1⟩ | go_keep)
          (first | (go_at_call 23; refine (mverify_any ps _ ps[q].1 _ _ _ _ (by exact hSP11) (by exact hO)).mono ?_; rintro e w12 ⟨rfl, hb12⟩; have q0 := (hb12.cell (p := ⟨w5.heap.size, 0, none⟩) (show w5.heap.size < w11.heap.size by omega)).trans p0; have q1 := (hb12.cell (p := ⟨bl, ol + at_ % l.length, none⟩) (show bl < w11.heap.size by omega)).trans hlk) | (go_at_call 19; refine (mod_any _ _ _ (by omega) (by omega)).mono ?_; rintro e w' ⟨rfl, rfl⟩))
        go_wp2_with fail
        go_ret
        refine ⟨ret_bool ?_, ?_⟩
        · show (vfy ps ps[q].1 (l.set (at_ % l.length) by_) (sgn ps[q].2 l) == (by_ % 2147483647 == l[at_ % l.length] % 2147483647)) = true
          rw [hV.out, beq_iff_eq, Bool.eq_iff_iff]
          simp only [md, beq_iff_eq]
          exact decide_eq_true_iff
        · exact hW11.drew.trans (hb12.mono hW11.size)
  · rw [decide_eq_false hf]
    go_wp2_with fail
    go_ret
    exact ⟨rfl, hb1⟩
end Go.Proofs.Ytmglcjdigpgjlaa
