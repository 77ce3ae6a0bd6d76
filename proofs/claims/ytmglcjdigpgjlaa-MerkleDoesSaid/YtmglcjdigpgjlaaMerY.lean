/- Roots of parts, and the order of neighbours. -/
import Derived.Test.YtmglcjdigpgjlaaMerX
namespace Go.Proofs.Ytmglcjdigpgjlaa
open Go.RowKit

theorem dgs_sub {l : List Int} (h : dgs l = true) (n : Nat) : dgs (l.take n) = true ∧ dgs (l.drop n) = true := by
  have h1 := dgs_all h
  simp only [dgs, List.all_eq_true]
  exact ⟨fun x hx => h1 x (List.mem_of_mem_take hx), fun x hx => h1 x (List.mem_of_mem_drop hx)⟩
theorem lsE_d {l : List Int} (h : l.length ≤ 1024) (hd : dgs l = true) : lsE l = 0 := by unfold lsE; rw [if_neg (by omega), if_pos hd]
/-- l[:n] and l[n:] -/
theorem SI.pre {w : World} {A : Option Addr} {n c : Nat} {l : List Int} (h : SI w (.slice A n c) l) {m : Nat} (hm : m ≤ l.length) : SI w (.slice A m c) (l.take m) := by
  obtain ⟨A', c', e, hc, hcm, hr, ha⟩ := h
  injection e with e1 e2 e3
  subst e1; subst e2; subst e3
  have hlen : (l.take m).length = m := by rw [List.length_take]; omega
  refine ⟨_, _, by rw [hlen], by omega, hcm, fun x hx => hr x (List.mem_of_mem_take hx), fun h0 => ?_⟩
  obtain ⟨b, off, e, hb, hcell⟩ := ha (by omega)
  exact ⟨b, off, e, hb, fun j hj => by rw [List.getElem_take]; exact hcell j (by omega)⟩
theorem SI.suf {w : World} {b off n c : Nat} {l : List Int} (h : SI w (.slice (some ⟨b, off, none⟩) n c) l) {m : Nat} (hm : m < l.length) : SI w (.slice (some ⟨b, off + m, none⟩) (n - m) (c - m)) (l.drop m) := by
  obtain ⟨A', c', e, hc, hcm, hr, ha⟩ := h
  injection e with e1 e2 e3
  subst e1; subst e2; subst e3
  refine ⟨_, _, by rw [List.length_drop], by rw [List.length_drop]; omega, by omega, fun x hx => hr x (List.mem_of_mem_drop hx), fun h0 => ?_⟩
  obtain ⟨b', off', e, hb, hcell⟩ := ha (by omega)
  injection e with e; injection e with e1 e2
  subst e1; subst e2
  refine ⟨_, _, rfl, hb, fun j hj => ?_⟩
  rw [List.length_drop] at hj
  rw [List.getElem_drop, Nat.add_assoc]
  exact hcell (m + j) (by omega)
theorem pow5 (d : Nat) : ∃ N : Nat, N = 2 ^ (d % 5) ∧ wrap64 ((2 : Int) ^ (d % 5)) = (N : Int) ∧ 1 ≤ N ∧ N ≤ 16 := by
  have h : d % 5 = 0 ∨ d % 5 = 1 ∨ d % 5 = 2 ∨ d % 5 = 3 ∨ d % 5 = 4 := by omega
  rcases h with h | h | h | h | h <;> rw [h]
  · exact ⟨1, rfl, (IntWalk.wrap64_in _ ⟨by decide, by decide⟩).trans (by decide), by omega, by omega⟩
  · exact ⟨2, rfl, (IntWalk.wrap64_in _ ⟨by decide, by decide⟩).trans (by decide), by omega, by omega⟩
  · exact ⟨4, rfl, (IntWalk.wrap64_in _ ⟨by decide, by decide⟩).trans (by decide), by omega, by omega⟩
  · exact ⟨8, rfl, (IntWalk.wrap64_in _ ⟨by decide, by decide⟩).trans (by decide), by omega, by omega⟩
  · exact ⟨16, rfl, (IntWalk.wrap64_in _ ⟨by decide, by decide⟩).trans (by decide), by omega, by omega⟩

set_option maxRecDepth 100000 in
set_option maxHeartbeats 4000000 in
theorem mparts_walk (t : List Int) (vt : Value) (dep : Nat) (w : World) (ht : SI w vt t) (hdep : dep < 256) :
    Calls Try.prog 10 #[vt, .int .u8 dep] w fun e w' => e = .returned (.bool true) ∧ Below w.heap.size w w' := by
  obtain ⟨N, hN, hw, hN1, hN2⟩ := pow5 dep
  have HN := Lib.hid hN
  clear hN
  go_enter Try.func10, Try.ntmps10
  go_wp2_with fail
  (with_reducible refine (rsane_any _).mono ?_); rintro e w1 ⟨rfl, hb1⟩
  have ht1 := SI.below ht hb1
  have hz1 := hb1.size
  go_wp2_with fail
  (with_reducible refine (few_any t vt _ ht1).mono ?_); rintro e w' ⟨rfl, rfl⟩
  by_cases hf : t.length ≤ 500
  · rw [decide_eq_true hf]
    go_wp2_with fail
    (with_reducible refine (new_any t vt _ ht1).mono ?_); rintro e w2 ⟨rfl, hdk2, hb2, hz2⟩
    have hW2 := hb1.trans (hb2.mono hb1.size)
    go_wp2_with fail
    (with_reducible refine (leaves_any _ _ hdk2).mono ?_); rintro e w3 ⟨v3, l, rfl, hl, hall, hown3, _, hg3⟩
    have hW3 := hW2.trans (below_of_grownBy hg3 hz1 (by omega))
    obtain ⟨hls, hdl⟩ := lsE_z hl hall
    have hS3 : SI w3 v3 l := SI.of_own hown3 fun x hx => dg_r (hall x hx)
    have HD := Lib.hid hdl
    clear hall hdl hown3
    obtain ⟨A, c, rfl, hcc, hcm, hr3, ha3⟩ := id hS3
    have HS3 := Lib.hid hS3
    have HC := Lib.hid ha3
    clear hS3 ha3 hr3
    by_cases hn1 : l.length ≤ N
    · have hd1 : decide ((l.length : Int) ≤ (N : Int)) = true := by simp; omega
      go_wp2_with fail
      go_ret
      exact ⟨rfl, hW3⟩
    by_cases hn2 : 2 * N < l.length
    · have hd1 : decide ((l.length : Int) ≤ (N : Int)) = false := by simp; omega
      have hd2 : decide (2 * (N : Int) < (l.length : Int)) = true := by simp; omega
      go_wp2_with fail
      go_ret
      exact ⟨rfl, hW3⟩
    have hd1 : decide ((l.length : Int) ≤ (N : Int)) = false := by simp; omega
    have hd2 : decide (2 * (N : Int) < (l.length : Int)) = false := by simp; omega
    have hNl : N < l.length := by omega
    have hNc : N ≤ c := by omega
    have hcN : ¬ c = N := by omega
    obtain ⟨b, off, rfl, hb, hcell⟩ := HC.out (by omega)
    clear hcell
    have hds := dgs_sub HD.out N
    have hp1 := rtE_z (lsE_d (l := l.take N) (by rw [List.length_take]; omega) hds.1)
    have hp2 := rtE_z (lsE_d (l := l.drop N) (by rw [List.length_drop]; omega) hds.2)
    have hq1 := lsE_d (l := l.take N) (by rw [List.length_take]; omega) hds.1
    have hq2 := lsE_d (l := l.drop N) (by rw [List.length_drop]; omega) hds.2
    have hrt := root_parts (dep % 5) (l.take N) (l.drop N) (by rw [List.length_take, ← HN.out]; omega) (by rw [List.length_drop]; omega) (by rw [List.length_drop, ← HN.out]; omega)
    rw [List.take_append_drop] at hrt
    have HRT := Lib.hid hrt
    have HP1 := Lib.hid hp1
    have HP2 := Lib.hid hp2
    have HQ1 := Lib.hid hq1
    have HQ2 := Lib.hid hq2
    have HLS := Lib.hid hls
    clear hds hp1 hp2 hq1 hq2 hrt hls
    go_wp2_with fail
    (with_reducible refine (proot_any (l.take N) _ _ (HS3.out.pre (by omega))).mono ?_); rintro e w4 ⟨rfl, hb4⟩
    rw [HP1.out, HQ1.out]
    have hz4 := hb4.size
    have HS4 := Lib.hid (SI.below HS3.out hb4)
    have hW4 := hW3.trans (hb4.mono hW3.size)
    go_wp2_with fail
    (with_reducible refine (proot_any (l.drop N) _ _ (HS4.out.suf hNl)).mono ?_); rintro e w5 ⟨rfl, hb5⟩
    rw [HP2.out, HQ2.out]
    have HS5 := Lib.hid (SI.below HS4.out hb5)
    have hW5 := hW4.trans (hb5.mono hW4.size)
    go_wp2_with fail
    (with_reducible refine (proot_any l _ _ HS5.out).mono ?_); rintro e w6 ⟨rfl, hb6⟩
    rw [rtE_z HLS.out, HLS.out]
    have hW6 := hW5.trans (hb6.mono hW5.size)
    go_wp2_with fail
    (with_reducible refine (rnode_any _ _ _).mono ?_); rintro e w' ⟨rfl, rfl⟩
    have heq : (root l == node (root (l.take N)) (root (l.drop N))) = true := by rw [beq_iff_eq]; exact HRT.out
    go_wp2_with fail
    go_ret
    exact ⟨rfl, hW6⟩
  · rw [decide_eq_false hf]
    go_wp2_with fail
    go_ret
    exact ⟨rfl, hb1⟩

/-- a list of N digests in the making -/
def LoRel (w : World) (g N : Nat) (v iv : Value) (wr : World) : Prop :=
  ∃ l : List Int, iv = .int .i64 l.length ∧ l.length ≤ N ∧ (∀ x ∈ l, dg x = true) ∧ wr.ownsRow w.heap.size 3 1 v l.length (l.map (Value.int .i64)) ∧ Dk wr g ∧ w.grownBy wr (some g)
theorem root_2 (a b : Int) : root [a, b] = node a b := by rw [root_up (by simp), up_two, root_one]
theorem root_last {l : List Int} {k : Nat} (h : l.length = 2 ^ k) (x : Int) : root (l ++ [x]) = node (root l) x := by
  have hp : 1 ≤ 2 ^ k := Nat.one_le_two_pow
  rw [root_parts k l [x] h (by simp) (by simpa using hp), root_one]
theorem dgs_app {l : List Int} (h : dgs l = true) {x : Int} (hx : dg x = true) : dgs (l ++ [x]) = true := by
  simp only [dgs, List.all_append, Bool.and_eq_true]
  exact ⟨h, by simpa using hx⟩

set_option maxRecDepth 100000 in
set_option maxHeartbeats 4000000 in
theorem morder_walk (t : List Int) (vt : Value) (dep : Nat) (w : World) (ht : SI w vt t) (hdep : dep < 256) :
    Calls Try.prog 11 #[vt, .int .u8 dep] w fun e w' => e = .returned (.bool true) ∧ Below w.heap.size w w' := by
  obtain ⟨N, hN, hw, hN1, hN2⟩ := pow5 dep
  have HN := Lib.hid hN
  clear hN
  go_enter Try.func11, Try.ntmps11
  go_wp2_with fail
  (with_reducible refine (rsane_any _).mono ?_); rintro e w1 ⟨rfl, hb1⟩
  have ht1 := SI.below ht hb1
  have hz1 := hb1.size
  go_wp2_with fail
  (with_reducible refine (few_any t vt _ ht1).mono ?_); rintro e w' ⟨rfl, rfl⟩
  by_cases hf : t.length ≤ 500
  · rw [decide_eq_true hf]
    go_wp2_with fail
    (with_reducible refine (new_any t vt _ ht1).mono ?_); rintro e w2 ⟨rfl, hdk2, hb2, hz2⟩
    have hW2 := hb1.trans (hb2.mono hb1.size)
    have hgl := hdk2.lt
    go_wp2_with fail
    rw [hw]
    go_loopw [7, 30] (fun v i wr => LoRel w2 w1.heap.size N v i wr) (fun _ i _ => N - (intOf i).toNat)
    case atStart => exact ⟨[], rfl, Nat.zero_le _, by simp, World.ownsRow_nil _ _ _ _, hdk2, grownBy_refl _ _⟩
    case round =>
      obtain ⟨l, rfl, hlN, hall, hown, hdk, hgr⟩ := hrel
      have hz := hgr.size
      have HA := Lib.hid hall
      have hnb : ∀ k, u7.ownBlock = some k → w2.heap.size ≤ k := fun k hk => (hown.lt k hk).1
      have HNB := Lib.hid hnb
      clear hall hnb
      by_cases hlt : l.length < N
      · go_wp2_with fail
        (with_reducible refine (next_any 2147483647 _ _ hdk (by unfold i64r; omega) (by omega)).mono ?_); rintro e w3 ⟨y, rfl, _, hy, hdk3, hg3⟩
        have hy' := hy (by omega)
        have hdy := Lib.hid (show dg y = true from decide_eq_true hy')
        have hown3 := hown.kept hg3 (.inr fun e => by have := HNB.out _ e; omega)
        have hz3 := hg3.size
        clear hy
        go_wp2_with (at_builtin; refine wpList_append_int1 _ rfl (.tmp 32) (.tmp 35) 22 rfl w2.heap.size 3 Try.underlying22 iinfo _ l rfl hown3 y rfl (by omega) (by omega) ?_; intro v4 w4 hown4 hg4)
        have hdk4 := (hdk3.alloc (.cells #[.int .i64 y] 3)).grown hg4 (fun k hk => by have := HNB.out k hk; omega)
        have hgr4 := grownBy_own (grownBy_alloc' (grownBy_trans hgr hg3) (.cells #[.int .i64 y] 3)) hg4 HNB.out
        go_roundw
        case rel =>
          refine ⟨l ++ [y], int_eq (by rw [List.length_append]; simp), by rw [List.length_append]; simp; omega, fun x hx => ?_, hown4, hdk4, hgr4⟩
          rcases List.mem_append.1 hx with hx | hx
          · exact HA.out x hx
          · simp at hx; subst hx; exact hdy.out
        case measure => simp [intOf]; omega
      · have hlN' : l.length = N := by omega
        have HLN := Lib.hid (hlN'.trans HN.out)
        have hl16 : l.length ≤ 16 := by omega
        have hl1 : 0 < l.length := by omega
        have hNN : (N : Int) = (l.length : Int) := by omega
        have HNN := Lib.hid hNN
        have hWr := hW2.trans (below_of_grownBy hgr hz1 (by omega))
        clear hlN' hNN
        go_wp2_with fail
        (with_reducible refine (next_any 2147483647 _ _ hdk (by unfold i64r; omega) (by omega)).mono ?_); rintro e w3 ⟨x, rfl, _, hx, hdk3, hg3⟩
        have hx' := hx (by omega)
        clear hx
        have hdx : dg x = true := decide_eq_true hx'
        have hown3 := hown.kept hg3 (.inr fun e => by have := HNB.out _ e; omega)
        have hz3 := hg3.size
        have hW3 := hWr.trans (below_of_grownBy hg3 hz1 (by omega))
        have hdl : dgs l = true := by simpa [dgs] using HA.out
        have hS3 : SI w3 u7 l := SI.of_own hown3 fun z hz => dg_r (HA.out z hz)
        have hls := lsE_d (show l.length ≤ 1024 by omega) hdl
        have hls2 := lsE_d (l := l ++ [x]) (by rw [List.length_append]; simp; omega) (dgs_app hdl hdx)
        have hra := root_dg hdl
        have hrr := dg_t hra
        have hls3 := lsE_d (l := [root l, x]) (by simp) (by simpa [dgs] using ⟨hra, hdx⟩)
        have hls4 := lsE_d (l := [x, root l]) (by simp) (by simpa [dgs] using ⟨hdx, hra⟩)
        have hrt := root_last HLN.out x
        have hpl := path_last _ l x HLN.out
        have hfv := (fd_0 (l := l ++ [x]) (I := l.length) hls2 (by rw [List.length_append]; simp))
        have hsw := node_swap hra hdx
        have HR0 := Lib.hid (rtE_z hls)
        have HR1 := Lib.hid ((rtE_z hls2).trans hrt)
        have HR2 := Lib.hid ((rtE_z hls3).trans (root_2 _ _))
        have HR3 := Lib.hid ((rtE_z hls4).trans (root_2 _ _))
        have HE0 := Lib.hid hls
        have HE1 := Lib.hid hls2
        have HE2 := Lib.hid hls3
        have HE3 := Lib.hid hls4
        have HFV := Lib.hid hfv.1
        have hpl2 : path (l ++ [x]) l.length = [root l] := by rw [HLN.out]; exact hpl
        have HFP := Lib.hid (hfv.2.trans hpl2)
        clear hpl2
        have HSW := Lib.hid hsw
        have HS3 := Lib.hid hS3
        have HDR := Lib.hid (show ∀ z ∈ l ++ [x], i64r z from fun z hz => by
          rcases List.mem_append.1 hz with h | h
          · exact dg_r (HA.out z h)
          · simp at h; subst h; exact dg_r hdx)
        have hrri : i64r (root l) := dg_r hra
        clear hls hls2 hls3 hls4 hra hrt hpl hfv hsw hS3 hdl
        go_wp2_with fail
        (with_reducible refine (proot_any l _ _ HS3.out).mono ?_); rintro e w5 ⟨rfl, hb5⟩
        rw [HR0.out, HE0.out]
        have hW5 := hW3.trans (hb5.mono hW3.size)
        have HS5 := Lib.hid (SI.below HS3.out hb5)
        go_wp2_with (first
          | (at_builtin; refine wpList_append_ints _ rfl (.const (.slice none 0 0)) (.tmp 46) 22 rfl w5.heap.size 3 Try.underlying22 iinfo (.slice none 0 0) [] rfl (World.ownsRow_nil _ _ _ _) _ _ l rfl HS5.out (by simp; omega) (Nat.le_refl _) ?_; intro v6 w6 hown6 hg6; simp only [List.nil_append] at hown6; have hg6r : w5.grownBy w6 none := hg6; have hz6 := hg6r.size; have hW6 := hW5.grown hg6r hW5.size (by simp))
          | (at_builtin; refine wpList_append_int1 _ rfl (.tmp 47) (.tmp 49) 22 rfl w5.heap.size 3 Try.underlying22 iinfo _ l rfl hown6 x rfl (by omega) (by omega) ?_; intro v7 w7 hown7 hg7))
        have hz7 : w6.heap.size ≤ w7.heap.size := by have := hg7.size; simp at this; omega
        have hW7 := (hW6.alloc hW6.size (.cells #[.int .i64 x] 3)).grown hg7 (by have := hW6.size; simp; omega) (fun k hk => by have := (hown6.lt k hk).1; have := hW5.size; omega)
        have HS7 := Lib.hid (SI.of_own hown7 HDR.out)
        (with_reducible refine (proot_any (l ++ [x]) _ _ HS7.out).mono ?_); rintro e w8 ⟨rfl, hb8⟩
        rw [HR1.out, HE1.out]
        have hW8 := hW7.trans (hb8.mono hW7.size)
        have HS8 := Lib.hid (SI.below HS5.out (((Below.refl _ _).grown hg6r (Nat.le_refl _) (by simp)).trans ((((Below.refl _ _).alloc (by omega) (.cells #[.int .i64 x] 3)).grown hg7 (by simp; omega) (fun k hk => (hown6.lt k hk).1)).trans (hb8.mono (by omega)))))
        go_wp2_with (first
          | (at_builtin; refine wpList_append_ints _ rfl (.const (.slice none 0 0)) (.tmp 55) 22 rfl w8.heap.size 3 Try.underlying22 iinfo (.slice none 0 0) [] rfl (World.ownsRow_nil _ _ _ _) _ _ l rfl HS8.out (by simp; omega) (Nat.le_refl _) ?_; intro v9 w9 hown9 hg9; simp only [List.nil_append] at hown9; have hg9r : w8.grownBy w9 none := hg9; have hz9 := hg9r.size; have hW9 := hW8.grown hg9r hW8.size (by simp))
          | (at_builtin; refine wpList_append_int1 _ rfl (.tmp 56) (.tmp 58) 22 rfl w8.heap.size 3 Try.underlying22 iinfo _ l rfl hown9 x rfl (by omega) (by omega) ?_; intro v10 w10 hown10 hg10))
        have hz10 : w9.heap.size ≤ w10.heap.size := by have := hg10.size; simp at this; omega
        have hW10 := (hW9.alloc hW9.size (.cells #[.int .i64 x] 3)).grown hg10 (by have := hW9.size; simp; omega) (fun k hk => by have := (hown9.lt k hk).1; have := hW8.size; omega)
        have HS10 := Lib.hid (SI.of_own hown10 HDR.out)
        rw [HNN.out]
        (with_reducible refine (pfind_any (l ++ [x]) _ (l.length : Int) _ HS10.out (by unfold i64r; omega)).mono ?_); rintro e w11 ⟨v11, rfl, hS11, hb11⟩
        rw [HFV.out]
        rw [HFP.out] at hS11
        have hW11 := hW10.trans (hb11.mono hW10.size)
        obtain ⟨A11, c11, rfl, hcc11, hcm11, _, ha11⟩ := id hS11
        obtain ⟨b11, o11, rfl, hb11', hcell11⟩ := ha11 (by simp)
        have ck0 : w11.cell? ⟨b11, o11, none⟩ = some (.int .i64 (root l)) := hcell11 0 (by simp)
        clear hcell11 ha11 hS11
        have hI2 : ∀ (W : World) (a b : Int), i64r a → i64r b → SI (W.alloc (.cells #[.int .i64 a, .int .i64 b] 3)) (.slice (some ⟨W.heap.size, 0, none⟩) 2 2) [a, b] := fun W a b ha hb => SI_lits W [a, b] _ rfl (by simp) (by intro z hz; simp at hz; rcases hz with rfl | rfl <;> assumption)
        have H2 := Lib.hid hI2
        have hxi : i64r x := dg_r hdx
        clear hI2
        go_wp2_with fail
        obtain ⟨wp, ewp⟩ : ∃ wp : World, wp = w11.alloc (.cells #[.int .i64 l.length, .int .i64 ((l.length : Int) + 1), .slice (some ⟨b11, o11, none⟩) 1 c11] 46) := ⟨_, rfl⟩
        have hbp : Below w11.heap.size w11 wp := by rw [ewp]; exact (Below.refl _ _).alloc (Nat.le_refl _) _
        have hzp : w11.heap.size + 1 = wp.heap.size := by rw [ewp]; simp
        have p2 : wp.cell? ⟨w11.heap.size, 2, none⟩ = some (.slice (some ⟨b11, o11, none⟩) 1 c11) := by rw [ewp]; exact cell_of_row _ _ 2 _ _ (0, 0) (heap_alloc_new w11 _)
        have ckp := (hbp.cell (p := ⟨b11, o11, none⟩) hb11').trans ck0
        have hlp : w11.heap.size < wp.heap.size := by omega
        have hlb : b11 < wp.heap.size := by omega
        have hWp := hW11.trans (hbp.mono hW11.size)
        rw [← ewp, hzp]
        clear ewp ck0
        (with_reducible refine (proot_any [root l, x] _ _ (H2.out wp _ _ hrri hxi)).mono ?_); rintro e w12 ⟨rfl, hb12⟩
        rw [HR2.out, HE2.out]
        have hbA : Below wp.heap.size wp w12 := ((Below.refl _ _).alloc (Nat.le_refl _) _).trans (hb12.mono (by simp))
        have p2a := (hbA.cell (p := ⟨w11.heap.size, 2, none⟩) hlp).trans p2
        have cka := (hbA.cell (p := ⟨b11, o11, none⟩) hlb).trans ckp
        have hza := hbA.size
        have hWa := hWp.trans (hbA.mono hWp.size)
        go_wp2_with fail
        (with_reducible refine (proot_any [x, root l] _ _ (H2.out w12 _ _ hxi hrri)).mono ?_); rintro e w13 ⟨rfl, hb13⟩
        rw [HR3.out, HE3.out]
        have hbB : Below w12.heap.size w12 w13 := ((Below.refl _ _).alloc (Nat.le_refl _) _).trans (hb13.mono (by simp))
        have p2b := (hbB.cell (p := ⟨w11.heap.size, 2, none⟩) (Nat.lt_of_lt_of_le hlp hza)).trans p2a
        have ckb := (hbB.cell (p := ⟨b11, o11, none⟩) (Nat.lt_of_lt_of_le hlb hza)).trans cka
        have hzb := hbB.size
        have hWb := hWa.trans (hbB.mono hWa.size)
        have hl13 : w11.heap.size < w13.heap.size := by omega
        have hl14 : b11 < w13.heap.size := by omega
        clear p2 ckp p2a cka
        go_wp2_with fail
        (with_reducible refine (rnode_any _ _ _).mono ?_); rintro e w' ⟨rfl, rfl⟩
        by_cases e : root l = x
        · have hx1 : (node (root l) x == node x (root l)) = true := by rw [beq_iff_eq]; exact HSW.out.2 e
          have hx2 : (root l == x) = true := by rw [beq_iff_eq]; exact e
          clear e
          go_wp2_with fail
          go_ret
          exact ⟨rfl, hWb⟩
        · have hx1 : (node (root l) x == node x (root l)) = false := by rw [beq_eq_false_iff_ne]; exact fun h => e (HSW.out.1 h)
          have hx2 : (root l == x) = false := by rw [beq_eq_false_iff_ne]; exact e
          clear e
          go_wp2_with fail
          go_ret
          exact ⟨rfl, hWb⟩
  · rw [decide_eq_false hf]
    go_wp2_with fail
    go_ret
    exact ⟨rfl, hb1⟩
end Go.Proofs.Ytmglcjdigpgjlaa
