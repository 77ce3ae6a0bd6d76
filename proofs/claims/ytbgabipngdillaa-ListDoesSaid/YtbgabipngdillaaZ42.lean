/- Joined: Pe. -/
import Derived.Test.YtbgabipngdillaaZ37
namespace Go.Proofs.Ytbgabipngdillaa
open Go.RowKit Go.Shelf Go.Sort Go.Lib
variable {α : Type} [Inhabited α]

/-- a world of the sort with a counter at c -/
structure CW (enc : α → Value) (w0 : World) (blk : Nat) (dk : Array α) (c : Nat) (W : World) : Prop where
  sw : SW enc w0 blk 0 dk W
  ce : ∃ x : Int, W.cell? ⟨c, 0, none⟩ = some (.int .i64 x)
  fr : W.frozen? ⟨c, 0, none⟩ = false
  le : w0.heap.size ≤ c
  lt : c < W.heap.size
theorem CW.drewN {enc : α → Value} {w0 W : World} {blk c : Nat} {dk : Array α} (h : CW enc w0 blk dk c W) (n : Nat) : CW enc w0 blk dk c (W.drewN n) :=
  ⟨h.sw.drewN n, h.ce, h.fr, h.le, h.lt⟩
theorem CW.set {enc : α → Value} {w0 W : World} {blk c : Nat} {dk : Array α} (h : CW enc w0 blk dk c W) (t : Int) : CW enc w0 blk dk c (W.setCell ⟨c, 0, none⟩ (.int .i64 t)) :=
  ⟨h.sw.setCell_new c 0 _ h.le, ⟨t, World.cell?_setCell_same' _ _ _ (by obtain ⟨x, hx⟩ := h.ce; rw [hx]; rfl)⟩, by rw [World.frozen?_setCell]; exact h.fr, h.le, by simpa using h.lt⟩
theorem CW.start {enc : α → Value} {w0 W : World} {blk : Nat} {dk : Array α} (h : SW enc w0 blk 0 dk W) (T : TypeId) : CW enc w0 blk dk W.heap.size (W.alloc (.cells #[.int .i64 0] T)) :=
  ⟨h.alloc _, ⟨0, by simp⟩, by simp, h.le, by simp⟩

set_option maxHeartbeats 16000000 in
set_option maxRecDepth 1000000 in
theorem order2_any (s : Nat) (enc : α → Value) (cf : α → α → Int) (blk cap a b c : Nat) (d0 d : Array α) (w0 w : World) (hc : OrdW s enc cf blk d0.size w0) (R : Row1 enc w0 blk 0 d0) (hs : d0.size = d.size) (S : CW enc w0 blk d c w) (ha : a < d.size) (hb : b < d.size) (hsz : d.size ≤ 1000000) :
    Calls Try.prog 106 #[.slice (some ⟨blk, 0, none⟩) d.size cap, .int .i64 a, .int .i64 b, .pointer (some ⟨c, 0, none⟩), .func (.func 57) #[.pointer (some ⟨s, 0, none⟩)] #[]] w fun e w' =>
      ∃ x y : Nat, e = .returned (.tuple #[.int .i64 x, .int .i64 y]) ∧ ((x = a ∧ y = b) ∨ (x = b ∧ y = a)) ∧ CW enc w0 blk d c w' := by
  have hcl0 := R.hO.cells
  simp only [Value.cells] at hcl0
  have mixed : Try.prog.follows .mixedOrders = true := by kernel_rfl
  have HC := Lib.hid hc
  have S0 : Hid (CW enc w0 blk d c w) := S
  clear hc S
  go_enter Try.func106, Try.ntmps106
  go_wp2_with fail
  cases hL : ltOf cf d[b]! d[a]! with
  | true =>
    obtain ⟨iA, hiA⟩ : ∃ z, z = b := ⟨_, rfl⟩
    obtain ⟨jA, hjA⟩ : ∃ z, z = a := ⟨_, rfl⟩
    have eaA : ((b : Int)).toNat = iA := by omega
    have paA : (0 : Int) ≤ (b : Int) := by omega
    have baA : (b : Int) < (d.size : Int) := by omega
    have raA : IntKind.i64.wrap ((b : Int)) = (b : Int) := by exact IntWalk.i64_in _ (by omega)
    have ecA : ((a : Int)).toNat = jA := by omega
    have pcA : (0 : Int) ≤ (a : Int) := by omega
    have bcA : (a : Int) < (d.size : Int) := by omega
    have rcA : IntKind.i64.wrap ((a : Int)) = (a : Int) := by exact IntWalk.i64_in _ (by omega)
    obtain ⟨xA, hxA⟩ : ∃ x, x = d[b]! := ⟨_, rfl⟩
    obtain ⟨yA, hyA⟩ : ∃ x, x = d[a]! := ⟨_, rfl⟩
    have laA : ∀ n, (w.drewN n).cell? ⟨blk, iA, none⟩ = some (enc xA) := by rw [hiA, hxA]; exact sw_l0 S0.out.sw R (by omega) (b) (by omega)
    have lbA : ∀ n, (w.drewN n).cell? ⟨blk, jA, none⟩ = some (enc yA) := by rw [hjA, hyA]; exact sw_l0 S0.out.sw R (by omega) (a) (by omega)
    have HOA := Lib.hid (sw_ord S0.out.sw HC.out (by omega) xA yA)
    have hvA : cf xA yA < 0 := by rw [hxA, hyA]; exact of_decide_eq_true hL
    have hdA : decide (cf xA yA < 0) = true := decide_eq_true hvA
    clear hxA hyA hiA hjA
    go_wp2_with fail
    go_quiet_o (first | (go_at_call 57; refine Calls.quiet_of_same (HOA.out _)))
    have S1 : Hid (CW enc w0 blk d c (w.drewN nq)) := S0.out.drewN nq
    clear laA lbA HOA S0
    generalize w.drewN nq = w1 at S1 ⊢
    clear nq
    clear eaA ecA
    obtain ⟨z, hz⟩ := S1.out.ce
    have hf := S1.out.fr
    go_wp2_with fail
    refine bodyPost_ret (v := .tuple #[.int .i64 b, .int .i64 a]) (by simp [results, Try.results106, go_sem]) rfl ?_
    exact ⟨b, a, rfl, .inr ⟨rfl, rfl⟩, S1.out.set _⟩
  | false =>
    obtain ⟨iB, hiB⟩ : ∃ z, z = b := ⟨_, rfl⟩
    obtain ⟨jB, hjB⟩ : ∃ z, z = a := ⟨_, rfl⟩
    have eaB : ((b : Int)).toNat = iB := by omega
    have paB : (0 : Int) ≤ (b : Int) := by omega
    have baB : (b : Int) < (d.size : Int) := by omega
    have raB : IntKind.i64.wrap ((b : Int)) = (b : Int) := by exact IntWalk.i64_in _ (by omega)
    have ecB : ((a : Int)).toNat = jB := by omega
    have pcB : (0 : Int) ≤ (a : Int) := by omega
    have bcB : (a : Int) < (d.size : Int) := by omega
    have rcB : IntKind.i64.wrap ((a : Int)) = (a : Int) := by exact IntWalk.i64_in _ (by omega)
    obtain ⟨xB, hxB⟩ : ∃ x, x = d[b]! := ⟨_, rfl⟩
    obtain ⟨yB, hyB⟩ : ∃ x, x = d[a]! := ⟨_, rfl⟩
    have laB : ∀ n, (w.drewN n).cell? ⟨blk, iB, none⟩ = some (enc xB) := by rw [hiB, hxB]; exact sw_l0 S0.out.sw R (by omega) (b) (by omega)
    have lbB : ∀ n, (w.drewN n).cell? ⟨blk, jB, none⟩ = some (enc yB) := by rw [hjB, hyB]; exact sw_l0 S0.out.sw R (by omega) (a) (by omega)
    have HOB := Lib.hid (sw_ord S0.out.sw HC.out (by omega) xB yB)
    have hvB : ¬ cf xB yB < 0 := by rw [hxB, hyB]; exact of_decide_eq_false hL
    have hdB : decide (cf xB yB < 0) = false := decide_eq_false hvB
    clear hxB hyB hiB hjB
    go_wp2_with fail
    go_quiet_o (first | (go_at_call 57; refine Calls.quiet_of_same (HOB.out _)))
    have S1 : Hid (CW enc w0 blk d c (w.drewN nq)) := S0.out.drewN nq
    clear laB lbB HOB S0
    generalize w.drewN nq = w1 at S1 ⊢
    clear nq
    clear eaB ecB
    go_wp2
    refine bodyPost_ret (v := .tuple #[.int .i64 a, .int .i64 b]) (by simp [results, Try.results106, go_sem]) rfl ?_
    exact ⟨a, b, rfl, .inl ⟨rfl, rfl⟩, S1.out⟩

set_option maxHeartbeats 16000000 in
set_option maxRecDepth 1000000 in
theorem median_any (s : Nat) (enc : α → Value) (cf : α → α → Int) (blk cap x y z c : Nat) (d0 d : Array α) (w0 w : World) (hc : OrdW s enc cf blk d0.size w0) (R : Row1 enc w0 blk 0 d0) (hs : d0.size = d.size) (S : CW enc w0 blk d c w) (hx : x < d.size) (hy : y < d.size) (hz : z < d.size) (hsz : d.size ≤ 1000000) :
    Calls Try.prog 104 #[.slice (some ⟨blk, 0, none⟩) d.size cap, .int .i64 x, .int .i64 y, .int .i64 z, .pointer (some ⟨c, 0, none⟩), .func (.func 57) #[.pointer (some ⟨s, 0, none⟩)] #[]] w fun e w' =>
      ∃ m : Nat, e = .returned (.int .i64 m) ∧ (m = x ∨ m = y ∨ m = z) ∧ CW enc w0 blk d c w' := by
  have HC := Lib.hid hc
  have S0 := Lib.hid S
  clear hc S
  go_enter Try.func104, Try.ntmps104
  go_wp2_with fail
  (with_reducible refine (order2_any s enc cf blk cap x y c d0 d w0 w HC.out R hs S0.out hx hy hsz).mono ?_)
  rintro e w1 ⟨p1, q1, rfl, h1, hS1⟩
  have S1 := Lib.hid hS1
  have hp1 : p1 < d.size := by omega
  have hq1 : q1 < d.size := by omega
  clear hS1
  go_wp2_with fail
  (with_reducible refine (order2_any s enc cf blk cap q1 z c d0 d w0 w1 HC.out R hs S1.out hq1 hz hsz).mono ?_)
  rintro e w2 ⟨p2, q2, rfl, h2, hS2⟩
  have S2 := Lib.hid hS2
  have hp2 : p2 < d.size := by omega
  clear hS2
  go_wp2_with fail
  (with_reducible refine (order2_any s enc cf blk cap p1 p2 c d0 d w0 w2 HC.out R hs S2.out hp1 hp2 hsz).mono ?_)
  rintro e w3 ⟨p3, q3, rfl, h3, hS3⟩
  have S3 := Lib.hid hS3
  clear hS3
  go_wp2_with fail
  go_ret
  exact ⟨q3, rfl, by omega, S3.out⟩

set_option maxHeartbeats 16000000 in
set_option maxRecDepth 1000000 in
theorem medianAdj_any (s : Nat) (enc : α → Value) (cf : α → α → Int) (blk cap x c : Nat) (d0 d : Array α) (w0 w : World) (hc : OrdW s enc cf blk d0.size w0) (R : Row1 enc w0 blk 0 d0) (hs : d0.size = d.size) (S : CW enc w0 blk d c w) (hx0 : 1 ≤ x) (hx : x + 1 < d.size) (hsz : d.size ≤ 1000000) :
    Calls Try.prog 103 #[.slice (some ⟨blk, 0, none⟩) d.size cap, .int .i64 x, .pointer (some ⟨c, 0, none⟩), .func (.func 57) #[.pointer (some ⟨s, 0, none⟩)] #[]] w fun e w' =>
      ∃ m : Nat, e = .returned (.int .i64 m) ∧ x ≤ m + 1 ∧ m ≤ x + 1 ∧ CW enc w0 blk d c w' := by
  have HC := Lib.hid hc
  have S0 := Lib.hid S
  clear hc S
  obtain ⟨p, rfl⟩ : ∃ p, x = p + 1 := ⟨x - 1, by omega⟩
  have hm := median_any s enc cf blk cap p (p + 1) (p + 2) c d0 d w0 w HC.out R hs S0.out (by omega) (by omega) hx hsz
  have e1 : ((p + 1 : Nat) : Int) - 1 = (p : Int) := by omega
  have e2 : ((p + 2 : Nat) : Int) = ((p + 1 : Nat) : Int) + 1 := by omega
  rw [e2] at hm
  obtain ⟨q, hq⟩ : ∃ q : Int, q = ((p + 1 : Nat) : Int) := ⟨_, rfl⟩
  rw [← hq] at hm e1 ⊢
  have HM := Lib.hid hm
  have eq1 : q - 1 = (p : Int) := e1
  have hqr : 1 ≤ q ∧ q ≤ 1000000 := by omega
  have hQ := Lib.hid hq
  clear hm e1 e2 hq
  go_enter Try.func103, Try.ntmps103
  go_wp2_with fail
  (with_reducible refine HM.out.mono ?_)
  rintro e w1 ⟨m, rfl, h1, hS1⟩
  have S1 := Lib.hid hS1
  clear hS1
  go_wp2_with fail
  go_ret
  exact ⟨m, rfl, by omega, by omega, S1.out⟩
end Go.Proofs.Ytbgabipngdillaa
