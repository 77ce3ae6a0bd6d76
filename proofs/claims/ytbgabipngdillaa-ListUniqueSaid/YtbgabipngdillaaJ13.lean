/- Joined: Co Rp Rq Ru De Ln. -/
import Derived.Lib.SliceRun
import Derived.Shelf.SlicesE.Compact
import Derived.Deep.RegionHeld3
import Derived.Test.YtbgabipngdillaaJ12
import Derived.Test.YtbgabipngdillaaJ11
namespace Go.Proofs.Ytbgabipngdillaa
open Go.RowKit Go.Shelf Go.Sort Go.Lib
variable {α : Type} [Inhabited α]

/-- what is left of the first m elements: those that differ from the one before -/
def cpu (eq : α → α → Bool) (d : Array α) : Nat → List α
  | 0 => []
  | m + 1 => cpu eq d m ++ (if m = 0 ∨ eq d[m]! d[m - 1]! = false then [d[m]!] else [])
theorem take_get (d : Array α) (m : Nat) (h : m < d.size) : d.toList.take (m + 1) = d.toList.take m ++ [d[m]!] := by
  have hl : m < d.toList.length := by simpa using h
  rw [List.take_succ_eq_append_getElem hl, getElem!_pos d m h]
  simp
theorem cpu_all (eq : α → α → Bool) (d : Array α) : ∀ m, m ≤ d.size → (∀ j, 1 ≤ j → j < m → eq d[j]! d[j - 1]! = false) → cpu eq d m = d.toList.take m := by
  intro m
  induction m with
  | zero => intro _ _; simp [cpu]
  | succ m ih =>
    intro hm h
    unfold cpu
    rw [ih (by omega) (fun j h1 h2 => h j h1 (by omega)), take_get d m (by omega), if_pos]
    rcases Nat.eq_zero_or_pos m with h0 | h0
    · exact .inl h0
    · exact .inr (h m h0 (by omega))
/-- the row in the middle of the work: the first k places are done -/
structure CI (eq : α → α → Bool) (d : Array α) (m k : Nat) (dk : Array α) : Prop where
  lt : k < m
  size : dk.size = d.size
  low : dk.toList.take k = cpu eq d m
  high : ∀ j, k ≤ j → dk[j]! = d[j]!
theorem CI.len {eq : α → α → Bool} {d dk : Array α} {m k : Nat} (h : CI eq d m k dk) (hm : m ≤ d.size) : (cpu eq d m).length = k := by
  rw [← h.low]
  have := h.size
  have := h.lt
  simp
  omega
theorem CI.skip {eq : α → α → Bool} {d dk : Array α} {m k : Nat} (h : CI eq d m k dk) (he : eq d[m]! d[m - 1]! = true) : CI eq d (m + 1) k dk := by
  refine ⟨by have := h.lt; omega, h.size, ?_, h.high⟩
  rw [h.low]
  have := h.lt
  show cpu eq d m = cpu eq d m ++ _
  rw [if_neg, List.append_nil]
  rintro (h0 | h0)
  · omega
  · rw [he] at h0; cases h0
theorem CI.keep {eq : α → α → Bool} {d dk : Array α} {m k : Nat} (h : CI eq d m k dk) (hm : m < d.size) (he : eq d[m]! d[m - 1]! = false) : CI eq d (m + 1) (k + 1) (dk.setIfInBounds k d[m]!) := by
  have hk := h.lt
  have hs := h.size
  refine ⟨by omega, by simpa using hs, ?_, fun j hj => ?_⟩
  · rw [take_get _ k (by simp; omega), getElem!_set_same dk k _ (by omega)]
    show _ = cpu eq d m ++ _
    rw [if_pos (.inr he), ← h.low]
    congr 1
    apply List.ext_getElem?
    intro j
    simp only [Array.toList_setIfInBounds, List.getElem?_take]
    by_cases hj : j < k
    · rw [if_pos hj, if_pos hj, List.getElem?_set_ne (by omega)]
    · rw [if_neg hj, if_neg hj]
  · rw [getElem!_set_other dk k j _ (by omega)]
    exact h.high j (by omega)
theorem CI.start {eq : α → α → Bool} {d : Array α} {k : Nat} (hk : 1 ≤ k) (hs : k < d.size) (h : ∀ j, 1 ≤ j → j < k → eq d[j]! d[j - 1]! = false) (he : eq d[k]! d[k - 1]! = true) : CI eq d (k + 1) k d := by
  refine ⟨by omega, rfl, ?_, fun _ _ => rfl⟩
  show _ = cpu eq d k ++ _
  rw [cpu_all eq d k (by omega) h, if_neg, List.append_nil]
  rintro (h0 | h0)
  · omega
  · rw [he] at h0; cases h0
theorem CI.done {eq : α → α → Bool} {d dk : Array α} {k : Nat} (h : CI eq d d.size k dk) (zr : α) : dk.toList.take k ++ List.replicate (d.size - k) zr = cpu eq d d.size ++ List.replicate (d.size - (cpu eq d d.size).length) zr := by
  rw [h.low, h.len (Nat.le_refl _)]
/-- what the work asks of the test -/
def EqAt (g : Nat) (enc : α → Value) (eq : α → α → Bool) (blk size : Nat) (w : World) : Prop :=
  ∀ (dk : Array α) (x y : α) (n : Nat), dk.size = size → Calls Try.prog g #[enc x, enc y] ((putRow enc w blk 0 dk).drewN n) fun e w' => e = .returned (.bool (eq x y)) ∧ ((putRow enc w blk 0 dk).drewN n) = w'
theorem store_row (enc : α → Value) {w wr : World} {n blk : Nat} {dk : Array α} {i : Nat} (hi : i < dk.size) (hwr : wr = (putRow enc w blk 0 dk).drewN n) (x : α) :
    wr.setCell ⟨blk, i, none⟩ (enc x) = (putRow enc w blk 0 (dk.setIfInBounds i x)).drewN n := by
  subst hwr
  have := putRow_set enc w blk 0 dk i x hi
  rw [Nat.zero_add] at this
  rw [← this]
  rfl
theorem lay_app (d : Array α) : ∀ (xs : List α) (k : Nat), k + xs.length = d.size → (lay d k xs).toList = d.toList.take k ++ xs := by
  intro xs
  induction xs generalizing d with
  | nil => intro k hk; simp only [List.length_nil, Nat.add_zero] at hk; subst hk; simp only [lay, List.append_nil]; exact (List.take_of_length_le (by simp)).symm
  | cons x xs ih =>
    intro k hk
    simp only [lay]
    simp only [List.length_cons] at hk
    rw [ih (d.setIfInBounds k x) (k + 1) (by simp; omega), take_get _ k (by simp; omega), getElem!_set_same d k x (by omega)]
    simp only [List.append_assoc, List.singleton_append]
    congr 1
    apply List.ext_getElem?
    intro j
    simp only [Array.toList_setIfInBounds, List.getElem?_take]
    by_cases hj : j < k
    · rw [if_pos hj, if_pos hj, List.getElem?_set_ne (by omega)]
    · rw [if_neg hj, if_neg hj]
theorem clear_row (enc : α → Value) {w wr : World} {n blk k m : Nat} {dk : Array α} (hwr : wr = (putRow enc w blk 0 dk).drewN n) (zr : α) (hk : k + m = dk.size) :
    wr.setCells blk k (List.replicate m (enc zr)) = (putRow enc w blk 0 (dk.toList.take k ++ List.replicate m zr).toArray).drewN n := by
  subst hwr
  have h := putRow_setCells enc w blk 0 (List.replicate m zr) dk k (by simp; omega)
  rw [Nat.zero_add, List.map_replicate] at h
  have h2 := lay_app dk (List.replicate m zr) k (by simp; omega)
  have h3 : lay dk k (List.replicate m zr) = (dk.toList.take k ++ List.replicate m zr).toArray := by rw [← h2]
  rw [← h3, ← h]
  have key : ∀ (xs : List Value) (W : World) (j : Nat), (W.drewN n).setCells blk j xs = (W.setCells blk j xs).drewN n := by
    intro xs
    induction xs with
    | nil => intro W j; rfl
    | cons x xs ih => intro W j; exact ih (W.setCell ⟨blk, j, none⟩ x) (j + 1)
  exact key _ _ _

set_option maxHeartbeats 4000000 in
set_option maxRecDepth 1000000 in
theorem compact_any (g : Nat) (eg : g = 59) (enc : α → Value) (h1 : OneCell enc) (eq : α → α → Bool) (zr : α) (hzr : enc zr = .slice none 0 0) (blk cap : Nat) (d : Array α) (w : World) (hc : EqAt g enc eq blk d.size w) (hH : Holds enc w blk 0 d) (hsz : d.size ≤ 1000000) (hcap : d.size ≤ cap) (hcm : cap ≤ maxLen) :
    Calls Try.prog 58 #[.slice (some ⟨blk, 0, none⟩) d.size cap, .func (.func g) #[] #[]] w fun e w' =>
      e = .returned (.slice (some ⟨blk, 0, none⟩) (cpu eq d d.size).length cap) ∧ ∃ q, w' = (putRow enc w blk 0 (cpu eq d d.size ++ List.replicate (d.size - (cpu eq d d.size).length) zr).toArray).drewN q := by
  subst eg
  have hcl0 := h1.cells
  simp only [Value.cells] at hcl0
  have hst := h1.store Try.prog
  have mixed : Try.prog.follows .mixedOrders = true := by kernel_rfl
  have HC := Lib.hid hc
  have HH : Hid (Holds enc w blk 0 d) := hH
  have HZ := Lib.hid hzr
  have HS : Aside (∀ q, (∀ j, 1 ≤ j → j < d.size → eq d[j]! d[j - 1]! = false) → (cpu eq d d.size).length = d.size ∧ w.drewN q = (putRow enc w blk 0 (cpu eq d d.size ++ List.replicate (d.size - (cpu eq d d.size).length) zr).toArray).drewN q) := by
    intro q hall
    have e := cpu_all eq d d.size (Nat.le_refl _) hall
    rw [e]
    refine ⟨by simp, ?_⟩
    have e2 : (List.take d.size d.toList ++ List.replicate (d.size - (List.take d.size d.toList).length) zr).toArray = d := by
      apply Array.toList_inj.1
      have e3 : List.take d.size d.toList = d.toList := List.take_of_length_le (by simp)
      simp [e3]
    rw [e2, putRow_self enc w blk 0 d HH.out]
  clear hc hH hzr
  simp only [maxLen] at hcm
  by_cases h2 : d.size < 2
  · go_enter Try.func58, Try.ntmps58
    have h2z : decide ((d.size : Int) < 2) = true := decide_eq_true (by omega)
    go_wp2_with fail
    go_ret
    obtain ⟨e1, e2⟩ := HS.out 0 (fun j hj1 hj => by omega)
    exact ⟨by rw [e1] <;> rfl, 0, e2⟩
  · go_enter Try.func58, Try.ntmps58
    have h2z : decide ((d.size : Int) < 2) = false := decide_eq_false (by omega)
    go_wp2_with fail
    go_loopg [5] d.size (fun g1 s3 wr => ∃ k q : Nat, 1 ≤ k ∧ k ≤ d.size ∧ d.size - k ≤ g1 ∧ s3 = .int .i64 k ∧ wr = (putRow enc w blk 0 d).drewN q ∧ ∀ j, 1 ≤ j → j < k → eq d[j]! d[j - 1]! = false)
    case atStart => exact ⟨1, 0, Nat.le_refl _, by omega, by omega, rfl, (putRow_self enc w blk 0 d HH.out).symm, fun j h1 h2 => by omega⟩
    case round =>
      obtain ⟨k, q, hk1, hk, hg1, rfl, rfl, hall⟩ := hrel
      have A : Aside (∀ j, 1 ≤ j → j < k → eq d[j]! d[j - 1]! = false) := hall
      clear hall
      by_cases hlt : k < d.size
      · have hHk := holds_putRow enc w blk 0 d d HH.out rfl
        obtain ⟨c1, f1⟩ := hHk k hlt
        obtain ⟨c0, f0⟩ := hHk (k - 1) (by omega)
        simp only [Nat.zero_add] at c1 c0 f1 f0
        obtain ⟨x, hx⟩ : ∃ x, d[k]! = x := ⟨_, rfl⟩
        obtain ⟨y, hy⟩ : ∃ y, d[k - 1]! = y := ⟨_, rfl⟩
        rw [hx] at c1
        rw [hy] at c0
        have B : Aside (d[k]! = x ∧ d[k - 1]! = y) := ⟨hx, hy⟩
        obtain ⟨kp, rfl⟩ : ∃ kp, k = kp + 1 := ⟨k - 1, by omega⟩
        simp only [Nat.add_sub_cancel] at c0 f0
        have c1' : ((putRow enc w blk 0 d).drewN q).cell? ⟨blk, kp + 1, none⟩ = some (enc x) := c1
        have c0' : ((putRow enc w blk 0 d).drewN q).cell? ⟨blk, kp, none⟩ = some (enc y) := c0
        have HCW : Hid (∀ n, Calls Try.prog 59 #[enc x, enc y] (((putRow enc w blk 0 d).drewN q).drewN n) fun e w' => e = .returned (.bool (eq x y)) ∧ (((putRow enc w blk 0 d).drewN q).drewN n) = w') := fun n => by
          have := HC.out d x y (q + n) rfl
          rw [← World.drewN_drewN] at this
          exact this
        clear hx hy c1 c0 f1 f0 hHk
        have hwp : IntKind.i64.wrap (kp : Int) = (kp : Int) := IntWalk.i64_in _ (by omega)
        have jz : (kp : Int) + 1 < (d.size : Int) := by omega
        have jz1 : (kp : Int) < (d.size : Int) := by omega
        have p0 : (0 : Int) ≤ (kp : Int) + 1 := by omega
        have e0 : ((kp : Int) + 1).toNat = kp + 1 := by omega
        generalize hwq : (putRow enc w blk 0 d).drewN q = wq at c1' c0' HCW ⊢
        by_cases hdup : eq x y = true
        · have HD := Lib.hid hdup
          rw [hdup] at HCW
          clear hdup
          have hslk : ((kp : Int) + 1 ≤ (d.size : Int)) := by omega
          have hslk2 : kp + 1 ≤ d.size := by omega
          have hslc : ((kp : Int) + 1 ≤ (cap : Int)) := by omega
          go_wp2_with fail
          go_quiet_o (first | (go_at_call 59; refine Calls.quiet_of_same ((HCW.out _).mono fun e w1 h => ⟨h.1, h.2.symm⟩)))
          go_wp2_with fail
          have hw2 : wq.drewN nq = (putRow enc w blk 0 d).drewN (q + nq) := by rw [← hwq, World.drewN_drewN]
          have HW2 : Hid (wq.drewN nq = (putRow enc w blk 0 d).drewN (q + nq)) := hw2
          clear hw2 hwq c1' c0'
          generalize wq.drewN nq = wq2 at HW2 ⊢
          have CI0 := Lib.hid (CI.start (eq := eq) (by omega) hlt A.out (by simp only [Nat.add_sub_cancel]; rw [B.out.1]; have := B.out.2; simp only [Nat.add_sub_cancel] at this; rw [this]; exact HD.out))
          obtain ⟨L2, hL2⟩ : ∃ L2, d.size - (kp + 1) = L2 := ⟨_, rfl⟩
          obtain ⟨c2, hc2⟩ : ∃ c2, cap - (kp + 1) = c2 := ⟨_, rfl⟩
          obtain ⟨o1, ho1⟩ : ∃ o1, kp + 1 = o1 := ⟨_, rfl⟩
          rw [hL2, hc2, ho1]
          have HL2 : Hid (L2 + o1 = d.size) := by show _ = _; omega
          have HO1 : Hid (o1 < d.size) := by show o1 < d.size; omega
          have ho1i : ((kp : Int) + 1) = (o1 : Int) := by omega
          rw [ho1i]
          rw [ho1] at CI0
          clear hL2 hc2 ho1 ho1i hslk hslk2 hslc B A HCW HD hwp jz jz1 p0 e0 hk1 hk hlt hg1
          go_loopg [5, 7] d.size (fun g2 s5 s7 wr => ∃ (kk k2 q2 : Nat) (dk : Array α), s5 = .int .i64 kk ∧ s7 = .int .i64 k2 ∧ 1 ≤ k2 ∧ k2 ≤ L2 ∧ L2 - k2 ≤ g2 ∧ Hid (wr = (putRow enc w blk 0 dk).drewN q2) ∧ Hid (CI eq d (o1 + k2) kk dk))
          case atStart => exact ⟨o1, 1, q + nq, d, by go_num, by go_num, Nat.le_refl _, by have := HL2.out; have := HO1.out; omega, by have := HL2.out; omega, HW2.out, CI0.out⟩
          case round =>
            obtain ⟨kk, k2, q2, dk, rfl, rfl, hk21, hle, hg2, HWR, HI⟩ := hrel
            have hkk := HI.out.lt
            have hds := Lib.hid HI.out.size
            have hkd : kk < d.size := by have := HL2.out; omega
            have hHk : Holds enc wr blk 0 dk := by rw [HWR.out]; exact holds_putRow enc _ blk 0 d dk HH.out hds.out
            by_cases hlt2 : k2 < L2
            · have hm : o1 + k2 < d.size := by have := HL2.out; omega
              obtain ⟨cm, _⟩ := hHk (o1 + k2) (by rw [hds.out]; omega)
              obtain ⟨cp, _⟩ := hHk (o1 + k2 - 1) (by rw [hds.out]; omega)
              obtain ⟨ck, fk⟩ := hHk kk (by rw [hds.out]; omega)
              rw [HI.out.high (o1 + k2) (by omega)] at cm
              rw [HI.out.high (o1 + k2 - 1) (by omega)] at cp
              simp only [Nat.zero_add] at cm cp ck fk
              clear hHk
              obtain ⟨u, hu⟩ : ∃ u, d[o1 + k2]! = u := ⟨_, rfl⟩
              obtain ⟨v, hv⟩ : ∃ v, d[o1 + k2 - 1]! = v := ⟨_, rfl⟩
              rw [hu] at cm
              rw [hv] at cp
              have C : Aside (d[o1 + k2]! = u ∧ d[o1 + k2 - 1]! = v) := ⟨hu, hv⟩
              clear hu hv
              obtain ⟨old, hold⟩ : ∃ old, dk[kk]! = old := ⟨_, rfl⟩
              rw [hold] at ck
              clear hold
              obtain ⟨k2p, rfl⟩ : ∃ k2p, k2 = k2p + 1 := ⟨k2 - 1, by omega⟩
              rw [show o1 + (k2p + 1) - 1 = o1 + k2p by omega] at cp
              have HCW : Hid (∀ n, Calls Try.prog 59 #[enc u, enc v] (wr.drewN n) fun e w' => e = .returned (.bool (eq u v)) ∧ (wr.drewN n) = w') := fun n => by
                have := HC.out dk u v (q2 + n) hds.out
                rw [← World.drewN_drewN, ← HWR.out] at this
                exact this
              have hwp : IntKind.i64.wrap (k2p : Int) = (k2p : Int) := IntWalk.i64_in _ (by omega)
              have jz : (k2p : Int) + 1 < (L2 : Int) := by omega
              have jz1 : (k2p : Int) < (L2 : Int) := by omega
              have p0 : (0 : Int) ≤ (k2p : Int) + 1 := by omega
              have e0 : ((k2p : Int) + 1).toNat = k2p + 1 := by omega
              have hkdi : (kk : Int) < (d.size : Int) := by omega
              by_cases huv : eq u v = true
              · rw [huv] at HCW
                have HUV := Lib.hid huv
                clear huv
                go_wp2_with fail
                go_quiet_o (first | (go_at_call 59; refine Calls.quiet_of_same ((HCW.out _).mono fun e w1 h => ⟨h.1, h.2.symm⟩)))
                go_wp2
                go_roundg (L2 - (k2p + 1 + 1))
                case measure => omega
                case rel => exact ⟨kk, k2p + 1 + 1, q2 + nq, dk, rfl, by go_num, by omega, by omega, Nat.le_refl _, by show _ = _; rw [HWR.out, World.drewN_drewN], HI.out.skip (by rw [C.out.1, C.out.2]; exact HUV.out)⟩
              · have hd0 : eq u v = false := by simpa using huv
                rw [hd0] at HCW
                have HUV := Lib.hid hd0
                clear huv hd0
                go_wp2_with fail
                go_quiet_o (first | (go_at_call 59; refine Calls.quiet_of_same ((HCW.out _).mono fun e w1 h => ⟨h.1, h.2.symm⟩)))
                have HW3 : Hid (wr.drewN nq = (putRow enc w blk 0 dk).drewN (q2 + nq)) := by show _ = _; rw [HWR.out, World.drewN_drewN]
                have cm2 : (wr.drewN nq).cell? ⟨blk, o1 + (k2p + 1), none⟩ = some (enc u) := cm
                have ck2 : (wr.drewN nq).cell? ⟨blk, kk, none⟩ = some (enc old) := ck
                have fk2 : (wr.drewN nq).frozen? ⟨blk, kk, none⟩ = false := fk
                clear cm cp ck fk HCW
                generalize wr.drewN nq = wq3 at HW3 cm2 ck2 fk2 ⊢
                go_wp2
                go_roundg (L2 - (k2p + 1 + 1))
                case measure => omega
                case rel => exact ⟨kk + 1, k2p + 1 + 1, q2 + nq, dk.setIfInBounds kk u, by go_num, by go_num, by omega, by omega, Nat.le_refl _, store_row enc (by rw [hds.out]; omega) HW3.out u, by have := HI.out.keep hm (by rw [C.out.1, C.out.2]; exact HUV.out); rwa [C.out.1] at this⟩
            · have hend : k2 = L2 := by omega
              subst hend
              have hkc : (kk : Int) ≤ (cap : Int) := by omega
              have hkd' : (kk : Int) ≤ (d.size : Int) := by omega
              have hcl : ∀ ty, (Builtin.clear_ #[34] ty #[.slice (some ⟨blk, kk, none⟩) (d.size - kk) (cap - kk)]).run Try.prog wr = .ok (.tuple #[]) (wr.setCells blk kk (List.replicate (d.size - kk) (.slice none 0 0))) :=
                fun ty => Lib.run_clear_slice wr _ _ ty _ Try.underlying34 Try.zeroValue22 rfl rfl blk kk _ _ (by omega) (fun j hj => by have := (hHk (kk + j) (by rw [hds.out]; omega)).1; rw [Nat.zero_add] at this; rw [this]; rfl) (fun j hj => by have := (hHk (kk + j) (by rw [hds.out]; omega)).2; rw [Nat.zero_add] at this; exact this)
              have HEND : Hid (CI eq d d.size kk dk) := by have h := HI.out; rw [show o1 + k2 = d.size by have := HL2.out; omega] at h; exact h
              clear hHk
              go_wp2
              go_ret
              refine ⟨by rw [HEND.out.len (Nat.le_refl _)] <;> rfl, q2, ?_⟩
              rw [← HEND.out.done zr, ← HZ.out]
              exact clear_row enc HWR.out zr (by rw [hds.out]; omega)
        · have hd0 : eq x y = false := by simpa using hdup
          rw [hd0] at HCW
          go_wp2_with fail
          go_quiet_o (first | (go_at_call 59; refine Calls.quiet_of_same ((HCW.out _).mono fun e w1 h => ⟨h.1, h.2.symm⟩)))
          go_wp2
          go_roundg (d.size - (kp + 1 + 1))
          case measure => omega
          case rel =>
            refine ⟨kp + 1 + 1, _, by omega, by omega, Nat.le_refl _, by go_num, by rw [← hwq, World.drewN_drewN], fun j hj1 hj => ?_⟩
            by_cases e : j = kp + 1
            · subst e
              rw [B.out.1, B.out.2]; exact hd0
            · exact A.out j hj1 (by omega)
      · have hkk : k = d.size := by omega
        subst hkk
        go_wp2
        go_ret
        obtain ⟨e1, e2⟩ := HS.out q A.out
        exact ⟨by rw [e1] <;> rfl, q, by rw [← e2, putRow_self enc w blk 0 d HH.out]⟩
end Go.Proofs.Ytbgabipngdillaa

namespace Go.Proofs.Ytbgabipngdillaa
open Go.RowKit Go.Shelf Go.Sort

/-- ascending strictly -/
def Asc (rs : List (List Int)) : Prop := rs.Pairwise lexlt
theorem gd_ext {a b : List Int} (hl : a.length = b.length) (h : eqz a b) : a = b := by
  apply List.ext_getElem hl
  intro i h1 h2
  have := h i
  rwa [gd_lt h1, gd_lt h2] at this
theorem trim_idem (l : List Int) : trim (trim l) = trim l := by
  induction l with
  | nil => rfl
  | cons c l ih =>
    rw [trim_cons]
    by_cases h : c = 0 ∧ trim l = []
    · rw [if_pos h]; rfl
    · rw [if_neg h, trim_cons, ih, if_neg h]
theorem eqz_trim : ∀ {a b : List Int}, eqz a b → trim a = trim b := by
  intro a
  induction a with
  | nil =>
    intro b h
    rw [trim_nil, trim_zeros (fun k => (h k).symm.trans (by unfold gd; simp))]
  | cons c a ih =>
    intro b h
    cases b with
    | nil => rw [trim_nil, trim_zeros (fun k => (h k).trans (by unfold gd; simp))]
    | cons d b =>
      have h0 := h 0
      have ht : eqz a b := fun i => by have := h (i + 1); simpa [gd] using this
      have hcd : c = d := by simpa [gd] using h0
      rw [trim_cons, trim_cons, ih ht, hcd]
/-- two ascending lists of the same elements are one -/
theorem Asc.ext : ∀ {a b : List (List Int)}, Asc a → Asc b → (∀ p, p ∈ a ↔ p ∈ b) → a = b := by
  intro a
  induction a with
  | nil =>
    intro b _ _ h
    cases b with
    | nil => rfl
    | cons y b => have := (h y).2 (by simp); simp at this
  | cons x a ih =>
    intro b ha hb h
    cases b with
    | nil => have := (h x).1 (by simp); simp at this
    | cons y b =>
      have ha' := List.pairwise_cons.1 ha
      have hb' := List.pairwise_cons.1 hb
      have hxy : x = y := by
        rcases List.mem_cons.1 ((h x).1 (by simp)) with e | e
        · exact e
        · rcases List.mem_cons.1 ((h y).2 (by simp)) with e2 | e2
          · exact e2.symm
          · exact absurd (ha'.1 y e2) (lex_asym (hb'.1 x e))
      subst hxy
      congr 1
      refine ih ha'.2 hb'.2 fun p => ⟨fun hp => ?_, fun hp => ?_⟩
      · rcases List.mem_cons.1 ((h p).1 (by simp [hp])) with e | e
        · subst e; exact absurd (ha'.1 p hp) (lex_irr fun _ => rfl)
        · exact e
      · rcases List.mem_cons.1 ((h p).2 (by simp [hp])) with e | e
        · subst e; exact absurd (hb'.1 p hp) (lex_irr fun _ => rfl)
        · exact e

section
variable {α : Type} [Inhabited α]
theorem cpu_sub (eq : α → α → Bool) (d : Array α) : ∀ m, ∀ x ∈ cpu eq d m, ∃ i, i < m ∧ x = d[i]! := by
  intro m
  induction m with
  | zero => intro x hx; simp [cpu] at hx
  | succ m ih =>
    intro x hx
    rcases List.mem_append.1 hx with h | h
    · obtain ⟨i, hi, e⟩ := ih x h; exact ⟨i, by omega, e⟩
    · split at h
      · simp at h; exact ⟨m, by omega, h⟩
      · simp at h
theorem cpu_all_in (eq : α → α → Bool) (key : α → List Int) (heq : ∀ x y, eq x y = true → eqz (key x) (key y)) (d : Array α) : ∀ m i, i < m → ∃ y ∈ cpu eq d m, eqz (key d[i]!) (key y) := by
  intro m
  induction m with
  | zero => intro i h; omega
  | succ m ih =>
    intro i hi
    by_cases him : i < m
    · obtain ⟨y, hy, h⟩ := ih i him
      exact ⟨y, List.mem_append_left _ hy, h⟩
    · have : i = m := by omega
      subst this
      by_cases hk : i = 0 ∨ eq d[i]! d[i - 1]! = false
      · exact ⟨d[i]!, List.mem_append_right _ (by rw [if_pos hk]; simp), fun _ => rfl⟩
      · have h0 : 0 < i := by omega
        have he : eq d[i]! d[i - 1]! = true := by
          cases h : eq d[i]! d[i - 1]! with
          | true => rfl
          | false => exact absurd (.inr h) hk
        obtain ⟨y, hy, h⟩ := ih (i - 1) (by omega)
        exact ⟨y, List.mem_append_left _ hy, (heq _ _ he).trans h⟩
theorem cpu_asc (eq : α → α → Bool) (key : α → List Int) (heq : ∀ x y, eqz (key x) (key y) → eq x y = true) (d : Array α) (n : Nat) (hs : ∀ i j, i < j → j < n → ¬ lexlt (key d[j]!) (key d[i]!)) : ∀ m, m ≤ n → Asc ((cpu eq d m).map key) := by
  intro m
  induction m with
  | zero => intro _; simp [cpu, Asc]
  | succ m ih =>
    intro hm
    show Asc ((cpu eq d m ++ _).map key)
    rw [List.map_append]
    refine List.pairwise_append.2 ⟨ih (by omega), ?_, ?_⟩
    · split <;> simp
    · intro a ha b hb
      obtain ⟨x, hx, rfl⟩ := List.mem_map.1 ha
      split at hb
      · rename_i hk
        simp at hb
        subst hb
        obtain ⟨i, hi, rfl⟩ := cpu_sub eq d m x hx
        have h0 : 0 < m := by omega
        have hne : eq d[m]! d[m - 1]! = false := by
          rcases hk with h | h
          · omega
          · exact h
        have h1 : lexlt (key d[m - 1]!) (key d[m]!) := by
          rcases lex_or (key d[m]!) (key d[m - 1]!) with h | h | h
          · rw [heq _ _ h] at hne; cases hne
          · exact absurd h (hs (m - 1) m (by omega) (by omega))
          · exact h
        by_cases him : i = m - 1
        · subst him; exact h1
        · rcases lex_or (key d[i]!) (key d[m - 1]!) with h | h | h
          · exact (lex_eqz h fun _ => rfl).2 h1
          · exact lex_trans h h1
          · exact absurd h (hs i (m - 1) (by omega) (by omega))
      · simp at hb
end

/-- what a search finds, and the most places -/
def runS (P : Int) (l : List (Int × Bool)) (k : Nat) (ag : Int) : List (List Int) × Int := (chs l k l.length []).foldl (lookS P l ag) ([], 0)
theorem look_mem (P : Int) (l : List (Int × Bool)) (ag : Int) (cs : List (List (Int × Int))) : ∀ st p, p ∈ (cs.foldl (lookS P l ag) st).1 ↔ p ∈ st.1 ∨ ∃ c ∈ cs, inE P c = 0 ∧ ag ≤ agN P l (inP P c) ∧ p = inP P c := by
  induction cs with
  | nil => intro st p; simp
  | cons c cs ih =>
    intro st p
    rw [List.foldl_cons, ih]
    have h2 : p ∈ (lookS P l ag st c).1 ↔ p ∈ st.1 ∨ (inE P c = 0 ∧ ag ≤ agN P l (inP P c) ∧ p = inP P c) := by
      unfold lookS
      by_cases h0 : inE P c = 0
      · rw [if_pos h0]
        by_cases ha : ag ≤ agN P l (inP P c)
        · simp [ha, h0]
        · simp [ha]
      · rw [if_neg h0]; simp [h0]
    rw [h2]
    constructor
    · rintro ((h | h) | ⟨x, hx, h⟩)
      · exact .inl h
      · exact .inr ⟨c, by simp, h⟩
      · exact .inr ⟨x, by simp [hx], h⟩
    · rintro (h | ⟨x, hx, h⟩)
      · exact .inl (.inl h)
      · rcases List.mem_cons.1 hx with rfl | hx
        · exact .inl (.inr h)
        · exact .inr ⟨x, hx, h⟩
theorem run_mem {P : Int} {l : List (Int × Bool)} {k : Nat} {ag : Int} (p : List Int) : p ∈ (runS P l k ag).1 ↔ ∃ c ∈ chs l k l.length [], inE P c = 0 ∧ ag ≤ agN P l (inP P c) ∧ p = inP P c := by
  unfold runS
  rw [look_mem]
  simp
theorem chs_mem_len (l : List (Int × Bool)) (k : Nat) : ∀ m ch, ∀ c ∈ chs l k m ch, c.length = k := by
  intro m
  induction m with
  | zero => intro ch c hc; unfold chs at hc; split at hc <;> simp at hc; subst hc; assumption
  | succ m ih =>
    intro ch c hc
    unfold chs at hc
    split at hc
    · simp at hc; subst hc; assumption
    · rcases List.mem_append.1 hc with h | h
      · split at h
        · exact ih _ c h
        · simp at h
      · exact ih _ c h
theorem inP_len {P : Int} {c : List (Int × Int)} : (inP P c).length ≤ c.length := by
  unfold inP
  split
  · unfold interp
    refine Nat.le_trans (trim_len _) ?_
    have := (newt_len P c).1
    split at this <;> omega
  · simp
theorem inP_trim {P : Int} {c : List (Int × Int)} : trim (inP P c) = inP P c := by
  unfold inP
  split
  · exact trim_idem _
  · rfl
end Go.Proofs.Ytbgabipngdillaa

namespace Go.Proofs.Ytbgabipngdillaa
open Go.RowKit Go.Shelf Go.Sort Go.Lib

/-- A slice of slices of ints. -/
def RL (w : World) (v : Value) (rs : List (List Int)) : Prop :=
  ∃ A c, v = .slice A rs.length c ∧ rs.length ≤ c ∧ c ≤ 9223372036854775807 ∧
    (0 < rs.length → ∃ b off, A = some ⟨b, off, none⟩ ∧ b < w.heap.size ∧ ∀ j (h : j < rs.length), ∃ u, w.cell? ⟨b, off + j, none⟩ = some u ∧ SI w u rs[j])
theorem RL.below {w w' : World} {v : Value} {rs : List (List Int)} (h : RL w v rs) (hb : Below w.heap.size w w') : RL w' v rs := by
  obtain ⟨A, c, rfl, hc, hm, ha⟩ := h
  refine ⟨A, c, rfl, hc, hm, fun h0 => ?_⟩
  obtain ⟨b, off, rfl, hbl, hcell⟩ := ha h0
  refine ⟨b, off, rfl, by have := hb.size; omega, fun j hj => ?_⟩
  obtain ⟨u, hu, hs⟩ := hcell j hj
  exact ⟨u, (hb.cell hbl).trans hu, hs.below hb⟩
theorem RL.form {w : World} {v : Value} {rs : List (List Int)} (h : RL w v rs) : ∃ A c, v = .slice A rs.length c := by
  obtain ⟨A, c, rfl, _⟩ := h
  exact ⟨A, c, rfl⟩

/-- a slice of ints in w, with what it reads as -/
structure VP (s : Nat) (A : Value) (w : World) where
  a : Option Addr
  c : Nat
  p : List Int
  h1 : SA s A w (.slice a p.length c) p
  h2 : p.length ≤ 1000000
theorem SA.nil (s : Nat) (A : Value) (w : World) : SA s A w (.slice none 0 0) [] := ⟨none, 0, rfl, Nat.le_refl _, by omega, by simp, fun h => by simp at h⟩
instance (s : Nat) (A : Value) (w : World) : Inhabited (VP s A w) := ⟨⟨none, 0, [], SA.nil s A w, by simp⟩⟩
def venc {s : Nat} {A : Value} {w : World} (x : VP s A w) : Value := .slice x.a x.p.length x.c
def vkey {s : Nat} {A : Value} {w : World} (x : VP s A w) : List Int := x.p
def vcf {s : Nat} {A : Value} {w : World} (x y : VP s A w) : Int := cmpV (vkey x) (vkey y)
def veq {s : Nat} {A : Value} {w : World} (x y : VP s A w) : Bool := cmpV (vkey x) (vkey y) == 0
theorem venc_one {s : Nat} {A : Value} {w : World} : OneCell (venc (s := s) (A := A) (w := w)) := fun _ => rfl
theorem ltOf_iff {s : Nat} {A : Value} {w : World} (x y : VP s A w) : ltOf vcf x y = true ↔ lexlt (vkey x) (vkey y) := by
  unfold ltOf vcf
  rw [decide_eq_true_iff]
  exact cmpV_lt _ _
theorem ltOf_niff {s : Nat} {A : Value} {w : World} (x y : VP s A w) : ltOf vcf x y = false ↔ ¬ lexlt (vkey x) (vkey y) := by
  rw [← ltOf_iff]
  simp
theorem vswo {s : Nat} {A : Value} {w : World} : SWO (ltOf (vcf (s := s) (A := A) (w := w))) where
  irrefl x := (ltOf_niff x x).2 (lex_irr fun _ => rfl)
  trans x y z h1 h2 := (ltOf_iff x z).2 (lex_trans ((ltOf_iff x y).1 h1) ((ltOf_iff y z).1 h2))
  ntrans x y z h1 h2 := by
    rw [ltOf_niff] at *
    intro h
    rcases lex_or (vkey x) (vkey y) with e | e | e
    · exact h2 ((lex_eqz e fun _ => rfl).1 h)
    · exact h1 e
    · exact h2 (lex_trans e h)
theorem veq_iff {s : Nat} {A : Value} {w : World} (x y : VP s A w) : veq x y = true ↔ eqz (vkey x) (vkey y) := by
  unfold veq
  rw [beq_iff_eq]
  exact cmpV_eq _ _
theorem VP.sa {s : Nat} {A : Value} {w : World} (x : VP s A w) : SA s A w (venc x) (vkey x) := x.h1
theorem VP.len {s : Nat} {A : Value} {w : World} (x : VP s A w) : (vkey x).length ≤ 1000000 := x.h2
/-- the row laid anew turns no other block -/
theorem put_move {α : Type} [Inhabited α] {s : Nat} {A : Value} {w : World} (enc : α → Value) {blk n : Nat} (hA : A.ownBlock = some blk) (dk : Array α) : LMv s A w A ((putRow enc w blk 0 dk).drewN n) := by
  refine ⟨rfl, rfl, rfl, by simp [putRow, mapBlock, World.drewN], fun k hk _ hne => ?_, fun _ h => .inl h⟩
  have : ¬ blk = k := fun e => hne (by rw [hA, e])
  show (putRow enc w blk 0 dk).heap[k]? = _
  simp [putRow, mapBlock, Array.getElem?_modify, this]
theorem put_block {α : Type} [Inhabited α] {w : World} (enc : α → Value) {blk n k : Nat} (hne : ¬ blk = k) (dk : Array α) : ((putRow enc w blk 0 dk).drewN n).heap[k]? = w.heap[k]? := by
  show (putRow enc w blk 0 dk).heap[k]? = _
  simp [putRow, mapBlock, Array.getElem?_modify, hne]
/-- the elements of what was found -/
theorem vps {s : Nat} {A : Value} {w : World} : ∀ (vs : List Value) (ps : List (List Int)), vs.length = ps.length → (∀ j (h : j < vs.length) (h2 : j < ps.length), SA s A w vs[j] ps[j]) → (∀ p ∈ ps, p.length ≤ 1000000) → ∃ xs : List (VP s A w), xs.map venc = vs ∧ xs.map vkey = ps := by
  intro vs
  induction vs with
  | nil => intro ps hl _ _; cases ps with
           | nil => exact ⟨[], rfl, rfl⟩
           | cons p ps => simp at hl
  | cons v vs ih =>
    intro ps hl h hb
    cases ps with
    | nil => simp at hl
    | cons p ps =>
      obtain ⟨xs, h1, h2⟩ := ih ps (by simpa using hl) (fun j hj hj2 => by have := h (j + 1) (by simp; omega) (by simp; omega); simpa using this) (fun q hq => hb q (by simp [hq]))
      have h0 := h 0 (by simp) (by simp)
      simp only [List.getElem_cons_zero] at h0
      have h0' := h0
      obtain ⟨P, c, rfl, _⟩ := h0
      exact ⟨⟨P, c, p, h0', hb p (by simp)⟩ :: xs, by simp [venc, h1], by simp [vkey, h2]⟩
theorem holds_own {α : Type} [Inhabited α] {enc : α → Value} {w : World} {base e blk cap n : Nat} {xs : List α} (h : w.ownsRow base e 1 (.slice (some ⟨blk, 0, none⟩) n cap) n (xs.map enc)) : Holds enc w blk 0 xs.toArray ∧ xs.length = n ∧ n ≤ cap ∧ cap ≤ maxLen ∧ blk < w.heap.size := by
  have hl : xs.length = n := by have := h.1; simpa using this
  rcases h.2 with ⟨h0, _⟩ | ⟨g', cap', cur, h0, hb, hg, hnc, hcm, hcs, htake⟩
  · cases h0
  · injection h0 with h1 h2 h3
    injection h1 with h1
    injection h1 with h1
    subst h1
    subst h3
    refine ⟨fun j hj => ?_, hl, hnc, hcm, heap_of_cells hg⟩
    have hj' : j < xs.length := by simpa using hj
    refine ⟨?_, frozen_of_row w blk (0 + j) cur e hg⟩
    have := h.cellAt j (by omega)
    rw [Nat.zero_add]
    rw [this, List.getElem?_map, List.getElem?_eq_getElem hj', getElem!_pos _ j (by simpa using hj')]
    simp
end Go.Proofs.Ytbgabipngdillaa

namespace Go.Proofs.Ytbgabipngdillaa
open Go.RowKit Go.Shelf Go.Sort Go.Lib

theorem order_row {s blk n cap : Nat} {w : World} (hA : (Value.slice (some ⟨blk, 0, none⟩) n cap).ownBlock = some blk) {size : Nat} :
    OrdAt s (venc (s := s) (A := .slice (some ⟨blk, 0, none⟩) n cap) (w := w)) vcf blk size w := fun dk x y _ _ =>
  order_any (vkey x) (vkey y) _ _ _ _ ((x.sa.keep (put_move venc hA dk)).si) ((y.sa.keep (put_move venc hA dk)).si) x.len y.len
theorem eq_row {s blk : Nat} {A : Value} {w w2 : World} (hA : A.ownBlock = some blk) (hm : LMv s A w A w2) {size : Nat} :
    EqAt 59 (venc (s := s) (A := A) (w := w)) veq blk size w2 := fun dk x y _ _ =>
  run1_any (vkey x) (vkey y) _ _ _ (((x.sa.keep hm).keep (put_move venc hA dk)).si) (((y.sa.keep hm).keep (put_move venc hA dk)).si) x.len y.len
theorem get_app {α : Type} [Inhabited α] (a b : List α) (j : Nat) (h : j < a.length) : (a ++ b).toArray[j]! = a[j] := by
  rw [getElem!_pos _ j (by simp; omega)]
  simp [h]
/-- what the compaction leaves of the sorted row -/
theorem fin_row {s blk cap n : Nat} {A : Value} {w w2 w3 : World} (hA : A.ownBlock = some blk) (hm : LMv s A w A w2) (hblk : blk < w.heap.size) (xs d1 : Array (VP s A w)) (hn : xs.size = n) (hp : PermIn 0 n xs d1) (hs : SortedIn (ltOf vcf) 0 n d1) (hH : Holds venc w2 blk 0 d1) (hcap : n ≤ cap) (hcm : cap ≤ maxLen) {q : Nat}
    (hw3 : w3 = (putRow venc w2 blk 0 (cpu veq d1 d1.size ++ List.replicate (d1.size - (cpu veq d1 d1.size).length) (default : VP s A w)).toArray).drewN q) (ht : ∀ x ∈ xs.toList, trim (vkey x) = vkey x) :
    RL w3 (.slice (some ⟨blk, 0, none⟩) (cpu veq d1 d1.size).length cap) ((cpu veq d1 d1.size).map vkey) ∧ Asc ((cpu veq d1 d1.size).map vkey) ∧ (∀ p, p ∈ (cpu veq d1 d1.size).map vkey ↔ p ∈ xs.toList.map vkey) := by
  have hsz : d1.size = n := hp.1.trans hn
  have hlen : (cpu veq d1 d1.size).length ≤ d1.size := by
    have key : ∀ m, (cpu veq d1 m).length ≤ m := by
      intro m
      induction m with
      | zero => simp [cpu]
      | succ m ih =>
        show (cpu veq d1 m ++ _).length ≤ _
        rw [List.length_append]
        split <;> simp <;> omega
    exact key _
  have hsz2 : (cpu veq d1 d1.size ++ List.replicate (d1.size - (cpu veq d1 d1.size).length) (default : VP s A w)).toArray.size = d1.size := by simp; omega
  refine ⟨⟨_, cap, by simp, by simp; omega, by simp only [maxLen] at hcm; omega, fun h0 => ⟨blk, 0, rfl, ?_, fun j hj => ?_⟩⟩, ?_, ?_⟩
  · rw [hw3]
    have := (put_move (n := q) venc hA (cpu veq d1 d1.size ++ List.replicate (d1.size - (cpu veq d1 d1.size).length) (default : VP s A w)).toArray : LMv s A w2 A _).size
    have := hm.size
    omega
  · have hj' : j < (cpu veq d1 d1.size).length := by simpa using hj
    refine ⟨venc (cpu veq d1 d1.size)[j], ?_, ?_⟩
    · have := (holds_putRow venc w2 blk 0 d1 _ hH hsz2 j (by rw [hsz2]; omega)).1
      rw [get_app _ _ j hj'] at this
      rw [hw3]
      exact this
    · rw [List.getElem_map, hw3]
      exact (((cpu veq d1 d1.size)[j].sa.keep hm).keep (put_move venc hA _)).si
  · exact cpu_asc veq vkey (fun x y h => (veq_iff x y).2 h) d1 d1.size (fun i j hij hj => (ltOf_niff _ _).1 (hs i j (by omega) hij (by omega))) d1.size (Nat.le_refl _)
  · have hperm : ∀ x, x ∈ d1.toList ↔ x ∈ xs.toList := by
      have h3 := hp.2.2
      have e1 : d1.extract 0 n = d1 := by rw [← hsz]; simp
      have e2 : xs.extract 0 n = xs := by rw [← hn]; simp
      rw [e1, e2] at h3
      exact fun x => h3.mem_iff
    intro p
    constructor
    · intro h
      obtain ⟨x, hx, rfl⟩ := List.mem_map.1 h
      obtain ⟨i, hi, rfl⟩ := cpu_sub veq d1 _ x hx
      refine List.mem_map.2 ⟨_, (hperm _).1 ?_, rfl⟩
      rw [getElem!_pos d1 i hi]
      exact Array.getElem_mem_toList hi
    · intro h
      obtain ⟨x, hx, rfl⟩ := List.mem_map.1 h
      have hxd := (hperm x).2 hx
      obtain ⟨i, hi, rfl⟩ := List.getElem_of_mem hxd
      have hi' : i < d1.size := by simpa using hi
      obtain ⟨y, hy, he⟩ := cpu_all_in veq vkey (fun x y h => (veq_iff x y).1 h) d1 d1.size i hi'
      rw [getElem!_pos d1 i hi'] at he
      have hyx : y ∈ xs.toList := by
        obtain ⟨j, hj, rfl⟩ := cpu_sub veq d1 _ y hy
        rw [getElem!_pos d1 j hj]
        exact (hperm _).1 (Array.getElem_mem_toList hj)
      refine List.mem_map.2 ⟨y, hy, ?_⟩
      have := eqz_trim he
      rw [ht y hyx] at this
      have e5 : d1.toList[i] = d1[i] := by simp
      rw [e5]
      have e6 := ht _ hx
      rw [e5] at e6
      rw [e6] at this
      exact this.symm
theorem mem_of_map {α β : Type} {f : α → β} {xs : List α} {ps : List β} (h : xs.map f = ps) {x : α} (hx : x ∈ xs) : f x ∈ ps := h ▸ List.mem_map_of_mem hx
theorem mem_map_iff {α β : Type} {f : α → β} {xs : List α} {ps : List β} (h : xs.map f = ps) (p : β) : p ∈ xs.map f ↔ p ∈ ps := by rw [h]
theorem trim_found {P : Int} {l : List (Int × Bool)} {k : Nat} {ag : Int} : ∀ p ∈ (runS P l k ag).1, trim p = p ∧ p.length ≤ k := by
  intro p hp
  obtain ⟨c, hc, _, _, rfl⟩ := (run_mem p).1 hp
  exact ⟨inP_trim, by have := chs_mem_len _ _ _ _ c hc; have := @inP_len P c; omega⟩

set_option maxRecDepth 100000 in
set_option maxHeartbeats 4000000 in
theorem run_any (P : Int) (l : List (Int × Bool)) (k : Nat) (ag : Int) (vl : Value) (w : World) (hP : i64r P) (hl : SCl w vl l) (hz : l.length ≤ 10) (hk : k ≤ 1000) (h12 : (runS P l k ag).1.length ≤ 12) :
    Calls Try.prog 32 #[.agg #[.int .i64 P], vl, .int .i64 k, .int .i64 ag] w fun e w' => ∃ v rs, e = .returned (.tuple #[v, .int .i64 (runS P l k ag).2]) ∧ RL w' v rs ∧ Asc rs ∧ (∀ p, p ∈ rs ↔ p ∈ (runS P l k ag).1) ∧ Below w.heap.size w w' := by
  have HL := Lib.hid hl
  have H12 := Lib.hid h12
  obtain ⟨Al, cl, rfl⟩ := hl.form
  obtain ⟨mst, hms⟩ : ∃ mst, (runS P l k ag).2 = mst := ⟨_, rfl⟩
  have HMS := Lib.hid hms
  rw [hms]
  clear hl h12 hms
  go_enter Try.func32, Try.ntmps32
  go_upto_region 2 with fail
  obtain ⟨wa, ewa⟩ : ∃ wa : World, wa = w.alloc (.cells #[.int .i64 P] 26) := ⟨_, rfl⟩
  obtain ⟨wb, ewb⟩ : ∃ wb : World, wb = (w.alloc (.cells #[.int .i64 P] 26)).alloc (.cells #[.int .i64 P, .slice Al l.length cl, .int .i64 k, .int .i64 ag, .slice none 0 0, .int .i64 0] 101) := ⟨_, rfl⟩
  have hBb : Below w.heap.size w wb := by rw [ewb]; exact ((Below.refl _ w).alloc (Nat.le_refl _) _).alloc (by simp) _
  have hTb : LSt (w.heap.size + 1) P (.slice Al l.length cl) k ag wb (.slice none 0 0) [] 0 := by
    refine ⟨?_, [], World.ownsRow_nil _ _ _ _, fun j h1 h2 => by simp at h1⟩
    rw [ewb]
    have := heap_alloc_new (w.alloc (.cells #[.int .i64 P] 26)) (.cells #[.int .i64 P, .slice Al l.length cl, .int .i64 k, .int .i64 ag, .slice none 0 0, .int .i64 0] 101)
    simpa using this
  have HBb := Lib.hid hBb
  have HTb := Lib.hid hTb
  rw [← ewb]
  clear ewa ewb hBb hTb
  obtain ⟨s, hs⟩ : ∃ s, w.heap.size + 1 = s := ⟨_, rfl⟩
  have HS := Lib.hid hs
  rw [hs] at HTb ⊢
  clear hs
  have hch := choose_any P l k ag s (.slice Al l.length cl) w hP HL.out (by have := HS.out; omega) (by omega) hk l.length [] (.slice none 0 0) (.slice none 0 0) [] 0 wb (Nat.le_refl _) (Nat.zero_le _) HBb.out HTb.out
    ⟨none, 0, rfl, Nat.le_refl _, by omega, by simp, fun _ => ⟨rfl, rfl⟩, fun h => by simp at h⟩ (by
      have : 2 ^ l.length ≤ 2 ^ 10 := Nat.pow_le_pow_right (by omega) hz
      simp only [List.length_nil]
      omega)
  rw [Nat.sub_self, show ((0 : Nat) : Int) = 0 from rfl] at hch
  have HCH := Lib.hid hch
  clear hch
  go_wp2_with fail
  (with_reducible refine HCH.out.mono ?_)
  rintro e w1 ⟨rfl, A1, hT1, hM1⟩
  have HT1 : Hid (LSt s P (.slice Al l.length cl) k ag w1 A1 (runS P l k ag).1 (runS P l k ag).2) := hT1
  have HM1 := Lib.hid hM1
  clear hT1 hM1 HCH
  have hsw : s < w1.heap.size := HT1.out.lt.1
  have q4 : w1.cell? ⟨s, 4, none⟩ = some A1 := cell_of_row w1 s 4 _ _ _ HT1.out.cells
  have q5 : w1.cell? ⟨s, 5, none⟩ = some (.int .i64 (runS P l k ag).2) := cell_of_row w1 s 5 _ _ _ HT1.out.cells
  have HB1 : Hid (Below w.heap.size w w1) := HBb.out.trans (HM1.out.below (fun g hg => (HTb.out.lt.2 g hg).1) (by have := HS.out; omega) (Nat.le_of_lt HTb.out.lt.1))
  obtain ⟨ps, hps⟩ : ∃ ps, (runS P l k ag).1 = ps := ⟨_, rfl⟩
  have HTF : Hid (∀ p ∈ ps, trim p = p ∧ p.length ≤ k) := by show ∀ p ∈ ps, _; rw [← hps]; exact trim_found
  have HPS0 := Lib.hid hps
  rw [hps] at HT1 H12
  clear hps
  obtain ⟨vs, ho, hv⟩ := HT1.out.own
  obtain ⟨xs, hx1, hx2⟩ := vps vs ps (by have := ho.1; omega) hv (fun p hp => by have := (HTF.out p hp).2; omega)
  have hxl : xs.length = ps.length := by rw [← hx2]; simp
  rw [HMS.out] at q5 HT1
  have HT1 := HT1.out
  have HT2 := Lib.hid HT1
  clear HT1
  rcases ho.2 with ⟨rfl, h0⟩ | ⟨g, cap, cur, rfl, hgs, hgl, _⟩
  · have hrs : ps = [] := List.eq_nil_of_length_eq_zero h0
    have HRS := Lib.hid hrs
    clear hrs h0 hx1 hx2 hxl ho hv
    go_wp2_with fail
    (with_reducible refine (sort_nil _ _ _).mono ?_)
    rintro e w2 ⟨rfl, rfl⟩
    go_wp2_with fail
    go_region_held3 (fun w' => w'.cell? ⟨s, 4, none⟩ = some (.slice none 0 0) ∧ w'.cell? ⟨s, 5, none⟩ = some (.int .i64 mst)) (first | exact ⟨q4, q5⟩ | exact ⟨t4, t5⟩ | go_keep)
      (first | (go_at_call 58; refine (compact_nil _ _).mono ?_; rintro e w3 ⟨rfl, rfl⟩; have t4 := q4; have t5 := q5))
    go_wp2_with fail
    refine bodyPost_ret (v := .tuple #[.slice none 0 0, .int .i64 mst]) (by simp [results, Try.results32, go_sem]) rfl ⟨_, [], rfl, ⟨none, 0, rfl, Nat.le_refl _, by omega, fun h => by simp at h⟩, List.Pairwise.nil, fun p => by rw [HPS0.out, HRS.out], HB1.out.drew⟩
  · rw [← hx1] at ho
    obtain ⟨hH, hxn, hnc, hcm, hbl⟩ := holds_own ho
    have HPS := Lib.hid hx2
    have h12 := H12.out
    clear hx1 hx2 hv H12 ho
    have hds : xs.toArray.size = ps.length := by simpa using hxl
    have hAo : (Value.slice (some ⟨g, 0, none⟩) ps.length cap).ownBlock = some g := rfl
    have hsort := sort_any s venc venc_one vcf g cap xs.toArray w1 (order_row hAo) hH (by omega)
    have hins := insertionSort_holds (lt := ltOf vcf) vswo xs.toArray 0 xs.toArray.size (Nat.zero_le _) (Nat.le_refl _)
    rw [hds] at hsort hins
    obtain ⟨d1, hd1⟩ : ∃ d1, Sort.insertionSort (ltOf vcf) xs.toArray 0 ps.length = d1 := ⟨_, rfl⟩
    rw [hd1] at hsort hins
    have hs1 : d1.size = ps.length := hins.1.1.trans hds
    have HINS := Lib.hid hins
    have HSO := Lib.hid hsort
    have HH := Lib.hid hH
    have HXS := Lib.hid hds
    have HS1 := Lib.hid hs1
    have hgne : ¬ g = s := by omega
    clear hd1 hins hsort hH hds hs1 hxl hxn
    go_wp2_with fail
    (with_reducible refine HSO.out.mono ?_)
    rintro e w2 ⟨rfl, n1, hw2⟩
    have t4 : w2.cell? ⟨s, 4, none⟩ = some (.slice (some ⟨g, 0, none⟩) ps.length cap) := by rw [hw2]; exact (World.cell?_of_block (put_block venc hgne d1)).trans q4
    have t5 : w2.cell? ⟨s, 5, none⟩ = some (.int .i64 mst) := by rw [hw2]; exact (World.cell?_of_block (put_block venc hgne d1)).trans q5
    have HM2 : Hid (LMv s (.slice (some ⟨g, 0, none⟩) ps.length cap) w1 (.slice (some ⟨g, 0, none⟩) ps.length cap) w2.drew) := by rw [hw2]; exact put_move (n := n1 + 1) venc hAo d1
    have HH2 : Hid (Holds venc w2.drew g 0 d1) := by rw [hw2]; exact holds_putRow venc w1 g 0 xs.toArray d1 HH.out (HS1.out.trans HXS.out.symm)
    have hcp := compact_any _ rfl venc venc_one veq default rfl g cap d1 w2.drew (eq_row hAo HM2.out) HH2.out (by rw [HS1.out]; omega) (by rw [HS1.out]; omega) hcm
    rw [HS1.out] at hcp
    have HCP := Lib.hid hcp
    clear hcp hw2 q4 q5
    go_wp2_with fail
    go_region_held3 (fun w' => w'.cell? ⟨s, 4, none⟩ = some (.slice (some ⟨g, 0, none⟩) ps.length cap) ∧ w'.cell? ⟨s, 5, none⟩ = some (.int .i64 mst)) (first | exact ⟨t4, t5⟩ | exact ⟨x4, x5⟩ | go_keep)
      (first | (go_at_call 58; refine HCP.out.mono ?_; rintro e w3 ⟨rfl, q3, hw3⟩; have HW3 := Lib.hid hw3; have x4 : w3.cell? ⟨s, 4, none⟩ = some (.slice (some ⟨g, 0, none⟩) ps.length cap) := (by rw [hw3]; exact (World.cell?_of_block (put_block venc hgne _)).trans t4); have x5 : w3.cell? ⟨s, 5, none⟩ = some (.int .i64 mst) := (by rw [hw3]; exact (World.cell?_of_block (put_block venc hgne _)).trans t5); clear hw3))
    all_goals
      have HF : Hid (RL w3 (.slice (some ⟨g, 0, none⟩) (cpu veq d1 ps.length).length cap) ((cpu veq d1 ps.length).map vkey) ∧ Asc ((cpu veq d1 ps.length).map vkey) ∧ (∀ p, p ∈ (cpu veq d1 ps.length).map vkey ↔ p ∈ ps)) := by
        have h := fin_row (w3 := w3) (cap := cap) hAo HM2.out hbl xs.toArray d1 HXS.out HINS.out.1 HINS.out.2 HH2.out hnc hcm (q := q3) (by rw [HS1.out]; exact HW3.out) (fun x hx => by
          have hxp : vkey x ∈ ps := mem_of_map HPS.out (by simpa using hx)
          exact (HTF.out _ hxp).1)
        rw [HS1.out] at h
        refine ⟨h.1, h.2.1, fun p => (h.2.2 p).trans ?_⟩
        exact mem_map_iff HPS.out p
      have HBF : Hid (Below w.heap.size w w3) := by
        refine HB1.out.trans ?_
        have hz1 := HB1.out.size
        have h2 := HM2.out.below (fun g' hg' => by rw [hAo] at hg'; injection hg' with hg'; omega) (B := w.heap.size) (by have := HS.out; omega) (Nat.le_of_lt hsw)
        have h3 := (put_move (n := q3) venc hAo (cpu veq d1 ps.length ++ List.replicate (ps.length - (cpu veq d1 ps.length).length) default).toArray : LMv s _ w2.drew _ _).below (fun g' hg' => by rw [hAo] at hg'; injection hg' with hg'; omega) (B := w.heap.size) (by have := HS.out; omega) (by have := h2.size; omega)
        rw [HW3.out]
        exact h2.trans h3
      clear x4 x5 t4 t5
      go_wp2_with fail
      refine bodyPost_ret (v := .tuple #[.slice (some ⟨g, 0, none⟩) (cpu veq d1 ps.length).length cap, .int .i64 mst]) (by simp [results, Try.results32, go_sem]) rfl ⟨_, _, rfl, HF.out.1, HF.out.2.1, fun p => by rw [HPS0.out]; exact HF.out.2.2 p, HBF.out⟩
end Go.Proofs.Ytbgabipngdillaa

namespace Go.Proofs.Ytbgabipngdillaa
open Go.RowKit Go.Shelf

theorem RL.nil (w : World) : RL w (.slice none 0 0) [] := ⟨none, 0, rfl, Nat.le_refl _, by omega, fun h => by simp at h⟩
def deE (P : Int) (l : List (Int × Bool)) (k ag : Int) : Int := if fiE P l k ≠ 0 ∧ fiE P l k ≠ 11 then fiE P l k else if 10 < l.length then 4 else if ag < k ∨ (l.length : Int) < ag then 1 else 0
def neE (P : Int) (l : List (Int × Bool)) (k : Int) : Int := if fiE P l k ≠ 0 then fiE P l k else if 10 < l.length then 4 else 0
theorem fi_k {P : Int} {l : List (Int × Bool)} {k : Int} (h : fiE P l k = 0 ∨ fiE P l k = 11) : 1 ≤ k ∧ k ≤ l.length := by
  unfold fiE at h
  by_cases h0 : ceE P l = 0
  · rw [if_pos h0] at h
    by_cases h1 : k < 1 ∨ (l.length : Int) < k
    · rw [if_pos h1] at h; omega
    · omega
  · rw [if_neg h0] at h
    unfold ceE at h h0
    exfalso
    split at h
    · omega
    · split at h
      · omega
      · split at h
        · rename_i h1 h2 h3
          rw [if_neg h1, if_neg h2, if_pos h3] at h0
          exact h0 rfl
        · omega
set_option maxRecDepth 100000 in
set_option maxHeartbeats 4000000 in
theorem decode_any (P : Int) (l : List (Int × Bool)) (k ag : Int) (vl : Value) (w : World) (hP : i64r P) (hl : SCl w vl l) (hz : l.length ≤ 1000000) (h12 : deE P l k ag = 0 → (runS P l k.toNat ag).1.length ≤ 12) :
    Calls Try.prog 12 #[.agg #[.int .i64 P], vl, .int .i64 k, .int .i64 ag] w fun e w' => ∃ v rs, e = .returned (.tuple #[v, .int .i64 (deE P l k ag)]) ∧ RL w' v rs ∧ Asc rs ∧ (∀ p, p ∈ rs ↔ deE P l k ag = 0 ∧ p ∈ (runS P l k.toNat ag).1) ∧ Below w.heap.size w w' := by
  have HL := Lib.hid hl
  have H12 := Lib.hid h12
  obtain ⟨Al, cl, rfl⟩ := hl.form
  clear hl h12
  go_enter Try.func12, Try.ntmps12
  go_upto_region 1 with fail
  obtain ⟨w0, ew⟩ : ∃ w0 : World, w0 = w.alloc (.cells #[.int .i64 P] 26) := ⟨_, rfl⟩
  have hB0 : Below w.heap.size w w0 := by rw [ew]; exact (Below.refl _ _).alloc (Nat.le_refl _) _
  have hz0 : w.heap.size < w0.heap.size := by rw [ew]; simp
  have b0 : w0.cell? ⟨w.heap.size, 0, none⟩ = some (.int .i64 P) := by rw [ew]; simp [go_sem]
  rw [← ew]
  clear ew
  have HS0 := Lib.hid (HL.out.below hB0)
  go_wp2_with fail
  (with_reducible refine (fill_any P l k _ _ hP HS0.out hz).mono ?_)
  rintro e w1 ⟨v1, rfl, _, hb1⟩
  have HB1 := Lib.hid (hB0.trans (hb1.mono hB0.size))
  have hz1 := hb1.size
  have c0 := (hb1.cell (p := ⟨w.heap.size, 0, none⟩) (by show w.heap.size < _; omega)).trans b0
  clear b0
  obtain ⟨fe, hfe⟩ : ∃ fe, fiE P l k = fe := ⟨_, rfl⟩
  have HFE := Lib.hid hfe
  rw [hfe]
  clear hfe
  by_cases h1 : fe ≠ 0 ∧ fe ≠ 11
  · have HE : Hid (deE P l k ag = fe) := by show _ = _; unfold deE; rw [HFE.out, if_pos h1]
    have ha : (fe == 0) = false := by rw [beq_eq_false_iff_ne]; exact h1.1
    have hb : (fe == 11) = false := by rw [beq_eq_false_iff_ne]; exact h1.2
    have ha2 : (fe != 0) = true := by rw [bne_iff_ne]; exact h1.1
    have hb2 : (fe != 11) = true := by rw [bne_iff_ne]; exact h1.2
    have hne : fe ≠ 0 := h1.1
    have HNE := Lib.hid hne
    clear h1 hne
    go_wp2_with fail
    refine bodyPost_ret (v := .tuple #[.slice none 0 0, .int .i64 fe]) (by simp [results, Try.results12, go_sem]) rfl ⟨_, [], by rw [HE.out], RL.nil _, List.Pairwise.nil, fun p => ⟨fun h => by simp at h, fun h => by rw [HE.out] at h; exact absurd h.1 HNE.out⟩, HB1.out⟩
  · have hk := fi_k (P := P) (l := l) (k := k) (by rw [HFE.out]; omega)
    obtain ⟨kn, rfl⟩ : ∃ kn : Nat, k = kn := ⟨k.toNat, by omega⟩
    have hd : decide (fe = 0) = true ∨ fe = 11 := by
      by_cases h : fe = 0
      · exact .inl (decide_eq_true h)
      · exact .inr (by omega)
    have hg : ((fe != 0) && (fe != 11)) = false := by
      rcases (by omega : fe = 0 ∨ fe = 11) with h | h
      · subst h; rfl
      · subst h; rfl
    have HS1 := Lib.hid (HS0.out.below hb1)
    have hor : fe = 0 ∨ fe = 11 := by omega
    have HOR := Lib.hid h1
    clear h1 hd hg
    by_cases h2 : 10 < l.length
    · have HE : Hid (deE P l kn ag = 4) := by show _ = _; unfold deE; rw [HFE.out, if_neg HOR.out, if_pos h2]
      have hx : decide (10 < (l.length : Int)) = true := decide_eq_true (by omega)
      rcases hor with rfl | rfl
      all_goals
        go_wp2_with fail
        refine bodyPost_ret (v := .tuple #[.slice none 0 0, .int .i64 4]) (by simp [results, Try.results12, go_sem]) rfl ⟨_, [], by rw [HE.out], RL.nil _, List.Pairwise.nil, fun p => ⟨fun h => by simp at h, fun h => by rw [HE.out] at h; exact absurd h.1 (by omega)⟩, HB1.out⟩
    · have hx : decide (10 < (l.length : Int)) = false := decide_eq_false (by omega)
      by_cases h3 : ag < kn ∨ (l.length : Int) < ag
      · have HE : Hid (deE P l kn ag = 1) := by show _ = _; unfold deE; rw [HFE.out, if_neg HOR.out, if_neg h2, if_pos h3]
        by_cases h4 : ag < kn
        · have hy : decide (ag < (kn : Int)) = true := decide_eq_true h4
          clear h3
          rcases hor with rfl | rfl
          all_goals
            go_wp2_with fail
            refine bodyPost_ret (v := .tuple #[.slice none 0 0, .int .i64 1]) (by simp [results, Try.results12, go_sem]) rfl ⟨_, [], by rw [HE.out], RL.nil _, List.Pairwise.nil, fun p => ⟨fun h => by simp at h, fun h => by rw [HE.out] at h; exact absurd h.1 (by omega)⟩, HB1.out⟩
        · have hy : decide (ag < (kn : Int)) = false := decide_eq_false h4
          have hy2 : decide ((l.length : Int) < ag) = true := decide_eq_true (by omega)
          clear h3
          rcases hor with rfl | rfl
          all_goals
            go_wp2_with fail
            refine bodyPost_ret (v := .tuple #[.slice none 0 0, .int .i64 1]) (by simp [results, Try.results12, go_sem]) rfl ⟨_, [], by rw [HE.out], RL.nil _, List.Pairwise.nil, fun p => ⟨fun h => by simp at h, fun h => by rw [HE.out] at h; exact absurd h.1 (by omega)⟩, HB1.out⟩
      · have HE : Hid (deE P l kn ag = 0) := by show _ = _; unfold deE; rw [HFE.out, if_neg HOR.out, if_neg h2, if_neg h3]
        have hy : decide (ag < (kn : Int)) = false := decide_eq_false (by omega)
        have hy2 : decide ((l.length : Int) < ag) = false := decide_eq_false (by omega)
        have hrun := run_any P l kn ag _ w1 hP HS1.out (by omega) (by omega) (H12.out HE.out)
        have HRUN := Lib.hid hrun
        clear h3 hrun
        rcases hor with rfl | rfl
        all_goals
          go_wp2_with fail
          (with_reducible refine HRUN.out.mono ?_)
          rintro e w2 ⟨v2, rs, rfl, hRL, hA, hm, hb2⟩
          go_wp2_with fail
          refine bodyPost_ret (v := .tuple #[v2, .int .i64 0]) (by simp [results, Try.results12, go_sem]) rfl ⟨_, rs, by rw [HE.out], hRL, hA, fun p => (hm p).trans ⟨fun h => ⟨HE.out, h⟩, fun h => h.2⟩, HB1.out.trans (hb2.mono HB1.out.size)⟩
/-- how many places the nearest polynomials have -/
def neM (P : Int) (l : List (Int × Bool)) (k : Int) : Int := if neE P l k = 0 then (runS P l k.toNat ((l.length : Int) + 1)).2 else 0
set_option maxRecDepth 100000 in
set_option maxHeartbeats 4000000 in
theorem nearest_any (P : Int) (l : List (Int × Bool)) (k : Int) (vl : Value) (w : World) (hP : i64r P) (hl : SCl w vl l) (hz : l.length ≤ 1000000)
    (h12 : neE P l k = 0 → (runS P l k.toNat ((l.length : Int) + 1)).1.length ≤ 12 ∧ (runS P l k.toNat (neM P l k)).1.length ≤ 12) :
    Calls Try.prog 16 #[.agg #[.int .i64 P], vl, .int .i64 k] w fun e w' => ∃ v rs, e = .returned (.tuple #[v, .int .i64 (neM P l k), .int .i64 (neE P l k)]) ∧ RL w' v rs ∧ Asc rs ∧ (∀ p, p ∈ rs ↔ neE P l k = 0 ∧ p ∈ (runS P l k.toNat (neM P l k)).1) ∧ Below w.heap.size w w' := by
  have HL := Lib.hid hl
  have H12 := Lib.hid h12
  obtain ⟨Al, cl, rfl⟩ := hl.form
  clear hl h12
  go_enter Try.func16, Try.ntmps16
  go_upto_region 1 with fail
  obtain ⟨w0, ew⟩ : ∃ w0 : World, w0 = w.alloc (.cells #[.int .i64 P] 26) := ⟨_, rfl⟩
  have hB0 : Below w.heap.size w w0 := by rw [ew]; exact (Below.refl _ _).alloc (Nat.le_refl _) _
  have hz0 : w.heap.size < w0.heap.size := by rw [ew]; simp
  have b0 : w0.cell? ⟨w.heap.size, 0, none⟩ = some (.int .i64 P) := by rw [ew]; simp [go_sem]
  rw [← ew]
  clear ew
  have HS0 := Lib.hid (HL.out.below hB0)
  go_wp2_with fail
  (with_reducible refine (fill_any P l k _ _ hP HS0.out hz).mono ?_)
  rintro e w1 ⟨v1, rfl, _, hb1⟩
  have HB1 := Lib.hid (hB0.trans (hb1.mono hB0.size))
  have hz1 := hb1.size
  have hzl : w.heap.size < w1.heap.size := by omega
  have c0 := (hb1.cell (p := ⟨w.heap.size, 0, none⟩) (by show w.heap.size < _; omega)).trans b0
  clear b0
  obtain ⟨fe, hfe⟩ : ∃ fe, fiE P l k = fe := ⟨_, rfl⟩
  have HFE := Lib.hid hfe
  rw [hfe]
  clear hfe
  by_cases h1 : fe = 0
  · subst h1
    have hk := fi_k (P := P) (l := l) (k := k) (.inl HFE.out)
    obtain ⟨kn, rfl⟩ : ∃ kn : Nat, k = kn := ⟨k.toNat, by omega⟩
    have HS1 := Lib.hid (HS0.out.below hb1)
    by_cases h2 : 10 < l.length
    · have HE : Hid (neE P l kn = 4) := by show _ = _; unfold neE; rw [HFE.out, if_neg (by omega), if_pos h2]
      have HM : Hid (neM P l kn = 0) := by show _ = _; unfold neM; rw [HE.out, if_neg (by omega)]
      have hx : decide (10 < (l.length : Int)) = true := decide_eq_true (by omega)
      go_wp2_with fail
      refine bodyPost_ret (v := .tuple #[.slice none 0 0, .int .i64 0, .int .i64 4]) (by simp [results, Try.results16, go_sem]) rfl ⟨_, [], by rw [HE.out, HM.out], RL.nil _, List.Pairwise.nil, fun p => ⟨fun h => by simp at h, fun h => by rw [HE.out] at h; exact absurd h.1 (by omega)⟩, HB1.out⟩
    · have hx : decide (10 < (l.length : Int)) = false := decide_eq_false (by omega)
      have HE : Hid (neE P l kn = 0) := by show _ = _; unfold neE; rw [HFE.out, if_neg (by omega), if_neg h2]
      have HM : Hid (neM P l kn = (runS P l kn ((l.length : Int) + 1)).2) := by show _ = _; unfold neM; rw [HE.out, if_pos rfl]; rfl
      obtain ⟨mst, hmst⟩ : ∃ m, neM P l kn = m := ⟨_, rfl⟩
      have h12 := H12.out HE.out
      rw [hmst] at HM h12
      have HMS := Lib.hid hmst
      have hrun := run_any P l kn ((l.length : Int) + 1) _ w1 hP HS1.out (by omega) (by omega) h12.1
      rw [← HM.out] at hrun
      have HR := Lib.hid hrun
      have H2 : Hid ((runS P l kn mst).1.length ≤ 12) := h12.2
      clear hrun h12 hmst
      go_wp2_with fail
      (with_reducible refine HR.out.mono ?_)
      rintro e w2 ⟨v2, rs2, rfl, _, _, _, hb2⟩
      have HS2 := Lib.hid (HS1.out.below hb2)
      have c2 := (hb2.cell (p := ⟨w.heap.size, 0, none⟩) hzl).trans c0
      have HB2 := Lib.hid hb2
      clear c0 hb2
      go_wp2_with fail
      (with_reducible refine (run_any P l kn mst _ w2 hP HS2.out (by omega) (by omega) H2.out).mono ?_)
      rintro e w3 ⟨v3, rs, rfl, hRL, hA, hm, hb3⟩
      go_wp2_with fail
      refine bodyPost_ret (v := .tuple #[v3, .int .i64 mst, .int .i64 0]) (by simp [results, Try.results16, go_sem]) rfl ⟨_, rs, by rw [HE.out, HMS.out], hRL, hA, fun p => (hm p).trans ⟨fun h => ⟨HE.out, by rw [HMS.out]; exact h⟩, fun h => by have := h.2; rw [HMS.out] at this; exact this⟩, HB1.out.trans ((HB2.out.mono HB1.out.size).trans (hb3.mono (Nat.le_trans HB1.out.size HB2.out.size)))⟩
  · have HE : Hid (neE P l k = fe) := by show _ = _; unfold neE; rw [HFE.out, if_pos h1]
    have HM : Hid (neM P l k = 0) := by show _ = _; unfold neM; rw [HE.out, if_neg h1]
    have ha2 : (fe != 0) = true := by rw [bne_iff_ne]; exact h1
    have HNE := Lib.hid h1
    clear h1
    go_wp2_with fail
    refine bodyPost_ret (v := .tuple #[.slice none 0 0, .int .i64 0, .int .i64 fe]) (by simp [results, Try.results16, go_sem]) rfl ⟨_, [], by rw [HE.out, HM.out], RL.nil _, List.Pairwise.nil, fun p => ⟨fun h => by simp at h, fun h => by rw [HE.out] at h; exact absurd h.1 HNE.out⟩, HB1.out⟩
end Go.Proofs.Ytbgabipngdillaa

namespace Go.Proofs.Ytbgabipngdillaa
open Go.RowKit Go.Shelf

def sl0 : List (Int × Bool) := [(1, true), (2, true), (4, true)]
theorem asc_of {rs : List (List Int)} (h : ∀ i j : Fin rs.length, i < j → cmpV rs[i] rs[j] < 0) : Asc rs := by
  refine List.pairwise_iff_getElem.2 fun i j hi hj hij => ?_
  exact (cmpV_lt _ _).1 (h ⟨i, hi⟩ ⟨j, hj⟩ hij)
theorem sane_len {rs : List (List Int)} (ha : Asc rs) (hm : ∀ p, p ∈ rs ↔ True ∧ p ∈ [[0, 1], [3, 5], [5, 2]]) : rs.length = 3 := by
  have h := Asc.ext ha (b := [[0, 1], [3, 5], [5, 2]]) (asc_of (by decide +kernel)) (fun p => (hm p).trans ⟨fun h => h.2, fun h => ⟨trivial, h⟩⟩)
  rw [h]; rfl
set_option maxRecDepth 100000 in
set_option maxHeartbeats 4000000 in
theorem lsane_any (w : World) : Calls Try.prog 8 #[] w fun e w' => e = .returned (.bool true) ∧ Below w.heap.size w w' := by
  have d1 : Hid (deE 7 sl0 2 2 = 0) := by show _ = _; decide +kernel
  have d2 : Hid (runS 7 sl0 2 2 = ([[0, 1], [3, 5], [5, 2]], 2)) := by show _ = _; decide +kernel
  have d3 : Hid (neE 7 sl0 2 = 0) := by show _ = _; decide +kernel
  have d4 : Hid (neM 7 sl0 2 = 2) := by show _ = _; decide +kernel
  have d5 : Hid (runS 7 sl0 2 4 = ([], 2)) := by show _ = _; decide +kernel
  have d6 : Hid (cmpV [0, 1] [1] < 0) := by show _ < _; decide +kernel
  go_enter Try.func8, Try.ntmps8
  go_upto_region 3 with fail
  obtain ⟨wA, ew⟩ : ∃ wA : World, wA = (w.alloc (.cells #[.int .i64 7] 26)).alloc (.cells #[.int .i64 1, .bool true, .int .i64 2, .bool true, .int .i64 4, .bool true] 33) := ⟨_, rfl⟩
  have hBA : Below w.heap.size w wA := by rw [ew]; exact ((Below.refl _ w).alloc (Nat.le_refl _) _).alloc (by simp) _
  have hzA : wA.heap.size = w.heap.size + 2 := by rw [ew]; simp
  have c0 : wA.cell? ⟨w.heap.size, 0, none⟩ = some (.int .i64 7) := by rw [ew]; simp [go_sem]
  have hSA : SCl wA (.slice (some ⟨w.heap.size + 1, 0, none⟩) 3 3) sl0 := by
    refine ⟨_, 3, rfl, by simp [sl0], by omega, by simp [sl0, i64r], fun _ => ⟨w.heap.size + 1, 0, rfl, by omega, fun j hj => ?_⟩⟩
    have hj3 : j < 3 := by simpa [sl0] using hj
    rw [ew]
    rcases (by omega : j = 0 ∨ j = 1 ∨ j = 2) with rfl | rfl | rfl
    · exact ⟨by simp [go_sem, sl0], by simp [go_sem, sl0]⟩
    · exact ⟨by simp [go_sem, sl0], by simp [go_sem, sl0]⟩
    · exact ⟨by simp [go_sem, sl0], by simp [go_sem, sl0]⟩
  have HSA := Lib.hid hSA
  have HBA := Lib.hid hBA
  rw [← ew]
  clear ew hSA hBA
  go_wp2_with fail
  (with_reducible refine (decode_any 7 sl0 2 2 _ _ (by unfold i64r; omega) HSA.out (by simp [sl0]) (fun _ => by rw [show (2 : Int).toNat = 2 from rfl, d2.out]; simp)).mono ?_)
  rintro e w1 ⟨v1, rs1, rfl, hr1, ha1, hm1, hb1⟩
  have hl1 : rs1.length = 3 := sane_len ha1 fun p => (hm1 p).trans (by rw [d1.out, show (2 : Int).toNat = 2 from rfl, d2.out]; exact ⟨fun h => ⟨trivial, h.2⟩, fun h => ⟨rfl, h.2⟩⟩)
  obtain ⟨A1, k1, rfl⟩ := hr1.form
  rw [d1.out, hl1]
  have HS1 := Lib.hid (HSA.out.below hb1)
  have c1 := (hb1.cell (p := ⟨w.heap.size, 0, none⟩) (by show w.heap.size < _; omega)).trans c0
  have HB1 : Hid (Below w.heap.size w w1) := HBA.out.trans (hb1.mono (by omega))
  have hz1 := hb1.size
  clear c0 hr1 ha1 hm1 hl1 hb1
  go_wp2_with fail
  (with_reducible refine (nearest_any 7 sl0 2 _ _ (by unfold i64r; omega) HS1.out (by simp [sl0]) (fun _ => ⟨by rw [show (2 : Int).toNat = 2 from rfl, show ((sl0.length : Int) + 1) = 4 from rfl, d5.out]; simp, by rw [d4.out, show (2 : Int).toNat = 2 from rfl, d2.out]; simp⟩)).mono ?_)
  rintro e w2 ⟨v2, rs2, rfl, hr2, ha2, hm2, hb2⟩
  have hl2 : rs2.length = 3 := sane_len ha2 fun p => (hm2 p).trans (by rw [d3.out, d4.out, show (2 : Int).toNat = 2 from rfl, d2.out]; exact ⟨fun h => ⟨trivial, h.2⟩, fun h => ⟨rfl, h.2⟩⟩)
  obtain ⟨A2, k2, rfl⟩ := hr2.form
  rw [d3.out, d4.out, hl2]
  have HB2 : Hid (Below w.heap.size w w2) := HB1.out.trans (hb2.mono (by omega))
  have hz2 := hb2.size
  clear hr2 ha2 hm2 hl2 hb2
  have H01 : Hid (∀ W : World, SI ((W.alloc (.cells #[.int .i64 0, .int .i64 1] 3)).alloc (.cells #[.int .i64 1] 3)) (.slice (some ⟨W.heap.size, 0, none⟩) 2 2) [0, 1] ∧ SI ((W.alloc (.cells #[.int .i64 0, .int .i64 1] 3)).alloc (.cells #[.int .i64 1] 3)) (.slice (some ⟨W.heap.size + 1, 0, none⟩) 1 1) [1]) := by
    intro W
    have h1 := SI.of_own (l := [0, 1]) (by simpa using own_lit (base := 0) W 3 ([0, 1].map (Value.int .i64)) (Nat.zero_le _) (by simp [maxLen])) (by simp [i64r])
    have h2 := SI.of_own (l := [1]) (by simpa using own_lit (base := 0) (W.alloc (.cells #[.int .i64 0, .int .i64 1] 3)) 3 ([1].map (Value.int .i64)) (Nat.zero_le _) (by simp [maxLen])) (by simp [i64r])
    refine ⟨SI.below h1 ((Below.refl _ _).alloc (Nat.le_refl _) _), by simpa using h2⟩
  have d7 : decide (cmpV [0, 1] [1] < 0) = true := decide_eq_true d6.out
  go_wp2_with fail
  (with_reducible refine (less_any [0, 1] [1] _ _ _ (H01.out _).1 (H01.out _).2 (by simp) (by simp)).mono ?_)
  rintro e w3 ⟨rfl, rfl⟩
  go_wp2_with fail
  go_ret
  exact ⟨rfl, (HB2.out.alloc (by have := HB2.out.size; omega) _).alloc (by have := HB2.out.size; simp; omega) _⟩
end Go.Proofs.Ytbgabipngdillaa
