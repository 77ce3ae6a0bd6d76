/- Joined: Co. -/
import Derived.Lib.SliceRun
import Derived.Shelf.SlicesE.Compact
import Derived.Test.YtbgabipngdillaaZ11
namespace Go.Proofs.Ytbgabipngdillaa
open Go.RowKit Go.Shelf Go.Sort Go.Lib
variable {α : Type} [Inhabited α]

/-- what is left of the first m elements: those that differ from the one before -/
def cpu (eq : α → α → Bool) (d : Array α) : Nat → List α
  | 0 => []
  | m + 1 => cpu eq d m ++ (if m = 0 ∨ eq d[m]! d[m - 1]! = false then [d[m]!] else [])
theorem take_get (d : Array α) (m : Nat) (h : m < d.size) : d.toList.take (m + 1) = d.toList.take m ++ [d[m]!] := by
  have hl : m < d.toList.length := by simpa using h
  rw [List.take_succ_eq_append_getElem hl, getElem!_pos d m h]
  simp
theorem cpu_all (eq : α → α → Bool) (d : Array α) : ∀ m, m ≤ d.size → (∀ j, 1 ≤ j → j < m → eq d[j]! d[j - 1]! = false) → cpu eq d m = d.toList.take m := by
  intro m
  induction m with
  | zero => intro _ _; simp [cpu]
  | succ m ih =>
    intro hm h
    unfold cpu
    rw [ih (by omega) (fun j h1 h2 => h j h1 (by omega)), take_get d m (by omega), if_pos]
    rcases Nat.eq_zero_or_pos m with h0 | h0
    · exact .inl h0
    · exact .inr (h m h0 (by omega))
/-- the row in the middle of the work: the first k places are done -/
structure CI (eq : α → α → Bool) (d : Array α) (m k : Nat) (dk : Array α) : Prop where
  lt : k < m
  size : dk.size = d.size
  low : dk.toList.take k = cpu eq d m
  high : ∀ j, k ≤ j → dk[j]! = d[j]!
theorem CI.len {eq : α → α → Bool} {d dk : Array α} {m k : Nat} (h : CI eq d m k dk) (hm : m ≤ d.size) : (cpu eq d m).length = k := by
  rw [← h.low]
  have := h.size
  have := h.lt
  simp
  omega
theorem CI.skip {eq : α → α → Bool} {d dk : Array α} {m k : Nat} (h : CI eq d m k dk) (he : eq d[m]! d[m - 1]! = true) : CI eq d (m + 1) k dk := by
  refine ⟨by have := h.lt; omega, h.size, ?_, h.high⟩
  rw [h.low]
  have := h.lt
  show cpu eq d m = cpu eq d m ++ _
  rw [if_neg, List.append_nil]
  rintro (h0 | h0)
  · omega
  · rw [he] at h0; cases h0
theorem CI.keep {eq : α → α → Bool} {d dk : Array α} {m k : Nat} (h : CI eq d m k dk) (hm : m < d.size) (he : eq d[m]! d[m - 1]! = false) : CI eq d (m + 1) (k + 1) (dk.setIfInBounds k d[m]!) := by
  have hk := h.lt
  have hs := h.size
  refine ⟨by omega, by simpa using hs, ?_, fun j hj => ?_⟩
  · rw [take_get _ k (by simp; omega), getElem!_set_same dk k _ (by omega)]
    show _ = cpu eq d m ++ _
    rw [if_pos (.inr he), ← h.low]
    congr 1
    apply List.ext_getElem?
    intro j
    simp only [Array.toList_setIfInBounds, List.getElem?_take]
    by_cases hj : j < k
    · rw [if_pos hj, if_pos hj, List.getElem?_set_ne (by omega)]
    · rw [if_neg hj, if_neg hj]
  · rw [getElem!_set_other dk k j _ (by omega)]
    exact h.high j (by omega)
theorem CI.start {eq : α → α → Bool} {d : Array α} {k : Nat} (hk : 1 ≤ k) (hs : k < d.size) (h : ∀ j, 1 ≤ j → j < k → eq d[j]! d[j - 1]! = false) (he : eq d[k]! d[k - 1]! = true) : CI eq d (k + 1) k d := by
  refine ⟨by omega, rfl, ?_, fun _ _ => rfl⟩
  show _ = cpu eq d k ++ _
  rw [cpu_all eq d k (by omega) h, if_neg, List.append_nil]
  rintro (h0 | h0)
  · omega
  · rw [he] at h0; cases h0
theorem CI.done {eq : α → α → Bool} {d dk : Array α} {k : Nat} (h : CI eq d d.size k dk) (zr : α) : dk.toList.take k ++ List.replicate (d.size - k) zr = cpu eq d d.size ++ List.replicate (d.size - (cpu eq d d.size).length) zr := by
  rw [h.low, h.len (Nat.le_refl _)]
/-- what the work asks of the test -/
def EqAt (g : Nat) (enc : α → Value) (eq : α → α → Bool) (blk size : Nat) (w : World) : Prop :=
  ∀ (dk : Array α) (x y : α) (n : Nat), dk.size = size → Calls Try.prog g #[enc x, enc y] ((putRow enc w blk 0 dk).drewN n) fun e w' => e = .returned (.bool (eq x y)) ∧ ((putRow enc w blk 0 dk).drewN n) = w'
theorem store_row (enc : α → Value) {w wr : World} {n blk : Nat} {dk : Array α} {i : Nat} (hi : i < dk.size) (hwr : wr = (putRow enc w blk 0 dk).drewN n) (x : α) :
    wr.setCell ⟨blk, i, none⟩ (enc x) = (putRow enc w blk 0 (dk.setIfInBounds i x)).drewN n := by
  subst hwr
  have := putRow_set enc w blk 0 dk i x hi
  rw [Nat.zero_add] at this
  rw [← this]
  rfl
theorem lay_app (d : Array α) : ∀ (xs : List α) (k : Nat), k + xs.length = d.size → (lay d k xs).toList = d.toList.take k ++ xs := by
  intro xs
  induction xs generalizing d with
  | nil => intro k hk; simp only [List.length_nil, Nat.add_zero] at hk; subst hk; simp only [lay, List.append_nil]; exact (List.take_of_length_le (by simp)).symm
  | cons x xs ih =>
    intro k hk
    simp only [lay]
    simp only [List.length_cons] at hk
    rw [ih (d.setIfInBounds k x) (k + 1) (by simp; omega), take_get _ k (by simp; omega), getElem!_set_same d k x (by omega)]
    simp only [List.append_assoc, List.singleton_append]
    congr 1
    apply List.ext_getElem?
    intro j
    simp only [Array.toList_setIfInBounds, List.getElem?_take]
    by_cases hj : j < k
    · rw [if_pos hj, if_pos hj, List.getElem?_set_ne (by omega)]
    · rw [if_neg hj, if_neg hj]
theorem clear_row (enc : α → Value) {w wr : World} {n blk k m : Nat} {dk : Array α} (hwr : wr = (putRow enc w blk 0 dk).drewN n) (zr : α) (hk : k + m = dk.size) :
    wr.setCells blk k (List.replicate m (enc zr)) = (putRow enc w blk 0 (dk.toList.take k ++ List.replicate m zr).toArray).drewN n := by
  subst hwr
  have h := putRow_setCells enc w blk 0 (List.replicate m zr) dk k (by simp; omega)
  rw [Nat.zero_add, List.map_replicate] at h
  have h2 := lay_app dk (List.replicate m zr) k (by simp; omega)
  have h3 : lay dk k (List.replicate m zr) = (dk.toList.take k ++ List.replicate m zr).toArray := by rw [← h2]
  rw [← h3, ← h]
  have key : ∀ (xs : List Value) (W : World) (j : Nat), (W.drewN n).setCells blk j xs = (W.setCells blk j xs).drewN n := by
    intro xs
    induction xs with
    | nil => intro W j; rfl
    | cons x xs ih => intro W j; exact ih (W.setCell ⟨blk, j, none⟩ x) (j + 1)
  exact key _ _ _

set_option maxHeartbeats 4000000 in
set_option maxRecDepth 1000000 in
theorem compact_any (g : Nat) (eg : g = 59) (enc : α → Value) (h1 : OneCell enc) (eq : α → α → Bool) (zr : α) (hzr : enc zr = .slice none 0 0) (blk cap : Nat) (d : Array α) (w : World) (hc : EqAt g enc eq blk d.size w) (hH : Holds enc w blk 0 d) (hsz : d.size ≤ 1000000) (hcap : d.size ≤ cap) (hcm : cap ≤ maxLen) :
    Calls Try.prog 58 #[.slice (some ⟨blk, 0, none⟩) d.size cap, .func (.func g) #[] #[]] w fun e w' =>
      e = .returned (.slice (some ⟨blk, 0, none⟩) (cpu eq d d.size).length cap) ∧ ∃ q, w' = (putRow enc w blk 0 (cpu eq d d.size ++ List.replicate (d.size - (cpu eq d d.size).length) zr).toArray).drewN q := by
  subst eg
  have hcl0 := h1.cells
  simp only [Value.cells] at hcl0
  have hst := h1.store Try.prog
  have mixed : Try.prog.follows .mixedOrders = true := by kernel_rfl
  have HC := Lib.hid hc
  have HH : Hid (Holds enc w blk 0 d) := hH
  have HZ := Lib.hid hzr
  have HS : Aside (∀ q, (∀ j, 1 ≤ j → j < d.size → eq d[j]! d[j - 1]! = false) → (cpu eq d d.size).length = d.size ∧ w.drewN q = (putRow enc w blk 0 (cpu eq d d.size ++ List.replicate (d.size - (cpu eq d d.size).length) zr).toArray).drewN q) := by
    intro q hall
    have e := cpu_all eq d d.size (Nat.le_refl _) hall
    rw [e]
    refine ⟨by simp, ?_⟩
    have e2 : (List.take d.size d.toList ++ List.replicate (d.size - (List.take d.size d.toList).length) zr).toArray = d := by
      apply Array.toList_inj.1
      have e3 : List.take d.size d.toList = d.toList := List.take_of_length_le (by simp)
      simp [e3]
    rw [e2, putRow_self enc w blk 0 d HH.out]
  clear hc hH hzr
  simp only [maxLen] at hcm
  by_cases h2 : d.size < 2
  · go_enter Try.func58, Try.ntmps58
    have h2z : decide ((d.size : Int) < 2) = true := decide_eq_true (by omega)
    go_wp2_with fail
    go_ret
    obtain ⟨e1, e2⟩ := HS.out 0 (fun j hj1 hj => by omega)
    exact ⟨by rw [e1] <;> rfl, 0, e2⟩
  · go_enter Try.func58, Try.ntmps58
    have h2z : decide ((d.size : Int) < 2) = false := decide_eq_false (by omega)
    go_wp2_with fail
    go_loopg [5] d.size (fun g1 s3 wr => ∃ k q : Nat, 1 ≤ k ∧ k ≤ d.size ∧ d.size - k ≤ g1 ∧ s3 = .int .i64 k ∧ wr = (putRow enc w blk 0 d).drewN q ∧ ∀ j, 1 ≤ j → j < k → eq d[j]! d[j - 1]! = false)
    case atStart => exact ⟨1, 0, Nat.le_refl _, by omega, by omega, rfl, (putRow_self enc w blk 0 d HH.out).symm, fun j h1 h2 => by omega⟩
    case round =>
      obtain ⟨k, q, hk1, hk, hg1, rfl, rfl, hall⟩ := hrel
      have A : Aside (∀ j, 1 ≤ j → j < k → eq d[j]! d[j - 1]! = false) := hall
      clear hall
      by_cases hlt : k < d.size
      · have hHk := holds_putRow enc w blk 0 d d HH.out rfl
        obtain ⟨c1, f1⟩ := hHk k hlt
        obtain ⟨c0, f0⟩ := hHk (k - 1) (by omega)
        simp only [Nat.zero_add] at c1 c0 f1 f0
        obtain ⟨x, hx⟩ : ∃ x, d[k]! = x := ⟨_, rfl⟩
        obtain ⟨y, hy⟩ : ∃ y, d[k - 1]! = y := ⟨_, rfl⟩
        rw [hx] at c1
        rw [hy] at c0
        have B : Aside (d[k]! = x ∧ d[k - 1]! = y) := ⟨hx, hy⟩
        obtain ⟨kp, rfl⟩ : ∃ kp, k = kp + 1 := ⟨k - 1, by omega⟩
        simp only [Nat.add_sub_cancel] at c0 f0
        have c1' : ((putRow enc w blk 0 d).drewN q).cell? ⟨blk, kp + 1, none⟩ = some (enc x) := c1
        have c0' : ((putRow enc w blk 0 d).drewN q).cell? ⟨blk, kp, none⟩ = some (enc y) := c0
        have HCW : Hid (∀ n, Calls Try.prog 59 #[enc x, enc y] (((putRow enc w blk 0 d).drewN q).drewN n) fun e w' => e = .returned (.bool (eq x y)) ∧ (((putRow enc w blk 0 d).drewN q).drewN n) = w') := fun n => by
          have := HC.out d x y (q + n) rfl
          rw [← World.drewN_drewN] at this
          exact this
        clear hx hy c1 c0 f1 f0 hHk
        have hwp : IntKind.i64.wrap (kp : Int) = (kp : Int) := IntWalk.i64_in _ (by omega)
        have jz : (kp : Int) + 1 < (d.size : Int) := by omega
        have jz1 : (kp : Int) < (d.size : Int) := by omega
        have p0 : (0 : Int) ≤ (kp : Int) + 1 := by omega
        have e0 : ((kp : Int) + 1).toNat = kp + 1 := by omega
        generalize hwq : (putRow enc w blk 0 d).drewN q = wq at c1' c0' HCW ⊢
        by_cases hdup : eq x y = true
        · have HD := Lib.hid hdup
          rw [hdup] at HCW
          clear hdup
          have hslk : ((kp : Int) + 1 ≤ (d.size : Int)) := by omega
          have hslk2 : kp + 1 ≤ d.size := by omega
          have hslc : ((kp : Int) + 1 ≤ (cap : Int)) := by omega
          go_wp2_with fail
          go_quiet_o (first | (go_at_call 59; refine Calls.quiet_of_same ((HCW.out _).mono fun e w1 h => ⟨h.1, h.2.symm⟩)))
          go_wp2_with fail
          have hw2 : wq.drewN nq = (putRow enc w blk 0 d).drewN (q + nq) := by rw [← hwq, World.drewN_drewN]
          have HW2 : Hid (wq.drewN nq = (putRow enc w blk 0 d).drewN (q + nq)) := hw2
          clear hw2 hwq c1' c0'
          generalize wq.drewN nq = wq2 at HW2 ⊢
          have CI0 := Lib.hid (CI.start (eq := eq) (by omega) hlt A.out (by simp only [Nat.add_sub_cancel]; rw [B.out.1]; have := B.out.2; simp only [Nat.add_sub_cancel] at this; rw [this]; exact HD.out))
          obtain ⟨L2, hL2⟩ : ∃ L2, d.size - (kp + 1) = L2 := ⟨_, rfl⟩
          obtain ⟨c2, hc2⟩ : ∃ c2, cap - (kp + 1) = c2 := ⟨_, rfl⟩
          obtain ⟨o1, ho1⟩ : ∃ o1, kp + 1 = o1 := ⟨_, rfl⟩
          rw [hL2, hc2, ho1]
          have HL2 : Hid (L2 + o1 = d.size) := by show _ = _; omega
          have HO1 : Hid (o1 < d.size) := by show o1 < d.size; omega
          have ho1i : ((kp : Int) + 1) = (o1 : Int) := by omega
          rw [ho1i]
          rw [ho1] at CI0
          clear hL2 hc2 ho1 ho1i hslk hslk2 hslc B A HCW HD hwp jz jz1 p0 e0 hk1 hk hlt hg1
          go_loopg [5, 7] d.size (fun g2 s5 s7 wr => ∃ (kk k2 q2 : Nat) (dk : Array α), s5 = .int .i64 kk ∧ s7 = .int .i64 k2 ∧ 1 ≤ k2 ∧ k2 ≤ L2 ∧ L2 - k2 ≤ g2 ∧ Hid (wr = (putRow enc w blk 0 dk).drewN q2) ∧ Hid (CI eq d (o1 + k2) kk dk))
          case atStart => exact ⟨o1, 1, q + nq, d, by go_num, by go_num, Nat.le_refl _, by have := HL2.out; have := HO1.out; omega, by have := HL2.out; omega, HW2.out, CI0.out⟩
          case round =>
            obtain ⟨kk, k2, q2, dk, rfl, rfl, hk21, hle, hg2, HWR, HI⟩ := hrel
            have hkk := HI.out.lt
            have hds := Lib.hid HI.out.size
            have hkd : kk < d.size := by have := HL2.out; omega
            have hHk : Holds enc wr blk 0 dk := by rw [HWR.out]; exact holds_putRow enc _ blk 0 d dk HH.out hds.out
            by_cases hlt2 : k2 < L2
            · have hm : o1 + k2 < d.size := by have := HL2.out; omega
              obtain ⟨cm, _⟩ := hHk (o1 + k2) (by rw [hds.out]; omega)
              obtain ⟨cp, _⟩ := hHk (o1 + k2 - 1) (by rw [hds.out]; omega)
              obtain ⟨ck, fk⟩ := hHk kk (by rw [hds.out]; omega)
              rw [HI.out.high (o1 + k2) (by omega)] at cm
              rw [HI.out.high (o1 + k2 - 1) (by omega)] at cp
              simp only [Nat.zero_add] at cm cp ck fk
              clear hHk
              obtain ⟨u, hu⟩ : ∃ u, d[o1 + k2]! = u := ⟨_, rfl⟩
              obtain ⟨v, hv⟩ : ∃ v, d[o1 + k2 - 1]! = v := ⟨_, rfl⟩
              rw [hu] at cm
              rw [hv] at cp
              have C : Aside (d[o1 + k2]! = u ∧ d[o1 + k2 - 1]! = v) := ⟨hu, hv⟩
              clear hu hv
              obtain ⟨old, hold⟩ : ∃ old, dk[kk]! = old := ⟨_, rfl⟩
              rw [hold] at ck
              clear hold
              obtain ⟨k2p, rfl⟩ : ∃ k2p, k2 = k2p + 1 := ⟨k2 - 1, by omega⟩
              rw [show o1 + (k2p + 1) - 1 = o1 + k2p by omega] at cp
              have HCW : Hid (∀ n, Calls Try.prog 59 #[enc u, enc v] (wr.drewN n) fun e w' => e = .returned (.bool (eq u v)) ∧ (wr.drewN n) = w') := fun n => by
                have := HC.out dk u v (q2 + n) hds.out
                rw [← World.drewN_drewN, ← HWR.out] at this
                exact this
              have hwp : IntKind.i64.wrap (k2p : Int) = (k2p : Int) := IntWalk.i64_in _ (by omega)
              have jz : (k2p : Int) + 1 < (L2 : Int) := by omega
              have jz1 : (k2p : Int) < (L2 : Int) := by omega
              have p0 : (0 : Int) ≤ (k2p : Int) + 1 := by omega
              have e0 : ((k2p : Int) + 1).toNat = k2p + 1 := by omega
              have hkdi : (kk : Int) < (d.size : Int) := by omega
              by_cases huv : eq u v = true
              · rw [huv] at HCW
                have HUV := Lib.hid huv
                clear huv
                go_wp2_with fail
                go_quiet_o (first | (go_at_call 59; refine Calls.quiet_of_same ((HCW.out _).mono fun e w1 h => ⟨h.1, h.2.symm⟩)))
                go_wp2
                go_roundg (L2 - (k2p + 1 + 1))
                case measure => omega
                case rel => exact ⟨kk, k2p + 1 + 1, q2 + nq, dk, rfl, by go_num, by omega, by omega, Nat.le_refl _, by show _ = _; rw [HWR.out, World.drewN_drewN], HI.out.skip (by rw [C.out.1, C.out.2]; exact HUV.out)⟩
              · have hd0 : eq u v = false := by simpa using huv
                rw [hd0] at HCW
                have HUV := Lib.hid hd0
                clear huv hd0
                go_wp2_with fail
                go_quiet_o (first | (go_at_call 59; refine Calls.quiet_of_same ((HCW.out _).mono fun e w1 h => ⟨h.1, h.2.symm⟩)))
                have HW3 : Hid (wr.drewN nq = (putRow enc w blk 0 dk).drewN (q2 + nq)) := by show _ = _; rw [HWR.out, World.drewN_drewN]
                have cm2 : (wr.drewN nq).cell? ⟨blk, o1 + (k2p + 1), none⟩ = some (enc u) := cm
                have ck2 : (wr.drewN nq).cell? ⟨blk, kk, none⟩ = some (enc old) := ck
                have fk2 : (wr.drewN nq).frozen? ⟨blk, kk, none⟩ = false := fk
                clear cm cp ck fk HCW
                generalize wr.drewN nq = wq3 at HW3 cm2 ck2 fk2 ⊢
                go_wp2
                go_roundg (L2 - (k2p + 1 + 1))
                case measure => omega
                case rel => exact ⟨kk + 1, k2p + 1 + 1, q2 + nq, dk.setIfInBounds kk u, by go_num, by go_num, by omega, by omega, Nat.le_refl _, store_row enc (by rw [hds.out]; omega) HW3.out u, by have := HI.out.keep hm (by rw [C.out.1, C.out.2]; exact HUV.out); rwa [C.out.1] at this⟩
            · have hend : k2 = L2 := by omega
              subst hend
              have hkc : (kk : Int) ≤ (cap : Int) := by omega
              have hkd' : (kk : Int) ≤ (d.size : Int) := by omega
              have hcl : ∀ ty, (Builtin.clear_ #[34] ty #[.slice (some ⟨blk, kk, none⟩) (d.size - kk) (cap - kk)]).run Try.prog wr = .ok (.tuple #[]) (wr.setCells blk kk (List.replicate (d.size - kk) (.slice none 0 0))) :=
                fun ty => Lib.run_clear_slice wr _ _ ty _ Try.underlying34 Try.zeroValue22 rfl rfl blk kk _ _ (by omega) (fun j hj => by have := (hHk (kk + j) (by rw [hds.out]; omega)).1; rw [Nat.zero_add] at this; rw [this]; rfl) (fun j hj => by have := (hHk (kk + j) (by rw [hds.out]; omega)).2; rw [Nat.zero_add] at this; exact this)
              have HEND : Hid (CI eq d d.size kk dk) := by have h := HI.out; rw [show o1 + k2 = d.size by have := HL2.out; omega] at h; exact h
              clear hHk
              go_wp2
              go_ret
              refine ⟨by rw [HEND.out.len (Nat.le_refl _)] <;> rfl, q2, ?_⟩
              rw [← HEND.out.done zr, ← HZ.out]
              exact clear_row enc HWR.out zr (by rw [hds.out]; omega)
        · have hd0 : eq x y = false := by simpa using hdup
          rw [hd0] at HCW
          go_wp2_with fail
          go_quiet_o (first | (go_at_call 59; refine Calls.quiet_of_same ((HCW.out _).mono fun e w1 h => ⟨h.1, h.2.symm⟩)))
          go_wp2
          go_roundg (d.size - (kp + 1 + 1))
          case measure => omega
          case rel =>
            refine ⟨kp + 1 + 1, _, by omega, by omega, Nat.le_refl _, by go_num, by rw [← hwq, World.drewN_drewN], fun j hj1 hj => ?_⟩
            by_cases e : j = kp + 1
            · subst e
              rw [B.out.1, B.out.2]; exact hd0
            · exact A.out j hj1 (by omega)
      · have hkk : k = d.size := by omega
        subst hkk
        go_wp2
        go_ret
        obtain ⟨e1, e2⟩ := HS.out q A.out
        exact ⟨by rw [e1] <;> rfl, q, by rw [← e2, putRow_self enc w blk 0 d HH.out]⟩
end Go.Proofs.Ytbgabipngdillaa
