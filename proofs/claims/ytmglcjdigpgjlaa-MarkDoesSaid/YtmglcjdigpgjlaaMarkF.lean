/- What Find of the packages mark and privatefetchref22 returns. -/
import Derived.Test.YtmglcjdigpgjlaaMarkC
import Derived.Laws.EntriesVeiled
namespace Go.Proofs.Ytmglcjdigpgjlaa
open Go.RowKit Go.Maps

theorem compare_any (n a b : Int) (w : World) (hn : 0 ≤ n ∧ n < 2147483647) (ha : 0 ≤ a ∧ a < 2147483647) :
    Calls Try.prog 43 #[.int .i64 n, .agg #[.int .i64 a, .int .i64 b]] w fun e w' => e = .returned (.int .i64 (a - n)) ∧ Below w.heap.size w w' := by
  go_enter Try.func43, Try.ntmps43
  go_wp2
  go_ret
  exact ⟨rfl, (Below.refl _ _).alloc (Nat.le_refl _) _⟩

theorem find1_any (n a b : Int) (cb : Nat) (w : World) (hn : 0 ≤ n ∧ n < 2147483647) (ha : 0 ≤ a ∧ a < 2147483647) (hc : w.cell? ⟨cb, 0, none⟩ = some (.func (.func 43) #[] #[])) :
    Calls Try.prog 45 #[.agg #[.int .i64 a, .int .i64 b], .int .i64 n, .pointer (some ⟨cb, 0, none⟩)] w fun e w' => e = .returned (.int .i64 (a - n)) ∧ Below w.heap.size w w' := by
  have hlt := World.block_lt_of_cell? w _ hc
  go_enter Try.func45, Try.ntmps45
  go_wp2_with ((with_reducible refine (compare_any _ _ _ _ hn ha).mono ?_); rintro e w1 ⟨rfl, hb1⟩)
  go_ret
  exact ⟨rfl, ((Below.refl _ _).alloc (Nat.le_refl _) _).trans (hb1.mono (by simp))⟩

set_option maxHeartbeats 1000000 in
theorem bsf_any (l : List (Int × Int)) (v : Value) (id : Int) (cb : Nat) (w : World) (h : SP w.heap.size w v l) (hid : 0 ≤ id ∧ id < 2147483647) (hl : ∀ k (h : k < l.length), 0 ≤ l[k].1 ∧ l[k].1 < 2147483647)
    (hs : ∀ j k (hj : j < k) (hk : k < l.length), (l[j]'(by omega)).1 < l[k].1) (hlen : l.length ≤ 16) (hc : w.cell? ⟨cb, 0, none⟩ = some (.func (.func 43) #[] #[])) :
    Calls Try.prog 44 #[v, .int .i64 id, .func (.func 45) #[] #[.pointer (some ⟨cb, 0, none⟩)]] w
      fun e w' => ∃ (i : Nat) (b : Bool), e = .returned (.tuple #[.int .i64 i, .bool b]) ∧ (b = true → ∃ h : i < l.length, l[i].1 = id) ∧ (b = false → ∀ k (h : k < l.length), l[k].1 ≠ id) ∧ Below w.heap.size w w' := by
  obtain ⟨A, c, rfl, hcc, hm, hr, ha⟩ := h
  have hcb := World.block_lt_of_cell? w _ hc
  go_enter Try.func44, Try.ntmps44
  go_wp2
  go_loopw [9, 10] (fun a b wr => ∃ i j : Nat, i ≤ j ∧ j ≤ l.length ∧ a = .int .i64 i ∧ b = .int .i64 j ∧ (∀ q (h : q < i) (h' : i ≤ l.length), (l[q]'(by omega)).1 < id) ∧ (∀ q (_ : j ≤ q) (h : q < l.length), id ≤ l[q].1) ∧ Below w.heap.size w wr)
    (fun a b _ => (intOf b).toNat - (intOf a).toNat)
  case atStart => exact ⟨0, l.length, by omega, Nat.le_refl _, rfl, rfl, fun q h => absurd h (by omega), fun q h h' => absurd h (by omega), Below.refl _ _⟩
  case round =>
    obtain ⟨i, j, hij, hj, rfl, rfl, h1, h2, hbl⟩ := hrel
    have HS := Lib.hid hs
    have HL := Lib.hid hl
    have HA := Lib.hid ha
    have H1 := Lib.hid h1
    have H2 := Lib.hid h2
    clear hs hl ha h1 h2 hr
    have hcr := (hbl.cell (p := ⟨cb, 0, none⟩) hcb).trans hc
    have hcbr : cb < wr.heap.size := by have := hbl.size; omega
    by_cases hlt : i < j
    · obtain ⟨b, off, rfl, hb, hcell⟩ := HA.out (by omega)
      have c0 : wr.cell? ⟨b, off + (i + j) / 2 * 2, none⟩ = some (.int .i64 (l[(i + j) / 2]'(by omega)).1) := (hbl.cell hb).trans (hcell _ (by omega) 0 (by omega))
      have c1 : wr.cell? ⟨b, off + (i + j) / 2 * 2 + 1, none⟩ = some (.int .i64 (l[(i + j) / 2]'(by omega)).2) := (hbl.cell hb).trans (hcell _ (by omega) 1 (by omega))
      have hlm := HL.out ((i + j) / 2) (by omega)
      clear hcell
      by_cases hq : (l[(i + j) / 2]'(by omega)).1 < id
      · have hd : decide ((l[(i + j) / 2]'(by omega)).1 - id < 0) = true := by simp; omega
        go_wp2_with ((with_reducible refine (find1_any _ _ _ cb _ hid hlm hcr).mono ?_); rintro e w1 ⟨rfl, hb1⟩)
        go_roundw
        case rel =>
          refine ⟨(i + j) / 2 + 1, j, by omega, hj, by go_num, rfl, fun q hq1 hq2 => ?_, H2.out, hbl.trans (hb1.mono hbl.size)⟩
          by_cases hqe : q = (i + j) / 2
          · subst hqe; exact hq
          · have := HS.out q ((i + j) / 2) (by omega) (by omega); omega
        case measure => simp [intOf]; omega
      · have hd : decide ((l[(i + j) / 2]'(by omega)).1 - id < 0) = false := by simp; omega
        go_wp2_with ((with_reducible refine (find1_any _ _ _ cb _ hid hlm hcr).mono ?_); rintro e w1 ⟨rfl, hb1⟩)
        go_roundw
        case rel =>
          refine ⟨i, (i + j) / 2, by omega, by omega, rfl, by go_num, H1.out, fun q hq1 hq2 => ?_, hbl.trans (hb1.mono hbl.size)⟩
          by_cases hqe : q = (i + j) / 2
          · subst hqe; omega
          · have := HS.out ((i + j) / 2) q (by omega) (by omega); omega
        case measure => simp [intOf]; omega
    · obtain rfl : i = j := by omega
      by_cases hi : i < l.length
      · obtain ⟨b, off, rfl, hb, hcell⟩ := HA.out (by omega)
        have c0 : wr.cell? ⟨b, off + i * 2, none⟩ = some (.int .i64 l[i].1) := (hbl.cell hb).trans (hcell _ hi 0 (by omega))
        have c1 : wr.cell? ⟨b, off + i * 2 + 1, none⟩ = some (.int .i64 l[i].2) := (hbl.cell hb).trans (hcell _ hi 1 (by omega))
        have hlm := HL.out i hi
        clear hcell
        by_cases hq : l[i].1 = id
        · have hd : ((l[i].1 - id) == 0) = true := by simp; omega
          have HQ := Lib.hid hq
          clear hq
          go_wp2_with ((with_reducible refine (find1_any _ _ _ cb _ hid hlm hcr).mono ?_); rintro e w1 ⟨rfl, hb1⟩)
          go_ret2
          exact ⟨i, true, rfl, fun _ => ⟨hi, HQ.out⟩, (fun h => by cases h), hbl.trans (hb1.mono hbl.size)⟩
        · have hd : ((l[i].1 - id) == 0) = false := by simp; omega
          go_wp2_with ((with_reducible refine (find1_any _ _ _ cb _ hid hlm hcr).mono ?_); rintro e w1 ⟨rfl, hb1⟩)
          go_ret2
          refine ⟨i, false, rfl, (fun h => by cases h), fun _ k hk e => ?_, hbl.trans (hb1.mono hbl.size)⟩
          by_cases hki : k < i
          · have := H1.out k hki (by omega); omega
          · by_cases hke : k = i
            · subst hke; exact hq e
            · have := HS.out i k (by omega) hk; have := H2.out i (Nat.le_refl _) hi; omega
      · have hd : decide (i < l.length) = false := by simp; omega
        go_wp2_with fail
        go_ret2
        exact ⟨i, false, rfl, (fun h => by cases h), fun _ k hk e => by have := H1.out k (by omega) (by omega); omega, hbl⟩

/-- the person with an ID, if the directory is valid -/
def fnd (l : List (Int × Int)) (id : Int) : Option (Int × Int) := if chk l = 0 then l.find? (fun p => p.1 == id) else none
def frs (l : List (Int × Int)) (id : Int) : Value := match fnd l id with
  | some p => .tuple #[.agg #[.int .i64 p.1, .int .i64 p.2], .bool true]
  | none => .tuple #[.agg #[.int .i64 0, .int .i64 0], .bool false]

theorem chk_all {l : List (Int × Int)} (h : chk l = 0) : l.length ≤ 16 ∧ ∀ k, k < l.length → bad l k = 0 := by
  unfold chk at h
  split at h
  · omega
  · exact ⟨by omega, fun k hk => fst_zero_inv _ _ 0 h k (by omega) (by omega)⟩
theorem bad_z {l : List (Int × Int)} {k : Nat} (hk : k < l.length) (h : bad l k = 0) : wi l[k].1 = true ∧ wi l[k].2 = true ∧ (0 < k → (l[k - 1]'(by omega)).1 < l[k].1) ∧ ((l.take k).map (·.2)).contains l[k].2 = false := by
  unfold bad at h
  simp only [List.getElem?_eq_getElem hk, Option.getD_some] at h
  split at h
  · omega
  · rename_i h1
    split at h
    · omega
    · rename_i h2
      split at h
      · omega
      · rename_i h3
        refine ⟨by simpa using fun e => h1 (.inl e), by simpa using fun e => h1 (.inr e), fun h0 => ?_, by simpa using h3⟩
        rw [List.getElem?_eq_getElem (by omega)] at h2
        simp only [Option.getD_some] at h2
        omega
theorem chk_asc {l : List (Int × Int)} (h : chk l = 0) : ∀ j k (hj : j < k) (hk : k < l.length), (l[j]'(by omega)).1 < l[k].1 := by
  have hb := (chk_all h).2
  intro j k
  induction k with
  | zero => intro hj; omega
  | succ k ih =>
    intro hj hk
    have h1 := (bad_z hk (hb _ hk)).2.2.1 (by omega)
    simp only [Nat.add_sub_cancel] at h1
    by_cases e : j = k
    · subst e; exact h1
    · have := ih (by omega) (by omega); omega
theorem fnd_none {l : List (Int × Int)} {id : Int} (h : ∀ k (hk : k < l.length), l[k].1 ≠ id) : fnd l id = none := by
  unfold fnd
  split
  · rw [List.find?_eq_none]
    intro x hx
    obtain ⟨k, hk, rfl⟩ := List.mem_iff_getElem.1 hx
    simpa using h k hk
  · rfl
theorem fnd_some {l : List (Int × Int)} {id : Int} (h : chk l = 0) {i : Nat} (hi : i < l.length) (e : l[i].1 = id) : fnd l id = some l[i] := by
  unfold fnd
  rw [if_pos h]
  have ha := chk_asc h
  rw [List.find?_eq_some_iff_getElem]
  refine ⟨by simpa using e, i, hi, rfl, fun j hj => ?_⟩
  have := ha j i hj hi
  simp
  omega

theorem mfind_any (l : List (Int × Int)) (v : Value) (id : Int) (w : World) (h : SP w.heap.size w v l) :
    Calls Try.prog 20 #[v, .int .i64 id] w fun e w' => e = .returned (frs l id) ∧ Below w.heap.size w w' := by
  by_cases h0 : chk l = 0
  · by_cases hw : wi id = true
    · obtain ⟨h16, hbad⟩ := chk_all h0
      have hasc := chk_asc h0
      have hrg : ∀ k (h : k < l.length), 0 ≤ l[k].1 ∧ l[k].1 < 2147483647 := fun k hk => by have := wi_t (bad_z hk (hbad k hk)).1; omega
      have hwi := wi_t hw
      obtain ⟨A, c, rfl, hcc, hm, hr, ha⟩ := _root_.id h
      have H16 := Lib.hid h16
      have HB := Lib.hid hbad
      have HR := Lib.hid hrg
      have HS := Lib.hid hasc
      have HW := Lib.hid hwi
      have HA := Lib.hid ha
      have HH := Lib.hid h
      have H0 := Lib.hid h0
      have hcz : (chk l == 0) = true := by simpa using h0
      have hcz' : (chk l != 0) = false := by simpa using h0
      have hmf : ∀ (fn : Fn) (first cap : Array Value) (w : World), (Instr.makeFunc fn first cap).run Try.prog w = .ok (.func fn first cap) w := fun _ _ _ _ => rfl
      clear h16 hbad hasc hrg hwi ha h h0 hr
      go_enter Try.func20, Try.ntmps20
      go_wp2_with ((refine (mcheck_any l _ _ (HH.out.below ((Below.refl _ _).alloc (Nat.le_refl _) _) |>.more (by simp))).mono ?_); rintro e w1 ⟨rfl, hb1⟩; obtain ⟨bc1, bf1⟩ := bcell hb1; have hz1 := hb1.size)
      refine (within_t _ _ hw).mono ?_; rintro e w' ⟨rfl, rfl⟩
      go_wp2_with fail
      have hW1 : Below w.heap.size w (w1.alloc (.cells #[.func (.func 43) #[] #[]] 69)) := (((Below.refl _ _).alloc (Nat.le_refl _) _).trans (hb1.mono (by simp))).alloc (by simp at hz1; omega) _
      refine (bsf_any l _ id w1.heap.size _ (HH.out.below hW1 |>.more hW1.size) (by have := HW.out; omega) HR.out HS.out H16.out (by simp [go_sem])).mono ?_
      rintro e w2 ⟨i, b, rfl, ht, hf, hb2⟩
      obtain ⟨bc2, bf2⟩ := bcell hb2
      have hz2 := hb2.size
      have hz3 := hW1.size
      simp at hz1 hz2 hz3
      have hz0 : w.heap.size < w1.heap.size := by omega
      have hW2 := hW1.trans (hb2.mono hW1.size)
      have q0 : w2.cell? ⟨w.heap.size, 0, none⟩ = some (.int .i64 0) := by rw [bc2 _ _ (by simp; omega)]; simp [go_sem, bc1, hz0]
      have q1 : w2.cell? ⟨w.heap.size, 1, none⟩ = some (.int .i64 0) := by rw [bc2 _ _ (by simp; omega)]; simp [go_sem, bc1, hz0]
      have f0 : w2.frozen? ⟨w.heap.size, 0, none⟩ = false := by rw [bf2 _ _ (by simp; omega)]; simp [go_sem, bf1, hz0]
      have f1 : w2.frozen? ⟨w.heap.size, 1, none⟩ = false := by rw [bf2 _ _ (by simp; omega)]; simp [go_sem, bf1, hz0]
      clear bc1 bf1 bc2 bf2
      cases b with
      | false =>
        have HF := Lib.hid (show frs l id = .tuple #[.agg #[.int .i64 0, .int .i64 0], .bool false] by
          unfold frs
          rw [fnd_none (hf rfl)])
        clear hf ht
        go_wp2_with fail
        exact bodyPost_ret (v := .tuple #[.agg #[.int .i64 0, .int .i64 0], .bool false]) (by simp [results, Try.results20, go_sem, q0, q1]) rfl
          ⟨by rw [HF.out], (hW2.setCell (Nat.le_refl _) _).setCell (Nat.le_refl _) _⟩
      | true =>
        obtain ⟨hi, he⟩ := ht rfl
        have HF := Lib.hid (show frs l id = .tuple #[.agg #[.int .i64 l[i].1, .int .i64 l[i].2], .bool true] by
          unfold frs
          rw [fnd_some H0.out hi he])
        obtain ⟨b, off, rfl, hb, hcell⟩ := HA.out (by omega)
        have c0 : w2.cell? ⟨b, off + i * 2, none⟩ = some (.int .i64 l[i].1) := (hW2.cell hb).trans (hcell _ hi 0 (by omega))
        have c1 : w2.cell? ⟨b, off + i * 2 + 1, none⟩ = some (.int .i64 l[i].2) := (hW2.cell hb).trans (hcell _ hi 1 (by omega))
        have hb4 : b < w2.heap.size := by omega
        clear hf ht he hcell
        go_wp2_with fail
        exact bodyPost_ret (v := .tuple #[.agg #[.int .i64 l[i].1, .int .i64 l[i].2], .bool true]) (by simp [results, Try.results20, go_sem, q0, q1]) rfl
          ⟨by rw [HF.out], (hW2.setCell (Nat.le_refl _) _).setCell (Nat.le_refl _) _⟩
    · have HF := Lib.hid (show frs l id = .tuple #[.agg #[.int .i64 0, .int .i64 0], .bool false] by
        unfold frs
        rw [fnd_none fun k hk e => by
          have := (bad_z hk ((chk_all h0).2 k hk)).1
          rw [e] at this
          exact hw this])
      have hwf : wi id = false := by simpa using hw
      have hcz : (chk l == 0) = true := by simpa using h0
      have hcz' : (chk l != 0) = false := by simpa using h0
      clear h0 hw
      go_enter Try.func20, Try.ntmps20
      go_wp2_with ((refine (mcheck_any l v _ (h.below ((Below.refl _ _).alloc (Nat.le_refl _) _) |>.more (by simp))).mono ?_); rintro e w1 ⟨rfl, hb1⟩; obtain ⟨bc1, bf1⟩ := bcell hb1; have hz1 := hb1.size)
      refine (within_f _ _ hwf).mono ?_; rintro e w' ⟨rfl, rfl⟩
      go_wp2_with fail
      exact bodyPost_ret (v := .tuple #[.agg #[.int .i64 0, .int .i64 0], .bool false]) (by simp [results, Try.results20, go_sem, bc1]) rfl
        ⟨by rw [HF.out], ((((Below.refl _ _).alloc (Nat.le_refl _) _).trans (hb1.mono (by simp))).setCell (Nat.le_refl _) _).setCell (Nat.le_refl _) _⟩
  · have HF := Lib.hid (show frs l id = .tuple #[.agg #[.int .i64 0, .int .i64 0], .bool false] by unfold frs fnd; rw [if_neg h0])
    have hcz : (chk l == 0) = false := by simpa using h0
    have hcz' : (chk l != 0) = true := by simpa using h0
    go_enter Try.func20, Try.ntmps20
    go_wp2_with ((refine (mcheck_any l v _ (h.below ((Below.refl _ _).alloc (Nat.le_refl _) _) |>.more (by simp))).mono ?_); rintro e w1 ⟨rfl, hb1⟩; obtain ⟨bc1, bf1⟩ := bcell hb1; have hz1 := hb1.size)
    exact bodyPost_ret (v := .tuple #[.agg #[.int .i64 0, .int .i64 0], .bool false]) (by simp [results, Try.results20, go_sem, bc1]) rfl
      ⟨by rw [HF.out], ((((Below.refl _ _).alloc (Nat.le_refl _) _).trans (hb1.mono (by simp))).setCell (Nat.le_refl _) _).setCell (Nat.le_refl _) _⟩

theorem rfind_any (l : List (Int × Int)) (v : Value) (pid : Int) (w : World) (h : SP w.heap.size w v l) :
    Calls Try.prog 21 #[v, .int .i64 pid] w fun e w' => e = .returned (frs l pid) ∧ Below w.heap.size w w' := by
  obtain ⟨A, c, rfl, hcc, hm, hr, ha⟩ := id h
  have HA := Lib.hid ha
  have HH := Lib.hid h
  clear ha h hr
  by_cases h0 : chk l = 0
  · have H0 := Lib.hid h0
    have hcz : (chk l == 0) = true := by simpa using h0
    have hcz' : (chk l != 0) = false := by simpa using h0
    clear h0
    go_enter Try.func21, Try.ntmps21
    go_wp2_with ((refine (rcheck_any l _ _ (HH.out.below ((Below.refl _ _).alloc (Nat.le_refl _) _) |>.more (by simp))).mono ?_); rintro e w1 ⟨rfl, hb1⟩; obtain ⟨bc1, bf1⟩ := bcell hb1; have hz1 := hb1.size)
    have hW1 : Below w.heap.size w w1 := ((Below.refl _ _).alloc (Nat.le_refl _) _).trans (hb1.mono (by simp))
    have q0 : w1.cell? ⟨w.heap.size, 0, none⟩ = some (.int .i64 0) := by rw [bc1 _ _ (by simp)]; simp [go_sem]
    have q1 : w1.cell? ⟨w.heap.size, 1, none⟩ = some (.int .i64 0) := by rw [bc1 _ _ (by simp)]; simp [go_sem]
    have f0 : w1.frozen? ⟨w.heap.size, 0, none⟩ = false := by rw [bf1 _ _ (by simp)]; simp [go_sem]
    have f1 : w1.frozen? ⟨w.heap.size, 1, none⟩ = false := by rw [bf1 _ _ (by simp)]; simp [go_sem]
    have hz2 : w.heap.size + 1 ≤ w1.heap.size := by simpa using hz1
    clear bc1 bf1 hz1 hb1
    go_loopw [14] (fun i wr => ∃ k : Nat, k ≤ l.length ∧ i = .int .i64 k ∧ (∀ q (h : q < k) (h' : k ≤ l.length), (l[q]'(by omega)).1 ≠ pid) ∧ Below w1.heap.size w1 wr) (fun i _ => l.length - (intOf i).toNat)
    case atStart => exact ⟨0, Nat.zero_le _, rfl, fun q hq => absurd hq (by omega), Below.refl _ _⟩
    case round =>
      obtain ⟨k, hk, rfl, hno, hbl⟩ := hrel
      have HN := Lib.hid hno
      clear hno
      have hW2 := hW1.trans (hbl.mono hW1.size)
      have hs := hbl.size
      have q0' := (hbl.cell (p := ⟨w.heap.size, 0, none⟩) (Nat.lt_of_lt_of_le (Nat.lt_succ_self _) hz2)).trans q0
      have q1' := (hbl.cell (p := ⟨w.heap.size, 1, none⟩) (Nat.lt_of_lt_of_le (Nat.lt_succ_self _) hz2)).trans q1
      have f0' := (hbl.frozen (p := ⟨w.heap.size, 0, none⟩) (Nat.lt_of_lt_of_le (Nat.lt_succ_self _) hz2)).trans f0
      have f1' := (hbl.frozen (p := ⟨w.heap.size, 1, none⟩) (Nat.lt_of_lt_of_le (Nat.lt_succ_self _) hz2)).trans f1
      have hz3 : w.heap.size < wr.heap.size := by omega
      clear q0 q1 f0 f1
      by_cases hlt : k < l.length
      · obtain ⟨b, off, rfl, hb, hcell⟩ := HA.out (by omega)
        have c0 : wr.cell? ⟨b, off + k * 2, none⟩ = some (.int .i64 l[k].1) := (hW2.cell hb).trans (hcell _ hlt 0 (by omega))
        have c1 : wr.cell? ⟨b, off + k * 2 + 1, none⟩ = some (.int .i64 l[k].2) := (hW2.cell hb).trans (hcell _ hlt 1 (by omega))
        have hb2 : b < wr.heap.size := by omega
        have hb3 : b < w.heap.size := hb
        clear hcell
        by_cases he : l[k].1 = pid
        · have HF := Lib.hid (show frs l pid = .tuple #[.agg #[.int .i64 l[k].1, .int .i64 l[k].2], .bool true] by
            unfold frs
            rw [fnd_some H0.out hlt he])
          have hd : (l[k].1 == pid) = true := by simpa using he
          clear he
          go_wp2
          exact bodyPost_ret (v := .tuple #[.agg #[.int .i64 l[k].1, .int .i64 l[k].2], .bool true]) (by simp [results, Try.results21, go_sem, q0', q1', hz3]) rfl
            ⟨by rw [HF.out], ((hW2.setCell (Nat.le_refl _) _).setCell (Nat.le_refl _) _).alloc (by simp; omega) _⟩
        · have hd : (l[k].1 == pid) = false := by simpa using he
          have HN2 : Hid (∀ q (h : q < k + 1) (h' : k + 1 ≤ l.length), (l[q]'(by omega)).1 ≠ pid) := by
            intro q h1 h2
            by_cases e : q = k
            · subst e; exact he
            · exact HN.out q (by omega) (by omega)
          clear he
          go_wp2
          go_roundw
          case rel => exact ⟨k + 1, by omega, by go_num, HN2.out, hbl.alloc hs _⟩
          case measure => simp [intOf]; omega
      · have HF := Lib.hid (show frs l pid = .tuple #[.agg #[.int .i64 0, .int .i64 0], .bool false] by
          unfold frs
          rw [fnd_none fun q hq => HN.out q (by omega) hk])
        go_wp2
        exact bodyPost_ret (v := .tuple #[.agg #[.int .i64 0, .int .i64 0], .bool false]) (by simp [results, Try.results21, go_sem, q0', q1']) rfl
          ⟨by rw [HF.out], (hW2.setCell (Nat.le_refl _) _).setCell (Nat.le_refl _) _⟩
  · have HF := Lib.hid (show frs l pid = .tuple #[.agg #[.int .i64 0, .int .i64 0], .bool false] by unfold frs fnd; rw [if_neg h0])
    have hcz : (chk l == 0) = false := by simpa using h0
    have hcz' : (chk l != 0) = true := by simpa using h0
    go_enter Try.func21, Try.ntmps21
    go_wp2_with ((refine (rcheck_any l _ _ (HH.out.below ((Below.refl _ _).alloc (Nat.le_refl _) _) |>.more (by simp))).mono ?_); rintro e w1 ⟨rfl, hb1⟩; obtain ⟨bc1, bf1⟩ := bcell hb1; have hz1 := hb1.size)
    exact bodyPost_ret (v := .tuple #[.agg #[.int .i64 0, .int .i64 0], .bool false]) (by simp [results, Try.results21, go_sem, bc1]) rfl
      ⟨by rw [HF.out], ((((Below.refl _ _).alloc (Nat.le_refl _) _).trans (hb1.mono (by simp))).setCell (Nat.le_refl _) _).setCell (Nat.le_refl _) _⟩
end Go.Proofs.Ytmglcjdigpgjlaa
