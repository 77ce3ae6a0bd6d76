/- Joined: Rb. -/
import Derived.BigRegion
import Derived.Test.YtllnomembakboaaB23
import Derived.Test.YtllnomembakboaaB24
namespace Go.Proofs.Ytllnomembakboaa
open Go.RowKit

/-- what stands in the number after so many bytes -/
def acc (b : List UInt8) (i : Nat) : Nat → Int
  | 0 => 0
  | 1 => bAt b (37 * i + 36)
  | 2 => bAt b (37 * i + 36) * 256 + bAt b (37 * i + 35)
  | 3 => (bAt b (37 * i + 36) * 256 + bAt b (37 * i + 35)) * 256 + bAt b (37 * i + 34)
  | _ => ((bAt b (37 * i + 36) * 256 + bAt b (37 * i + 35)) * 256 + bAt b (37 * i + 34)) * 256 + bAt b (37 * i + 33)
theorem acc_all (b : List UInt8) (i : Nat) : acc b i 4 = vAt b i := by
  have h0 := bAt_bd b (37 * i + 33)
  have h1 := bAt_bd b (37 * i + 34)
  have h2 := bAt_bd b (37 * i + 35)
  have h3 := bAt_bd b (37 * i + 36)
  unfold vAt
  show ((bAt b (37 * i + 36) * 256 + bAt b (37 * i + 35)) * 256 + bAt b (37 * i + 34)) * 256 + bAt b (37 * i + 33) = _
  omega
theorem acc_bd (b : List UInt8) (i j : Nat) (hj : j < 4) : 0 ≤ acc b i j ∧ acc b i j < 16777216 := by
  have h1 := bAt_bd b (37 * i + 34)
  have h2 := bAt_bd b (37 * i + 35)
  have h3 := bAt_bd b (37 * i + 36)
  obtain rfl | rfl | rfl | rfl : j = 0 ∨ j = 1 ∨ j = 2 ∨ j = 3 := by omega
  · show 0 ≤ (0 : Int) ∧ (0 : Int) < _; omega
  · show 0 ≤ bAt b (37 * i + 36) ∧ bAt b (37 * i + 36) < _; omega
  · show 0 ≤ bAt b (37 * i + 36) * 256 + bAt b (37 * i + 35) ∧ bAt b (37 * i + 36) * 256 + bAt b (37 * i + 35) < _; omega
  · show 0 ≤ (bAt b (37 * i + 36) * 256 + bAt b (37 * i + 35)) * 256 + bAt b (37 * i + 34) ∧ (bAt b (37 * i + 36) * 256 + bAt b (37 * i + 35)) * 256 + bAt b (37 * i + 34) < _; omega
theorem acc_next (b : List UInt8) (i j : Nat) (hj : j < 4) : acc b i (j + 1) = acc b i j * 256 + bAt b (37 * i + (36 - j)) := by
  obtain rfl | rfl | rfl | rfl : j = 0 ∨ j = 1 ∨ j = 2 ∨ j = 3 := by omega
  · show bAt b (37 * i + 36) = 0 * 256 + bAt b (37 * i + 36); omega
  · rfl
  · rfl
  · rfl
set_option maxRecDepth 100000 in
set_option maxHeartbeats 4000000 in
theorem kdecode_any (n : Int) (s : ByteArray) (w : World) :
    Calls Try.prog 35 #[.int .i64 n, .string s] w (DcV n s w) := by
  go_enter Try.func35, Try.ntmps35
  go_wp2_with fail
  (with_reducible refine (slotted_any n w).mono ?_)
  rintro e w2 ⟨rfl, hw2⟩
  subst hw2
  obtain ⟨sb, esb⟩ : ∃ sb, sb = (decide (1 ≤ n) && decide (n ≤ 8)) := ⟨_, rfl⟩
  rw [← esb]
  have HSB := Lib.hid esb
  clear esb
  cases sb
  · go_wp2_with fail
    refine bodyPost_ret (v := .tuple #[.slice none 0 0, .int .i64 1]) (by simp [results, Try.results35, go_sem]) rfl ?_
    exact ⟨Below.refl _ _, .inl ⟨by have h := HSB.out.symm; simp at h; omega, rfl⟩⟩
  have hs : 1 ≤ n ∧ n ≤ 8 := by have h := HSB.out.symm; simpa using h
  obtain ⟨N, rfl⟩ : ∃ N : Nat, n = N := ⟨n.toNat, by omega⟩
  have hN : 1 ≤ N ∧ N ≤ 8 := by omega
  clear hs
  by_cases hl : s.size = N * 37
  case neg =>
    have h1 : ¬ ((s.size : Int) = (N : Int) * 37) := by omega
    have HL := Lib.hid hl
    go_wp2_with fail
    refine bodyPost_ret (v := .tuple #[.slice none 0 0, .int .i64 2]) (by simp [results, Try.results35, go_sem]) rfl ?_
    exact ⟨Below.refl _ _, .inr (.inl ⟨by omega, fun ⟨l, hl⟩ => HL.out (isB_len (by rw [Int.toNat_natCast] at hl; exact hl)), rfl⟩)⟩
  have h1 : (s.size : Int) = (N : Int) * 37 := by omega
  have HSZ := Lib.hid hl
  obtain ⟨b, eb⟩ : ∃ b, b = s.data.toList := ⟨_, rfl⟩
  have HEB := Lib.hid eb
  clear hl eb
  go_wp2_with fail
  go_loopw [7, 8, 9, 10, 11, 12, 25] (fun ov _ _ _ _ _ iv wr => ∃ i : Nat, i ≤ N ∧ iv = .int .i64 i ∧ wr.ownsRow w.heap.size 41 2 ov (scanP b i).length ((scanP b i).flatMap ecs) ∧ Below w.heap.size w wr ∧ ∀ j, j < i → 1 ≤ nAt b j) (fun _ _ _ _ _ _ iv _ => N - (intOf iv).toNat)
  case atStart => exact ⟨0, Nat.zero_le _, rfl, World.ownsRow_nil _ _ _ _, Below.refl _ _, fun j h => by omega⟩
  case round =>
    obtain ⟨i, hi, rfl, ho, hb, hpos⟩ := hrel
    have HO := Lib.hid ho
    have HB := Lib.hid hb
    have HPOS := Lib.hid hpos
    have hzr := hb.size
    clear ho hb hpos
    obtain ⟨ov, eov⟩ : ∃ ov, ov = u7 := ⟨_, rfl⟩
    subst eov
    by_cases hit : i < N
    · obtain ⟨lo, elo⟩ : ∃ lo, lo = i * 37 := ⟨_, rfl⟩
      have wi : IntKind.i64.wrap ((i : Int) + 1) = (i : Int) + 1 := by exact IntWalk.i64_in _ (by omega)
      obtain ⟨hh, ehh⟩ : ∃ hh, hh = lo + 37 := ⟨_, rfl⟩
      have wlo : IntKind.i64.wrap ((i : Int) * 37) = (lo : Int) := by rw [IntWalk.i64_in _ (by omega)]; omega
      have whi : IntKind.i64.wrap (((i : Int) + 1) * 37) = (hh : Int) := by rw [IntWalk.i64_in _ (by omega)]; omega
      obtain ⟨t, et⟩ : ∃ t, t = s.extract lo hh := ⟨_, rfl⟩
      have hsl : (Instr.slice 9 (.string s) (some (.int .i64 lo)) (some (.int .i64 hh)) none).run Try.prog wr = .ok (.string t) wr := by
        rw [run_slice_string (P := Try.prog) wr 9 s .i64 .i64 lo hh Try.underlying9 (by omega) (by omega) (by omega), et]
        rfl
      have hts : t.size = 37 := by rw [et, ByteArray.size_extract]; omega
      have HAT : Hid (∀ j (h : j < t.size), (t[j].toNat : Int) = bAt b (37 * i + j)) := (show Hid _ from fun j h => by
        subst et
        rw [ext_get s lo hh j h, elo, HEB.out, Nat.mul_comm i 37]
        rfl)
      obtain ⟨m, em⟩ : ∃ m, m = nAt b i := ⟨_, rfl⟩
      have hm0 : wrap64 ((t[0]'(by omega)).toNat : Int) = (m : Int) := by
        rw [HAT.out 0 (by omega), em, IntWalk.wrap64_in _ (by have := bAt_bd b (37 * i + 0); omega)]
        rfl
      have ht0 : (0 : Int) < (t.size : Int) := by omega
      have HM := Lib.hid em
      have hT : t = s.extract (i * 37) (i * 37 + 37) := by rw [et, ehh, elo]
      have HT := Lib.hid hT
      have HLO := Lib.hid elo
      clear elo ehh em et hT
      by_cases hm : m = 0
      · have hmb : ((m : Int) == 0) = true := by rw [beq_iff_eq]; omega
        have HUNI : Hid (∀ l, IsB N s.data.toList l → scanP b i = l) := (show Hid _ from fun l h => by
          have h2 := h.2.2
          rw [← HEB.out] at h2
          rw [← h2]
          exact scanP_enc (ascB_iff.1 h.1).1 h.2.1 (by omega) (by rw [h2]; exact HPOS.out) (.inr (by rw [h2, ← HM.out]; exact hm)))
        have HML : Hid (m = 0) := Lib.hid hm
        clear hm
        have HKS : Hid (∀ e ∈ scanP b i, e.1.size ≤ 9223372036854775807) := (show Hid _ from fun e he => by
          unfold scanP at he
          obtain ⟨j, _, rfl⟩ := List.mem_map.1 he
          have := kAt_size b j
          show (kAt b j).size ≤ _
          omega)
        have HSV : Hid (SV ecs 2 wr.heap.size wr ov (scanP b i)) := (show Hid _ from SV.of_own HO.out (fun x _ => ecs_len x))
        obtain ⟨out, eo⟩ : ∃ q, q = scanP b i := ⟨_, rfl⟩
        rw [← eo] at HO HUNI HKS HSV
        clear eo
        go_wp2_with fail
        (with_reducible refine (kencode_any N out _ wr HSV.out HKS.out).mono ?_)
        rintro e w9 ⟨rfl, hb9⟩
        have HB9 : Hid (Below w.heap.size w w9) := (show Hid _ from HB.out.trans (hb9.mono HB.out.size))
        have HO9 : Hid (w9.ownsRow w.heap.size 41 2 ov out.length (out.flatMap ecs)) := (show Hid _ from HO.out.kept (grownBy_of_below hb9 (some w9.heap.size)) (.inr (fun e => by have := (HO.out.lt _ e).2; have := hb9.size; omega)))
        clear hb9
        rcases encC_cases N hN out with ⟨hc, has, hle⟩ | ⟨hc, hno⟩
        · have HAS := Lib.hid has
          obtain ⟨b8, eb8⟩ : ∃ x, x = ByteArray.mk (encB N out).toArray := ⟨_, rfl⟩
          rw [encV_ok hN hle has, ← eb8]
          by_cases heq : b8 = s
          · have bq : (b8.toList == s.toList) = true := by rw [heq]; exact beq_self_eq_true _
            have heq2 : ByteArray.mk (encB N out).toArray = s := by rw [← eb8]; exact heq
            have HEQ := Lib.hid heq2
            clear hc has heq eb8 heq2
            go_wp2_with fail
            refine bodyPost_ret (v := .tuple #[ov, .int .i64 0]) (by simp [results, Try.results35, go_sem]) rfl ?_
            exact ⟨HB9.out, .inr (.inr ⟨by omega, out, ov, ⟨HAS.out, by rw [Int.toNat_natCast]; exact hle, by rw [← HEQ.out, Int.toNat_natCast]⟩, rfl, HO9.out⟩)⟩
          · have bq : (b8.toList == s.toList) = false := by rw [beq_eq_false_iff_ne]; exact fun e => heq (tl_inj e)
            have heq2 : ¬ (ByteArray.mk (encB N out).toArray = s) := by rw [← eb8]; exact heq
            have HEQ := Lib.hid heq2
            clear hc has heq eb8 heq2
            go_wp2_with fail
            refine bodyPost_ret (v := .tuple #[.slice none 0 0, .int .i64 2]) (by simp [results, Try.results35, go_sem]) rfl ?_
            exact ⟨HB9.out, .inr (.inl ⟨by omega, fun ⟨l, hl⟩ => by
              rw [Int.toNat_natCast] at hl
              have e1 := HUNI.out l hl
              refine HEQ.out ?_
              rw [e1, hl.2.2], rfl⟩)⟩
        · have HNO := Lib.hid hno
          have hv : encV N out = .tuple #[.string ⟨#[]⟩, .int .i64 (encC N out)] := by unfold encV; rw [if_neg (by omega)]
          rw [hv]
          have hc0 : ¬ (encC N out = 0) := by omega
          obtain ⟨cd, ecd⟩ : ∃ cd, cd = encC N out := ⟨_, rfl⟩
          rw [← ecd] at hc0 ⊢
          clear hc hv ecd hno
          go_wp2_with fail
          all_goals refine bodyPost_ret (v := .tuple #[.slice none 0 0, .int .i64 2]) (by simp [results, Try.results35, go_sem]) rfl ?_
          all_goals exact ⟨HB9.out, .inr (.inl ⟨by omega, fun ⟨l, hl⟩ => by
            rw [Int.toNat_natCast] at hl
            have e1 := HUNI.out l hl
            rw [e1] at HNO
            exact HNO.out ⟨hl.1, hl.2.1⟩, rfl⟩)⟩
      · have hmb : ((m : Int) == 0) = false := by rw [beq_eq_false_iff_ne]; omega
        have HM1 : Hid (1 ≤ m) := Lib.hid (by omega)
        by_cases hm32 : 32 < m
        · have hm2 : (32 : Int) < (m : Int) := by omega
          have HM32 := Lib.hid hm32
          clear hm hm32
          go_wp2_with fail
          refine bodyPost_ret (v := .tuple #[.slice none 0 0, .int .i64 2]) (by simp [results, Try.results35, go_sem]) rfl ?_
          exact ⟨HB.out, .inr (.inl ⟨by omega, fun ⟨l, hl⟩ => by
            have h2 := hl.2.2
            rw [← HEB.out, Int.toNat_natCast] at h2
            have h3 := HM.out
            have h4 := HM32.out
            rw [← h2] at h3
            rcases Nat.lt_or_ge i l.length with h5 | h5
            · rw [nAt_enc (ascB_iff.1 hl.1).1 h5] at h3
              have h6 := (ascB_iff.1 hl.1).1 _ (List.getElem_mem h5)
              have h7 := ky_bd (s := l[i].1) (by simp [ven] at h6; exact h6.1.1)
              omega
            · rw [nAt_end (ascB_iff.1 hl.1).1 h5] at h3
              omega, rfl⟩)⟩
        · have hm2 : ¬ ((32 : Int) < (m : Int)) := by omega
          have wm : IntKind.i64.wrap (1 + (m : Int)) = ((1 + m : Nat) : Int) := by rw [IntWalk.i64_in _ (by omega)]; omega
          obtain ⟨m1, em1⟩ : ∃ m1, m1 = 1 + m := ⟨_, rfl⟩
          rw [← em1] at wm
          obtain ⟨key, ek⟩ : ∃ k, k = kAt b i := ⟨_, rfl⟩
          have hk2 : (Instr.slice 9 (.string t) (some (.int .i64 1)) (some (.int .i64 m1)) none).run Try.prog wr = .ok (.string key) wr := by
            rw [run_slice_string (P := Try.prog) wr 9 t .i64 .i64 1 m1 Try.underlying9 (by omega) (by omega) (by omega), ek, HEB.out, ← ext_key s i m (by omega) (by have := HSZ.out; omega) (by rw [← HEB.out, ← HM.out]), HT.out, em1]
            rfl
          have HKEY := Lib.hid ek
          clear hm hm32 em1 ek
          obtain ⟨X, eX⟩ : ∃ X, X = wr.heap.size := ⟨_, rfl⟩
          obtain ⟨wx, ewx⟩ : ∃ wx : World, wx = wr.alloc (.cells #[.string key, .int .i64 0] 41) := ⟨_, rfl⟩
          have HBX : Hid (Below wr.heap.size wr wx) := (show Hid _ from by rw [ewx]; exact (Below.refl _ wr).alloc (Nat.le_refl _) _)
          have HX0 : Hid (wx.heap[X]? = some (.cells #[.string key, .int .i64 (acc b i 0)] 41 (0, 0))) := (show Hid _ from by rw [ewx, eX]; exact heap_alloc_new wr _)
          have hwX : wr.heap.size ≤ X := by omega
          go_upto_region 16 with fail
          rw [← ewx, ← eX]
          have HEX := Lib.hid eX
          clear ewx eX hsl hk2
          obtain ⟨wo, rfl⟩ : ∃ wo : World, wo = wr := ⟨_, rfl⟩
          go_wp2_with fail
          go_loopw [12] (fun kv wq => ∃ j : Nat, j ≤ 4 ∧ kv = .int .i64 (3 - (j : Int)) ∧ wq.heap[X]? = some (.cells #[.string key, .int .i64 (acc b i j)] 41 (0, 0)) ∧ Below wo.heap.size wo wq) (fun kv _ => (intOf kv + 1).toNat)
          case atStart => exact ⟨0, by omega, rfl, HX0.out, HBX.out⟩
          case round =>
            obtain ⟨j, hj, rfl, hX, hbq⟩ := hrel
            have HXj := Lib.hid hX
            have HBQ := Lib.hid hbq
            clear hX hbq
            by_cases hj4 : j < 4
            · have hab := acc_bd b i j hj4
              have hnx := acc_next b i j hj4
              obtain ⟨q, eq⟩ : ∃ q : Nat, (q : Int) = acc b i j := ⟨(acc b i j).toNat, by omega⟩
              obtain ⟨r, er⟩ : ∃ r : Nat, (r : Int) = bAt b (37 * i + (36 - j)) := ⟨(bAt b (37 * i + (36 - j))).toNat, by have := bAt_bd b (37 * i + (36 - j)); omega⟩
              have hr := bAt_bd b (37 * i + (36 - j))
              rw [← er] at hr hnx
              rw [← eq] at hab hnx HXj
              have x1 : wr.cell? ⟨X, 1, none⟩ = some (.int .i64 q) := cell_of_row wr X 1 _ _ _ HXj.out
              have f1 : wr.frozen? ⟨X, 1, none⟩ = false := frozen_of_row wr X 1 _ _ HXj.out
              have wq1 : IntKind.i64.wrap ((q : Int) * 256) = (q : Int) * 256 := by exact IntWalk.i64_in _ (by omega)
              have hor := or_low q r (by omega) (by omega)
              have wrr : IntKind.i64.wrap (r : Int) = (r : Int) := by exact IntWalk.i64_in _ (by omega)
              have htj := HAT.out (36 - j) (by omega)
              rw [← er] at htj
              have HNX := Lib.hid hnx
              have wk : IntKind.i64.wrap (33 + (3 - (j : Int))) = 36 - (j : Int) := by rw [IntWalk.i64_in _ (by omega)]; omega
              have wk2 : IntKind.i64.wrap (3 - (j : Int) - 1) = 3 - ((j + 1 : Nat) : Int) := by rw [IntWalk.i64_in _ (by omega)]; omega
              have k0 : (0 : Int) ≤ 3 - (j : Int) := by omega
              have k1 : (0 : Int) ≤ 36 - (j : Int) := by omega
              have k2 : 36 - (j : Int) < (t.size : Int) := by omega
              have k3 : (36 - (j : Int)).toNat = 36 - j := by omega
              have k4 : (j : Int) ≤ 36 := by omega
              have k5 : 36 - (j : Int) < 37 := by omega
              clear eq er hnx
              go_upto_region 19 with fail
              go_region
              have HX9 : Hid ((wr.setCell ⟨X, 1, none⟩ (.int .i64 ((q : Int) * 256 + r))).heap[X]? = some (.cells #[.string key, .int .i64 (acc b i (j + 1))] 41 (0, 0))) := (show Hid _ from by
                have h := heap_setCell_same wr X 1 _ _ (.int .i64 ((q : Int) * 256 + r)) HXj.out
                rw [HNX.out]
                exact h)
              have HB9 : Hid (Below wo.heap.size wo (wr.setCell ⟨X, 1, none⟩ (.int .i64 ((q : Int) * 256 + r)))) := (show Hid _ from HBQ.out.setCell (by show wo.heap.size ≤ X; exact hwX) _)
              go_wp2_with fail
              go_roundw
              case rel => exact ⟨j + 1, by omega, by go_num, HX9.out, ⟨HB9.out.os, HB9.out.tape, HB9.out.output, HB9.out.size, HB9.out.block⟩⟩
              case measure => simp [intOf]; omega
            · have hj4 : j = 4 := by omega
              subst hj4
              have hvx := HXj.out
              rw [acc_all] at hvx
              have x0 : wr.cell? ⟨X, 0, none⟩ = some (.string key) := cell_of_row wr X 0 _ _ _ hvx
              obtain ⟨v, ev⟩ : ∃ v, v = vAt b i := ⟨_, rfl⟩
              have x1 : wr.cell? ⟨X, 1, none⟩ = some (.int .i64 v) := by rw [ev]; exact cell_of_row wr X 1 _ _ _ hvx
              have HOQ : Hid (wr.ownsRow w.heap.size 41 2 ov (scanP b i).length ((scanP b i).flatMap ecs)) := (show Hid _ from HO.out.kept (grownBy_of_below HBQ.out (some wo.heap.size)) (.inr (fun e => by have := (HO.out.lt _ e).2; omega)))
              have HBW : Hid (Below w.heap.size w wr) := (show Hid _ from HB.out.trans (HBQ.out.mono HB.out.size))
              have hzw := HBW.out.size
              have HEV := Lib.hid ev
              clear hvx ev
              go_wp2_with (at_builtin; refine wpList_append_el ecs _ rfl _ _ 29 rfl w.heap.size 41 _ 2 24 Try.underlying29 einfo rfl (by omega) (by omega) _ (scanP b i) (by rfl) (by exact HOQ.out) (key, v) rfl (ecs_one _) (by rfl) ?c1 ?c2 ?_)
              case c1 => rw [scanP_len]; omega
              case c2 => exact hzw
              intro v4 w4 ho4 hg4
              have HO4 : Hid (w4.ownsRow w.heap.size 41 2 v4 (scanP b (i + 1)).length ((scanP b (i + 1)).flatMap ecs)) := (show Hid _ from by
                have e : scanP b (i + 1) = scanP b i ++ [(key, v)] := by rw [scanP_succ, HKEY.out, HEV.out]; rfl
                rw [e]
                show World.ownsRow _ _ _ _ _ _ _
                simpa using ho4)
              have HB4 : Hid (Below w.heap.size w w4) := (show Hid _ from (HBW.out.alloc hzw _).grown hg4 (by simp; omega) (fun k hk => (HOQ.out.lt k hk).1))
              have HP4 : Hid (∀ j, j < i + 1 → 1 ≤ nAt b j) := (show Hid _ from fun j hj => by
                rcases Nat.lt_or_ge j i with h5 | h5
                · exact HPOS.out j h5
                · have : j = i := by omega
                  subst this
                  rw [← HM.out]
                  exact HM1.out)
              clear ho4 hg4
              go_wp2_with fail
              go_roundw
              case rel => exact ⟨i + 1, by omega, by go_num, HO4.out, HB4.out, HP4.out⟩
              case measure => simp [intOf]; omega
    · have hie : i = N := by omega
      have HUNI : Hid (∀ l, IsB N s.data.toList l → scanP b i = l) := (show Hid _ from fun l h => by
        have h2 := h.2.2
        rw [← HEB.out] at h2
        rw [← h2]
        exact scanP_enc (ascB_iff.1 h.1).1 h.2.1 (by omega) (by rw [h2]; exact HPOS.out) (.inl hie))
      have HKS : Hid (∀ e ∈ scanP b i, e.1.size ≤ 9223372036854775807) := (show Hid _ from fun e he => by
        unfold scanP at he
        obtain ⟨j, _, rfl⟩ := List.mem_map.1 he
        have := kAt_size b j
        show (kAt b j).size ≤ _
        omega)
      have HSV : Hid (SV ecs 2 wr.heap.size wr ov (scanP b i)) := (show Hid _ from SV.of_own HO.out (fun x _ => ecs_len x))
      obtain ⟨out, eo⟩ : ∃ q, q = scanP b i := ⟨_, rfl⟩
      rw [← eo] at HO HUNI HKS HSV
      clear eo
      go_wp2_with fail
      (with_reducible refine (kencode_any N out _ wr HSV.out HKS.out).mono ?_)
      rintro e w9 ⟨rfl, hb9⟩
      have HB9 : Hid (Below w.heap.size w w9) := (show Hid _ from HB.out.trans (hb9.mono HB.out.size))
      have HO9 : Hid (w9.ownsRow w.heap.size 41 2 ov out.length (out.flatMap ecs)) := (show Hid _ from HO.out.kept (grownBy_of_below hb9 (some w9.heap.size)) (.inr (fun e => by have := (HO.out.lt _ e).2; have := hb9.size; omega)))
      clear hb9
      rcases encC_cases N hN out with ⟨hc, has, hle⟩ | ⟨hc, hno⟩
      · have HAS := Lib.hid has
        obtain ⟨b8, eb8⟩ : ∃ x, x = ByteArray.mk (encB N out).toArray := ⟨_, rfl⟩
        rw [encV_ok hN hle has, ← eb8]
        by_cases heq : b8 = s
        · have bq : (b8.toList == s.toList) = true := by rw [heq]; exact beq_self_eq_true _
          have heq2 : ByteArray.mk (encB N out).toArray = s := by rw [← eb8]; exact heq
          have HEQ := Lib.hid heq2
          clear hc has heq eb8 heq2
          go_wp2_with fail
          refine bodyPost_ret (v := .tuple #[ov, .int .i64 0]) (by simp [results, Try.results35, go_sem]) rfl ?_
          exact ⟨HB9.out, .inr (.inr ⟨by omega, out, ov, ⟨HAS.out, by rw [Int.toNat_natCast]; exact hle, by rw [← HEQ.out, Int.toNat_natCast]⟩, rfl, HO9.out⟩)⟩
        · have bq : (b8.toList == s.toList) = false := by rw [beq_eq_false_iff_ne]; exact fun e => heq (tl_inj e)
          have heq2 : ¬ (ByteArray.mk (encB N out).toArray = s) := by rw [← eb8]; exact heq
          have HEQ := Lib.hid heq2
          clear hc has heq eb8 heq2
          go_wp2_with fail
          refine bodyPost_ret (v := .tuple #[.slice none 0 0, .int .i64 2]) (by simp [results, Try.results35, go_sem]) rfl ?_
          exact ⟨HB9.out, .inr (.inl ⟨by omega, fun ⟨l, hl⟩ => by
            rw [Int.toNat_natCast] at hl
            have e1 := HUNI.out l hl
            refine HEQ.out ?_
            rw [e1, hl.2.2], rfl⟩)⟩
      · have HNO := Lib.hid hno
        have hv : encV N out = .tuple #[.string ⟨#[]⟩, .int .i64 (encC N out)] := by unfold encV; rw [if_neg (by omega)]
        rw [hv]
        have hc0 : ¬ (encC N out = 0) := by omega
        obtain ⟨cd, ecd⟩ : ∃ cd, cd = encC N out := ⟨_, rfl⟩
        rw [← ecd] at hc0 ⊢
        clear hc hv ecd hno
        go_wp2_with fail
        all_goals refine bodyPost_ret (v := .tuple #[.slice none 0 0, .int .i64 2]) (by simp [results, Try.results35, go_sem]) rfl ?_
        all_goals exact ⟨HB9.out, .inr (.inl ⟨by omega, fun ⟨l, hl⟩ => by
          rw [Int.toNat_natCast] at hl
          have e1 := HUNI.out l hl
          rw [e1] at HNO
          exact HNO.out ⟨hl.1, hl.2.1⟩, rfl⟩)⟩
end Go.Proofs.Ytllnomembakboaa
