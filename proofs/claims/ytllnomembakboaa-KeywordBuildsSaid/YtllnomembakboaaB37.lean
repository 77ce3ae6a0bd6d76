/- Joined: Rc. -/
import Derived.BigRegion
import Derived.Test.YtllnomembakboaaB36
import Derived.Test.YtllnomembakboaaB24
namespace Go.Proofs.Ytllnomembakboaa
open Go.RowKit

set_option maxRecDepth 100000 in
set_option maxHeartbeats 4000000 in
theorem rdecode_any (n : Int) (s : ByteArray) (w : World) :
    Calls Try.prog 36 #[.int .i64 n, .string s] w (DcV n s w) := by
  go_enter Try.func36, Try.ntmps36
  by_cases hs : 1 ≤ n ∧ n ≤ 8
  case neg =>
    have HN := Lib.hid hs
    by_cases h1 : n < 1
    · go_wp2_with fail
      all_goals refine bodyPost_ret (v := .tuple #[.slice none 0 0, .int .i64 1]) (by simp [results, Try.results36, go_sem]) rfl ?_
      all_goals exact ⟨Below.refl _ _, .inl ⟨HN.out, rfl⟩⟩
    · have h2 : 8 < n := by omega
      have d1 : decide (n < 1) = false := decide_eq_false h1
      go_wp2_with fail
      all_goals refine bodyPost_ret (v := .tuple #[.slice none 0 0, .int .i64 1]) (by simp [results, Try.results36, go_sem]) rfl ?_
      all_goals exact ⟨Below.refl _ _, .inl ⟨HN.out, rfl⟩⟩
  obtain ⟨N, rfl⟩ : ∃ N : Nat, n = N := ⟨n.toNat, by omega⟩
  have hN : 1 ≤ N ∧ N ≤ 8 := by omega
  have e1 : decide ((N : Int) < 1) = false := decide_eq_false (by omega)
  have e2 : decide (8 < (N : Int)) = false := decide_eq_false (by omega)
  have e1n : decide (N < 1) = false := decide_eq_false (by omega)
  have e2n : decide (8 < N) = false := decide_eq_false (by omega)
  clear hs
  by_cases hl : s.size = N * 37
  case neg =>
    have h1 : ¬ ((s.size : Int) = (N : Int) * 37) := by omega
    have HL := Lib.hid hl
    go_wp2_with fail
    refine bodyPost_ret (v := .tuple #[.slice none 0 0, .int .i64 2]) (by simp [results, Try.results36, go_sem]) rfl ?_
    exact ⟨Below.refl _ _, .inr (.inl ⟨by omega, fun ⟨l, hl⟩ => HL.out (isB_len (by rw [Int.toNat_natCast] at hl; exact hl)), rfl⟩)⟩
  have h1 : (s.size : Int) = (N : Int) * 37 := by omega
  have HSZ := Lib.hid hl
  obtain ⟨b, eb⟩ : ∃ b, b = s.data.toList := ⟨_, rfl⟩
  have HEB := Lib.hid eb
  clear hl eb
  go_wp2_with fail
  go_loopw [7, 8, 9, 10, 11] (fun ov iv _ _ _ wr => ∃ i : Nat, i ≤ N ∧ iv = .int .i64 i ∧ wr.ownsRow w.heap.size 41 2 ov (scanR b i).length ((scanR b i).flatMap ecs) ∧ Below w.heap.size w wr) (fun _ iv _ _ _ _ => N - (intOf iv).toNat)
  case atStart => exact ⟨0, Nat.zero_le _, rfl, World.ownsRow_nil _ _ _ _, Below.refl _ _⟩
  case round =>
    obtain ⟨i, hi, rfl, ho, hb⟩ := hrel
    have HO := Lib.hid ho
    have HB := Lib.hid hb
    have hzr := hb.size
    clear ho hb
    obtain ⟨ov, eov⟩ : ∃ ov, ov = u7 := ⟨_, rfl⟩
    subst eov
    by_cases hit : i < N
    · obtain ⟨lo, elo⟩ : ∃ lo, lo = i * 37 := ⟨_, rfl⟩
      have wi : IntKind.i64.wrap ((i : Int) + 1) = (i : Int) + 1 := by exact IntWalk.i64_in _ (by omega)
      obtain ⟨hh, ehh⟩ : ∃ hh, hh = lo + 37 := ⟨_, rfl⟩
      have wlo : IntKind.i64.wrap ((i : Int) * 37) = (lo : Int) := by rw [IntWalk.i64_in _ (by omega)]; omega
      have whi : IntKind.i64.wrap (((i : Int) + 1) * 37) = (hh : Int) := by rw [IntWalk.i64_in _ (by omega)]; omega
      obtain ⟨t, et⟩ : ∃ t, t = s.extract lo hh := ⟨_, rfl⟩
      have hsl : (Instr.slice 9 (.string s) (some (.int .i64 lo)) (some (.int .i64 hh)) none).run Try.prog wr = .ok (.string t) wr := by
        rw [run_slice_string (P := Try.prog) wr 9 s .i64 .i64 lo hh Try.underlying9 (by omega) (by omega) (by omega), et]
        rfl
      have hts : t.size = 37 := by rw [et, ByteArray.size_extract]; omega
      have HAT : Hid (∀ j (h : j < t.size), (t[j].toNat : Int) = bAt b (37 * i + j)) := (show Hid _ from fun j h => by
        subst et
        rw [ext_get s lo hh j h, elo, HEB.out, Nat.mul_comm i 37]
        rfl)
      obtain ⟨m, em⟩ : ∃ m, m = nAt b i := ⟨_, rfl⟩
      have hm0 : wrap64 ((t[0]'(by omega)).toNat : Int) = (m : Int) := by
        rw [HAT.out 0 (by omega), em, IntWalk.wrap64_in _ (by have := bAt_bd b (37 * i + 0); omega)]
        rfl
      have ht0 : (0 : Int) < (t.size : Int) := by omega
      have HM := Lib.hid em
      have hT : t = s.extract (i * 37) (i * 37 + 37) := by rw [et, ehh, elo]
      have HT := Lib.hid hT
      have HLO := Lib.hid elo
      clear elo ehh em et hT
      have hm256 : m < 256 := by have := HM.out; rw [this]; unfold nAt; exact UInt8.toNat_lt _
      by_cases hm : 1 ≤ m ∧ m ≤ 32
      · have hmb : decide (0 < (m : Int)) = true := decide_eq_true (by omega)
        have hmc : decide ((m : Int) ≤ 32) = true := decide_eq_true (by omega)
        have hmn : decide (0 < m) = true := decide_eq_true (by omega)
        have hmd : decide (m ≤ 32) = true := decide_eq_true (by omega)
        have wm : IntKind.i64.wrap (1 + (m : Int)) = ((1 + m : Nat) : Int) := by rw [IntWalk.i64_in _ (by omega)]; omega
        obtain ⟨m1, em1⟩ : ∃ m1, m1 = 1 + m := ⟨_, rfl⟩
        rw [← em1] at wm
        obtain ⟨key, ek⟩ : ∃ k, k = kAt b i := ⟨_, rfl⟩
        have hk2 : (Instr.slice 9 (.string t) (some (.int .i64 1)) (some (.int .i64 m1)) none).run Try.prog wr = .ok (.string key) wr := by
          rw [run_slice_string (P := Try.prog) wr 9 t .i64 .i64 1 m1 Try.underlying9 (by omega) (by omega) (by omega), ek, HEB.out, ← ext_key s i m (by omega) (by have := HSZ.out; omega) (by rw [← HEB.out, ← HM.out]), HT.out, em1]
          rfl
        have HM1 := Lib.hid em1
        have HKEY := Lib.hid ek
        have HMB : Hid (1 ≤ nAt b i ∧ nAt b i ≤ 32) := (show Hid _ from by rw [← HM.out]; exact hm)
        clear em1 ek
        have b33 := bAt_bd b (37 * i + 33)
        have b34 := bAt_bd b (37 * i + 34)
        have b35 := bAt_bd b (37 * i + 35)
        have b36 := bAt_bd b (37 * i + 36)
        obtain ⟨r0, e0⟩ : ∃ r : Nat, (r : Int) = bAt b (37 * i + 33) := ⟨(bAt b (37 * i + 33)).toNat, by omega⟩
        obtain ⟨r1, e1'⟩ : ∃ r : Nat, (r : Int) = bAt b (37 * i + 34) := ⟨(bAt b (37 * i + 34)).toNat, by omega⟩
        obtain ⟨r2, e2'⟩ : ∃ r : Nat, (r : Int) = bAt b (37 * i + 35) := ⟨(bAt b (37 * i + 35)).toNat, by omega⟩
        obtain ⟨r3, e3⟩ : ∃ r : Nat, (r : Int) = bAt b (37 * i + 36) := ⟨(bAt b (37 * i + 36)).toNat, by omega⟩
        have t33 := HAT.out 33 (by omega)
        have t34 := HAT.out 34 (by omega)
        have t35 := HAT.out 35 (by omega)
        have t36 := HAT.out 36 (by omega)
        rw [← e0] at t33 b33
        rw [← e1'] at t34 b34
        rw [← e2'] at t35 b35
        rw [← e3] at t36 b36
        have q0 : IntKind.i64.wrap (r0 : Int) = (r0 : Int) := by exact IntWalk.i64_in _ (by omega)
        have q1 : IntKind.i64.wrap (r1 : Int) = (r1 : Int) := by exact IntWalk.i64_in _ (by omega)
        have q2 : IntKind.i64.wrap (r2 : Int) = (r2 : Int) := by exact IntWalk.i64_in _ (by omega)
        have q3 : IntKind.i64.wrap (r3 : Int) = (r3 : Int) := by exact IntWalk.i64_in _ (by omega)
        have s1 : IntKind.i64.wrap ((r1 : Int) * 256) = (r1 : Int) * 256 := by exact IntWalk.i64_in _ (by omega)
        have s2 : IntKind.i64.wrap ((r2 : Int) * 65536) = (r2 : Int) * 65536 := by exact IntWalk.i64_in _ (by omega)
        have s3 : IntKind.i64.wrap ((r3 : Int) * 16777216) = (r3 : Int) * 16777216 := by exact IntWalk.i64_in _ (by omega)
        have o1 : bits .or .i64 (r0 : Int) ((r1 : Int) * 256) = (r0 : Int) + (r1 : Int) * 256 := by have h := or_hi r1 r0 8 (by omega) (by omega) (by omega); simpa using h
        have o2 : bits .or .i64 ((r0 : Int) + (r1 : Int) * 256) ((r2 : Int) * 65536) = (r0 : Int) + (r1 : Int) * 256 + (r2 : Int) * 65536 := by have h := or_hi r2 (r0 + r1 * 256) 16 (by omega) (by omega) (by omega); simpa using h
        have o3 : bits .or .i64 ((r0 : Int) + (r1 : Int) * 256 + (r2 : Int) * 65536) ((r3 : Int) * 16777216) = (r0 : Int) + (r1 : Int) * 256 + (r2 : Int) * 65536 + (r3 : Int) * 16777216 := by have h := or_hi r3 (r0 + r1 * 256 + r2 * 65536) 24 (by omega) (by omega) (by omega); simpa using h
        have hvv : (r0 : Int) + (r1 : Int) * 256 + (r2 : Int) * 65536 + (r3 : Int) * 16777216 = vAt b i := by unfold vAt; rw [← e0, ← e1', ← e2', ← e3]; omega
        have HVV := Lib.hid hvv
        have e1s : decide ((N : Int) < 1) = false := e1
        clear b33 b34 b35 b36 e0 e1' e2' e3 hvv
        go_upto_region 13 with fail
        go_quiet (fail)
        simp only [hm0]
        rw [HVV.out]
        obtain ⟨wd, ewd⟩ : ∃ wd : World, wd = wr.drewN nq := ⟨_, rfl⟩
        have HOd : Hid (wd.ownsRow w.heap.size 41 2 ov (scanR b i).length ((scanR b i).flatMap ecs)) := (show Hid _ from by rw [ewd]; exact HO.out)
        have HBd : Hid (Below w.heap.size w wd) := (show Hid _ from by rw [ewd]; exact ⟨HB.out.os, HB.out.tape, HB.out.output, HB.out.size, HB.out.block⟩)
        have hk3 : (Instr.slice 9 (.string t) (some (.int .i64 1)) (some (.int .i64 m1)) none).run Try.prog wd = .ok (.string key) wd := by
          rw [run_slice_string (P := Try.prog) wd 9 t .i64 .i64 1 m1 Try.underlying9 (by omega) (by have := HM1.out; omega) (by have := HM1.out; omega), HKEY.out, HEB.out, ← ext_key s i m (by omega) (by have := HSZ.out; omega) (by rw [← HEB.out, ← HM.out]), HT.out, HM1.out]
          rfl
        obtain ⟨v, ev⟩ : ∃ v, v = vAt b i := ⟨_, rfl⟩
        rw [← ev, ← ewd]
        have HEV := Lib.hid ev
        have hzd := HBd.out.size
        have hil := scanR_len b i
        clear ev ewd hk2 t33 t34 t35 t36 q0 q1 q2 q3 s1 s2 s3 o1 o2 o3
        go_wp2_with (at_builtin; refine wpList_append_el ecs _ rfl _ _ 29 rfl w.heap.size 41 _ 2 24 Try.underlying29 einfo rfl (by omega) (by omega) _ (scanR b i) (by rfl) (by exact HOd.out) (key, v) rfl (ecs_one _) (by rfl) ?c1 ?c2 ?_)
        case c1 => omega
        case c2 => exact hzd
        intro v4 w4 ho4 hg4
        have HO4 : Hid (w4.ownsRow w.heap.size 41 2 v4 (scanR b (i + 1)).length ((scanR b (i + 1)).flatMap ecs)) := (show Hid _ from by
          have e : scanR b (i + 1) = scanR b i ++ [(key, v)] := by rw [scanR_yes HMB.out, HKEY.out, HEV.out]; rfl
          rw [e]
          show World.ownsRow _ _ _ _ _ _ _
          simpa using ho4)
        have HB4 : Hid (Below w.heap.size w w4) := (show Hid _ from (HBd.out.alloc hzd _).grown hg4 (by simp; omega) (fun k hk => (HOd.out.lt k hk).1))
        clear ho4 hg4
        go_wp2_with fail
        go_roundw
        case rel => exact ⟨i + 1, by omega, by go_num, HO4.out, HB4.out⟩
        case measure => simp [intOf]; omega
      · have HMB : Hid (¬ (1 ≤ nAt b i ∧ nAt b i ≤ 32)) := (show Hid _ from by rw [← HM.out]; exact hm)
        have HSC := Lib.hid (scanR_no HMB.out)
        by_cases hm0' : m = 0
        · subst hm0'
          clear hm
          go_wp2_with fail
          go_roundw
          case rel => exact ⟨i + 1, by omega, by go_num, by rw [HSC.out]; exact HO.out, HB.out⟩
          case measure => simp [intOf]; omega
        · have hmb : decide (0 < (m : Int)) = true := decide_eq_true (by omega)
          have hmc : decide ((m : Int) ≤ 32) = false := decide_eq_false (by omega)
          have hmn : decide (0 < m) = true := decide_eq_true (by omega)
          have hmd : decide (m ≤ 32) = false := decide_eq_false (by omega)
          clear hm
          go_wp2_with fail
          go_roundw
          case rel => exact ⟨i + 1, by omega, by go_num, by rw [HSC.out]; exact HO.out, HB.out⟩
          case measure => simp [intOf]; omega
    · have hie : i = N := by omega
      have HUNI : Hid (∀ l, IsB N s.data.toList l → scanR b i = l) := (show Hid _ from fun l h => by
        have h2 := h.2.2
        rw [← HEB.out] at h2
        rw [← h2, hie]
        exact scanR_enc (ascB_iff.1 h.1).1 h.2.1)
      have HKS : Hid (∀ e ∈ scanR b i, e.1.size ≤ 9223372036854775807) := (show Hid _ from fun e he => by
        unfold scanR at he
        obtain ⟨j, _, rfl⟩ := List.mem_map.1 he
        have := kAt_size b j
        show (kAt b j).size ≤ _
        omega)
      have HSV : Hid (SV ecs 2 wr.heap.size wr ov (scanR b i)) := (show Hid _ from SV.of_own HO.out (fun x _ => ecs_len x))
      obtain ⟨out, eo⟩ : ∃ q, q = scanR b i := ⟨_, rfl⟩
      rw [← eo] at HO HUNI HKS HSV
      clear eo
      go_wp2_with fail
      (with_reducible refine (rencode_any N out _ wr HSV.out HKS.out).mono ?_)
      rintro e w9 ⟨rfl, hb9⟩
      have HB9 : Hid (Below w.heap.size w w9) := (show Hid _ from HB.out.trans (hb9.mono HB.out.size))
      have HO9 : Hid (w9.ownsRow w.heap.size 41 2 ov out.length (out.flatMap ecs)) := (show Hid _ from HO.out.kept (grownBy_of_below hb9 (some w9.heap.size)) (.inr (fun e => by have := (HO.out.lt _ e).2; have := hb9.size; omega)))
      clear hb9
      rcases encC_cases N hN out with ⟨hc, has, hle⟩ | ⟨hc, hno⟩
      · have HAS := Lib.hid has
        obtain ⟨b8, eb8⟩ : ∃ x, x = ByteArray.mk (encB N out).toArray := ⟨_, rfl⟩
        rw [encV_ok hN hle has, ← eb8]
        by_cases heq : b8 = s
        · have bq : (b8.toList == s.toList) = true := by rw [heq]; exact beq_self_eq_true _
          have heq2 : ByteArray.mk (encB N out).toArray = s := by rw [← eb8]; exact heq
          have HEQ := Lib.hid heq2
          clear hc has heq eb8 heq2
          go_wp2_with fail
          refine bodyPost_ret (v := .tuple #[ov, .int .i64 0]) (by simp [results, Try.results36, go_sem]) rfl ?_
          exact ⟨HB9.out, .inr (.inr ⟨by omega, out, ov, ⟨HAS.out, by rw [Int.toNat_natCast]; exact hle, by rw [← HEQ.out, Int.toNat_natCast]⟩, rfl, HO9.out⟩)⟩
        · have bq : (b8.toList == s.toList) = false := by rw [beq_eq_false_iff_ne]; exact fun e => heq (tl_inj e)
          have heq2 : ¬ (ByteArray.mk (encB N out).toArray = s) := by rw [← eb8]; exact heq
          have HEQ := Lib.hid heq2
          clear hc has heq eb8 heq2
          go_wp2_with fail
          refine bodyPost_ret (v := .tuple #[.slice none 0 0, .int .i64 2]) (by simp [results, Try.results36, go_sem]) rfl ?_
          exact ⟨HB9.out, .inr (.inl ⟨by omega, fun ⟨l, hl⟩ => by
            rw [Int.toNat_natCast] at hl
            have e1 := HUNI.out l hl
            refine HEQ.out ?_
            rw [e1, hl.2.2], rfl⟩)⟩
      · have HNO := Lib.hid hno
        have hv : encV N out = .tuple #[.string ⟨#[]⟩, .int .i64 (encC N out)] := by unfold encV; rw [if_neg (by omega)]
        rw [hv]
        have hc0 : ¬ (encC N out = 0) := by omega
        obtain ⟨cd, ecd⟩ : ∃ cd, cd = encC N out := ⟨_, rfl⟩
        rw [← ecd] at hc0 ⊢
        clear hc hv ecd hno
        go_wp2_with fail
        all_goals refine bodyPost_ret (v := .tuple #[.slice none 0 0, .int .i64 2]) (by simp [results, Try.results36, go_sem]) rfl ?_
        all_goals exact ⟨HB9.out, .inr (.inl ⟨by omega, fun ⟨l, hl⟩ => by
          rw [Int.toNat_natCast] at hl
          have e1 := HUNI.out l hl
          rw [e1] at HNO
          exact HNO.out ⟨hl.1, hl.2.1⟩, rfl⟩)⟩
end Go.Proofs.Ytllnomembakboaa
