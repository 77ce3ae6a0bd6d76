/- Joined: Qu. -/
import Derived.Test.YtbgabipngdillaaGreatDoorZ13
namespace Go.Proofs.YtbgabipngdillaaGreatDoor
open Go.RowKit Go.Shelf

theorem al4 (w : World) (o1 o2 o3 o4 : Obj) : Hid (Below w.heap.size w ((((w.alloc o1).alloc o2).alloc o3).alloc o4)) ∧ ((((w.alloc o1).alloc o2).alloc o3).alloc o4).heap.size = w.heap.size + 4 ∧
    Hid (((((w.alloc o1).alloc o2).alloc o3).alloc o4).heap[w.heap.size]? = some o1) ∧ Hid (((((w.alloc o1).alloc o2).alloc o3).alloc o4).heap[w.heap.size + 1]? = some o2) ∧
    Hid (((((w.alloc o1).alloc o2).alloc o3).alloc o4).heap[w.heap.size + 2]? = some o3) ∧ Hid (((((w.alloc o1).alloc o2).alloc o3).alloc o4).heap[w.heap.size + 3]? = some o4) := by
  refine ⟨((((Below.refl _ w).alloc (Nat.le_refl _) _).alloc (by simp) _).alloc (by simp; omega) _).alloc (by simp; omega) _, by simp, ?_, ?_, ?_, ?_⟩
  all_goals show _ = _
  · rw [Below.heap_alloc _ _ _ (by simp; omega), Below.heap_alloc _ _ _ (by simp; omega), Below.heap_alloc _ _ _ (by simp)]; exact heap_alloc_new w _
  · rw [Below.heap_alloc _ _ _ (by simp), Below.heap_alloc _ _ _ (by simp)]; have := heap_alloc_new (w.alloc o1) o2; simpa using this
  · rw [Below.heap_alloc _ _ _ (by simp)]; have := heap_alloc_new ((w.alloc o1).alloc o2) o3; simpa using this
  · have := heap_alloc_new (((w.alloc o1).alloc o2).alloc o3) o4; simpa using this
/-- rows that each own their ints, all behind B -/
def QRv (B : Nat) (w : World) (v : Value) (rows : List (List Int)) : Prop :=
  ∃ (G : Nat) (vs : List Value), B ≤ G ∧ v = .slice (some ⟨G, 0, none⟩) rows.length rows.length ∧ QR G w vs rows ∧ (∀ r ∈ rows, ∀ x ∈ r, i64r x) ∧ rows.length ≤ 1000000
theorem QRv.sl {B : Nat} {w : World} {v : Value} {rows : List (List Int)} (h : QRv B w v rows) : SL w v rows := by
  obtain ⟨G, vs, _, rfl, hq, hr, hm⟩ := h
  exact QR.sl hq hr hm
theorem QRv.below {B : Nat} {w w' : World} {v : Value} {rows : List (List Int)} (h : QRv B w v rows) (hb : Below w.heap.size w w') : QRv B w' v rows := by
  obtain ⟨G, vs, hB, e, hq, hr, hm⟩ := h
  exact ⟨G, vs, hB, e, hq.below hb, hr, hm⟩
theorem QRv.set3 {B : Nat} {w : World} {v : Value} {rows : List (List Int)} (h : QRv B w v rows) {p : Addr} (hp : p.block < B) (u : Value) : QRv B (w.setCell p u) v rows := by
  obtain ⟨G, vs, hB, e, hq, hr, hm⟩ := h
  exact ⟨G, vs, hB, e, hq.set3 (Nat.lt_of_lt_of_le hp hB) u, hr, hm⟩
def QuR (P want : Int) (D : List Int) (t n m : Nat) (wd : World) (i : Value) (wr : World) : Prop := ∃ (k : Nat) (vs : List Value), k ≤ m ∧ i = .int .i64 k ∧ QR wd.heap.size wr vs (qRows P want D t n k) ∧ Below wd.heap.size wd wr
def Qu2 (P want : Int) (D : List Int) (t n i : Nat) (wd : World) (bs : Nat) (ob : Option Obj) (v : Value) (wr : World) : Prop :=
  ∃ (j : Nat) (vs : List Value), j ≤ n ∧ v = .int .i64 j ∧ QR wd.heap.size wr vs (qMid P want D t n i j) ∧ Below wd.heap.size wd wr ∧ wr.heap[bs]? = ob ∧ ∀ k (h : k < vs.length), vs[k].ownBlock ≠ some bs
set_option maxRecDepth 100000 in
set_option maxHeartbeats 8000000 in
theorem queriesF_any (P n t m want : Int) (l : List Int) (an : Nat) (v : Value) (w : World) (hP : i64r P) (hm : i64r m) (h : SI w v l) :
    Calls Tryz.prog 17 #[.agg #[.int .i64 P], .agg #[.int .i64 n, .int .i64 t], .int .i64 m, .int .i64 want, .agg #[v, .int .i64 an]] w fun e w' => ∃ vq v1 a1, e = .returned (.tuple #[vq, .agg #[v1, .int .i64 a1], .int .i64 (quE P n t m want l an)]) ∧ Below w.heap.size w w' ∧
      (quE P n t m want l an = 0 → a1 = an + m * t ∧ SI w' v1 l ∧ QRv w.heap.size w' vq (qRows P want ((l.drop an).take (m * t).toNat) t.toNat n.toNat m.toNat)) ∧
      (quE P n t m want l an ≠ 0 → vq = .slice none 0 0 ∧ v1 = .slice none 0 0 ∧ a1 = 0) := by
  have HS := Lib.hid h
  obtain ⟨A, cc, rfl⟩ := h.form'
  clear h
  go_enter Tryz.func17, Tryz.ntmps17
  go_upto_region 1 with fail
  obtain ⟨wa, ew⟩ : ∃ wa : World, wa = (((w.alloc (.cells #[.int .i64 P] 31)).alloc (.cells #[.int .i64 n, .int .i64 t] 29)).alloc (.cells #[.slice A l.length cc, .int .i64 an] 39)).alloc (.cells #[.slice none 0 0, .int .i64 0] 39) := ⟨_, rfl⟩
  obtain ⟨HBa, hza, HF, HN, HT, HR⟩ : Hid (Below w.heap.size w wa) ∧ wa.heap.size = w.heap.size + 4 ∧ Hid (wa.heap[w.heap.size]? = some (.cells #[.int .i64 P] 31 (0, 0))) ∧ Hid (wa.heap[w.heap.size + 1]? = some (.cells #[.int .i64 n, .int .i64 t] 29 (0, 0))) ∧ Hid (wa.heap[w.heap.size + 2]? = some (.cells #[.slice A l.length cc, .int .i64 an] 39 (0, 0))) ∧ Hid (wa.heap[w.heap.size + 3]? = some (.cells #[.slice none 0 0, .int .i64 0] 39 (0, 0))) := by
    rw [ew]; exact al4 w _ _ _ _
  rw [← ew]
  clear ew
  obtain ⟨F, hF⟩ : ∃ F, w.heap.size = F := ⟨_, rfl⟩
  have HFF := Lib.hid hF
  rw [hF] at HF HN HT HR hza ⊢
  clear hF
  have cF0 : wa.cell? ⟨F, 0, none⟩ = some (.int .i64 P) := cell_of_row wa F 0 _ _ _ HF.out
  have cN0 : wa.cell? ⟨F + 1, 0, none⟩ = some (.int .i64 n) := cell_of_row wa (F + 1) 0 _ _ _ HN.out
  have cN1 : wa.cell? ⟨F + 1, 1, none⟩ = some (.int .i64 t) := cell_of_row wa (F + 1) 1 _ _ _ HN.out
  go_wp2_with fail
  (with_reducible refine (ccheck_any P n t m _ hP).mono ?_)
  rintro e w1 ⟨rfl, hb1⟩
  have HBw : Hid (Below w.heap.size w w1) := HBa.out.trans (hb1.mono HBa.out.size)
  have HF1 : Hid (w1.heap[F]? = some (.cells #[.int .i64 P] 31 (0, 0))) := (hb1.block F (by omega)).trans HF.out
  have HN1 : Hid (w1.heap[F + 1]? = some (.cells #[.int .i64 n, .int .i64 t] 29 (0, 0))) := (hb1.block (F + 1) (by omega)).trans HN.out
  have HT1 : Hid (w1.heap[F + 2]? = some (.cells #[.slice A l.length cc, .int .i64 an] 39 (0, 0))) := (hb1.block (F + 2) (by omega)).trans HT.out
  have HR1 : Hid (w1.heap[F + 3]? = some (.cells #[.slice none 0 0, .int .i64 0] 39 (0, 0))) := (hb1.block (F + 3) (by omega)).trans HR.out
  have hz1 := hb1.size
  clear cF0 cN0 cN1 hb1
  have cR0 : w1.cell? ⟨F + 3, 0, none⟩ = some (.slice none 0 0) := cell_of_row w1 (F + 3) 0 _ _ _ HR1.out
  have cR1 : w1.cell? ⟨F + 3, 1, none⟩ = some (.int .i64 0) := cell_of_row w1 (F + 3) 1 _ _ _ HR1.out
  have fR0 : w1.frozen? ⟨F + 3, 0, none⟩ = false := frozen_of_row w1 (F + 3) 0 _ _ HR1.out
  have fR1 : w1.frozen? ⟨F + 3, 1, none⟩ = false := frozen_of_row w1 (F + 3) 1 _ _ HR1.out
  by_cases h0 : ccE P n t m = 0
  · have HZ := Lib.hid h0
    obtain ⟨hc, hm1, hm2⟩ := ccE_ok h0
    obtain ⟨hpr, hv, hnP⟩ := cuE_ok hc
    obtain ⟨b1, b2, b3, b4⟩ := vaB_bd hv
    have HPR := Lib.hid hpr
    have hPb := prB_bd hpr
    rw [h0]
    clear h0 hc hv hpr
    obtain ⟨mn, rfl⟩ : ∃ mn : Nat, m = mn := ⟨m.toNat, by omega⟩
    obtain ⟨tn, rfl⟩ : ∃ tn : Nat, t = tn := ⟨t.toNat, by omega⟩
    obtain ⟨nn, rfl⟩ : ∃ nn : Nat, n = nn := ⟨n.toNat, by omega⟩
    have hKb : mn * tn ≤ 1024 * 10 := Nat.mul_le_mul (by omega) (by omega)
    have hKc : ((mn : Int) * (tn : Int)) = ((mn * tn : Nat) : Int) := (Int.natCast_mul mn tn).symm
    have hK1 : mn ≤ mn * tn := Nat.le_mul_of_pos_right mn (by omega)
    obtain ⟨K, hK⟩ : ∃ K, mn * tn = K := ⟨_, rfl⟩
    have HK := Lib.hid hK
    have HK1 : Hid (1 ≤ K) := by show _ ≤ _; omega
    rw [hK] at hKb hKc
    have hKw : IntKind.i64.wrap ((mn : Int) * (tn : Int)) = (K : Int) := by rw [hKc]; exact IntWalk.i64_in _ (by omega)
    clear hK hK1
    have HKC := Lib.hid hKc
    have HKB := Lib.hid hKb
    clear hKc hKb
    by_cases hw : want < 0 ∨ (mn : Int) ≤ want
    · have HE : Hid (quE P nn tn mn want l an = 6) := by show _ = _; unfold quE; rw [if_neg (by rw [HZ.out]; simp), if_pos hw]
      have hg : decide (want < 0) = true ∨ (decide (want < 0) = false ∧ decide ((mn : Int) ≤ want) = true) := by
        by_cases h : want < 0
        · exact .inl (decide_eq_true h)
        · exact .inr ⟨decide_eq_false h, decide_eq_true (by omega)⟩
      clear hw
      rcases hg with hg | ⟨hg, hg2⟩
      all_goals
        go_wp2_with fail
        have HW := store2 (.slice none 0 0) (.int .i64 0) HR1.out
        have q0 := cell_of_row _ (F + 3) 0 _ _ _ HW
        have q1 := cell_of_row _ (F + 3) 1 _ _ _ HW
        simp only [List.getElem?_toArray, List.getElem?_cons_zero, List.getElem?_cons_succ] at q0 q1
        refine bodyPost_ret (v := .tuple #[.slice none 0 0, .agg #[.slice none 0 0, .int .i64 0], .int .i64 6]) (by simp [results, Tryz.results17, go_sem, q0, q1]) rfl ⟨_, _, _, by rw [HE.out], ?_, fun h => by rw [HE.out] at h; omega, fun _ => ⟨rfl, rfl, rfl⟩⟩
        exact (HBw.out.setCell (by show _ ≤ F + 3; have := HFF.out; omega) _).setCell (by show _ ≤ F + 3; have := HFF.out; omega) _
    · have HQE : Hid (quE P nn tn mn want l an = dsE l an P (K : Int)) := by show _ = _; unfold quE; rw [if_neg (by rw [HZ.out]; simp), if_neg hw, HKC.out]
      have hw1 : decide (want < 0) = false := decide_eq_false (by omega)
      have hw2 : decide ((mn : Int) ≤ want) = false := decide_eq_false (by omega)
      obtain ⟨wn, rfl⟩ : ∃ wn : Nat, want = wn := ⟨want.toNat, by omega⟩
      have hwn : wn < mn := by omega
      have hw3 : decide (mn ≤ wn) = false := decide_eq_false (by omega)
      clear hw
      have cF0 : w1.cell? ⟨F, 0, none⟩ = some (.int .i64 P) := cell_of_row w1 F 0 _ _ _ HF1.out
      have cN1 : w1.cell? ⟨F + 1, 1, none⟩ = some (.int .i64 tn) := cell_of_row w1 (F + 1) 1 _ _ _ HN1.out
      have cT0 : w1.cell? ⟨F + 2, 0, none⟩ = some (.slice A l.length cc) := cell_of_row w1 (F + 2) 0 _ _ _ HT1.out
      have cT1 : w1.cell? ⟨F + 2, 1, none⟩ = some (.int .i64 an) := cell_of_row w1 (F + 2) 1 _ _ _ HT1.out
      have HS1 : Hid (SI w1 (.slice A l.length cc) l) := HS.out.below HBw.out
      clear cR0 cR1 fR0 fR1
      go_wp2_with fail
      (with_reducible refine (draws_any l an P _ _ _ HS1.out (by have := HKB.out; unfold i64r; omega)).mono ?_)
      rintro e w2 ⟨v1, a1, v2, rfl, hb2, hok, hno⟩
      have HOK := Lib.hid hok
      have HNO := Lib.hid hno
      have HBw2 : Hid (Below w.heap.size w w2) := HBw.out.trans (hb2.mono (by have := HBw.out.size; omega))
      have HF2 : Hid (w2.heap[F]? = some (.cells #[.int .i64 P] 31 (0, 0))) := (hb2.block F (by omega)).trans HF1.out
      have HN2 : Hid (w2.heap[F + 1]? = some (.cells #[.int .i64 nn, .int .i64 tn] 29 (0, 0))) := (hb2.block (F + 1) (by omega)).trans HN1.out
      have HT2 : Hid (w2.heap[F + 2]? = some (.cells #[.slice A l.length cc, .int .i64 an] 39 (0, 0))) := (hb2.block (F + 2) (by omega)).trans HT1.out
      have HR2 : Hid (w2.heap[F + 3]? = some (.cells #[.slice none 0 0, .int .i64 0] 39 (0, 0))) := (hb2.block (F + 3) (by omega)).trans HR1.out
      have hz2 := hb2.size
      clear cF0 cN1 cT0 cT1 hok hno hb2
      by_cases h0 : dsE l an P (K : Int) = 0
      · obtain ⟨rfl, hs2, ho2⟩ := HOK.out h0
        have HHZ := Lib.hid h0
        rw [h0]
        clear h0
        obtain ⟨A2, k2, rfl⟩ := hs2.form'
        obtain ⟨Ad, kd, rfl⟩ := own_sl ho2
        have HS2 := Lib.hid hs2
        obtain ⟨hdl, hdE⟩ := dsE_els HHZ.out
        obtain ⟨D, hD⟩ : ∃ D, (l.drop an).take K = D := ⟨_, rfl⟩
        have HDD := Lib.hid hD
        have hD' : (l.drop ((an : Int)).toNat).take ((K : Int)).toNat = D := hD
        rw [hD'] at ho2 ⊢
        have hD'' : (l.drop an).take ((K : Int)).toNat = D := hD
        rw [hD''] at hdl hdE
        have HDE := Lib.hid hdE
        have HDL : Hid (D.length = K) := hdl
        have HOD : Hid (SI w2 (.slice Ad D.length kd) D) := SI.of_own ho2 (fun x hx => by have := els_all hdE x hx; have : 0 ≤ x ∧ x < P := of_decide_eq_true this; unfold i64r; omega)
        clear hs2 ho2 hdl hdE hD hD' hD''
        rw [HDL.out]
        clear HNO HOK
        go_upto_region 7 with fail
        obtain ⟨wp, ewp⟩ : ∃ wp : World, wp = w2.alloc (.cells #[.slice A2 l.length k2, .int .i64 ((an : Int) + K)] 39) := ⟨_, rfl⟩
        have HB2p : Hid (Below w2.heap.size w2 wp) := by show Below _ _ _; rw [ewp]; exact (Below.refl _ w2).alloc (Nat.le_refl _) _
        have HBp : Hid (Below w.heap.size w wp) := HBw2.out.trans (HB2p.out.mono HBw2.out.size)
        have hFl : F + 3 < w2.heap.size := heap_of_cells HR2.out
        have HFp : Hid (wp.heap[F]? = some (.cells #[.int .i64 P] 31 (0, 0))) := (HB2p.out.block F (by omega)).trans HF2.out
        have HNp : Hid (wp.heap[F + 1]? = some (.cells #[.int .i64 nn, .int .i64 tn] 29 (0, 0))) := (HB2p.out.block (F + 1) (by omega)).trans HN2.out
        have HTp : Hid (wp.heap[F + 2]? = some (.cells #[.slice A l.length cc, .int .i64 an] 39 (0, 0))) := (HB2p.out.block (F + 2) (by omega)).trans HT2.out
        have HRp : Hid (wp.heap[F + 3]? = some (.cells #[.slice none 0 0, .int .i64 0] 39 (0, 0))) := (HB2p.out.block (F + 3) (by omega)).trans HR2.out
        have HDp : Hid (SI wp (.slice Ad D.length kd) D) := HOD.out.below HB2p.out
        have hzp : w2.heap.size < wp.heap.size := by rw [ewp]; simp
        rw [← ewp]
        clear ewp
        have cN0 : wp.cell? ⟨F + 1, 0, none⟩ = some (.int .i64 nn) := cell_of_row wp (F + 1) 0 _ _ _ HNp.out
        go_wp2_with (at_make; refine wpList_make_rows _ rfl _ _ 42 rfl 22 Tryz.underlying42 ilinfo2 _ nn rfl rfl rfl (by omega) ?_)
        clear cN0
        go_loopw [61] (fun i wr => QuR P wn D tn nn mn wp i wr) (fun i _ => mn - (intOf i).toNat)
        case atStart => exact ⟨0, _, Nat.zero_le _, rfl, by rw [qRows_zero]; exact QR.made wp nn, (Below.refl _ _).alloc (Nat.le_refl _) _⟩
        case round =>
          obtain ⟨i, vs, hi, rfl, hqr, hbel⟩ := hrel
          have HQ := Lib.hid hqr
          have HB := Lib.hid hbel
          have hzr := hbel.size
          have HFr : Hid (wr.heap[F]? = some (.cells #[.int .i64 P] 31 (0, 0))) := (hbel.block F (by omega)).trans HFp.out
          have HNr : Hid (wr.heap[F + 1]? = some (.cells #[.int .i64 nn, .int .i64 tn] 29 (0, 0))) := (hbel.block (F + 1) (by omega)).trans HNp.out
          clear hqr hbel
          by_cases hlt : i < mn
          · have hd1 : decide ((i : Int) < (mn : Int)) = true := decide_eq_true (by omega)
            have hd2 : decide (i < mn) = true := decide_eq_true hlt
            have HDr : Hid (SI wr (.slice Ad D.length kd) D) := HDp.out.below HB.out
            obtain ⟨bD, oD, hAd, hbD, hcD⟩ := SB.cells HDr.out (by have := HDL.out; have := HK1.out; omega)
            subst hAd
            obtain ⟨lo, hlo⟩ : ∃ lo, i * tn = lo := ⟨_, rfl⟩
            obtain ⟨hh, hhh⟩ : ∃ hh, (i + 1) * tn = hh := ⟨_, rfl⟩
            have hhl : hh = lo + tn := by rw [← hhh, ← hlo, Nat.succ_mul]
            have hhK : hh ≤ K := by rw [← hhh, ← HK.out]; exact Nat.mul_le_mul_right tn hlt
            have hKb := HKB.out
            have hDl : D.length = K := HDL.out
            have hkd : D.length ≤ kd := by obtain ⟨_, _, e, h, _⟩ := HDr.out; injection e with _ _ e3; rw [e3]; exact h
            have hw4 : IntKind.i64.wrap ((i : Int) * (tn : Int)) = (lo : Int) := by rw [← Int.natCast_mul, hlo]; exact IntWalk.i64_in _ (by omega)
            have hw5 : IntKind.i64.wrap ((i : Int) + 1) = (i : Int) + 1 := IntWalk.i64_in _ (by omega)
            have hw6 : IntKind.i64.wrap (((i : Int) + 1) * (tn : Int)) = (hh : Int) := by rw [show ((i : Int) + 1) * (tn : Int) = (((i + 1) * tn : Nat) : Int) by rw [Int.natCast_mul]; rfl, hhh]; exact IntWalk.i64_in _ (by omega)
            have HPC : Hid (SI wr (.slice (some ⟨bD, oD + lo, none⟩) tn (kd - lo)) ((D.drop lo).take tn)) := SI.piece HDr.out (by omega)
            have hpl : ((D.drop lo).take tn).length = tn := by simp; omega
            have hpe : els P ((D.drop lo).take tn) = true := els_of fun x hx => els_all HDE.out x (List.mem_of_mem_drop (List.mem_of_mem_take hx))
            have HSP : Hid (∀ (sv : Int) (hs : el P sv = true) (wx : World), SI wx (.slice (some ⟨bD, oD + lo, none⟩) tn (kd - lo)) ((D.drop lo).take tn) →
                Calls Tryz.prog 45 #[.agg #[.int .i64 P], .int .i64 sv, .int .i64 tn, .int .i64 nn, .agg #[.slice (some ⟨bD, oD + lo, none⟩) tn (kd - lo), .int .i64 0]] wx fun e w' => ∃ vs A1 n1 c1 a1, e = .returned (.tuple #[vs, .agg #[.slice A1 n1 c1, .int .i64 a1], .int .i64 0]) ∧
                  w'.ownsRow wx.heap.size 91 2 vs (shL P (sv :: (D.drop lo).take tn) (upto nn)).length (((shL P (sv :: (D.drop lo).take tn) (upto nn)).flatMap pcs).map (Value.int .i64)) ∧ Below wx.heap.size wx w') := by
              intro sv hs wx hx
              have hd := dsE_full (P := P) (l := (D.drop lo).take tn) hPb (by omega) hpe
              rw [hpl] at hd
              have := split_any P sv tn nn ((D.drop lo).take tn) 0 _ wx HPR.out hs (by omega) (by omega) hnP (by omega) hx hd
              simp only [List.drop_zero, List.take_take, Nat.min_self] at this
              exact this
            have HPL := Lib.hid hpl
            have cF0 : wr.cell? ⟨F, 0, none⟩ = some (.int .i64 P) := cell_of_row wr F 0 _ _ _ HFr.out
            have cN0 : wr.cell? ⟨F + 1, 0, none⟩ = some (.int .i64 nn) := cell_of_row wr (F + 1) 0 _ _ _ HNr.out
            have cN1 : wr.cell? ⟨F + 1, 1, none⟩ = some (.int .i64 tn) := cell_of_row wr (F + 1) 1 _ _ _ HNr.out
            have hFl1 : F < wr.heap.size := by omega
            have hFl2 : F + 1 < wr.heap.size := by omega
            have HHH := Lib.hid hhh
            have HLO := Lib.hid hlo
            clear hcD hpl hpe hhh hlo
            have hsec : ∃ sv : Int, (if (i : Int) = (wn : Int) then (1 : Int) else 0) = sv ∧ el P sv = true ∧ ((((i : Int) == (wn : Int)) = true ∧ (i == wn) = true ∧ sv = 1) ∨ (((i : Int) == (wn : Int)) = false ∧ (i == wn) = false ∧ sv = 0)) := by
              by_cases he : i = wn
              · exact ⟨1, if_pos (by omega), decide_eq_true (by omega), .inl ⟨by rw [beq_iff_eq]; omega, by rw [beq_iff_eq]; omega, rfl⟩⟩
              · exact ⟨0, if_neg (by omega), decide_eq_true (by omega), .inr ⟨by rw [beq_eq_false_iff_ne]; omega, by rw [beq_eq_false_iff_ne]; omega, rfl⟩⟩
            obtain ⟨sv, hsv, hse, hcase⟩ := hsec
            have HSV := Lib.hid hsv
            have HSE := Lib.hid hse
            obtain ⟨SS, hSS⟩ : ∃ SS, shL P (sv :: (D.drop lo).take tn) (upto nn) = SS := ⟨_, rfl⟩
            have HSSl : Hid (SS.length = nn) := by show _ = _; rw [← hSS]; unfold shL; rw [List.length_map, upto_len]
            have HSSg : Hid (∀ j (h : j < SS.length), SS[j] = ((j : Int) + 1, qPt P wn D tn i j)) := by
              intro j h
              subst hSS
              simp [shL, upto, qPt, qCo, hsv, HLO.out]
            have hsp := HSP.out sv hse
            rw [hSS] at hsp
            have HSPs := Lib.hid hsp
            clear hsv hse hsp hSS
            rcases hcase with ⟨c1, c2, hs1⟩ | ⟨c1, c2, hs1⟩
            all_goals
              subst hs1
              have hlo0 : (0 : Int) ≤ (lo : Int) := by omega
              have hlo1 : (lo : Int) ≤ (hh : Int) := by omega
              have hlo2 : (hh : Int) ≤ (kd : Int) := by omega
              have hlo3 : lo ≤ hh := by omega
              have hlo4 : hh ≤ kd := by omega
              have hlo5 : hh - lo = tn := by omega
              have hlo6 : ¬ kd = lo := by omega
              have hlo7 : ¬ lo = kd := by omega
              have HHL := Lib.hid hhl
              clear hhl
              go_wp2_with fail
              go_region_held3 (fun w' => w'.cell? ⟨F, 0, none⟩ = some (.int .i64 P) ∧ w'.cell? ⟨F + 1, 0, none⟩ = some (.int .i64 nn) ∧ w'.cell? ⟨F + 1, 1, none⟩ = some (.int .i64 tn)) (first | exact ⟨cF0, cN0, cN1⟩ | exact ⟨x0, x1, x2⟩ | exact ⟨z0, z1, z2⟩ | go_keep)
                ((go_at_call 45
                  first
                    | (refine (HSPs.out _ ?b1).mono ?_
                       case b1 => first | exact HPC.out | exact HPC.out.below (Below.refl _ _).drew
                       rintro e w5 ⟨v5, A5, n5, c5, a5, rfl, hO5, hb5⟩
                       have HB5 : Hid (Below wr.heap.size wr w5) := by first | exact hb5 | exact hb5.drew_left
                       have HO5 : Hid (w5.ownsRow wr.heap.size 91 2 v5 SS.length ((SS.flatMap pcs).map (Value.int .i64))) := hO5
                       have x0 := (HB5.out.cell (p := ⟨F, 0, none⟩) hFl1).trans cF0
                       have x1 := (HB5.out.cell (p := ⟨F + 1, 0, none⟩) hFl2).trans cN0
                       have x2 := (HB5.out.cell (p := ⟨F + 1, 1, none⟩) hFl2).trans cN1
                       clear hO5 hb5)
                    | (refine (HSPs.out _ ?b1).mono ?_
                       case b1 => first | exact HPC.out.below ((Below.refl _ _).alloc (Nat.le_refl _) _) | exact HPC.out.below ((Below.refl _ _).alloc (Nat.le_refl _) _).drew
                       rintro e w5 ⟨v5, A5, n5, c5, a5, rfl, hO5, hb5⟩
                       have HB5a : Hid (Below (wr.alloc (.cells #[.slice none 0 0, .int .i64 0] 39)).heap.size (wr.alloc (.cells #[.slice none 0 0, .int .i64 0] 39)) w5) := by first | exact hb5 | exact hb5.drew_left
                       have HB5 : Hid (Below wr.heap.size wr w5) := ((Below.refl _ wr).alloc (Nat.le_refl _) _).trans (HB5a.out.mono (by simp))
                       have HO5' : Hid (w5.ownsRow (wr.heap.size + 1) 91 2 v5 SS.length ((SS.flatMap pcs).map (Value.int .i64))) := own_lo hO5 (by simp)
                       have HZ5 : Hid (w5.heap[wr.heap.size]? = some (.cells #[.slice none 0 0, .int .i64 0] 39 (0, 0))) := (HB5a.out.block wr.heap.size (by simp)).trans (heap_alloc_new wr _)
                       have x0 := (HB5.out.cell (p := ⟨F, 0, none⟩) hFl1).trans cF0
                       have x1 := (HB5.out.cell (p := ⟨F + 1, 0, none⟩) hFl2).trans cN0
                       have x2 := (HB5.out.cell (p := ⟨F + 1, 1, none⟩) hFl2).trans cN1
                       have x3 : w5.cell? ⟨wr.heap.size, 0, none⟩ = some (.slice none 0 0) := cell_of_row w5 wr.heap.size 0 _ _ _ HZ5.out
                       have x4 : w5.cell? ⟨wr.heap.size, 1, none⟩ = some (.int .i64 0) := cell_of_row w5 wr.heap.size 1 _ _ _ HZ5.out
                       have x5 : w5.frozen? ⟨wr.heap.size, 0, none⟩ = false := frozen_of_row w5 wr.heap.size 0 _ _ HZ5.out
                       have z (b o : Nat) (hb : b < wr.heap.size) : ((w5.setCell ⟨wr.heap.size, 0, none⟩ (.slice A5 n5 c5)).setCell ⟨wr.heap.size, 1, none⟩ (.int .i64 a5)).cell? ⟨b, o, none⟩ = w5.cell? ⟨b, o, none⟩ :=
                         World.cell?_of_block ((heap_setCell_other _ _ b _ (by show b ≠ wr.heap.size; omega)).trans (heap_setCell_other _ _ b _ (by show b ≠ wr.heap.size; omega)))
                       have z0 := (z F 0 hFl1).trans x0
                       have z1 := (z (F + 1) 0 hFl2).trans x1
                       have z2 := (z (F + 1) 1 hFl2).trans x2
                       clear z
                       have x6 : w5.frozen? ⟨wr.heap.size, 1, none⟩ = false := frozen_of_row w5 wr.heap.size 1 _ _ HZ5.out
                       clear hO5 hb5)))
              clear cF0 cN0 cN1 hlo0 hlo1 hlo2 hlo3 hlo4 hlo5 hlo6 hlo7 hw4 hw5 hw6
              all_goals
                first
                  | (obtain ⟨w6, ew6⟩ : ∃ w6 : World, w6 = w5.alloc (.cells #[.slice A5 n5 c5, .int .i64 a5] 39) := ⟨_, rfl⟩
                     rw [← ew6]
                     have HB6 : Hid (Below wr.heap.size wr w6) := by show Below _ _ _; rw [ew6]; exact HB5.out.alloc HB5.out.size _
                     have HO6 : Hid (w6.ownsRow wr.heap.size 91 2 v5 SS.length ((SS.flatMap pcs).map (Value.int .i64))) := by show World.ownsRow _ _ _ _ _ _ _; rw [ew6]; exact HO5.out.alloc _
                     clear ew6 x0 x1 x2)
                  | (obtain ⟨w6, ew6⟩ : ∃ w6 : World, w6 = (w5.setCell ⟨wr.heap.size, 0, none⟩ (.slice A5 n5 c5)).setCell ⟨wr.heap.size, 1, none⟩ (.int .i64 a5) := ⟨_, rfl⟩
                     rw [← ew6]
                     have HB6 : Hid (Below wr.heap.size wr w6) := by show Below _ _ _; rw [ew6]; exact (HB5.out.setCell (Nat.le_refl _) _).setCell (Nat.le_refl _) _
                     have HO6 : Hid (w6.ownsRow wr.heap.size 91 2 v5 SS.length ((SS.flatMap pcs).map (Value.int .i64))) := by show World.ownsRow _ _ _ _ _ _ _; rw [ew6]; exact own_lo (own_set3 (own_set3 HO5'.out (by show wr.heap.size < _; omega) _) (by show wr.heap.size < _; omega) _) (Nat.le_succ _)
                     clear ew6 x0 x1 x2 x3 x4 x5 x6 z0 z1 z2)
                obtain ⟨bs, os, cs, hv5, hbs1, hbs2, hcs⟩ : ∃ bs os cs, v5 = .slice (some ⟨bs, os, none⟩) SS.length cs ∧ wr.heap.size ≤ bs ∧ bs < w6.heap.size ∧ ∀ j (h : j < SS.length), w6.cell? ⟨bs, os + j * 2, none⟩ = some (.int .i64 SS[j].1) ∧ w6.cell? ⟨bs, os + j * 2 + 1, none⟩ = some (.int .i64 SS[j].2) := by
                  have hsg : SG pcs 2 w6.heap.size w6 v5 SS := SG.of_own HO6.out (by
                    intro x hx y hy
                    obtain ⟨j, hj, rfl⟩ := List.mem_iff_getElem.1 hx
                    rw [HSSg.out j hj] at hy
                    have hjn := HSSl.out
                    have := qPt_r (want := (wn : Int)) hPb.1 D tn i j
                    simp [pcs] at hy
                    rcases hy with rfl | rfl <;> (unfold i64r; omega)) (fun x _ => rfl)
                  obtain ⟨A', c', e, _, _, _, ha⟩ := hsg
                  obtain ⟨b, off, rfl, hb, hcell⟩ := ha (by rw [HSSl.out]; omega)
                  refine ⟨b, off, c', e, (HO6.out.lt b (by rw [e]; rfl)).1, hb, fun j hj => ⟨?_, ?_⟩⟩
                  · have := hcell j hj 0 (by omega); simpa [pcs] using this
                  · have := hcell j hj 1 (by omega); rw [Nat.add_assoc]; simpa [pcs] using this
                subst hv5
                have HCS := Lib.hid hcs
                clear hcs
                obtain ⟨wq, rfl⟩ : ∃ wq : World, wq = wr := ⟨_, rfl⟩
                have hlS : SS.length = nn := HSSl.out
                rw [hlS]
                clear hlS
                have hGq : wp.heap.size < wq.heap.size := HQ.out.lt
                go_wp2_with fail
                go_loopw [96] (fun v wr => Qu2 P wn D tn nn i wp bs w6.heap[bs]? v wr) (fun v _ => nn - (intOf v).toNat)
                case atStart =>
                  refine ⟨0, vs, Nat.zero_le _, rfl, ?_, HB.out.trans (HB6.out.mono hzr), rfl, ?_⟩
                  · rw [qMid_zero]; exact HQ.out.below HB6.out
                  · intro k hk e
                    have := ((HQ.out.own k hk (by rw [← HQ.out.len]; exact hk)).lt bs e).2
                    omega
                case round =>
                  obtain ⟨j, vs2, hj, rfl, hqr2, hbel2, hob, hnb⟩ := hrel
                  have HQ2 := Lib.hid hqr2
                  have HB2 := Lib.hid hbel2
                  have HOB := Lib.hid hob
                  have HNB := Lib.hid hnb
                  have hzr2 := hbel2.size
                  have hbs3 : bs < wr.heap.size := by
                    obtain ⟨o, ho⟩ : ∃ o, w6.heap[bs]? = some o := ⟨_, Array.getElem?_eq_getElem hbs2⟩
                    exact (Array.getElem?_eq_some_iff.1 (hob.trans ho)).1
                  clear hqr2 hbel2 hob hnb
                  by_cases hlt2 : j < nn
                  · have e1 : decide ((j : Int) < (nn : Int)) = true := decide_eq_true (by omega)
                    have e2 : decide (j < nn) = true := decide_eq_true hlt2
                    have hjS : j < SS.length := by rw [HSSl.out]; exact hlt2
                    have hvl : vs2.length = nn := by rw [HQ2.out.len, qMid_len]
                    have hjv : j < vs2.length := by omega
                    have hjr : j < (qMid P wn D tn nn i j).length := by rw [qMid_len]; exact hlt2
                    obtain ⟨y, hy⟩ : ∃ y, qPt P wn D tn i j = y := ⟨_, rfl⟩
                    have hSj := HSSg.out j hjS
                    rw [hy] at hSj
                    have g1 : wr.cell? ⟨bs, os + j * 2, none⟩ = some (.int .i64 ((j : Int) + 1)) := by
                      rw [World.cell?_of_block HOB.out, (HCS.out j hjS).1, hSj]
                    have g2 : wr.cell? ⟨bs, os + j * 2 + 1, none⟩ = some (.int .i64 y) := by
                      rw [World.cell?_of_block HOB.out, (HCS.out j hjS).2, hSj]
                    have e3 : (0 : Int) ≤ (j : Int) := by omega
                    have e4 : (j : Int) < (nn : Int) := by omega
                    have e5 : (j : Int) < (SS.length : Int) := by omega
                    go_upto_region 22 with fail
                    obtain ⟨wx, ewx⟩ : ∃ wx : World, wx = wr.alloc (.cells #[.int .i64 ((j : Int) + 1), .int .i64 y] 91) := ⟨_, rfl⟩
                    have HZX : Hid (wx.heap.size = wr.heap.size + 1) := by show _ = _; rw [ewx]; simp
                    have HQx : Hid (QR wp.heap.size wx vs2 (qMid P wn D tn nn i j)) := by show QR _ _ _ _; rw [ewx]; exact HQ2.out.alloc _
                    have HBx : Hid (Below wr.heap.size wr wx) := by show Below _ _ _; rw [ewx]; exact (Below.refl _ wr).alloc (Nat.le_refl _) _
                    have q2 : wx.cell? ⟨wr.heap.size, 1, none⟩ = some (.int .i64 y) := by rw [ewx]; exact cell_of_row _ _ 1 _ _ (0, 0) (heap_alloc_new wr _)
                    rw [← ewx]
                    clear ewx g1 g2
                    obtain ⟨Aj, cj, hvj⟩ := own_sl (HQx.out.own j hjv hjr)
                    obtain ⟨R, hR⟩ : ∃ R, (qMid P wn D tn nn i j)[j] = R := ⟨_, rfl⟩
                    have hR2 : qRow P wn D tn j i = R := by rw [← qMid_get P wn D tn nn i j hjr]; exact hR
                    have hRl : R.length = i := by rw [← hR2, qRow_len]
                    rw [hR] at hvj
                    have hoj := HQx.out.own j hjv hjr
                    rw [hvj, hR] at hoj
                    have HOj := Lib.hid hoj
                    have hq1 := HQx.out.cell hjv
                    rw [hvj] at hq1
                    have f1 := HQx.out.frozen j
                    have HVJ := Lib.hid hvj
                    have HRR := Lib.hid hR
                    have HR2 := Lib.hid hR2
                    have HRl := Lib.hid hRl
                    have hGx : wp.heap.size < wx.heap.size := HQx.out.lt
                    have hRb : R.length ≤ 2000 := by omega
                    have hgo : ∀ b, (Value.slice Aj R.length cj).ownBlock = some b → wp.heap.size + 1 ≤ b ∧ b < wx.heap.size := fun b hb => hoj.lt b hb
                    have HGO := Lib.hid hgo
                    clear hvj hR hR2 hRl hoj hgo
                    go_wp2_with fail
                    go_region_law (refine step_append_int1_at _ (by rfl) _ _ 22 (by rfl) (wp.heap.size + 1) 3 Tryz.underlying22 iinfo _ R (by rfl) (by first | exact (HOj.out.alloc (.cells #[.int .i64 y] 3)).drew | exact HOj.out.alloc (.cells #[.int .i64 y] 3)) y wx.heap.size (by rfl) (by exact cells_new wx [.int .i64 y] 3 0 _ rfl) (by omega) (by simp; omega) ?_; intro gg cap2 wy hown2 hg2 hat2; have hG2 : wy.heap[wp.heap.size]? = _ := (hg2.block wp.heap.size (by simp; omega) (fun e => by have := (HGO.out _ e.symm).1; omega)).trans ((Below.heap_alloc wx _ _ hGx).trans HQx.out.cells); have p2' : wy.cell? ⟨wp.heap.size, j, none⟩ = some (.slice Aj R.length cj) := (cell_of_row wy wp.heap.size j _ _ _ hG2).trans (by rw [List.getElem?_toArray, List.getElem?_eq_getElem hjv, HVJ.out]); have pf' : wy.frozen? ⟨wp.heap.size, j, none⟩ = false := frozen_of_row wy wp.heap.size j _ _ hG2)
                    all_goals
                      have hrow : (qMid P wn D tn nn i j).set j (R ++ [y]) = qMid P wn D tn nn i (j + 1) := by
                        rw [← HR2.out, ← hy]; exact qMid_step P wn D tn nn i j hlt2
                      have hbx : bs < wx.heap.size := by have := HZX.out; omega
                      have hbG : bs ≠ wp.heap.size := by omega
                      obtain ⟨hp1, hp2, hp3, hp4⟩ := QR.round HQx.out hjv hjr HVJ.out HRR.out hown2 hg2 hat2 (HB2.out.trans (HBx.out.mono hzr2)) hbx hbG HNB.out
                      rw [hrow] at hp1
                      obtain ⟨w9, ew9⟩ : ∃ w9 : World, w9 = wy.setCell ⟨wp.heap.size, j, none⟩ (.slice (some ⟨gg, 0, none⟩) (R ++ [y]).length cap2) := ⟨_, rfl⟩
                      rw [← ew9] at hp1 hp2 hp3
                      rw [List.length_append, show [y].length = 1 from rfl] at ew9
                      have HP3 : Hid (w9.heap[bs]? = w6.heap[bs]?) := hp3.out.trans ((HBx.out.block bs hbs3).trans HOB.out)
                      clear hp3 hown2 hg2 hat2 hG2 p2' pf' hrow hbx hbG hq1 f1 q2
                      try simp only [List.length_append, List.length_cons, List.length_nil, Nat.zero_add]
                      rw [← ew9]
                      clear ew9
                      go_wp2_with fail
                      go_roundw
                      case rel => exact ⟨j + 1, _, by omega, by go_num, hp1.out, hp2.out, HP3.out, hp4.out⟩
                      case measure => simp [intOf]; omega
                  · have hjj : j = nn := by omega
                    subst hjj
                    have e1 : decide ((j : Int) < (j : Int)) = false := decide_eq_false (by omega)
                    have e2 : decide (j < j) = false := decide_eq_false (by omega)
                    clear hlt2
                    go_wp2_with fail
                    go_roundw
                    case rel => exact ⟨i + 1, vs2, by omega, by go_num, by rw [← qMid_end]; exact HQ2.out, HB2.out⟩
                    case measure => simp [intOf]; omega
          · have hii : i = mn := by omega
            subst hii
            have hd1 : decide ((i : Int) < (i : Int)) = false := decide_eq_false (by omega)
            have HTr : Hid (wr.heap[F + 2]? = some (.cells #[.slice A l.length cc, .int .i64 an] 39 (0, 0))) := (HB.out.block (F + 2) (by omega)).trans HTp.out
            have HRr : Hid (wr.heap[F + 3]? = some (.cells #[.slice none 0 0, .int .i64 0] 39 (0, 0))) := (HB.out.block (F + 3) (by omega)).trans HRp.out
            have HSr : Hid (SI wr (.slice A l.length cc) l) := (SB.below HS.out (HBp.out.trans (HB.out.mono HBp.out.size))).si (HBp.out.trans (HB.out.mono HBp.out.size)).size
            have cT0 : wr.cell? ⟨F + 2, 0, none⟩ = some (.slice A l.length cc) := cell_of_row wr (F + 2) 0 _ _ _ HTr.out
            have HTV : Hid (l.length ≤ 16384 ∧ (an : Int) ≤ (l.length : Int)) := by
              cases hh : tvB l (an : Int) with
              | true => have : l.length ≤ 16384 ∧ 0 ≤ (an : Int) ∧ (an : Int) ≤ (l.length : Int) := of_decide_eq_true hh; exact ⟨this.1, this.2.2⟩
              | false => have hz := HHZ.out; unfold dsE at hz; rw [if_pos hh] at hz; cases hz
            have hll := HTV.out.1
            have hwA : IntKind.i64.wrap ((an : Int) + (K : Int)) = (an : Int) + K := by exact IntWalk.i64_in _ (by have := HTV.out.2; have := HKB.out; omega)
            clear hlt
            go_wp2_with (at_builtin; refine wpList_append_ints _ rfl _ _ 22 rfl wr.heap.size 3 Tryz.underlying22 iinfo (.slice none 0 0) [] rfl (World.ownsRow_nil _ _ _ _) _ _ l rfl HSr.out (by simp; omega) (Nat.le_refl _) ?_; intro v3 w3 hown3 hg3; rw [List.nil_append] at hown3; obtain ⟨A3, k3, rfl⟩ := own_sl hown3; have HO3 := Lib.hid hown3; have HB3 : Hid (Below wr.heap.size wr w3) := (Below.refl _ wr).grown hg3 (Nat.le_refl _) (fun k hk => by cases hk); clear hown3 hg3; have HT3 : Hid (w3.heap[F + 2]? = some (.cells #[.slice A l.length cc, .int .i64 an] 39 (0, 0))) := (HB3.out.block (F + 2) (by omega)).trans HTr.out; have cT0 : w3.cell? ⟨F + 2, 0, none⟩ = some (.slice A l.length cc) := cell_of_row w3 (F + 2) 0 _ _ _ HT3.out; have cT1 : w3.cell? ⟨F + 2, 1, none⟩ = some (.int .i64 an) := cell_of_row w3 (F + 2) 1 _ _ _ HT3.out; have fT0 : w3.frozen? ⟨F + 2, 0, none⟩ = false := frozen_of_row w3 (F + 2) 0 _ _ HT3.out; have fT1 : w3.frozen? ⟨F + 2, 1, none⟩ = false := frozen_of_row w3 (F + 2) 1 _ _ HT3.out)
            obtain ⟨w4, ew4⟩ : ∃ w4 : World, w4 = (w3.setCell ⟨F + 2, 0, none⟩ (.slice A3 l.length k3)).setCell ⟨F + 2, 1, none⟩ (.int .i64 ((an : Int) + K)) := ⟨_, rfl⟩
            have hFw : w.heap.size ≤ F := by have := HFF.out; omega
            have hz3 := HB3.out.size
            have HBr3 : Hid (Below w.heap.size w w3) := (HBp.out.trans (HB.out.mono HBp.out.size)).trans (HB3.out.mono (HBp.out.trans (HB.out.mono HBp.out.size)).size)
            have HB4 : Hid (Below w.heap.size w w4) := by show Below _ _ _; rw [ew4]; exact (HBr3.out.setCell (by show _ ≤ F + 2; omega) _).setCell (by show _ ≤ F + 2; omega) _
            have HT4 : Hid (w4.heap[F + 2]? = some (.cells #[.slice A3 l.length k3, .int .i64 ((an : Int) + K)] 39 (0, 0))) := by show _ = _; rw [ew4]; exact store2 _ _ HT3.out
            have HR4 : Hid (w4.heap[F + 3]? = some (.cells #[.slice none 0 0, .int .i64 0] 39 (0, 0))) := by show _ = _; rw [ew4, heap_setCell_other _ _ (F + 3) _ (by show F + 3 ≠ F + 2; omega), heap_setCell_other _ _ (F + 3) _ (by show F + 3 ≠ F + 2; omega)]; exact (HB3.out.block (F + 3) (by omega)).trans HRr.out
            have HQ4 : Hid (QR wp.heap.size w4 vs (qRows P wn D tn nn i)) := by show QR _ _ _ _; rw [ew4]; exact ((HQ.out.below HB3.out).set3 (by show F + 2 < _; omega) _).set3 (by show F + 2 < _; omega) _
            have HO4 : Hid (w4.ownsRow wr.heap.size 3 1 (.slice A3 l.length k3) l.length (l.map (Value.int .i64))) := by show World.ownsRow _ _ _ _ _ _ _; rw [ew4]; exact own_set3 (own_set3 HO3.out (by show F + 2 < _; omega) _) (by show F + 2 < _; omega) _
            have hz4 : w4.heap.size = w3.heap.size := by rw [ew4]; simp
            rw [← ew4]
            clear ew4 cT0 cT1 fT0 fT1
            have cT0 : w4.cell? ⟨F + 2, 0, none⟩ = some (.slice A3 l.length k3) := cell_of_row w4 (F + 2) 0 _ _ _ HT4.out
            have cT1 : w4.cell? ⟨F + 2, 1, none⟩ = some (.int .i64 ((an : Int) + K)) := cell_of_row w4 (F + 2) 1 _ _ _ HT4.out
            have cR0 : w4.cell? ⟨F + 3, 0, none⟩ = some (.slice none 0 0) := cell_of_row w4 (F + 3) 0 _ _ _ HR4.out
            have cR1 : w4.cell? ⟨F + 3, 1, none⟩ = some (.int .i64 0) := cell_of_row w4 (F + 3) 1 _ _ _ HR4.out
            have fR0 : w4.frozen? ⟨F + 3, 0, none⟩ = false := frozen_of_row w4 (F + 3) 0 _ _ HR4.out
            have fR1 : w4.frozen? ⟨F + 3, 1, none⟩ = false := frozen_of_row w4 (F + 3) 1 _ _ HR4.out
            go_wp2_with fail
            go_region_held3 (fun w' => w'.cell? ⟨F + 2, 0, none⟩ = some (.slice A3 l.length k3) ∧ w'.cell? ⟨F + 2, 1, none⟩ = some (.int .i64 ((an : Int) + K))) (first | exact ⟨cT0, cT1⟩ | go_keep) (fail)
            all_goals
              go_wp2_with fail
              have HW := store2 (.slice A3 l.length k3) (.int .i64 ((an : Int) + K)) HR4.out
              have q0 := cell_of_row _ (F + 3) 0 _ _ _ HW
              have q1 := cell_of_row _ (F + 3) 1 _ _ _ HW
              simp only [List.getElem?_toArray, List.getElem?_cons_zero, List.getElem?_cons_succ] at q0 q1
              have HBf : Hid (Below w.heap.size w ((w4.setCell ⟨F + 3, 0, none⟩ (.slice A3 l.length k3)).setCell ⟨F + 3, 1, none⟩ (.int .i64 ((an : Int) + K)))) := (HB4.out.setCell (by show _ ≤ F + 3; omega) _).setCell (by show _ ≤ F + 3; omega) _
              have HSf : Hid (SI ((w4.setCell ⟨F + 3, 0, none⟩ (.slice A3 l.length k3)).setCell ⟨F + 3, 1, none⟩ (.int .i64 ((an : Int) + K))) (.slice A3 l.length k3) l) := SI.of_own (own_set3 (own_set3 HO4.out (by show F + 3 < _; omega) _) (by show F + 3 < _; omega) _) (by obtain ⟨_, _, _, _, _, hr, _⟩ := HS.out; exact hr)
              have HQf : Hid (QRv w.heap.size ((w4.setCell ⟨F + 3, 0, none⟩ (.slice A3 l.length k3)).setCell ⟨F + 3, 1, none⟩ (.int .i64 ((an : Int) + K))) (.slice (some ⟨wp.heap.size, 0, none⟩) nn nn) (qRows P wn D tn nn i)) := (show Hid _ from
                ⟨wp.heap.size, _, HBp.out.size, by rw [qRows_len], (HQ4.out.set3 (p := ⟨F + 3, 0, none⟩) (by show F + 3 < _; omega) (.slice A3 l.length k3)).set3 (p := ⟨F + 3, 1, none⟩) (by show F + 3 < _; omega) (.int .i64 ((an : Int) + K)), qRows_r hPb D tn nn i, by rw [qRows_len]; omega⟩)
              have HDt : Hid ((l.drop an).take (((i : Int) * (tn : Int)).toNat) = D) := by show _ = _; rw [HKC.out]; exact HDD.out
              refine bodyPost_ret (v := .tuple #[.slice (some ⟨wp.heap.size, 0, none⟩) nn nn, .agg #[.slice A3 l.length k3, .int .i64 ((an : Int) + K)], .int .i64 0]) (by simp [results, Tryz.results17, go_sem, q0, q1]) rfl ⟨_, _, _, by rw [HQE.out, HHZ.out], ?_, fun _ => ⟨by rw [HKC.out], ?_, ?_⟩, fun h => absurd (HQE.out.trans HHZ.out) h⟩
              · first | exact HBf.out | exact HBf.out.drew
              · first | exact HSf.out | exact HSf.out.below (Below.refl _ _).drew
              · rw [HDt.out]
                first | exact HQf.out | exact HQf.out.below (Below.refl _ _).drew
      · obtain ⟨er, her⟩ : ∃ er, dsE l an P (K : Int) = er := ⟨_, rfl⟩
        obtain ⟨rfl, rfl, rfl⟩ := HNO.out h0
        have HE : Hid (quE P nn tn mn wn l an = er) := HQE.out.trans her
        have HN := Lib.hid h0
        rw [her]
        rw [her] at h0
        have d0 : (er != 0) = true := by rw [bne_iff_ne]; exact h0
        have HN0 := Lib.hid h0
        clear her h0
        go_upto_region 7 with fail
        obtain ⟨wp, ewp⟩ : ∃ wp : World, wp = w2.alloc (.cells #[.slice none 0 0, .int .i64 0] 39) := ⟨_, rfl⟩
        have HBp : Hid (Below w.heap.size w wp) := by show Below _ _ _; rw [ewp]; exact HBw2.out.alloc HBw2.out.size _
        have HRp : Hid (wp.heap[F + 3]? = some (.cells #[.slice none 0 0, .int .i64 0] 39 (0, 0))) := by show _ = _; rw [ewp, Below.heap_alloc _ _ _ (by omega)]; exact HR2.out
        rw [← ewp]
        clear ewp
        have cR0 : wp.cell? ⟨F + 3, 0, none⟩ = some (.slice none 0 0) := cell_of_row wp (F + 3) 0 _ _ _ HRp.out
        have cR1 : wp.cell? ⟨F + 3, 1, none⟩ = some (.int .i64 0) := cell_of_row wp (F + 3) 1 _ _ _ HRp.out
        have fR0 : wp.frozen? ⟨F + 3, 0, none⟩ = false := frozen_of_row wp (F + 3) 0 _ _ HRp.out
        have fR1 : wp.frozen? ⟨F + 3, 1, none⟩ = false := frozen_of_row wp (F + 3) 1 _ _ HRp.out
        go_wp2_with fail
        have HW := store2 (.slice none 0 0) (.int .i64 0) HRp.out
        have q0 := cell_of_row _ (F + 3) 0 _ _ _ HW
        have q1 := cell_of_row _ (F + 3) 1 _ _ _ HW
        simp only [List.getElem?_toArray, List.getElem?_cons_zero, List.getElem?_cons_succ] at q0 q1
        refine bodyPost_ret (v := .tuple #[.slice none 0 0, .agg #[.slice none 0 0, .int .i64 0], .int .i64 er]) (by simp [results, Tryz.results17, go_sem, q0, q1]) rfl ⟨_, _, _, by rw [HE.out], ?_, fun h => by rw [HE.out] at h; exact absurd h HN0.out, fun _ => ⟨rfl, rfl, rfl⟩⟩
        exact (HBp.out.setCell (by show _ ≤ F + 3; have := HFF.out; omega) _).setCell (by show _ ≤ F + 3; have := HFF.out; omega) _
  · obtain ⟨er, her⟩ : ∃ er, ccE P n t m = er := ⟨_, rfl⟩
    have HE : Hid (quE P n t m want l an = er) := by show _ = _; unfold quE; rw [if_pos h0, her]
    rw [her]
    rw [her] at h0
    have d0 : (er != 0) = true := by rw [bne_iff_ne]; exact h0
    have HN0 := Lib.hid h0
    clear her h0
    go_wp2_with fail
    have HW := store2 (.slice none 0 0) (.int .i64 0) HR1.out
    have q0 := cell_of_row _ (F + 3) 0 _ _ _ HW
    have q1 := cell_of_row _ (F + 3) 1 _ _ _ HW
    simp only [List.getElem?_toArray, List.getElem?_cons_zero, List.getElem?_cons_succ] at q0 q1
    refine bodyPost_ret (v := .tuple #[.slice none 0 0, .agg #[.slice none 0 0, .int .i64 0], .int .i64 er]) (by simp [results, Tryz.results17, go_sem, q0, q1]) rfl ⟨_, _, _, by rw [HE.out], ?_, fun h => by rw [HE.out] at h; exact absurd h HN0.out, fun _ => ⟨rfl, rfl, rfl⟩⟩
    exact (HBw.out.setCell (by show _ ≤ F + 3; have := HFF.out; omega) _).setCell (by show _ ≤ F + 3; have := HFF.out; omega) _
theorem queries_any (P n t m want : Int) (l : List Int) (an : Nat) (v : Value) (w : World) (hP : i64r P) (hm : i64r m) (h : SI w v l) :
    Calls Tryz.prog 17 #[.agg #[.int .i64 P], .agg #[.int .i64 n, .int .i64 t], .int .i64 m, .int .i64 want, .agg #[v, .int .i64 an]] w fun e w' => ∃ vq v1 a1, e = .returned (.tuple #[vq, .agg #[v1, .int .i64 a1], .int .i64 (quE P n t m want l an)]) ∧ Below w.heap.size w w' ∧
      (quE P n t m want l an = 0 → a1 = an + m * t ∧ SI w' v1 l ∧ SL w' vq (qRows P want ((l.drop an).take (m * t).toNat) t.toNat n.toNat m.toNat)) ∧
      (quE P n t m want l an ≠ 0 → vq = .slice none 0 0 ∧ v1 = .slice none 0 0 ∧ a1 = 0) :=
  (queriesF_any P n t m want l an v w hP hm h).mono fun _ _ ⟨vq, v1, a1, h1, h2, h3, h4⟩ => ⟨vq, v1, a1, h1, h2, fun h0 => ⟨(h3 h0).1, (h3 h0).2.1, (h3 h0).2.2.sl⟩, h4⟩
end Go.Proofs.YtbgabipngdillaaGreatDoor
