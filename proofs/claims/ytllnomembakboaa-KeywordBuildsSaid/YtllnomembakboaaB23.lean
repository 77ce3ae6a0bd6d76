/- Joined: Ok Ol. -/
import Derived.Lib.BufferWrite
import Derived.Lib.LazyBuf
import Derived.Test.YtllnomembakboaaB13
import Derived.Test.YtllnomembakboaaB05
import Derived.Test.YtllnomembakboaaB07
namespace Go.Proofs.Ytllnomembakboaa
open Go.RowKit

/-- a byte as a cell -/
def bv (b : UInt8) : Value := .int .u8 (b.toNat : Int)
/-- block Z holds the bytes L -/
def BZ (w : World) (Z : Nat) (L : List UInt8) : Prop := w.heap[Z]? = some (.cells (L.map bv).toArray 5 (0, 0))
theorem BZ.lt {w : World} {Z : Nat} {L : List UInt8} (h : BZ w Z L) : Z < w.heap.size := heap_of_cells h
theorem BZ.cell {w : World} {Z : Nat} {L : List UInt8} (h : BZ w Z L) {j : Nat} (hj : j < L.length) : ∃ v, w.cell? ⟨Z, j, none⟩ = some v ∧ w.frozen? ⟨Z, j, none⟩ = false := by
  refine ⟨bv L[j], (cell_of_row w Z j _ _ _ h).trans ?_, frozen_of_row w Z j _ _ h⟩
  simp [hj]
theorem BZ.set {w : World} {Z : Nat} {L : List UInt8} (h : BZ w Z L) (j : Nat) (b : UInt8) (x : Int) (hx : x = (b.toNat : Int)) : BZ (w.setCell ⟨Z, j, none⟩ (.int .u8 x)) Z (L.set j b) := by
  have h1 := heap_setCell_same w Z j _ _ (.int .u8 x) h
  unfold BZ
  rw [h1, hx, List.setIfInBounds_toArray, List.map_set]
  rfl
theorem BZ.kept {w w' : World} {Z : Nat} {L : List UInt8} (h : BZ w Z L) (hb : Below w.heap.size w w') : BZ w' Z L := (hb.block Z h.lt).trans h
theorem bz_made (w : World) (n : Nat) : BZ (w.alloc (.cells (Array.replicate n (Value.int .u8 0)) 5)) w.heap.size (List.replicate n 0) := by
  have h := heap_alloc_new w (.cells (Array.replicate n (Value.int .u8 0)) 5)
  unfold BZ
  rw [h]
  simp [bv]
theorem BZ.own {w : World} {Z base : Nat} {L : List UInt8} (h : BZ w Z L) (hb : base ≤ Z) (hn : L.length ≤ 1000000) : w.ownsRow base 5 1 (.slice (some ⟨Z, 0, none⟩) L.length L.length) L.length (L.flatMap bcs) := by
  have e : L.flatMap bcs = L.map bv := by
    clear h hn
    induction L with
    | nil => rfl
    | cons b L ih => rw [List.flatMap_cons, ih]; rfl
  rw [e]
  exact ⟨by simp, .inr ⟨Z, L.length, _, rfl, hb, h, Nat.le_refl _, by unfold maxLen; omega, by simp, by simp; exact List.take_of_length_le (by simp)⟩⟩
/-- copy(own bytes, text) in a drawn statement -/
theorem step_copy_str {P : Program} {ops : Array Oper} {o : Oper} {a : Act} {w : World} {K : Act → World → Prop} {Q : Exit → Act → World → Prop} {E : Prop}
    (hgd : o.guard = none) (d x : Operand) (dT sT : TypeId) (hop : o.op = Op.call { callee := Callee.builtin Builtin.copy, args := #[d, x], argTypes := #[dT, sT] })
    (elem : TypeId) (hu : P.underlying dT = some (.slice elem)) (hs : (P.info? elem).map (·.size) = some 1)
    (Z off dLen dCap : Nat) (hd : a.eval d = .slice (some ⟨Z, off, none⟩) dLen dCap) (s : ByteArray) (hx : a.eval x = .string s) (L : List UInt8) (hZ : BZ w Z L) (hle : s.size ≤ dLen) (hfit : off + s.size ≤ L.length)
    (hK : ∀ w', BZ w' Z (L.take off ++ s.data.toList ++ L.drop (off + s.size)) → w.grownBy w' (some Z) → K (a.put o.dst (goInt s.size)) w') :
    if Region.wanted o (yielded ops a.tmps) = true then Oper.wp P o a w K Q else E := by
  have hw : Region.wanted o (yielded ops a.tmps) = true := by simp [Region.wanted, hgd]
  rw [if_pos hw]
  have hrun := Lib.run_copy_row_string (P := P) w dT sT o.type elem Z off dLen dCap s _ _ hu hs hZ hle (by simpa using hfit)
  unfold Oper.wp
  simp [execOp, hop, resolve, invoke, builtin, hd, hx, hrun, Result.andThen]
  refine hK _ ?_ ⟨rfl, rfl, rfl, by simp, fun k _ hk => setRow_other w Z k _ (fun e => hk (by rw [e]))⟩
  have h1 := setRow_heap w Z _ ((L.map bv).toArray.toList.take off ++ Lib.byteCells s.data.toList ++ (L.map bv).toArray.toList.drop (off + s.size)).toArray _ _ hZ
  unfold BZ
  simp only [List.map_append, List.map_take, List.map_drop]
  have e : s.data.toList.map bv = Lib.byteCells s.data.toList := rfl
  rw [e]
  simpa using h1
/-- the answer of Encode -/
def encC (n : Int) (l : List (ByteArray × Int)) : Int := if 1 ≤ n ∧ n ≤ 8 then if (l.length : Int) ≤ n then if ascB l = true then 0 else 2 else 4 else 1
def encV (n : Int) (l : List (ByteArray × Int)) : Value := .tuple #[.string (if encC n l = 0 then ⟨(encB n.toNat l).toArray⟩ else ⟨#[]⟩), .int .i64 (encC n l)]
theorem encV_range {n : Int} {l : List (ByteArray × Int)} (h : ¬ (1 ≤ n ∧ n ≤ 8)) : encV n l = .tuple #[.string ⟨#[]⟩, .int .i64 1] := by
  have e : encC n l = 1 := if_neg h
  unfold encV
  rw [e]
  rfl
theorem encV_limit {n : Int} {l : List (ByteArray × Int)} (h : 1 ≤ n ∧ n ≤ 8) (h2 : ¬ (l.length : Int) ≤ n) : encV n l = .tuple #[.string ⟨#[]⟩, .int .i64 4] := by
  have e : encC n l = 4 := by unfold encC; rw [if_pos h, if_neg h2]
  unfold encV
  rw [e]
  rfl
theorem encV_form {n : Int} {l : List (ByteArray × Int)} (h : 1 ≤ n ∧ n ≤ 8) (h2 : (l.length : Int) ≤ n) (h3 : ascB l = false) : encV n l = .tuple #[.string ⟨#[]⟩, .int .i64 2] := by
  have e : encC n l = 2 := by unfold encC; rw [if_pos h, if_pos h2, if_neg (by rw [h3]; decide)]
  unfold encV
  rw [e]
  rfl
theorem encV_ok {n : Nat} {l : List (ByteArray × Int)} (h : 1 ≤ n ∧ n ≤ 8) (h2 : l.length ≤ n) (h3 : ascB l = true) : encV n l = .tuple #[.string ⟨(encB n l).toArray⟩, .int .i64 0] := by
  have e : encC n l = 0 := by unfold encC; rw [if_pos (by omega), if_pos (by omega), if_pos h3]
  unfold encV
  rw [e, if_pos rfl, Int.toNat_natCast]
/-- the bytes of an entry, without its number's from the kth on -/
def encK (e : ByteArray × Int) (k : Nat) : List UInt8 := (byt (e.1.size : Int) :: e.1.data.toList) ++ List.replicate (32 - e.1.size) 0 ++ ([byt e.2, byt (e.2 / 256), byt (e.2 / 65536), byt (e.2 / 16777216)].take k ++ List.replicate (4 - k) 0)
theorem encK_all (e : ByteArray × Int) : encK e 4 = encE e := by simp [encK, encE]
theorem encK_len {e : ByteArray × Int} (h : ky e.1 = true) {k : Nat} (hk : k ≤ 4) : (encK e k).length = 37 := by
  have hb := ky_bd h
  unfold encK
  simp
  omega
theorem encK_set {e : ByteArray × Int} (h : ky e.1 = true) {k : Nat} (hk : k < 4) (b : UInt8) (hb : [byt e.2, byt (e.2 / 256), byt (e.2 / 65536), byt (e.2 / 16777216)][k]? = some b) : (encK e k).set (33 + k) b = encK e (k + 1) := by
  have hs := ky_bd h
  unfold encK
  have hl : ((byt (e.1.size : Int) :: e.1.data.toList) ++ List.replicate (32 - e.1.size) 0).length = 33 := by simp; omega
  rw [List.set_append_right _ _ (by omega), hl, show 33 + k - 33 = k by omega]
  congr 1
  rcases k with _ | _ | _ | _ | k <;> simp at hb <;> first | (subst hb; rfl) | omega
/-- the whole block while entry i is being laid -/
def lay (N : Nat) (l : List (ByteArray × Int)) (i : Nat) (m : List UInt8) : List UInt8 := (l.take i).flatMap encE ++ m ++ List.replicate ((N - (i + 1)) * 37) 0
section
variable {N i : Nat} {l : List (ByteArray × Int)} {m : List UInt8}
theorem pre_len (hv : ∀ e ∈ l, ven e = true) (hi : i < l.length) : ((l.take i).flatMap encE).length = i * 37 := by
  rw [encL_len (fun e he => hv e (List.mem_of_mem_take he)), List.length_take, Nat.min_eq_left (by omega)]
theorem lay_set (hv : ∀ e ∈ l, ven e = true) (hi : i < l.length) (j : Nat) (hj : j < m.length) (b : UInt8) : (lay N l i m).set (i * 37 + j) b = lay N l i (m.set j b) := by
  have h1 := pre_len hv hi
  unfold lay
  rw [List.append_assoc, List.set_append_right _ _ (by omega), h1, show i * 37 + j - i * 37 = j by omega, List.set_append_left _ _ hj, ← List.append_assoc]
theorem lay_len (hv : ∀ e ∈ l, ven e = true) (hi : i < l.length) (hN : l.length ≤ N) (hm : m.length = 37) : (lay N l i m).length = N * 37 := by
  have h1 := pre_len hv hi
  unfold lay
  rw [List.length_append, List.length_append, h1, hm, List.length_replicate]
  have : N * 37 = (i + 1) * 37 + (N - (i + 1)) * 37 := by rw [← Nat.add_mul]; congr 1; omega
  omega
theorem lay_start (hi : i < l.length) (hN : l.length ≤ N) : encB N (l.take i) = lay N l i (List.replicate 37 0) := by
  unfold encB lay
  rw [List.length_take, Nat.min_eq_left (by omega), List.append_assoc]
  congr 1
  rw [List.replicate_append_replicate]
  congr 1
  have : N - i = (N - (i + 1)) + 1 := by omega
  rw [this, Nat.add_mul]
  omega
theorem lay_end (hi : i < l.length) : lay N l i (encE l[i]) = encB N (l.take (i + 1)) := by
  unfold encB lay
  rw [List.length_take, Nat.min_eq_left (by omega), List.take_succ_eq_append_getElem hi, List.flatMap_append]
  simp
theorem splice1 {α : Type} (P A B key : List α) (c : α) (p a : Nat) (hp : P.length = p) (h : A.length = a) : (P ++ (c :: (A ++ B))).take (p + 1) ++ key ++ (P ++ (c :: (A ++ B))).drop (p + 1 + a) = P ++ (c :: (key ++ B)) := by
  subst hp h
  rw [List.take_length_add_append, show P.length + 1 + A.length = P.length + (A.length + 1) by omega, List.drop_length_add_append, List.drop_succ_cons, List.drop_left, List.take_succ_cons]
  simp
theorem lay_key (hv : ∀ e ∈ l, ven e = true) (hi : i < l.length) (x : ByteArray × Int) (hk : ky x.1 = true) :
    (lay N l i ((List.replicate 37 (0 : UInt8)).set 0 (byt (x.1.size : Int)))).take (i * 37 + 1) ++ x.1.data.toList ++ (lay N l i ((List.replicate 37 (0 : UInt8)).set 0 (byt (x.1.size : Int)))).drop (i * 37 + 1 + x.1.size) = lay N l i (encK x 0) := by
  have h1 := pre_len hv hi
  have h2 := ky_bd hk
  have e1 : (List.replicate 37 (0 : UInt8)).set 0 (byt (x.1.size : Int)) = byt (x.1.size : Int) :: (List.replicate x.1.size 0 ++ (List.replicate (32 - x.1.size) 0 ++ List.replicate 4 0)) := by
    rw [List.replicate_append_replicate, List.replicate_append_replicate, show x.1.size + (32 - x.1.size + 4) = 36 by omega]
    rfl
  have e2 : lay N l i (byt (x.1.size : Int) :: (List.replicate x.1.size 0 ++ (List.replicate (32 - x.1.size) 0 ++ List.replicate 4 0))) = (l.take i).flatMap encE ++ (byt (x.1.size : Int) :: (List.replicate x.1.size 0 ++ ((List.replicate (32 - x.1.size) 0 ++ List.replicate 4 0) ++ List.replicate ((N - (i + 1)) * 37) 0))) := by
    unfold lay
    simp only [List.append_assoc, List.cons_append]
  rw [e1, e2, splice1 _ _ _ _ _ _ _ h1 (by simp)]
  unfold lay encK
  simp only [List.append_assoc, List.cons_append, List.take_zero, List.nil_append, Nat.sub_zero]
end
end Go.Proofs.Ytllnomembakboaa

namespace Go.Proofs.Ytllnomembakboaa
open Go.RowKit

theorem bz_step {N i lo k pos Z : Nat} {l : List (ByteArray × Int)} {e : ByteArray × Int} {w : World} {x : Int} (hv : ∀ e ∈ l, ven e = true) (hi : i < l.length) (hk : ky e.1 = true) (hk4 : k < 4) (b : UInt8) (hb : [byt e.2, byt (e.2 / 256), byt (e.2 / 65536), byt (e.2 / 16777216)][k]? = some b)
    (hx : x = (b.toNat : Int)) (hlo : lo = i * 37) (hp : lo + (33 + k) = pos) (h : BZ w Z (lay N l i (encK e k))) : BZ (w.setCell ⟨Z, pos, none⟩ (.int .u8 x)) Z (lay N l i (encK e (k + 1))) := by
  have h1 := h.set pos b x hx
  subst hp hlo
  rw [lay_set hv hi (33 + k) (by rw [encK_len hk (by omega)]; omega), encK_set hk hk4 b hb] at h1
  exact h1
set_option maxRecDepth 100000 in
set_option maxHeartbeats 4000000 in
theorem kencode_any (n : Int) (l : List (ByteArray × Int)) (v : Value) (w : World) (h : SV ecs 2 w.heap.size w v l) (hk : ∀ e ∈ l, e.1.size ≤ 9223372036854775807) :
    Calls Try.prog 32 #[.int .i64 n, v] w fun e w' => e = .returned (encV n l) ∧ Below w.heap.size w w' := by
  obtain ⟨A, c, rfl⟩ := h.form
  have HS := Lib.hid h
  have HK := Lib.hid hk
  clear h hk
  go_enter Try.func32, Try.ntmps32
  go_wp2_with fail
  (with_reducible refine (slotted_any n w).mono ?_)
  rintro e w2 ⟨rfl, hw2⟩
  subst hw2
  obtain ⟨sb, esb⟩ : ∃ sb, sb = (decide (1 ≤ n) && decide (n ≤ 8)) := ⟨_, rfl⟩
  rw [← esb]
  have HSB := Lib.hid esb
  clear esb
  cases sb
  · go_wp2_with fail
    refine bodyPost_ret (v := .tuple #[.string ⟨#[]⟩, .int .i64 1]) (by simp [results, Try.results32, go_sem]) rfl ?_
    exact ⟨by rw [encV_range (by have h := HSB.out.symm; simp at h; omega)], Below.refl _ _⟩
  have hs : 1 ≤ n ∧ n ≤ 8 := by have h := HSB.out.symm; simpa using h
  by_cases hl : (l.length : Int) ≤ n
  case neg =>
    have d1 : decide (n < (l.length : Int)) = true := decide_eq_true (by omega)
    have HN := Lib.hid hs
    have HL := Lib.hid hl
    go_wp2_with fail
    refine bodyPost_ret (v := .tuple #[.string ⟨#[]⟩, .int .i64 4]) (by simp [results, Try.results32, go_sem]) rfl ?_
    exact ⟨by rw [encV_limit HN.out (Int.not_le.2 HL.out)], Below.refl _ _⟩
  obtain ⟨N, rfl⟩ : ∃ N : Nat, n = N := ⟨n.toNat, by omega⟩
  have d1 : decide ((N : Int) < (l.length : Int)) = false := decide_eq_false (by omega)
  have d2 : ¬ ((N : Int) < (l.length : Int)) := by omega
  have hN : 1 ≤ N ∧ N ≤ 8 := by omega
  have hlN : l.length ≤ N := by omega
  clear hs hl
  go_wp2_with fail
  (with_reducible refine (ascends_any l _ w HS.out HK.out).mono ?_)
  rintro e w4 ⟨rfl, hb4⟩
  have HB4 := Lib.hid hb4
  have hz4 := hb4.size
  clear hb4
  cases has : ascB l
  · have HA := Lib.hid has
    go_wp2_with fail
    refine bodyPost_ret (v := .tuple #[.string ⟨#[]⟩, .int .i64 2]) (by simp [results, Try.results32, go_sem]) rfl ?_
    exact ⟨by rw [encV_form (by omega) (by omega) HA.out], HB4.out⟩
  have HA := Lib.hid has
  have hvs := (ascB_iff.1 has).1
  have HV := Lib.hid hvs
  obtain ⟨C, eC⟩ : ∃ C, C = N * 37 := ⟨_, rfl⟩
  have hC : C ≤ 296 := by omega
  have hmb := made_bytes C (by omega) w4
  rw [show (C : Int) = (N : Int) * 37 by omega] at hmb
  obtain ⟨w5, ew5⟩ : ∃ w5 : World, w5 = w4.alloc (.cells (Array.replicate C (Value.int .u8 0)) 5) := ⟨_, rfl⟩
  obtain ⟨Z, eZ⟩ : ∃ Z, Z = w4.heap.size := ⟨_, rfl⟩
  rw [← ew5, ← eZ] at hmb
  have HZ5 : Hid (BZ w5 Z (encB N (l.take 0))) := (show Hid _ from by
    have h := bz_made w4 C
    rw [← ew5, ← eZ] at h
    rw [List.take_zero, encB_nil, ← eC]
    exact h)
  have HB5 : Hid (Below w.heap.size w w5) := (show Hid _ from by rw [ew5]; exact HB4.out.alloc hz4 _)
  have hwZ : w.heap.size ≤ Z := by rw [eZ]; exact hz4
  have HEC := Lib.hid eC
  clear ew5 eZ eC has hvs d1 d2
  go_upto_region 9 with fail
  clear hmb
  go_wp2_with fail
  go_loopw [31] (fun iv wr => ∃ i : Nat, i ≤ l.length ∧ iv = .int .i64 i ∧ BZ wr Z (encB N (l.take i)) ∧ Below w.heap.size w wr) (fun iv _ => l.length - (intOf iv).toNat)
  case atStart => exact ⟨0, Nat.zero_le _, rfl, HZ5.out, HB5.out⟩
  case round =>
    obtain ⟨i, hi, rfl, hz, hb⟩ := hrel
    have HZ := Lib.hid hz
    have HB := Lib.hid hb
    have hzr := hb.size
    have hZr := hz.lt
    clear hz hb
    by_cases hit : i < l.length
    · obtain ⟨_, hat⟩ := HS.out.at
      obtain ⟨p, o, rfl, hp, d1⟩ := hat i hit
      obtain ⟨key, ek⟩ : ∃ x, x = l[i].1 := ⟨_, rfl⟩
      obtain ⟨x, ex⟩ : ∃ m, m = l[i].2 := ⟨_, rfl⟩
      have k0 : wr.cell? ⟨p, o + i * 2, none⟩ = some (.string key) := by rw [ek]; exact d1 wr HB.out 0 (by omega)
      have k1 : wr.cell? ⟨p, o + i * 2 + 1, none⟩ = some (.int .i64 x) := by rw [ex]; exact d1 wr HB.out 1 (by omega)
      have HE : Hid (l[i] = (key, x)) := (show Hid _ from by rw [ek, ex]; exact rfl)
      have hve := HV.out _ (List.getElem_mem hit)
      rw [HE.out] at hve
      have hky : ky key = true := by simp [ven] at hve; exact hve.1.1
      have hkb := ky_bd hky
      have hxb : 0 ≤ x ∧ x < 2147483647 := by simp [ven] at hve; omega
      have HKY := Lib.hid hky
      have z0 : 0 ≤ (i : Int) := by omega
      have z1 : (i : Int) < (l.length : Int) := by omega
      have wi : IntKind.i64.wrap ((i : Int) + 1) = (i : Int) + 1 := by exact IntWalk.i64_in _ (by omega)
      obtain ⟨lo, elo⟩ : ∃ lo, lo = i * 37 := ⟨_, rfl⟩
      have wlo : IntKind.i64.wrap ((i : Int) * 37) = (lo : Int) := by rw [IntWalk.i64_in _ (by omega)]; omega
      have whi : IntKind.i64.wrap (((i : Int) + 1) * 37) = ((lo + 37 : Nat) : Int) := by rw [IntWalk.i64_in _ (by omega)]; omega
      have hiN : (lo + 37 : Nat) ≤ C := by have := HEC.out; omega
      have a0 : (0 : Int) ≤ (lo : Int) := by omega
      have a1 : (lo : Int) ≤ ((lo + 37 : Nat) : Int) := by omega
      have a2 : ((lo + 37 : Nat) : Int) ≤ (C : Int) := by omega
      have a3 : ¬ (C = lo) := by omega
      have HLO := Lib.hid elo
      clear hat d1 ek ex hky hve elo
      obtain ⟨X, eX⟩ : ∃ X, X = wr.heap.size := ⟨_, rfl⟩
      obtain ⟨wx, ewx⟩ : ∃ wx : World, wx = wr.alloc (.cells #[.string key, .int .i64 x] 41) := ⟨_, rfl⟩
      have HWwx : Hid (wr.alloc (.cells #[.string key, .int .i64 x] 41) = wx) := ewx.symm
      have HAwx : Hid (Below wr.heap.size wr wx) := (show Hid _ from by rw [ewx]; exact (Below.refl _ wr).alloc (Nat.le_refl _) _)
      have HX0wx : Hid (wx.heap[X]? = some (.cells #[.string key, .int .i64 x] 41 (0, 0))) := (show Hid _ from by show _ = _; rw [ewx, eX]; exact heap_alloc_new wr _)
      have HX : Hid (∀ W, Below wx.heap.size wx W → W.cell? ⟨X, 0, none⟩ = some (.string key) ∧ W.cell? ⟨X, 1, none⟩ = some (.int .i64 x)) := (show Hid _ from fun W hg => by
        have hX0 := (hg.block X (heap_of_cells HX0wx.out)).trans HX0wx.out
        exact ⟨cell_of_row W X 0 _ _ _ hX0, cell_of_row W X 1 _ _ _ hX0⟩)
      have hXr : wr.heap.size ≤ X := by omega
      go_upto_region 12 with fail
      rw [HWwx.out, ← eX]
      clear ewx eX
      obtain ⟨x0, x1⟩ := HX.out wx (Below.refl _ _)
      clear k0 k1
      go_upto_region 13 with fail
      have HL0 := lay_start (N := N) hit hlN
      rw [HL0] at HZ
      have HZx : Hid (BZ wx Z (lay N l i (List.replicate 37 0))) := (show Hid _ from HZ.out.kept HAwx.out)
      have hln : (lay N l i (List.replicate 37 0)).length = N * 37 := lay_len HV.out hit hlN (by simp)
      have hc13 := HZx.out.cell (j := lo) (by rw [hln, ← HEC.out]; omega)
      obtain ⟨v13, c13, f13⟩ := hc13
      have wu : IntKind.u8.wrap (key.size : Int) = (key.size : Int) := by rw [IntKind.wrap_u8]; omega
      clear HL0 hln
      go_upto_region 14 with fail
      obtain ⟨wa, ewa⟩ : ∃ wa : World, wa = wx.setCell ⟨Z, lo, none⟩ (.int .u8 key.size) := ⟨_, rfl⟩
      obtain ⟨M, eM⟩ : ∃ M, M = lay N l i ((List.replicate 37 (0 : UInt8)).set 0 (byt (key.size : Int))) := ⟨_, rfl⟩
      have HZa : Hid (BZ wa Z M) := (show Hid _ from by
        have h1 := HZx.out.set lo (byt (key.size : Int)) key.size (by rw [byt_nat]; omega)
        have h2 := lay_set (N := N) HV.out hit 0 (m := List.replicate 37 0) (by simp) (byt (key.size : Int))
        rw [Nat.add_zero, ← HLO.out] at h2
        rw [h2, ← ewa, ← eM] at h1
        exact h1)
      have HML : Hid (M.length = C) := (show Hid _ from by rw [eM, HEC.out]; exact lay_len HV.out hit hlN (by simp))
      have HGa : Hid (wx.grownBy wa (some Z)) := (show Hid _ from by rw [ewa]; exact grownBy_setCell (grownBy_refl _ _) (.inl rfl) _)
      have HBa : Hid (Below w.heap.size w wa) := (show Hid _ from (HB.out.trans (HAwx.out.mono hzr)).grown HGa.out (by have := HAwx.out.size; omega) (fun k hk => by injection hk with hk; omega))
      obtain ⟨cc, ecc⟩ : ∃ cc, cc = C - lo := ⟨_, rfl⟩
      have HME := Lib.hid eM
      rw [← ewa, ← ecc, show lo + 37 - lo = 37 by omega]
      have hcc : 37 ≤ cc := by omega
      have hcc1 : ¬ (cc = 1) := by omega
      have b2 : (37 : Int) ≤ (cc : Int) := by omega
      have y0 : wa.cell? ⟨X, 0, none⟩ = some (.string key) := HGa.out.cell x0 (by simp; omega)
      have y1 : wa.cell? ⟨X, 1, none⟩ = some (.int .i64 x) := HGa.out.cell x1 (by simp; omega)
      have hXa : X < wa.heap.size := cell_lt y0
      clear ewa ecc eM x0 x1 c13 f13 wu
      go_region_held3 (fun w' => w'.cell? ⟨X, 0, none⟩ = some (.string key)) (first | exact y0 | exact q0 | go_keep)
        (first
          | (refine step_copy_str (by rfl) _ _ 63 9 (by rfl) 5 Try.underlying63 (by kernel_rfl) Z (lo + 1) 36 (cc - 1) (by rfl) key (by rfl) M (by exact HZa.out) (by omega) (by rw [HML.out]; omega) ?_; intro w5 h5 hg5; have HZ5 := Lib.hid h5; have HG5 : Hid (wa.grownBy w5 (some Z)) := (show Hid _ from ⟨hg5.os, hg5.tape, hg5.output, hg5.size, hg5.block⟩); have q0 := (HG5.out.cell_far ⟨X, 0, none⟩ hXa (by simp; omega)).trans y0; clear h5 hg5))
      have HZ6 : Hid (BZ w5 Z (lay N l i (encK (key, x) 0))) := (show Hid _ from by
        have h1 := HZ5.out
        have h2 := lay_key (N := N) HV.out hit (key, x) HKY.out
        rw [← HLO.out, ← HME.out] at h2
        rw [h2] at h1
        exact h1)
      have hXZ : ¬ (Z = X) := by omega
      clear HZ5 HZa HZx HME HML y0 q0 b2 hcc1
      go_wp2_with fail
      go_loopw [11, 56] (fun _ iv wq => ∃ k : Nat, k ≤ 4 ∧ iv = .int .i64 k ∧ BZ wq Z (lay N l i (encK (key, x) k)) ∧ wa.grownBy wq (some Z)) (fun _ iv _ => 4 - (intOf iv).toNat)
      case atStart => exact ⟨0, by omega, rfl, HZ6.out, HG5.out⟩
      case round =>
        obtain ⟨k, hk4, rfl, hzk, hgk⟩ := hrel
        have HZK := Lib.hid hzk
        have HGK := Lib.hid hgk
        clear hzk hgk
        by_cases hkt : k < 4
        · have hlen : (lay N l i (encK (key, x) k)).length = C := by rw [HEC.out]; exact lay_len HV.out hit hlN (encK_len HKY.out (by omega))
          obtain ⟨v18, c18, f18⟩ := HZK.out.cell (j := lo + (33 + k)) (by omega)
          have y1w := y1
          have y1 : wr.cell? ⟨X, 1, none⟩ = some (.int .i64 x) := HGK.out.cell y1w (by simp; omega)
          clear y1w
          obtain rfl | rfl | rfl | rfl : k = 0 ∨ k = 1 ∨ k = 2 ∨ k = 3 := by omega
          · have c18 : wr.cell? ⟨Z, lo + 33, none⟩ = some v18 := c18
            have f18 : wr.frozen? ⟨Z, lo + 33, none⟩ = false := f18
            go_wp2_with fail
            go_roundw
            case rel => exact ⟨1, by omega, rfl, bz_step (k := 0) HV.out hit HKY.out (by omega) (byt (x)) rfl (by rw [byt_nat]) HLO.out rfl HZK.out, grownBy_setCell HGK.out (.inl rfl) _⟩
            case measure => simp [intOf]
          · have c18 : wr.cell? ⟨Z, lo + 34, none⟩ = some v18 := c18
            have f18 : wr.frozen? ⟨Z, lo + 34, none⟩ = false := f18
            go_wp2_with fail
            go_roundw
            case rel => exact ⟨2, by omega, rfl, bz_step (k := 1) HV.out hit HKY.out (by omega) (byt (x / 256)) rfl (by rw [byt_nat]) HLO.out rfl HZK.out, grownBy_setCell HGK.out (.inl rfl) _⟩
            case measure => simp [intOf]
          · have c18 : wr.cell? ⟨Z, lo + 35, none⟩ = some v18 := c18
            have f18 : wr.frozen? ⟨Z, lo + 35, none⟩ = false := f18
            go_wp2_with fail
            go_roundw
            case rel => exact ⟨3, by omega, rfl, bz_step (k := 2) HV.out hit HKY.out (by omega) (byt (x / 65536)) rfl (by rw [byt_nat]) HLO.out rfl HZK.out, grownBy_setCell HGK.out (.inl rfl) _⟩
            case measure => simp [intOf]
          · have c18 : wr.cell? ⟨Z, lo + 36, none⟩ = some v18 := c18
            have f18 : wr.frozen? ⟨Z, lo + 36, none⟩ = false := f18
            go_wp2_with fail
            go_roundw
            case rel => exact ⟨4, by omega, rfl, bz_step (k := 3) HV.out hit HKY.out (by omega) (byt (x / 16777216)) rfl (by rw [byt_nat]; omega) HLO.out rfl HZK.out, grownBy_setCell HGK.out (.inl rfl) _⟩
            case measure => simp [intOf]
        · have hke : k = 4 := by omega
          subst hke
          have HZE : Hid (BZ wr Z (encB N (l.take (i + 1)))) := (show Hid _ from by
            have h := HZK.out
            rw [encK_all, ← HE.out, lay_end hit] at h
            exact h)
          have HBE : Hid (Below w.heap.size w wr) := (show Hid _ from HBa.out.grown HGK.out HBa.out.size (fun k hk => by injection hk with hk; omega))
          clear y1
          go_wp2_with fail
          go_roundw
          case rel => exact ⟨i + 1, hit, by go_num, HZE.out, HBE.out⟩
          case measure => simp [intOf]; omega
    · have hie : i = l.length := by omega
      have hfin : encB N (l.take i) = encB N l := by rw [hie, List.take_length]
      have hln : (encB N l).length = C := by rw [HEC.out]; exact encB_len HV.out hlN
      have hcv := run_string_own wr Z _ (encB N l) (by have h := HZ.out; rw [hfin] at h; exact h.own (Nat.le_refl _) (by have := HEC.out; omega)) (by have := HEC.out; omega)
      have HFIN := Lib.hid hfin
      rw [hln] at hcv
      clear hfin hln
      go_wp2_with fail
      refine bodyPost_ret (v := .tuple #[.string ⟨(encB N l).toArray⟩, .int .i64 0]) (by simp [results, Try.results32, go_sem]) rfl ?_
      exact ⟨by rw [encV_ok hN hlN HA.out], HB.out⟩
end Go.Proofs.Ytllnomembakboaa
