/- Joined: Ke. -/
import Derived.Laws.IdiomStrings
import Derived.Laws.BytesString
import Derived.Test.YtllnomembakboaaB03
namespace Go.Proofs.Ytllnomembakboaa
open Go.RowKit

/-- A slice (nil too) below block B whose elements' cells are enc's. -/
def SV {α : Type} (enc : α → List Value) (sz : Nat) (B : Nat) (w : World) (v : Value) (l : List α) : Prop :=
  ∃ A c, v = .slice A l.length c ∧ l.length ≤ c ∧ c ≤ 9223372036854775807 ∧
    (0 < l.length → ∃ b off, A = some ⟨b, off, none⟩ ∧ b < B ∧ ∀ j (h : j < l.length) i, i < sz → w.cell? ⟨b, off + (j * sz + i), none⟩ = (enc l[j])[i]?)
section
variable {α : Type} {enc : α → List Value} {sz : Nat}
theorem SV.keep {B : Nat} {w w' : World} {v : Value} {l : List α} (h : SV enc sz B w v l) (hk : ∀ p : Addr, p.block < B → w'.cell? p = w.cell? p) : SV enc sz B w' v l := by
  obtain ⟨A, c, rfl, hc, hm, ha⟩ := h
  refine ⟨A, c, rfl, hc, hm, fun h0 => ?_⟩
  obtain ⟨b, off, rfl, hb, hcell⟩ := ha h0
  exact ⟨b, off, rfl, hb, fun j hj i hi => (hk _ hb).trans (hcell j hj i hi)⟩
theorem SV.more {B B' : Nat} {w : World} {v : Value} {l : List α} (h : SV enc sz B w v l) (hB : B ≤ B') : SV enc sz B' w v l := by
  obtain ⟨A, c, rfl, hc, hm, ha⟩ := h
  refine ⟨A, c, rfl, hc, hm, fun h0 => ?_⟩
  obtain ⟨b, off, rfl, hb, hcell⟩ := ha h0
  exact ⟨b, off, rfl, by omega, hcell⟩
theorem SV.below {B : Nat} {w w' : World} {v : Value} {l : List α} (h : SV enc sz B w v l) (hb : Below B w w') : SV enc sz B w' v l := h.keep fun _ hp => hb.cell hp
theorem SV.on {w w' : World} {v : Value} {l : List α} (h : SV enc sz w.heap.size w v l) (hb : Below w.heap.size w w') : SV enc sz w'.heap.size w' v l := (h.below hb).more hb.size
theorem SV.nil (B : Nat) (w : World) : SV enc sz B w (.slice none 0 0) [] := ⟨none, 0, rfl, Nat.le_refl _, by omega, fun h => by simp at h⟩
theorem SV.form {B : Nat} {w : World} {v : Value} {l : List α} (h : SV enc sz B w v l) : ∃ A c, v = .slice A l.length c := by obtain ⟨A, c, e, _⟩ := h; exact ⟨A, c, e⟩
/-- what holds of all worlds that keep what lies below B -/
theorem SV.at {B : Nat} {w : World} {A : Option Addr} {n c : Nat} {l : List α} (h : SV enc sz B w (.slice A n c) l) :
    n = l.length ∧ ∀ j (h : j < l.length), ∃ b off, A = some ⟨b, off, none⟩ ∧ b < B ∧ ∀ W, Below B w W → ∀ i, i < sz → W.cell? ⟨b, off + (j * sz + i), none⟩ = (enc l[j])[i]? := by
  obtain ⟨A', c', e, _, _, ha⟩ := h
  injection e with e1 e2 e3
  subst e1
  refine ⟨e2, fun j hj => ?_⟩
  obtain ⟨b, off, rfl, hb, hcell⟩ := ha (by omega)
  exact ⟨b, off, rfl, hb, fun W hW i hi => (hW.cell (p := ⟨b, off + (j * sz + i), none⟩) hb).trans (hcell j hj i hi)⟩
theorem SV.of_own {w : World} {base : Nat} {e : TypeId} {v : Value} {l : List α} (h : w.ownsRow base e sz v l.length (l.flatMap enc)) (hl : ∀ x ∈ l, (enc x).length = sz) : SV enc sz w.heap.size w v l := by
  rcases h.2 with ⟨rfl, hn⟩ | ⟨g, cap, cur, rfl, hb, hg, hnc, hcm, hcs, htake⟩
  · have : l = [] := List.eq_nil_of_length_eq_zero hn
    subst this
    exact SV.nil _ _
  · refine ⟨_, cap, rfl, hnc, by simpa [maxLen] using hcm, fun h0 => ⟨g, 0, rfl, heap_of_cells hg, fun j hj i hi => ?_⟩⟩
    have := h.cellAt (j * sz + i) (by
      have : j * sz + sz ≤ l.length * sz := by rw [← Nat.succ_mul]; exact Nat.mul_le_mul_right _ hj
      omega)
    rw [Nat.zero_add, this, flatMap_get enc sz l hl j hj i hi]
/-- append(own, x): x laid in the block that was just made -/
theorem wpList_append_el {P : Program} (enc : α → List Value) (w : World) {ops : Array Oper} {rest : List Oper} {o : Oper} {a : Act} {Q : Exit → Act → World → Prop} (hgd : o.guard = none) (s x : Operand) (t : TypeId)
    (ho : o.op = .call { callee := .builtin .append, args := #[s, x], argTypes := #[t, t] })
    (base : Nat) (e : TypeId) (z : Value) (sz bytes : Nat) (ht : P.underlying t = some (.slice e)) (hinfo : (P.info? e).map (fun i => (i.zero, i.size, i.bytes)) = some (some z, sz, bytes)) (hzs : z.cells.size = sz) (hsz : 0 < sz) (hby : bytes ≤ 64)
    (v : Value) (l : List α) (hs : a.eval s = v) (hown : w.ownsRow base e sz v l.length (l.flatMap enc))
    (y : α) (hl : (enc y).length = sz) (h1 : ∀ u ∈ enc y, u.oneCell' = true) (hx : a.eval x = .slice (some ⟨w.heap.size, 0, none⟩) 1 1)
    (hlen : l.length + 1 ≤ 1000000) (hbase : base ≤ w.heap.size)
    (h : ∀ v' w', w'.ownsRow base e sz v' (l ++ [y]).length ((l ++ [y]).flatMap enc) → (w.alloc (.cells (enc y).toArray e)).grownBy w' v.ownBlock → wpList P ops Q rest (a.put o.dst v') w') : wpList P ops Q (o :: rest) a (w.alloc (.cells (enc y).toArray e)) := by
  obtain ⟨i0, hi0, hz0, hz1, hz2⟩ := info_parts hinfo
  have hbb : (l.length + 1) * bytes ≤ 1000000 * 64 := Nat.mul_le_mul hlen hby
  refine wpList_append_own _ hgd s x t ho base e i0 z sz bytes ht hi0 hz0 hz1 hz2 hzs hsz v _ _ hs (hown.alloc _) ⟨w.heap.size, 0, none⟩ 1 1 (enc y) hx (by omega) (cells_new w (enc y) e) h1 (by unfold maxLen; omega) (by omega) (by simp; omega) fun v' w' h1 h2 _ => h v' w' (by rw [List.length_append, List.flatMap_append]; simpa using h1) h2
end
theorem binfo : (Try.prog.info? 5).map (fun i => (i.zero, i.size, i.bytes)) = some (some (.int .u8 0), 1, 1) := by kernel_rfl
theorem sinfo : (Try.prog.info? 9).map (fun i => (i.zero, i.size, i.bytes)) = some (some (.string ⟨#[]⟩), 1, 16) := by kernel_rfl
theorem einfo : (Try.prog.info? 41).map (fun i => (i.zero, i.size, i.bytes)) = some (some (.agg #[.string ⟨#[]⟩, .int .i64 0]), 2, 24) := by kernel_rfl
theorem hinfo : (Try.prog.info? 69).map (fun i => (i.zero, i.size, i.bytes)) = some (some (.agg #[.int .i64 0, .int .i64 0]), 2, 16) := by kernel_rfl
/-- one byte, one text, an entry, as cells -/
def bcs (b : UInt8) : List Value := [.int .u8 (b.toNat : Int)]
def scs (s : ByteArray) : List Value := [.string s]
def ecs (e : ByteArray × Int) : List Value := [.string e.1, .int .i64 e.2]
def hcs (p : Int × Int) : List Value := [.int .i64 p.1, .int .i64 p.2]
theorem bcs_len (b : UInt8) : (bcs b).length = 1 := rfl
theorem scs_len (s : ByteArray) : (scs s).length = 1 := rfl
theorem ecs_len (e : ByteArray × Int) : (ecs e).length = 2 := rfl
theorem hcs_len (p : Int × Int) : (hcs p).length = 2 := rfl
theorem bcs_one (b : UInt8) : ∀ u ∈ bcs b, u.oneCell' = true := by intro u hu; simp [bcs] at hu; subst hu; rfl
theorem scs_one (s : ByteArray) : ∀ u ∈ scs s, u.oneCell' = true := by intro u hu; simp [scs] at hu; subst hu; rfl
theorem ecs_one (e : ByteArray × Int) : ∀ u ∈ ecs e, u.oneCell' = true := by intro u hu; simp [ecs] at hu; rcases hu with rfl | rfl <;> rfl
theorem hcs_one (p : Int × Int) : ∀ u ∈ hcs p, u.oneCell' = true := by intro u hu; simp [hcs] at hu; rcases hu with rfl | rfl <;> rfl
theorem bcs_at (l : List UInt8) (j : Nat) (h : j < l.length) : (l.flatMap bcs)[j]? = some (.int .u8 (l[j].toNat : Int)) := by
  have := flatMap_get bcs 1 l (fun x _ => bcs_len x) j h 0 (by omega)
  simpa [bcs] using this
/-- string(b) of a row of the call's own -/
theorem run_string_own (w : World) (base : Nat) (v : Value) (l : List UInt8) (h : w.ownsRow base 5 1 v l.length (l.flatMap bcs)) (h0 : 0 < l.length) : (convert 63 9 v).run Try.prog w = .ok (.string ⟨l.toArray⟩) w := by
  obtain ⟨g, cap, rfl, hg⟩ := own_form h h0
  refine run_convert_bytes_back (P := Try.prog) w 63 9 5 ⟨g, 0, none⟩ cap l Try.underlying63 Try.underlying5 Try.underlying9 fun j hj => ?_
  rw [addr_add]
  have := h.cellAt j (by omega)
  rw [this, bcs_at l j hj]

/-- a text that the deck makes -/
def wrd (s : ByteArray) : Prop := 1 ≤ s.size ∧ s.size ≤ 4
set_option maxHeartbeats 4000000 in
theorem word_any (g : Nat) (w : World) (h : Dk w g) :
    Calls Try.prog 15 #[.pointer (some ⟨g, 0, none⟩)] w fun e w' => ∃ s, e = .returned (.string s) ∧ wrd s ∧ Dk w' g ∧ w.grownBy w' (some g) := by
  go_enter Try.func15, Try.ntmps15
  go_wp2_with fail
  (with_reducible refine (next_any 4 g w h (by unfold i64r; omega) (by omega)).mono ?_)
  rintro e w1 ⟨x, rfl, _, hx, hd1, hg1⟩
  have hx := hx (by omega)
  have hz1 := hg1.size
  have HG1 := Lib.hid hg1
  have hlg := h.lt
  clear h hg1
  go_wp2_with fail
  go_loopw [3, 4] (fun bv kv wr => ∃ (l : List UInt8) (K : Int), kv = .int .i64 K ∧ -1 ≤ K ∧ (l.length : Int) + K = x ∧ wr.ownsRow w.heap.size 5 1 bv l.length (l.flatMap bcs) ∧ Dk wr g ∧ w.grownBy wr (some g)) (fun _ kv _ => (intOf kv + 1).toNat)
  case atStart => exact ⟨[], x, rfl, by omega, by simp, World.ownsRow_nil _ _ _ _, hd1, HG1.out⟩
  case round =>
    obtain ⟨l, K, rfl, hK, hl, hown, hdk, hgr⟩ := hrel
    have HGR := Lib.hid hgr
    have HO := Lib.hid hown
    clear hgr hown
    by_cases h0 : 0 ≤ K
    · go_wp2_with fail
      (with_reducible refine (next_any 4 g wr hdk (by unfold i64r; omega) (by omega)).mono ?_)
      rintro e w2 ⟨y, rfl, _, hy, hd2, hg2⟩
      have hy := hy (by omega)
      obtain ⟨b, hb⟩ : ∃ b : UInt8, (b.toNat : Int) = 97 + y := ⟨UInt8.ofNat (97 + y).toNat, by simp; omega⟩
      have wb : IntKind.u8.wrap (97 + y) = (b.toNat : Int) := by rw [hb]; simp [IntKind.wrap, IntKind.signed, IntKind.bits]; omega
      have w0 : IntKind.i64.wrap (97 + y) = 97 + y := by exact IntWalk.i64_in _ (by omega)
      have HD2 := Lib.hid hd2
      have hnb : ∀ q, u3.ownBlock = some q → w.heap.size ≤ q := fun q hq => (HO.out.lt q hq).1
      have HO2 : Hid (w2.ownsRow w.heap.size 5 1 u3 l.length (l.flatMap bcs)) := (show Hid _ from HO.out.kept hg2 (.inr (fun e => by have := hnb g e; omega)))
      have HG2 : Hid (w.grownBy w2 (some g)) := (show Hid _ from grownBy_trans HGR.out hg2)
      have hz2 := HG2.out.size
      clear hb hd2 hg2 hdk
      go_wp2_with (at_builtin; refine wpList_append_el bcs _ rfl _ _ 63 rfl w.heap.size 5 _ 1 1 Try.underlying63 binfo rfl (by omega) (by omega) _ l (by rfl) (by exact HO2.out) b rfl (bcs_one b) (by rfl) ?c1 ?c2 ?_)
      case c1 => omega
      case c2 => exact hz2
      intro v4 w4 ho4 hg4
      have HO4 : Hid (w4.ownsRow w.heap.size 5 1 v4 (l ++ [b]).length ((l ++ [b]).flatMap bcs)) := (show Hid _ from by show World.ownsRow _ _ _ _ _ _ _; simpa using ho4)
      have HD4 : Hid (Dk w4 g) := (show Hid _ from (HD2.out.alloc _).grown hg4 (fun q hq => by have := hnb q hq; omega))
      have HG4 : Hid (w.grownBy w4 (some g)) := (show Hid _ from grownBy_own (grownBy_alloc' HG2.out _) hg4 hnb)
      clear ho4 hg4 hnb
      go_wp2_with fail
      go_roundw
      case rel => exact ⟨l ++ [b], K - 1, by go_num, by omega, by simp; omega, HO4.out, HD4.out, HG4.out⟩
      case measure => simp [intOf]; omega
    · have hrun := run_string_own wr w.heap.size u3 l HO.out (by omega)
      go_wp2_with fail
      refine bodyPost_ret (v := .string ⟨l.toArray⟩) (by simp [results, Try.results15, go_sem]) rfl ?_
      exact ⟨_, rfl, ⟨by show 1 ≤ l.toArray.size; simp; omega, by show l.toArray.size ≤ 4; simp; omega⟩, hdk, HGR.out⟩
end Go.Proofs.Ytllnomembakboaa
