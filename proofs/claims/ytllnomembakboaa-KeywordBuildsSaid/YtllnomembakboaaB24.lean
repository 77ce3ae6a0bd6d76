/- Joined: Ra. -/
import Derived.Laws.Strings2
import Derived.Test.YtllnomembakboaaB23
namespace Go.Proofs.Ytllnomembakboaa
open Go.RowKit

theorem ext_get (s : ByteArray) (lo hh j : Nat) (h : j < (s.extract lo hh).size) : (s.extract lo hh)[j] = s.data.toList.getD (lo + j) 0 := by
  have h2 : (s.extract lo hh).size = min hh s.size - lo := ByteArray.size_extract
  have h3 : lo + j < s.size := by omega
  rw [List.getD_eq_getElem?_getD, List.getElem?_eq_getElem (by rw [tl_len]; exact h3)]
  show (s.extract lo hh).data[j] = s.data[lo + j]
  simp only [ByteArray.data_extract, Array.getElem_extract]
theorem ext_key (s : ByteArray) (i m : Nat) (hm : m ≤ 36) (hs : i * 37 + 37 ≤ s.size) (hn : nAt s.data.toList i = m) : (s.extract (i * 37) (i * 37 + 37)).extract 1 (1 + m) = kAt s.data.toList i := by
  have e : s = ByteArray.mk s.data.toList.toArray := by simp
  unfold kAt
  rw [hn]
  generalize s.data.toList = b at e
  subst e
  rw [ByteArray.extract_mk, ByteArray.extract_mk]
  congr 2
  apply List.ext_getElem?
  intro j
  simp only [List.getElem?_take, List.getElem?_drop]
  by_cases hj : j < m
  · rw [if_pos (by omega), if_pos (by omega), if_pos hj]
    congr 1
    omega
  · rw [if_neg (by omega), if_neg hj]
theorem bAt_bd (b : List UInt8) (j : Nat) : 0 ≤ bAt b j ∧ bAt b j < 256 := byte_bd _
theorem kAt_size (b : List UInt8) (i : Nat) : (kAt b i).size ≤ 255 := by
  unfold kAt
  rw [ba_size, List.length_take]
  have : nAt b i < 256 := by unfold nAt; exact UInt8.toNat_lt _
  omega
theorem or_low (a b : Nat) (hb : b < 256) (ha : a < 2147483648) : bits .or .i64 ((a : Int) * 256) (b : Int) = (a : Int) * 256 + b := by
  show IntKind.i64.wrap ((BitVec.ofInt 64 ((a : Int) * 256) ||| BitVec.ofInt 64 (b : Int)).toNat : Int) = _
  rw [show (a : Int) * 256 = ((256 * a : Nat) : Int) by omega, BitVec.toNat_or]
  have h1 : (BitVec.ofInt 64 ((256 * a : Nat) : Int)).toNat = 256 * a := by
    rw [BitVec.ofInt_natCast, BitVec.toNat_ofNat]; omega
  have h2 : (BitVec.ofInt 64 (b : Int)).toNat = b := by
    rw [BitVec.ofInt_natCast, BitVec.toNat_ofNat]; omega
  rw [h1, h2, show 256 * a = 2 ^ 8 * a by omega, ← Nat.two_pow_add_eq_or_of_lt hb, IntWalk.i64_in _ (by omega)]
  omega
theorem or_hi (a b k : Nat) (hb : b < 2 ^ k) (ha : a < 256) (hk : k ≤ 24) : bits .or .i64 (b : Int) ((a : Int) * (2 ^ k : Nat)) = (b : Int) + (a : Int) * (2 ^ k : Nat) := by
  show IntKind.i64.wrap ((BitVec.ofInt 64 (b : Int) ||| BitVec.ofInt 64 ((a : Int) * (2 ^ k : Nat))).toNat : Int) = _
  have hp : 2 ^ k ≤ 2 ^ 24 := Nat.pow_le_pow_right (by omega) hk
  have hm : a * 2 ^ k ≤ 255 * 2 ^ 24 := Nat.mul_le_mul (by omega) hp
  rw [show (a : Int) * (2 ^ k : Nat) = ((2 ^ k * a : Nat) : Int) by rw [Nat.mul_comm]; push_cast; rfl, BitVec.toNat_or]
  have h0 : 2 ^ k * a = a * 2 ^ k := Nat.mul_comm _ _
  have h1 : (BitVec.ofInt 64 ((2 ^ k * a : Nat) : Int)).toNat = 2 ^ k * a := by
    rw [BitVec.ofInt_natCast, BitVec.toNat_ofNat, h0]; omega
  have h2 : (BitVec.ofInt 64 (b : Int)).toNat = b := by
    rw [BitVec.ofInt_natCast, BitVec.toNat_ofNat]; omega
  rw [h1, h2, Nat.or_comm, ← Nat.two_pow_add_eq_or_of_lt hb, IntWalk.i64_in _ (by omega)]
  omega
/-- what Decode answers -/
def DcV (n : Int) (s : ByteArray) (w : World) (e : Ending) (w' : World) : Prop :=
  Below w.heap.size w w' ∧ ((¬ (1 ≤ n ∧ n ≤ 8) ∧ e = .returned (.tuple #[.slice none 0 0, .int .i64 1])) ∨
    ((1 ≤ n ∧ n ≤ 8) ∧ (¬ ∃ l, IsB n.toNat s.data.toList l) ∧ e = .returned (.tuple #[.slice none 0 0, .int .i64 2])) ∨
    ((1 ≤ n ∧ n ≤ 8) ∧ ∃ l v, IsB n.toNat s.data.toList l ∧ e = .returned (.tuple #[v, .int .i64 0]) ∧ w'.ownsRow w.heap.size 41 2 v l.length (l.flatMap ecs)))
theorem isB_len {n : Nat} {s : ByteArray} {l : List (ByteArray × Int)} (h : IsB n s.data.toList l) : s.size = n * 37 := by
  rw [← tl_len, ← h.2.2, encB_len (ascB_iff.1 h.1).1 h.2.1]
theorem encC_cases (N : Nat) (hN : 1 ≤ N ∧ N ≤ 8) (l : List (ByteArray × Int)) : (encC N l = 0 ∧ ascB l = true ∧ l.length ≤ N) ∨ (encC N l = 2 ∨ encC N l = 4) ∧ ¬ (ascB l = true ∧ l.length ≤ N) := by
  unfold encC
  rw [if_pos (by omega)]
  by_cases h1 : (l.length : Int) ≤ N
  · rw [if_pos h1]
    by_cases h2 : ascB l = true
    · rw [if_pos h2]; exact .inl ⟨rfl, h2, by omega⟩
    · rw [if_neg h2]; exact .inr ⟨.inl rfl, fun h => h2 h.1⟩
  · rw [if_neg h1]
    exact .inr ⟨.inr rfl, fun h => h1 (by omega)⟩
end Go.Proofs.Ytllnomembakboaa
