/- Joined: Md. -/
import Derived.Stop.Asserts
import Derived.LaidEql
import Derived.RowKitTokens
import Derived.Laws.EntriesVeiled
import Derived.Deep.RegionHeld3
import Derived.Deep.QuietTactic
import Derived.BigQuiet
import Derived.Deep.DeepCutAuto
import Derived.Lib.Hide
import Derived.Deep.RegionWith
import Derived.Deep.RegionLaw
import Derived.BigRegion
import Derived.Sort.OwnSortedInts
import Derived.Lib.SlicesCompact
import Derived.Deep.AppendSrc
import Derived.Deep.Upon
import Derived.Test.YtbgabipngdillaaZ34
import Derived.Test.YtbgabipngdillaaZ25
import Derived.Test.YtbgabipngdillaaZ21
import Derived.Test.YtbgabipngdillaaZ20
import Derived.Test.YtbgabipngdillaaZ23
import Derived.Test.YtbgabipngdillaaZ24
import Derived.Test.YtbgabipngdillaaZ22
import Derived.Test.YtbgabipngdillaaZ02
import Derived.Test.YtbgabipngdillaaZ01
import Derived.Test.YtbgabipngdillaaZ05
import Derived.Test.YtbgabipngdillaaZ04
import Derived.Test.YtbgabipngdillaaZ03
import Derived.Test.YtbgabipngdillaaZ07
import Derived.Test.YtbgabipngdillaaZ06
import Derived.Test.YtbgabipngdillaaZ18
namespace Go.Proofs.Ytbgabipngdillaa
open Go.RowKit

theorem madeBools (n : Nat) : madeCells (Value.bool false).cells n = ((List.range n).map fun (j : Nat) => Value.bool (decide (j ∈ ([] : List Nat)))).toArray := by
  apply Array.toList_inj.1
  show (madeCells #[Value.bool false] n).toList = _
  rw [toList_madeCells_one]
  refine List.ext_getElem (by simp) fun j h1 h2 => by simp
/-- make([]bool, n) -/
theorem wpList_make_bools {P : Program} (w : World) {ops : Array Oper} {rest : List Oper} {o : Oper} {a : Act} {Q : Exit → Act → World → Prop}
    (hg : o.guard = none) (l c : Operand) (t : TypeId) (hop : o.op = Op.makeSlice t l c) (e : TypeId) (ht : P.underlying t = some (.slice e)) (hinfo : (P.info? e).map (fun i => (i.zero, i.size, i.bytes)) = some (some (.bool false), 1, 1))
    (L : Int) (n : Nat) (hl : a.eval l = .int .i64 L) (hc : a.eval c = .int .i64 L) (hL : L = (n : Int)) (hn : n ≤ 10000000)
    (hK : wpList P ops Q rest (a.put o.dst (.slice (some ⟨w.heap.size, 0, none⟩) n n)) (w.alloc (.cells ((List.range n).map fun (j : Nat) => Value.bool (decide (j ∈ ([] : List Nat)))).toArray e))) :
    wpList P ops Q (o :: rest) a w := by
  obtain ⟨i0, hi0, hz0, hz1, hz2⟩ := info_parts hinfo
  subst hL
  have hrun := run_makeSlice (P := P) w t e i0 _ ht hi0 hz0 .i64 .i64 n n (by omega) (Int.le_refl _) (by rw [hz1]; simp; omega) (by rw [hz2]; omega) (by omega)
  simp only [Int.toNat_natCast] at hrun
  rw [hz1, Nat.mul_one, madeBools n] at hrun
  refine wpList_plain hg fun K hK' => ?_
  unfold Oper.wp
  simp only [execOp, hop, hl, hc, hrun, Result.andThen, Sem.run_bind, Sem.run_pure]
  first
    | exact hK' _ _ hK
    | (simp [hrun, Result.andThen]; exact hK' _ _ hK)
end Go.Proofs.Ytbgabipngdillaa
