/- Joined: Fx. -/
import Derived.Stop.Asserts
import Derived.LaidEql
import Derived.RowKitTokens
import Derived.Laws.EntriesVeiled
import Derived.Deep.RegionHeld3
import Derived.Deep.QuietTactic
import Derived.BigQuiet
import Derived.Deep.DeepCutAuto
import Derived.Lib.Hide
import Derived.Deep.RegionWith
import Derived.Deep.RegionLaw
import Derived.BigRegion
import Derived.Sort.OwnSortedInts
import Derived.Lib.SlicesCompact
import Derived.Deep.AppendSrc
import Derived.Deep.Upon
import Derived.Test.YtbgabipngdillaaZ25
import Derived.Test.YtbgabipngdillaaZ21
import Derived.Test.YtbgabipngdillaaZ20
import Derived.Test.YtbgabipngdillaaZ23
import Derived.Test.YtbgabipngdillaaZ24
import Derived.Test.YtbgabipngdillaaZ22
import Derived.Test.YtbgabipngdillaaZ02
import Derived.Test.YtbgabipngdillaaZ01
import Derived.Test.YtbgabipngdillaaZ05
import Derived.Test.YtbgabipngdillaaZ04
import Derived.Test.YtbgabipngdillaaZ03
import Derived.Test.YtbgabipngdillaaZ07
import Derived.Test.YtbgabipngdillaaZ06
import Derived.Test.YtbgabipngdillaaZ18
namespace Go.Proofs.Ytbgabipngdillaa
open Go.RowKit

/-- the headers of rows outside a block, for all worlds behind -/
theorem SLE.view {g : Nat} {w : World} {v : Value} {rows : List (List Int)} (h : SLE g w v rows) (h0 : 0 < rows.length) : ∃ (ba oa c : Nat) (H : Nat → Value), v = .slice (some ⟨ba, oa, none⟩) rows.length c ∧ ba < w.heap.size ∧
    ∀ W, w.grownBy W (some g) → ∀ j (hj : j < rows.length), W.cell? ⟨ba, oa + j, none⟩ = some (H j) ∧ SE g W (H j) rows[j] ∧ ∃ B d, H j = .slice B rows[j].length d := by
  obtain ⟨A, c, rfl, hc, hm, ha⟩ := h
  obtain ⟨b, off, rfl, hb, hbg, hcell⟩ := ha h0
  refine ⟨b, off, c, fun j => (w.cell? ⟨b, off + j, none⟩).getD undef, rfl, hb, fun W hg j hj => ?_⟩
  obtain ⟨B, d, h1, h2⟩ := hcell j hj
  have e : (w.cell? ⟨b, off + j, none⟩).getD undef = .slice B rows[j].length d := by rw [h1]; rfl
  refine ⟨?_, ?_, B, d, e⟩
  · show _ = some ((w.cell? ⟨b, off + j, none⟩).getD undef)
    rw [e]; exact (World.cell?_of_block (hg.block b hb (by simp; exact hbg))).trans h1
  · show SE g W ((w.cell? ⟨b, off + j, none⟩).getD undef) _
    rw [e]; exact h2.grown hg
end Go.Proofs.Ytbgabipngdillaa
