/- Joined: Ub. -/
import Derived.Stop.Asserts
import Derived.LaidEql
import Derived.RowKitTokens
import Derived.Laws.EntriesVeiled
import Derived.Deep.RegionHeld3
import Derived.Deep.QuietTactic
import Derived.BigQuiet
import Derived.Deep.DeepCutAuto
import Derived.Lib.Hide
import Derived.Deep.RegionWith
import Derived.Deep.RegionLaw
import Derived.BigRegion
import Derived.Sort.OwnSortedInts
import Derived.Lib.SlicesCompact
import Derived.Test.YtbgabipngdillaaZ20
import Derived.Test.YtbgabipngdillaaZ21
import Derived.Test.YtbgabipngdillaaZ24
import Derived.Test.YtbgabipngdillaaZ22
import Derived.Test.YtbgabipngdillaaZ23
import Derived.Test.YtbgabipngdillaaZ25
import Derived.Test.YtbgabipngdillaaZ02
import Derived.Test.YtbgabipngdillaaZ01
import Derived.Test.YtbgabipngdillaaZ05
import Derived.Test.YtbgabipngdillaaZ04
import Derived.Test.YtbgabipngdillaaZ03
import Derived.Test.YtbgabipngdillaaZ07
import Derived.Test.YtbgabipngdillaaZ06
import Derived.Test.YtbgabipngdillaaZ18
namespace Go.Proofs.Ytbgabipngdillaa
open Go.RowKit

theorem SL.at {w : World} {v : Value} {rows : List (List Int)} (h : SL w v rows) : ∃ A c, v = .slice A rows.length c ∧
    ∀ i (hi : i < rows.length), ∃ bh oh B d, A = some ⟨bh, oh, none⟩ ∧ ∀ W, Below w.heap.size w W → W.cell? ⟨bh, oh + i, none⟩ = some (.slice B rows[i].length d) ∧ SI W (.slice B rows[i].length d) rows[i] := by
  obtain ⟨A, c, rfl, _, _, ha⟩ := h
  refine ⟨A, c, rfl, fun i hi => ?_⟩
  obtain ⟨b, o, eA, hb, hc⟩ := ha (by omega)
  obtain ⟨B, d, h1, h2⟩ := hc i hi
  exact ⟨b, o, B, d, eA, fun W hW => ⟨(hW.cell (p := ⟨b, o + i, none⟩) hb).trans h1, h2.below hW⟩⟩
theorem SI.at {w : World} {B : Option Addr} {n d : Nat} {r : List Int} (h : SI w (.slice B n d) r) {k : Nat} (hk : k < r.length) : ∃ bb ob, B = some ⟨bb, ob, none⟩ ∧ w.cell? ⟨bb, ob + k, none⟩ = some (.int .i64 r[k]) := by
  obtain ⟨A2, c2, e2, _, _, _, ha2⟩ := h
  injection e2 with e21 e22 e23
  obtain ⟨bb, ob, e3, hbb, hcell⟩ := ha2 (by omega)
  exact ⟨bb, ob, by rw [e21]; exact e3, hcell k hk⟩
end Go.Proofs.Ytbgabipngdillaa
