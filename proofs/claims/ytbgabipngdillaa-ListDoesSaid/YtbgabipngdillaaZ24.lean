/- Joined: Dp Gh. -/
import Derived.Stop.Asserts
import Derived.LaidEql
import Derived.RowKitTokens
import Derived.Laws.EntriesVeiled
import Derived.Deep.RegionHeld3
import Derived.Deep.QuietTactic
import Derived.BigQuiet
import Derived.Deep.DeepCutAuto
import Derived.Lib.Hide
import Derived.Deep.RegionWith
import Derived.Deep.RegionLaw
import Derived.BigRegion
import Derived.Sort.OwnSortedInts
import Derived.Lib.SlicesCompact
import Derived.Test.YtbgabipngdillaaZ21
import Derived.Test.YtbgabipngdillaaZ20
import Derived.Test.YtbgabipngdillaaZ22
import Derived.Test.YtbgabipngdillaaZ23
import Derived.Test.YtbgabipngdillaaZ02
import Derived.Test.YtbgabipngdillaaZ01
import Derived.Test.YtbgabipngdillaaZ05
import Derived.Test.YtbgabipngdillaaZ04
import Derived.Test.YtbgabipngdillaaZ03
import Derived.Test.YtbgabipngdillaaZ07
import Derived.Test.YtbgabipngdillaaZ06
import Derived.Test.YtbgabipngdillaaZ18
namespace Go.Proofs.Ytbgabipngdillaa
open Go.RowKit

theorem ez_trim (x : Int) : ∀ l : List Int, ez (trim l) x = ez l x
  | [] => rfl
  | c :: l => by
    rw [trim_cons]
    have ih := ez_trim x l
    by_cases h : c = 0 ∧ trim l = []
    · rw [if_pos h, ez_cons, ← ih, h.2, h.1, ez_nil]; simp
    · rw [if_neg h, ez_cons, ez_cons, ih]
end Go.Proofs.Ytbgabipngdillaa

namespace Go.Proofs.Ytbgabipngdillaa
open Go.RowKit

theorem ez_snoc (l : List Int) (y x : Int) : ez (l ++ [y]) x = ez l x + x ^ l.length * y := by rw [ez_app]; simp [ez]
end Go.Proofs.Ytbgabipngdillaa
