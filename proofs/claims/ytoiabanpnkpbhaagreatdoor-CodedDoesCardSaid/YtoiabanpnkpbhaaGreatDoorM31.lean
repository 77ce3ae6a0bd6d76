/- Parts. -/
import Derived.Test.YtoiabanpnkpbhaaGreatDoorM27
import Derived.Test.YtoiabanpnkpbhaaGreatDoorM30
set_option linter.unusedVariables false
set_option linter.unusedSimpArgs false
namespace Go.Proofs.YtoiabanpnkpbhaaGreatDoor
open Go.RowKit
theorem lit1(W:World)(x:Int)(hx:At x):SI (W.alloc (.cells #[.int .i64 x] 3)) (.slice (some ⟨W.heap.size,0,none⟩) 1 1) [x]:=by
 have h:=Va (base:=0) W 3 [.int .i64 x] (Nat.zero_le _) (by simp[maxLen]);exact SI.of_own (l:=[x]) (by simpa using h) (by simpa using hx)
theorem zAf{x:Int}(h: -9≤x∧x≤9):At x:=by unfold At;omega
end Go.Proofs.YtoiabanpnkpbhaaGreatDoor
