/- Joined: Uc Ud. -/
import Derived.Test.YtoiabanpnkpbhaaGreatDoorY39
import Derived.Test.YtoiabanpnkpbhaaGreatDoorY29
import Derived.Test.YtoiabanpnkpbhaaGreatDoorY22
import Derived.Test.YtoiabanpnkpbhaaGreatDoorY21
import Derived.Test.YtoiabanpnkpbhaaGreatDoorY23
import Derived.Test.YtoiabanpnkpbhaaGreatDoorY24
namespace Go.Proofs.YtoiabanpnkpbhaaGreatDoor
open Go.RowKit

end Go.Proofs.YtoiabanpnkpbhaaGreatDoor

namespace Go.Proofs.YtoiabanpnkpbhaaGreatDoor
open Go.RowKit

theorem SE.swap {g z : Nat} {w w' : World} {v : Value} {l : List Int} (h : SE g w v l) (h2 : SE z w' v l) : SE g w' v l := by
  obtain ⟨A, c, rfl, hc, hm, hr, ha⟩ := h
  obtain ⟨A2, c2, e, _, _, _, ha2⟩ := h2
  injection e with e1 _ _
  subst e1
  refine ⟨A, c, rfl, hc, hm, hr, fun h0 => ?_⟩
  obtain ⟨b, off, e, _, hbg, _⟩ := ha h0
  obtain ⟨b2, off2, e2, hb2, _, hcell⟩ := ha2 h0
  rw [e] at e2
  injection e2 with e3
  injection e3 with e4 e5 _
  subst e4 e5
  exact ⟨b, off, e, hb2, hbg, hcell⟩
theorem SLE.swap {g z : Nat} {w w' : World} {v : Value} {rows : List (List Int)} (h : SLE g w v rows) (h2 : SLE z w' v rows) (hc : ∀ b off, z ≠ b → b < w.heap.size → w'.cell? ⟨b, off, none⟩ = w.cell? ⟨b, off, none⟩) : SLE g w' v rows := by
  obtain ⟨A, c, rfl, hcl, hm, ha⟩ := h
  obtain ⟨A2, c2, e, _, _, ha2⟩ := h2
  injection e with e1 _ _
  subst e1
  refine ⟨A, c, rfl, hcl, hm, fun h0 => ?_⟩
  obtain ⟨b, off, e, hb, hbg, hcell⟩ := ha h0
  obtain ⟨b2, off2, e2, hb2, hbz, hcell2⟩ := ha2 h0
  rw [e] at e2
  injection e2 with e3
  injection e3 with e4 e5 _
  subst e4 e5
  refine ⟨b, off, e, hb2, hbg, fun j hj => ?_⟩
  obtain ⟨B, d, h3, h4⟩ := hcell j hj
  obtain ⟨B2, d2, h5, h6⟩ := hcell2 j hj
  rw [hc b _ (fun e => hbz e.symm) hb, h3] at h5
  injection h5 with h7
  injection h7 with h8 _ h9
  subst h8 h9
  exact ⟨B, d, by rw [hc b _ (fun e => hbz e.symm) hb]; exact h3, h4.swap h6⟩
end Go.Proofs.YtoiabanpnkpbhaaGreatDoor
