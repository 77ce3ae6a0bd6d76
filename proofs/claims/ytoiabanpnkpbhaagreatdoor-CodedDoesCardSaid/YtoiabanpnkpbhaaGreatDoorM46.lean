/- Parts. -/
import Derived.OpenShut
import Derived.Test.YtoiabanpnkpbhaaGreatDoorM01
set_option linter.unusedVariables false
set_option linter.unusedSimpArgs false
namespace Go.Proofs.YtoiabanpnkpbhaaGreatDoor
open Go.RowKit
theorem i64r_wf{x:Int}(h:(Lit.int .i64 x).wf=true):At x:=by
 unfold At;simp[Lit.wf,IntKind.min,IntKind.max,IntKind.signed,IntKind.bits] at h;omega
theorem SI_row{w:World}{a:Option Addr}{len cap:Nat}{zs:List Int}
  (h:(a=none∧len=0∧cap=0∧zs=[])∨∃x,a=some x∧len≤cap∧cap≤maxLen∧zs.length=cap∧(∀i,i<zs.length→w.cell? (x.add i)=some (.int .i64 (zs.getD i 0)))∧∀n∈zs,(Lit.int .i64 n).wf=true):
  SI w (.slice a len cap) (zs.take len):=by
 rcases h with⟨rfl,rfl,rfl,rfl⟩|⟨x,rfl,hl,hm,hz,hc,hw⟩
 ·exact⟨none,0,rfl,Zl _,by omega,by simp,fun h=>by simp at h⟩
 ·have aB:(zs.take len).length=len:=by rw[List.length_take];omega
  refine⟨some x,cap,by rw[aB],by omega,by simpa [maxLen] using hm,fun y hy=>i64r_wf (hw y (List.mem_of_mem_take hy)),fun h0=> ?_⟩
  obtain⟨b,aC,rfl,aA⟩:=ints_at hc (by omega);refine⟨b,aC,rfl,World.block_lt_of_cell? w _ (aA 0 (by omega)),fun j hj=> ?_⟩
  rw[aA j (by omega),List.getElem_take];simp[List.getD,show j<zs.length by omega]
end Go.Proofs.YtoiabanpnkpbhaaGreatDoor
