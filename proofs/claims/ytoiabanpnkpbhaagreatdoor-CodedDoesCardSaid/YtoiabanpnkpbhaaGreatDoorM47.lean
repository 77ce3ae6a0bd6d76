/- Parts. -/
import Derived.Deep.Slices
import Derived.Test.YtoiabanpnkpbhaaGreatDoorM36
import Derived.Test.YtoiabanpnkpbhaaGreatDoorM46
set_option linter.unusedVariables false
set_option linter.unusedSimpArgs false
namespace Go.Proofs.YtoiabanpnkpbhaaGreatDoor
open Go.RowKit Go.ChangeShapes Go.Deep
theorem Od{w:World}{a:Addr}{v:Value}(h:w.cell? (a.add 0)=some v):∃b off,a=⟨b,off,none⟩:=by
 obtain⟨b,o,s⟩:=a;have hs:s=none:=by simpa [Addr.add] using World.cell?_spot h
 subst hs;exact⟨b,o,rfl⟩
variable {H:Type} {enc:TypeId×Value→H} {w:World}
theorem trod_si{fuel:Nat}{v:Value}{x:DataW H×List MemPlace}(h:DataW.trod enc Tryz.prog w 0 (fun _=>true) true fuel 22 [v]=some x):
  ∃A n c l,v= .slice A n c∧l.length=n∧SI w v l:=by
 rcases open_ints Tryz.underlying22 Tryz.underlying3 (by kernel_rfl) h with⟨aB,_⟩|⟨a,len,aC,zs,aB,_,hl,hm,hz,_,aA,aD⟩
 ·simp at aB;subst aB;exact⟨none,0,0,[],rfl,rfl,none,0,rfl,Zl _,by omega,by simp,fun h=>by simp at h⟩
 ·simp at aB;subst aB;exact⟨some a,len,aC,zs.take len,rfl,by rw[List.length_take];simp at hz;omega,SI_row (.inr ⟨a,rfl,hl,hm,by simpa using hz,aA,aD⟩)⟩
theorem trod_sl{fuel:Nat}{v:Value}{x:DataW H×List MemPlace}(h:DataW.trod enc Tryz.prog w 0 (fun _=>true) true fuel 33 [v]=some x):
  ∃A n c ls,v= .slice A n c∧ls.length=n∧SL w v ls:=by
 rcases open_slice1 Tryz.underlying33 (by kernel_rfl) h with⟨aA,_⟩|⟨a,len,aB,m,n,V,D,Pl,aA,_,hl,hm,aC,_,hx⟩
 ·simp at aA;subst aA;exact⟨none,0,0,[],rfl,rfl,none,0,rfl,Zl _,by omega,fun h=>by simp at h⟩
 ·simp at aA;subst aA;simp only[if_true] at aC;rw[aC] at hx;have aD:∀i,i<len→∃l:List Int,∃A c,V i= .slice A l.length c∧SI w (V i) l:=fun i hi=>by
   obtain⟨A,n',c,l,e,aF,hs⟩:=trod_si (hx i (by omega)).2;exact⟨l,A,c,by rw[e,aF],hs⟩
  obtain⟨L,hL⟩:∃L:Nat→List Int,∀i,i<len→∃A c,V i= .slice A (L i).length c∧SI w (V i) (L i):=by
   refine⟨fun i=>if h:i<len then Classical.choose (aD i h) else [],fun i hi=> ?_⟩
   simp only[dif_pos hi];exact Classical.choose_spec (aD i hi)
  refine⟨some a,len,aB,(List.range len).map L,rfl,by simp,some a,aB,by simp,by simpa using hl,by simpa [maxLen] using hm,fun h0=> ?_⟩
  have h0':0<len:=by simpa using h0
  obtain⟨b,aG,rfl⟩:=Od (hx 0 (by omega)).1;refine⟨b,aG,rfl,World.block_lt_of_cell? w _ (hx 0 (by omega)).1,fun j hj=> ?_⟩
  have aE:j<len:=by simpa using hj
  obtain⟨A,c,e,hs⟩:=hL j aE;have hc:=(hx j (by omega)).1;rw[Go.WideShapes.add_plain,e] at hc;rw[e] at hs;exact⟨A,c,by simpa using hc,by simpa using hs⟩
end Go.Proofs.YtoiabanpnkpbhaaGreatDoor
