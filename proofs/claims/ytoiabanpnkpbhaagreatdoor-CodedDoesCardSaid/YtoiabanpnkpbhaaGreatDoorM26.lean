/- Parts. -/
import Derived.Sort.OwnSortedInts
import Derived.Test.YtoiabanpnkpbhaaGreatDoorM24
import Derived.Test.YtoiabanpnkpbhaaGreatDoorM25
import Derived.Test.YtoiabanpnkpbhaaGreatDoorM06
set_option linter.unusedVariables false
set_option linter.unusedSimpArgs false
namespace Go.Proofs.YtoiabanpnkpbhaaGreatDoor
open Go.RowKit Go.Sort
theorem zBs{base:Nat}{e:TypeId}(zs:List Int)(v:Value)(w:World)(hz:zs.length≤1000000)(hown:w.ownsRow base e 1 v zs.length (zs.map (Value.int .i64))):
  Calls Tryz.prog 86 #[v] w fun en w'=>en= .returned (.tuple #[])∧w'.ownsRow base e 1 v zs.length ((zs.mergeSort fun x y=>decide (x≤y)).map (Value.int .i64))∧w.grownBy w' v.ownBlock:=by
 rcases hown.2 with⟨rfl,hn⟩|⟨g,aB,cur,rfl,hb,hg,aF,aC,aD,aA⟩
 ·have:zs=[]:=List.eq_nil_of_length_eq_zero hn;subst this;refine (Tryz.slices_Sort_int_none none 0 w).mono ?_;rintro en w' ⟨rfl,rfl⟩;exact⟨rfl,by simpa using World.ownsRow_nil _ _ _ _,Ai _ _⟩
 ·have aE:g<w.heap.size:=Ae hg;refine (Tryz.slices_Sort_int g 0 aB zs w (holds_of_blockI hg (by simpa using aA)) aE (by omega)).mono ?_;rintro en w' ⟨rfl,n,os,rfl⟩;refine⟨rfl,?_,grownBy_sortedI _⟩;exact ownsRow_sortedI (ss:=zs) (List.length_mergeSort _) hb hg aF aC aD
theorem Px{base:Nat}{e:TypeId}(zs:List Int)(v:Value)(w:World)(hz:zs.length≤1000000)(hr:∀x∈zs,At x)(hown:w.ownsRow base e 1 v zs.length (zs.map (Value.int .i64))):
  Calls Tryz.prog 87 #[v] w fun en w'=>∃v',en= .returned v'∧SI w' v' (Lib.compact zs)∧w.grownBy w' v.ownBlock:=by
 rcases hown.2 with⟨rfl,hn⟩|⟨g,aD,cur,rfl,hb,hg,aF,aE,aH,aA⟩
 ·have:zs=[]:=List.eq_nil_of_length_eq_zero hn;subst this;refine (Tryz.slices_Compact_int_empty none 0 w).mono ?_;rintro en w' ⟨rfl,rfl⟩;refine⟨_,rfl,?_,Ai _ _⟩;have:Lib.compact ([]:List Int)=[]:=rfl;rw[this];exact⟨none,0,rfl,Zl _,by omega,by simp,fun h=>by simp at h⟩
 ·have aI:g<w.heap.size:=Ae hg;have hcl:(Lib.compact zs).length≤zs.length:=by
   show (Lib.compactUpTo zs.toArray zs.length).length≤_;unfold Lib.compactUpTo;rw[List.length_map];exact Nat.le_trans (List.length_filter_le _ _) (by simp)
  have aC:∀x∈Lib.compact zs,x∈zs:=by
   intro x hx;have aG:x∈Lib.compactUpTo zs.toArray zs.length:=hx;unfold Lib.compactUpTo at aG;obtain⟨j,hj,rfl⟩:=List.mem_map.1 aG;have aJ:=List.mem_range.1 (List.mem_filter.1 hj).1;simp[aJ]
  refine (Tryz.slices_Compact_int g 0 aD zs w (holds_of_blockI hg (by simpa using aA)) (by omega) aF).mono ?_;rintro en w' ⟨rfl,q,rfl⟩;have hw:putRow (Value.int .i64) (Go.Sort.ahead w q) g 0 (Lib.compact zs++List.replicate (zs.length- (Lib.compact zs).length) 0).toArray=grow (putRow (Value.int .i64) (Go.Sort.ahead w q) g 0 (Lib.compact zs++List.replicate (zs.length- (Lib.compact zs).length) 0).toArray) #[]:=(grow_empty _).symm;have aB:(Lib.compact zs++List.replicate (zs.length- (Lib.compact zs).length) (0:Int)).length=zs.length:=by simp;omega
  have ho:=ownsRow_sortedI (n:=q) (os:= #[]) (ss:=zs) (ts:=Lib.compact zs++List.replicate (zs.length- (Lib.compact zs).length) 0) aB hb hg aF aE aH;rw[←hw] at ho;refine⟨_,rfl,⟨_,aD,rfl,by omega,by unfold maxLen at aE;omega,fun x hx=>hr x (aC x hx),fun h0=>⟨g,0,rfl,by simpa using aI,fun j hj=> ?_⟩⟩,?_⟩
  ·have h1:=ho.cellAt j (by omega);rw[Nat.zero_add,h1];rw[List.map_append,List.getElem?_append_left (by simpa using hj)];simp[hj]
  ·rw[hw];exact grownBy_sortedI _
end Go.Proofs.YtoiabanpnkpbhaaGreatDoor
