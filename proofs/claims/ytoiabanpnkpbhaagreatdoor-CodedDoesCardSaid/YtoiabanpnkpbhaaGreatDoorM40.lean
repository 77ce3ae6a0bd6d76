/- Parts. -/
import Derived.Test.YtoiabanpnkpbhaaGreatDoorRows
import Derived.ProofKit
import Derived.LaidMore
import Derived.LaidLaws
import Derived.OpenShut
import Derived.ChangeSame
import Derived.ChangeMade
import Derived.Stop.Joined
import Derived.Test.YtoiabanpnkpbhaaGreatDoorM22
set_option linter.unusedVariables false
set_option linter.unusedSimpArgs false
set_option maxRecDepth 100000
namespace Go.Proofs.YtoiabanpnkpbhaaGreatDoor
open Go.ChangeShapes Go.WideShapes Go.RowKit
def laidE:List (String×DataW Unit):=[("privatefetch/unique.errWrong",Rows.laid_privatefetch_unique_errWrong)]
theorem gErr:Tryz.prog.globalNamed "privatefetch/unique.errWrong" =some 0:=by kernel_rfl
theorem tErr:(Tryz.prog.globals[0]?).map (·.type)=some 153:=by kernel_rfl
theorem uErr:∃ms,Tryz.prog.underlying 153=some (.interface ms):=⟨_,Tryz.underlying153⟩
theorem uFail:∃f,Tryz.prog.underlying 190=some (.struct #[f])∧f.type=36∧f.offset=0:=⟨_,Tryz.underlying190,rfl,rfl⟩
theorem zEg:((List.range Tryz.prog.types.size).filter fun t=>Tryz.prog.typeName? 3 t==some "privatefetch/unique.failure")=[190]:=by kernel_rfl
theorem nFail(u:TypeId)(h:Tryz.prog.typeName? 3 u=some "privatefetch/unique.failure"):u=190:=by
 have aB:u<Tryz.prog.types.size:=by
  rcases Nat.lt_or_ge u Tryz.prog.types.size with hl|hl
  ·exact hl
  ·exfalso;have aC:¬u<Tryz.prog.types.size:=Nat.not_lt.2 hl;unfold Program.typeName? at h;split at h
   ·rename_i i hi;have aA:=Tables.info?_beyond aC hi;split at h
    ·rename_i hd;rw[hd] at aA
     cases aA
    ·obtain⟨a,_,e⟩:=Option.map_eq_some_iff.1 h;have e2:=congrArg (fun s:String=>s.toList.head?) e
     simp[String.toList_append] at e2
    ·rename_i hd;rw[hd] at aA;cases aA
    ·rename_i hd;rw[hd] at aA;cases aA
    ·rename_i hd;rw[hd] at aA;cases aA
    ·rename_i hd;rw[hd] at aA;cases aA
    ·cases h
   ·cases h
 have hm:u∈(List.range Tryz.prog.types.size).filter fun t=>Tryz.prog.typeName? 3 t==some "privatefetch/unique.failure" :=List.mem_filter.2 ⟨List.mem_range.2 aB,by rw[h];simp⟩
 rw[zEg] at hm;exact List.mem_singleton.1 hm
theorem ew_of_laid{W:World}(h:laidMetH Tryz.prog laidE W):EW W:=by
 rw[MakeChecks.laidMetH_plain _ _ _ (by kernel_rfl)] at h;obtain⟨ps,⟨g,t,cs,fuel,p,q,hg,ht,hv,hd,_,aK⟩,_,aJ⟩:=h;obtain rfl:=Option.some.inj (gErr.symm.trans hg);obtain rfl:=Option.some.inj (tErr.symm.trans ht);obtain⟨ms,hi⟩:=uErr;obtain⟨f,he,aI,aH⟩:=uFail;obtain⟨f1,u,v,aF,hn,h1⟩:=iface_of_trod hi hd;obtain rfl:=nFail u hn;have aA:W.cell? ⟨0,0,none⟩=some (.iface 190 v):=by
  have:=World.var?_cell hg hv 0;rw[Array.eq_one_of_toList aF] at this;simpa using this
 have aD:MemPlace.cell 0 0∈ps:=by
  rw[aK,Array.eq_one_of_toList aF];simp[MemPlace.row]
 obtain⟨⟨c,t',aC⟩,aE⟩:=aJ 0 0 aD;obtain⟨xs,rfl,aG⟩:=okWide_struct he (aE _ _ aA);obtain⟨y0,n,hx,hl,hy⟩:=trod_struct1 he h1;have aB:Tryz.prog.cellsOf 190=1:=by kernel_rfl
 have c3:Tryz.prog.cellsOf 36=1:=by kernel_rfl
 rw[aI,aH,c3] at hy;rw[aB] at aG;have aL:∃z,xs= #[z]:=by
  have:=aG;obtain⟨l⟩:=xs
  match l,this with
  |[z],_=>exact⟨z,rfl⟩
 obtain⟨z,rfl⟩:=aL;obtain⟨k,e1,e2,_⟩:=DataW.trod_int Tryz.underlying36 hy;simp only[Prod.mk.injEq,DataW.agg.injEq,List.cons.injEq,and_true] at hx;have hk:k=12:=by
  have:=hx.1;rw[e2] at this;simpa using this.symm
 subst hk;have hz:z= .int .i64 12:=by simpa [Value.cells] using e1
 subst hz;exact⟨aA,Ae (g:=0) (cs:=c) (t:=t') aC⟩
end Go.Proofs.YtoiabanpnkpbhaaGreatDoor
