/- Parts. -/
import Derived.Deep.Fields
import Derived.ChangeSame
import Derived.Lib.SmallJoins
import Derived.Test.YtoiabanpnkpbhaaGreatDoorM47
set_option linter.unusedVariables false
set_option linter.unusedSimpArgs false
namespace Go.Proofs.YtoiabanpnkpbhaaGreatDoor
open Go.RowKit Go.ChangeShapes Go.WideShapes Go.Deep Go.Joins
variable {H:Type} {enc:TypeId×Value→H} {w:World}
section
variable {H:Type} {enc:TypeId×Value→H} {P:Program} {w:World} {base:Nat} {spare:Nat→Bool} {held:Bool}
theorem Jp{t e:TypeId}{fs:Array Field}{fuel:Nat}{cs:List Value}{x:DataW H×List MemPlace}(ht:P.underlying t=some (.slice e))(he:P.underlying e=some (.struct fs))
  (hone:oneCellFields P fs=true) (hC:P.cellsOf e=fs.size) (h:DataW.trod enc P w base spare held fuel t cs=some x):
  (cs=[.slice none 0 0]∧x=(.nil,[]))∨
  ∃(a:Addr) (len aA m:Nat) (D:Nat→DataW H) (Pl:Nat→List MemPlace),cs=[.slice (some a) len aA]∧base≤a.block∧len≤aA∧aA≤maxLen∧m=(if spare a.block then aA else len)∧
   x=(.slice ((List.range len).map D) ((List.range (m-len)).map fun j=>D (len+j)),MemPlace.row a (m*fs.size)++(List.range m).flatMap Pl)∧
   ∀i,i<m→∃(ys:List (DataW H×List MemPlace)) (n:Nat),D i= .agg (ys.map (·.1))∧Pl i=ys.flatMap (·.2)∧ys.length=fs.size∧
    ∀(j:Nat) (f:Field),fs[j]? =some f→∃(v:Value) (y:DataW H×List MemPlace),w.cell? (a.add (i*fs.size+j))=some v∧ys[j]? =some y∧DataW.trod enc P w base spare held n f.type [v]=some y:=by
 rcases open_slice ht h with h0|⟨a,len,aA,m,n,D,Pl,aG,hb,hl,hm,aJ,hx,hi⟩
 ·exact .inl h0
 ·refine .inr ⟨a,len,aA,m,D,Pl,aG,hb,hl,hm,aJ,by rw[hC] at hx;exact hx,fun i aH=> ?_⟩
  obtain⟨aD,hc,aK⟩:=hi i aH;rw[hC] at hc;obtain⟨ys,n',hn',hy,hlen,aL,hf⟩:=DataW.trod_struct he aK;obtain⟨_,hcl,aF⟩:=World.cells?_some hc;simp only[Prod.mk.injEq] at hy;refine⟨ys,n',hy.1,hy.2,aL,fun j f hj=> ?_⟩
  obtain⟨ho,hk⟩:=hone_of hone j f hj;have aI:j<fs.size:=(Array.getElem?_eq_some_iff.1 hj).1;have aB:=aF j aI;have hv:aD[j]? =some (aD[j]'(by omega)):=List.getElem?_eq_getElem (by omega);have h1:=hf j f hj;rw[ho,hk] at h1;have aC:(aD.drop j).take 1=[aD[j]'(by omega)]:=by
   rw[List.drop_eq_getElem_cons (by omega)];rfl
  rw[aC] at h1;have aE:ys[j]? =some (ys[j]'(by omega)):=List.getElem?_eq_getElem (by omega);refine⟨_,_,?_,aE,h1.trans aE⟩;rw[←Go.Deep.add_add,aB,hv]
end
theorem SAn_open{H:Type}{enc:TypeId×Value→H}{w:World}{fuel:Nat}{A:Option Addr}{len cap:Nat}{x:DataW H×List MemPlace}
  (h:DataW.trod enc Tryz.prog w 0 (fun _=>true) true fuel 59 [.slice A len cap]=some x):∃l,SAn w (.slice A len cap) l:=by
 rcases Jp Tryz.underlying59 Tryz.underlying61 (by kernel_rfl) (by kernel_rfl) h with⟨aC,_⟩|⟨a,l,c,m,D,Pl,aC,_,hl,hm,aJ,_,hi⟩
 ·simp at aC;obtain⟨rfl,rfl,rfl⟩:=aC;exact⟨[],none,0,rfl,Zl _,by omega,fun h=>by simp at h⟩
 ·simp at aC;obtain⟨rfl,rfl,rfl⟩:=aC;have hlm:len≤m:=by rw[aJ];split<;>omega
  have aG:∀i,i<len→∃z:Bool×List Int,w.cell? (a.add (i*2))=some (.bool z.1)∧∃vr,w.cell? (a.add (i*2+1))=some vr∧SI w vr z.2:=by
   intro i hil;obtain⟨ys,n,_,_,_,hf⟩:=hi i (by omega);obtain⟨v0,y0,aB,_,aK⟩:=hf 0 _ rfl;obtain⟨v1,y1,aH,_,aL⟩:=hf 1 _ rfl;obtain⟨b,hb,_⟩:=DataW.trod_bool Tryz.underlying4 aK;obtain⟨A1,n1,c1,l1,e1,_,hs⟩:=trod_si aL;simp at hb;subst hb;exact⟨(b,l1),aB,v1,aH,hs⟩
  obtain⟨f,hf⟩:∃f:Nat→Bool×List Int,∀i,i<len→w.cell? (a.add (i*2))=some (.bool (f i).1)∧∃vr,w.cell? (a.add (i*2+1))=some vr∧SI w vr (f i).2:=
   ⟨fun i=>if h:i<len then Classical.choose (aG i h) else (false,[]),fun i hi=>by
    dsimp only;rw[dif_pos hi];exact Classical.choose_spec (aG i hi)⟩
  obtain⟨b,aE,aF⟩:=a;by_cases h0:0<len
  ·have aB:=(hf 0 h0).1;have aD:aF=none:=by simpa [Addr.add] using World.cell?_spot (by simpa [Addr.add] using aB)
   subst aD;have aA:∀j,(⟨b,aE,none⟩:Addr).add j=⟨b,aE+j,none⟩:=fun j=>by unfold Addr.add;split<;>simp_all
   refine⟨(List.range len).map f,some ⟨b,aE,none⟩,cap,by simp,by simpa using hl,by simpa [maxLen] using hm,fun _=>⟨b,aE,rfl,World.block_lt_of_cell? w _ (by rw[aA] at aB;exact aB),fun j hj=> ?_⟩⟩
   have aI:j<len:=by simpa using hj
   have:=hf j aI;rw[aA,aA] at this;simp only[List.getElem_map,List.getElem_range];rw[Nat.add_assoc];exact this
  ·have e0:len=0:=by omega
   subst e0;exact⟨[],some ⟨b,aE,aF⟩,cap,rfl,by simp,by simpa [maxLen] using hm,fun h=>by simp at h⟩
theorem open_agg1{H:Type}{enc:TypeId×Value→H}{P:Program}{w:World}{base:Nat}{spare:Nat→Bool}{held:Bool}{r:Reach}{b0:Nat}{t:TypeId}{f0:Field}{v:Value}{d:DataW H}{p:List MemPlace}
  (hs:P.underlying t=some (.struct #[f0])) (hone:oneCellFields P #[f0]=true) (hC:P.cellsOf t=1) (hv:Value.okWide P w r b0 t v) (h:DataW.Trod enc P w base spare held t v d p):
  ∃(v0:Value) (y0:DataW H×List MemPlace) (n:Nat),v= .agg #[v0]∧d= .agg [y0.1]∧p=y0.2∧DataW.trod enc P w base spare held n f0.type [v0]=some y0:=by
 obtain⟨cs,rfl,aB⟩:=okWide_struct hs hv;obtain⟨c0,rfl⟩:∃c0,cs= #[c0]:=by
  obtain⟨l⟩:=cs
  match l,aB.trans hC with
  |[c0],_=>exact⟨c0,rfl⟩
 obtain⟨fuel,hf⟩:=h;obtain⟨ys,n,_,hx,_,aA,hg⟩:=DataW.trod_struct hs hf;obtain⟨y0,rfl⟩:∃y0,ys=[y0]:=by
  match ys,aA with
  |[y0],_=>exact⟨y0,rfl⟩
 obtain⟨o0,k0⟩:=hone_of hone 0 f0 rfl;have h0:=hg 0 f0 rfl;simp only[Prod.mk.injEq] at hx;exact⟨c0,y0,n,rfl,by simpa using hx.1,by simpa using hx.2,by simpa [Value.cells,o0,k0] using h0⟩
end Go.Proofs.YtoiabanpnkpbhaaGreatDoor
