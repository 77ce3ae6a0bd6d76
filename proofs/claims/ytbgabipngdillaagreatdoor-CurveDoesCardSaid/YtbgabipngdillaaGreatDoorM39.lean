/- Parts. -/
import Derived.Test.YtbgabipngdillaaGreatDoorM15
import Derived.Test.YtbgabipngdillaaGreatDoorM28
set_option linter.unusedVariables false
set_option linter.unusedSimpArgs false
namespace Go.Proofs.YtbgabipngdillaaGreatDoor
open Go.RowKit
def OnR(l:List Int)(w:World)(av nv iv:Value)(wr:World):Prop:=
 ∃k a c:Nat,k≤l.length∧iv= .int .i64 k∧av= .int .i64 a∧nv= .int .i64 c∧c≤k∧(c=0→Ed l k=some (0,false))∧(c=1→Ed l k=some (a,true))∧(2≤c→Ed l k=none)∧w=wr
theorem Ur(l:List Int)(k:Nat):Ed l (k+1)=match Ed l k with|none=>none|some s=>on1 s k (gd l k):=rfl
theorem Mr{l:List Int}{k:Nat}(hk:k≤l.length)(h:Ed l k=none):Ei l=(0,false):=by
 unfold Ei;rw[Jt h hk];rfl
set_option maxRecDepth 100000 in
theorem Un(l:List Int)(v:Value)(w:World)(h:SI w v l)(hz:l.length≤1000000):
  Calls Tryz.prog 63 #[v] w fun e w'=>e= .returned (.tuple #[.int .i64 (Ei l).1,.bool (Ei l).2])∧w=w':=by
 have HS:=Zk h;obtain⟨A,c,rfl⟩:=h.form';clear h;obtain⟨n,en⟩:∃n,n=l.length:=⟨_,rfl⟩;rw[←en] at HS hz⊢;have HN:=Zk en;clear en;go_enter Tryz.func63,Tryz.ntmps63;go_wp2_with fail;go_loopw [4,5,10] (fun av nv iv wr=>OnR l w av nv iv wr) (fun _ _ iv _=>n- (intOf iv).toNat)
 case atStart=>exact⟨0,0,0,Nat.zero_le _,rfl,rfl,rfl,Zl _,fun _=>rfl,fun h=>(by cases h),fun h=>(by omega),rfl⟩
 case round=>
  obtain⟨k,a,cc,hk,rfl,rfl,rfl,hck,h0,h1,h2,hw⟩:=hrel;subst hw;rw[←HN.out] at hk;have H0:=Zk h0;have H1:=Zk h1;have H2:=Zk h2;clear h0 h1 h2;by_cases hlt:k<n
  ·have dk:decide ((k:Int)<(n:Int))=true:=Ze (by omega);have aF:decide (k<n)=true:=Ze hlt;have aD:k<l.length:=by rw[←HN.out];exact hlt
   obtain⟨b,off,eA,hb,aA⟩:=HS.out.cells (by omega);subst eA;have c1:=aA k aD;obtain⟨x,ex⟩:∃x,x=l[k]:=⟨_,rfl⟩;rw[←ex] at c1;have aB:Hid (Ed l (k+1)=match Ed l k with|none=>none|some s=>on1 s k x):=Zk (by show _=_;rw[Ur,Bu aD,←ex])
   have z0:(0:Int)≤(k:Int):=by omega
   have z1:(k:Int)<(n:Int):=by omega
   have w1':IntKind.i64.wrap ((cc:Int)+1)=(cc:Int)+1:=by exact Zi _ (by omega)
   have w2':IntKind.i64.wrap ((k:Int)+1)=(k:Int)+1:=by exact Zi _ (by omega)
   clear aA ex;by_cases hx1:x=1
   ·have d1:(x==1)=true:=by rw[beq_iff_eq];exact hx1
    have HA:Hid (cc+1=1→Ed l (k+1)=some (k,true)):=Zk (fun h=>by rw[aB.out,H0.out (by omega),hx1];rfl)
    have HB:Hid (2≤cc+1→Ed l (k+1)=none):=Zk (fun h=>by
     by_cases hc1:cc=1
     ·rw[aB.out,H1.out hc1,hx1];rfl
     ·rw[aB.out,H2.out (by omega)])
    clear hx1;go_wp2_with fail;go_roundw
    case rel=>exact⟨k+1,k,cc+1,by rw[←HN.out];omega,by go_num,rfl,by go_num,by omega,fun h=>by omega,HA.out,HB.out,rfl⟩
    case measure=>simp[intOf];omega
   ·have d1:(x==1)=false:=by rw[beq_eq_false_iff_ne];exact hx1
    by_cases hx0:x=0
    ·have d0:(x !=0)=false:=by rw[bne_eq_false_iff_eq];exact hx0
     have HA:Hid (cc=0→Ed l (k+1)=some (0,false)):=Zk (fun h=>by rw[aB.out,H0.out h,hx0];rfl)
     have HB:Hid (cc=1→Ed l (k+1)=some (a,true)):=Zk (fun h=>by rw[aB.out,H1.out h,hx0];rfl)
     have HC:Hid (2≤cc→Ed l (k+1)=none):=Zk (fun h=>by rw[aB.out,H2.out h])
     clear hx1 hx0;go_wp2_with fail;go_roundw
     case rel=>exact⟨k+1,a,cc,by rw[←HN.out];omega,by go_num,rfl,rfl,by omega,HA.out,HB.out,HC.out,rfl⟩
     case measure=>simp[intOf];omega
    ·have d0:(x !=0)=true:=by rw[bne_iff_ne];exact hx0
     have HE:Hid (Ei l=(0,false)):=Zk (Mr (k:=k+1) (by omega) (by
      rw[aB.out]
      cases Ed l k with
      |none=>rfl
      |some s=>
       show on1 s k x=none;unfold on1;rw[if_neg hx0,if_neg (fun h=>hx1 h.1)]))
     clear hx1 hx0;go_wp2_with fail;refine bodyPost_ret (v:= .tuple #[.int .i64 0,.bool false]) (by simp[results,Tryz.results63,go_sem]) rfl ?_;rw[HE.out];exact⟨rfl,rfl⟩
  ·have dk:decide ((k:Int)<(n:Int))=false:=Zd (by omega);have aF:decide (k<n)=false:=Zd hlt;have aC:k=l.length:=by rw[←HN.out];omega
   by_cases hc:cc=1
   ·have d1:((cc:Int) !=1)=false:=by rw[bne_eq_false_iff_eq];omega
    have aE:(cc !=1)=false:=by rw[bne_eq_false_iff_eq];exact hc
    have HE:Hid (Ei l=(a,true)):=Zk (by show _=_;unfold Ei;rw[←aC,H1.out hc];rfl);clear hc aC;go_wp2_with fail;refine bodyPost_ret (v:= .tuple #[.int .i64 a,.bool true]) (by simp[results,Tryz.results63,go_sem]) rfl ?_;rw[HE.out];exact⟨rfl,rfl⟩
   ·have d1:((cc:Int) !=1)=true:=by rw[bne_iff_ne];omega
    have aE:(cc !=1)=true:=by rw[bne_iff_ne];exact hc
    have HE:Hid (Ei l=(0,false)):=Zk (by
     show _=_;by_cases hc0:cc=0
     ·unfold Ei;rw[←aC,H0.out hc0];rfl
     ·exact Mr (Nat.le_of_eq aC) (H2.out (by omega)))
    clear hc aC;go_wp2_with fail;refine bodyPost_ret (v:= .tuple #[.int .i64 0,.bool false]) (by simp[results,Tryz.results63,go_sem]) rfl ?_;rw[HE.out];exact⟨rfl,rfl⟩
set_option maxRecDepth 100000 in
theorem Qj(a b x y:List Int)(va vb vx vy:Value)(w:World)(ha:SI w va a)(hb:SI w vb b)(hx:SI w vx x)(hy:SI w vy y):
  Calls Tryz.prog 36 #[.agg #[va,vb],.agg #[vx,vy]] w fun e w'=>e= .returned (.bool (decide (a=x)&&decide (b=y)))∧Below w.heap.size w w':=by
 have HA:=Zk ha;have HB:=Zk hb;have HX:=Zk hx;have HY:=Zk hy;obtain⟨A1,c1,rfl⟩:=ha.form';obtain⟨A2,c2,rfl⟩:=hb.form';obtain⟨A3,c3,rfl⟩:=hx.form';obtain⟨A4,c4,rfl⟩:=hy.form';clear ha hb hx hy;go_enter Tryz.func36,Tryz.ntmps36;obtain⟨F,eF⟩:∃F,F=w.heap.size:=⟨_,rfl⟩;obtain⟨w1,aF⟩:∃w1:World,w1=(w.alloc (.cells #[.slice A1 a.length c1,.slice A2 b.length c2] 68)).alloc (.cells #[.slice A3 x.length c3,.slice A4 y.length c4] 68):=⟨_,rfl⟩;have aH:Hid ((w.alloc (.cells #[.slice A1 a.length c1,.slice A2 b.length c2] 68)).alloc (.cells #[.slice A3 x.length c3,.slice A4 y.length c4] 68)=w1):=aF.symm;have aA:Hid (Below w.heap.size w w1):=Zk (by rw[aF];exact ((Zb _ w).alloc (Zl _) _).alloc (by simp) _);have aB:Hid (w1.heap[F]? =some (.cells #[.slice A1 a.length c1,.slice A2 b.length c2] 68 (0,0))):=Zk (by show _=_;rw[aF,eF,Below.heap_alloc _ _ _ (by simp)];exact Zh w _);have aC:Hid (w1.heap[F+1]? =some (.cells #[.slice A3 x.length c3,.slice A4 y.length c4] 68 (0,0))):=Zk (by show _=_;rw[aF,eF];have:=Zh (w.alloc (.cells #[.slice A1 a.length c1,.slice A2 b.length c2] 68)) (.cells #[.slice A3 x.length c3,.slice A4 y.length c4] 68);simpa using this);have aJ:Hid (∀W,Below w1.heap.size w1 W→W.cell? ⟨F,0,none⟩=some (.slice A1 a.length c1)∧W.cell? ⟨F,1,none⟩=some (.slice A2 b.length c2)∧W.cell? ⟨F+1,0,none⟩=some (.slice A3 x.length c3)∧W.cell? ⟨F+1,1,none⟩=some (.slice A4 y.length c4)):=Zk (fun W hg=>by
  have aK:=(hg.block F (Ae aB.out)).trans aB.out;have aL:=(hg.block (F+1) (Ae aC.out)).trans aC.out;exact⟨Zc W F 0 _ _ _ aK,Zc W F 1 _ _ _ aK,Zc W (F+1) 0 _ _ _ aL,Zc W (F+1) 1 _ _ _ aL⟩)
 go_upto_region 1 with fail
 rw[aH.out,←eF];clear aF eF;obtain⟨y0,y1,y2,y3⟩:=aJ.out w1 (Zb _ _);go_wp2_with fail;(with_reducible refine (Fq a x _ _ w1 (HA.out.below aA.out) (HX.out.below aA.out)).mono ?_)
 rintro e w2 ⟨rfl,aI⟩;have aE:Hid (Below w.heap.size w w2):=Zk (aA.out.trans (aI.mono aA.out.size));have aO:=aJ.out w2 aI;clear y0 y1 y2 y3 aI;obtain⟨y0,y1,y2,y3⟩:=aO;by_cases hax:a=x
 ·have aD:decide (a=x)=true:=Ze hax;have aG:=Zk aD;rw[aD];clear hax;go_wp2_with fail;(with_reducible refine (Fq b y _ _ w2 (HB.out.below aE.out) (HY.out.below aE.out)).mono ?_)
  rintro e w3 ⟨rfl,aM⟩;have aN:Hid (Below w.heap.size w w3):=Zk (aE.out.trans (aM.mono aE.out.size));clear aM y0 y1 y2 y3;obtain⟨z,ez⟩:∃z,z=decide (b=y):=⟨_,rfl⟩;rw[←ez];have HZ:=Zk ez.symm;clear ez aD
  cases z<;>
  ·go_wp2_with fail;go_ret;exact⟨by rw[aG.out,HZ.out]<;>rfl,aN.out⟩
 ·have aD:decide (a=x)=false:=Zd hax;have aG:=Zk aD;rw[aD];clear hax aD;go_wp2_with fail;go_ret;exact⟨by rw[aG.out]<;>rfl,aE.out⟩
end Go.Proofs.YtbgabipngdillaaGreatDoor
