/- Parts. -/
import Derived.Test.YtbgabipngdillaaGreatDoorM06
import Derived.Test.YtbgabipngdillaaGreatDoorM14
set_option linter.unusedVariables false
set_option linter.unusedSimpArgs false
namespace Go.Proofs.YtbgabipngdillaaGreatDoor
open Go.RowKit Go.Shelf
def shL(P:Int)(co pts:List Int):List (Int×Int):=pts.map fun x=>(x,val P co x)
theorem Xi(P:Int)(co pts:List Int)(k:Nat)(h:k<pts.length):shL P co (pts.take (k+1))=shL P co (pts.take k)++[(pts[k],val P co pts[k])]:=by
 unfold shL;rw[List.take_succ_eq_append_getElem h,List.map_append];rfl
def ShR(P:Int)(co pts:List Int)(w:World)(i v:Value)(wr:World):Prop:=
 ∃k:Nat,k≤pts.length∧i= .int .i64 k∧wr.ownsRow w.heap.size 91 2 v (shL P co (pts.take k)).length (((shL P co (pts.take k)).flatMap pcs).map (Value.int .i64))∧Below w.heap.size w wr
set_option maxRecDepth 100000 in
set_option maxHeartbeats 4000000 in
theorem Rl(P:Int)(co pts:List Int)(vc vp:Value)(w:World)(hP:2≤P∧P≤65521)(hc:SI w vc co)(hp:SI w vp pts)(hel:els P co=true)(hpe:els P pts=true)(hcl:co.length≤1000000)(hpl:pts.length≤1000000):
  Calls Tryz.prog 71 #[.int .i64 P,vc,vp] w fun e w'=>∃v,e= .returned v∧w'.ownsRow w.heap.size 91 2 v (shL P co pts).length (((shL P co pts).flatMap pcs).map (Value.int .i64))∧Below w.heap.size w w':=by
 obtain⟨i0,aU,aV,aW,aX⟩:=info_parts Wz;have HC:=Zk hc;have aQ:=Zk hp;have aM:=Zk hel;have aP:=Zk hpe;obtain⟨Ap,kp,rfl⟩:=hp.form';clear hc hp hel hpe;go_enter Tryz.func71,Tryz.ntmps71;go_wp2_with fail;go_loopw [12,7] (fun i v wr=>ShR P co pts w i v wr) (fun i _ _=>pts.length- (intOf i).toNat)
 case atStart=>exact⟨0,Nat.zero_le _,rfl,by simpa [shL] using World.ownsRow_nil w w.heap.size 91 2,Zb _ _⟩
 case round=>
  obtain⟨k,hk,rfl,aE,aC⟩:=hrel;have HO:=Zk aE;have HB:=Zk aC;have bA:=aC.size;clear aE aC;by_cases hlt:k<pts.length
  ·have aT:decide ((k:Int)<(pts.length:Int))=true:=Ze (by omega);have hki:(k:Int)<(pts.length:Int):=by omega
   obtain⟨b,bB,hA,aR,aA⟩:=SB.cells aQ.out (by omega);subst hA;have aS:=(HB.out.cell (p:=⟨b,bB+k,none⟩) aR).trans (aA k hlt);have aF:=Zk (Xi P co pts k hlt);have aK:0≤pts[k]∧pts[k]<P:=by have:=Ba aP.out pts[k] (List.getElem_mem hlt);exact of_decide_eq_true this
   have aL:Hid (SI wr vc co):=HC.out.below HB.out;have aD:(shL P co (pts.take k)).length=k:=by unfold shL;simp;omega
   obtain⟨D,hD⟩:∃D,shL P co (pts.take k)=D:=⟨_,rfl⟩;rw[hD] at HO aF aD;obtain⟨x,hx⟩:∃x,pts[k]=x:=⟨_,rfl⟩;rw[hx] at aF aK aS;have HLE:=Zk aD;have hDl:D.length≤1000000:=by omega
   clear aA hD aD;go_wp2_with fail;(with_reducible refine (Gx P x co vc _ hP aK aM.out hcl aL.out).mono ?_)
   rintro e w2 ⟨rfl,aG⟩;have HB2:=Zk aG;have aI:=Zk (Be HO.out aG);have aH:Hid (Below w.heap.size w w2):=HB.out.trans (aG.mono bA);have aZ:w.heap.size≤w2.heap.size:=aH.out.size;obtain⟨y,hy⟩:∃y,val P co x=y:=⟨_,rfl⟩;rw[hy] at aF⊢;clear aG hy;go_wp2_with (at_builtin;refine wpList_append_own _ rfl _ _ 87 rfl w.heap.size 91 i0 _ 2 16 Tryz.underlying87 aU aV aW aX rfl (by omega) _ _ _ rfl (aI.out.alloc _) ⟨w2.heap.size,0,none⟩ 1 1 (List.map (Value.int .i64) (pcs (x,y))) rfl rfl (Ax w2 _ _) (by intro u hu;simp[pcs] at hu;rcases hu with rfl|rfl<;>rfl) (by unfold maxLen;omega) (by omega) (by simp;omega) ?_;intro v3 w3 aB aJ _;have aO:=Zk aB;have aN:=Zk aJ;clear aB aJ)
   go_roundw
   case rel=>
    refine⟨k+1,by omega,by go_num,?_,?_⟩
    ·rw[aF.out];simpa using aO.out
    ·exact (aH.out.alloc aZ _).grown aN.out (by simp;omega) (fun k hk=>(aI.out.lt k hk).1)
   case measure=>simp[intOf];omega
  ·have aY:k=pts.length:=by omega
   subst aY;have aT:decide ((pts.length:Int)<(pts.length:Int))=false:=Zd (by omega);rw[List.take_length] at HO;go_wp2_with fail;go_ret;exact⟨_,rfl,HO.out,HB.out⟩
open Go.RowKit Go.Shelf
theorem Jn{P:Program}(w:World){ops:Array Oper}{o:Oper}{a:Act}{K:Act→World→Prop}{Q:Exit→Act→World→Prop}{E:Prop}(hgd:o.guard=none)(s x:Operand)(t:TypeId)
  (ho:o.op= .call {callee:= .builtin .append,args:= #[s,x],argTypes:= #[t,t]})
  (base:Nat) (e:TypeId) (ht:P.underlying t=some (.slice e)) (hinfo:(P.info? e).map (fun i=>(i.zero,i.size,i.bytes))=some (some (.int .i64 0),1,8))
  (v:Value) (xs:List Int) (hs:a.eval s=v) (hown:w.ownsRow base e 1 v xs.length (xs.map (Value.int .i64)))
  (B:Nat) (src:Value) (l:List Int) (hx:a.eval x=src) (hr:SB B w src l)
  (hbytes:xs.length+l.length≤17592186044416) (hbase:base≤w.heap.size)
  (h:∀A c w',w'.ownsRow base e 1 (.slice A (xs++l).length c) (xs++l).length ((xs++l).map (Value.int .i64))→w.grownBy w' v.ownBlock→K (a.put o.dst (.slice A (xs++l).length c)) w'):
  if Region.wanted o (yielded ops a.tmps)=true then Oper.wp P o a w K Q else E:=by
 obtain⟨i0,aB,aC,aD,aE⟩:=info_parts hinfo;have hw:Region.wanted o (yielded ops a.tmps)=true:=by simp[Region.wanted,hgd]
 rw[if_pos hw];refine Ib w s x t ho base e i0 _ 1 8 ht aB aC aD aE rfl (by omega) v _ _ hs hown B _ l.length (l.map (Value.int .i64)) hx hr.sc (Fm l) (by unfold maxLen;omega) (by omega) hbase fun v' w' h1 h2=> ?_
 obtain⟨A,c,rfl⟩:=Bn h1;have aA:w'.ownsRow base e 1 (.slice A (xs++l).length c) (xs++l).length ((xs++l).map (Value.int .i64)):=by rw[List.length_append,List.map_append];exact h1
 have:=h A c w' aA h2;rw[List.length_append] at this;exact this
theorem zBp(n:Int)(w:World)(h:0≤n∧n≤9):Calls Tryz.prog 70 #[.int .i64 n] w fun e w'=>e= .returned (.bool true)∧w=w':=by
 go_enter Tryz.func70,Tryz.ntmps70;obtain⟨h1,h2⟩:=h;go_wp2_with fail;go_ret;exact⟨rfl,rfl⟩
def Gk(n:Nat):List Int:=(List.range n).map fun (j:Nat)=>((j:Nat):Int)+1
theorem Ux(n:Nat):Gk (n+1)=Gk n++[(n:Int)+1]:=by
 unfold Gk;rw[List.range_succ,List.map_append];rfl
theorem La(n:Nat):(Gk n).length=n:=by unfold Gk;simp
def SlR(w:World)(n:Nat)(i v:Value)(wr:World):Prop:=∃k:Nat,k≤n∧i= .int .i64 k∧wr.ownsRow w.heap.size 3 1 v (Gk k).length ((Gk k).map (Value.int .i64))∧Below w.heap.size w wr
set_option maxRecDepth 100000 in
set_option maxHeartbeats 4000000 in
theorem Va(P sec:Int)(most count:Nat)(l:List Int)(an:Nat)(v:Value)(w:World)(hp:prB P=true)(hsec:el P sec=true)(hm:most≤9)(hc1:1≤count)(hc2:(count:Int)<P)(hc3:count≤512)(h:SI w v l)(hd:dsE l an P most=0):
    Calls Tryz.prog 45 #[.agg #[.int .i64 P],.int .i64 sec,.int .i64 most,.int .i64 count,.agg #[v,.int .i64 an]] w fun e w'=>∃vs A1 n1 c1 a1,e= .returned (.tuple #[vs,.agg #[.slice A1 n1 c1,.int .i64 a1],.int .i64 0])∧
      w'.ownsRow w.heap.size 91 2 vs (shL P (sec::(l.drop an).take most) (Gk count)).length (((shL P (sec::(l.drop an).take most) (Gk count)).flatMap pcs).map (Value.int .i64))∧Below w.heap.size w w':=by
  have HS:=Zk h;have HP:=Zk hp;have HE:=Zk hsec;have HD:=Zk hd;obtain⟨A,cc,rfl⟩:=h.form';have hPb:=Bd hp;have hsb:0≤sec∧sec<P:=of_decide_eq_true hsec;clear h hp hsec hd;go_enter Tryz.func45,Tryz.ntmps45;go_upto_region 1 with fail
  obtain⟨wa,ew⟩:∃wa:World,wa=((w.alloc (.cells #[.int .i64 P] 31)).alloc (.cells #[.slice A l.length cc,.int .i64 an] 39)).alloc (.cells #[.slice none 0 0,.int .i64 0] 39):=⟨_,rfl⟩;have aX:Hid (Below w.heap.size w wa):=by show Below _ _ _;rw[ew];exact (((Zb _ w).alloc (Zl _) _).alloc (by simp) _).alloc (by simp;omega) _
  have cV:wa.heap.size=w.heap.size+3:=by rw[ew];simp
  have HF:Hid (wa.heap[w.heap.size]? =some (.cells #[.int .i64 P] 31 (0,0))):=by
    show _=_;rw[ew,Below.heap_alloc _ _ _ (by simp;omega),Below.heap_alloc _ _ _ (by simp)];exact Zh w _
  have HT:Hid (wa.heap[w.heap.size+1]? =some (.cells #[.slice A l.length cc,.int .i64 an] 39 (0,0))):=by
    show _=_;rw[ew,Below.heap_alloc _ _ _ (by simp)];have:=Zh (w.alloc (.cells #[.int .i64 P] 31)) (.cells #[.slice A l.length cc,.int .i64 an] 39);simpa using this
  have HR:Hid (wa.heap[w.heap.size+2]? =some (.cells #[.slice none 0 0,.int .i64 0] 39 (0,0))):=by
    show _=_;rw[ew];have:=Zh ((w.alloc (.cells #[.int .i64 P] 31)).alloc (.cells #[.slice A l.length cc,.int .i64 an] 39)) (.cells #[.slice none 0 0,.int .i64 0] 39);simpa using this
  rw[←ew];clear ew;have HSa:=Zk (HS.out.below aX.out);obtain⟨F,hF⟩:∃F,w.heap.size=F:=⟨_,rfl⟩;have bD:=Zk hF;rw[hF] at HF HT HR cV⊢;clear hF;have bE:wa.cell? ⟨F,0,none⟩=some (.int .i64 P):=Zc wa F 0 _ _ _ HF.out;go_wp2_with fail;(with_reducible refine (Jp P _ (by unfold An;omega)).mono ?_)
  rintro e w1 ⟨rfl,aJ⟩;have bK:=HP.out;have bX:ofP P=P:=by unfold ofP;rw[if_pos bK]
  rw[bK,bX];have aY:Hid (Below w.heap.size w w1):=aX.out.trans (aJ.mono aX.out.size);have cE:Hid (w1.heap[F]? =some (.cells #[.int .i64 P] 31 (0,0))):=(aJ.block F (by omega)).trans HF.out;have aN:Hid (w1.heap[F+1]? =some (.cells #[.slice A l.length cc,.int .i64 an] 39 (0,0))):=(aJ.block (F+1) (by omega)).trans HT.out;have cK:Hid (w1.heap[F+2]? =some (.cells #[.slice none 0 0,.int .i64 0] 39 (0,0))):=(aJ.block (F+2) (by omega)).trans HR.out;have hz1:=aJ.size;clear bE aJ bK bX;go_wp2_with fail;(with_reducible refine (Nt P sec _).mono ?_)
  rintro e w2 ⟨rfl,rfl⟩;rw[HE.out];go_wp2_with fail;(with_reducible refine (zBp most _ (by omega)).mono ?_)
  rintro e w2 ⟨rfl,rfl⟩;have bE:w1.cell? ⟨F,0,none⟩=some (.int .i64 P):=Zc w1 F 0 _ _ _ cE.out;have d1:decide ((count:Int)<1)=false:=Zd (by omega);have d2:decide (P≤(count:Int))=false:=Zd (by omega);have d3:decide ((512:Int)<(count:Int))=false:=Zd (by omega);have aH:w1.cell? ⟨F+1,0,none⟩=some (.slice A l.length cc):=Zc w1 (F+1) 0 _ _ _ aN.out;have aI:w1.cell? ⟨F+1,1,none⟩=some (.int .i64 an):=Zc w1 (F+1) 1 _ _ _ aN.out;have bF:w1.frozen? ⟨F+1,0,none⟩=false:=Zf w1 (F+1) 0 _ _ aN.out;have bG:w1.frozen? ⟨F+1,1,none⟩=false:=Zf w1 (F+1) 1 _ _ aN.out;go_wp2_with fail;have cM:Hid (SI w1 (.slice A l.length cc) l):=HS.out.below aY.out;(with_reducible refine (Jj l an P most _ _ cM.out (by unfold An;omega)).mono ?_)
  rintro e w2 ⟨v1,a1,v2,rfl,aR,bY,cT⟩;clear cT;obtain⟨rfl,bL,aW⟩:=bY HD.out;rw[HD.out];obtain⟨A2,k2,rfl⟩:=bL.form';obtain⟨Ad,kd,rfl⟩:=Bn aW;have HS2:=Zk bL;have bV:∀x∈l,An x:=by obtain⟨_,_,_,_,_,hr,_⟩:=HS.out;exact hr
  obtain⟨D,hD⟩:∃D,(l.drop an).take most=D:=⟨_,rfl⟩;have cB:=Zk hD;have aP:(l.drop ((an:Int)).toNat).take ((most:Int)).toNat=D:=hD;rw[aP] at aW⊢;have cI:=Zk aW;have bR:Hid (∀x∈D,An x):=by intro x hx;rw[←hD] at hx;exact bV x (List.mem_of_mem_drop (List.mem_of_mem_take hx))
  have cC:Hid (D.length≤9):=by show _≤_;rw[←hD];simp;omega
  have bB:Hid (els P D=true):=by
    show _=_;have hz:=HD.out;have hv:tvB l an=true:=by
      cases h:tvB l (an:Int) with
      |true=>rfl
      |false=>unfold dsE at hz;rw[if_pos h] at hz;cases hz
    have hd:drE l P an most=0:=by
      unfold dsE at hz;rw[if_neg (by rw[hv];simp)] at hz;split at hz
      · cases hz
      · exact hz
    have:=Rr hd;rw[←hD];unfold els;rw[List.all_eq_true];intro x hx;obtain⟨j,hj,rfl⟩:=List.mem_iff_getElem.1 hx;have cR:j<most:=by simp at hj;omega
    obtain⟨q1,q2,q3⟩:=this j cR;have:gd l (an+j)=((l.drop an).take most)[j]:=by simp[gd,q1]
    rw[this] at q2 q3;exact Ze ⟨q2,q3⟩
  have bQ:Hid (w2.heap[F+2]? =some (.cells #[.slice none 0 0,.int .i64 0] 39 (0,0))):=(aR.block (F+2) (by omega)).trans cK.out;have aO:Hid (w2.heap[F+1]? =some (.cells #[.slice A l.length cc,.int .i64 an] 39 (0,0))):=(aR.block (F+1) (by omega)).trans aN.out;have aZ:Hid (Below w.heap.size w w2):=aY.out.trans (aR.mono (by have:=aY.out.size;omega));have hz2:=aR.size;clear aH aI bF bG bE bY bL aW hD aP aR bV;have aH:w2.cell? ⟨F+1,0,none⟩=some (.slice A l.length cc):=Zc w2 (F+1) 0 _ _ _ aO.out;have aI:w2.cell? ⟨F+1,1,none⟩=some (.int .i64 an):=Zc w2 (F+1) 1 _ _ _ aO.out;have bF:w2.frozen? ⟨F+1,0,none⟩=false:=Zf w2 (F+1) 0 _ _ aO.out;have bG:w2.frozen? ⟨F+1,1,none⟩=false:=Zf w2 (F+1) 1 _ _ aO.out;go_wp2_with fail;obtain⟨wb,aE⟩:∃wb:World,wb=(w2.setCell ⟨F+1,0,none⟩ (.slice A2 l.length k2)).setCell ⟨F+1,1,none⟩ (.int .i64 ((an:Int)+most)):=⟨_,rfl⟩;have bM:Hid (Below w.heap.size w wb):=by show Below _ _ _;rw[aE];exact (aZ.out.setCell (by show _≤F+1;have:=bD.out;omega) _).setCell (by show _≤F+1;have:=bD.out;omega) _
  have hFl:F+2<w2.heap.size:=Ae bQ.out;have hzb:wb.heap.size=w2.heap.size:=by rw[aE];simp
  have cN:Hid (wb.heap[F+1]? =some (.cells #[.slice A2 l.length k2,.int .i64 ((an:Int)+most)] 39 (0,0))):=by show _=_;rw[aE];exact Bo _ _ aO.out
  have cL:Hid (wb.heap[F+2]? =some (.cells #[.slice none 0 0,.int .i64 0] 39 (0,0))):=by show _=_;rw[aE,Zo _ _ (F+2) _ (by show F+2≠F+1;omega),Zo _ _ (F+2) _ (by show F+2≠F+1;omega)];exact bQ.out
  have cJ:Hid (SI wb (.slice Ad D.length kd) D):=by show SI _ _ _;rw[aE];exact SI.of_own (Ay (Ay cI.out (by show F+1<w1.heap.size;omega) _) (by show F+1<w1.heap.size;omega) _) (fun x hx=>bR.out x hx)
  rw[←aE];clear aE aH aI bF bG;go_loopw [67,17] (fun i v wr=>SlR wb count i v wr) (fun i _ _=>count- (intOf i).toNat)
  case atStart=>exact⟨0,Nat.zero_le _,rfl,by simpa [Gk] using World.ownsRow_nil wb wb.heap.size 3 1,Zb _ _⟩
  case round=>
    obtain⟨k,hk,rfl,aT,aF⟩:=hrel;have HO:=Zk aT;have HB:=Zk aF;have bZ:=aF.size;clear aT aF;by_cases hlt:k<count
    · have cQ:decide ((k:Int)<(count:Int))=true:=Ze (by omega);have hw1:IntKind.i64.wrap ((k:Int)+1)=(k:Int)+1:=Zi _ (by omega);go_wp2_with (at_builtin;refine Az _ rfl _ _ 22 rfl wb.heap.size 3 Tryz.underlying22 Bf _ (Gk k) rfl HO.out ((k:Int)+1) rfl (by rw[La];omega) bZ ?_;intro v3 w3 aC bW;have cG:=Zk aC;have cF:=Zk bW;clear aC bW);go_roundw
      case rel=>
        refine⟨k+1,by omega,by go_num,?_,?_⟩
        · rw[Ux];exact cG.out
        · exact (HB.out.alloc bZ _).grown cF.out (by simp;omega) (fun j hj=>(HO.out.lt j hj).1)
      case measure=>simp[intOf];omega
    · have cS:k=count:=by omega
      subst cS;have cQ:decide ((k:Int)<(k:Int))=false:=Zd (by omega);clear hlt;go_wp2_with fail;obtain⟨Ap,kp,rfl⟩:=Bn HO.out;obtain⟨U,hU⟩:∃U,Gk k=U:=⟨_,rfl⟩;have cO:=Zk hU;have bO:Hid (els P U=true):=by
        show _=_;rw[←hU];unfold Gk els;rw[List.all_eq_true];intro x hx;obtain⟨j,hj,rfl⟩:=List.mem_map.1 hx;have:=List.mem_range.1 hj;exact Ze ⟨by omega,by omega⟩
      rw[hU] at HO⊢;have cP:U.length=k:=by rw[←hU,La]
      have bP:Hid (SI wr (.slice Ap k kp) U):=by
        have:=SI.of_own HO.out (fun x hx=>by have:=Ba bO.out x hx;have:0≤x∧x<P:=of_decide_eq_true this;unfold An;omega)
        rw[cP] at this;exact this
      have cD:Hid (SI wr (.slice Ad D.length kd) D):=cJ.out.below HB.out;have bT:Hid (wr.heap[F+1]? =some (.cells #[.slice A2 l.length k2,.int .i64 ((an:Int)+most)] 39 (0,0))):=(HB.out.block (F+1) (by omega)).trans cN.out;have aM:Hid (wr.heap[F+2]? =some (.cells #[.slice none 0 0,.int .i64 0] 39 (0,0))):=(HB.out.block (F+2) (by omega)).trans cL.out;have cA:Hid (Below w.heap.size w wr):=bM.out.trans (HB.out.mono bM.out.size);have aH:wr.cell? ⟨F+1,0,none⟩=some (.slice A2 l.length k2):=Zc wr (F+1) 0 _ _ _ bT.out;have aI:wr.cell? ⟨F+1,1,none⟩=some (.int .i64 ((an:Int)+most)):=Zc wr (F+1) 1 _ _ _ bT.out;have cR0:wr.cell? ⟨F+2,0,none⟩=some (.slice none 0 0):=Zc wr (F+2) 0 _ _ _ aM.out;have cR1:wr.cell? ⟨F+2,1,none⟩=some (.int .i64 0):=Zc wr (F+2) 1 _ _ _ aM.out;have fR0:wr.frozen? ⟨F+2,0,none⟩=false:=Zf wr (F+2) 0 _ _ aM.out;have fR1:wr.frozen? ⟨F+2,1,none⟩=false:=Zf wr (F+2) 1 _ _ aM.out;have aQ:F+1<wr.heap.size:=by omega
      have bH:F+2<wr.heap.size:=by omega
      have aB:Hid ((wr.alloc (.cells #[.int .i64 sec] 3)).ownsRow wr.heap.size 3 1 (.slice (some ⟨wr.heap.size,0,none⟩) 1 1) 1 [.int .i64 sec]):=Io (base:=wr.heap.size) wr 3 [.int .i64 sec] (Zl _) (by simp[maxLen]);have aK:Hid (SB wr.heap.size (wr.alloc (.cells #[.int .i64 sec] 3)) (.slice Ad D.length kd) D):=SB.below cD.out ((Zb _ wr).alloc (Zl _) _);have HDb:=cC.out;have bC:Hid (els P (sec::D)=true):=Ca (fun x hx=>by rcases List.mem_cons.1 hx with rfl|hx;exact HE.out;exact Ba bB.out x hx)
      have bS:Hid (∀x∈sec::D,An x):=fun x hx=>by rcases List.mem_cons.1 hx with rfl|hx;(unfold An;omega);exact bR.out x hx
      go_region_held3 (fun w'=>w'.cell? ⟨F+1,0,none⟩=some (.slice A2 l.length k2)∧w'.cell? ⟨F+1,1,none⟩=some (.int .i64 ((an:Int)+most))) (first|exact⟨aH,aI⟩|exact⟨x0,x1⟩|exact⟨y0,y1⟩|go_keep)
        (first
          | (refine Jn _ (by rfl) _ _ 22 (by rfl) wr.heap.size 3 Tryz.underlying22 Bf _ [sec] (by rfl) ?a1 wr.heap.size _ D (by rfl) ?a2 ?a3 ?a4 ?_
             case a1=>first|exact aB.out|exact aB.out.drew
             case a2=>first|exact aK.out|exact aK.out.drew
             case a3=>simp;omega
             case a4=>simp
             intro A4 k4 w4 aD bJ;have aA:Hid (Below wr.heap.size wr w4):=by
               first
                 |exact ((Zb _ wr).alloc (Zl _) _).grown bJ (by simp) (fun j hj=>(aB.out.lt j hj).1)
                 |exact ((Zb _ wr).alloc (Zl _) _).drew.grown bJ (by simp) (fun j hj=>(aB.out.lt j hj).1)
             have bN:Hid (w4.ownsRow wr.heap.size 3 1 (.slice A4 (sec::D).length k4) (sec::D).length ((sec::D).map (Value.int .i64))):=aD;have x0:=(aA.out.cell (p:=⟨F+1,0,none⟩) aQ).trans aH;have x1:=(aA.out.cell (p:=⟨F+1,1,none⟩) aQ).trans aI;clear aD bJ)
          | (go_at_call 71
             refine (Rl P (sec::D) U _ _ _ (by omega) ?b1 ?b2 bC.out bO.out ?b4 (by omega)).mono ?_
             case b1=>first|exact SI.of_own bN.out bS.out|exact SI.of_own bN.out.drew bS.out
             case b2=>first|exact bP.out.below aA.out|exact bP.out.below aA.out.drew
             case b4=>simp;omega
             rintro e w5 ⟨vs,rfl,bU,bI⟩;have aV:Hid (Below w4.heap.size w4 w5):=by first|exact bI|exact bI.drew_left
             have cH:Hid (w5.ownsRow w4.heap.size 91 2 vs (shL P (sec::D) U).length (((shL P (sec::D) U).flatMap pcs).map (Value.int .i64))):=bU;have aS:F+1<w4.heap.size:=by have:=aA.out.size;omega
             have aG:F+2<w4.heap.size:=by have:=aA.out.size;omega
             have y0:=(aV.out.cell (p:=⟨F+1,0,none⟩) aS).trans x0;have y1:=(aV.out.cell (p:=⟨F+1,1,none⟩) aS).trans x1;have aL:Hid (w5.heap[F+2]? =some (.cells #[.slice none 0 0,.int .i64 0] 39 (0,0))):=(aV.out.block (F+2) aG).trans ((aA.out.block (F+2) bH).trans aM.out);have y2:w5.cell? ⟨F+2,0,none⟩=some (.slice none 0 0):=Zc w5 (F+2) 0 _ _ _ aL.out;have y3:w5.cell? ⟨F+2,1,none⟩=some (.int .i64 0):=Zc w5 (F+2) 1 _ _ _ aL.out;have y4:w5.frozen? ⟨F+2,0,none⟩=false:=Zf w5 (F+2) 0 _ _ aL.out;have y5:w5.frozen? ⟨F+2,1,none⟩=false:=Zf w5 (F+2) 1 _ _ aL.out;clear bU bI))
      all_goals
        go_wp2_with fail;have HW:=Bo (.slice A2 l.length k2) (.int .i64 ((an:Int)+most)) aL.out;have q0:=Zc _ (F+2) 0 _ _ _ HW;have q1:=Zc _ (F+2) 1 _ _ _ HW;simp only[List.getElem?_toArray,List.getElem?_cons_zero,List.getElem?_cons_succ] at q0 q1;have hFw:w.heap.size≤F:=by have:=bD.out;omega
        have cU:w.heap.size≤wr.heap.size:=by omega
        have aU:w.heap.size≤w4.heap.size:=by have:=aA.out.size;omega
        have bA:Hid (Below w.heap.size w w5):=(cA.out.trans (aA.out.mono cU)).trans (aV.out.mono aU);refine bodyPost_ret (v:= .tuple #[vs,.agg #[.slice A2 l.length k2,.int .i64 ((an:Int)+most)],.int .i64 0]) (by simp[results,Tryz.results45,go_sem,q0,q1]) rfl ⟨_,_,_,_,_,rfl,?_,?_⟩
        · rw[cB.out,cO.out];exact Bt (Ay (Ay cH.out aG _) aG _) aU
        · exact (bA.out.setCell (by show _≤F+2;omega) _).setCell (by show _≤F+2;omega) _
open Go.RowKit Go.Shelf
def vaB(n t:Int):Bool:=decide (2≤n∧n≤10∧1≤t∧t<n)
theorem Eu{n t:Int}(h:vaB n t=true):2≤n∧n≤10∧1≤t∧t<n:=of_decide_eq_true h
theorem Kw(n t:Int)(w:World):
  Calls Tryz.prog 51 #[.agg #[.int .i64 n,.int .i64 t]] w fun e w'=>e= .returned (.bool (vaB n t))∧Below w.heap.size w w':=by
 have HB:Hid (∀o:Obj,Below w.heap.size w (w.alloc o)):=fun o=>(Zb _ w).alloc (Zl _) o
 go_enter Tryz.func51,Tryz.ntmps51;by_cases h1:2≤n
 ·have d1:decide (2≤n)=true:=Ze h1;by_cases h2:n≤10
  ·have d2:decide (n≤10)=true:=Ze h2;by_cases h3:1≤t
   ·have d3:decide (1≤t)=true:=Ze h3;by_cases h4:t<n
    ·have d4:decide (t<n)=true:=Ze h4;have HE:Hid (vaB n t=true):=Ze ⟨h1,h2,h3,h4⟩;go_wp2_with fail;go_ret;exact⟨by rw[HE.out]<;>rfl,HB.out _⟩
    ·have d4:decide (t<n)=false:=Zd h4;have HE:Hid (vaB n t=false):=Zd fun h=>h4 h.2.2.2
     go_wp2_with fail;go_ret;exact⟨by rw[HE.out]<;>rfl,HB.out _⟩
   ·have d3:decide (1≤t)=false:=Zd h3;have HE:Hid (vaB n t=false):=Zd fun h=>h3 h.2.2.1
    go_wp2_with fail;go_ret;exact⟨by rw[HE.out]<;>rfl,HB.out _⟩
  ·have d2:decide (n≤10)=false:=Zd h2;have HE:Hid (vaB n t=false):=Zd fun h=>h2 h.2.1
   go_wp2_with fail;go_ret;exact⟨by rw[HE.out]<;>rfl,HB.out _⟩
 ·have d1:decide (2≤n)=false:=Zd h1;have HE:Hid (vaB n t=false):=Zd fun h=>h1 h.1
  go_wp2_with fail;go_ret;exact⟨by rw[HE.out]<;>rfl,HB.out _⟩
def cuE(P n t:Int):Int:=if prB P=false then 9 else if vaB n t=false∨P≤n then 1 else 0
theorem Ff{P n t:Int}(h:cuE P n t=0):prB P=true∧vaB n t=true∧n<P:=by
 unfold cuE at h;split at h
 ·cases h
 ·split at h
  ·cases h
  ·rename_i h1 h2;refine⟨by simpa using h1,?_,?_⟩
   ·cases hv:vaB n t with
    |true=>rfl
    |false=>exact absurd (.inl hv) h2
   ·have:¬P≤n:=fun h=>h2 (.inr h)
    omega
set_option maxRecDepth 100000 in
theorem Ev(P n t:Int)(w:World)(hP:An P):
  Calls Tryz.prog 30 #[.agg #[.int .i64 P],.agg #[.int .i64 n,.int .i64 t]] w fun e w'=>e= .returned (.int .i64 (cuE P n t))∧Below w.heap.size w w':=by
 go_enter Tryz.func30,Tryz.ntmps30;go_upto_region 1 with fail
 obtain⟨wa,ew⟩:∃wa:World,wa=(w.alloc (.cells #[.int .i64 P] 31)).alloc (.cells #[.int .i64 n,.int .i64 t] 29):=⟨_,rfl⟩;have aJ:Hid (Below w.heap.size w wa):=by show Below _ _ _;rw[ew];exact (((Zb _ w).alloc (Zl _) _).alloc (by simp) _)
 have aP:wa.heap.size=w.heap.size+2:=by rw[ew];simp
 have HF:Hid (wa.heap[w.heap.size]? =some (.cells #[.int .i64 P] 31 (0,0))):=by
  show _=_;rw[ew,Below.heap_alloc _ _ _ (by simp)];exact Zh w _
 have HT:Hid (wa.heap[w.heap.size+1]? =some (.cells #[.int .i64 n,.int .i64 t] 29 (0,0))):=by
  show _=_;rw[ew];have:=Zh (w.alloc (.cells #[.int .i64 P] 31)) (.cells #[.int .i64 n,.int .i64 t] 29);simpa using this
 rw[←ew];clear ew;obtain⟨F,hF⟩:∃F,w.heap.size=F:=⟨_,rfl⟩;have HFF:=Zk hF;rw[hF] at HF HT aP⊢;clear hF;have aH:wa.cell? ⟨F,0,none⟩=some (.int .i64 P):=Zc wa F 0 _ _ _ HF.out;go_wp2_with fail;(with_reducible refine (Jp P _ hP).mono ?_)
 rintro e w1 ⟨rfl,aB⟩;have aF:Hid (Below w.heap.size w w1):=aJ.out.trans (aB.mono aJ.out.size);by_cases hp:prB P=true
 ·have aC:ofP P=P:=Kd hp;have HP:=Zk hp;rw[hp,aC];have aL:Hid (w1.heap[F]? =some (.cells #[.int .i64 P] 31 (0,0))):=(aB.block F (by omega)).trans HF.out;have aG:Hid (w1.heap[F+1]? =some (.cells #[.int .i64 n,.int .i64 t] 29 (0,0))):=(aB.block (F+1) (by omega)).trans HT.out;have hz1:=aB.size;clear aH aB hp aC;have aK:w1.cell? ⟨F+1,0,none⟩=some (.int .i64 n):=Zc w1 (F+1) 0 _ _ _ aG.out;have aO:w1.cell? ⟨F+1,1,none⟩=some (.int .i64 t):=Zc w1 (F+1) 1 _ _ _ aG.out;go_wp2_with fail;(with_reducible refine (Kw n t _).mono ?_)
  rintro e w2 ⟨rfl,aD⟩;have aA:Hid (Below w.heap.size w w2):=aF.out.trans (aD.mono aF.out.size);have aN:Hid (w2.heap[F+1]? =some (.cells #[.int .i64 n,.int .i64 t] 29 (0,0))):=(aD.block (F+1) (by omega)).trans aG.out;have aM:Hid (w2.heap[F]? =some (.cells #[.int .i64 P] 31 (0,0))):=(aD.block F (by omega)).trans aL.out;clear aK aO aD;have aK:w2.cell? ⟨F+1,0,none⟩=some (.int .i64 n):=Zc w2 (F+1) 0 _ _ _ aN.out;have aH:w2.cell? ⟨F,0,none⟩=some (.int .i64 P):=Zc w2 F 0 _ _ _ aM.out;by_cases hv:vaB n t=true
  ·by_cases hn:P≤n
   ·have d1:decide (P≤n)=true:=Ze hn;have HE:Hid (cuE P n t=1):=by show _=_;unfold cuE;rw[if_neg (by rw[HP.out];simp),if_pos (.inr hn)]
    rw[hv];clear hv;go_wp2_with fail;go_ret;exact⟨by rw[HE.out]<;>rfl,aA.out⟩
   ·have d1:decide (P≤n)=false:=Zd hn;have HE:Hid (cuE P n t=0):=by show _=_;unfold cuE;rw[if_neg (by rw[HP.out];simp),if_neg (by rw[hv];simp;omega)]
    rw[hv];clear hv;go_wp2_with fail;go_ret;exact⟨by rw[HE.out]<;>rfl,aA.out⟩
  ·have aI:vaB n t=false:=by simpa using hv
   have HE:Hid (cuE P n t=1):=by show _=_;unfold cuE;rw[if_neg (by rw[HP.out];simp),if_pos (.inl aI)]
   rw[aI];clear hv aI;go_wp2_with fail;go_ret;exact⟨by rw[HE.out]<;>rfl,aA.out⟩
 ·have aE:prB P=false:=by simpa using hp
  have HE:Hid (cuE P n t=9):=by show _=_;unfold cuE;rw[if_pos aE]
  have aC:ofP P=0:=Oy aE;rw[aE,aC];clear hp aE aH aB aC;go_wp2_with fail;go_ret;exact⟨by rw[HE.out]<;>rfl,aF.out⟩
def ccE(P n t m:Int):Int:=if cuE P n t=0∧(m<1∨1024<m) then 1 else cuE P n t
theorem Of{P n t m:Int}(h:ccE P n t m=0):cuE P n t=0∧1≤m∧m≤1024:=by
 unfold ccE at h;split at h
 ·cases h
 ·rename_i h1;refine⟨h,?_,?_⟩
  ·by_cases hm:m<1
   ·exact absurd ⟨h,.inl hm⟩ h1
   ·omega
  ·by_cases hm:1024<m
   ·exact absurd ⟨h,.inr hm⟩ h1
   ·omega
set_option maxRecDepth 100000 in
theorem Hu(P n t m:Int)(w:World)(hP:An P):
  Calls Tryz.prog 43 #[.agg #[.int .i64 P],.agg #[.int .i64 n,.int .i64 t],.int .i64 m] w fun e w'=>e= .returned (.int .i64 (ccE P n t m))∧Below w.heap.size w w':=by
 have aD:Hid (∀(o o':Obj) w2,Below ((w.alloc o).alloc o').heap.size ((w.alloc o).alloc o') w2→Below w.heap.size w w2):=fun o o' w2 h=>(((Zb _ w).alloc (Zl _) o).alloc (by simp) o').trans (h.mono (by simp;omega))
 go_enter Tryz.func43,Tryz.ntmps43;go_wp2_with fail;(with_reducible refine (Ev P n t _ hP).mono ?_)
 rintro e w1 ⟨rfl,aC⟩;have aA:Hid (Below w.heap.size w w1):=aD.out _ _ _ aC;clear aC;by_cases h0:cuE P n t=0
 ·have HZ:=Zk h0;rw[h0];clear h0;by_cases h1:m<1
  ·have d1:decide (m<1)=true:=Ze h1;have HE:Hid (ccE P n t m=1):=by show _=_;unfold ccE;rw[if_pos ⟨HZ.out,.inl h1⟩]
   go_wp2_with fail;go_ret;exact⟨by rw[HE.out]<;>rfl,aA.out⟩
  ·have d1:decide (m<1)=false:=Zd h1;by_cases h2:1024<m
   ·have d2:decide (1024<m)=true:=Ze h2;have HE:Hid (ccE P n t m=1):=by show _=_;unfold ccE;rw[if_pos ⟨HZ.out,.inr h2⟩]
    go_wp2_with fail;go_ret;exact⟨by rw[HE.out]<;>rfl,aA.out⟩
   ·have d2:decide (1024<m)=false:=Zd h2;have HE:Hid (ccE P n t m=0):=by show _=_;unfold ccE;rw[if_neg (by omega),HZ.out]
    go_wp2_with fail;go_ret;exact⟨by rw[HE.out]<;>rfl,aA.out⟩
 ·obtain⟨er,aB⟩:∃er,cuE P n t=er:=⟨_,rfl⟩;have HE:Hid (ccE P n t m=er):=by show _=_;unfold ccE;rw[if_neg (fun h=>h0 h.1),aB]
  rw[aB];rw[aB] at h0;have d0:(er==0)=false:=by rw[beq_eq_false_iff_ne];exact h0
  clear aB h0;go_wp2_with fail;go_ret;exact⟨by rw[HE.out]<;>rfl,aA.out⟩
open Go.RowKit
def on1(s:Nat×Bool)(i:Nat)(x:Int):Option (Nat×Bool):=if x=0 then some s else if x=1∧s.2=false then some (i,true) else none
def Ed(l:List Int):Nat→Option (Nat×Bool)
 |0=>some (0,false)
 |k+1=>match Ed l k with
  |none=>none
  |some s=>on1 s k (gd l k)
def Ei(l:List Int):Nat×Bool:=(Ed l l.length).getD (0,false)
theorem Jt{l:List Int}:∀{k n:Nat},Ed l k=none→k≤n→Ed l n=none:=by
 intro k n h hn;induction n with
 |zero=>
   obtain rfl:k=0:=by omega
   exact h
 |succ n ih=>
  by_cases e:k=n+1
  ·subst e;exact h
  ·unfold Ed;rw[ih (by omega)]
set_option maxRecDepth 100000 in
theorem zCb(l:List Int)(v:Value)(w:World)(h:SI w v l):
  Calls Tryz.prog 60 #[v] w fun e w'=>e= .returned (.tuple #[.int .i64 (Ei l).1,.bool (Ei l).2])∧w=w':=by
 obtain⟨A1,c1,rfl,hc1,hm1,aF,aC⟩:=h;have aD:=Zk aC;clear aC aF;go_enter Tryz.func60,Tryz.ntmps60;go_wp2_with fail;go_loopw [4,5,10] (fun a b i wr=>∃(k:Nat) (s:Nat×Bool),k≤l.length∧Ed l k=some s∧a= .int .i64 s.1∧b= .bool s.2∧i= .int .i64 k∧wr=w) (fun _ _ i _=>l.length- (intOf i).toNat)
 case atStart=>exact⟨0,(0,false),Nat.zero_le _,rfl,rfl,rfl,rfl,rfl⟩
 case round=>
  obtain⟨k,⟨s1,s2⟩,hk,hs,rfl,rfl,rfl,rfl⟩:=hrel;have HS:=Zk hs;clear hs;by_cases hlt:k<l.length
  ·obtain⟨b,off,rfl,hb,aA⟩:=aD.out (by omega);have c1:=aA k hlt;have HG:Hid (gd l k=l[k]):=by show _=_;simp[gd,hlt]
   have aB:Hid (Ed l (k+1)=on1 (s1,s2) k (gd l k)):=by show (match Ed l k with|none=>none|some s=>on1 s k (gd l k))=_;rw[HS.out]
   rw[←HG.out] at c1;clear aA;obtain⟨x,hx⟩:∃x,gd l k=x:=⟨_,rfl⟩;have HX:=Zk hx;rw[hx] at c1 aB;clear hx;have z2:(k:Int)<(l.length:Int):=by omega
   by_cases h0:x=0
   ·have d0:(x==0)=true:=by rw[beq_iff_eq];exact h0
    have HO:Hid (Ed l (k+1)=some (s1,s2)):=by show _=_;rw[aB.out];unfold on1;rw[if_pos h0]
    clear h0;go_wp2_with fail;go_roundw
    case rel=>exact⟨k+1,(s1,s2),by omega,HO.out,rfl,rfl,by go_num,by simp⟩
    case measure=>simp[intOf];omega
   ·have d0:(x==0)=false:=by rw[beq_eq_false_iff_ne];exact h0
    by_cases h1:x=1
    ·have d1:(x==1)=true:=by rw[beq_iff_eq];exact h1
     cases s2 with
     |false=>
      have HO:Hid (Ed l (k+1)=some (k,true)):=by show _=_;rw[aB.out];unfold on1;rw[if_neg h0,if_pos ⟨h1,rfl⟩]
      clear h0 h1;go_wp2_with fail;go_roundw
      case rel=>exact⟨k+1,(k,true),by omega,HO.out,rfl,rfl,by go_num,by simp⟩
      case measure=>simp[intOf];omega
     |true=>
      have HO:Hid (Ei l=(0,false)):=by
       show _=_;have:Ed l (k+1)=none:=by rw[aB.out];unfold on1;rw[if_neg h0,if_neg (by simp)]
       unfold Ei;rw[Jt this (by omega)];rfl
      clear h0 h1;go_wp2_with fail;refine bodyPost_ret (results_tmp2 rfl _ _ _) rfl ?_;exact⟨by rw[HO.out]<;>rfl,rfl⟩
    ·have d1:(x==1)=false:=by rw[beq_eq_false_iff_ne];exact h1
     have HO:Hid (Ei l=(0,false)):=by
      show _=_;have:Ed l (k+1)=none:=by rw[aB.out];unfold on1;rw[if_neg h0,if_neg (fun h=>h1 h.1)]
      unfold Ei;rw[Jt this (by omega)];rfl
     clear h0 h1;go_wp2_with fail;refine bodyPost_ret (results_tmp2 rfl _ _ _) rfl ?_;exact⟨by rw[HO.out]<;>rfl,rfl⟩
  ·have HO:Hid (Ei l=(s1,s2)):=by
    have aE:k=l.length:=by omega
    subst aE;show _=_;unfold Ei;rw[HS.out];rfl
   have z2:decide ((k:Int)<(l.length:Int))=false:=Zd (by omega);go_wp2_with fail;refine bodyPost_ret (results_tmp2 rfl _ _ _) rfl ?_;exact⟨by rw[HO.out]<;>rfl,rfl⟩
def beB(n t s x:Int):Bool:=vaB n t&&decide (0≤s)&&decide (s≤n)&&decide (0≤x)&&decide (x≤n)&&decide (t+1+s+2*x≤n)
set_option maxRecDepth 100000 in
theorem Hi(n t s x:Int)(w:World):
  Calls Tryz.prog 39 #[.agg #[.int .i64 n,.int .i64 t],.int .i64 s,.int .i64 x] w fun e w'=>e= .returned (.bool (beB n t s x))∧Below w.heap.size w w':=by
 go_enter Tryz.func39,Tryz.ntmps39;go_upto_region 1 with fail
 obtain⟨wa,ew⟩:∃wa:World,wa=w.alloc (.cells #[.int .i64 n,.int .i64 t] 29):=⟨_,rfl⟩;have aC:Hid (Below w.heap.size w wa):=by show Below _ _ _;rw[ew];exact (Zb _ w).alloc (Zl _) _
 have HT:Hid (wa.heap[w.heap.size]? =some (.cells #[.int .i64 n,.int .i64 t] 29 (0,0))):=by show _=_;rw[ew];exact Zh w _
 rw[←ew];clear ew;obtain⟨F,hF⟩:∃F,w.heap.size=F:=⟨_,rfl⟩;have HFF:=Zk hF;rw[hF] at HT⊢;clear hF;have k0:wa.cell? ⟨F,0,none⟩=some (.int .i64 n):=Zc wa F 0 _ _ _ HT.out;have k1:wa.cell? ⟨F,1,none⟩=some (.int .i64 t):=Zc wa F 1 _ _ _ HT.out;go_wp2_with fail;(with_reducible refine (Kw n t _).mono ?_)
 rintro e w1 ⟨rfl,aB⟩;have aA:Hid (Below w.heap.size w w1):=aC.out.trans (aB.mono aC.out.size);have aD:F<wa.heap.size:=Ae HT.out;have c0:w1.cell? ⟨F,0,none⟩=some (.int .i64 n):=(aB.cell (p:=⟨F,0,none⟩) aD).trans k0;have c1:w1.cell? ⟨F,1,none⟩=some (.int .i64 t):=(aB.cell (p:=⟨F,1,none⟩) aD).trans k1;clear k0 k1 aB
 cases hv:vaB n t with
 |false=>
  have HE:Hid (beB n t s x=false):=by show _=_;unfold beB;rw[hv];rfl
  go_wp2_with fail;go_ret;exact⟨by rw[HE.out]<;>rfl,aA.out⟩
 |true=>
  obtain⟨b1,b2,b3,b4⟩:=Eu hv;have HV:=Zk hv;clear hv;by_cases h1:0≤s
  ·have d1:decide (0≤s)=true:=Ze h1;by_cases h2:s≤n
   ·have d2:decide (s≤n)=true:=Ze h2;by_cases h3:0≤x
    ·have d3:decide (0≤x)=true:=Ze h3;by_cases h4:x≤n
     ·have d4:decide (x≤n)=true:=Ze h4;have w1_:IntKind.i64.wrap (t+1)=t+1:=by exact Zi _ (by omega)
      have w2_:IntKind.i64.wrap (t+1+s)=t+1+s:=by exact Zi _ (by omega)
      have w3_:IntKind.i64.wrap (2*x)=2*x:=by exact Zi _ (by omega)
      have w4_:IntKind.i64.wrap (t+1+s+2*x)=t+1+s+2*x:=by exact Zi _ (by omega)
      by_cases h5:t+1+s+2*x≤n
      ·have d5:decide (t+1+s+2*x≤n)=true:=Ze h5;have HE:Hid (beB n t s x=true):=by show _=_;unfold beB;rw[HV.out,d1,d2,d3,d4,d5];rfl
       go_wp2_with fail;go_ret;exact⟨by rw[HE.out]<;>rfl,aA.out⟩
      ·have d5:decide (t+1+s+2*x≤n)=false:=Zd h5;have HE:Hid (beB n t s x=false):=by show _=_;unfold beB;rw[d5];simp
       go_wp2_with fail;go_ret;exact⟨by rw[HE.out]<;>rfl,aA.out⟩
     ·have d4:decide (x≤n)=false:=Zd h4;have HE:Hid (beB n t s x=false):=by show _=_;unfold beB;rw[d4];simp
      go_wp2_with fail;go_ret;exact⟨by rw[HE.out]<;>rfl,aA.out⟩
    ·have d3:decide (0≤x)=false:=Zd h3;have HE:Hid (beB n t s x=false):=by show _=_;unfold beB;rw[d3];simp
     go_wp2_with fail;go_ret;exact⟨by rw[HE.out]<;>rfl,aA.out⟩
   ·have d2:decide (s≤n)=false:=Zd h2;have HE:Hid (beB n t s x=false):=by show _=_;unfold beB;rw[d2];simp
    go_wp2_with fail;go_ret;exact⟨by rw[HE.out]<;>rfl,aA.out⟩
  ·have d1:decide (0≤s)=false:=Zd h1;have HE:Hid (beB n t s x=false):=by show _=_;unfold beB;rw[d1];simp
   go_wp2_with fail;go_ret;exact⟨by rw[HE.out]<;>rfl,aA.out⟩
open Go.RowKit Go.Shelf
structure QR (G:Nat) (w:World) (vs:List Value) (rows:List (List Int)):Prop where
 cells:w.heap[G]? =some (.cells vs.toArray 22 (0,0))
 len:vs.length=rows.length
 own:∀k (h:k<vs.length) (h':k<rows.length),w.ownsRow (G+1) 3 1 vs[k] rows[k].length (rows[k].map (Value.int .i64))
 apart:∀i j (hi:i<vs.length) (hj:j<vs.length),i≠j→∀b,vs[i].ownBlock=some b→vs[j].ownBlock≠some b
theorem QR.lt{G:Nat}{w:World}{vs:List Value}{rows:List (List Int)}(h:QR G w vs rows):G<w.heap.size:=Ae h.cells
theorem QR.below{G:Nat}{w w':World}{vs:List Value}{rows:List (List Int)}(h:QR G w vs rows)(hb:Below w.heap.size w w'):QR G w' vs rows:=
 ⟨(hb.block G h.lt).trans h.cells,h.len,fun k h1 h2=>Be (h.own k h1 h2) hb,h.apart⟩
theorem QR.set3{G:Nat}{w:World}{vs:List Value}{rows:List (List Int)}(h:QR G w vs rows){p:Addr}(hp:p.block<G)(u:Value):QR G (w.setCell p u) vs rows:=
 ⟨(Zo w p G u (by omega)).trans h.cells,h.len,fun k h1 h2=>Ay (h.own k h1 h2) (by omega) u,h.apart⟩
theorem QR.alloc{G:Nat}{w:World}{vs:List Value}{rows:List (List Int)}(h:QR G w vs rows)(o:Obj):QR G (w.alloc o) vs rows:=h.below ((Zb _ w).alloc (Zl _) o)
theorem QR.drew{G:Nat}{w:World}{vs:List Value}{rows:List (List Int)}(h:QR G w vs rows):QR G w.drew vs rows:=h.below (Zb _ w).drew
theorem QR.cell{G:Nat}{w:World}{vs:List Value}{rows:List (List Int)}(h:QR G w vs rows){k:Nat}(hk:k<vs.length):w.cell? ⟨G,k,none⟩=some vs[k]:=
 Zc w G k _ _ _ (by rw[h.cells])|>.trans (by simp)
theorem QR.frozen{G:Nat}{w:World}{vs:List Value}{rows:List (List Int)}(h:QR G w vs rows)(k:Nat):w.frozen? ⟨G,k,none⟩=false:=Zf w G k _ _ h.cells
theorem QR.push{G:Nat}{w w2:World}{vs:List Value}{rows:List (List Int)}(h:QR G w vs rows){k:Nat}(hk:k<vs.length)(hk':k<rows.length){v':Value}{y:Int}
  (hown:w2.ownsRow (G+1) 3 1 v' (rows[k]++[y]).length ((rows[k]++[y]).map (Value.int .i64)))
  (hg:w.grownBy w2 vs[k].ownBlock) (hat:∀b,v'.ownBlock=some b→vs[k].ownBlock=some b∨w.heap.size≤b):
  QR G (w2.setCell ⟨G,k,none⟩ v') (vs.set k v') (rows.set k (rows[k]++[y])):=by
 have aM:∀b,vs[k].ownBlock=some b→G+1≤b:=fun b hb=>((h.own k hk hk').lt b hb).1
 have aL:w2.heap[G]? =some (.cells vs.toArray 22 (0,0)):=(hg.block G h.lt (fun e=>by have:=aM G e.symm;omega)).trans h.cells
 refine⟨?_,by simp[h.len],?_,?_⟩
 ·have:=heap_setCell_same w2 G k _ _ v' aL;simpa using this
 ·intro j h1 h2;by_cases hj:j=k
  ·subst hj;simp only[List.getElem_set_self];exact Ay hown (by show G<G+1;omega) v'
  ·simp only[List.getElem_set_ne (Ne.symm hj)];have aH:j<vs.length:=by simpa using h1
   have aN:j<rows.length:=by simpa using h2
   refine Ay ?_ (by show G<G+1;omega) v';have ho:=h.own j aH aN;refine⟨ho.1,?_⟩;rcases ho.2 with hn|⟨g,aJ,aK,he,hb,aE,rest⟩
   ·exact .inl hn
   ·refine .inr ⟨g,aJ,aK,he,hb,(hg.block g (Ae aE) (fun e=> ?_)).trans aE,rest⟩
    exact h.apart k j hk aH (Ne.symm hj) g e.symm (by rw[he];rfl)
 ·intro i j hi hj aD b aB aA;have aF:i<vs.length:=by simpa using hi
  have aG:j<vs.length:=by simpa using hj
  have aI:∀j (hj:j<vs.length),j≠k→∀b,v'.ownBlock=some b→vs[j].ownBlock≠some b:=by
   intro j hj aC b h1 h2;rcases hat b h1 with h3|h3
   ·exact h.apart k j hk hj (Ne.symm aC) b h3 h2
   ·have:=((h.own j hj (by rw[←h.len];exact hj)).lt b h2).2;omega
  by_cases hik:i=k
  ·subst hik;simp only[List.getElem_set_self] at aB;rw[List.getElem_set_ne aD] at aA;exact aI j aG (Ne.symm aD) b aB aA
  ·rw[List.getElem_set_ne (Ne.symm hik)] at aB;by_cases aC:j=k
   ·subst aC;simp only[List.getElem_set_self] at aA;exact aI i aF hik b aA aB
   ·rw[List.getElem_set_ne (Ne.symm aC)] at aA;exact h.apart i j aF aG aD b aB aA
theorem QR.round{G bs:Nat}{wd wx wy:World}{vs:List Value}{rows:List (List Int)}(h:QR G wx vs rows){j:Nat}(hjv:j<vs.length)(hjr:j<rows.length){u:Value}(hvj:vs[j]=u){R:List Int}(hR:rows[j]=R){y:Int}{gg cap2:Nat}{o:Obj}
  (hown:wy.ownsRow (G+1) 3 1 (.slice (some ⟨gg,0,none⟩) (R++[y]).length cap2) (R++[y]).length ((R++[y]).map (Value.int .i64)))
  (hg:(wx.alloc o).drew.grownBy wy u.ownBlock) (hat:u.ownBlock=some gg∨gg=(wx.alloc o).drew.heap.size)
  (hB:Below G wd wx) (hbs:bs<wx.heap.size) (hbG:bs≠G) (hnb:∀k (h:k<vs.length),vs[k].ownBlock≠some bs):
  Hid (QR G (wy.setCell ⟨G,j,none⟩ (.slice (some ⟨gg,0,none⟩) (R++[y]).length cap2)) (vs.set j (.slice (some ⟨gg,0,none⟩) (R++[y]).length cap2)) (rows.set j (R++[y])))∧
  Hid (Below G wd (wy.setCell ⟨G,j,none⟩ (.slice (some ⟨gg,0,none⟩) (R++[y]).length cap2)))∧
  Hid ((wy.setCell ⟨G,j,none⟩ (.slice (some ⟨gg,0,none⟩) (R++[y]).length cap2)).heap[bs]? =wx.heap[bs]?)∧
  Hid (∀k (h:k<(vs.set j (.slice (some ⟨gg,0,none⟩) (R++[y]).length cap2)).length),(vs.set j (.slice (some ⟨gg,0,none⟩) (R++[y]).length cap2))[k].ownBlock≠some bs):=by
 subst hvj hR;have hsz:(wx.alloc o).drew.heap.size=wx.heap.size+1:=by show (wx.alloc o).heap.size=_;simp
 refine⟨?_,?_,?_,?_⟩
 ·show QR _ _ _ _;refine QR.push (h.alloc o).drew hjv hjr hown hg (fun b hb=> ?_)
  have aA:gg=b:=by injection hb
  subst aA;rcases hat with h|h
  ·exact .inl h
  ·right;rw[h];exact Zl _
 ·show Below _ _ _;exact (((hB.alloc (by have:=h.lt;omega) o).drew).grown hg (by have:=h.lt;omega) (fun k hk=>by have:=((h.own j hjv hjr).lt k hk).1;omega)).setCell (Zl _) _
 ·show _=_;rw[Zo _ _ bs _ hbG];refine (hg.block bs (by omega) (fun e=>hnb j hjv e.symm)).trans ?_
  exact Below.heap_alloc wx _ _ hbs
 ·intro k hk e;have aB:k<vs.length:=by simpa using hk
  by_cases hkj:k=j
  ·subst hkj;rw[List.getElem_set_self] at e;have e':gg=bs:=by injection e
   rcases hat with h|h
   ·exact hnb k hjv (by rw[h,e'])
   ·omega
  ·rw[List.getElem_set_ne (Ne.symm hkj)] at e;exact hnb k aB e
theorem QR.made(w:World)(n:Nat):QR w.heap.size (w.alloc (.cells (List.replicate n (.slice none 0 0)).toArray 22)) (List.replicate n (.slice none 0 0)) (List.replicate n []):=by
 refine⟨Zh w _,by simp,fun k h1 h2=> ?_,fun i j hi hj _ b hb=> ?_⟩
 ·simp only[List.getElem_replicate];exact World.ownsRow_nil _ _ _ _
 ·simp[Value.ownBlock] at hb
theorem QR.sl{G:Nat}{w:World}{vs:List Value}{rows:List (List Int)}(h:QR G w vs rows)(hr:∀r∈rows,∀x∈r,An x)(hm:rows.length≤1000000):SL w (.slice (some ⟨G,0,none⟩) rows.length rows.length) rows:=by
 refine⟨_,rows.length,rfl,Zl _,by omega,fun h0=>⟨G,0,rfl,h.lt,fun j hj=> ?_⟩⟩
 have aA:j<vs.length:=by rw[h.len];exact hj
 have ho:=h.own j aA hj;obtain⟨B,d,hv⟩:=Bn ho;refine⟨B,d,?_,?_⟩
 ·rw[←hv,Nat.zero_add];exact h.cell aA
 ·rw[←hv];exact SI.of_own ho (hr _ (List.getElem_mem hj))
theorem Xd(n:Nat):madeCells #[Value.slice none 0 0] n=(List.replicate n (Value.slice none 0 0)).toArray:=by
 apply Array.toList_inj.1;rw[toList_madeCells_one]
theorem Tl:(Tryz.prog.info? 22).map (fun i=>(i.zero,i.size,i.bytes))=some (some (.slice none 0 0),1,24):=by kernel_rfl
theorem Fn{P:Program}(w:World){ops:Array Oper}{rest:List Oper}{o:Oper}{a:Act}{Q:Exit→Act→World→Prop}
  (hg:o.guard=none) (l c:Operand) (t:TypeId) (hop:o.op=Op.makeSlice t l c) (e:TypeId) (ht:P.underlying t=some (.slice e)) (hinfo:(P.info? e).map (fun i=>(i.zero,i.size,i.bytes))=some (some (.slice none 0 0),1,24))
  (L:Int) (n:Nat) (hl:a.eval l= .int .i64 L) (hc:a.eval c= .int .i64 L) (hL:L=(n:Int)) (hn:n≤10000000)
  (hK:wpList P ops Q rest (a.put o.dst (.slice (some ⟨w.heap.size,0,none⟩) n n)) (w.alloc (.cells (List.replicate n (.slice none 0 0)).toArray e))):
  wpList P ops Q (o::rest) a w:=by
 obtain⟨i0,aD,aE,aB,aF⟩:=info_parts hinfo;subst hL;have aA:=run_makeSlice (P:=P) w t e i0 _ ht aD aE .i64 .i64 n n (by omega) (Int.le_refl _) (by rw[aB];simp;omega) (by rw[aF];omega) (by omega);simp only[Int.toNat_natCast] at aA;rw[aB,Nat.mul_one] at aA;have hm:madeCells (Value.slice none 0 0).cells n=(List.replicate n (.slice none 0 0)).toArray:=Xd n;rw[hm] at aA;refine wpList_plain hg fun K aC=> ?_
 unfold Oper.wp;simp[execOp,hop,hl,hc,aA,Result.andThen];exact aC _ _ hK
open Go.RowKit Go.Shelf
def LiR(P:Int)(K:Nat)(w:World)(i v:Value)(wr:World):Prop:=∃k:Nat,k≤K∧i= .int .i64 k∧wr.ownsRow w.heap.size 3 1 v (List.replicate k P).length ((List.replicate k P).map (Value.int .i64))∧Below w.heap.size w wr
set_option maxRecDepth 100000 in
theorem Sf(P n t m:Int)(w:World)(hP:An P):
  Calls Tryz.prog 13 #[.agg #[.int .i64 P],.agg #[.int .i64 n,.int .i64 t],.int .i64 m] w fun e w'=>∃v,e= .returned (.tuple #[v,.int .i64 (ccE P n t m)])∧Below w.heap.size w w'∧
   (ccE P n t m=0→w'.ownsRow w.heap.size 3 1 v (List.replicate (m*t).toNat P).length ((List.replicate (m*t).toNat P).map (Value.int .i64)))∧(ccE P n t m≠0→v= .slice none 0 0):=by
 go_enter Tryz.func13,Tryz.ntmps13;go_upto_region 1 with fail
 obtain⟨wa,ew⟩:∃wa:World,wa=(w.alloc (.cells #[.int .i64 P] 31)).alloc (.cells #[.int .i64 n,.int .i64 t] 29):=⟨_,rfl⟩;have aI:Hid (Below w.heap.size w wa):=by show Below _ _ _;rw[ew];exact (((Zb _ w).alloc (Zl _) _).alloc (by simp) _)
 have aW:wa.heap.size=w.heap.size+2:=by rw[ew];simp
 have HF:Hid (wa.heap[w.heap.size]? =some (.cells #[.int .i64 P] 31 (0,0))):=by
  show _=_;rw[ew,Below.heap_alloc _ _ _ (by simp)];exact Zh w _
 have HT:Hid (wa.heap[w.heap.size+1]? =some (.cells #[.int .i64 n,.int .i64 t] 29 (0,0))):=by
  show _=_;rw[ew];have:=Zh (w.alloc (.cells #[.int .i64 P] 31)) (.cells #[.int .i64 n,.int .i64 t] 29);simpa using this
 rw[←ew];clear ew;obtain⟨F,hF⟩:∃F,w.heap.size=F:=⟨_,rfl⟩;have HFF:=Zk hF;rw[hF] at HF HT aW⊢;clear hF;have aF:wa.cell? ⟨F,0,none⟩=some (.int .i64 P):=Zc wa F 0 _ _ _ HF.out;have aS:wa.cell? ⟨F+1,0,none⟩=some (.int .i64 n):=Zc wa (F+1) 0 _ _ _ HT.out;have aL:wa.cell? ⟨F+1,1,none⟩=some (.int .i64 t):=Zc wa (F+1) 1 _ _ _ HT.out;go_wp2_with fail;(with_reducible refine (Hu P n t m _ hP).mono ?_)
 rintro e w1 ⟨rfl,aD⟩;have aH:Hid (Below w.heap.size w w1):=aI.out.trans (aD.mono aI.out.size);have aJ:Hid (w1.heap[F]? =some (.cells #[.int .i64 P] 31 (0,0))):=(aD.block F (by omega)).trans HF.out;have aR:Hid (w1.heap[F+1]? =some (.cells #[.int .i64 n,.int .i64 t] 29 (0,0))):=(aD.block (F+1) (by omega)).trans HT.out;have hz1:=aD.size;clear aF aS aL aD;by_cases h0:ccE P n t m=0
 ·have HZ:=Zk h0;obtain⟨hc,hm1,hm2⟩:=Of h0;obtain⟨_,hv,_⟩:=Ff hc;obtain⟨b1,b2,b3,b4⟩:=Eu hv;rw[h0];clear h0 hc hv;obtain⟨mn,rfl⟩:∃mn:Nat,m=mn:=⟨m.toNat,by omega⟩;obtain⟨tn,rfl⟩:∃tn:Nat,t=tn:=⟨t.toNat,by omega⟩;have aT:mn*tn≤1024*10:=Nat.mul_le_mul (by omega) (by omega);have aC:((mn:Int)*(tn:Int))=((mn*tn:Nat):Int):=(Int.natCast_mul mn tn).symm;have aK:Hid (((mn:Int)*(tn:Int)).toNat=mn*tn):=by show _=_;rw[aC];rfl
  obtain⟨K,hK⟩:∃K,mn*tn=K:=⟨_,rfl⟩;rw[hK] at aK aC aT;have hKw:IntKind.i64.wrap ((mn:Int)*(tn:Int))=(K:Int):=by rw[aC];exact Zi _ (by omega)
  have aF:w1.cell? ⟨F,0,none⟩=some (.int .i64 P):=Zc w1 F 0 _ _ _ aJ.out;have aL:w1.cell? ⟨F+1,1,none⟩=some (.int .i64 tn):=Zc w1 (F+1) 1 _ _ _ aR.out;have HHK:=Zk aC;clear aC hK;go_wp2_with fail;go_loopw [21,9] (fun i v wr=>LiR P K w1 i v wr) (fun i _ _=>K- (intOf i).toNat)
  case atStart=>exact⟨0,Nat.zero_le _,rfl,by simpa using World.ownsRow_nil w1 w1.heap.size 3 1,Zb _ _⟩
  case round=>
   obtain⟨k,hk,rfl,aE,aA⟩:=hrel;have HO:=Zk aE;have HB:=Zk aA;have aO:=aA.size;clear aF;have aF:wr.cell? ⟨F,0,none⟩=some (.int .i64 P):=(aA.cell (p:=⟨F,0,none⟩) (by show F<w1.heap.size;omega)).trans (Zc w1 F 0 _ _ _ aJ.out);clear aE aA;by_cases hlt:k<K
   ·have aU:decide ((k:Int)<(K:Int))=true:=Ze (by omega);go_wp2_with (at_builtin;refine Az _ rfl _ _ 22 rfl w1.heap.size 3 Tryz.underlying22 Bf _ (List.replicate k P) rfl HO.out P rfl (by simp;omega) aO ?_;intro v3 w3 aB aM;have aQ:=Zk aB;have aP:=Zk aM;clear aB aM);go_roundw
    case rel=>
     refine⟨k+1,by omega,by go_num,?_,?_⟩
     ·rw[List.replicate_succ'];exact aQ.out
     ·exact (HB.out.alloc aO _).grown aP.out (by simp;omega) (fun j hj=>(HO.out.lt j hj).1)
    case measure=>simp[intOf];omega
   ·have aV:k=K:=by omega
    subst aV;have aU:decide ((k:Int)<(k:Int))=false:=Zd (by omega);clear hlt;go_wp2_with fail;go_ret2;have aN:w.heap.size≤w1.heap.size:=aH.out.size;refine⟨_,by rw[HZ.out]<;>rfl,aH.out.trans (HB.out.mono aN),fun _=> ?_,fun h=>absurd HZ.out h⟩
    rw[aK.out];exact Bt HO.out aN
 ·obtain⟨er,aG⟩:∃er,ccE P n t m=er:=⟨_,rfl⟩;have HE:=Zk aG;have HN:=Zk h0;rw[aG];rw[aG] at h0;have d0:(er !=0)=true:=by rw[bne_iff_ne];exact h0
  clear aG h0;go_wp2_with fail;go_ret2;exact⟨_,by rw[HE.out]<;>rfl,aH.out,fun h=>absurd h HN.out,fun _=>rfl⟩
open Go.RowKit Go.Shelf
def quE(P n t m want:Int)(l:List Int)(an:Nat):Int:=if ccE P n t m≠0 then ccE P n t m else if want<0∨m≤want then 6 else dsE l an P (m*t)
def qCo(want:Int)(D:List Int)(t i:Nat):List Int:=(if (i:Int)=want then 1 else 0)::(D.drop (i*t)).take t
def qPt(P want:Int)(D:List Int)(t i k:Nat):Int:=val P (qCo want D t i) ((k:Int)+1)
def Kg(P want:Int)(D:List Int)(t k c:Nat):List Int:=(List.range c).map fun i=>qPt P want D t i k
theorem Vg(P want:Int)(D:List Int)(t k c:Nat):Kg P want D t k (c+1)=Kg P want D t k c++[qPt P want D t c k]:=by
 unfold Kg;rw[List.range_succ,List.map_append];rfl
theorem Lj(P want:Int)(D:List Int)(t k c:Nat):(Kg P want D t k c).length=c:=by unfold Kg;simp
def Eh(P want:Int)(D:List Int)(t n i j:Nat):List (List Int):=(List.range n).map fun k=>Kg P want D t k (if k<j then i+1 else i)
def Dg(P want:Int)(D:List Int)(t n c:Nat):List (List Int):=(List.range n).map fun k=>Kg P want D t k c
theorem Gh(P want:Int)(D:List Int)(t n i j:Nat):(Eh P want D t n i j).length=n:=by unfold Eh;simp
theorem Ep(P want:Int)(D:List Int)(t n c:Nat):(Dg P want D t n c).length=n:=by unfold Dg;simp
theorem Mn(P want:Int)(D:List Int)(t n i:Nat):Eh P want D t n i 0=Dg P want D t n i:=by
 unfold Eh Dg;apply List.map_congr_left;intro k _;rw[if_neg (by omega)]
theorem Pd(P want:Int)(D:List Int)(t n i:Nat):Eh P want D t n i n=Dg P want D t n (i+1):=by
 unfold Eh Dg;apply List.map_congr_left;intro k hk;rw[if_pos (List.mem_range.1 hk)]
theorem Mc(P want:Int)(D:List Int)(t n:Nat):Dg P want D t n 0=List.replicate n []:=by
 apply List.ext_getElem
 ·simp[Ep]
 ·intro k h1 h2;simp[Dg,Kg]
theorem Om(P want:Int)(D:List Int)(t n i j:Nat)(h:j<(Eh P want D t n i j).length):(Eh P want D t n i j)[j]=Kg P want D t j i:=by
 simp[Eh]
theorem Mo(P want:Int)(D:List Int)(t n i j:Nat)(hj:j<n):(Eh P want D t n i j).set j (Kg P want D t j i++[qPt P want D t i j])=Eh P want D t n i (j+1):=by
 apply List.ext_getElem
 ·simp[Gh]
 ·intro k h1 h2;by_cases hk:k=j
  ·subst hk;rw[List.getElem_set_self,←Vg];simp[Eh]
  ·rw[List.getElem_set_ne (Ne.symm hk)];simp only[Eh,List.getElem_map,List.getElem_range];congr 1;by_cases h:k<j
   ·rw[if_pos h,if_pos (by omega)]
   ·rw[if_neg h,if_neg (by omega)]
theorem Yi{l:List Int}{P:Int}(hP:2≤P∧P≤65521)(hl:l.length≤16384)(h:els P l=true):dsE l ((0:Nat):Int) P (l.length:Int)=0:=by
 have hv:tvB l ((0:Nat):Int)=true:=Ze ⟨hl,by omega,by omega⟩;have hi:liB P=true:=Ze ⟨by omega,by omega⟩;unfold dsE;rw[if_neg (by rw[hv];simp),if_neg (by rw[hi];simp)];exact Wd fun j hj=>by
  have aA:j<l.length:=by simpa using hj
  have:=Ba h l[j] (List.getElem_mem aA);have h2:0≤l[j]∧l[j]<P:=of_decide_eq_true this;have hg:gd l (0+j)=l[j]:=by simp[gd,aA]
  show 0+j<l.length∧0≤gd l (0+j)∧gd l (0+j)<P;rw[hg];exact⟨by simpa using aA,h2⟩
theorem Na{l:List Int}{an:Nat}{P c:Int}(h:dsE l an P c=0):((l.drop an).take c.toNat).length=c.toNat∧els P ((l.drop an).take c.toNat)=true:=by
 have hv:tvB l an=true:=by
  cases hh:tvB l (an:Int) with
  |true=>rfl
  |false=>unfold dsE at h;rw[if_pos hh] at h;cases h
 have hd:drE l P an c.toNat=0:=by
  unfold dsE at h;rw[if_neg (by rw[hv];simp)] at h;split at h
  ·cases h
  ·exact h
 have:=Rr hd;refine⟨?_,?_⟩
 ·rw[List.length_take,List.length_drop];rcases Nat.eq_zero_or_pos c.toNat with h0|h0
  ·omega
  ·have:=(this (c.toNat-1) (by omega)).1;omega
 ·unfold els;rw[List.all_eq_true];intro x hx;obtain⟨j,hj,rfl⟩:=List.mem_iff_getElem.1 hx;have aA:j<c.toNat:=by simp at hj;omega
  obtain⟨q1,q2,q3⟩:=this j aA;have:gd l (an+j)=((l.drop an).take c.toNat)[j]:=by simp[gd,q1]
  rw[this] at q2 q3;exact Ze ⟨q2,q3⟩
theorem SI.piece{w:World}{b off c:Nat}{l:List Int}(h:SI w (.slice (some ⟨b,off,none⟩) l.length c) l){lo k:Nat}(h1:lo+k≤l.length):
  SI w (.slice (some ⟨b,off+lo,none⟩) k (c-lo)) ((l.drop lo).take k):=by
 have hk:((l.drop lo).take k).length=k:=by simp;omega
 obtain⟨A',c',e,hc,hm,hr,ha⟩:=h;injection e with e1 e2 e3;subst e3;refine⟨_,c-lo,by rw[hk],by rw[hk];omega,by omega,fun x hx=>hr x (List.mem_of_mem_drop (List.mem_of_mem_take hx)),fun h0=> ?_⟩
 obtain⟨b',off',hA,hb,aA⟩:=ha (by rw[hk] at h0;omega);rw[←e1] at hA;injection hA with hA;injection hA with hb1 ho1;subst hb1 ho1;refine⟨b,off+lo,rfl,hb,fun j hj=> ?_⟩
 have aB:lo+j<l.length:=by rw[hk] at hj;omega
 have:=aA (lo+j) aB;rw[Nat.add_assoc,this];simp
theorem Vr{P want:Int}(hP:2≤P)(D:List Int)(t i k:Nat):0≤qPt P want D t i k∧qPt P want D t i k<P:=Jk hP _ _
theorem Tv{P want:Int}(hP:2≤P∧P≤65521)(D:List Int)(t n c:Nat):∀r∈Dg P want D t n c,∀x∈r,An x:=by
 intro r hr x hx;obtain⟨k,_,rfl⟩:=List.mem_map.1 hr;obtain⟨i,_,rfl⟩:=List.mem_map.1 hx;have:=Vr (want:=want) hP.1 D t i k;unfold An;omega
open Go.RowKit Go.Shelf
theorem al4(w:World)(o1 o2 o3 o4:Obj):Hid (Below w.heap.size w ((((w.alloc o1).alloc o2).alloc o3).alloc o4))∧((((w.alloc o1).alloc o2).alloc o3).alloc o4).heap.size=w.heap.size+4∧
  Hid (((((w.alloc o1).alloc o2).alloc o3).alloc o4).heap[w.heap.size]? =some o1)∧Hid (((((w.alloc o1).alloc o2).alloc o3).alloc o4).heap[w.heap.size+1]? =some o2)∧
  Hid (((((w.alloc o1).alloc o2).alloc o3).alloc o4).heap[w.heap.size+2]? =some o3)∧Hid (((((w.alloc o1).alloc o2).alloc o3).alloc o4).heap[w.heap.size+3]? =some o4):=by
 refine⟨((((Zb _ w).alloc (Zl _) _).alloc (by simp) _).alloc (by simp;omega) _).alloc (by simp;omega) _,by simp,?_,?_,?_,?_⟩;all_goals show _=_
 ·rw[Below.heap_alloc _ _ _ (by simp;omega),Below.heap_alloc _ _ _ (by simp;omega),Below.heap_alloc _ _ _ (by simp)];exact Zh w _
 ·rw[Below.heap_alloc _ _ _ (by simp),Below.heap_alloc _ _ _ (by simp)];have:=Zh (w.alloc o1) o2;simpa using this
 ·rw[Below.heap_alloc _ _ _ (by simp)];have:=Zh ((w.alloc o1).alloc o2) o3;simpa using this
 ·have:=Zh (((w.alloc o1).alloc o2).alloc o3) o4;simpa using this
def QRv(B:Nat)(w:World)(v:Value)(rows:List (List Int)):Prop:=
 ∃(G:Nat) (vs:List Value),B≤G∧v= .slice (some ⟨G,0,none⟩) rows.length rows.length∧QR G w vs rows∧(∀r∈rows,∀x∈r,An x)∧rows.length≤1000000
theorem QRv.sl{B:Nat}{w:World}{v:Value}{rows:List (List Int)}(h:QRv B w v rows):SL w v rows:=by
 obtain⟨G,vs,_,rfl,hq,hr,hm⟩:=h;exact QR.sl hq hr hm
theorem QRv.below{B:Nat}{w w':World}{v:Value}{rows:List (List Int)}(h:QRv B w v rows)(hb:Below w.heap.size w w'):QRv B w' v rows:=by
 obtain⟨G,vs,hB,e,hq,hr,hm⟩:=h;exact⟨G,vs,hB,e,hq.below hb,hr,hm⟩
theorem QRv.set3{B:Nat}{w:World}{v:Value}{rows:List (List Int)}(h:QRv B w v rows){p:Addr}(hp:p.block<B)(u:Value):QRv B (w.setCell p u) v rows:=by
 obtain⟨G,vs,hB,e,hq,hr,hm⟩:=h;exact⟨G,vs,hB,e,hq.set3 (Nat.lt_of_lt_of_le hp hB) u,hr,hm⟩
def QuR(P want:Int)(D:List Int)(t n m:Nat)(wd:World)(i:Value)(wr:World):Prop:=∃(k:Nat) (vs:List Value),k≤m∧i= .int .i64 k∧QR wd.heap.size wr vs (Dg P want D t n k)∧Below wd.heap.size wd wr
def Qu2(P want:Int)(D:List Int)(t n i:Nat)(wd:World)(bs:Nat)(ob:Option Obj)(v:Value)(wr:World):Prop:=
 ∃(j:Nat) (vs:List Value),j≤n∧v= .int .i64 j∧QR wd.heap.size wr vs (Eh P want D t n i j)∧Below wd.heap.size wd wr∧wr.heap[bs]? =ob∧∀k (h:k<vs.length),vs[k].ownBlock≠some bs
set_option maxRecDepth 100000 in
set_option maxHeartbeats 8000000 in
theorem It(P n t m want:Int)(l:List Int)(an:Nat)(v:Value)(w:World)(hP:An P)(hm:An m)(h:SI w v l):
    Calls Tryz.prog 17 #[.agg #[.int .i64 P],.agg #[.int .i64 n,.int .i64 t],.int .i64 m,.int .i64 want,.agg #[v,.int .i64 an]] w fun e w'=>∃vq v1 a1,e= .returned (.tuple #[vq,.agg #[v1,.int .i64 a1],.int .i64 (quE P n t m want l an)])∧Below w.heap.size w w'∧
      (quE P n t m want l an=0→a1=an+m*t∧SI w' v1 l∧QRv w.heap.size w' vq (Dg P want ((l.drop an).take (m*t).toNat) t.toNat n.toNat m.toNat))∧
      (quE P n t m want l an≠0→vq= .slice none 0 0∧v1= .slice none 0 0∧a1=0):=by
  have HS:=Zk h;obtain⟨A,cc,rfl⟩:=h.form';clear h;go_enter Tryz.func17,Tryz.ntmps17;go_upto_region 1 with fail
  obtain⟨wa,ew⟩:∃wa:World,wa=(((w.alloc (.cells #[.int .i64 P] 31)).alloc (.cells #[.int .i64 n,.int .i64 t] 29)).alloc (.cells #[.slice A l.length cc,.int .i64 an] 39)).alloc (.cells #[.slice none 0 0,.int .i64 0] 39):=⟨_,rfl⟩;obtain⟨eD,hE,HF,HN,HT,HR⟩:Hid (Below w.heap.size w wa)∧wa.heap.size=w.heap.size+4∧Hid (wa.heap[w.heap.size]? =some (.cells #[.int .i64 P] 31 (0,0)))∧Hid (wa.heap[w.heap.size+1]? =some (.cells #[.int .i64 n,.int .i64 t] 29 (0,0)))∧Hid (wa.heap[w.heap.size+2]? =some (.cells #[.slice A l.length cc,.int .i64 an] 39 (0,0)))∧Hid (wa.heap[w.heap.size+3]? =some (.cells #[.slice none 0 0,.int .i64 0] 39 (0,0))):=by
    rw[ew];exact al4 w _ _ _ _
  rw[←ew];clear ew;obtain⟨F,hF⟩:∃F,w.heap.size=F:=⟨_,rfl⟩;have aS:=Zk hF;rw[hF] at HF HN HT HR hE⊢;clear hF;have aM:wa.cell? ⟨F,0,none⟩=some (.int .i64 P):=Zc wa F 0 _ _ _ HF.out;have aN:wa.cell? ⟨F+1,0,none⟩=some (.int .i64 n):=Zc wa (F+1) 0 _ _ _ HN.out;have aO:wa.cell? ⟨F+1,1,none⟩=some (.int .i64 t):=Zc wa (F+1) 1 _ _ _ HN.out;go_wp2_with fail;(with_reducible refine (Hu P n t m _ hP).mono ?_)
  rintro e w1 ⟨rfl,aX⟩;have bF:Hid (Below w.heap.size w w1):=eD.out.trans (aX.mono eD.out.size);have eH:Hid (w1.heap[F]? =some (.cells #[.int .i64 P] 31 (0,0))):=(aX.block F (by omega)).trans HF.out;have eI:Hid (w1.heap[F+1]? =some (.cells #[.int .i64 n,.int .i64 t] 29 (0,0))):=(aX.block (F+1) (by omega)).trans HN.out;have cV:Hid (w1.heap[F+2]? =some (.cells #[.slice A l.length cc,.int .i64 an] 39 (0,0))):=(aX.block (F+2) (by omega)).trans HT.out;have aU:Hid (w1.heap[F+3]? =some (.cells #[.slice none 0 0,.int .i64 0] 39 (0,0))):=(aX.block (F+3) (by omega)).trans HR.out;have hz1:=aX.size;clear aM aN aO aX;have cW:w1.cell? ⟨F+3,0,none⟩=some (.slice none 0 0):=Zc w1 (F+3) 0 _ _ _ aU.out;have cX:w1.cell? ⟨F+3,1,none⟩=some (.int .i64 0):=Zc w1 (F+3) 1 _ _ _ aU.out;have cZ:w1.frozen? ⟨F+3,0,none⟩=false:=Zf w1 (F+3) 0 _ _ aU.out;have dA:w1.frozen? ⟨F+3,1,none⟩=false:=Zf w1 (F+3) 1 _ _ aU.out;by_cases h0:ccE P n t m=0
  · have HZ:=Zk h0;obtain⟨hc,hm1,hm2⟩:=Of h0;obtain⟨dV,hv,gW⟩:=Ff hc;obtain⟨b1,b2,b3,b4⟩:=Eu hv;have gD:=Zk dV;have dC:=Bd dV;rw[h0];clear h0 hc hv dV;obtain⟨mn,rfl⟩:∃mn:Nat,m=mn:=⟨m.toNat,by omega⟩;obtain⟨tn,rfl⟩:∃tn:Nat,t=tn:=⟨t.toNat,by omega⟩;obtain⟨nn,rfl⟩:∃nn:Nat,n=nn:=⟨n.toNat,by omega⟩;have bZ:mn*tn≤1024*10:=Nat.mul_le_mul (by omega) (by omega);have cA:((mn:Int)*(tn:Int))=((mn*tn:Nat):Int):=(Int.natCast_mul mn tn).symm;have gR:mn≤mn*tn:=Nat.le_mul_of_pos_right mn (by omega);obtain⟨K,hK⟩:∃K,mn*tn=K:=⟨_,rfl⟩;have HK:=Zk hK;have fU:Hid (1≤K):=by show _≤_;omega
    rw[hK] at bZ cA;have hKw:IntKind.i64.wrap ((mn:Int)*(tn:Int))=(K:Int):=by rw[cA];exact Zi _ (by omega)
    clear hK gR;have cO:=Zk cA;have cN:=Zk bZ;clear cA bZ;by_cases hw:want<0∨(mn:Int)≤want
    · have HE:Hid (quE P nn tn mn want l an=6):=by show _=_;unfold quE;rw[if_neg (by rw[HZ.out];simp),if_pos hw]
      have hg:decide (want<0)=true∨(decide (want<0)=false∧decide ((mn:Int)≤want)=true):=by
        by_cases h:want<0
        · exact .inl (Ze h)
        · exact .inr ⟨Zd h,Ze (by omega)⟩
      clear hw;rcases hg with hg|⟨hg,cD⟩;all_goals
        go_wp2_with fail;have HW:=Bo (.slice none 0 0) (.int .i64 0) aU.out;have q0:=Zc _ (F+3) 0 _ _ _ HW;have q1:=Zc _ (F+3) 1 _ _ _ HW;simp only[List.getElem?_toArray,List.getElem?_cons_zero,List.getElem?_cons_succ] at q0 q1;refine bodyPost_ret (v:= .tuple #[.slice none 0 0,.agg #[.slice none 0 0,.int .i64 0],.int .i64 6]) (by simp[results,Tryz.results17,go_sem,q0,q1]) rfl ⟨_,_,_,by rw[HE.out],?_,fun h=>by rw[HE.out] at h;omega,fun _=>⟨rfl,rfl,rfl⟩⟩
        exact (bF.out.setCell (by show _≤F+3;have:=aS.out;omega) _).setCell (by show _≤F+3;have:=aS.out;omega) _
    · have cU:Hid (quE P nn tn mn want l an=dsE l an P (K:Int)):=by show _=_;unfold quE;rw[if_neg (by rw[HZ.out];simp),if_neg hw,cO.out]
      have hw1:decide (want<0)=false:=Zd (by omega);have hw2:decide ((mn:Int)≤want)=false:=Zd (by omega);obtain⟨wn,rfl⟩:∃wn:Nat,want=wn:=⟨want.toNat,by omega⟩;have hwn:wn<mn:=by omega
      have hw3:decide (mn≤wn)=false:=Zd (by omega);clear hw;have aM:w1.cell? ⟨F,0,none⟩=some (.int .i64 P):=Zc w1 F 0 _ _ _ eH.out;have aO:w1.cell? ⟨F+1,1,none⟩=some (.int .i64 tn):=Zc w1 (F+1) 1 _ _ _ eI.out;have bA:w1.cell? ⟨F+2,0,none⟩=some (.slice A l.length cc):=Zc w1 (F+2) 0 _ _ _ cV.out;have bL:w1.cell? ⟨F+2,1,none⟩=some (.int .i64 an):=Zc w1 (F+2) 1 _ _ _ cV.out;have gH:Hid (SI w1 (.slice A l.length cc) l):=HS.out.below bF.out;clear cW cX cZ dA;go_wp2_with fail;(with_reducible refine (Jj l an P _ _ _ gH.out (by have:=cN.out;unfold An;omega)).mono ?_)
      rintro e w2 ⟨v1,a1,v2,rfl,aY,fF,fE⟩;have eM:=Zk fF;have eJ:=Zk fE;have aH:Hid (Below w.heap.size w w2):=bF.out.trans (aY.mono (by have:=bF.out.size;omega));have fQ:Hid (w2.heap[F]? =some (.cells #[.int .i64 P] 31 (0,0))):=(aY.block F (by omega)).trans eH.out;have fW:Hid (w2.heap[F+1]? =some (.cells #[.int .i64 nn,.int .i64 tn] 29 (0,0))):=(aY.block (F+1) (by omega)).trans eI.out;have gK:Hid (w2.heap[F+2]? =some (.cells #[.slice A l.length cc,.int .i64 an] 39 (0,0))):=(aY.block (F+2) (by omega)).trans cV.out;have bG:Hid (w2.heap[F+3]? =some (.cells #[.slice none 0 0,.int .i64 0] 39 (0,0))):=(aY.block (F+3) (by omega)).trans aU.out;have hz2:=aY.size;clear aM aO bA bL fF fE aY;by_cases h0:dsE l an P (K:Int)=0
      · obtain⟨rfl,dW,cG⟩:=eM.out h0;have bV:=Zk h0;rw[h0];clear h0;obtain⟨A2,k2,rfl⟩:=dW.form';obtain⟨Ad,kd,rfl⟩:=Bn cG;have HS2:=Zk dW;obtain⟨dH,cC⟩:=Na bV.out;obtain⟨D,hD⟩:∃D,(l.drop an).take K=D:=⟨_,rfl⟩;have fM:=Zk hD;have eU:(l.drop ((an:Int)).toNat).take ((K:Int)).toNat=D:=hD;rw[eU] at cG⊢;have bM:(l.drop an).take ((K:Int)).toNat=D:=hD;rw[bM] at dH cC;have fN:=Zk cC;have cL:Hid (D.length=K):=dH;have gB:Hid (SI w2 (.slice Ad D.length kd) D):=SI.of_own cG (fun x hx=>by have:=Ba cC x hx;have:0≤x∧x<P:=of_decide_eq_true this;unfold An;omega)
        clear dW cG dH cC hD eU bM;rw[cL.out];clear eJ eM;go_upto_region 7 with fail
        obtain⟨wp,aK⟩:∃wp:World,wp=w2.alloc (.cells #[.slice A2 l.length k2,.int .i64 ((an:Int)+K)] 39):=⟨_,rfl⟩;have aB:Hid (Below w2.heap.size w2 wp):=by show Below _ _ _;rw[aK];exact (Zb _ w2).alloc (Zl _) _
        have aD:Hid (Below w.heap.size w wp):=aH.out.trans (aB.out.mono aH.out.size);have hFl:F+3<w2.heap.size:=Ae bG.out;have fR:Hid (wp.heap[F]? =some (.cells #[.int .i64 P] 31 (0,0))):=(aB.out.block F (by omega)).trans fQ.out;have eK:Hid (wp.heap[F+1]? =some (.cells #[.int .i64 nn,.int .i64 tn] 29 (0,0))):=(aB.out.block (F+1) (by omega)).trans fW.out;have gL:Hid (wp.heap[F+2]? =some (.cells #[.slice A l.length cc,.int .i64 an] 39 (0,0))):=(aB.out.block (F+2) (by omega)).trans gK.out;have aV:Hid (wp.heap[F+3]? =some (.cells #[.slice none 0 0,.int .i64 0] 39 (0,0))):=(aB.out.block (F+3) (by omega)).trans bG.out;have fO:Hid (SI wp (.slice Ad D.length kd) D):=gB.out.below aB.out;have hzp:w2.heap.size<wp.heap.size:=by rw[aK];simp
        rw[←aK];clear aK;have aN:wp.cell? ⟨F+1,0,none⟩=some (.int .i64 nn):=Zc wp (F+1) 0 _ _ _ eK.out;go_wp2_with (at_make;refine Fn _ rfl _ _ 42 rfl 22 Tryz.underlying42 Tl _ nn rfl rfl rfl (by omega) ?_);clear aN;go_loopw [61] (fun i wr=>QuR P wn D tn nn mn wp i wr) (fun i _=>mn- (intOf i).toNat)
        case atStart=>exact⟨0,_,Nat.zero_le _,rfl,by rw[Mc];exact QR.made wp nn,(Zb _ _).alloc (Zl _) _⟩
        case round=>
          obtain⟨i,vs,hi,rfl,fJ,aE⟩:=hrel;have HQ:=Zk fJ;have HB:=Zk aE;have hG:=aE.size;have fS:Hid (wr.heap[F]? =some (.cells #[.int .i64 P] 31 (0,0))):=(aE.block F (by omega)).trans fR.out;have eL:Hid (wr.heap[F+1]? =some (.cells #[.int .i64 nn,.int .i64 tn] 29 (0,0))):=(aE.block (F+1) (by omega)).trans eK.out;clear fJ aE;by_cases hlt:i<mn
          · have gT:decide ((i:Int)<(mn:Int))=true:=Ze (by omega);have hd2:decide (i<mn)=true:=Ze hlt;have cM:Hid (SI wr (.slice Ad D.length kd) D):=fO.out.below HB.out;obtain⟨bD,oD,gP,hbD,gS⟩:=SB.cells cM.out (by have:=cL.out;have:=fU.out;omega);subst gP;obtain⟨lo,cF⟩:∃lo,i*tn=lo:=⟨_,rfl⟩;obtain⟨hh,bQ⟩:∃hh,(i+1)*tn=hh:=⟨_,rfl⟩;have fB:hh=lo+tn:=by rw[←bQ,←cF,Nat.succ_mul]
            have hhK:hh≤K:=by rw[←bQ,←HK.out];exact Nat.mul_le_mul_right tn hlt
            have bZ:=cN.out;have hDl:D.length=K:=cL.out;have hkd:D.length≤kd:=by obtain⟨_,_,e,h,_⟩:=cM.out;injection e with _ _ e3;rw[e3];exact h
            have hA:IntKind.i64.wrap ((i:Int)*(tn:Int))=(lo:Int):=by rw[←Int.natCast_mul,cF];exact Zi _ (by omega)
            have hB:IntKind.i64.wrap ((i:Int)+1)=(i:Int)+1:=Zi _ (by omega);have hC:IntKind.i64.wrap (((i:Int)+1)*(tn:Int))=(hh:Int):=by rw[show ((i:Int)+1)*(tn:Int)=(((i+1)*tn:Nat):Int) by rw[Int.natCast_mul];rfl,bQ];exact Zi _ (by omega)
            have bW:Hid (SI wr (.slice (some ⟨bD,oD+lo,none⟩) tn (kd-lo)) ((D.drop lo).take tn)):=SI.piece cM.out (by omega);have dU:((D.drop lo).take tn).length=tn:=by simp;omega
            have fH:els P ((D.drop lo).take tn)=true:=Ca fun x hx=>Ba fN.out x (List.mem_of_mem_drop (List.mem_of_mem_take hx))
            have gI:Hid (∀(sv:Int) (hs:el P sv=true) (wx:World),SI wx (.slice (some ⟨bD,oD+lo,none⟩) tn (kd-lo)) ((D.drop lo).take tn)→
                Calls Tryz.prog 45 #[.agg #[.int .i64 P],.int .i64 sv,.int .i64 tn,.int .i64 nn,.agg #[.slice (some ⟨bD,oD+lo,none⟩) tn (kd-lo),.int .i64 0]] wx fun e w'=>∃vs A1 n1 c1 a1,e= .returned (.tuple #[vs,.agg #[.slice A1 n1 c1,.int .i64 a1],.int .i64 0])∧
                  w'.ownsRow wx.heap.size 91 2 vs (shL P (sv::(D.drop lo).take tn) (Gk nn)).length (((shL P (sv::(D.drop lo).take tn) (Gk nn)).flatMap pcs).map (Value.int .i64))∧Below wx.heap.size wx w'):=by
              intro sv hs wx hx;have hd:=Yi (P:=P) (l:=(D.drop lo).take tn) dC (by omega) fH;rw[dU] at hd;have:=Va P sv tn nn ((D.drop lo).take tn) 0 _ wx gD.out hs (by omega) (by omega) gW (by omega) hx hd;simp only[List.drop_zero,List.take_take,Nat.min_self] at this;exact this
            have HPL:=Zk dU;have aM:wr.cell? ⟨F,0,none⟩=some (.int .i64 P):=Zc wr F 0 _ _ _ fS.out;have aN:wr.cell? ⟨F+1,0,none⟩=some (.int .i64 nn):=Zc wr (F+1) 0 _ _ _ eL.out;have aO:wr.cell? ⟨F+1,1,none⟩=some (.int .i64 tn):=Zc wr (F+1) 1 _ _ _ eL.out;have aW:F<wr.heap.size:=by omega
            have aC:F+1<wr.heap.size:=by omega
            have HHH:=Zk bQ;have fV:=Zk cF;clear gS dU fH bQ cF;have dY:∃sv:Int,(if (i:Int)=(wn:Int) then (1:Int) else 0)=sv∧el P sv=true∧((((i:Int)==(wn:Int))=true∧(i==wn)=true∧sv=1)∨(((i:Int)==(wn:Int))=false∧(i==wn)=false∧sv=0)):=by
              by_cases he:i=wn
              · exact⟨1,if_pos (by omega),Ze (by omega),.inl ⟨by rw[beq_iff_eq];omega,by rw[beq_iff_eq];omega,rfl⟩⟩
              · exact⟨0,if_neg (by omega),Ze (by omega),.inr ⟨by rw[beq_eq_false_iff_ne];omega,by rw[beq_eq_false_iff_ne];omega,rfl⟩⟩
            obtain⟨sv,eA,dX,bP⟩:=dY;have HSV:=Zk eA;have HSE:=Zk dX;obtain⟨SS,cB⟩:∃SS,shL P (sv::(D.drop lo).take tn) (Gk nn)=SS:=⟨_,rfl⟩;have aI:Hid (SS.length=nn):=by show _=_;rw[←cB];unfold shL;rw[List.length_map,La]
            have bJ:Hid (∀j (h:j<SS.length),SS[j]=((j:Int)+1,qPt P wn D tn i j)):=by
              intro j h;subst cB;simp[shL,Gk,qPt,qCo,eA,fV.out]
            have dZ:=gI.out sv dX;rw[cB] at dZ;have bI:=Zk dZ;clear eA dX dZ cB;rcases bP with⟨c1,c2,fK⟩|⟨c1,c2,fK⟩;all_goals
              subst fK;have dJ:(0:Int)≤(lo:Int):=by omega
              have dK:(lo:Int)≤(hh:Int):=by omega
              have dL:(hh:Int)≤(kd:Int):=by omega
              have dM:lo≤hh:=by omega
              have dN:hh≤kd:=by omega
              have dO:hh-lo=tn:=by omega
              have dP:¬kd=lo:=by omega
              have dQ:¬lo=kd:=by omega
              have HHL:=Zk fB;clear fB;go_wp2_with fail;go_region_held3 (fun w'=>w'.cell? ⟨F,0,none⟩=some (.int .i64 P)∧w'.cell? ⟨F+1,0,none⟩=some (.int .i64 nn)∧w'.cell? ⟨F+1,1,none⟩=some (.int .i64 tn)) (first|exact⟨aM,aN,aO⟩|exact⟨x0,x1,x2⟩|exact⟨z0,z1,z2⟩|go_keep)
                ((go_at_call 45
                  first
                    | (refine (bI.out _ ?b1).mono ?_
                       case b1=>first|exact bW.out|exact bW.out.below (Zb _ _).drew
                       rintro e w5 ⟨v5,A5,n5,c5,a5,rfl,bN,aZ⟩;have aG:Hid (Below wr.heap.size wr w5):=by first|exact aZ|exact aZ.drew_left
                       have gA:Hid (w5.ownsRow wr.heap.size 91 2 v5 SS.length ((SS.flatMap pcs).map (Value.int .i64))):=bN;have x0:=(aG.out.cell (p:=⟨F,0,none⟩) aW).trans aM;have x1:=(aG.out.cell (p:=⟨F+1,0,none⟩) aC).trans aN;have x2:=(aG.out.cell (p:=⟨F+1,1,none⟩) aC).trans aO;clear bN aZ)
                    | (refine (bI.out _ ?b1).mono ?_
                       case b1=>first|exact bW.out.below ((Zb _ _).alloc (Zl _) _)|exact bW.out.below ((Zb _ _).alloc (Zl _) _).drew
                       rintro e w5 ⟨v5,A5,n5,c5,a5,rfl,bN,aZ⟩;have bE:Hid (Below (wr.alloc (.cells #[.slice none 0 0,.int .i64 0] 39)).heap.size (wr.alloc (.cells #[.slice none 0 0,.int .i64 0] 39)) w5):=by first|exact aZ|exact aZ.drew_left
                       have aG:Hid (Below wr.heap.size wr w5):=((Zb _ wr).alloc (Zl _) _).trans (bE.out.mono (by simp));have cQ:Hid (w5.ownsRow (wr.heap.size+1) 91 2 v5 SS.length ((SS.flatMap pcs).map (Value.int .i64))):=Bt bN (by simp);have bX:Hid (w5.heap[wr.heap.size]? =some (.cells #[.slice none 0 0,.int .i64 0] 39 (0,0))):=(bE.out.block wr.heap.size (by simp)).trans (Zh wr _);have x0:=(aG.out.cell (p:=⟨F,0,none⟩) aW).trans aM;have x1:=(aG.out.cell (p:=⟨F+1,0,none⟩) aC).trans aN;have x2:=(aG.out.cell (p:=⟨F+1,1,none⟩) aC).trans aO;have x3:w5.cell? ⟨wr.heap.size,0,none⟩=some (.slice none 0 0):=Zc w5 wr.heap.size 0 _ _ _ bX.out;have x4:w5.cell? ⟨wr.heap.size,1,none⟩=some (.int .i64 0):=Zc w5 wr.heap.size 1 _ _ _ bX.out;have x5:w5.frozen? ⟨wr.heap.size,0,none⟩=false:=Zf w5 wr.heap.size 0 _ _ bX.out;have z (b o:Nat) (hb:b<wr.heap.size):((w5.setCell ⟨wr.heap.size,0,none⟩ (.slice A5 n5 c5)).setCell ⟨wr.heap.size,1,none⟩ (.int .i64 a5)).cell? ⟨b,o,none⟩=w5.cell? ⟨b,o,none⟩:=
                         World.cell?_of_block ((Zo _ _ b _ (by show b≠wr.heap.size;omega)).trans (Zo _ _ b _ (by show b≠wr.heap.size;omega)))
                       have z0:=(z F 0 aW).trans x0;have z1:=(z (F+1) 0 aC).trans x1;have z2:=(z (F+1) 1 aC).trans x2;clear z;have x6:w5.frozen? ⟨wr.heap.size,1,none⟩=false:=Zf w5 wr.heap.size 1 _ _ bX.out;clear bN aZ)))
              clear aM aN aO dJ dK dL dM dN dO dP dQ hA hB hC;all_goals
                first
                  | (obtain⟨w6,aJ⟩:∃w6:World,w6=w5.alloc (.cells #[.slice A5 n5 c5,.int .i64 a5] 39):=⟨_,rfl⟩
                     rw[←aJ];have cJ:Hid (Below wr.heap.size wr w6):=by show Below _ _ _;rw[aJ];exact aG.out.alloc aG.out.size _
                     have cR:Hid (w6.ownsRow wr.heap.size 91 2 v5 SS.length ((SS.flatMap pcs).map (Value.int .i64))):=by show World.ownsRow _ _ _ _ _ _ _;rw[aJ];exact gA.out.alloc _
                     clear aJ x0 x1 x2)
                  | (obtain⟨w6,aJ⟩:∃w6:World,w6=(w5.setCell ⟨wr.heap.size,0,none⟩ (.slice A5 n5 c5)).setCell ⟨wr.heap.size,1,none⟩ (.int .i64 a5):=⟨_,rfl⟩
                     rw[←aJ];have cJ:Hid (Below wr.heap.size wr w6):=by show Below _ _ _;rw[aJ];exact (aG.out.setCell (Zl _) _).setCell (Zl _) _
                     have cR:Hid (w6.ownsRow wr.heap.size 91 2 v5 SS.length ((SS.flatMap pcs).map (Value.int .i64))):=by show World.ownsRow _ _ _ _ _ _ _;rw[aJ];exact Bt (Ay (Ay cQ.out (by show wr.heap.size<_;omega) _) (by show wr.heap.size<_;omega) _) (Nat.le_succ _)
                     clear aJ x0 x1 x2 x3 x4 x5 x6 z0 z1 z2)
                obtain⟨bs,os,cs,gZ,hbs1,dF,eY⟩:∃bs os cs,v5= .slice (some ⟨bs,os,none⟩) SS.length cs∧wr.heap.size≤bs∧bs<w6.heap.size∧∀j (h:j<SS.length),w6.cell? ⟨bs,os+j*2,none⟩=some (.int .i64 SS[j].1)∧w6.cell? ⟨bs,os+j*2+1,none⟩=some (.int .i64 SS[j].2):=by
                  have gY:SG pcs 2 w6.heap.size w6 v5 SS:=SG.of_own cR.out (by
                    intro x hx y hy;obtain⟨j,hj,rfl⟩:=List.mem_iff_getElem.1 hx;rw[bJ.out j hj] at hy;have hjn:=aI.out;have:=Vr (want:=(wn:Int)) dC.1 D tn i j;simp[pcs] at hy;rcases hy with rfl|rfl<;>(unfold An;omega)) (fun x _=>rfl)
                  obtain⟨A',c',e,_,_,_,ha⟩:=gY;obtain⟨b,hH,rfl,hb,aQ⟩:=ha (by rw[aI.out];omega);refine⟨b,hH,c',e,(cR.out.lt b (by rw[e];rfl)).1,hb,fun j hj=>⟨?_,?_⟩⟩
                  · have:=aQ j hj 0 (by omega);simpa [pcs] using this
                  · have:=aQ j hj 1 (by omega);rw[Nat.add_assoc];simpa [pcs] using this
                subst gZ;have eG:=Zk eY;clear eY;obtain⟨wq,rfl⟩:∃wq:World,wq=wr:=⟨_,rfl⟩;have fC:SS.length=nn:=aI.out;rw[fC];clear fC;have hGq:wp.heap.size<wq.heap.size:=HQ.out.lt;go_wp2_with fail;go_loopw [96] (fun v wr=>Qu2 P wn D tn nn i wp bs w6.heap[bs]? v wr) (fun v _=>nn- (intOf v).toNat)
                case atStart=>
                  refine⟨0,vs,Nat.zero_le _,rfl,?_,HB.out.trans (cJ.out.mono hG),rfl,?_⟩
                  · rw[Mn];exact HQ.out.below cJ.out
                  · intro k hk e;have:=((HQ.out.own k hk (by rw[←HQ.out.len];exact hk)).lt bs e).2;omega
                case round=>
                  obtain⟨j,cI,hj,rfl,bS,aF,dR,fD⟩:=hrel;have cT:=Zk bS;have eC:=Zk aF;have cS:=Zk dR;have fX:=Zk fD;have eB:=aF.size;have dG:bs<wr.heap.size:=by
                    obtain⟨o,ho⟩:∃o,w6.heap[bs]? =some o:=⟨_,Array.getElem?_eq_getElem dF⟩;exact (Array.getElem?_eq_some_iff.1 (dR.trans ho)).1
                  clear bS aF dR fD;by_cases hlt2:j<nn
                  · have e1:decide ((j:Int)<(nn:Int))=true:=Ze (by omega);have e2:decide (j<nn)=true:=Ze hlt2;have dI:j<SS.length:=by rw[aI.out];exact hlt2
                    have hvl:cI.length=nn:=by rw[cT.out.len,Gh]
                    have bR:j<cI.length:=by omega
                    have cE:j<(Eh P wn D tn nn i j).length:=by rw[Gh];exact hlt2
                    obtain⟨y,hy⟩:∃y,qPt P wn D tn i j=y:=⟨_,rfl⟩;have dE:=bJ.out j dI;rw[hy] at dE;have g1:wr.cell? ⟨bs,os+j*2,none⟩=some (.int .i64 ((j:Int)+1)):=by
                      rw[World.cell?_of_block cS.out,(eG.out j dI).1,dE]
                    have g2:wr.cell? ⟨bs,os+j*2+1,none⟩=some (.int .i64 y):=by
                      rw[World.cell?_of_block cS.out,(eG.out j dI).2,dE]
                    have e3:(0:Int)≤(j:Int):=by omega
                    have e4:(j:Int)<(nn:Int):=by omega
                    have e5:(j:Int)<(SS.length:Int):=by omega
                    go_upto_region 22 with fail
                    obtain⟨wx,bB⟩:∃wx:World,wx=wr.alloc (.cells #[.int .i64 ((j:Int)+1),.int .i64 y] 91):=⟨_,rfl⟩;have gM:Hid (wx.heap.size=wr.heap.size+1):=by show _=_;rw[bB];simp
                    have aT:Hid (QR wp.heap.size wx cI (Eh P wn D tn nn i j)):=by show QR _ _ _ _;rw[bB];exact cT.out.alloc _
                    have eF:Hid (Below wr.heap.size wr wx):=by show Below _ _ _;rw[bB];exact (Zb _ wr).alloc (Zl _) _
                    have q2:wx.cell? ⟨wr.heap.size,1,none⟩=some (.int .i64 y):=by rw[bB];exact Zc _ _ 1 _ _ (0,0) (Zh wr _)
                    rw[←bB];clear bB g1 g2;obtain⟨Aj,cj,bU⟩:=Bn (aT.out.own j bR cE);obtain⟨R,hR⟩:∃R,(Eh P wn D tn nn i j)[j]=R:=⟨_,rfl⟩;have dD:Kg P wn D tn j i=R:=by rw[←Om P wn D tn nn i j cE];exact hR
                    have eV:R.length=i:=by rw[←dD,Lj]
                    rw[hR] at bU;have cH:=aT.out.own j bR cE;rw[bU,hR] at cH;have eN:=Zk cH;have fI:=aT.out.cell bR;rw[bU] at fI;have f1:=aT.out.frozen j;have eT:=Zk bU;have gF:=Zk hR;have bG:=Zk dD;have HRl:=Zk eV;have gQ:wp.heap.size<wx.heap.size:=aT.out.lt;have hRb:R.length≤2000:=by omega
                    have fA:∀b,(Value.slice Aj R.length cj).ownBlock=some b→wp.heap.size+1≤b∧b<wx.heap.size:=fun b hb=>cH.lt b hb
                    have fT:=Zk fA;clear bU hR dD eV cH fA;go_wp2_with fail;go_region_law (refine Al _ (by rfl) _ _ 22 (by rfl) (wp.heap.size+1) 3 Tryz.underlying22 Bf _ R (by rfl) (by first|exact (eN.out.alloc (.cells #[.int .i64 y] 3)).drew|exact eN.out.alloc (.cells #[.int .i64 y] 3)) y wx.heap.size (by rfl) (by exact Ax wx [.int .i64 y] 3 0 _ rfl) (by omega) (by simp;omega) ?_;intro gg cY wy aR cD bO;have dB:wy.heap[wp.heap.size]? =_:=(cD.block wp.heap.size (by simp;omega) (fun e=>by have:=(fT.out _ e.symm).1;omega)).trans ((Below.heap_alloc wx _ _ gQ).trans aT.out.cells);have hI:wy.cell? ⟨wp.heap.size,j,none⟩=some (.slice Aj R.length cj):=(Zc wy wp.heap.size j _ _ _ dB).trans (by rw[List.getElem?_toArray,List.getElem?_eq_getElem bR,eT.out]);have hJ:wy.frozen? ⟨wp.heap.size,j,none⟩=false:=Zf wy wp.heap.size j _ _ dB)
                    all_goals
                      have bT:(Eh P wn D tn nn i j).set j (R++[y])=Eh P wn D tn nn i (j+1):=by
                        rw[←bG.out,←hy];exact Mo P wn D tn nn i j hlt2
                      have eX:bs<wx.heap.size:=by have:=gM.out;omega
                      have eW:bs≠wp.heap.size:=by omega
                      obtain⟨dS,fG,dT,gX⟩:=QR.round aT.out bR cE eT.out gF.out aR cD bO (eC.out.trans (eF.out.mono eB)) eX eW fX.out;rw[bT] at dS;obtain⟨w9,bY⟩:∃w9:World,w9=wy.setCell ⟨wp.heap.size,j,none⟩ (.slice (some ⟨gg,0,none⟩) (R++[y]).length cY):=⟨_,rfl⟩;rw[←bY] at dS fG dT;rw[List.length_append,show [y].length=1 from rfl] at bY;have gC:Hid (w9.heap[bs]? =w6.heap[bs]?):=dT.out.trans ((eF.out.block bs dG).trans cS.out);clear dT aR cD bO dB hI hJ bT eX eW fI f1 q2;try simp only[List.length_append,List.length_cons,List.length_nil,Nat.zero_add]
                      rw[←bY];clear bY;go_wp2_with fail;go_roundw
                      case rel=>exact⟨j+1,_,by omega,by go_num,dS.out,fG.out,gC.out,gX.out⟩
                      case measure=>simp[intOf];omega
                  · have gV:j=nn:=by omega
                    subst gV;have e1:decide ((j:Int)<(j:Int))=false:=Zd (by omega);have e2:decide (j<j)=false:=Zd (by omega);clear hlt2;go_wp2_with fail;go_roundw
                    case rel=>exact⟨i+1,cI,by omega,by go_num,by rw[←Pd];exact cT.out,eC.out⟩
                    case measure=>simp[intOf];omega
          · have gU:i=mn:=by omega
            subst gU;have gT:decide ((i:Int)<(i:Int))=false:=Zd (by omega);have eS:Hid (wr.heap[F+2]? =some (.cells #[.slice A l.length cc,.int .i64 an] 39 (0,0))):=(HB.out.block (F+2) (by omega)).trans gL.out;have gG:Hid (wr.heap[F+3]? =some (.cells #[.slice none 0 0,.int .i64 0] 39 (0,0))):=(HB.out.block (F+3) (by omega)).trans aV.out;have gJ:Hid (SI wr (.slice A l.length cc) l):=(SB.below HS.out (aD.out.trans (HB.out.mono aD.out.size))).si (aD.out.trans (HB.out.mono aD.out.size)).size;have bA:wr.cell? ⟨F+2,0,none⟩=some (.slice A l.length cc):=Zc wr (F+2) 0 _ _ _ eS.out;have eR:Hid (l.length≤16384∧(an:Int)≤(l.length:Int)):=by
              cases hh:tvB l (an:Int) with
              |true=>have:l.length≤16384∧0≤(an:Int)∧(an:Int)≤(l.length:Int):=of_decide_eq_true hh;exact⟨this.1,this.2.2⟩
              |false=>have hz:=bV.out;unfold dsE at hz;rw[if_pos hh] at hz;cases hz
            have hll:=eR.out.1;have hwA:IntKind.i64.wrap ((an:Int)+(K:Int))=(an:Int)+K:=by exact Zi _ (by have:=eR.out.2;have:=cN.out;omega)
            clear hlt;go_wp2_with (at_builtin;refine Bm _ rfl _ _ 22 rfl wr.heap.size 3 Tryz.underlying22 Bf (.slice none 0 0) [] rfl (World.ownsRow_nil _ _ _ _) _ _ l rfl gJ.out (by simp;omega) (Zl _) ?_;intro v3 w3 aA eZ;rw[List.nil_append] at aA;obtain⟨A3,k3,rfl⟩:=Bn aA;have fY:=Zk aA;have bC:Hid (Below wr.heap.size wr w3):=(Zb _ wr).grown eZ (Zl _) (fun k hk=>by cases hk);clear aA eZ;have bK:Hid (w3.heap[F+2]? =some (.cells #[.slice A l.length cc,.int .i64 an] 39 (0,0))):=(bC.out.block (F+2) (by omega)).trans eS.out;have bA:w3.cell? ⟨F+2,0,none⟩=some (.slice A l.length cc):=Zc w3 (F+2) 0 _ _ _ bK.out;have bL:w3.cell? ⟨F+2,1,none⟩=some (.int .i64 an):=Zc w3 (F+2) 1 _ _ _ bK.out;have gN:w3.frozen? ⟨F+2,0,none⟩=false:=Zf w3 (F+2) 0 _ _ bK.out;have gO:w3.frozen? ⟨F+2,1,none⟩=false:=Zf w3 (F+2) 1 _ _ bK.out)
            obtain⟨w4,aP⟩:∃w4:World,w4=(w3.setCell ⟨F+2,0,none⟩ (.slice A3 l.length k3)).setCell ⟨F+2,1,none⟩ (.int .i64 ((an:Int)+K)):=⟨_,rfl⟩;have hFw:w.heap.size≤F:=by have:=aS.out;omega
            have hz3:=bC.out.size;have cK:Hid (Below w.heap.size w w3):=(aD.out.trans (HB.out.mono aD.out.size)).trans (bC.out.mono (aD.out.trans (HB.out.mono aD.out.size)).size);have fL:Hid (Below w.heap.size w w4):=by show Below _ _ _;rw[aP];exact (cK.out.setCell (by show _≤F+2;omega) _).setCell (by show _≤F+2;omega) _
            have eQ:Hid (w4.heap[F+2]? =some (.cells #[.slice A3 l.length k3,.int .i64 ((an:Int)+K)] 39 (0,0))):=by show _=_;rw[aP];exact Bo _ _ bK.out
            have bH:Hid (w4.heap[F+3]? =some (.cells #[.slice none 0 0,.int .i64 0] 39 (0,0))):=by show _=_;rw[aP,Zo _ _ (F+3) _ (by show F+3≠F+2;omega),Zo _ _ (F+3) _ (by show F+3≠F+2;omega)];exact (bC.out.block (F+3) (by omega)).trans gG.out
            have gE:Hid (QR wp.heap.size w4 vs (Dg P wn D tn nn i)):=by show QR _ _ _ _;rw[aP];exact ((HQ.out.below bC.out).set3 (by show F+2<_;omega) _).set3 (by show F+2<_;omega) _
            have fZ:Hid (w4.ownsRow wr.heap.size 3 1 (.slice A3 l.length k3) l.length (l.map (Value.int .i64))):=by show World.ownsRow _ _ _ _ _ _ _;rw[aP];exact Ay (Ay fY.out (by show F+2<_;omega) _) (by show F+2<_;omega) _
            have hz4:w4.heap.size=w3.heap.size:=by rw[aP];simp
            rw[←aP];clear aP bA bL gN gO;have bA:w4.cell? ⟨F+2,0,none⟩=some (.slice A3 l.length k3):=Zc w4 (F+2) 0 _ _ _ eQ.out;have bL:w4.cell? ⟨F+2,1,none⟩=some (.int .i64 ((an:Int)+K)):=Zc w4 (F+2) 1 _ _ _ eQ.out;have cW:w4.cell? ⟨F+3,0,none⟩=some (.slice none 0 0):=Zc w4 (F+3) 0 _ _ _ bH.out;have cX:w4.cell? ⟨F+3,1,none⟩=some (.int .i64 0):=Zc w4 (F+3) 1 _ _ _ bH.out;have cZ:w4.frozen? ⟨F+3,0,none⟩=false:=Zf w4 (F+3) 0 _ _ bH.out;have dA:w4.frozen? ⟨F+3,1,none⟩=false:=Zf w4 (F+3) 1 _ _ bH.out;go_wp2_with fail;go_region_held3 (fun w'=>w'.cell? ⟨F+2,0,none⟩=some (.slice A3 l.length k3)∧w'.cell? ⟨F+2,1,none⟩=some (.int .i64 ((an:Int)+K))) (first|exact⟨bA,bL⟩|go_keep) (fail)
            all_goals
              go_wp2_with fail;have HW:=Bo (.slice A3 l.length k3) (.int .i64 ((an:Int)+K)) bH.out;have q0:=Zc _ (F+3) 0 _ _ _ HW;have q1:=Zc _ (F+3) 1 _ _ _ HW;simp only[List.getElem?_toArray,List.getElem?_cons_zero,List.getElem?_cons_succ] at q0 q1;have eE:Hid (Below w.heap.size w ((w4.setCell ⟨F+3,0,none⟩ (.slice A3 l.length k3)).setCell ⟨F+3,1,none⟩ (.int .i64 ((an:Int)+K)))):=(fL.out.setCell (by show _≤F+3;omega) _).setCell (by show _≤F+3;omega) _;have eP:Hid (SI ((w4.setCell ⟨F+3,0,none⟩ (.slice A3 l.length k3)).setCell ⟨F+3,1,none⟩ (.int .i64 ((an:Int)+K))) (.slice A3 l.length k3) l):=SI.of_own (Ay (Ay fZ.out (by show F+3<_;omega) _) (by show F+3<_;omega) _) (by obtain⟨_,_,_,_,_,hr,_⟩:=HS.out;exact hr);have eO:Hid (QRv w.heap.size ((w4.setCell ⟨F+3,0,none⟩ (.slice A3 l.length k3)).setCell ⟨F+3,1,none⟩ (.int .i64 ((an:Int)+K))) (.slice (some ⟨wp.heap.size,0,none⟩) nn nn) (Dg P wn D tn nn i)):=(show Hid _ from
                ⟨wp.heap.size,_,aD.out.size,by rw[Ep],(gE.out.set3 (p:=⟨F+3,0,none⟩) (by show F+3<_;omega) (.slice A3 l.length k3)).set3 (p:=⟨F+3,1,none⟩) (by show F+3<_;omega) (.int .i64 ((an:Int)+K)),Tv dC D tn nn i,by rw[Ep];omega⟩)
              have fP:Hid ((l.drop an).take (((i:Int)*(tn:Int)).toNat)=D):=by show _=_;rw[cO.out];exact fM.out
              refine bodyPost_ret (v:= .tuple #[.slice (some ⟨wp.heap.size,0,none⟩) nn nn,.agg #[.slice A3 l.length k3,.int .i64 ((an:Int)+K)],.int .i64 0]) (by simp[results,Tryz.results17,go_sem,q0,q1]) rfl ⟨_,_,_,by rw[cU.out,bV.out],?_,fun _=>⟨by rw[cO.out],?_,?_⟩,fun h=>absurd (cU.out.trans bV.out) h⟩
              · first|exact eE.out|exact eE.out.drew
              · first|exact eP.out|exact eP.out.below (Zb _ _).drew
              · rw[fP.out];first|exact eO.out|exact eO.out.below (Zb _ _).drew
      · obtain⟨er,aL⟩:∃er,dsE l an P (K:Int)=er:=⟨_,rfl⟩;obtain⟨rfl,rfl,rfl⟩:=eJ.out h0;have HE:Hid (quE P nn tn mn wn l an=er):=cU.out.trans aL;have HN:=Zk h0;rw[aL];rw[aL] at h0;have d0:(er !=0)=true:=by rw[bne_iff_ne];exact h0
        have cP:=Zk h0;clear aL h0;go_upto_region 7 with fail
        obtain⟨wp,aK⟩:∃wp:World,wp=w2.alloc (.cells #[.slice none 0 0,.int .i64 0] 39):=⟨_,rfl⟩;have aD:Hid (Below w.heap.size w wp):=by show Below _ _ _;rw[aK];exact aH.out.alloc aH.out.size _
        have aV:Hid (wp.heap[F+3]? =some (.cells #[.slice none 0 0,.int .i64 0] 39 (0,0))):=by show _=_;rw[aK,Below.heap_alloc _ _ _ (by omega)];exact bG.out
        rw[←aK];clear aK;have cW:wp.cell? ⟨F+3,0,none⟩=some (.slice none 0 0):=Zc wp (F+3) 0 _ _ _ aV.out;have cX:wp.cell? ⟨F+3,1,none⟩=some (.int .i64 0):=Zc wp (F+3) 1 _ _ _ aV.out;have cZ:wp.frozen? ⟨F+3,0,none⟩=false:=Zf wp (F+3) 0 _ _ aV.out;have dA:wp.frozen? ⟨F+3,1,none⟩=false:=Zf wp (F+3) 1 _ _ aV.out;go_wp2_with fail;have HW:=Bo (.slice none 0 0) (.int .i64 0) aV.out;have q0:=Zc _ (F+3) 0 _ _ _ HW;have q1:=Zc _ (F+3) 1 _ _ _ HW;simp only[List.getElem?_toArray,List.getElem?_cons_zero,List.getElem?_cons_succ] at q0 q1;refine bodyPost_ret (v:= .tuple #[.slice none 0 0,.agg #[.slice none 0 0,.int .i64 0],.int .i64 er]) (by simp[results,Tryz.results17,go_sem,q0,q1]) rfl ⟨_,_,_,by rw[HE.out],?_,fun h=>by rw[HE.out] at h;exact absurd h cP.out,fun _=>⟨rfl,rfl,rfl⟩⟩
        exact (aD.out.setCell (by show _≤F+3;have:=aS.out;omega) _).setCell (by show _≤F+3;have:=aS.out;omega) _
  · obtain⟨er,aL⟩:∃er,ccE P n t m=er:=⟨_,rfl⟩;have HE:Hid (quE P n t m want l an=er):=by show _=_;unfold quE;rw[if_pos h0,aL]
    rw[aL];rw[aL] at h0;have d0:(er !=0)=true:=by rw[bne_iff_ne];exact h0
    have cP:=Zk h0;clear aL h0;go_wp2_with fail;have HW:=Bo (.slice none 0 0) (.int .i64 0) aU.out;have q0:=Zc _ (F+3) 0 _ _ _ HW;have q1:=Zc _ (F+3) 1 _ _ _ HW;simp only[List.getElem?_toArray,List.getElem?_cons_zero,List.getElem?_cons_succ] at q0 q1;refine bodyPost_ret (v:= .tuple #[.slice none 0 0,.agg #[.slice none 0 0,.int .i64 0],.int .i64 er]) (by simp[results,Tryz.results17,go_sem,q0,q1]) rfl ⟨_,_,_,by rw[HE.out],?_,fun h=>by rw[HE.out] at h;exact absurd h cP.out,fun _=>⟨rfl,rfl,rfl⟩⟩
    exact (bF.out.setCell (by show _≤F+3;have:=aS.out;omega) _).setCell (by show _≤F+3;have:=aS.out;omega) _
theorem Pu(P n t m want:Int)(l:List Int)(an:Nat)(v:Value)(w:World)(hP:An P)(hm:An m)(h:SI w v l):
  Calls Tryz.prog 17 #[.agg #[.int .i64 P],.agg #[.int .i64 n,.int .i64 t],.int .i64 m,.int .i64 want,.agg #[v,.int .i64 an]] w fun e w'=>∃vq v1 a1,e= .returned (.tuple #[vq,.agg #[v1,.int .i64 a1],.int .i64 (quE P n t m want l an)])∧Below w.heap.size w w'∧
   (quE P n t m want l an=0→a1=an+m*t∧SI w' v1 l∧SL w' vq (Dg P want ((l.drop an).take (m*t).toNat) t.toNat n.toNat m.toNat))∧
   (quE P n t m want l an≠0→vq= .slice none 0 0∧v1= .slice none 0 0∧a1=0):=
 (It P n t m want l an v w hP hm h).mono fun _ _ ⟨vq,v1,a1,h1,h2,h3,h4⟩=>⟨vq,v1,a1,h1,h2,fun h0=>⟨(h3 h0).1,(h3 h0).2.1,(h3 h0).2.2.sl⟩,h4⟩
open Go.RowKit Go.Shelf
open Go.RowKit Go.Shelf
open Go.RowKit Go.Shelf
section
variable {P:Program}
end
theorem Tj:(Tryz.prog.info? 91).map (fun i=>(i.zero,i.size,i.bytes))=some (some (.agg #[.int .i64 0,.int .i64 0]),2,16):=by kernel_rfl
theorem SCl.at0{w:World}{A:Option Addr}{n c:Nat}{l:List (Int×Bool)}(h:SCl w (.slice A n c) l)(h0:0<l.length):∃b off,A=some ⟨b,off,none⟩∧b<w.heap.size∧∀j (h:j<l.length),w.cell? ⟨b,off+j*2,none⟩=some (.int .i64 l[j].1)∧w.cell? ⟨b,off+j*2+1,none⟩=some (.bool l[j].2):=by
 obtain⟨A',c',e,_,_,_,ha⟩:=h;injection e with e1 e2 e3;subst e1;exact ha h0
theorem SCl.rng{w:World}{v:Value}{l:List (Int×Bool)}(h:SCl w v l):∀x∈l,An x.1:=by
 obtain⟨A,c,rfl,_,_,hr,_⟩:=h;exact hr
end Go.Proofs.YtbgabipngdillaaGreatDoor
