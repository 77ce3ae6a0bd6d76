/- Parts. -/
import Derived.Laws.CopyOwn
import Derived.Deep.CutRange
import Derived.Test.YtoiabanpnkpbhaaGreatDoorM11
import Derived.Test.YtoiabanpnkpbhaaGreatDoorM12
set_option linter.unusedVariables false
set_option linter.unusedSimpArgs false
set_option maxRecDepth 1000000
set_option maxHeartbeats 4000000
namespace Go.Proofs.YtoiabanpnkpbhaaGreatDoor
open Go.RowKit Go.Maps
theorem zFw(w:World):(zeroValue 4).run Tryz.prog w= .ok (.bool false) w:=Tryz.zeroValue4 w
def shX(l:List (Int×Int)):List Int:=l.map (·.1)
def shY(l:List (Int×Int)):List Int:=l.map (·.2)
def inE(P:Int)(l:List (Int×Int)):Int:=if opE P [shX l,shY l]=0 then (if (shX l).Nodup then 0 else 7) else opE P [shX l,shY l]
def inP(P:Int)(l:List (Int×Int)):List Int:=if inE P l=0 then zAi P l else []
theorem Ro(l:List (Int×Int))(k:Nat)(h:k<l.length):shX (l.take (k+1))=shX (l.take k)++[l[k].1]:=by
 unfold shX;rw[List.take_succ_eq_append_getElem h,List.map_append];rfl
theorem Rp(l:List (Int×Int))(k:Nat)(h:k<l.length):shY (l.take (k+1))=shY (l.take k)++[l[k].2]:=by
 unfold shY;rw[List.take_succ_eq_append_getElem h,List.map_append];rfl
theorem Fb(l:List (Int×Int)):(shX l).length=l.length:=by simp[shX]
theorem Gs(l:List (Int×Int)):(shY l).length=l.length:=by simp[shY]
theorem zAh{P:Int}{l:List (Int×Int)}(h:opE P [shX l,shY l]≠0):inE P l=opE P [shX l,shY l]∧inP P l=[]:=by
 have e:inE P l=opE P [shX l,shY l]:=if_neg h;exact⟨e,if_neg (by rw[e];exact h)⟩
theorem zFp{P:Int}{l:List (Int×Int)}(h:opE P [shX l,shY l]=0)(h2:¬(shX l).Nodup):inE P l=7∧inP P l=[]:=by
 have e:inE P l=7:=by unfold inE;rw[if_pos h,if_neg h2]
 exact⟨e,if_neg (by rw[e];omega)⟩
theorem zAg{P:Int}{l:List (Int×Int)}(h:opE P [shX l,shY l]=0)(h2:(shX l).Nodup):inE P l=0∧inP P l=zAi P l:=by
 have e:inE P l=0:=by unfold inE;rw[if_pos h,if_pos h2]
 exact⟨e,if_pos e⟩
theorem Uz{P:Int}{a b:List Int}(h:opE P [a,b]=0):prB P=true∧els P a=true∧els P b=true∧a.length≤512∧b.length≤512:=by
 unfold opE at h;by_cases h1:prB P=false
 ·rw[if_pos h1] at h;omega
 rw[if_neg h1] at h;by_cases h2:([a,b].all (els P))=false
 ·rw[if_pos h2] at h;omega
 rw[if_neg h2] at h;by_cases h3:Dl [a,b]=true
 ·rw[if_pos h3] at h;omega
 simp[Dl] at h1 h2 h3;exact⟨h1,h2.1,h2.2,by omega,by omega⟩
def ngv(P x:Int):Int:=(0-x+P)%P
theorem zEf(P x:Int)(w:World)(hP:2≤P∧P≤65521)(hx:0≤x∧x<P):
  Calls Tryz.prog 92 #[.int .i64 P,.int .i64 0,.int .i64 x] w fun e w'=>e= .returned (.int .i64 (ngv P x))∧w=w':=
 Jv P 0 x w hP (by omega) hx
theorem SI.own_lt{w:World}{v:Value}{l:List Int}(h:SI w v l)(hl:0<l.length):∀k,v.ownBlock=some k→k<w.heap.size:=by
 obtain⟨A,c,rfl,_,_,_,ha⟩:=h;obtain⟨b,off,rfl,hb,_⟩:=ha hl;intro k hk;simp[Value.ownBlock] at hk;omega
theorem Kf{w:World}{base base':Nat}{e:TypeId}{size n:Nat}{v:Value}{xs:List Value}(h:w.ownsRow base e size v n xs)(hb:base'≤base):w.ownsRow base' e size v n xs:=by
 refine⟨h.1,?_⟩;rcases h.2 with⟨e1,e2⟩|⟨g,aA,aB,e1,hg,rest⟩
 ·exact .inl ⟨e1,e2⟩
 ·exact .inr ⟨g,aA,aB,e1,Nat.le_trans hb hg,rest⟩
theorem isz:(Tryz.prog.info? 3).map (·.size)=some 1:=by kernel_rfl
theorem Mw(l:List Int)(n:Nat)(_h:l.length≤n):splice ((Ay n).map (Value.int .i64)) 0 (l.map (Value.int .i64))=(Fk l n).map (Value.int .i64):=by
 simp[splice,Fk,Ay,List.map_append,List.drop_replicate]
def InR1(l:List (Int×Int))(B:Nat)(w1:World)(i v6 v7:Value)(wr:World):Prop:=
 ∃k:Nat,k≤l.length∧i= .int .i64 k∧Dr B wr v6 (shX (l.take k)) v7 (shY (l.take k))∧Below B w1 wr
def InR2(xs:List Int)(mb:Nat)(B:Nat)(w1:World)(i:Value)(wr:World):Prop:=
 ∃k:Nat,k≤xs.length∧i= .int .i64 k∧BM Tryz.prog 3 4 wr mb k (xs.take k).reverse∧(xs.take k).Nodup∧Below B w1 wr
def InR3(P:Int)(l:List (Int×Int))(B:Nat)(w1:World)(i vp vn:Value)(wr:World):Prop:=
 ∃k:Nat,k≤l.length∧i= .int .i64 k∧SI wr vp (Df P (l.take k)).1∧SI wr vn (Df P (l.take k)).2∧Below B w1 wr
theorem Ib{w:World}{v:Value}{l:List (Int×Int)}(h:SG pcs 2 w.heap.size w v l):∃A c,v= .slice A l.length c∧l.length≤c∧c≤9223372036854775807∧(∀x∈l,At x.1∧At x.2)∧
  (0<l.length→∃b aB,A=some ⟨b,aB,none⟩∧b<w.heap.size∧∀j (h:j<l.length),w.cell? ⟨b,aB+j*2,none⟩=some (.int .i64 l[j].1)∧w.cell? ⟨b,aB+j*2+1,none⟩=some (.int .i64 l[j].2)):=by
 obtain⟨A,c,rfl,hc,hm,hr,ha⟩:=h;refine⟨A,c,rfl,hc,hm,fun x hx=>⟨hr x hx x.1 (by simp[pcs]),hr x hx x.2 (by simp[pcs])⟩,fun h0=> ?_⟩
 obtain⟨b,aB,rfl,hb,aA⟩:=ha h0;exact⟨b,aB,rfl,hb,fun j hj=>⟨aA j hj 0 (by omega),aA j hj 1 (by omega)⟩⟩
theorem Sp(P:Int)(l:List (Int×Int))(v:Value)(w:World)(hP:At P)(h:SG pcs 2 w.heap.size w v l)(hlen:l.length≤1000000):
  Calls Tryz.prog 70 #[.agg #[.int .i64 P],v] w fun e w'=>∃v',e= .returned (.tuple #[v',.int .i64 (inE P l)])∧w'.ownsRow w.heap.size 3 1 v' (inP P l).length ((inP P l).map (Value.int .i64))∧Below w.heap.size w w':=by
 obtain⟨A,c,rfl,hc,hm,hr,ha⟩:=Ib h;have HA:=Zk ha;have HR:=Zk hr;clear ha hr h;go_enter Tryz.func70,Tryz.ntmps70;go_wp2_with fail;obtain⟨w1,ew⟩:∃w1:World,w1=w.alloc (.cells #[.int .i64 P] 31):=⟨_,rfl⟩;have cF:Below w.heap.size w w1:=by rw[ew];exact (Zb _ _).alloc (Zl _) _
 have fT:w.heap.size<w1.heap.size:=by rw[ew];simp
 have c0:w1.cell? ⟨w.heap.size,0,none⟩=some (.int .i64 P):=by rw[ew];exact Zc _ _ 0 _ _ (0,0) (Zh w _)
 rw[←ew];clear ew;go_loopw [23,6,7] (fun i v6 v7 wr=>InR1 l w1.heap.size w1 i v6 v7 wr) (fun i _ _ _=>l.length- (intOf i).toNat)
 case atStart=>exact⟨0,Nat.zero_le _,rfl,⟨World.ownsRow_nil _ _ _ _,World.ownsRow_nil _ _ _ _,fun k hk=>by simp[Value.ownBlock] at hk⟩,Zb _ _⟩
 case round=>
  obtain⟨k,hk,rfl,hT,hB⟩:=hrel;have HT:=Zk hT;have fZ:=hB.size;clear hT;by_cases hlt:k<l.length
  ·obtain⟨b,bI,rfl,hb,aA⟩:=HA.out (by omega);obtain⟨k0,k1⟩:=aA k hlt;have e0:=(hB.cell (p:=⟨b,bI+k*2,none⟩) (by show b<_;omega)).trans ((cF.cell hb).trans k0);have e1:=(hB.cell (p:=⟨b,bI+k*2+1,none⟩) (by show b<_;omega)).trans ((cF.cell hb).trans k1);have HX:=Zk (Ro l k hlt);have HY:=Zk (Rp l k hlt);have aZ:(shX (l.take k)).length≤k:=by rw[Fb];exact List.length_take_le _ _
   have hyl:(shY (l.take k)).length≤k:=by rw[Gs];exact List.length_take_le _ _
   have fD:decide ((k:Int)<(l.length:Int))=true:=Ze (by omega);have fE:decide (k<l.length)=true:=Ze hlt;clear aA k0 k1;go_upto_region 5 with fail
   obtain⟨wG,ew⟩:∃wG:World,wG=wr.alloc (.cells #[.int .i64 l[k].1,.int .i64 l[k].2] 114):=⟨_,rfl⟩;have eY:Below wr.heap.size wr wG:=by rw[ew];exact (Zb _ _).alloc (Zl _) _
   have fX:wr.heap.size<wG.heap.size:=by rw[ew];simp
   have x0:wG.cell? ⟨wr.heap.size,0,none⟩=some (.int .i64 l[k].1):=by rw[ew];exact Zc _ _ 0 _ _ (0,0) (Zh wr _)
   have x1:wG.cell? ⟨wr.heap.size,1,none⟩=some (.int .i64 l[k].2):=by rw[ew];exact Zc _ _ 1 _ _ (0,0) (Zh wr _)
   have eU:Hid (Dr w1.heap.size wG u6 (shX (l.take k)) u7 (shY (l.take k))):=by show Dr _ _ _ _ _ _;rw[ew];exact HT.out.alloc _
   have HG:Hid (∀q,u6.ownBlock=some q∨u7.ownBlock=some q→q≠wr.heap.size):=fun q hq=>by
    rcases hq with hq|hq
    ·have:=(HT.out.1.lt q hq).2;omega
    ·have:=(HT.out.2.1.lt q hq).2;omega
   rw[←ew];clear ew;apply reg5 w1.heap.size wr.heap.size l[k].1 l[k].2 (shX (l.take k)) (shY (l.take k)) u6 u7 wG eU.out x0 x1 HG.out fX (by omega) (by omega) (by omega);intro q27 q28 q29 q30 q31 q32 q33 q34 q35 q36 v6 v7 w2 dH cH;have eT:=Zk dH;clear dH x0 x1;go_wp2_with fail;go_roundw
   case rel=>exact⟨k+1,by omega,by go_num,by rw[HX.out,HY.out];exact eT.out,(hB.trans (eY.mono fZ)).trans cH⟩
   case measure=>simp[intOf];omega
  ·have dT:k=l.length:=by omega
   have dA:Hid (Dr w1.heap.size wr u6 (shX l) u7 (shY l)):=by show Dr _ _ _ _ _ _;have:=HT.out;rwa [dT,List.take_length] at this
   have fD:decide ((k:Int)<(l.length:Int))=false:=Zd (by omega);have fE:decide (k<l.length)=false:=Zd hlt;have cP:=(hB.cell (p:=⟨w.heap.size,0,none⟩) fT).trans c0;have bD:SI wr u6 (shX l):=SI.of_own dA.out.1 (fun x hx=>by
    simp only[shX,List.mem_map] at hx;obtain⟨p,hp,rfl⟩:=hx;exact (HR.out p hp).1)
   have bE:SI wr u7 (shY l):=SI.of_own dA.out.2.1 (fun x hx=>by
    simp only[shY,List.mem_map] at hx;obtain⟨p,hp,rfl⟩:=hx;exact (HR.out p hp).2)
   obtain⟨AX,cX,rfl⟩:=bD.form;obtain⟨AY,cY,rfl⟩:=bE.form;have eP:=Zk (SL.two bD bE 22);have eR:=Zk bD;have eS:=Zk bE;have dJ:=cF.trans (hB.mono (by omega));clear dT bD bE;rw[Fb,Gs] at*;go_wp2_with fail;(with_reducible refine (Ra P [shX l,shY l] _ _ hP eP.out).mono ?_);rintro e w2 ⟨rfl,cH⟩
   have aF:Below wr.heap.size wr w2:=((Zb _ _).alloc (Zl _) _).trans (cH.mono (by simp));have aR:=dJ.trans (aF.mono dJ.size);have hz2:=aF.size;obtain⟨oe,cC⟩:∃oe,opE P [shX l,shY l]=oe:=⟨_,rfl⟩;obtain⟨ov,cD⟩:∃ov,opV P [shX l,shY l]=ov:=⟨_,rfl⟩;rw[cC,cD];have aK:=Zk cC;have eE:=Zk cD;clear cC cD;by_cases h0:oe=0
   ·subst h0;obtain⟨hp,dO,dP,hl1,hl2⟩:=Uz aK.out;have fR:ov=P:=by rw[←eE.out];exact if_pos aK.out
    subst fR;have HP:=Zk hp;have eH:=Zk dO;have eI:=Zk dP;have aD:=Bj hp;have bP:=Zk (SI.below eR.out aF);have bS:=Zk (SI.below eS.out aF);clear hp dO dP;have fQ:(Instr.makeMap 142 none).run Tryz.prog w2= .ok (.map (some w2.heap.size)) (w2.alloc (.map #[] 0)):=run_makeMap _ w2;have aZ:=Fb l;go_wp2_with fail;obtain⟨w3,ew⟩:∃w3:World,w3=w2.alloc (.map #[] 0):=⟨_,rfl⟩;have aU:Below w2.heap.size w2 w3:=by rw[ew];exact (Zb _ _).alloc (Zl _) _
    have hz23:w2.heap.size<w3.heap.size:=by rw[ew];simp
    have aP:BM Tryz.prog 3 4 w3 w2.heap.size 0 []:=by rw[ew];exact BM.made _ _ _ _
    have bK:=Zk aP;rw[←ew];clear ew aP fQ;go_loopw [52] (fun i wr=>InR2 (shX l) w2.heap.size w2.heap.size w3 i wr) (fun i _=>(shX l).length- (intOf i).toNat)
    case atStart=>exact⟨0,Nat.zero_le _,rfl,bK.out,by simp,Zb _ _⟩
    case round=>
     obtain⟨k2,hk2,rfl,dM,dW,cE⟩:=hrel;have bJ:=Zk dM;have cU:=Zk dW;have aE:=aU.trans cE;have aH:=Zk (SI.below bP.out aE);clear dM dW;by_cases hlt2:k2<(shX l).length
     ·have cQ:k2<l.length:=by omega
      have cM:=SB.cells (n:=l.length) aH.out (by omega);obtain⟨bx,ox,rfl,fA,aA⟩:=cM;have hck:=aA k2 hlt2;have hr:At (shX l)[k2]:=by
       obtain⟨_,_,_,_,_,hr,_⟩:=aH.out;exact hr _ (List.getElem_mem hlt2)
      have fF:decide ((k2:Int)<(l.length:Int))=true:=Ze (by omega);have fG:decide (k2<l.length)=true:=Ze cQ;have cZ:Hid ((shX l).take (k2+1)=(shX l).take k2++[(shX l)[k2]]):=List.take_succ_eq_append_getElem hlt2;have HX:=Zk aZ;clear aA aZ
      cases hh:has ((shX l).take k2).reverse (shX l)[k2] with
      |true=>
       have aM:Hid (¬(shX l).Nodup):=fun hn=>by
        have h1:(shX l)[k2]∈(shX l).take k2:=by simpa [has] using hh
        obtain⟨j,hj,e⟩:=List.mem_iff_getElem.1 h1;rw[List.nodup_iff_pairwise_ne,List.pairwise_iff_getElem] at hn;simp at hj e;exact hn j k2 (by omega) hlt2 (by omega) e
       have HE:=Zk (zFp aK.out aM.out);have HH:=Zk hh;clear hh;go_wp2_with (at_lookup;refine Ge _ rfl _ _ 142 rfl 3 4 Tryz.underlying142 Tryz.underlying3 Tryz.underlying4 (zFw _) w2.heap.size k2 _ rfl (by exact bJ.out) _ rfl hr ?_;rw[HH.out]);go_ret2;exact⟨.slice none 0 0,by rw[HE.out.1];rfl,by rw[HE.out.2];exact World.ownsRow_nil _ _ _ _,aR.trans (aE.mono aR.size)⟩
      |false=>
       have aM:Hid (((shX l).take (k2+1)).Nodup):=by
        show List.Nodup _;rw[cZ.out,List.nodup_append];refine⟨cU.out,by simp,fun a ha b hb e=> ?_⟩
        simp at hb;subst hb e;simp[has] at hh;exact hh ha
       have HH:=Zk hh;clear hh;go_wp2_with (first
        |(at_lookup;refine Ge _ rfl _ _ 142 rfl 3 4 Tryz.underlying142 Tryz.underlying3 Tryz.underlying4 (zFw _) w2.heap.size k2 _ rfl (by exact bJ.out) _ rfl hr ?_;rw[HH.out])
        |(at_mapUpdate;refine Ko _ rfl _ _ _ 142 rfl 3 4 Tryz.underlying142 Tryz.underlying3 Tryz.underlying4 w2.heap.size k2 _ rfl (by exact bJ.out) (by unfold maxLen;omega) _ rfl hr rfl ?_;intro w4 aV fK))
       have bL:=Zk aV;clear aV;go_roundw
       case rel=>exact⟨k2+1,by omega,by go_num,by rw[cZ.out,List.reverse_append];exact bL.out,aM.out,Below.grown cE fK (Nat.le_trans aU.size cE.size) (fun q e=>by cases e;exact Zl _)⟩
       case measure=>simp[intOf];omega
     ·have aX:k2=(shX l).length:=by omega
      have aM:Hid ((shX l).Nodup):=by show List.Nodup _;have:=cU.out;rwa [aX,List.take_length] at this
      have fF:decide ((k2:Int)<(l.length:Int))=false:=Zd (by omega);have fG:decide (k2<l.length)=false:=Zd (by omega);have bV:=Zk (SI.below bS.out aE);have HE:=Zk (zAg aK.out aM.out);have aS:=aR.trans (aE.mono aR.size);have HX:=Zk aZ;clear aX aZ;go_wp2_with fail;obtain⟨wN,ew⟩:∃wN:World,wN=wr.alloc (.cells #[.int .i64 1] 3):=⟨_,rfl⟩;have cJ:Below wr.heap.size wr wN:=by rw[ew];exact (Zb _ _).alloc (Zl _) _
      have fY:wr.heap.size<wN.heap.size:=by rw[ew];simp
      have dD:SI wN (.slice (some ⟨wr.heap.size,0,none⟩) 1 1) [1]:=⟨_,1,rfl,Zl _,by omega,by intro x hx;simp at hx;subst hx;unfold At;omega,fun _=>⟨wr.heap.size,0,rfl,fY,fun j hj=>by
       have fL:j=0:=by simp at hj;omega
       subst fL;rw[ew];exact Zc _ _ 0 _ _ (0,0) (Zh wr _)⟩⟩
      have eM:=Zk dD;rw[←ew];clear ew dD;have bR:=Zk (SI.below aH.out cJ);have bU:=Zk (SI.below bV.out cJ);have cG:=aS.trans (cJ.mono aS.size);obtain⟨wo,rfl⟩:∃wo:World,wo=wr:=⟨_,rfl⟩;go_loopw [65,15,16] (fun i vp vn wr=>InR3 ov l wN.heap.size wN i vp vn wr) (fun i _ _ _=>l.length- (intOf i).toNat)
      case atStart=>exact⟨0,Nat.zero_le _,rfl,⟨none,0,rfl,Zl _,by omega,by simp[Df],fun h=>by simp[Df] at h⟩,eM.out,Zb _ _⟩
      case round=>
       obtain⟨k3,hk3,rfl,eD,eC,aO⟩:=hrel;have aN:=Zk eD;have bC:=Zk eC;have bA:=aO.size;clear eD eC;by_cases hlt3:k3<l.length
       ·have fN:k3<(shX l).length:=by rw[HX.out];exact hlt3
        have fO:k3<(shY l).length:=by rw[Gs];exact hlt3
        have bQ:=Zk (SI.below bR.out aO);have bT:=Zk (SI.below bU.out aO);have cM:=SB.cells (n:=l.length) bQ.out (by omega);obtain⟨bx,ox,rfl,fA,aA⟩:=cM;have cL:=aA k3 fN;have fC:=SB.cells (n:=l.length) bT.out (by omega);obtain⟨bY,oY,rfl,eZ,aB⟩:=fC;have aW:=aB k3 fO;clear aA aB;rw[show (shX l)[k3]=l[k3].1 from by simp[shX]] at cL;rw[show (shY l)[k3]=l[k3].2 from by simp[shY]] at aW;have dQ:=Co (Be eH.out l[k3].1 (by simp[shX];exact⟨_,List.getElem_mem hlt3⟩));have fJ:=Co (Be eI.out l[k3].2 (by simp[shY];exact⟨_,List.getElem_mem hlt3⟩));have bN:=Zk (Nw ov l k3 hlt3);have bH:=Mk ov (l.take k3);have cO:=Jo (P:=ov) aD.1 (l.take k3);have bM:=Zk cO.1;have bB:=Zk cO.2;rw[List.length_take,Nat.min_eq_left (by omega)] at bH;have dU:(Df ov (l.take k3)).1.length=k3:=by rw[bH.1];split<;>omega
        have dV:(Df ov (l.take k3)).2.length=k3+1:=bH.2;clear bH cO;generalize Df ov (l.take k3)=s at aN bC bN bM bB dU dV;obtain⟨AP,cp,rfl⟩:=aN.out.form;obtain⟨AN,cn,rfl⟩:=bC.out.form;have hs1:s.1.length≤512:=by omega
        have hs2:s.2.length≤513:=by omega
        have eB:s.1.length≤s.2.length:=by omega
        have fS:1≤s.2.length:=by omega
        clear dU dV;have fH:decide ((k3:Int)<(l.length:Int))=true:=Ze (by omega);have fI:decide (k3<l.length)=true:=Ze hlt3;go_upto_region 23 with fail
        apply reg23 ov l[k3].1 l[k3].2 s.1 s.2 (.slice AP s.1.length cp) (.slice AN s.2.length cn) bY oY l.length cY k3 wr HP.out dQ fJ bM.out bB.out (by omega) (by omega) aN.out bC.out hlt3 eZ aW;intro q70 q71 q72 q73 q74 q75 q76 q77 q78 q79 q80 q81 q82 q83 q84 q85 q86 q87 w6 aL;have cT:Hid (byN ov (s.1,s.2) (l[k3].1,l[k3].2)=byN ov s l[k3]):=rfl;have dN:0≤byN ov s l[k3]∧byN ov s l[k3]<ov:=⟨Int.emod_nonneg _ (by omega),Int.emod_lt_of_pos _ (by omega)⟩;rw[cT.out];have aC:Hid (Df ov (l.take (k3+1))=(Bl ov (Fk s.1 s.2.length) 0 (byN ov s l[k3]) s.2,Du ov s.2 [ngv ov l[k3].1,1])):=bN.out;generalize byN ov s l[k3]=by_ at dN aC⊢;generalize l[k3].1=x at*;generalize l[k3].2=y at*;clear cT bN;have cA:=Zk (SI.below aN.out aL);have aI:=Zk (SI.below bC.out aL);have fU:=aL.size;obtain⟨wA,eA⟩:∃wA:World,wA=w6.alloc (.cells ((Ay s.2.length).map (Value.int .i64)).toArray 3):=⟨_,rfl⟩;have dL:Below w6.heap.size w6 wA:=by rw[eA];exact (Zb _ _).alloc (Zl _) _
        have dC:wA.heap[w6.heap.size]? =some (.cells ((Ay s.2.length).map (Value.int .i64)).toArray 3 (0,0)):=by rw[eA];exact Zh w6 _
        have eJ:=Zk dC;have cB:=Zk (SI.below cA.out dL);clear dC;have bO:Hid (0<(s.1.map (Value.int .i64)).length→some (⟨w6.heap.size,0,none⟩:Addr)=some ⟨w6.heap.size,0,none⟩∧∃ad,AP=some ad∧∀j v,(s.1.map (Value.int .i64))[j]? =some v→wA.cell? (ad.add j)=some v):=fun h0=>by
         refine⟨rfl,?_⟩;obtain⟨b,bI,e,_,fB⟩:=SB.cells cB.out (by simpa using h0);refine⟨⟨b,bI,none⟩,e,fun j v hv=> ?_⟩
         rw[List.getElem?_map] at hv;obtain⟨q,hq,rfl⟩:=Option.map_eq_some_iff.1 hv;obtain⟨hj,rfl⟩:=List.getElem?_eq_some_iff.1 hq;rw[Addr.add_lit];exact fB j hj
        go_wp2_with (first
         |(at_make;refine Bn _ rfl _ _ 22 rfl 3 Tryz.underlying22 Bi _ s.2.length rfl rfl rfl (by omega) ?_;rw[←eA];clear eA)
         |(with_reducible refine wpList_copy_splice rfl (.tmp 91) (.tmp 92) 22 22 rfl 3 Tryz.underlying22 isz (some ⟨w6.heap.size,0,none⟩) AP s.2.length s.2.length s.1.length cp rfl rfl w6.heap.size 0 ((Ay s.2.length).map (Value.int .i64)) 3 eJ.out (s.1.map (Value.int .i64)) (by rw[List.length_map];exact (Nat.min_eq_left eB).symm) (by exact bO.out) (by simp[Ay];omega) (Hk s.1) w6.heap.size w6 dL (Zl _) ?_;intro w7 dR cI))
        have eF:Hid (BK w7 w6.heap.size (Fk s.1 s.2.length)):=by
         show w7.heap[w6.heap.size]? =_;rw[←Mw s.1 s.2.length eB];exact dR.out
        have bW:=Zk (SI.below aI.out cI);have eK:Hid (∀q,(Value.slice AN s.2.length cn).ownBlock=some q→q≠w6.heap.size):=fun q hq=>by
         have:=aI.out.own_lt (by omega) q hq;omega
        have dY:els ov (Fk s.1 s.2.length)=true:=by
         refine Ce fun z hz=> ?_
         simp only[Fk,List.mem_append] at hz;rcases hz with hz|hz
         ·exact Be bM.out z hz
         ·exact Be (Di aD.1 _) z hz
        have cV:=Zk dY;have dZ:(Fk s.1 s.2.length).length=s.2.length:=by simp[Fk,Ay];omega
        have cW:=Zk dZ;clear dR dY dZ;(with_reducible refine (Gf ov w6.heap.size 0 _ _ (Fk s.1 s.2.length) by_ s.2 _ _ aD dN cV.out bB.out eF.out bW.out eK.out (Zl _) (by rw[cW.out];omega)).mono ?_);rintro e w8 ⟨⟨v8,rfl⟩,dK,bG⟩
        have cS:=Zk dK;have cN:=bG;have fV:=cI.size;have hz8:=bG.size;have aQ:Below w6.heap.size w6 w8:=Below.grown cI bG fV (fun q e=>by cases e;exact Zl _)
        have bX:=Zk (SI.below aI.out aQ);have cK:w6.heap.size<w8.heap.size:=cS.out.lt;clear dK bG cN;go_wp2_with fail;(with_reducible refine (zEf ov x _ aD dQ).mono ?_);rintro e w' ⟨rfl,rfl⟩
        have dX:0≤ngv ov x∧ngv ov x<ov:=⟨Int.emod_nonneg _ (by omega),Int.emod_lt_of_pos _ (by omega)⟩;generalize ngv ov x=nx at dX aC⊢;go_wp2_with fail;obtain⟨w9,e9⟩:∃w9:World,w9=w8.alloc (.cells #[.int .i64 nx,.int .i64 1] 3):=⟨_,rfl⟩;have bF:Below w8.heap.size w8 w9:=by rw[e9];exact (Zb _ _).alloc (Zl _) _
        have fW:w8.heap.size<w9.heap.size:=by rw[e9];simp
        have dE:SI w9 (.slice (some ⟨w8.heap.size,0,none⟩) 2 2) [nx,1]:=⟨_,2,rfl,Zl _,by omega,by intro z hz;simp at hz;rcases hz with rfl|rfl<;>(unfold At;omega),fun _=>⟨w8.heap.size,0,rfl,fW,fun j hj=>by
         rw[e9];have fM:j=0∨j=1:=by simp at hj;omega
         rcases fM with rfl|rfl
         ·exact Zc _ _ 0 _ _ (0,0) (Zh w8 _)
         ·exact Zc _ _ 1 _ _ (0,0) (Zh w8 _)⟩⟩
        rw[←e9];clear e9;have eN:=Zk dE;have bZ:=Zk (SI.below bX.out bF);have eG:Hid (els ov [nx,1]=true):=Ce fun z hz=>by
         simp at hz;rcases hz with rfl|rfl
         ·exact Ex dX
         ·exact Ex (by omega)
        clear dE;(with_reducible refine (Wt ov s.2 [nx,1] _ _ _ aD bZ.out eN.out bB.out eG.out fS (by simp) (by omega) (by simp)).mono ?_);rintro e cR ⟨eW,rfl,aT,hg10,aJ⟩
        have hz10:=aJ.size;have dS:BK cR w6.heap.size (Bl ov (Fk s.1 s.2.length) 0 by_ s.2):=BK.below (BK.below cS.out bF cK) aJ (by omega);have eX:(Du ov s.2 [nx,1]).length=s.2.length+1:=by have:=Fh ov s.2 [nx,1] s.2.length;simpa [Du,Cz] using this
        have dB:(Bl ov (Fk s.1 s.2.length) 0 by_ s.2).length=s.2.length:=by rw[Bg];exact cW.out
        have dF:SI cR (.slice (some ⟨w6.heap.size,0,none⟩) s.2.length s.2.length) (Bl ov (Fk s.1 s.2.length) 0 by_ s.2):=by
         have:=dS.si (o:=0) (Ci aD.2 (Cq aD.1 cV.out 0 by_ s.2)) (by omega) (Nat.zero_le _);rw[dB] at this;simpa using this
        have dG:SI cR (.slice (some ⟨eW,0,none⟩) (Du ov s.2 [nx,1]).length (Du ov s.2 [nx,1]).length) (Du ov s.2 [nx,1]):=by
         have:=aT.si (o:=0) (Ci aD.2 (Gu aD.1 s.2 [nx,1] s.2.length)) (by omega) (Nat.zero_le _);simpa using this
        have eO:=Zk dF;have eQ:=Zk dG;clear dS eX dB dF dG aT;go_wp2_with fail;go_roundw
        case rel=>
         refine⟨k3+1,by omega,by go_num,?_,?_,?_⟩
         ·rw[aC.out];exact eO.out
         ·rw[aC.out];exact eQ.out
         ·exact aO.trans (((aL.trans (aQ.mono fU)).trans ((bF.trans (aJ.mono bF.size)).mono (by omega))).mono bA)
        case measure=>simp[intOf];omega
       ·have aY:k3=l.length:=by omega
        have fH:decide ((k3:Int)<(l.length:Int))=false:=Zd (by omega);have fI:decide (k3<l.length)=false:=Zd hlt3;have dI:SI wr u15 (Df ov l).1:=by have:=aN.out;rwa [aY,List.take_length] at this
        have eV:=Zk dI;have fP:(Df ov l).1.length≤1000000:=by
         have:=(Mk ov l).1;split at this<;>omega
        clear aY dI;go_wp2_with fail;(with_reducible refine (Lm (Df ov l).1 _ _ eV.out fP).mono ?_);rintro e w6 ⟨v6,rfl,aG,aL⟩
        have eL:=Zk aG;clear aG;go_wp2_with fail;go_ret2;refine⟨v6,by rw[HE.out.1];rfl,?_,cG.trans ((aO.trans (aL.mono bA)).mono cG.size)⟩;rw[HE.out.2];exact Kf eL.out (by have:=cG.size;omega)
   ·have HE:=Zk (zAh (P:=P) (l:=l) (by rw[aK.out];exact h0));have hb1:(oe !=0)=true:=by rw[bne_iff_ne];exact h0
    have H0:=Zk h0;clear h0;go_wp2_with fail;go_ret2;exact⟨.slice none 0 0,by rw[HE.out.1,aK.out];rfl,by rw[HE.out.2];exact World.ownsRow_nil _ _ _ _,aR⟩
open Go.RowKit Go.Shelf
attribute [local go_sem] Oper.semAt_some
def SCl(w:World)(v:Value)(l:List (Int×Bool)):Prop:=
 ∃A c,v= .slice A l.length c∧l.length≤c∧c≤9223372036854775807∧(∀x∈l,At x.1)∧
  (0<l.length→∃b off,A=some ⟨b,off,none⟩∧b<w.heap.size∧∀j (h:j<l.length),w.cell? ⟨b,off+j*2,none⟩=some (.int .i64 l[j].1)∧w.cell? ⟨b,off+j*2+1,none⟩=some (.bool l[j].2))
theorem SCl.below{w w':World}{v:Value}{l:List (Int×Bool)}(h:SCl w v l)(hb:Below w.heap.size w w'):SCl w' v l:=by
 obtain⟨A,c,rfl,hc,hm,hr,ha⟩:=h;refine⟨A,c,rfl,hc,hm,hr,fun h0=> ?_⟩
 obtain⟨b,aC,rfl,aB,aA⟩:=ha h0;exact⟨b,aC,rfl,by have:=hb.size;omega,fun j hj=>⟨(hb.cell aB).trans (aA j hj).1,(hb.cell aB).trans (aA j hj).2⟩⟩
theorem SCl.form{w:World}{v:Value}{l:List (Int×Bool)}(h:SCl w v l):∃A c,v= .slice A l.length c:=by
 obtain⟨A,c,rfl,_⟩:=h;exact⟨A,c,rfl⟩
def knF:Nat→List (Int×Bool)→List (Int×Int)
 |_,[]=>[]
 |i,c::t=>(if c.2=true then [((i:Int)+1,c.1)] else [])++knF (i+1) t
def kn(l:List (Int×Bool)):List (Int×Int):=knF 0 l
theorem Uv(a b:List (Int×Bool)):∀i,knF i (a++b)=knF i a++knF (i+a.length) b:=by
 induction a with
 |nil=>intro i;rfl
 |cons c a ih=>intro i;simp only[List.cons_append,knF,ih,List.length_cons,List.append_assoc,Nat.add_assoc,Nat.add_comm 1]
theorem Hv(l:List (Int×Bool))(k:Nat)(h:k<l.length):kn (l.take (k+1))=kn (l.take k)++(if l[k].2=true then [((k:Int)+1,l[k].1)] else []):=by
 unfold kn;rw[List.take_succ_eq_append_getElem h,Uv];simp only[knF,List.append_nil,List.length_take,Nat.zero_add,Nat.min_eq_left (Nat.le_of_lt h)]
theorem zAm(l:List (Int×Bool))(k:Nat):kn (l.take k)=(kn l).take (kn (l.take k)).length:=by
 have:kn l=kn (l.take k)++knF (0+(l.take k).length) (l.drop k):=by
  conv=>lhs;rw[←List.take_append_drop k l]
  exact Uv _ _ 0
 rw[this,List.take_left]
theorem Ft(l:List (Int×Bool)):∀i,(knF i l).length≤l.length:=by
 induction l with
 |nil=>intro i;exact Zl _
 |cons c l ih=>intro i;have:=ih (i+1);simp only[knF,List.length_append,List.length_cons];split<;>simp<;>omega
theorem zDp(l:List (Int×Bool))(k:Nat)(h:k<l.length)(hk:l[k].2=true):∃hj:(kn (l.take k)).length<(kn l).length,(kn l)[(kn (l.take k)).length]=((k:Int)+1,l[k].1):=by
 have h1:=Hv l k h;rw[if_pos hk] at h1;have h2:=zAm l (k+1);rw[h1] at h2;have hl:(kn (l.take k)).length<(kn l).length:=by
  have:=congrArg List.length h2;simp at this;omega
 refine⟨hl,?_⟩;have h3:=congrArg (fun t=>t[(kn (l.take k)).length]?) h2
 simp only[List.length_append,List.length_singleton] at h3;rw[List.getElem?_append_right (Zl _),Nat.sub_self] at h3;simp[hl] at h3;exact h3.symm
def upA(n k:Nat):List (Fin n):=(List.range k).filterMap fun i=>if h:i<n then some ⟨i,h⟩ else none
theorem Gd{n k:Nat}(h:k<n):upA n (k+1)=upA n k++[⟨k,h⟩]:=by
 unfold upA;rw[List.range_succ,List.filterMap_append];simp[h]
theorem Fi{n k:Nat}(h:k≤n):(upA n k).length=k:=by
 induction k with
 |zero=>rfl
 |succ k ih=>rw[Gd (by omega),List.length_append,ih (by omega)];rfl
theorem zGt(n:Nat)(hn:1≤n)(lr Bs b off c:Nat)(K:Nat→Prop)(l:List (Int×Bool))(hb:K b)(hz:l.length≤1000000)(J Jx:List (Fin (kn l).length)→World→Prop)
  (W:World) (hK:∀k,K k→k<W.heap.size) (hJ:AbidesFrom W.heap.size J)
  (hY:∀pre x W,J pre W→pre.length<(kn l).length→YieldAt Fence.wide (n-1) Tryz.prog lr #[.int .i64 (kn l)[x].1,.int .i64 (kn l)[x].2] W fun e W'=>
   (e= .returned (.bool true)∧J (pre++[x]) W'∧KB K W W')∨(e= .returned (.bool false)∧Jx (pre++[x]) W'))
  (hBs:W.cell? ⟨Bs,0,none⟩=some (.slice (some ⟨b,off,none⟩) l.length c)) (hc:∀j (h:j<l.length),W.cell? ⟨b,off+j*2,none⟩=some (.int .i64 l[j].1)∧W.cell? ⟨b,off+j*2+1,none⟩=some (.bool l[j].2)) (h0:J [] W):
  CallsIn Fence.wide n Tryz.prog 153 #[.func (.yield lr) #[] #[],.pointer (some ⟨Bs,0,none⟩)] W fun e W'=>(∃v,e= .returned v)∧
   ((∃ys,ys=upA (kn l).length (kn l).length∧J ys W')∨(∃pre,(∃k,k≤(kn l).length∧pre=upA (kn l).length k)∧Jx pre W')):=by
 refine callsIn_of_wp Tryz.func153 rfl trivial ?_ rfl;simp only[Tryz.ntmps153,List.size_toArray,List.length_cons,List.length_nil,Nat.reduceAdd,Nat.reduceSub,Array.replicate_succ,Array.replicate_zero,List.push_toArray,List.append_toArray,List.nil_append,List.cons_append];have HC:=Zk hc;have HY:=Zk hY;have HJ:=Zk hJ;clear hc hY hJ;gi_wp2_with fail
 gi_loopw [7] (fun i wr=>∃k:Nat,k≤l.length∧i= .int .i64 k∧J (upA (kn l).length (kn (l.take k)).length) wr∧KB K W wr) (fun i _=>l.length- (intOf i).toNat)
 case atStart=>exact⟨0,Nat.zero_le _,rfl,h0,KB.refl _ _⟩
 case round=>
  obtain⟨k,hk,rfl,aF,aA⟩:=hrel;have HN:=Zk aA;have hzr:=aA.1;by_cases hlt:k<l.length
  ·have e0:=(aA.2 ⟨b,off+k*2,none⟩ hb).trans (HC.out k hlt).1;have e1:=(aA.2 ⟨b,off+k*2+1,none⟩ hb).trans (HC.out k hlt).2;have aE:=Zk (Hv l k hlt);have aL:decide ((k:Int)<(l.length:Int))=true:=Ze (by omega);have hd2:decide (k<l.length)=true:=Ze hlt;have aD:J (upA (kn l).length (kn (l.take k)).length) (wr.alloc (.cells #[.int .i64 l[k].1,.bool l[k].2] 140)):=HJ.out _ _ _ none aF (World.grownBy_alloc wr _ none) (by simp);have aJ:KB K wr (wr.alloc (.cells #[.int .i64 l[k].1,.bool l[k].2] 140)):=KB.of ((Zb wr.heap.size wr).alloc (Zl _) _) (fun q hq=>by have:=hK q hq;omega)
   have aB:=Zk aJ;clear aA aJ
   cases hkk:l[k].2 with
   |false=>
    rw[hkk] at e1 aD aB;have aC:Hid (kn (l.take (k+1))=kn (l.take k)):=by show _=_;rw[aE.out,hkk];simp
    have aI:=Zk hkk;clear hkk
    gi_wp2
    refine⟨fun _ h=>(by cases h),?_⟩
    gi_wp2
    go_roundw
    case rel=>exact⟨k+1,by omega,by go_num,by rw[aC.out];exact aD,Il HN.out aB.out⟩
    case measure=>simp[intOf];omega
   |true=>
    rw[hkk] at e1 aD aB;obtain⟨hj,aH⟩:=zDp l k hlt hkk;have aC:Hid (upA (kn l).length (kn (l.take (k+1))).length=upA (kn l).length (kn (l.take k)).length++[⟨_,hj⟩]):=by
     show _=_;rw[aE.out,if_pos hkk,List.length_append];exact Gd hj
    obtain⟨fn,tmps,assign,body,hy,hR⟩:=HY.out _ ⟨_,hj⟩ _ aD (by rw[Fi (Nat.le_of_lt hj)];exact hj);simp only[Fin.getElem_fin,aH] at hy;have HJX:=Zk aH;have aI:=Zk hkk;clear hkk aH
    gi_wp2
    refine hR.mono ?_;rintro e W3 (⟨rfl,aK,aM⟩|⟨rfl,aG⟩)
    ·gi_wp2
     go_roundw
     case rel=>exact⟨k+1,by omega,by go_num,by rw[aC.out];exact aK,Il (Il HN.out aB.out) aM⟩
     case measure=>simp[intOf];omega
    ·gi_wp2
     refine bodyPost_ret (results_none rfl _ _ _) rfl ?_;exact⟨⟨_,rfl⟩,.inr ⟨_,⟨(kn (l.take (k+1))).length,by rw[aE.out,List.length_append];rw[if_pos aI.out];exact hj,aC.out.symm⟩,aG⟩⟩
  ·obtain rfl:k=l.length:=by omega
   have HT:Hid (J (upA (kn l).length (kn l).length) wr):=by show J _ _;rwa [List.take_length] at aF
   have aL:decide (((l.length:Nat):Int)<(l.length:Int))=false:=Zd (by omega);clear aA aF
   gi_wp2
   go_end0
   exact⟨⟨_,rfl⟩,.inl ⟨_,rfl,HT.out⟩⟩
theorem Js(n m:Nat)(f:Nat→Int):sm (n+m) f=sm n f+sm m (fun j=>f (n+j)):=by
 induction m with
 |zero=>simp[sm]
 |succ m ih=>rw[←Nat.add_assoc];simp only[sm];rw[ih];omega
theorem zBo(n:Nat)(f:Nat→Int):sm (n+1) f=f 0+sm n (fun j=>f (j+1)):=by
 rw[Nat.add_comm,Js];simp only[sm];have:(fun j=>f (1+j))=fun j=>f (j+1):=by funext j;rw[Nat.add_comm]
 rw[this];omega
theorem Rr(a:Int)(n:Nat)(f:Nat→Int):sm n (fun j=>a*f j)=a*sm n f:=by
 induction n with
 |zero=>simp[sm]
 |succ n ih=>simp only[sm,ih,Int.mul_add]
theorem Ug(l:List Int)(x:Int):ez l x=sm l.length fun j=>gd l j*x^j:=by
 induction l with
 |nil=>rfl
 |cons c l ih=>
  rw[Cg,List.length_cons,zBo,ih];have h0:gd (c::l) 0*x^0=c:=by simp[gd]
  rw[h0];congr 1;rw[←Rr];refine Gt fun k _=> ?_
  have:gd (c::l) (k+1)=gd l k:=by simp[gd]
  rw[this,Int.pow_succ,Int.mul_left_comm,Int.mul_comm x]
def pw(P x:Int)(n:Nat):List Int:=(List.range n).map fun j=>x^j%P
theorem Eh(P x:Int)(n:Nat):(pw P x n).length=n:=by simp[pw]
theorem pw_gd{P x:Int}{n j:Nat}(h:j<n):gd (pw P x n) j=x^j%P:=by
 rw[Bw (by rw[Eh];exact h)];simp[pw]
theorem zBe{P:Int}(hP:2≤P)(x:Int)(n:Nat):els P (pw P x n)=true:=Ce fun y hy=>by
 obtain⟨j,_,rfl⟩:=List.mem_map.1 hy;exact Fq hP _
def ngl(P y:Int)(l:List Int):List Int:=l.map fun t=>(0-y*t%P+P)%P
def Kx(P:Int)(a e:Nat)(t:Int×Int):List Int:=pw P t.1 a++ngl P t.2 (pw P t.1 e)++[t.2*(t.1^e%P)%P]
theorem Fr(a b:List Int)(k:Nat):gd (a++b) k=if k<a.length then gd a k else gd b (k-a.length):=by
 unfold gd;rw[List.getElem?_append];split<;>rfl
theorem Cl(P a:Int):P∣a%P-a:=by
 have:P∣a-a%P:=Mi _ _;have h:=Int.dvd_neg.2 this;have e: -(a-a%P)=a%P-a:=by omega
 rwa [e] at h
theorem Bd{P a b:Int}(h:P∣a)(e:a=b):P∣b:=e▸h
theorem Ux(P:Int)(a e:Nat)(t:Int×Int)(s:List Int)(hs:s.length=a+e):
  P∣dh (a+e+1) (Kx P a e t) (s++[-1])- (ez (s.take a) t.1-t.2*ez (s.drop a++[1]) t.1):=by
 rw[Of _ hs];have hA:ez (s.take a) t.1=sm a fun j=>gd s j*t.1^j:=by
  rw[Ug,List.length_take,Nat.min_eq_left (by omega)];exact Gt fun k hk=>by rw[Fl,if_pos hk]
 have hB:ez (s.drop a++[1]) t.1=sm e (fun j=>gd s (a+j)*t.1^j)+t.1^e:=by
  rw[Ug];have:(s.drop a++[1]).length=e+1:=by simp;omega
  rw[this];simp only[sm];have hd:(s.drop a).length=e:=by simp;omega
  congr 1
  ·refine Gt fun k hk=> ?_
   rw[Fr,if_pos (by omega)];congr 1;unfold gd;rw[List.getElem?_drop]
  ·rw[Fr,if_neg (by omega),hd,Nat.sub_self];simp[gd]
 have aA:(pw P t.1 a++ngl P t.2 (pw P t.1 e)).length=a+e:=by simp[Eh,ngl]
 have hC:gd (Kx P a e t) (a+e)=t.2*(t.1^e%P)%P:=by
  unfold Kx;rw[Fr,if_neg (by omega),aA,Nat.sub_self];simp[gd]
 rw[hC,Js];have p1:P∣sm a (fun k=>gd (Kx P a e t) k*gd s k)- (sm a (fun _=>0)+1*sm a (fun j=>gd s j*t.1^j)):=by
  refine Mt fun k hk=> ?_
  have:gd (Kx P a e t) k=t.1^k%P:=by
   unfold Kx;rw[Fr,if_pos (by omega),Fr,if_pos (by rw[Eh];exact hk),pw_gd hk]
  rw[this];refine Bd (dvl (k:=gd s k) (Cl P (t.1^k))) ?_;rw[Int.sub_mul,Int.mul_comm (t.1^k)];omega
 have p2:P∣sm e (fun j=>gd (Kx P a e t) (a+j)*gd s (a+j))- (sm e (fun _=>0)+(-t.2)*sm e (fun j=>gd s (a+j)*t.1^j)):=by
  refine Mt fun k hk=> ?_
  have:gd (Kx P a e t) (a+k)=(0-t.2*(t.1^k%P)%P+P)%P:=by
   unfold Kx;rw[Fr,if_pos (by omega),Fr,if_neg (by rw[Eh];omega),Eh];have:a+k-a=k:=by omega
   rw[this,Bw (by simpa [ngl,Eh] using hk)];simp[ngl,pw]
  rw[this];obtain⟨q,hq⟩:=Lj (P:=P) (a:=t.2*(t.1^k%P)%P);rw[hq];have h1:=Cl P (t.2*(t.1^k%P));have h2:=dvr (k:=t.2) (Cl P (t.1^k));have h3:=dvl (k:= -gd s (a+k)) (Int.dvd_add h1 h2);have h4:=Int.dvd_add h3 (Int.dvd_mul_right P (q*gd s (a+k)));refine Bd h4 ?_;rw[Int.mul_sub,Int.add_mul,Int.sub_mul,Int.sub_mul,Int.add_mul,Int.mul_assoc P q];have e1: -t.2*(gd s (a+k)*t.1^k)=t.2*t.1^k* -gd s (a+k):=by
   rw[Int.neg_mul,Int.mul_neg,Int.mul_assoc,Int.mul_comm (t.1^k)]
  rw[e1];simp only[Int.mul_neg,Int.neg_mul];omega
 have p3:P∣t.2*(t.1^e%P)%P-t.2*t.1^e:=by
  have h1:=Cl P (t.2*(t.1^e%P));have h2:=dvr (k:=t.2) (Cl P (t.1^e));refine Bd (Int.dvd_add h1 h2) ?_;rw[Int.mul_sub];omega
 rw[hA,hB];rw[Jt] at p1 p2;refine Bd (Int.dvd_sub (Int.dvd_add p1 p2) p3) ?_;rw[Int.mul_add,Int.neg_mul];omega
def wrk(P:Int)(K:List (Int×Int))(p:List Int):List (Int×Int):=K.filter fun t=> !(val P p t.1==t.2)
def wrg(P:Int)(l:List (Int×Bool))(p:List Int):List Int:=(wrk P (kn l) p).map Prod.fst
structure Fp (P:Int) (K:List (Int×Int)) (k e:Nat) (p:List Int):Prop where
 len:p.length≤k
 els:els P p=true
 trm:Bf p=p
 few:(wrk P K p).length≤e
structure Pts (P:Int) (K:List (Int×Int)):Prop where
 dif:K.Pairwise fun a b=>¬P∣a.1-b.1
 val:∀t∈K,0≤t.2∧t.2<P
def Sol(P:Int)(K:List (Int×Int))(a e:Nat)(s:List Int):Prop:=s.length=a+e∧∀t∈K,P∣dh (a+e+1) (Kx P a e t) (s++[-1])
theorem Lu{P y:Int}{p:List Int}{x:Int}(h:val P p x=y):P∣ez p x-y:=by
 rw[Kk] at h;rw[←h];have:=Int.dvd_neg.2 (Cl P (ez p x));exact Bd this (by omega)
def De:List Int→Nat→List Int
 |[],n=>List.replicate n 0++[1]
 |a::X,n=>Bk (0::De X n) (Ew (-a) (De X n))
theorem Qu(X:List Int)(n:Nat):(De X n).length=X.length+n+1:=by
 induction X with
 |nil=>simp[De]
 |cons a X ih=>simp only[De,Ey,Fj,List.length_cons,ih];omega
theorem Lw(l m:List Int)(k:Nat):gd (Bk l m) k=gd l k+gd m k:=by
 induction l generalizing m k with
 |nil=>cases m<;>simp[Bk,gd]
 |cons c l ih=>cases m with
  |nil=>simp[Bk,gd]
  |cons d m=>cases k with
   |zero=>simp[Bk,gd]
   |succ k=>have:=ih m k;simpa [Bk,gd] using this
theorem Lv(a:Int)(l:List Int)(k:Nat):gd (Ew a l) k=a*gd l k:=by
 unfold gd Ew;rw[List.getElem?_map]
 cases l[k]? <;>simp
theorem Wf(X:List Int)(n:Nat):gd (De X n) (X.length+n)=1:=by
 induction X with
 |nil=>simp[De,gd]
 |cons a X ih=>
  have e1:(a::X).length+n=(X.length+n)+1:=by simp;omega
  rw[De,Lw,Lv,e1,Ee (l:=De X n) (by rw[Qu];omega)];have:gd (0::De X n) (X.length+n+1)=gd (De X n) (X.length+n):=by simp[gd]
  rw[this,ih];omega
theorem Wg(X:List Int)(n:Nat):∀x∈X,ez (De X n) x=0:=by
 induction X with
 |nil=>intro x hx;simp at hx
 |cons a X ih=>
  intro x hx;have e:ez (De (a::X) n) x=(x-a)*ez (De X n) x:=by
   rw[De,It,Ka,Cg,Int.sub_mul,Int.neg_mul];omega
  rw[e];rcases List.mem_cons.1 hx with h|h
  ·subst h;simp
  ·rw[ih x h];simp
theorem Oj{P:Int}(l:List Int)(x:Int):P∣ez (l.map (· %P)) x-ez l x:=by
 induction l with
 |nil=>exact⟨0,by simp[ez]⟩
 |cons c l ih=>
  rw[List.map_cons,Cg,Cg];refine Bd (Int.dvd_add (Cl P c) (dvr (k:=x) ih)) ?_;rw[Int.mul_sub];omega
theorem Iu(l m:List Int)(x:Int):ez (l++m) x=ez l x+x^l.length*ez m x:=by
 induction l with
 |nil=>simp[ez]
 |cons c l ih=>
  rw[List.cons_append,Cg,Cg,ih,List.length_cons,Int.pow_succ,Int.mul_add,Int.mul_comm (x^l.length) x,Int.mul_assoc];omega
theorem Hb(n:Nat)(x:Int):ez (Ay n) x=0:=by
 unfold Ay;induction n with
 |zero=>rfl
 |succ n ih=>rw[List.replicate_succ,Cg,ih];simp
theorem Sv(l:List Int)(n:Nat)(h:l.length=n+1):l=l.take n++[gd l n]:=by
 have e:l.take (n+1)=l:=List.take_of_length_le (by omega);have e2:l.take (n+1)=l.take n++[gd l n]:=by rw[List.take_succ_eq_append_getElem (by omega),Bw (by omega)]
 exact e.symm.trans e2
theorem Qm{P:Int}{K:List (Int×Int)}{k e:Nat}{p:List Int}(hP:2≤P)(hg:Fp P K k e p):
  ∃s,Sol P K (k+e) e s∧els P s=true:=by
 have hX:=hg.few;generalize hXe:(wrk P K p).map Prod.fst=X at*;have hXl:X.length=(wrk P K p).length:=by rw[←hXe];simp
 have aA:(De X (e-X.length)).length=e+1:=by rw[Qu];omega
 have aD:=Sv _ e aA;have aG:gd (De X (e-X.length)) e=1:=by
  have:=Wf X (e-X.length);have e1:X.length+(e-X.length)=e:=by omega
  rwa [e1] at this
 rw[aG] at aD;have aH:De X (e-X.length)≠[]:=fun h=>by rw[h] at aA;simp at aA
 have hql:(Fu p (De X (e-X.length))).length≤k+e:=by
  rw[Mj _ _ aH];have:=hg.len;split<;>omega
 refine⟨((Fu p (De X (e-X.length))).map (· %P)++Ay (k+e- (Fu p (De X (e-X.length))).length))++((De X (e-X.length)).take e).map (· %P),⟨?_,fun t ht=> ?_⟩,?_⟩
 ·simp[Ay,aA];omega
 ·have aC:((Fu p (De X (e-X.length))).map (· %P)++Ay (k+e- (Fu p (De X (e-X.length))).length)).length=k+e:=by simp[Ay];omega
  have hk:=Ux P (k+e) e t (((Fu p (De X (e-X.length))).map (· %P)++Ay (k+e- (Fu p (De X (e-X.length))).length))++((De X (e-X.length)).take e).map (· %P)) (by
   rw[List.length_append,aC];simp[aA])
  rw[List.take_left' aC,List.drop_left' aC] at hk;have hq:=Oj (P:=P) (Fu p (De X (e-X.length))) t.1;have hL:=Oj (P:=P) ((De X (e-X.length)).take e) t.1;rw[Iu _ (Ay _),Hb,Int.mul_zero,Int.add_zero] at hk;have aF:ez (De X (e-X.length)) t.1=ez ((De X (e-X.length)).take e) t.1+t.1^e*1:=by
   conv=>lhs;rw[aD]
   rw[Iu];have:((De X (e-X.length)).take e).length=e:=by simp[aA]
   rw[this];simp[ez]
  have aB:ez (((De X (e-X.length)).take e).map (· %P)++[1]) t.1=ez (((De X (e-X.length)).take e).map (· %P)) t.1+t.1^e*1:=by
   rw[Iu];have:(((De X (e-X.length)).take e).map (· %P)).length=e:=by simp[aA]
   rw[this];simp[ez]
  rw[aB] at hk;rw[Ov] at hq;have aI:P∣ez p t.1*ez (De X (e-X.length)) t.1-t.2*ez (De X (e-X.length)) t.1:=by
   by_cases hv:val P p t.1=t.2
   ·refine Bd (dvl (k:=ez (De X (e-X.length)) t.1) (Lu hv)) ?_;rw[Int.sub_mul]
   ·have hm:t.1∈X:=by
     rw[←hXe];refine List.mem_map.2 ⟨t,?_,rfl⟩;unfold wrk;rw[List.mem_filter];exact⟨ht,by simpa using hv⟩
    rw[Wg _ _ _ hm];exact⟨0,by simp⟩
  have aE:=dvr (k:=t.2) hL;refine Bd (Int.dvd_add hk (Int.dvd_sub (Int.dvd_add hq aI) aE)) ?_;rw[aF];simp only[Int.mul_add,Int.mul_sub];omega
 ·refine Ce fun v hv=> ?_
  rw[List.mem_append,List.mem_append] at hv;rcases hv with (hv|hv)|hv
  ·obtain⟨j,_,rfl⟩:=List.mem_map.1 hv;exact Fq hP _
  ·exact Be (Di hP _) _ hv
  ·obtain⟨j,_,rfl⟩:=List.mem_map.1 hv;exact Fq hP _
theorem zHs{P:Int}{K:List (Int×Int)}(p:List Int):(K.filter fun t=>val P p t.1==t.2).length+(wrk P K p).length=K.length:=by
 unfold wrk;induction K with
 |nil=>rfl
 |cons t K ih=>
  simp only[List.filter_cons]
  cases h:(val P p t.1==t.2)<;>simp<;>omega
theorem zEw{P:Int}{K:List (Int×Int)}(p q:List Int):K.length≤(K.filter fun t=>val P p t.1==t.2&&val P q t.1==t.2).length+(wrk P K p).length+(wrk P K q).length:=by
 unfold wrk;induction K with
 |nil=>simp
 |cons t K ih=>
  simp only[List.filter_cons]
  cases h:(val P p t.1==t.2)<;>cases h':(val P q t.1==t.2)<;>simp<;>omega
theorem Nz{P:Int}(hp:prB P=true){K:List (Int×Int)}(hK:K.Pairwise fun a b=>¬P∣a.1-b.1)(l:List Int)(hl:l.length≤K.length)(h:∀t∈K,P∣ez l t.1):az P l:=by
 refine roots hp (K.map Prod.fst) l (by simpa using hl) ?_ ?_
 ·rw[List.pairwise_map];exact hK
 ·intro x hx;obtain⟨t,ht,rfl⟩:=List.mem_map.1 hx;exact h t ht
theorem Xl{P:Int}{l:List Int}(h:az P l)(k:Nat):P∣gd l k:=by
 by_cases hk:k<l.length
 ·rw[Bw hk];exact h _ (List.getElem_mem hk)
 ·rw[Ee (by omega)];exact⟨0,by simp⟩
theorem Oc{p q:List Int}(hp:Bf p=p)(hq:Bf q=q)(h:∀k,gd p k=gd q k):p=q:=by
 have aA:∀(p q:List Int),(∀k,gd p k=gd q k)→Bf p=Bf q:=by
  intro p;induction p with
  |nil=>
   intro q h;exact (Gv fun k=>by rw[←h k];simp[gd]).symm
  |cons c p ih=>
   intro q h
   cases q with
   |nil=>exact Gv fun k=>by rw[h k];simp[gd]
   |cons d q=>
    have h0:c=d:=by have:=h 0;simpa [gd] using this
    have h1:=ih q fun k=>by have:=h (k+1);simpa [gd] using this
    rw[Cp,Cp,h0,h1]
 rw[←hp,←hq];exact aA p q h
theorem Qc{P:Int}{p q:List Int}(hP:2≤P)(hp:els P p=true)(hq:els P q=true)(h:∀k,P∣gd p k-gd q k):∀k,gd p k=gd q k:=by
 intro k;have h1:=Co (Cd hP hp k);have h2:=Co (Cd hP hq k);have h3:=Int.emod_emod_of_dvd (gd p k) (Int.dvd_refl P);have h4:=Int.emod_eq_emod_iff_emod_sub_eq_zero.2 (Int.emod_eq_zero_of_dvd (h k));rw[Int.emod_eq_of_lt h1.1 h1.2,Int.emod_eq_of_lt h2.1 h2.2] at h4;exact h4
theorem Wd{P:Int}{K:List (Int×Int)}{k e:Nat}{p q:List Int}(hpr:prB P=true)(hK:Pts P K)(hn:k+2*e≤K.length)(hp:Fp P K k e p)(hq:Fp P K k e q):p=q:=by
 have hP:=(Bj hpr).1;have h2:=zEw (P:=P) (K:=K) p q;have hl:(Bk p (Ew (-1) q)).length≤(K.filter fun t=>val P p t.1==t.2&&val P q t.1==t.2).length:=by
  rw[Ey,Fj];have:=hp.len;have:=hq.len;have:=hp.few;have:=hq.few;omega
 have aA:=Nz hpr (hK.dif.filter _) _ hl fun t ht=>by
  rw[List.mem_filter] at ht;have h1:val P p t.1=t.2∧val P q t.1=t.2:=by simpa using ht.2
  rw[It,Ka];exact Bd (Int.dvd_sub (Lu h1.1) (Lu h1.2)) (by omega)
 refine Oc hp.trm hq.trm (Qc hP hp.els hq.els fun k=> ?_)
 have:=Xl aA k;rw[Lw,Lv] at this;exact Bd this (by omega)
theorem Mv{P:Int}{K:List (Int×Int)}{k e:Nat}{p s Q R:List Int}(hpr:prB P=true)(hK:Pts P K)(hn:k+2*e≤K.length)(hp:Fp P K k e p)
  (hs:Sol P K (k+e) e s) (hQ:els P Q=true) (hR:els P R=true) (hQt:Bf Q=Q) (hRt:Bf R=R) (hQl:Q.length≤k) (hRl:R.length≤e)
  (hdiv:∀x,P∣ez (s.take (k+e)) x- (ez Q x*ez (s.drop (k+e)++[1]) x+ez R x)):Q=p∧R=[]:=by
 have hP:=(Bj hpr).1;obtain⟨aE,aD⟩:=hs;have hr:=zHs (P:=P) (K:=K) p;have aA:(s.drop (k+e)).length=e:=by simp;omega
 have aC:s.drop (k+e)++[1]≠[]:=by simp
 have hl:(Bk (Fu (Bk Q (Ew (-1) p)) (s.drop (k+e)++[1])) R).length≤(K.filter fun t=>val P p t.1==t.2).length:=by
  rw[Ey,Mj _ _ aC,Ey,Fj];have:=hp.len;have:=hp.few;simp only[List.length_append,List.length_singleton,aA];split<;>omega
 have aB:=Nz hpr (hK.dif.filter _) _ hl fun t ht=>by
  rw[List.mem_filter] at ht;have h1:val P p t.1=t.2:=by simpa using ht.2
  have hk:=Ux P (k+e) e t s aE;have he:=aD t ht.1;have h3:=Int.dvd_sub he hk;rw[It,Ov,It,Ka];have h4:=hdiv t.1;have h5:=dvl (k:=ez (s.drop (k+e)++[1]) t.1) (Lu h1);refine Bd (Int.dvd_sub (Int.dvd_sub h3 h4) h5) ?_;simp only[Int.sub_mul,Int.add_mul,Int.neg_mul,Int.one_mul];omega
 obtain⟨a1,a2⟩:=monic (s.drop (k+e)) _ R (by omega) aB;constructor
 ·refine Oc hQt hp.trm (Qc hP hQ hp.els fun j=> ?_)
  have:=Xl a1 j;rw[Lw,Lv] at this;exact Bd this (by omega)
 ·have:∀j,gd R j=0:=fun j=>by
   have h1:=Co (Cd hP hR j);have h2:=Int.emod_eq_zero_of_dvd (Xl a2 j)
   rwa [Int.emod_eq_of_lt h1.1 h1.2] at h2
  rw[←hRt];exact Gv this
open Go.RowKit
theorem Ud(P b:Int):∀m:Nat,P∣(b%P)^m-b^m
 |0=>⟨0,by simp⟩
 |m+1=>by
  rw[Int.pow_succ,Int.pow_succ];have h1:=dvl (k:=b%P) (Ud P b m);have h2:=dvr (k:=b^m) (Cl P b);refine Bd (Int.dvd_add h1 h2) ?_;rw[Int.sub_mul,Int.mul_sub];omega
theorem Lo(P x a:Int)(m:Nat):P∣x*(a*a%P)^m-x*a^(2*m):=by
 have h:=dvr (k:=x) (Ud P (a*a) m);have e:(a*a)^m=a^(2*m):=by rw[Int.pow_mul];congr 1;rw[Int.pow_succ,Int.pow_succ,Int.pow_zero,Int.one_mul]
 rw[e] at h;refine Bd h ?_;rw[Int.mul_sub]
theorem Te(P x a:Int)(m:Nat):P∣(x*a%P)*(a*a%P)^m-x*a^(2*m+1):=by
 have h1:=Lo P (x*a%P) a m;have h2:=dvl (k:=a^(2*m)) (Cl P (x*a));refine Bd (Int.dvd_add h1 h2) ?_;rw[Int.sub_mul,Int.pow_succ,Int.mul_assoc x a,Int.mul_comm a (a^(2*m))];omega
def Pw(P a:Int)(n:Nat)(w:World)(xv av nv:Value)(wr:World):Prop:=
 ∃(x b:Int) (k:Nat),xv= .int .i64 x∧av= .int .i64 b∧nv= .int .i64 k∧k≤10∧0≤x∧x<P∧0≤b∧b<P∧P∣x*b^k-a^n∧w=wr
theorem Ny(P a:Int)(n:Nat)(w:World)(hP:2≤P∧P≤65521)(ha:0≤a∧a<P)(hn:n≤10):
  Calls Tryz.prog 50 #[.int .i64 P,.int .i64 a,.int .i64 n] w fun e w'=>e= .returned (.int .i64 (a^n%P))∧w=w':=by
 go_enter Tryz.func50,Tryz.ntmps50;go_wp2_with fail;go_loopw [7,1,2] (fun xv av nv wr=>Pw P a n w xv av nv wr) (fun _ _ nv _=>(intOf nv).toNat)
 case atStart=>exact⟨1,a,n,rfl,rfl,rfl,hn,by omega,by omega,ha.1,ha.2,⟨0,by simp⟩,rfl⟩
 case round=>
  obtain⟨x,b,k,rfl,rfl,rfl,hk,aC,aD,aG,aH,hd,rfl⟩:=hrel;have HD:=Zk hd;clear hd;by_cases hk0:k=0
  ·subst hk0;have HX:Hid (x=a^n%P):=Zk (by
    have h:=HD.out;rw[Int.pow_zero,Int.mul_one] at h;have h1:=Int.emod_eq_emod_iff_emod_sub_eq_zero.2 (Int.emod_eq_zero_of_dvd h);rw[Int.emod_eq_of_lt aC aD] at h1;exact h1)
   go_wp2_with fail;go_ret;exact⟨by rw[HX.out];rfl,rfl⟩
  ·have aB:0≤x*b%P∧x*b%P<P:=⟨Int.emod_nonneg _ (by omega),Int.emod_lt_of_pos _ (by omega)⟩;have aA:0≤b*b%P∧b*b%P<P:=⟨Int.emod_nonneg _ (by omega),Int.emod_lt_of_pos _ (by omega)⟩;have aE:Hid (∀m:Nat,k=2*m→P∣x*(b*b%P)^m-a^n):=Zk (fun m hm=>by
    have h1:=Lo P x b m;rw[←hm] at h1;exact Bd (Int.dvd_add h1 HD.out) (by omega))
   have aF:Hid (∀m:Nat,k=2*m+1→P∣(x*b%P)*(b*b%P)^m-a^n):=Zk (fun m hm=>by
    have h1:=Te P x b m;rw[←hm] at h1;exact Bd (Int.dvd_add h1 HD.out) (by omega))
   have hc:k=1∨k=2∨k=3∨k=4∨k=5∨k=6∨k=7∨k=8∨k=9∨k=10:=by omega
   clear HD hk0 hk;rcases hc with rfl|rfl|rfl|rfl|rfl|rfl|rfl|rfl|rfl|rfl;all_goals
    go_wp2_with fail;repeat ((with_reducible refine (Ef P _ _ _ hP (by first|exact⟨aC,aD⟩|exact⟨aG,aH⟩) ⟨aG,aH⟩).mono ?_);rintro e w1 ⟨rfl,aI⟩;subst aI;go_wp2_with fail)
    first
     |exact⟨⟨_,_,0,rfl,rfl,rfl,by omega,aB.1,aB.2,aA.1,aA.2,aF.out 0 rfl,rfl⟩,by simp[intOf]⟩
     |exact⟨⟨_,_,1,rfl,rfl,rfl,by omega,aB.1,aB.2,aA.1,aA.2,aF.out 1 rfl,rfl⟩,by simp[intOf]⟩
     |exact⟨⟨_,_,2,rfl,rfl,rfl,by omega,aB.1,aB.2,aA.1,aA.2,aF.out 2 rfl,rfl⟩,by simp[intOf]⟩
     |exact⟨⟨_,_,3,rfl,rfl,rfl,by omega,aB.1,aB.2,aA.1,aA.2,aF.out 3 rfl,rfl⟩,by simp[intOf]⟩
     |exact⟨⟨_,_,4,rfl,rfl,rfl,by omega,aB.1,aB.2,aA.1,aA.2,aF.out 4 rfl,rfl⟩,by simp[intOf]⟩
     |exact⟨⟨_,_,1,rfl,rfl,rfl,by omega,aC,aD,aA.1,aA.2,aE.out 1 rfl,rfl⟩,by simp[intOf]⟩
     |exact⟨⟨_,_,2,rfl,rfl,rfl,by omega,aC,aD,aA.1,aA.2,aE.out 2 rfl,rfl⟩,by simp[intOf]⟩
     |exact⟨⟨_,_,3,rfl,rfl,rfl,by omega,aC,aD,aA.1,aA.2,aE.out 3 rfl,rfl⟩,by simp[intOf]⟩
     |exact⟨⟨_,_,4,rfl,rfl,rfl,by omega,aC,aD,aA.1,aA.2,aE.out 4 rfl,rfl⟩,by simp[intOf]⟩
     |exact⟨⟨_,_,5,rfl,rfl,rfl,by omega,aC,aD,aA.1,aA.2,aE.out 5 rfl,rfl⟩,by simp[intOf]⟩
theorem zEz(l:List Int):Bf l=l.take (Bf l).length:=by
 induction l with
 |nil=>rfl
 |cons c l ih=>
  rw[Cp];split
  ·rfl
  ·rw[List.length_cons,List.take_succ_cons,←ih]
theorem Ho(l:List Int):Bf l=[]∨gd l ((Bf l).length-1)≠0:=by
 induction l with
 |nil=>exact .inl rfl
 |cons c l ih=>
  rw[Cp];split
  ·exact .inl rfl
  ·rename_i h;refine .inr ?_;rw[List.length_cons,Nat.add_sub_cancel];rcases ih with e|e
   ·rw[e];intro h0;exact h ⟨by simpa [gd] using h0,e⟩
   ·cases ht:Bf l with
    |nil=>
     intro h0;exact h ⟨by simpa [gd] using h0,ht⟩
    |cons d m=>
     rw[ht] at e;simpa [gd] using e
theorem Nb{l:List Int}(h:l=[]∨gd l (l.length-1)≠0):Bf l=l:=by
 have h1:=Ij (n:=l.length) (l:=l) (Zl _) (fun k hk=>Ee hk) (by
  rcases h with h|h
  ·exact .inl (by simp[h])
  ·exact .inr h)
 rwa [List.take_length] at h1
theorem Ii(l:List Int):Bf (Bf l)=Bf l:=by
 rcases Ho l with h|h
 ·rw[h];rfl
 ·refine Nb (.inr ?_)
  rwa [Pf]
theorem Ih(l:List Int)(x:Int):ez (Bf l) x=ez l x:=by
 induction l with
 |nil=>rfl
 |cons c l ih=>
  rw[Cp];split
  ·rename_i h;rw[Cg,←ih,h.1,h.2];simp[ez]
  ·rw[Cg,Cg,ih]
structure DV (P:Int) (a b Q T:List Int) (m K:Nat):Prop where
 div:∀x,P∣ez a x- (ez Q x*ez b x+ez (T.take m) x)
 elQ:els P Q=true
 elT:els P T=true
 le:m≤T.length
 len:Q.length=K
 zero:∀j,j+b.length≤m→gd Q j=0
 fit:m+1≤K+b.length
 top:m=0∨gd T (m-1)≠0
theorem DV.start{P:Int}{a b:List Int}(hP:2≤P)(hb:b≠[])(ha:els P a=true):DV P a b (Ay ((Bf a).length+1-b.length)) (Bf a) (Bf a).length ((Bf a).length+1-b.length) where
 div:=fun x=>by
  rw[Hb,List.take_length,Ih];exact⟨0,by simp⟩
 elQ:=Di hP _
 elT:=Dv ha
 le:=Zl _
 len:=by simp[Ay]
 zero:=fun j _=>by
  by_cases h:j<((Bf a).length+1-b.length)
  ·rw[Bw (by simpa [Ay] using h)];simp[Ay]
  ·exact Ee (by simp[Ay];omega)
 fit:=by
  have:b.length≠0:=fun e=>hb (List.eq_nil_of_length_eq_zero e)
  omega
 top:=by
  rcases Ho a with h|h
  ·exact .inl (by rw[h];rfl)
  ·exact .inr (by rwa [Pf])
theorem zBn{l:List Int}{k:Nat}(h:k<l.length)(h0:gd l k=0)(v x:Int):ez (l.set k v) x=ez l x+v*x^k:=by
 induction l generalizing k with
 |nil=>simp at h
 |cons c l ih=>
  cases k with
  |zero=>
   have:c=0:=by simpa [gd] using h0
   simp[Cg,this];omega
  |succ k=>
   have h1:=ih (k:=k) (by simpa using h) (by simpa [gd] using h0);rw[Zx,Cg,Cg,h1,Int.mul_add,Int.pow_succ,Int.mul_left_comm,Int.mul_comm x (x^k)];omega
theorem Lt(T:List Int)(m:Nat)(h:m≤T.length)(x:Int):ez (T.take m) x=sm m fun j=>gd T j*x^j:=by
 rw[Ug,List.length_take,Nat.min_eq_left h];exact Gt fun k hk=>by rw[Fl,if_pos hk]
theorem Tv{P y:Int}{T b:List Int}{o:Nat}(h:o+b.length≤T.length)(x:Int):
  P∣ez ((Bl P T o y b).take (o+b.length)) x- (ez (T.take (o+b.length)) x+y*(x^o*ez b x)):=by
 rw[Lt _ _ (by rw[Bg];exact h),Lt _ _ h,Js,Js];have e1:(sm o fun j=>gd (Bl P T o y b) j*x^j)=sm o fun j=>gd T j*x^j:=Gt fun k hk=>by
  rw[Dw P T o y b h,if_neg (by omega)]
 have e2:P∣(sm b.length fun j=>gd (Bl P T o y b) (o+j)*x^(o+j))- ((sm b.length fun j=>gd T (o+j)*x^(o+j))+y*sm b.length fun j=>x^o*(gd b j*x^j)):=by
  refine Mt fun k hk=> ?_
  rw[Dw P T o y b h,if_pos (by omega)];have e3:o+k-o=k:=by omega
  rw[e3];refine Bd (dvl (k:=x^(o+k)) (Cl P (gd T (o+k)+y*gd b k))) ?_;have e4:y*(x^o*(gd b k*x^k))=y*gd b k*x^(o+k):=by
   rw[Int.pow_add,Int.mul_assoc y,Int.mul_left_comm (x^o)]
  rw[e4,Int.sub_mul,Int.add_mul]
 rw[e1,Ug b];rw[Rr] at e2;refine Bd e2 ?_;omega
theorem DV.step{P:Int}{a b Q T:List Int}{m K:Nat}(hp:prB P=true)(h:DV P a b Q T m K)(hb:b≠[])(hbe:els P b=true)(hbt:gd b (b.length-1)≠0)(hm:b.length≤m):
  DV P a b (Q.set (m-b.length) (gd T (m-1)*inv P (gd b (b.length-1))%P)) (Bl P T (m-b.length) ((0-gd T (m-1)*inv P (gd b (b.length-1))%P+P)%P) b)
   (Bf ((Bl P T (m-b.length) ((0-gd T (m-1)*inv P (gd b (b.length-1))%P+P)%P) b).take (m-1))).length K:=by
 have hP:=(Bj hp).1;have hb0:b.length≠0:=fun e=>hb (List.eq_nil_of_length_eq_zero e)
 have hle:=h.le;have hfit:=h.fit;have aE:=h.len;obtain⟨o,ho⟩:∃o,o=m-b.length:=⟨_,rfl⟩;have aH:o+b.length=m:=by omega
 rw[←ho];generalize hq:gd T (m-1)*inv P (gd b (b.length-1))%P=q;have aF:el P q=true:=by rw[←hq];exact Fq hP _
 generalize hT':Bl P T o ((0-q+P)%P) b=T';have hT'l:T'.length=T.length:=by rw[←hT',Bg]
 have aD:els P T'=true:=by rw[←hT'];exact Cq hP h.elT _ _ _
 have aC:gd T' (m-1)=0:=by
  rw[←hT',Dw P T o _ b (by omega),if_pos (by omega)];have e1:m-1-o=b.length-1:=by omega
  rw[e1];obtain⟨z,hz⟩:=Lj (P:=P) (a:=q);rw[hz];refine Int.emod_eq_zero_of_dvd ?_;have aG:gd b (b.length-1)%P≠0:=by
   have:=Co (Cd hP hbe (b.length-1));rw[Int.emod_eq_of_lt this.1 this.2];exact hbt
  have hi:=Jj hp _ aG;have h1:P∣q-gd T (m-1)*inv P (gd b (b.length-1)):=by rw[←hq];exact Cl P _
  have h2:P∣1-inv P (gd b (b.length-1))*gd b (b.length-1):=by
   have:=Cl P (inv P (gd b (b.length-1))*gd b (b.length-1))
   rwa [hi] at this
  have h3:=dvr (k:=gd T (m-1)) h2;have h4:=dvl (k:=gd b (b.length-1)) h1;have h5:=Int.dvd_mul_right P (z*gd b (b.length-1));refine Bd (Int.dvd_add (Int.dvd_sub h3 h4) h5) ?_;rw[Int.mul_sub,Int.sub_mul,Int.add_mul,Int.neg_mul,Int.mul_assoc,Int.mul_assoc];omega
 have aA:∀x,ez (T'.take m) x=ez (T'.take (m-1)) x:=by
  intro x;rw[Lt _ _ (by omega),Lt _ _ (by omega)];obtain⟨j,hj⟩:∃j,m=j+1:=⟨m-1,by omega⟩;subst hj;rw[Nat.add_sub_cancel] at aC⊢;simp only[sm];rw[aC];simp
 have aI:=zEz (T'.take (m-1));have htl:=Da (T'.take (m-1));have htl2:(T'.take (m-1)).length=m-1:=by simp;omega
 generalize hm':(Bf (T'.take (m-1))).length=m' at*;have aB:Bf (T'.take (m-1))=T'.take m':=by
  rw[aI,List.take_take,Nat.min_eq_left (by omega)]
 refine⟨fun x=> ?_,?_,aD,by omega,by rw[List.length_set];exact aE,fun j hj=> ?_,by omega,?_⟩
 ·have h0:gd Q o=0:=h.zero o (by omega);rw[zBn (by omega) h0,←aB,Ih,←aA];have h1:=h.div x;have h2:=Tv (P:=P) (y:=(0-q+P)%P) (T:=T) (b:=b) (o:=o) (by omega) x;rw[hT',aH] at h2;obtain⟨z,hz⟩:=Lj (P:=P) (a:=q);rw[hz] at h2;have h3:=Int.dvd_mul_right P (z*(x^o*ez b x));refine Bd (Int.dvd_sub (Int.dvd_sub h1 h2) h3) ?_;rw[Int.add_mul,Int.add_mul,Int.neg_mul,Int.mul_assoc q,Int.mul_assoc P];omega
 ·refine Ce fun v hv=> ?_
  rcases List.mem_or_eq_of_mem_set hv with h1|h1
  ·exact Be h.elQ v h1
  ·rw[h1];exact aF
 ·rw[Dj _ _ _ _ (by omega),if_neg (by omega)];exact h.zero j (by omega)
 ·rcases Ho (T'.take (m-1)) with e|e
  ·left;rw[←hm',e];rfl
  ·right;rw[hm',Fl] at e;by_cases h0:m'-1<m-1
   ·rwa [if_pos h0] at e
   ·rw[if_neg h0] at e;exact absurd rfl e
theorem DV.rest{P:Int}{a b Q T:List Int}{m K:Nat}(h:DV P a b Q T m K):Bf (T.take m)=T.take m:=by
 have hl:(T.take m).length=m:=by have:=h.le;simp;omega
 refine Nb ?_;rcases h.top with e|e
 ·left;rw[e];rfl
 ·by_cases h0:m=0
  ·left;rw[h0];rfl
  ·right;rw[hl,Fl,if_pos (by omega)];exact e
open Go.RowKit
noncomputable def zHr:Code:=((Tryz.f71.body.bind (Cr 5)).getD .skip)
theorem regI5(B G:Nat)(x y:Int)(xs ys:List Int)(v6 v7:Value)(w:World)(hT:Dr B w v6 xs v7 ys)(hx0:w.cell? ⟨G,0,none⟩=some (.int .i64 x))(hx1:w.cell? ⟨G,1,none⟩=some (.int .i64 y))(hG:∀k,v6.ownBlock=some k∨v7.ownBlock=some k→k≠G)(hGl:G<w.heap.size)(hB:B≤w.heap.size)(hxl:xs.length+1≤17592186044416)(hyl:ys.length+1≤17592186044416)
  (aa ab ac ad ae af ag ah ai aj ak am an ao ap aq ar au av aw ax ay az aA aB aC aD aE aF aG aH aI aJ aK aL aM aN aO aP aQ aR aS aT aU aV aW aX aY aZ a0 a1 a2 a3 a4 a5 a6 a7 a8 a9 ba bb bc bd be bf bg bh bi bj bk bl bm bn bo bp bq br bs bt bu bv bw bx bz bA bB bC bD bE bF bG bH bI bJ bK bL bM bN bO bP bQ bR bS bT bU bV bW bX bY bZ b0 b1 b2 b3 b4 b5 b6 b7 b8 b9 ca cb cc cd ce cf cg ch ci cj ck cl cm cn co cp cq cr cs ct cu cv cw cx cy cz cA cB cC cD cE cF cG cH cI cJ cK cL cM cN cO cP cQ cR cS cT cU cV cW cX cY cZ c0 c1 c2 c3 c4 c5 c6 c7 c8 c9:Value) (Q:Exit→Act→World→Prop)
  (hK:∀(da db dc dd de df dg dh di dj:Value) (v6' v7':Value) (w':World),Dr B w' v6' (xs++[x]) v7' (ys++[y])→Below B w w'→Q .normal ⟨List.toArray (aa::ab::ac::ad::ae::af::(v6')::(v7')::ag::(Value.pointer (some ⟨G,0,none⟩))::ah::ai::aj::ak::am::an::ao::ap::aq::ar::au::av::aw::ax::ay::az::aA::aB::aC::aD::aE::da::db::dc::dd::de::df::dg::dh::di::dj::aP::aQ::aR::aS::aT::aU::aV::aW::aX::aY::aZ::a0::a1::a2::a3::a4::a5::a6::a7::a8::a9::ba::bb::bc::bd::be::bf::bg::bh::bi::bj::bk::bl::bm::bn::bo::bp::bq::br::bs::bt::bu::bv::bw::bx::bz::bA::bB::bC::bD::bE::bF::bG::bH::bI::bJ::bK::bL::bM::bN::bO::bP::bQ::bR::bS::bT::bU::bV::bW::bX::bY::bZ::b0::b1::b2::b3::b4::b5::b6::b7::b8::b9::ca::cb::cc::cd::ce::cf::cg::ch::ci::cj::ck::cl::cm::cn::co::cp::cq::cr::cs::ct::cu::cv::cw::cx::cy::cz::cA::cB::cC::cD::cE::cF::cG::cH::cI::cJ::cK::cL::cM::cN::cO::cP::cQ::cR::cS::cT::cU::cV::cW::cX::cY::cZ::c0::c1::c2::c3::c4::c5::c6::c7::c8::c9::[]),[]⟩ w'):
  Code.wp Tryz.prog zHr Q ⟨List.toArray (aa::ab::ac::ad::ae::af::(v6)::(v7)::ag::(Value.pointer (some ⟨G,0,none⟩))::ah::ai::aj::ak::am::an::ao::ap::aq::ar::au::av::aw::ax::ay::az::aA::aB::aC::aD::aE::aF::aG::aH::aI::aJ::aK::aL::aM::aN::aO::aP::aQ::aR::aS::aT::aU::aV::aW::aX::aY::aZ::a0::a1::a2::a3::a4::a5::a6::a7::a8::a9::ba::bb::bc::bd::be::bf::bg::bh::bi::bj::bk::bl::bm::bn::bo::bp::bq::br::bs::bt::bu::bv::bw::bx::bz::bA::bB::bC::bD::bE::bF::bG::bH::bI::bJ::bK::bL::bM::bN::bO::bP::bQ::bR::bS::bT::bU::bV::bW::bX::bY::bZ::b0::b1::b2::b3::b4::b5::b6::b7::b8::b9::ca::cb::cc::cd::ce::cf::cg::ch::ci::cj::ck::cl::cm::cn::co::cp::cq::cr::cs::ct::cu::cv::cw::cx::cy::cz::cA::cB::cC::cD::cE::cF::cG::cH::cI::cJ::cK::cL::cM::cN::cO::cP::cQ::cR::cS::cT::cU::cV::cW::cX::cY::cZ::c0::c1::c2::c3::c4::c5::c6::c7::c8::c9::[]),[]⟩ w:=by
 have HK:=Zk hK;have T:=Zk hT;have T0:=T;have x0:=hx0;have x1:=hx1;have hz:=Zl w.heap.size;have L:=Zk (LB.of (Zb B w));have dE:=Zk hG;have hGl2:=hGl;clear hK hT hx0 hx1 hG;conv=>arg 2;whnf
 go_region_held3 (fun w'=>w'.cell? ⟨G,0,none⟩=some (.int .i64 x)∧w'.cell? ⟨G,1,none⟩=some (.int .i64 y)) (first|exact⟨x0,x1⟩|go_keep)
  (first
   |(refine Ax _ (by rfl) (.tmp 31) _ 22 (by rfl) B 3 Tryz.underlying22 Bi _ xs (by rfl) (by first|exact T.out.1|exact (T.out.alloc _).1|exact ((T.out.alloc _).alloc _).1) x _ (by rfl) (by first|exact n1|(simp[go_sem];done)) hxl (by first|omega|(simp;omega)) ?_;intro g2 cap2 w2 dC dA dF;have x0:=dA.cell (a:=⟨G,0,none⟩) (by first|exact x0|exact Bo _ x0|exact Bo _ (Bo _ x0)) (fun e=>dE.out _ (.inl e.symm) rfl);have x1:=dA.cell (a:=⟨G,1,none⟩) (by first|exact x1|exact Bo _ x1|exact Bo _ (Bo _ x1)) (fun e=>dE.out _ (.inl e.symm) rfl);have L2:=Zk (LB.gr (by first|exact L.out|exact L.out.al hB _|exact (L.out.al hB _).al hB _) hB dA (fun k hk=>(T.out.1.lt k hk).1));have T:=Zk (Dr.app1 (by first|exact T.out|exact T.out.alloc _|exact (T.out.alloc _).alloc _) dC dA dF);have L:=L2;have hsz2:w.heap.size≤w2.heap.size:=L.out.2.2.2.1;first|have n2:=dA.cell (a:=⟨w.heap.size,0,none⟩) (v:= .int .i64 y) (Bo _ (Ba w [.int .i64 y] 3 0 _ rfl)) (Hj T0.out.1 (Zl _))|have n2:=dA.cell (a:=⟨w.heap.size+1,0,none⟩) (v:= .int .i64 y) (Gg w (.cells #[.int .i64 x] 3) (.int .i64 y) 3) (Hj T0.out.1 (Nat.le_succ _))|skip)
   |(refine Ax _ (by rfl) (.tmp 36) _ 22 (by rfl) B 3 Tryz.underlying22 Bi _ ys (by rfl) (by first|exact T.out.2.1|exact (T.out.alloc _).2.1|exact ((T.out.alloc _).alloc _).2.1) y _ (by rfl) (by first|exact n2|(simp[go_sem];done)) hyl (by first|omega|(simp;omega)) ?_;intro g3 cap3 w3 dD dB dG;have x0:=dB.cell (a:=⟨G,0,none⟩) (by first|exact x0|exact Bo _ x0|exact Bo _ (Bo _ x0)) (fun e=>dE.out _ (.inr e.symm) rfl);have x1:=dB.cell (a:=⟨G,1,none⟩) (by first|exact x1|exact Bo _ x1|exact Bo _ (Bo _ x1)) (fun e=>dE.out _ (.inr e.symm) rfl);have L2:=Zk (LB.gr (by first|exact L.out|exact L.out.al hB _|exact (L.out.al hB _).al hB _) hB dB (fun k hk=>(T.out.2.1.lt k hk).1));have T:=Zk (Dr.swap (Dr.app1 (by first|exact T.out.swap|exact (T.out.alloc _).swap|exact ((T.out.alloc _).alloc _).swap) dD dB dG));have L:=L2;have hsz3:w.heap.size≤w3.heap.size:=L.out.2.2.2.1;first|have n1:=dB.cell (a:=⟨w.heap.size,0,none⟩) (v:= .int .i64 x) (Bo _ (Ba w [.int .i64 x] 3 0 _ rfl)) (Hj T0.out.2.1 (Zl _))|have n1:=dB.cell (a:=⟨w.heap.size+1,0,none⟩) (v:= .int .i64 x) (Gg w (.cells #[.int .i64 y] 3) (.int .i64 x) 3) (Hj T0.out.2.1 (Nat.le_succ _))|skip))
 all_goals
  have t:=T.out;simp only[List.length_append,List.length_singleton] at t;exact HK.out _ _ _ _ _ _ _ _ _ _ _ _ _ t L.out.to
noncomputable def zEu:Code:=((Tryz.f71.body.bind (Cr 25)).getD .skip)
theorem zHp(F:Nat)(P x y z:Int)(vp vn:Value)(w:World)(hX:∀W,Below w.heap.size w W→W.cell? ⟨F,0,none⟩=some (.int .i64 P))(hV:∀W a r,Below w.heap.size w W→(a=vp∧r=y∨a=vn∧r=z)→Calls Tryz.prog 85 #[.agg #[.int .i64 P],a,.int .i64 x] W fun e w'=>e= .returned (.int .i64 r)∧Below W.heap.size W w')
  (aa ab ac ad ae af ag ah ai aj ak al am an ao ap aq ar au av aw ax ay az aA aB aC aD aE aF aG aH aI aJ aK aL aM aN aO aP aQ aR aS aT aU aV aW aX aY aZ a0 a1 a2 a3 a4 a5 a6 a7 a8 a9 ba bb bc bd be bf bg bh bi bj bk bl bm bn bo bp bq br bs bt bu bv bw bx bz bA bB bC bD bE bF bG bH bI bJ bK bL bM bN bO bP bQ bR bS bT bU bV bW bX bY bZ b0 b1 b2 b3 b4 b5 b6 b7 b8 b9 ca cb cc cd ce cf cg ch ci cj ck cl cm cn co cp cq cr cs ct cu cv cw cx cy cz cA cB cC cD cE cF cG cH cI cJ cK cL cM cN cO cP cQ cR cS cT cU cV cW cX cY cZ c0 c1 c2 c3 c4 c5 c6 c7:Value) (Q:Exit→Act→World→Prop)
  (hK:∀(u81 u82 u83 u84 u85 u86 u87 u88:Value) (w':World),Below w.heap.size w w'→Q .normal ⟨List.toArray (aa::ab::(Value.pointer (some ⟨F,0,none⟩))::ac::ad::ae::af::ag::ah::ai::aj::ak::al::(vp)::(vn)::am::(Value.int .i64 x)::(Value.int .i64 y)::(Value.int .i64 z)::ap::aq::ar::au::av::aw::ax::ay::az::aA::aB::aC::aD::aE::aF::aG::aH::aI::aJ::aK::aL::aM::aN::aO::aP::aQ::aR::aS::aT::aU::aV::aW::aX::aY::aZ::a0::a1::a2::a3::a4::a5::a6::a7::a8::a9::ba::bb::bc::bd::be::bf::bg::bh::bi::bj::bk::bl::bm::bn::bo::bp::bq::u81::u82::u83::u84::u85::u86::u87::u88::bA::bB::bC::bD::bE::bF::bG::bH::bI::bJ::bK::bL::bM::bN::bO::bP::bQ::bR::bS::bT::bU::bV::bW::bX::bY::bZ::b0::b1::b2::b3::b4::b5::b6::b7::b8::b9::ca::cb::cc::cd::ce::cf::cg::ch::ci::cj::ck::cl::cm::cn::co::cp::cq::cr::cs::ct::cu::cv::cw::cx::cy::cz::cA::cB::cC::cD::cE::cF::cG::cH::cI::cJ::cK::cL::cM::cN::cO::cP::cQ::cR::cS::cT::cU::cV::cW::cX::cY::cZ::c0::c1::c2::c3::c4::c5::c6::c7::[]),[]⟩ w'):
  Code.wp Tryz.prog zEu Q ⟨List.toArray (aa::ab::(Value.pointer (some ⟨F,0,none⟩))::ac::ad::ae::af::ag::ah::ai::aj::ak::al::(vp)::(vn)::am::(Value.int .i64 x)::an::ao::ap::aq::ar::au::av::aw::ax::ay::az::aA::aB::aC::aD::aE::aF::aG::aH::aI::aJ::aK::aL::aM::aN::aO::aP::aQ::aR::aS::aT::aU::aV::aW::aX::aY::aZ::a0::a1::a2::a3::a4::a5::a6::a7::a8::a9::ba::bb::bc::bd::be::bf::bg::bh::bi::bj::bk::bl::bm::bn::bo::bp::bq::br::bs::bt::bu::bv::bw::bx::bz::bA::bB::bC::bD::bE::bF::bG::bH::bI::bJ::bK::bL::bM::bN::bO::bP::bQ::bR::bS::bT::bU::bV::bW::bX::bY::bZ::b0::b1::b2::b3::b4::b5::b6::b7::b8::b9::ca::cb::cc::cd::ce::cf::cg::ch::ci::cj::ck::cl::cm::cn::co::cp::cq::cr::cs::ct::cu::cv::cw::cx::cy::cz::cA::cB::cC::cD::cE::cF::cG::cH::cI::cJ::cK::cL::cM::cN::cO::cP::cQ::cR::cS::cT::cU::cV::cW::cX::cY::cZ::c0::c1::c2::c3::c4::c5::c6::c7::[]),[]⟩ w:=by
 have HK:=Zk hK;have HX:=Zk hX;have HV:=Zk hV;have f0:=hX w (Zb _ w);have dD:Hid (Below w.heap.size w w):=Zk (Zb _ _);have dC:Hid (Below w.heap.size w w.drew):=Zk ((Zb _ w).drew);clear hK hX hV;conv=>arg 2;whnf
 go_region_held3 (fun w'=>w'.cell? ⟨F,0,none⟩=some (.int .i64 P)) (first|exact f0|go_keep)
  (first
   |(go_simp;go_at_call 85;refine (HV.out _ _ _ (by first|exact dB.out|exact dB.out.drew|exact dD.out|exact dC.out) (by first|exact .inl ⟨rfl,rfl⟩|exact .inr ⟨rfl,rfl⟩)).mono ?_;rintro e9 w9 ⟨rfl,dA⟩;have dB:Hid (Below w.heap.size w w9):=Zk (by first|exact dB.out.trans ((show Below _ _ w9 from ⟨dA.os,dA.tape,dA.output,dA.size,dA.block⟩).mono dB.out.size)|exact⟨dA.os,dA.tape,dA.output,dA.size,dA.block⟩);have f0:=HX.out w9 dB.out;clear dA))
 all_goals
  have hk:=HK.out;first
   |exact hk _ _ _ _ _ _ _ _ _ dB.out
   |exact hk _ _ _ _ _ _ _ _ _ dB.out.drew
noncomputable def zEv:Code:=((Tryz.f71.body.bind (Cr 26)).getD .skip)
theorem zHq(F bv ov n cv i:Nat)(P vi y z iv m c:Int)(w:World)(hin:i<n)(hP0:¬P=0)(a1:IntKind.i64.wrap (vi+P)=vi+P)(a2:IntKind.i64.wrap (vi+P-y)=vi+P-y)(a3:(vi+P-y).tmod P=m)(a5:IntKind.i64.wrap (m*iv)=m*iv)(a6:(m*iv).tmod P=c)(hX:∀W,Below w.heap.size w W→W.cell? ⟨F,0,none⟩=some (.int .i64 P)∧W.cell? ⟨bv,ov+i,none⟩=some (.int .i64 vi))(hI:∀W,Below w.heap.size w W→Calls Tryz.prog 96 #[.agg #[.int .i64 P],.int .i64 z] W fun e w'=>e= .returned (.int .i64 iv)∧Below W.heap.size W w')
  (aa ab ac ad ae af ag ah ai aj ak al am an ao ap aq ar au av aw ax ay az aA aB aC aD aE aF aG aH aI aJ aK aL aM aN aO aP aQ aR aS aT aU aV aW aX aY aZ a0 a4 a7 a8 a9 ba bb bc bd be bf bg bh bi bj bk bl bm bn bo bp bq br bs bt bu bw bx bz bA bB bC bD bE bF bG bH bI bJ bK bL bM bN bO bP bQ bR bS bT bU bV bW bX bY bZ b0 b1 b2 b3 b4 b5 b6 b7 b8 b9 ca cb cc cd ce cf cg ch ci cj ck cl cm cn co cp cq cr cs ct cu cw cx cy cz cA cB cC cD cE cF cG cH cI cJ cK cL cM cN cO cP cQ cR cS cT cU cV cW cX cY cZ c0 c1 c2 c3 c4 c5 c6 c7 c8 c9 da db dc dd:Value) (Q:Exit→Act→World→Prop)
  (hK:∀(de df dg dh di dj dk dl dm dn dp dq dr ds dt du dv dw dx:Value) (w':World),Below w.heap.size w w'→Q .normal ⟨List.toArray (aa::ab::(Value.pointer (some ⟨F,0,none⟩))::ac::ad::ae::af::(Value.slice (some ⟨bv,ov,none⟩) n cv)::ag::ah::ai::aj::ak::al::am::(Value.int .i64 (i:Int))::an::(Value.int .i64 y)::(Value.int .i64 z)::(Value.int .i64 c)::ap::aq::ar::au::av::aw::ax::ay::az::aA::aB::aC::aD::aE::aF::aG::aH::aI::aJ::aK::aL::aM::aN::aO::aP::aQ::aR::aS::aT::aU::aV::aW::aX::aY::aZ::a0::a4::a7::a8::a9::ba::bb::bc::bd::be::bf::bg::bh::bi::bj::bk::bl::bm::bn::bo::bp::bq::br::bs::bt::bu::bw::bx::bz::bA::bB::bC::bD::bE::de::df::dg::dh::di::dj::dk::dl::dm::dn::dp::dq::dr::ds::dt::du::dv::dw::dx::bY::bZ::b0::b1::b2::b3::b4::b5::b6::b7::b8::b9::ca::cb::cc::cd::ce::cf::cg::ch::ci::cj::ck::cl::cm::cn::co::cp::cq::cr::cs::ct::cu::cw::cx::cy::cz::cA::cB::cC::cD::cE::cF::cG::cH::cI::cJ::cK::cL::cM::cN::cO::cP::cQ::cR::cS::cT::cU::cV::cW::cX::cY::cZ::c0::c1::c2::c3::c4::c5::c6::c7::c8::c9::da::db::dc::dd::[]),[]⟩ w'):
  Code.wp Tryz.prog zEv Q ⟨List.toArray (aa::ab::(Value.pointer (some ⟨F,0,none⟩))::ac::ad::ae::af::(Value.slice (some ⟨bv,ov,none⟩) n cv)::ag::ah::ai::aj::ak::al::am::(Value.int .i64 (i:Int))::an::(Value.int .i64 y)::(Value.int .i64 z)::ao::ap::aq::ar::au::av::aw::ax::ay::az::aA::aB::aC::aD::aE::aF::aG::aH::aI::aJ::aK::aL::aM::aN::aO::aP::aQ::aR::aS::aT::aU::aV::aW::aX::aY::aZ::a0::a4::a7::a8::a9::ba::bb::bc::bd::be::bf::bg::bh::bi::bj::bk::bl::bm::bn::bo::bp::bq::br::bs::bt::bu::bw::bx::bz::bA::bB::bC::bD::bE::bF::bG::bH::bI::bJ::bK::bL::bM::bN::bO::bP::bQ::bR::bS::bT::bU::bV::bW::bX::bY::bZ::b0::b1::b2::b3::b4::b5::b6::b7::b8::b9::ca::cb::cc::cd::ce::cf::cg::ch::ci::cj::ck::cl::cm::cn::co::cp::cq::cr::cs::ct::cu::cw::cx::cy::cz::cA::cB::cC::cD::cE::cF::cG::cH::cI::cJ::cK::cL::cM::cN::cO::cP::cQ::cR::cS::cT::cU::cV::cW::cX::cY::cZ::c0::c1::c2::c3::c4::c5::c6::c7::c8::c9::da::db::dc::dd::[]),[]⟩ w:=by
 have HK:=Zk hK;have HX:=Zk hX;have HI:=Zk hI;obtain⟨f0,v0⟩:=hX w (Zb _ w);have dB:Hid (Below w.heap.size w w.drew):=Zk ((Zb _ w).drew);have z1:(0:Int)≤(i:Int):=by omega
 have z2:(i:Int)<(n:Int):=by omega
 clear hK hX hI;conv=>arg 2;whnf
 go_region_held3 (fun w'=>w'.cell? ⟨F,0,none⟩=some (.int .i64 P)∧w'.cell? ⟨bv,ov+i,none⟩=some (.int .i64 vi)) (first|exact⟨f0,v0⟩|go_keep)
  (first
   |(go_simp;go_at_call 96;refine (HI.out _ (by first|exact dB.out|exact Zb _ _)).mono ?_;rintro e9 w9 ⟨rfl,dA⟩;have dC:Hid (Below w.heap.size w w9):=Zk (by first|exact (dB.out).trans ((show Below _ _ w9 from ⟨dA.os,dA.tape,dA.output,dA.size,dA.block⟩).mono dB.out.size)|exact⟨dA.os,dA.tape,dA.output,dA.size,dA.block⟩);obtain⟨f0,v0⟩:=HX.out w9 dC.out;clear dA))
 all_goals
  have hk:=HK.out;first
   |exact hk _ _ _ _ _ _ _ _ _ _ _ _ _ _ _ _ _ _ _ _ dC.out
   |exact hk _ _ _ _ _ _ _ _ _ _ _ _ _ _ _ _ _ _ _ _ dC.out.drew
end Go.Proofs.YtoiabanpnkpbhaaGreatDoor
