/- Parts. -/
import Derived.Test.YtbgabipngdillaaGreatDoorM38
import Derived.Test.YtbgabipngdillaaGreatDoorM39
import Derived.Test.YtbgabipngdillaaGreatDoorM34
set_option linter.unusedVariables false
set_option linter.unusedSimpArgs false
namespace Go.Proofs.YtbgabipngdillaaGreatDoor
open Go.RowKit Go.Shelf
def WdA(rows:List (List Int))(w2:World)(iv:Value)(wr:World):Prop:=
 ∃j:Nat,j≤rows.length∧iv= .int .i64 j∧(∀q (h:q<rows.length),q<j→rows[q].length=(gr rows 0).length∧rows[q].length≤1024)∧w2=wr
def WdB(P:Int)(rows:List (List Int))(w2:World)(iv:Value)(wr:World):Prop:=
 ∃j:Nat,j≤rows.length∧iv= .int .i64 j∧(rows.take j).all (els P)=true∧Below w2.heap.size w2 wr
def WdC(P k:Int)(rows:List (List Int))(m:Nat)(w5:World)(uv cv:Value)(wr:World):Prop:=
 ∃(i:Nat) (ps:List (List Int)),i≤m∧cv= .int .i64 i∧ps.length=i∧(∀j (h:j<ps.length),UnR P (Bw (ans rows) j) k ps[j] 0)∧
  wr.ownsRow w5.heap.size 3 1 uv (ps.map fun p=>gd p 0).length ((ps.map fun p=>gd p 0).map (Value.int .i64))∧Below w5.heap.size w5 wr
theorem zCp{rows:List (List Int)}{j:Nat}(h:j<rows.length):gr rows j=rows[j]:=by
 unfold gr;rw[List.getElem?_eq_getElem h];rfl
set_option maxRecDepth 100000 in
set_option maxHeartbeats 16000000 in
theorem Ow(P n t:Int)(rows:List (List Int))(v:Value)(w:World)(hP:An P)(h:SL w v rows):
  Calls Tryz.prog 38 #[.agg #[.int .i64 P],.agg #[.int .i64 n,.int .i64 t],v] w (wanP P n t rows w):=by
 obtain⟨A,c,rfl,dI⟩:=h.at
 have bQ:=Zk dI
 clear h dI
 obtain⟨ic,eY,eZ,fA,fB⟩:=info_parts Qv;obtain⟨nr,cL⟩:∃nr,nr=rows.length:=⟨_,rfl⟩;rw[←cL];have aB:=Zk cL;clear cL;go_enter Tryz.func38,Tryz.ntmps38;obtain⟨F,eF⟩:∃F,F=w.heap.size:=⟨_,rfl⟩;obtain⟨w1,bL⟩:∃w1:World,w1=(w.alloc (.cells #[.int .i64 P] 31)).alloc (.cells #[.int .i64 n,.int .i64 t] 29):=⟨_,rfl⟩;have cG:Hid ((w.alloc (.cells #[.int .i64 P] 31)).alloc (.cells #[.int .i64 n,.int .i64 t] 29)=w1):=bL.symm;have aX:Hid (Below w.heap.size w w1):=Zk (by rw[bL];exact ((Zb _ w).alloc (Zl _) _).alloc (by simp) _);have aH:Hid (w1.heap[F]? =some (.cells #[.int .i64 P] 31 (0,0))):=Zk (by show _=_;rw[bL,eF,Below.heap_alloc _ _ _ (by simp)];exact Zh w _);have aI:Hid (w1.heap[F+1]? =some (.cells #[.int .i64 n,.int .i64 t] 29 (0,0))):=Zk (by show _=_;rw[bL,eF];have:=Zh (w.alloc (.cells #[.int .i64 P] 31)) (.cells #[.int .i64 n,.int .i64 t] 29);simpa using this);have aV:Hid (∀W,Below w1.heap.size w1 W→W.cell? ⟨F,0,none⟩=some (.int .i64 P)∧W.cell? ⟨F+1,0,none⟩=some (.int .i64 n)∧W.cell? ⟨F+1,1,none⟩=some (.int .i64 t)):=Zk (fun W hg=>by
  have eV:=(hg.block F (Ae aH.out)).trans aH.out;have dF:=(hg.block (F+1) (Ae aI.out)).trans aI.out;exact⟨Zc W F 0 _ _ _ eV,Zc W (F+1) 0 _ _ _ dF,Zc W (F+1) 1 _ _ _ dF⟩)
 go_upto_region 1 with fail
 rw[cG.out,←eF];clear bL eF;obtain⟨x0,x1,x2⟩:=aV.out w1 (Zb _ _);go_wp2_with fail;(with_reducible refine (Ey P n t _ hP).mono ?_)
 rintro e w2 ⟨rfl,bW⟩;have aC:=Zk bW;have aG:Hid (Below w.heap.size w w2):=Zk (aX.out.trans (bW.mono aX.out.size));clear bW x0 x1 x2;obtain⟨x0,x1,x2⟩:=aV.out w2 aC.out;by_cases hc:cuE P n t=0
 case' neg=>
  obtain⟨er,cN⟩:∃er,er=cuE P n t:=⟨_,rfl⟩;have cU:=Zk cN;rw[←cN] at hc⊢;have d0:(er !=0)=true:=by rw[bne_iff_ne];exact hc
  have eD:=Zk hc;clear cN hc;go_wp2_with fail;refine bodyPost_ret (v:= .tuple #[.int .i64 0,.bool false,.int .i64 er]) (by simp[results,Tryz.results38,go_sem]) rfl ?_;exact⟨0,false,er,rfl,aG.out,.inl ⟨by rw[←cU.out];exact eD.out,cU.out,rfl,rfl⟩⟩
 have HC:=Zk hc;obtain⟨cR,hv,hnP⟩:=Ff hc;obtain⟨pb1,pb2,pb3,pb4⟩:=Eu hv;have cY:=Zk cR;have dG:=Bd cR;rw[hc];clear hc hv cR;obtain⟨tn,rfl⟩:∃tn:Nat,t=tn:=⟨t.toNat,by omega⟩;obtain⟨nn,rfl⟩:∃nn:Nat,n=nn:=⟨n.toNat,by omega⟩;have wt:IntKind.i64.wrap ((tn:Int)+1)=(tn:Int)+1:=by exact Zi _ (by omega)
 by_cases hlen:nr=nn
 case' neg=>
  have d1:((nr:Int) !=(nn:Int))=true:=by rw[bne_iff_ne];omega
  have d1n:(nr !=nn)=true:=by rw[bne_iff_ne];exact hlen
  have HW:Hid (WaR P nn tn rows 0 false 2):=Zk (.inr ⟨HC.out,.inl ⟨by unfold wfB;rw[Zd (by rw[←aB.out];omega)];rfl,rfl,rfl,rfl⟩⟩);clear hlen;go_wp2_with fail;refine bodyPost_ret (v:= .tuple #[.int .i64 0,.bool false,.int .i64 2]) (by simp[results,Tryz.results38,go_sem]) rfl ?_;exact⟨0,false,2,rfl,aG.out,HW.out⟩
 subst hlen;have d1:((nr:Int) !=(nr:Int))=false:=by simp
 have bV:0<rows.length:=by rw[←aB.out];omega
 obtain⟨bh,oh,Bz,dz,eA,cM⟩:=bQ.out 0 bV;subst eA;have HWZ:=Zk cM;obtain⟨cz,_⟩:=cM w2 aG.out;obtain⟨m,em⟩:∃m,m=rows[0].length:=⟨_,rfl⟩;have HM:Hid (m=(gr rows 0).length):=Zk (by show _=_;rw[zCp bV];exact em);rw[←em] at cz;rw[Nat.add_zero] at cz;clear em cM;go_wp2_with fail;clear cz;go_loopw [43] (fun iv wr=>WdA rows w2 iv wr) (fun iv _=>nr- (intOf iv).toNat)
 case atStart=>exact⟨0,Nat.zero_le _,rfl,fun q h hq=>by omega,rfl⟩
 case round=>
  obtain⟨j,hj,rfl,dR,fE⟩:=hrel;subst fE;rw[←aB.out] at hj;have bF:=Zk dR;clear dR;have wj:IntKind.i64.wrap ((j:Int)+1)=(j:Int)+1:=by exact Zi _ (by omega)
  by_cases hlt:j<nr
  ·have dj:decide ((j:Int)<(nr:Int))=true:=Ze (by omega);have bK:decide (j<nr)=true:=Ze hlt;have aE:j<rows.length:=by rw[←aB.out];exact hlt
   obtain⟨bJ,bP,Bj,cI,aK,hW⟩:=bQ.out j aE;obtain⟨rfl,rfl⟩:bJ=bh∧bP=oh:=by injection aK with e;injection e with e1 e2;exact⟨e1.symm,e2.symm⟩
   obtain⟨cj,_⟩:=hW w2 aG.out;obtain⟨lj,cJ⟩:∃lj,lj=rows[j].length:=⟨_,rfl⟩;have cV:=Zk cJ;rw[←cJ] at cj;have z0:(0:Int)≤(j:Int):=by omega
   have z1:(j:Int)<(nr:Int):=by omega
   clear cJ hW aK;by_cases hbad:lj≠m∨1024<m
   ·have bI:Hid (WaR P nr tn rows 0 false 2):=Zk (.inr ⟨HC.out,.inl ⟨Xo aE (by rw[←cV.out,←HM.out];omega),rfl,rfl,rfl⟩⟩);have eW:((lj:Int) !=(m:Int))=true∧(lj !=m)=true∨((lj:Int) !=(m:Int))=false∧(lj !=m)=false∧decide (1024<(m:Int))=true∧decide (1024<m)=true:=by
     by_cases h:lj=m
     ·exact .inr ⟨by rw[bne_eq_false_iff_eq];omega,by rw[bne_eq_false_iff_eq];exact h,Ze (by omega),Ze (by omega)⟩
     ·exact .inl ⟨by rw[bne_iff_ne];omega,by rw[bne_iff_ne];exact h⟩
    clear hbad;rcases eW with⟨q1,q2⟩|⟨q1,q2,q3,q4⟩;all_goals
     go_wp2_with fail;refine bodyPost_ret (v:= .tuple #[.int .i64 0,.bool false,.int .i64 2]) (by simp[results,Tryz.results38,go_sem]) rfl ?_;exact⟨0,false,2,rfl,aG.out,bI.out⟩
   ·have cO:lj=m:=by omega
    have q1:((lj:Int) !=(m:Int))=false:=by rw[bne_eq_false_iff_eq];omega
    have q2:(lj !=m)=false:=by rw[bne_eq_false_iff_eq];exact cO
    have q3:decide (1024<(m:Int))=false:=Zd (by omega);have q4:decide (1024<m)=false:=Zd (by omega);have dZ:=Zk cO;have aS:m≤1024:=by omega
    clear hbad cO;go_wp2_with fail;go_roundw
    case rel=>
     refine⟨j+1,by rw[←aB.out];omega,by go_num,fun q h hq=> ?_,rfl⟩
     by_cases hqj:q<j
     ·exact bF.out q h hqj
     ·have e:q=j:=by omega
      subst e;rw[←cV.out,←HM.out,dZ.out];exact⟨rfl,aS⟩
    case measure=>simp[intOf];omega
  ·have dj:decide ((j:Int)<(nr:Int))=false:=Zd (by omega);have bK:decide (j<nr)=false:=Zd hlt;have bI:Hid (wfB nr rows=true):=Zk (Ti (by rw[←aB.out]) (fun q h=>bF.out q h (by rw[←aB.out] at h;omega)))
   have hm:m≤1024:=by have:=(bF.out 0 bV (by omega)).2;rw[←zCp bV,←HM.out] at this;exact this
   have cW:Hid (∀q (h:q<rows.length),rows[q].length=m):=Zk (fun q h=>by rw[HM.out];exact (bF.out q h (by rw[←aB.out] at h;omega)).1)
   clear hj hlt bF;go_wp2_with fail;clear dj bK;go_loopw [58] (fun iv wr=>WdB P rows w2 iv wr) (fun iv _=>nr- (intOf iv).toNat)
   case atStart=>exact⟨0,Nat.zero_le _,rfl,rfl,Zb _ _⟩
   case round=>
    obtain⟨j2,hj,rfl,bM,aA⟩:=hrel;rw[←aB.out] at hj;have aW:=Zk bM;have aT:=Zk aA;have aQ:Hid (Below w.heap.size w wr):=Zk (aG.out.trans (aA.mono aG.out.size));have fG:=(aV.out wr (aC.out.trans (aA.mono aC.out.size))).1;have fH:=(aV.out wr (aC.out.trans (aA.mono aC.out.size))).2.2;clear bM aA;have wj:IntKind.i64.wrap ((j2:Int)+1)=(j2:Int)+1:=by exact Zi _ (by omega)
    by_cases hlt:j2<nr
    ·have dj:decide ((j2:Int)<(nr:Int))=true:=Ze (by omega);have bK:decide (j2<nr)=true:=Ze hlt;have aE:j2<rows.length:=by rw[←aB.out];exact hlt
     obtain⟨bJ,bP,Bj,cI,aK,hW⟩:=bQ.out j2 aE;obtain⟨rfl,rfl⟩:bJ=bh∧bP=oh:=by injection aK with e;injection e with e1 e2;exact⟨e1.symm,e2.symm⟩
     obtain⟨cj,aO⟩:=hW wr aQ.out;rw[cW.out j2 aE] at cj aO;have cF:=Zk (Hl (P:=P) aE);have cX:Hid (els P rows[j2]=false→rows.all (els P)=false):=Zk (fun h=>by
      cases e:rows.all (els P) with
      |false=>rfl
      |true=>rw[List.all_eq_true.1 e _ (List.getElem_mem aE)] at h;cases h)
     obtain⟨row,er⟩:∃row,row=rows[j2]:=⟨_,rfl⟩;rw[←er] at aO cF cX;have bR:Hid (Calls Tryz.prog 61 #[.agg #[.int .i64 P],.slice Bj m cI] wr fun e w'=>e= .returned (.bool (els P row))∧Below wr.heap.size wr w'):=Zk ((Eb P row _ wr hP aO).mono fun e w' ⟨h1,h2⟩=>⟨by rw[h1];unfold inB;rw[cY.out];rfl,h2⟩)
     have z0:(0:Int)≤(j2:Int):=by omega
     have z1:(j2:Int)<(nr:Int):=by omega
     clear aO hW er aK
     cases hel:els P row with
     |true=>
      rw[hel] at bR cF;clear hel;go_wp2_with fail;(with_reducible refine bR.out.mono ?_)
      rintro e w9 ⟨rfl,bN⟩;have cA:Hid (Below w2.heap.size w2 w9):=Zk (aT.out.trans (bN.mono aT.out.size));clear bN cj;go_wp2_with fail;go_roundw
      case rel=>exact⟨j2+1,by rw[←aB.out];omega,by go_num,by rw[cF.out,aW.out];rfl,cA.out⟩
      case measure=>simp[intOf];omega
     |false=>
      have aU:Hid (WaR P nr tn rows 0 false 9):=Zk (.inr ⟨HC.out,.inr ⟨bI.out,.inl ⟨cX.out hel,rfl,rfl,rfl⟩⟩⟩);rw[hel] at bR;clear hel;go_wp2_with fail;(with_reducible refine bR.out.mono ?_)
      rintro e w9 ⟨rfl,bN⟩;have cA:Hid (Below w.heap.size w w9):=Zk (aQ.out.trans (bN.mono aQ.out.size));clear bN cj;go_wp2_with fail;refine bodyPost_ret (v:= .tuple #[.int .i64 0,.bool false,.int .i64 9]) (by simp[results,Tryz.results38,go_sem]) rfl ?_;exact⟨0,false,9,rfl,cA.out,aU.out⟩
    ·have dj:decide ((j2:Int)<(nr:Int))=false:=Zd (by omega);have bK:decide (j2<nr)=false:=Zd hlt;have cD:Hid (rows.all (els P)=true):=Zk (by have h:=aW.out;rwa [List.take_of_length_le (by rw[←aB.out];omega)] at h);obtain⟨w5,eT⟩:∃w5:World,w5=wr:=⟨_,rfl⟩;subst eT;clear hj hlt fG fH;go_wp2_with fail;clear dj bK;go_loopw [15,16] (fun uv cv wr=>WdC P ((tn:Int)+1) rows m w5 uv cv wr) (fun _ cv _=>m- (intOf cv).toNat)
     case atStart=>exact⟨0,[],Nat.zero_le _,rfl,rfl,fun j h=>by simp at h,World.ownsRow_nil _ _ _ _,Zb _ _⟩
     case round=>
      obtain⟨i,ps,hi,rfl,cQ,cS,aD,aA⟩:=hrel;have cE:=Zk cQ;have dA:=Zk cS;have bS:=Zk aD;have dW:=Zk aA;have aQ:Hid (Below w.heap.size w wr):=Zk (aG.out.trans ((aT.out.trans (aA.mono aT.out.size)).mono aG.out.size));have aZ:Hid (Below w1.heap.size w1 wr):=Zk (aC.out.trans ((aT.out.trans (aA.mono aT.out.size)).mono aC.out.size));have fF:=aA.size;have dT:(ps.map fun p=>gd p 0).length=i:=by rw[List.length_map,cQ]
      obtain⟨UV,bT⟩:∃UV,UV=ps.map fun p=>gd p 0:=⟨_,rfl⟩
      rw[←bT] at bS dT;have dB:=Zk bT;have eM:Hid (∀x∈UV,An x):=Zk (fun x hx=>by
       rw[bT] at hx;obtain⟨p,fD,rfl⟩:=List.mem_map.1 hx;obtain⟨r,hr,rfl⟩:=List.mem_iff_getElem.1 fD;exact Ny (cS r hr))
      clear cQ cS aD aA bT;by_cases hlt:i<m
      ·have di:decide ((i:Int)<(m:Int))=true:=Ze (by omega);have eP:decide (i<m)=true:=Ze hlt;have wi:IntKind.i64.wrap ((i:Int)+1)=(i:Int)+1:=by exact Zi _ (by omega)
       obtain⟨wa,eU⟩:∃wa:World,wa=wr:=⟨_,rfl⟩;subst eU;go_wp2_with fail;go_loopw [17,74] (fun s iv wr=>CoW (ans rows) i wa s iv wr) (fun _ iv _=>nr- (intOf iv).toNat)
       case atStart=>exact⟨0,Nat.zero_le _,rfl,World.ownsRow_nil _ _ _ _,Zb _ _⟩
       case round=>
        obtain⟨j,hj,rfl,aD,aA⟩:=hrel;rw[Dm,←aB.out] at hj;obtain⟨As,cs,rfl⟩:=Bn aD;have HO:=Zk aD;have cT:=Zk aA;have dV:wa.heap.size≤wr.heap.size:=aA.size;have aR:Hid (Below w.heap.size w wr):=Zk (aQ.out.trans (aA.mono aQ.out.size));have aP:Hid (Below w1.heap.size w1 wr):=Zk (aZ.out.trans (aA.mono aZ.out.size));clear aD aA;by_cases hltj:j<nr
        ·have dl:decide ((j:Int)<(nr:Int))=true:=Ze (by omega);have eQ:decide (j<nr)=true:=Ze hltj;have aE:j<rows.length:=by rw[←aB.out];exact hltj
         have fC:j<(ans rows).length:=by rw[Dm];exact aE
         obtain⟨bJ,bP,Bj,cI,aK,hW⟩:=bQ.out j aE;obtain⟨rfl,rfl⟩:bJ=bh∧bP=oh:=by injection aK with e;injection e with e1 e2;exact⟨e1.symm,e2.symm⟩
         obtain⟨cj,aO⟩:=hW wr aR.out;have bY:=cW.out j aE;rw[bY] at cj aO;have dN:i<rows[j].length:=by rw[bY];exact hlt
         obtain⟨b2,o2,eB,bW,aL⟩:=aO.cells (by rw[bY];omega);subst eB;have c3:=aL i dN;obtain⟨y,ey⟩:∃y,y=rows[j][i]:=⟨_,rfl⟩;rw[←ey] at c3;have cZ:Hid (Bw ((ans rows).take (j+1)) i=Bw ((ans rows).take j) i++[(y,true)]):=Zk (by
          show _=_;rw[Ji (ans rows) i j fC];have e1:(ans rows)[j]=(true,rows[j]):=by simp[ans]
          rw[e1];simp only[if_true];rw[Bu dN,ey])
         have dK:(Bw ((ans rows).take j) i).length=j:=by rw[Br,List.length_take,Dm];omega
         have wj:IntKind.i64.wrap ((j:Int)+1)=(j:Int)+1:=by exact Zi _ (by omega)
         obtain⟨D,hD⟩:∃D,Bw ((ans rows).take j) i=D:=⟨_,rfl⟩;rw[hD] at HO cZ dK⊢;have hDl:D.length≤1000000:=by omega
         have z0:(0:Int)≤(j:Int):=by omega
         have z1:(j:Int)<(nr:Int):=by omega
         have z2:(0:Int)≤(i:Int):=by omega
         have z3:(i:Int)<(m:Int):=by omega
         clear aL hW aO ey hD dK bY aK;go_wp2_with (at_builtin;refine wpList_append_own _ (by rfl) _ _ 114 (by rfl) wa.heap.size 116 ic _ 2 16 Tryz.underlying114 eY eZ fA fB rfl (by omega) _ _ _ (by rfl) (HO.out.alloc _) ⟨wr.heap.size,0,none⟩ 1 1 [.int .i64 y,.bool true] (by rfl) rfl (Ax wr _ _) (by intro u hu;simp at hu;rcases hu with rfl|rfl<;>rfl) (by unfold maxLen;omega) (by omega) (by simp;omega) ?_;intro v8 w8 aM dL _;have dX:Hid (Below wa.heap.size wa w8):=Zk ((cT.out.alloc dV _).grown dL (by simp;omega) (fun b hb=>(HO.out.lt b hb).1));have eG:=Zk aM;clear aM dL)
         go_roundw
         case rel=>
          refine⟨j+1,by rw[Dm,←aB.out];omega,by go_num,?_,dX.out⟩;rw[cZ.out,List.length_append];exact Fo eG.out
         case measure=>simp[intOf];omega
        ·have dl:decide ((j:Int)<(nr:Int))=false:=Zd (by omega);have eQ:decide (j<nr)=false:=Zd hltj;have dS:SCl wr (.slice As nr cs) (Bw (ans rows) i):=by
          have h:=HO.out;have e1:(ans rows).take j=ans rows:=List.take_of_length_le (by rw[Dm,←aB.out];omega);have e2:(Bw (ans rows) i).length=nr:=by rw[Br,Dm,←aB.out]
          rw[e1,e2] at h;refine Oc (l:=Bw (ans rows) i) (by rw[e2];exact h) (Lx _ i fun a ha x hx=> ?_)
          unfold ans at ha;obtain⟨r,hr,rfl⟩:=List.mem_map.1 ha;have h1:=List.all_eq_true.1 cD.out r hr;exact Ch dG.2 h1 x hx
         have eJ:=Zk dS;have dP:(Bw ((ans rows).take j) i).length=nr:=by rw[Br,List.length_take,Dm,←aB.out];omega
         have cC:Hid (Calls Tryz.prog 62 #[.agg #[.int .i64 P],.slice As nr cs,.int .i64 ((tn:Int)+1)] wr (RcP P (Bw (ans rows) i) ((tn:Int)+1) wr)):=Zk (Qo P (Bw (ans rows) i) ((tn:Int)+1) _ wr hP eJ.out (by rw[Br,Dm,←aB.out];omega));rw[dP];obtain⟨f0,f1,f2⟩:=aV.out wr aP.out;clear dP hltj HO dS;go_wp2_with fail;(with_reducible refine cC.out.mono ?_)
         rintro e w6 ⟨er,v1,v2,p,q,rfl,bX,bO,cP,dQ,_⟩;obtain⟨A1,c1,eR⟩:=Bn cP;obtain⟨A2,c2,eS⟩:=Bn dQ;subst eR eS;obtain⟨np,cK⟩:∃np,np=p.length:=⟨_,rfl⟩;obtain⟨nq,dC⟩:∃nq,nq=q.length:=⟨_,rfl⟩;rw[←cK,←dC];have eC:=Zk cK;have bH:=Zk bO;have eE:=Zk cP;have bB:Hid (Below wa.heap.size wa w6):=Zk (cT.out.trans (bX.mono dV));have bE:Hid (Below w.heap.size w w6):=Zk (aR.out.trans (bX.mono aR.out.size));have aY:Hid (Below w1.heap.size w1 w6):=Zk (aP.out.trans (bX.mono aP.out.size));clear bX bO cP dQ cK dC f0 f1 f2;obtain⟨X,eX⟩:∃X,X=w6.heap.size:=⟨_,rfl⟩;obtain⟨wx,bU⟩:∃wx:World,wx=w6.alloc (.cells #[.slice A1 np c1,.slice A2 nq c2] 118):=⟨_,rfl⟩;have cH:Hid (w6.alloc (.cells #[.slice A1 np c1,.slice A2 nq c2] 118)=wx):=bU.symm;have aF:Hid (Below w6.heap.size w6 wx):=Zk (by rw[bU];exact (Zb _ w6).alloc (Zl _) _);have aJ:Hid (wx.heap[X]? =some (.cells #[.slice A1 np c1,.slice A2 nq c2] 118 (0,0))):=Zk (by show _=_;rw[bU,eX];exact Zh w6 _);have eO:Hid (∀W,Below wx.heap.size wx W→W.cell? ⟨X,0,none⟩=some (.slice A1 np c1)∧W.cell? ⟨X,1,none⟩=some (.slice A2 nq c2)):=Zk (fun W hg=>by
          have dH:=(hg.block X (Ae aJ.out)).trans aJ.out;exact⟨Zc W X 0 _ _ _ dH,Zc W X 1 _ _ _ dH⟩)
         have bC:Hid (Below wa.heap.size wa wx):=Zk (bB.out.trans (aF.out.mono bB.out.size));have cB:Hid (Below w.heap.size w wx):=Zk (bE.out.trans (aF.out.mono bE.out.size));have bZ:Hid (Below w1.heap.size w1 wx):=Zk (aY.out.trans (aF.out.mono aY.out.size));go_upto_region 30 with fail
         rw[cH.out,←eX];clear bU eX;by_cases he:er=0
         case' neg=>
          have de:(er !=0)=true:=by rw[bne_iff_ne];exact he
          have aU:Hid (WaR P nr tn rows 0 false 0):=Zk (.inr ⟨HC.out,.inr ⟨bI.out,.inr ⟨cD.out,rfl,.inl ⟨⟨i,by rw[←HM.out];exact hlt,p,er,bH.out,he⟩,rfl,rfl⟩⟩⟩⟩);clear he;go_wp2_with fail;refine bodyPost_ret (v:= .tuple #[.int .i64 0,.bool false,.int .i64 0]) (by simp[results,Tryz.results38,go_sem]) rfl ?_;exact⟨0,false,0,rfl,cB.out,aU.out⟩
         subst he;obtain⟨y0,y1⟩:=eO.out wx (Zb _ _);obtain⟨f0,f1,f2⟩:=aV.out wx bZ.out;have eK:Hid (SI wx (.slice A1 np c1) p):=Zk (by
          have h1:=Be eE.out aF.out;rw[eC.out];exact SI.of_own h1 (un_r bH.out dG))
         obtain⟨y,ey⟩:∃y,y=gd p 0:=⟨_,rfl⟩;have HY:=Zk ey;have eN:Hid (Calls Tryz.prog 58 #[.agg #[.int .i64 P],.slice A1 np c1,.int .i64 0] wx fun e w'=>∃z,e= .returned (.tuple #[.int .i64 y,.int .i64 z])∧Below wx.heap.size wx w'):=(show Hid _ from
          (Gb P 0 p _ wx hP (by unfold An;omega) eK.out (by have:=Wt bH.out (by omega);omega)).mono fun e w' ⟨h1,h2⟩=>⟨rvE P 0 p,by rw[h1,ey,←Xb cY.out bH.out (by omega)],h2⟩)
         clear ey;go_wp2_with fail;(with_reducible refine eN.out.mono ?_)
         rintro e w7 ⟨z,rfl,dJ⟩;have bD:Hid (Below wa.heap.size wa w7):=Zk (bC.out.trans (dJ.mono bC.out.size));have bA:Hid (Below w5.heap.size w5 w7):=Zk (dW.out.trans (bD.out.mono fF));have bG:Hid (w7.ownsRow w5.heap.size 3 1 u15 UV.length (UV.map (Value.int .i64))):=Zk (Be bS.out bD.out);have dU:=bA.out.size;clear dJ y0 y1 f0 f1 f2;go_wp2_with (at_builtin;refine Az w7 (by rfl) _ _ 22 (by rfl) w5.heap.size 3 Tryz.underlying22 Bf _ UV (by rfl) (by exact bG.out) y (by rfl) (by omega) (by exact dU) ?_;intro v9 w9 aN dM;have eH:=Zk aN;have dY:=Zk dM;clear aN dM);go_roundw
         case rel=>
          refine⟨i+1,ps++[p],by omega,by go_num,by rw[List.length_append,cE.out];rfl,fun j h=> ?_,?_,(bA.out.alloc dU _).grown dY.out (by simp;omega) (fun b hb=>(bG.out.lt b hb).1)⟩
          ·by_cases hj:j<ps.length
           ·rw[List.getElem_append_left hj];exact dA.out j hj
           ·have e:j=ps.length:=by simp at h;omega
            subst e;rw[List.getElem_append_right (Zl _)];simp only[Nat.sub_self,List.getElem_cons_zero];rw[cE.out];exact bH.out
          ·have e:(ps++[p]).map (fun p=>gd p 0)=UV++[y]:=by rw[List.map_append,dB.out,HY.out];rfl
           rw[e];exact eH.out
         case measure=>simp[intOf];omega
      ·have di:decide ((i:Int)<(m:Int))=false:=Zd (by omega);have eP:decide (i<m)=false:=Zd hlt;have dO:i=m:=by omega
       obtain⟨Au,cu,eu⟩:=Bn bS.out;subst eu;have eL:Hid (SI wr (.slice Au UV.length cu) UV):=Zk (SI.of_own bS.out eM.out);have eI:Hid (Calls Tryz.prog 63 #[.slice Au UV.length cu] wr fun e w'=>e= .returned (.tuple #[.int .i64 (Ei UV).1,.bool (Ei UV).2])∧wr=w'):=Zk (Un UV _ wr eL.out (by omega))
       have aU:Hid (WaR P nr tn rows (Ei UV).1 (Ei UV).2 0):=Zk (.inr ⟨HC.out,.inr ⟨bI.out,.inr ⟨cD.out,rfl,.inr ⟨ps,srt (wrA P (ans rows) 0 ps),⟨by rw[cE.out,dO];exact HM.out,dA.out,rfl⟩,by rw[←dB.out]⟩⟩⟩⟩);clear hlt dO dT;go_wp2_with fail;(with_reducible refine eI.out.mono ?_)
       rintro e w9 ⟨rfl,rfl⟩;obtain⟨oa,dD⟩:∃oa,oa=(Ei UV).1:=⟨_,rfl⟩;obtain⟨ob,dE⟩:∃ob,ob=(Ei UV).2:=⟨_,rfl⟩;rw[←dD,←dE] at aU⊢;clear dD dE;go_wp2_with fail;refine bodyPost_ret (v:= .tuple #[.int .i64 oa,.bool ob,.int .i64 0]) (by simp[results,Tryz.results38,go_sem]) rfl ?_;exact⟨oa,ob,0,rfl,aQ.out,aU.out⟩
open Go.RowKit Go.Shelf
theorem frn_of{n:Nat}{L:List Value}(h:L.length=n):frn n L:=by subst h;exact Cz L
def Eg:Code→Option Nat
 | .region k _ _=>some k
 | .seq a b=>(Eg a).or (Eg b)
 | .block _ c=>Eg c
 | .loop c=>Eg c
 | .scope c=>Eg c
 | .cond _ a b=>(Eg a).or (Eg b)
 |_=>none
def Dp(n:Nat):Code→Option Code
 | .seq a b=>(Dp n a).or (Dp n b)
 | .block _ c=>Dp n c
 | .loop c=>if Eg c=some n then some (.loop c) else Dp n c
 | .scope c=>Dp n c
 | .cond _ a b=>(Dp n a).or (Dp n b)
 |_=>none
def quL(P n t m want:Int)(l:List Int)(an:Int):List (List Int):=if quI P n t m want l an=0 then Dg P want ((l.drop an.toNat).take (m*t).toNat) t.toNat n.toNat m.toNat else []
def quT(P n t m want:Int)(l:List Int)(an:Int):List Int:=if quI P n t m want l an=0 then l else []
def quA(P n t m want:Int)(l:List Int)(an:Int):Int:=if quI P n t m want l an=0 then an+m*t else 0
theorem QuP.sum{P n t m want:Int}{l:List Int}{an:Int}{w:World}{e:Ending}{w':World}(h:QuP P n t m want l an w e w'):
  ∃vq A1 n1 c1,e= .returned (.tuple #[vq,.agg #[.slice A1 n1 c1,.int .i64 (quA P n t m want l an)],.int .i64 (quI P n t m want l an)])∧Below w.heap.size w w'∧SL w' vq (quL P n t m want l an)∧SI w' (.slice A1 n1 c1) (quT P n t m want l an):=by
 obtain⟨vq,v1,a1,rfl,hb,h0,h1⟩:=h;by_cases hz:quI P n t m want l an=0
 ·obtain⟨e1,e2,e3⟩:=h0 hz;obtain⟨A1,c1,ev⟩:=e2.form';subst ev;unfold quL quT quA;rw[if_pos hz,if_pos hz,if_pos hz,←e1];exact⟨vq,A1,_,c1,rfl,hb,e3.sl,e2⟩
 ·obtain⟨e1,e2,e3⟩:=h1 hz;subst e1 e2 e3;unfold quL quT quA;rw[if_neg hz,if_neg hz,if_neg hz];exact⟨_,none,0,0,rfl,hb,⟨none,0,rfl,Zl _,by omega,fun h=>by simp at h⟩,⟨none,0,rfl,Zl _,by omega,fun x h=>by simp at h,fun h=>by simp at h⟩⟩
def lmL(P n t m:Int):List Int:=if ccE P n t m=0 then List.replicate (m*t).toNat P else []
theorem Te{P n t m:Int}{base:Nat}{v:Value}{w:World}(hP:An P)(h0:ccE P n t m=0→w.ownsRow base 3 1 v (List.replicate (m*t).toNat P).length ((List.replicate (m*t).toNat P).map (Value.int .i64)))(h1:ccE P n t m≠0→v= .slice none 0 0):SI w v (lmL P n t m):=by
 unfold lmL;by_cases hz:ccE P n t m=0
 ·rw[if_pos hz];exact SI.of_own (h0 hz) fun x hx=>by rw[List.eq_of_mem_replicate hx];exact hP
 ·rw[if_neg hz,h1 hz];exact⟨none,0,rfl,Zl _,by omega,fun x h=>by simp at h,fun h=>by simp at h⟩
noncomputable def zBy:Code:=((Tryz.f5.body.bind (Dp 66)).getD .skip)
set_option maxRecDepth 1000000 in
set_option maxHeartbeats 16000000 in
theorem zDn(X SP NP:Nat)(n t:Int)(ps:Nat→Int×Int)(w:World)(hnp:NP≤100)(hX:∀W,Below w.heap.size w W→W.cell? ⟨X,1,none⟩=some (.int .i64 n)∧W.cell? ⟨X,2,none⟩=some (.int .i64 t))(hY:∀W,Below w.heap.size w W→∀k,k<NP→W.cell? ⟨SP,k*2,none⟩=some (.int .i64 (ps k).1)∧W.cell? ⟨SP,k*2+1,none⟩=some (.int .i64 (ps k).2)){lfr:List Value}{Q:Exit→Act→World→Prop}
  (hK:∀(aa ab ac ad ae af ag ah ai aj ak al am an ao ap aq ar au av aw ax:Value) (w':World),Below w.heap.size w w'→Q (.exit 16) ⟨(seg (seg (seg lfr 18 [aa]) 72 [ab]) 398 [ac,ad,ae,af,ag,ah,ai,aj,ak,al,am,an,ao,ap,aq,ar,au,av,aw,ax]).toArray,[]⟩ w') (hL:frn 419 lfr) (aH:lfr[38]? =some (Value.pointer (some ⟨X,0,none⟩))) (aA:lfr[396]? =some (Value.slice (some ⟨SP,0,none⟩) NP NP)) (aB:lfr[397]? =some (Value.int .i64 NP)) (aC:lfr[398]? =some (Value.int .i64 0)):
  Code.wp Tryz.prog zBy Q ⟨lfr.toArray,[]⟩ w:=by
 revert hK aH aA aB aC
 apply Df hL;iterate 419 intro _
 intro hK aH aA aB aC;simp only[List.getElem?_cons_succ,List.getElem?_cons_zero,Option.some.injEq] at aH aA aB aC;simp (maxSteps:=9000000) only[Ct,Cu,Cv] at hK;subst aH aA aB aC;have HK:=Zk hK;have HX:=Zk hX;have HY:=Zk hY;clear hK hX hY;conv=>arg 2;whnf
 go_loopw [398] (fun iv wr=>∃k:Nat,k≤NP∧iv= .int .i64 k∧Below w.heap.size w wr) (fun iv _=>NP- (intOf iv).toNat)
 case atStart=>exact⟨0,Nat.zero_le _,rfl,Zb _ _⟩
 case round=>
  obtain⟨k,hk,rfl,aF⟩:=hrel;have aG:=Zk aF;have wk:IntKind.i64.wrap ((k:Int)+1)=(k:Int)+1:=by exact Zi _ (by omega)
  clear aF;by_cases hk3:k<NP
  ·have dk:decide ((k:Int)<(NP:Int))=true:=Ze (by omega);have aP:decide (k<NP)=true:=Ze hk3;obtain⟨y0,y1⟩:=HY.out wr aG.out k hk3;obtain⟨a,ea⟩:∃a,a=(ps k).1:=⟨_,rfl⟩;obtain⟨b,eb⟩:∃b,b=(ps k).2:=⟨_,rfl⟩;rw[←ea] at y0;rw[←eb] at y1;clear ea eb;have z0:=Int.natCast_nonneg k;have z1:(k:Int)<(NP:Int):=by omega
   obtain⟨Y,eY⟩:∃Y,Y=wr.heap.size:=⟨_,rfl⟩;obtain⟨wx,aI⟩:∃wx:World,wx=wr.alloc (.cells #[.int .i64 a,.int .i64 b] 75):=⟨_,rfl⟩;have aK:Hid (wr.alloc (.cells #[.int .i64 a,.int .i64 b] 75)=wx):=aI.symm;have aJ:Hid (Below wr.heap.size wr wx):=Zk (by rw[aI];exact (Zb _ wr).alloc (Zl _) _);have aD:Hid (wx.heap[Y]? =some (.cells #[.int .i64 a,.int .i64 b] 75 (0,0))):=Zk (by show _=_;rw[aI,eY];exact Zh wr _);have aL:Hid (∀W,Below wx.heap.size wx W→W.cell? ⟨Y,0,none⟩=some (.int .i64 a)∧W.cell? ⟨Y,1,none⟩=some (.int .i64 b)):=Zk (fun W hg=>by
    have aM:=(hg.block Y (Ae aD.out)).trans aD.out;exact⟨Zc W Y 0 _ _ _ aM,Zc W Y 1 _ _ _ aM⟩)
   have aE:Hid (Below w.heap.size w wx):=Zk (aG.out.trans (aJ.out.mono aG.out.size));go_upto_region 68 with fail
   rw[aK.out,←eY];clear aI eY;clear y0 y1;refine zEb X Y n t a b (beB n t a b) wx (fun W hb=>⟨(HX.out W (aE.out.trans (hb.mono aE.out.size))).1,(HX.out W (aE.out.trans (hb.mono aE.out.size))).2,(aL.out W hb).1,(aL.out W hb).2⟩) (fun W _=>Hi n t a b W) (fun W _=>Qw n t a b W) ?_ (frn_of (by rfl)) (by rfl) (by rfl)
   simp (maxSteps:=9000000) only[Ct,Cu,Cv];rintro ag ah ai aj ak al am an ao ap aq ar au av wy aN
   have aO:Hid (Below w.heap.size w wy):=Zk (aE.out.trans (aN.mono aE.out.size));clear aN
   go_wp2_with fail;go_roundw
   case rel=>exact⟨k+1,by omega,by go_num,aO.out⟩
   case measure=>simp[intOf];omega
  ·have dk:decide ((k:Int)<(NP:Int))=false:=Zd (by omega);have aP:decide (k<NP)=false:=Zd hk3;go_wp2_with fail;exact HK.out _ _ _ _ _ _ _ _ _ _ _ _ _ _ _ _ _ _ _ _ _ _ wr aG.out
noncomputable def zAj:Code:=((Tryz.f5.body.bind (Dp 58)).getD .skip)
set_option maxRecDepth 1000000 in
set_option maxHeartbeats 16000000 in
theorem zCy(X SP NP:Nat)(P n t:Int)(w:World)(hnp:NP≤100)(hP:An P)(hE:∀W,Below w.heap.size w W→EW W)(hX:∀W,Below w.heap.size w W→W.cell? ⟨X,0,none⟩=some (.int .i64 P)∧W.cell? ⟨X,1,none⟩=some (.int .i64 n)∧W.cell? ⟨X,2,none⟩=some (.int .i64 t))(hY:∀W,Below w.heap.size w W→∀k,k<NP→∃A m c rows,W.cell? ⟨SP,k,none⟩=some (.slice A m c)∧SL W (.slice A m c) rows){lfr:List Value}{Q:Exit→Act→World→Prop}
  (hK:∀(aa ab ac ad ae af ag ah ai aj ak al am an ao ap aq ar au av aw ax ay az aA aB aC aD aE aF aG aH aI aJ aK aL aM aN aO aP aQ aR aS aT aU aV:Value) (w':World),Below w.heap.size w w'→Q (.exit 14) ⟨(seg (seg (seg lfr 18 [aa]) 64 [ab,ac,ad,ae,af,ag,ah]) 350 [ai,aj,ak,al,am,an,ao,ap,aq,ar,au,av,aw,ax,ay,az,aA,aB,aC,aD,aE,aF,aG,aH,aI,aJ,aK,aL,aM,aN,aO,aP,aQ,aR,aS,aT,aU,aV]).toArray,[]⟩ w') (hL:frn 419 lfr) (bB:lfr[38]? =some (Value.pointer (some ⟨X,0,none⟩))) (aW:lfr[348]? =some (Value.slice (some ⟨SP,0,none⟩) NP NP)) (aX:lfr[349]? =some (Value.int .i64 NP)) (aY:lfr[350]? =some (Value.int .i64 0)):
  Code.wp Tryz.prog zAj Q ⟨lfr.toArray,[]⟩ w:=by
 revert hK bB aW aX aY
 apply Df hL;iterate 419 intro _
 intro hK bB aW aX aY;simp only[List.getElem?_cons_succ,List.getElem?_cons_zero,Option.some.injEq] at bB aW aX aY;simp (maxSteps:=9000000) only[Ct,Cu,Cv] at hK;subst bB aW aX aY;have HK:=Zk hK;have HX:=Zk hX;have HY:=Zk hY;have HE:=Zk hE;clear hK hX hY hE;conv=>arg 2;whnf
 go_loopw [350] (fun iv wr=>∃k:Nat,k≤NP∧iv= .int .i64 k∧Below w.heap.size w wr) (fun iv _=>NP- (intOf iv).toNat)
 case atStart=>exact⟨0,Nat.zero_le _,rfl,Zb _ _⟩
 case round=>
  obtain⟨k,hk,rfl,bA⟩:=hrel;have aZ:=Zk bA;have wk:IntKind.i64.wrap ((k:Int)+1)=(k:Int)+1:=by exact Zi _ (by omega)
  clear bA;by_cases hk3:k<NP
  ·have dk:decide ((k:Int)<(NP:Int))=true:=Ze (by omega);have bH:decide (k<NP)=true:=Ze hk3;obtain⟨A,m,c,rows,y0,hs⟩:=HY.out wr aZ.out k hk3;have HS:Hid (SL wr (.slice A m c) rows):=hs;clear hs;obtain⟨x0,x1,x2⟩:=HX.out wr aZ.out;have z0:=Int.natCast_nonneg k;have z1:(k:Int)<(NP:Int):=by omega
   go_wp2_with fail;(with_reducible refine (Lo P n t rows _ wr hP HS.out (HE.out wr aZ.out)).mono ?_)
   rintro e w2 ⟨at1,ok1,er1,rfl,bD,h1⟩;have H1:=Zk h1;have bC:Hid (Below w.heap.size w w2):=Zk (aZ.out.trans (bD.mono aZ.out.size));have bG:=Zk (HS.out.below bD);obtain⟨x0,x1,x2⟩:=HX.out w2 bC.out;clear h1 bD;go_wp2_with fail;(with_reducible refine (Ow P n t rows _ w2 hP bG.out).mono ?_)
   rintro e w3 ⟨at2,ok2,er2,rfl,bE,h2⟩;obtain⟨e1,e2,e3⟩:=H1.out.uniq h2;subst e1 e2 e3;have bF:Hid (Below w.heap.size w w3):=Zk (bC.out.trans (bE.mono bC.out.size));clear h2 bE;go_wp2_with fail;go_roundw
   case rel=>exact⟨k+1,by omega,by go_num,bF.out⟩
   case measure=>simp[intOf];omega
  ·have dk:decide ((k:Int)<(NP:Int))=false:=Zd (by omega);have bH:decide (k<NP)=false:=Zd hk3;go_wp2_with fail;exact HK.out _ _ _ _ _ _ _ _ _ _ _ _ _ _ _ _ _ _ _ _ _ _ _ _ _ _ _ _ _ _ _ _ _ _ _ _ _ _ _ _ _ _ _ _ _ _ wr aZ.out
noncomputable def Yy:Code:=((Tryz.f5.body.bind (Dp 49)).getD .skip)
set_option maxRecDepth 1000000 in
set_option maxHeartbeats 16000000 in
theorem zDj(X SP NP:Nat)(P n t:Int)(va:Value)(l:List (Bool×List Int))(w:World)(hnp:NP≤100)(hP:An P)(hE:∀W,Below w.heap.size w W→EW W)(hX:∀W,Below w.heap.size w W→W.cell? ⟨X,0,none⟩=some (.int .i64 P)∧W.cell? ⟨X,1,none⟩=some (.int .i64 n)∧W.cell? ⟨X,2,none⟩=some (.int .i64 t))(hY:∀W,Below w.heap.size w W→∀k,k<NP→∃y,W.cell? ⟨SP,k,none⟩=some (.int .i64 y))(hS:∀W,Below w.heap.size w W→SAn W va l){lfr:List Value}{Q:Exit→Act→World→Prop}
  (hK:∀(aa ab ac ad ae af ag ah ai aj ak al am an ao ap aq ar au av aw ax ay az aA aB aC aD aE aF aG aH aI aJ aK aL aM aN aO aP:Value) (w':World),Below w.heap.size w w'→Q (.exit 12) ⟨(seg (seg (seg lfr 18 [aa]) 58 [ab,ac,ad,ae,af]) 310 [ag,ah,ai,aj,ak,al,am,an,ao,ap,aq,ar,au,av,aw,ax,ay,az,aA,aB,aC,aD,aE,aF,aG,aH,aI,aJ,aK,aL,aM,aN,aO,aP]).toArray,[]⟩ w') (hL:frn 419 lfr) (bD:lfr[38]? =some (Value.pointer (some ⟨X,0,none⟩))) (bE:lfr[56]? =some (va)) (aS:lfr[308]? =some (Value.slice (some ⟨SP,0,none⟩) NP NP)) (aT:lfr[309]? =some (Value.int .i64 NP)) (aU:lfr[310]? =some (Value.int .i64 0)):
  Code.wp Tryz.prog Yy Q ⟨lfr.toArray,[]⟩ w:=by
 revert hK bD bE aS aT aU
 apply Df hL;iterate 419 intro _
 intro hK bD bE aS aT aU;simp only[List.getElem?_cons_succ,List.getElem?_cons_zero,Option.some.injEq] at bD bE aS aT aU;simp (maxSteps:=9000000) only[Ct,Cu,Cv] at hK;subst bD bE aS aT aU;have HK:=Zk hK;have HX:=Zk hX;have HY:=Zk hY;have HE:=Zk hE;have HS:=Zk hS;clear hK hX hY hE hS;conv=>arg 2;whnf
 go_loopw [310] (fun iv wr=>∃k:Nat,k≤NP∧iv= .int .i64 k∧Below w.heap.size w wr) (fun iv _=>NP- (intOf iv).toNat)
 case atStart=>exact⟨0,Nat.zero_le _,rfl,Zb _ _⟩
 case round=>
  obtain⟨k,hk,rfl,bB⟩:=hrel;have aZ:=Zk bB;have wk:IntKind.i64.wrap ((k:Int)+1)=(k:Int)+1:=by exact Zi _ (by omega)
  clear bB;by_cases hk3:k<NP
  ·have dk:decide ((k:Int)<(NP:Int))=true:=Ze (by omega);have cH:decide (k<NP)=true:=Ze hk3;obtain⟨y,y0⟩:=HY.out wr aZ.out k hk3;obtain⟨x0,x1,x2⟩:=HX.out wr aZ.out;have z0:=Int.natCast_nonneg k;have z1:(k:Int)<(NP:Int):=by omega
   go_wp2_with fail;(with_reducible refine (Nr P n t y l _ wr hP (HS.out wr aZ.out) (HE.out wr aZ.out)).mono ?_)
   rintro e w2 ⟨row,aQ,er,v1,v2,rfl,bT,bV,bK,bM⟩;obtain⟨A1,c1,e1⟩:=bK.form';obtain⟨A2,c2,e2⟩:=bM.form';subst e1 e2;have bY:=Zk bV;have bZ:=Zk bK;have cD:=Zk bM;have bO:Hid (Below w.heap.size w w2):=Zk (aZ.out.trans (bT.mono aZ.out.size));clear bV bK bM bT y0 x0 x1 x2;obtain⟨Y,eY⟩:∃Y,Y=w2.heap.size:=⟨_,rfl⟩;obtain⟨w3,bF⟩:∃w3:World,w3=w2.alloc (.cells #[.slice A1 row.length c1,.slice A2 aQ.length c2] 68):=⟨_,rfl⟩;have bH:Hid (w2.alloc (.cells #[.slice A1 row.length c1,.slice A2 aQ.length c2] 68)=w3):=bF.symm;have aX:Hid (Below w2.heap.size w2 w3):=Zk (by rw[bF];exact (Zb _ w2).alloc (Zl _) _);have aW:Hid (w3.heap[Y]? =some (.cells #[.slice A1 row.length c1,.slice A2 aQ.length c2] 68 (0,0))):=Zk (by show _=_;rw[bF,eY];exact Zh w2 _);have cG:Hid (∀W,Below w3.heap.size w3 W→W.cell? ⟨Y,0,none⟩=some (.slice A1 row.length c1)∧W.cell? ⟨Y,1,none⟩=some (.slice A2 aQ.length c2)):=Zk (fun W hg=>by
    have bS:=(hg.block Y (Ae aW.out)).trans aW.out;exact⟨Zc W Y 0 _ _ _ bS,Zc W Y 1 _ _ _ bS⟩)
   have bC:Hid (Below w.heap.size w w3):=Zk (bO.out.trans (aX.out.mono bO.out.size));go_upto_region 52 with fail
   rw[bH.out,←eY];clear bF eY;obtain⟨x0,x1,x2⟩:=HX.out w3 bC.out;go_wp2_with fail;(with_reducible refine (Mj P n t y l _ w3 hP (HS.out w3 bC.out)).mono ?_)
   rintro e w4 ⟨row2,wrl2,er2,v3,v4,rfl,bJ,bW,bL,bN⟩;obtain⟨e1,e2,e3⟩:=bY.out.uniq bW;subst e1 e2 e3;obtain⟨A3,c3,e1⟩:=bL.form';obtain⟨A4,c4,e2⟩:=bN.form';subst e1 e2;have cA:=Zk bL;have cE:=Zk bN;have bA:=Zk bJ;have bP:Hid (Below w.heap.size w w4):=Zk (bC.out.trans (bJ.mono bC.out.size));clear bW bL bN bJ x0 x1 x2;obtain⟨V,eV⟩:∃V,V=w4.heap.size:=⟨_,rfl⟩;obtain⟨w5,bG⟩:∃w5:World,w5=w4.alloc (.cells #[.slice A3 row.length c3,.slice A4 aQ.length c4] 68):=⟨_,rfl⟩;have bI:Hid (w4.alloc (.cells #[.slice A3 row.length c3,.slice A4 aQ.length c4] 68)=w5):=bG.symm;have aR:Hid (Below w4.heap.size w4 w5):=Zk (by rw[bG];exact (Zb _ w4).alloc (Zl _) _);have aV:Hid (w5.heap[V]? =some (.cells #[.slice A3 row.length c3,.slice A4 aQ.length c4] 68 (0,0))):=Zk (by show _=_;rw[bG,eV];exact Zh w4 _);have cC:Hid (∀W,Below w5.heap.size w5 W→W.cell? ⟨V,0,none⟩=some (.slice A3 row.length c3)∧W.cell? ⟨V,1,none⟩=some (.slice A4 aQ.length c4)):=Zk (fun W hg=>by
    have bR:=(hg.block V (Ae aV.out)).trans aV.out;exact⟨Zc W V 0 _ _ _ bR,Zc W V 1 _ _ _ bR⟩)
   have bQ:Hid (Below w.heap.size w w5):=Zk (bP.out.trans (aR.out.mono bP.out.size));have aY:Hid (Below w3.heap.size w3 w5):=Zk (bA.out.trans (aR.out.mono bA.out.size));go_upto_region 53 with fail
   rw[bI.out,←eV];clear bG eV;obtain⟨a0,a1⟩:=cG.out w5 aY.out;obtain⟨b0,b1⟩:=cC.out w5 (Zb _ _);have cB:Hid (SI w5 (.slice A1 row.length c1) row):=Zk (((bZ.out.below aX.out).below aY.out));have cF:Hid (SI w5 (.slice A2 aQ.length c2) aQ):=Zk (((cD.out.below aX.out).below aY.out));go_wp2_with fail;(with_reducible refine (Qj row aQ row aQ _ _ _ _ w5 cB.out cF.out (cA.out.below aR.out) (cE.out.below aR.out)).mono ?_)
   rintro e w6 ⟨rfl,bU⟩;have bX:Hid (Below w.heap.size w w6):=Zk (bQ.out.trans (bU.mono bQ.out.size));rw[show (decide (row=row)&&decide (aQ=aQ))=true from by simp];clear bU a0 a1 b0 b1;go_wp2_with fail;go_roundw
   case rel=>exact⟨k+1,by omega,by go_num,bX.out⟩
   case measure=>simp[intOf];omega
  ·have dk:decide ((k:Int)<(NP:Int))=false:=Zd (by omega);have cH:decide (k<NP)=false:=Zd hk3;go_wp2_with fail;exact HK.out _ _ _ _ _ _ _ _ _ _ _ _ _ _ _ _ _ _ _ _ _ _ _ _ _ _ _ _ _ _ _ _ _ _ _ _ _ _ _ _ wr aZ.out
noncomputable def zBb:Code:=((Tryz.f5.body.bind (Dp 46)).getD .skip)
set_option maxRecDepth 1000000 in
set_option maxHeartbeats 16000000 in
theorem zDr(X SP NP:Nat)(P n t wi wd:Int)(w:World)(hnp:NP≤100)(hP:An P)(hE:∀W,Below w.heap.size w W→EW W)(hX:∀W,Below w.heap.size w W→W.cell? ⟨X,0,none⟩=some (.int .i64 P)∧W.cell? ⟨X,1,none⟩=some (.int .i64 n)∧W.cell? ⟨X,2,none⟩=some (.int .i64 t))(hY:∀k,k<NP→∃A m c l,∀W,Below w.heap.size w W→W.cell? ⟨SP,k,none⟩=some (.slice A m c)∧SAn W (.slice A m c) l){lfr:List Value}{Q:Exit→Act→World→Prop}
  (hK:∀(aa ab ac ad ae af ag ah ai aj ak al am an ao ap aq ar au av aw ax ay az aA aB aC aD aE aF aG aH aI aJ aK aL aM aN aO aP aQ aR aS aT aU aV aW aX aY aZ:Value) (w':World),Below w.heap.size w w'→Q (.exit 10) ⟨(seg (seg (seg (seg lfr 18 [aa]) 56 [ab]) 58 [ac,ad,ae,af,ag]) 302 [ah,ai,aj,ak,al,am,an,ao,ap,aq,ar,au,av,aw,ax,ay,az,aA,aB,aC,aD,aE,aF,aG,aH,aI,aJ,aK,aL,aM,aN,aO,aP,aQ,aR,aS,aT,aU,aV,aW,aX,aY,aZ]).toArray,[]⟩ w') (hL:frn 419 lfr) (e7:lfr[7]? =some (Value.int .i64 wi)) (bI:lfr[26]? =some (Value.int .i64 wd)) (bJ:lfr[38]? =some (Value.pointer (some ⟨X,0,none⟩))) (bB:lfr[300]? =some (Value.slice (some ⟨SP,0,none⟩) NP NP)) (bC:lfr[301]? =some (Value.int .i64 NP)) (bD:lfr[302]? =some (Value.int .i64 0)):
  Code.wp Tryz.prog zBb Q ⟨lfr.toArray,[]⟩ w:=by
 revert hK e7 bI bJ bB bC bD
 apply Df hL;iterate 419 intro _
 intro hK e7 bI bJ bB bC bD;simp only[List.getElem?_cons_succ,List.getElem?_cons_zero,Option.some.injEq] at e7 bI bJ bB bC bD;simp (maxSteps:=9000000) only[Ct,Cu,Cv] at hK;subst e7 bI bJ bB bC bD;have HK:=Zk hK;have HX:=Zk hX;have HY:=Zk hY;have HE:=Zk hE;clear hK hX hY hE;conv=>arg 2;whnf
 go_loopw [302] (fun iv wr=>∃k:Nat,k≤NP∧iv= .int .i64 k∧Below w.heap.size w wr) (fun iv _=>NP- (intOf iv).toNat)
 case atStart=>exact⟨0,Nat.zero_le _,rfl,Zb _ _⟩
 case round=>
  obtain⟨k,hk,rfl,bG⟩:=hrel;have bH:=Zk bG;have wk:IntKind.i64.wrap ((k:Int)+1)=(k:Int)+1:=by exact Zi _ (by omega)
  clear bG;by_cases hk3:k<NP
  ·have dk:decide ((k:Int)<(NP:Int))=true:=Ze (by omega);have bW:decide (k<NP)=true:=Ze hk3;obtain⟨A,m,c,l,hy⟩:=HY.out k hk3;have bV:=Zk hy;have y0:=(hy wr bH.out).1;have z0:=Int.natCast_nonneg k;have z1:(k:Int)<(NP:Int):=by omega
   clear hy;obtain⟨CB,bN⟩:∃CB,CB=wr.heap.size:=⟨_,rfl⟩;obtain⟨wx,bK⟩:∃wx:World,wx=wr.alloc (.cells #[.int .i64 wi,.int .i64 wd] 3):=⟨_,rfl⟩;have bM:Hid (wr.alloc (.cells #[.int .i64 wi,.int .i64 wd] 3)=wx):=bK.symm;have bL:Hid (Below wr.heap.size wr wx):=Zk (by rw[bK];exact (Zb _ wr).alloc (Zl _) _);have bA:Hid (wx.heap[CB]? =some (.cells #[.int .i64 wi,.int .i64 wd] 3 (0,0))):=Zk (by show _=_;rw[bK,bN];exact Zh wr _);have bQ:Hid (∀W,Below wx.heap.size wx W→W.cell? ⟨CB,0,none⟩=some (.int .i64 wi)∧W.cell? ⟨CB,1,none⟩=some (.int .i64 wd)):=Zk (fun W hg=>by
    have bF:=(hg.block CB (Ae bA.out)).trans bA.out;exact⟨Zc W CB 0 _ _ _ bF,Zc W CB 1 _ _ _ bF⟩)
   have bE:Hid (Below w.heap.size w wx):=Zk (bH.out.trans (bL.out.mono bH.out.size));go_upto_region 49 with fail
   rw[bM.out,←bN];clear bK bN;clear y0;have bS:Hid (∀W,Below wx.heap.size wx W→EW W):=Zk (fun W hb=>HE.out W (bE.out.trans (hb.mono bE.out.size)))
   have bU:Hid (∀W,Below wx.heap.size wx W→W.cell? ⟨X,0,none⟩=some (.int .i64 P)∧W.cell? ⟨X,1,none⟩=some (.int .i64 n)∧W.cell? ⟨X,2,none⟩=some (.int .i64 t)):=Zk (fun W hb=>HX.out W (bE.out.trans (hb.mono bE.out.size)))
   have bR:Hid (∀W,Below wx.heap.size wx W→∀k,k<2→∃y,W.cell? ⟨CB,k,none⟩=some (.int .i64 y)):=Zk (fun W hb k hk=>by
    obtain⟨a0,a1⟩:=bQ.out W hb;have h3:k=0∨k=1:=by omega
    rcases h3 with rfl|rfl
    ·exact⟨_,a0⟩
    ·exact⟨_,a1⟩)
   have bT:Hid (∀W,Below wx.heap.size wx W→SAn W (.slice A m c) l):=Zk (fun W hb=>(bV.out W (bE.out.trans (hb.mono bE.out.size))).2)
   go_wp2_with fail;refine zDj X CB 2 P n t (.slice A m c) l wx (by omega) hP bS.out bU.out bR.out bT.out ?_ (frn_of (by rfl)) (by rfl) (by rfl) (by rfl) (by rfl) (by rfl);simp (maxSteps:=9000000) only[Ct,Cu,Cv];rintro aa ac ad ae af ag ap aq ar au av aw ax ay az aA aB aC aD aE aF aG aH aI aJ aK aL aM aN aO aP aQ aR aS aT aU aV aW aX aY wy bO
   have bP:Hid (Below w.heap.size w wy):=Zk (bE.out.trans (bO.mono bE.out.size));clear bO
   go_wp2_with fail;go_roundw
   case rel=>exact⟨k+1,by omega,by go_num,bP.out⟩
   case measure=>simp[intOf];omega
  ·have dk:decide ((k:Int)<(NP:Int))=false:=Zd (by omega);have bW:decide (k<NP)=false:=Zd hk3;go_wp2_with fail;exact HK.out _ _ _ _ _ _ _ _ _ _ _ _ _ _ _ _ _ _ _ _ _ _ _ _ _ _ _ _ _ _ _ _ _ _ _ _ _ _ _ _ _ _ _ _ _ _ _ _ _ _ wr bH.out
noncomputable def zAa:Code:=((Tryz.f5.body.bind (Dp 36)).getD .skip)
set_option maxRecDepth 1000000 in
set_option maxHeartbeats 16000000 in
theorem zDl(X TB SP NP nQ cQ:Nat)(P n t M an:Int)(AQ:Option Addr)(l:List Int)(w:World)(hnp:NP≤100)(hP:An P)(hM:An M)(hX:∀W,Below w.heap.size w W→W.cell? ⟨X,0,none⟩=some (.int .i64 P)∧W.cell? ⟨X,1,none⟩=some (.int .i64 n)∧W.cell? ⟨X,2,none⟩=some (.int .i64 t))(hT:∀W,Below w.heap.size w W→W.cell? ⟨TB,0,none⟩=some (.slice AQ nQ cQ)∧W.cell? ⟨TB,1,none⟩=some (.int .i64 an)∧SI W (.slice AQ nQ cQ) l)(hY:∀W,Below w.heap.size w W→∀k,k<NP→∃y,W.cell? ⟨SP,k,none⟩=some (.int .i64 y)){lfr:List Value}{Q:Exit→Act→World→Prop}
  (hK:∀(aa ab ac ad ae af ag ah ai aj ak al am ao ap aq ar au av aw ax ay az aA aB aC aD aE aF aG aH aI aJ aK aL aM aN aO aP aQ aR aS aT aU aV aW aX aY aZ a2 a3 a4:Value) (w':World),Below w.heap.size w w'→Q (.exit 8) ⟨(seg (seg (seg lfr 18 [aa]) 48 [ab,ac,ad,ae,af,ag,ah]) 252 [ai,aj,ak,al,am,ao,ap,aq,ar,au,av,aw,ax,ay,az,aA,aB,aC,aD,aE,aF,aG,aH,aI,aJ,aK,aL,aM,aN,aO,aP,aQ,aR,aS,aT,aU,aV,aW,aX,aY,aZ,a2,a3,a4]).toArray,[]⟩ w') (hL:frn 419 lfr) (bO:lfr[38]? =some (Value.pointer (some ⟨X,0,none⟩))) (bP:lfr[40]? =some (Value.int .i64 M)) (bQ:lfr[46]? =some (Value.pointer (some ⟨TB,0,none⟩))) (bC:lfr[250]? =some (Value.slice (some ⟨SP,0,none⟩) NP NP)) (bD:lfr[251]? =some (Value.int .i64 NP)) (bE:lfr[252]? =some (Value.int .i64 0)):
  Code.wp Tryz.prog zAa Q ⟨lfr.toArray,[]⟩ w:=by
 revert hK bO bP bQ bC bD bE
 apply Df hL;iterate 419 intro _
 intro hK bO bP bQ bC bD bE;simp only[List.getElem?_cons_succ,List.getElem?_cons_zero,Option.some.injEq] at bO bP bQ bC bD bE;simp (maxSteps:=9000000) only[Ct,Cu,Cv] at hK;subst bO bP bQ bC bD bE;have HK:=Zk hK;have HX:=Zk hX;have HY:=Zk hY;have HT:=Zk hT;clear hK hX hY hT;conv=>arg 2;whnf
 go_loopw [252] (fun iv wr=>∃k:Nat,k≤NP∧iv= .int .i64 k∧Below w.heap.size w wr) (fun iv _=>NP- (intOf iv).toNat)
 case atStart=>exact⟨0,Nat.zero_le _,rfl,Zb _ _⟩
 case round=>
  obtain⟨k,hk,rfl,bM⟩:=hrel;have bI:=Zk bM;have wk:IntKind.i64.wrap ((k:Int)+1)=(k:Int)+1:=by exact Zi _ (by omega)
  clear bM;by_cases hk3:k<NP
  ·have dk:decide ((k:Int)<(NP:Int))=true:=Ze (by omega);have cX:decide (k<NP)=true:=Ze hk3;obtain⟨y,y0⟩:=HY.out wr bI.out k hk3;obtain⟨x0,x1,x2⟩:=HX.out wr bI.out;obtain⟨t0,t1,hs⟩:=HT.out wr bI.out;have HS:=Zk hs;have z0:=Int.natCast_nonneg k;have z1:(k:Int)<(NP:Int):=by omega
   clear hs;go_wp2_with fail;(with_reducible refine (Ob P n t M y l an _ wr hP hM HS.out).mono ?_)
   rintro e w2 hq;obtain⟨vq,A1,n1,c1,rfl,cD,cF,cH⟩:=hq.sum;have cL:=Zk cF;have cS:=Zk cH;have bX:Hid (Below w.heap.size w w2):=Zk (bI.out.trans (cD.mono bI.out.size));obtain⟨a,ea⟩:∃a,a=quA P n t M y l an:=⟨_,rfl⟩;obtain⟨er,bV⟩:∃er,er=quI P n t M y l an:=⟨_,rfl⟩;rw[←ea,←bV];have HA:=Zk ea;have cK:=Zk bV;clear cF cH cD y0 x0 x1 x2 t0 t1 hq ea bV;obtain⟨Y,eY⟩:∃Y,Y=w2.heap.size:=⟨_,rfl⟩;obtain⟨w3,bR⟩:∃w3:World,w3=w2.alloc (.cells #[.slice A1 n1 c1,.int .i64 a] 39):=⟨_,rfl⟩;have bT:Hid (w2.alloc (.cells #[.slice A1 n1 c1,.int .i64 a] 39)=w3):=bR.symm;have bH:Hid (Below w2.heap.size w2 w3):=Zk (by rw[bR];exact (Zb _ w2).alloc (Zl _) _);have bG:Hid (w3.heap[Y]? =some (.cells #[.slice A1 n1 c1,.int .i64 a] 39 (0,0))):=Zk (by show _=_;rw[bR,eY];exact Zh w2 _);have cW:Hid (∀W,Below w3.heap.size w3 W→W.cell? ⟨Y,0,none⟩=some (.slice A1 n1 c1)∧W.cell? ⟨Y,1,none⟩=some (.int .i64 a)):=Zk (fun W hg=>by
    have cC:=(hg.block Y (Ae bG.out)).trans bG.out;exact⟨Zc W Y 0 _ _ _ cC,Zc W Y 1 _ _ _ cC⟩)
   have bN:Hid (Below w.heap.size w w3):=Zk (bX.out.trans (bH.out.mono bX.out.size));go_upto_region 39 with fail
   rw[bT.out,←eY];clear bR eY;obtain⟨x0,x1,x2⟩:=HX.out w3 bN.out;obtain⟨t0,t1,hs⟩:=HT.out w3 bN.out;have cP:=Zk hs;clear hs;go_wp2_with fail;(with_reducible refine (Ip P n t M y l an _ w3 hP hM cP.out).mono ?_)
   rintro e w4 hq;obtain⟨vq2,A2,n2,c2,rfl,bW,cG,cI⟩:=QuP.sum hq;have cM:=Zk cG;have cT:=Zk cI;have bJ:=Zk bW;have bY:Hid (Below w.heap.size w w4):=Zk (bN.out.trans (bW.mono bN.out.size));rw[←HA.out,←cK.out];clear cG cI bW x0 x1 x2 t0 t1 hq;obtain⟨V,eV⟩:∃V,V=w4.heap.size:=⟨_,rfl⟩;obtain⟨w5,bS⟩:∃w5:World,w5=w4.alloc (.cells #[.slice A2 n2 c2,.int .i64 a] 39):=⟨_,rfl⟩;have bU:Hid (w4.alloc (.cells #[.slice A2 n2 c2,.int .i64 a] 39)=w5):=bS.symm;have bA:Hid (Below w4.heap.size w4 w5):=Zk (by rw[bS];exact (Zb _ w4).alloc (Zl _) _);have bF:Hid (w5.heap[V]? =some (.cells #[.slice A2 n2 c2,.int .i64 a] 39 (0,0))):=Zk (by show _=_;rw[bS,eV];exact Zh w4 _);have cR:Hid (∀W,Below w5.heap.size w5 W→W.cell? ⟨V,0,none⟩=some (.slice A2 n2 c2)∧W.cell? ⟨V,1,none⟩=some (.int .i64 a)):=Zk (fun W hg=>by
    have cB:=(hg.block V (Ae bF.out)).trans bF.out;exact⟨Zc W V 0 _ _ _ cB,Zc W V 1 _ _ _ cB⟩)
   have bZ:Hid (Below w.heap.size w w5):=Zk (bY.out.trans (bA.out.mono bY.out.size));have bB:Hid (Below w3.heap.size w3 w5):=Zk (bJ.out.trans (bA.out.mono bJ.out.size));go_upto_region 40 with fail
   rw[bU.out,←eV];clear bS eV;have cN:=Zk ((cL.out.below bH.out).below bB.out);have cU:=Zk ((cS.out.below bH.out).below bB.out);have cO:=Zk (cM.out.below bA.out);have cV:=Zk (cT.out.below bA.out);go_wp2_with fail;(with_reducible refine (Ie _ _ _ _ w5 cN.out cO.out).mono ?_)
   rintro e w6 ⟨rfl,bL⟩;have cA:Hid (Below w.heap.size w w6):=Zk (bZ.out.trans (bL.mono bZ.out.size));have bK:=Zk bL;rw[show (decide (quL P n t M y l an=quL P n t M y l an))=true from by simp];obtain⟨a0,a1⟩:=cW.out w6 (bB.out.trans (bL.mono bB.out.size));obtain⟨b0,b1⟩:=cR.out w6 bL;clear bL;go_wp2_with fail;(with_reducible refine (Vf a a _ _ _ _ w6 (cU.out.below bK.out) (cV.out.below bK.out)).mono ?_)
   rintro e w7 ⟨rfl,cE⟩;have cJ:Hid (Below w.heap.size w w7):=Zk (cA.out.trans (cE.mono cA.out.size));rw[show tsB a a (quT P n t M y l an) (quT P n t M y l an)=true from by simp[tsB]];clear cE a0 a1 b0 b1;go_wp2_with fail;go_roundw
   case rel=>exact⟨k+1,by omega,by go_num,cJ.out⟩
   case measure=>simp[intOf];omega
  ·have dk:decide ((k:Int)<(NP:Int))=false:=Zd (by omega);have cX:decide (k<NP)=false:=Zd hk3;go_wp2_with fail;exact HK.out _ _ _ _ _ _ _ _ _ _ _ _ _ _ _ _ _ _ _ _ _ _ _ _ _ _ _ _ _ _ _ _ _ _ _ _ _ _ _ _ _ _ _ _ _ _ _ _ _ _ _ _ wr bI.out
noncomputable def Yw:Code:=((Tryz.f5.body.bind (Dp 33)).getD .skip)
set_option maxRecDepth 1000000 in
set_option maxHeartbeats 16000000 in
theorem zEr(X SP NP m:Nat)(P n t M ix:Int)(w:World)(hnp:NP≤100)(hP:An P)(hM:An M)(hm1:1≤m)(hm2:m≤65521)(hX:∀W,Below w.heap.size w W→W.cell? ⟨X,0,none⟩=some (.int .i64 P)∧W.cell? ⟨X,1,none⟩=some (.int .i64 n)∧W.cell? ⟨X,2,none⟩=some (.int .i64 t))(hT:∀k,k<NP→∃AQ nQ cQ an l,∀W,Below w.heap.size w W→W.cell? ⟨SP,k*2,none⟩=some (.slice AQ nQ cQ)∧W.cell? ⟨SP,k*2+1,none⟩=some (.int .i64 an)∧SI W (.slice AQ nQ cQ) l){lfr:List Value}{Q:Exit→Act→World→Prop}
  (hK:∀(aa ab ac ad ae af ag ah ai aj ak al am ao ap aq ar au av aw ax ay az aA aB aC aD aE aF aG aH aI aJ aK aL aM aN aO aP aQ aR aS aT aU aV aW aX aY aZ a2 a3 a4 a5 a6 a7 a8 a9 ba bb bc bd be bf bg:Value) (w':World),Below w.heap.size w w'→Q (.exit 6) ⟨(seg (seg (seg (seg lfr 18 [aa]) 46 [ab]) 48 [ac,ad,ae,af,ag,ah,ai]) 242 [aj,ak,al,am,ao,ap,aq,ar,au,av,aw,ax,ay,az,aA,aB,aC,aD,aE,aF,aG,aH,aI,aJ,aK,aL,aM,aN,aO,aP,aQ,aR,aS,aT,aU,aV,aW,aX,aY,aZ,a2,a3,a4,a5,a6,a7,a8,a9,ba,bb,bc,bd,be,bf,bg]).toArray,[]⟩ w') (hL:frn 419 lfr) (e6:lfr[6]? =some (Value.int .i64 ix)) (bL:lfr[25]? =some (Value.int .i64 (m:Int))) (bM:lfr[38]? =some (Value.pointer (some ⟨X,0,none⟩))) (bN:lfr[40]? =some (Value.int .i64 M)) (bC:lfr[240]? =some (Value.slice (some ⟨SP,0,none⟩) NP NP)) (bD:lfr[241]? =some (Value.int .i64 NP)) (bE:lfr[242]? =some (Value.int .i64 0)):
  Code.wp Tryz.prog Yw Q ⟨lfr.toArray,[]⟩ w:=by
 revert hK e6 bL bM bN bC bD bE
 apply Df hL;iterate 419 intro _
 intro hK e6 bL bM bN bC bD bE;simp only[List.getElem?_cons_succ,List.getElem?_cons_zero,Option.some.injEq] at e6 bL bM bN bC bD bE;simp (maxSteps:=9000000) only[Ct,Cu,Cv] at hK;subst e6 bL bM bN bC bD bE;have HK:=Zk hK;have HX:=Zk hX;have HT:=Zk hT;clear hK hX hT;conv=>arg 2;whnf
 go_loopw [242] (fun iv wr=>∃k:Nat,k≤NP∧iv= .int .i64 k∧Below w.heap.size w wr) (fun iv _=>NP- (intOf iv).toNat)
 case atStart=>exact⟨0,Nat.zero_le _,rfl,Zb _ _⟩
 case round=>
  obtain⟨k,hk,rfl,bJ⟩:=hrel;have bK:=Zk bJ;have wk:IntKind.i64.wrap ((k:Int)+1)=(k:Int)+1:=by exact Zi _ (by omega)
  clear bJ;by_cases hk3:k<NP
  ·have dk:decide ((k:Int)<(NP:Int))=true:=Ze (by omega);have cF:decide (k<NP)=true:=Ze hk3;obtain⟨AQ,nQ,cQ,an,l,ht⟩:=HT.out k hk3;have cC:=Zk ht;obtain⟨y0,y1,_⟩:=ht wr bK.out;have z0:=Int.natCast_nonneg k;have z1:(k:Int)<(NP:Int):=by omega
   clear ht;obtain⟨TB,bU⟩:∃TB,TB=wr.heap.size:=⟨_,rfl⟩;obtain⟨wx,bO⟩:∃wx:World,wx=wr.alloc (.cells #[.slice AQ nQ cQ,.int .i64 an] 39):=⟨_,rfl⟩;have bR:Hid (wr.alloc (.cells #[.slice AQ nQ cQ,.int .i64 an] 39)=wx):=bO.symm;have bQ:Hid (Below wr.heap.size wr wx):=Zk (by rw[bO];exact (Zb _ wr).alloc (Zl _) _);have bB:Hid (wx.heap[TB]? =some (.cells #[.slice AQ nQ cQ,.int .i64 an] 39 (0,0))):=Zk (by show _=_;rw[bO,bU];exact Zh wr _);have cB:Hid (∀W,Below wx.heap.size wx W→W.cell? ⟨TB,0,none⟩=some (.slice AQ nQ cQ)∧W.cell? ⟨TB,1,none⟩=some (.int .i64 an)):=Zk (fun W hg=>by
    have bI:=(hg.block TB (Ae bB.out)).trans bB.out;exact⟨Zc W TB 0 _ _ _ bI,Zc W TB 1 _ _ _ bI⟩)
   have bV:Hid (Below w.heap.size w wx):=Zk (bK.out.trans (bQ.out.mono bK.out.size));go_upto_region 35 with fail
   rw[bR.out,←bU];clear bO bU;clear y0 y1;go_wp2_with fail;(with_reducible refine (Jc ix (m:Int) wx (by omega) (by omega)).mono ?_)
   rintro e wz ⟨rfl,rfl⟩;obtain⟨ii,bW⟩:∃ii,ii=ix%(m:Int):=⟨_,rfl⟩;rw[←bW];clear bW;obtain⟨CB,bT⟩:∃CB,CB=wx.heap.size:=⟨_,rfl⟩;obtain⟨wy,bP⟩:∃wy:World,wy=wx.alloc (.cells #[.int .i64 ix,.int .i64 ii] 3):=⟨_,rfl⟩;have bS:Hid (wx.alloc (.cells #[.int .i64 ix,.int .i64 ii] 3)=wy):=bP.symm;have bF:Hid (Below wx.heap.size wx wy):=Zk (by rw[bP];exact (Zb _ wx).alloc (Zl _) _);have bA:Hid (wy.heap[CB]? =some (.cells #[.int .i64 ix,.int .i64 ii] 3 (0,0))):=Zk (by show _=_;rw[bP,bT];exact Zh wx _);have bZ:Hid (∀W,Below wy.heap.size wy W→W.cell? ⟨CB,0,none⟩=some (.int .i64 ix)∧W.cell? ⟨CB,1,none⟩=some (.int .i64 ii)):=Zk (fun W hg=>by
    have bH:=(hg.block CB (Ae bA.out)).trans bA.out;exact⟨Zc W CB 0 _ _ _ bH,Zc W CB 1 _ _ _ bH⟩)
   have bG:Hid (Below w.heap.size w wy):=Zk (bV.out.trans (bF.out.mono bV.out.size));have cE:Hid (∀W,Below wy.heap.size wy W→W.cell? ⟨X,0,none⟩=some (.int .i64 P)∧W.cell? ⟨X,1,none⟩=some (.int .i64 n)∧W.cell? ⟨X,2,none⟩=some (.int .i64 t)):=Zk (fun W hb=>HX.out W (bG.out.trans (hb.mono bG.out.size)))
   have cA:Hid (∀W,Below wy.heap.size wy W→∀k,k<2→∃y,W.cell? ⟨CB,k,none⟩=some (.int .i64 y)):=Zk (fun W hb k hk=>by
    obtain⟨a0,a1⟩:=bZ.out W hb;have h3:k=0∨k=1:=by omega
    rcases h3 with rfl|rfl
    ·exact⟨_,a0⟩
    ·exact⟨_,a1⟩)
   have cD:Hid (∀W,Below wy.heap.size wy W→W.cell? ⟨TB,0,none⟩=some (.slice AQ nQ cQ)∧W.cell? ⟨TB,1,none⟩=some (.int .i64 an)∧SI W (.slice AQ nQ cQ) l):=Zk (fun W hb=>by
    obtain⟨a0,a1⟩:=cB.out W (bF.out.trans (hb.mono bF.out.size));exact⟨a0,a1,(cC.out W (bG.out.trans (hb.mono bG.out.size))).2.2⟩)
   go_upto_region 36 with fail
   rw[bS.out,←bT];clear bP bT;refine zDl X TB CB 2 nQ cQ P n t M an AQ l wy (by omega) hP hM cE.out cD.out cA.out ?_ (frn_of (by rfl)) (by rfl) (by rfl) (by rfl) (by rfl) (by rfl) (by rfl);simp (maxSteps:=9000000) only[Ct,Cu,Cv];rintro aa ac ad ae af ag ah ai aw ax ay az aA aB aC aD aE aF aG aH aI aJ aK aL aM aN aO aP aQ aR aS aT aU aV aW aX aY aZ a2 a3 a4 a5 a6 a7 a8 a9 ba bb bc bd be bf wq bX;have bY:Hid (Below w.heap.size w wq):=Zk (bG.out.trans (bX.mono bG.out.size));clear bX;go_wp2_with fail;go_roundw
   case rel=>exact⟨k+1,by omega,by go_num,bY.out⟩
   case measure=>simp[intOf];omega
  ·have dk:decide ((k:Int)<(NP:Int))=false:=Zd (by omega);have cF:decide (k<NP)=false:=Zd hk3;go_wp2_with fail;exact HK.out _ _ _ _ _ _ _ _ _ _ _ _ _ _ _ _ _ _ _ _ _ _ _ _ _ _ _ _ _ _ _ _ _ _ _ _ _ _ _ _ _ _ _ _ _ _ _ _ _ _ _ _ _ _ _ _ _ _ _ _ _ _ _ _ wr bK.out
noncomputable def zAv:Code:=((Tryz.f5.body.bind (Dp 26)).getD .skip)
set_option maxRecDepth 1000000 in
set_option maxHeartbeats 16000000 in
theorem zEm(X SP NP m F Z nT cT nO cO:Nat)(P n t ix an bn:Int)(AT AO:Option Addr)(lT lO:List Int)(w:World)(hnp:NP≤100)(hP:An P)(hm1:1≤m)(hm2:m≤65521)(hX:∀W,Below w.heap.size w W→W.cell? ⟨X,0,none⟩=some (.int .i64 P)∧W.cell? ⟨X,1,none⟩=some (.int .i64 n)∧W.cell? ⟨X,2,none⟩=some (.int .i64 t))(hT:∀W,Below w.heap.size w W→W.cell? ⟨F,0,none⟩=some (.slice AT nT cT)∧W.cell? ⟨F,1,none⟩=some (.int .i64 an)∧W.cell? ⟨Z,0,none⟩=some (.slice AO nO cO)∧W.cell? ⟨Z,1,none⟩=some (.int .i64 bn)∧SI W (.slice AT nT cT) lT∧SI W (.slice AO nO cO) lO)(hY:∀k,k<NP→∃y,An y∧∀W,Below w.heap.size w W→W.cell? ⟨SP,k,none⟩=some (.int .i64 y)){lfr:List Value}{Q:Exit→Act→World→Prop}
  (hK:∀(aa ab ac ad ae af ag ah ai aj ak al am ao ap aq ar au av aw ax ay az aA aB aC aD aE aF aG aH aI aJ aK aL aM aN aO aP aQ aR aS aT aU aV aW aX aY aZ a0 a3 a4 a5 a6 a7 a8 a9 ba bb bc bd be bf bg bh bi bj bk bl bm bo bp bq br bs bt bu bv bw bx bz bA bB bC bD bE bF bG bH bI bJ bK bL bM bN bO bP bQ bR bS bT bU bV bW bX:Value) (w':World),Below w.heap.size w w'→Q (.exit 4) ⟨(seg (seg (seg (seg (seg lfr 18 [aa]) 40 [ab,ac,ad,ae,af]) 46 [ag]) 48 [ah,ai,aj,ak,al,am,ao]) 207 [ap,aq,ar,au,av,aw,ax,ay,az,aA,aB,aC,aD,aE,aF,aG,aH,aI,aJ,aK,aL,aM,aN,aO,aP,aQ,aR,aS,aT,aU,aV,aW,aX,aY,aZ,a0,a3,a4,a5,a6,a7,a8,a9,ba,bb,bc,bd,be,bf,bg,bh,bi,bj,bk,bl,bm,bo,bp,bq,br,bs,bt,bu,bv,bw,bx,bz,bA,bB,bC,bD,bE,bF,bG,bH,bI,bJ,bK,bL,bM,bN,bO,bP,bQ,bR,bS,bT,bU,bV,bW,bX]).toArray,[]⟩ w') (hL:frn 419 lfr) (e6:lfr[6]? =some (Value.int .i64 ix)) (cH:lfr[12]? =some (Value.pointer (some ⟨F,0,none⟩))) (cI:lfr[25]? =some (Value.int .i64 (m:Int))) (cJ:lfr[29]? =some (Value.pointer (some ⟨Z,0,none⟩))) (cK:lfr[38]? =some (Value.pointer (some ⟨X,0,none⟩))) (bZ:lfr[205]? =some (Value.slice (some ⟨SP,0,none⟩) NP NP)) (cA:lfr[206]? =some (Value.int .i64 NP)) (cB:lfr[207]? =some (Value.int .i64 0)):
  Code.wp Tryz.prog zAv Q ⟨lfr.toArray,[]⟩ w:=by
 revert hK e6 cH cI cJ cK bZ cA cB
 apply Df hL;iterate 419 intro _
 intro hK e6 cH cI cJ cK bZ cA cB;simp only[List.getElem?_cons_succ,List.getElem?_cons_zero,Option.some.injEq] at e6 cH cI cJ cK bZ cA cB;simp (maxSteps:=9000000) only[Ct,Cu,Cv] at hK;subst e6 cH cI cJ cK bZ cA cB;have HK:=Zk hK;have HX:=Zk hX;have HY:=Zk hY;have HT:=Zk hT;clear hK hX hY hT;conv=>arg 2;whnf
 go_loopw [207] (fun iv wr=>∃k:Nat,k≤NP∧iv= .int .i64 k∧Below w.heap.size w wr) (fun iv _=>NP- (intOf iv).toNat)
 case atStart=>exact⟨0,Nat.zero_le _,rfl,Zb _ _⟩
 case round=>
  obtain⟨k,hk,rfl,cF⟩:=hrel;have cE:=Zk cF;have wk:IntKind.i64.wrap ((k:Int)+1)=(k:Int)+1:=by exact Zi _ (by omega)
  clear cF;by_cases hk3:k<NP
  ·have dk:decide ((k:Int)<(NP:Int))=true:=Ze (by omega);have dJ:decide (k<NP)=true:=Ze hk3;obtain⟨M,hM,hy⟩:=HY.out k hk3;have y0:=hy wr cE.out;obtain⟨x0,x1,x2⟩:=HX.out wr cE.out;have z0:=Int.natCast_nonneg k;have z1:(k:Int)<(NP:Int):=by omega
   clear hy;go_wp2_with fail;(with_reducible refine (Sf P n t M wr hP).mono ?_)
   rintro e w2 ⟨v1,rfl,dA,a1,a2⟩;have cX:=Te hP a1 a2;obtain⟨A1,c1,e1⟩:=cX.form';subst e1;have dF:=Zk cX;have cN:Hid (Below w.heap.size w w2):=Zk (cE.out.trans (dA.mono cE.out.size));obtain⟨er,cV⟩:∃er,er=ccE P n t M:=⟨_,rfl⟩;rw[←cV];have dE:=Zk cV;obtain⟨x0,x1,x2⟩:=HX.out w2 cN.out;clear a1 a2 dA y0 cV cX;go_wp2_with fail;(with_reducible refine (Jo P n t M w2 hP).mono ?_)
   rintro e w3 ⟨v2,rfl,cW,a1,a2⟩;have cY:=Te hP a1 a2;obtain⟨A2,c2,e1⟩:=cY.form';subst e1;have dG:=Zk cY;have cR:=Zk (dF.out.below cW);have cZ:Hid (Below w.heap.size w w3):=Zk (cN.out.trans (cW.mono cN.out.size));rw[←dE.out];clear a1 a2 cW x0 x1 x2 cY;go_wp2_with fail;(with_reducible refine (Fq (lmL P n t M) (lmL P n t M) _ _ w3 cR.out dG.out).mono ?_)
   rintro e w4 ⟨rfl,dB⟩;have cP:Hid (Below w.heap.size w w4):=Zk (cZ.out.trans (dB.mono cZ.out.size));rw[show (decide (lmL P n t M=lmL P n t M))=true from by simp];clear dB;obtain⟨t0,t1,t2,t3,_,_⟩:=HT.out w4 cP.out;obtain⟨TS,cU⟩:∃TS,TS=w4.heap.size:=⟨_,rfl⟩;obtain⟨w5,cL⟩:∃w5:World,w5=w4.alloc (.cells #[.slice AT nT cT,.int .i64 an,.slice AO nO cO,.int .i64 bn] 39):=⟨_,rfl⟩;have cS:Hid (w4.alloc (.cells #[.slice AT nT cT,.int .i64 an,.slice AO nO cO,.int .i64 bn] 39)=w5):=cL.symm;have cM:Hid (Below w4.heap.size w4 w5):=Zk (by rw[cL];exact (Zb _ w4).alloc (Zl _) _);have bY:Hid (w5.heap[TS]? =some (.cells #[.slice AT nT cT,.int .i64 an,.slice AO nO cO,.int .i64 bn] 39 (0,0))):=Zk (by show _=_;rw[cL,cU];exact Zh w4 _);have cG:Hid (∀W,Below w5.heap.size w5 W→W.cell? ⟨TS,0,none⟩=some (.slice AT nT cT)∧W.cell? ⟨TS,1,none⟩=some (.int .i64 an)∧W.cell? ⟨TS,2,none⟩=some (.slice AO nO cO)∧W.cell? ⟨TS,3,none⟩=some (.int .i64 bn)):=Zk (fun W hg=>by
    have cC:=(hg.block TS (Ae bY.out)).trans bY.out;exact⟨Zc W TS 0 _ _ _ cC,Zc W TS 1 _ _ _ cC,Zc W TS 2 _ _ _ cC,Zc W TS 3 _ _ _ cC⟩)
   have cD:Hid (Below w.heap.size w w5):=Zk (cP.out.trans (cM.out.mono cP.out.size));have dI:Hid (∀W,Below w5.heap.size w5 W→W.cell? ⟨X,0,none⟩=some (.int .i64 P)∧W.cell? ⟨X,1,none⟩=some (.int .i64 n)∧W.cell? ⟨X,2,none⟩=some (.int .i64 t)):=Zk (fun W hb=>HX.out W (cD.out.trans (hb.mono cD.out.size)))
   have dH:Hid (∀k,k<2→∃AQ nQ cQ an l,∀W,Below w5.heap.size w5 W→W.cell? ⟨TS,k*2,none⟩=some (.slice AQ nQ cQ)∧W.cell? ⟨TS,k*2+1,none⟩=some (.int .i64 an)∧SI W (.slice AQ nQ cQ) l):=Zk (fun k hk=>by
    have h3:k=0∨k=1:=by omega
    rcases h3 with rfl|rfl
    ·exact⟨AT,nT,cT,an,lT,fun W hb=>⟨(cG.out W hb).1,(cG.out W hb).2.1,(HT.out W (cD.out.trans (hb.mono cD.out.size))).2.2.2.2.1⟩⟩
    ·exact⟨AO,nO,cO,bn,lO,fun W hb=>⟨(cG.out W hb).2.2.1,(cG.out W hb).2.2.2,(HT.out W (cD.out.trans (hb.mono cD.out.size))).2.2.2.2.2⟩⟩)
   go_upto_region 33 with fail
   rw[cS.out,←cU];clear cL cU;clear t0 t1 t2 t3;go_wp2_with fail;refine zEr X TS 2 m P n t M ix w5 (by omega) hP hM hm1 hm2 dI.out dH.out ?_ (frn_of (by rfl)) (by rfl) (by rfl) (by rfl) (by rfl) (by rfl) (by rfl) (by rfl);simp (maxSteps:=9000000) only[Ct,Cu,Cv];rintro aa ag ah ai aj ak al am ao a0 a3 a4 a5 a6 a7 a8 a9 ba bb bc bd be bf bg bh bi bj bk bl bm bo bp bq br bs bt bu bv bw bx bz bA bB bC bD bE bF bG bH bI bJ bK bL bM bN bO bP bQ bR bS bT bU bV bW wq dC;have dD:Hid (Below w.heap.size w wq):=Zk (cD.out.trans (dC.mono cD.out.size));clear dC;go_wp2_with fail;go_roundw
   case rel=>exact⟨k+1,by omega,by go_num,dD.out⟩
   case measure=>simp[intOf];omega
  ·have dk:decide ((k:Int)<(NP:Int))=false:=Zd (by omega);have dJ:decide (k<NP)=false:=Zd hk3;go_wp2_with fail;exact HK.out _ _ _ _ _ _ _ _ _ _ _ _ _ _ _ _ _ _ _ _ _ _ _ _ _ _ _ _ _ _ _ _ _ _ _ _ _ _ _ _ _ _ _ _ _ _ _ _ _ _ _ _ _ _ _ _ _ _ _ _ _ _ _ _ _ _ _ _ _ _ _ _ _ _ _ _ _ _ _ _ _ _ _ _ _ _ _ _ _ _ _ _ _ _ _ _ _ _ _ _ _ _ _ _ _ wr cE.out
open Go.RowKit Go.Shelf
noncomputable def zAt:Code:=((Tryz.f5.body.bind (Dp 21)).getD .skip)
set_option maxRecDepth 1000000 in
set_option maxHeartbeats 16000000 in
theorem zDi(SB m F Z nT cT nO cO nA cL nB cA nR cR nq cq nb cb:Nat)(ct ix wi wd an bn:Int)(AT AO AL AA AR Aq Ab:Option Addr)(lT lO:List Int)(lA lB:List (Bool×List Int))(rR rq rb:List (List Int))(w:World)(hm1:1≤m)(hm2:m≤65521)(hct:An ct)(hE:∀W,Below w.heap.size w W→EW W)(hY:∀k,k<3→∃P n t:Int,An P∧∀W,Below w.heap.size w W→W.cell? ⟨SB,k*3,none⟩=some (.int .i64 P)∧W.cell? ⟨SB,k*3+1,none⟩=some (.int .i64 n)∧W.cell? ⟨SB,k*3+2,none⟩=some (.int .i64 t))(hS:∀W,Below w.heap.size w W→(W.cell? ⟨F,0,none⟩=some (.slice AT nT cT)∧W.cell? ⟨F,1,none⟩=some (.int .i64 an)∧W.cell? ⟨Z,0,none⟩=some (.slice AO nO cO)∧W.cell? ⟨Z,1,none⟩=some (.int .i64 bn)∧SI W (.slice AT nT cT) lT∧SI W (.slice AO nO cO) lO)∧SAn W (.slice AL nA cL) lA∧SAn W (.slice AA nB cA) lB∧SL W (.slice AR nR cR) rR∧SL W (.slice Aq nq cq) rq∧SL W (.slice Ab nb cb) rb){lfr:List Value}{Q:Exit→Act→World→Prop}
  (hK:∀(aa ab ac ad ae af ag ah ai aj ak al am ao ap aq ar au av aw ax ay az aA aB aC aD aE aF aG aH aI aJ aK aL aM aN aO aP aQ aR aS aT aU aV aW aX aY aZ a0 a1 a2 a3 a4 a5 a6 a7 a8 a9 ba bb bc bd be bf bg bh bi bj bk bl bm bo bp bq br bs bt bu bv bw bx bz bA bB bC bD bE bF bG bH bI bJ bK bL bM bN bO bP bQ bR bS bT bU bV bW bX bY bZ b0 b1 b2 b3 b4 b5 b6 b7 b8 b9 ca cc cd ce cf cg ch ci cj ck cl cm cn co cp cr cs cu cv cw cx cy cz cB cC cD cE cF cG cH cI cJ cK cM cN cP cQ cS cU cV cW cX cY cZ c0 c1 c2 c3 c4 c5 c6 c7 c8 da db dc dd de df dg dh di dj dl dm dn dp dq dr ds dt du dv dw dx dy dz dA dB dC dD dE dF dG dH dI dJ dK dL dM dN dO dP dQ dR dS dT dU dV dW dX dY dZ d0 d1 d2 d3 d4 d5 d6 d7 d8 d9 ea eb ec ed ee ef eg eh ei ej ek el em en eo ep er es et eu ev ew ex ey ez eA eB eC:Value) (w':World),Below w.heap.size w w'→Q (.exit 2) ⟨(seg (seg (seg (seg (seg (seg (seg (seg (seg (seg lfr 18 [aa]) 38 [ab]) 40 [ac,ad,ae,af,ag]) 46 [ah]) 48 [ai,aj,ak,al,am,ao,ap]) 56 [aq]) 58 [ar,au,av,aw,ax]) 64 [ay,az,aA,aB,aC,aD,aE]) 72 [aF]) 188 [aG,aH,aI,aJ,aK,aL,aM,aN,aO,aP,aQ,aR,aS,aT,aU,aV,aW,aX,aY,aZ,a0,a1,a2,a3,a4,a5,a6,a7,a8,a9,ba,bb,bc,bd,be,bf,bg,bh,bi,bj,bk,bl,bm,bo,bp,bq,br,bs,bt,bu,bv,bw,bx,bz,bA,bB,bC,bD,bE,bF,bG,bH,bI,bJ,bK,bL,bM,bN,bO,bP,bQ,bR,bS,bT,bU,bV,bW,bX,bY,bZ,b0,b1,b2,b3,b4,b5,b6,b7,b8,b9,ca,cc,cd,ce,cf,cg,ch,ci,cj,ck,cl,cm,cn,co,cp,cr,cs,cu,cv,cw,cx,cy,cz,cB,cC,cD,cE,cF,cG,cH,cI,cJ,cK,cM,cN,cP,cQ,cS,cU,cV,cW,cX,cY,cZ,c0,c1,c2,c3,c4,c5,c6,c7,c8,da,db,dc,dd,de,df,dg,dh,di,dj,dl,dm,dn,dp,dq,dr,ds,dt,du,dv,dw,dx,dy,dz,dA,dB,dC,dD,dE,dF,dG,dH,dI,dJ,dK,dL,dM,dN,dO,dP,dQ,dR,dS,dT,dU,dV,dW,dX,dY,dZ,d0,d1,d2,d3,d4,d5,d6,d7,d8,d9,ea,eb,ec,ed,ee,ef,eg,eh,ei,ej,ek,el,em,en,eo,ep,er,es,et,eu,ev,ew,ex,ey,ez,eA,eB,eC]).toArray,[]⟩ w') (hL:frn 419 lfr) (e4:lfr[4]? =some (Value.slice AR nR cR)) (e5:lfr[5]? =some (Value.int .i64 ct)) (e6:lfr[6]? =some (Value.int .i64 ix)) (e7:lfr[7]? =some (Value.int .i64 wi)) (e8:lfr[8]? =some (Value.slice AL nA cL)) (fE:lfr[12]? =some (Value.pointer (some ⟨F,0,none⟩))) (fF:lfr[25]? =some (Value.int .i64 (m:Int))) (fG:lfr[26]? =some (Value.int .i64 wd)) (fH:lfr[29]? =some (Value.pointer (some ⟨Z,0,none⟩))) (fI:lfr[31]? =some (Value.slice Aq nq cq)) (fJ:lfr[34]? =some (Value.slice AA nB cA)) (fK:lfr[36]? =some (Value.slice Ab nb cb)) (eH:lfr[186]? =some (Value.slice (some ⟨SB,0,none⟩) 3 3)) (eI:lfr[187]? =some (Value.int .i64 3)) (eJ:lfr[188]? =some (Value.int .i64 0)):
  Code.wp Tryz.prog zAt Q ⟨lfr.toArray,[]⟩ w:=by
 revert hK e4 e5 e6 e7 e8 fE fF fG fH fI fJ fK eH eI eJ
 apply Df hL;iterate 419 intro _
 intro hK e4 e5 e6 e7 e8 fE fF fG fH fI fJ fK eH eI eJ;simp only[List.getElem?_cons_succ,List.getElem?_cons_zero,Option.some.injEq] at e4 e5 e6 e7 e8 fE fF fG fH fI fJ fK eH eI eJ;simp (maxSteps:=9000000) only[Ct,Cu,Cv] at hK;subst e4 e5 e6 e7 e8 fE fF fG fH fI fJ fK eH eI eJ;have HK:=Zk hK;have HY:=Zk hY;have HS:=Zk hS;have HE:=Zk hE;clear hK hY hS hE;conv=>arg 2;whnf
 go_loopw [188] (fun iv wr=>∃k:Nat,k≤3∧iv= .int .i64 k∧Below w.heap.size w wr) (fun iv _=>3- (intOf iv).toNat)
 case atStart=>exact⟨0,by omega,rfl,Zb _ _⟩
 case round=>
  obtain⟨k,hk,rfl,eW⟩:=hrel;have eZ:=Zk eW;have wk:IntKind.i64.wrap ((k:Int)+1)=(k:Int)+1:=by exact Zi _ (by omega)
  clear eW;by_cases hk3:k<3
  ·have dk:decide ((k:Int)<3)=true:=Ze (by omega);have gV:decide (k<3)=true:=Ze hk3;obtain⟨P,n,t,hP,hy⟩:=HY.out k hk3;obtain⟨k0,k1,k2⟩:=hy wr eZ.out;have z0:=Int.natCast_nonneg k;have z1:(k:Int)<3:=by omega
   clear hy;obtain⟨X,eX⟩:∃X,X=wr.heap.size:=⟨_,rfl⟩;obtain⟨wx,fP⟩:∃wx:World,wx=wr.alloc (.cells #[.int .i64 P,.int .i64 n,.int .i64 t] 60):=⟨_,rfl⟩;have fW:Hid (wr.alloc (.cells #[.int .i64 P,.int .i64 n,.int .i64 t] 60)=wx):=fP.symm;have fQ:Hid (Below wr.heap.size wr wx):=Zk (by rw[fP];exact (Zb _ wr).alloc (Zl _) _);have eM:Hid (wx.heap[X]? =some (.cells #[.int .i64 P,.int .i64 n,.int .i64 t] 60 (0,0))):=Zk (by show _=_;rw[fP,eX];exact Zh wr _);have eT:Hid (∀W,Below wx.heap.size wx W→W.cell? ⟨X,0,none⟩=some (.int .i64 P)∧W.cell? ⟨X,1,none⟩=some (.int .i64 n)∧W.cell? ⟨X,2,none⟩=some (.int .i64 t)):=Zk (fun W hg=>by
    have gB:=(hg.block X (Ae eM.out)).trans eM.out;exact⟨Zc W X 0 _ _ _ gB,Zc W X 1 _ _ _ gB,Zc W X 2 _ _ _ gB⟩)
   have gM:Hid (Below w.heap.size w wx):=Zk (eZ.out.trans (fQ.out.mono eZ.out.size));go_upto_region 23 with fail
   rw[fW.out,←eX];clear fP eX;clear k0 k1 k2;refine zEf X P n t (cuE P n t) wx eT.out (fun W _=>Ev P n t W hP) (fun W _=>Ey P n t W hP) ?_ (frn_of (by rfl)) (by rfl)
   simp (maxSteps:=9000000) only[Ct,Cu,Cv];rintro aK aL aM aN aO aP aQ aR aS aT w2 gC;have gO:Hid (Below wx.heap.size wx w2):=gC;have gH:Hid (Below w.heap.size w w2):=Zk (gM.out.trans (gC.mono gM.out.size));clear gC;obtain⟨CB,fY⟩:∃CB,CB=w2.heap.size:=⟨_,rfl⟩;obtain⟨w3,fL⟩:∃w3:World,w3=w2.alloc (.cells #[.int .i64 ct,.int .i64 m] 3):=⟨_,rfl⟩;have fS:Hid (w2.alloc (.cells #[.int .i64 ct,.int .i64 m] 3)=w3):=fL.symm;have eP:Hid (Below w2.heap.size w2 w3):=Zk (by rw[fL];exact (Zb _ w2).alloc (Zl _) _);have eE:Hid (w3.heap[CB]? =some (.cells #[.int .i64 ct,.int .i64 m] 3 (0,0))):=Zk (by show _=_;rw[fL,fY];exact Zh w2 _);have gN:Hid (∀W,Below w3.heap.size w3 W→W.cell? ⟨CB,0,none⟩=some (.int .i64 ct)∧W.cell? ⟨CB,1,none⟩=some (.int .i64 m)):=Zk (fun W hg=>by
    have eV:=(hg.block CB (Ae eE.out)).trans eE.out;exact⟨Zc W CB 0 _ _ _ eV,Zc W CB 1 _ _ _ eV⟩)
   have fB:Hid (Below wx.heap.size wx w3):=Zk (gO.out.trans (eP.out.mono gO.out.size));have eY:Hid (Below w.heap.size w w3):=Zk (gH.out.trans (eP.out.mono gH.out.size));go_upto_region 26 with fail
   rw[fS.out,←fY];clear fL fY;go_wp2_with fail;refine zEm X CB 2 m F Z nT cT nO cO P n t ix an bn AT AO lT lO w3 (by omega) hP hm1 hm2 (fun W hb=>eT.out W (fB.out.trans (hb.mono fB.out.size))) (fun W hb=>(HS.out W (eY.out.trans (hb.mono eY.out.size))).1) (fun k hk=>by
    have h3:k=0∨k=1:=by omega
    rcases h3 with rfl|rfl
    ·exact⟨ct,hct,fun W hb=>(gN.out W hb).1⟩
    ·exact⟨m,by unfold An;omega,fun W hb=>(gN.out W hb).2⟩) ?_ (frn_of (by rfl)) (by rfl) (by rfl) (by rfl) (by rfl) (by rfl) (by rfl) (by rfl) (by rfl)
   simp (maxSteps:=9000000) only[Ct,Cu,Cv];rintro aa ac ad ae af ag ah ai aj ak al am ao ap aZ a0 a1 a2 a3 a4 a5 a6 a7 a8 a9 ba bb bc bd be bf bg bh bi bj bk bl bm bo bp bq br bs bt bu bv bw bx bz bA bB bC bD bE bF bG bH bI bJ bK bL bM bN bO bP bQ bR bS bT bU bV bW bX bY bZ b0 b1 b2 b3 b4 b5 b6 b7 b8 b9 ca cc cd ce cf cg ch ci cj ck cl cm cn co cp cr cs cu cv cw w4 gD;have gP:Hid (Below wx.heap.size wx w4):=Zk (fB.out.trans (gD.mono fB.out.size));have gI:Hid (Below w.heap.size w w4):=Zk (eY.out.trans (gD.mono eY.out.size));clear gD;obtain⟨AB,fX⟩:∃AB,AB=w4.heap.size:=⟨_,rfl⟩;obtain⟨w5,fM⟩:∃w5:World,w5=w4.alloc (.cells #[.slice AL nA cL,.slice AA nB cA] 50):=⟨_,rfl⟩;have fT:Hid (w4.alloc (.cells #[.slice AL nA cL,.slice AA nB cA] 50)=w5):=fM.symm;have eQ:Hid (Below w4.heap.size w4 w5):=Zk (by rw[fM];exact (Zb _ w4).alloc (Zl _) _);have eD:Hid (w5.heap[AB]? =some (.cells #[.slice AL nA cL,.slice AA nB cA] 50 (0,0))):=Zk (by show _=_;rw[fM,fX];exact Zh w4 _);have gG:Hid (∀W,Below w5.heap.size w5 W→W.cell? ⟨AB,0,none⟩=some (.slice AL nA cL)∧W.cell? ⟨AB,1,none⟩=some (.slice AA nB cA)):=Zk (fun W hg=>by
    have eU:=(hg.block AB (Ae eD.out)).trans eD.out;exact⟨Zc W AB 0 _ _ _ eU,Zc W AB 1 _ _ _ eU⟩)
   have fC:Hid (Below wx.heap.size wx w5):=Zk (gP.out.trans (eQ.out.mono gP.out.size));have eL:Hid (Below w.heap.size w w5):=Zk (gI.out.trans (eQ.out.mono gI.out.size));go_upto_region 46 with fail
   rw[fT.out,←fX];clear fM fX;go_wp2_with fail;refine zDr X AB 2 P n t wi wd w5 (by omega) hP (fun W hb=>HE.out W (eL.out.trans (hb.mono eL.out.size))) (fun W hb=>eT.out W (fC.out.trans (hb.mono fC.out.size))) (fun k hk=>by
    have h3:k=0∨k=1:=by omega
    rcases h3 with rfl|rfl
    ·exact⟨AL,nA,cL,lA,fun W hb=>⟨(gG.out W hb).1,(HS.out W (eL.out.trans (hb.mono eL.out.size))).2.1⟩⟩
    ·exact⟨AA,nB,cA,lB,fun W hb=>⟨(gG.out W hb).2,(HS.out W (eL.out.trans (hb.mono eL.out.size))).2.2.1⟩⟩) ?_ (frn_of (by rfl)) (by rfl) (by rfl) (by rfl) (by rfl) (by rfl) (by rfl)
   simp (maxSteps:=9000000) only[Ct,Cu,Cv];rintro aa aq ar au av aw ax cC cD cE cF cG cH cI cJ cK cM cN cP cQ cS cU cV cW cX cY cZ c0 c1 c2 c3 c4 c5 c6 c7 c8 da db dc dd de df dg dh di dj dl dm dn dp w6 gE;have gQ:Hid (Below wx.heap.size wx w6):=Zk (fC.out.trans (gE.mono fC.out.size));have gJ:Hid (Below w.heap.size w w6):=Zk (eL.out.trans (gE.mono eL.out.size));clear gE;obtain⟨RB,gA⟩:∃RB,RB=w6.heap.size:=⟨_,rfl⟩;obtain⟨w7,fN⟩:∃w7:World,w7=w6.alloc (.cells #[.slice AR nR cR,.slice Aq nq cq,.slice Ab nb cb] 42):=⟨_,rfl⟩;have fU:Hid (w6.alloc (.cells #[.slice AR nR cR,.slice Aq nq cq,.slice Ab nb cb] 42)=w7):=fN.symm;have eR:Hid (Below w6.heap.size w6 w7):=Zk (by rw[fN];exact (Zb _ w6).alloc (Zl _) _);have eG:Hid (w7.heap[RB]? =some (.cells #[.slice AR nR cR,.slice Aq nq cq,.slice Ab nb cb] 42 (0,0))):=Zk (by show _=_;rw[fN,gA];exact Zh w6 _);have fR:Hid (∀W,Below w7.heap.size w7 W→W.cell? ⟨RB,0,none⟩=some (.slice AR nR cR)∧W.cell? ⟨RB,1,none⟩=some (.slice Aq nq cq)∧W.cell? ⟨RB,2,none⟩=some (.slice Ab nb cb)):=Zk (fun W hg=>by
    have eN:=(hg.block RB (Ae eG.out)).trans eG.out;exact⟨Zc W RB 0 _ _ _ eN,Zc W RB 1 _ _ _ eN,Zc W RB 2 _ _ _ eN⟩)
   have fD:Hid (Below wx.heap.size wx w7):=Zk (gQ.out.trans (eR.out.mono gQ.out.size));have eO:Hid (Below w.heap.size w w7):=Zk (gJ.out.trans (eR.out.mono gJ.out.size));go_upto_region 58 with fail
   rw[fU.out,←gA];clear fN gA;go_wp2_with fail;refine zCy X RB 3 P n t w7 (by omega) hP (fun W hb=>HE.out W (eO.out.trans (hb.mono eO.out.size))) (fun W hb=>eT.out W (fD.out.trans (hb.mono fD.out.size))) (fun W hb k hk=>by
    have h3:k=0∨k=1∨k=2:=by omega
    have hs:=(HS.out W (eO.out.trans (hb.mono eO.out.size))).2.2.2;rcases h3 with rfl|rfl|rfl
    ·exact⟨AR,nR,cR,rR,(fR.out W hb).1,hs.1⟩
    ·exact⟨Aq,nq,cq,rq,(fR.out W hb).2.1,hs.2.1⟩
    ·exact⟨Ab,nb,cb,rb,(fR.out W hb).2.2,hs.2.2⟩) ?_ (frn_of (by rfl)) (by rfl) (by rfl) (by rfl) (by rfl)
   simp (maxSteps:=9000000) only[Ct,Cu,Cv];rintro aa ay az aA aB aC aD aE dv dw dx dy dz dA dB dC dD dE dF dG dH dI dJ dK dL dM dN dO dP dQ dR dS dT dU dV dW dX dY dZ d0 d1 d2 d3 d4 d5 d6 w8 gF;have gR:Hid (Below wx.heap.size wx w8):=Zk (fD.out.trans (gF.mono fD.out.size));have gK:Hid (Below w.heap.size w w8):=Zk (eO.out.trans (gF.mono eO.out.size));clear gF;go_wp2_with fail;(with_reducible refine (Jc ct 9 w8 (by omega) (by omega)).mono ?_)
   rintro e wz ⟨rfl,rfl⟩;obtain⟨c9,e9⟩:∃c9,c9=ct%9:=⟨_,rfl⟩;rw[←e9];clear e9;go_wp2_with fail;(with_reducible refine (Jc ix 5 w8 (by omega) (by omega)).mono ?_)
   rintro e wz ⟨rfl,rfl⟩;obtain⟨i5,e5⟩:∃i5,i5=ix%5:=⟨_,rfl⟩;rw[←e5];clear e5;obtain⟨PB,fZ⟩:∃PB,PB=w8.heap.size:=⟨_,rfl⟩;obtain⟨w9,fO⟩:∃w9:World,w9=w8.alloc (.cells #[.int .i64 ct,.int .i64 ix,.int .i64 c9,.int .i64 i5] 75):=⟨_,rfl⟩;have fV:Hid (w8.alloc (.cells #[.int .i64 ct,.int .i64 ix,.int .i64 c9,.int .i64 i5] 75)=w9):=fO.symm;have eS:Hid (Below w8.heap.size w8 w9):=Zk (by rw[fO];exact (Zb _ w8).alloc (Zl _) _);have eF:Hid (w9.heap[PB]? =some (.cells #[.int .i64 ct,.int .i64 ix,.int .i64 c9,.int .i64 i5] 75 (0,0))):=Zk (by show _=_;rw[fO,fZ];exact Zh w8 _);have fA:Hid (∀W,Below w9.heap.size w9 W→W.cell? ⟨PB,0,none⟩=some (.int .i64 ct)∧W.cell? ⟨PB,1,none⟩=some (.int .i64 ix)∧W.cell? ⟨PB,2,none⟩=some (.int .i64 c9)∧W.cell? ⟨PB,3,none⟩=some (.int .i64 i5)):=Zk (fun W hg=>by
    have eK:=(hg.block PB (Ae eF.out)).trans eF.out;exact⟨Zc W PB 0 _ _ _ eK,Zc W PB 1 _ _ _ eK,Zc W PB 2 _ _ _ eK,Zc W PB 3 _ _ _ eK⟩)
   have gS:Hid (Below wx.heap.size wx w9):=Zk (gR.out.trans (eS.out.mono gR.out.size));have gL:Hid (Below w.heap.size w w9):=Zk (gK.out.trans (eS.out.mono gK.out.size));go_upto_region 66 with fail
   rw[fV.out,←fZ];clear fO fZ;go_wp2_with fail;refine zDn X PB 2 n t (fun k=>if k=0 then (ct,ix) else (c9,i5)) w9 (by omega) (fun W hb=>(eT.out W (gS.out.trans (hb.mono gS.out.size))).2) (fun W hb k hk=>by
    have h3:k=0∨k=1:=by omega
    rcases h3 with rfl|rfl
    ·exact⟨(fA.out W hb).1,(fA.out W hb).2.1⟩
    ·exact⟨(fA.out W hb).2.2.1,(fA.out W hb).2.2.2⟩) ?_ (frn_of (by rfl)) (by rfl) (by rfl) (by rfl) (by rfl)
   simp (maxSteps:=9000000) only[Ct,Cu,Cv];rintro aa aF eh ei ej ek el em en eo ep er es et eu ev ew ex ey ez eA eB wy gT
   have gU:Hid (Below w.heap.size w wy):=Zk (gL.out.trans (gT.mono gL.out.size));clear gT
   go_wp2_with fail;go_roundw
   case rel=>exact⟨k+1,by omega,by go_num,gU.out⟩
   case measure=>simp[intOf];omega
  ·have dk:decide ((k:Int)<3)=false:=Zd (by omega);have gV:decide (k<3)=false:=Zd hk3;go_wp2_with fail;exact HK.out _ _ _ _ _ _ _ _ _ _ _ _ _ _ _ _ _ _ _ _ _ _ _ _ _ _ _ _ _ _ _ _ _ _ _ _ _ _ _ _ _ _ _ _ _ _ _ _ _ _ _ _ _ _ _ _ _ _ _ _ _ _ _ _ _ _ _ _ _ _ _ _ _ _ _ _ _ _ _ _ _ _ _ _ _ _ _ _ _ _ _ _ _ _ _ _ _ _ _ _ _ _ _ _ _ _ _ _ _ _ _ _ _ _ _ _ _ _ _ _ _ _ _ _ _ _ _ _ _ _ _ _ _ _ _ _ _ _ _ _ _ _ _ _ _ _ _ _ _ _ _ _ _ _ _ _ _ _ _ _ _ _ _ _ _ _ _ _ _ _ _ _ _ _ _ _ _ _ _ _ _ _ _ _ _ _ _ _ _ _ _ _ _ _ _ _ _ _ _ _ _ _ _ _ _ _ _ _ _ _ _ _ _ _ _ _ _ _ _ _ _ _ _ _ _ _ _ _ _ _ _ _ _ _ _ _ _ _ _ _ _ _ _ _ _ _ _ _ _ _ _ _ _ _ _ _ _ _ _ _ wr eZ.out
open Go.RowKit Go.Shelf
def CdA(n:Nat)(w1:World)(sv iv:Value)(wr:World):Prop:=∃(j:Nat) (s:Int),j≤n∧iv= .int .i64 j∧sv= .int .i64 s∧Below w1.heap.size w1 wr
set_option maxRecDepth 100000 in
set_option maxHeartbeats 16000000 in
theorem curveDoes_any(l:List Int)(P0 n0 t0:Int)(T:List Int)(an:Int)(rows:List (List Int))(count index width:Int)(la:List (Bool×List Int))(v vT vr vl:Value)(w:World)(h:SI w v l)(hP0:An P0)(hT:SI w vT T)(hr:SL w vr rows)(hc:An count)(hl:SAn w vl la)(hE:EW w):
  Calls Tryz.prog 5 #[v,.agg #[.int .i64 P0],.agg #[.int .i64 n0,.int .i64 t0],.agg #[vT,.int .i64 an],vr,.int .i64 count,.int .i64 index,.int .i64 width,vl] w fun e w'=>e= .returned (.bool true)∧Below w.heap.size w w':=by
 have HS:=Zk h;have eH:=Zk hT;have dI:=Zk hr;have dH:=Zk hl;have HE:=Zk hE;obtain⟨A,c,rfl⟩:=h.form';obtain⟨AT,cT,rfl⟩:=hT.form';obtain⟨AR,cR,rfl,_⟩:=hr.at
 obtain⟨AL,cL,rfl⟩:=hl.form;have iS:la.length≤9223372036854775807:=by
  obtain⟨_,_,e9,h1,h2,_⟩:=hl;injection e9;omega
 clear h hT hr hl hE;obtain⟨nl,fA⟩:∃nl,nl=l.length:=⟨_,rfl⟩;obtain⟨nT,eZ⟩:∃nT,nT=T.length:=⟨_,rfl⟩;obtain⟨nR,eY⟩:∃nR,nR=rows.length:=⟨_,rfl⟩;obtain⟨nA,eV⟩:∃nA,nA=la.length:=⟨_,rfl⟩;rw[←fA] at HS⊢;rw[←eZ] at eH⊢;rw[←eY] at dI⊢;rw[←eV] at dH iS⊢;have HNL:=Zk fA;have HNT:=Zk eZ;have HNR:=Zk eY;have hU:=Zk eV;clear fA eZ eY eV;go_enter Tryz.func5,Tryz.ntmps5;obtain⟨F,eF⟩:∃F,F=w.heap.size:=⟨_,rfl⟩;obtain⟨w0,bS⟩:∃w0:World,w0=((w.alloc (.cells #[.int .i64 P0] 31)).alloc (.cells #[.int .i64 n0,.int .i64 t0] 29)).alloc (.cells #[.slice AT nT cT,.int .i64 an] 39):=⟨_,rfl⟩;have eJ:Hid (((w.alloc (.cells #[.int .i64 P0] 31)).alloc (.cells #[.int .i64 n0,.int .i64 t0] 29)).alloc (.cells #[.slice AT nT cT,.int .i64 an] 39)=w0):=bS.symm;have aJ:Hid (Below w.heap.size w w0):=Zk (by rw[bS];exact (((Zb _ w).alloc (Zl _) _).alloc (by simp) _).alloc (by simp;omega) _);have bB:Hid (w0.heap[F]? =some (.cells #[.int .i64 P0] 31 (0,0))):=Zk (by show _=_;rw[bS,eF,Below.heap_alloc _ _ _ (by simp;try omega),Below.heap_alloc _ _ _ (by simp)];exact Zh w _);have bC:Hid (w0.heap[F+1]? =some (.cells #[.int .i64 n0,.int .i64 t0] 29 (0,0))):=Zk (by show _=_;rw[bS,eF,Below.heap_alloc _ _ _ (by simp;try omega)];have:=Zh (w.alloc (.cells #[.int .i64 P0] 31)) (.cells #[.int .i64 n0,.int .i64 t0] 29);simpa using this);have aL:Hid (w0.heap[F+2]? =some (.cells #[.slice AT nT cT,.int .i64 an] 39 (0,0))):=Zk (by show _=_;rw[bS,eF];have:=Zh ((w.alloc (.cells #[.int .i64 P0] 31)).alloc (.cells #[.int .i64 n0,.int .i64 t0] 29)) (.cells #[.slice AT nT cT,.int .i64 an] 39);simpa using this);have eO:Hid (∀W,Below w0.heap.size w0 W→W.cell? ⟨F,0,none⟩=some (.int .i64 P0)∧W.cell? ⟨F+1,0,none⟩=some (.int .i64 n0)∧W.cell? ⟨F+1,1,none⟩=some (.int .i64 t0)∧W.cell? ⟨F+2,0,none⟩=some (.slice AT nT cT)∧W.cell? ⟨F+2,1,none⟩=some (.int .i64 an)):=Zk (fun W hg=>by
  have iJ:=(hg.block F (Ae bB.out)).trans bB.out;have gL:=(hg.block (F+1) (Ae bC.out)).trans bC.out;have fD:=(hg.block (F+2) (Ae aL.out)).trans aL.out;exact⟨Zc W F 0 _ _ _ iJ,Zc W (F+1) 0 _ _ _ gL,Zc W (F+1) 1 _ _ _ gL,Zc W (F+2) 0 _ _ _ fD,Zc W (F+2) 1 _ _ _ fD⟩)
 have hFw:w.heap.size≤F:=by omega
 have fD:F+2<w0.heap.size:=Ae aL.out;go_upto_region 1 with fail
 rw[eJ.out,←eF];clear bS eF;go_wp2_with fail;(with_reducible refine (Xf _ (HE.out.below aJ.out)).mono ?_)
 rintro e w1 ⟨rfl,fF⟩;have bX:=Zk fF;have cC:Hid (Below w.heap.size w w1):=Zk (aJ.out.trans (fF.mono aJ.out.size));clear fF;go_wp2_with fail;go_loopw [19,77] (fun sv iv wr=>CdA nA w1 sv iv wr) (fun _ iv _=>nA- (intOf iv).toNat)
 case atStart=>exact⟨0,0,Nat.zero_le _,rfl,rfl,Zb _ _⟩
 case round=>
  obtain⟨j,s,hj,rfl,rfl,bN⟩:=hrel;have dT:=Zk bN;have aK:Hid (Below w.heap.size w wr):=Zk (cC.out.trans (bN.mono cC.out.size));clear bN;by_cases hlt:j<nA
  ·have dj:decide ((j:Int)<(nA:Int))=true:=Ze (by omega);have gG:decide (j<nA)=true:=Ze hlt;have iP:j<la.length:=by rw[←hU.out];exact hlt
   have wj:IntKind.i64.wrap ((j:Int)+1)=(j:Int)+1:=by exact Zi _ (by omega)
   obtain⟨A',c',e,_,_,ha⟩:=dH.out;injection e with e1 e2 e3;subst e1;obtain⟨b,hG,rfl,hb,bH⟩:=ha (by omega);obtain⟨c1,vr',c2,hD⟩:=bH j iP;have c1:=(aK.out.cell (p:=⟨b,hG+j*2,none⟩) hb).trans c1;have c2:=(aK.out.cell (p:=⟨b,hG+j*2+1,none⟩) hb).trans c2;obtain⟨Ar,cr,rfl⟩:=hD.form;obtain⟨kb,gI⟩:∃kb,kb=la[j].1:=⟨_,rfl⟩;obtain⟨lr,gJ⟩:∃lr,lr=la[j].2.length:=⟨_,rfl⟩;rw[←gI] at c1;rw[←gJ] at c2;clear ha bH e2 e3 gI gJ hD;obtain⟨X,eX⟩:∃X,X=wr.heap.size:=⟨_,rfl⟩;obtain⟨wx,dL⟩:∃wx:World,wx=wr.alloc (.cells #[.bool kb,.slice Ar lr cr] 52):=⟨_,rfl⟩;have eN:Hid (wr.alloc (.cells #[.bool kb,.slice Ar lr cr] 52)=wx):=dL.symm;have dS:Hid (Below wr.heap.size wr wx):=Zk (by rw[dL];exact (Zb _ wr).alloc (Zl _) _);have bF:Hid (wx.heap[X]? =some (.cells #[.bool kb,.slice Ar lr cr] 52 (0,0))):=Zk (by show _=_;rw[dL,eX];exact Zh wr _);have hY:Hid (∀W,Below wx.heap.size wx W→W.cell? ⟨X,0,none⟩=some (.bool kb)∧W.cell? ⟨X,1,none⟩=some (.slice Ar lr cr)):=Zk (fun W hg=>by
    have gP:=(hg.block X (Ae bF.out)).trans bF.out;exact⟨Zc W X 0 _ _ _ gP,Zc W X 1 _ _ _ gP⟩)
   have hK:Hid (Below w1.heap.size w1 wx):=Zk (dT.out.trans (dS.out.mono dT.out.size));go_upto_region 7 with fail
   rw[eN.out,←eX];clear dL eX;obtain⟨y0,y1⟩:=hY.out wx (Zb _ _);clear c1 c2;go_wp2_with fail;go_roundw
   case rel=>exact⟨j+1,_,by omega,by go_num,rfl,hK.out⟩
   case measure=>simp[intOf];omega
  ·have dj:decide ((j:Int)<(nA:Int))=false:=Zd (by omega);have gG:decide (j<nA)=false:=Zd hlt;have dE:Hid (Below w0.heap.size w0 wr):=Zk (bX.out.trans (dT.out.mono bX.out.size));obtain⟨x0,x1,x2,x3,x4⟩:=eO.out wr dE.out;have cE:Hid (Calls Tryz.prog 10 #[.slice A nl c] wr fun e w'=>e= .returned (.bool (decide (l.length≤500)))∧wr=w'):=Zk (zBo l _ wr (HS.out.below aK.out))
   obtain⟨fb,gH⟩:∃fb,fb=decide (l.length≤500):=⟨_,rfl⟩;rw[←gH] at cE;clear gH hlt;go_wp2_with fail;(with_reducible refine cE.out.mono ?_)
   rintro e wz ⟨rfl,rfl⟩
   cases fb with
   |false=>
    go_wp2_with fail;go_ret;exact⟨rfl,aK.out⟩
   |true=>
    go_wp2_with fail;(with_reducible refine (Uq rows _ wr (dI.out.below aK.out)).mono ?_)
    rintro e wz ⟨sb,rfl,rfl⟩
    cases sb with
    |false=>
     go_wp2_with fail;go_ret;exact⟨rfl,aK.out⟩
    |true=>
     by_cases h5:500<nT
     ·have d5:decide (500<(nT:Int))=true:=Ze (by omega);have gF:decide (500<nT)=true:=Ze h5;go_wp2_with fail;go_ret;exact⟨rfl,aK.out⟩
     have d5:decide (500<(nT:Int))=false:=Zd (by omega);have gF:decide (500<nT)=false:=Zd h5;by_cases h3:300<s
     ·have d3:decide (300<s)=true:=Ze h3;go_wp2_with fail;go_ret;exact⟨rfl,aK.out⟩
     have d3:decide (300<s)=false:=Zd h3;go_wp2_with fail;(with_reducible refine (zBl l _ wr (HS.out.below aK.out)).mono ?_)
     rintro e w2 ⟨rfl,dN,fG,iZ⟩;obtain⟨g,eg⟩:∃g,g=wr.heap.size:=⟨_,rfl⟩;rw[←eg] at dN⊢;have hN:=Zk dN;have HB2:Hid (Below w.heap.size w w2):=Zk (aK.out.trans (fG.mono aK.out.size));have bY:Hid (Below w0.heap.size w0 w2):=Zk (dE.out.trans (fG.mono dE.out.size));have hS:Hid (w0.heap.size≤g):=Zk (by rw[eg];exact dE.out.size);have hQ:Hid (g<w2.heap.size):=dN.lt;clear dN fG iZ eg x0 x1 x2 x3 x4 d3 d5 gF h3 h5 dj gG hj;go_wp2_with fail;(with_reducible refine (Xv g w2 hN.out).mono ?_)
     rintro e w3 ⟨P,n3,t3,rfl,gT,fL,fN,hnP,hn2,hn7,ht1,htn⟩;obtain⟨n,rfl⟩:∃n:Nat,n3=n:=⟨n3.toNat,by omega⟩;obtain⟨t,rfl⟩:∃t:Nat,t3=t:=⟨t3.toNat,by omega⟩;have fY:=Zk fN;have dM:=Bd fN;have bT:An P:=by unfold An;omega
     obtain⟨Q,eQ⟩:∃Q,Q=w3.heap.size:=⟨_,rfl⟩;obtain⟨w4,cV⟩:∃w4:World,w4=(w3.alloc (.cells #[.int .i64 P] 31)).alloc (.cells #[.int .i64 n,.int .i64 t] 29):=⟨_,rfl⟩;have eL:Hid ((w3.alloc (.cells #[.int .i64 P] 31)).alloc (.cells #[.int .i64 n,.int .i64 t] 29)=w4):=cV.symm;have bW:Hid (Below w3.heap.size w3 w4):=Zk (by rw[cV];exact ((Zb _ w3).alloc (Zl _) _).alloc (by simp) _);have aO:Hid (w4.heap[Q]? =some (.cells #[.int .i64 P] 31 (0,0))):=Zk (by show _=_;rw[cV,eQ,Below.heap_alloc _ _ _ (by simp)];exact Zh w3 _);have bE:Hid (w4.heap[Q+1]? =some (.cells #[.int .i64 n,.int .i64 t] 29 (0,0))):=Zk (by show _=_;rw[cV,eQ];have:=Zh (w3.alloc (.cells #[.int .i64 P] 31)) (.cells #[.int .i64 n,.int .i64 t] 29);simpa using this);have fV:Hid (g<Q):=Zk (by rw[eQ];have:=fL.size;have:=hQ.out;show g<_;omega);have bR:Hid (∀W,w4.grownBy W (some g)→W.cell? ⟨Q,0,none⟩=some (.int .i64 P)∧W.cell? ⟨Q+1,0,none⟩=some (.int .i64 n)∧W.cell? ⟨Q+1,1,none⟩=some (.int .i64 t)):=Zk (fun W hg=>by
      have iL:=(hg.block Q (Ae aO.out) (by have:=fV.out;simp;omega)).trans aO.out;have gN:=(hg.block (Q+1) (Ae bE.out) (by have:=fV.out;simp;omega)).trans bE.out;exact⟨Zc W Q 0 _ _ _ iL,Zc W (Q+1) 0 _ _ _ gN,Zc W (Q+1) 1 _ _ _ gN⟩)
     have fR:=Zk (gT.below bW.out);have dX:Hid (w2.grownBy w4 (some g)):=Zk (Af fL (Ag bW.out _));have hJ:Hid (∀W,w4.grownBy W (some g)→Below w0.heap.size w0 W):=Zk (fun W hg=>bY.out.grown (Af dX.out hg) bY.out.size (fun k hk=>by injection hk with e;subst e;exact hS.out))
     have hR:Hid (g<w4.heap.size):=fR.out.lt;clear gT fL fN;go_upto_region 13 with fail
     rw[eL.out,←eQ];clear cV eQ;go_wp2_with fail;(with_reducible refine (Cs 4 g w4 fR.out (by unfold An;omega) (by omega)).mono ?_)
     rintro e w5 ⟨x,rfl,_,hx,gU,gX⟩;obtain⟨iV,iW⟩:=hx (by omega);obtain⟨m,em⟩:∃m:Nat,(m:Int)=1+x:=⟨(1+x).toNat,by omega⟩;have iQ:1≤m:=by omega
     have iR:m≤4:=by omega
     have wm:IntKind.i64.wrap (1+x)=(m:Int):=by rw[em];exact Zi _ (by omega)
     have fS:=Zk gU;have cF:Hid (w4.grownBy w5 (some g)):=gX;clear hx iV iW em gU gX;go_wp2_with fail;(with_reducible refine (Cs 3 g w5 fS.out (by unfold An;omega) (by omega)).mono ?_)
     rintro e w6 ⟨hH,rfl,_,hy,gV,gY⟩;obtain⟨iX,iY⟩:=hy (by omega);obtain⟨wd,iI⟩:∃wd:Nat,hH=(wd:Int):=⟨hH.toNat,by omega⟩;subst iI;have hwd:wd≤2:=by omega
     have fT:=Zk gV;have aT:Hid (w4.grownBy w6 (some g)):=Zk (Af cF.out gY);clear hy iX iY gV gY;obtain⟨f0,p0,p1⟩:=bR.out w6 aT.out;have gR:ccE P n t m=0:=by
      have iM:cuE P n t=0:=by
       unfold cuE;rw[if_neg (by rw[fY.out];simp),if_neg];unfold vaB;simp;omega
      unfold ccE;rw[if_neg (by omega)];exact iM
     have dF:=Zk gR;clear gR;go_wp2_with fail;(with_reducible refine (Jo P n t m _ bT).mono ?_)
     rintro e w7 ⟨vm,rfl,fH,dC,_⟩;have dP:=dC dF.out;obtain⟨K,eK⟩:∃K,K=m*t:=⟨_,rfl⟩;have gM:((m:Int)*(t:Int)).toNat=K:=by rw[eK,←Int.natCast_mul];rfl
     have hKb:K≤24:=by rw[eK];have:=Nat.mul_le_mul iR (show t≤6 by omega);omega
     have HK:=Zk eK;rw[gM] at dP;obtain⟨Am,cm,iH⟩:=Bn dP;subst iH;have fW:Hid (SE g w7 (.slice Am K cm) (List.replicate K P)):=Zk (by
      have h:=SE.of_own (g:=g) dP (fun y hy=>by rw[List.eq_of_mem_replicate hy];exact bT) (by have:=aT.out.size;have:=hR.out;omega)
      rw[List.length_replicate] at h;exact h)
     have dV:=Zk (fT.out.below fH);have bJ:Hid (w4.grownBy w7 (some g)):=Zk (Af aT.out (Ag fH _));rw[dF.out];rw[List.length_replicate];clear fH dC dP f0 p0 p1 eK gM wm;have hP2:=dM.2;have hP1:=dM.1;have gE:Hid (∀W,w7.grownBy W (some g)→W.cell? ⟨Q,0,none⟩=some (.int .i64 P)):=Zk (fun W hg=>(bR.out W (Af bJ.out hg)).1)
     have gC:Hid (∀W,w7.grownBy W (some g)→Dk W g→Calls Tryz.prog 23 #[.pointer (some ⟨g,0,none⟩),.slice Am K cm] W fun e w'=>∃A1 c1 ns,e= .returned (.agg #[.slice A1 ns.length c1,.int .i64 0])∧(K≤ns.length∧ns.length≤K+2∧vld (List.replicate K P) ns)∧Dk w' g∧W.grownBy w' (some g)∧∀z,z<W.heap.size→SE z w' (.slice A1 ns.length c1) ns):=Zk (fun W hg hd=>
      (Ro g (List.replicate K P) _ W hd (fW.out.grown hg) (fun x hx=>by rw[List.eq_of_mem_replicate hx];omega) (by simp;omega)).mono fun e w' ⟨v1,ns,h1,h2,h3,h4,h5,h6,h7⟩=>by
       obtain⟨A1,c1,ev⟩:=(h7 g hd.lt).form;subst ev;rw[List.length_replicate] at h4 h5;exact⟨A1,c1,ns,h1,⟨h4,h5,h6⟩,h2,h3,h7⟩)
     have fZ:Hid (∀W,w7.grownBy W (some g)→Dk W g→Calls Tryz.prog 24 #[.pointer (some ⟨g,0,none⟩),.agg #[.int .i64 P],.int .i64 m,.int .i64 wd] W fun e w'=>∃A n c rows,e= .returned (.slice A n c)∧(rows.length=m∧∀r∈rows,r.length=wd∧els P r=true)∧Dk w' g∧W.grownBy w' (some g)∧∀z,z<W.heap.size→SLE z w' (.slice A n c) rows):=Zk (fun W hg hd=>
      (Um g m wd P W hd (by omega) (by omega) (by omega)).mono fun e w' ⟨v,dD,h1,h2,h3,h4,h5,h6⟩=>by
       obtain⟨A1,c1,ev⟩:=(h6 g hd.lt).form;subst ev;exact⟨A1,_,c1,dD,h1,⟨h2,h3⟩,h4,h5,h6⟩)
     go_upto_region 15 with fail
     refine zEu g Q m wd P (.slice Am K cm) (fun ns=>K≤ns.length∧ns.length≤K+2∧vld (List.replicate K P) ns) (fun rows=>rows.length=m∧∀r∈rows,r.length=wd∧els P r=true) w7 gE.out dV.out gC.out fZ.out ?_ (frn_of (by rfl)) (by rfl) (by rfl) (by rfl) (by rfl) (by rfl)
     simp (maxSteps:=9000000) only[Ct,Cu,Cv];rintro u29 u30 u125 u126 u127 u128 u129 u130 u131 u132 Z v1 ns dD w8 ⟨rfl,⟨iT,fM,hF⟩,⟨fO,hB⟩,hZ,aX,bU,aZ,gW,gZ⟩;obtain⟨AO,cO,iE⟩:=bU.form;subst iE;obtain⟨AW,cW,iF⟩:=aZ.form;subst iF;obtain⟨nO,eW⟩:∃nO,nO=ns.length:=⟨_,rfl⟩;rw[←eW] at aX bU;rw[fO] at aZ⊢;have dZ:=Zk eW;have eD:Hid (SE g w8 (.slice AO nO cO) ns):=bU;have gA:Hid (SLE g w8 (.slice AW m cW) dD):=aZ;have gD:=Zk hF;have eA:=Zk fO;have eB:=Zk hB;have dG:=Zk gW;have bK:Hid (w4.grownBy w8 (some g)):=Zk (Af bJ.out gZ);have hgZ:g<Z:=by have:=dV.out.lt;omega
     have eR:Hid (∀W,w8.grownBy W (some g)→W.cell? ⟨Z,0,none⟩=some (.slice AO nO cO)∧W.cell? ⟨Z,1,none⟩=some (.int .i64 0)):=Zk (fun W hb=>by
      have hv:=(hb.block Z (Ae aX) (by simp;omega)).trans aX;exact⟨Zc W Z 0 _ _ _ hv,Zc W Z 1 _ _ _ hv⟩)
     have hns2:nO≤100:=by omega
     have iK:K≤nO:=by omega
     clear iT fM hF fO hB hZ aX bU aZ gW gZ eW gE gC fZ;obtain⟨i,ei⟩:∃i:Nat,(i:Int)=index%(m:Int):=⟨(index%(m:Int)).toNat,Int.toNat_of_nonneg (Int.emod_nonneg _ (by omega))⟩;have iO:i<m:=by have:=Int.emod_lt_of_pos index (show (0:Int)<m by omega);omega
     have fU:=Zk ei;have cS:Hid (∀W,Below w8.heap.size w8 W→W.cell? ⟨Q,0,none⟩=some (.int .i64 P)∧W.cell? ⟨Q+1,0,none⟩=some (.int .i64 n)∧W.cell? ⟨Q+1,1,none⟩=some (.int .i64 t)∧W.cell? ⟨Z,0,none⟩=some (.slice AO nO cO)∧W.cell? ⟨Z,1,none⟩=some (.int .i64 0)):=Zk (fun W hb=>by
      have dO:=Ag hb (some g);obtain⟨a1,a2,a3⟩:=bR.out W (Af bK.out dO);obtain⟨a4,a5⟩:=eR.out W dO;exact⟨a1,a2,a3,a4,a5⟩)
     have cH:Hid (∀W,Calls Tryz.prog 26 #[.int .i64 index,.int .i64 (m:Int)] W fun e w'=>e= .returned (.int .i64 i)∧W=w'):=Zk (fun W=>by
      rw[fU.out];exact Jc index m W (by omega) (by omega))
     obtain⟨RQ,eT⟩:∃RQ,RQ=Dg P i ((ns.drop (0:Int).toNat).take ((m:Int)*t).toNat) (t:Int).toNat (n:Int).toNat (m:Int).toNat:=⟨_,rfl⟩;have gO:RQ.length=n:=by rw[eT,Ep];simp
     have cY:∀r∈RQ,r.length=m:=fun r hr=>by
      rw[eT] at hr;obtain⟨k,_,rfl⟩:=List.mem_map.1 hr;rw[Lj];simp
     have aC:=Zk gO;have aU:=Zk cY;have cK:Hid (∀W,Below w8.heap.size w8 W→Calls Tryz.prog 25 #[.agg #[.int .i64 P],.agg #[.int .i64 n,.int .i64 t],.int .i64 (m:Int),.int .i64 (i:Int),.agg #[.slice AO nO cO,.int .i64 0]] W fun e w'=>∃Aq nq cq A1 n1 c1 a1,e= .returned (.tuple #[.slice Aq nq cq,.agg #[.slice A1 n1 c1,.int .i64 a1],.int .i64 0])∧Below W.heap.size W w'∧QRv W.heap.size w' (.slice Aq nq cq) RQ):=Zk (fun W hb=>
      (Ip P n t m i ns 0 _ W bT (by unfold An;omega) ((eD.out.below hb).si)).mono fun e w' ⟨vq,v1,a1,h1,h2,h3,_⟩=>by
       have h0:=zDx fY.out dF.out iO HK.out (by rw[←dZ.out];exact iK) (by rw[←dZ.out];omega) gD.out;rw[h0] at h1;obtain⟨h4,h5,h6⟩:=h3 h0;obtain⟨A2,c2,iC⟩:=h5.form';subst iC;rw[←eT] at h6;obtain⟨Aq,cq,fB⟩:=(h6.sle (g:=g) (by have:=dG.out.lt;have:=hb.size;omega)).form;subst fB;exact⟨Aq,_,cq,A2,_,c2,a1,h1,h2,h6⟩)
     clear gO cY ei;go_upto_region 16 with fail
     refine zEq g Q (Q+1) Z m nO cO P n t index i AO RQ w8 dG.out.lt cS.out cH.out cK.out ?_ (frn_of (by rfl)) (by rfl) (by rfl) (by rfl) (by rfl) (by rfl);simp (maxSteps:=9000000) only[Ct,Cu,Cv];rintro u31 u32 u133 u134 u135 u136 u137 u138 u139 u140 u141 u142 u143 u144 w9 ⟨fI,dR⟩;obtain⟨Aq,cq,fB⟩:=dR.form;subst fB;rw[aC.out] at dR⊢;have eG:Hid (SLE g w9 (.slice Aq n cq) RQ):=dR;have aM:Hid (w8.grownBy w9 (some g)):=Zk (Ag fI _);have bL:Hid (w4.grownBy w9 (some g)):=Zk (Af bK.out aM.out);have cN:=Zk (gA.out.grown aM.out);have dW:=Zk (dG.out.below fI);clear fI dR cS cH cK;have cU:Hid (∀W,w9.grownBy W (some g)→W.cell? ⟨Q,0,none⟩=some (.int .i64 P)):=Zk (fun W hg=>(bR.out W (Af bL.out hg)).1)
     obtain⟨all,aV⟩:∃all,all=RQ.map (Fi P dD (wd:Int)):=⟨_,rfl⟩;have cZ:all.length=n:=by rw[aV,List.length_map,aC.out]
     have bG:∀r∈all,els P r=true∧r.length≤1000:=fun r hr=>by
      rw[aV] at hr;obtain⟨q,_,rfl⟩:=List.mem_map.1 hr;exact Xy dM (by omega)
     have aI:=Zk cZ;have bA:=Zk bG;have fP:Hid (∀W,w9.grownBy W (some g)→Calls Tryz.prog 28 #[.agg #[.int .i64 P],.int .i64 wd,.slice AW m cW,.slice Aq n cq] W fun e w'=>∃Aa ca,e= .returned (.slice Aa n ca)∧Below W.heap.size W w'∧SLE g w' (.slice Aa n ca) all):=Zk (fun W hg=>by
      have dO:g<W.heap.size:=by have:=dW.out.lt;have:=hg.size;omega
      refine (Ot P wd dD RQ g _ _ W bT dO (cN.out.grown hg).sl (eG.out.grown hg).sl (by rw[aC.out];omega)).mono fun e w' ⟨v,h1,h2,h3⟩=> ?_
      rw[←aV] at h3;obtain⟨Aa,ca,e1⟩:=h3.form;subst e1;rw[aI.out] at h1 h3;exact⟨Aa,ca,h1,h2,h3⟩)
     have cI:Hid (∀W,Dk W g→Calls Tryz.prog 12 #[.pointer (some ⟨g,0,none⟩),.int .i64 3] W fun e w'=>∃x:Nat,e= .returned (.int .i64 (x:Int))∧x<3∧Dk w' g∧W.grownBy w' (some g)):=Zk (fun W hd=>
      (Cs 3 g W hd (by unfold An;omega) (by omega)).mono fun e w' ⟨x,h1,_,h2,h3,h4⟩=>by
       obtain⟨h5,h6⟩:=h2 (by omega);exact⟨x.toNat,by rw[Int.toNat_of_nonneg h5];exact h1,by omega,h3,h4⟩)
     have fX:Hid (∀W v (x y:Nat),w9.grownBy W (some g)→Dk W g→SLE g W v all→x<3→y<3→Calls Tryz.prog 27 #[.pointer (some ⟨g,0,none⟩),.agg #[.int .i64 P],v,.int .i64 (x:Int),.int .i64 (y:Int)] W fun e w'=>∃A1 n1 c1 A2 n2 c2 L dJ,e= .returned (.tuple #[.slice A1 n1 c1,.slice A2 n2 c2])∧SAE g w' (.slice A1 n1 c1) L∧SE g w' (.slice A2 n2 c2) dJ∧Dk w' g∧W.grownBy w' (some g)∧L.length=n):=Zk (fun W v x y hg hd hs hx hy=>
      (Ml g x y P all v W hd dM hs bA.out (by rw[aI.out];omega) (by rw[aI.out];omega) ⟨by omega,by omega⟩).mono fun e w' ⟨v1,v2,L,dJ,h1,h2,h3,h4,h5,h6⟩=>by
       obtain⟨A1,c1,e1⟩:=h2.form;obtain⟨A2,c2,e2⟩:=h3.form;subst e1 e2;exact⟨A1,_,c1,A2,_,c2,L,dJ,h1,h2,h3,h4,h5,by rw[h6.1,aI.out]⟩)
     clear cZ bG;go_upto_region 17 with fail
     refine zDw g Q n wd n P (.slice AW m cW) (.slice Aq n cq) all w9 cU.out dW.out fP.out cI.out fX.out ?_ (frn_of (by rfl)) (by rfl) (by rfl) (by rfl) (by rfl) (by rfl);simp (maxSteps:=9000000) only[Ct,Cu,Cv];rintro u34 u35 u145 u146 u147 u148 u149 u150 u151 u152 u153 u154 u155 u156 u157 u158 u159 L dJ aR ⟨dQ,bU,dB,aY,fE⟩;obtain⟨AA,cA,iD⟩:=dQ.form;subst iD;rw[fE] at dQ⊢;have gB:Hid (SAE g aR (.slice AA n cA) L):=dQ;have HLN:=Zk fE;have bI:=Zk dB;have aE:Hid (w4.grownBy aR (some g)):=Zk (Af bL.out aY);have aN:Hid (w9.grownBy aR (some g)):=Zk (aY);have aF:=Zk (eG.out.grown aY);clear dQ bU dB aY fE cU fP cI fX aV;go_wp2_with fail;(with_reducible refine (Nl RQ _ aR aF.out.sl (by rw[aC.out];omega) (fun r hr=>by rw[aU.out r hr];omega)).mono ?_)
     rintro e bV ⟨vb,vs,rfl,gS,bM⟩;obtain⟨HB,cB,RB,RC,iG,bP,dA,fJ⟩:=gS.bt (m:=m) (by rw[aC.out];omega) (by omega) aU.out;subst iG;rw[aC.out] at fJ bP⊢;have bZ:Hid (BT aR.heap.size n m HB RB RC bV RQ):=fJ;have aD:Hid (aR.grownBy bV (some g)):=Zk (Ag bM _);have bD:Hid (w4.grownBy bV (some g)):=Zk (Af aE.out aD.out);have cD:=Zk (bI.out.below bM);have hM:=Zk bP;have dU:=Zk dA;clear gS bM fJ bP dA;have cU:Hid (∀W,bV.grownBy W (some g)→W.cell? ⟨Q,0,none⟩=some (.int .i64 P)):=Zk (fun W hg=>(bR.out W (Af bD.out hg)).1)
     have cI:Hid (∀W (q:Int),Dk W g→1≤q→q≤65521→Calls Tryz.prog 12 #[.pointer (some ⟨g,0,none⟩),.int .i64 q] W fun e w'=>∃x:Nat,e= .returned (.int .i64 (x:Int))∧(x:Int)<q∧Dk w' g∧W.grownBy w' (some g)):=Zk (fun W q hd iU hq2=>
      (Cs q g W hd (by unfold An;omega) (by omega)).mono fun e w' ⟨x,h1,_,h2,h3,h4⟩=>by
       obtain⟨h5,h6⟩:=h2 iU;exact⟨x.toNat,by rw[Int.toNat_of_nonneg h5];exact h1,by rw[Int.toNat_of_nonneg h5];exact h6,h3,h4⟩)
     have eS:Hid (g<aR.heap.size):=bI.out.lt;have fQ:Hid (∀W,bV.grownBy W (some g)→∀k,k<n→W.cell? ⟨HB,k,none⟩=some (.slice (some ⟨RB k,0,none⟩) m (RC k))∧∀j,j<m→∃z,W.cell? ⟨RB k,j,none⟩=some (.int .i64 z)∧W.frozen? ⟨RB k,j,none⟩=false):=Zk (fun W hg k hk=>by
      obtain⟨_,_,_,_,_,a6,a7⟩:=(bZ.out.grown hg eS.out).row k hk;exact⟨a6,fun j hj=>⟨_,a7 j hj⟩⟩)
     have cX:Q<aR.heap.size:=by have:=Ae aO.out;have:=aE.out.size;omega
     have cM:Hid (∀k,k<n→RB k≠Q∧RB k≠HB):=Zk (fun k hk=>by
      obtain⟨a1,a2,_⟩:=bZ.out.row k hk;exact⟨by omega,a1⟩)
     have cJ:=Zk cX;clear cX;go_upto_region 19 with fail
     refine zEc g Q HB n cB m P RB RC bV (by omega) (by omega) (by omega) (by omega) (by omega) (by omega) cM.out (Nat.lt_of_lt_of_le cJ.out aD.out.size) bZ.out.hb cU.out cD.out cI.out fQ.out ?_ (frn_of (by rfl)) (by rfl) (by rfl) (by rfl) (by rfl);simp (maxSteps:=9000000) only[Ct,Cu,Cv];rintro u162 u163 u164 u165 u166 u167 u168 u169 u170 u171 u172 u173 u174 u175 u176 W0 bx yy zz wb ⟨fK,iN,hx,hy,hz,fC⟩;have bO:=bZ.out.grown fK eS.out;have gK:∀k j,k<n→j<m→An (gd (gr RQ k) j):=fun k j hk hj=>aF.out.i64 k j (by rw[aC.out];exact hk) (by
      have hA:k<RQ.length:=by rw[aC.out];exact hk
      have e1:gr RQ k=RQ[k]:=by unfold gr;rw[List.getElem?_eq_getElem hA];rfl
      rw[e1,aU.out _ (List.getElem_mem hA)];exact hj)
     obtain⟨aQ,hC,bQ⟩:=bO.bent hM.out dU.out gK hx hy (show An (zz:Int) by unfold An;omega);rw[←fC] at bQ;have hX:Hid (SL wb (.slice (some ⟨HB,0,none⟩) n cB) aQ):=bQ;have HRB:=Zk hC;have aB:Hid (aR.grownBy wb (some g)):=Zk (by
      show aR.grownBy wb (some g);rw[fC];exact Cc (Af aD.out fK) (Ai (g:=RB bx) (Ah _ _) (.inl rfl) _) (fun k hk=>by injection hk with e;subst e;exact (bO.row bx hx).2.1))
     have cG:Hid (w4.grownBy wb (some g)):=Zk (Af aE.out aB.out);have cQ:=Zk (aF.out.grown aB.out);have cP:=Zk (gB.out.grown aB.out);clear fK iN hx hy hz fC bO gK hC bQ cU cI fQ cM bZ cJ;have aS:Hid (Below w0.heap.size w0 wb):=hJ.out wb cG.out;have aH:Hid (Below w.heap.size w wb):=Zk (aJ.out.trans (aS.out.mono aJ.out.size));obtain⟨x0,x1,x2,x3,x4⟩:=eO.out wb aS.out;obtain⟨q0,q1,q2⟩:=bR.out wb cG.out;have iB:Hid (∀W,Below wb.heap.size wb W→W.cell? ⟨Z,0,none⟩=some (.slice AO nO cO)∧W.cell? ⟨Z,1,none⟩=some (.int .i64 0)):=Zk (fun W hb=>eR.out W (Af (Af aM.out aN.out) (Af aB.out (Ag hb _))))
     have eE:Hid (SI wb (.slice AO nO cO) ns):=Zk ((((eD.out.grown aM.out).grown aN.out).grown aB.out).si);have eI:=Zk (eH.out.below aH.out);have eC:=Zk (dI.out.below aH.out);have dY:=Zk (dH.out.below aH.out);have hP:=Zk (HE.out.below aH.out);have hV:=Zk cQ.out.sl;have hI:=Zk cP.out.san;clear cQ cP aF gB bI cD aD bD eS eG gA cN eD eR dG dW aM bL aN aE aU aI bA dV fW HK gD eA eB dZ fU dF fT fS cF aT bJ bK eH dI dH HS HE;obtain⟨SB,eU⟩:∃SB,SB=wb.heap.size:=⟨_,rfl⟩;obtain⟨wc,dK⟩:∃wc:World,wc=wb.alloc (.cells #[.int .i64 P0,.int .i64 n0,.int .i64 t0,.int .i64 P,.int .i64 n,.int .i64 t,.int .i64 P,.int .i64 n0,.int .i64 t0] 60):=⟨_,rfl⟩;have eM:Hid (wb.alloc (.cells #[.int .i64 P0,.int .i64 n0,.int .i64 t0,.int .i64 P,.int .i64 n,.int .i64 t,.int .i64 P,.int .i64 n0,.int .i64 t0] 60)=wc):=dK.symm;have aG:Hid (Below wb.heap.size wb wc):=Zk (by rw[dK];exact (Zb _ wb).alloc (Zl _) _);have aP:Hid (wc.heap[SB]? =some (.cells #[.int .i64 P0,.int .i64 n0,.int .i64 t0,.int .i64 P,.int .i64 n,.int .i64 t,.int .i64 P,.int .i64 n0,.int .i64 t0] 60 (0,0))):=Zk (by show _=_;rw[dK,eU];exact Zh wb _);have eP:Hid (∀W,Below wc.heap.size wc W→W.cell? ⟨SB,0,none⟩=some (.int .i64 P0)∧W.cell? ⟨SB,1,none⟩=some (.int .i64 n0)∧W.cell? ⟨SB,2,none⟩=some (.int .i64 t0)∧W.cell? ⟨SB,3,none⟩=some (.int .i64 P)∧W.cell? ⟨SB,4,none⟩=some (.int .i64 n)∧W.cell? ⟨SB,5,none⟩=some (.int .i64 t)∧W.cell? ⟨SB,6,none⟩=some (.int .i64 P)∧W.cell? ⟨SB,7,none⟩=some (.int .i64 n0)∧W.cell? ⟨SB,8,none⟩=some (.int .i64 t0)):=Zk (fun W hg=>by
      have aA:=(hg.block SB (Ae aP.out)).trans aP.out;exact⟨Zc W SB 0 _ _ _ aA,Zc W SB 1 _ _ _ aA,Zc W SB 2 _ _ _ aA,Zc W SB 3 _ _ _ aA,Zc W SB 4 _ _ _ aA,Zc W SB 5 _ _ _ aA,Zc W SB 6 _ _ _ aA,Zc W SB 7 _ _ _ aA,Zc W SB 8 _ _ _ aA⟩)
     go_upto_region 21 with fail
     rw[eM.out,←eU];clear dK eU;have iA:Hid (∀k,k<3→∃Pk nk tk:Int,An Pk∧∀W,Below wc.heap.size wc W→W.cell? ⟨SB,k*3,none⟩=some (.int .i64 Pk)∧W.cell? ⟨SB,k*3+1,none⟩=some (.int .i64 nk)∧W.cell? ⟨SB,k*3+2,none⟩=some (.int .i64 tk)):=Zk (fun k hk3=>by
      have h3:k=0∨k=1∨k=2:=by omega
      rcases h3 with rfl|rfl|rfl
      ·exact⟨P0,n0,t0,hP0,fun W hb=>by
        obtain⟨a0,a1,a2,_⟩:=eP.out W hb;exact⟨a0,a1,a2⟩⟩
      ·exact⟨P,n,t,bT,fun W hb=>by
        obtain⟨_,_,_,a0,a1,a2,_⟩:=eP.out W hb;exact⟨a0,a1,a2⟩⟩
      ·exact⟨P,n0,t0,bT,fun W hb=>by
        obtain⟨_,_,_,_,_,_,a0,a1,a2⟩:=eP.out W hb;exact⟨a0,a1,a2⟩⟩)
     have hW:Hid (∀W,Below wc.heap.size wc W→(W.cell? ⟨F+1+1,0,none⟩=some (.slice AT nT cT)∧W.cell? ⟨F+1+1,1,none⟩=some (.int .i64 an)∧W.cell? ⟨Z,0,none⟩=some (.slice AO nO cO)∧W.cell? ⟨Z,1,none⟩=some (.int .i64 0)∧SI W (.slice AT nT cT) T∧SI W (.slice AO nO cO) ns)∧SAn W (.slice AL nA cL) la∧SAn W (.slice AA n cA) L∧SL W (.slice AR nR cR) rows∧SL W (.slice Aq n cq) RQ∧SL W (.slice (some ⟨HB,0,none⟩) n cB) aQ):=Zk (fun W hb=>by
      have aW:Below wb.heap.size wb W:=aG.out.trans (hb.mono aG.out.size);obtain⟨_,_,_,a3,a4⟩:=eO.out W (aS.out.trans (aW.mono aS.out.size));obtain⟨b0,b1⟩:=iB.out W aW;exact⟨⟨a3,a4,b0,b1,eI.out.below aW,eE.out.below aW⟩,dY.out.below aW,hI.out.below aW,eC.out.below aW,hV.out.below aW,hX.out.below aW⟩)
     have hO:Hid (∀W,Below wc.heap.size wc W→EW W):=Zk (fun W hb=>hP.out.below (aG.out.trans (hb.mono aG.out.size)))
     go_wp2_with fail;refine zDi SB m (F+1+1) Z nT cT nO cO nA cL n cA nR cR n cq n cB count index width wd an 0 AT AO AL AA AR Aq (some ⟨HB,0,none⟩) T ns la L rows RQ aQ wc iQ (by omega) hc hO.out iA.out hW.out ?_ (frn_of (by rfl)) (by rfl) (by rfl) (by rfl) (by rfl) (by rfl) (by rfl) (by rfl) (by rfl) (by rfl) (by rfl) (by rfl) (by rfl) (by rfl) (by rfl) (by rfl);simp (maxSteps:=9000000) only[Ct,Cu,Cv];rintro u18 u38 u40 u41 u42 u43 u44 u46 u48 u49 u50 u51 u52 u53 u54 u56 u58 u59 u60 u61 u62 u64 u65 u66 u67 u68 u69 u70 u72 u188 u189 u190 u191 u192 u193 u194 u195 u196 u197 u198 u199 u200 u201 u202 u203 u204 u205 u206 u207 u208 u209 u210 u211 u212 u213 u214 u215 u216 u217 u218 u219 u220 u221 u222 u223 u224 u225 u226 u227 u228 u229 u230 u231 u232 u233 u234 u235 u236 u237 u238 u239 u240 u241 u242 u243 u244 u245 u246 u247 u248 u249 u250 u251 u252 u253 u254 u255 u256 u257 u258 u259 u260 u261 u262 u263 u264 u265 u266 u267 u268 u269 u270 u271 u272 u273 u274 u275 u276 u277 u278 u279 u280 u281 u282 u283 u284 u285 u286 u287 u288 u289 u290 u291 u292 u293 u294 u295 u296 u297 u298 u299 u300 u301 u302 u303 u304 u305 u306 u307 u308 u309 u310 u311 u312 u313 u314 u315 u316 u317 u318 u319 u320 u321 u322 u323 u324 u325 u326 u327 u328 u329 u330 u331 u332 u333 u334 u335 u336 u337 u338 u339 u340 u341 u342 u343 u344 u345 u346 u347 u348 u349 u350 u351 u352 u353 u354 u355 u356 u357 u358 u359 u360 u361 u362 u363 u364 u365 u366 u367 u368 u369 u370 u371 u372 u373 u374 u375 u376 u377 u378 u379 u380 u381 u382 u383 u384 u385 u386 u387 u388 u389 u390 u391 u392 u393 u394 u395 u396 u397 u398 u399 u400 u401 u402 u403 u404 u405 u406 u407 u408 u409 u410 u411 u412 u413 u414 u415 u416 u417 u418 wz gQ;have hL:Hid (Below w.heap.size w wz):=Zk (aH.out.trans ((aG.out.trans (gQ.mono aG.out.size)).mono aH.out.size));clear gQ;go_wp2_with fail;go_ret;exact⟨rfl,hL.out⟩
end Go.Proofs.YtbgabipngdillaaGreatDoor
