/- Parts. -/
import Derived.Test.YtoiabanpnkpbhaaGreatDoorM42
import Derived.Test.YtoiabanpnkpbhaaGreatDoorM44
set_option linter.unusedVariables false
set_option linter.unusedSimpArgs false
set_option maxRecDepth 1000000
set_option maxHeartbeats 16000000
namespace Go.Proofs.YtoiabanpnkpbhaaGreatDoor
open Go.RowKit Go.Shelf
def dcl(ps:List (List Int))(i W c:Nat):List Int:=(List.range W).map fun x=>if x<c then gd (gr ps x) i else 0
theorem zCo(ps:List (List Int))(i W c:Nat):(dcl ps i W c).length=W:=by simp[dcl]
theorem Xy(ps:List (List Int))(i W:Nat):dcl ps i W 0=Ay W:=by
 apply List.ext_getElem
 ·simp[dcl,Ay]
 ·intro k h1 h2;simp[dcl,Ay]
theorem Xx(ps:List (List Int))(i W c:Nat)(hc:c<W):(dcl ps i W c).set c (gd (gr ps c) i)=dcl ps i W (c+1):=by
 apply List.ext_getElem
 ·simp[dcl]
 ·intro k h1 h2;by_cases hk:k=c
  ·subst hk;rw[List.getElem_set_self];simp[dcl]
  ·rw[List.getElem_set_ne (Ne.symm hk)];simp only[dcl,List.getElem_map,List.getElem_range];by_cases h:k<c
   ·rw[if_pos h,if_pos (by omega)]
   ·rw[if_neg h,if_neg (by omega)]
theorem Xw(ps:List (List Int))(i W c:Nat)(h0:gd (gr ps c) i=0):dcl ps i W c=dcl ps i W (c+1):=by
 unfold dcl;apply List.map_congr_left;intro k _;by_cases hk:k=c
 ·subst hk;rw[if_neg (by omega),if_pos (by omega),h0]
 ·by_cases h:k<c
  ·rw[if_pos h,if_pos (by omega)]
  ·rw[if_neg h,if_neg (by omega)]
theorem zCn(ps:List (List Int))(i:Nat):dcl ps i ps.length ps.length=ps.map fun p=>gd p i:=by
 apply List.ext_getElem
 ·simp[dcl]
 ·intro k h1 h2;have hk:k<ps.length:=by simpa [dcl] using h1
  simp only[dcl,List.getElem_map,List.getElem_range];rw[if_pos hk,Hf hk]
def dcR(ps:List (List Int))(k:Nat):List (List Int):=(List.range k).map fun i=>ps.map fun p=>gd p i
theorem Xv(ps:List (List Int))(k:Nat):dcR ps (k+1)=dcR ps k++[ps.map fun p=>gd p k]:=by unfold dcR;rw[List.range_succ,List.map_append];rfl
def ZgA(G:Nat)(ps:List (List Int))(w2:World)(v iv:Value)(wr:World):Prop:=
 ∃(k:Nat) (pv:Value) (vs:List Value),pv=v∧k≤G∧iv= .int .i64 k∧wr.ownsRow w2.heap.size 22 1 pv vs.length vs∧vs.length=k∧(∀g,g<w2.heap.size→RW w2.heap.size g wr pv vs (dcR ps k))∧Below w2.heap.size w2 wr
theorem Oz(g:Nat)(P n t G width:Int)(l:List (Bool×List Int))(v:Value)(w:World)(hP:At P)(h:SAn w v l)(hg:g<w.heap.size):
  Calls Tryz.prog 41 #[.agg #[.int .i64 P],.agg #[.int .i64 n,.int .i64 t,.int .i64 G],.int .i64 width,v] w (GdeP g P n t G width l w):=by
 have HS:=Zk h;obtain⟨A,c,rfl⟩:=h.form;obtain⟨nl,bY⟩:∃nl,nl=l.length:=⟨_,rfl⟩;rw[←bY] at HS⊢;clear h bY;go_enter Tryz.func41,Tryz.ntmps41;obtain⟨F,eF⟩:∃F,F=w.heap.size:=⟨_,rfl⟩;obtain⟨w1,aR⟩:∃w1:World,w1=(w.alloc (.cells #[.int .i64 P] 31)).alloc (.cells #[.int .i64 n,.int .i64 t,.int .i64 G] 29):=⟨_,rfl⟩;have bF:Hid ((w.alloc (.cells #[.int .i64 P] 31)).alloc (.cells #[.int .i64 n,.int .i64 t,.int .i64 G] 29)=w1):=aR.symm;have aL:Hid (Below w.heap.size w w1):=Zk (by rw[aR];exact ((Zb _ w).alloc (Zl _) _).alloc (by simp) _);have aB:Hid (w1.heap[F]? =some (.cells #[.int .i64 P] 31 (0,0))):=Zk (by show _=_;rw[aR,eF,Below.heap_alloc _ _ _ (by simp)];exact Zh w _);have aC:Hid (w1.heap[F+1]? =some (.cells #[.int .i64 n,.int .i64 t,.int .i64 G] 29 (0,0))):=Zk (by show _=_;rw[aR,eF];have:=Zh (w.alloc (.cells #[.int .i64 P] 31)) (.cells #[.int .i64 n,.int .i64 t,.int .i64 G] 29);simpa using this);have aV:Hid (∀W,Below w1.heap.size w1 W→W.cell? ⟨F,0,none⟩=some (.int .i64 P)∧W.cell? ⟨F+1,0,none⟩=some (.int .i64 n)∧W.cell? ⟨F+1,1,none⟩=some (.int .i64 t)∧W.cell? ⟨F+1,2,none⟩=some (.int .i64 G)):=Zk (fun W hg=>by
  have dL:=(hg.block F (Ae aB.out)).trans aB.out;have bI:=(hg.block (F+1) (Ae aC.out)).trans aC.out;exact⟨Zc W F 0 _ _ _ dL,Zc W (F+1) 0 _ _ _ bI,Zc W (F+1) 1 _ _ _ bI,Zc W (F+1) 2 _ _ _ bI⟩)
 go_upto_region 1 with fail
 rw[bF.out,←eF];clear aR eF;obtain⟨x0,x1,x2,x3⟩:=aV.out w1 (Zb _ _);go_wp2_with fail;(with_reducible refine (Et P n t G _ hP).mono ?_)
 rintro e w2 ⟨rfl,aG⟩;have aM:Hid (Below w.heap.size w w2):=Zk (aL.out.trans (aG.mono aL.out.size));have aE:=Zk aG;clear x0 x1 x2 x3 aG;obtain⟨x0,x1,x2,x3⟩:=aV.out w2 aE.out;obtain⟨z,ez⟩:∃z,z=gcE P n t G:=⟨_,rfl⟩;rw[←ez];have HZ:=Zk ez;clear ez;by_cases hz:z=0
 case' neg=>
  have dz:(z !=0)=true:=by rw[bne_iff_ne];exact hz
  have HR:Hid (GdR P n t G width l [] [] z):=Zk (.inl ⟨by rw[←HZ.out];exact hz,HZ.out,rfl,rfl⟩);clear hz;go_wp2_with fail;refine bodyPost_ret (v:= .tuple #[.slice none 0 0,.slice none 0 0,.int .i64 z]) (by simp[results,Tryz.results41,go_sem]) rfl ?_;exact⟨[],[],z,_,_,rfl,aM.out,HR.out,SLE.nil _ _,SE.nil _ _⟩
 subst hz;have hV:=He HZ.out.symm;have b1:=hV.t1;have b2:=hV.n10;have b3:=hV.sum;have b4:=hV.G1;have b5:=hV.n2;have dA:=Zk hV.pr;have hPb:=hV.pb;clear hV;obtain⟨nn,rfl⟩:∃nn:Nat,n=nn:=⟨n.toNat,by omega⟩;obtain⟨tn,rfl⟩:∃tn:Nat,t=tn:=⟨t.toNat,by omega⟩;obtain⟨Gn,rfl⟩:∃Gn:Nat,G=Gn:=⟨G.toNat,by omega⟩;obtain⟨k1,bX⟩:∃k1:Nat,k1=2*Gn+tn-1:=⟨_,rfl⟩;have m1:IntKind.i64.wrap (2*(Gn:Int))=2*(Gn:Int):=by exact Zi _ (by omega)
 have m2:IntKind.i64.wrap (2*(Gn:Int)+(tn:Int))=2*(Gn:Int)+(tn:Int):=by exact Zi _ (by omega)
 have m3:IntKind.i64.wrap (2*(Gn:Int)+(tn:Int)-1)=(k1:Int):=by rw[Zi _ (by omega)];omega
 have bQ:=Zk bX;have cJ:1≤k1∧k1≤nn:=by omega
 clear bX;go_wp2_with fail;(with_reducible refine (Oy P width nn k1 l _ w2 dA.out (HS.out.below aM.out) (by omega) cJ.1 cJ.2).mono ?_)
 rintro e w3 ⟨ps,ws,er,pv,wv,rfl,bJ,cF,cN,cP⟩;have aT:Hid (Below w.heap.size w w3):=Zk (aM.out.trans (bJ.mono aM.out.size));have aF:Hid (Below w1.heap.size w1 w3):=Zk (aE.out.trans (bJ.mono aE.out.size));have bN:=Zk cF;have bU:=Zk cN;have bW:=Zk cP;have cW:Hid (g<w2.heap.size):=Zk (Nat.lt_of_lt_of_le hg aM.out.size);have aK:Hid (((nn:Int).toNat=nn)∧((tn:Int).toNat=tn)∧((Gn:Int).toNat=Gn)):=Zk (⟨rfl,rfl,rfl⟩);clear x0 x1 x2 x3 bJ m1 m2 m3 cF cN cP;obtain⟨x0,x1,x2,x3⟩:=aV.out w3 aF.out;by_cases he:er=0
 case' neg=>
  have de:(er !=0)=true:=by rw[bne_iff_ne];exact he
  have HR:Hid (GdR P nn tn Gn width l [] [] er):=Zk (.inr ⟨HZ.out.symm,by
   rw[aK.out.1,aK.out.2.1,aK.out.2.2];have h:=bN.out;unfold CoR at h;unfold DgR;rw[←bQ.out];rcases h with⟨h1,h2,_,_⟩|⟨h1,⟨h2,h3,_,_⟩|⟨_,h3⟩⟩
   ·exact .inl ⟨h1,h2,rfl,rfl⟩
   ·exact .inr ⟨h1,.inl ⟨h2,h3,rfl,rfl⟩⟩
   ·exact absurd h3 he⟩)
  clear he;go_wp2_with fail;refine bodyPost_ret (v:= .tuple #[.slice none 0 0,.slice none 0 0,.int .i64 er]) (by simp[results,Tryz.results41,go_sem]) rfl ?_;exact⟨[],[],er,_,_,rfl,aT.out,HR.out,SLE.nil _ _,SE.nil _ _⟩
 subst he;have dM:(0≤width∧width≤64)∧ps.length=width.toNat∧GdR P nn tn Gn width l (dcR ps Gn) ws 0∧AlR P k1 l width.toNat ps ws∧l.length≤10:=by
  have h:=bN.out;unfold CoR at h;rcases h with⟨h1,h2,_,_⟩|⟨h1,⟨_,h3,_,_⟩|⟨h2,_⟩⟩
  ·exact absurd h2.symm h1
  ·cases h3
  ·obtain⟨w0,dP,hln,_⟩:=Sa h1;refine⟨⟨w0,dP⟩,h2.1,.inr ⟨HZ.out.symm,?_⟩,h2,by omega⟩;rw[aK.out.1,aK.out.2.1,aK.out.2.2];unfold DgR;rw[←bQ.out];exact .inr ⟨h1,.inr ⟨ps,h2,rfl,rfl⟩⟩
 obtain⟨bL,aX,cI,cC,dN⟩:=dM;have HR:=Zk cI;obtain⟨W,rfl⟩:∃W:Nat,width=W:=⟨width.toNat,by omega⟩;have hW64:W≤64:=by omega
 rw[Int.toNat_natCast] at aX;have aU:=Zk aX;have bS:Hid (∀p∈ps,∀x∈p,At x):=Zk (SL.i64 bU.out);obtain⟨Ap,cp,rfl,cD⟩:=bU.out.at
 obtain⟨Aw,cw,dK⟩:=Ch bW.out;subst dK;have bT:Hid (SE g w3 (.slice Aw ws.length cw) ws):=Zk (SE.of_own bW.out (fun x hx=>by have:=Xf cC x hx;unfold At;omega) cW.out)
 obtain⟨nw,bZ⟩:∃nw,nw=ws.length:=⟨_,rfl⟩;rw[←bZ] at bT⊢;rw[aX] at⊢;have cR:=Zk cD
 clear cI cD aX bZ bL cC dN x0 x1 x3;go_wp2_with fail;clear x2;go_loopw [15,16] (fun v iv wr=>ZgA Gn ps w3 v iv wr) (fun _ iv _=>Gn- (intOf iv).toNat)
 case atStart=>exact⟨0,_,[],rfl,Nat.zero_le _,rfl,World.ownsRow_nil _ _ _ _,rfl,fun g _=>RW.nil _ _ _,Zb _ _⟩
 case round=>
  obtain⟨k,pv,vs,rfl,hk,rfl,cL,cO,cM,hb⟩:=hrel;have bD:=Zk cL;have bV:=Zk cO;have bE:=Zk cM;have aA:=Zk hb;have aO:Hid (Below w1.heap.size w1 wr):=Zk (aF.out.trans (hb.mono aF.out.size));clear cM hb cL cO;obtain⟨wo,cB⟩:∃wo:World,wo=wr:=⟨_,rfl⟩;rw[←cB] at bE aA aO bD⊢;clear cB;obtain⟨x0,x1,x2,x3⟩:=aV.out wo aO.out;by_cases hlk:k<Gn
  ·have dk:decide ((k:Int)<(Gn:Int))=true:=Ze (by omega);have dH:decide (k<Gn)=true:=Ze hlk;obtain⟨b,eb⟩:∃b,b=wo.heap.size:=⟨_,rfl⟩;obtain⟨w6,aW⟩:∃w6:World,w6=wo.alloc (.cells ((Ay W).map (Value.int .i64)).toArray 3):=⟨_,rfl⟩;have cS:Hid (Below wo.heap.size wo w6):=Zk (by rw[aW];exact (Zb _ _).alloc (Zl _) _);have cY:Hid (BK w6 b (dcl ps k W 0)):=Zk (by rw[aW,eb,Xy];exact Zh wo _);have bO:=Zk eb;go_wp2_with (at_make;refine Bn _ rfl _ _ 22 rfl 3 Tryz.underlying22 Bi _ W rfl rfl rfl (by omega) ?_);rw[←aW,←eb];clear aW eb x0 x1 x2 x3;go_wp2_with fail;go_loopw [56] (fun iv wr=>∃c:Nat,c≤W∧iv= .int .i64 c∧BK wr b (dcl ps k W c)∧Below wo.heap.size wo wr) (fun iv _=>W- (intOf iv).toNat)
   case atStart=>exact⟨0,Nat.zero_le _,rfl,cY.out,cS.out⟩
   case round=>
    obtain⟨x,hx,rfl,cE,aG⟩:=hrel;have aN:=Zk cE;have aJ:=Zk aG;have aZ:Hid (Below w3.heap.size w3 wr):=Zk (aA.out.trans (aG.mono aA.out.size));clear cE aG;by_cases hlx:x<W
    ·have dx:decide ((x:Int)<(W:Int))=true:=Ze (by omega);have dJ:decide (x<W)=true:=Ze hlx;have bM:x<ps.length:=by rw[aU.out];exact hlx
     obtain⟨bh,oh,B,d,eA,hW⟩:=cR.out x bM;subst eA;obtain⟨ck,aY⟩:=hW wr aZ.out;have bA:Hid (gr ps x=ps[x]):=Zk (Hf bM);have bK:=bS.out _ (List.getElem_mem bM);generalize ps[x]=p at ck aY bA bK;obtain⟨pl,bH⟩:∃pl,pl=p.length:=⟨_,rfl⟩;rw[←bH] at ck aY;have aQ:=Zk bH;have dD:=Zk aY;have z1:(0:Int)≤(x:Int):=by omega
     have z2:(x:Int)<(W:Int):=by omega
     clear hW aY bH;by_cases hkp:k<pl
     ·have dp:decide ((k:Int)<(pl:Int))=true:=Ze (by omega);have dI:decide (k<pl)=true:=Ze hkp;have aH:k<p.length:=by rw[←aQ.out];exact hkp
      obtain⟨bb,ob,eB,cv⟩:=dD.out.at aH;subst eB;have aI:(dcl ps k W x).length=W:=zCo ..;have dO:=aN.out.cell (j:=x) (by rw[aI];exact hlx);have hfk:=aN.out.frozen x;obtain⟨y,ey⟩:∃y,y=p[k]:=⟨_,rfl⟩;rw[←ey] at cv;have bC:Hid (dcl ps k W (x+1)=(dcl ps k W x).set x y):=Zk (by
       show _=_;rw[←Xx ps k W x hlx,bA.out,Bw aH,ey])
      obtain⟨u0,cA⟩:∃u0,u0=(dcl ps k W x)[x]'(by rw[aI];exact hlx):=⟨_,rfl⟩;rw[←cA] at dO;have z3:(0:Int)≤(k:Int):=by omega
      have z4:(k:Int)<(pl:Int):=by omega
      clear ey cA aI bK hkp aH;go_wp2_with fail;go_roundw
      case rel=>exact⟨x+1,by omega,by go_num,by rw[bC.out];exact aN.out.set _ _,aJ.out.setCell (by have:=bO.out;show _≤b;omega) _⟩
      case measure=>simp[intOf];omega
     ·have dp:decide ((k:Int)<(pl:Int))=false:=Zd (by omega);have dI:decide (k<pl)=false:=Zd hkp;have bC:Hid (dcl ps k W x=dcl ps k W (x+1)):=Zk (Xw ps k W x (by rw[bA.out,Ee (by rw[←aQ.out];omega)]));clear hkp bK;go_wp2_with fail;go_roundw
      case rel=>exact⟨x+1,by omega,by go_num,by rw[←bC.out];exact aN.out,aJ.out⟩
      case measure=>simp[intOf];omega
    ·have dx:decide ((x:Int)<(W:Int))=false:=Zd (by omega);have dJ:decide (x<W)=false:=Zd hlx;have cV:Hid (BK wr b (ps.map fun p=>gd p k)):=Zk (by
      have h:=aN.out;rw[show x=ps.length by rw[aU.out];omega,show W=ps.length from aU.out.symm,zCn] at h;exact h)
     have cX:Hid (∀y∈ps.map (fun p=>gd p k),At y):=Zk (fun y hy=>by
      obtain⟨p,hp,rfl⟩:=List.mem_map.1 hy;by_cases hk2:k<p.length
      ·rw[Bw hk2];exact bS.out p hp _ (List.getElem_mem hk2)
      ·rw[Ee (by omega)];unfold At;omega)
     have bB:Hid ((ps.map fun p=>gd p k).length=W):=Zk (by show _=_;rw[List.length_map];exact aU.out)
     have cZ:Hid (wr.ownsRow wo.heap.size 3 1 (.slice (some ⟨b,0,none⟩) W W) W ((ps.map fun p=>gd p k).map (Value.int .i64))):=Zk (by
      have h:=BK.own cV.out (base:=wo.heap.size) (by have:=bO.out;omega) (by rw[bB.out];omega);rw[bB.out] at h;exact h)
     have dB:Hid (∀g,g<w3.heap.size→RW w3.heap.size g wr pv vs (dcR ps k)):=Zk (fun g hg=>(bE.out g hg).below hg aJ.out)
     have aP:Hid (wr.ownsRow w3.heap.size 22 1 pv vs.length vs):=Zk (Bm bD.out aJ.out);have dG:Hid (∀g,g<w3.heap.size→SX (wr.alloc (.cells #[.slice (some ⟨b,0,none⟩) W W] 22)) pv.ownBlock (some g) (.slice (some ⟨b,0,none⟩) W W) (ps.map fun p=>gd p k)):=Zk (fun g hg=>SX.of_own (base:=wo.heap.size) (by rw[bB.out];exact cZ.out.alloc _) cX.out (fun q hq=>(bD.out.lt q hq).2) (fun q hq=>by injection hq with e;have:=aA.out.size;omega))
     have hvn:vs.length≤2048:=by have h:=bV.out;omega
     have hzw:w3.heap.size≤wr.heap.size:=Nat.le_trans aA.out.size aJ.out.size;clear hlx;go_wp2_with (at_builtin;refine Bt _ rfl _ _ 33 rfl w3.heap.size 22 (.slice none 0 0) 24 Tryz.underlying33 Ev pv vs.length vs rfl (aP.out.alloc _) (.slice (some ⟨b,0,none⟩) W W) rfl wr.heap.size rfl (Ba wr [.slice (some ⟨b,0,none⟩) W W] 22 0 _ rfl) (by omega) (by omega) rfl (by simp;omega) ?_;intro g9 bG w9 aD cH aS;have bR:=Zk aD;have bP:=Zk cH;have cQ:=Zk aS;clear aD cH aS);have dC:Hid (∀g,g<w3.heap.size→RW w3.heap.size g w9 (.slice (some ⟨g9,0,none⟩) (vs.length+1) bG) (vs++[.slice (some ⟨b,0,none⟩) W W]) (dcR ps (k+1))):=Zk (fun g hg=>by
      rw[Xv];exact ((dB.out g hg).below hg ((Zb _ wr).alloc (Zl _) _)).app (dG.out g hg) bR.out bP.out (fun q hq=>by
       have e:g9=q:=by simpa [Value.ownBlock] using hq
       subst e;exact cQ.out))
     have cT:Hid (Below w3.heap.size w3 w9):=Zk (((aA.out.trans (aJ.out.mono aA.out.size)).alloc (by omega) _).grown bP.out (by simp;omega) (fun q hq=>(aP.out.lt q hq).1))
     go_roundw
     case rel=>exact⟨k+1,_,_,rfl,by omega,by go_num,by simpa using bR.out,by simp[bV.out],dC.out,cT.out⟩
     case measure=>simp[intOf];omega
  ·have dk:decide ((k:Int)<(Gn:Int))=false:=Zd (by omega);have dH:decide (k<Gn)=false:=Zd hlk;have cK:k=Gn:=by omega
   have dE:Hid (SLE g wo pv (dcR ps Gn)):=Zk (by
    have cG:g<w3.heap.size:=Nat.lt_of_lt_of_le hg aT.out.size;rw[←cK];exact (bE.out g cG).sle cG)
   have dF:Hid (SE g wo (.slice Aw nw cw) ws):=Zk (bT.out.grown (Af aA.out _));have cU:Hid (Below w.heap.size w wo):=Zk (aT.out.trans (aA.out.mono aT.out.size));clear cK;go_wp2_with fail;refine bodyPost_ret (v:= .tuple #[pv,.slice Aw nw cw,.int .i64 0]) (by simp[results,Tryz.results41,go_sem]) rfl ?_;exact⟨dcR ps Gn,ws,0,_,_,rfl,cU.out,HR.out,dE.out,dF.out⟩
open Go.RowKit Go.Shelf
def frn:Nat→List Value→Prop
 |0,L=>L=[]
 |n+1,L=>∃a T,L=a::T∧frn n T
theorem Uk:∀L:List Value,frn L.length L
 |[]=>rfl
 |a::L=>⟨a,L,rfl,Uk L⟩
def seg:List Value→Nat→List Value→List Value
 |L,0,[]=>L
 |_::L,0,t::T=>t::seg L 0 T
 |a::L,n+1,T=>a::seg L n T
 |[],_,_=>[]
theorem Dq(L:List Value):seg L 0 []=L:=by unfold seg;rfl
theorem Dp(a t:Value)(L T:List Value):seg (a::L) 0 (t::T)=t::seg L 0 T:=by rw[seg]
theorem Do(a:Value)(L T:List Value)(n:Nat):seg (a::L) (n+1) T=a::seg L n T:=by rw[seg]
theorem Ed{p:List Value→Prop}{L:List Value}(hL:frn 424 L)(hp:∀s0 s1 s2 s3 s4 s5 s6 s7 s8 s9 s10 s11 s12 s13 s14 s15 s16 s17 s18 s19 s20 s21 s22 s23 s24 s25 s26 s27 s28 s29 s30 s31 s32 s33 s34 s35 s36 s37 s38 s39 s40 s41 s42 s43 s44 s45 s46 s47 s48 s49 s50 s51 s52 s53 s54 s55 s56 s57 s58 s59 s60 s61 s62 s63 s64 s65 s66 s67 s68 s69 s70 s71 s72 s73 s74 s75 s76 s77 s78 s79 s80 s81 s82 s83 s84 s85 s86 s87 s88 s89 s90 s91 s92 s93 s94 s95 s96 s97 s98 s99 s100 s101 s102 s103 s104 s105 s106 s107 s108 s109 s110 s111 s112 s113 s114 s115 s116 s117 s118 s119 s120 s121 s122 s123 s124 s125 s126 s127 s128 s129 s130 s131 s132 s133 s134 s135 s136 s137 s138 s139 s140 s141 s142 s143 s144 s145 s146 s147 s148 s149 s150 s151 s152 s153 s154 s155 s156 s157 s158 s159 s160 s161 s162 s163 s164 s165 s166 s167 s168 s169 s170 s171 s172 s173 s174 s175 s176 s177 s178 s179 s180 s181 s182 s183 s184 s185 s186 s187 s188 s189 s190 s191 s192 s193 s194 s195 s196 s197 s198 s199 s200 s201 s202 s203 s204 s205 s206 s207 s208 s209 s210 s211 s212 s213 s214 s215 s216 s217 s218 s219 s220 s221 s222 s223 s224 s225 s226 s227 s228 s229 s230 s231 s232 s233 s234 s235 s236 s237 s238 s239 s240 s241 s242 s243 s244 s245 s246 s247 s248 s249 s250 s251 s252 s253 s254 s255 s256 s257 s258 s259 s260 s261 s262 s263 s264 s265 s266 s267 s268 s269 s270 s271 s272 s273 s274 s275 s276 s277 s278 s279 s280 s281 s282 s283 s284 s285 s286 s287 s288 s289 s290 s291 s292 s293 s294 s295 s296 s297 s298 s299 s300 s301 s302 s303 s304 s305 s306 s307 s308 s309 s310 s311 s312 s313 s314 s315 s316 s317 s318 s319 s320 s321 s322 s323 s324 s325 s326 s327 s328 s329 s330 s331 s332 s333 s334 s335 s336 s337 s338 s339 s340 s341 s342 s343 s344 s345 s346 s347 s348 s349 s350 s351 s352 s353 s354 s355 s356 s357 s358 s359 s360 s361 s362 s363 s364 s365 s366 s367 s368 s369 s370 s371 s372 s373 s374 s375 s376 s377 s378 s379 s380 s381 s382 s383 s384 s385 s386 s387 s388 s389 s390 s391 s392 s393 s394 s395 s396 s397 s398 s399 s400 s401 s402 s403 s404 s405 s406 s407 s408 s409 s410 s411 s412 s413 s414 s415 s416 s417 s418 s419 s420 s421 s422 s423,p (s0::s1::s2::s3::s4::s5::s6::s7::s8::s9::s10::s11::s12::s13::s14::s15::s16::s17::s18::s19::s20::s21::s22::s23::s24::s25::s26::s27::s28::s29::s30::s31::s32::s33::s34::s35::s36::s37::s38::s39::s40::s41::s42::s43::s44::s45::s46::s47::s48::s49::s50::s51::s52::s53::s54::s55::s56::s57::s58::s59::s60::s61::s62::s63::s64::s65::s66::s67::s68::s69::s70::s71::s72::s73::s74::s75::s76::s77::s78::s79::s80::s81::s82::s83::s84::s85::s86::s87::s88::s89::s90::s91::s92::s93::s94::s95::s96::s97::s98::s99::s100::s101::s102::s103::s104::s105::s106::s107::s108::s109::s110::s111::s112::s113::s114::s115::s116::s117::s118::s119::s120::s121::s122::s123::s124::s125::s126::s127::s128::s129::s130::s131::s132::s133::s134::s135::s136::s137::s138::s139::s140::s141::s142::s143::s144::s145::s146::s147::s148::s149::s150::s151::s152::s153::s154::s155::s156::s157::s158::s159::s160::s161::s162::s163::s164::s165::s166::s167::s168::s169::s170::s171::s172::s173::s174::s175::s176::s177::s178::s179::s180::s181::s182::s183::s184::s185::s186::s187::s188::s189::s190::s191::s192::s193::s194::s195::s196::s197::s198::s199::s200::s201::s202::s203::s204::s205::s206::s207::s208::s209::s210::s211::s212::s213::s214::s215::s216::s217::s218::s219::s220::s221::s222::s223::s224::s225::s226::s227::s228::s229::s230::s231::s232::s233::s234::s235::s236::s237::s238::s239::s240::s241::s242::s243::s244::s245::s246::s247::s248::s249::s250::s251::s252::s253::s254::s255::s256::s257::s258::s259::s260::s261::s262::s263::s264::s265::s266::s267::s268::s269::s270::s271::s272::s273::s274::s275::s276::s277::s278::s279::s280::s281::s282::s283::s284::s285::s286::s287::s288::s289::s290::s291::s292::s293::s294::s295::s296::s297::s298::s299::s300::s301::s302::s303::s304::s305::s306::s307::s308::s309::s310::s311::s312::s313::s314::s315::s316::s317::s318::s319::s320::s321::s322::s323::s324::s325::s326::s327::s328::s329::s330::s331::s332::s333::s334::s335::s336::s337::s338::s339::s340::s341::s342::s343::s344::s345::s346::s347::s348::s349::s350::s351::s352::s353::s354::s355::s356::s357::s358::s359::s360::s361::s362::s363::s364::s365::s366::s367::s368::s369::s370::s371::s372::s373::s374::s375::s376::s377::s378::s379::s380::s381::s382::s383::s384::s385::s386::s387::s388::s389::s390::s391::s392::s393::s394::s395::s396::s397::s398::s399::s400::s401::s402::s403::s404::s405::s406::s407::s408::s409::s410::s411::s412::s413::s414::s415::s416::s417::s418::s419::s420::s421::s422::s423::[])):p L:=by
 iterate 424 obtain⟨_,L,rfl,hL⟩:=hL
 subst hL;exact hp _ _ _ _ _ _ _ _ _ _ _ _ _ _ _ _ _ _ _ _ _ _ _ _ _ _ _ _ _ _ _ _ _ _ _ _ _ _ _ _ _ _ _ _ _ _ _ _ _ _ _ _ _ _ _ _ _ _ _ _ _ _ _ _ _ _ _ _ _ _ _ _ _ _ _ _ _ _ _ _ _ _ _ _ _ _ _ _ _ _ _ _ _ _ _ _ _ _ _ _ _ _ _ _ _ _ _ _ _ _ _ _ _ _ _ _ _ _ _ _ _ _ _ _ _ _ _ _ _ _ _ _ _ _ _ _ _ _ _ _ _ _ _ _ _ _ _ _ _ _ _ _ _ _ _ _ _ _ _ _ _ _ _ _ _ _ _ _ _ _ _ _ _ _ _ _ _ _ _ _ _ _ _ _ _ _ _ _ _ _ _ _ _ _ _ _ _ _ _ _ _ _ _ _ _ _ _ _ _ _ _ _ _ _ _ _ _ _ _ _ _ _ _ _ _ _ _ _ _ _ _ _ _ _ _ _ _ _ _ _ _ _ _ _ _ _ _ _ _ _ _ _ _ _ _ _ _ _ _ _ _ _ _ _ _ _ _ _ _ _ _ _ _ _ _ _ _ _ _ _ _ _ _ _ _ _ _ _ _ _ _ _ _ _ _ _ _ _ _ _ _ _ _ _ _ _ _ _ _ _ _ _ _ _ _ _ _ _ _ _ _ _ _ _ _ _ _ _ _ _ _ _ _ _ _ _ _ _ _ _ _ _ _ _ _ _ _ _ _ _ _ _ _ _ _ _ _ _ _ _ _ _ _ _ _ _ _ _ _ _ _ _ _ _ _ _ _ _ _ _ _ _ _ _ _ _ _ _ _ _ _ _ _ _ _ _ _ _ _ _ _ _ _ _ _ _ _ _ _ _ _ _ _ _ _ _ _ _ _ _ _ _ _ _
theorem Fd{n:Nat}{L:List Value}(h:L.length=n):frn n L:=by subst h;exact Uk L
def Er:Code→Option Nat
 | .region k _ _=>some k
 | .seq a b=>(Er a).or (Er b)
 | .block _ c=>Er c
 | .loop c=>Er c
 | .scope c=>Er c
 | .cond _ a b=>(Er a).or (Er b)
 |_=>none
def Dy(n:Nat):Code→Option Code
 | .seq a b=>(Dy n a).or (Dy n b)
 | .block _ c=>Dy n c
 | .loop c=>if Er c=some n then some (.loop c) else Dy n c
 | .scope c=>Dy n c
 | .cond _ a b=>(Dy n a).or (Dy n b)
 |_=>none
def gqL(P n t G m want:Int)(l:List Int)(an:Int):List (List Int):=if gqI P n t G m want l an=0 then Db P want ((l.drop an.toNat).take (m*t).toNat) t.toNat G.toNat n.toNat m.toNat else []
def gqT(P n t G m want:Int)(l:List Int)(an:Int):List Int:=if gqI P n t G m want l an=0 then l else []
def gqA(P n t G m want:Int)(l:List Int)(an:Int):Int:=if gqI P n t G m want l an=0 then an+m*t else 0
theorem Xc(w:World):SL w (.slice none 0 0) []:=⟨none,0,rfl,Zl _,by omega,fun h=>by simp at h⟩
theorem Tu(w:World):SI w (.slice none 0 0) []:=⟨none,0,rfl,Zl _,by omega,fun x h=>by simp at h,fun h=>by simp at h⟩
theorem Rx.sum{P n t G m want:Int}{l:List Int}{an:Int}{w:World}{e:Ending}{w':World}{g:Nat}(hg:g<w.heap.size)(h:Rx P n t G m want l an w e w'):
  ∃vq A1 n1 c1,e= .returned (.tuple #[vq,.agg #[.slice A1 n1 c1,.int .i64 (gqA P n t G m want l an)],.int .i64 (gqI P n t G m want l an)])∧Below w.heap.size w w'∧SL w' vq (gqL P n t G m want l an)∧SI w' (.slice A1 n1 c1) (gqT P n t G m want l an):=by
 obtain⟨vq,v1,a1,rfl,hb,h0,h1⟩:=h;by_cases hz:gqI P n t G m want l an=0
 ·obtain⟨e1,e2,e3⟩:=h0 hz;obtain⟨A1,c1,ev⟩:=e2.form';subst ev;unfold gqL gqT gqA;rw[if_pos hz,if_pos hz,if_pos hz,←e1];exact⟨vq,A1,_,c1,rfl,hb,(e3 g hg).sl,e2⟩
 ·obtain⟨e1,e2,e3⟩:=h1 hz;subst e1 e2 e3;unfold gqL gqT gqA;rw[if_neg hz,if_neg hz,if_neg hz];exact⟨_,none,0,0,rfl,hb,Xc _,Tu _⟩
def Sl(P n t G m:Int):List Int:=if g2E P n t G m=0 then List.replicate (m*t).toNat P else []
theorem Vp.sum{P n t G m:Int}{w:World}{e:Ending}{w':World}(hP:At P)(h:Vp P n t G m w e w'):
  ∃A1 n1 c1,e= .returned (.tuple #[.slice A1 n1 c1,.int .i64 (g2E P n t G m)])∧Below w.heap.size w w'∧SI w' (.slice A1 n1 c1) (Sl P n t G m):=by
 obtain⟨v,rfl,hb,h0,h1⟩:=h;by_cases hz:g2E P n t G m=0
 ·have h2:=SI.of_own (h0 hz) fun x hx=>by rw[List.eq_of_mem_replicate hx];exact hP
  obtain⟨A1,c1,ev⟩:=h2.form';subst ev;unfold Sl;rw[if_pos hz];exact⟨A1,_,c1,rfl,hb,h2⟩
 ·have e1:=h1 hz;subst e1;unfold Sl;rw[if_neg hz];exact⟨none,0,0,rfl,hb,Tu _⟩
def ghL(P n t G wd:Int)(rows:List (List Int))(j:Int):List (List Int):=if ghE P n t G wd rows j=0 then Ca P rows j wd.toNat G.toNat (ngr rows.length G.toNat) else []
theorem Pn.sum{g:Nat}{P n t G wd:Int}{rows:List (List Int)}{j:Int}{w:World}{e:Ending}{w':World}(h:Pn g P n t G wd rows j w e w'):
  ∃v,e= .returned (.tuple #[v,.int .i64 (ghE P n t G wd rows j)])∧Below w.heap.size w w'∧SL w' v (ghL P n t G wd rows j):=by
 obtain⟨v,rfl,hb,h0,h1⟩:=h;by_cases hz:ghE P n t G wd rows j=0
 ·unfold ghL;rw[if_pos hz];exact⟨v,rfl,hb,(h0 hz).sl⟩
 ·have e1:=h1 hz;subst e1;unfold ghL;rw[if_neg hz];exact⟨_,rfl,hb,Xc _⟩
noncomputable def zEt:Code:=((Tryz.f7.body.bind (Cr 25)).getD .skip)
theorem zHo(X:Nat)(P n t G er va ve:Int)(w:World)(hX:∀W,Below w.heap.size w W→W.cell? ⟨X,0,none⟩=some (.int .i64 P)∧W.cell? ⟨X,1,none⟩=some (.int .i64 n)∧W.cell? ⟨X,2,none⟩=some (.int .i64 t)∧W.cell? ⟨X,3,none⟩=some (.int .i64 G))(hA:∀W,Below w.heap.size w W→Calls Tryz.prog 37 #[.agg #[.int .i64 P],.agg #[.int .i64 n,.int .i64 t,.int .i64 G]] W fun e w'=>e= .returned (.int .i64 er)∧Below W.heap.size W w')(hB:∀W,Below w.heap.size w W→Calls Tryz.prog 38 #[.agg #[.int .i64 P],.agg #[.int .i64 n,.int .i64 t,.int .i64 G]] W fun e w'=>e= .returned (.int .i64 er)∧Below W.heap.size W w'){lfr:List Value}{Q:Exit→Act→World→Prop}
  (hK:∀(aa ab ac ad ae af ag ah ai aj ak al am an ao ap aq ar au av:Value) (w':World),Below w.heap.size w w'→Q .normal ⟨(seg lfr 201 [aa,ab,ac,ad,ae,af,ag,ah,ai,aj,ak,al,am,an,ao,ap,aq,ar,au,av,Value.bool false]).toArray,[]⟩ w') (hL:frn 424 lfr) (aC:lfr[39]? =some (Value.pointer (some ⟨X,0,none⟩))) (aD:lfr[40]? =some (Value.int .i64 va)) (aE:lfr[41]? =some (Value.int .i64 ve)) (aF:lfr[42]? =some (Value.int .i64 va)) (aG:lfr[43]? =some (Value.int .i64 ve)):
  Code.wp Tryz.prog zEt Q ⟨lfr.toArray,[]⟩ w:=by
 revert hK aC aD aE aF aG
 apply Ed hL;iterate 424 intro _
 intro hK aC aD aE aF aG;simp only[List.getElem?_cons_succ,List.getElem?_cons_zero,Option.some.injEq] at aC aD aE aF aG;simp (maxSteps:=9000000) only[Do,Dp,Dq] at hK;subst aC aD aE aF aG;have HK:=Zk hK;have HX:=Zk hX;have HA:=Zk hA;have HB:=Zk hB;obtain⟨x0,x1,x2,x3⟩:=hX w (Zb _ w);have aB:Hid (Below w.heap.size w w):=Zk (Zb _ _);clear hK hX hA hB;conv=>arg 2;whnf
 go_region_held3 (fun w'=>w'.cell? ⟨X,0,none⟩=some (.int .i64 P)∧w'.cell? ⟨X,1,none⟩=some (.int .i64 n)∧w'.cell? ⟨X,2,none⟩=some (.int .i64 t)∧w'.cell? ⟨X,3,none⟩=some (.int .i64 G)) (first|exact⟨x0,x1,x2,x3⟩|go_keep)
  (first
   |(go_at_call 37;refine (HA.out _ (by first|exact aB.out|exact aB.out.drew)).mono ?_;rintro e9 w9 ⟨rfl,aA⟩;have aB:Hid (Below w.heap.size w w9):=Zk (by first|exact aB.out.trans ((show Below _ _ w9 from ⟨aA.os,aA.tape,aA.output,aA.size,aA.block⟩).mono aB.out.size)|exact aB.out.drew.trans ((show Below _ _ w9 from ⟨aA.os,aA.tape,aA.output,aA.size,aA.block⟩).mono aB.out.drew.size));obtain⟨x0,x1,x2,x3⟩:=HX.out w9 aB.out;clear aA)
   |(go_at_call 38;refine (HB.out _ (by first|exact aB.out|exact aB.out.drew)).mono ?_;rintro e9 w9 ⟨rfl,aA⟩;have aB:Hid (Below w.heap.size w w9):=Zk (by first|exact aB.out.trans ((show Below _ _ w9 from ⟨aA.os,aA.tape,aA.output,aA.size,aA.block⟩).mono aB.out.size)|exact aB.out.drew.trans ((show Below _ _ w9 from ⟨aA.os,aA.tape,aA.output,aA.size,aA.block⟩).mono aB.out.drew.size));obtain⟨x0,x1,x2,x3⟩:=HX.out w9 aB.out;clear aA))
 all_goals
  have hk:=HK.out;first
   |exact hk _ _ _ _ _ _ _ _ _ _ _ _ _ _ _ _ _ _ _ _ _ aB.out
   |exact hk _ _ _ _ _ _ _ _ _ _ _ _ _ _ _ _ _ _ _ _ _ aB.out.drew
noncomputable def zDu:Code:=((Tryz.f7.body.bind (Dy 38)).getD .skip)
theorem zGz(X TB SP NP nQ cQ:Nat)(P n t G M an:Int)(AQ:Option Addr)(l:List Int)(w:World)(hnp:NP≤100)(hP:At P)(hM:At M)(hXw:X<w.heap.size)(hX:∀W,Below w.heap.size w W→W.cell? ⟨X,0,none⟩=some (.int .i64 P)∧W.cell? ⟨X,1,none⟩=some (.int .i64 n)∧W.cell? ⟨X,2,none⟩=some (.int .i64 t)∧W.cell? ⟨X,3,none⟩=some (.int .i64 G))(hT:∀W,Below w.heap.size w W→W.cell? ⟨TB,0,none⟩=some (.slice AQ nQ cQ)∧W.cell? ⟨TB,1,none⟩=some (.int .i64 an)∧SI W (.slice AQ nQ cQ) l)(hY:∀W,Below w.heap.size w W→∀k,k<NP→∃y,W.cell? ⟨SP,k,none⟩=some (.int .i64 y)){lfr:List Value}{Q:Exit→Act→World→Prop}
  (hK:∀(aa ab ac ad ae af ag ah ai aj ak al am ao ap aq ar au av aw ax ay az aA aB aC aD aE aF aG aH aI aJ aK aL aM aN aO aP aQ aR aS aT aU aV aW aX aY aZ a2 a3 a4:Value) (w':World),Below w.heap.size w w'→Q (.exit 8) ⟨(seg (seg (seg lfr 18 [aa]) 53 [ab,ac,ad,ae,af,ag,ah]) 271 [ai,aj,ak,al,am,ao,ap,aq,ar,au,av,aw,ax,ay,az,aA,aB,aC,aD,aE,aF,aG,aH,aI,aJ,aK,aL,aM,aN,aO,aP,aQ,aR,aS,aT,aU,aV,aW,aX,aY,aZ,a2,a3,a4]).toArray,[]⟩ w') (hL:frn 424 lfr) (bO:lfr[39]? =some (Value.pointer (some ⟨X,0,none⟩))) (bP:lfr[45]? =some (Value.int .i64 M)) (bQ:lfr[51]? =some (Value.pointer (some ⟨TB,0,none⟩))) (bC:lfr[269]? =some (Value.slice (some ⟨SP,0,none⟩) NP NP)) (bD:lfr[270]? =some (Value.int .i64 NP)) (bE:lfr[271]? =some (Value.int .i64 0)):
  Code.wp Tryz.prog zDu Q ⟨lfr.toArray,[]⟩ w:=by
 revert hK bO bP bQ bC bD bE
 apply Ed hL;iterate 424 intro _
 intro hK bO bP bQ bC bD bE;simp only[List.getElem?_cons_succ,List.getElem?_cons_zero,Option.some.injEq] at bO bP bQ bC bD bE;simp (maxSteps:=9000000) only[Do,Dp,Dq] at hK;subst bO bP bQ bC bD bE;have HK:=Zk hK;have HX:=Zk hX;have HT:=Zk hT;have HY:=Zk hY;clear hK hX hT hY;conv=>arg 2;whnf
 go_loopw [271] (fun iv wr=>∃k:Nat,k≤NP∧iv= .int .i64 k∧Below w.heap.size w wr) (fun iv _=>NP- (intOf iv).toNat)
 case atStart=>exact⟨0,Nat.zero_le _,rfl,Zb _ _⟩
 case round=>
  obtain⟨k,hk,rfl,bI⟩:=hrel;have bJ:=Zk bI;have cW:Hid (X<wr.heap.size):=Zk (Nat.lt_of_lt_of_le hXw bI.size);have wk:IntKind.i64.wrap ((k:Int)+1)=(k:Int)+1:=by exact Zi _ (by omega)
  clear bI;by_cases hk3:k<NP
  ·have dk:decide ((k:Int)<(NP:Int))=true:=Ze (by omega);have cY:decide (k<NP)=true:=Ze hk3;have z0:=Int.natCast_nonneg k;have z1:(k:Int)<(NP:Int):=by omega
   obtain⟨y,y0⟩:=HY.out wr bJ.out k hk3;obtain⟨x0,x1,x2,x3⟩:=HX.out wr bJ.out;obtain⟨t0,t1,hs⟩:=HT.out wr bJ.out;have HS:=Zk hs;clear hs;go_wp2_with fail;(with_reducible refine (Ou P n t G M y l an _ wr hP hM HS.out).mono ?_)
   rintro e w2 hq;obtain⟨vq,A1,n1,c1,rfl,cD,cF,cH⟩:=Rx.sum cW.out hq;have cL:=Zk cF;have cS:=Zk cH;have bX:Hid (Below w.heap.size w w2):=Zk (bJ.out.trans (cD.mono bJ.out.size));obtain⟨a,ea⟩:∃a,a=gqA P n t G M y l an:=⟨_,rfl⟩;obtain⟨er,bV⟩:∃er,er=gqI P n t G M y l an:=⟨_,rfl⟩;rw[←ea,←bV];have HA:=Zk ea;have cK:=Zk bV;clear cF cH cD y0 x0 x1 x2 x3 t0 t1 hq ea bV;obtain⟨Y,eY⟩:∃Y,Y=w2.heap.size:=⟨_,rfl⟩;obtain⟨w3,bR⟩:∃w3:World,w3=w2.alloc (.cells #[.slice A1 n1 c1,.int .i64 a] 45):=⟨_,rfl⟩;have bT:Hid (w2.alloc (.cells #[.slice A1 n1 c1,.int .i64 a] 45)=w3):=bR.symm;have bH:Hid (Below w2.heap.size w2 w3):=Zk (by rw[bR];exact (Zb _ w2).alloc (Zl _) _);have bG:Hid (w3.heap[Y]? =some (.cells #[.slice A1 n1 c1,.int .i64 a] 45 (0,0))):=Zk (by show _=_;rw[bR,eY];exact Zh w2 _);have cX:Hid (∀W,Below w3.heap.size w3 W→W.cell? ⟨Y,0,none⟩=some (.slice A1 n1 c1)∧W.cell? ⟨Y,1,none⟩=some (.int .i64 a)):=Zk (fun W hg=>by
    have cC:=(hg.block Y (Ae bG.out)).trans bG.out;exact⟨Zc W Y 0 _ _ _ cC,Zc W Y 1 _ _ _ cC⟩)
   have bK:Hid (Below w.heap.size w w3):=Zk (bX.out.trans (bH.out.mono bX.out.size));go_upto_region 41 with fail
   rw[bT.out,←eY];clear bR eY;obtain⟨x0,x1,x2,x3⟩:=HX.out w3 bK.out;obtain⟨t0,t1,hs⟩:=HT.out w3 bK.out;have cP:=Zk hs;clear hs;go_wp2_with fail;(with_reducible refine (Iq P n t G M y l an _ w3 hP hM cP.out).mono ?_)
   rintro e w4 hq;obtain⟨vq2,A2,n2,c2,rfl,bW,cG,cI⟩:=Rx.sum (Nat.lt_of_lt_of_le hXw bK.out.size) hq;have cM:=Zk cG;have cT:=Zk cI;have bL:=Zk bW;have bY:Hid (Below w.heap.size w w4):=Zk (bK.out.trans (bW.mono bK.out.size));rw[←HA.out,←cK.out];clear cG cI bW x0 x1 x2 x3 t0 t1 hq;obtain⟨V,eV⟩:∃V,V=w4.heap.size:=⟨_,rfl⟩;obtain⟨w5,bS⟩:∃w5:World,w5=w4.alloc (.cells #[.slice A2 n2 c2,.int .i64 a] 45):=⟨_,rfl⟩;have bU:Hid (w4.alloc (.cells #[.slice A2 n2 c2,.int .i64 a] 45)=w5):=bS.symm;have bA:Hid (Below w4.heap.size w4 w5):=Zk (by rw[bS];exact (Zb _ w4).alloc (Zl _) _);have bF:Hid (w5.heap[V]? =some (.cells #[.slice A2 n2 c2,.int .i64 a] 45 (0,0))):=Zk (by show _=_;rw[bS,eV];exact Zh w4 _);have cR:Hid (∀W,Below w5.heap.size w5 W→W.cell? ⟨V,0,none⟩=some (.slice A2 n2 c2)∧W.cell? ⟨V,1,none⟩=some (.int .i64 a)):=Zk (fun W hg=>by
    have cB:=(hg.block V (Ae bF.out)).trans bF.out;exact⟨Zc W V 0 _ _ _ cB,Zc W V 1 _ _ _ cB⟩)
   have bZ:Hid (Below w.heap.size w w5):=Zk (bY.out.trans (bA.out.mono bY.out.size));have bB:Hid (Below w3.heap.size w3 w5):=Zk (bL.out.trans (bA.out.mono bL.out.size));go_upto_region 42 with fail
   rw[bU.out,←eV];clear bS eV;have cN:=Zk ((cL.out.below bH.out).below bB.out);have cU:=Zk ((cS.out.below bH.out).below bB.out);have cO:=Zk (cM.out.below bA.out);have cV:=Zk (cT.out.below bA.out);go_wp2_with fail;(with_reducible refine (Fa _ _ _ _ w5 cN.out cO.out).mono ?_)
   rintro e w6 ⟨rfl,bN⟩;have cA:Hid (Below w.heap.size w w6):=Zk (bZ.out.trans (bN.mono bZ.out.size));have bM:=Zk bN;rw[show (decide (gqL P n t G M y l an=gqL P n t G M y l an))=true from by simp];obtain⟨a0,a1⟩:=cX.out w6 (bB.out.trans (bN.mono bB.out.size));obtain⟨b0,b1⟩:=cR.out w6 bN;clear bN;go_wp2_with fail;(with_reducible refine (Wy a a _ _ _ _ w6 (cU.out.below bM.out) (cV.out.below bM.out)).mono ?_)
   rintro e wz ⟨rfl,cE⟩;have cJ:Hid (Below w.heap.size w wz):=Zk (cA.out.trans (cE.mono cA.out.size));rw[show tsB a a (gqT P n t G M y l an) (gqT P n t G M y l an)=true from by simp[tsB]];clear cE a0 a1 b0 b1;go_wp2_with fail;go_roundw
   case rel=>exact⟨k+1,by omega,by go_num,cJ.out⟩
   case measure=>simp[intOf];omega
  ·have dk:decide ((k:Int)<(NP:Int))=false:=Zd (by omega);have cY:decide (k<NP)=false:=Zd hk3;go_wp2_with fail;exact HK.out _ _ _ _ _ _ _ _ _ _ _ _ _ _ _ _ _ _ _ _ _ _ _ _ _ _ _ _ _ _ _ _ _ _ _ _ _ _ _ _ _ _ _ _ _ _ _ _ _ _ _ _ wr bJ.out
noncomputable def zDt:Code:=((Tryz.f7.body.bind (Dy 35)).getD .skip)
theorem zGy(X SP NP m:Nat)(P n t G M ix:Int)(w:World)(hnp:NP≤100)(hP:At P)(hM:At M)(hm1:1≤m)(hm2:m≤65521)(hXw:X<w.heap.size)(hX:∀W,Below w.heap.size w W→W.cell? ⟨X,0,none⟩=some (.int .i64 P)∧W.cell? ⟨X,1,none⟩=some (.int .i64 n)∧W.cell? ⟨X,2,none⟩=some (.int .i64 t)∧W.cell? ⟨X,3,none⟩=some (.int .i64 G))(hT:∀k,k<NP→∃AQ nQ cQ an l,∀W,Below w.heap.size w W→W.cell? ⟨SP,k*2,none⟩=some (.slice AQ nQ cQ)∧W.cell? ⟨SP,k*2+1,none⟩=some (.int .i64 an)∧SI W (.slice AQ nQ cQ) l){lfr:List Value}{Q:Exit→Act→World→Prop}
  (hK:∀(aa ab ac ad ae af ag ah ai aj ak al am ao ap aq ar au av aw ax ay az aA aB aC aD aE aF aG aH aI aJ aK aL aM aN aO aP aQ aR aS aT aU aV aW aX aY aZ a2 a3 a4 a5 a6 a7 a8 a9 ba bb bc bd be bf bg:Value) (w':World),Below w.heap.size w w'→Q (.exit 6) ⟨(seg (seg (seg (seg lfr 18 [aa]) 51 [ab]) 53 [ac,ad,ae,af,ag,ah,ai]) 261 [aj,ak,al,am,ao,ap,aq,ar,au,av,aw,ax,ay,az,aA,aB,aC,aD,aE,aF,aG,aH,aI,aJ,aK,aL,aM,aN,aO,aP,aQ,aR,aS,aT,aU,aV,aW,aX,aY,aZ,a2,a3,a4,a5,a6,a7,a8,a9,ba,bb,bc,bd,be,bf,bg]).toArray,[]⟩ w') (hL:frn 424 lfr) (e6:lfr[6]? =some (Value.int .i64 ix)) (bL:lfr[28]? =some (Value.int .i64 (m:Int))) (bM:lfr[39]? =some (Value.pointer (some ⟨X,0,none⟩))) (bN:lfr[45]? =some (Value.int .i64 M)) (bC:lfr[259]? =some (Value.slice (some ⟨SP,0,none⟩) NP NP)) (bD:lfr[260]? =some (Value.int .i64 NP)) (bE:lfr[261]? =some (Value.int .i64 0)):
  Code.wp Tryz.prog zDt Q ⟨lfr.toArray,[]⟩ w:=by
 revert hK e6 bL bM bN bC bD bE
 apply Ed hL;iterate 424 intro _
 intro hK e6 bL bM bN bC bD bE;simp only[List.getElem?_cons_succ,List.getElem?_cons_zero,Option.some.injEq] at e6 bL bM bN bC bD bE;simp (maxSteps:=9000000) only[Do,Dp,Dq] at hK;subst e6 bL bM bN bC bD bE;have HK:=Zk hK;have HX:=Zk hX;have HT:=Zk hT;clear hK hX hT;conv=>arg 2;whnf
 go_loopw [261] (fun iv wr=>∃k:Nat,k≤NP∧iv= .int .i64 k∧Below w.heap.size w wr) (fun iv _=>NP- (intOf iv).toNat)
 case atStart=>exact⟨0,Nat.zero_le _,rfl,Zb _ _⟩
 case round=>
  obtain⟨k,hk,rfl,bH⟩:=hrel;have bK:=Zk bH;have HXV:Hid (X<wr.heap.size):=Zk (Nat.lt_of_lt_of_le hXw bH.size);have wk:IntKind.i64.wrap ((k:Int)+1)=(k:Int)+1:=by exact Zi _ (by omega)
  clear bH;by_cases hk3:k<NP
  ·have dk:decide ((k:Int)<(NP:Int))=true:=Ze (by omega);have cF:decide (k<NP)=true:=Ze hk3;have z0:=Int.natCast_nonneg k;have z1:(k:Int)<(NP:Int):=by omega
   obtain⟨AQ,nQ,cQ,an,l,ht⟩:=HT.out k hk3;have cC:=Zk ht;obtain⟨y0,y1,_⟩:=ht wr bK.out;clear ht;obtain⟨TB,bU⟩:∃TB,TB=wr.heap.size:=⟨_,rfl⟩;obtain⟨wx,bO⟩:∃wx:World,wx=wr.alloc (.cells #[.slice AQ nQ cQ,.int .i64 an] 45):=⟨_,rfl⟩;have bR:Hid (wr.alloc (.cells #[.slice AQ nQ cQ,.int .i64 an] 45)=wx):=bO.symm;have bQ:Hid (Below wr.heap.size wr wx):=Zk (by rw[bO];exact (Zb _ wr).alloc (Zl _) _);have bB:Hid (wx.heap[TB]? =some (.cells #[.slice AQ nQ cQ,.int .i64 an] 45 (0,0))):=Zk (by show _=_;rw[bO,bU];exact Zh wr _);have cB:Hid (∀W,Below wx.heap.size wx W→W.cell? ⟨TB,0,none⟩=some (.slice AQ nQ cQ)∧W.cell? ⟨TB,1,none⟩=some (.int .i64 an)):=Zk (fun W hg=>by
    have bJ:=(hg.block TB (Ae bB.out)).trans bB.out;exact⟨Zc W TB 0 _ _ _ bJ,Zc W TB 1 _ _ _ bJ⟩)
   have bV:Hid (Below w.heap.size w wx):=Zk (bK.out.trans (bQ.out.mono bK.out.size));go_upto_region 37 with fail
   rw[bR.out,←bU];clear bO bU;clear y0 y1;go_wp2_with fail;(with_reducible refine (Lh ix (m:Int) wx (by omega) (by omega)).mono ?_)
   rintro e wz ⟨rfl,rfl⟩;obtain⟨ii,bW⟩:∃ii,ii=ix%(m:Int):=⟨_,rfl⟩;rw[←bW];clear bW;obtain⟨CB,bT⟩:∃CB,CB=wx.heap.size:=⟨_,rfl⟩;obtain⟨wy,bP⟩:∃wy:World,wy=wx.alloc (.cells #[.int .i64 ix,.int .i64 ii] 3):=⟨_,rfl⟩;have bS:Hid (wx.alloc (.cells #[.int .i64 ix,.int .i64 ii] 3)=wy):=bP.symm;have bF:Hid (Below wx.heap.size wx wy):=Zk (by rw[bP];exact (Zb _ wx).alloc (Zl _) _);have bA:Hid (wy.heap[CB]? =some (.cells #[.int .i64 ix,.int .i64 ii] 3 (0,0))):=Zk (by show _=_;rw[bP,bT];exact Zh wx _);have bZ:Hid (∀W,Below wy.heap.size wy W→W.cell? ⟨CB,0,none⟩=some (.int .i64 ix)∧W.cell? ⟨CB,1,none⟩=some (.int .i64 ii)):=Zk (fun W hg=>by
    have bI:=(hg.block CB (Ae bA.out)).trans bA.out;exact⟨Zc W CB 0 _ _ _ bI,Zc W CB 1 _ _ _ bI⟩)
   have bG:Hid (Below w.heap.size w wy):=Zk (bV.out.trans (bF.out.mono bV.out.size));have cE:Hid (∀W,Below wy.heap.size wy W→W.cell? ⟨X,0,none⟩=some (.int .i64 P)∧W.cell? ⟨X,1,none⟩=some (.int .i64 n)∧W.cell? ⟨X,2,none⟩=some (.int .i64 t)∧W.cell? ⟨X,3,none⟩=some (.int .i64 G)):=Zk (fun W hb=>HX.out W (bG.out.trans (hb.mono bG.out.size)))
   have cA:Hid (∀W,Below wy.heap.size wy W→∀k,k<2→∃y,W.cell? ⟨CB,k,none⟩=some (.int .i64 y)):=Zk (fun W hb k hk=>by
    obtain⟨a0,a1⟩:=bZ.out W hb;have h3:k=0∨k=1:=by omega
    rcases h3 with rfl|rfl
    ·exact⟨_,a0⟩
    ·exact⟨_,a1⟩)
   have cD:Hid (∀W,Below wy.heap.size wy W→W.cell? ⟨TB,0,none⟩=some (.slice AQ nQ cQ)∧W.cell? ⟨TB,1,none⟩=some (.int .i64 an)∧SI W (.slice AQ nQ cQ) l):=Zk (fun W hb=>by
    obtain⟨a0,a1⟩:=cB.out W (bF.out.trans (hb.mono bF.out.size));exact⟨a0,a1,(cC.out W (bG.out.trans (hb.mono bG.out.size))).2.2⟩)
   go_upto_region 38 with fail
   rw[bS.out,←bT];clear bP bT;refine zGz X TB CB 2 nQ cQ P n t G M an AQ l wy (by omega) hP hM (Nat.lt_of_lt_of_le hXw bG.out.size) cE.out cD.out cA.out ?_ (Fd (by rfl)) (by rfl) (by rfl) (by rfl) (by rfl) (by rfl) (by rfl);simp (maxSteps:=9000000) only[Do,Dp,Dq];rintro aa ac ad ae af ag ah ai aw ax ay az aA aB aC aD aE aF aG aH aI aJ aK aL aM aN aO aP aQ aR aS aT aU aV aW aX aY aZ a2 a3 a4 a5 a6 a7 a8 a9 ba bb bc bd be bf wz bX;have bY:Hid (Below w.heap.size w wz):=Zk (bG.out.trans (bX.mono bG.out.size));clear bX;go_wp2_with fail;go_roundw
   case rel=>exact⟨k+1,by omega,by go_num,bY.out⟩
   case measure=>simp[intOf];omega
  ·have dk:decide ((k:Int)<(NP:Int))=false:=Zd (by omega);have cF:decide (k<NP)=false:=Zd hk3;go_wp2_with fail;exact HK.out _ _ _ _ _ _ _ _ _ _ _ _ _ _ _ _ _ _ _ _ _ _ _ _ _ _ _ _ _ _ _ _ _ _ _ _ _ _ _ _ _ _ _ _ _ _ _ _ _ _ _ _ _ _ _ _ _ _ _ _ _ _ _ _ wr bK.out
noncomputable def zDs:Code:=((Tryz.f7.body.bind (Dy 28)).getD .skip)
theorem zGx(X SP NP m F Z nT cT nO cO:Nat)(P n t G ix an bn:Int)(AT AO:Option Addr)(lT lO:List Int)(w:World)(hnp:NP≤100)(hP:At P)(hm1:1≤m)(hm2:m≤65521)(hXw:X<w.heap.size)(hX:∀W,Below w.heap.size w W→W.cell? ⟨X,0,none⟩=some (.int .i64 P)∧W.cell? ⟨X,1,none⟩=some (.int .i64 n)∧W.cell? ⟨X,2,none⟩=some (.int .i64 t)∧W.cell? ⟨X,3,none⟩=some (.int .i64 G))(hT:∀W,Below w.heap.size w W→W.cell? ⟨F,0,none⟩=some (.slice AT nT cT)∧W.cell? ⟨F,1,none⟩=some (.int .i64 an)∧W.cell? ⟨Z,0,none⟩=some (.slice AO nO cO)∧W.cell? ⟨Z,1,none⟩=some (.int .i64 bn)∧SI W (.slice AT nT cT) lT∧SI W (.slice AO nO cO) lO)(hY:∀k,k<NP→∃y,At y∧∀W,Below w.heap.size w W→W.cell? ⟨SP,k,none⟩=some (.int .i64 y)){lfr:List Value}{Q:Exit→Act→World→Prop}
  (hK:∀(aa ab ac ad ae af ag ah ai aj ak al am ao ap aq ar au av aw ax ay az aA aB aC aD aE aF aG aH aI aJ aK aL aM aN aO aP aQ aR aS aT aU aV aW aX aY aZ a0 a1 a2 a3 a4 a5 a6 a7 a8 a9 ba bb bc bd be bf bg bh bi bj bk bl bm bo bp bq br bs bt bu bv bw bx bz bA bB bC bD bE bF bG bH bI bJ bK bL bM bN bO bP bQ bR bS bT bU bV:Value) (w':World),Below w.heap.size w w'→Q (.exit 4) ⟨(seg (seg (seg (seg (seg lfr 18 [aa]) 45 [ab,ac,ad,ae,af]) 51 [ag]) 53 [ah,ai,aj,ak,al,am,ao]) 226 [ap,aq,ar,au,av,aw,ax,ay,az,aA,aB,aC,aD,aE,aF,aG,aH,aI,aJ,aK,aL,aM,aN,aO,aP,aQ,aR,aS,aT,aU,aV,aW,aX,aY,aZ,a0,a1,a2,a3,a4,a5,a6,a7,a8,a9,ba,bb,bc,bd,be,bf,bg,bh,bi,bj,bk,bl,bm,bo,bp,bq,br,bs,bt,bu,bv,bw,bx,bz,bA,bB,bC,bD,bE,bF,bG,bH,bI,bJ,bK,bL,bM,bN,bO,bP,bQ,bR,bS,bT,bU,bV]).toArray,[]⟩ w') (hL:frn 424 lfr) (e6:lfr[6]? =some (Value.int .i64 ix)) (cG:lfr[12]? =some (Value.pointer (some ⟨F,0,none⟩))) (cH:lfr[28]? =some (Value.int .i64 (m:Int))) (cI:lfr[32]? =some (Value.pointer (some ⟨Z,0,none⟩))) (cJ:lfr[39]? =some (Value.pointer (some ⟨X,0,none⟩))) (bY:lfr[224]? =some (Value.slice (some ⟨SP,0,none⟩) NP NP)) (bZ:lfr[225]? =some (Value.int .i64 NP)) (cA:lfr[226]? =some (Value.int .i64 0)):
  Code.wp Tryz.prog zDs Q ⟨lfr.toArray,[]⟩ w:=by
 revert hK e6 cG cH cI cJ bY bZ cA
 apply Ed hL;iterate 424 intro _
 intro hK e6 cG cH cI cJ bY bZ cA;simp only[List.getElem?_cons_succ,List.getElem?_cons_zero,Option.some.injEq] at e6 cG cH cI cJ bY bZ cA;simp (maxSteps:=9000000) only[Do,Dp,Dq] at hK;subst e6 cG cH cI cJ bY bZ cA;have HK:=Zk hK;have HX:=Zk hX;have HT:=Zk hT;have HY:=Zk hY;clear hK hX hT hY;conv=>arg 2;whnf
 go_loopw [226] (fun iv wr=>∃k:Nat,k≤NP∧iv= .int .i64 k∧Below w.heap.size w wr) (fun iv _=>NP- (intOf iv).toNat)
 case atStart=>exact⟨0,Nat.zero_le _,rfl,Zb _ _⟩
 case round=>
  obtain⟨k,hk,rfl,cC⟩:=hrel;have cD:=Zk cC;have HXV:Hid (X<wr.heap.size):=Zk (Nat.lt_of_lt_of_le hXw cC.size);have wk:IntKind.i64.wrap ((k:Int)+1)=(k:Int)+1:=by exact Zi _ (by omega)
  clear cC;by_cases hk3:k<NP
  ·have dk:decide ((k:Int)<(NP:Int))=true:=Ze (by omega);have dI:decide (k<NP)=true:=Ze hk3;have z0:=Int.natCast_nonneg k;have z1:(k:Int)<(NP:Int):=by omega
   obtain⟨M,hM,hy⟩:=HY.out k hk3;have y0:=hy wr cD.out;obtain⟨x0,x1,x2,x3⟩:=HX.out wr cD.out;clear hy;go_wp2_with fail;(with_reducible refine (Ql P n t G M wr hP).mono ?_)
   rintro e w2 cE;obtain⟨A1,n1,c1,rfl,cX,dA⟩:=Vp.sum hP cE;have dE:=Zk dA;have cM:Hid (Below w.heap.size w w2):=Zk (cD.out.trans (cX.mono cD.out.size));obtain⟨er,cU⟩:∃er,er=g2E P n t G M:=⟨_,rfl⟩;rw[←cU];have dD:=Zk cU;obtain⟨x0,x1,x2,x3⟩:=HX.out w2 cM.out;clear cX y0 cU dA cE;go_wp2_with fail;(with_reducible refine (Gq P n t G M w2 hP).mono ?_)
   rintro e w3 cE;obtain⟨A2,n2,c2,rfl,cV,dB⟩:=Vp.sum hP cE;have dF:=Zk dB;have cP:=Zk (dE.out.below cV);have cW:Hid (Below w.heap.size w w3):=Zk (cM.out.trans (cV.mono cM.out.size));rw[←dD.out];clear cV x0 x1 x2 x3 dB cE;go_wp2_with fail;(with_reducible refine (Ie (Sl P n t G M) (Sl P n t G M) _ _ w3 cP.out dF.out).mono ?_)
   rintro e w4 ⟨rfl,cY⟩;have cN:Hid (Below w.heap.size w w4):=Zk (cW.out.trans (cY.mono cW.out.size));rw[show (decide (Sl P n t G M=Sl P n t G M))=true from by simp];clear cY;obtain⟨t0,t1,t2,t3,_,_⟩:=HT.out w4 cN.out;obtain⟨TS,cS⟩:∃TS,TS=w4.heap.size:=⟨_,rfl⟩;obtain⟨w5,cK⟩:∃w5:World,w5=w4.alloc (.cells #[.slice AT nT cT,.int .i64 an,.slice AO nO cO,.int .i64 bn] 45):=⟨_,rfl⟩;have cR:Hid (w4.alloc (.cells #[.slice AT nT cT,.int .i64 an,.slice AO nO cO,.int .i64 bn] 45)=w5):=cK.symm;have cL:Hid (Below w4.heap.size w4 w5):=Zk (by rw[cK];exact (Zb _ w4).alloc (Zl _) _);have bW:Hid (w5.heap[TS]? =some (.cells #[.slice AT nT cT,.int .i64 an,.slice AO nO cO,.int .i64 bn] 45 (0,0))):=Zk (by show _=_;rw[cK,cS];exact Zh w4 _);have cF:Hid (∀W,Below w5.heap.size w5 W→W.cell? ⟨TS,0,none⟩=some (.slice AT nT cT)∧W.cell? ⟨TS,1,none⟩=some (.int .i64 an)∧W.cell? ⟨TS,2,none⟩=some (.slice AO nO cO)∧W.cell? ⟨TS,3,none⟩=some (.int .i64 bn)):=Zk (fun W hg=>by
    have cB:=(hg.block TS (Ae bW.out)).trans bW.out;exact⟨Zc W TS 0 _ _ _ cB,Zc W TS 1 _ _ _ cB,Zc W TS 2 _ _ _ cB,Zc W TS 3 _ _ _ cB⟩)
   have bX:Hid (Below w.heap.size w w5):=Zk (cN.out.trans (cL.out.mono cN.out.size));have dH:Hid (∀W,Below w5.heap.size w5 W→W.cell? ⟨X,0,none⟩=some (.int .i64 P)∧W.cell? ⟨X,1,none⟩=some (.int .i64 n)∧W.cell? ⟨X,2,none⟩=some (.int .i64 t)∧W.cell? ⟨X,3,none⟩=some (.int .i64 G)):=Zk (fun W hb=>HX.out W (bX.out.trans (hb.mono bX.out.size)))
   have dG:Hid (∀k,k<2→∃AQ nQ cQ an l,∀W,Below w5.heap.size w5 W→W.cell? ⟨TS,k*2,none⟩=some (.slice AQ nQ cQ)∧W.cell? ⟨TS,k*2+1,none⟩=some (.int .i64 an)∧SI W (.slice AQ nQ cQ) l):=Zk (fun k hk=>by
    have h3:k=0∨k=1:=by omega
    rcases h3 with rfl|rfl
    ·exact⟨AT,nT,cT,an,lT,fun W hb=>⟨(cF.out W hb).1,(cF.out W hb).2.1,(HT.out W (bX.out.trans (hb.mono bX.out.size))).2.2.2.2.1⟩⟩
    ·exact⟨AO,nO,cO,bn,lO,fun W hb=>⟨(cF.out W hb).2.2.1,(cF.out W hb).2.2.2,(HT.out W (bX.out.trans (hb.mono bX.out.size))).2.2.2.2.2⟩⟩)
   go_upto_region 35 with fail
   rw[cR.out,←cS];clear cK cS;clear t0 t1 t2 t3;go_wp2_with fail;refine zGy X TS 2 m P n t G M ix w5 (by omega) hP hM hm1 hm2 (Nat.lt_of_lt_of_le hXw bX.out.size) dH.out dG.out ?_ (Fd (by rfl)) (by rfl) (by rfl) (by rfl) (by rfl) (by rfl) (by rfl) (by rfl);simp (maxSteps:=9000000) only[Do,Dp,Dq];rintro aa ag ah ai aj ak al am ao a0 a1 a2 a3 a4 a5 a6 a7 a8 a9 ba bb bc bd be bf bg bh bi bj bk bl bm bo bp bq br bs bt bu bv bw bx bz bA bB bC bD bE bF bG bH bI bJ bK bL bM bN bO bP bQ bR bS bT bU wz cZ;have dC:Hid (Below w.heap.size w wz):=Zk (bX.out.trans (cZ.mono bX.out.size));clear cZ;go_wp2_with fail;go_roundw
   case rel=>exact⟨k+1,by omega,by go_num,dC.out⟩
   case measure=>simp[intOf];omega
  ·have dk:decide ((k:Int)<(NP:Int))=false:=Zd (by omega);have dI:decide (k<NP)=false:=Zd hk3;go_wp2_with fail;exact HK.out _ _ _ _ _ _ _ _ _ _ _ _ _ _ _ _ _ _ _ _ _ _ _ _ _ _ _ _ _ _ _ _ _ _ _ _ _ _ _ _ _ _ _ _ _ _ _ _ _ _ _ _ _ _ _ _ _ _ _ _ _ _ _ _ _ _ _ _ _ _ _ _ _ _ _ _ _ _ _ _ _ _ _ _ _ _ _ _ _ _ _ _ _ _ _ _ _ _ _ _ _ _ _ _ _ wr cD.out
noncomputable def zDx:Code:=((Tryz.f7.body.bind (Dy 54)).getD .skip)
theorem zHc(X SP NP nR cR:Nat)(P n t G wi:Int)(AR:Option Addr)(rs:List (List Int))(w:World)(hnp:NP≤100)(hP:At P)(hXw:X<w.heap.size)(hX:∀W,Below w.heap.size w W→W.cell? ⟨X,0,none⟩=some (.int .i64 P)∧W.cell? ⟨X,1,none⟩=some (.int .i64 n)∧W.cell? ⟨X,2,none⟩=some (.int .i64 t)∧W.cell? ⟨X,3,none⟩=some (.int .i64 G))(hS:∀W,Below w.heap.size w W→SL W (.slice AR nR cR) rs)(hY:∀W,Below w.heap.size w W→∀k,k<NP→∃y,W.cell? ⟨SP,k,none⟩=some (.int .i64 y)){lfr:List Value}{Q:Exit→Act→World→Prop}
  (hK:∀(aa ab ac ad ae af ag ah ai aj ak al am an ao ap aq ar au av aw ax ay az aA aB aC aD aE aF aG aH aI aJ aK aL aM aN aO aP aQ aR:Value) (w':World),Below w.heap.size w w'→Q (.exit 14) ⟨(seg (seg (seg lfr 18 [aa]) 65 [ab,ac,ad,ae,af]) 339 [ag,ah,ai,aj,ak,al,am,an,ao,ap,aq,ar,au,av,aw,ax,ay,az,aA,aB,aC,aD,aE,aF,aG,aH,aI,aJ,aK,aL,aM,aN,aO,aP,aQ,aR]).toArray,[]⟩ w') (hL:frn 424 lfr) (aY:lfr[39]? =some (Value.pointer (some ⟨X,0,none⟩))) (aZ:lfr[61]? =some (Value.int .i64 wi)) (bA:lfr[63]? =some (Value.slice AR nR cR)) (aS:lfr[337]? =some (Value.slice (some ⟨SP,0,none⟩) NP NP)) (aT:lfr[338]? =some (Value.int .i64 NP)) (aU:lfr[339]? =some (Value.int .i64 0)):
  Code.wp Tryz.prog zDx Q ⟨lfr.toArray,[]⟩ w:=by
 revert hK aY aZ bA aS aT aU
 apply Ed hL;iterate 424 intro _
 intro hK aY aZ bA aS aT aU;simp only[List.getElem?_cons_succ,List.getElem?_cons_zero,Option.some.injEq] at aY aZ bA aS aT aU;simp (maxSteps:=9000000) only[Do,Dp,Dq] at hK;subst aY aZ bA aS aT aU;have HK:=Zk hK;have HX:=Zk hX;have HS:=Zk hS;have HY:=Zk hY;clear hK hX hS hY;conv=>arg 2;whnf
 go_loopw [339] (fun iv wr=>∃k:Nat,k≤NP∧iv= .int .i64 k∧Below w.heap.size w wr) (fun iv _=>NP- (intOf iv).toNat)
 case atStart=>exact⟨0,Nat.zero_le _,rfl,Zb _ _⟩
 case round=>
  obtain⟨k,hk,rfl,aV⟩:=hrel;have aW:=Zk aV;have bN:Hid (X<wr.heap.size):=Zk (Nat.lt_of_lt_of_le hXw aV.size);have wk:IntKind.i64.wrap ((k:Int)+1)=(k:Int)+1:=by exact Zi _ (by omega)
  clear aV;by_cases hk3:k<NP
  ·have dk:decide ((k:Int)<(NP:Int))=true:=Ze (by omega);have bO:decide (k<NP)=true:=Ze hk3;have z0:=Int.natCast_nonneg k;have z1:(k:Int)<(NP:Int):=by omega
   obtain⟨y,y0⟩:=HY.out wr aW.out k hk3;obtain⟨x0,x1,x2,x3⟩:=HX.out wr aW.out;go_wp2_with fail;(with_reducible refine (Wc X P n t G wi rs y _ wr hP (HS.out wr aW.out) bN.out).mono ?_)
   rintro e w2 hh;obtain⟨v1,rfl,bF,bH⟩:=Pn.sum hh;have bL:=Zk bH;have aX:Hid (Below w.heap.size w w2):=Zk (aW.out.trans (bF.mono aW.out.size));obtain⟨er,bC⟩:∃er,er=ghE P n t G wi rs y:=⟨_,rfl⟩;rw[←bC];have bK:=Zk bC;clear bF y0 bC bH hh x0 x1 x2 x3;obtain⟨x0,x1,x2,x3⟩:=HX.out w2 aX.out;go_wp2_with fail;(with_reducible refine (Tj X P n t G wi rs y _ w2 hP (HS.out w2 aX.out) (Nat.lt_of_lt_of_le hXw aX.out.size)).mono ?_)
   rintro e w3 hh;obtain⟨v2,rfl,bD,bI⟩:=Pn.sum hh;have bM:=Zk bI;have bB:=Zk (bL.out.below bD);have bE:Hid (Below w.heap.size w w3):=Zk (aX.out.trans (bD.mono aX.out.size));rw[←bK.out];clear bD x0 x1 x2 x3 bI hh;go_wp2_with fail;(with_reducible refine (Fa _ _ _ _ w3 bB.out bM.out).mono ?_)
   rintro e wz ⟨rfl,bG⟩;have bJ:Hid (Below w.heap.size w wz):=Zk (bE.out.trans (bG.mono bE.out.size));rw[show (decide (ghL P n t G wi rs y=ghL P n t G wi rs y))=true from by simp];clear bG;go_wp2_with fail;go_roundw
   case rel=>exact⟨k+1,by omega,by go_num,bJ.out⟩
   case measure=>simp[intOf];omega
  ·have dk:decide ((k:Int)<(NP:Int))=false:=Zd (by omega);have bO:decide (k<NP)=false:=Zd hk3;go_wp2_with fail;exact HK.out _ _ _ _ _ _ _ _ _ _ _ _ _ _ _ _ _ _ _ _ _ _ _ _ _ _ _ _ _ _ _ _ _ _ _ _ _ _ _ _ _ _ wr aW.out
noncomputable def zDw:Code:=((Tryz.f7.body.bind (Dy 51)).getD .skip)
theorem zHb(X SP NP:Nat)(P n t G ix wi:Int)(w:World)(hnp:NP≤100)(hP:At P)(hXw:X<w.heap.size)(hX:∀W,Below w.heap.size w W→W.cell? ⟨X,0,none⟩=some (.int .i64 P)∧W.cell? ⟨X,1,none⟩=some (.int .i64 n)∧W.cell? ⟨X,2,none⟩=some (.int .i64 t)∧W.cell? ⟨X,3,none⟩=some (.int .i64 G))(hY:∀k,k<NP→∃AR nR cR rs,∀W,Below w.heap.size w W→W.cell? ⟨SP,k,none⟩=some (.slice AR nR cR)∧SL W (.slice AR nR cR) rs){lfr:List Value}{Q:Exit→Act→World→Prop}
  (hK:∀(aa ab ac ad ae af ag ah ai aj ak al am an ao ap aq ar au av aw ax ay az aA aB aC aD aE aF aG aH aI aJ aK aL aM aN aO aP aQ aR aS aT aU aV aW aX aY aZ a2 a3 a4 a5:Value) (w':World),Below w.heap.size w w'→Q (.exit 12) ⟨(seg (seg (seg (seg lfr 18 [aa]) 63 [ab]) 65 [ac,ad,ae,af,ag]) 329 [ah,ai,aj,ak,al,am,an,ao,ap,aq,ar,au,av,aw,ax,ay,az,aA,aB,aC,aD,aE,aF,aG,aH,aI,aJ,aK,aL,aM,aN,aO,aP,aQ,aR,aS,aT,aU,aV,aW,aX,aY,aZ,a2,a3,a4,a5]).toArray,[]⟩ w') (hL:frn 424 lfr) (e6:lfr[6]? =some (Value.int .i64 ix)) (bI:lfr[39]? =some (Value.pointer (some ⟨X,0,none⟩))) (bJ:lfr[61]? =some (Value.int .i64 wi)) (bB:lfr[327]? =some (Value.slice (some ⟨SP,0,none⟩) NP NP)) (bC:lfr[328]? =some (Value.int .i64 NP)) (bD:lfr[329]? =some (Value.int .i64 0)):
  Code.wp Tryz.prog zDw Q ⟨lfr.toArray,[]⟩ w:=by
 revert hK e6 bI bJ bB bC bD
 apply Ed hL;iterate 424 intro _
 intro hK e6 bI bJ bB bC bD;simp only[List.getElem?_cons_succ,List.getElem?_cons_zero,Option.some.injEq] at e6 bI bJ bB bC bD;simp (maxSteps:=9000000) only[Do,Dp,Dq] at hK;subst e6 bI bJ bB bC bD;have HK:=Zk hK;have HX:=Zk hX;have HY:=Zk hY;clear hK hX hY;conv=>arg 2;whnf
 go_loopw [329] (fun iv wr=>∃k:Nat,k≤NP∧iv= .int .i64 k∧Below w.heap.size w wr) (fun iv _=>NP- (intOf iv).toNat)
 case atStart=>exact⟨0,Nat.zero_le _,rfl,Zb _ _⟩
 case round=>
  obtain⟨k,hk,rfl,bF⟩:=hrel;have bH:=Zk bF;have HXV:Hid (X<wr.heap.size):=Zk (Nat.lt_of_lt_of_le hXw bF.size);have wk:IntKind.i64.wrap ((k:Int)+1)=(k:Int)+1:=by exact Zi _ (by omega)
  clear bF;by_cases hk3:k<NP
  ·have dk:decide ((k:Int)<(NP:Int))=true:=Ze (by omega);have bW:decide (k<NP)=true:=Ze hk3;have z0:=Int.natCast_nonneg k;have z1:(k:Int)<(NP:Int):=by omega
   obtain⟨AR,nR,cR,rs,hy⟩:=HY.out k hk3;have bV:=Zk hy;have y0:=(hy wr bH.out).1;clear hy;go_wp2_with fail;(with_reducible refine (Lh ix 8 wr (by omega) (by omega)).mono ?_)
   rintro e wz ⟨rfl,rfl⟩;have bQ:0≤ix%8∧ix%8<8:=⟨Int.emod_nonneg _ (by omega),Int.emod_lt_of_pos _ (by omega)⟩;obtain⟨ii,bO⟩:∃ii,ii=ix%8:=⟨_,rfl⟩;rw[←bO] at bQ⊢;have mi:IntKind.i64.wrap (1+ii)=1+ii:=by exact Zi _ (by omega)
   clear bO y0;obtain⟨CB,bN⟩:∃CB,CB=wr.heap.size:=⟨_,rfl⟩;obtain⟨wy,bK⟩:∃wy:World,wy=wr.alloc (.cells #[.int .i64 ix,.int .i64 (1+ii)] 3):=⟨_,rfl⟩;have bM:Hid (wr.alloc (.cells #[.int .i64 ix,.int .i64 (1+ii)] 3)=wy):=bK.symm;have bL:Hid (Below wr.heap.size wr wy):=Zk (by rw[bK];exact (Zb _ wr).alloc (Zl _) _);have bA:Hid (wy.heap[CB]? =some (.cells #[.int .i64 ix,.int .i64 (1+ii)] 3 (0,0))):=Zk (by show _=_;rw[bK,bN];exact Zh wr _);have bS:Hid (∀W,Below wy.heap.size wy W→W.cell? ⟨CB,0,none⟩=some (.int .i64 ix)∧W.cell? ⟨CB,1,none⟩=some (.int .i64 (1+ii))):=Zk (fun W hg=>by
    have bG:=(hg.block CB (Ae bA.out)).trans bA.out;exact⟨Zc W CB 0 _ _ _ bG,Zc W CB 1 _ _ _ bG⟩)
   have bE:Hid (Below w.heap.size w wy):=Zk (bH.out.trans (bL.out.mono bH.out.size));have bU:Hid (∀W,Below wy.heap.size wy W→W.cell? ⟨X,0,none⟩=some (.int .i64 P)∧W.cell? ⟨X,1,none⟩=some (.int .i64 n)∧W.cell? ⟨X,2,none⟩=some (.int .i64 t)∧W.cell? ⟨X,3,none⟩=some (.int .i64 G)):=Zk (fun W hb=>HX.out W (bE.out.trans (hb.mono bE.out.size)))
   have bT:Hid (∀W,Below wy.heap.size wy W→∀k,k<2→∃y,W.cell? ⟨CB,k,none⟩=some (.int .i64 y)):=Zk (fun W hb k hk=>by
    obtain⟨a0,a1⟩:=bS.out W hb;have h3:k=0∨k=1:=by omega
    rcases h3 with rfl|rfl
    ·exact⟨_,a0⟩
    ·exact⟨_,a1⟩)
   go_upto_region 54 with fail
   rw[bM.out,←bN];clear bK bN;clear mi bQ;refine zHc X CB 2 nR cR P n t G wi AR rs wy (by omega) hP (Nat.lt_of_lt_of_le hXw bE.out.size) bU.out (fun W hb=>(bV.out W (bE.out.trans (hb.mono bE.out.size))).2) bT.out ?_ (Fd (by rfl)) (by rfl) (by rfl) (by rfl) (by rfl) (by rfl) (by rfl)
   simp (maxSteps:=9000000) only[Do,Dp,Dq];rintro aa ac ad ae af ag ar au av aw ax ay az aA aB aC aD aE aF aG aH aI aJ aK aL aM aN aO aP aQ aR aS aT aU aV aW aX aY aZ a2 a3 a4 wz bP;have bR:Hid (Below w.heap.size w wz):=Zk (bE.out.trans (bP.mono bE.out.size));clear bP;go_wp2_with fail;go_roundw
   case rel=>exact⟨k+1,by omega,by go_num,bR.out⟩
   case measure=>simp[intOf];omega
  ·have dk:decide ((k:Int)<(NP:Int))=false:=Zd (by omega);have bW:decide (k<NP)=false:=Zd hk3;go_wp2_with fail;exact HK.out _ _ _ _ _ _ _ _ _ _ _ _ _ _ _ _ _ _ _ _ _ _ _ _ _ _ _ _ _ _ _ _ _ _ _ _ _ _ _ _ _ _ _ _ _ _ _ _ _ _ _ _ _ _ wr bH.out
noncomputable def zDy:Code:=((Tryz.f7.body.bind (Dy 63)).getD .skip)
theorem zHd(X SP NP:Nat)(P n t G wi:Int)(w:World)(hnp:NP≤100)(hP:At P)(hE:∀W,Below w.heap.size w W→EW W)(hXw:X<w.heap.size)(hX:∀W,Below w.heap.size w W→W.cell? ⟨X,0,none⟩=some (.int .i64 P)∧W.cell? ⟨X,1,none⟩=some (.int .i64 n)∧W.cell? ⟨X,2,none⟩=some (.int .i64 t)∧W.cell? ⟨X,3,none⟩=some (.int .i64 G))(hY:∀k,k<NP→∃AA nA cA la,∀W,Below w.heap.size w W→W.cell? ⟨SP,k,none⟩=some (.slice AA nA cA)∧SAn W (.slice AA nA cA) la){lfr:List Value}{Q:Exit→Act→World→Prop}
  (hK:∀(aa ab ac ad ae af ag ah ai aj ak al am an ao ap aq ar au av aw ax ay az aA aB aC aD aE aF aG aH aI aJ aK aL aM aN aO aP aQ aR aS aT aU aV aW aX aY aZ:Value) (w':World),Below w.heap.size w w'→Q (.exit 16) ⟨(seg (seg (seg lfr 18 [aa]) 71 [ab,ac,ad,ae,af,ag,ah]) 380 [ai,aj,ak,al,am,an,ao,ap,aq,ar,au,av,aw,ax,ay,az,aA,aB,aC,aD,aE,aF,aG,aH,aI,aJ,aK,aL,aM,aN,aO,aP,aQ,aR,aS,aT,aU,aV,aW,aX,aY,aZ]).toArray,[]⟩ w') (hL:frn 424 lfr) (bG:lfr[39]? =some (Value.pointer (some ⟨X,0,none⟩))) (bH:lfr[61]? =some (Value.int .i64 wi)) (bA:lfr[378]? =some (Value.slice (some ⟨SP,0,none⟩) NP NP)) (bB:lfr[379]? =some (Value.int .i64 NP)) (bC:lfr[380]? =some (Value.int .i64 0)):
  Code.wp Tryz.prog zDy Q ⟨lfr.toArray,[]⟩ w:=by
 revert hK bG bH bA bB bC
 apply Ed hL;iterate 424 intro _
 intro hK bG bH bA bB bC;simp only[List.getElem?_cons_succ,List.getElem?_cons_zero,Option.some.injEq] at bG bH bA bB bC;simp (maxSteps:=9000000) only[Do,Dp,Dq] at hK;subst bG bH bA bB bC;have HK:=Zk hK;have HX:=Zk hX;have HE:=Zk hE;have HY:=Zk hY;clear hK hX hE hY;conv=>arg 2;whnf
 go_loopw [380] (fun iv wr=>∃k:Nat,k≤NP∧iv= .int .i64 k∧Below w.heap.size w wr) (fun iv _=>NP- (intOf iv).toNat)
 case atStart=>exact⟨0,Nat.zero_le _,rfl,Zb _ _⟩
 case round=>
  obtain⟨k,hk,rfl,bE⟩:=hrel;have bD:=Zk bE;have cH:Hid (X<wr.heap.size):=Zk (Nat.lt_of_lt_of_le hXw bE.size);have wk:IntKind.i64.wrap ((k:Int)+1)=(k:Int)+1:=by exact Zi _ (by omega)
  clear bE;by_cases hk3:k<NP
  ·have dk:decide ((k:Int)<(NP:Int))=true:=Ze (by omega);have cI:decide (k<NP)=true:=Ze hk3;have z0:=Int.natCast_nonneg k;have z1:(k:Int)<(NP:Int):=by omega
   obtain⟨AA,nA,cA,la,hy⟩:=HY.out k hk3;have bR:=Zk hy;have y0:=(hy wr bD.out).1;obtain⟨x0,x1,x2,x3⟩:=HX.out wr bD.out;clear hy;go_wp2_with fail;(with_reducible refine (Oo X P n t G wi la _ wr hP (bR.out wr bD.out).2 (HE.out wr bD.out) cH.out).mono ?_)
   rintro e w2 ⟨rows,bK,er,v1,v2,rfl,bS,bU,bW,bY⟩;have cC:=Zk bU;have cD:Hid (SL w2 v1 rows):=Zk (bW.sl);have cF:Hid (SI w2 v2 bK):=Zk (bY.si);have bF:Hid (Below w.heap.size w w2):=Zk (bD.out.trans (bS.mono bD.out.size));clear bU bW bY bS y0 x0 x1 x2 x3;obtain⟨x0,x1,x2,x3⟩:=HX.out w2 bF.out;go_wp2_with fail;(with_reducible refine (Oz X P n t G wi la _ w2 hP (bR.out w2 bF.out).2 (Nat.lt_of_lt_of_le hXw bF.out.size)).mono ?_)
   rintro e w3 ⟨rows2,wr2,er2,v3,v4,rfl,bI,bV,bX,bZ⟩;obtain⟨e1,e2,e3⟩:=cC.out.uniq bV;subst e1 e2 e3;have bL:=Zk (cD.out.below bI);have bM:=Zk (cF.out.below bI);have cE:Hid (SL w3 v3 rows):=Zk (bX.sl);have cG:Hid (SI w3 v4 bK):=Zk (bZ.si);have bP:Hid (Below w.heap.size w w3):=Zk (bF.out.trans (bI.mono bF.out.size));clear bV bX bZ bI x0 x1 x2 x3;go_wp2_with fail;(with_reducible refine (Fa _ _ _ _ w3 bL.out cE.out).mono ?_)
   rintro e w4 ⟨rfl,bJ⟩;have bQ:Hid (Below w.heap.size w w4):=Zk (bP.out.trans (bJ.mono bP.out.size));have bN:=Zk (bM.out.below bJ);have bO:=Zk (cG.out.below bJ);rw[show (decide (rows=rows))=true from by simp];clear bJ;go_wp2_with fail;(with_reducible refine (Ie _ _ _ _ w4 bN.out bO.out).mono ?_)
   rintro e wz ⟨rfl,bT⟩;have cB:Hid (Below w.heap.size w wz):=Zk (bQ.out.trans (bT.mono bQ.out.size));rw[show (decide (bK=bK))=true from by simp];clear bT;go_wp2_with fail;go_roundw
   case rel=>exact⟨k+1,by omega,by go_num,cB.out⟩
   case measure=>simp[intOf];omega
  ·have dk:decide ((k:Int)<(NP:Int))=false:=Zd (by omega);have cI:decide (k<NP)=false:=Zd hk3;go_wp2_with fail;exact HK.out _ _ _ _ _ _ _ _ _ _ _ _ _ _ _ _ _ _ _ _ _ _ _ _ _ _ _ _ _ _ _ _ _ _ _ _ _ _ _ _ _ _ _ _ _ _ _ _ _ _ wr bD.out
noncomputable def zDv:Code:=((Tryz.f7.body.bind (Dy 48)).getD .skip)
theorem zHa(X SP NP nA cL nB cM nR cR nW cW:Nat)(P n t G ix:Int)(AL AM AR AW:Option Addr)(lA lB:List (Bool×List Int))(rR rW:List (List Int))(w:World)(hnp:NP≤100)(hP:At P)(hE:∀W,Below w.heap.size w W→EW W)(hXw:X<w.heap.size)(hX:∀W,Below w.heap.size w W→W.cell? ⟨X,0,none⟩=some (.int .i64 P)∧W.cell? ⟨X,1,none⟩=some (.int .i64 n)∧W.cell? ⟨X,2,none⟩=some (.int .i64 t)∧W.cell? ⟨X,3,none⟩=some (.int .i64 G))(hS:∀W,Below w.heap.size w W→SAn W (.slice AL nA cL) lA∧SAn W (.slice AM nB cM) lB∧SL W (.slice AR nR cR) rR∧SL W (.slice AW nW cW) rW)(hY:∀W,Below w.heap.size w W→∀k,k<NP→∃y,W.cell? ⟨SP,k,none⟩=some (.int .i64 y)){lfr:List Value}{Q:Exit→Act→World→Prop}
  (hK:∀(aa ab ac ad ae af ag ah ai aj ak al am an ao ap aq ar au av aw ax ay az aA aB aC aD aE aF aG aH aI aJ aK aL aM aN aO aP aQ aR aS aT aU aV aW aX aY aZ a0 a1 a2 a3 a4 a5 a6 a7 a8 a9 ba bb bc bd be bf bg bh bi bj bk bl bm bn bo bp bq br bs bt bu bv bw bx bz bA bB bC bD bE bF bG bH bI bJ bK bL bM bN bO bP bQ bR bS bT bU bV bW bX bY bZ b0 b1 b2 b3 b4 b5:Value) (w':World),Below w.heap.size w w'→Q (.exit 10) ⟨(seg (seg (seg (seg (seg (seg lfr 18 [aa]) 61 [ab]) 63 [ac]) 65 [ad,ae,af,ag,ah]) 71 [ai,aj,ak,al,am,an,ao]) 321 [ap,aq,ar,au,av,aw,ax,ay,az,aA,aB,aC,aD,aE,aF,aG,aH,aI,aJ,aK,aL,aM,aN,aO,aP,aQ,aR,aS,aT,aU,aV,aW,aX,aY,aZ,a0,a1,a2,a3,a4,a5,a6,a7,a8,a9,ba,bb,bc,bd,be,bf,bg,bh,bi,bj,bk,bl,bm,bn,bo,bp,bq,br,bs,bt,bu,bv,bw,bx,bz,bA,bB,bC,bD,bE,bF,bG,bH,bI,bJ,bK,bL,bM,bN,bO,bP,bQ,bR,bS,bT,bU,bV,bW,bX,bY,bZ,b0,b1,b2,b3,b4,b5]).toArray,[]⟩ w') (hL:frn 424 lfr) (e4:lfr[4]? =some (Value.slice AR nR cR)) (e6:lfr[6]? =some (Value.int .i64 ix)) (e8:lfr[8]? =some (Value.slice AL nA cL)) (cN:lfr[27]? =some (Value.slice AW nW cW)) (cO:lfr[36]? =some (Value.slice AM nB cM)) (cP:lfr[39]? =some (Value.pointer (some ⟨X,0,none⟩))) (cE:lfr[319]? =some (Value.slice (some ⟨SP,0,none⟩) NP NP)) (cF:lfr[320]? =some (Value.int .i64 NP)) (cG:lfr[321]? =some (Value.int .i64 0)):
  Code.wp Tryz.prog zDv Q ⟨lfr.toArray,[]⟩ w:=by
 revert hK e4 e6 e8 cN cO cP cE cF cG
 apply Ed hL;iterate 424 intro _
 intro hK e4 e6 e8 cN cO cP cE cF cG;simp only[List.getElem?_cons_succ,List.getElem?_cons_zero,Option.some.injEq] at e4 e6 e8 cN cO cP cE cF cG;simp (maxSteps:=9000000) only[Do,Dp,Dq] at hK;subst e4 e6 e8 cN cO cP cE cF cG;have HK:=Zk hK;have HX:=Zk hX;have HE:=Zk hE;have HS:=Zk hS;have HY:=Zk hY;clear hK hX hE hS hY;conv=>arg 2;whnf
 go_loopw [321] (fun iv wr=>∃k:Nat,k≤NP∧iv= .int .i64 k∧Below w.heap.size w wr) (fun iv _=>NP- (intOf iv).toNat)
 case atStart=>exact⟨0,Nat.zero_le _,rfl,Zb _ _⟩
 case round=>
  obtain⟨k,hk,rfl,cH⟩:=hrel;have cK:=Zk cH;have HXV:Hid (X<wr.heap.size):=Zk (Nat.lt_of_lt_of_le hXw cH.size);have wk:IntKind.i64.wrap ((k:Int)+1)=(k:Int)+1:=by exact Zi _ (by omega)
  clear cH;by_cases hk3:k<NP
  ·have dk:decide ((k:Int)<(NP:Int))=true:=Ze (by omega);have dG:decide (k<NP)=true:=Ze hk3;have z0:=Int.natCast_nonneg k;have z1:(k:Int)<(NP:Int):=by omega
   obtain⟨wi,y0⟩:=HY.out wr cK.out k hk3;obtain⟨RB,cZ⟩:∃RB,RB=wr.heap.size:=⟨_,rfl⟩;obtain⟨w3,cQ⟩:∃w3:World,w3=wr.alloc (.cells #[.slice AR nR cR,.slice AW nW cW] 33):=⟨_,rfl⟩;have cV:Hid (wr.alloc (.cells #[.slice AR nR cR,.slice AW nW cW] 33)=w3):=cQ.symm;have cT:Hid (Below wr.heap.size wr w3):=Zk (by rw[cQ];exact (Zb _ wr).alloc (Zl _) _);have cC:Hid (w3.heap[RB]? =some (.cells #[.slice AR nR cR,.slice AW nW cW] 33 (0,0))):=Zk (by show _=_;rw[cQ,cZ];exact Zh wr _);have dC:Hid (∀W,Below w3.heap.size w3 W→W.cell? ⟨RB,0,none⟩=some (.slice AR nR cR)∧W.cell? ⟨RB,1,none⟩=some (.slice AW nW cW)):=Zk (fun W hg=>by
    have cJ:=(hg.block RB (Ae cC.out)).trans cC.out;exact⟨Zc W RB 0 _ _ _ cJ,Zc W RB 1 _ _ _ cJ⟩)
   have cD:Hid (Below w.heap.size w w3):=Zk (cK.out.trans (cT.out.mono cK.out.size));go_upto_region 51 with fail
   rw[cV.out,←cZ];clear cQ cZ;clear y0;refine zHb X RB 2 P n t G ix wi w3 (by omega) hP (Nat.lt_of_lt_of_le hXw cD.out.size) (fun W hb=>HX.out W (cD.out.trans (hb.mono cD.out.size))) (fun k hk=>by
    have h3:k=0∨k=1:=by omega
    rcases h3 with rfl|rfl
    ·exact⟨AR,nR,cR,rR,fun W hb=>⟨(dC.out W hb).1,(HS.out W (cD.out.trans (hb.mono cD.out.size))).2.2.1⟩⟩
    ·exact⟨AW,nW,cW,rW,fun W hb=>⟨(dC.out W hb).2,(HS.out W (cD.out.trans (hb.mono cD.out.size))).2.2.2⟩⟩) ?_ (Fd (by rfl)) (by rfl) (by rfl) (by rfl) (by rfl) (by rfl) (by rfl)
   simp (maxSteps:=9000000) only[Do,Dp,Dq];rintro aa ac ad ae af ag ah az aA aB aC aD aE aF aG aH aI aJ aK aL aM aN aO aP aQ aR aS aT aU aV aW aX aY aZ a0 a1 a2 a3 a4 a5 a6 a7 a8 a9 ba bb bc bd be bf bg bh bi bj w4 dD;have dB:Hid (Below w.heap.size w w4):=Zk (cD.out.trans (dD.mono cD.out.size));clear dD;obtain⟨AB,cY⟩:∃AB,AB=w4.heap.size:=⟨_,rfl⟩;obtain⟨w5,cS⟩:∃w5:World,w5=w4.alloc (.cells #[.slice AL nA cL,.slice AM nB cM] 59):=⟨_,rfl⟩;have cX:Hid (w4.alloc (.cells #[.slice AL nA cL,.slice AM nB cM] 59)=w5):=cS.symm;have cU:Hid (Below w4.heap.size w4 w5):=Zk (by rw[cS];exact (Zb _ w4).alloc (Zl _) _);have cA:Hid (w5.heap[AB]? =some (.cells #[.slice AL nA cL,.slice AM nB cM] 59 (0,0))):=Zk (by show _=_;rw[cS,cY];exact Zh w4 _);have dA:Hid (∀W,Below w5.heap.size w5 W→W.cell? ⟨AB,0,none⟩=some (.slice AL nA cL)∧W.cell? ⟨AB,1,none⟩=some (.slice AM nB cM)):=Zk (fun W hg=>by
    have cI:=(hg.block AB (Ae cA.out)).trans cA.out;exact⟨Zc W AB 0 _ _ _ cI,Zc W AB 1 _ _ _ cI⟩)
   have cB:Hid (Below w.heap.size w w5):=Zk (dB.out.trans (cU.out.mono dB.out.size));go_upto_region 63 with fail
   rw[cX.out,←cY];clear cS cY;refine zHd X AB 2 P n t G wi w5 (by omega) hP (fun W hb=>HE.out W (cB.out.trans (hb.mono cB.out.size))) (Nat.lt_of_lt_of_le hXw cB.out.size) (fun W hb=>HX.out W (cB.out.trans (hb.mono cB.out.size))) (fun k hk=>by
    have h3:k=0∨k=1:=by omega
    rcases h3 with rfl|rfl
    ·exact⟨AL,nA,cL,lA,fun W hb=>⟨(dA.out W hb).1,(HS.out W (cB.out.trans (hb.mono cB.out.size))).1⟩⟩
    ·exact⟨AM,nB,cM,lB,fun W hb=>⟨(dA.out W hb).2,(HS.out W (cB.out.trans (hb.mono cB.out.size))).2.1⟩⟩) ?_ (Fd (by rfl)) (by rfl) (by rfl) (by rfl) (by rfl) (by rfl)
   simp (maxSteps:=9000000) only[Do,Dp,Dq];rintro aa ai aj ak al am an ao bo bp bq br bs bt bu bv bw bx bz bA bB bC bD bE bF bG bH bI bJ bK bL bM bN bO bP bQ bR bS bT bU bV bW bX bY bZ b0 b1 b2 b3 b4 wz dE;have dF:Hid (Below w.heap.size w wz):=Zk (cB.out.trans (dE.mono cB.out.size));clear dE;go_wp2_with fail;go_roundw
   case rel=>exact⟨k+1,by omega,by go_num,dF.out⟩
   case measure=>simp[intOf];omega
  ·have dk:decide ((k:Int)<(NP:Int))=false:=Zd (by omega);have dG:decide (k<NP)=false:=Zd hk3;go_wp2_with fail;exact HK.out _ _ _ _ _ _ _ _ _ _ _ _ _ _ _ _ _ _ _ _ _ _ _ _ _ _ _ _ _ _ _ _ _ _ _ _ _ _ _ _ _ _ _ _ _ _ _ _ _ _ _ _ _ _ _ _ _ _ _ _ _ _ _ _ _ _ _ _ _ _ _ _ _ _ _ _ _ _ _ _ _ _ _ _ _ _ _ _ _ _ _ _ _ _ _ _ _ _ _ _ _ _ _ _ _ _ _ _ _ _ _ _ _ _ _ _ _ wr cK.out
open Go.RowKit Go.Shelf
noncomputable def zDr:Code:=((Tryz.f7.body.bind (Dy 21)).getD .skip)
theorem zGw(SP m F Z nT cT nO cO nA cL nB cM nR cR nW cW:Nat)(ct ix wi wd an bn:Int)(AT AO AL AM AR AW:Option Addr)(lT lO:List Int)(lA lB:List (Bool×List Int))(rR rW:List (List Int))(w:World)(hct:At ct)(hm1:1≤m)(hm2:m≤65521)(hE:∀W,Below w.heap.size w W→EW W)(hY:∀k,k<3→∃P n t G:Int,At P∧∀W,Below w.heap.size w W→W.cell? ⟨SP,k*4,none⟩=some (.int .i64 P)∧W.cell? ⟨SP,k*4+1,none⟩=some (.int .i64 n)∧W.cell? ⟨SP,k*4+2,none⟩=some (.int .i64 t)∧W.cell? ⟨SP,k*4+3,none⟩=some (.int .i64 G))(hT:∀W,Below w.heap.size w W→W.cell? ⟨F,0,none⟩=some (.slice AT nT cT)∧W.cell? ⟨F,1,none⟩=some (.int .i64 an)∧W.cell? ⟨Z,0,none⟩=some (.slice AO nO cO)∧W.cell? ⟨Z,1,none⟩=some (.int .i64 bn)∧SI W (.slice AT nT cT) lT∧SI W (.slice AO nO cO) lO)(hS:∀W,Below w.heap.size w W→SAn W (.slice AL nA cL) lA∧SAn W (.slice AM nB cM) lB∧SL W (.slice AR nR cR) rR∧SL W (.slice AW nW cW) rW){lfr:List Value}{Q:Exit→Act→World→Prop}
  (hK:∀(aa ab ac ad ae af ag ah ai aj ak al am ao ap aq ar au av aw ax ay az aA aB aC aD aE aF aG aH aI aJ aK aL aM aN aO aP aQ aR aS aT aU aV aW aX aY aZ a0 a1 a2 a3 a4 a5 a6 a7 a8 a9 ba bb bc bd be bf bg bh bi bj bk bl bm bo bp bq br bs bt bu bv bw bx bz bA bB bC bD bE bF bG bH bI bJ bK bL bM bN bO bP bQ bR bS bT bU bV bW bX bY bZ b0 b1 b2 b3 b4 b5 b6 b7 b8 b9 ca cb cc cd ce cf cg ch ci cj ck cl cm cn co cp cq cr cs cu cv cw cx cy cz cA cB cC cD cE cF cG cH cI cJ cK cN cP cQ cS cU cV cX cY cZ c0 c1 c2 c3 c4 c5 c6 c7 c8 c9 da db dc dd de df dg dh di dj dl dm dn dp dq dr ds dt du dv dw dx dy dz dA dB dC dD dE dF dG dH dI dJ dK dL dM dN dO dP dQ dR dS dT dU dV dW dX dY dZ d0 d1 d2 d3 d4 d5 d6 d7 d8 d9 ea eb ec ed ee ef eg eh ei ej ek el em en eo ep er es et eu ev ew ex ey ez eA eB eC eD eE eF eG eH eI eJ eK eL eM eN eO:Value) (w':World),Below w.heap.size w w'→Q (.exit 2) ⟨(seg (seg (seg (seg (seg (seg (seg (seg (seg (seg lfr 18 [aa]) 39 [ab,ac,ad,ae,af]) 45 [ag,ah,ai,aj,ak]) 51 [al]) 53 [am,ao,ap,aq,ar,au,av]) 61 [aw]) 63 [ax]) 65 [ay,az,aA,aB,aC]) 71 [aD,aE,aF,aG,aH,aI,aJ]) 183 [aK,aL,aM,aN,aO,aP,aQ,aR,aS,aT,aU,aV,aW,aX,aY,aZ,a0,a1,a2,a3,a4,a5,a6,a7,a8,a9,ba,bb,bc,bd,be,bf,bg,bh,bi,bj,bk,bl,bm,bo,bp,bq,br,bs,bt,bu,bv,bw,bx,bz,bA,bB,bC,bD,bE,bF,bG,bH,bI,bJ,bK,bL,bM,bN,bO,bP,bQ,bR,bS,bT,bU,bV,bW,bX,bY,bZ,b0,b1,b2,b3,b4,b5,b6,b7,b8,b9,ca,cb,cc,cd,ce,cf,cg,ch,ci,cj,ck,cl,cm,cn,co,cp,cq,cr,cs,cu,cv,cw,cx,cy,cz,cA,cB,cC,cD,cE,cF,cG,cH,cI,cJ,cK,cN,cP,cQ,cS,cU,cV,cX,cY,cZ,c0,c1,c2,c3,c4,c5,c6,c7,c8,c9,da,db,dc,dd,de,df,dg,dh,di,dj,dl,dm,dn,dp,dq,dr,ds,dt,du,dv,dw,dx,dy,dz,dA,dB,dC,dD,dE,dF,dG,dH,dI,dJ,dK,dL,dM,dN,dO,dP,dQ,dR,dS,dT,dU,dV,dW,dX,dY,dZ,d0,d1,d2,d3,d4,d5,d6,d7,d8,d9,ea,eb,ec,ed,ee,ef,eg,eh,ei,ej,ek,el,em,en,eo,ep,er,es,et,eu,ev,ew,ex,ey,ez,eA,eB,eC,eD,eE,eF,eG,eH,eI,eJ,eK,eL,eM,eN,eO]).toArray,[]⟩ w') (hL:frn 424 lfr) (e4:lfr[4]? =some (Value.slice AR nR cR)) (e5:lfr[5]? =some (Value.int .i64 ct)) (e6:lfr[6]? =some (Value.int .i64 ix)) (e7:lfr[7]? =some (Value.int .i64 wi)) (e8:lfr[8]? =some (Value.slice AL nA cL)) (fI:lfr[12]? =some (Value.pointer (some ⟨F,0,none⟩))) (fJ:lfr[26]? =some (Value.int .i64 wd)) (fK:lfr[27]? =some (Value.slice AW nW cW)) (fL:lfr[28]? =some (Value.int .i64 (m:Int))) (fM:lfr[32]? =some (Value.pointer (some ⟨Z,0,none⟩))) (fN:lfr[36]? =some (Value.slice AM nB cM)) (eS:lfr[181]? =some (Value.slice (some ⟨SP,0,none⟩) 3 3)) (eT:lfr[182]? =some (Value.int .i64 3)) (eU:lfr[183]? =some (Value.int .i64 0)):
  Code.wp Tryz.prog zDr Q ⟨lfr.toArray,[]⟩ w:=by
 revert hK e4 e5 e6 e7 e8 fI fJ fK fL fM fN eS eT eU
 apply Ed hL;iterate 424 intro _
 intro hK e4 e5 e6 e7 e8 fI fJ fK fL fM fN eS eT eU;simp only[List.getElem?_cons_succ,List.getElem?_cons_zero,Option.some.injEq] at e4 e5 e6 e7 e8 fI fJ fK fL fM fN eS eT eU;simp (maxSteps:=9000000) only[Do,Dp,Dq] at hK;subst e4 e5 e6 e7 e8 fI fJ fK fL fM fN eS eT eU;have HK:=Zk hK;have HY:=Zk hY;have HS:=Zk hS;have HT:=Zk hT;have HE:=Zk hE;clear hK hY hS hT hE;conv=>arg 2;whnf
 go_loopw [183] (fun iv wr=>∃k:Nat,k≤3∧iv= .int .i64 k∧Below w.heap.size w wr) (fun iv _=>3- (intOf iv).toNat)
 case atStart=>exact⟨0,by omega,rfl,Zb _ _⟩
 case round=>
  obtain⟨k,hk,rfl,fE⟩:=hrel;have fG:=Zk fE;have wk:IntKind.i64.wrap ((k:Int)+1)=(k:Int)+1:=by exact Zi _ (by omega)
  clear fE;by_cases hk3:k<3
  ·have dk:decide ((k:Int)<3)=true:=Ze (by omega);have gR:decide (k<3)=true:=Ze hk3;obtain⟨P,n,t,G,hP,hy⟩:=HY.out k hk3;obtain⟨k0,k1,k2,k4⟩:=hy wr fG.out;have z0:=Int.natCast_nonneg k;have z1:(k:Int)<3:=by omega
   clear hy;obtain⟨X,eX⟩:∃X,X=wr.heap.size:=⟨_,rfl⟩;obtain⟨wx,fQ⟩:∃wx:World,wx=wr.alloc (.cells #[.int .i64 P,.int .i64 n,.int .i64 t,.int .i64 G] 67):=⟨_,rfl⟩;have fV:Hid (wr.alloc (.cells #[.int .i64 P,.int .i64 n,.int .i64 t,.int .i64 G] 67)=wx):=fQ.symm;have fS:Hid (Below wr.heap.size wr wx):=Zk (by rw[fQ];exact (Zb _ wr).alloc (Zl _) _);have eR:Hid (wx.heap[X]? =some (.cells #[.int .i64 P,.int .i64 n,.int .i64 t,.int .i64 G] 67 (0,0))):=Zk (by show _=_;rw[fQ,eX];exact Zh wr _);have fB:Hid (∀W,Below wx.heap.size wx W→W.cell? ⟨X,0,none⟩=some (.int .i64 P)∧W.cell? ⟨X,1,none⟩=some (.int .i64 n)∧W.cell? ⟨X,2,none⟩=some (.int .i64 t)∧W.cell? ⟨X,3,none⟩=some (.int .i64 G)):=Zk (fun W hg=>by
    have fR:=(hg.block X (Ae eR.out)).trans eR.out;exact⟨Zc W X 0 _ _ _ fR,Zc W X 1 _ _ _ fR,Zc W X 2 _ _ _ fR,Zc W X 3 _ _ _ fR⟩)
   have fH:Hid (Below w.heap.size w wx):=Zk (fG.out.trans (fS.out.mono fG.out.size));have gJ:Hid (X<wx.heap.size):=Zk (Ae eR.out);go_upto_region 23 with fail
   rw[fV.out,←eX];clear fQ eX;clear k0 k1 k2 k4;obtain⟨x0,x1,x2,x3⟩:=fB.out wx (Zb _ _);go_wp2_with fail;(with_reducible refine (Kr n t G ct wx).mono ?_)
   rintro e w2 ⟨rfl,gK⟩;have fW:Hid (Below wx.heap.size wx w2):=gK;obtain⟨va,gB⟩:∃va,va=gnV G ct:=⟨_,rfl⟩;obtain⟨ve,gC⟩:∃ve,ve=gnE G ct:=⟨_,rfl⟩;rw[←gB,←gC];have gP:=Zk gB;have gQ:=Zk gC;clear gK x0 x1 x2 x3 gB gC;obtain⟨x0,x1,x2,x3⟩:=fB.out w2 fW.out;go_wp2_with fail;(with_reducible refine (Gm n t G ct w2).mono ?_)
   rintro e w3 ⟨rfl,gL⟩;have eZ:Hid (Below wx.heap.size wx w3):=Zk (fW.out.trans (gL.mono fW.out.size));have HB3:Hid (Below w.heap.size w w3):=Zk (fH.out.trans (eZ.out.mono fH.out.size));rw[←gP.out,←gQ.out];clear gL x0 x1 x2 x3;go_upto_region 25 with fail
   refine zHo X P n t G (gcE P n t G) va ve w3 (fun W hb=>fB.out W (eZ.out.trans (hb.mono eZ.out.size))) (fun W _=>Fe P n t G W hP) (fun W _=>Et P n t G W hP) ?_ (Fd (by rfl)) (by rfl) (by rfl) (by rfl) (by rfl) (by rfl)
   simp (maxSteps:=9000000) only[Do,Dp,Dq];rintro a2 a3 a4 a5 a6 a7 a8 a9 ba bb bc bd be bf bg bh bi bj bk bl w4 gM;have fX:Hid (Below wx.heap.size wx w4):=Zk (eZ.out.trans (gM.mono eZ.out.size));have gE:Hid (Below w.heap.size w w4):=Zk (fH.out.trans (fX.out.mono fH.out.size));clear gM;obtain⟨CB,fZ⟩:∃CB,CB=w4.heap.size:=⟨_,rfl⟩;obtain⟨w5,fO⟩:∃w5:World,w5=w4.alloc (.cells #[.int .i64 ct,.int .i64 m] 3):=⟨_,rfl⟩;have fT:Hid (w4.alloc (.cells #[.int .i64 ct,.int .i64 m] 3)=w5):=fO.symm;have eW:Hid (Below w4.heap.size w4 w5):=Zk (by rw[fO];exact (Zb _ w4).alloc (Zl _) _);have eP:Hid (w5.heap[CB]? =some (.cells #[.int .i64 ct,.int .i64 m] 3 (0,0))):=Zk (by show _=_;rw[fO,fZ];exact Zh w4 _);have gG:Hid (∀W,Below w5.heap.size w5 W→W.cell? ⟨CB,0,none⟩=some (.int .i64 ct)∧W.cell? ⟨CB,1,none⟩=some (.int .i64 m)):=Zk (fun W hg=>by
    have fC:=(hg.block CB (Ae eP.out)).trans eP.out;exact⟨Zc W CB 0 _ _ _ fC,Zc W CB 1 _ _ _ fC⟩)
   have fA:Hid (Below wx.heap.size wx w5):=Zk (fX.out.trans (eW.out.mono fX.out.size));have fF:Hid (Below w.heap.size w w5):=Zk (gE.out.trans (eW.out.mono gE.out.size));go_upto_region 28 with fail
   rw[fT.out,←fZ];clear fO fZ;refine zGx X CB 2 m F Z nT cT nO cO P n t G ix an bn AT AO lT lO w5 (by omega) hP hm1 hm2 (Nat.lt_of_lt_of_le gJ.out fA.out.size) (fun W hb=>fB.out W (fA.out.trans (hb.mono fA.out.size))) (fun W hb=>HT.out W (fF.out.trans (hb.mono fF.out.size))) (fun k hk=>by
    have h3:k=0∨k=1:=by omega
    rcases h3 with rfl|rfl
    ·exact⟨ct,hct,fun W hb=>(gG.out W hb).1⟩
    ·exact⟨m,by unfold At;omega,fun W hb=>(gG.out W hb).2⟩) ?_ (Fd (by rfl)) (by rfl) (by rfl) (by rfl) (by rfl) (by rfl) (by rfl) (by rfl) (by rfl)
   simp (maxSteps:=9000000) only[Do,Dp,Dq];rintro aa ag ah ai aj ak al am ao ap aq ar au av bs bt bu bv bw bx bz bA bB bC bD bE bF bG bH bI bJ bK bL bM bN bO bP bQ bR bS bT bU bV bW bX bY bZ b0 b1 b2 b3 b4 b5 b6 b7 b8 b9 ca cb cc cd ce cf cg ch ci cj ck cl cm cn co cp cq cr cs cu cv cw cx cy cz cA cB cC cD cE cF cG cH cI cJ cK cN cP cQ cS cU cV cX cY cZ c0 c1 c2 w6 gD;have gI:Hid (Below wx.heap.size wx w6):=Zk (fA.out.trans (gD.mono fA.out.size));have gF:Hid (Below w.heap.size w w6):=Zk (fF.out.trans (gD.mono fF.out.size));clear gD;obtain⟨WB,gA⟩:∃WB,WB=w6.heap.size:=⟨_,rfl⟩;obtain⟨w7,fP⟩:∃w7:World,w7=w6.alloc (.cells #[.int .i64 wi,.int .i64 wd] 3):=⟨_,rfl⟩;have fU:Hid (w6.alloc (.cells #[.int .i64 wi,.int .i64 wd] 3)=w7):=fP.symm;have eY:Hid (Below w6.heap.size w6 w7):=Zk (by rw[fP];exact (Zb _ w6).alloc (Zl _) _);have eQ:Hid (w7.heap[WB]? =some (.cells #[.int .i64 wi,.int .i64 wd] 3 (0,0))):=Zk (by show _=_;rw[fP,gA];exact Zh w6 _);have gH:Hid (∀W,Below w7.heap.size w7 W→W.cell? ⟨WB,0,none⟩=some (.int .i64 wi)∧W.cell? ⟨WB,1,none⟩=some (.int .i64 wd)):=Zk (fun W hg=>by
    have fD:=(hg.block WB (Ae eQ.out)).trans eQ.out;exact⟨Zc W WB 0 _ _ _ fD,Zc W WB 1 _ _ _ fD⟩)
   have fY:Hid (Below wx.heap.size wx w7):=Zk (gI.out.trans (eY.out.mono gI.out.size));have eV:Hid (Below w.heap.size w w7):=Zk (gF.out.trans (eY.out.mono gF.out.size));go_upto_region 48 with fail
   rw[fU.out,←gA];clear fP gA;refine zHa X WB 2 nA cL nB cM nR cR nW cW P n t G ix AL AM AR AW lA lB rR rW w7 (by omega) hP (fun W hb=>HE.out W (eV.out.trans (hb.mono eV.out.size))) (Nat.lt_of_lt_of_le gJ.out fY.out.size) (fun W hb=>fB.out W (fY.out.trans (hb.mono fY.out.size))) (fun W hb=>HS.out W (eV.out.trans (hb.mono eV.out.size))) (fun W hb k hk=>by
    have h3:k=0∨k=1:=by omega
    rcases h3 with rfl|rfl
    ·exact⟨wi,(gH.out W hb).1⟩
    ·exact⟨wd,(gH.out W hb).2⟩) ?_ (Fd (by rfl)) (by rfl) (by rfl) (by rfl) (by rfl) (by rfl) (by rfl) (by rfl) (by rfl) (by rfl)
   simp (maxSteps:=9000000) only[Do,Dp,Dq];rintro aa aw ax ay az aA aB aC aD aE aF aG aH aI aJ c7 c8 c9 da db dc dd de df dg dh di dj dl dm dn dp dq dr ds dt du dv dw dx dy dz dA dB dC dD dE dF dG dH dI dJ dK dL dM dN dO dP dQ dR dS dT dU dV dW dX dY dZ d0 d1 d2 d3 d4 d5 d6 d7 d8 d9 ea eb ec ed ee ef eg eh ei ej ek el em en eo ep er es et eu ev ew ex ey ez eA eB eC eD eE eF eG eH eI eJ eK eL eM eN wz gN;have gO:Hid (Below w.heap.size w wz):=Zk (eV.out.trans (gN.mono eV.out.size));clear gN;go_wp2_with fail;go_roundw
   case rel=>exact⟨k+1,by omega,by go_num,gO.out⟩
   case measure=>simp[intOf];omega
  ·have dk:decide ((k:Int)<3)=false:=Zd (by omega);have gR:decide (k<3)=false:=Zd hk3;go_wp2_with fail;exact HK.out _ _ _ _ _ _ _ _ _ _ _ _ _ _ _ _ _ _ _ _ _ _ _ _ _ _ _ _ _ _ _ _ _ _ _ _ _ _ _ _ _ _ _ _ _ _ _ _ _ _ _ _ _ _ _ _ _ _ _ _ _ _ _ _ _ _ _ _ _ _ _ _ _ _ _ _ _ _ _ _ _ _ _ _ _ _ _ _ _ _ _ _ _ _ _ _ _ _ _ _ _ _ _ _ _ _ _ _ _ _ _ _ _ _ _ _ _ _ _ _ _ _ _ _ _ _ _ _ _ _ _ _ _ _ _ _ _ _ _ _ _ _ _ _ _ _ _ _ _ _ _ _ _ _ _ _ _ _ _ _ _ _ _ _ _ _ _ _ _ _ _ _ _ _ _ _ _ _ _ _ _ _ _ _ _ _ _ _ _ _ _ _ _ _ _ _ _ _ _ _ _ _ _ _ _ _ _ _ _ _ _ _ _ _ _ _ _ _ _ _ _ _ _ _ _ _ _ _ _ _ _ _ _ _ _ _ _ _ _ _ _ _ _ _ _ _ _ _ _ _ _ _ _ _ _ _ _ _ _ _ _ _ _ _ _ _ _ _ _ _ _ _ _ _ wr fG.out
open Go.RowKit Go.Shelf
noncomputable def zEr:Code:=((Tryz.f7.body.bind (Cr 18)).getD .skip)
theorem zHm(g F p T m nT cT:Nat)(P n t G ix i:Int)(AT:Option Addr)(rows:List (List Int))(w:World)(hg:g<w.heap.size)(hX:∀W,Below w.heap.size w W→W.cell? ⟨F,0,none⟩=some (.int .i64 P)∧W.cell? ⟨p,0,none⟩=some (.int .i64 n)∧W.cell? ⟨p,1,none⟩=some (.int .i64 t)∧W.cell? ⟨p,2,none⟩=some (.int .i64 G)∧W.cell? ⟨T,0,none⟩=some (.slice AT nT cT)∧W.cell? ⟨T,1,none⟩=some (.int .i64 0))(hM:∀W,Calls Tryz.prog 34 #[.int .i64 ix,.int .i64 (m:Int)] W fun e w'=>e= .returned (.int .i64 i)∧W=w')(hQ:∀W,Below w.heap.size w W→Calls Tryz.prog 33 #[.agg #[.int .i64 P],.agg #[.int .i64 n,.int .i64 t,.int .i64 G],.int .i64 (m:Int),.int .i64 i,.agg #[.slice AT nT cT,.int .i64 0]] W fun e w'=>∃Aq nq cq A1 n1 c1 a1,e= .returned (.tuple #[.slice Aq nq cq,.agg #[.slice A1 n1 c1,.int .i64 a1],.int .i64 0])∧Below W.heap.size W w'∧∀z,z<W.heap.size→SLE z w' (.slice Aq nq cq) rows){lfr:List Value}{Q:Exit→Act→World→Prop}
  (hK:∀(aa ab ac ad ae af ag ah ai aj ak al am an:Value) (w':World),Below w.heap.size w w'∧SLE g w' aa rows→Q .normal ⟨(seg (seg lfr 33 [aa,ab,Value.int .i64 0]) 144 [ac,ad,ae,af,ag,ah,ai,aj,ak,al,am,an]).toArray,[]⟩ w') (hL:frn 424 lfr) (e6:lfr[6]? =some (Value.int .i64 ix)) (aG:lfr[23]? =some (Value.pointer (some ⟨F,0,none⟩))) (aH:lfr[24]? =some (Value.pointer (some ⟨p,0,none⟩))) (aI:lfr[28]? =some (Value.int .i64 (m:Int))) (aJ:lfr[32]? =some (Value.pointer (some ⟨T,0,none⟩))):
  Code.wp Tryz.prog zEr Q ⟨lfr.toArray,[]⟩ w:=by
 revert hK e6 aG aH aI aJ
 apply Ed hL;iterate 424 intro _
 intro hK e6 aG aH aI aJ;simp only[List.getElem?_cons_succ,List.getElem?_cons_zero,Option.some.injEq] at e6 aG aH aI aJ;simp (maxSteps:=9000000) only[Do,Dp,Dq] at hK;subst e6 aG aH aI aJ;have HK:=Zk hK;have HM:=Zk hM;have HQ:=Zk hQ;have HX:=Zk hX;obtain⟨f0,p0,p1,p2,aN,aO⟩:=hX w (Zb _ w);have aK:Hid (Below w.heap.size w w):=Zk (Zb _ _);have aL:Hid (Below w.heap.size w w.drew):=Zk ((Zb _ w).drew);have aE:Hid (Below w.heap.size w (w.alloc (.cells #[.slice none 0 0,.int .i64 0] 45))):=Zk ((Zb _ w).alloc (Zl _) _);have aM:Hid (Below w.heap.size w (w.alloc (.cells #[.slice none 0 0,.int .i64 0] 45)).drew):=Zk (((Zb _ w).alloc (Zl _) _).drew);have aQ:Hid (∀V:World,Below (w.alloc (.cells #[.slice none 0 0,.int .i64 0] 45)).heap.size (w.alloc (.cells #[.slice none 0 0,.int .i64 0] 45)) V→V.cell? ⟨w.heap.size,0,none⟩=some (.slice none 0 0)∧V.cell? ⟨w.heap.size,1,none⟩=some (.int .i64 0)∧V.frozen? ⟨w.heap.size,0,none⟩=false∧V.frozen? ⟨w.heap.size,1,none⟩=false):=Zk (fun V hg=>by
  have hv:=(hg.block w.heap.size (by simp)).trans (Zh w _);exact⟨Zc V _ 0 _ _ _ hv,Zc V _ 1 _ _ _ hv,Zf V _ 0 _ _ hv,Zf V _ 1 _ _ hv⟩)
 clear hK hM hQ hX;conv=>arg 2;whnf
 go_region_held3 (fun w'=>w'.cell? ⟨F,0,none⟩=some (.int .i64 P)∧w'.cell? ⟨p,0,none⟩=some (.int .i64 n)∧w'.cell? ⟨p,1,none⟩=some (.int .i64 t)∧w'.cell? ⟨p,2,none⟩=some (.int .i64 G)∧w'.cell? ⟨T,0,none⟩=some (.slice AT nT cT)∧w'.cell? ⟨T,1,none⟩=some (.int .i64 0)) (first|exact⟨f0,p0,p1,p2,aN,aO⟩|exact HX.out _ aE.out|exact HX.out _ ((aB.out.setCell (Zl _) _).setCell (Zl _) _)|exact HX.out _ ((aB.out.setCell (p:=⟨w9.heap.size,0,none⟩) (by exact aB.out.size) _).setCell (p:=⟨w9.heap.size,1,none⟩) (by exact aB.out.size) _)|exact HX.out _ (aB.out.alloc aB.out.size _)|go_keep)
  (first
   |(go_at_call 34;refine (HM.out _).mono ?_;rintro e8 w8 ⟨rfl,rfl⟩)
   |(go_at_call 33;refine (HQ.out _ (by first|exact aE.out|exact aM.out)).mono ?_;rintro e9 w9 ⟨Aq,nq,cq,A1,n1,c1,a1,rfl,aA,aD⟩;have aC:Hid (Below (w.alloc (.cells #[.slice none 0 0,.int .i64 0] 45)).heap.size (w.alloc (.cells #[.slice none 0 0,.int .i64 0] 45)) w9):=Zk (⟨aA.os,aA.tape,aA.output,aA.size,aA.block⟩);have aF:Hid (∀z,z<(w.alloc (.cells #[.slice none 0 0,.int .i64 0] 45)).heap.size→SLE z w9 (.slice Aq nq cq) rows):=Zk (aD);have aB:Hid (Below w.heap.size w w9):=Zk (aE.out.trans (aC.out.mono aE.out.size));obtain⟨z0,z1,y0,y1⟩:=aQ.out w9 aC.out;obtain⟨f0,p0,p1,p2,aN,aO⟩:=HX.out w9 aB.out;clear aA aD)
   |(go_at_call 33;refine (HQ.out _ (by first|exact aK.out|exact aL.out)).mono ?_;rintro e9 w9 ⟨Aq,nq,cq,A1,n1,c1,a1,rfl,aA,aD⟩;have aC:Hid (Below (w).heap.size (w) w9):=Zk (⟨aA.os,aA.tape,aA.output,aA.size,aA.block⟩);have aF:Hid (∀z,z<(w).heap.size→SLE z w9 (.slice Aq nq cq) rows):=Zk (aD);have aB:Hid (Below w.heap.size w w9):=Zk (aK.out.trans (aC.out.mono aK.out.size));obtain⟨f0,p0,p1,p2,aN,aO⟩:=HX.out w9 aB.out;clear aA aD))
 all_goals
  have hk:=HK.out;have aP:∀u:World,(u.alloc (.cells #[.slice none 0 0,.int .i64 0] 45)).heap.size=u.heap.size+1:=fun u=>by simp
  first
   |exact hk _ _ _ _ _ _ _ _ _ _ _ _ _ _ _ ⟨aB.out.alloc aB.out.size _,(aF.out g (by exact hg)).below ((Zb _ _).alloc (Zl _) _)⟩
   |exact hk _ _ _ _ _ _ _ _ _ _ _ _ _ _ _ ⟨(aB.out.setCell (Zl _) _).setCell (Zl _) _,(aF.out g (by rw[aP];omega)).set2' (aF.out w.heap.size (by rw[aP];omega)) _ _⟩
noncomputable def zEs:Code:=((Tryz.f7.body.bind (Cr 19)).getD .skip)
theorem zHn(g F p na wd nL:Nat)(P n t G:Int)(vr vq:Value)(all:List (List Int))(w:World)(hX:∀W,w.grownBy W (some g)→W.cell? ⟨F,0,none⟩=some (.int .i64 P)∧W.cell? ⟨p,0,none⟩=some (.int .i64 n)∧W.cell? ⟨p,1,none⟩=some (.int .i64 t)∧W.cell? ⟨p,2,none⟩=some (.int .i64 G))(hD:Dk w g)(hA:∀W,w.grownBy W (some g)→Calls Tryz.prog 36 #[.agg #[.int .i64 P],.agg #[.int .i64 n,.int .i64 t,.int .i64 G],.int .i64 wd,vr,vq] W fun e w'=>∃Aa ca,e= .returned (.slice Aa na ca)∧Below W.heap.size W w'∧SLE g w' (.slice Aa na ca) all)(hN:∀W (q:Int),Dk W g→1≤q∧q≤3→Calls Tryz.prog 13 #[.pointer (some ⟨g,0,none⟩),.int .i64 q] W fun e w'=>∃x:Nat,e= .returned (.int .i64 (x:Int))∧(x:Int)<q∧Dk w' g∧W.grownBy w' (some g))(hM:∀W v (x y:Nat),w.grownBy W (some g)→Dk W g→SLE g W v all→x<3→y<2→Calls Tryz.prog 35 #[.pointer (some ⟨g,0,none⟩),.agg #[.int .i64 P],v,.int .i64 (x:Int),.int .i64 (y:Int)] W fun e w'=>∃A1 n1 c1 A2 n2 c2 L bad,e= .returned (.tuple #[.slice A1 n1 c1,.slice A2 n2 c2])∧SAE g w' (.slice A1 n1 c1) L∧SE g w' (.slice A2 n2 c2) bad∧Dk w' g∧W.grownBy w' (some g)∧L.length=nL){lfr:List Value}{Q:Exit→Act→World→Prop}
  (hK:∀(aa ab ac ad ae af ag ah ai aj ak al am an ao ap aq ar:Value) (L:List (Bool×List Int)) (bad:List Int) (w':World),SAE g w' aa L∧SE g w' ab bad∧Dk w' g∧w.grownBy w' (some g)∧L.length=nL→Q .normal ⟨(seg (seg lfr 36 [aa,ab]) 156 [ac,ad,ae,af,ag,ah,ai,aj,ak,al,am,an,ao,ap,aq,ar]).toArray,[]⟩ w') (hL:frn 424 lfr) (aS:lfr[22]? =some (Value.pointer (some ⟨g,0,none⟩))) (aT:lfr[23]? =some (Value.pointer (some ⟨F,0,none⟩))) (aU:lfr[24]? =some (Value.pointer (some ⟨p,0,none⟩))) (aV:lfr[26]? =some (Value.int .i64 (wd:Int))) (aW:lfr[27]? =some (vr)) (aX:lfr[33]? =some (vq)):
  Code.wp Tryz.prog zEs Q ⟨lfr.toArray,[]⟩ w:=by
 revert hK aS aT aU aV aW aX
 apply Ed hL;iterate 424 intro _
 intro hK aS aT aU aV aW aX;simp only[List.getElem?_cons_succ,List.getElem?_cons_zero,Option.some.injEq] at aS aT aU aV aW aX;simp (maxSteps:=9000000) only[Do,Dp,Dq] at hK;subst aS aT aU aV aW aX;have HK:=Zk hK;have HX:=Zk hX;have HD:=Zk hD;have HA:=Zk hA;have HN:=Zk hN;have HM:=Zk hM;obtain⟨f0,p0,p1,p2⟩:=hX w (Ai _ _);have bL:Hid (w.grownBy w (some g)):=Zk (Ai _ _);have aZ:Hid (w.grownBy w.drew (some g)):=Zk (Af (Zb _ w).drew _);clear hK hX hD hA hN hM;conv=>arg 2;whnf
 go_region_held3 (fun w'=>w'.cell? ⟨F,0,none⟩=some (.int .i64 P)∧w'.cell? ⟨p,0,none⟩=some (.int .i64 n)∧w'.cell? ⟨p,1,none⟩=some (.int .i64 t)∧w'.cell? ⟨p,2,none⟩=some (.int .i64 G)) (first|exact⟨f0,p0,p1,p2⟩|go_keep)
  (first
   |(go_at_call 36;refine (HA.out _ (by first|exact bL.out|exact aZ.out)).mono ?_;rintro e8 w8 ⟨Aa,ca,rfl,aI,bH⟩;have bD:Hid (Below w.heap.size w w8):=Zk (⟨aI.os,aI.tape,aI.output,aI.size,aI.block⟩);have bN:Hid (SLE g w8 (.slice Aa na ca) all):=Zk (bH);have bA:Hid (w.grownBy w8 (some g)):=Zk (Af bD.out _);have bE:Hid (Dk w8 g):=Zk (HD.out.below bD.out);have HG8d:Hid (w.grownBy w8.drew (some g)):=Zk (Ag bA.out (Af (Zb _ w8).drew _));have aY:Hid (Dk w8.drew g):=Zk (bE.out.below (Zb _ w8).drew);obtain⟨f0,p0,p1,p2⟩:=HX.out w8 bA.out;clear aI bH)
   |(go_at_call 35;refine (HM.out _ _ _ _ (by first|exact aE.out|exact aN.out) (by first|exact aL.out|exact aM.out) (by first|exact aP.out|exact aQ.out) (Int.ofNat_lt.1 bB.out) (Int.ofNat_lt.1 bC.out)).mono ?_;rintro e9 w9 ⟨A1,n1,c1,A2,n2,c2,L,bad,rfl,bI,bJ,aH,aA,bG⟩;have bO:Hid (SAE g w9 (.slice A1 n1 c1) L):=Zk (bI);have bP:Hid (SE g w9 (.slice A2 n2 c2) bad):=Zk (bJ);have bK:Hid (Dk w9 g):=Zk (aH);have bF:Hid (w.grownBy w9 (some g)):=Zk (Ag aE.out ⟨aA.os,aA.tape,aA.output,aA.size,aA.block⟩);obtain⟨f0,p0,p1,p2⟩:=HX.out w9 bF.out;have bM:=Zk bG;clear bI bJ aH aA bG)
   |(revert aC;intro aC;go_at_call 13;refine (HN.out _ 2 (by first|exact aJ.out|exact aK.out) (by omega)).mono ?_;rintro e11 aD ⟨y,rfl,aR,aH,aA⟩;have bC:=Zk aR;have aL:Hid (Dk aD g):=Zk (aH);have aG:Hid (aB.grownBy aD (some g)):=Zk (⟨aA.os,aA.tape,aA.output,aA.size,aA.block⟩);have aE:Hid (w.grownBy aD (some g)):=Zk (Ag aC.out aG.out);have aP:Hid (SLE g aD (.slice Aa na ca) all):=Zk (aO.out.grown aG.out);have aQ:Hid (SLE g aD.drew (.slice Aa na ca) all):=Zk (aP.out.below (Zb _ aD).drew);have aN:Hid (w.grownBy aD.drew (some g)):=Zk (Ag aE.out (Af (Zb _ aD).drew _));have aM:Hid (Dk aD.drew g):=Zk (aL.out.below (Zb _ aD).drew);obtain⟨f0,p0,p1,p2⟩:=HX.out aD aE.out;clear aR aH aA)
   |(go_at_call 13;refine (HN.out _ 3 (by first|exact bE.out|exact aY.out) (by omega)).mono ?_;rintro e10 aB ⟨x,rfl,aR,aH,aA⟩;have bB:=Zk aR;have aJ:Hid (Dk aB g):=Zk (aH);have aF:Hid (w8.grownBy aB (some g)):=Zk (⟨aA.os,aA.tape,aA.output,aA.size,aA.block⟩);have aC:Hid (w.grownBy aB (some g)):=Zk (Ag bA.out aF.out);have aO:Hid (SLE g aB (.slice Aa na ca) all):=Zk (bN.out.grown aF.out);have HS10d:Hid (SLE g aB.drew (.slice Aa na ca) all):=Zk (aO.out.below (Zb _ aB).drew);have HG10d:Hid (w.grownBy aB.drew (some g)):=Zk (Ag aC.out (Af (Zb _ aB).drew _));have aK:Hid (Dk aB.drew g):=Zk (aJ.out.below (Zb _ aB).drew);obtain⟨f0,p0,p1,p2⟩:=HX.out aB aC.out;clear aR aH aA))
 all_goals
  have hk:=HK.out;exact hk _ _ _ _ _ _ _ _ _ _ _ _ _ _ _ _ _ _ L bad w9 ⟨bO.out,bP.out,bK.out,bF.out,bM.out⟩
open Go.RowKit Go.Shelf
theorem zHy{P:Int}{t m K:Nat}{ns:List Int}(hb:2≤P∧P≤65521)(hv:vld (List.replicate K P) ns)(hK:K=m*t)(hl:K≤ns.length)(hl2:ns.length≤16384):dsE ns 0 P ((m:Int)*(t:Int))=0:=by
 unfold dsE;have h0:(0:Int)≤(m:Int)*(t:Int):=by rw[←Int.natCast_mul];exact Int.natCast_nonneg _
 rw[if_neg (by unfold tvB;simp;omega),if_neg (by unfold liB;simp;omega)];refine Xz fun j hj=> ?_
 have aA:j<K:=by rw[hK,←Int.toNat_natCast (m*t),Int.natCast_mul];exact hj
 have h1:=hv j (by simpa using aA) (by omega);simp only[List.getElem_replicate] at h1;refine⟨by simp;omega,?_⟩;unfold gd;simp only[Int.toNat_zero,Nat.zero_add];rw[List.getElem?_eq_getElem (by omega)];exact h1
theorem Ym{P:Int}{rows:List (List Int)}{wd G N:Nat}{qs:List (List Int)}{k:Nat}(hP:2≤P∧P≤65521)(hw:wd≤1000):∀r∈Iv P rows wd G N qs k,els P r=true∧r.length≤1000:=fun r hr=>by
 unfold Iv at hr;obtain⟨j,_,rfl⟩:=List.mem_map.1 hr;have hl:(cmb P (gr qs j) (Ca P rows ((j:Int)+1) wd G N) wd).length=wd:=Ep ..;exact⟨Fc hP.1 ..,by omega⟩
def CdA(n:Nat)(w1:World)(sv iv:Value)(wr:World):Prop:=∃(j:Nat) (s:Int),j≤n∧iv= .int .i64 j∧sv= .int .i64 s∧Below w1.heap.size w1 wr
theorem codedDoes_any(l:List Int)(P0 n0 t0 G0:Int)(T:List Int)(an:Int)(rows:List (List Int))(count index width:Int)(la:List (Bool×List Int))(v vT vr vl:Value)(w:World)(h:SI w v l)(hP0:At P0)(hT:SI w vT T)(hr:SL w vr rows)(hc:At count)(hl:SAn w vl la)(hE:EW w):
  Calls Tryz.prog 7 #[v,.agg #[.int .i64 P0],.agg #[.int .i64 n0,.int .i64 t0,.int .i64 G0],.agg #[vT,.int .i64 an],vr,.int .i64 count,.int .i64 index,.int .i64 width,vl] w fun e w'=>e= .returned (.bool true)∧Below w.heap.size w w':=by
 have HS:=Zk h;have eJ:=Zk hT;have dM:=Zk hr;have dL:=Zk hl;have HE:=Zk hE;obtain⟨A,c,rfl⟩:=h.form';obtain⟨AT,cT,rfl⟩:=hT.form';obtain⟨AR,cR,rfl,_⟩:=hr.at
 obtain⟨AL,cL,rfl⟩:=hl.form;have iG:la.length≤9223372036854775807:=by
  obtain⟨_,_,e9,h1,h2,_⟩:=hl;injection e9;omega
 clear h hT hr hl hE;obtain⟨nl,fB⟩:∃nl,nl=l.length:=⟨_,rfl⟩;obtain⟨nT,fA⟩:∃nT,nT=T.length:=⟨_,rfl⟩;obtain⟨nR,eY⟩:∃nR,nR=rows.length:=⟨_,rfl⟩;obtain⟨nA,eV⟩:∃nA,nA=la.length:=⟨_,rfl⟩;rw[←fB] at HS⊢;rw[←fA] at eJ⊢;rw[←eY] at dM⊢;rw[←eV] at dL iG⊢;have HNL:=Zk fB;have HNT:=Zk fA;have HNR:=Zk eY;have hO:=Zk eV;clear fB fA eY eV;go_enter Tryz.func7,Tryz.ntmps7;obtain⟨F,eF⟩:∃F,F=w.heap.size:=⟨_,rfl⟩;obtain⟨w0,bZ⟩:∃w0:World,w0=((w.alloc (.cells #[.int .i64 P0] 31)).alloc (.cells #[.int .i64 n0,.int .i64 t0,.int .i64 G0] 29)).alloc (.cells #[.slice AT nT cT,.int .i64 an] 45):=⟨_,rfl⟩;have eM:Hid (((w.alloc (.cells #[.int .i64 P0] 31)).alloc (.cells #[.int .i64 n0,.int .i64 t0,.int .i64 G0] 29)).alloc (.cells #[.slice AT nT cT,.int .i64 an] 45)=w0):=bZ.symm;have aI:Hid (Below w.heap.size w w0):=Zk (by rw[bZ];exact (((Zb _ w).alloc (Zl _) _).alloc (by simp) _).alloc (by simp;omega) _);have bE:Hid (w0.heap[F]? =some (.cells #[.int .i64 P0] 31 (0,0))):=Zk (by show _=_;rw[bZ,eF,Below.heap_alloc _ _ _ (by simp;try omega),Below.heap_alloc _ _ _ (by simp)];exact Zh w _);have bF:Hid (w0.heap[F+1]? =some (.cells #[.int .i64 n0,.int .i64 t0,.int .i64 G0] 29 (0,0))):=Zk (by show _=_;rw[bZ,eF,Below.heap_alloc _ _ _ (by simp;try omega)];have:=Zh (w.alloc (.cells #[.int .i64 P0] 31)) (.cells #[.int .i64 n0,.int .i64 t0,.int .i64 G0] 29);simpa using this);have aK:Hid (w0.heap[F+2]? =some (.cells #[.slice AT nT cT,.int .i64 an] 45 (0,0))):=Zk (by show _=_;rw[bZ,eF];have:=Zh ((w.alloc (.cells #[.int .i64 P0] 31)).alloc (.cells #[.int .i64 n0,.int .i64 t0,.int .i64 G0] 29)) (.cells #[.slice AT nT cT,.int .i64 an] 45);simpa using this);have eS:Hid (∀W,Below w0.heap.size w0 W→W.cell? ⟨F,0,none⟩=some (.int .i64 P0)∧W.cell? ⟨F+1,0,none⟩=some (.int .i64 n0)∧W.cell? ⟨F+1,1,none⟩=some (.int .i64 t0)∧W.cell? ⟨F+1,2,none⟩=some (.int .i64 G0)∧W.cell? ⟨F+2,0,none⟩=some (.slice AT nT cT)∧W.cell? ⟨F+2,1,none⟩=some (.int .i64 an)):=Zk (fun W hg=>by
  have iC:=(hg.block F (Ae bE.out)).trans bE.out;have fD:=(hg.block (F+1) (Ae bF.out)).trans bF.out;have fE:=(hg.block (F+2) (Ae aK.out)).trans aK.out;exact⟨Zc W F 0 _ _ _ iC,Zc W (F+1) 0 _ _ _ fD,Zc W (F+1) 1 _ _ _ fD,Zc W (F+1) 2 _ _ _ fD,Zc W (F+2) 0 _ _ _ fE,Zc W (F+2) 1 _ _ _ fE⟩)
 have hFw:w.heap.size≤F:=by omega
 have fE:F+2<w0.heap.size:=Ae aK.out;go_upto_region 1 with fail
 rw[eM.out,←eF];clear bZ eF;go_wp2_with fail;(with_reducible refine (zBl _ (HE.out.below aI.out)).mono ?_)
 rintro e w1 ⟨rfl,fG⟩;have cC:=Zk fG;have cE:Hid (Below w.heap.size w w1):=Zk (aI.out.trans (fG.mono aI.out.size));clear fG;go_wp2_with fail;go_loopw [19,82] (fun sv iv wr=>CdA nA w1 sv iv wr) (fun _ iv _=>nA- (intOf iv).toNat)
 case atStart=>exact⟨0,0,Nat.zero_le _,rfl,rfl,Zb _ _⟩
 case round=>
  obtain⟨j,s,hj,rfl,rfl,bT⟩:=hrel;have eA:=Zk bT;have aJ:Hid (Below w.heap.size w wr):=Zk (cE.out.trans (bT.mono cE.out.size));clear bT;by_cases hlt:j<nA
  ·have dj:decide ((j:Int)<(nA:Int))=true:=Ze (by omega);have gD:decide (j<nA)=true:=Ze hlt;have iF:j<la.length:=by rw[←hO.out];exact hlt
   have wj:IntKind.i64.wrap ((j:Int)+1)=(j:Int)+1:=by exact Zi _ (by omega)
   obtain⟨A',c',e,_,_,ha⟩:=dL.out;injection e with e1 e2 e3;subst e1;obtain⟨b,hA,rfl,hb,bN⟩:=ha (by omega);obtain⟨c1,vr',c2,gY⟩:=bN j iF;have c1:=(aJ.out.cell (p:=⟨b,hA+j*2,none⟩) hb).trans c1;have c2:=(aJ.out.cell (p:=⟨b,hA+j*2+1,none⟩) hb).trans c2;obtain⟨Ar,cr,rfl⟩:=gY.form;obtain⟨kb,gF⟩:∃kb,kb=la[j].1:=⟨_,rfl⟩;obtain⟨lr,gG⟩:∃lr,lr=la[j].2.length:=⟨_,rfl⟩;rw[←gF] at c1;rw[←gG] at c2;clear ha bN e2 e3 gF gG gY;obtain⟨X,eX⟩:∃X,X=wr.heap.size:=⟨_,rfl⟩;obtain⟨wx,dP⟩:∃wx:World,wx=wr.alloc (.cells #[.bool kb,.slice Ar lr cr] 61):=⟨_,rfl⟩;have eR:Hid (wr.alloc (.cells #[.bool kb,.slice Ar lr cr] 61)=wx):=dP.symm;have dZ:Hid (Below wr.heap.size wr wx):=Zk (by rw[dP];exact (Zb _ wr).alloc (Zl _) _);have bM:Hid (wx.heap[X]? =some (.cells #[.bool kb,.slice Ar lr cr] 61 (0,0))):=Zk (by show _=_;rw[dP,eX];exact Zh wr _);have hR:Hid (∀W,Below wx.heap.size wx W→W.cell? ⟨X,0,none⟩=some (.bool kb)∧W.cell? ⟨X,1,none⟩=some (.slice Ar lr cr)):=Zk (fun W hg=>by
    have gL:=(hg.block X (Ae bM.out)).trans bM.out;exact⟨Zc W X 0 _ _ _ gL,Zc W X 1 _ _ _ gL⟩)
   have hF:Hid (Below w1.heap.size w1 wx):=Zk (eA.out.trans (dZ.out.mono eA.out.size));go_upto_region 7 with fail
   rw[eR.out,←eX];clear dP eX;obtain⟨y0,y1⟩:=hR.out wx (Zb _ _);clear c1 c2;go_wp2_with fail;go_roundw
   case rel=>exact⟨j+1,_,by omega,by go_num,rfl,hF.out⟩
   case measure=>simp[intOf];omega
  ·have dj:decide ((j:Int)<(nA:Int))=false:=Zd (by omega);have gD:decide (j<nA)=false:=Zd hlt;have dJ:Hid (Below w0.heap.size w0 wr):=Zk (cC.out.trans (eA.out.mono cC.out.size));obtain⟨x0,x1,x2,x3,x4,x5⟩:=eS.out wr dJ.out;have cG:Hid (Calls Tryz.prog 11 #[.slice A nl c] wr fun e w'=>e= .returned (.bool (decide (l.length≤500)))∧wr=w'):=Zk (zCw l _ wr (HS.out.below aJ.out))
   obtain⟨fb,gE⟩:∃fb,fb=decide (l.length≤500):=⟨_,rfl⟩;rw[←gE] at cG;clear gE hlt;go_wp2_with fail;(with_reducible refine cG.out.mono ?_)
   rintro e wz ⟨rfl,rfl⟩
   cases fb with
   |false=>
    go_wp2_with fail;go_ret;exact⟨rfl,aJ.out⟩
   |true=>
    go_wp2_with fail;(with_reducible refine (Wr rows _ wr (dM.out.below aJ.out)).mono ?_)
    rintro e wz ⟨sb,rfl,rfl⟩
    cases sb with
    |false=>
     go_wp2_with fail;go_ret;exact⟨rfl,aJ.out⟩
    |true=>
     by_cases h5:500<nT
     ·have d5:decide (500<(nT:Int))=true:=Ze (by omega);have gC:decide (500<nT)=true:=Ze h5;go_wp2_with fail;go_ret;exact⟨rfl,aJ.out⟩
     have d5:decide (500<(nT:Int))=false:=Zd (by omega);have gC:decide (500<nT)=false:=Zd h5;by_cases h3:300<s
     ·have d3:decide (300<s)=true:=Ze h3;go_wp2_with fail;go_ret;exact⟨rfl,aJ.out⟩
     have d3:decide (300<s)=false:=Zd h3;go_wp2_with fail;(with_reducible refine (zEc l _ wr (HS.out.below aJ.out)).mono ?_)
     rintro e w2 ⟨rfl,dT,fH,iL⟩;obtain⟨g,eg⟩:∃g,g=wr.heap.size:=⟨_,rfl⟩;rw[←eg] at dT⊢;have hH:=Zk dT;have HB2:Hid (Below w.heap.size w w2):=Zk (aJ.out.trans (fH.mono aJ.out.size));have cD:Hid (Below w0.heap.size w0 w2):=Zk (dJ.out.trans (fH.mono dJ.out.size));have hM:Hid (w0.heap.size≤g):=Zk (by rw[eg];exact dJ.out.size);have hK:Hid (g<w2.heap.size):=dT.lt;clear dT fH iL eg x0 x1 x2 x3 x4 x5 d3 d5 gC h3 h5 dj gD hj;go_wp2_with fail;(with_reducible refine (Rs g w2 hH.out).mono ?_)
     rintro e w3 ⟨P,n3,t3,G3,rfl,gP,fJ,hV,ht2,hG3⟩;have hn2:=hV.n2;have hn10:=hV.n10;have hnP:=hV.nP;have ht1:=hV.t1;have hG1:=hV.G1;have hsum:=hV.sum;obtain⟨n,rfl⟩:∃n:Nat,n3=n:=⟨n3.toNat,by omega⟩;obtain⟨t,rfl⟩:∃t:Nat,t3=t:=⟨t3.toNat,by omega⟩;obtain⟨G,rfl⟩:∃G:Nat,G3=G:=⟨G3.toNat,by omega⟩;have HV:=Zk hV;have dQ:=hV.pb;have dC:At P:=by unfold At;omega
     obtain⟨Q,eQ⟩:∃Q,Q=w3.heap.size:=⟨_,rfl⟩;obtain⟨w4,dB⟩:∃w4:World,w4=(w3.alloc (.cells #[.int .i64 P] 31)).alloc (.cells #[.int .i64 n,.int .i64 t,.int .i64 G] 29):=⟨_,rfl⟩;have eO:Hid ((w3.alloc (.cells #[.int .i64 P] 31)).alloc (.cells #[.int .i64 n,.int .i64 t,.int .i64 G] 29)=w4):=dB.symm;have cB:Hid (Below w3.heap.size w3 w4):=Zk (by rw[dB];exact ((Zb _ w3).alloc (Zl _) _).alloc (by simp) _);have bI:Hid (w4.heap[Q]? =some (.cells #[.int .i64 P] 31 (0,0))):=Zk (by show _=_;rw[dB,eQ,Below.heap_alloc _ _ _ (by simp)];exact Zh w3 _);have bJ:Hid (w4.heap[Q+1]? =some (.cells #[.int .i64 n,.int .i64 t,.int .i64 G] 29 (0,0))):=Zk (by show _=_;rw[dB,eQ];have:=Zh (w3.alloc (.cells #[.int .i64 P] 31)) (.cells #[.int .i64 n,.int .i64 t,.int .i64 G] 29);simpa using this);have fT:Hid (g<Q):=Zk (by rw[eQ];have:=fJ.size;have:=hK.out;show g<_;omega);have bY:Hid (∀W,w4.grownBy W (some g)→W.cell? ⟨Q,0,none⟩=some (.int .i64 P)∧W.cell? ⟨Q+1,0,none⟩=some (.int .i64 n)∧W.cell? ⟨Q+1,1,none⟩=some (.int .i64 t)∧W.cell? ⟨Q+1,2,none⟩=some (.int .i64 G)):=Zk (fun W hg=>by
      have iE:=(hg.block Q (Ae bI.out) (by have:=fT.out;simp;omega)).trans bI.out;have fF:=(hg.block (Q+1) (Ae bJ.out) (by have:=fT.out;simp;omega)).trans bJ.out;exact⟨Zc W Q 0 _ _ _ iE,Zc W (Q+1) 0 _ _ _ fF,Zc W (Q+1) 1 _ _ _ fF,Zc W (Q+1) 2 _ _ _ fF⟩)
     have fM:=Zk (gP.below cB.out);have eE:Hid (w2.grownBy w4 (some g)):=Zk (Ag fJ (Af cB.out _));have hD:Hid (∀W,w4.grownBy W (some g)→Below w0.heap.size w0 W):=Zk (fun W hg=>cD.out.grown (Ag eE.out hg) cD.out.size (fun k hk=>by injection hk with e;subst e;exact hM.out))
     have hL:Hid (g<w4.heap.size):=fM.out.lt;clear gP fJ hV;go_upto_region 13 with fail
     rw[eO.out,←eQ];clear dB eQ;go_wp2_with fail;(with_reducible refine (Cy 5 g w4 fM.out (by unfold At;omega) (by omega)).mono ?_)
     rintro e w5 ⟨x,rfl,_,hx,gQ,gT⟩;obtain⟨iH,iI⟩:=hx (by omega);obtain⟨m,em⟩:∃m:Nat,(m:Int)=1+x:=⟨(1+x).toNat,by omega⟩;have hm1:1≤m:=by omega
     have hm5:m≤5:=by omega
     have wm:IntKind.i64.wrap (1+x)=(m:Int):=by rw[em];exact Zi _ (by omega)
     have fN:=Zk gQ;have cH:Hid (w4.grownBy w5 (some g)):=gT;clear hx iH iI em gQ gT;go_wp2_with fail;(with_reducible refine (Cy 3 g w5 fN.out (by unfold At;omega) (by omega)).mono ?_)
     rintro e w6 ⟨hB,rfl,_,hy,gR,gU⟩;obtain⟨iJ,iK⟩:=hy (by omega);obtain⟨wd,iB⟩:∃wd:Nat,hB=(wd:Int):=⟨hB.toNat,by omega⟩;subst iB;have hwd:wd≤2:=by omega
     have eB:=Zk gR;have bQ:Hid (w4.grownBy w6 (some g)):=Zk (Ag cH.out gU);clear hy iJ iK gR gU wm;obtain⟨f0,p0,p1,p2⟩:=bY.out w6 bQ.out;go_wp2_with fail;(with_reducible refine (Wq g m wd P w6 eB.out (by omega) (by omega) (by omega)).mono ?_)
     rintro e w7 ⟨vw,bW,rfl,bV,dH,gS,gV,dI⟩;have bB:=dI g eB.out.lt;obtain⟨AW,cW,hZ⟩:=bB.form;subst hZ;rw[bV] at bB⊢;have cS:Hid (SLE g w7 (.slice AW m cW) bW):=Zk (bB);have aV:=Zk bV;have cM:=Zk dH;have fO:=Zk gS;have bR:Hid (w4.grownBy w7 (some g)):=Zk (Ag bQ.out gV);clear bV dH gS gV dI bB f0 p0 p1 p2;obtain⟨f0,p0,p1,p2⟩:=bY.out w7 bR.out;go_wp2_with fail;(with_reducible refine (Gm n t G m w7).mono ?_)
     rintro e w8 ⟨rfl,dR⟩;have gX:gnV (G:Int) (m:Int)=(ngr m G:Nat):=if_neg (by omega);have gW:gnE (G:Int) (m:Int)=0:=if_neg (by omega);rw[gX,gW];have gJ:=Ml (len:=m) (G:=G) (by omega);obtain⟨N,eN⟩:∃N,N=ngr m G:=⟨_,rfl⟩;rw[←eN] at gJ⊢;have fS:=Zk eN;have hN1:1≤N:=by
      rcases Nat.eq_zero_or_pos N with h|h
      ·subst h;omega
      ·exact h
     have iD:N≤8:=by
      have h2:N*1≤N*G:=Nat.mul_le_mul_left _ (by omega);omega
     have fP:=Zk (fO.out.below dR);have aU:Hid (w4.grownBy w8 (some g)):=Zk (Ag bR.out (Af dR _));have cU:Hid (SLE g w8 (.slice AW m cW) bW):=Zk (cS.out.grown (Af dR _));clear gX gW dR f0 p0 p1 p2 eN gJ;obtain⟨f0,p0,p1,p2⟩:=bY.out w8 aU.out;have gO:g2E P n t G N=0:=Ul HV.out.gcE (by omega);have dK:=Zk gO;clear gO;go_wp2_with fail;(with_reducible refine (Gq P n t G N w8 dC).mono ?_)
     rintro e w9 ⟨vm,rfl,dS,dG,_⟩;have dV:=dG dK.out;obtain⟨K,eK⟩:∃K,K=N*t:=⟨_,rfl⟩;have gH:((N:Int)*(t:Int)).toNat=K:=by rw[eK,←Int.natCast_mul];rfl
     have hKb:K≤80:=by rw[eK];exact Nat.mul_le_mul iD (show t≤10 by omega)
     have HK:=Zk eK;rw[gH] at dV;obtain⟨Am,cm,iA⟩:=Ct dV;subst iA;have fU:Hid (SE g w9 (.slice Am K cm) (List.replicate K P)):=Zk (by
      have h:=SE.of_own (g:=g) dV (fun y hy=>by rw[List.eq_of_mem_replicate hy];exact dC) (by have:=aU.out.size;have:=hL.out;omega)
      rw[List.length_replicate] at h;exact h)
     have eC:=Zk (fP.out.below dS);have cI:Hid (w4.grownBy w9 (some g)):=Zk (Ag aU.out (Af dS _));have cV:Hid (SLE g w9 (.slice AW m cW) bW):=Zk (cU.out.grown (Af dS _));rw[dK.out];rw[List.length_replicate];clear dS dG dV f0 p0 p1 p2 eK gH;go_wp2_with fail;(with_reducible refine (Sw g (List.replicate K P) _ w9 eC.out fU.out (fun x hx=>by rw[List.eq_of_mem_replicate hx];omega) (by simp;omega)).mono ?_)
     rintro e bC ⟨v1,ns,rfl,dE,bU,fK,dF,gZ,dX⟩;rw[List.length_replicate] at fK dF;have bA:=dX g eC.out.lt;obtain⟨AO,cO,hY⟩:=bA.form;subst hY;obtain⟨nO,eW⟩:∃nO,nO=ns.length:=⟨_,rfl⟩;rw[←eW] at fK dF bA⊢;have eH:=Zk eW;have gA:=Zk gZ;have fY:Hid (SE g bC (.slice AO nO cO) ns):=Zk (bA);have bO:=Zk dE;have bG:Hid (w4.grownBy bC (some g)):=Zk (Ag cI.out bU);have bK:=Zk (cV.out.grown bU);clear dE bU gZ dX bA eW;obtain⟨Z,eZ⟩:∃Z,Z=bC.heap.size:=⟨_,rfl⟩;obtain⟨aH,aX⟩:∃aH:World,aH=bC.alloc (.cells #[.slice AO nO cO,.int .i64 0] 45):=⟨_,rfl⟩;have cY:Hid (bC.alloc (.cells #[.slice AO nO cO,.int .i64 0] 45)=aH):=aX.symm;have aF:Hid (Below bC.heap.size bC aH):=Zk (by rw[aX];exact (Zb _ bC).alloc (Zl _) _);have aR:Hid (aH.heap[Z]? =some (.cells #[.slice AO nO cO,.int .i64 0] 45 (0,0))):=Zk (by show _=_;rw[aX,eZ];exact Zh bC _);have hN:Hid (g<Z):=Zk (by rw[eZ];exact bO.out.lt);have dA:Hid (∀W,aH.grownBy W (some g)→W.cell? ⟨Z,0,none⟩=some (.slice AO nO cO)∧W.cell? ⟨Z,1,none⟩=some (.int .i64 0)):=Zk (fun W hg=>by
      have gM:=(hg.block Z (Ae aR.out) (by have:=hN.out;simp;omega)).trans aR.out;exact⟨Zc W Z 0 _ _ _ gM,Zc W Z 1 _ _ _ gM⟩)
     have aT:=Zk (bO.out.below aF.out);have aM:Hid (w4.grownBy aH (some g)):=Zk (Ag bG.out (Af aF.out _));have bL:=Zk (bK.out.grown (Af aF.out _));have aQ:=Zk (fY.out.grown (Af aF.out _));go_upto_region 18 with fail
     rw[cY.out,←eZ];clear aX eZ;obtain⟨i,ei⟩:∃i:Nat,(i:Int)=index%(N:Int):=⟨(index%(N:Int)).toNat,Int.toNat_of_nonneg (Int.emod_nonneg _ (by omega))⟩;have hiN:i<N:=by have:=Int.emod_lt_of_pos index (show (0:Int)<N by omega);omega
     have fR:=Zk ei;have cZ:Hid (∀W,Below aH.heap.size aH W→W.cell? ⟨Q,0,none⟩=some (.int .i64 P)∧W.cell? ⟨Q+1,0,none⟩=some (.int .i64 n)∧W.cell? ⟨Q+1,1,none⟩=some (.int .i64 t)∧W.cell? ⟨Q+1,2,none⟩=some (.int .i64 G)∧W.cell? ⟨Z,0,none⟩=some (.slice AO nO cO)∧W.cell? ⟨Z,1,none⟩=some (.int .i64 0)):=Zk (fun W hb=>by
      have dU:=Af hb (some g);obtain⟨a1,a2,a3,a6⟩:=bY.out W (Ag aM.out dU);obtain⟨a4,a5⟩:=dA.out W dU;exact⟨a1,a2,a3,a6,a4,a5⟩)
     have cJ:Hid (∀W,Calls Tryz.prog 34 #[.int .i64 index,.int .i64 (N:Int)] W fun e w'=>e= .returned (.int .i64 i)∧W=w'):=Zk (fun W=>by
      rw[fR.out];exact Lh index N W (by omega) (by omega))
     obtain⟨D,eD⟩:∃D,D=(ns.drop (0:Int).toNat).take ((N:Int)*t).toNat:=⟨_,rfl⟩;obtain⟨RQ,dN⟩:∃RQ,RQ=Db P i D t G n N:=⟨_,rfl⟩;have gK:RQ.length=n:=by rw[dN,Dn]
     have dD:∀r∈RQ,r.length=N∧els P r=true:=fun r hr=>by
      rw[dN] at hr;obtain⟨k,_,rfl⟩:=List.mem_map.1 hr;exact⟨Hd ..,Hc dQ.1 ..⟩
     have cP:=Zk gK;have cN:=Zk dD;have fQ:=Zk eD;have cF:=Zk dN;have cK:Hid (∀W,Below aH.heap.size aH W→Calls Tryz.prog 33 #[.agg #[.int .i64 P],.agg #[.int .i64 n,.int .i64 t,.int .i64 G],.int .i64 (N:Int),.int .i64 (i:Int),.agg #[.slice AO nO cO,.int .i64 0]] W fun e w'=>∃Aq nq cq A1 n1 c1 a1,e= .returned (.tuple #[.slice Aq nq cq,.agg #[.slice A1 n1 c1,.int .i64 a1],.int .i64 0])∧Below W.heap.size W w'∧∀z,z<W.heap.size→SLE z w' (.slice Aq nq cq) RQ):=Zk (fun W hb=>
      (Iq P n t G N i ns 0 _ W dC (by unfold At;omega) ((aQ.out.below hb).si)).mono fun e w' ⟨vq,v1,a1,h1,h2,h3,_⟩=>by
       have h0:gqI P n t G N i ns 0=0:=by
        rw[Up dK.out (by omega)];exact zHy dQ gA.out HK.out (by rw[←eH.out];exact fK) (by rw[←eH.out];omega)
       rw[h0] at h1;obtain⟨h4,h5,h6⟩:=h3 h0;obtain⟨A2,c2,hW⟩:=h5.form';subst hW;rw[←fQ.out] at h6;have h7:∀z,z<W.heap.size→SLE z w' vq RQ:=fun z hz=>by rw[cF.out];exact h6 z hz
       obtain⟨Aq,cq,fC⟩:=(h7 g (by have:=aT.out.lt;have:=hb.size;omega)).form;subst fC;exact⟨Aq,_,cq,A2,_,c2,a1,h1,h2,h7⟩)
     clear gK dD ei eD dN;refine zHm g Q (Q+1) Z N nO cO P n t G index i AO RQ aH aT.out.lt cZ.out cJ.out cK.out ?_ (Fd (by rfl)) (by rfl) (by rfl) (by rfl) (by rfl) (by rfl);simp (maxSteps:=9000000) only[Do,Dp,Dq];rintro u33 u34 u144 u145 u146 u147 u148 u149 u150 u151 u152 u153 u154 u155 bX ⟨bS,dY⟩;obtain⟨Aq,cq,fC⟩:=dY.form;subst fC;rw[cP.out] at dY⊢;have fZ:Hid (SLE g bX (.slice Aq n cq) RQ):=dY;have aD:Hid (aH.grownBy bX (some g)):=Zk (Af bS _);have aN:Hid (w4.grownBy bX (some g)):=Zk (Ag aM.out aD.out);have aO:=Zk (bL.out.grown aD.out);have bP:=Zk (aT.out.below bS);clear bS dY cZ cJ cK;have gB:Hid (∀W,bX.grownBy W (some g)→W.cell? ⟨Q,0,none⟩=some (.int .i64 P)∧W.cell? ⟨Q+1,0,none⟩=some (.int .i64 n)∧W.cell? ⟨Q+1,1,none⟩=some (.int .i64 t)∧W.cell? ⟨Q+1,2,none⟩=some (.int .i64 G)):=Zk (fun W hg=>bY.out W (Ag aN.out hg))
     obtain⟨all,aW⟩:∃all,all=Iv P bW wd G N RQ n:=⟨_,rfl⟩;have aS:Hid (all.length=n):=Zk (by show _=_;rw[aW];exact Mc ..);have bD:Hid (∀r∈all,els P r=true∧r.length≤1000):=Zk (fun r hr=>by
      rw[aW] at hr;exact Ym dQ (by omega) r hr)
     have fL:Hid (∀W,bX.grownBy W (some g)→Calls Tryz.prog 36 #[.agg #[.int .i64 P],.agg #[.int .i64 n,.int .i64 t,.int .i64 G],.int .i64 wd,.slice AW m cW,.slice Aq n cq] W fun e w'=>∃Aa ca,e= .returned (.slice Aa n ca)∧Below W.heap.size W w'∧SLE g w' (.slice Aa n ca) all):=Zk (fun W hg=>by
      have dU:g<W.heap.size:=by have:=bP.out.lt;have:=hg.size;omega
      have h:=Qj P t n G wd g bW RQ _ _ W HV.out (by omega) (by rw[aV.out];omega) cM.out cP.out (fun q hq=>by rw[aV.out,←fS.out];exact cN.out q hq) (aO.out.grown hg).sl (fZ.out.grown hg).sl dU
      rw[aV.out,←fS.out,←aW] at h;exact h)
     have fW:Hid (∀W (q:Int),Dk W g→1≤q∧q≤3→Calls Tryz.prog 13 #[.pointer (some ⟨g,0,none⟩),.int .i64 q] W fun e w'=>∃x:Nat,e= .returned (.int .i64 (x:Int))∧(x:Int)<q∧Dk w' g∧W.grownBy w' (some g)):=Zk (fun W q hd hq=>
      (Cy q g W hd (by unfold At;omega) (by omega)).mono fun e w' ⟨x,h1,_,h2,h3,h4⟩=>by
       obtain⟨h5,h6⟩:=h2 hq.1;exact⟨x.toNat,by rw[Int.toNat_of_nonneg h5];exact h1,by omega,h3,h4⟩)
     have fV:Hid (∀W v (x y:Nat),bX.grownBy W (some g)→Dk W g→SLE g W v all→x<3→y<2→Calls Tryz.prog 35 #[.pointer (some ⟨g,0,none⟩),.agg #[.int .i64 P],v,.int .i64 (x:Int),.int .i64 (y:Int)] W fun e w'=>∃A1 n1 c1 A2 n2 c2 L bad,e= .returned (.tuple #[.slice A1 n1 c1,.slice A2 n2 c2])∧SAE g w' (.slice A1 n1 c1) L∧SE g w' (.slice A2 n2 c2) bad∧Dk w' g∧W.grownBy w' (some g)∧L.length=n):=Zk (fun W v x y hg hd hs hx hy=>
      (Nl g x y P all v W hd dQ hs bD.out (by rw[aS.out];omega) (by rw[aS.out];omega) ⟨by omega,by omega⟩).mono fun e w' ⟨v1,v2,L,bad,h1,h2,h3,h4,h5,h6⟩=>by
       obtain⟨A1,c1,e1⟩:=h2.form;obtain⟨A2,c2,e2⟩:=h3.form;subst e1 e2;exact⟨A1,_,c1,A2,_,c2,L,bad,h1,h2,h3,h4,h5,by rw[h6.1,aS.out]⟩)
     clear aW;go_upto_region 19 with fail
     refine zHn g Q (Q+1) n wd n P n t G (.slice AW m cW) (.slice Aq n cq) all bX gB.out bP.out fL.out fW.out fV.out ?_ (Fd (by rfl)) (by rfl) (by rfl) (by rfl) (by rfl) (by rfl) (by rfl);simp (maxSteps:=9000000) only[Do,Dp,Dq];rintro u36 u37 u156 u157 u158 u159 u160 u161 u162 u163 u164 u165 u166 u167 u168 u169 u170 u171 L bad aB ⟨dW,dX,fI,aZ,gI⟩;obtain⟨AA,cA,hX⟩:=dW.form;subst hX;rw[gI] at dW⊢;have fX:Hid (SAE g aB (.slice AA n cA) L):=dW;have bH:Hid (w4.grownBy aB (some g)):=Zk (Ag aN.out aZ);have aL:Hid (aH.grownBy aB (some g)):=Zk (Ag aD.out aZ);have cQ:=Zk ((aO.out.grown aZ).sl);have cX:=Zk ((aQ.out.grown aL.out).si);clear dW dX fI aZ gI gB fL fW fV;have aG:Hid (Below w0.heap.size w0 aB):=hD.out aB bH.out;have aC:Hid (Below w.heap.size w aB):=Zk (aI.out.trans (aG.out.mono aI.out.size));obtain⟨x0,x1,x2,x3,x4,x5⟩:=eS.out aB aG.out;obtain⟨q0,q1,q2,q3⟩:=bY.out aB bH.out;have hU:Hid (∀W,Below aB.heap.size aB W→W.cell? ⟨Z,0,none⟩=some (.slice AO nO cO)∧W.cell? ⟨Z,1,none⟩=some (.int .i64 0)):=Zk (fun W hb=>dA.out W (Ag aL.out (Af hb _)))
     have eL:=Zk (eJ.out.below aC.out);have eI:=Zk (dM.out.below aC.out);have eG:=Zk (dL.out.below aC.out);have hJ:=Zk (HE.out.below aC.out);have hC:=Zk fX.out.san;clear fX fZ cS cU cV bK bL aO fY aQ fP eC bO aT bP cH bQ bR aU cI bG aM aN aD fN eB fO fU HK gA aV cM eH fR dK aS bD cN eJ dM dL HS HE fQ cF;obtain⟨SB,eU⟩:∃SB,SB=aB.heap.size:=⟨_,rfl⟩;obtain⟨wc,dO⟩:∃wc:World,wc=aB.alloc (.cells #[.int .i64 P0,.int .i64 n0,.int .i64 t0,.int .i64 G0,.int .i64 P,.int .i64 n,.int .i64 t,.int .i64 G,.int .i64 P,.int .i64 n0,.int .i64 t0,.int .i64 G0] 67):=⟨_,rfl⟩;have eP:Hid (aB.alloc (.cells #[.int .i64 P0,.int .i64 n0,.int .i64 t0,.int .i64 G0,.int .i64 P,.int .i64 n,.int .i64 t,.int .i64 G,.int .i64 P,.int .i64 n0,.int .i64 t0,.int .i64 G0] 67)=wc):=dO.symm;have aE:Hid (Below aB.heap.size aB wc):=Zk (by rw[dO];exact (Zb _ aB).alloc (Zl _) _);have aP:Hid (wc.heap[SB]? =some (.cells #[.int .i64 P0,.int .i64 n0,.int .i64 t0,.int .i64 G0,.int .i64 P,.int .i64 n,.int .i64 t,.int .i64 G,.int .i64 P,.int .i64 n0,.int .i64 t0,.int .i64 G0] 67 (0,0))):=Zk (by show _=_;rw[dO,eU];exact Zh aB _);have eT:Hid (∀W,Below wc.heap.size wc W→W.cell? ⟨SB,0,none⟩=some (.int .i64 P0)∧W.cell? ⟨SB,1,none⟩=some (.int .i64 n0)∧W.cell? ⟨SB,2,none⟩=some (.int .i64 t0)∧W.cell? ⟨SB,3,none⟩=some (.int .i64 G0)∧W.cell? ⟨SB,4,none⟩=some (.int .i64 P)∧W.cell? ⟨SB,5,none⟩=some (.int .i64 n)∧W.cell? ⟨SB,6,none⟩=some (.int .i64 t)∧W.cell? ⟨SB,7,none⟩=some (.int .i64 G)∧W.cell? ⟨SB,8,none⟩=some (.int .i64 P)∧W.cell? ⟨SB,9,none⟩=some (.int .i64 n0)∧W.cell? ⟨SB,10,none⟩=some (.int .i64 t0)∧W.cell? ⟨SB,11,none⟩=some (.int .i64 G0)):=Zk (fun W hg=>by
      have aA:=(hg.block SB (Ae aP.out)).trans aP.out;exact⟨Zc W SB 0 _ _ _ aA,Zc W SB 1 _ _ _ aA,Zc W SB 2 _ _ _ aA,Zc W SB 3 _ _ _ aA,Zc W SB 4 _ _ _ aA,Zc W SB 5 _ _ _ aA,Zc W SB 6 _ _ _ aA,Zc W SB 7 _ _ _ aA,Zc W SB 8 _ _ _ aA,Zc W SB 9 _ _ _ aA,Zc W SB 10 _ _ _ aA,Zc W SB 11 _ _ _ aA⟩)
     go_upto_region 21 with fail
     rw[eP.out,←eU];clear dO eU;have hS:Hid (∀k,k<3→∃Pk nk tk Gk:Int,At Pk∧∀W,Below wc.heap.size wc W→W.cell? ⟨SB,k*4,none⟩=some (.int .i64 Pk)∧W.cell? ⟨SB,k*4+1,none⟩=some (.int .i64 nk)∧W.cell? ⟨SB,k*4+2,none⟩=some (.int .i64 tk)∧W.cell? ⟨SB,k*4+3,none⟩=some (.int .i64 Gk)):=Zk (fun k hk3=>by
      have h3:k=0∨k=1∨k=2:=by omega
      rcases h3 with rfl|rfl|rfl
      ·exact⟨P0,n0,t0,G0,hP0,fun W hb=>by
        obtain⟨a0,a1,a2,a3,_⟩:=eT.out W hb;exact⟨a0,a1,a2,a3⟩⟩
      ·exact⟨P,n,t,G,dC,fun W hb=>by
        obtain⟨_,_,_,_,a0,a1,a2,a3,_⟩:=eT.out W hb;exact⟨a0,a1,a2,a3⟩⟩
      ·exact⟨P,n0,t0,G0,dC,fun W hb=>by
        obtain⟨_,_,_,_,_,_,_,_,a0,a1,a2,a3⟩:=eT.out W hb;exact⟨a0,a1,a2,a3⟩⟩)
     have hQ:Hid (∀W,Below wc.heap.size wc W→W.cell? ⟨F+1+1,0,none⟩=some (.slice AT nT cT)∧W.cell? ⟨F+1+1,1,none⟩=some (.int .i64 an)∧W.cell? ⟨Z,0,none⟩=some (.slice AO nO cO)∧W.cell? ⟨Z,1,none⟩=some (.int .i64 0)∧SI W (.slice AT nT cT) T∧SI W (.slice AO nO cO) ns):=Zk (fun W hb=>by
      have aY:Below aB.heap.size aB W:=aE.out.trans (hb.mono aE.out.size);obtain⟨_,_,_,_,a3,a4⟩:=eS.out W (aG.out.trans (aY.mono aG.out.size));obtain⟨b0,b1⟩:=hU.out W aY;exact⟨a3,a4,b0,b1,eL.out.below aY,cX.out.below aY⟩)
     have hP:Hid (∀W,Below wc.heap.size wc W→SAn W (.slice AL nA cL) la∧SAn W (.slice AA n cA) L∧SL W (.slice AR nR cR) rows∧SL W (.slice AW m cW) bW):=Zk (fun W hb=>by
      have aY:Below aB.heap.size aB W:=aE.out.trans (hb.mono aE.out.size);exact⟨eG.out.below aY,hC.out.below aY,eI.out.below aY,cQ.out.below aY⟩)
     have hI:Hid (∀W,Below wc.heap.size wc W→EW W):=Zk (fun W hb=>hJ.out.below (aE.out.trans (hb.mono aE.out.size)))
     refine zGw SB N (F+1+1) Z nT cT nO cO nA cL n cA nR cR m cW count index width wd an 0 AT AO AL AA AR AW T ns la L rows bW wc hc (by omega) (by omega) hI.out hS.out hQ.out hP.out ?_ (Fd (by rfl)) (by rfl) (by rfl) (by rfl) (by rfl) (by rfl) (by rfl) (by rfl) (by rfl) (by rfl) (by rfl) (by rfl) (by rfl) (by rfl) (by rfl);simp (maxSteps:=9000000) only[Do,Dp,Dq];rintro u18 u39 u40 u41 u42 u43 u45 u46 u47 u48 u49 u51 u53 u54 u55 u56 u57 u58 u59 u61 u63 u65 u66 u67 u68 u69 u71 u72 u73 u74 u75 u76 u77 u183 u184 u185 u186 u187 u188 u189 u190 u191 u192 u193 u194 u195 u196 u197 u198 u199 u200 u201 u202 u203 u204 u205 u206 u207 u208 u209 u210 u211 u212 u213 u214 u215 u216 u217 u218 u219 u220 u221 u222 u223 u224 u225 u226 u227 u228 u229 u230 u231 u232 u233 u234 u235 u236 u237 u238 u239 u240 u241 u242 u243 u244 u245 u246 u247 u248 u249 u250 u251 u252 u253 u254 u255 u256 u257 u258 u259 u260 u261 u262 u263 u264 u265 u266 u267 u268 u269 u270 u271 u272 u273 u274 u275 u276 u277 u278 u279 u280 u281 u282 u283 u284 u285 u286 u287 u288 u289 u290 u291 u292 u293 u294 u295 u296 u297 u298 u299 u300 u301 u302 u303 u304 u305 u306 u307 u308 u309 u310 u311 u312 u313 u314 u315 u316 u317 u318 u319 u320 u321 u322 u323 u324 u325 u326 u327 u328 u329 u330 u331 u332 u333 u334 u335 u336 u337 u338 u339 u340 u341 u342 u343 u344 u345 u346 u347 u348 u349 u350 u351 u352 u353 u354 u355 u356 u357 u358 u359 u360 u361 u362 u363 u364 u365 u366 u367 u368 u369 u370 u371 u372 u373 u374 u375 u376 u377 u378 u379 u380 u381 u382 u383 u384 u385 u386 u387 u388 u389 u390 u391 u392 u393 u394 u395 u396 u397 u398 u399 u400 u401 u402 u403 u404 u405 u406 u407 u408 u409 u410 u411 u412 u413 u414 u415 u416 u417 u418 u419 u420 u421 u422 u423 wz gN;have hG:Hid (Below w.heap.size w wz):=Zk (aC.out.trans ((aE.out.trans (gN.mono aE.out.size)).mono aC.out.size));clear gN;go_wp2_with fail;go_ret;exact⟨rfl,hG.out⟩
end Go.Proofs.YtoiabanpnkpbhaaGreatDoor
