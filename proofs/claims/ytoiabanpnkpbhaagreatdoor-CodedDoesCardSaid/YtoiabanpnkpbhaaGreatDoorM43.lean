/- Parts. -/
import Derived.Test.YtoiabanpnkpbhaaGreatDoorM37
import Derived.Test.YtoiabanpnkpbhaaGreatDoorM38
set_option linter.unusedVariables false
set_option linter.unusedSimpArgs false
set_option maxRecDepth 100000
set_option maxHeartbeats 8000000
namespace Go.Proofs.YtoiabanpnkpbhaaGreatDoor
open Go.RowKit
structure RV (P:Int) (a b Q T:List Int) (n i K:Nat):Prop where
 div:∀x,P∣ez a x- (ez Q x*ez b x+ez T x)
 elQ:els P Q=true
 elT:els P T=true
 lenT:T.length=n
 lenQ:Q.length=K
 zero:∀j,j<i→gd Q j=0
 low:∀j,i+b.length≤j+1→gd T j=0
theorem RV.step{P:Int}{a b Q T:List Int}{n i K:Nat}(hp:prB P=true)(h:RV P a b Q T n (i+1) K)(hb:b≠[])(hbe:els P b=true)(hbt:gd b (b.length-1)≠0)(hi:i<K)(hn:i+b.length≤n)(q:Int)(hq:q=gd T (i+b.length-1)*inv P (gd b (b.length-1))%P):
  RV P a b (Q.set i q) (Bl P T i (P-q) b) n i K:=by
 have hP:=(Bj hp).1;have hb0:b.length≠0:=fun e=>hb (List.eq_nil_of_length_eq_zero e)
 have aC:=h.lenT;have aB:=h.lenQ;have aA:el P q=true:=by rw[hq];exact Fq hP _
 refine⟨fun x=> ?_,?_,Cq hP h.elT _ _ _,by rw[Bg];exact aC,by rw[List.length_set];exact aB,fun j hj=> ?_,fun j hj=> ?_⟩
 ·have h1:=h.div x;have h2:=Xd (P:=P) (y:=P-q) (T:=T) (b:=b) (o:=i) (by omega) x;rw[zBn (by omega) (h.zero i (by omega))];have h3:P∣P*(x^i*ez b x):=Int.dvd_mul_right _ _;refine Bd (Int.dvd_sub (Int.dvd_sub h1 h2) h3) ?_;rw[Int.sub_mul,Int.add_mul,Int.mul_assoc q];omega
 ·refine Ce fun v hv=> ?_
  rcases List.mem_or_eq_of_mem_set hv with h1|h1
  ·exact Be h.elQ v h1
  ·rw[h1];exact aA
 ·rw[Dj _ _ _ _ (by omega),if_neg (by omega)];exact h.zero j (by omega)
 ·rw[Dw P T i _ b (by omega)];by_cases hj2:i≤j∧j<i+b.length
  ·rw[if_pos hj2];have e1:j-i=b.length-1:=by omega
   have e2:j=i+b.length-1:=by omega
   rw[e1,e2];refine Int.emod_eq_zero_of_dvd ?_;have aD:gd b (b.length-1)%P≠0:=by
    have:=Co (Cd hP hbe (b.length-1));rw[Int.emod_eq_of_lt this.1 this.2];exact hbt
   have aE:=Jj hp _ aD;have h1:P∣q-gd T (i+b.length-1)*inv P (gd b (b.length-1)):=by rw[hq];exact Cl P _
   have h2:P∣1-inv P (gd b (b.length-1))*gd b (b.length-1):=by
    have:=Cl P (inv P (gd b (b.length-1))*gd b (b.length-1))
    rwa [aE] at this
   have h3:=dvr (k:=gd T (i+b.length-1)) h2;have h4:=dvl (k:=gd b (b.length-1)) h1;have h5:=Int.dvd_mul_right P (gd b (b.length-1));refine Bd (Int.dvd_add (Int.dvd_sub h3 h4) h5) ?_;rw[Int.mul_sub,Int.sub_mul,Int.sub_mul,Int.mul_assoc];omega
  ·rw[if_neg hj2];exact h.low j (by omega)
theorem RV.start{P:Int}{a b:List Int}{K:Nat}(hP:2≤P)(hb:b≠[])(ha:els P a=true)(hK:a.length+1-b.length=K):RV P a b (Ay K) a a.length K K where
 div:=fun x=>by
  rw[Hb];exact⟨0,by simp⟩
 elQ:=Di hP _
 elT:=ha
 lenT:=rfl
 lenQ:=by simp[Ay]
 zero:=fun j _=>by unfold gd Ay;by_cases h:j<K<;>simp[h]
 low:=fun j hj=>by
  have hb0:b.length≠0:=fun e=>hb (List.eq_nil_of_length_eq_zero e)
  unfold gd;rw[List.getElem?_eq_none (by omega)];rfl
theorem Tq{l:List Int}{n:Nat}(h:∀j,n≤j→gd l j=0):(Bf l).length≤n:=by
 rcases Ho l with e|e
 ·rw[e];simp
 ·apply Classical.byContradiction;intro hn;exact e (h _ (by omega))
theorem RV.fin{P:Int}{a b Q T:List Int}{n K:Nat}(h:RV P a b Q T n 0 K)(hb:b≠[]):els P (Bf Q)=true∧els P (Bf T)=true∧Bf (Bf Q)=Bf Q∧Bf (Bf T)=Bf T∧(Bf Q).length≤K∧(Bf T).length<b.length∧∀x,P∣ez a x- (ez (Bf Q) x*ez b x+ez (Bf T) x):=by
 have hb0:b.length≠0:=fun e=>hb (List.eq_nil_of_length_eq_zero e)
 refine⟨Dv h.elQ,Dv h.elT,Ii _,Ii _,?_,?_,fun x=> ?_⟩
 ·have:=Da Q;have:=h.lenQ;omega
 ·have:=Tq (l:=T) (n:=b.length-1) (fun j hj=>h.low j (by omega));omega
 ·rw[Ih,Ih];exact h.div x
open Go.RowKit
def DvR(P:Int)(a' b:List Int)(n K bT bQ gb:Nat)(A3:Option Addr)(c3:Nat)(w2 wB:World)(iv:Value)(wr:World):Prop:=
 ∃(i:Nat) (Q T:List Int),i≤K∧iv= .int .i64 ((i:Int)-1)∧RV P a' b Q T n i K∧BK wr bQ Q∧(0<K→RB wr bT T)∧(K=0→SI wr (.slice A3 n c3) T)∧wr.heap[gb]? =wB.heap[gb]? ∧Below w2.heap.size w2 wr
theorem zGc{w1 w2 w3 w4 wB:World}(_h3:Below w1.heap.size w1 w3)(_h4:Below w1.heap.size w1 w4)(hB:Below w4.heap.size w4 wB)(h23:w2.heap.size≤w3.heap.size)(h34:w3.heap.size≤w4.heap.size)(h34b:Below w3.heap.size w3 w4)(h23b:Below w2.heap.size w2 w3):Below w2.heap.size w2 wB:=
 (h23b.trans (h34b.mono h23)).trans (hB.mono (Nat.le_trans h23 h34))
theorem Rf(P:Int)(a b:List Int)(va vb:Value)(w:World)(hp:prB P=true)(ha:SI w va a)(hb:SI w vb b)(hea:els P a=true)(heb:els P b=true)(hla:a.length≤512)(hlb:b.length≤512)(hbt:Bf b=b)(hb0:b≠[]):
  Calls Tryz.prog 111 #[.agg #[.int .i64 P],va,vb] w (DiP P a b w):=by
 have HP:=Zk hp;have aC:=Bj hp;have fG:At P:=by unfold At;omega
 have HA:=Zk ha;have HB:=Zk hb;have dP:=Zk hea;have bZ:=Zk heb;have eP:=Zk hbt;have cF:=Zk hb0;have eI:opE P [a,b]=0:=by
  unfold opE;rw[if_neg (by rw[hp];simp),if_neg (by simp[hea,heb]),if_neg (by simp[Dl];omega)]
 have eR:=Zk eI;have bO:0<b.length:=List.length_pos_iff.2 hb0;have bS:gd b (b.length-1)≠0:=by
  rcases Ho b with e|e
  ·rw[hbt] at e;exact absurd e hb0
  ·rwa [hbt] at e
 have bH:=Zk bS;obtain⟨A,ca,rfl⟩:=ha.form;obtain⟨Bb,cb,rfl⟩:=hb.form;clear ha hb hea heb hbt hb0 hp eI bS;go_enter Tryz.func111,Tryz.ntmps111;obtain⟨F,eF⟩:∃F,F=w.heap.size:=⟨_,rfl⟩;obtain⟨w1,cD⟩:∃w1:World,w1=w.alloc (.cells #[.int .i64 P] 31):=⟨_,rfl⟩;have cZ:Hid (w.alloc (.cells #[.int .i64 P] 31)=w1):=cD.symm;have aH:Hid (Below w.heap.size w w1):=Zk (by rw[cD];exact (Zb _ w).alloc (Zl _) _);have aN:Hid (w1.heap[F]? =some (.cells #[.int .i64 P] 31 (0,0))):=Zk (by show _=_;rw[cD,eF];exact Zh w _);have bI:Hid (∀W,Below w1.heap.size w1 W→W.cell? ⟨F,0,none⟩=some (.int .i64 P)):=Zk (fun W hg=>by
  have fE:=(hg.block F (Ae aN.out)).trans aN.out;exact (Zc W F 0 _ _ _ fE))
 have dX:=SL.two (HA.out.below aH.out) (HB.out.below aH.out) 22;have eV:=Zk dX;have dN:Hid (Below w1.heap.size w1 (w1.alloc (.cells #[.slice A a.length ca,.slice Bb b.length cb] 22))):=Zk ((Zb _ w1).alloc (Zl _) _);have cK:Hid (∀W,Below w1.heap.size w1 W→Below w.heap.size w W):=Zk (fun W hW=>aH.out.trans (hW.mono aH.out.size))
 clear dX;go_upto_region 1 with fail
 rw[cZ.out,←eF];clear cD eF;have x0:=bI.out w1 (Zb _ _);go_wp2_with fail;(with_reducible refine (Iz P [a,b] _ _ fG eV.out (by simp)).mono ?_)
 rintro e w2 ⟨rfl,dZ⟩;rw[eR.out];have aJ:Hid (Below w1.heap.size w1 w2):=Zk (dN.out.trans (dZ.mono dN.out.size));clear dZ x0;go_wp2_with fail;(with_reducible refine (Gb a _ w2 (HA.out.below (cK.out _ aJ.out)) (by omega)).mono ?_)
 rintro e w3 ⟨v3,rfl,aG,cE⟩;have bU:Hid (Below w1.heap.size w1 w3):=Zk (aJ.out.trans (cE.mono aJ.out.size));have dJ:w2.heap.size≤w3.heap.size:=cE.size;obtain⟨A3,c3,fC⟩:=Ch aG;subst fC;have cP:=Zk aG;have cG:=Zk cE;clear aG cE;go_wp2_with fail;(with_reducible refine (Gb b _ w3 (HB.out.below (cK.out _ bU.out)) (by omega)).mono ?_)
 rintro e w4 ⟨v4,rfl,aA,bM⟩;rw[eP.out] at aA;have cI:=Zk bM;have bV:Hid (Below w1.heap.size w1 w4):=Zk (bU.out.trans (bM.mono bU.out.size));have dK:w3.heap.size≤w4.heap.size:=bM.size;obtain⟨gb,eZ,fD,hgb1,bP⟩:=Dg aA bO;subst fD;have dR:=Zk aA;have bC:Hid (w4.ownsRow w2.heap.size 3 1 (.slice A3 (Bf a).length c3) (Bf a).length ((Bf a).map (Value.int .i64))):=Zk (Eo cP.out bM);obtain⟨n,en⟩:∃n,n=(Bf a).length:=⟨_,rfl⟩;obtain⟨lb,dB⟩:∃lb,lb=b.length:=⟨_,rfl⟩;rw[←en] at cP bC⊢;rw[←dB] at dR bO hlb⊢;have hn:n≤512:=by have:=Da a;omega
 have HN:=Zk en;have aD:=Zk dB;have HSB:Hid (∀W,Below w4.heap.size w4 W→SI W (.slice (some ⟨gb,0,none⟩) lb eZ) b):=Zk (fun W hW=>by
  have h9:=(SI.of_own aA (Ci aC.2 bZ.out)).below hW;rw[aD.out];exact h9)
 clear aA bM en dB;have hlb0:((lb:Int)==0)=false:=by rw[beq_eq_false_iff_ne];omega
 have hlb0n:(lb==0)=false:=by rw[beq_eq_false_iff_ne];omega
 have y1:(0:Int)≤(lb:Int)-1:=by omega
 have y2:(lb:Int)-1<(lb:Int):=by omega
 have y3:((lb:Int)-1).toNat=lb-1:=by omega
 have y4:IntKind.i64.wrap ((lb:Int)-1)=(lb:Int)-1:=by exact Zi _ (by omega)
 go_wp2_with fail;have f0:=bI.out w4 bV.out;have dM:Hid (∀W,Below w4.heap.size w4 W→∀j (hj:j<b.length),W.cell? ⟨gb,j,none⟩=some (.int .i64 b[j])):=Zk (fun W hW j hj=>(hW.cell (p:=⟨gb,j,none⟩) bP).trans (zEj (by rw[←aD.out];exact dR.out) j hj))
 obtain⟨t,et⟩:∃t,t=gd b (lb-1):=⟨_,rfl⟩;have ct:w4.cell? ⟨gb,lb-1,none⟩=some (.int .i64 t):=by
  rw[et,Bw (by rw[←aD.out];omega)];exact dM.out w4 (Zb _ _) (lb-1) (by rw[←aD.out];omega)
 have eM:=Co (Cd aC.1 bZ.out (lb-1));rw[←et] at eM;have fN:t≠0:=by rw[et,aD.out];exact bH.out
 obtain⟨aX,dA⟩:∃v,v=inv P t:=⟨_,rfl⟩;have eE:=Ix aC.1 t;rw[←dA] at eE;have ET:=Zk et;have dL:=Zk dA;have cY:Hid (∀W,Below w4.heap.size w4 W→W.cell? ⟨F,0,none⟩=some (.int .i64 P)∧W.cell? ⟨gb,lb-1,none⟩=some (.int .i64 t)):=Zk (fun W hW=>⟨bI.out W (bV.out.trans (hW.mono bV.out.size)),(hW.cell (p:=⟨gb,lb-1,none⟩) bP).trans ct⟩)
 clear et dA;obtain⟨m1,dW⟩:∃m1,m1=lb-1:=⟨_,rfl⟩;rw[←dW] at ct cY;have fS:(0:Int)≤(m1:Int):=by omega
 have fU:(m1:Int)<(lb:Int):=by omega
 have fV:IntKind.i64.wrap ((lb:Int)-1)=(m1:Int):=by rw[y4];omega
 have hlb1:1≤lb:=by omega
 clear y1 y2 y3 y4 dW;go_region_held3 (fun w'=>w'.cell? ⟨F,0,none⟩=some (.int .i64 P)∧w'.cell? ⟨gb,m1,none⟩=some (.int .i64 t)) (first|exact⟨f0,ct⟩|exact dS.out|go_keep)
  ((go_at_call 96;refine (Mr P t _ aC eM (fun _=>fN)).mono ?_;rintro e w9 ⟨rfl,aW⟩;rw[←dL.out];have bW:Hid (Below w4.heap.size w4 w9):=Zk (⟨aW.os,aW.tape,aW.output,aW.size,aW.block⟩);have dS:=Zk (cY.out w9 bW.out);clear aW))
 clear fS fU fV;have y1:(0:Int)≤(lb:Int)-1:=by omega
 have y2:(lb:Int)-1<(lb:Int):=by omega
 have y3:((lb:Int)-1).toNat=lb-1:=by omega
 have y4:IntKind.i64.wrap ((lb:Int)-1)=(lb:Int)-1:=by exact Zi _ (by omega)
 obtain⟨K,eK⟩:∃K,K=n+1-lb:=⟨_,rfl⟩;have HK:=Zk eK;have y5:IntKind.i64.wrap ((n:Int)- (lb:Int))=(n:Int)- (lb:Int):=by exact Zi _ (by omega)
 have y6:IntKind.i64.wrap ((n:Int)- (lb:Int)+1)=(n:Int)- (lb:Int)+1:=by exact Zi _ (by omega)
 have y7:max (0:Int) ((n:Int)- (lb:Int)+1)=(K:Int):=by omega
 obtain⟨wB,eB⟩:∃wB:World,wB=w9.alloc (.cells ((Ay K).map (Value.int .i64)).toArray 3):=⟨_,rfl⟩;obtain⟨bQ,cC⟩:∃bQ,bQ=w9.heap.size:=⟨_,rfl⟩;have eS:Hid (BK wB bQ (Ay K)):=Zk (by rw[eB,cC];exact Zh w9 _);have cJ:Hid (Below w9.heap.size w9 wB):=Zk (by rw[eB];exact (Zb _ _).alloc (Zl _) _);have bX:Hid (Below w4.heap.size w4 wB):=Zk (bW.out.trans (cJ.out.mono bW.out.size));have eY:Hid (w9.alloc (.cells ((Ay K).map (Value.int .i64)).toArray 3)=wB):=Zk (eB.symm);have eQ:=Zk cC;have h9z:w4.heap.size≤bQ:=by rw[cC];exact bW.out.size
 have hK:K≤1000:=by omega
 clear eB cC f0 ct cY dS eK;go_wp2_with (at_make;refine Bn _ rfl _ _ 22 rfl 3 Tryz.underlying22 Bi _ K (by first|rfl|simp[y5,y6,y7]) (by first|rfl|simp[y5,y6,y7]) rfl (by omega) ?_;rw[eY.out,←eQ.out]);have bJ:RV P (Bf a) b (Ay K) (Bf a) n K K:=by
  have h9:=RV.start (P:=P) (a:=Bf a) (b:=b) (K:=K) aC.1 cF.out (Dv dP.out) (by rw[←HN.out,←aD.out,HK.out]);rw[←HN.out] at h9;exact h9
 have cU:=Zk bJ;have aQ:Hid (wB.ownsRow w2.heap.size 3 1 (.slice A3 n c3) n ((Bf a).map (Value.int .i64))):=Zk (Eo bC.out bX.out);have cV:Hid (SI wB (.slice A3 n c3) (Bf a)):=Zk (by
  have h9:wB.ownsRow w2.heap.size 3 1 (.slice A3 n c3) (Bf a).length ((Bf a).map (Value.int .i64)):=by rw[←HN.out];exact aQ.out
  exact SI.of_own h9 (Ci aC.2 (Dv dP.out)))
 have dY:0<K→∃bT,A3=some ⟨bT,0,none⟩∧w2.heap.size≤bT∧bT<gb∧bT<bQ∧n≤c3∧c3≤9223372036854775807∧RB wB bT (Bf a):=fun h0=>by
  obtain⟨bT,cap,e1,e2,e3⟩:=Dg aQ.out (by have:=HK.out;omega);injection e1 with e4 e5 e6;subst e4;have h9:=RB.of_own aQ.out rfl;have h8:=Re cP.out;exact⟨bT,rfl,e2,by omega,by omega,h9.2.2.1,by simpa [maxLen] using h9.2.2.2,h9.1⟩
 have dT:=Zk dY;obtain⟨bT,eA⟩:∃bT,0<K→A3=some ⟨bT,0,none⟩∧w2.heap.size≤bT∧bT<gb∧bT<bQ∧n≤c3∧c3≤9223372036854775807∧RB wB bT (Bf a):=by
  by_cases h0:0<K
  ·obtain⟨bT,h⟩:=dT.out h0;exact⟨bT,fun _=>h⟩
  ·exact⟨0,fun h=>absurd h h0⟩
 have aO:=Zk eA;have cH:Hid (Below w2.heap.size w2 wB):=Zk (zGc bU.out bV.out bX.out dJ dK cI.out cG.out);have hgQ:gb<bQ:=by omega
 clear bJ dY eA dT;go_loopw [13] (fun iv wr=>DvR P (Bf a) b n K bT bQ gb A3 c3 w2 wB iv wr) (fun iv _=>((intOf iv)+1).toNat)
 case atStart=>exact⟨K,Ay K,Bf a,Zl _,by go_num,cU.out,eS.out,fun h0=>(aO.out h0).2.2.2.2.2.2,fun _=>cV.out,rfl,cH.out⟩
 case round=>
  obtain⟨i,Q,T,hi,rfl,eL,bN,eJ,bR,eD,aS⟩:=hrel;have aB:=Zk eL;have aZ:=Zk bN;have cR:=Zk eJ;have bE:=Zk bR;have dQ:=Zk eD;have aP:=Zk aS;have f0:=bI.out wr (aJ.out.trans (aS.mono aJ.out.size));clear eL bN eJ bR eD aS;by_cases hi0:i=0
  ·subst hi0;have fA:decide ((0:Int)≤((0:Nat):Int)-1)=false:=Zd (by omega);have d0:decide (((0:Nat):Int)-1≥0)=false:=Zd (by omega);have eW:Hid (SI wr (.slice (some ⟨bQ,0,none⟩) K K) Q):=Zk (by
    have h9:=aZ.out.si0 (Ci aC.2 aB.out.elQ) (by rw[aB.out.lenQ];omega);rw[aB.out.lenQ] at h9;exact h9)
   have eX:Hid (SI wr (.slice A3 n c3) T):=Zk (by
    by_cases h0:0<K
    ·obtain⟨e1,e2,e3,e4,e5,e6,e7⟩:=aO.out h0;have h9:=(cR.out h0).si (Ci aC.2 aB.out.elT) (by rw[aB.out.lenT];exact e5) e6;rw[aB.out.lenT] at h9;rw[e1];exact h9
    ·exact bE.out (by omega))
   have cL:=Zk (aB.out.fin cF.out);have bY:Hid (Below w.heap.size w wr):=Zk (cK.out _ (aJ.out.trans (aP.out.mono aJ.out.size)));have fJ:Q.length≤1000000:=by rw[aB.out.lenQ];omega
   have fK:T.length≤1000000:=by rw[aB.out.lenT];omega
   clear f0;go_wp2_with fail;(with_reducible refine (Gb Q _ wr eW.out fJ).mono ?_)
   rintro e fR ⟨eN,rfl,aE,bK⟩;have cN:=Zk aE;have aI:=Zk bK;clear aE bK;go_wp2_with fail;(with_reducible refine (Gb T _ fR (eX.out.below aI.out) fK).mono ?_)
   rintro e w11 ⟨eO,rfl,aF,bL⟩;have cO:=Zk aF;have aY:=Zk bL;clear aF bL;go_wp2_with fail;refine bodyPost_ret (v:= .tuple #[eN,eO,.int .i64 0]) (by simp[results,Tryz.results111,go_sem]) rfl ?_;obtain⟨g1,g2,g3,g4,g5,g6,g7⟩:=cL.out;have hza:(Bf a).length≤a.length:=Da a;refine⟨eN,eO,Bf Q,Bf T,rfl,?_,Mo (Eo cN.out aY.out) bY.out.size,Mo cO.out (Nat.le_trans bY.out.size aI.out.size),g1,g2,g3,g4,?_,g6,fun x=> ?_⟩
   ·exact bY.out.trans ((aI.out.trans (aY.out.mono aI.out.size)).mono bY.out.size)
   ·have h1:=HK.out;have h2:=HN.out;have h3:=aD.out;omega
   ·have:=g7 x
    rwa [Ih] at this
  ·obtain⟨j,rfl⟩:∃j,i=j+1:=⟨i-1,by omega⟩;have eG:j<K:=by omega
   obtain⟨e1,e2,e3,e4,e5,e6,e7⟩:=aO.out (by omega);have aR:=Zk (cR.out (by omega));subst e1;have ej:((j+1:Nat):Int)-1=(j:Int):=by omega
   rw[ej];have d0:decide ((j:Int)≥0)=true:=Ze (by omega);have fA:decide ((0:Int)≤(j:Int))=true:=Ze (by omega);have hKn:K+lb≤n+1:=by have:=HK.out;omega
   obtain⟨jx,dV⟩:∃jx,jx=j+lb-1:=⟨_,rfl⟩;have fL:jx<n:=by omega
   have dH:jx<T.length:=by rw[aB.out.lenT];exact fL
   have cT:=aR.out.cell dH;have dF:=Co (Cd aC.1 aB.out.elT jx);rw[←Bw dH] at cT;obtain⟨z,dD⟩:∃z,z=gd T jx:=⟨_,rfl⟩;rw[←dD] at cT dF;have fP:=Eg dF eE aC.2;have u1:IntKind.i64.wrap (z*aX)=z*aX:=by exact Zi _ (by omega)
   have u2:(z*aX).tmod P=z*aX%P:=Int.tmod_eq_emod_of_nonneg (by omega);obtain⟨q,eq⟩:∃q,q=z*aX%P:=⟨_,rfl⟩;have hq:0≤q∧q<P:=by rw[eq];exact⟨Int.emod_nonneg _ (by omega),Int.emod_lt_of_pos _ (by omega)⟩
   have u3:z*aX%P=q:=eq.symm;have u4:IntKind.i64.wrap q=q:=by exact Zi _ (by omega)
   have u5:IntKind.i64.wrap ((j:Int)+(lb:Int))=(j:Int)+(lb:Int):=by exact Zi _ (by omega)
   have u6:IntKind.i64.wrap ((j:Int)+(lb:Int)-1)=(jx:Int):=by rw[show (j:Int)+(lb:Int)-1=(jx:Int) by omega];exact Zi _ (by omega)
   have hP0:¬P=0:=by omega
   have z1:(0:Int)≤(jx:Int):=by omega
   have z2:(jx:Int)<(n:Int):=by omega
   have z3:(0:Int)≤(j:Int):=by omega
   have z4:(j:Int)<(K:Int):=by omega
   have bG:Hid (RV P (Bf a) b (Q.set j q) (Bl P T j (P-q) b) n j K):=Zk (aB.out.step HP.out cF.out bZ.out bH.out eG (by rw[←aD.out];omega) q (by rw[eq,dD,dL.out,ET.out,←aD.out,dV]));have cQ:=aZ.out.cell (j:=j) (by rw[aB.out.lenQ];exact eG);have fQ:=aZ.out.frozen j;have hgT:gb≠bT:=by omega
   have fH:bQ≠bT:=by omega
   have fI:gb≠bQ:=by omega
   have bF:Hid (BK (wr.setCell ⟨bQ,j,none⟩ (.int .i64 q)) bQ (Q.set j q)):=Zk (aZ.out.set j q);have bD:Hid (RB (wr.setCell ⟨bQ,j,none⟩ (.int .i64 q)) bT T):=Zk (aR.out.setO (p:=⟨bQ,j,none⟩) fH _);have bA:Hid ((wr.setCell ⟨bQ,j,none⟩ (.int .i64 q)).heap[gb]? =wB.heap[gb]?):=Zk ((Zo wr ⟨bQ,j,none⟩ gb _ fI).trans dQ.out);have aL:Hid (Below w2.heap.size w2 (wr.setCell ⟨bQ,j,none⟩ (.int .i64 q))):=Zk (aP.out.setCell (p:=⟨bQ,j,none⟩) (by show w2.heap.size≤bQ;omega) _);clear dD eq dH dV fP;go_upto_region 12 with fail
   go_region
   all_goals
    go_upto_region 14 with fail
    obtain⟨wy,aV⟩:∃wy:World,wy=(wr.setCell ⟨bQ,j,none⟩ (.int .i64 q)).drew:=⟨_,rfl⟩;have cW:Hid (BK wy bQ (Q.set j q)):=Zk (by rw[aV];exact bF.out);have cS:Hid (RB wy bT T):=Zk (by rw[aV];exact bD.out);have bB:Hid (wy.heap[gb]? =wB.heap[gb]?):=Zk (by rw[aV];exact bA.out);have aM:Hid (Below w2.heap.size w2 wy):=Zk (by rw[aV];exact aL.out.drew);rw[←aV];clear aV bF bD bA aL aR cR bE aZ aP dQ cQ fQ cT f0;obtain⟨sb,dC⟩:∃sb,sb=P-q:=⟨_,rfl⟩;have fM:0≤sb∧sb≤P:=by omega
    have wsb:IntKind.i64.wrap (P-q)=sb:=by rw[dC];exact Zi _ (by omega)
    rw[←dC] at bG;clear dC u1 u2 u3 u6 z1 z2 dF;go_wp2_with fail;go_loopw [74] (fun iv wr=>∃k:Nat,k≤lb∧iv= .int .i64 k∧Hid (RB wr bT (Bl P T j sb (b.take k)))∧Hid (wy.grownBy wr (some bT))) (fun iv _=>lb- (intOf iv).toNat)
    case atStart=>exact⟨0,Nat.zero_le _,rfl,(show Hid _ from by rw[List.take_zero,Eb];exact cS.out),(show Hid _ from Ai _ _)⟩
    case round=>
     obtain⟨k,hk,rfl,cB,cA⟩:=hrel;have dO:Hid (Below w2.heap.size w2 wr):=Zk (aM.out.trans (Cw cA.out e2 aM.out.size));have aK:wr.heap[gb]? =wB.heap[gb]? :=(cA.out.block gb (by have h1:=bB.out;have h2:=bX.out.size;apply Classical.byContradiction;intro hc;rw[Array.getElem?_eq_none (by omega)] at h1;have h3:=Array.getElem?_eq_none_iff.1 h1.symm;omega) (by simp;omega)).trans bB.out;have cM:=Zk aK;by_cases hkl:k<lb
     ·have dk:decide ((k:Int)<(lb:Int))=true:=Ze (by omega);have fB:decide (k<lb)=true:=Ze hkl;have dI:k<b.length:=by rw[←aD.out];exact hkl
      have cb:wr.cell? ⟨gb,k,none⟩=some (.int .i64 b[k]):=(World.cell?_of_block aK).trans (dM.out wB bX.out k dI);have f0:=bI.out wr (aJ.out.trans (dO.out.mono aJ.out.size));have dG:(Bl P T j sb (b.take k)).length=n:=by rw[Bg];exact aB.out.lenT
      obtain⟨jk,dU⟩:∃jk,jk=j+k:=⟨_,rfl⟩;have eH:jk<n:=by omega
      have cT:=cB.out.cell (j:=jk) (by rw[dG];exact eH);have fT:=cB.out.frozen jk;have eC:=Co (Cd aC.1 (Cq aC.1 aB.out.elT j sb (b.take k)) jk);have aT:=Co (Be bZ.out _ (List.getElem_mem dI));rw[←Bw] at cT;obtain⟨z',dE⟩:∃z',z'=gd (Bl P T j sb (b.take k)) jk:=⟨_,rfl⟩;rw[←dE] at cT eC;obtain⟨u,eu⟩:∃u,u=b[k]:=⟨_,rfl⟩;rw[←eu] at cb aT;have cX:Hid (Bl P T j sb (b.take (k+1))=(Bl P T j sb (b.take k)).set jk ((z'+sb*u)%P)):=Zk (by
       have h:=Ea P T j sb b k dI (by rw[aB.out.lenT,←aD.out];omega);show _=_;rw[dE,eu,dU];exact h)
      have HY:Hid (RB (wr.setCell ⟨bT,jk,none⟩ (.int .i64 ((z'+sb*u)%P))) bT (Bl P T j sb (b.take (k+1)))):=Zk (by rw[cX.out];exact cB.out.set (by rw[dG];exact eH) _);have aU:Hid (wy.grownBy (wr.setCell ⟨bT,jk,none⟩ (.int .i64 ((z'+sb*u)%P))) (some bT)):=Zk (Ak cA.out (.inl rfl) _);have fO:=Li fM aT aC.2;have u1:IntKind.i64.wrap (sb*u)=sb*u:=by exact Zi _ (by omega)
      have u2:IntKind.i64.wrap (z'+sb*u)=z'+sb*u:=by exact Zi _ (by omega)
      have u3:(z'+sb*u).tmod P=(z'+sb*u)%P:=Int.tmod_eq_emod_of_nonneg (by omega);have u7:IntKind.i64.wrap ((z'+sb*u)%P)=(z'+sb*u)%P:=by
       have h1:=Int.emod_nonneg (z'+sb*u) (show P≠0 by omega);have h2:=Int.emod_lt_of_pos (z'+sb*u) (show 0<P by omega);exact Zi _ (by omega)
      have u8:IntKind.i64.wrap ((j:Int)+(k:Int))=(jk:Int):=by rw[show (j:Int)+(k:Int)=(jk:Int) by omega];exact Zi _ (by omega)
      have u9:(j:Int)+(k:Int)=(jk:Int):=by omega
      have z1:(0:Int)≤(jk:Int):=by omega
      have z2:(jk:Int)<(n:Int):=by omega
      have z5:(0:Int)≤(k:Int):=by omega
      have z6:(k:Int)<(lb:Int):=by omega
      clear dE eu dG eC aT fO dU aK;go_upto_region 17 with fail
      go_region
      all_goals
       go_wp2_with fail;go_roundw
       case rel=>exact⟨k+1,by omega,by go_num,by first|exact HY|exact (show Hid _ from HY.out.drew),by first|exact aU|exact (show Hid _ from ⟨aU.out.os,aU.out.tape,aU.out.output,aU.out.size,aU.out.block⟩)⟩
       case measure=>simp[intOf];omega
     ·have dk:decide ((k:Int)<(lb:Int))=false:=Zd (by omega);have fB:decide (k<lb)=false:=Zd hkl;have bN:b.take k=b:=List.take_of_length_le (by rw[←aD.out];omega);have eU:Hid (RB wr bT (Bl P T j sb b)):=Zk (by have h9:=cB.out;rw[bN] at h9;exact h9);have eT:Hid (BK wr bQ (Q.set j q)):=Zk (cW.out.kept cA.out (by simp;omega));have fF:K≠0:=by omega
      clear bN aK;go_wp2_with fail;go_roundw
      case rel=>exact⟨j,Q.set j q,Bl P T j sb b,by omega,by go_num,bG.out,eT.out,fun _=>eU.out,fun h=>absurd h fF,cM.out,dO.out⟩
      case measure=>simp[intOf]
end Go.Proofs.YtoiabanpnkpbhaaGreatDoor
