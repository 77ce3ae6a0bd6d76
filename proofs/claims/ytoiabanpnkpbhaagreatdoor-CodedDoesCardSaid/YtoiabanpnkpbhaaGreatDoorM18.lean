/- Parts. -/
import Derived.Test.YtoiabanpnkpbhaaGreatDoorM17
import Derived.Test.YtoiabanpnkpbhaaGreatDoorM14
set_option linter.unusedVariables false
set_option linter.unusedSimpArgs false
set_option maxRecDepth 100000
set_option maxHeartbeats 4000000
namespace Go.Proofs.YtoiabanpnkpbhaaGreatDoor
open Go.RowKit
theorem Ip{a w:World}{r:Option Nat}(h:a.grownBy w r):a.grownBy w.drew r:=⟨h.os,h.tape,h.output,h.size,h.block⟩
def Ry(P:Int)(R C:Nat)(cl rl x:List Int):Prop:=x.length=C∧∀i,i<R→P∣dh (C+1) (Gx cl rl C i) (x++[-1])
def SoP(P:Int)(R C:Nat)(cl rl:List Int)(w:World)(e:Ending)(w':World):Prop:=
 ∃(er:Int) (v:Value) (x:List Int),e= .returned (.tuple #[v,.int .i64 er])∧Below w.heap.size w w'∧
  ((er=0∧Ry P R C cl rl x∧els P x=true∧w'.ownsRow w.heap.size 3 1 v x.length (x.map (Value.int .i64)))∨(er=6∧v= .slice none 0 0∧¬∃x,Ry P R C cl rl x))
theorem Ue{P:Int}{R C:Nat}{cl rl x:List Int}(hx:x.length=C)(h:∀i,i<(eqM cl rl C R).length→P∣dh (C+1) (gr (eqM cl rl C R) i) (x++[-1])):Ry P R C cl rl x:=
 ⟨hx,fun i hi=>by have:=h i (by rw[Hu];exact hi);rwa [Mb hi] at this⟩
def soK(C:Nat)(x:List Int)(k:Nat):List Int:=x.take k++Ay (C-k)
theorem Ig{C:Nat}{x:List Int}(hx:x.length=C)(k:Nat)(hk:k≤C):(soK C x k).length=C:=by simp[soK,Ay,hx];omega
theorem Pd{C:Nat}{x:List Int}(hx:x.length=C)(k j:Nat)(hk:k≤C):gd (soK C x k) j=if j<k then gd x j else 0:=by
 unfold soK;rw[Fr,List.length_take,Nat.min_eq_left (by omega),Fl];by_cases h:j<k
 ·rw[if_pos h,if_pos h];try simp[h]
 ·rw[if_neg h,if_neg h];by_cases h2:j-k<C-k
  ·rw[Bw (by simpa [Ay] using h2)];simp only[Ay,List.getElem_replicate]
  ·exact Ee (by simp[Ay];omega)
theorem zBq{C:Nat}{x:List Int}(hx:x.length=C)(k:Nat)(hk:k<C):(soK C x k).set k (gd x k)=soK C x (k+1):=Cb (by rw[List.length_set,Ig hx k (by omega),Ig hx (k+1) (by omega)]) fun j hj=>by
 rw[Dj _ _ _ _ (by rw[Ig hx k (by omega)];exact hk),Pd hx k j (by omega),Pd hx (k+1) j (by omega)];by_cases e:j=k
 ·rw[if_pos e,if_pos (by omega),e]
 ·rw[if_neg e];by_cases h:j<k
  ·rw[if_pos h,if_pos (by omega)]
  ·rw[if_neg h,if_neg (by omega)]
theorem zBp{C:Nat}{x:List Int}(hx:x.length=C)(k:Nat)(hk:k<C)(h0:gd x k=0):soK C x (k+1)=soK C x k:=Cb (by rw[Ig hx k (by omega),Ig hx (k+1) (by omega)]) fun j hj=>by
 rw[Pd hx k j (by omega),Pd hx (k+1) j (by omega)];by_cases e:j=k
 ·rw[e,if_pos (by omega),if_neg (by omega),h0]
 ·by_cases h:j<k
  ·rw[if_pos h,if_pos (by omega)]
  ·rw[if_neg h,if_neg (by omega)]
theorem zBr{C:Nat}(x:List Int):soK C x 0=Ay C:=by simp[soK]
theorem zEy{C:Nat}{x:List Int}(hx:x.length=C):soK C x C=x:=by simp[soK,Ay,←hx]
theorem BK.own{w:World}{b base:Nat}{l:List Int}(h:BK w b l)(hb:base≤b)(hl:l.length≤1000000):w.ownsRow base 3 1 (.slice (some ⟨b,0,none⟩) l.length l.length) l.length (l.map (Value.int .i64)):=
 ⟨by simp,.inr ⟨b,l.length,_,rfl,hb,h,Zl _,by unfold maxLen;omega,by simp,by rw[List.take_of_length_le (by simp)]⟩⟩
theorem Ws(P:Int)(R C:Nat)(cl rl:List Int)(vc vr:Value)(w:World)(hp:prB P=true)(hR:R≤32)(hR1:1≤R)(hC:C≤32)(hC1:1≤C)(h1:cl.length=R*C)(h2:rl.length=R)(he1:els P cl=true)(he2:els P rl=true)(hc:SI w vc cl)(hr:SI w vr rl):
  Calls Tryz.prog 130 #[.agg #[.int .i64 P,.int .i64 R,.int .i64 C,vc,vr]] w (SoP P R C cl rl w):=by
 have HP:=Zk hp;have HC:=Zk hc;have HR:=Zk hr;have E1:=Zk he1;have E2:=Zk he2;have L1:=Zk h1;have L2:=Zk h2;have bN:Hid (∀o:Obj,Below w.heap.size w (w.alloc o)):=Zk (fun o=>(Zb _ w).alloc (Zl _) o)
 obtain⟨wa,aM⟩:∃wa:World,wa=w.alloc (.cells #[.int .i64 P,.int .i64 R,.int .i64 C,vc,vr] 162):=⟨_,rfl⟩;have aW:Hid (Below w.heap.size w wa):=Zk (by rw[aM];exact bN.out _);have aF:Hid (wa.heap[w.heap.size]? =some (.cells #[.int .i64 P,.int .i64 R,.int .i64 C,vc,vr] 162 (0,0))):=Zk (by rw[aM];exact Zh w _);have bH:Hid (wa.heap.size=w.heap.size+1):=Zk (by show _=_;rw[aM];simp);have bF:Hid (SI wa vc cl):=Zk (hc.below aW.out);have bG:Hid (SI wa vr rl):=Zk (hr.below aW.out);have aZ:Hid (w.alloc (.cells #[.int .i64 P,.int .i64 R,.int .i64 C,vc,vr] 162)=wa):=aM.symm;have bW:wa.cell? ⟨w.heap.size,0,none⟩=some (.int .i64 P):=Zc wa w.heap.size 0 _ _ _ aF.out;clear h1 h2 he1 he2 hp hc hr aM;go_enter Tryz.func130,Tryz.ntmps130;go_wp2_with fail;refine (Tp P R C cl rl vc vr _ HP.out hR hC L1.out L2.out E1.out E2.out (by rw[aZ.out];exact bF.out) (by rw[aZ.out];exact bG.out)).mono ?_;rintro e w1 ⟨rfl,aA⟩;rw[aZ.out] at aA;have cH:w.heap.size<w1.heap.size:=by have:=aA.size;have:=bH.out;omega
 have aH:w.heap.size<wa.heap.size:=by rw[bH.out];omega
 have x0:w1.cell? ⟨w.heap.size,0,none⟩=some (.int .i64 P):=(aA.cell aH).trans (Zc wa w.heap.size 0 _ _ _ aF.out);have x1:w1.cell? ⟨w.heap.size,1,none⟩=some (.int .i64 R):=(aA.cell aH).trans (Zc wa w.heap.size 1 _ _ _ aF.out);have x2:w1.cell? ⟨w.heap.size,2,none⟩=some (.int .i64 C):=(aA.cell aH).trans (Zc wa w.heap.size 2 _ _ _ aF.out);have x3:w1.cell? ⟨w.heap.size,3,none⟩=some vc:=(aA.cell aH).trans (Zc wa w.heap.size 3 _ _ _ aF.out);have x4:w1.cell? ⟨w.heap.size,4,none⟩=some vr:=(aA.cell aH).trans (Zc wa w.heap.size 4 _ _ _ aF.out);have bK:Hid (Below w.heap.size w w1):=Zk (aW.out.trans (aA.mono (by omega)));have bO:Hid (SI w1 vc cl):=Zk (bF.out.below aA);have bQ:Hid (SI w1 vr rl):=Zk (bG.out.below aA);clear aA bW aH;go_wp2_with fail;(with_reducible refine (Ti P R C cl rl vc vr w1 HP.out hR hR1 hC hC1 L1.out L2.out E1.out E2.out bO.out bQ.out).mono ?_);rintro e w2 ⟨G,c,rfl,bZ,aP,r,bs,cs,M,ld,aO,aN,bA⟩
 obtain⟨B,eB⟩:∃B,B=w1.heap.size+1:=⟨_,rfl⟩;rw[←eB] at aO aN⊢;have y2:w2.cell? ⟨w.heap.size,2,none⟩=some (.int .i64 C):=(aP.cell cH).trans x2;have hs2:w1.heap.size≤w2.heap.size:=aP.size;have bL:Hid (Below w.heap.size w w2):=Zk (bK.out.trans (aP.mono (by omega)));have cF:r≤R:=by have:=bA.rk;have:=aO.len;omega
 have aY:=Zk aO;have bR:=Zk aN;have aU:=Zk bA;have hBw:w.heap.size<B:=by omega
 have HeB:=Zk eB;have bY:=aN.lt;have bI:=Zk (Pe P C B G (C+1) R c r bs cs M ld w2 rfl hR cF bZ aO aN);clear aO aN bA aP eB x0 x1 x2 x3 x4;go_wp2_with fail;(with_reducible refine bI.out.mono ?_);rintro e w3 ⟨bb,rfl,ht,hf,aI⟩
 have HT:=Zk ht;have HF:=Zk hf;have y3:w3.cell? ⟨w.heap.size,2,none⟩=some (.int .i64 C):=(aI.out.cell (by show w.heap.size<w2.heap.size;omega)).trans y2;have hs3:w2.heap.size≤w3.heap.size:=aI.out.size;have aT:Hid (Below w.heap.size w w3):=Zk (bL.out.trans (aI.out.mono (by omega)));have aC:Hid (RM (B+1) w3 G (C+1) R bs cs M):=Zk (aY.out.below aI.out);have aX:Hid (RD w3 B P C (.slice (some ⟨G,0,none⟩) R c) r ld):=Zk (bR.out.kept (aI.out.block B bY));clear ht hf y2 bI
 cases bb with
 |false=>
  go_wp2_with fail;go_ret2;refine⟨6,_,[],rfl,aT.out,.inr ⟨rfl,rfl,?_⟩⟩;obtain⟨q,aV,bD,cD⟩:=HF.out (by trivial);rintro⟨x,hx,cI⟩;exact aU.out.no (Bj HP.out).1 aV (by rw[aY.out.len];exact bD) cD ⟨x,hx,fun i hi=>by rw[Hu] at hi;rw[Mb hi];exact cI i hi⟩
 |true=>
  have aE:=aU.out.yes (Bj HP.out).1 fun m hm cC=>HT.out (by trivial) m hm (by rw[←aY.out.len];exact cC)
  obtain⟨X,eX⟩:∃X,X=Kj C M ld:=⟨_,rfl⟩;have bB:X.length=C:=by rw[eX];exact Eu _ _ _
  have bU:Hid (els P X=true):=Zk (by rw[eX];exact aE.1);have bV:Hid (Ry P R C cl rl X):=Zk (Ue bB (by rw[eX];exact aE.2));have HX:=Zk eX;have aG:=Zk bB;clear aE eX bB;go_wp2_with (at_make;refine Bn _ rfl _ _ 22 rfl 3 Tryz.underlying22 Bi _ C rfl rfl rfl (by omega) ?_);obtain⟨w4,aL⟩:∃w4:World,w4=w3.alloc (.cells ((Ay C).map (Value.int .i64)).toArray 3):=⟨_,rfl⟩;rw[←aL];obtain⟨b,eb⟩:∃b,b=w3.heap.size:=⟨_,rfl⟩;have bM:Hid (BK w4 b (soK C X 0)):=Zk (by rw[zBr,aL,eb];exact Zh w3 _);have bE:Hid (Below w.heap.size w w4):=Zk (by rw[aL];exact aT.out.alloc aT.out.size _);have aB:Hid (Below b w3 w4):=Zk (by rw[aL,eb];exact (Zb _ w3).alloc (Zl _) _);have aA:w.heap.size<b:=by omega
  have aP:w2.heap.size≤b:=by omega
  have hb3:w.heap.size≤w3.heap.size:=aT.out.size;have bX:B<b:=by omega
  have y4:w4.cell? ⟨w.heap.size,2,none⟩=some (.int .i64 C):=(aB.out.cell (by show w.heap.size<b;omega)).trans y3;have HEb:=Zk eb;rw[←eb];have aK:Hid (RM (B+1) w4 G (C+1) R bs cs M):=Zk (aC.out.below (by rw[eb] at aB;exact aB.out));have aJ:Hid (RD w4 B P C (.slice (some ⟨G,0,none⟩) R c) r ld):=Zk (aX.out.kept (aB.out.block B bX));have hGb:G<b:=by have:=aC.out.lt;omega
  have bC:Hid (∀i,i<R→bs i<b):=Zk (fun i hi=>by have:=(aC.out.row i hi).1.lt;omega)
  clear aL y3 eb;go_loopw [24] (fun i wr=>∃k:Nat,k≤C∧i= .int .i64 k∧Hid (BK wr b (soK C X k))∧Hid (w4.grownBy wr (some b))) (fun i _=>C- (intOf i).toNat)
  case atStart=>exact⟨0,Nat.zero_le _,by go_num,bM,(show Hid _ from Ai _ _)⟩
  case round=>
   obtain⟨k,hk,rfl,HK,HG⟩:=hrel;by_cases hkC:k<C
   ·have aR:=aU.out.ldl;have ck:=HG.out.cell (aJ.out.ld (k:=k) (by omega)) (by simp;omega);obtain⟨nl,aD⟩:∃v,v=gd ld k:=⟨_,rfl⟩;rw[←aD] at ck;have k32:(k:Int)<32:=by omega
    have k0:(0:Int)≤(k:Int):=by omega
    by_cases h0:nl=0
    ·have bS:Hid (soK C X (k+1)=soK C X k):=Zk (zBp aG.out k hkC (by rw[HX.out,Ju hkC,←aD,if_pos h0]));subst h0;clear aD aR;go_wp2_with fail;go_roundw
     case rel=>exact⟨k+1,by omega,by go_num,(show Hid _ from by rw[bS.out];exact HK.out),HG⟩
     case measure=>simp[intOf];omega
    ·obtain⟨q,aV,bD,_⟩:=aU.out.led k hkC (by rw[←aD];exact h0);rw[←aD] at aV;subst aV;have aS:q<R:=by omega
     have bJ:Hid (gd X k=gd (gr M q) C):=Zk (by
      show _=_;rw[HX.out,Ju hkC,←aD,if_neg h0];congr 2;omega)
     have cB:=HG.out.cell aJ.out.cells.2.2.1 (by simp;omega);have cG:=HG.out.cell (aK.out.cell aS) (by simp;omega);have cX:=HG.out.cell (aK.out.el aS (Nat.lt_succ_self C)) (by have:=bC.out q aS;simp;omega);have cE:=HG.out.cell y4 (by simp;omega);obtain⟨x,ex⟩:∃x,x=gd (gr M q) C:=⟨_,rfl⟩;rw[←ex] at cX;have cA:k<(soK C X k).length:=by rw[Ig aG.out k (by omega)];exact hkC
     have ck2:=HK.out.cell cA;have fk:=HK.out.frozen k;have bT:Hid (BK (wr.setCell ⟨b,k,none⟩ (.int .i64 x)) b (soK C X (k+1))):=Zk (by
      have:=HK.out.set k x
      rwa [ex,←bJ.out,zBq aG.out k hkC,bJ.out,←ex] at this)
     have bP:Hid (w4.grownBy (wr.setCell ⟨b,k,none⟩ (.int .i64 x)) (some b)):=Zk (Ak HG.out (.inl rfl) _);have q0:(0:Int)≤(q:Int):=by omega
     have q1:(q:Int)<(R:Int):=by omega
     have c0:(0:Int)≤(C:Int):=by omega
     have c1:(C:Int)<((C+1:Nat):Int):=by omega
     have kC:(k:Int)<(C:Int):=by omega
     have qq:(q:Int)+1-1=(q:Int):=by omega
     have qw:IntKind.i64.wrap (q:Int)=(q:Int):=by exact Zi _ (by omega)
     have qw2:IntKind.i64.wrap ((q:Int)+1-1)=(q:Int):=by rw[qq];exact qw
     have c2:(C:Int)<(C:Int)+1:=by omega
     have aQ:wr.grownBy (wr.setCell ⟨b,k,none⟩ (.int .i64 x)).drew (some b):=Ip (Ak (Ai wr (some b)) (.inl rfl) _);have dB:=aQ.cell cB (by simp;omega);have dG:=aQ.cell cG (by simp;omega);have dX:=aQ.cell cX (by have:=bC.out q aS;simp;omega);have dE:=aQ.cell cE (by simp;omega);clear aQ;have ebs:bs q≠b:=by have:=bC.out q aS;omega
     clear aD aR bD ex h0;go_wp2_with fail;go_region_held3 (fun w'=>w'.cell? ⟨B,2,none⟩=some (.slice (some ⟨G,0,none⟩) R c)∧w'.cell? ⟨G,q,none⟩=some (.slice (some ⟨bs q,0,none⟩) (C+1) (cs q))∧w'.cell? ⟨bs q,C,none⟩=some (.int .i64 x)∧w'.cell? ⟨w.heap.size,2,none⟩=some (.int .i64 C)) (first|exact⟨cB,cG,cX,cE⟩|exact⟨dB,dG,dX,dE⟩|go_keep) (fail)
     all_goals
      go_wp2_with fail;go_roundw
      case rel=>exact⟨k+1,by omega,by go_num,bT,(show Hid _ from Ip bP.out)⟩
      case measure=>simp[intOf];omega
   ·obtain rfl:C=k:=by omega
    go_wp2_with fail;go_ret2;refine⟨0,_,X,rfl,bE.out.trans (Cm HG.out (by have:=bE.out.size;omega) (fun j hj=>by injection hj with hj;omega)),.inl ⟨rfl,bV.out,bU.out,?_⟩⟩
    have:=HK.out;rw[zEy aG.out] at this;have h2:=this.own (base:=w.heap.size) (by omega) (by rw[aG.out];omega)
    rwa [aG.out] at h2⊢
open Go.RowKit
def DiP(P:Int)(a b:List Int)(w:World)(e:Ending)(w':World):Prop:=
 ∃(v1 v2:Value) (Q R:List Int),e= .returned (.tuple #[v1,v2,.int .i64 0])∧Below w.heap.size w w'∧
  w'.ownsRow w.heap.size 3 1 v1 Q.length (Q.map (Value.int .i64))∧w'.ownsRow w.heap.size 3 1 v2 R.length (R.map (Value.int .i64))∧
  els P Q=true∧els P R=true∧Bf Q=Q∧Bf R=R∧Q.length≤a.length+1-b.length∧R.length<b.length∧
  ∀x,P∣ez a x- (ez Q x*ez b x+ez R x)
theorem RB.pre{w:World}{b:Nat}{l:List Int}(h:RB w b l)(k:Nat):RB w b (l.take k):=by
 obtain⟨tl,h⟩:=h;refine⟨(l.drop k).map (Value.int .i64)++tl,?_⟩;rw[h,←List.append_assoc,←List.map_append,List.take_append_drop]
def DiR(P:Int)(a b:List Int)(w:World)(bq K:Nat)(s:Value)(wr:World):Prop:=
 ∃(m:Nat) (T Q:List Int),T.length≤1000000∧DV P a b Q T m K∧SI wr s (T.take m)∧(∃A c,s= .slice A m c)∧(b.length≤m→∃g c,s= .slice (some ⟨g,0,none⟩) m c∧m≤c∧RB wr g T∧g≠bq∧w.heap.size≤g)∧BK wr bq Q∧Below w.heap.size w wr
def lenOf(v:Value):Nat:=match v with| .slice _ n _=>n|_=>0
theorem Sc(P:Int)(a b:List Int)(va vb:Value)(w:World)(hp:prB P=true)(ha:SI w va a)(hb:SI w vb b)(hea:els P a=true)(heb:els P b=true)(hla:a.length≤512)(hlb:b.length≤512)(hbn:b≠[])(hbt:gd b (b.length-1)≠0):
  Calls Tryz.prog 131 #[.agg #[.int .i64 P],va,vb] w (DiP P a b w):=by
 have HP:=Zk hp;have hP:=Bj hp;have eC:At P:=by unfold At;omega
 have HA:=Zk ha;have HB:=Zk hb;have EA:=Zk hea;have EB:=Zk heb;have dH:=Zk hbt;have eG:1≤b.length:=by cases b with|nil=>exact absurd rfl hbn|cons=>simp
 have dV:Hid (Bf b=b):=Zk (Nb (.inr hbt));obtain⟨Aa,ca,rfl⟩:=ha.form;obtain⟨Ab,cb,rfl⟩:=hb.form;have cM:Hid (opE P [a,b]=0∧opV P [a,b]=P):=Zk (by
  have h:=Ll (P:=P) (ls:=[a,b]) hp (fun j hj=>by
   have:j=0∨j=1:=by simp at hj;omega
   rcases this with rfl|rfl
   ·exact hea
   ·exact heb)
  exact h.2 (by unfold Dl;simp;omega))
 obtain⟨w1,bH⟩:∃w1:World,w1=(w.alloc (.cells #[.int .i64 P] 31)).alloc (.cells #[.slice Aa a.length ca,.slice Ab b.length cb] 22):=⟨_,rfl⟩;have aZ:Hid (Below w.heap.size w w1):=Zk (by rw[bH];exact ((Zb _ w).alloc (Zl _) _).alloc (by simp) _);have dR:Hid (SL w1 (.slice (some ⟨w.heap.size+1,0,none⟩) 2 2) [a,b]):=Zk (by
  have:=SL.two (w:=w.alloc (.cells #[.int .i64 P] 31)) (ha.below ((Zb _ w).alloc (Zl _) _)) (hb.below ((Zb _ w).alloc (Zl _) _)) 22;show SL _ _ _;rw[bH];simpa using this)
 have dO:Hid (SI w1 (.slice Aa a.length ca) a):=Zk (ha.below aZ.out);have dP:Hid (SI w1 (.slice Ab b.length cb) b):=Zk (hb.below aZ.out);have cQ:Hid ((w.alloc (.cells #[.int .i64 P] 31)).alloc (.cells #[.slice Aa a.length ca,.slice Ab b.length cb] 22)=w1):=bH.symm;clear hp ha hb hea heb hbt bH;go_enter Tryz.func131,Tryz.ntmps131;go_wp2_with fail;refine (Ra P [a,b] _ _ eC (by rw[cQ.out];exact dR.out)).mono ?_;rintro e w2 ⟨rfl,aW⟩;rw[cQ.out] at aW;rw[cM.out.1,cM.out.2];have bN:Hid (Below w.heap.size w w2):=Zk (aZ.out.trans (aW.mono aZ.out.size));have bV:Hid (SI w2 (.slice Aa a.length ca) a):=Zk (dO.out.below aW);have bW:Hid (SI w2 (.slice Ab b.length cb) b):=Zk (dP.out.below aW);clear aW;go_wp2_with fail;(with_reducible refine (Lm a _ _ bV.out (by omega)).mono ?_);rintro e w3 ⟨v3,rfl,cZ,bJ⟩
 have aL:=Zk cZ;have HB3':=Zk bJ;have bO:Hid (Below w.heap.size w w3):=Zk (bN.out.trans (bJ.mono bN.out.size));have aE:Hid (SI w3 (.slice Ab b.length cb) b):=Zk (bW.out.below bJ);clear cZ bJ;go_wp2_with fail;(with_reducible refine (Na b Ab cb _ aE.out).mono ?_);rintro e w4 ⟨rfl,_,rfl⟩
 rw[dV.out];have eP:(Bf a).length≤512:=by have:=Da a;omega
 obtain⟨A3,c3,eA⟩:=(SI.of_own aL.out (Ci hP.2 (Dv EA.out))).form;subst eA;have cN:Hid (SI w3 (.slice A3 (Bf a).length c3) (Bf a)):=Zk (SI.of_own aL.out (Ci hP.2 (Dv EA.out)));obtain⟨N,eN⟩:∃N,N=(Bf a).length:=⟨_,rfl⟩;obtain⟨nb,bF⟩:∃n,n=b.length:=⟨_,rfl⟩;rw[←eN] at cN eP aL;rw[←bF] at eG hlb aE;have HN:=Zk eN;have aB:=Zk bF;rw[←eN,←bF];clear eN bF;have nbz:((nb:Int)==0)=false:=by rw[beq_eq_false_iff_ne];omega
 obtain⟨K,eK⟩:∃K,K=N+1-nb:=⟨_,rfl⟩;have cT:(K:Int)=if nb≤N then (N:Int)- (nb:Int)+1 else 0:=by split<;>omega
 have dJ:=Zk cT;have HK:=Zk eK;have hK512:K≤512:=by omega
 have HSB3':=aE;clear cT eK;rcases Nat.lt_or_ge N nb with eB|eB;all_goals
  go_upto_region 9 with (first
   |(at_make;refine Bn _ rfl _ _ 22 rfl 3 Tryz.underlying22 Bi _ K rfl rfl (by rw[dJ.out];first|(rw[if_neg (by omega)];done)|(rw[if_pos (by omega)];done)) (by omega) ?_))
  obtain⟨w5,bI⟩:∃w5:World,w5=w3.alloc (.cells ((Ay K).map (Value.int .i64)).toArray 3):=⟨_,rfl⟩;rw[←bI];obtain⟨bq,aQ⟩:∃b,b=w3.heap.size:=⟨_,rfl⟩;have dG:Hid (BK w5 bq (Ay K)):=Zk (by rw[bI,aQ];exact Zh w3 _);have bA:Hid (Below w3.heap.size w3 w5):=Zk (by rw[bI];exact (Zb _ w3).alloc (Zl _) _);have bP:Hid (Below w.heap.size w w5):=Zk (bO.out.trans (bA.out.mono bO.out.size));have dN:Hid (SI w5 (.slice A3 N c3) (Bf a)):=Zk (cN.out.below bA.out);have bX:Hid (SI w5 (.slice Ab nb cb) b):=Zk (aE.out.below bA.out);have cL:Hid (w5.ownsRow w2.heap.size 3 1 (.slice A3 N c3) N ((Bf a).map (Value.int .i64))):=Zk (Bm aL.out bA.out);have aS:∀k,(Value.slice A3 N c3).ownBlock=some k→w2.heap.size≤k∧k<bq:=by rw[aQ];exact aL.out.lt
  have h2w:w.heap.size≤w2.heap.size:=bN.out.size;have cF:w.heap.size≤bq:=by rw[aQ];exact bO.out.size
  have hbw2:Hid (∀k,(Value.slice Ab nb cb).ownBlock=some k→k≠bq):=Zk (fun k hk e=>by
   obtain⟨bb,oo,eb,eH,_⟩:=aE.out.cells (by rw[←aB.out];omega);rw[eb] at hk;simp[Value.ownBlock] at hk;omega)
  rw[←aQ];have bL:=Zk aS;clear bI aQ aS;obtain⟨bb,ob,dY,eH,cW⟩:=bX.out.cells (by rw[←aB.out];omega);subst dY;obtain⟨bt,bD⟩:∃x,x=gd b (nb-1):=⟨_,rfl⟩;have cR:w5.cell? ⟨bb,ob+(nb-1),none⟩=some (.int .i64 bt):=by rw[bD,Bw (by rw[←aB.out];omega)];exact cW _ _
  have aY:=Co (Cd hP.1 EB.out (nb-1));rw[←bD] at aY;have bS:=Zk bD;clear cW bD;obtain⟨mb,cB⟩:∃mb,mb=nb-1:=⟨_,rfl⟩;have dZ:(nb:Int)-1=(mb:Int):=by omega
  have v0:(0:Int)≤(mb:Int):=by omega
  have v2:(mb:Int)<(nb:Int):=by omega
  rw[←cB] at cR;have HMB:=Zk cB;clear cB;go_wp2_with fail;(with_reducible refine (Hh P bt _ HP.out aY).mono ?_);rintro e w6 ⟨rfl,rfl⟩
  obtain⟨iv,cA⟩:∃v,v=inv P bt:=⟨_,rfl⟩;have cY:=Ix hP.1 bt;rw[←cA] at cY⊢;have dI:=Zk cA;have hbbw:bb<w.heap.size:=by
   obtain⟨b',o',e,hb',_⟩:=HB.out.cells (by rw[←aB.out];omega);injection e with e;injection e with e1;omega
  have aU:DV P a b (Ay K) (Bf a) N K:=by
   have:=DV.start (P:=P) (a:=a) (b:=b) hP.1 hbn EA.out
   rwa [←HN.out,←aB.out,←HK.out] at this
  have dE:DiR P a b w bq K (.slice A3 N c3) w5:=by
   refine⟨N,Bf a,Ay K,by rw[←HN.out];omega,aU,by rw[List.take_of_length_le (by rw[←HN.out];exact Zl _)];exact dN.out,⟨A3,c3,rfl⟩,fun h=> ?_,dG.out,bP.out⟩
   rw[←aB.out] at h;rcases cL.out.2 with⟨e,e2⟩|⟨g,cap,cur,e,hg,hgc,eJ,_,_,_⟩
   ·omega
   ·injection e with e1 e2 e3;subst e1 e3;have eM:=RB.of_own cL.out rfl;exact⟨g,c3,rfl,eJ,eM.1,fun e=>by have:=(bL.out g rfl).2;omega,by omega⟩
  have dU:=Zk dE;clear cA aU dE cR v2 dZ v0;go_wp2_with fail;go_loopw [11] (fun s wr=>DiR P a b w bq K s wr) (fun s _=>lenOf s)
  case atStart=>exact dU.out
  case round=>
   obtain⟨m,T,Q,hTL,aT,cU,⟨A,c,rfl⟩,aX,cS,aH⟩:=hrel;have aG:=Zk aT;have dQ:=Zk cU;have bB:=Zk cS;have aC:=Zk aH;have cI:=Zk aX;have hmT:m≤T.length:=aT.le;have hmK:m+1≤K+nb:=by have:=aT.fit;rwa [←aB.out] at this
   have eD:Q.length=K:=aT.len;have HSBr:Hid (SI wr (.slice (some ⟨bb,ob,none⟩) nb cb) b):=Zk (by have:=HB.out.below aH;rwa [←aB.out] at this);clear aT cU cS aH aX;rcases Nat.lt_or_ge m nb with bK|bK
   ·have cP:Hid (Bf (T.take m)=T.take m):=Zk (aG.out.rest);have eF:(T.take m).length=m:=by simp;omega
    have dS:Hid (SI wr (.slice (some ⟨bq,0,none⟩) K K) Q):=Zk (by
     have:=bB.out.si (o:=0) (Ci hP.2 aG.out.elQ) (by omega) (Nat.zero_le _);rw[Nat.sub_zero,eD,List.drop_zero] at this;exact this)
    clear cI;go_wp2_with fail;(with_reducible refine (Lm Q _ _ dS.out (by omega)).mono ?_);rintro e w7 ⟨v7,rfl,dA,cE⟩
    have dK:=Zk dA;have cG:=Zk cE;have dT:Hid (SI w7 (.slice A m c) (T.take m)):=Zk (dQ.out.below cE);clear dA cE;go_wp2_with fail;(with_reducible refine (Lm (T.take m) _ _ dT.out (by omega)).mono ?_);rintro e w8 ⟨v8,rfl,dB,cV⟩
    have dL:=Zk dB;have cH:=Zk cV;clear dB cV;have dD:w.heap.size≤w7.heap.size:=Nat.le_trans aC.out.size cG.out.size;go_wp2_with fail;go_ret3
    refine⟨v7,v8,Bf Q,Bf (T.take m),rfl,?_,Bm (Cf dK.out aC.out.size) cH.out,Cf dL.out dD,Dv aG.out.elQ,Dv ?_,Ii _,Ii _,?_,?_,fun x=> ?_⟩
    ·exact (aC.out.trans (cG.out.mono aC.out.size)).trans (cH.out.mono dD)
    ·exact Ce fun x hx=>Be aG.out.elT x (List.mem_of_mem_take hx)
    ·have h1:=Da Q;have h2:=Da a;have h3:=HK.out;have h4:=HN.out;have h5:=aB.out;omega
    ·rw[cP.out,eF,←aB.out];exact bK
    ·rw[Ih,cP.out];exact aG.out.div x
   ·obtain⟨g,c',e,hmc,cD,cX,eI⟩:=cI.out (by rw[←aB.out];exact bK);injection e with e1 e2 e3;subst e1 e3;obtain⟨m1,bE⟩:∃k,k=m-1:=⟨_,rfl⟩;obtain⟨o,eo⟩:∃k,k=m-nb:=⟨_,rfl⟩;have aP:=cD.cell (j:=m-1) (by omega);rw[←Bw,←bE] at aP;obtain⟨tp,cC⟩:∃x,x=gd T m1:=⟨_,rfl⟩;have dF:=Co (Cd hP.1 aG.out.elT m1);rw[←cC] at aP dF;have dC:0≤tp*iv%P∧tp*iv%P<P:=⟨Int.emod_nonneg _ (by omega),Int.emod_lt_of_pos _ (by omega)⟩;obtain⟨qv,eqv⟩:∃x,x=tp*iv%P:=⟨_,rfl⟩;rw[←eqv] at dC;have bT:∀W:World,Calls Tryz.prog 53 #[.int .i64 P,.int .i64 tp,.int .i64 iv] W fun e w'=>e= .returned (.int .i64 qv)∧W=w':=fun W=>(Ef P tp iv W hP dF cY).mono fun e w' ⟨h1,h2⟩=>⟨by rw[h1,eqv],h2⟩
    obtain⟨sb,bG⟩:∃v,v=(0-qv+P)%P:=⟨_,rfl⟩;have eO:0≤sb∧sb<P:=by rw[bG];exact⟨Int.emod_nonneg _ (by omega),Int.emod_lt_of_pos _ (by omega)⟩
    have bZ:∀W:World,Calls Tryz.prog 92 #[.int .i64 P,.int .i64 0,.int .i64 qv] W fun e w'=>e= .returned (.int .i64 sb)∧W=w':=fun W=>(Jv P 0 qv W hP ⟨by omega,by omega⟩ dC).mono fun e w' ⟨h1,h2⟩=>⟨by rw[h1,bG],h2⟩
    have hoK:o<K:=by omega
    have eL:o<Q.length:=by omega
    have dX:=bB.out.cell eL;rw[←Bw] at dX;have feq:=bB.out.frozen o;obtain⟨w7,aR⟩:∃w7:World,w7=wr.setCell ⟨bq,o,none⟩ (.int .i64 qv):=⟨_,rfl⟩;have bQ:Hid (BK w7 bq (Q.set o qv)):=Zk (by rw[aR];exact bB.out.set o qv);have bU:Hid (RB w7 g T):=Zk (by rw[aR];exact cD.setO (p:=⟨bq,o,none⟩) (fun e=>cX e.symm) _)
    have aD:Hid (Below w.heap.size w w7):=Zk (by rw[aR];exact aC.out.setCell (p:=⟨bq,o,none⟩) cF _);have bY:Hid (SI w7 (.slice (some ⟨bb,ob,none⟩) nb cb) b):=Zk (by have:=HB.out.below aD.out;rwa [←aB.out] at this);have eE:o+nb≤T.length:=by omega
    have bM:Hid (∀W:World,RB W g T→SI W (.slice (some ⟨bb,ob,none⟩) nb cb) b→Calls Tryz.prog 49 #[.int .i64 P,.slice (some ⟨g,o,none⟩) nb (c-o),.int .i64 sb,.slice (some ⟨bb,ob,none⟩) nb cb] W fun e w'=>(∃v,e= .returned v)∧RB w' g (Bl P T o sb b)∧W.grownBy w' (some g)):=Zk (fun W h1 h2=>Io P g o nb (c-o) T sb b _ W hP eO aG.out.elT EB.out h1 h2 (fun k hk e=>by simp[Value.ownBlock] at hk;omega) (by rw[←aB.out];exact Zl _) (by rw[←aB.out];exact eE))
    have dW:Hid (wr.setCell ⟨bq,o,none⟩ (.int .i64 qv)=w7):=aR.symm;have aF:=aG.out.step HP.out hbn EB.out dH.out (by rw[←aB.out];exact bK);rw[←aB.out,←bS.out,←dI.out,←bE,←cC,←eqv,←bG,←eo] at aF;have aO:=Zk aF;have em1':(m:Int)-1=(m1:Int):=by omega
    have eo':(m:Int)- (nb:Int)=(o:Int):=by omega
    have u1:(m1:Int)<(m:Int):=by omega
    have u2:(o:Int)<(K:Int):=by omega
    have u3:(o:Int)≤(m:Int):=by omega
    have u4:¬c=o:=by omega
    have u5:(m1:Int)≤(c:Int):=by omega
    have u6:m-o=nb:=by omega
    have hEM:=Zk bE;have hEO:=Zk eo;have hms:m≤100000:=by omega
    clear cD cC eqv bG aR aF bE eo;go_upto_region 14 with (go_at_call 53;refine (bT _).mono ?_;rintro e w9 ⟨rfl,rfl⟩)
    rw[dW.out];go_region_with (first
     |(go_at_call 92;refine (bZ _).mono ?_;rintro e w9 ⟨rfl,rfl⟩)
     |(go_at_call 49;refine (bM.out _ (by exact bU.out) (by exact bY.out)).mono ?_;rintro e w9 ⟨⟨v9,rfl⟩,aV,aJ⟩;have dM:=Zk aV;have cK:Hid (w7.grownBy w9 (some g)):=Zk (⟨aJ.os,aJ.tape,aJ.output,aJ.size,aJ.block⟩);clear aV aJ))
    all_goals
     obtain⟨T2,bC⟩:∃T2,T2=Bl P T o sb b:=⟨_,rfl⟩;have aM:Hid (RB w9 g T2):=Zk (by rw[bC];exact dM.out);have aA:=aO.out;rw[←bC] at aA;have hT2l:T2.length=T.length:=by rw[bC,Bg]
     have cJ:=Zk aA;have bR:Hid (BK w9 bq (Q.set o qv)):=Zk (bQ.out.kept cK.out (by simp;omega));have aK:Hid (Below w.heap.size w w9):=Zk (aD.out.trans (Cm cK.out (by have:=aD.out.size;omega) (fun k hk=>by injection hk with hk;omega)))
     have aI:(T2.take m1).length=m1:=by simp;omega
     have aN:Hid (SI w9 (.slice (some ⟨g,0,none⟩) m1 m1) (T2.take m1)):=Zk (by
      have h0:=(aM.out.pre m1).si (c:=m1) (fun x hx=>Ci hP.2 aA.elT x (List.mem_of_mem_take hx)) (by omega) (by omega)
      rwa [aI] at h0)
     clear bC aA;have cO:=Zk (Na (T2.take m1) (some ⟨g,0,none⟩) m1 w9 (by rw[aI];exact aN.out));rw[aI] at cO;go_wp2_with ((with_reducible refine cO.out.mono ?_);rintro e w10 ⟨rfl,eQ,rfl⟩;clear eQ);go_roundw
     case rel=>
      have hmd:=cJ.out.le;refine⟨_,T2,Q.set o qv,by omega,cJ.out,?_,⟨_,_,rfl⟩,fun h=>⟨g,m1,rfl,?_,aM.out,cX,eI⟩,bR.out,aK.out⟩
      ·have h1:(Bf (T2.take m1)).length≤m1:=by have:=Da (T2.take m1);omega
       have h2:=aN.out.take (m:=(Bf (T2.take m1)).length) (by omega);rw[List.take_take,Nat.min_eq_left h1] at h2;exact h2
      ·have:=Da (T2.take m1);omega
     case measure=>
      show (Bf (T2.take m1)).length<m;have:=Da (T2.take m1);omega
end Go.Proofs.YtoiabanpnkpbhaaGreatDoor
