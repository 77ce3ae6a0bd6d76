/- Parts. -/
import Derived.Lib.RabinKarpLaws
import Derived.Test.YtoiabanpnkpbhaaGreatDoorM36
set_option linter.unusedVariables false
set_option linter.unusedSimpArgs false
set_option maxRecDepth 100000
set_option maxHeartbeats 16000000
namespace Go.Proofs.YtoiabanpnkpbhaaGreatDoor
open Go.RowKit
theorem SI.capB{w:World}{A:Option Addr}{n c:Nat}{l:List Int}(h:SI w (.slice A n c) l):l.length≤c:=by
 obtain⟨A2,c2,e,hc,_⟩:=h;injection e with _ _ e3;omega
def PwG(P a:Int)(n:Nat)(w1:World)(xv av nv:Value)(wr:World):Prop:=
 ∃(x b:Int) (k:Nat),xv= .int .i64 x∧av= .int .i64 b∧nv= .int .i64 k∧k≤70000∧0≤x∧x<P∧0≤b∧b<P∧P∣x*b^k-a^n∧w1=wr
theorem En(P a:Int)(n:Nat)(w:World)(hP:2≤P∧P≤65521)(ha:0≤a∧a<P)(hn:n≤70000):
  Calls Tryz.prog 63 #[.agg #[.int .i64 P],.int .i64 a,.int .i64 n] w fun e w'=>e= .returned (.int .i64 (a^n%P))∧Below w.heap.size w w':=by
 go_enter Tryz.func63,Tryz.ntmps63;obtain⟨F,eF⟩:∃F,F=w.heap.size:=⟨_,rfl⟩;obtain⟨w1,aB⟩:∃w1:World,w1=w.alloc (.cells #[.int .i64 P] 31):=⟨_,rfl⟩;have aH:Hid (w.alloc (.cells #[.int .i64 P] 31)=w1):=aB.symm;have aD:Hid (Below w.heap.size w w1):=Zk (by rw[aB];exact (Zb _ w).alloc (Zl _) _);have aA:Hid (w1.heap[F]? =some (.cells #[.int .i64 P] 31 (0,0))):=Zk (by show _=_;rw[aB,eF];exact Zh w _);go_upto_region 1 with fail
 rw[aH.out,←eF];clear aB eF;have f0:w1.cell? ⟨F,0,none⟩=some (.int .i64 P):=Zc w1 F 0 _ _ _ aA.out;have hP0:¬P=0:=by omega
 have h1:(1:Int).tmod P=1:=by rw[Int.tmod_eq_emod_of_nonneg (by omega)];exact Int.emod_eq_of_lt (by omega) (by omega)
 go_wp2_with fail;go_loopw [7,1,2] (fun xv av nv wr=>PwG P a n w1 xv av nv wr) (fun _ _ nv _=>(intOf nv).toNat)
 case atStart=>exact⟨1,a,n,by first|rfl|simp[h1],rfl,rfl,hn,by omega,by omega,ha.1,ha.2,⟨0,by simp⟩,rfl⟩
 case round=>
  obtain⟨x,b,k,rfl,rfl,rfl,hk,aL,aM,aI,aK,hd,rfl⟩:=hrel;have HD:=Zk hd;clear hd h1;by_cases hk0:k=0
  ·subst hk0;have HX:Hid (x=a^n%P):=Zk (by
    have h:=HD.out;rw[Int.pow_zero,Int.mul_one] at h;have h1:=Int.emod_eq_emod_iff_emod_sub_eq_zero.2 (Int.emod_eq_zero_of_dvd h);rw[Int.emod_eq_of_lt aL aM] at h1;exact h1)
   go_wp2_with fail;go_ret;exact⟨by rw[HX.out];rfl,aD.out⟩
  ·have aO:0≤x*b%P∧x*b%P<P:=⟨Int.emod_nonneg _ (by omega),Int.emod_lt_of_pos _ (by omega)⟩;have aC:0≤b*b%P∧b*b%P<P:=⟨Int.emod_nonneg _ (by omega),Int.emod_lt_of_pos _ (by omega)⟩;have m1:=Eg ⟨aL,aM⟩ ⟨aI,aK⟩ hP.2;have m2:=Eg ⟨aI,aK⟩ ⟨aI,aK⟩ hP.2;have w1_:IntKind.i64.wrap (x*b)=x*b:=by exact Zi _ (by omega)
   have w2_:IntKind.i64.wrap (b*b)=b*b:=by exact Zi _ (by omega)
   have t1_:(x*b).tmod P=x*b%P:=Int.tmod_eq_emod_of_nonneg (by omega);have t2_:(b*b).tmod P=b*b%P:=Int.tmod_eq_emod_of_nonneg (by omega);have w3_:IntKind.i64.wrap (x*b%P)=x*b%P:=by exact Zi _ (by omega)
   have w4_:IntKind.i64.wrap (b*b%P)=b*b%P:=by exact Zi _ (by omega)
   have aF:Hid (∀m:Nat,k=2*m→P∣x*(b*b%P)^m-a^n):=Zk (fun m hm=>by
    have h1:=Lo P x b m;rw[←hm] at h1;exact Bd (Int.dvd_add h1 HD.out) (by omega))
   have aG:Hid (∀m:Nat,k=2*m+1→P∣(x*b%P)*(b*b%P)^m-a^n):=Zk (fun m hm=>by
    have h1:=Te P x b m;rw[←hm] at h1;exact Bd (Int.dvd_add h1 HD.out) (by omega))
   have aJ:=and_one k (by omega);obtain⟨q,eq⟩:∃q,q=k/2:=⟨_,rfl⟩;have aP:(k:Int)/2=(q:Int):=by omega
   have s2_:IntKind.i64.wrap (q:Int)=(q:Int):=by exact Zi _ (by omega)
   have hkz:decide ((0:Int)<(k:Int))=true:=Ze (by omega);have hkz':decide (0<k)=true:=Ze (by omega);obtain⟨r,er⟩:∃r,r=k%2:=⟨_,rfl⟩;rw[←er] at aJ;have hqk:q<k:=by omega
   have aN:q≤70000:=by omega
   rcases Nat.lt_or_ge r 1 with h0|h0
   ·have hr:r=0:=by omega
    subst hr;have aE:=Zk (aF.out q (by omega));clear HD m1 m2 aF aG hk0 eq er hk;go_wp2_with fail;exact⟨⟨_,_,q,rfl,rfl,by first|rfl|simp[aP],aN,aL,aM,aC.1,aC.2,aE.out,rfl⟩,by simp[intOf];omega⟩
   ·have hr:r=1:=by omega
    subst hr;have aE:=Zk (aG.out q (by omega));clear HD m1 m2 aF aG hk0 eq er hk;go_wp2_with fail;exact⟨⟨_,_,q,rfl,rfl,by first|rfl|simp[aP],aN,aO.1,aO.2,aC.1,aC.2,aE.out,rfl⟩,by simp[intOf];omega⟩
theorem zDk{P a:Int}(hP:2≤P)(ha:0≤a∧a<P)(h2:P=2→a≠0):a^(P.toNat-2)%P=inv P a:=by
 unfold inv;by_cases h:a%P=0
 ·rw[if_pos h];have aA:a=0:=by rw[Int.emod_eq_of_lt ha.1 ha.2] at h;exact h
  have hP2:¬P=2:=fun e=>h2 e aA
  obtain⟨k,hk⟩:∃k,P.toNat-2=k+1:=⟨P.toNat-3,by omega⟩;rw[aA,hk,Int.pow_succ];simp
 ·rw[if_neg h]
theorem Mr(P a:Int)(w:World)(hP:2≤P∧P≤65521)(ha:0≤a∧a<P)(h2:P=2→a≠0):
  Calls Tryz.prog 96 #[.agg #[.int .i64 P],.int .i64 a] w fun e w'=>e= .returned (.int .i64 (inv P a))∧Below w.heap.size w w':=by
 go_enter Tryz.func96,Tryz.ntmps96;obtain⟨F,eF⟩:∃F,F=w.heap.size:=⟨_,rfl⟩;obtain⟨w1,aC⟩:∃w1:World,w1=w.alloc (.cells #[.int .i64 P] 31):=⟨_,rfl⟩;have aD:Hid (w.alloc (.cells #[.int .i64 P] 31)=w1):=aC.symm;have aA:Hid (Below w.heap.size w w1):=Zk (by rw[aC];exact (Zb _ w).alloc (Zl _) _);have aB:Hid (w1.heap[F]? =some (.cells #[.int .i64 P] 31 (0,0))):=Zk (by show _=_;rw[aC,eF];exact Zh w _);go_upto_region 1 with fail
 rw[aD.out,←eF];clear aC eF;have f0:w1.cell? ⟨F,0,none⟩=some (.int .i64 P):=Zc w1 F 0 _ _ _ aB.out;obtain⟨n,en⟩:∃n:Nat,(n:Int)=P-2:=⟨(P-2).toNat,by omega⟩;have wn:IntKind.i64.wrap (P-2)=(n:Int):=by rw[en];exact Zi _ (by omega)
 have HI:Hid (a^n%P=inv P a):=Zk (by
  have h:=zDk hP.1 ha h2;rw[show P.toNat-2=n by omega] at h;exact h)
 have hn:n≤70000:=by omega
 clear en h2;go_wp2_with fail;(with_reducible refine (En P a n w1 hP ha hn).mono ?_)
 rintro e w2 ⟨rfl,aE⟩;rw[HI.out];have HB:=Zk (aA.out.trans (aE.mono aA.out.size));clear aE;go_wp2_with fail;go_ret;exact⟨rfl,HB.out⟩
theorem Ja(P x:Int)(p:List Int)(v:Value)(w:World)(hP:2≤P∧P≤65521)(hx:0≤x∧x<P)(he:els P p=true)(hl:p.length≤1000000)(h:SI w v p):
  Calls Tryz.prog 85 #[.agg #[.int .i64 P],v,.int .i64 x] w fun e w'=>e= .returned (.int .i64 (val P p x))∧Below w.heap.size w w':=by
 have HE:=Zk he;obtain⟨A,c,rfl⟩:=h.form;have HS:=Zk h;clear he h;go_enter Tryz.func85,Tryz.ntmps85;obtain⟨F,eF⟩:∃F,F=w.heap.size:=⟨_,rfl⟩;obtain⟨w1,aC⟩:∃w1:World,w1=w.alloc (.cells #[.int .i64 P] 31):=⟨_,rfl⟩;have aD:Hid (w.alloc (.cells #[.int .i64 P] 31)=w1):=aC.symm;have aB:Hid (Below w.heap.size w w1):=Zk (by rw[aC];exact (Zb _ w).alloc (Zl _) _);have aA:Hid (w1.heap[F]? =some (.cells #[.int .i64 P] 31 (0,0))):=Zk (by show _=_;rw[aC,eF];exact Zh w _);have aH:Hid (∀W,Below w1.heap.size w1 W→W.cell? ⟨F,0,none⟩=some (.int .i64 P)):=Zk (fun W hg=>by
  have aJ:=(hg.block F (Ae aA.out)).trans aA.out;exact (Zc W F 0 _ _ _ aJ))
 have aG:=Zk (HS.out.below aB.out);go_upto_region 1 with fail
 rw[aD.out,←eF];clear aC eF;go_wp2_with fail;go_loopw [7,8] (fun nv iv wr=>∃k:Nat,k≤p.length∧nv= .int .i64 (val P (p.drop k) x)∧iv= .int .i64 ((k:Int)-1)∧Below w1.heap.size w1 wr) (fun _ iv _=>((intOf iv)+1).toNat)
 case atStart=>exact⟨p.length,Zl _,by rw[List.drop_length];rfl,by go_num,Zb _ _⟩
 case round=>
  obtain⟨k,hk,rfl,rfl,hb⟩:=hrel;have HB:=Zk hb;clear hb;by_cases hk0:k=0
  ·subst hk0;rw[List.drop_zero];have d0:decide (((0:Nat):Int)-1≥0)=false:=Zd (by omega);have aI:decide ((0:Int)≤((0:Nat):Int)-1)=false:=Zd (by omega);go_wp2_with fail;go_ret;exact⟨rfl,aB.out.trans (HB.out.mono aB.out.size)⟩
  ·obtain⟨j,rfl⟩:∃j,k=j+1:=⟨k-1,by omega⟩;have aE:j<p.length:=by omega
   have ej:((j+1:Nat):Int)-1=(j:Int):=by omega
   rw[ej];have f0:=aH.out wr HB.out;obtain⟨bb,ob,eA,ck⟩:=(aG.out.below HB.out).at aE;subst eA;have HV:Hid (val P (p.drop j) x=(val P (p.drop (j+1)) x*x+p[j])%P):=Ru aE x;have aF:=Nf hP.1 (p.drop (j+1)) x;have aK:=Co (Be HE.out _ (List.getElem_mem aE));obtain⟨s,es⟩:∃s,s=val P (p.drop (j+1)) x:=⟨_,rfl⟩;obtain⟨y,ey⟩:∃y,y=p[j]:=⟨_,rfl⟩;rw[←es] at HV aF⊢;rw[←ey] at HV aK ck;have aM:=Eg aF hx hP.2;have w1_:IntKind.i64.wrap (s*x)=s*x:=by exact Zi _ (by omega)
   have w2_:IntKind.i64.wrap (s*x+y)=s*x+y:=by exact Zi _ (by omega)
   have t1_:(s*x+y).tmod P=(s*x+y)%P:=Int.tmod_eq_emod_of_nonneg (by omega);have hm:=Int.emod_nonneg (s*x+y) (show P≠0 by omega);have aL:=Int.emod_lt_of_pos (s*x+y) (show 0<P by omega);have w3_:IntKind.i64.wrap ((s*x+y)%P)=(s*x+y)%P:=by exact Zi _ (by omega)
   have w4_:IntKind.i64.wrap ((j:Int)-1)=(j:Int)-1:=by exact Zi _ (by omega)
   have hP0:¬P=0:=by omega
   have d0:decide ((j:Int)≥0)=true:=Ze (by omega);have aI:decide ((0:Int)≤(j:Int))=true:=Ze (by omega);have z1:(0:Int)≤(j:Int):=by omega
   have z2:(j:Int)<(p.length:Int):=by omega
   clear es ey aM hm aL ej;go_upto_region 5 with fail
   go_quiet (fail)
   go_wp2_with fail;go_roundw
   case rel=>exact⟨j,by omega,by rw[HV.out],rfl,by first|exact HB.out|exact Below.drewN HB.out _⟩
   case measure=>(simp[intOf];try omega)
theorem Gb(l:List Int)(v:Value)(w:World)(h:SI w v l)(hl:l.length≤1000000):
  Calls Tryz.prog 97 #[v] w fun e w'=>∃v',e= .returned v'∧w'.ownsRow w.heap.size 3 1 v' (Bf l).length ((Bf l).map (Value.int .i64))∧Below w.heap.size w w':=by
 obtain⟨A,c,rfl⟩:=h.form;have HS:=Zk h;clear h;go_enter Tryz.func97,Tryz.ntmps97;go_wp2_with fail;go_loopw [0] (fun pv wr=>∃n:Nat,n≤l.length∧pv= .slice A n c∧(∀k,n≤k→gd l k=0)∧w=wr) (fun pv _=>match pv with| .slice _ n _=>n|_=>0)
 case atStart=>exact⟨l.length,Zl _,rfl,fun k hk=>Ee hk,rfl⟩
 case round=>
  obtain⟨n,hn,rfl,hz,rfl⟩:=hrel;have HZ:=Zk hz;clear hz;have HT:Hid ((n=0∨gd l (n-1)≠0)→Bf l=l.take n):=Zk (fun h=>Ij hn HZ.out h)
  have aB:Hid (Bf l=l.take n→∀(X:Value) (W:World),W.ownsRow w.heap.size 3 1 X ([]++l.take n).length (([]++l.take n).map (Value.int .i64))→W.ownsRow w.heap.size 3 1 X (Bf l).length ((Bf l).map (Value.int .i64))):=Zk (fun e X W h=>by rw[e];simpa using h)
  have aF:Hid (SI w (.slice A n c) (l.take n)):=Zk (HS.out.take hn);by_cases hn0:n=0
  ·have e:=HT.out (.inl hn0);have HE:=Zk e;clear e;have d0:decide ((0:Int)<(n:Int))=false:=Zd (by omega);have aI:decide (0<n)=false:=Zd (by omega);go_wp2_with (at_builtin;refine Bv _ rfl _ _ 22 rfl w.heap.size 3 Tryz.underlying22 Bi (.slice none 0 0) [] rfl (World.ownsRow_nil _ _ _ _) _ _ (l.take n) rfl aF.out (by simp;omega) (Zl _) ?_;intro v2 w2 aA aC;have aE:=Zk aA;have aD:=Zk aC;clear aA aC);go_ret;exact⟨_,rfl,aB.out HE.out _ _ aE.out,(Zb _ w).grown aD.out (Zl _) (fun k hk=>by simp[Value.ownBlock] at hk)⟩
  ·have d0:decide ((0:Int)<(n:Int))=true:=Ze (by omega);have aI:decide (0<n)=true:=Ze (by omega);obtain⟨j,rfl⟩:∃j,n=j+1:=⟨n-1,by omega⟩;have aG:j<l.length:=by omega
   obtain⟨bb,ob,eA,ck⟩:=HS.out.at aG;subst eA;have w1_:IntKind.i64.wrap (((j+1:Nat):Int)-1)=(j:Int):=by rw[show ((j+1:Nat):Int)-1=(j:Int) by omega];exact Zi _ (by omega)
   have w2_:IntKind.i64.wrap ((j:Int)+1-1)=(j:Int):=by rw[show (j:Int)+1-1=(j:Int) by omega];exact Zi _ (by omega)
   have z1:(0:Int)≤(j:Int):=by omega
   have z2:(j:Int)<(j:Int)+1:=by omega
   have z3:(j:Int)≤(c:Int):=by have:=HS.out.capB;omega
   have hg:gd l j=l[j]:=Bw aG;by_cases hy:l[j]=0
   ·rw[hy] at ck;go_wp2_with fail;go_roundw
    case rel=>exact⟨j,by omega,rfl,fun k hk=>by
     rcases Nat.lt_or_ge j k with h|h
     ·exact HZ.out k (by omega)
     ·rw[show k=j by omega,hg,hy],by simp⟩
    case measure=>simp
   ·have aH:gd l (j+1-1)≠0:=by rw[Nat.add_sub_cancel,hg];exact hy
    have HE:=Zk (HT.out (.inr aH));obtain⟨y,ey⟩:∃y,y=l[j]:=⟨_,rfl⟩;rw[←ey] at ck hy;have dy:(y==0)=false:=by rw[beq_eq_false_iff_ne];exact hy
    clear aH hg ey;go_wp2_with (at_builtin;refine Bv _ rfl _ _ 22 rfl w.heap.size 3 Tryz.underlying22 Bi (.slice none 0 0) [] rfl (World.ownsRow_nil _ _ _ _) _ _ (l.take (j+1)) rfl aF.out (by simp;omega) (Zl _) ?_;intro v2 w2 aA aC;have aE:=Zk aA;have aD:=Zk aC;clear aA aC);go_ret;exact⟨_,rfl,aB.out HE.out _ _ aE.out,(Zb _ w).grown aD.out (Zl _) (fun k hk=>by simp[Value.ownBlock] at hk)⟩
open Go.RowKit
theorem Iz(P:Int)(ls:List (List Int))(v:Value)(w:World)(hP:At P)(h:SL w v ls)(hz:ls.length≤1000000):
  Calls Tryz.prog 84 #[.agg #[.int .i64 P],v] w fun e w'=>e= .returned (.int .i64 (opE P ls))∧Below w.heap.size w w':=by
 obtain⟨Ar,cr,rfl,aQ⟩:=h.at
 have aJ:=Zk aQ
 clear aQ h;go_enter Tryz.func84,Tryz.ntmps84;obtain⟨F,eF⟩:∃F,F=w.heap.size:=⟨_,rfl⟩;obtain⟨w1,aE⟩:∃w1:World,w1=w.alloc (.cells #[.int .i64 P] 31):=⟨_,rfl⟩;have aG:Hid (w.alloc (.cells #[.int .i64 P] 31)=w1):=aE.symm;have aA:Hid (Below w.heap.size w w1):=Zk (by rw[aE];exact (Zb _ w).alloc (Zl _) _);have aB:Hid (w1.heap[F]? =some (.cells #[.int .i64 P] 31 (0,0))):=Zk (by show _=_;rw[aE,eF];exact Zh w _);have aP:Hid (∀W,Below w1.heap.size w1 W→W.cell? ⟨F,0,none⟩=some (.int .i64 P)):=Zk (fun W hg=>by
  have aX:=(hg.block F (Ae aB.out)).trans aB.out;exact (Zc W F 0 _ _ _ aX))
 go_upto_region 1 with fail
 rw[aG.out,←eF];clear aE eF;have f0:=aP.out w1 (Zb _ _);go_wp2_with fail;(with_reducible refine (Em P _ hP).mono ?_)
 rintro e w2 ⟨rfl,aR⟩;have aK:Hid (Below w1.heap.size w1 w2):=aR;clear aR f0
 cases hp:prB P with
 |false=>
  have aD:rcE P=9:=Kw hp;have HE:Hid (opE P ls=9):=(zFu hp).1;rw[aD];clear hp aD;go_wp2_with fail;go_ret;exact⟨by rw[HE.out];rfl,aA.out.trans (aK.out.mono aA.out.size)⟩
 |true=>
  have aD:rcE P=0:=Oa hp;have HP:=Zk hp;rw[aD];clear hp aD;go_wp2_with fail;go_loopw [17] (fun iv wr=>∃k:Nat,k≤ls.length∧iv= .int .i64 k∧(∀j (_:j<k) (h:j<ls.length),els P ls[j]=true)∧Below w1.heap.size w1 wr) (fun iv _=>ls.length- (intOf iv).toNat)
  case atStart=>exact⟨0,Nat.zero_le _,rfl,fun j hj=>by omega,aK.out⟩
  case round=>
   obtain⟨k,hk,rfl,aT,hb⟩:=hrel;have aM:=Zk aT;have HB:=Zk hb;clear aT hb;by_cases hlk:k<ls.length
   ·have dk:decide (k<ls.length)=true:=Ze hlk;obtain⟨bh,oh,B,d,eA,hW⟩:=aJ.out k hlk;subst eA;obtain⟨ck,aV⟩:=hW wr (aA.out.trans (HB.out.mono aA.out.size));have aO:=Zk aV;have f0:=aP.out wr HB.out;obtain⟨q,eq⟩:∃q,q=ls[k].length:=⟨_,rfl⟩;rw[←eq] at ck aO;clear hW aV eq;go_wp2_with fail;(with_reducible refine (Ei P _ _ wr hP aO.out).mono ?_)
    rintro e w3 ⟨rfl,aS⟩;have aL:Hid (Below w1.heap.size w1 w3):=Zk (HB.out.trans (aS.mono HB.out.size));clear aS f0 ck;have aI:inB P ls[k]=els P ls[k]:=by unfold inB;rw[HP.out];rfl
    rw[aI]
    cases he:els P ls[k] with
    |false=>
     have HE:Hid (opE P ls=9):=(zFt HP.out hlk he).1;clear he aI;go_wp2_with fail;go_ret;exact⟨by rw[HE.out];rfl,aA.out.trans (aL.out.mono aA.out.size)⟩
    |true=>
     have HE:=Zk he;clear he aI;go_wp2_with fail;go_roundw
     case rel=>exact⟨k+1,by omega,by go_num,fun j hj h=>by
      rcases Nat.lt_or_ge j k with h1|h1
      ·exact aM.out j h1 h
      ·have e:j=k:=by omega
       subst e;exact HE.out,aL.out⟩
     case measure=>simp[intOf];omega
   ·have dk:decide (k<ls.length)=false:=Zd hlk;have aC:=Zk (Ll (P:=P) HP.out fun j h=>aM.out j (by omega) h)
    clear hk;go_wp2_with fail;go_loopw [28] (fun iv wz=>∃j:Nat,j≤ls.length∧iv= .int .i64 j∧Dl (ls.take j)=false∧wr=wz) (fun iv _=>ls.length- (intOf iv).toNat)
    case atStart=>exact⟨0,Nat.zero_le _,rfl,by simp[Dl],rfl⟩
    case round=>
     obtain⟨j,hj,rfl,aU,rfl⟩:=hrel;have aN:=Zk aU;clear aU;by_cases hlj:j<ls.length
     ·have dj:decide (j<ls.length)=true:=Ze hlj;obtain⟨bh,oh,B,d,eA,hW⟩:=aJ.out j hlj;subst eA;obtain⟨ck,_⟩:=hW wr (aA.out.trans (HB.out.mono aA.out.size));have aF:=Zk (Mh ls j hlj);obtain⟨q,eq⟩:∃q,q=ls[j].length:=⟨_,rfl⟩;rw[←eq] at ck aF;clear hW eq;by_cases hq:512<q
      ·have dq:decide ((512:Int)<(q:Int))=true:=Ze (by omega);have aH:decide (512<q)=true:=Ze hq;have HE:Hid (opE P ls=4):=Zk ((aC.out.1 (by
        have h1:=aF.out;rw[aH,Bool.or_true] at h1;unfold Dl at h1⊢;rw[List.any_eq_true] at h1⊢;obtain⟨x,hx,h2⟩:=h1;exact⟨x,List.mem_of_mem_take hx,h2⟩)).1)
       clear hq;go_wp2_with fail;go_ret;exact⟨by rw[HE.out];rfl,aA.out.trans (HB.out.mono aA.out.size)⟩
      ·have dq:decide ((512:Int)<(q:Int))=false:=Zd (by omega);have aH:decide (512<q)=false:=Zd hq;have aW:Hid (Dl (ls.take (j+1))=false):=Zk (by show _=_;rw[aF.out,aN.out,aH];rfl);clear hq;go_wp2_with fail;go_roundw
       case rel=>exact⟨j+1,by omega,by go_num,aW.out,by simp⟩
       case measure=>simp[intOf];omega
     ·have dj:decide (j<ls.length)=false:=Zd hlj;have HE:Hid (opE P ls=0):=Zk ((aC.out.2 (by
       have h:=aN.out;rw[List.take_of_length_le (by omega)] at h;exact h)).1)
      go_wp2_with fail;go_ret;exact⟨by rw[HE.out];rfl,aA.out.trans (HB.out.mono aA.out.size)⟩
theorem Xa{P x v:Int}(t:List Int)(k:Nat)(hk:k+1<t.length):
  (t.set (k+1) ((gd t (k+1)+v)%P)).set k ((gd t k+(P-x)*v)%P)=Bl P t k v [(0-x+P)%P,1]:=by
 refine Cb (by simp[Bg]) fun j hj=> ?_
 have hj':j<t.length:=by simpa using hj
 rw[Dw _ _ _ _ _ (by simp;omega),Dj _ _ _ _ (by simp;omega),Dj _ _ _ _ (by omega)];have aA:(P:Int)∣v*((0-x+P)%P)- (P-x)*v:=by
  have h:=Int.emod_add_mul_ediv (0-x+P) P;refine⟨-(v*((0-x+P)/P)),?_⟩;have e:(0-x+P)%P=(P-x)-P*((0-x+P)/P):=by omega
  rw[e,Int.mul_sub,Int.mul_neg,Int.mul_comm v (P-x),Int.mul_left_comm v P];omega
 by_cases h1:j=k
 ·subst h1;rw[if_pos rfl,if_pos (by simp)];have e:gd [(0-x+P)%P,1] (j-j)=(0-x+P)%P:=by rw[Nat.sub_self];rfl
  rw[e];exact (Int.emod_eq_emod_iff_emod_sub_eq_zero.2 (Int.emod_eq_zero_of_dvd (by
   have e2:gd t j+(P-x)*v- (gd t j+v*((0-x+P)%P))= -(v*((0-x+P)%P)- (P-x)*v):=by omega
   rw[e2];exact Int.dvd_neg.2 aA)))
 ·rw[if_neg h1];by_cases h2:j=k+1
  ·subst h2;rw[if_pos rfl,if_pos (by simp)];have e:gd [(0-x+P)%P,1] (k+1-k)=1:=by rw[Nat.add_sub_cancel_left];rfl
   rw[e,Int.mul_one]
  ·rw[if_neg h2,if_neg (by simp;omega)]
theorem nz2{l:List (Int×Int)}(hn:(shX l).Nodup)(he:els 2 (shX l)=true){k:Nat}(hk:k<l.length):val 2 (Df 2 (l.take k)).2 l[k].1≠0:=by
 have hX:∀j (h:j<l.length),0≤l[j].1∧l[j].1<2:=fun j h=>Co (Be he _ (List.mem_map.2 ⟨l[j],List.getElem_mem h,rfl⟩))
 have hD:∀i j (hi:i<l.length) (hj:j<l.length),i≠j→l[i].1≠l[j].1:=fun i j hi hj aA e=>by
  have h1:(shX l)[i]'(by rw[Fb];exact hi)=(shX l)[j]'(by rw[Fb];exact hj):=by simp[shX,e]
  exact aA ((List.getElem_inj hn).1 h1)
 match k,hk with
 |0,hk=>simp[Df,val]
 |1,hk=>
  have e:l.take 1=[l[0]]:=by
   rw[List.take_succ_eq_append_getElem (by omega)];rfl
  have h0:=hX 0 (by omega);have h1:=hX 1 hk;have aA:=hD 1 0 hk (by omega) (by omega);rw[e];obtain⟨a,ea⟩:∃a,a=l[0]:=⟨_,rfl⟩;obtain⟨x,ex⟩:∃x,x=l[1].1:=⟨_,rfl⟩;rw[←ea] at h0 aA⊢;rw[←ex] at h1 aA⊢;obtain⟨a1,a2⟩:=a;have hc:(a1=0∧x=1)∨(a1=1∧x=0):=by
   have h3:a1≠x:=fun e=>aA e.symm
   have h4:0≤a1∧a1<2:=h0;omega
  rcases hc with⟨rfl,rfl⟩|⟨rfl,rfl⟩<;>simp[Df,Ir,Du,Bl,val,Ay,gd,List.range_succ]
 |k+2,hk=>
  exfalso;have h0:=hX 0 (by omega);have h1:=hX 1 (by omega);have h2:=hX 2 (by omega);have d1:=hD 0 1 (by omega) (by omega) (by omega);have d2:=hD 0 2 (by omega) (by omega) (by omega);have d3:=hD 1 2 (by omega) (by omega) (by omega);omega
def Rj2(xs:List Int)(w4:World)(iv:Value)(wr:World):Prop:=
 ∃k:Nat,k≤xs.length∧iv= .int .i64 k∧(xs.take k).Nodup∧Below w4.heap.size w4 wr
def Rj3(P x:Int)(s2:List Int)(b:Nat)(w6:World)(iv:Value)(wr:World):Prop:=
 ∃k:Nat,k≤s2.length∧iv= .int .i64 k∧BK wr b (Cz P s2 [(0-x+P)%P,1] k)∧Below w6.heap.size w6 wr
theorem BK.si0{w:World}{b:Nat}{l:List Int}(h:BK w b l)(hr:∀x∈l,At x)(hl:l.length≤1000000):SI w (.slice (some ⟨b,0,none⟩) l.length l.length) l:=SI.of_own (BK.own h (base:=0) (by omega) hl) hr
theorem zCe(w:World):SI w (.slice none 0 0) []:=SI.of_own (base:=0) (e:=3) (World.ownsRow_nil _ _ _ _) (fun x hx=>by simp at hx)
theorem Li{a b P:Int}(ha:0≤a∧a≤P)(hb:0≤b∧b<P)(hP:P≤65521):0≤a*b∧a*b≤4293001441:=by
 have h0:0≤a*b:=Int.mul_nonneg ha.1 hb.1;have h1:a*b≤P*P:=Int.mul_le_mul ha.2 (by omega) hb.1 (by omega);have h2:P*P≤65521*65521:=Int.mul_le_mul hP hP (by omega) (by omega);omega
theorem Ps{w:World}{a:Addr}{v:Value}(h:w.cell? a=some v):a.block<w.heap.size:=by
 unfold World.cell? at h;split at h
 ·rename_i e;exact (Array.getElem?_eq_some_iff.1 e).1
 ·cases h
theorem Sy{xs:List Int}{k:Nat}(hk:k<xs.length)(h:(xs.take k).Nodup)(hn:∀j (hj:j<k),xs[k]≠xs[j]'(by omega)):(xs.take (k+1)).Nodup:=by
 rw[List.take_succ_eq_append_getElem hk];refine List.nodup_append.2 ⟨h,by simp,fun a ha b hb e=> ?_⟩
 simp at hb;subst hb;rw[List.mem_iff_getElem] at ha;obtain⟨j,hj,rfl⟩:=ha;have aA:j<k:=by simp at hj;omega
 have:=hn j aA;simp at e;exact this e.symm
theorem Rh(P:Int)(l:List (Int×Int))(v:Value)(w:World)(hP:At P)(h:SG pcs 2 w.heap.size w v l)(bI:l.length≤1000000):
  Calls Tryz.prog 71 #[.agg #[.int .i64 P],v] w fun e w'=>∃v',e= .returned (.tuple #[v',.int .i64 (inE P l)])∧w'.ownsRow w.heap.size 3 1 v' (inP P l).length ((inP P l).map (Value.int .i64))∧Below w.heap.size w w':=by
 obtain⟨A,c,rfl,hc,hm,hr,ha⟩:=Ib h;have HA:=Zk ha;have HR:=Zk hr;clear ha hr h hc hm;go_enter Tryz.func71,Tryz.ntmps71;obtain⟨F,eF⟩:∃F,F=w.heap.size:=⟨_,rfl⟩;obtain⟨w1,cF⟩:∃w1:World,w1=w.alloc (.cells #[.int .i64 P] 31):=⟨_,rfl⟩;have dW:Hid (w.alloc (.cells #[.int .i64 P] 31)=w1):=cF.symm;have aE:Hid (Below w.heap.size w w1):=Zk (by rw[cF];exact (Zb _ w).alloc (Zl _) _);have aS:Hid (w1.heap[F]? =some (.cells #[.int .i64 P] 31 (0,0))):=Zk (by show _=_;rw[cF,eF];exact Zh w _);have cD:Hid (∀W,Below w1.heap.size w1 W→W.cell? ⟨F,0,none⟩=some (.int .i64 P)):=Zk (fun W hg=>by
  have hY:=(hg.block F (Ae aS.out)).trans aS.out;exact (Zc W F 0 _ _ _ hY))
 have hz1:w.heap.size<w1.heap.size:=by rw[cF];simp
 go_upto_region 2 with fail
 rw[dW.out,←eF];clear cF eF;go_wp2_with fail;go_loopw [27,6,7] (fun i v6 v7 wr=>InR1 l w1.heap.size w1 i v6 v7 wr) (fun i _ _ _=>l.length- (intOf i).toNat)
 case atStart=>exact⟨0,Nat.zero_le _,rfl,⟨World.ownsRow_nil _ _ _ _,World.ownsRow_nil _ _ _ _,fun k hk=>by simp[Value.ownBlock] at hk⟩,Zb _ _⟩
 case round=>
  obtain⟨k,hk,rfl,hT,hB⟩:=hrel;have HT:=Zk hT;have HB:=Zk hB;have iO:=hB.size;clear hT hB;by_cases hlt:k<l.length
  ·obtain⟨b,dD,rfl,hb,aT⟩:=HA.out (by omega);obtain⟨k0,k1⟩:=aT k hlt;have e0:=(HB.out.cell (p:=⟨b,dD+k*2,none⟩) (by show b<_;omega)).trans ((aE.out.cell hb).trans k0);have e1:=(HB.out.cell (p:=⟨b,dD+k*2+1,none⟩) (by show b<_;omega)).trans ((aE.out.cell hb).trans k1);have HX:=Zk (Ro l k hlt);have HY:=Zk (Rp l k hlt);have hxl:(shX (l.take k)).length≤k:=by rw[Fb];exact List.length_take_le _ _
   have hyl:(shY (l.take k)).length≤k:=by rw[Gs];exact List.length_take_le _ _
   have eO:decide ((k:Int)<(l.length:Int))=true:=Ze (by omega);have eP:decide (k<l.length)=true:=Ze hlt;clear aT k0 k1;go_upto_region 5 with fail
   obtain⟨wG,ew⟩:∃wG:World,wG=wr.alloc (.cells #[.int .i64 l[k].1,.int .i64 l[k].2] 114):=⟨_,rfl⟩;have gG:Below wr.heap.size wr wG:=by rw[ew];exact (Zb _ _).alloc (Zl _) _
   have iN:wr.heap.size<wG.heap.size:=by rw[ew];simp
   have x0:wG.cell? ⟨wr.heap.size,0,none⟩=some (.int .i64 l[k].1):=by rw[ew];exact Zc _ _ 0 _ _ (0,0) (Zh wr _)
   have x1:wG.cell? ⟨wr.heap.size,1,none⟩=some (.int .i64 l[k].2):=by rw[ew];exact Zc _ _ 1 _ _ (0,0) (Zh wr _)
   have hR:Hid (Dr w1.heap.size wG u6 (shX (l.take k)) u7 (shY (l.take k))):=by show Dr _ _ _ _ _ _;rw[ew];exact HT.out.alloc _
   have HG:Hid (∀q,u6.ownBlock=some q∨u7.ownBlock=some q→q≠wr.heap.size):=fun q hq=>by
    rcases hq with hq|hq
    ·have:=(HT.out.1.lt q hq).2;omega
    ·have:=(HT.out.2.1.lt q hq).2;omega
   rw[←ew];clear ew;apply regI5 w1.heap.size wr.heap.size l[k].1 l[k].2 (shX (l.take k)) (shY (l.take k)) u6 u7 wG hR.out x0 x1 HG.out iN (by omega) (by omega) (by omega);intro q27 q28 q29 q30 q31 q32 q33 q34 q35 q36 v6 v7 w2 gB cG;have hQ:=Zk gB;have aM:Hid (Below w1.heap.size w1 w2):=Zk ((HB.out.trans (gG.mono iO)).trans cG);clear gB x0 x1 gG cG;go_wp2_with fail;go_roundw
   case rel=>exact⟨k+1,by omega,by go_num,by rw[HX.out,HY.out];exact hQ.out,aM.out⟩
   case measure=>simp[intOf];omega
  ·have gR:k=l.length:=by omega
   have dU:Hid (Dr w1.heap.size wr u6 (shX l) u7 (shY l)):=by show Dr _ _ _ _ _ _;have:=HT.out;rwa [gR,List.take_length] at this
   have eO:decide ((k:Int)<(l.length:Int))=false:=Zd (by omega);have eP:decide (k<l.length)=false:=Zd hlt;have cW:SI wr u6 (shX l):=SI.of_own dU.out.1 (fun x hx=>by
    simp only[shX,List.mem_map] at hx;obtain⟨p,hp,rfl⟩:=hx;exact (HR.out p hp).1)
   have cZ:SI wr u7 (shY l):=SI.of_own dU.out.2.1 (fun x hx=>by
    simp only[shY,List.mem_map] at hx;obtain⟨p,hp,rfl⟩:=hx;exact (HR.out p hp).2)
   obtain⟨AX,cX,rfl⟩:=cW.form;obtain⟨AY,cY,rfl⟩:=cZ.form;have dP:=Zk (SL.two cW cZ 22);have dQ:=Zk cW;have dS:=Zk cZ;have f0:=cD.out wr HB.out;clear gR cW cZ hk HT dU;obtain⟨L,eL⟩:∃L,L=l.length:=⟨_,rfl⟩;rw[Fb,Gs] at*;rw[←eL] at dP dQ dS eO eP hlt⊢;have bB:=Zk eL;have hLb:L≤1000000:=by omega
   clear eL;go_wp2_with fail;(with_reducible refine (Iz P [shX l,shY l] _ _ hP dP.out (by simp)).mono ?_)
   rintro e w2 ⟨rfl,cG⟩;have aQ:Below wr.heap.size wr w2:=((Zb _ _).alloc (Zl _) _).trans (cG.mono (by simp));have aM:Hid (Below w1.heap.size w1 w2):=Zk (HB.out.trans (aQ.mono HB.out.size));have bW:=Zk (SI.below dQ.out aQ);have bX:=Zk (SI.below dS.out aQ);have bA:Hid (Below w.heap.size w w2):=Zk (aE.out.trans (aM.out.mono aE.out.size));obtain⟨oe,eE⟩:∃oe,opE P [shX l,shY l]=oe:=⟨_,rfl⟩;rw[eE];have bO:=Zk eE;clear eE aQ cG eO eP f0 hlt;by_cases h0:oe=0
   ·subst h0;obtain⟨hp,gK,gL,iJ,eW⟩:=Uz bO.out;have HP:=Zk hp;have fL:=Zk gK;have hF:=Zk gL;have aB:=Bj hp;rw[Fb,←bB.out] at iJ;clear hp gK gL eW;have aL:Hid ((shX l).length=L):=Zk (by show _=_;rw[Fb,bB.out]);go_wp2_with fail;go_loopw [52] (fun i wr=>Rj2 (shX l) w2 i wr) (fun i _=>L- (intOf i).toNat)
    case atStart=>exact⟨0,Nat.zero_le _,rfl,by simp,Zb _ _⟩
    case round=>
     obtain⟨k2,iI,rfl,dB,eK⟩:=hrel;have dM:=Zk dB;have aR:=Zk eK;have aH:=Zk (bW.out.below eK);rw[aL.out] at iI;clear dB eK;by_cases hlt2:k2<L
     ·have gH:decide (k2<L)=true:=Ze hlt2;have eU:k2<(shX l).length:=by rw[aL.out];exact hlt2
      obtain⟨bx,ox,bF,ck⟩:=aH.out.at eU;subst bF;obtain⟨xk,eJ⟩:∃xk,xk=(shX l)[k2]:=⟨_,rfl⟩;rw[←eJ] at ck;have fU:=Zk eJ;have iD:=aH.out.capB;rw[aL.out] at iD;have z0:(0:Int)≤(k2:Int):=by omega
      have z1:(k2:Int)≤(cX:Int):=by omega
      have fI:Hid (∀W,Below wr.heap.size wr W→W.cell? ⟨bx,ox+k2,none⟩=some (.int .i64 xk)):=Zk (fun W hb=>(hb.cell (Ps ck)).trans ck)
      obtain⟨wo,fY⟩:∃wo:World,wo=wr:=⟨_,rfl⟩;rw[←fY] at aH aR fI⊢;clear eJ ck fY;go_wp2_with fail;go_loopw [59] (fun i wr=>∃j:Nat,j≤k2∧i= .int .i64 j∧(∀q (hq:q<j) (h:q<(shX l).length),xk≠(shX l)[q])∧Below wo.heap.size wo wr) (fun i _=>k2- (intOf i).toNat)
      case atStart=>exact⟨0,Nat.zero_le _,rfl,fun q hq=>by omega,Zb _ _⟩
      case round=>
       obtain⟨j,hj,rfl,gU,gC⟩:=hrel;have fP:=Zk gU;have bJ:=Zk gC;clear gU gC;by_cases hlj:j<k2
       ·have dj:decide (j<k2)=true:=Ze hlj;have iH:j<(shX l).length:=by rw[aL.out];omega
        obtain⟨bx',ox',bF,cj⟩:=(aH.out.below bJ.out).at iH;injection bF with bF;injection bF with ebx eox _;subst ebx eox;have ck:=fI.out wr bJ.out;obtain⟨xj,eI⟩:∃xj,xj=(shX l)[j]:=⟨_,rfl⟩;rw[←eI] at cj;have fT:=Zk eI;have z3:(0:Int)≤(j:Int):=by omega
        have z4:(j:Int)<(L:Int):=by omega
        have z5:(k2:Int)<(L:Int):=by omega
        clear eI;by_cases hxx:xk=xj
        ·have dx:(xk==xj)=true:=by rw[beq_iff_eq];exact hxx
         have HE:=Zk (zFp bO.out (fun dB=>by
          have h1:(shX l)[k2]'(by rw[aL.out];exact hlt2)=(shX l)[j]:=by rw[←fU.out,←fT.out];exact hxx
          have h2:=(List.getElem_inj dB).1 h1;omega))
         have cI:Hid (Below w.heap.size w wr):=Zk (bA.out.trans ((aR.out.trans (bJ.out.mono aR.out.size)).mono bA.out.size));go_upto_region 16 with fail
         go_quiet (fail)
         go_wp2_with fail;go_ret2;refine⟨.slice none 0 0,by rw[HE.out.1];rfl,by rw[HE.out.2];exact World.ownsRow_nil _ _ _ _,by first|exact cI.out|exact Below.drewN cI.out _⟩
        ·have dx:(xk==xj)=false:=by rw[beq_eq_false_iff_ne];exact hxx
         have fE:=Zk hxx;clear hxx;go_upto_region 16 with fail
         go_quiet (fail)
         go_wp2_with fail;go_roundw
         case rel=>exact⟨j+1,by omega,by go_num,fun q hq h=>by
          rcases Nat.lt_or_ge q j with h1|h1
          ·exact fP.out q h1 h
          ·have e:q=j:=by omega
           subst e;rw[←fT.out];exact fE.out,by first|exact bJ.out|exact Below.drewN bJ.out _⟩
         case measure=>simp[intOf];omega
       ·have dj:decide (j<k2)=false:=Zd hlj;have hK:Hid (((shX l).take (k2+1)).Nodup):=Zk (Sy (by rw[aL.out];exact hlt2) dM.out fun q hq=>by
         rw[←fU.out];exact fP.out q (by omega) (by rw[aL.out];omega))
        go_wp2_with fail;go_roundw
        case rel=>exact⟨k2+1,by rw[aL.out];omega,by go_num,hK.out,aR.out.trans (bJ.out.mono aR.out.size)⟩
        case measure=>simp[intOf];omega
     ·have gH:decide (k2<L)=false:=Zd hlt2;have fQ:Hid ((shX l).Nodup):=Zk (by
       have h:=dM.out;rw[List.take_of_length_le (by rw[aL.out];omega)] at h;exact h)
      have bY:=Zk (bX.out.below aR.out);have bR:Hid (Below w1.heap.size w1 wr):=Zk (aM.out.trans (aR.out.mono aM.out.size));obtain⟨w3,cS⟩:∃w3:World,w3=wr.alloc (.cells #[.int .i64 1] 3):=⟨_,rfl⟩;have hS:Hid (wr.alloc (.cells #[.int .i64 1] 3)=w3):=cS.symm;have dE:Hid (Below wr.heap.size wr w3):=Zk (by rw[cS];exact (Zb _ _).alloc (Zl _) _);have hH:Hid (BK w3 wr.heap.size [1]):=Zk (by rw[cS];exact Zh wr _);have hL:Hid (SI w3 (.slice (some ⟨wr.heap.size,0,none⟩) 1 1) [1]):=Zk (hH.out.si0 (fun x hx=>by simp at hx;subst hx;unfold At;omega) (by simp))
      have dR:=Zk (aH.out.below dE.out);have dT:=Zk (bY.out.below dE.out);have bP:Hid (Below w1.heap.size w1 w3):=Zk (bR.out.trans (dE.out.mono bR.out.size));clear cS;go_upto_region 22 with fail
      rw[hS.out];go_wp2_with fail;clear dP dQ dS bW bX aH bY dM aR gH;go_loopw [76,13,14] (fun i vp vn wr=>InR3 P l w3.heap.size w3 i vp vn wr) (fun i _ _ _=>L- (intOf i).toNat)
      case atStart=>exact⟨0,Nat.zero_le _,rfl,zCe _,hL.out,Zb _ _⟩
      case round=>
       obtain⟨k,hk,rfl,fD,fC,hb⟩:=hrel;rw[←bB.out] at hk;have bE:=Zk fD;have bZ:=Zk fC;have HB:=Zk hb;have aD:Hid (Below w1.heap.size w1 wr):=Zk (bP.out.trans (hb.mono bP.out.size));obtain⟨AP,cp,hX⟩:=fD.form;obtain⟨AN,cn,hW⟩:=fC.form;subst hX hW;clear fD fC hb;have aN:=Mk P (l.take k);have gS:(l.take k).length=k:=by rw[List.length_take,←bB.out];omega
       rw[gS] at aN;obtain⟨gI,gJ⟩:=Jo aB.1 (l.take k);have bK:=Zk gI;have bS:=Zk gJ;by_cases hlt:k<L
       ·have iE:decide (k<L)=true:=Ze hlt;have dA:k<l.length:=by rw[←bB.out];exact hlt
        have dN:=Zk (Nw P l k dA);have fA:(shX l)[k]'(by rw[aL.out];exact hlt)=l[k].1:=by simp[shX]
        have fB:(shY l)[k]'(by rw[Gs];exact dA)=l[k].2:=by simp[shY]
        have eQ:=Co (Be fL.out l[k].1 (by rw[←fA];exact List.getElem_mem _));have gN:=Co (Be hF.out l[k].2 (by rw[←fB];exact List.getElem_mem _));obtain⟨bx,ox,bF,dZ⟩:=(dR.out.below HB.out).at (k:=k) (by rw[aL.out];exact hlt);obtain⟨dY,oy,hV,cK⟩:=dT.out.at (k:=k) (by rw[Gs];exact dA);subst bF hV;rw[fA] at dZ;rw[fB] at cK;have bL:Hid (P=2→val P (Df P (l.take k)).2 l[k].1≠0):=Zk (fun e=>by
         have h:=fL.out;subst e;exact nz2 fQ.out h dA)
        have dJ:Hid (∀W,Below w3.heap.size w3 W→W.cell? ⟨dY,oy+k,none⟩=some (.int .i64 l[k].2)):=Zk (fun W hb=>(hb.cell (Ps cK)).trans cK)
        have aA:Hid (byN P (Df P (l.take k)) l[k]=(l[k].2-val P (Df P (l.take k)).1 l[k].1+P)%P*inv P (val P (Df P (l.take k)).2 l[k].1)%P):=rfl;obtain⟨s,es⟩:∃s,s=Df P (l.take k):=⟨_,rfl⟩;rw[←es] at dN bE bZ bK bS bL aA aN⊢;have aK:Hid (Df P (l.take (k+1))=(Bl P (Fk s.1 s.2.length) 0 (byN P s l[k]) s.2,Du P s.2 [(0-l[k].1+P)%P,1])):=dN.out;obtain⟨s1,s2⟩:=s;obtain⟨x,ex⟩:∃x,x=l[k].1:=⟨_,rfl⟩;obtain⟨y,ey⟩:∃y,y=l[k].2:=⟨_,rfl⟩;obtain⟨c',ec⟩:∃c',c'=byN P (s1,s2) l[k]:=⟨_,rfl⟩;simp only[] at aK bE bZ bK bS bL aA aN⊢;rw[←ex] at eQ dZ bL aA aK;rw[←ey] at gN dJ aA;rw[←ec] at aA aK;obtain⟨yv,cU⟩:∃yv,yv=val P s1 x:=⟨_,rfl⟩;obtain⟨zv,cV⟩:∃zv,zv=val P s2 x:=⟨_,rfl⟩;rw[←cU] at aA;rw[←cV] at aA bL;have iM:0≤yv∧yv<P:=by rw[cU];exact Nf aB.1 _ _
        have hA:0≤zv∧zv<P:=by rw[cV];exact Nf aB.1 _ _
        obtain⟨n1,cN⟩:∃n1,n1=s1.length:=⟨_,rfl⟩;obtain⟨n2,cO⟩:∃n2,n2=s2.length:=⟨_,rfl⟩;rw[←cN,←cO] at aN;rw[←cN] at bE⊢;rw[←cO] at bZ⊢;have eX:n1≤k:=by have:=aN.1;split at this<;>omega
        have eY:n2=k+1:=aN.2;have hn2b:n2≤513:=by omega
        have hn1b:n1≤n2:=by omega
        clear eX eY;have dL:Hid (s1.length=n1):=cN.symm;have aG:Hid (s2.length=n2):=cO.symm;have HV:Hid (∀W a r,Below wr.heap.size wr W→(a= .slice AP n1 cp∧r=yv∨a= .slice AN n2 cn∧r=zv)→Calls Tryz.prog 85 #[.agg #[.int .i64 P],a,.int .i64 x] W fun e w'=>e= .returned (.int .i64 r)∧Below W.heap.size W w'):=Zk (fun W a r hb h=>by
         rcases h with⟨rfl,rfl⟩|⟨rfl,rfl⟩
         ·rw[cU];exact Ja P x s1 _ W aB eQ bK.out (by omega) (bE.out.below hb)
         ·rw[cV];exact Ja P x s2 _ W aB eQ bS.out (by omega) (bZ.out.below hb))
        have dX:Hid (∀W,Below wr.heap.size wr W→W.cell? ⟨F,0,none⟩=some (.int .i64 P)):=Zk (fun W hb=>cD.out W (aD.out.trans (hb.mono aD.out.size)))
        clear es ex ey ec cU cV cN cO fA fB gI gJ cK aN dN;have z0:(0:Int)≤(k:Int):=by omega
        have z1:(k:Int)<(L:Int):=by omega
        go_upto_region 25 with fail
        apply zHp F P x yv zv (.slice AP n1 cp) (.slice AN n2 cn) wr dX.out HV.out;intro q81 q82 q83 q84 q85 q86 q87 q88 w5 gD;have aX:=Zk gD;have hZ:¬P=0:=by omega
        obtain⟨m,em⟩:∃m,m=(y+P-yv)%P:=⟨_,rfl⟩;have hm:0≤m∧m<P:=by rw[em];exact⟨Int.emod_nonneg _ (by omega),Int.emod_lt_of_pos _ (by omega)⟩
        obtain⟨iv,cM⟩:∃iv,iv=inv P zv:=⟨_,rfl⟩;have gQ:0≤iv∧iv<P:=by rw[cM];exact Ix aB.1 _
        have iK:=Eg hm gQ aB.2;have a1:IntKind.i64.wrap (y+P)=y+P:=by exact Zi _ (by omega)
        have a2:IntKind.i64.wrap (y+P-yv)=y+P-yv:=by exact Zi _ (by omega)
        have a3:(y+P-yv).tmod P=m:=by rw[em];exact Int.tmod_eq_emod_of_nonneg (by omega)
        have a5:IntKind.i64.wrap (m*iv)=m*iv:=by exact Zi _ (by omega)
        have a6:(m*iv).tmod P=c':=by
         rw[aA.out,←cM,show y-yv+P=y+P-yv by omega,←em];exact Int.tmod_eq_emod_of_nonneg (by omega)
        have iB:0≤c'∧c'<P:=by rw[aA.out];exact⟨Int.emod_nonneg _ (by omega),Int.emod_lt_of_pos _ (by omega)⟩
        have fV:Hid (∀W,Below w5.heap.size w5 W→W.cell? ⟨F,0,none⟩=some (.int .i64 P)∧W.cell? ⟨dY,oy+k,none⟩=some (.int .i64 y)):=Zk (fun W hb=>⟨dX.out W (aX.out.trans (hb.mono aX.out.size)),dJ.out W (HB.out.trans ((aX.out.trans (hb.mono aX.out.size)).mono HB.out.size))⟩)
        have bT:Hid (∀W,Below w5.heap.size w5 W→Calls Tryz.prog 96 #[.agg #[.int .i64 P],.int .i64 zv] W fun e w'=>e= .returned (.int .i64 iv)∧Below W.heap.size W w'):=Zk (fun W _=>by rw[cM];exact Mr P zv W aB hA bL.out)
        clear gD em cM iK hm gQ dZ;go_upto_region 26 with fail
        apply zHq F dY oy L cY k P y yv zv iv m c' w5 hlt hZ a1 a2 a3 a5 a6 fV.out bT.out;intro q89 q90 q91 q92 q93 q94 q95 q96 q97 q98 q99 q100 q101 q102 q103 q104 q105 q106 q107 w6 gE;have bQ:Hid (Below wr.heap.size wr w6):=Zk (aX.out.trans (gE.mono aX.out.size));have cB:=Zk (bE.out.below bQ.out);have bD:=Zk (bZ.out.below bQ.out);have aV:Hid (Below w1.heap.size w1 w6):=Zk (aD.out.trans (bQ.out.mono aD.out.size));have aW:Hid (Below w3.heap.size w3 w6):=Zk (HB.out.trans (bQ.out.mono HB.out.size));obtain⟨y6,gA⟩:∃y6:World,y6=w6:=⟨_,rfl⟩;rw[←gA] at cB bD aV aW⊢;clear gE a1 a2 a3 a5 a6 fV bT dX HV dJ bL iM hA gN aX bQ gA;obtain⟨wA,eA⟩:∃wA:World,wA=y6.alloc (.cells ((Ay n2).map (Value.int .i64)).toArray 3):=⟨_,rfl⟩;have eN:Below y6.heap.size y6 wA:=by rw[eA];exact (Zb _ _).alloc (Zl _) _
        have fO:Hid (wA.heap[y6.heap.size]? =some (.cells ((Ay n2).map (Value.int .i64)).toArray 3 (0,0))):=Zk (by rw[eA];exact Zh y6 _);have cC:=Zk (cB.out.below eN);have bV:Hid (0<(s1.map (Value.int .i64)).length→some (⟨y6.heap.size,0,none⟩:Addr)=some ⟨y6.heap.size,0,none⟩∧∃ad,AP=some ad∧∀j v,(s1.map (Value.int .i64))[j]? =some v→wA.cell? (ad.add j)=some v):=fun h0=>by
         refine⟨rfl,?_⟩;obtain⟨b,dD,e,_,iC⟩:=SB.cells cC.out (by simpa using h0);refine⟨⟨b,dD,none⟩,e,fun j v hv=> ?_⟩
         rw[List.getElem?_map] at hv;obtain⟨q,hq,rfl⟩:=Option.map_eq_some_iff.1 hv;obtain⟨hj,rfl⟩:=List.getElem?_eq_some_iff.1 hq;rw[Addr.add_lit];exact iC j hj
        have gX:s1.length≤n2:=by rw[dL.out];omega
        have cJ:=Zk gX;clear gX;go_wp2_with (first
         |(at_make;refine Bn _ rfl _ _ 22 rfl 3 Tryz.underlying22 Bi _ n2 rfl rfl rfl (by omega) ?_;rw[←eA];clear eA)
         |(with_reducible refine wpList_copy_splice rfl (.tmp 111) (.tmp 112) 22 22 rfl 3 Tryz.underlying22 isz (some ⟨y6.heap.size,0,none⟩) AP n2 n2 n1 cp rfl rfl y6.heap.size 0 ((Ay n2).map (Value.int .i64)) 3 fO.out (s1.map (Value.int .i64)) (by rw[List.length_map,dL.out];have:=cJ.out;rw[dL.out] at this;exact (Nat.min_eq_left this).symm) (by exact bV.out) (by simp[Ay];exact cJ.out) (Hk s1) y6.heap.size y6 eN (Zl _) ?_;intro w7 gO gF))
        have dH:Hid (BK w7 y6.heap.size (Fk s1 n2)):=by
         show w7.heap[y6.heap.size]? =_;rw[←Mw s1 n2 cJ.out];exact gO.out
        have dG:Hid (Below y6.heap.size y6 w7):=gF;have gW:els P (Fk s1 n2)=true:=by
         refine Ce fun z hz=> ?_
         simp only[Fk,List.mem_append] at hz;rcases hz with hz|hz
         ·exact Be bK.out z hz
         ·exact Be (Di aB.1 _) z hz
        have fR:=Zk gW;have dC:(Fk s1 n2).length=n2:=by have:=cJ.out;simp[Fk,Ay];omega
        have bU:=Zk dC;obtain⟨pp,eG⟩:∃pp,pp=Fk s1 n2:=⟨_,rfl⟩;have aP:Hid (Df P (l.take (k+1))=(Bl P pp 0 c' s2,Du P s2 [(0-x+P)%P,1])):=Zk (by show _=_;rw[aK.out,aG.out,eG]);rw[←eG] at dH fR bU;clear gO gW dC gF fO cC bV eN aK eG aA;obtain⟨b,eb⟩:∃b,b=y6.heap.size:=⟨_,rfl⟩;rw[←eb] at dH⊢;have fJ:=Zk eb;clear eb;go_wp2_with fail;go_loopw [116] (fun iv wr=>Cm4 P pp c' s2 b y6 iv wr) (fun iv _=>n2- (intOf iv).toNat)
        case atStart=>exact⟨0,Nat.zero_le _,rfl,by rw[List.take_zero,Eb];exact dH.out,dG.out⟩
        case round=>
         obtain⟨j,hj,rfl,cH,eM⟩:=hrel;have aJ:=Zk cH;have aZ:=Zk eM;have aF:Hid (Below w1.heap.size w1 wr):=Zk (aV.out.trans (eM.mono aV.out.size));rw[aG.out] at hj;clear cH eM;by_cases hlj:j<n2
         ·have dk:decide (j<n2)=true:=Ze hlj;have eT:j<s2.length:=by rw[aG.out];exact hlj
          obtain⟨bb,ob,eB,ck⟩:=(bD.out.below aZ.out).at eT;subst eB;have f0:=cD.out wr aF.out;have aU:(Bl P pp 0 c' (s2.take j)).length=n2:=by rw[Bg];exact bU.out
          have gY:=aJ.out.cell (j:=j) (by rw[aU];omega);have hfk:=aJ.out.frozen j;have gM:=Co (Cd aB.1 (Cq aB.1 fR.out 0 c' (s2.take j)) j);have bG:=Co (Be bS.out _ (List.getElem_mem eT));rw[←Bw] at gY;obtain⟨t',ht⟩:∃t',t'=gd (Bl P pp 0 c' (s2.take j)) j:=⟨_,rfl⟩;rw[←ht] at gY gM;obtain⟨u,hu⟩:∃u,u=s2[j]:=⟨_,rfl⟩;rw[←hu] at ck bG;have hO:Hid (Bl P pp 0 c' (s2.take (j+1))=(Bl P pp 0 c' (s2.take j)).set j ((t'+c'*u)%P)):=by
           have h:=Ea P pp 0 c' s2 j eT (by rw[bU.out,aG.out];omega);rw[Nat.zero_add] at h;show _=_;rw[ht,hu];exact h
          have iL:=Eg iB bG aB.2;have fF:IntKind.i64.wrap (c'*u)=c'*u:=by exact Zi _ (by omega)
          have fG:IntKind.i64.wrap (t'+c'*u)=t'+c'*u:=by exact Zi _ (by omega)
          have fH:(t'+c'*u).tmod P=(t'+c'*u)%P:=Int.tmod_eq_emod_of_nonneg (by omega);have iP:IntKind.i64.wrap ((t'+c'*u)%P)=(t'+c'*u)%P:=by
           have h1:=Int.emod_nonneg (t'+c'*u) (show P≠0 by omega);have h2:=Int.emod_lt_of_pos (t'+c'*u) (show 0<P by omega);exact Zi _ (by omega)
          have z1:(0:Int)≤(j:Int):=by omega
          have z2:(j:Int)<(n2:Int):=by omega
          clear ht hu aU gM bG iL;go_upto_region 32 with fail
          go_region
          all_goals
           go_wp2_with fail;go_roundw
           case rel=>exact⟨j+1,by rw[aG.out];omega,by go_num,by rw[hO.out];exact aJ.out.set _ _,by first|exact aZ.out.setCell (by have:=fJ.out;show _≤b;omega) _|exact (Below.drewN (aZ.out.setCell (by have:=fJ.out;show _≤b;omega) _) _)⟩
           case measure=>simp[intOf];omega
         ·have dk:decide (j<n2)=false:=Zd hlj;have fM:Hid (BK wr b (Df P (l.take (k+1))).1):=Zk (by
           have h:=aJ.out;rw[List.take_of_length_le (by rw[aG.out];omega)] at h;rw[aP.out];exact h)
          have fS:Hid (SI wr (.slice (some ⟨b,0,none⟩) n2 n2) (Df P (l.take (k+1))).1):=Zk (by
           have h:=fM.out.si0 (Ci aB.2 (Jo aB.1 _).1) (by rw[aP.out];show (Bl P pp 0 c' s2).length≤_;rw[Bg,bU.out];omega);have e:(Df P (l.take (k+1))).1.length=n2:=by rw[aP.out];show (Bl P pp 0 c' s2).length=_;rw[Bg,bU.out]
           rw[e] at h;exact h)
          have cA:=Zk (bD.out.below aZ.out);obtain⟨wz,fZ⟩:∃wz:World,wz=wr:=⟨_,rfl⟩;rw[←fZ] at fS cA aZ aF⊢;clear fZ fM aJ;obtain⟨b2,cL⟩:∃b2,b2=wz.heap.size:=⟨_,rfl⟩;obtain⟨n3,cP⟩:∃n3,n3=n2+1:=⟨_,rfl⟩;have hC:IntKind.i64.wrap ((n2:Int)+1)=(n3:Int):=by rw[cP];exact Zi _ (by omega)
          obtain⟨wB,eB⟩:∃wB:World,wB=wz.alloc (.cells ((Ay n3).map (Value.int .i64)).toArray 3):=⟨_,rfl⟩;have hE:Hid (Below wz.heap.size wz wB):=Zk (by rw[eB];exact (Zb _ _).alloc (Zl _) _);have hI:Hid (BK wB b2 (Cz P s2 [(0-x+P)%P,1] 0)):=Zk (by
           have e:Cz P s2 [(0-x+P)%P,1] 0=Ay n3:=by
            show Ay (s2.length+2-1)=_;rw[aG.out,cP];rfl
           rw[e,eB,cL];exact Zh wz _)
          have dK:=Zk cL;have eZ:n3≤1000000:=by omega
          have aC:=Zk cP;clear cP;go_wp2_with (at_make;refine Bn _ rfl _ _ 22 rfl 3 Tryz.underlying22 Bi _ n3 (by first|rfl|simp[hC]) (by first|rfl|simp[hC]) rfl (by omega) ?_;rw[←eB,←cL];clear eB cL);go_loopw [144] (fun iv wr=>Rj3 P x s2 b2 wz iv wr) (fun iv _=>n2- (intOf iv).toNat)
          case atStart=>exact⟨0,Nat.zero_le _,rfl,hI.out,hE.out⟩
          case round=>
           obtain⟨i,hi,rfl,cH,bM⟩:=hrel;have aI:=Zk cH;have aM:=Zk bM;have dF:Hid (Below w1.heap.size w1 wr):=Zk (aF.out.trans (bM.mono aF.out.size));rw[aG.out] at hi;clear cH bM;by_cases hli:i<n2
           ·have di:decide (i<n2)=true:=Ze hli;have eS:i<s2.length:=by rw[aG.out];exact hli
            obtain⟨bb,ob,eB,ck⟩:=(cA.out.below aM.out).at eS;subst eB;have f0:=cD.out wr dF.out;have dI:Hid (wz.heap.size≤b2):=Zk (by show _≤_;rw[dK.out];exact Zl _);obtain⟨ll,cE⟩:∃ll,ll=Cz P s2 [(0-x+P)%P,1] i:=⟨_,rfl⟩;rw[←cE] at aI;have bI:ll.length=n3:=by rw[cE,Fh,aG.out,aC.out];rfl
            have bH:els P ll=true:=by rw[cE];exact Gu aB.1 ..
            obtain⟨i1,eC⟩:∃i1,i1=i+1:=⟨_,rfl⟩;obtain⟨u,eu⟩:∃u,u=s2[i]:=⟨_,rfl⟩;have gZ:=Co (Be bS.out _ (List.getElem_mem eS));rw[←eu] at ck gZ;have bC:Hid (Cz P s2 [(0-x+P)%P,1] (i+1)=(ll.set i1 ((gd ll i1+u)%P)).set i ((gd ll i+(P-x)*u)%P)):=Zk (by
             show _=_;rw[Hn,←cE,Bw eS,←eu,eC];exact (Xa ll i (by have:=aC.out;omega)).symm)
            have iF:=Co (Cd aB.1 bH i1);have iG:=Co (Cd aB.1 bH i);have fW:wr.cell? ⟨b2,i1,none⟩=some (.int .i64 (gd ll i1)):=by
             have h:i1<ll.length:=by have:=aC.out;omega
             rw[Bw h];exact aI.out.cell h
            have hU:=aI.out.frozen i1;obtain⟨t1,fX⟩:∃t1,t1=gd ll i1:=⟨_,rfl⟩;obtain⟨t2,eH⟩:∃t2,t2=gd ll i:=⟨_,rfl⟩;rw[←fX] at fW iF bC;rw[←eH] at iG bC;obtain⟨v1,cQ⟩:∃v1,v1=(t1+u)%P:=⟨_,rfl⟩;have hv1:0≤v1∧v1<P:=by rw[cQ];exact⟨Int.emod_nonneg _ (by omega),Int.emod_lt_of_pos _ (by omega)⟩
            have fF:IntKind.i64.wrap (t1+u)=t1+u:=by exact Zi _ (by omega)
            have fG:(t1+u).tmod P=v1:=by rw[cQ];exact Int.tmod_eq_emod_of_nonneg (by omega)
            have fH:IntKind.i64.wrap v1=v1:=by exact Zi _ (by omega)
            have iQ:IntKind.i64.wrap ((i:Int)+1)=(i1:Int):=by rw[show (i:Int)+1=(i1:Int) by omega];exact Zi _ (by omega)
            rw[←cQ] at bC;have z1:(0:Int)≤(i1:Int):=by omega
            have z2:(i1:Int)<(n3:Int):=by have:=aC.out;omega
            have z3:(0:Int)≤(i:Int):=by omega
            have z4:(i:Int)<(n3:Int):=by have:=aC.out;omega
            have z5:(i:Int)<(n2:Int):=by omega
            have fN:=Zk eC;have hJ:=Zk bI;have hG:Hid (t2=gd ll i):=eH;clear cE eu fX eH cQ eC bI bH;go_upto_region 39 with fail
            go_region
            obtain⟨bN,cT⟩:∃bN:World,bN=(wr.setCell ⟨b2,i1,none⟩ (.int .i64 v1)).drew:=⟨_,rfl⟩;have aO:Hid (BK bN b2 (ll.set i1 v1)):=Zk (by rw[cT];exact aI.out.set i1 v1);have aY:Hid (Below wz.heap.size wz bN):=Zk (by rw[cT];exact (aM.out.setCell (by exact dI.out) _).drew);rw[←cT];clear cT f0 fW hU ck fF fG fH iQ z1 z2;have gT:=hJ.out;have eR:gd (ll.set i1 v1) i=t2:=by rw[Dj _ _ _ _ (by have:=fN.out;have:=aC.out;omega),if_neg (by have:=fN.out;omega),hG.out]
            obtain⟨l2,eD⟩:∃l2,l2=ll.set i1 v1:=⟨_,rfl⟩;rw[←eD] at aO bC eR;have eW:l2.length=n3:=by rw[eD,List.length_set];exact gT
            have ct:bN.cell? ⟨b2,i,none⟩=some (.int .i64 t2):=by
             have h:i<l2.length:=by have:=aC.out;omega
             rw[←eR,Bw h];exact aO.out.cell h
            have cf:=aO.out.frozen i;have f0:=cD.out bN (aF.out.trans (aY.out.mono aF.out.size));obtain⟨m,em⟩:∃m,m=(P-x)*u:=⟨_,rfl⟩;have hm:=Li (a:=P-x) (b:=u) (P:=P) (by omega) gZ aB.2;rw[←em] at hm bC;obtain⟨v2,cR⟩:∃v2,v2=(t2+m)%P:=⟨_,rfl⟩;have hv2:0≤v2∧v2<P:=by rw[cR];exact⟨Int.emod_nonneg _ (by omega),Int.emod_lt_of_pos _ (by omega)⟩
            have w0_:IntKind.i64.wrap (P-x)=P-x:=by exact Zi _ (by omega)
            have fF:IntKind.i64.wrap ((P-x)*u)=m:=by rw[←em];exact Zi _ (by omega)
            have fG:IntKind.i64.wrap (t2+m)=t2+m:=by exact Zi _ (by omega)
            have fH:(t2+m).tmod P=v2:=by rw[cR];exact Int.tmod_eq_emod_of_nonneg (by omega)
            have iP:IntKind.i64.wrap v2=v2:=by exact Zi _ (by omega)
            rw[←cR] at bC;clear em cR eD eR eW gT;go_upto_region 40 with fail
            go_region
            all_goals
             go_wp2_with fail;go_roundw
             case rel=>exact⟨i+1,by rw[aG.out];omega,by go_num,by rw[bC.out];exact aO.out.set _ _,by first|exact aY.out.setCell (by exact dI.out) _|exact Below.drewN (aY.out.setCell (by exact dI.out) _) _⟩
             case measure=>simp[intOf];omega
           ·have di:decide (i<n2)=false:=Zd hli;have gP:i=n2:=by omega
            have hM:Hid (SI wr (.slice (some ⟨b2,0,none⟩) n3 n3) (Df P (l.take (k+1))).2):=Zk (by
             have h:=aI.out;have e:Cz P s2 [(0-x+P)%P,1] i=(Df P (l.take (k+1))).2:=by rw[aP.out,gP,←aG.out];rfl
             rw[e] at h;have e2:(Df P (l.take (k+1))).2.length=n3:=by rw[←e,Fh,aG.out,aC.out];rfl
             have h2:=h.si0 (Ci aB.2 (Jo aB.1 _).2) (by rw[e2];exact eZ);rw[e2] at h2;exact h2)
            have dO:=Zk (fS.out.below aM.out);have cI:Hid (Below w3.heap.size w3 wr):=Zk (aW.out.trans ((aZ.out.trans (aM.out.mono aZ.out.size)).mono aW.out.size));clear gP;go_wp2_with fail;go_roundw
            case rel=>exact⟨k+1,by rw[←bB.out];omega,by go_num,dO.out,hM.out,cI.out⟩
            case measure=>simp[intOf];omega
       ·have iE:decide (k<L)=false:=Zd hlt;have eV:l.take k=l:=List.take_of_length_le (by rw[←bB.out];omega);rw[eV] at bE aN;have dV:=bE;have dC:(Df P l).1.length≤1000000:=by have:=aN.1;split at this<;>omega
        have HE:=Zk (zAg bO.out fQ.out);rw[eV];clear eV aN gS;go_wp2_with fail;(with_reducible refine (Gb (Df P l).1 _ wr dV.out dC).mono ?_)
        rintro e w9 ⟨v',rfl,gV,bM⟩;have hN:=Zk gV;have hD:Hid (Below w1.heap.size w1 w9):=Zk (aD.out.trans (bM.mono aD.out.size));have iA:w.heap.size≤wr.heap.size:=by have:=aD.out.size;omega
        clear gV bM;go_wp2_with fail;go_ret2;refine⟨v',by rw[HE.out.1];rfl,?_,aE.out.trans (hD.out.mono aE.out.size)⟩;rw[HE.out.2];exact Kf hN.out iA
   ·have HE:=Zk (zAh (by rw[bO.out];exact h0));have d0:(oe !=0)=true:=by rw[bne_iff_ne];exact h0
    have fK:=bO.out;have bK:Hid (inE P l=oe):=Zk (by show _=_;rw[HE.out.1,fK]);clear fK h0;go_wp2_with fail;go_ret2;exact⟨.slice none 0 0,by rw[bK.out];rfl,by rw[HE.out.2];exact World.ownsRow_nil _ _ _ _,bA.out⟩
open Go.RowKit Go.Shelf
theorem zFs{P:Int}{l:List Int}(h:opE P [l]=0):prB P=true∧els P l=true:=by
 unfold opE at h;by_cases h1:prB P=true
 ·by_cases h2:els P l=true
  ·exact⟨h1,h2⟩
  ·simp[h1,h2] at h
 ·simp[h1] at h
theorem Mo{w:World}{b b':Nat}{e:TypeId}{sz n:Nat}{v:Value}{xs:List Value}(h:w.ownsRow b e sz v n xs)(hb:b'≤b):w.ownsRow b' e sz v n xs:=by
 refine⟨h.1,?_⟩;rcases h.2 with h0|⟨g,aA,aB,h1,h2,h3⟩
 ·exact .inl h0
 ·exact .inr ⟨g,aA,aB,h1,by omega,h3⟩
def rvE(P x:Int)(l:List Int):Int:=if inB P [x]=false then 9 else opE P [l]
def rvV(P x:Int)(l:List Int):Int:=if rvE P x l=0 then val P l x else 0
theorem Mp(P x:Int)(l:List Int)(v:Value)(w:World)(hP:At P)(hx:At x)(h:SI w v l)(hl:l.length≤1000000):
  Calls Tryz.prog 59 #[.agg #[.int .i64 P],v,.int .i64 x] w fun e w'=>e= .returned (.tuple #[.int .i64 (rvV P x l),.int .i64 (rvE P x l)])∧Below w.heap.size w w':=by
 obtain⟨A,c,rfl⟩:=h.form;have HS:=Zk h;clear h;go_enter Tryz.func59,Tryz.ntmps59;obtain⟨F,eF⟩:∃F,F=w.heap.size:=⟨_,rfl⟩;obtain⟨w1,aF⟩:∃w1:World,w1=w.alloc (.cells #[.int .i64 P] 31):=⟨_,rfl⟩;have aH:Hid (w.alloc (.cells #[.int .i64 P] 31)=w1):=aF.symm;have aB:Hid (Below w.heap.size w w1):=Zk (by rw[aF];exact (Zb _ w).alloc (Zl _) _);have aA:Hid (w1.heap[F]? =some (.cells #[.int .i64 P] 31 (0,0))):=Zk (by show _=_;rw[aF,eF];exact Zh w _);have aN:Hid (∀W,Below w1.heap.size w1 W→W.cell? ⟨F,0,none⟩=some (.int .i64 P)):=Zk (fun W hg=>by
  have aS:=(hg.block F (Ae aA.out)).trans aA.out;exact (Zc W F 0 _ _ _ aS))
 have aW:w.heap.size≤w1.heap.size:=aB.out.size;have aQ:Hid (SI (w1.alloc (.cells #[.int .i64 x] 3)) (.slice (some ⟨w1.heap.size,0,none⟩) 1 1) [x]):=Zk (by
  refine⟨some ⟨w1.heap.size,0,none⟩,1,rfl,Zl _,by omega,fun y hy=>by simp at hy;subst hy;exact hx,fun _=>⟨w1.heap.size,0,rfl,by simp,fun j hj=> ?_⟩⟩
  have aU:j=0:=by simp at hj;omega
  subst aU;exact Zc _ _ 0 _ _ (0,0) (Zh w1 _))
 have aK:Hid (Below w.heap.size w (w1.alloc (.cells #[.int .i64 x] 3))):=Zk (aB.out.alloc aW _);go_upto_region 1 with fail
 rw[aH.out,←eF];clear aF eF;have x0:=aN.out w1 (Zb _ _);go_wp2_with fail;(with_reducible refine (Ei P [x] _ _ hP aQ.out).mono ?_)
 rintro e w2 ⟨rfl,aG⟩;have aD:Hid (Below w.heap.size w w2):=Zk (aK.out.trans (aG.mono aK.out.size));have aM:Hid (∀W,Below w2.heap.size w2 W→W.cell? ⟨F,0,none⟩=some (.int .i64 P)):=Zk (fun W hW=>aN.out W (((Zb _ w1).alloc (Zl _) _).trans ((aG.mono (by simp)).trans (hW.mono (by have:=aG.size;simp at this;omega)))))
 clear aG x0;by_cases hi:inB P [x]=true
 ·rw[hi];have aC:=hi;unfold inB at aC;simp only[Bool.and_eq_true] at aC;have hpr:=aC.1;have aV:0≤x∧x<P:=by have:=aC.2;simp[els,el] at this;exact this
  have HI:Hid (rvE P x l=opE P [l]):=Zk (by show _=_;unfold rvE;rw[hi];rfl);have aR:Hid (SL (w2.alloc (.cells #[.slice A l.length c] 22)) (.slice (some ⟨w2.heap.size,0,none⟩) 1 1) [l]):=Zk (SL.one (HS.out.below aD.out) _);have aL:Hid (Below w.heap.size w (w2.alloc (.cells #[.slice A l.length c] 22))):=Zk (aD.out.alloc aD.out.size _);have x0:=aM.out w2 (Zb _ _);clear hi aC;go_wp2_with fail;(with_reducible refine (Iz P [l] _ _ hP aR.out (by simp)).mono ?_)
  rintro e w4 ⟨rfl,aI⟩;have aE:Hid (Below w.heap.size w w4):=Zk (aL.out.trans (aI.mono aL.out.size));have x4:=aM.out w4 (((Zb _ w2).alloc (Zl _) _).trans (aI.mono (by simp)));clear aI x0;by_cases he:opE P [l]=0
  ·have aT:(opE P [l] !=0)=false:=by rw[bne_eq_false_iff_eq];exact he
   have HV:Hid (rvV P x l=val P l x):=Zk (by show _=_;unfold rvV;rw[HI.out,if_pos he]);have hE:=zFs he;have HE:=Zk he;clear he;go_wp2_with fail;(with_reducible refine (Ja P x l _ w4 (Bj hE.1) aV hE.2 hl (HS.out.below aE.out)).mono ?_)
   rintro e w5 ⟨rfl,aO⟩;have aP:Hid (Below w.heap.size w w5):=Zk (aE.out.trans (aO.mono aE.out.size));clear aO;go_wp2_with fail;refine bodyPost_ret (v:= .tuple #[.int .i64 (val P l x),.int .i64 0]) (by simp[results,Tryz.results59,go_sem]) rfl ?_;rw[HV.out,HI.out,HE.out];exact⟨rfl,aP.out⟩
  ·have aT:(opE P [l] !=0)=true:=by rw[bne_iff_ne];exact he
   have HV:Hid (rvV P x l=0):=Zk (by show _=_;unfold rvV;rw[HI.out,if_neg he]);clear he;go_wp2_with fail;refine bodyPost_ret (v:= .tuple #[.int .i64 0,.int .i64 (opE P [l])]) (by simp[results,Tryz.results59,go_sem]) rfl ?_;rw[HV.out,HI.out];exact⟨rfl,aE.out⟩
 ·have aJ:inB P [x]=false:=by simpa using hi
  rw[aJ];have HI:Hid (rvE P x l=9):=Zk (by show _=_;unfold rvE;rw[aJ];rfl);have HV:Hid (rvV P x l=0):=Zk (by show _=_;unfold rvV;rw[HI.out];rfl);clear hi aJ;go_wp2_with fail;refine bodyPost_ret (v:= .tuple #[.int .i64 0,.int .i64 9]) (by simp[results,Tryz.results59,go_sem]) rfl ?_;rw[HV.out,HI.out];exact⟨rfl,aD.out⟩
open Go.RowKit Go.Shelf
def KnE(P:Int)(l:List (Int×Bool))(k:Nat):Prop:=∀t∈kn (l.take k),el P t.2=true
theorem Hi{l:List (Int×Bool)}{k:Nat}(h:k<l.length)(t:Int×Int):t∈kn (l.take (k+1))↔t∈kn (l.take k)∨(l[k].2=true∧t=((k:Int)+1,l[k].1)):=by
 rw[Hv l k h];by_cases hb:l[k].2=true
 ·rw[if_pos hb];simp[hb]
 ·rw[if_neg hb];simp[hb]
theorem KnE.step{P:Int}{l:List (Int×Bool)}{k:Nat}(h:KnE P l k)(hk:k<l.length)(he:l[k].2=true→el P l[k].1=true):KnE P l (k+1):=fun t ht=>by
 rcases (Hi hk t).1 ht with h1|⟨h1,h2⟩
 ·exact h t h1
 ·rw[h2];exact he h1
theorem ce_ok{P:Int}{l:List (Int×Bool)}(h:prB P=true)(h2:¬(32<l.length∨P≤l.length))(h3:KnE P l l.length):ceE P l=0:=by
 unfold ceE;rw[if_neg (by rw[h];simp),if_neg h2,if_pos];rw[List.all_eq_true];have:=h3;unfold KnE at this;rw[List.take_length] at this;exact this
theorem zGd{P:Int}{l:List (Int×Bool)}{k:Nat}(h:prB P=true)(h2:¬(32<l.length∨P≤l.length))(hk:k<l.length)(h3:l[k].2=true)(h4:el P l[k].1=false):ceE P l=9:=by
 unfold ceE;rw[if_neg (by rw[h];simp),if_neg h2,if_neg];intro ha;rw[List.all_eq_true] at ha;have hm:((k:Int)+1,l[k].1)∈kn l:=by
  have h5:=(Hi hk ((k:Int)+1,l[k].1)).2 (.inr ⟨h3,rfl⟩);rw[zAm] at h5;exact List.mem_of_mem_take h5
 have:=ha _ hm;rw[h4] at this
 cases this
theorem Tg(P:Int)(l:List (Int×Bool))(v:Value)(w:World)(hP:At P)(h:SCl w v l)(hz:l.length≤1000000):
  Calls Tryz.prog 149 #[.agg #[.int .i64 P],v] w fun e w'=>e= .returned (.int .i64 (ceE P l))∧Below w.heap.size w w':=by
 obtain⟨A,c,rfl⟩:=h.form;have HS:=Zk h;clear h;go_enter Tryz.func149,Tryz.ntmps149;obtain⟨F,eF⟩:∃F,F=w.heap.size:=⟨_,rfl⟩;obtain⟨w1,aG⟩:∃w1:World,w1=w.alloc (.cells #[.int .i64 P] 31):=⟨_,rfl⟩;have aM:Hid (w.alloc (.cells #[.int .i64 P] 31)=w1):=aG.symm;have aA:Hid (Below w.heap.size w w1):=Zk (by rw[aG];exact (Zb _ w).alloc (Zl _) _);have aB:Hid (w1.heap[F]? =some (.cells #[.int .i64 P] 31 (0,0))):=Zk (by show _=_;rw[aG,eF];exact Zh w _);have aO:Hid (∀W,Below w1.heap.size w1 W→W.cell? ⟨F,0,none⟩=some (.int .i64 P)):=Zk (fun W hg=>by
  have bI:=(hg.block F (Ae aB.out)).trans aB.out;exact (Zc W F 0 _ _ _ bI))
 go_upto_region 1 with fail
 rw[aM.out,←eF];clear aG eF;have x0:=aO.out w1 (Zb _ _);go_wp2_with fail;(with_reducible refine (Em P w1 hP).mono ?_)
 rintro e w2 ⟨rfl,aQ⟩;have aS:Hid (Below w1.heap.size w1 w2):=Zk (aQ);have aK:Hid (Below w.heap.size w w2):=Zk (aA.out.trans (aQ.mono aA.out.size));clear aQ x0;by_cases hp:prB P=true
 case' neg=>
  have bB:prB P=false:=by simpa using hp
  have HR:Hid (ceE P l=9):=Zk (by show _=_;unfold ceE;rw[if_pos bB]);rw[Kw bB];go_wp2_with fail;go_ret;rw[HR.out];exact⟨rfl,aK.out⟩
 rw[Oa hp];have HP:=Zk hp;have hPb:=Bj hp;have x2:=aO.out w2 aS.out;clear hp;by_cases h32:32<l.length
 case' pos=>
  have dz:decide ((32:Int)<(l.length:Int))=true:=Ze (by omega);have HR:Hid (ceE P l=4):=Zk (by show _=_;unfold ceE;rw[if_neg (by rw[HP.out];simp),if_pos (.inl h32)]);go_wp2_with fail;go_ret;rw[HR.out];exact⟨rfl,aK.out⟩
 have dz:decide ((32:Int)<(l.length:Int))=false:=Zd (by omega);by_cases hPl:P≤l.length
 case' pos=>
  have bH:decide (P≤(l.length:Int))=true:=Ze hPl;have HR:Hid (ceE P l=4):=Zk (by show _=_;unfold ceE;rw[if_neg (by rw[HP.out];simp),if_pos (.inr hPl)]);go_wp2_with fail;go_ret;rw[HR.out];exact⟨rfl,aK.out⟩
 have bH:decide (P≤(l.length:Int))=false:=Zd hPl;have HN:Hid (¬(32<l.length∨P≤l.length)):=Zk (by rintro (h|h)<;>omega)
 go_wp2_with fail;go_loopw [25] (fun iv wr=>∃k:Nat,k≤l.length∧iv= .int .i64 k∧Below w1.heap.size w1 wr∧KnE P l k) (fun iv _=>l.length- (intOf iv).toNat)
 case atStart=>exact⟨0,Nat.zero_le _,rfl,aS.out,fun t ht=>by simp[kn,knF] at ht⟩
 case round=>
  obtain⟨k,hk,rfl,aY,aZ⟩:=hrel;have aF:=Zk aY;have aL:=Zk aZ;clear aY aZ x2;by_cases hlk:k<l.length
  ·have dk:decide ((k:Int)<(l.length:Int))=true:=Ze (by omega);have bG:decide (k<l.length)=true:=Ze hlk;have bC:=HS.out.below (aA.out.trans (aF.out.mono aA.out.size));obtain⟨b,off,eA,hbl,aD⟩:=bC.at0 (by omega);subst eA;obtain⟨c0,c1⟩:=aD k hlk;clear aD bC;obtain⟨xv,aI⟩:∃xv,xv=l[k].1:=⟨_,rfl⟩;obtain⟨bv,aP⟩:∃bv,bv=l[k].2:=⟨_,rfl⟩;rw[←aI] at c0;rw[←aP] at c1;have bK:At xv:=by rw[aI];exact HS.out.rng _ (List.getElem_mem hlk)
   have aV:=Zk aI;have aU:=Zk aP;clear aI aP;obtain⟨X,eX⟩:∃X,X=wr.heap.size:=⟨_,rfl⟩;obtain⟨wx,aH⟩:∃wx:World,wx=wr.alloc (.cells #[.int .i64 xv,.bool bv] 140):=⟨_,rfl⟩;have aN:Hid (wr.alloc (.cells #[.int .i64 xv,.bool bv] 140)=wx):=aH.symm;have aJ:Hid (Below wr.heap.size wr wx):=Zk (by rw[aH];exact (Zb _ wr).alloc (Zl _) _);have aC:Hid (wx.heap[X]? =some (.cells #[.int .i64 xv,.bool bv] 140 (0,0))):=Zk (by show _=_;rw[aH,eX];exact Zh wr _);have bF:Hid (∀W,Below wx.heap.size wx W→W.cell? ⟨X,0,none⟩=some (.int .i64 xv)∧W.cell? ⟨X,1,none⟩=some (.bool bv)):=Zk (fun W hg=>by
    have aW:=(hg.block X (Ae aC.out)).trans aC.out;exact⟨Zc W X 0 _ _ _ aW,Zc W X 1 _ _ _ aW⟩)
   have aE:Hid (Below w1.heap.size w1 wx):=Zk (aF.out.trans (aJ.out.mono aF.out.size));have bE:Hid (SI (wx.alloc (.cells #[.int .i64 xv] 3)) (.slice (some ⟨wx.heap.size,0,none⟩) 1 1) [xv]):=Zk (by
    refine⟨some ⟨wx.heap.size,0,none⟩,1,rfl,Zl _,by omega,fun y hy=>by simp at hy;subst hy;exact bK,fun _=>⟨wx.heap.size,0,rfl,by simp,fun j hj=> ?_⟩⟩
    have bJ:j=0:=by simp at hj;omega
    subst bJ;exact Zc _ _ 0 _ _ (0,0) (Zh wx _))
   go_upto_region 9 with fail
   rw[aN.out,←eX];clear aH eX;obtain⟨y0,y1⟩:=bF.out wx (Zb _ _);have x3:=aO.out wx aE.out;clear c0 c1
   cases bv
   ·go_wp2_with fail;go_roundw
    case rel=>exact⟨k+1,by omega,by go_num,aE.out,aL.out.step hlk (fun h=>by rw[←aU.out] at h;cases h)⟩
    case measure=>simp[intOf];omega
   ·go_wp2_with fail;(with_reducible refine (Ei P [xv] _ _ hP bE.out).mono ?_)
    rintro e w4 ⟨rfl,aX⟩;have aT:Hid (Below w1.heap.size w1 w4):=Zk ((aE.out.alloc aE.out.size _).trans (aX.mono (by have:=aE.out.size;simp;omega)));have bD:Hid (inB P [xv]=el P xv):=Zk (by show _=_;unfold inB;rw[HP.out];simp[els]);clear aX y0 y1 x3;rw[bD.out];by_cases he:el P xv=true
    ·rw[he];have HE:=Zk he;clear he;go_wp2_with fail;go_roundw
     case rel=>exact⟨k+1,by omega,by go_num,aT.out,aL.out.step hlk (fun _=>by rw[←aV.out];exact HE.out)⟩
     case measure=>simp[intOf];omega
    ·have aR:el P xv=false:=by simpa using he
     rw[aR];have HR:Hid (ceE P l=9):=Zk (zGd HP.out HN.out hlk aU.out.symm (by rw[←aV.out];exact aR));clear he aR;go_wp2_with fail;go_ret;rw[HR.out];exact⟨rfl,aA.out.trans (aT.out.mono aA.out.size)⟩
  ·have dk:decide ((k:Int)<(l.length:Int))=false:=Zd (by omega);have bG:decide (k<l.length)=false:=Zd hlk;have bA:k=l.length:=by omega
   have HR:Hid (ceE P l=0):=Zk (ce_ok HP.out HN.out (bA▸aL.out));clear bA;go_wp2_with fail;go_ret;rw[HR.out];exact⟨rfl,aA.out.trans (aF.out.mono aA.out.size)⟩
open Go.RowKit Go.Shelf
theorem Ss{l:List (Int×Bool)}(hl:l.length≤1000000)(hr:∀x∈l,At x.1):∀t∈kn l,At t.1∧At t.2:=fun t ht=>by
 refine⟨?_,?_⟩
 ·have:=Uw ht;unfold At;omega
 ·have aA:∀k,k≤l.length→∀t∈kn (l.take k),At t.2:=by
   intro k;induction k with
   |zero=>intro _ t ht;simp[kn,knF] at ht
   |succ k ih=>
    intro hk t ht;rcases (Hi (by omega) t).1 ht with h|⟨_,h⟩
    ·exact ih (by omega) t h
    ·rw[h];exact hr _ (List.getElem_mem _)
  have h2:=aA l.length (Zl _);rw[List.take_length] at h2;exact h2 t ht
theorem Eo{w w':World}{base n sz:Nat}{e:TypeId}{v:Value}{xs:List Value}(h:w.ownsRow base e sz v n xs)(hb:Below w.heap.size w w'):w'.ownsRow base e sz v n xs:=by
 refine⟨h.1,?_⟩;rcases h.2 with h0|⟨g,aA,aB,h1,h2,h3,h4⟩
 ·exact .inl h0
 ·exact .inr ⟨g,aA,aB,h1,h2,(hb.block g (Ae h3)).trans h3,h4⟩
def KwR(l:List (Int×Bool))(w:World)(i v:Value)(wr:World):Prop:=
 ∃k:Nat,k≤l.length∧i= .int .i64 k∧wr.ownsRow w.heap.size 114 2 v (kn (l.take k)).length (((kn (l.take k)).flatMap pcs).map (Value.int .i64))∧Below w.heap.size w wr
theorem Gr(l:List (Int×Bool))(v:Value)(w:World)(h:SCl w v l)(hz:l.length≤1000000):
  Calls Tryz.prog 108 #[v] w fun e w'=>∃v',e= .returned v'∧w'.ownsRow w.heap.size 114 2 v' (kn l).length (((kn l).flatMap pcs).map (Value.int .i64))∧Below w.heap.size w w':=by
 obtain⟨i0,aU,aV,aW,aX⟩:=info_parts zEx;obtain⟨A,c,rfl⟩:=h.form;have HS:=Zk h;clear h;go_enter Tryz.func108,Tryz.ntmps108;go_wp2_with fail;go_loopw [8,3] (fun i v wr=>KwR l w i v wr) (fun i _ _=>l.length- (intOf i).toNat)
 case atStart=>exact⟨0,Nat.zero_le _,rfl,by simpa [kn,knF] using World.ownsRow_nil w w.heap.size 114 2,Zb _ _⟩
 case round=>
  obtain⟨k,hk,rfl,aG,aE⟩:=hrel;have HO:=Zk aG;have HB:=Zk aE;have aZ:=aE.size;clear aG aE;by_cases hlt:k<l.length
  ·have dk:decide ((k:Int)<(l.length:Int))=true:=Ze (by omega);have dkn:decide (k<l.length)=true:=Ze hlt;obtain⟨b,off,eA,hbl,aB⟩:=(HS.out.below HB.out).at0 (by omega);subst eA;obtain⟨c0,c1⟩:=aB k hlt;clear aB;obtain⟨xv,aN⟩:∃xv,xv=l[k].1:=⟨_,rfl⟩;obtain⟨bv,aM⟩:∃bv,bv=l[k].2:=⟨_,rfl⟩;rw[←aN] at c0;rw[←aM] at c1;have aH:=Zk (Hv l k hlt);have aT:(kn (l.take k)).length≤k:=by
    have:=Ft (l.take k) 0;rw[List.length_take] at this;unfold kn;omega
   obtain⟨D,hD⟩:∃D,kn (l.take k)=D:=⟨_,rfl⟩;rw[hD] at HO aH aT;rw[←aN,←aM] at aH;clear aN aM hD;obtain⟨X,eX⟩:∃X,X=wr.heap.size:=⟨_,rfl⟩;obtain⟨wx,aI⟩:∃wx:World,wx=wr.alloc (.cells #[.int .i64 xv,.bool bv] 140):=⟨_,rfl⟩;have aL:Hid (wr.alloc (.cells #[.int .i64 xv,.bool bv] 140)=wx):=aI.symm;have aF:Hid (Below wr.heap.size wr wx):=Zk (by rw[aI];exact (Zb _ wr).alloc (Zl _) _);have aA:Hid (wx.heap[X]? =some (.cells #[.int .i64 xv,.bool bv] 140 (0,0))):=Zk (by show _=_;rw[aI,eX];exact Zh wr _);have aS:Hid (∀W,Below wx.heap.size wx W→W.cell? ⟨X,0,none⟩=some (.int .i64 xv)∧W.cell? ⟨X,1,none⟩=some (.bool bv)):=Zk (fun W hg=>by
    have aO:=(hg.block X (Ae aA.out)).trans aA.out;exact⟨Zc W X 0 _ _ _ aO,Zc W X 1 _ _ _ aO⟩)
   have aJ:Hid (Below w.heap.size w wx):=Zk (HB.out.trans (aF.out.mono aZ));have aK:Hid (wx.ownsRow w.heap.size 114 2 u3 D.length ((D.flatMap pcs).map (Value.int .i64))):=Zk (Eo HO.out aF.out);have bA:w.heap.size≤wx.heap.size:=aJ.out.size;go_upto_region 5 with fail
   rw[aL.out,←eX];clear aI eX;obtain⟨y0,y1⟩:=aS.out wx (Zb _ _);clear c0 c1
   cases bv
   ·have aD:Hid (kn (l.take (k+1))=D):=Zk (by show _=_;have h:=aH.out;simpa using h);go_wp2_with fail;go_roundw
    case rel=>exact⟨k+1,by omega,by go_num,by rw[aD.out];exact aK.out,aJ.out⟩
    case measure=>simp[intOf];omega
   ·have aD:Hid (kn (l.take (k+1))=D++[((k:Int)+1,xv)]):=Zk (by show _=_;have h:=aH.out;simpa using h);have k1:IntKind.i64.wrap ((k:Int)+1)=(k:Int)+1:=by exact Zi _ (by omega)
    go_wp2_with (at_builtin;refine wpList_append_own _ rfl _ _ 112 rfl w.heap.size 114 i0 _ 2 16 Tryz.underlying112 aU aV aW aX rfl (by omega) _ _ _ rfl (aK.out.alloc _) ⟨wx.heap.size,0,none⟩ 1 1 (List.map (Value.int .i64) (pcs ((k:Int)+1,xv))) rfl rfl (Ba wx _ _) (by intro u hu;simp[pcs] at hu;rcases hu with rfl|rfl<;>rfl) (by unfold maxLen;omega) (by omega) (by simp;omega) ?_;intro v3 w3 aC aP _;have aR:=Zk aC;have aQ:=Zk aP;clear aC aP)
    go_roundw
    case rel=>
     refine⟨k+1,by omega,by go_num,?_,?_⟩
     ·rw[aD.out];simpa using aR.out
     ·exact (aJ.out.alloc bA _).grown aQ.out (by simp;omega) (fun k hk=>(aK.out.lt k hk).1)
    case measure=>simp[intOf];omega
  ·have aY:k=l.length:=by omega
   subst aY;have hd1:decide ((l.length:Int)<(l.length:Int))=false:=Zd (by omega);rw[List.take_length] at HO;go_wp2_with fail;go_ret;exact⟨_,rfl,HO.out,HB.out⟩
open Go.RowKit
def RuB(C:Nat)(cl rl:List Int)(B:Nat)(w1:World)(hv iv:Value)(wr:World):Prop:=
 ∃(k:Nat) (bs cs:Nat→Nat),iv= .int .i64 k∧BR B wr hv (C+1) k bs cs (eqM cl rl C k)∧Below B w1 wr
structure LQ (P:Int) (C R:Nat) (M0:List (List Int)) (B G k r:Nat) (bs cs:Nat→Nat) (M:List (List Int)) (ld Lq:List Int) (lv:Value) (w:World):Prop where
 rm:RM B w G (C+1) R bs cs M
 ge:GE P C M0 M r k ld
 len:Lq.length=r
 at':∀n (h:n<Lq.length),∃c:Nat,c<k∧Lq[n]=c∧gd ld c=(n:Int)+1
 own:w.ownsRow B 3 1 lv Lq.length (Lq.map (Value.int .i64))
 apart:∀b,lv.ownBlock=some b→b≠G∧∀i,i<R→b≠bs i
theorem LQ.none{P:Int}{C R:Nat}{M0:List (List Int)}{B G k r:Nat}{bs cs:Nat→Nat}{M:List (List Int)}{ld Lq:List Int}{lv:Value}{w:World}(h:LQ P C R M0 B G k r bs cs M ld Lq lv w)(h0:∀m,r≤m→m<M.length→gd (gr M m) k=0):LQ P C R M0 B G (k+1) r bs cs M ld Lq lv w:=
 ⟨h.rm,h.ge.none h0,h.len,fun n hn=>by obtain⟨c,h1,h2⟩:=h.at' n hn;exact⟨c,by omega,h2⟩,h.own,h.apart⟩
theorem LQ.full{P:Int}{C R:Nat}{M0:List (List Int)}{B G r:Nat}{bs cs:Nat→Nat}{M:List (List Int)}{ld Lq:List Int}{lv:Value}{w:World}:∀{k:Nat},LQ P C R M0 B G k r bs cs M ld Lq lv w→k≤C→M.length≤r→LQ P C R M0 B G C r bs cs M ld Lq lv w:=by
 intro k h hk hr;obtain⟨n,hn⟩:∃n,n=C-k:=⟨_,rfl⟩;induction n generalizing k with
 |zero=>
  obtain rfl:k=C:=by omega
  exact h
 |succ n ih=>exact ih (h.none fun m h1 h2=>by omega) (by omega) (by omega)
theorem Vk(f:Nat→Nat)(r i:Nat):sw f i r=sw f r i:=by
 funext j;unfold sw;by_cases h1:j=i
 ·by_cases h2:j=r
  ·subst h1;subst h2;rfl
  ·rw[if_neg h2,if_pos h1,if_pos h1]
 ·by_cases h2:j=r
  ·rw[if_pos h2,if_neg h1,if_pos h2]
  ·rw[if_neg h2,if_neg h1,if_neg h1,if_neg h2]
theorem zBu(M:List (List Int)){r i:Nat}(hr:r<M.length)(hi:i<M.length):swp M i r=swp M r i:=Sn (by rw[Dx,Dx]) fun j hj=>by
 rw[Hg hi hr,Hg hr hi];by_cases h1:j=i
 ·by_cases h2:j=r
  ·subst h1;subst h2;rfl
  ·rw[if_neg h2,if_pos h1,if_pos h1]
 ·by_cases h2:j=r
  ·rw[if_pos h2,if_neg h1,if_pos h2]
  ·rw[if_neg h2,if_neg h1,if_neg h1,if_neg h2]
theorem RM.swap2{base:Nat}{w:World}{G n m:Nat}{bs cs:Nat→Nat}{M:List (List Int)}(h:RM base w G n m bs cs M){r i:Nat}(hr:r<m)(hi:i<m):
  RM base ((w.setCell ⟨G,i,none⟩ (hd n bs cs r)).setCell ⟨G,r,none⟩ (hd n bs cs i)) G n m (sw bs r i) (sw cs r i) (swp M r i):=by
 have h1:=h.swap hi hr rfl;rw[Vk bs,Vk cs,zBu M (by rw[h.len];exact hr) (by rw[h.len];exact hi)] at h1;exact h1
theorem Xk{bs:Nat→Nat}{r j R G:Nat}{lv:Value}(hr:r<R)(hj:j<R)(h:∀b,lv.ownBlock=some b→b≠G∧∀i,i<R→b≠bs i):∀b,lv.ownBlock=some b→b≠G∧∀i,i<R→b≠sw bs r j i:=fun b hb=>by
 obtain⟨h1,h2⟩:=h b hb;refine⟨h1,fun i hi=> ?_⟩
 unfold sw;split
 ·exact h2 r hr
 ·split
  ·exact h2 j hj
  ·exact h2 i hi
theorem RM.kept{base:Nat}{w w':World}{G n m:Nat}{bs cs:Nat→Nat}{M:List (List Int)}(h:RM base w G n m bs cs M)(hG:w'.heap[G]? =w.heap[G]?)(hk:∀i,i<m→w'.heap[bs i]? =w.heap[bs i]?):RM base w' G n m bs cs M:=by
 obtain⟨L,h1,h2⟩:=h.hdr;refine⟨⟨L,hG.trans h1,h2⟩,h.len,h.gb,fun i hi=> ?_,h.apart⟩
 obtain⟨⟨tl,r1⟩,r2,r3,r4,r5,r6⟩:=h.row i hi;exact⟨⟨tl,(hk i hi).trans r1⟩,r2,r3,r4,r5,r6⟩
theorem zDz{P:Int}{C R:Nat}{M0:List (List Int)}{B G k r cap9 g9:Nat}{bs cs bs' cs':Nat→Nat}{M M':List (List Int)}{ld Lq:List Int}{lv:Value}{w wr w10:World}{o:Obj}
  (h:LQ P C R M0 B G k r bs cs M ld Lq lv w) (hge:GE P C M0 M' (r+1) (k+1) (ld.set k ((r:Int)+1))) (hrm:RM B wr G (C+1) R bs' cs' M') (hap:∀b,lv.ownBlock=some b→b≠G∧∀i,i<R→b≠bs' i)
  (hg:(wr.alloc o).grownBy w10 lv.ownBlock) (ha:lv.ownBlock=some g9∨g9=(wr.alloc o).heap.size)
  (ho:w10.ownsRow B 3 1 (.slice (some ⟨g9,0,none⟩) (r+1) cap9) (r+1) (Lq.map (Value.int .i64)++[.int .i64 k])) (hkC:k<C) (hC:C≤32):
  LQ P C R M0 B G (k+1) (r+1) bs' cs' M' (ld.set k ((r:Int)+1)) (Lq++[(k:Int)]) (.slice (some ⟨g9,0,none⟩) (r+1) cap9) w10:=by
 have aA:Lq.length=r:=h.len;have hld:ld.length=32:=h.ge.ldl;refine⟨?_,hge,by simp[aA],fun n hn=> ?_,by simpa [aA] using ho,fun b hb=> ?_⟩
 ·refine hrm.kept ?_ fun i hi=> ?_
  ·have hl:=hrm.lt;rw[hg.block G (by simp;omega) (fun e=>(hap G e.symm).1 rfl),Below.heap_alloc wr o G hl]
  ·have hl:=(hrm.row i hi).1.lt;rw[hg.block (bs' i) (by simp;omega) (fun e=>(hap _ e.symm).2 i hi rfl),Below.heap_alloc wr o _ hl]
 ·by_cases e:n<Lq.length
  ·obtain⟨c,h1,h2,h3⟩:=h.at' n e;refine⟨c,by omega,by rw[List.getElem_append_left e];exact h2,?_⟩;rw[Dj _ _ _ _ (by omega),if_neg (by omega)];exact h3
  ·have en:n=Lq.length:=by simp at hn;omega
   subst en;refine⟨k,by omega,by simp,?_⟩;rw[Dj _ _ _ _ (by omega),if_pos rfl,aA]
 ·have e:g9=b:=by simpa [Value.ownBlock] using hb
  subst e;rcases ha with h1|h1
  ·exact hap _ h1
  ·have hl:=hrm.lt;refine⟨by rw[h1];simp;omega,fun i hi=> ?_⟩
   have hl2:=(hrm.row i hi).1.lt;rw[h1];simp;omega
def RuL(P:Int)(C R:Nat)(M0:List (List Int))(B G:Nat)(w1:World)(lv kv:Value)(wr:World):Prop:=
 ∃(k r:Nat) (bs cs:Nat→Nat) (M:List (List Int)) (ld Lq:List Int),k≤C∧kv= .int .i64 k∧LQ P C R M0 B G k r bs cs M ld Lq lv wr∧Below B w1 wr
theorem Re{wa:World}{B0 g0 n m cap e:Nat}{xs:List Value}(h:wa.ownsRow B0 e 1 (.slice (some ⟨g0,0,none⟩) n cap) m xs):B0≤g0∧g0<wa.heap.size:=h.lt g0 rfl
theorem zBg{wa:World}{B B0 g0 n cap:Nat}{PR:List Int}(h:wa.ownsRow B0 3 1 (.slice (some ⟨g0,0,none⟩) ([]++PR).length cap) ([]++PR).length (([]++PR).map (Value.int .i64)))(hpl:PR.length=n)(hB:B≤B0):
  wa.ownsRow B 3 1 (.slice (some ⟨g0,0,none⟩) n cap) PR.length (PR.map (Value.int .i64)):=by
 subst hpl;exact Cf h hB
theorem zEp{wa:World}{B0 g0 cap:Nat}{PR:List Int}(h:wa.ownsRow B0 3 1 (.slice (some ⟨g0,0,none⟩) ([]++PR).length cap) ([]++PR).length (([]++PR).map (Value.int .i64))):
  wa.ownsRow B0 3 1 (.slice (some ⟨g0,0,none⟩) (([]:List Int)++PR).length cap) PR.length (PR.map (Value.int .i64)):=h
theorem zBf{wr wa:World}(h:wr.grownBy wa (Value.slice none 0 0).ownBlock):Below wr.heap.size wr wa:=Cm h (Zl _) (fun b hb=>by simp[Value.ownBlock] at hb)
theorem zEl{wr wa wb:World}{g0 n cap:Nat}{o:Obj}(h:Below wr.heap.size wr wa)(hg:(wa.alloc o).grownBy wb (Value.slice (some ⟨g0,0,none⟩) n cap).ownBlock)(h0:wr.heap.size≤g0):Below wr.heap.size wr wb:=
 (h.alloc h.size o).grown hg (by have:=h.size;simp;omega) (fun b hb=>by
  have e:g0=b:=by simpa [Value.ownBlock] using hb
  omega)
theorem BR.push2{base:Nat}{w w1 w2:World}{hv:Value}{n k:Nat}{bs cs:Nat→Nat}{M:List (List Int)}(h:BR base w hv n k bs cs M){row:List Int}{y:Int}{g1 cap1 g2 cap2:Nat}{o2:Obj}
  (hw:∀b,b<w.heap.size→w1.heap[b]? =w.heap[b]?) (hws:w.heap.size≤w1.heap.size) (hn:row.length+1=n)
  (ho1:w1.ownsRow base 3 1 (.slice (some ⟨g1,0,none⟩) (row++[y]).length cap1) (row++[y]).length ((row++[y]).map (Value.int .i64))) (hg1lo:w.heap.size≤g1)
  (hg2:(w1.alloc o2).grownBy w2 hv.ownBlock) (ho2:w2.ownsRow base 22 1 (.slice (some ⟨g2,0,none⟩) (k+1) cap2) (k+1) ((List.range k).map (hd n bs cs)++[.slice (some ⟨g1,0,none⟩) (row++[y]).length cap1])) (ha2:hv.ownBlock=some g2∨g2=(w1.alloc o2).heap.size):
  BR base w2 (.slice (some ⟨g2,0,none⟩) (k+1) cap2) n (k+1) (upd bs k g1) (upd cs k cap1) (M++[row++[y]]):=by
 have hl:(row++[y]).length=n:=by simp;omega
 rw[hl] at ho1 ho2;obtain⟨r1,r2,r3,r4⟩:=RB.of_own ho1 rfl;have aG:=h.len;have aJ:=hg2.size;simp at aJ;have aH:=h.own.lt;have aB:g1<w1.heap.size:=r1.lt;have old:∀b,b<w.heap.size→hv.ownBlock≠some b→w2.heap[b]? =w.heap[b]? :=by
  intro b hb aI;rw[hg2.block b (by simp;omega) (fun e=>aI e.symm),Below.heap_alloc w1 o2 b (by omega)]
  exact hw b hb
 have aA:∀i,i<k→bs i<w.heap.size:=fun i hi=>(h.row i hi).1.lt
 have aC:∀b,(Value.slice (some ⟨g2,0,none⟩) (k+1) cap2).ownBlock=some b→hv.ownBlock=some b∨w1.heap.size≤b:=by
  intro b hb;have e:g2=b:=by injection hb
  subst e;rcases ha2 with e2|e2
  ·exact .inl e2
  ·right;rw[e2];simp
 refine⟨?_,by simp[aG],fun i hi=> ?_,fun i j hi hj aD=> ?_⟩
 ·have:(List.range (k+1)).map (hd n (upd bs k g1) (upd cs k cap1))=(List.range k).map (hd n bs cs)++[.slice (some ⟨g1,0,none⟩) n cap1]:=by
   rw[List.range_succ,List.map_append];congr 1
   ·apply List.map_congr_left;intro i hi;have:i≠k:=by have:=List.mem_range.1 hi;omega
    simp[hd,upd,this]
   ·simp[hd,upd]
  rw[this];exact ho2
 ·by_cases e:i=k
  ·subst e;have aE:gr (M++[row++[y]]) i=row++[y]:=by rw[Hf (by simp;omega)];simp[aG.symm]
   rw[aE];simp only[upd,↓reduceIte];refine⟨?_,hl,r3,by simpa [maxLen] using r4,r2,fun e2=> ?_⟩
   ·obtain⟨tl,r1⟩:=r1;refine⟨tl,?_⟩;rw[hg2.block g1 (by simp;omega) (fun e2=>by have:=(aH g1 e2.symm).2;omega),Below.heap_alloc w1 o2 g1 aB]
    exact r1
   ·rcases aC g1 e2 with e3|e3
    ·have:=(aH g1 e3).2;omega
    ·omega
  ·have aF:i<k:=by omega
   obtain⟨⟨tl,q1⟩,q2,q3,q4,q5,q6⟩:=h.row i aF;have aE:gr (M++[row++[y]]) i=gr M i:=by
    unfold gr;rw[List.getElem?_append_left (by omega)]
   rw[aE];simp only[upd];rw[if_neg e,if_neg e];refine⟨⟨tl,(old _ (aA i aF) q6).trans q1⟩,q2,q3,q4,q5,fun e2=> ?_⟩
   rcases aC _ e2 with e3|e3
   ·exact q6 e3
   ·have:=aA i aF;omega
 ·simp only[upd] at aD;by_cases ei:i=k
  ·by_cases ej:j=k
   ·omega
   ·rw[if_pos ei,if_neg ej] at aD;have:=aA j (by omega);omega
  ·by_cases ej:j=k
   ·rw[if_neg ei,if_pos ej] at aD;have:=aA i (by omega);omega
   ·rw[if_neg ei,if_neg ej] at aD;exact h.apart i j (by omega) (by omega) aD
theorem zEo{wr wa:World}{o:Obj}(h:(wr.alloc o).grownBy wa (Value.slice none 0 0).ownBlock):Below wr.heap.size wr wa:=
 ((Zb _ wr).alloc (Zl _) o).grown h (by simp) (fun b hb=>by simp[Value.ownBlock] at hb)
theorem zHj{wr wa:World}{y:Int}(h:(wr.alloc (.cells #[.int .i64 y] 3)).grownBy wa (Value.slice none 0 0).ownBlock):wa.cell? ⟨wr.heap.size,0,none⟩=some (.int .i64 y):=by
 have h1:=h.block wr.heap.size (by simp) (by simp[Value.ownBlock]);exact Zc wa wr.heap.size 0 _ _ _ (h1.trans (Zh wr _))
theorem zEn{w1 wb wd:World}{o:Obj}{v:Value}(h:Below w1.heap.size w1 wb)(hg:(wb.alloc o).grownBy wd v.ownBlock)(h0:∀b,v.ownBlock=some b→w1.heap.size≤b):Below w1.heap.size w1 wd:=
 (h.alloc h.size o).grown hg (by have:=h.size;simp;omega) h0
theorem zEm{wr wa wb:World}{g0 n cap:Nat}(h:Below wr.heap.size wr wa)(hg:wa.grownBy wb (Value.slice (some ⟨g0,0,none⟩) n cap).ownBlock)(h0:wr.heap.size≤g0):Below wr.heap.size wr wb:=
 h.grown hg h.size (fun b hb=>by
  have e:g0=b:=by simpa [Value.ownBlock] using hb
  omega)
theorem Rk(P:Int)(R C:Nat)(cl rl:List Int)(vc vr:Value)(w:World)(hp:prB P=true)(hR:R≤32)(hR1:1≤R)(hC:C≤32)(hC1:1≤C)(h1:cl.length=R*C)(h2:rl.length=R)(he1:els P cl=true)(he2:els P rl=true)(hc:SI w vc cl)(hr:SI w vr rl):
  Calls Tryz.prog 137 #[.agg #[.int .i64 P,.int .i64 R,.int .i64 C,vc,vr]] w fun e w'=>∃(G c r:Nat) (bs cs:Nat→Nat) (M:List (List Int)) (ld Lq:List Int) (lv:Value) (B:Nat),e= .returned (.tuple #[.slice (some ⟨G,0,none⟩) R c,lv])∧R≤c∧w.heap.size≤B∧LQ P C R (eqM cl rl C R) B G C r bs cs M ld Lq lv w'∧Below w.heap.size w w':=by
 have HP:=Zk hp;have HC:=Zk hc;have HR:=Zk hr;have E1:=Zk he1;have E2:=Zk he2;have L1:=Zk h1;have L2:=Zk h2;obtain⟨A1,c1,rfl,iI,hcm,_⟩:=hc;obtain⟨A2,c2,rfl,_⟩:=hr;have hRC:R*C≤1024:=Nat.mul_le_mul hR hC;obtain⟨nc,eN⟩:∃n,n=cl.length:=⟨_,rfl⟩;obtain⟨nr,eO⟩:∃n,n=rl.length:=⟨_,rfl⟩;have gR:nr=R:=by omega
 have hnc:nc≤1024:=by omega
 rw[←eN] at HC iI L1⊢;rw[←eO] at HR L2⊢;have cB:=Zk eN;have hK:=Zk eO;have dT:=Zk gR;clear h1 h2 he1 he2 hp eN eO gR;go_enter Tryz.func137,Tryz.ntmps137;obtain⟨E,eE⟩:∃E,E=w.heap.size:=⟨_,rfl⟩;obtain⟨w1,cN⟩:∃w1:World,w1=w.alloc (.cells #[.int .i64 P,.int .i64 R,.int .i64 C,.slice A1 nc c1,.slice A2 nr c2] 162):=⟨_,rfl⟩;have eG:Hid (w.alloc (.cells #[.int .i64 P,.int .i64 R,.int .i64 C,.slice A1 nc c1,.slice A2 nr c2] 162)=w1):=cN.symm;have aU:Hid (Below w.heap.size w w1):=Zk (by rw[cN];exact (Zb _ w).alloc (Zl _) _);have aX:Hid (w1.heap[E]? =some (.cells #[.int .i64 P,.int .i64 R,.int .i64 C,.slice A1 nc c1,.slice A2 nr c2] 162 (0,0))):=Zk (by show _=_;rw[cN,eE];exact Zh w _);have cM:Hid (∀W,Below w1.heap.size w1 W→W.cell? ⟨E,0,none⟩=some (.int .i64 P)∧W.cell? ⟨E,1,none⟩=some (.int .i64 R)∧W.cell? ⟨E,2,none⟩=some (.int .i64 C)∧W.cell? ⟨E,3,none⟩=some (.slice A1 nc c1)∧W.cell? ⟨E,4,none⟩=some (.slice A2 nr c2)):=Zk (fun W hg=>by
  have cO:=(hg.block E (Ae aX.out)).trans aX.out;exact⟨Zc W E 0 _ _ _ cO,Zc W E 1 _ _ _ cO,Zc W E 2 _ _ _ cO,Zc W E 3 _ _ _ cO,Zc W E 4 _ _ _ cO⟩)
 have iR:w.heap.size<w1.heap.size:=by rw[cN];simp
 have HE1:Hid (E<w1.heap.size):=Zk (by rw[eE];exact iR);go_upto_region 1 with fail
 rw[eG.out,←eE];clear cN eE;obtain⟨B,eB⟩:∃B,B=w1.heap.size:=⟨_,rfl⟩;have HB:=Zk eB;obtain⟨x0,x1,x2,x3,x4⟩:=cM.out w1 (Zb _ _);go_wp2_with fail;clear x0 x1 x2 x3 x4;go_loopw [5,6] (fun hv iv wr=>∃k:Nat,k≤R∧RuB C cl rl w1.heap.size w1 hv iv wr∧iv= .int .i64 k) (fun _ iv _=>R- (intOf iv).toNat)
 case atStart=>exact⟨0,Nat.zero_le _,⟨0,fun _=>0,fun _=>0,rfl,BR.nil _ _ _ _ _,Zb _ _⟩,rfl⟩
 case round=>
  obtain⟨k,hk,⟨k',bs,cs,ek,gD,aQ⟩,rfl⟩:=hrel;obtain rfl:k=k':=by injection ek with _ e;omega
  have bN:=Zk gD;have aV:=Zk aQ;have bV:=aQ.size;obtain⟨x0,x1,x2,x3,x4⟩:=cM.out wr aQ;have fX:Hid (Below w.heap.size w wr):=Zk (aU.out.trans (aQ.mono (by omega)));have dN:Hid (SI wr (.slice A1 nc c1) cl):=Zk (HC.out.below fX.out);have hQ:Hid (SI wr (.slice A2 nr c2) rl):=Zk (HR.out.below fX.out);clear gD aQ ek;by_cases hkR:k<R
  ·have dk:decide ((k:Int)<(R:Int))=true:=Ze (by omega);have eI:decide (k<R)=true:=Ze hkR;obtain⟨kc,dB⟩:∃kc,kc=k*C:=⟨_,rfl⟩;have hkc1:kc+C≤nc:=by rw[L1.out,dB];have:=Nat.mul_le_mul_right C (by omega:k+1≤R);rwa [Nat.add_mul,Nat.one_mul] at this
   have q1:(k:Int)*(C:Int)=(kc:Int):=by rw[dB];simp
   have q2:((k:Int)+1)*(C:Int)=(kc:Int)+(C:Int):=by rw[Int.add_mul,q1];simp
   have hG:=Zk dB;clear dB;obtain⟨b1,aH,iB,hb1,bK⟩:=dN.out.cells (by rw[←cB.out];omega);subst iB;clear bK;have x5:(0:Int)≤(kc:Int):=by omega
   have x6:(kc:Int)≤(kc:Int)+(C:Int):=by omega
   have x7:(kc:Int)+(C:Int)≤(c1:Int):=by omega
   have x8:(0:Int)≤(kc:Int)+(C:Int):=by omega
   have x9:((kc:Int)+(C:Int)).toNat=kc+C:=by omega
   have w1':IntKind.i64.wrap (kc:Int)=(kc:Int):=by exact Zi _ (by omega)
   have w2':IntKind.i64.wrap ((kc:Int)+(C:Int))=(kc:Int)+(C:Int):=by exact Zi _ (by omega)
   have w3':IntKind.i64.wrap ((k:Int)+1)=(k:Int)+1:=by exact Zi _ (by omega)
   have hne1:¬c1=kc:=by omega
   obtain⟨PR,cZ⟩:∃l,l=(cl.drop kc).take C:=⟨_,rfl⟩;have gT:PR.length=C:=by rw[cZ];simp;have:=cB.out;omega
   have cH:Hid (∀W,Below wr.heap.size wr W→SB wr.heap.size W (.slice (some ⟨b1,aH+kc,none⟩) C (c1-kc)) PR):=Zk (fun W hW=>by
    have h1:SI wr (.slice (some ⟨b1,aH,none⟩) cl.length c1) cl:=by rw[←cB.out];exact dN.out
    have h2:=h1.part (lo:=kc) (k:=C) (by rw[←cB.out];omega);rw[cZ];exact SB.below h2 hW)
   have eU:=dT.out;have gO:k<rl.length:=by rw[←hK.out];omega
   obtain⟨b2,aI,iC,iF,aR⟩:=HR.out.cells (by omega);subst iC;obtain⟨y,ey⟩:∃y,y=rl[k]:=⟨_,rfl⟩;have cA:Hid (∀W,Below w1.heap.size w1 W→W.cell? ⟨E,2,none⟩=some (.int .i64 C)∧W.cell? ⟨E,3,none⟩=some (.slice (some ⟨b1,aH,none⟩) nc c1)∧W.cell? ⟨E,4,none⟩=some (.slice (some ⟨b2,aI,none⟩) nr c2)∧W.cell? ⟨b2,aI+k,none⟩=some (.int .i64 y)):=Zk (fun W hW=>by
    obtain⟨y0,y1,y2,y3,y4⟩:=cM.out W hW;exact⟨y2,y3,y4,by rw[ey];exact ((aU.out.trans (hW.mono aU.out.size)).cell (p:=⟨b2,aI+k,none⟩) iF).trans (aR k gO)⟩)
   have aO:Hid (∀W,Below wr.heap.size wr W→W.cell? ⟨E,2,none⟩=some (.int .i64 C)∧W.cell? ⟨E,3,none⟩=some (.slice (some ⟨b1,aH,none⟩) nc c1)∧W.cell? ⟨E,4,none⟩=some (.slice (some ⟨b2,aI,none⟩) nr c2)∧W.cell? ⟨b2,aI+k,none⟩=some (.int .i64 y)):=Zk (fun W hW=>cA.out W (aV.out.trans (hW.mono bV)))
   obtain⟨A,ch,eL⟩:=Ch bN.out.own;subst eL;obtain⟨x2',x3',x4',xr⟩:=aO.out wr (Zb _ _);have z1:(0:Int)≤(k:Int):=by omega
   have z2:(k:Int)<(nr:Int):=by omega
   have hD:=Zk cZ;have hF:Hid (y=gd rl k):=Zk (by show _=_;rw[ey,Bw gO]);obtain⟨vs,eP⟩:∃vs,vs=(List.range k).map (hd (C+1) bs cs):=⟨_,rfl⟩;have hE:=Zk eP;have fP:Hid (wr.ownsRow w1.heap.size 22 1 (.slice A k ch) k vs):=Zk (by rw[eP];exact bN.out.own);have dV:Hid (∀b,(Value.slice A k ch).ownBlock=some b→w1.heap.size≤b∧b<wr.heap.size):=Zk (bN.out.own.lt);clear aR ey cZ eP x0 x2 x3 x4 eU;have bB:Hid (Below wr.heap.size wr (wr.alloc (.cells #[.int .i64 y] 3)).drew):=Zk (((Zb _ wr).alloc (Zl _) _).drew);have eA:Hid (wr.heap.size≤(wr.alloc (.cells #[.int .i64 y] 3)).drew.heap.size):=Zk (bB.out.size);have hV:=Zk (aO.out wr (Zb _ _));have hS:=Zk (aO.out _ bB.out);go_upto_region 6 with fail
   go_region_held3 (fun w'=>w'.cell? ⟨E,2,none⟩=some (.int .i64 C)∧w'.cell? ⟨E,3,none⟩=some (.slice (some ⟨b1,aH,none⟩) nc c1)∧w'.cell? ⟨E,4,none⟩=some (.slice (some ⟨b2,aI,none⟩) nr c2)∧w'.cell? ⟨b2,aI+k,none⟩=some (.int .i64 y))
    (first|exact hV.out|exact hS.out|exact fV.out|exact cJ.out|exact fW.out|exact cK.out|exact hU.out|go_keep)
    (first
    |(refine Dt _ (by rfl) (.const (.slice none 0 0)) _ 22 (by rfl) wr.heap.size 3 Tryz.underlying22 Bi (.slice none 0 0) [] (by rfl) (by exact World.ownsRow_nil _ _ _ _) wr.heap.size (.slice (some ⟨b1,aH+kc,none⟩) C (c1-kc)) PR (by rfl) (by exact cH.out _ (Zb _ wr).drew) (by omega) (by simp;omega) (by exact Zl _) ?_;intro g0 bF wa aA aE bI;have aN:Hid (Below wr.heap.size wr wa):=Zk (zBf ⟨aE.os,aE.tape,aE.output,aE.size,aE.block⟩);have fV:=Zk (aO.out wa aN.out);have cJ:=Zk (aO.out _ (aN.out.alloc aN.out.size (.cells #[.int .i64 y] 3)));have dQ:=Zk (Re aA);have dU:=Zk (zBg aA gT (Zl _));clear aA aE bI)
    |(refine Dt _ (by rfl) (.const (.slice none 0 0)) _ 22 (by rfl) wr.heap.size 3 Tryz.underlying22 Bi (.slice none 0 0) [] (by rfl) (by exact World.ownsRow_nil _ _ _ _) wr.heap.size (.slice (some ⟨b1,aH+kc,none⟩) C (c1-kc)) PR (by rfl) (by exact cH.out _ bB.out) (by omega) (by simp;omega) (by exact eA.out) ?_;intro g0 bF wa aA aE bI;have aN:Hid (Below wr.heap.size wr wa):=Zk (zEo ⟨aE.os,aE.tape,aE.output,aE.size,aE.block⟩);have aW:Hid (wa.cell? ⟨wr.heap.size,0,none⟩=some (.int .i64 y)):=Zk (zHj ⟨aE.os,aE.tape,aE.output,aE.size,aE.block⟩);have fV:=Zk (aO.out wa aN.out);have cJ:=Zk (aO.out _ (aN.out.alloc aN.out.size (.cells #[.int .i64 y] 3)));have dQ:=Zk (Re aA);have dU:=Zk (zBg aA gT (Zl _));have cC:=Zk (zEp aA);clear aA aE bI)
    |(revert aW;intro aW;refine Ax _ (by rfl) (.tmp 38) _ 22 (by rfl) wr.heap.size 3 Tryz.underlying22 Bi (.slice (some ⟨g0,0,none⟩) (([]:List Int)++PR).length bF) PR (by rfl) (by first|exact cC.out|exact cC.out.drew) y wr.heap.size (by rfl) (by exact aW.out) (by omega) (by exact aN.out.size) ?_;intro g1 aD wb aB aL bJ;have aJ:Hid (Below wr.heap.size wr wb):=Zk (zEm aN.out ⟨aL.os,aL.tape,aL.output,aL.size,aL.block⟩ dQ.out.1);have fW:=Zk (aO.out wb aJ.out);have cK:=Zk (aO.out _ (aJ.out.alloc aJ.out.size (.cells #[.slice (some ⟨g1,0,none⟩) (C+1) aD] 22)));have bY:=Zk (Re aB);have cD:=Zk aB;have eD:Hid (wb.ownsRow w1.heap.size 22 1 (.slice A k ch) k vs):=Zk (Bu fP.out (fun b hb=>aJ.out.block b (dV.out b hb).2));have dG:w1.heap.size≤wb.heap.size:=Nat.le_trans bV aJ.out.size;clear aB aL bJ aW)
    |(refine Ax _ (by rfl) (.tmp 38) _ 22 (by rfl) wr.heap.size 3 Tryz.underlying22 Bi (.slice (some ⟨g0,0,none⟩) C bF) PR (by rfl) (by first|exact dU.out.alloc (.cells #[.int .i64 y] 3)|exact (dU.out.alloc (.cells #[.int .i64 y] 3)).drew) y wa.heap.size (by rfl) (by exact Ba wa [.int .i64 y] 3 0 _ rfl) (by omega) (by have:=aN.out.size;simp;omega) ?_;intro g1 aD wb aB aL bJ;have aJ:Hid (Below wr.heap.size wr wb):=Zk (zEl aN.out ⟨aL.os,aL.tape,aL.output,aL.size,aL.block⟩ dQ.out.1);have fW:=Zk (aO.out wb aJ.out);have cK:=Zk (aO.out _ (aJ.out.alloc aJ.out.size (.cells #[.slice (some ⟨g1,0,none⟩) (C+1) aD] 22)));have bY:=Zk (Re aB);have cD:=Zk aB;have eD:Hid (wb.ownsRow w1.heap.size 22 1 (.slice A k ch) k vs):=Zk (Bu fP.out (fun b hb=>aJ.out.block b (dV.out b hb).2));have dG:w1.heap.size≤wb.heap.size:=Nat.le_trans bV aJ.out.size;clear aB aL bJ)
    |(refine Dz _ (by rfl) (.tmp 25) _ 33 (by rfl) w1.heap.size 22 (.slice none 0 0) 24 Tryz.underlying33 Ev (.slice A k ch) k vs (by rfl) (by first|exact eD.out.alloc (.cells #[.slice (some ⟨g1,0,none⟩) (C+1) aD] 22)|exact (eD.out.alloc (.cells #[.slice (some ⟨g1,0,none⟩) (C+1) aD] 22)).drew) (.slice (some ⟨g1,0,none⟩) (C+1) aD) (by rfl) wb.heap.size (by rfl) (by exact Ba wb [.slice (some ⟨g1,0,none⟩) (C+1) aD] 22 0 _ rfl) (by omega) (by omega) (by rfl) (by simp;omega) ?_;intro g2 cap2 wd aY bT cR;have fI:Hid ((wb.alloc (.cells #[.slice (some ⟨g1,0,none⟩) (C+1) aD] 22)).grownBy wd (Value.slice A k ch).ownBlock):=Zk (⟨bT.os,bT.tape,bT.output,bT.size,bT.block⟩);have gW:Hid ((Value.slice A k ch).ownBlock=some g2∨g2=(wb.alloc (.cells #[.slice (some ⟨g1,0,none⟩) (C+1) aD] 22)).heap.size):=Zk (cR);have fB:Hid (Below w1.heap.size w1 wd):=Zk (zEn (aV.out.trans (aJ.out.mono bV)) fI.out (fun b hb=>(dV.out b hb).1));have hU:=Zk (cA.out wd fB.out);have cE:=Zk aY;clear aY bT cR))
   all_goals
    go_wp2_with fail;go_roundw
    case rel=>
     have iO:(PR++[y]).length=C+1:=by simp;omega
     have gS:=cE.out;rw[←iO,hE.out] at gS;have bA:=BR.push2 bN.out (fun b hb=>aJ.out.block b hb) aJ.out.size (by omega) (Cf cD.out bV) bY.out.1 fI.out gS gW.out
     have hM:eqM cl rl C k++[PR++[y]]=eqM cl rl C (k+1):=by rw[Qd,Gx,←hF.out,hD.out,hG.out]
     rw[hM] at bA;exact⟨k+1,by omega,⟨k+1,_,_,by go_num,bA,fB.out⟩,by go_num⟩
    case measure=>simp[intOf];omega
  ·have dk:decide ((k:Int)<(R:Int))=false:=Zd (by omega);have eI:decide (k<R)=false:=Zd hkR;obtain rfl:R=k:=by omega
   obtain⟨G,c,eL,gK,gJ⟩:=bN.out.rm (by omega);subst eL;have gH:LQ P C R (eqM cl rl C R) w1.heap.size G 0 0 bs cs (eqM cl rl C R) (Ay 32) [] (.slice none 0 0) wr:=⟨gJ,GE.start fun i hi=>by
    rw[Hu] at hi;rw[Mb hi];exact⟨Nq (by rw[←cB.out];exact L1.out) hi,Np (Bj HP.out).1 C i E1.out E2.out⟩,rfl,fun n h=>by simp at h,World.ownsRow_nil _ _ _ _,fun b hb=>by simp[Value.ownBlock] at hb⟩
   have hH:=Zk gH;obtain⟨wz,rfl⟩:∃wz:World,wz=wr:=⟨_,rfl⟩;have cX:Hid (∀W,Below w1.heap.size wz W→W.cell? ⟨E,0,none⟩=some (.int .i64 P)∧W.cell? ⟨E,2,none⟩=some (.int .i64 C)):=Zk (fun W hW=>by
    obtain⟨y0,y1,y2,y3,y4⟩:=cM.out W (aV.out.trans hW);exact⟨y0,y2⟩)
   have fD:Hid (∀W,Below w1.heap.size wz W→Below w.heap.size w W):=Zk (fun W hW=>aU.out.trans ((aV.out.trans hW).mono (by omega)))
   have hP:=Bj HP.out;have dH:w1.heap.size≤wz.heap.size:=bV;clear gH gJ bN dN hQ cM HC HR;go_wp2_with fail;clear x0 x1 x2 x3 x4;go_loopw [7,8] (fun lv kv wr=>RuL P C R (eqM cl rl C R) w1.heap.size G wz lv kv wr) (fun _ kv _=>C- (intOf kv).toNat)
   case atStart=>exact⟨0,0,bs,cs,_,_,_,Nat.zero_le _,rfl,hH.out,Zb _ _⟩
   case round=>
    obtain⟨k,r,bs,cs,M,ld,Lq,hkC0,rfl,bQ,dE⟩:=hrel;have aC:=Zk bQ;have cU:=Zk dE;have gP:=bQ.len;have iN:r≤R:=by have:=bQ.ge.rk;have:=bQ.rm.len;omega
    obtain⟨AL,cL,fY⟩:=Ch bQ.own;rw[gP] at fY;subst fY;obtain⟨z0,z2⟩:=cX.out wr dE;have hzq:=dE.size;clear bQ dE;by_cases hkC:k<C
    case' neg=>
     have dk:decide ((k:Int)<(C:Int))=false:=Zd (by omega);have eI:decide (k<C)=false:=Zd hkC;obtain rfl:C=k:=by omega
     go_wp2_with fail;refine bodyPost_ret (v:= .tuple #[.slice (some ⟨G,0,none⟩) R c,.slice AL r cL]) (by simp[results,Tryz.results137,go_sem]) rfl ?_;exact⟨G,c,r,bs,cs,M,ld,Lq,_,w1.heap.size,rfl,gK,by omega,aC.out,fD.out _ cU.out⟩
    have dk:decide ((k:Int)<(C:Int))=true:=Ze (by omega);have eI:decide (k<C)=true:=Ze hkC;by_cases hrf:r<R
    case' neg=>
     have dr:decide ((r:Int)<(R:Int))=false:=Zd (by omega);have hZ:decide (r<R)=false:=Zd hrf;have hI:Hid (LQ P C R (eqM cl rl C R) w1.heap.size G C r bs cs M ld Lq (.slice AL r cL) wr):=Zk (aC.out.full (by omega) (by have:=aC.out.rm.len;omega));go_wp2_with fail;refine bodyPost_ret (v:= .tuple #[.slice (some ⟨G,0,none⟩) R c,.slice AL r cL]) (by simp[results,Tryz.results137,go_sem]) rfl ?_;exact⟨G,c,r,bs,cs,M,ld,Lq,_,w1.heap.size,rfl,gK,by omega,hI.out,fD.out _ cU.out⟩
    have dr:decide ((r:Int)<(R:Int))=true:=Ze (by omega);have hZ:decide (r<R)=true:=Ze hrf;go_wp2_with fail;go_loopw [10] (fun iv wx=>∃j:Nat,r≤j∧j≤R∧iv= .int .i64 j∧Hid (∀q,r≤q→q<j→gd (gr M q) k=0)∧wx=wr) (fun iv _=>R- (intOf iv).toNat)
    case atStart=>exact⟨r,Zl _,iN,rfl,(show Hid _ from fun q h1 h2=>by omega),rfl⟩
    case round=>
     obtain⟨j,iJ,hj2,rfl,HZ,iP⟩:=hrel;subst iP;by_cases hjm:j<R
     ·have dj:decide ((j:Int)<(R:Int))=true:=Ze (by omega);have hY:decide (j<R)=true:=Ze hjm;have cj:=aC.out.rm.cell hjm;have ej:=aC.out.rm.el (i:=j) (j:=k) hjm (by omega);obtain⟨x,hx⟩:∃x,x=gd (gr M j) k:=⟨_,rfl⟩;rw[←hx] at ej;by_cases h0:x=0
      ·subst h0;have hX:Hid (∀q,r≤q→q<j+1→gd (gr M q) k=0):=Zk (fun q h1 h2=>by
        by_cases e:q=j
        ·rw[e];exact hx.symm
        ·exact HZ.out q h1 (by omega))
       clear hx HZ;go_wp2_with fail;go_roundw
       case rel=>exact⟨j+1,by omega,by omega,by go_num,hX,by first|trivial|rfl⟩
       case measure=>simp[intOf];omega
      ·have gL:(x==0)=false:=by simp[h0]
       have HX:Hid (gd (gr M j) k≠0):=Zk (by rw[←hx];exact h0);have iK:((j:Int)==(R:Int))=false:=by rw[beq_eq_false_iff_ne];omega
       have eT:(j==R)=false:=by rw[beq_eq_false_iff_ne];omega
       have cr:=aC.out.rm.cell hrf;have fj:=aC.out.rm.frozen j;have fr:=aC.out.rm.frozen r;have y1:(0:Int)≤(j:Int):=by omega
       have y2:(j:Int)<(R:Int):=by omega
       have y3:(0:Int)≤(r:Int):=by omega
       have y4:(r:Int)<(R:Int):=by omega
       have HZE:=cX;go_upto_region 16 with fail
       go_cut [] (fun wx=>RM w1.heap.size wx G (C+1) R (sw bs r j) (sw cs r j) (swp M r j)∧wx.ownsRow w1.heap.size 3 1 (.slice AL r cL) Lq.length (Lq.map (Value.int .i64))∧Below w1.heap.size wz wx)
       case first=>
        have fN:=Zk (aC.out.rm.swap2 hrf hjm);have dD:w1.heap.size≤G:=aC.out.rm.gb;have eS:=aC.out.apart;have fR:Hid (((wr.setCell ⟨G,j,none⟩ (hd (C+1) bs cs r)).setCell ⟨G,r,none⟩ (hd (C+1) bs cs j)).ownsRow w1.heap.size 3 1 (.slice AL r cL) Lq.length (Lq.map (Value.int .i64))):=Zk (Bu aC.out.own (fun b hb=>(Zo _ ⟨G,r,none⟩ b _ (eS b hb).1).trans (Zo wr ⟨G,j,none⟩ b _ (eS b hb).1)))
        have fC:Hid (Below w1.heap.size wz ((wr.setCell ⟨G,j,none⟩ (hd (C+1) bs cs r)).setCell ⟨G,r,none⟩ (hd (C+1) bs cs j))):=Zk ((cU.out.setCell (p:=⟨G,j,none⟩) dD _).setCell (p:=⟨G,r,none⟩) dD _);clear eS;by_cases gQ:j=r
        ·subst gQ;go_region
         all_goals
          go_wp2_with fail;go_meet
          exact⟨fN.out.drew,fR.out,fC.out.drew⟩
        ·go_region
         all_goals
          go_wp2_with fail;go_meet
          exact⟨fN.out.drew,fR.out,fC.out.drew⟩
       case rest=>
        obtain⟨cP,gI,dC⟩:=hcut;have dR:=Zk cP;have cD:=Zk gI;have dK:=Zk dC;have dI:=Zk (Xk (r:=r) (j:=j) hrf hjm aC.out.apart);have dG:w1.heap.size≤wc.heap.size:=Nat.le_trans dH dC.size;clear cj ej cr fj fr z0 z2;have cr:=cP.cell hrf;have er:=cP.el (i:=r) (j:=k) hrf (by omega);have aM:Hid (M.length=R):=Zk (aC.out.rm.len);have bY:Hid (gr (swp M r j) r=gr M j):=Zk (by
         show _=_;rw[Hg (by rw[aM.out];exact hrf) (by rw[aM.out];exact hjm)];by_cases e:r=j
         ·rw[if_pos e,e]
         ·rw[if_neg e,if_pos rfl])
        rw[bY.out] at er;have cT:=aC.out.rm.row j hjm;have bS:els P (gr M j)=true:=(aC.out.ge.row j (by rw[aM.out];exact hjm)).2;have gV:=Co (Cd hP.1 bS k);rw[←hx] at er gV;obtain⟨aG,eM⟩:∃v,v=inv P x:=⟨_,rfl⟩;have gN:=Ix hP.1 x;rw[←eM] at gN;have EX:=Zk hx;have eZ:=Zk eM;have hB:=Zk bS;have aF:Hid ((gr M j).length=C+1):=Zk (cT.2.1);obtain⟨r1,r2,r3,r4,r5,r6⟩:=cP.row r hrf;obtain⟨b0,eJ⟩:∃b,b=sw bs r j r:=⟨_,rfl⟩;obtain⟨c0,eK⟩:∃b,b=sw cs r j r:=⟨_,rfl⟩;rw[←eJ] at cr er r5 r6 r1;rw[←eK] at cr r3 r4;rw[bY.out] at r1;have bM:=Zk eJ;have gZ:=Zk eK;have cW:=Zk r1;obtain⟨e0,_⟩:=cX.out wc dC;have fU:Hid (∀W,Below wc.heap.size wc W→W.cell? ⟨E,0,none⟩=some (.int .i64 P)∧W.cell? ⟨G,r,none⟩=some (.slice (some ⟨b0,0,none⟩) (C+1) c0)∧W.cell? ⟨b0,k,none⟩=some (.int .i64 x)):=Zk (fun W hW=>by
         have iD:=dR.out.lt;have iH:=cW.out.lt;exact⟨(cX.out W (dK.out.trans (hW.mono dG))).1,(hW.cell (p:=⟨G,r,none⟩) iD).trans cr,(hW.cell (p:=⟨b0,k,none⟩) iH).trans er⟩)
        have iQ:x≠0:=h0;clear cP gI dC eM bS cT r2 eJ eK r1 hx h0 gL;have y5:(0:Int)≤(k:Int):=by omega
        have y6:(k:Int)<(C:Int)+1:=by omega
        go_wp2_with fail;go_region_held3 (fun w'=>w'.cell? ⟨E,0,none⟩=some (.int .i64 P)∧w'.cell? ⟨G,r,none⟩=some (.slice (some ⟨b0,0,none⟩) (C+1) c0)∧w'.cell? ⟨b0,k,none⟩=some (.int .i64 x)) (first|exact⟨e0,cr,er⟩|exact dY.out|go_keep)
         ((go_at_call 96;refine (Mr P x _ hP gV (fun _=>iQ)).mono ?_;rintro e w9 ⟨rfl,bR⟩;rw[←eZ.out];have bW:Hid (Below wc.heap.size wc w9):=Zk (⟨bR.os,bR.tape,bR.output,bR.size,bR.block⟩);have dY:=Zk (fU.out w9 bW.out);clear bR))
        clear cr er e0;obtain⟨e0,cr,er⟩:=dY.out;have fL:Hid (RM w1.heap.size w9 G (C+1) R (sw bs r j) (sw cs r j) (swp M r j)):=Zk (dR.out.below bW.out);have cE:Hid (w9.ownsRow w1.heap.size 3 1 (.slice AL r cL) Lq.length (Lq.map (Value.int .i64))):=Zk (Eo cD.out bW.out);have dM:Hid (Below w1.heap.size wz w9):=Zk (dK.out.trans (bW.out.mono dG));have cI:Hid (RB w9 b0 (gr M j)):=Zk (cW.out.below bW.out cW.out.lt);have fF:=Zk cr;clear dR cD dK cW fU dY er e0;have iS:w1.heap.size≤w9.heap.size:=Nat.le_trans dH dM.out.size;go_wp2_with fail;clear cr;go_loopw [113] (fun iv wr=>∃q:Nat,q≤C+1∧iv= .int .i64 q∧Hid (RB wr b0 (scp P aG (gr M j) q))∧Hid (w9.grownBy wr (some b0))) (fun iv _=>(C+1)- (intOf iv).toNat)
        case atStart=>exact⟨0,Nat.zero_le _,by go_num,(show Hid _ from by rw[Rm];exact cI.out),(show Hid _ from Ai _ _)⟩
        case round=>
         obtain⟨q,hq,rfl,HQ,bP⟩:=hrel;have cr:=bP.out.cell fF.out (by simp;omega);by_cases hqn:q<C+1
         ·have dq:decide ((q:Int)<(C:Int)+1)=true:=Ze (by omega);have cY:decide (q<C+1)=true:=Ze hqn;have eV:q<(scp P aG (gr M j) q).length:=by rw[Ej,aF.out];exact hqn
          have cq:=HQ.out.cell eV;have fq:=HQ.out.frozen q;have hy:=Co (Cd hP.1 hB.out q);obtain⟨y,ey⟩:∃y,y=gd (gr M j) q:=⟨_,rfl⟩;have HY:Hid (RB (wr.setCell ⟨b0,q,none⟩ (.int .i64 (y*aG%P))) b0 (scp P aG (gr M j) (q+1))):=Zk (by
           have:=HQ.out.set eV (y*aG%P);rw[ey,Vh _ _ _ _ (by rw[aF.out];exact hqn)] at this;rw[ey];exact this)
          have aK:Hid (w9.grownBy (wr.setCell ⟨b0,q,none⟩ (.int .i64 (y*aG%P))) (some b0)):=Zk (Ak bP.out (.inl rfl) _);rw[←Bw,Ki _ _ _ _ _ (by rw[aF.out];exact hqn),if_neg (by omega),←ey] at cq;rw[←ey] at hy;have eX:=Eg hy gN hP.2;have u1:IntKind.i64.wrap (y*aG)=y*aG:=by exact Zi _ (by omega)
          have u2:(y*aG).tmod P=y*aG%P:=Int.tmod_eq_emod_of_nonneg (by omega);have iL:0≤y*aG%P:=Int.emod_nonneg _ (by omega);have iM:y*aG%P<P:=Int.emod_lt_of_pos _ (by omega);have u3:IntKind.i64.wrap (y*aG%P)=y*aG%P:=by exact Zi _ (by omega)
          have iE:¬P=0:=by omega
          have y7:(0:Int)≤(q:Int):=by omega
          have y8:(q:Int)<(C:Int)+1:=by omega
          have iG:¬b0=G:=r6;have dD:¬G=b0:=fun e=>r6 e.symm
          clear ey eV eX iL iM;go_upto_region 21 with fail
          go_region
          all_goals
           go_wp2_with fail;go_roundw
           case rel=>exact⟨q+1,by omega,by go_num,by first|exact HY|exact (show Hid _ from HY.out.drew),by first|exact aK|exact (show Hid _ from ⟨aK.out.os,aK.out.tape,aK.out.output,aK.out.size,aK.out.block⟩)⟩
           case measure=>simp[intOf];omega
         ·have dq:decide ((q:Int)<(C:Int)+1)=false:=Zd (by omega);have cY:decide (q<C+1)=false:=Zd hqn;obtain rfl:q=C+1:=by omega
          have HF:Hid (scp P aG (gr M j) (C+1)=El P k j M):=Zk (by
           show _=_;have:=Vg P aG (gr M j);rw[aF.out] at this;rw[this,eZ.out,EX.out];rfl)
          have dP:Hid ((El P k j M).length=C+1):=Zk (by show _=_;rw[El,Ls];exact aF.out);have fH:Hid (els P (El P k j M)=true):=Zk (Pa hP.1 _ _);obtain⟨F,eF⟩:∃F,F=El P k j M:=⟨_,rfl⟩;rw[←eF] at HF dP fH;have fM:Hid (RM w1.heap.size wr G (C+1) R (sw bs r j) (sw cs r j) ((swp M r j).set r F)):=Zk (by
           refine fL.out.upd hrf dP.out ?_ ?_
           ·rw[←bM.out];exact bP.out
           ·rw[←bM.out,←HF.out];exact HQ.out)
          have fO:Hid (wr.ownsRow w1.heap.size 3 1 (.slice AL r cL) Lq.length (Lq.map (Value.int .i64))):=Zk (Bu cE.out (fun b hb=>bP.out.block b (cE.out.lt b hb).2 (fun e=>(dI.out b hb).2 r hrf (by rw[←bM.out];injection e))))
          have fA:Hid (Below w1.heap.size wz wr):=Zk (dM.out.trans (Cw bP.out r5 iS));have hA:=Zk eF;have gE:F.length=C+1:=dP.out;have dO:=Zk gE;go_wp2_with fail;obtain⟨wy,gC⟩:∃wy,wy=wr:=⟨_,rfl⟩;rw[←gC] at fM fO fA⊢;clear cr HQ bP fL cE dM cI eF HF gC fF dq cY hqn hq gE;go_loopw [136] (fun iv wr=>∃q:Nat,q≤R∧iv= .int .i64 q∧Hid (RM w1.heap.size wr G (C+1) R (sw bs r j) (sw cs r j) (elN P k r F ((swp M r j).set r F) q))∧Hid (wr.ownsRow w1.heap.size 3 1 (.slice AL r cL) Lq.length (Lq.map (Value.int .i64)))∧Hid (Below w1.heap.size wz wr)) (fun iv _=>R- (intOf iv).toNat)
          case atStart=>exact⟨0,Nat.zero_le _,by go_num,(show Hid _ from by rw[Qb];exact fM.out),fO,fA⟩
          case round=>
           obtain⟨q,hq,rfl,aP,bO,bC⟩:=hrel;by_cases hqm:q<R
           ·have dq:decide ((q:Int)<(R:Int))=true:=Ze (by omega);have cY:decide (q<R)=true:=Ze hqm;have cq:=aP.out.cell hqm;have eq:=aP.out.el (i:=q) (j:=k) hqm (by omega);have bE:Hid (((swp M r j).set r F).length=R):=Zk (by show _=_;rw[List.length_set,Dx];exact aM.out);have bU:gr (elN P k r F ((swp M r j).set r F) q) q=gr ((swp M r j).set r F) q:=by rw[Fs (by rw[bE.out];exact hqm),if_neg (by omega)]
            rw[bU] at eq;obtain⟨Rw,eR⟩:∃Rw,Rw=gr ((swp M r j).set r F) q:=⟨_,rfl⟩;rw[←eR] at eq bU;have z5:(0:Int)≤(q:Int):=by omega
            have z6:(q:Int)<(R:Int):=by omega
            obtain⟨y,ey⟩:∃y,y=gd Rw k:=⟨_,rfl⟩;rw[←ey] at eq;by_cases hqr:q=r
            ·subst hqr;have dZ:Hid (elN P k q F ((swp M q j).set q F) (q+1)=elN P k q F ((swp M q j).set q F) q):=Zk (Jg _ _ _ _ _ _ (.inl rfl));have hnb:((q:Int) !=(q:Int))=false:=by simp
             clear bU eR ey;go_wp2_with fail;go_roundw
             case rel=>exact⟨q+1,by omega,by go_num,(show Hid _ from by rw[dZ.out];exact aP.out),bO,bC⟩
             case measure=>simp[intOf];omega
            ·have gQ:((q:Int) !=(r:Int))=true:=by simp;omega
             have hneN:(q !=r)=true:=by rw[bne_iff_ne];exact hqr
             by_cases hy0:y=0
             ·subst hy0;have dZ:Hid (elN P k r F ((swp M r j).set r F) (q+1)=elN P k r F ((swp M r j).set r F) q):=Zk (Jg _ _ _ _ _ _ (.inr (by rw[←eR];exact ey.symm)));clear bU eR ey;go_wp2_with fail;go_roundw
              case rel=>exact⟨q+1,by omega,by go_num,(show Hid _ from by rw[dZ.out];exact aP.out),bO,bC⟩
              case measure=>simp[intOf];omega
             ·have hy1:(y !=0)=true:=by simp[hy0]
              obtain⟨q1,q2,q3,q4,q5,q6⟩:=aP.out.row q hqm;obtain⟨s1,s2,s3,s4,s5,s6⟩:=aP.out.row r hrf;have bH:sw bs r j q≠b0:=fun e=>hqr (aP.out.apart q r hqm hrf (by rw[e,bM.out]))
              have gF:gr (elN P k r F ((swp M r j).set r F) q) r=F:=by
               rw[Fs (by rw[bE.out];exact hrf),if_neg (by omega),Gi (by rw[Dx,aM.out];exact hrf),if_pos rfl]
              have eQ:els P Rw=true:=by
               rw[eR,Gi (by rw[Dx,aM.out];exact hrf),if_neg hqr,Hg (by rw[aM.out];exact hrf) (by rw[aM.out];exact hjm)];split
               ·exact (aC.out.ge.row r (by rw[aM.out];exact hrf)).2
               ·exact (aC.out.ge.row q (by rw[aM.out];exact hqm)).2
              have hyb:0≤y∧y<P:=by rw[ey];exact Co (Cd hP.1 eQ k)
              rw[bU] at q1 q2;rw[gF,←bM.out] at s1;have cr:=aP.out.cell hrf;rw[←bM.out,←gZ.out] at cr;obtain⟨bq,dA⟩:∃b,b=sw bs r j q:=⟨_,rfl⟩;obtain⟨cq',fZ⟩:∃b,b=sw cs r j q:=⟨_,rfl⟩;rw[←dA] at cq eq q1 q5 q6 bH;rw[←fZ] at cq;obtain⟨sb,gA⟩:∃v,v=P-y:=⟨_,rfl⟩;have eW:0≤sb∧sb<P:=by omega
              have wsb:IntKind.i64.wrap (P-y)=sb:=by rw[gA];exact Zi _ (by omega)
              have aT:(0-y+P)%P=sb:=by rw[show 0-y+P=sb by omega];exact Int.emod_eq_of_lt eW.1 eW.2
              have hT:Hid (elN P k r F ((swp M r j).set r F) (q+1)=(elN P k r F ((swp M r j).set r F) q).set q (Bl P Rw 0 sb F)):=Zk (by
               show _=_;rw[Qa _ _ _ _ _ _ (by rw[bE.out];exact hqm) hqr,←eR,el1,if_neg (by rw[←ey];exact hy0),←ey,aT])
              have fS:=Zk q1;have fT:=Zk s1;have dX:Hid (Rw.length=C+1):=Zk (q2);have hO:=Zk eQ;have fG:=Zk dA;have fE:=Zk cq;have bX:=Zk cr;have hyP:y≠0:=hy0;obtain⟨wv,gB⟩:∃wv,wv=wr:=⟨_,rfl⟩;have dJ:Hid (∀b,(Value.slice AL r cL).ownBlock=some b→b≠bq):=Zk (fun b hb=>by rw[dA];exact (dI.out b hb).2 q hqm)
              clear bU eR ey gA gF eQ q1 q2 q3 q4 s1 s2 s3 s4 s5 s6 fZ dA aT hy0;go_wp2_with fail;rw[←gB] at aP bO bC fS fT fE bX⊢;clear gB cq cr eq;go_loopw [158] (fun iv wr=>∃t:Nat,t≤C+1∧iv= .int .i64 t∧Hid (RB wr bq (Bl P Rw 0 sb (F.take t)))∧Hid (wv.grownBy wr (some bq))) (fun iv _=>(C+1)- (intOf iv).toNat)
              case atStart=>exact⟨0,Nat.zero_le _,by go_num,(show Hid _ from by rw[List.take_zero,Eb];exact fS.out),(show Hid _ from Ai _ _)⟩
              case round=>
               obtain⟨t,ht,rfl,cV,bD⟩:=hrel;have cq:=bD.out.cell fE.out (by simp;omega);have cr:=bD.out.cell bX.out (by simp;omega);by_cases htn:t<C+1
               ·have dt:decide ((t:Int)<(C:Int)+1)=true:=Ze (by omega);have iA:decide (t<C+1)=true:=Ze htn;have dF:t<F.length:=by rw[dO.out];exact htn
                have cF:=bD.out.cell (fT.out.cell dF) (by simp;omega);have aS:(Bl P Rw 0 sb (F.take t)).length=C+1:=by rw[Bg];exact dX.out
                have cQ:=cV.out.cell (j:=t) (by rw[aS];exact htn);have fQ:=cV.out.frozen t;have bS:=Co (Cd hP.1 (Cq hP.1 hO.out 0 sb (F.take t)) t);have bL:=Co (Be fH.out _ (List.getElem_mem dF));rw[←Bw] at cQ;obtain⟨z,ez⟩:∃z,z=gd (Bl P Rw 0 sb (F.take t)) t:=⟨_,rfl⟩;rw[←ez] at cQ bS;obtain⟨u,eu⟩:∃u,u=F[t]:=⟨_,rfl⟩;rw[←eu] at cF bL;have eC:Hid (Bl P Rw 0 sb (F.take (t+1))=(Bl P Rw 0 sb (F.take t)).set t ((z+sb*u)%P)):=Zk (by
                 have h:=Ea P Rw 0 sb F t dF (by rw[dX.out,dO.out];omega);rw[Nat.zero_add] at h;show _=_;rw[ez,eu];exact h)
                have HY:Hid (RB (wr.setCell ⟨bq,t,none⟩ (.int .i64 ((z+sb*u)%P))) bq (Bl P Rw 0 sb (F.take (t+1)))):=Zk (by rw[eC.out];exact cV.out.set (by rw[aS];exact htn) _);have aK:Hid (wv.grownBy (wr.setCell ⟨bq,t,none⟩ (.int .i64 ((z+sb*u)%P))) (some bq)):=Zk (Ak bD.out (.inl rfl) _);have eX:=Eg eW bL hP.2;have u1:IntKind.i64.wrap (sb*u)=sb*u:=by exact Zi _ (by omega)
                have u2:IntKind.i64.wrap (z+sb*u)=z+sb*u:=by exact Zi _ (by omega)
                have u3:(z+sb*u).tmod P=(z+sb*u)%P:=Int.tmod_eq_emod_of_nonneg (by omega);have u4:IntKind.i64.wrap ((z+sb*u)%P)=(z+sb*u)%P:=by
                 have h1:=Int.emod_nonneg (z+sb*u) (show P≠0 by omega);have h2:=Int.emod_lt_of_pos (z+sb*u) (show 0<P by omega);exact Zi _ (by omega)
                have iE:¬P=0:=by omega
                have y7:(0:Int)≤(t:Int):=by omega
                have y8:(t:Int)<(C:Int)+1:=by omega
                have iG:¬bq=G:=q6;have dD:¬G=bq:=fun e=>q6 e.symm
                have gL:¬bq=b0:=bH;have hb0':¬b0=bq:=fun e=>bH e.symm
                clear ez eu aS bS bL eX dF;go_upto_region 31 with fail
                go_region
                all_goals
                 go_wp2_with fail;go_roundw
                 case rel=>exact⟨t+1,by omega,by go_num,by first|exact HY|exact (show Hid _ from HY.out.drew),by first|exact aK|exact (show Hid _ from ⟨aK.out.os,aK.out.tape,aK.out.output,aK.out.size,aK.out.block⟩)⟩
                 case measure=>simp[intOf];omega
               ·have dt:decide ((t:Int)<(C:Int)+1)=false:=Zd (by omega);have iA:decide (t<C+1)=false:=Zd htn;have gG:F.take t=F:=List.take_of_length_le (by rw[dO.out];omega);have dW:Hid (RM w1.heap.size wr G (C+1) R (sw bs r j) (sw cs r j) (elN P k r F ((swp M r j).set r F) (q+1))):=Zk (by
                 show RM _ _ _ _ _ _ _ _;rw[hT.out];have h1:=cV.out;rw[gG] at h1;exact aP.out.upd hqm (by rw[Bg];exact dX.out) (by rw[←fG.out];exact bD.out) (by rw[←fG.out];exact h1))
                have hN:Hid (wr.ownsRow w1.heap.size 3 1 (.slice AL r cL) Lq.length (Lq.map (Value.int .i64))):=Zk (Bu bO.out (fun b hb=>bD.out.block b (bO.out.lt b hb).2 (fun e=>dJ.out b hb (by injection e))))
                have gY:Hid (Below w1.heap.size wz wr):=Zk (bC.out.trans (Cw bD.out q5 (Nat.le_trans dH bC.out.size)));clear gG;go_wp2_with fail;go_roundw
                case rel=>exact⟨q+1,by omega,by go_num,dW,hN,gY⟩
                case measure=>simp[intOf];omega
           ·have dq:decide ((q:Int)<(R:Int))=false:=Zd (by omega);have cY:decide (q<R)=false:=Zd hqm;have gU:q=R:=by omega
            have dS:Hid (RM w1.heap.size wr G (C+1) R (sw bs r j) (sw cs r j) (elN P k r F ((swp M r j).set r F) R)):=Zk (by have h9:=aP.out;rw[gU] at h9;exact h9);have bG:Lq.length=r:=gP;have cG:Hid (wr.ownsRow w1.heap.size 3 1 (.slice AL r cL) r (Lq.map (Value.int .i64))):=Zk (by have h9:=bO.out;rw[bG] at h9;exact h9);have HLQL:=Zk bG;have hr32:r≤32:=by omega
            have iT:w1.heap.size≤wr.heap.size:=Nat.le_trans dH bC.out.size;clear bG gU;go_wp2_with (at_builtin;refine Bt _ rfl _ _ 22 rfl w1.heap.size 3 (.int .i64 0) 8 Tryz.underlying22 Bi _ r (Lq.map (Value.int .i64)) rfl (cG.out.alloc _) (.int .i64 k) rfl wr.heap.size rfl (Ba wr [.int .i64 k] 3 0 _ rfl) (by omega) (by omega) rfl (by simp;omega) ?_;intro g9 eH eY aZ gM cS;have hL:=Zk aZ;have fJ:Hid ((wr.alloc (.cells #[.int .i64 k] 3)).grownBy eY (Value.slice AL r cL).ownBlock):=Zk (gM);have gX:Hid ((Value.slice AL r cL).ownBlock=some g9∨g9=(wr.alloc (.cells #[.int .i64 k] 3)).heap.size):=Zk (cS);clear aZ gM cS);have fK:=aC.out.ge.lead HP.out hkC hC iJ (by rw[aM.out];exact hjm) HX.out;rw[Kt,←hA.out,aM.out] at fK;have dL:Hid (Below w1.heap.size wz eY):=Zk ((bC.out.alloc iT _).grown fJ.out (by simp;omega) (fun b hb=>(cG.out.lt b hb).1))
            have bZ:Hid (LQ P C R (eqM cl rl C R) w1.heap.size G (k+1) (r+1) (sw bs r j) (sw cs r j) (elN P k r F ((swp M r j).set r F) R) (ld.set k ((r:Int)+1)) (Lq++[(k:Int)]) (.slice (some ⟨g9,0,none⟩) (r+1) eH) eY):=Zk (zDz aC.out fK dS.out dI.out fJ.out gX.out hL.out hkC hC);go_roundw
            case rel=>exact⟨k+1,r+1,_,_,_,_,_,by omega,by go_num,bZ.out,dL.out⟩
            case measure=>simp[intOf];omega
     ·have dj:decide ((j:Int)<(R:Int))=false:=Zd (by omega);have hY:decide (j<R)=false:=Zd hjm;have iK:((j:Int)==(R:Int))=true:=by rw[beq_iff_eq];omega
      have eT:(j==R)=true:=by rw[beq_iff_eq];omega
      have hJ:Hid (LQ P C R (eqM cl rl C R) w1.heap.size G (k+1) r bs cs M ld Lq (.slice AL r cL) wr):=Zk (aC.out.none fun q h1 h2=>HZ.out q h1 (by have:=aC.out.rm.len;omega))
      go_wp2_with fail;go_roundw
      case rel=>exact⟨k+1,r,bs,cs,M,ld,Lq,by omega,by go_num,hJ.out,cU.out⟩
      case measure=>simp[intOf];omega
open Go.RowKit
theorem Rl(P:Int)(R C:Nat)(cl rl:List Int)(vc vr:Value)(w:World)(hp:prB P=true)(hR:R≤32)(hC:C≤32)(h1:cl.length=R*C)(h2:rl.length=R)(he1:els P cl=true)(he2:els P rl=true)(hc:SI w vc cl)(hr:SI w vr rl):
  Calls Tryz.prog 136 #[.agg #[.int .i64 P,.int .i64 R,.int .i64 C,vc,vr]] w fun e w'=>e= .returned (.int .i64 0)∧Below w.heap.size w w':=by
 have HP:=Zk hp;have hPb:=Bj hp;have aM:At P:=by unfold At;omega
 have HC:=Zk hc;have HR:=Zk hr;have E1:=Zk he1;have E2:=Zk he2;obtain⟨A1,c1,rfl⟩:=hc.form;obtain⟨A2,c2,rfl⟩:=hr.form;have hRC:R*C≤1024:=Nat.mul_le_mul hR hC;obtain⟨nc,aK⟩:∃n,n=cl.length:=⟨_,rfl⟩;obtain⟨nr,aL⟩:∃n,n=rl.length:=⟨_,rfl⟩;have HNC:=Zk aK;have HNR:=Zk aL;rw[←aK] at HC h1⊢;rw[←aL] at HR h2⊢;have wRC:IntKind.i64.wrap ((R:Int)*(C:Int))=(nc:Int):=by
  have e:(R:Int)*(C:Int)=(nc:Int):=by rw[h1];simp
  rw[e];exact Zi _ (by omega)
 have d1:decide ((R:Int)<0)=false:=Zd (by omega);have d2:decide ((32:Int)<(R:Int))=false:=Zd (by omega);have d3:decide ((C:Int)<0)=false:=Zd (by omega);have d4:decide ((32:Int)<(C:Int))=false:=Zd (by omega);have d2n:decide (32<R)=false:=Zd (by omega);have d4n:decide (32<C)=false:=Zd (by omega);have d5:((nc:Int) !=(nc:Int))=false:=by simp
 have d6:((nr:Int) !=(R:Int))=false:=by rw[bne_eq_false_iff_eq];omega
 have d6n:(nr !=R)=false:=by rw[bne_eq_false_iff_eq];exact h2
 have aD:inB P cl=true:=by unfold inB;rw[hp,he1];rfl
 have aE:inB P rl=true:=by unfold inB;rw[hp,he2];rfl
 have aS:=Zk aD;have aT:=Zk aE;have aQ:rcE P=0:=if_pos hp;have aU:=Zk aQ;clear hc hr he1 he2 hp aK aL h1 h2 aD aE aQ;go_enter Tryz.func136,Tryz.ntmps136;obtain⟨E,eE⟩:∃E,E=w.heap.size:=⟨_,rfl⟩;obtain⟨w1,aH⟩:∃w1:World,w1=w.alloc (.cells #[.int .i64 P,.int .i64 R,.int .i64 C,.slice A1 nc c1,.slice A2 nr c2] 162):=⟨_,rfl⟩;have aI:Hid (w.alloc (.cells #[.int .i64 P,.int .i64 R,.int .i64 C,.slice A1 nc c1,.slice A2 nr c2] 162)=w1):=aH.symm;have aA:Hid (Below w.heap.size w w1):=Zk (by rw[aH];exact (Zb _ w).alloc (Zl _) _);have aB:Hid (w1.heap[E]? =some (.cells #[.int .i64 P,.int .i64 R,.int .i64 C,.slice A1 nc c1,.slice A2 nr c2] 162 (0,0))):=Zk (by show _=_;rw[aH,eE];exact Zh w _);have aJ:Hid (∀W,Below w1.heap.size w1 W→W.cell? ⟨E,0,none⟩=some (.int .i64 P)∧W.cell? ⟨E,1,none⟩=some (.int .i64 R)∧W.cell? ⟨E,2,none⟩=some (.int .i64 C)∧W.cell? ⟨E,3,none⟩=some (.slice A1 nc c1)∧W.cell? ⟨E,4,none⟩=some (.slice A2 nr c2)):=Zk (fun W hg=>by
  have aC:=(hg.block E (Ae aB.out)).trans aB.out;exact⟨Zc W E 0 _ _ _ aC,Zc W E 1 _ _ _ aC,Zc W E 2 _ _ _ aC,Zc W E 3 _ _ _ aC,Zc W E 4 _ _ _ aC⟩)
 go_upto_region 1 with fail
 rw[aI.out,←eE];clear aH eE;obtain⟨x0,x1,x2,x3,x4⟩:=aJ.out w1 (Zb _ _);go_wp2_with fail;(with_reducible refine (Em P w1 aM).mono ?_)
 rintro e w2 ⟨rfl,aN⟩;rw[aU.out];have aF:Hid (Below w1.heap.size w1 w2):=Zk (aN);clear x0 x1 x2 x3 x4 aN;obtain⟨x0,x1,x2,x3,x4⟩:=aJ.out w2 aF.out;go_wp2_with fail;(with_reducible refine (Ei P cl _ w2 aM ((HC.out.below aA.out).below aF.out)).mono ?_)
 rintro e w3 ⟨rfl,aO⟩;rw[aS.out];have aG:Hid (Below w1.heap.size w1 w3):=Zk (aF.out.trans (aO.mono aF.out.size));clear x0 x1 x2 x3 x4 aO;obtain⟨x0,x1,x2,x3,x4⟩:=aJ.out w3 aG.out;go_wp2_with fail;(with_reducible refine (Ei P rl _ w3 aM ((HR.out.below aA.out).below aG.out)).mono ?_)
 rintro e w4 ⟨rfl,aP⟩;rw[aT.out];have aR:Hid (Below w.heap.size w w4):=Zk (aA.out.trans ((aG.out.trans (aP.mono aG.out.size)).mono aA.out.size));clear aP;go_wp2_with fail;go_ret;exact⟨rfl,aR.out⟩
def xK(C:Nat)(M:List (List Int))(ld:List Int)(i:Nat):List Int:=(List.range C).map fun c=>if gd ld c=0 then 0 else if (gd ld c-1).toNat<i then gd (gr M (gd ld c-1).toNat) C else 0
theorem Fw(C:Nat)(M:List (List Int))(ld:List Int)(i:Nat):(xK C M ld i).length=C:=by simp[xK]
theorem Vo{C:Nat}{M:List (List Int)}{ld:List Int}{i c:Nat}(h:c<C):gd (xK C M ld i) c=if gd ld c=0 then 0 else if (gd ld c-1).toNat<i then gd (gr M (gd ld c-1).toNat) C else 0:=by
 rw[Bw (by rw[Fw];exact h)];simp[xK]
theorem zFg(C:Nat)(M:List (List Int))(ld:List Int):xK C M ld 0=Ay C:=Cb (by rw[Fw];simp[Ay]) fun c hc=>by
 rw[Fw] at hc;rw[Vo hc,show gd (Ay C) c=0 by unfold gd Ay;simp[hc]];split
 ·rfl
 ·rw[if_neg (by omega)]
theorem zIa{P:Int}{C r:Nat}{M0 M:List (List Int)}{ld:List Int}(h:GE P C M0 M r C ld):xK C M ld r=Kj C M ld:=Cb (by rw[Fw,Eu]) fun c hc=>by
 rw[Fw] at hc;rw[Vo hc,Ju hc];by_cases h0:gd ld c=0
 ·rw[if_pos h0,if_pos h0]
 ·obtain⟨n,h1,h2,_⟩:=h.led c hc h0;rw[if_neg h0,if_neg h0,if_pos (by omega)]
theorem zFf{P:Int}{C r:Nat}{M0 M:List (List Int)}{ld:List Int}(h:GE P C M0 M r C ld){i c:Nat}(hc:c<C)(hl:gd ld c=(i:Int)+1):xK C M ld (i+1)=(xK C M ld i).set c (gd (gr M i) C):=Cb (by rw[List.length_set,Fw,Fw]) fun d hd=>by
 rw[Fw] at hd;rw[Dj _ _ _ _ (by rw[Fw];exact hc),Vo hd,Vo hd];by_cases e:d=c
 ·subst e;rw[if_pos rfl,if_neg (by omega),if_pos (by omega),show (gd ld d-1).toNat=i by omega]
 ·rw[if_neg e];by_cases h0:gd ld d=0
  ·rw[if_pos h0,if_pos h0]
  ·rw[if_neg h0,if_neg h0];obtain⟨n,h1,h2,_⟩:=h.led d hd h0;have hne:n≠i:=fun e2=>e (h.inj d c hd hc (by rw[h1,hl,e2]) h0)
   by_cases hni:n<i
   ·rw[if_pos (by omega),if_pos (by omega)]
   ·rw[if_neg (by omega),if_neg (by omega)]
theorem zHe{P:Int}{C R:Nat}{M0:List (List Int)}{B G k r:Nat}{bs cs:Nat→Nat}{M:List (List Int)}{ld Lq:List Int}{lv:Value}{w:World}(h:LQ P C R M0 B G k r bs cs M ld Lq lv w):∀x∈Lq,At x:=fun x hx=>by
 obtain⟨n,hn,rfl⟩:=List.getElem_of_mem hx;obtain⟨c,h1,h2,h3⟩:=h.at' n hn;rw[h2];have:k≤1000000∨1000000<k:=by omega
 have hld:=h.ge.ldl;have:c<32:=by
  apply Classical.byContradiction;intro hc;have:gd ld c=0:=by unfold gd;rw[List.getElem?_eq_none (by omega)];rfl
  omega
 unfold At;omega
theorem Tk(P:Int)(R C:Nat)(cl rl:List Int)(vc vr:Value)(w:World)(hp:prB P=true)(hR:R≤32)(hR1:1≤R)(hC:C≤32)(hC1:1≤C)(h1:cl.length=R*C)(h2:rl.length=R)(he1:els P cl=true)(he2:els P rl=true)(hc:SI w vc cl)(hr:SI w vr rl):
  Calls Tryz.prog 110 #[.agg #[.int .i64 P,.int .i64 R,.int .i64 C,vc,vr]] w (SoP P R C cl rl w):=by
 have HP:=Zk hp;have HC:=Zk hc;have HR:=Zk hr;have E1:=Zk he1;have E2:=Zk he2;have L1:=Zk h1;have L2:=Zk h2;clear h1 h2 he1 he2 hp hc hr;go_enter Tryz.func110,Tryz.ntmps110;obtain⟨E,eE⟩:∃E,E=w.heap.size:=⟨_,rfl⟩;obtain⟨w1,aP⟩:∃w1:World,w1=w.alloc (.cells #[.int .i64 P,.int .i64 R,.int .i64 C,vc,vr] 162):=⟨_,rfl⟩;have aT:Hid (w.alloc (.cells #[.int .i64 P,.int .i64 R,.int .i64 C,vc,vr] 162)=w1):=aP.symm;have aA:Hid (Below w.heap.size w w1):=Zk (by rw[aP];exact (Zb _ w).alloc (Zl _) _);have aD:Hid (w1.heap[E]? =some (.cells #[.int .i64 P,.int .i64 R,.int .i64 C,vc,vr] 162 (0,0))):=Zk (by show _=_;rw[aP,eE];exact Zh w _);have aN:Hid (∀W,Below w1.heap.size w1 W→W.cell? ⟨E,0,none⟩=some (.int .i64 P)∧W.cell? ⟨E,1,none⟩=some (.int .i64 R)∧W.cell? ⟨E,2,none⟩=some (.int .i64 C)∧W.cell? ⟨E,3,none⟩=some (vc)∧W.cell? ⟨E,4,none⟩=some (vr)):=Zk (fun W hg=>by
  have aK:=(hg.block E (Ae aD.out)).trans aD.out;exact⟨Zc W E 0 _ _ _ aK,Zc W E 1 _ _ _ aK,Zc W E 2 _ _ _ aK,Zc W E 3 _ _ _ aK,Zc W E 4 _ _ _ aK⟩)
 go_upto_region 1 with fail
 rw[aT.out,←eE];clear aP eE;obtain⟨x0,x1,x2,x3,x4⟩:=aN.out w1 (Zb _ _);go_wp2_with fail;(with_reducible refine (Rl P R C cl rl vc vr w1 HP.out hR hC L1.out L2.out E1.out E2.out (HC.out.below aA.out) (HR.out.below aA.out)).mono ?_)
 rintro e w2 ⟨rfl,bH⟩;have aH:Hid (Below w1.heap.size w1 w2):=Zk (bH);clear x0 x1 x2 x3 x4 bH;obtain⟨x0,x1,x2,x3,x4⟩:=aN.out w2 aH.out;go_wp2_with fail;(with_reducible refine (Rk P R C cl rl vc vr w2 HP.out hR hR1 hC hC1 L1.out L2.out E1.out E2.out ((HC.out.below aA.out).below aH.out) ((HR.out.below aA.out).below aH.out)).mono ?_)
 rintro e w3 ⟨G,c,r,bs,cs,M,ld,Lq,lv,B,rfl,hRc,hwB,aE,bI⟩;have aB:=Zk aE;have aL:Hid (Below w1.heap.size w1 w3):=Zk (aH.out.trans (bI.mono aH.out.size));have aV:=aE.len;have hrR:r≤R:=by have:=aE.ge.rk;have:=aE.rm.len;omega
 obtain⟨AL,cL,bD⟩:=Ch aE.own;rw[aV] at bD;subst bD;have bA:Hid (M.length=R):=Zk (aE.rm.len);clear x0 x1 x2 x3 x4 aE bI;have y1:(0:Int)≤(r:Int):=by omega
 have y2:(r:Int)≤(R:Int):=by omega
 have y3:(R:Int)≤(c:Int):=by omega
 have y4:(r:Int)≤(c:Int):=by omega
 obtain⟨AQ,aO⟩:∃AQ,(if c=r then (some ⟨G,0,none⟩:Option Addr) else some ⟨G,r,none⟩)=AQ:=⟨_,rfl⟩;go_wp2_with fail;obtain⟨D,eD⟩:∃D,D=R-r:=⟨_,rfl⟩;obtain⟨cD,bE⟩:∃cD,cD=c-r:=⟨_,rfl⟩;rw[←eD,←bE];have hD:r+D≤R∧R≤r+D:=by omega
 have bG:0<D→AQ=some ⟨G,r,none⟩:=fun h=>by rw[←aO,if_neg (by omega)]
 have bM:=Zk bG;have aC:Hid (Below w.heap.size w w3):=Zk (aA.out.trans (aL.out.mono aA.out.size));clear eD bE aO bG;go_loopw [27] (fun iv wr=>∃i:Nat,i≤D∧iv= .int .i64 i∧Hid (∀q,r≤q→q<r+i→gd (gr M q) C=0)∧wr=w3) (fun iv _=>D- (intOf iv).toNat)
 case atStart=>exact⟨0,Nat.zero_le _,rfl,(show Hid _ from fun q h1 h2=>by omega),rfl⟩
 case round=>
  obtain⟨i,hi,rfl,HZ,cF⟩:=hrel;subst cF;obtain⟨x0,x1,x2,x3,x4⟩:=aN.out wr aL.out;by_cases hiD:i<D
  ·have di:decide ((i:Int)<(D:Int))=true:=Ze (by omega);have bY:decide (i<D)=true:=Ze hiD;have aO:=bM.out (by omega);subst aO;have aW:r+i<R:=by omega
   have cG:=aB.out.rm.cell aW;have cX:=aB.out.rm.el (i:=r+i) (j:=C) aW (Nat.lt_succ_self C);obtain⟨x,ex⟩:∃x,x=gd (gr M (r+i)) C:=⟨_,rfl⟩;rw[←ex] at cX;have aZ:=Zk ex;have z1:(0:Int)≤(i:Int):=by omega
   have z2:(i:Int)<(D:Int):=by omega
   have z3:(0:Int)≤(C:Int):=by omega
   have z4:(C:Int)<(C:Int)+1:=by omega
   clear ex;by_cases h0:x=0
   ·subst h0;have bV:Hid (∀q,r≤q→q<r+(i+1)→gd (gr M q) C=0):=Zk (fun q h1 h2=>by
     by_cases e:q=r+i
     ·rw[e];exact aZ.out.symm
     ·exact HZ.out q h1 (by omega))
    go_wp2_with fail;go_roundw
    case rel=>exact⟨i+1,by omega,by go_num,bV,by first|trivial|rfl⟩
    case measure=>simp[intOf];omega
   ·have hx0:(x !=0)=true:=by rw[bne_iff_ne];exact h0
    have bS:=Zk h0;clear h0;go_wp2_with fail;refine bodyPost_ret (v:= .tuple #[.slice none 0 0,.int .i64 6]) (by simp[results,Tryz.results110,go_sem]) rfl ?_;refine⟨6,_,[],rfl,aC.out,.inr ⟨rfl,rfl,?_⟩⟩;rintro⟨x',hx,cE⟩;exact aB.out.ge.no (Bj HP.out).1 (m:=r+i) (by omega) (by rw[bA.out];exact aW) (by rw[←aZ.out];exact bS.out) ⟨x',hx,fun i hi=>by rw[Hu] at hi;rw[Mb hi];exact cE i hi⟩
  ·have di:decide ((i:Int)<(D:Int))=false:=Zd (by omega);have bY:decide (i<D)=false:=Zd hiD;obtain⟨wv,rfl⟩:∃wv:World,wv=wr:=⟨_,rfl⟩;have aF:=aB.out.ge.yes (Bj HP.out).1 fun m hm cC=>HZ.out m hm (by rw[bA.out] at cC;omega)
   have bT:Hid (els P (Kj C M ld)=true):=Zk (aF.1);have bU:Hid (Ry P R C cl rl (Kj C M ld)):=Zk (Ue (Eu _ _ _) aF.2);obtain⟨w4,aQ⟩:∃w4:World,w4=wv.alloc (.cells ((Ay C).map (Value.int .i64)).toArray 3):=⟨_,rfl⟩;obtain⟨b,eb⟩:∃b,b=wv.heap.size:=⟨_,rfl⟩;have bN:Hid (BK w4 b (xK C M ld 0)):=Zk (by rw[zFg,aQ,eb];exact Zh wv _);have aM:Hid (Below wv.heap.size wv w4):=Zk (by rw[aQ];exact (Zb _ wv).alloc (Zl _) _);have bR:Hid (wv.alloc (.cells ((Ay C).map (Value.int .i64)).toArray 3)=w4):=Zk (aQ.symm);have aJ:Hid (RM B w4 G (C+1) R bs cs M):=Zk (aB.out.rm.below aM.out);have bP:Hid (SI w4 (.slice AL r cL) Lq):=Zk (by
    have h9:=SI.of_own aB.out.own (zHe aB.out);exact h9.below aM.out)
   have hGb:G<b:=by have:=aB.out.rm.lt;omega
   have aX:Hid (∀i,i<R→bs i<b):=Zk (fun i hi=>by have:=(aB.out.rm.row i hi).1.lt;omega)
   have bQ:Hid (∀q,(Value.slice AL r cL).ownBlock=some q→q<b):=Zk (fun q hq=>by have:=(aB.out.own.lt q hq).2;omega)
   have aS:=Zk eb;clear aF aQ eb;go_wp2_with (at_make;refine Bn _ rfl _ _ 22 rfl 3 Tryz.underlying22 Bi _ C rfl rfl rfl (by omega) ?_;rw[bR.out,←aS.out]);clear x0 x1 x2 x3 x4;go_loopw [43] (fun iv wr=>∃i:Nat,i≤r∧iv= .int .i64 i∧Hid (BK wr b (xK C M ld i))∧Hid (w4.grownBy wr (some b))) (fun iv _=>r- (intOf iv).toNat)
   case atStart=>exact⟨0,Nat.zero_le _,rfl,bN,(show Hid _ from Ai _ _)⟩
   case round=>
    obtain⟨i2,hi2,rfl,HK,aI⟩:=hrel;have aY:Hid (Below wv.heap.size wv wr):=Zk (aM.out.trans (Cw aI.out (by rw[aS.out];exact Zl _) aM.out.size));obtain⟨x0,x1,x2,x3,x4⟩:=aN.out wr (aL.out.trans (aY.out.mono aL.out.size));by_cases hir:i2<r
    ·have bX:decide ((i2:Int)<(r:Int))=true:=Ze (by omega);have aU:decide (i2<r)=true:=Ze hir;have aR:i2<R:=by omega
     obtain⟨bl,ol,bZ,bC⟩:=bP.out.at (k:=i2) (by rw[aV];exact hir);subst bZ;have bW:=aI.out.cell bC (by have:=bQ.out bl rfl;simp;omega);obtain⟨c2,bJ,bL,bK⟩:=aB.out.at' i2 (by rw[aV];exact hir);rw[bL] at bW;have cG:=aI.out.cell (aJ.out.cell aR) (by simp;omega);have cX:=aI.out.cell (aJ.out.el (i:=i2) (j:=C) aR (Nat.lt_succ_self C)) (by have:=aX.out i2 aR;simp;omega);obtain⟨x,ex⟩:∃x,x=gd (gr M i2) C:=⟨_,rfl⟩;rw[←ex] at cX;have bB:Hid (BK (wr.setCell ⟨b,c2,none⟩ (.int .i64 x)) b (xK C M ld (i2+1))):=Zk (by
      have:=HK.out.set c2 x;rw[ex,←zFf aB.out.ge bJ bK] at this;rw[ex];exact this)
     have aG:Hid (w4.grownBy (wr.setCell ⟨b,c2,none⟩ (.int .i64 x)) (some b)):=Zk (Ak aI.out (.inl rfl) _);have cB:=HK.out.cell (j:=c2) (by rw[Fw];exact bJ);have fB:=HK.out.frozen c2;have z1:(0:Int)≤(i2:Int):=by omega
     have z2:(i2:Int)<(r:Int):=by omega
     have z3:(0:Int)≤(C:Int):=by omega
     have z4:(C:Int)<(C:Int)+1:=by omega
     have z5:(0:Int)≤(c2:Int):=by omega
     have z6:(c2:Int)<(C:Int):=by omega
     have z7:(i2:Int)<(R:Int):=by omega
     have ebs:¬bs i2=b:=by have:=aX.out i2 aR;omega
     have ebG:¬G=b:=by omega
     clear bL bK ex bC x0 x1 x3 x4;go_upto_region 15 with fail
     go_region
     all_goals
      go_wp2_with fail;go_roundw
      case rel=>exact⟨i2+1,by omega,by go_num,by first|exact bB|exact (show Hid _ from bB.out),by first|exact aG|exact (show Hid _ from ⟨aG.out.os,aG.out.tape,aG.out.output,aG.out.size,aG.out.block⟩)⟩
      case measure=>simp[intOf];omega
    ·have bX:decide ((i2:Int)<(r:Int))=false:=Zd (by omega);have aU:decide (i2<r)=false:=Zd hir;have bF:i2=r:=by omega
     have bO:Hid (BK wr b (Kj C M ld)):=Zk (by have h9:=HK.out;rw[bF,zIa aB.out.ge] at h9;exact h9);have cA:w.heap.size≤b:=by rw[aS.out];exact aC.out.size
     clear bF x0 x1 x2 x3 x4;go_wp2_with fail;refine bodyPost_ret (v:= .tuple #[.slice (some ⟨b,0,none⟩) C C,.int .i64 0]) (by simp[results,Tryz.results110,go_sem]) rfl ?_;refine⟨0,_,Kj C M ld,rfl,aC.out.trans (aY.out.mono aC.out.size),.inl ⟨rfl,bU.out,bT.out,?_⟩⟩;have h9:=bO.out.own cA (by rw[Eu];omega);rw[Eu] at h9;rw[Eu];exact h9
end Go.Proofs.YtoiabanpnkpbhaaGreatDoor
