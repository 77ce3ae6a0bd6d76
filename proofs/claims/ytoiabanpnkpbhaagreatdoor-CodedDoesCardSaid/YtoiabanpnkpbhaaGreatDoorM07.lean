/- Parts. -/
import Derived.Test.YtoiabanpnkpbhaaGreatDoorM04
import Derived.Test.YtoiabanpnkpbhaaGreatDoorM02
set_option linter.unusedVariables false
set_option linter.unusedSimpArgs false
set_option maxHeartbeats 1000000
namespace Go.Proofs.YtoiabanpnkpbhaaGreatDoor
open Go.RowKit
theorem Eg{a b P:Int}(ha:0≤a∧a<P)(hb:0≤b∧b<P)(hP:P≤65521):0≤a*b∧a*b≤4293001441:=by
 have h1:=Int.mul_nonneg ha.1 hb.1;have h2:a*b≤65521*65521:=Int.mul_le_mul (by omega) (by omega) hb.1 (by omega);omega
def ofP(P:Int):Int:=if prB P=true then P else 0
theorem Ku{P:Int}(h:prB P=true):ofP P=P:=if_pos h
theorem Qz{P:Int}(h:prB P=false):ofP P=0:=by unfold ofP;rw[h];rfl
theorem Mn(P:Int)(w:World)(hP:At P):
  Calls Tryz.prog 60 #[.agg #[.int .i64 P]] w fun e w'=>e= .returned (.tuple #[.int .i64 (ofP P),.bool (prB P)])∧Below w.heap.size w w':=by
 obtain⟨hP1,hP2⟩:=hP;by_cases h1:P<2
 ·have HB:=Zk (Vf (.inl h1));go_enter Tryz.func60,Tryz.ntmps60;go_wp2
  go_ret2;exact⟨by first|(rw[HB.out,Qz HB.out];rfl)|(rw[HB.out,Ku HB.out];rfl),(Zb _ _).alloc (Zl _) _⟩
 by_cases h2:65521<P
 ·have HB:=Zk (Vf (.inr h2));go_enter Tryz.func60,Tryz.ntmps60;go_wp2
  go_ret2;exact⟨by first|(rw[HB.out,Qz HB.out];rfl)|(rw[HB.out,Ku HB.out];rfl),(Zb _ _).alloc (Zl _) _⟩
 have h3:2≤P:=by omega
 have h4:P≤65521:=by omega
 clear h1 h2;go_enter Tryz.func60,Tryz.ntmps60;go_wp2
 go_loop [4] (fun i=>∃d:Nat,2≤d∧d≤256∧i= .int .i64 d∧∀e:Nat,2≤e→e<d→P%e≠0) (fun i=>300- (intOf i).toNat)
 case atStart=>exact⟨2,by omega,by omega,rfl,fun e h1 h2=>absurd h1 (by omega)⟩
 case round=>
  obtain⟨d,aC,hd2,rfl,aA⟩:=hrel;have HN:=Zk aA;clear aA;have hdd:(d:Int)*d≤65536:=by
   have:(d:Int)*d≤256*256:=Int.mul_le_mul (by omega) (by omega) (by omega) (by omega);omega
  have hdn:0≤(d:Int)*d:=Int.mul_nonneg (by omega) (by omega);by_cases hc:(d:Int)*d≤P
  ·have hd3:d<256:=by
    rcases Nat.lt_or_ge d 256 with h|h
    ·exact h
    ·have h5:(256:Int)*256≤(d:Int)*d:=Int.mul_le_mul (by omega) (by omega) (by omega) (by omega);omega
   by_cases hm:P%d=0
   ·have HB:=Zk (Ve aC hc hm);have aB:(P%(d:Int)==0)=true:=by rw[beq_iff_eq];exact hm
    go_wp2
    go_ret2;exact⟨by first|(rw[HB.out,Qz HB.out];rfl)|(rw[HB.out,Ku HB.out];rfl),(Zb _ _).alloc (Zl _) _⟩
   ·have aB:(P%(d:Int)==0)=false:=by rw[beq_eq_false_iff_ne];exact hm
    have HM:=Zk hm;clear hm;go_wp2
    go_round
    case rel=>exact⟨d+1,by omega,by omega,by go_num,fun e h1 h2=>by
     by_cases h:e=d
     ·subst h;exact HM.out
     ·exact HN.out e h1 (by omega)⟩
    case measure=>simp[intOf];omega
  ·have HB:Hid (prB P=true):=zAz h3 h4 (fun e h1 h2=>by
    refine HN.out e h1 ?_;rcases Nat.lt_or_ge e d with h|h
    ·exact h
    ·have h5:(d:Int)*d≤(e:Int)*e:=Int.mul_le_mul (by omega) (by omega) (by omega) (by omega);omega)
   go_wp2
   go_ret2;exact⟨by first|(rw[HB.out,Qz HB.out];rfl)|(rw[HB.out,Ku HB.out];rfl),(Zb _ _).alloc (Zl _) _⟩
theorem Uq(P a:Int)(w:World):
  Calls Tryz.prog 75 #[.int .i64 P,.int .i64 a] w fun e w'=>e= .returned (.bool (el P a))∧w=w':=by
 by_cases h1:0≤a
 ·have HB:=Zk (show el P a=decide (a<P) by unfold el;simp[h1]);go_enter Tryz.func75,Tryz.ntmps75;go_wp2
  go_ret;exact⟨Cs HB.out.symm,rfl⟩
 ·have HB:=Zk (show el P a=false by unfold el;simp[h1]);go_enter Tryz.func75,Tryz.ntmps75;go_wp2
  go_ret;exact⟨Cs HB.out.symm,rfl⟩
theorem Ef(P a b:Int)(w:World)(hP:2≤P∧P≤65521)(ha:0≤a∧a<P)(hb:0≤b∧b<P):
  Calls Tryz.prog 53 #[.int .i64 P,.int .i64 a,.int .i64 b] w fun e w'=>e= .returned (.int .i64 (a*b%P))∧w=w':=by
 have hm:=Eg ha hb hP.2;have hne:(P==0)=false:=by simp;omega
 go_enter Tryz.func53,Tryz.ntmps53;go_wp2
 go_ret;exact⟨rfl,rfl⟩
theorem Kz(P a b:Int)(w:World)(hP:2≤P∧P≤65521)(ha:0≤a∧a<P)(hb:0≤b∧b<P):
  Calls Tryz.prog 55 #[.int .i64 P,.int .i64 a,.int .i64 b] w fun e w'=>e= .returned (.int .i64 ((a+b)%P))∧w=w':=by
 have hne:(P==0)=false:=by simp;omega
 go_enter Tryz.func55,Tryz.ntmps55;go_wp2
 go_ret;exact⟨rfl,rfl⟩
theorem Jv(P a b:Int)(w:World)(hP:2≤P∧P≤65521)(ha:0≤a∧a<P)(hb:0≤b∧b<P):
  Calls Tryz.prog 92 #[.int .i64 P,.int .i64 a,.int .i64 b] w fun e w'=>e= .returned (.int .i64 ((a-b+P)%P))∧w=w':=by
 have hne:(P==0)=false:=by simp;omega
 go_enter Tryz.func92,Tryz.ntmps92;go_wp2
 go_ret;exact⟨rfl,rfl⟩
open Go.RowKit
theorem Wu(n m:Int)(hm:0<m):n.tmod m%m=n%m:=by
 rcases Jc n m hm with h|⟨_,_,h⟩
 ·rw[h,Int.emod_emod_of_dvd _ (Int.dvd_refl m)]
 ·rw[h,Int.sub_emod_right,Int.emod_emod_of_dvd _ (Int.dvd_refl m)]
theorem Hh(P a:Int)(w:World)(hp:prB P=true)(ha:0≤a∧a<P):
  Calls Tryz.prog 93 #[.int .i64 P,.int .i64 a] w fun e w'=>e= .returned (.int .i64 (inv P a))∧w=w':=by
 obtain⟨aB,hP2⟩:=Bj hp;have hne:(P==0)=false:=by simp;omega
 have HP:=Zk hp;have HS:=Zk (IS.start aB ha);clear hp;by_cases ha0:0<a
 case neg=>
  obtain rfl:a=0:=by omega
  have HI:=Zk (inv_z (P:=P) (a:=0) (Int.zero_emod P));go_enter Tryz.func93,Tryz.ntmps93;go_wp2_with fail;go_loop [5,6,7,8] (fun rv sv xv yv=>rv= .int .i64 P∧sv= .int .i64 0∧xv= .int .i64 0∧yv= .int .i64 1) (fun _ _ _ _=>0)
  case atStart=>exact⟨rfl,rfl,rfl,rfl⟩
  case round=>
   obtain⟨rfl,rfl,rfl,rfl⟩:=hrel;go_wp2_with fail;go_ret;exact⟨Lp (by rw[HI.out]),rfl⟩
 go_enter Tryz.func93,Tryz.ntmps93;go_wp2_with fail;go_loop [5,6,7,8] (fun rv sv xv yv=>∃r s x y:Int,rv= .int .i64 r∧sv= .int .i64 s∧xv= .int .i64 x∧yv= .int .i64 y∧IS P a r s x y) (fun _ sv _ _=>(intOf sv).toNat)
 case atStart=>exact⟨P,a,0,1,rfl,rfl,rfl,rfl,HS.out⟩
 case round=>
  obtain⟨r,s,x,y,rfl,rfl,rfl,rfl,hI⟩:=hrel;have hbx:=hI.bx;have hr:=hI.1;have hr2:=hI.2.1;have hs:=hI.2.2.1;have hs2:=hI.2.2.2.1;have HI:=Zk hI;clear hI;by_cases h0:s=0
  ·have aC:(s !=0)=false:=by simp[h0]
   have aA:x%P=inv P a:=IS.fin HP.out ⟨ha0,ha.2⟩ HI.out h0;have HF:=Zk aA;have HT:=Zk (Wu x P (by omega));have hb:=Vm x P (by omega);have H0:=Zk h0;clear h0 aA;go_wp2_with fail;go_ret;exact⟨Lp (by rw[←HF.out,←HT.out]),rfl⟩
  ·have aC:(s !=0)=true:=by simp[h0]
   have hb2:(s==0)=false:=by simp[h0]
   obtain⟨g1,g2,g3,g4,g5⟩:=HI.out.step (by omega);have HG:=Zk g1;clear g1;go_wp2_with fail;go_round
   case rel=>exact⟨_,_,_,_,rfl,rfl,rfl,rfl,HG.out⟩
   case measure=>simp[intOf];omega
theorem SI.take{w:World}{A:Option Addr}{n c:Nat}{l:List Int}(h:SI w (.slice A n c) l){m:Nat}(hm:m≤l.length):SI w (.slice A m c) (l.take m):=by
 obtain⟨A',c',e,hc,aB,hr,ha⟩:=h;injection e with e1 e2 e3;subst e1 e2 e3;have hl:(l.take m).length=m:=by rw[List.length_take];omega
 refine⟨A,c,by rw[hl],by omega,aB,fun x hx=>hr x (List.mem_of_mem_take hx),fun h0=> ?_⟩
 obtain⟨b,aC,rfl,hb,aA⟩:=ha (by omega);refine⟨b,aC,rfl,hb,fun j hj=> ?_⟩
 rw[aA j (by omega)];simp
def trRel(l:List Int)(v:Value):Prop:=∃n:Nat,n≤l.length∧v= .int .i64 n∧∀k,n≤k→gd l k=0
theorem Na(l:List Int)(A:Option Addr)(c:Nat)(w:World)(h:SI w (.slice A l.length c) l):
  Calls Tryz.prog 113 #[.slice A l.length c] w fun e w'=>e= .returned (.slice A (Bf l).length c)∧Bf l=l.take (Bf l).length∧w=w':=by
 have HS:=Zk h;obtain⟨A',c',e,hcc,hm,hr,ha⟩:=h;injection e with e1 e2 e3;subst e1 e3;have HA:=Zk ha;clear hr ha;go_enter Tryz.func113,Tryz.ntmps113;go_wp2_with fail;go_loop [3] (fun v=>trRel l v) (fun v=>(intOf v).toNat)
 case atStart=>exact⟨l.length,Zl _,rfl,fun k hk=>Ee hk⟩
 case round=>
  obtain⟨n,hn,rfl,hz⟩:=hrel;have HZ:=Zk hz;clear hz;by_cases h0:n=0
  ·subst h0;have HT:=Zk (Ij (l:=l) (n:=0) (Nat.zero_le _) HZ.out (.inl rfl));go_wp2_with fail;go_ret;exact⟨by rw[HT.out];rfl,by rw[HT.out];rfl,rfl⟩
  ·obtain⟨b,off,rfl,hb,aA⟩:=HA.out (by omega);have hck:=aA (n-1) (by omega);have aB:n-1<l.length:=by omega
   have hn1:0<n:=by omega
   have hd:decide ((0:Int)<(n:Int))=true:=Ze (by omega);have hd':decide (0<n)=true:=Ze (by omega);have z1:(0:Int)≤(n:Int)-1:=by omega
   have z2:(n:Int)-1<(l.length:Int):=by omega
   have z3:((n:Int)-1).toNat=n-1:=by omega
   clear aA;by_cases hl:l[n-1]'aB=0
   ·have aC:(l[n-1]'aB==0)=true:=by rw[beq_iff_eq];exact hl
    have HL:=Zk hl;clear hl;go_wp2_with fail;go_round
    case rel=>
     refine⟨n-1,by omega,by congr 1;omega,fun k hk=> ?_⟩
     by_cases hkn:k=n-1
     ·subst hkn;rw[Bw (by omega)];exact HL.out
     ·exact HZ.out k (by omega)
    case measure=>simp[intOf];omega
   ·have aC:(l[n-1]'aB==0)=false:=by rw[beq_eq_false_iff_ne];exact hl
    have HT:=Zk (Ij (l:=l) (n:=n) hn HZ.out (.inr (by rw[Bw (by omega)];exact hl)));have HL:Hid ((Bf l).length=n):=by show (Bf l).length=n;rw[HT.out,List.length_take];omega
    clear hl;go_wp2_with fail;go_ret;exact⟨by rw[HL.out];rfl,by rw[HL.out];exact HT.out,rfl⟩
end Go.Proofs.YtoiabanpnkpbhaaGreatDoor
