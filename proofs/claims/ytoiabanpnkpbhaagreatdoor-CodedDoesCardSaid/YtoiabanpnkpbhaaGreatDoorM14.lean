/- Parts. -/
import Derived.Deep.DeepCutAuto
import Derived.Test.YtoiabanpnkpbhaaGreatDoorM13
set_option linter.unusedVariables false
set_option linter.unusedSimpArgs false
set_option maxRecDepth 100000
set_option maxHeartbeats 1000000
namespace Go.Proofs.YtoiabanpnkpbhaaGreatDoor
open Go.RowKit
def eqv(P R C:Int)(vc vr:Value):Value:= .agg #[.int .i64 P,.int .i64 R,.int .i64 C,vc,vr]
theorem Tp(P:Int)(R C:Nat)(cl rl:List Int)(vc vr:Value)(w:World)(hp:prB P=true)(hR:R≤32)(hC:C≤32)(h1:cl.length=R*C)(h2:rl.length=R)(he1:els P cl=true)(he2:els P rl=true)(hc:SI w vc cl)(hr:SI w vr rl):
  Calls Tryz.prog 146 #[.agg #[.int .i64 P,.int .i64 R,.int .i64 C,vc,vr]] w fun e w'=>e= .returned (.int .i64 0)∧Below w.heap.size w w':=by
 have HP:=Zk hp;have aI:At P:=by have:=Bj hp;unfold At;omega
 have HC:=Zk hc;have HR:=Zk hr;have E1:=Zk he1;have E2:=Zk he2;obtain⟨A1,c1,rfl,_⟩:=hc;obtain⟨A2,c2,rfl,_⟩:=hr;have aA:(cl.length:Int)=(R:Int)*(C:Int):=by rw[h1];simp
 have hRC:R*C≤1024:=Nat.mul_le_mul hR hC;have hlen1:cl.length≤1024:=by omega
 have hlen2:rl.length≤32:=by omega
 obtain⟨RC,aH⟩:∃x,x=(R:Int)*(C:Int):=⟨_,rfl⟩;have hne1:((cl.length:Int) !=(R:Int)*(C:Int))=false:=by rw[aA];simp
 have hne2:((rl.length:Int) !=(R:Int))=false:=by rw[h2];simp
 have b1:(0:Int)≤(R:Int)*(C:Int):=by rw[←aA];omega
 have b2:(R:Int)*(C:Int)≤1024:=by rw[←aA];omega
 have HB:Hid (∀o:Obj,Below w.heap.size w (w.alloc o)):=fun o=>(Zb _ w).alloc (Zl _) o
 have d1:decide ((R:Int)<0)=false:=Zd (by omega);have d2:decide ((32:Int)<(R:Int))=false:=Zd (by omega);have d3:decide ((C:Int)<0)=false:=Zd (by omega);have d4:decide ((32:Int)<(C:Int))=false:=Zd (by omega);clear h1 h2 he1 he2 hp aA aH;go_enter Tryz.func146,Tryz.ntmps146;go_wp2_with fail;(with_reducible refine (Mn P _ aI).mono ?_);rintro e w1 ⟨rfl,aC⟩
 have k1:Hid (ofP P=P):=Zk (Ku HP.out);rw[k1.out,HP.out];obtain⟨hc1,hf1⟩:=zFi aC;have H1:=Zk aC;have aJ:w.heap.size<w1.heap.size:=by have:=aC.size;simp at this;omega
 clear aC;have B1:Hid (Below w.heap.size w w1):=Zk ((HB.out _).trans (H1.out.mono (by simp)));have aE:Hid (SI w1 (.slice A1 cl.length c1) cl):=Zk (HC.out.below B1.out);have aF:Hid (SI w1 (.slice A2 rl.length c2) rl):=Zk (HR.out.below B1.out);go_wp2_with fail;(with_reducible refine (Hp P cl _ _ aE.out).mono ?_);rintro e w2 ⟨rfl,aB⟩
 rw[E1.out];have B2:Hid (Below w1.heap.size w1 w2):=Zk (aB);obtain⟨hc2,hf2⟩:=zFi aB;have aG:Hid (SI w2 (.slice A2 rl.length c2) rl):=Zk (aF.out.below aB);have hs2:w.heap.size<w2.heap.size:=Nat.lt_of_lt_of_le aJ aB.size;clear aB;go_wp2_with fail;(with_reducible refine (Hp P rl _ _ aG.out).mono ?_);rintro e w3 ⟨rfl,aD⟩
 rw[E2.out];have B3:Hid (Below w2.heap.size w2 w3):=Zk (aD);clear aD;go_wp2_with fail;go_ret;exact⟨rfl,(B1.out.trans (B2.out.mono B1.out.size)).trans (B3.out.mono (Nat.le_trans B1.out.size B2.out.size))⟩
def rad(n k:Int):Int:=(n-k)/2
theorem Tf(n k:Int)(w:World)(hk:1≤k)(hkn:k≤n)(hn:n≤32):
  Calls Tryz.prog 127 #[.int .i64 n,.int .i64 k] w fun e w'=>e= .returned (.tuple #[.int .i64 (rad n k),.int .i64 0])∧w=w':=by
 have h0:0≤n-k:=by omega
 have h1:n-k≤32:=by omega
 have d1:decide (k<1)=false:=Zd (by omega);have d2:decide (n<0)=false:=Zd (by omega);have d3:decide (32<n)=false:=Zd (by omega);have d4:decide (n<k)=false:=Zd (by omega);go_enter Tryz.func127,Tryz.ntmps127;go_wp2_with fail;go_ret2;exact⟨rfl,rfl⟩
def cnt(l:List (Int×Bool)):Nat:=(l.filter (·.2)).length
theorem Sb(l:List (Int×Bool)):cnt l=(kn l).length:=by
 have:∀i,(knF i l).length=cnt l:=by
  unfold cnt;induction l with
  |nil=>intro i;rfl
  |cons c l ih=>
   intro i;rw[knF,List.length_append,ih,List.filter_cons]
   cases c.2<;>simp<;>omega
 exact (this 0).symm
theorem Xr(l:List (Int×Bool))(k:Nat)(h:k<l.length):cnt (l.take (k+1))=cnt (l.take k)+if l[k].2=true then 1 else 0:=by
 unfold cnt;rw[List.take_succ_eq_append_getElem h,List.filter_append]
 cases hb:l[k].2<;>simp[hb]
theorem Oe(l:List (Int×Bool)):cnt l≤l.length:=List.length_filter_le _ _
theorem Vt(l:List (Int×Bool))(v:Value)(w:World)(h:SCl w v l)(hz:l.length≤1000000):
  Calls Tryz.prog 128 #[v] w fun e w'=>e= .returned (.int .i64 (cnt l:Nat))∧Below w.heap.size w w':=by
 have HS:=Zk h;obtain⟨A,c,rfl⟩:=h.form;clear h;go_enter Tryz.func128,Tryz.ntmps128;go_wp2_with fail;go_loopw [3,8] (fun s i wr=>∃k:Nat,k≤l.length∧i= .int .i64 k∧s= .int .i64 (cnt (l.take k):Nat)∧Hid (Below w.heap.size w wr)) (fun _ i _=>l.length- (intOf i).toNat)
 case atStart=>exact⟨0,Nat.zero_le _,by go_num,by go_num,(show Hid _ from Zb _ _)⟩
 case round=>
  obtain⟨k,hk,rfl,rfl,HB⟩:=hrel;by_cases hlt:k<l.length
  ·obtain⟨A',c',e,_,_,_,ha⟩:=HS.out;injection e with e1 e2 e3;subst e1;obtain⟨b,aD,rfl,hb,aA⟩:=ha (by omega);obtain⟨c1,c2⟩:=aA k hlt;have c1:=(HB.out.cell (p:=⟨b,aD+k*2,none⟩) hb).trans c1;have c2:=(HB.out.cell (p:=⟨b,aD+k*2+1,none⟩) hb).trans c2;have hbw:b<wr.heap.size:=Nat.lt_of_lt_of_le hb HB.out.size;have aB:=Zk (Xr l k hlt);have hle:cnt (l.take k)≤k:=Nat.le_trans (Oe _) (by simp;omega);have aC:Hid (∀o:Obj,Below w.heap.size w (wr.alloc o)):=Zk (fun o=>HB.out.alloc HB.out.size o)
   obtain⟨x,ex⟩:∃x,x=l[k].1:=⟨_,rfl⟩;rw[←ex] at c1;clear ha aA e2 e3 ex
   cases hkb:l[k].2 with
   |true=>
    rw[hkb] at c2;rw[hkb,if_pos rfl] at aB;clear hkb;go_wp2_with fail;go_roundw
    case rel=>exact⟨k+1,by omega,by go_num,by rw[aB.out];go_num,aC.out _⟩
    case measure=>simp[intOf];omega
   |false=>
    rw[hkb] at c2;rw[hkb,if_neg (by simp)] at aB;clear hkb;go_wp2_with fail;go_roundw
    case rel=>exact⟨k+1,by omega,by go_num,by rw[aB.out];go_num,aC.out _⟩
    case measure=>simp[intOf];omega
  ·obtain rfl:l.length=k:=by omega
   go_wp2_with fail;go_ret;exact⟨Lp (by rw[List.take_length]),HB.out⟩
def SvP(C m r:Nat)(M:List (List Int))(w:World)(e:Ending)(w':World):Prop:=
 ∃bb:Bool,e= .returned (.bool bb)∧(bb=true→∀q,r≤q→q<m→gd (gr M q) C=0)∧(bb=false→∃q,r≤q∧q<m∧gd (gr M q) C≠0)∧Hid (Below w.heap.size w w')
theorem Pe(P:Int)(C B G n m c r:Nat)(bs cs:Nat→Nat)(M:List (List Int))(ld:List Int)(w:World)(hn:n=C+1)(hm:m≤32)(hr:r≤m)(hmc:m≤c)
  (hM:RM (B+1) w G n m bs cs M) (hR:RD w B P C (.slice (some ⟨G,0,none⟩) m c) r ld):
  Calls Tryz.prog 148 #[.pointer (some ⟨B,0,none⟩)] w (SvP C m r M w):=by
 have HM:=Zk hM;have HR:=Zk hR;obtain⟨cP,cC,cH,cR⟩:=hR.cells;have hBl:=hR.lt;have aB:C<n:=by omega
 clear hM hR hn;have z1:(0:Int)≤(r:Int):=by omega
 have z2:(r:Int)≤(m:Int):=by omega
 go_enter Tryz.func148,Tryz.ntmps148;by_cases hrc:r=c
 ·obtain rfl:m=r:=by omega
  subst hrc;go_wp2_with fail;go_region_held3 (fun w'=>w'.cell? ⟨B,2,none⟩=some (.slice (some ⟨G,0,none⟩) m m)∧w'.cell? ⟨B,3,none⟩=some (.int .i64 m)) (first|exact⟨cH,cR⟩|go_keep) (fail)
  go_wp2_with fail;go_loop [15] (fun i=>i= .int .i64 0) (fun _=>0)
  case atStart=>rfl
  case round=>
   subst hrel;go_wp2_with fail;go_ret;exact⟨true,rfl,(fun _ q h1 h2=>by omega),(fun h=>by cases h),(show Hid _ from (Zb _ w).drew)⟩
 ·have hrc':¬c=r:=fun e=>hrc e.symm
  go_wp2_with fail;go_region_held3 (fun w'=>w'.cell? ⟨B,2,none⟩=some (.slice (some ⟨G,0,none⟩) m c)∧w'.cell? ⟨B,3,none⟩=some (.int .i64 r)) (first|exact⟨cH,cR⟩|go_keep) (fail)
  go_wp2_with fail;go_loop [15] (fun i=>∃k:Nat,k≤m-r∧i= .int .i64 k∧Hid (∀q,r≤q→q<r+k→gd (gr M q) C=0)) (fun i=>(m-r)- (intOf i).toNat)
  case atStart=>exact⟨0,Nat.zero_le _,by go_num,(show Hid _ from fun q h1 h2=>by omega)⟩
  case round=>
   obtain⟨k,hk,rfl,HZ⟩:=hrel;by_cases hlt:k<m-r
   ·have hq:r+k<m:=by omega
    have ck:=HM.out.cell hq;have ek:=HM.out.el hq aB;obtain⟨x,ex⟩:∃x,x=gd (gr M (r+k)) C:=⟨_,rfl⟩;rw[←ex] at ek;have y1:(0:Int)≤(C:Int):=by omega
    have y2:(C:Int)<(n:Int):=by omega
    by_cases hx:x=0
    ·have aA:Hid (∀q,r≤q→q<r+(k+1)→gd (gr M q) C=0):=Zk (fun q h1 h2=>by
      by_cases e:q=r+k
      ·rw[e,←ex];exact hx
      ·exact HZ.out q h1 (by omega))
     subst hx;clear ex;go_wp2_with fail;go_round
     case rel=>exact⟨k+1,by omega,by go_num,aA⟩
     case measure=>simp[intOf];omega
    ·have HX:Hid (gd (gr M (r+k)) C≠0):=Zk (by rw[←ex];exact hx);have hx1:(x !=0)=true:=by simp[hx]
     clear ex;go_wp2_with fail;go_ret;exact⟨false,rfl,(fun h=>by cases h),(fun _=>⟨r+k,by omega,hq,HX.out⟩),(show Hid _ from (Zb _ w).drew)⟩
   ·obtain rfl:m-r=k:=by omega
    go_wp2_with fail;go_ret;exact⟨true,rfl,(fun _ q h1 h2=>HZ.out q h1 (by omega)),(fun h=>by cases h),(show Hid _ from (Zb _ w).drew)⟩
end Go.Proofs.YtoiabanpnkpbhaaGreatDoor
