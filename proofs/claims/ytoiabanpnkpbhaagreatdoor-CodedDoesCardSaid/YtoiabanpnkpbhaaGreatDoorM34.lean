/- Parts. -/
import Derived.Test.YtoiabanpnkpbhaaGreatDoorM13
import Derived.Test.YtoiabanpnkpbhaaGreatDoorM08
set_option linter.unusedVariables false
set_option linter.unusedSimpArgs false
set_option maxRecDepth 100000
set_option maxHeartbeats 4000000
namespace Go.Proofs.YtoiabanpnkpbhaaGreatDoor
open Go.RowKit Go.Shelf
attribute [local go_sem] Oper.semAt_some
theorem So(A:Option Addr)(l c G:Nat)(w:World):
  Calls Tryz.prog 48 #[.slice A l c,.int .i64 G] w fun e w'=>e= .returned (.func (.func 76) #[] #[.pointer (some ⟨w.heap.size+1,0,none⟩),.pointer (some ⟨w.heap.size,0,none⟩)])∧w'=(w.alloc (.cells #[.slice A l c] 33)).alloc (.cells #[.int .i64 G] 3):=by
 go_enter Tryz.func48,Tryz.ntmps48;go_wp2
 go_ret;exact⟨rfl,rfl⟩
def gS(len G g:Nat):Nat:=min G (len-g*G)
theorem zGp(n:Nat)(hn:1≤n)(lr Bz Br b off c len G:Nat)(K:Nat→Prop)(hz:K Bz)(hr:K Br)(hG:1≤G∧G≤10)(hl:len≤1024)(hlc:len≤c)(hc:c≤9223372036854775807)(J Jx:List (Fin (ngr len G))→World→Prop)
  (hY:∀pre x W,J pre W→pre.length<ngr len G→YieldAt Fence.wide (n-1) Tryz.prog lr #[.int .i64 (x.1:Int),.slice (some ⟨b,off+x.1*G,none⟩) (gS len G x.1) (c-x.1*G)] W fun e W'=>
   (e= .returned (.bool true)∧J (pre++[x]) W'∧KB K W W')∨(e= .returned (.bool false)∧Jx (pre++[x]) W'))
  (W:World) (hBz:W.cell? ⟨Bz,0,none⟩=some (.int .i64 G)) (hBr:W.cell? ⟨Br,0,none⟩=some (.slice (some ⟨b,off,none⟩) len c)) (h0:J [] W):
  CallsIn Fence.wide n Tryz.prog 76 #[.func (.yield lr) #[] #[],.pointer (some ⟨Bz,0,none⟩),.pointer (some ⟨Br,0,none⟩)] W fun e W'=>(∃v,e= .returned v)∧
   ((∃ys,ys=upA (ngr len G) (ngr len G)∧J ys W')∨(∃pre,(∃k,k≤ngr len G∧pre=upA (ngr len G) k)∧Jx pre W')):=by
 refine callsIn_of_wp Tryz.func76 rfl trivial ?_ rfl;simp only[Tryz.ntmps76,List.size_toArray,List.length_cons,List.length_nil,Nat.reduceAdd,Nat.reduceSub,Array.replicate_succ,Array.replicate_zero,List.push_toArray,List.append_toArray,List.nil_append,List.cons_append];have HY:=Zk hY;obtain⟨b1,b2⟩:=Ml (len:=len) hG.1;obtain⟨ng,aE⟩:∃ng,ng=ngr len G:=⟨_,rfl⟩;have HB:Hid (ng*G<len+G∧len≤ng*G):=Zk (by rw[aE];exact⟨b1,b2⟩);have aW:=Zk aE;clear hY b1 b2;gi_wp2_with fail
 gi_loopw [4] (fun i wr=>∃k:Nat,k≤ngr len G∧i= .int .i64 k∧J (upA (ngr len G) k) wr∧KB K W wr) (fun i _=>ng- (intOf i).toNat)
 case atStart=>exact⟨0,Nat.zero_le _,rfl,h0,KB.refl _ _⟩
 case round=>
  obtain⟨k,hk,rfl,aO,aQ⟩:=hrel;have aM:=(aQ.2 ⟨Bz,0,none⟩ hz).trans hBz;have aL:=(aQ.2 ⟨Br,0,none⟩ hr).trans hBr;have HN:=Zk aQ;rw[←aE] at hk;obtain⟨kg,aK⟩:∃kg,kg=k*G:=⟨_,rfl⟩;have aR:=Zk aK;have aB:(k:Int)*(G:Int)=(kg:Int):=by rw[aK,Int.natCast_mul]
  have aF:kg≤ng*G:=by rw[aK];exact Nat.mul_le_mul_right _ hk
  have hb:=HB.out;have m1:IntKind.i64.wrap ((k:Int)*(G:Int))=(kg:Int):=by rw[aB];exact Zi _ (by omega)
  by_cases hlt:k<ng
  ·have aG:kg<len:=by
    have h1:(k+1)*G≤ng*G:=Nat.mul_le_mul_right _ hlt;rw[Nat.add_mul] at h1;omega
   have d1:decide ((kg:Int)<(len:Int))=true:=Ze (by omega);have d2:decide (kg<len)=true:=Ze aG;have m2:IntKind.i64.wrap ((k:Int)+1)=(k:Int)+1:=by exact Zi _ (by have:k≤ng*G:=Nat.le_trans (Nat.le_of_lt hlt) (Nat.le_mul_of_pos_right _ (by omega));omega)
   have aX:((k:Int)+1)*(G:Int)=((kg+G:Nat):Int):=by rw[Int.add_mul,aB];omega
   have m3:IntKind.i64.wrap (((k:Int)+1)*(G:Int))=((kg+G:Nat):Int):=by rw[aX];exact Zi _ (by omega)
   have aH:Hid (k<ngr len G):=Zk (by show k<_;rw[←aE];exact hlt);have aI:=HY.out _ ⟨k,aH.out⟩ wr aO (by rw[Fi (Nat.le_of_lt aH.out)];exact aH.out);have HU:Hid (upA (ngr len G) (k+1)=upA (ngr len G) k++[⟨k,aH.out⟩]):=Zk (Gd aH.out);have aS:Hid (k+1≤ngr len G):=Zk (aH.out);dsimp only at aI;rw[←aR.out] at aI;clear aQ aK aB aX aO hb aE aW;by_cases hful:kg+G≤len
   ·have e1:min ((kg:Int)+(G:Int)) (len:Int)=((kg+G:Nat):Int):=by omega
    have hS:gS len G k=G:=by unfold gS;rw[←aR.out];omega
    rw[hS] at aI;obtain⟨fn,tmps,aD,aU,hy,hR⟩:=aI;have aJ:=Zk hR;clear hS hR;gi_wp2_with fail
    refine aJ.out.mono ?_;clear m1 m3 e1 d1 d2 hful aM aL aG aF hy aJ HY hl hlc hc hz hr hBz hBr h0;rintro e W3 (⟨rfl,aN,aP⟩|⟨rfl,aA⟩)
    ·have aC:=Zk aN;have aT:=Zk aP;clear aN aP;gi_wp2_with fail
     go_roundw
     case rel=>exact⟨k+1,aS.out,by go_num,by rw[HU.out];exact aC.out,Il HN.out aT.out⟩
     case measure=>simp[intOf];omega
    ·have aC:=Zk aA;clear aA;gi_wp2_with fail
     refine bodyPost_ret (results_none rfl _ _ _) rfl ?_;exact⟨⟨_,rfl⟩,.inr ⟨_,⟨k+1,aS.out,HU.out.symm⟩,aC.out⟩⟩
   ·have e1:min ((kg:Int)+(G:Int)) (len:Int)=(len:Int):=by omega
    have hS:gS len G k=len-kg:=by unfold gS;rw[←aR.out];omega
    rw[hS] at aI;obtain⟨fn,tmps,aD,aU,hy,hR⟩:=aI;have aJ:=Zk hR;clear hS hR;gi_wp2_with fail
    refine aJ.out.mono ?_;clear m1 m3 e1 d1 d2 hful aM aL aG aF hy aJ HY hl hlc hc hz hr hBz hBr h0;rintro e W3 (⟨rfl,aN,aP⟩|⟨rfl,aA⟩)
    ·have aC:=Zk aN;have aT:=Zk aP;clear aN aP;gi_wp2_with fail
     go_roundw
     case rel=>exact⟨k+1,aS.out,by go_num,by rw[HU.out];exact aC.out,Il HN.out aT.out⟩
     case measure=>simp[intOf];omega
    ·have aC:=Zk aA;clear aA;gi_wp2_with fail
     refine bodyPost_ret (results_none rfl _ _ _) rfl ?_;exact⟨⟨_,rfl⟩,.inr ⟨_,⟨k+1,aS.out,HU.out.symm⟩,aC.out⟩⟩
  ·have aV:k=ng:=by omega
   have HJ:Hid (J (upA (ngr len G) (ngr len G)) wr):=Zk (by
    show J _ _;rw[aV,aE] at aO;exact aO)
   have aY:len≤kg:=by rw[aR.out,aV];exact hb.2
   have d1:decide ((kg:Int)<(len:Int))=false:=Zd (by omega);have d2:decide (kg<len)=false:=Zd (by omega);clear aQ aK aB aO hb aE aV hlt aY aF HY HB aW hl hlc hc hz hr hBz hBr h0 hk;gi_wp2_with fail
   go_end0
   exact⟨⟨_,rfl⟩,.inl ⟨_,rfl,HJ.out⟩⟩
open Go.RowKit Go.Shelf
attribute [local go_sem] Oper.semAt_some
theorem zAv{G:Nat}(hG:1≤G):ngr 0 G=0:=by unfold ngr;exact Nat.div_eq_of_lt (by omega)
theorem zDg(n lr Bz Br c G:Nat)(A:Option Addr)(J:World→Prop)(W:World)(hBz:W.cell? ⟨Bz,0,none⟩=some (.int .i64 G))(hBr:W.cell? ⟨Br,0,none⟩=some (.slice A 0 c))(h0:J W):
  CallsIn Fence.wide n Tryz.prog 76 #[.func (.yield lr) #[] #[],.pointer (some ⟨Bz,0,none⟩),.pointer (some ⟨Br,0,none⟩)] W fun e W'=>(∃v,e= .returned v)∧J W':=by
 refine callsIn_of_wp Tryz.func76 rfl trivial ?_ rfl;simp only[Tryz.ntmps76,List.size_toArray,List.length_cons,List.length_nil,Nat.reduceAdd,Nat.reduceSub,Array.replicate_succ,Array.replicate_zero,List.push_toArray,List.append_toArray,List.nil_append,List.cons_append];gi_wp2_with fail
 gi_loopw [4] (fun i wr=>i= .int .i64 0∧J wr∧wr.cell? ⟨Bz,0,none⟩=some (.int .i64 G)∧wr.cell? ⟨Br,0,none⟩=some (.slice A 0 c)) (fun _ _=>0)
 case atStart=>exact⟨rfl,h0,hBz,hBr⟩
 case round=>
  obtain⟨rfl,aA,c1,c2⟩:=hrel;have HJ:=Zk aA;clear aA h0 hBz hBr;gi_wp2_with fail
  go_end0
  exact⟨⟨_,rfl⟩,HJ.out⟩
theorem Yz(n:Nat)(hn:1≤n)(Bz Br:Nat)(K:Nat→Prop)(b off c len G:Nat)(A:Option Addr)(hG:1≤G∧G≤10)(hl:len≤1024)(hlc:len≤c)(hc:c≤9223372036854775807)(w:World)(hK:∀k,K k→k<w.heap.size)(hz:K Bz)(hr:K Br)
  (hBz:w.cell? ⟨Bz,0,none⟩=some (.int .i64 G)) (hBr:w.cell? ⟨Br,0,none⟩=some (.slice A len c)) (hA:0<len→A=some ⟨b,off,none⟩):
  SeqStopsK Fence.wide n Tryz.prog 76 #[.pointer (some ⟨Bz,0,none⟩),.pointer (some ⟨Br,0,none⟩)] (fun x:Fin (ngr len G)=> #[.int .i64 (x.1:Int),.slice (some ⟨b,off+x.1*G,none⟩) (gS len G x.1) (c-x.1*G)]) (KB K) (fun ys=>ys=upA (ngr len G) (ngr len G)) (fun pre=>∃k,k≤ngr len G∧pre=upA (ngr len G) k) (ngr len G) w:=fun lr J Jx W hW _ _ hY h0=>by
 have aB:=(hW.cell (p:=⟨Bz,0,none⟩) (hK _ hz)).trans hBz;have aA:=(hW.cell (p:=⟨Br,0,none⟩) (hK _ hr)).trans hBr;by_cases h:len=0
 ·subst h;exact (zDg n lr Bz Br c G A (J []) W aB aA h0).mono fun e W' ⟨he,hj⟩=>⟨he,.inl ⟨[],by rw[zAv hG.1];rfl,hj⟩⟩
 ·have e:=hA (by omega);subst e;exact zGp n hn lr Bz Br b off c len G K hz hr hG hl hlc hc J Jx hY W aB aA h0
end Go.Proofs.YtoiabanpnkpbhaaGreatDoor
