/- Parts. -/
import Derived.BigRegion
import Derived.Deep.DeepCutAuto
import Derived.Test.YtoiabanpnkpbhaaGreatDoorM09
set_option linter.unusedVariables false
set_option linter.unusedSimpArgs false
set_option maxRecDepth 100000
set_option maxHeartbeats 4000000
namespace Go.Proofs.YtoiabanpnkpbhaaGreatDoor
open Go.RowKit
theorem zAo(P:Int)(C B G n m c r k:Nat)(bs cs:Nat→Nat)(M0 M:List (List Int))(ld:List Int)(w:World)(hp:prB P=true)(hk:k<C)(hn:n=C+1)(hC:C≤32)(hm:m≤32)
  (hM:RM (B+1) w G n m bs cs M) (hR:RD w B P C (.slice (some ⟨G,0,none⟩) m c) r ld) (hG:GE P C M0 M r k ld):
  Calls Tryz.prog 152 #[.pointer (some ⟨B,0,none⟩),.int .i64 k] w fun e w'=>(∃v,e= .returned v)∧Below B w w'∧LP P C B G n m c M0 (k+1) w':=by
 have HM:=Zk hM;have HR:=Zk hR;have HG:=Zk hG;have HP:=Zk hp;have HN:=Zk hn;have bI:k<n:=by omega
 have hn33:n≤33:=by omega
 have dC:r≤m:=by have:=hG.rk;have:=hM.len;omega
 obtain⟨cP,cC,cH,cR⟩:=hR.cells;clear hM hR hG hp hn;go_enter Tryz.func152,Tryz.ntmps152;go_wp2_with fail;go_loop [4] (fun i=>∃j:Nat,r≤j∧j≤m∧i= .int .i64 j∧Hid (∀q,r≤q→q<j→gd (gr M q) k=0)) (fun i=>m- (intOf i).toNat)
 case atStart=>exact⟨r,Zl _,dC,rfl,(show Hid _ from fun q h1 h2=>by omega)⟩
 case round=>
  obtain⟨j,dB,hj2,rfl,HZ⟩:=hrel;by_cases hjm:j<m
  ·have cj:=HM.out.cell hjm;have ej:=HM.out.el hjm bI;obtain⟨x,hx⟩:∃x,x=gd (gr M j) k:=⟨_,rfl⟩;rw[←hx] at ej;by_cases h0:x=0
   ·subst h0;have cZ:Hid (∀q,r≤q→q<j+1→gd (gr M q) k=0):=Zk (fun q h1 h2=>by
     by_cases e:q=j
     ·rw[e];exact hx.symm
     ·exact HZ.out q h1 (by omega))
    clear hx HZ;go_wp2_with fail;go_round
    case rel=>exact⟨j+1,by omega,by omega,by go_num,cZ⟩
    case measure=>simp[intOf];omega
   ·have hb0:(x==0)=false:=by simp[h0]
    have HX:Hid (gd (gr M j) k≠0):=Zk (by rw[←hx];exact h0);have hjb:((j:Int)==(m:Int))=false:=by rw[beq_eq_false_iff_ne];omega
    clear hx h0;have aB:r<m:=by omega
    have cr:=HM.out.cell aB;have fj:=HM.out.frozen j;have fr:=HM.out.frozen r;have z1:(0:Int)≤(j:Int):=by omega
    have z2:(j:Int)<(m:Int):=by omega
    have z3:(0:Int)≤(r:Int):=by omega
    have z4:(r:Int)<(m:Int):=by omega
    go_upto_region 4 with fail
    go_cut [] (fun wx=>RM (B+1) wx G n m (sw bs r j) (sw cs r j) (swp M r j)∧RD wx B P C (.slice (some ⟨G,0,none⟩) m c) r ld∧Below B w wx)
    case first=>
     have bY:=Zk (HM.out.swap aB hjm rfl);have cB:=Zk ((HR.out.kept (Zo w ⟨G,r,none⟩ B (hd n bs cs j) (by have:=HM.out.gb;show B≠G;omega))).kept (Zo _ ⟨G,j,none⟩ B (hd n bs cs r) (by have:=HM.out.gb;show B≠G;omega)));have bQ:=Zk (((Zb B w).setCell (p:=⟨G,r,none⟩) (by have:=HM.out.gb;show B≤G;omega) (hd n bs cs j)).setCell (p:=⟨G,j,none⟩) (by have:=HM.out.gb;show B≤G;omega) (hd n bs cs r));by_cases cN:j=r
     ·subst cN;go_region
      all_goals
       go_wp2_with fail;go_meet
       exact⟨bY.out.drew,cB.out,bQ.out.drew⟩
     ·go_region
      all_goals
       go_wp2_with fail;go_meet
       exact⟨bY.out.drew,cB.out,bQ.out.drew⟩
    case rest=>
     obtain⟨aM,aR,cJ⟩:=hcut;have bU:=Zk aM;have bZ:=Zk aR;have bM:=Zk cJ;clear cP cC cH cR cj ej cr fj fr;obtain⟨cP,cC,cH,cR⟩:=aR.cells;have cr:=aM.cell aB;have er:=aM.el aB bI;have bS:Hid (gr (swp M r j) r=gr M j):=Zk (by
      show _=_;rw[Hg (by rw[HM.out.len];exact aB) (by rw[HM.out.len];exact hjm)];by_cases e:r=j
      ·rw[if_pos e,e]
      ·rw[if_neg e,if_pos rfl])
     rw[bS.out] at er;have hP:=Bj HP.out;have aO:=HM.out.row j hjm;have bH:els P (gr M j)=true:=(HG.out.row j (by rw[HM.out.len];exact hjm)).2;have hx:=Co (Cd hP.1 bH k);obtain⟨x,ex⟩:∃x,x=gd (gr M j) k:=⟨_,rfl⟩;rw[←ex] at er hx;obtain⟨iv,bE⟩:∃v,v=inv P x:=⟨_,rfl⟩;have cM:=Ix hP.1 x;rw[←bE] at cM;have EX:=Zk ex;have bL:=Zk bE;have cS:=Zk bH;have aA:Hid ((gr M j).length=n):=Zk (aO.2.1);obtain⟨r1,r2,r3,r4,r5,r6⟩:=aM.row r aB;obtain⟨b0,bB⟩:∃b,b=sw bs r j r:=⟨_,rfl⟩;obtain⟨c0,bD⟩:∃b,b=sw cs r j r:=⟨_,rfl⟩;rw[←bB] at cr er r5 r6 r1;rw[←bD] at cr r3 r4;rw[bS.out] at r1;have aP:=Zk bB;have HC0:=Zk bD;have cA:=Zk r1;have hBlt:=aR.lt;clear aM aR cJ ex bE bH aO r2 bB bD r1;have y1:(0:Int)≤(k:Int):=by omega
     have y2:(k:Int)<(n:Int):=by omega
     go_wp2_with fail;go_region_held3 (fun w'=>w'.cell? ⟨B,2,none⟩=some (.slice (some ⟨G,0,none⟩) m c)∧w'.cell? ⟨B,3,none⟩=some (.int .i64 r)∧w'.cell? ⟨G,r,none⟩=some (.slice (some ⟨b0,0,none⟩) n c0)) (first|exact⟨cH,cR,cr⟩|go_keep) (fail)
     go_wp2_with fail;go_region_held3 (fun w'=>w'.cell? ⟨B,0,none⟩=some (.int .i64 P)∧w'.cell? ⟨b0,k,none⟩=some (.int .i64 x)) (first|exact⟨cP,er⟩|go_keep)
      ((go_at_call 93;refine (Hh P x _ HP.out hx).mono ?_;rintro e w9 ⟨rfl,rfl⟩;rw[←bL.out]))
     go_wp2_with fail;obtain⟨wx,aF⟩:∃wx,wx=wc.drew.drew:=⟨_,rfl⟩;rw[←aF];have bV:Hid (RM (B+1) wx G n m (sw bs r j) (sw cs r j) (swp M r j)):=Zk (by rw[aF];exact bU.out.drew.drew);have aJ:Hid (RD wx B P C (.slice (some ⟨G,0,none⟩) m c) r ld):=Zk (by rw[aF];exact bZ.out);have bN:Hid (Below B w wx):=Zk (by rw[aF];exact bM.out.drew.drew);have aL:Hid (RB wx b0 (gr M j)):=Zk (by rw[aF];exact cA.out);clear aF cP cC cH cR cr er bU bZ bM cA;go_loopw [97] (fun i wr=>∃q:Nat,q≤n∧i= .int .i64 q∧Hid (RB wr b0 (scp P iv (gr M j) q))∧Hid (wx.grownBy wr (some b0))) (fun i _=>n- (intOf i).toNat)
     case atStart=>exact⟨0,Nat.zero_le _,by go_num,(show Hid _ from by rw[Rm];exact aL.out),(show Hid _ from Ai _ _)⟩
     case round=>
      obtain⟨q,hq,rfl,HQ,aE⟩:=hrel;obtain⟨cP,cC,cH,cR⟩:=aJ.out.cells;have cP:=aE.out.cell cP (by simp;omega);by_cases hqn:q<n
      ·have bK:q<(scp P iv (gr M j) q).length:=by rw[Ej,aA.out];exact hqn
       have cq:=HQ.out.cell bK;have fq:=HQ.out.frozen q;have hy:=Co (Cd hP.1 cS.out q);obtain⟨y,ey⟩:∃y,y=gd (gr M j) q:=⟨_,rfl⟩;have HY:Hid (RB (wr.setCell ⟨b0,q,none⟩ (.int .i64 (y*iv%P))) b0 (scp P iv (gr M j) (q+1))):=Zk (by
        have:=HQ.out.set bK (y*iv%P);rw[ey,Vh _ _ _ _ (by rw[aA.out];exact hqn)] at this;rw[ey];exact this)
       have cY:Hid (wx.grownBy (wr.setCell ⟨b0,q,none⟩ (.int .i64 (y*iv%P))) (some b0)):=Zk (Ak aE.out (.inl rfl) _);rw[←Bw,Ki _ _ _ _ _ (by rw[aA.out];exact hqn),if_neg (by omega),←ey] at cq;rw[←ey] at hy;have hm1:0≤y*iv%P:=Int.emod_nonneg _ (by omega);have hm2:y*iv%P<P:=Int.emod_lt_of_pos _ (by omega);clear ey bK;go_wp2_with (go_at_call 53;refine (Ef _ _ _ _ hP hy cM).mono ?_;rintro e w9 ⟨rfl,rfl⟩);go_roundw
       case rel=>exact⟨q+1,by omega,by go_num,HY,cY⟩
       case measure=>simp[intOf];omega
      ·obtain rfl:n=q:=by omega
       have HF:Hid (scp P iv (gr M j) n=El P k j M):=Zk (by
        show _=_;have:=Vg P iv (gr M j);rw[aA.out] at this;rw[this,bL.out,EX.out];rfl)
       have aU:Hid ((El P k j M).length=n):=Zk (by show _=_;rw[El,Ls];exact aA.out);have aT:Hid (els P (El P k j M)=true):=Zk (Pa hP.1 _ _);obtain⟨F,eF⟩:∃F,F=El P k j M:=⟨_,rfl⟩;rw[←eF] at HF aU aT;have bW:Hid (RM (B+1) wr G n m (sw bs r j) (sw cs r j) ((swp M r j).set r F)):=Zk (by
        refine bV.out.upd aB aU.out ?_ ?_
        ·rw[←aP.out];exact aE.out
        ·rw[←aP.out,←HF.out];exact HQ.out)
       have aX:Hid (RD wr B P C (.slice (some ⟨G,0,none⟩) m c) r ld):=Zk (aJ.out.kept (aE.out.block B aJ.out.lt (by simp;omega)));have bO:Hid (Below B w wr):=Zk (bN.out.trans (Cw aE.out (by omega) (by have:=aJ.out.lt;omega)));have cQ:=Zk eF;obtain⟨wz,cI⟩:∃wz,wz=wr:=⟨_,rfl⟩;rw[←cI] at bW aX bO⊢;clear cP cC cH cR HQ aE bV aJ bN aL eF HF cI;obtain⟨cP,cC,cH,cR⟩:=aX.out.cells;go_wp2_with fail;go_loopw [118] (fun i wr=>∃q:Nat,q≤m∧i= .int .i64 q∧Hid (RM (B+1) wr G n m (sw bs r j) (sw cs r j) (elN P k r F ((swp M r j).set r F) q))∧Hid (RD wr B P C (.slice (some ⟨G,0,none⟩) m c) r ld)∧Hid (Below B w wr)) (fun i _=>m- (intOf i).toNat)
       case atStart=>exact⟨0,Nat.zero_le _,by go_num,(show Hid _ from by rw[Qb];exact bW.out),aX,bO⟩
       case round=>
        obtain⟨q,hq,rfl,aC,aD,aI⟩:=hrel;clear cP cC cH cR;by_cases hqm:q<m
        ·obtain⟨cP,cC,cH,cR⟩:=aD.out.cells;have cq:=aC.out.cell hqm;have eq:=aC.out.el hqm bI;have aW:Hid (((swp M r j).set r F).length=m):=Zk (by show _=_;rw[List.length_set,Dx];exact HM.out.len);have aH:gr (elN P k r F ((swp M r j).set r F) q) q=gr ((swp M r j).set r F) q:=by rw[Fs (by rw[aW.out];exact hqm),if_neg (by omega)]
         rw[aH] at eq;obtain⟨R,eR⟩:∃R,R=gr ((swp M r j).set r F) q:=⟨_,rfl⟩;rw[←eR] at eq aH;have z5:(0:Int)≤(q:Int):=by omega
         have z6:(q:Int)<(m:Int):=by omega
         by_cases hqr:q=r
         ·subst hqr;have aZ:Hid (elN P k q F ((swp M q j).set q F) (q+1)=elN P k q F ((swp M q j).set q F) q):=Zk (Jg _ _ _ _ _ _ (.inl rfl));clear aH eR;go_wp2_with fail;go_roundw
          case rel=>exact⟨q+1,by omega,by go_num,(show Hid _ from by rw[aZ.out];exact aC.out),aD,aI⟩
          case measure=>simp[intOf];omega
         ·have cN:((q:Int) !=(r:Int))=true:=by simp;omega
          obtain⟨y,ey⟩:∃y,y=gd R k:=⟨_,rfl⟩;rw[←ey] at eq;by_cases hy0:y=0
          ·subst hy0;have aZ:Hid (elN P k r F ((swp M r j).set r F) (q+1)=elN P k r F ((swp M r j).set r F) q):=Zk (Jg _ _ _ _ _ _ (.inr (by rw[←eR];exact ey.symm)));clear aH eR ey;go_wp2_with fail;go_roundw
           case rel=>exact⟨q+1,by omega,by go_num,(show Hid _ from by rw[aZ.out];exact aC.out),aD,aI⟩
           case measure=>simp[intOf];omega
          ·have hy1:(y !=0)=true:=by simp[hy0]
           obtain⟨q1,q2,q3,q4,q5,q6⟩:=aC.out.row q hqm;obtain⟨s1,s2,s3,s4,s5,s6⟩:=aC.out.row r aB;have cL:sw bs r j q≠b0:=fun e=>hqr (aC.out.apart q r hqm aB (by rw[e,aP.out]))
           have cK:gr (elN P k r F ((swp M r j).set r F) q) r=F:=by
            rw[Fs (by rw[aW.out];exact aB),if_neg (by omega),Gi (by rw[Dx,HM.out.len];exact aB),if_pos rfl]
           have bG:els P R=true:=by
            rw[eR,Gi (by rw[Dx,HM.out.len];exact aB),if_neg hqr,Hg (by rw[HM.out.len];exact aB) (by rw[HM.out.len];exact hjm)];split
            ·exact (HG.out.row r (by rw[HM.out.len];exact aB)).2
            ·exact (HG.out.row q (by rw[HM.out.len];exact hqm)).2
           have dE:0≤y∧y<P:=by rw[ey];exact Co (Cd hP.1 bG k)
           rw[aH] at q1 q2;rw[cK,←aP.out] at s1;obtain⟨bq,bC⟩:∃b,b=sw bs r j q:=⟨_,rfl⟩;obtain⟨cE,cF⟩:∃b,b=sw cs r j q:=⟨_,rfl⟩;rw[←bC] at cq eq q1 q5 q6 cL;rw[←cF] at cq;obtain⟨sb,aQ⟩:∃v,v=(0-y+P)%P:=⟨_,rfl⟩;have dD:0≤sb∧sb<P:=by rw[aQ];exact⟨Int.emod_nonneg _ (by omega),Int.emod_lt_of_pos _ (by omega)⟩
           have bA:∀W:World,Calls Tryz.prog 92 #[.int .i64 P,.int .i64 0,.int .i64 y] W fun e w'=>e= .returned (.int .i64 sb)∧W=w':=fun W=>(Jv P 0 y W hP ⟨by omega,by omega⟩ dE).mono fun e w' ⟨h1,h2⟩=>⟨by rw[h1,aQ],h2⟩
           have bF:F.length=n:=aU.out;have cD:SI wr (.slice (some ⟨b0,0,none⟩) n c0) F:=by
            have:=s1.si (c:=c0) (Ci hP.2 aT.out) (by rw[bF];exact r3) r4
            rwa [bF] at this
           have aS:Hid (∀W:World,RB W bq R→SI W (.slice (some ⟨b0,0,none⟩) n c0) F→Calls Tryz.prog 49 #[.int .i64 P,.slice (some ⟨bq,0,none⟩) n cE,.int .i64 sb,.slice (some ⟨b0,0,none⟩) n c0] W fun e w'=>(∃v,e= .returned v)∧RB w' bq (Bl P R 0 sb F)∧W.grownBy w' (some bq)):=Zk (fun W h1 h2=>Io P bq 0 n cE R sb F _ W hP dD bG aT.out h1 h2 (fun b hb e=>cL (by rw[←e];simpa [Value.ownBlock] using hb.symm)) (by omega) (by omega))
           have cX:Hid (elN P k r F ((swp M r j).set r F) (q+1)=(elN P k r F ((swp M r j).set r F) q).set q (Bl P R 0 sb F)):=Zk (by
            show _=_;rw[Qa _ _ _ _ _ _ (by rw[aW.out];exact hqm) hqr,←eR,el1,if_neg (by rw[←ey];exact hy0),aQ,ey])
           have dA:Hid ((Bl P R 0 sb F).length=n):=Zk (by show _=_;rw[Bg];exact q2);have cU:=Zk q1;have aY:=Zk cD;have bR:=Zk bC;clear aH eR ey aQ cK bG q1 q2 q3 q4 s1 s2 s3 s4 s5 s6 cD bF cF bC;go_wp2_with fail;go_region_with
            (first
             |(go_at_call 92;refine (bA _).mono ?_;rintro e w9 ⟨rfl,rfl⟩)
             |(go_at_call 49;refine (aS.out _ (by exact cU.out) (by exact aY.out)).mono ?_;rintro e w9 ⟨⟨v9,rfl⟩,aN,aG⟩;have cV:=Zk aN;have aV:Hid (wr.grownBy w9 (some bq)):=Zk (⟨aG.os,aG.tape,aG.output,aG.size,aG.block⟩);clear aN aG))
           all_goals
            go_wp2_with fail;go_roundw
            case rel=>
             refine⟨q+1,by omega,by go_num,(show Hid _ from ?_),(show Hid _ from aD.out.kept (aV.out.block B aD.out.lt (by simp;omega))),(show Hid _ from aI.out.trans (Cw aV.out (by omega) (by have:=aD.out.lt;omega)))⟩;rw[cX.out];exact aC.out.upd hqm dA.out (by rw[←bR.out];exact aV.out) (by rw[←bR.out];exact cV.out)
            case measure=>simp[intOf];omega
        ·obtain rfl:m=q:=by omega
         obtain⟨cP,cC,cH,cR⟩:=aD.out.cells;have f3:=aD.out.frozen 3;go_wp2_with fail;have aK:=Zk (aD.out.rank ((r:Int)+1));have bX:=Zk (aC.out.setB (p:=⟨B,3,none⟩) (Nat.lt_succ_self B) (.int .i64 ((r:Int)+1)));have bP:=Zk (aI.out.setCell (p:=⟨B,3,none⟩) (Zl _) (.int .i64 ((r:Int)+1)));obtain⟨w4,cG⟩:∃w4,w4=wr.setCell ⟨B,3,none⟩ (.int .i64 ((r:Int)+1)):=⟨_,rfl⟩;rw[←cG] at aK bX bP⊢;clear cP cC cH cR f3 aD aC aI cG;obtain⟨cP,cC,cH,cR⟩:=aK.out.cells;have fk:=aK.out.frozen (4+k);have bJ:Hid (ld.length=32):=Zk (HG.out.ldl);have ck:=aK.out.ld (k:=k) (by rw[bJ.out];omega);have k32:(k:Int)<32:=by omega
         go_region
         go_end0
         have cW:=Zk (aK.out.lead (k:=k) ((r:Int)+1));have cT:=Zk (bX.out.setB (p:=⟨B,4+k,none⟩) (Nat.lt_succ_self B) (.int .i64 ((r:Int)+1)));have cO:=Zk (bP.out.setCell (p:=⟨B,4+k,none⟩) (Zl _) (.int .i64 ((r:Int)+1)));have bT:=HG.out.lead HP.out hk hC dB (by rw[HM.out.len];exact hjm) HX.out;rw[Kt,←cQ.out,HM.out.len] at bT;have e1:((r+1:Nat):Int)=(r:Int)+1:=by omega
         refine⟨⟨_,rfl⟩,cO.out.drew,r+1,sw bs r j,sw cs r j,_,_,cT.out.drew,?_,bT⟩;rw[e1];exact cW.out
  ·obtain rfl:j=m:=by omega
   go_wp2_with fail;refine bodyPost_ret (v:= .tuple #[]) (by simp[results,Tryz.results152,go_sem]) rfl ?_;exact⟨⟨_,rfl⟩,Zb _ _,r,bs,cs,M,ld,HM.out,HR.out,HG.out.none fun q h1 h2=>HZ.out q h1 (by have:=HM.out.len;omega)⟩
end Go.Proofs.YtoiabanpnkpbhaaGreatDoor
