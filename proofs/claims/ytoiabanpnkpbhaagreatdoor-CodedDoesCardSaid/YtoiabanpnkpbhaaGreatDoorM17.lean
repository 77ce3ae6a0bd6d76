/- Parts. -/
import Derived.Test.YtoiabanpnkpbhaaGreatDoorM11
import Derived.Test.YtoiabanpnkpbhaaGreatDoorM16
import Derived.Test.YtoiabanpnkpbhaaGreatDoorM06
set_option linter.unusedVariables false
set_option linter.unusedSimpArgs false
set_option maxRecDepth 100000
set_option maxHeartbeats 4000000
namespace Go.Proofs.YtoiabanpnkpbhaaGreatDoor
open Go.RowKit
def Gx(cl rl:List Int)(C i:Nat):List Int:=(cl.drop (i*C)).take C++[gd rl i]
def eqM(cl rl:List Int)(C k:Nat):List (List Int):=(List.range k).map (Gx cl rl C)
theorem Qd(cl rl:List Int)(C k:Nat):eqM cl rl C (k+1)=eqM cl rl C k++[Gx cl rl C k]:=by
 unfold eqM;rw[List.range_succ,List.map_append];rfl
theorem Hu(cl rl:List Int)(C k:Nat):(eqM cl rl C k).length=k:=by simp[eqM]
theorem Mb{cl rl:List Int}{C k i:Nat}(h:i<k):gr (eqM cl rl C k) i=Gx cl rl C i:=by
 rw[Hf (by rw[Hu];exact h)];simp[eqM]
theorem Nq{cl rl:List Int}{C R i:Nat}(h:cl.length=R*C)(hi:i<R):(Gx cl rl C i).length=C+1:=by
 have:i*C+C≤R*C:=by have:=Nat.mul_le_mul_right C (by omega:i+1≤R);rwa [Nat.add_mul,Nat.one_mul] at this
 simp[Gx];omega
theorem Np{P:Int}(hP:2≤P){cl rl:List Int}(C i:Nat)(h1:els P cl=true)(h2:els P rl=true):els P (Gx cl rl C i)=true:=Ce fun x hx=>by
 rw[Gx,List.mem_append] at hx;rcases hx with hx|hx
 ·exact Be h1 x (List.mem_of_mem_drop (List.mem_of_mem_take hx))
 ·simp at hx;rw[hx];exact Cd hP h2 i
theorem RD.hdr{w:World}{B:Nat}{P C r:Int}{hv:Value}{ld:List Int}(h:RD w B P C hv r ld)(hv':Value):RD (w.setCell ⟨B,2,none⟩ hv') B P C hv' r ld:=by
 unfold RD;rw[heap_setCell_same w B 2 _ _ _ h];simp[rdc]
theorem Cm{B:Nat}{a b:World}{r:Option Nat}(h:a.grownBy b r)(ha:B≤a.heap.size)(hr:∀k,r=some k→B≤k):Below B a b:=
 ⟨h.os,h.tape,h.output,h.size,fun i hi=>h.block i (by omega) (fun e=>by have:=hr i e.symm;omega)⟩
def RdR(P:Int)(C R B:Nat)(cl rl:List Int)(w:World)(i:Value)(wr:World):Prop:=
 ∃(k:Nat) (hv:Value) (bs cs:Nat→Nat),k≤R∧i= .int .i64 k∧BR (B+1) wr hv (C+1) k bs cs (eqM cl rl C k)∧RD wr B P C hv 0 (Ay 32)∧Below B w wr
theorem Ti(P:Int)(R C:Nat)(cl rl:List Int)(vc vr:Value)(w:World)(hp:prB P=true)(hR:R≤32)(hR1:1≤R)(hC:C≤32)(hC1:1≤C)(h1:cl.length=R*C)(h2:rl.length=R)(he1:els P cl=true)(he2:els P rl=true)(hc:SI w vc cl)(hr:SI w vr rl):
    Calls Tryz.prog 147 #[.agg #[.int .i64 P,.int .i64 R,.int .i64 C,vc,vr]] w fun e w'=>∃G c,e= .returned (.pointer (some ⟨w.heap.size+1,0,none⟩))∧R≤c∧Below w.heap.size w w'∧LP P C (w.heap.size+1) G (C+1) R c (eqM cl rl C R) C w':=by
  have HP:=Zk hp;have HC:=Zk hc;have HR:=Zk hr;have E1:=Zk he1;have E2:=Zk he2;have L1:=Zk h1;have L2:=Zk h2;obtain⟨A1,c1,rfl,_⟩:=hc;obtain⟨A2,c2,rfl,_⟩:=hr;have dD:R*C≤1024:=Nat.mul_le_mul hR hC;clear h1 h2 he1 he2 hp;go_enter Tryz.func147,Tryz.ntmps147;go_wp2_with fail;obtain⟨w1,aN⟩:∃w1:World,w1=(w.alloc (.cells #[.int .i64 P,.int .i64 R,.int .i64 C,.slice A1 cl.length c1,.slice A2 rl.length c2] 162)).alloc (.cells (rdc P C (.slice none 0 0) 0 (Ay 32)).toArray 209):=⟨_,rfl⟩;have HW:Hid (w1=(w.alloc (.cells #[.int .i64 P,.int .i64 R,.int .i64 C,.slice A1 cl.length c1,.slice A2 rl.length c2] 162)).alloc (.cells (rdc P C (.slice none 0 0) 0 (Ay 32)).toArray 209)):=aN;have bP:Hid (w1.heap[w.heap.size]? =some (.cells #[.int .i64 P,.int .i64 R,.int .i64 C,.slice A1 cl.length c1,.slice A2 rl.length c2] 162 (0,0))):=Zk (by
    show _=_;rw[aN,Below.heap_alloc _ _ _ (by simp)];exact Zh w _)
  have aT:Hid (RD w1 (w.heap.size+1) P C (.slice none 0 0) 0 (Ay 32)):=Zk (by
    show RD _ _ _ _ _ _ _;unfold RD;rw[aN];have:=Zh (w.alloc (.cells #[.int .i64 P,.int .i64 R,.int .i64 C,.slice A1 cl.length c1,.slice A2 rl.length c2] 162)) (.cells (rdc P C (.slice none 0 0) 0 (Ay 32)).toArray 209);simpa using this)
  have bA:Hid (Below w.heap.size w w1):=Zk (by rw[aN];exact ((Zb _ w).alloc (Zl _) _).alloc (by simp) _);have dH:Hid (w1.heap.size=w.heap.size+2):=Zk (by show _=_;rw[aN];simp);refine Eq.mp (congrArg (fun x=>Code.wp Tryz.prog _ _ _ x) (HW.out.trans rfl)) ?_
  clear aN;obtain⟨B,eB⟩:∃B,B=w.heap.size+1:=⟨_,rfl⟩;have HBB:=Zk eB;go_loopw [16] (fun i wr=>RdR P C R (w.heap.size+1) cl rl w1 i wr) (fun i _=>R- (intOf i).toNat)
  case atStart=>exact⟨0,.slice none 0 0,fun _=>0,fun _=>0,Nat.zero_le _,rfl,BR.nil _ _ _ _ _,aT.out,Zb _ _⟩
  case round=>
    obtain⟨k,hv,bs,cs,hk,rfl,cA,aV,aD⟩:=hrel;have aO:=Zk cA;have bD:=Zk aV;have aJ:=Zk aD;have hsz:w.heap.size+2≤wr.heap.size:=by have:=aD.size;have:=dH.out;omega
    have aR:Hid (wr.heap[w.heap.size]? =some (.cells #[.int .i64 P,.int .i64 R,.int .i64 C,.slice A1 cl.length c1,.slice A2 rl.length c2] 162 (0,0))):=Zk ((aD.block w.heap.size (by omega)).trans bP.out);have aQ:Hid (SI wr (.slice A1 cl.length c1) cl):=Zk ((HC.out.below (bA.out.trans (aD.mono (by omega)))));have bU:Hid (SI wr (.slice A2 rl.length c2) rl):=Zk ((HR.out.below (bA.out.trans (aD.mono (by omega)))));have bX:wr.cell? ⟨w.heap.size,1,none⟩=some (.int .i64 R):=Zc wr w.heap.size 1 _ _ _ aR.out;have cY:wr.cell? ⟨w.heap.size,2,none⟩=some (.int .i64 C):=Zc wr w.heap.size 2 _ _ _ aR.out;have bY:wr.cell? ⟨w.heap.size,3,none⟩=some (.slice A1 cl.length c1):=Zc wr w.heap.size 3 _ _ _ aR.out;have bJ:wr.cell? ⟨w.heap.size,4,none⟩=some (.slice A2 rl.length c2):=Zc wr w.heap.size 4 _ _ _ aR.out;clear cA aV aD;by_cases hkR:k<R
    · obtain⟨kc,bE⟩:∃kc,kc=k*C:=⟨_,rfl⟩;have hkc1:kc+C≤cl.length:=by rw[L1.out,bE];have:=Nat.mul_le_mul_right C (by omega:k+1≤R);rwa [Nat.add_mul,Nat.one_mul] at this
      have q1:(k:Int)*(C:Int)=(kc:Int):=by rw[bE];simp
      have q2:((k:Int)+1)*(C:Int)=(kc:Int)+(C:Int):=by rw[Int.add_mul,q1];simp
      have hcl:cl.length≤1024:=by rw[L1.out];exact dD
      have cR:=Zk bE;clear bE;have hcc:cl.length≤c1:=by obtain⟨_,_,e,h,_⟩:=aQ.out;injection e with _ _ e3;omega
      have hcm:c1≤9223372036854775807:=by obtain⟨_,_,e,_,h,_⟩:=aQ.out;injection e with _ _ e3;omega
      obtain⟨b1,bN,cZ,hb1,aL⟩:=aQ.out.cells (by omega);subst cZ;clear aL;have x1:(kc:Int)≤(kc:Int)+(C:Int):=by omega
      have x2:(kc:Int)+(C:Int)≤(c1:Int):=by omega
      have x3:(0:Int)≤(kc:Int)+(C:Int):=by omega
      have x4:((kc:Int)+(C:Int)).toNat=kc+C:=by omega
      have bM:¬c1=kc:=by omega
      have bS:Hid (SI wr (.slice (some ⟨b1,bN+kc,none⟩) C (c1-kc)) ((cl.drop kc).take C)):=Zk (aQ.out.part (by omega));have dF:((cl.drop kc).take C).length=C:=by simp;omega
      go_upto_region 6 with (at_builtin;refine Bv _ rfl _ _ 22 rfl wr.heap.size 3 Tryz.underlying22 Bi (.slice none 0 0) [] rfl (World.ownsRow_nil _ _ _ _) _ _ ((cl.drop kc).take C) rfl bS.out (by simp;omega) (Zl _) ?_;intro v2 w2 aA aC)
      simp only[List.nil_append] at aA;obtain⟨RW,bK⟩:∃l,l=(cl.drop kc).take C:=⟨_,rfl⟩;rw[←bK] at aA dF;have aM:∀b,b<wr.heap.size→w2.heap[b]? =wr.heap[b]? :=fun b hb=>aC.block b hb (by simp[Value.ownBlock])
      have dI:=aC.size;have cS:=Zk aM;have HO:=Zk aA;have cL:Hid (BR (w.heap.size+1+1) w2 hv (C+1) k bs cs (eqM cl rl C k)):=Zk (aO.out.keep fun b _ h=>aM b h)
      have bC:Hid (RD w2 (w.heap.size+1) P C hv 0 (Ay 32)):=Zk (bD.out.kept (aM _ bD.out.lt));have aP:Hid (Below (w.heap.size+1) w1 w2):=Zk (aJ.out.trans ⟨aC.os,aC.tape,aC.output,aC.size,fun i hi=>aM i (by omega)⟩)
      have cG:k<rl.length:=by rw[L2.out];exact hkR
      obtain⟨b2,aG,dA,cE,aE⟩:=bU.out.cells (by omega);subst dA;obtain⟨y,ey⟩:∃y,y=rl[k]:=⟨_,rfl⟩;have xr:w2.cell? ⟨b2,aG+k,none⟩=some (.int .i64 y):=by rw[ey];exact (World.cell?_of_block (aM b2 cE)).trans (aE k cG)
      have x4:w2.cell? ⟨w.heap.size,4,none⟩=some (.slice (some ⟨b2,aG,none⟩) rl.length c2):=(World.cell?_of_block (aM w.heap.size (by omega))).trans bJ;have cH:=bC.out.cells.2.2.1;have fH:=bC.out.frozen 2;have bI:Hid (∀b,v2.ownBlock=some b→wr.heap.size≤b∧b<w2.heap.size):=Zk (aA.lt);have bH:Hid (∀b,hv.ownBlock=some b→w.heap.size+1+1≤b∧b<wr.heap.size):=Zk (aO.out.own.lt);have aS:Hid (∀b,b<wr.heap.size→some b≠v2.ownBlock):=Zk (fun b hb e=>by have:=(bI.out _ e.symm).1;omega)
      have bR:Hid (∀b,b<w.heap.size+1+1→some b≠hv.ownBlock):=Zk (fun b hb e=>by have:=(bH.out _ e.symm).1;omega)
      have cX:Hid (hv.ownBlock=none∨hv.ownBlock≠v2.ownBlock):=Zk (by
        cases e:hv.ownBlock with
        |none=>exact .inl rfl
        |some b=>exact .inr fun e2=>aS.out b (bH.out b e).2 e2)
      have bW:Hid (w2.ownsRow (w.heap.size+1+1) 22 1 hv k ((List.range k).map (hd (C+1) bs cs))):=Zk (cL.out.own);have bZ:w.heap.size+1<wr.heap.size:=by omega
      have dC:w.heap.size<wr.heap.size:=by omega
      have aU:w.heap.size+1<w.heap.size+1+1:=by omega
      have hBw2:w.heap.size+1+1≤w2.heap.size:=by omega
      have cD:Hid (w2.ownsRow (w.heap.size+1+1) 3 1 v2 RW.length (RW.map (Value.int .i64))):=Zk (Cf aA (by omega));obtain⟨vs,bL⟩:∃vs,vs=(List.range k).map (hd (C+1) bs cs):=⟨_,rfl⟩;rw[←bL] at bW;have bT:Hid (∀(wa wb:World) (o1 o2:Obj),(w2.alloc o1).grownBy wa v2.ownBlock→(wa.alloc o2).grownBy wb hv.ownBlock→RD wb (w.heap.size+1) P C hv 0 (Ay 32)):=Zk (fun wa wb o1 o2 h1 h2=>
        ((bC.out.kept (Below.heap_alloc w2 o1 _ bC.out.lt)).kept (h1.block _ (by simp;omega) (aS.out _ bZ))).kept ((h2.block _ (by have:=h1.size;simp at this;simp;omega) (bR.out _ aU)).trans (Below.heap_alloc wa o2 _ (by have:=h1.size;simp at this;omega))))
      have cP:=Zk bL;have cQ:Hid (y=gd rl k):=Zk (by show _=_;rw[ey,Bw cG]);have bF:Hid (RW=(cl.drop (k*C)).take C):=Zk (by show _=_;rw[bK,cR.out]);have s1:w.heap.size+1<w2.heap.size:=by omega
      have s2:w.heap.size<w2.heap.size:=by omega
      have s3:b2<w2.heap.size:=by omega
      have cW:Hid (∀wa:World,(w2.alloc (.cells #[.int .i64 y] 3)).grownBy wa v2.ownBlock→w.heap.size+1<wa.heap.size∧w.heap.size<wa.heap.size∧b2<wa.heap.size):=Zk (fun wa h=>by have:=h.size;simp at this;omega)
      have z1:(0:Int)≤(k:Int):=by omega
      have z2:(k:Int)<(rl.length:Int):=by omega
      have hrl1:RW.length≤1000000:=by omega
      have hk1:k≤1000000:=by omega
      clear aE ey bL bK aM aA aC bM q1 q2 x1 x2 x3 bX cY bY bJ bS;go_region_law (first
          | (refine Ax _ (by rfl) (.tmp 37) _ 22 (by rfl) (w.heap.size+1+1) 3 Tryz.underlying22 Bi v2 RW (by rfl) (by first|exact cD.out.alloc (.cells #[.int .i64 y] 3)|exact (cD.out.alloc (.cells #[.int .i64 y] 3)).drew) y w2.heap.size (by rfl) (by exact Ba w2 [.int .i64 y] 3 0 _ rfl) (by omega) (by simp;omega) ?_;intro g1 aB wa aH aF aX;
             have cH:wa.cell? ⟨w.heap.size+1,2,none⟩=some hv:=aF.cell (Bo (.cells #[.int .i64 y] 3) cH) (aS.out _ bZ);have x4:wa.cell? ⟨w.heap.size,4,none⟩=some (.slice (some ⟨b2,aG,none⟩) rl.length c2):=aF.cell (Bo (.cells #[.int .i64 y] 3) x4) (aS.out _ dC);have xr:wa.cell? ⟨b2,aG+k,none⟩=some (.int .i64 y):=aF.cell (Bo (.cells #[.int .i64 y] 3) xr) (aS.out b2 cE);have aK:Hid ((w2.alloc (.cells #[.int .i64 y] 3)).grownBy wa v2.ownBlock):=Zk (⟨aF.os,aF.tape,aF.output,aF.size,aF.block⟩);obtain⟨s1a,s2a,s3a⟩:=cW.out wa aK.out;have cU:=Zk aH;have cJ:Hid (v2.ownBlock=some g1∨g1=(w2.alloc (.cells #[.int .i64 y] 3)).heap.size):=Zk (aX);clear aF aH aX;have bV:Hid (wa.ownsRow (w.heap.size+1+1) 22 1 hv k vs):=Zk ((bW.out.alloc (.cells #[.int .i64 y] 3)).kept aK.out cX.out))
          | (refine Dz _ (by rfl) (.tmp 36) _ 33 (by rfl) (w.heap.size+1+1) 22 (.slice none 0 0) 24 Tryz.underlying33 Ev hv k vs (by rfl) (by first|exact bV.out.alloc (.cells #[.slice (some ⟨g1,0,none⟩) (C+1) aB] 22)|exact (bV.out.alloc (.cells #[.slice (some ⟨g1,0,none⟩) (C+1) aB] 22)).drew) (.slice (some ⟨g1,0,none⟩) (C+1) aB) (by rfl) wa.heap.size (by rfl) (by exact Ba wa [.slice (some ⟨g1,0,none⟩) (C+1) aB] 22 0 _ rfl) (by omega) (by omega) (by rfl) (by have:=aK.out.size;simp at this;simp;omega) ?_;intro g2 cap2 wb aA aC aY;
             have cH:wb.cell? ⟨w.heap.size+1,2,none⟩=some hv:=aC.cell (Bo (.cells #[.slice (some ⟨g1,0,none⟩) (C+1) aB] 22) cH) (bR.out _ aU);have bB:Hid ((wa.alloc (.cells #[.slice (some ⟨g1,0,none⟩) (C+1) aB] 22)).grownBy wb hv.ownBlock):=Zk (⟨aC.os,aC.tape,aC.output,aC.size,aC.block⟩);have fH:wb.frozen? ⟨w.heap.size+1,2,none⟩=false:=(bT.out wa wb (.cells #[.int .i64 y] 3) (.cells #[.slice (some ⟨g1,0,none⟩) (C+1) aB] 22) aK.out bB.out).frozen 2;have cV:=Zk aA;have cK:Hid (hv.ownBlock=some g2∨g2=(wa.alloc (.cells #[.slice (some ⟨g1,0,none⟩) (C+1) aB] 22)).heap.size):=Zk (aY);clear aC aA aY))
      all_goals
        go_wp2_with fail;go_roundw
        case rel=>
          have dG:(RW++[y]).length=C+1:=by simp;omega
          have cI:=cV.out;rw[←dG,cP.out] at cI;have aI:=BR.push aO.out cS.out dI bI.out (by omega) aK.out cU.out cJ.out bB.out cI cK.out;have hM:eqM cl rl C k++[RW++[y]]=eqM cl rl C (k+1):=by rw[Qd,Gx,bF.out,cQ.out]
          rw[hM] at aI;refine⟨k+1,_,_,_,by omega,by go_num,(aI.keep fun b hb _=>Zo wb ⟨w.heap.size+1,2,none⟩ b _ (by show b≠w.heap.size+1;omega)),?_,?_⟩
          · exact (bT.out wa wb (.cells #[.int .i64 y] 3) (.cells #[.slice (some ⟨g1,0,none⟩) (C+1) aB] 22) aK.out bB.out).hdr _
          · have b1:Below (w.heap.size+1) w1 wa:=(aP.out.alloc (by omega) _).trans (Cm aK.out (by simp;omega) (fun b hb=>by have:=(bI.out b hb).1;omega))
            have b2:Below (w.heap.size+1) w1 wb:=(b1.alloc (by omega) _).trans (Cm bB.out (by simp;omega) (fun b hb=>by have:=(bH.out b hb).1;omega))
            exact b2.setCell (Zl _) _
        case measure=>simp[intOf];omega
    · obtain rfl:R=k:=by omega
      obtain⟨G,c,dB,dE,aW⟩:=aO.out.rm (by omega);subst dB;have cC:LP P C (w.heap.size+1) G (C+1) R c (eqM cl rl C R) 0 wr:=⟨0,bs,cs,_,_,aW,bD.out,GE.start fun i hi=>by
        rw[Hu] at hi;rw[Mb hi];exact⟨Nq L1.out hi,Np (Bj HP.out).1 C i E1.out E2.out⟩⟩
      have cT:=Zk cC;have cM:Hid (Below w.heap.size w wr):=Zk (bA.out.trans (aJ.out.mono (by omega)));have HEr':=aR;obtain⟨wz,rfl⟩:∃wz:World,wz=wr:=⟨_,rfl⟩;clear cC aW aO bD aJ aQ bU bX bY bJ bP aT bA;go_wp2_with fail;go_loopw [52] (fun i wr=>∃k:Nat,k≤C∧i= .int .i64 k∧Hid (LP P C (w.heap.size+1) G (C+1) R c (eqM cl rl C R) k wr)∧Hid (Below (w.heap.size+1) wz wr)) (fun i _=>C- (intOf i).toNat)
      case atStart=>exact⟨0,Nat.zero_le _,by go_num,cT,(show Hid _ from Zb _ _)⟩
      case round=>
        obtain⟨k,hk,rfl,bQ,bO⟩:=hrel;by_cases hkC:k<C
        · obtain⟨r,bs,cs,M,ld,aW,aV,cB⟩:=bQ.out;have cO:=Zk (zAo P C (w.heap.size+1) G (C+1) R c r k bs cs _ M ld wr HP.out hkC rfl hC hR aW aV cB);clear aW aV cB;go_wp2_with fail;(with_reducible refine cO.out.mono ?_);rintro e w9 ⟨⟨v9,rfl⟩,cF,aZ⟩
          have bG:=Zk aZ;have cN:Hid (Below (w.heap.size+1) wz w9):=Zk (bO.out.trans cF);clear cF aZ;go_wp2_with fail;go_roundw
          case rel=>exact⟨k+1,by omega,by go_num,bG,cN⟩
          case measure=>simp[intOf];omega
        · obtain rfl:C=k:=by omega
          go_wp2_with fail;go_ret;exact⟨G,c,rfl,dE,cM.out.trans (bO.out.mono (by omega)),bQ.out⟩
end Go.Proofs.YtoiabanpnkpbhaaGreatDoor
