/- Parts. -/
import Derived.Test.YtbgabipngdillaaGreatDoorM27
import Derived.Test.YtbgabipngdillaaGreatDoorM28
set_option linter.unusedVariables false
set_option linter.unusedSimpArgs false
namespace Go.Proofs.YtbgabipngdillaaGreatDoor
open Go.RowKit
theorem Se:Bw (ans [[3],[5],[0],[2]]) 0=[(3,true),(5,true),(0,true),(2,true)]:=by decide
theorem Qb:UnR 7 (Bw (ans [[3],[5],[0],[2]]) 0) 2 [1,2] 0:=by
 rw[Se];refine .inr ⟨by kernel_rfl,.inl ⟨rfl,by decide,by kernel_rfl,by kernel_rfl,?_⟩⟩;have:(wrk 7 (kn [(3,true),(5,true),(0,true),(2,true)]) [1,2]).length=0:=by kernel_rfl
 rw[this];exact Nat.zero_le _
theorem Vu{at_:Nat}{ok:Bool}{er:Int}(h:WaR 7 4 1 [[3],[5],[0],[2]] at_ ok er):at_=0∧ok=true∧er=0:=by
 have c0:cuE 7 4 1=0:=by kernel_rfl
 have c1:wfB 4 [[3],[5],[0],[2]]=true:=by kernel_rfl
 have c2:([[3],[5],[0],[2]]:List (List Int)).all (els 7)=true:=by kernel_rfl
 rcases h with⟨h,_⟩|⟨_,⟨h,_⟩|⟨_,⟨h,_⟩|⟨_,he,h⟩⟩⟩
 ·exact absurd c0 h
 ·rw[c1] at h;cases h
 ·rw[c2] at h;cases h
 ·rcases h with⟨⟨i,hi,o,er',hu,aC⟩,_⟩|⟨ps,ws,⟨hl,hu,_⟩,h1⟩
  ·have aA:i=0:=by
    have hi':i<1:=hi;omega
   subst aA;exact absurd (UnR.uniq hu Qb).2 aC
  ·have aB:ps.length=1:=hl
   match ps,aB with
   |[p],_=>
    have h2:=hu 0 (by simp);have h3:=(UnR.uniq h2 Qb).1;have h4:p=[1,2]:=h3;subst h4;have h5:Ei ([[1,2]].map fun p=>gd p 0)=(0,true):=by kernel_rfl
    rw[h5] at h1;injection h1 with h6 h7;exact⟨h6,h7,he⟩
theorem Qe:quE 7 4 1 1 0 [2] 0=0:=by kernel_rfl
theorem Uf:Dg 7 0 (([2]:List Int).take ((1:Int)*1).toNat) ((1:Int)).toNat ((4:Int)).toNat ((1:Int)).toNat=[[3],[5],[0],[2]]:=by kernel_rfl
theorem Xj(W:World)(x:Int)(hx:An x):SI (W.alloc (.cells #[.int .i64 x] 3)) (.slice (some ⟨W.heap.size,0,none⟩) 1 1) [x]:=by
 have h:=Io (base:=0) W 3 [.int .i64 x] (Nat.zero_le _) (by simp[maxLen]);exact SI.of_own (l:=[x]) (by simpa using h) (by simpa using hx)
theorem lit4(W:World)(a b c d:Int)(ha:An a)(hb:An b)(hc:An c)(hd:An d):
  SL (((((W.alloc (.cells #[.int .i64 a] 3)).alloc (.cells #[.int .i64 b] 3)).alloc (.cells #[.int .i64 c] 3)).alloc (.cells #[.int .i64 d] 3)).alloc (.cells #[.slice (some ⟨W.heap.size,0,none⟩) 1 1,.slice (some ⟨W.heap.size+1,0,none⟩) 1 1,.slice (some ⟨W.heap.size+2,0,none⟩) 1 1,.slice (some ⟨W.heap.size+3,0,none⟩) 1 1] 22)) (.slice (some ⟨W.heap.size+4,0,none⟩) 4 4) [[a],[b],[c],[d]]:=by
 have al:∀(V:World) (o:Obj),Below V.heap.size V (V.alloc o):=fun V o=>(Zb _ V).alloc (Zl _) o
 have sz:∀(V:World) (o:Obj),(V.alloc o).heap.size=V.heap.size+1:=fun V o=>by simp
 obtain⟨w1,e1⟩:∃w1,w1=W.alloc (.cells #[.int .i64 a] 3):=⟨_,rfl⟩;obtain⟨w2,e2⟩:∃w2,w2=w1.alloc (.cells #[.int .i64 b] 3):=⟨_,rfl⟩;obtain⟨w3,e3⟩:∃w3,w3=w2.alloc (.cells #[.int .i64 c] 3):=⟨_,rfl⟩;obtain⟨w4,e4⟩:∃w4,w4=w3.alloc (.cells #[.int .i64 d] 3):=⟨_,rfl⟩;have s1:w1.heap.size=W.heap.size+1:=by rw[e1];exact sz _ _
 have s2:w2.heap.size=W.heap.size+2:=by rw[e2,sz,s1]
 have s3:w3.heap.size=W.heap.size+3:=by rw[e3,sz,s2]
 have s4:w4.heap.size=W.heap.size+4:=by rw[e4,sz,s3]
 have t1:SI w1 (.slice (some ⟨W.heap.size,0,none⟩) 1 1) [a]:=by rw[e1];exact Xj W a ha
 have t2:SI w2 (.slice (some ⟨W.heap.size+1,0,none⟩) 1 1) [b]:=by rw[e2,←s1];exact Xj w1 b hb
 have t3:SI w3 (.slice (some ⟨W.heap.size+2,0,none⟩) 1 1) [c]:=by rw[e3,←s2];exact Xj w2 c hc
 have t4:SI w4 (.slice (some ⟨W.heap.size+3,0,none⟩) 1 1) [d]:=by rw[e4,←s3];exact Xj w3 d hd
 have b2:Below w1.heap.size w1 w2:=by rw[e2];exact al _ _
 have b3:Below w2.heap.size w2 w3:=by rw[e3];exact al _ _
 have b4:Below w3.heap.size w3 w4:=by rw[e4];exact al _ _
 rw[←e1,←e2,←e3,←e4,←s4];have b5:=al w4 (.cells #[.slice (some ⟨W.heap.size,0,none⟩) 1 1,.slice (some ⟨W.heap.size+1,0,none⟩) 1 1,.slice (some ⟨W.heap.size+2,0,none⟩) 1 1,.slice (some ⟨W.heap.size+3,0,none⟩) 1 1] 22);have aA:=Zh w4 (.cells #[.slice (some ⟨W.heap.size,0,none⟩) 1 1,.slice (some ⟨W.heap.size+1,0,none⟩) 1 1,.slice (some ⟨W.heap.size+2,0,none⟩) 1 1,.slice (some ⟨W.heap.size+3,0,none⟩) 1 1] 22);refine⟨_,4,rfl,Zl _,by omega,fun _=>⟨w4.heap.size,0,rfl,by simp,fun j hj=> ?_⟩⟩
 have aB:j<4:=hj
 match j,aB with
 |0,_=>exact⟨_,1,Zc _ _ 0 _ _ _ aA,(((t1.below b2).below b3).below b4).below b5⟩
 |1,_=>exact⟨_,1,Zc _ _ 1 _ _ _ aA,((t2.below b3).below b4).below b5⟩
 |2,_=>exact⟨_,1,Zc _ _ 2 _ _ _ aA,(t3.below b4).below b5⟩
 |3,_=>exact⟨_,1,Zc _ _ 3 _ _ _ aA,t4.below b5⟩
theorem Ka{x:Int}(h: -9≤x∧x≤9):An x:=by unfold An;omega
theorem Nn(P n t m want:Int)(l:List Int)(v:Value)(w:World)(hP:An P)(hm:An m)(h:SI w v l):
  Calls Tryz.prog 17 #[.agg #[.int .i64 P],.agg #[.int .i64 n,.int .i64 t],.int .i64 m,.int .i64 want,.agg #[v,.int .i64 0]] w fun e w'=>∃vq v1 a1,e= .returned (.tuple #[vq,.agg #[v1,.int .i64 a1],.int .i64 (quE P n t m want l 0)])∧Below w.heap.size w w'∧
   (quE P n t m want l 0=0→a1=m*t∧SI w' v1 l∧SL w' vq (Dg P want (l.take (m*t).toNat) t.toNat n.toNat m.toNat)):=
 (Pu P n t m want l 0 v w hP hm h).mono fun _ _ ⟨vq,v1,a1,h1,h2,h3,_⟩=>⟨vq,v1,a1,h1,h2,fun h0=>by
  obtain⟨h4,h5,h6⟩:=h3 h0;exact⟨by simpa using h4,h5,h6⟩⟩
set_option maxRecDepth 100000 in
set_option maxHeartbeats 8000000 in
theorem Xf(w:World)(hE:EW w):Calls Tryz.prog 9 #[] w fun e w'=>e= .returned (.bool true)∧Below w.heap.size w w':=by
 have HE:=Zk hE;clear hE;go_enter Tryz.func9,Tryz.ntmps9;obtain⟨F,eF⟩:∃F,F=w.heap.size:=⟨_,rfl⟩;obtain⟨wa,ew⟩:∃wa:World,wa=(w.alloc (.cells #[.int .i64 4,.int .i64 1] 29)).alloc (.cells #[.int .i64 7] 31):=⟨_,rfl⟩;have bR:Hid ((w.alloc (.cells #[.int .i64 4,.int .i64 1] 29)).alloc (.cells #[.int .i64 7] 31)=wa):=ew.symm;have aY:Hid (Below w.heap.size w wa):=Zk (by rw[ew];exact ((Zb _ w).alloc (Zl _) _).alloc (by simp) _);have aI:Hid (wa.heap[F]? =some (.cells #[.int .i64 4,.int .i64 1] 29 (0,0))):=Zk (by show _=_;rw[ew,eF,Below.heap_alloc _ _ _ (by simp)];exact Zh w _);have aO:Hid (wa.heap[F+1]? =some (.cells #[.int .i64 7] 31 (0,0))):=Zk (by show _=_;rw[ew,eF];have:=Zh (w.alloc (.cells #[.int .i64 4,.int .i64 1] 29)) (.cells #[.int .i64 7] 31);simpa using this);have HEF:=Zk eF;go_upto_region 3 with fail
 rw[bR.out,←eF];clear ew eF;have p0:wa.cell? ⟨F,0,none⟩=some (.int .i64 4):=Zc wa F 0 _ _ _ aI.out;have p1:wa.cell? ⟨F,1,none⟩=some (.int .i64 1):=Zc wa F 1 _ _ _ aI.out;have f0:wa.cell? ⟨F+1,0,none⟩=some (.int .i64 7):=Zc wa (F+1) 0 _ _ _ aO.out;have HL:Hid (SI (wa.alloc (.cells #[.int .i64 2] 3)) (.slice (some ⟨wa.heap.size,0,none⟩) 1 1) [2]):=Xj wa 2 (Ka (by omega));have bM:Hid (Below wa.heap.size wa (wa.alloc (.cells #[.int .i64 2] 3))):=(Zb _ wa).alloc (Zl _) _;have bC:=Zk (Nn 7 4 1 1 0 [2] (.slice (some ⟨wa.heap.size,0,none⟩) 1 1) (wa.alloc (.cells #[.int .i64 2] 3)) (Ka (by omega)) (Ka (by omega)) HL.out);go_wp2_with fail;(with_reducible refine bC.out.mono ?_)
 rintro e w1 ⟨vq,v1,a1,rfl,bG,bI⟩;rw[Qe];obtain⟨bW,bJ,aL⟩:=bI Qe;clear bW;rw[Uf] at aL;obtain⟨A1,c1,bU⟩:=bJ.form';subst bU;have aT:=aL;obtain⟨Aq,cq,bV,_⟩:=aT;subst bV;have aU:Hid (Below wa.heap.size wa w1):=Zk (bM.out.trans (bG.mono (by simp)));have bP:=Zk aL;clear bG bI bJ aL p0 p1 f0 bC;obtain⟨wb,aP⟩:∃wb:World,wb=w1.alloc (.cells #[.slice A1 1 c1,.int .i64 a1] 39):=⟨_,rfl⟩;have bS:Hid (w1.alloc (.cells #[.slice A1 1 c1,.int .i64 a1] 39)=wb):=aP.symm;have aZ:Hid (Below w1.heap.size w1 wb):=Zk (by rw[aP];exact (Zb _ w1).alloc (Zl _) _);have aB:Hid (Below wa.heap.size wa wb):=Zk (aU.out.trans (aZ.out.mono aU.out.size));have aN:Hid (Below w.heap.size w wb):=Zk (aY.out.trans (aB.out.mono aY.out.size));have aJ:Hid (wb.heap[F]? =some (.cells #[.int .i64 4,.int .i64 1] 29 (0,0))):=Zk ((aB.out.block F (Ae aI.out)).trans aI.out);have bN:Hid (wb.heap[F+1]? =some (.cells #[.int .i64 7] 31 (0,0))):=Zk ((aB.out.block (F+1) (Ae aO.out)).trans aO.out);have bD:Hid (SL wb (.slice Aq 4 cq) [[3],[5],[0],[2]]):=Zk (bP.out.below aZ.out);have bF:=Zk (Lo 7 4 1 [[3],[5],[0],[2]] (.slice Aq 4 cq) wb (Ka (by omega)) bD.out (HE.out.below aN.out));clear aP;have p0:wb.cell? ⟨F,0,none⟩=some (.int .i64 4):=Zc wb F 0 _ _ _ aJ.out;have p1:wb.cell? ⟨F,1,none⟩=some (.int .i64 1):=Zc wb F 1 _ _ _ aJ.out;have f0:wb.cell? ⟨F+1,0,none⟩=some (.int .i64 7):=Zc wb (F+1) 0 _ _ _ bN.out;go_upto_region 4 with fail
 rw[bS.out];go_wp2_with fail;(with_reducible refine bF.out.mono ?_)
 rintro e w2 ⟨at2,ok2,er2,rfl,aE,bK⟩;obtain⟨rfl,rfl,rfl⟩:=Vu bK;have HB2:=Zk aE;have aC:Hid (Below w.heap.size w w2):=Zk (aN.out.trans (aE.mono aN.out.size));have aF:Hid (w2.heap[F]? =some (.cells #[.int .i64 4,.int .i64 1] 29 (0,0))):=Zk ((aE.block F (Ae aJ.out)).trans aJ.out);have bQ:Hid (SL w2 (.slice Aq 4 cq) [[3],[5],[0],[2]]):=Zk (bD.out.below aE);clear aE bK p0 p1 f0 bF;obtain⟨wc,aK⟩:∃wc:World,wc=((((w2.alloc (.cells #[.int .i64 3] 3)).alloc (.cells #[.int .i64 5] 3)).alloc (.cells #[.int .i64 0] 3)).alloc (.cells #[.int .i64 2] 3)).alloc (.cells #[.slice (some ⟨w2.heap.size,0,none⟩) 1 1,.slice (some ⟨w2.heap.size+1,0,none⟩) 1 1,.slice (some ⟨w2.heap.size+1+1,0,none⟩) 1 1,.slice (some ⟨w2.heap.size+1+1+1,0,none⟩) 1 1] 22):=⟨_,rfl⟩;have bT:Hid (((((w2.alloc (.cells #[.int .i64 3] 3)).alloc (.cells #[.int .i64 5] 3)).alloc (.cells #[.int .i64 0] 3)).alloc (.cells #[.int .i64 2] 3)).alloc (.cells #[.slice (some ⟨w2.heap.size,0,none⟩) 1 1,.slice (some ⟨w2.heap.size+1,0,none⟩) 1 1,.slice (some ⟨w2.heap.size+1+1,0,none⟩) 1 1,.slice (some ⟨w2.heap.size+1+1+1,0,none⟩) 1 1] 22)=wc):=aK.symm;have bO:Hid (SL wc (.slice (some ⟨w2.heap.size+1+1+1+1,0,none⟩) 4 4) [[3],[5],[0],[2]]):=Zk (by rw[aK];exact lit4 w2 3 5 0 2 (Ka (by omega)) (Ka (by omega)) (Ka (by omega)) (Ka (by omega)));have aM:Hid (Below w2.heap.size w2 wc):=Zk (by rw[aK];exact (((((Zb _ w2).alloc (Zl _) _).alloc (by simp) _).alloc (by simp;omega) _).alloc (by simp;omega) _).alloc (by simp;omega) _);have bB:Hid (wc.heap[F]? =some (.cells #[.int .i64 4,.int .i64 1] 29 (0,0))):=Zk ((aM.out.block F (Ae aF.out)).trans aF.out);have aD:Hid (Below w.heap.size w wc):=Zk (aC.out.trans (aM.out.mono aC.out.size));have bE:=Zk ((Ie [[3],[5],[0],[2]] [[3],[5],[0],[2]] (.slice Aq 4 cq) (.slice (some ⟨w2.heap.size+1+1+1+1,0,none⟩) 4 4) wc (bQ.out.below aM.out) bO.out).mono (R':=fun e w'=>e= .returned (.bool true)∧Below wc.heap.size wc w') fun e w' ⟨h1,h2⟩=>⟨h1.trans (by rw[Ze rfl]),h2⟩)
 clear aK;go_upto_region 5 with fail
 have p0:w2.cell? ⟨F,0,none⟩=some (.int .i64 4):=Zc w2 F 0 _ _ _ aF.out;have p1:w2.cell? ⟨F,1,none⟩=some (.int .i64 1):=Zc w2 F 1 _ _ _ aF.out;go_wp2_with fail;rw[bT.out];(with_reducible refine bE.out.mono ?_)
 rintro e w3 ⟨rfl,aQ⟩;have aV:Hid (Below w.heap.size w w3):=Zk (aD.out.trans (aQ.mono aD.out.size));have aG:Hid (w3.heap[F]? =some (.cells #[.int .i64 4,.int .i64 1] 29 (0,0))):=Zk ((aQ.block F (Ae bB.out)).trans bB.out);clear aQ p0 p1 bE;have p0:w3.cell? ⟨F,0,none⟩=some (.int .i64 4):=Zc w3 F 0 _ _ _ aG.out;have p1:w3.cell? ⟨F,1,none⟩=some (.int .i64 1):=Zc w3 F 1 _ _ _ aG.out;go_wp2_with fail;(with_reducible refine (Hi 4 1 0 1 _).mono ?_)
 rintro e w4 ⟨rfl,aR⟩;have aA:beB 4 1 0 1=true:=by decide
 rw[aA];have aW:Hid (Below w.heap.size w w4):=Zk (aV.out.trans (aR.mono aV.out.size));have aH:Hid (w4.heap[F]? =some (.cells #[.int .i64 4,.int .i64 1] 29 (0,0))):=Zk ((aR.block F (Ae aG.out)).trans aG.out);clear aR aA p0 p1;have p0:w4.cell? ⟨F,0,none⟩=some (.int .i64 4):=Zc w4 F 0 _ _ _ aH.out;have p1:w4.cell? ⟨F,1,none⟩=some (.int .i64 1):=Zc w4 F 1 _ _ _ aH.out;go_wp2_with fail;(with_reducible refine (Hi 4 1 2 0 _).mono ?_)
 rintro e w5 ⟨rfl,aS⟩;have aA:beB 4 1 2 0=true:=by decide
 rw[aA];have aX:Hid (Below w.heap.size w w5):=Zk (aW.out.trans (aS.mono aW.out.size));have bA:Hid (w5.heap[F]? =some (.cells #[.int .i64 4,.int .i64 1] 29 (0,0))):=Zk ((aS.block F (Ae aH.out)).trans aH.out);clear aS aA p0 p1;have p0:w5.cell? ⟨F,0,none⟩=some (.int .i64 4):=Zc w5 F 0 _ _ _ bA.out;have p1:w5.cell? ⟨F,1,none⟩=some (.int .i64 1):=Zc w5 F 1 _ _ _ bA.out;go_wp2_with fail;(with_reducible refine (Hi 4 1 1 1 _).mono ?_)
 rintro e w6 ⟨rfl,bH⟩;have aA:beB 4 1 1 1=false:=by decide
 rw[aA];have bL:Hid (Below w.heap.size w w6):=Zk (aX.out.trans (bH.mono aX.out.size));clear bH aA p0 p1;go_wp2_with fail;go_ret;exact⟨rfl,bL.out⟩
end Go.Proofs.YtbgabipngdillaaGreatDoor
