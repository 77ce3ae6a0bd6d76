/- Parts. -/
import Derived.Sort.CutIn
import Derived.Test.YtoiabanpnkpbhaaGreatDoorM13
set_option linter.unusedVariables false
set_option linter.unusedSimpArgs false
set_option maxRecDepth 100000
set_option maxHeartbeats 4000000
namespace Go.Proofs.YtoiabanpnkpbhaaGreatDoor
open Go.RowKit Go.Shelf
attribute [local go_sem] Oper.semAt_some
theorem zDo(n lr Bs c:Nat)(A:Option Addr)(J:World→Prop)(W:World)(hBs:W.cell? ⟨Bs,0,none⟩=some (.slice A 0 c))(h0:J W):
  CallsIn Fence.wide n Tryz.prog 153 #[.func (.yield lr) #[] #[],.pointer (some ⟨Bs,0,none⟩)] W fun e W'=>(∃v,e= .returned v)∧J W':=by
 refine callsIn_of_wp Tryz.func153 rfl trivial ?_ rfl;simp only[Tryz.ntmps153,List.size_toArray,List.length_cons,List.length_nil,Nat.reduceAdd,Nat.reduceSub,Array.replicate_succ,Array.replicate_zero,List.push_toArray,List.append_toArray,List.nil_append,List.cons_append];gi_wp2_with fail
 gi_loopw [7] (fun i wr=>i= .int .i64 0∧J wr) (fun _ _=>0)
 case atStart=>exact⟨rfl,h0⟩
 case round=>
  obtain⟨rfl,aA⟩:=hrel
  gi_wp2
  go_end0
  exact⟨⟨_,rfl⟩,aA⟩
theorem Qq(n:Nat)(hn:1≤n)(Bs:Nat)(K:Nat→Prop)(l:List (Int×Bool))(A:Option Addr)(c:Nat)(hz:l.length≤1000000)(w:World)(hK:∀k,K k→k<w.heap.size)(hBl:Bs<w.heap.size)
  (hBs:w.cell? ⟨Bs,0,none⟩=some (.slice A l.length c)) (h:0<l.length→∃b aA,A=some ⟨b,aA,none⟩∧K b∧∀j (h:j<l.length),w.cell? ⟨b,aA+j*2,none⟩=some (.int .i64 l[j].1)∧w.cell? ⟨b,aA+j*2+1,none⟩=some (.bool l[j].2)):
  SeqStopsK Fence.wide n Tryz.prog 153 #[.pointer (some ⟨Bs,0,none⟩)] (fun x:Fin (kn l).length=> #[.int .i64 (kn l)[x].1,.int .i64 (kn l)[x].2]) (KB K) (fun ys=>ys=upA (kn l).length (kn l).length) (fun pre=>∃k,k≤(kn l).length∧pre=upA (kn l).length k) (kn l).length w:=fun lr J Jx W hW hJ _ hY h0=>by
 have aB:=(hW.cell (p:=⟨Bs,0,none⟩) hBl).trans hBs;by_cases hl:l.length=0
 ·have aD:l=[]:=List.eq_nil_of_length_eq_zero hl;subst aD;exact (zDo n lr Bs c A (J []) W aB h0).mono fun e W' ⟨he,hj⟩=>⟨he,.inl ⟨[],rfl,hj⟩⟩
 ·obtain⟨b,aA,rfl,aC,hc⟩:=h (by omega);exact zGt n hn lr Bs b aA c K l aC hz J Jx W (fun k hk=>by have:=hK k hk;have:=hW.size;omega) hJ hY aB (fun j hj=>⟨(hW.cell (p:=⟨b,aA+j*2,none⟩) (hK _ aC)).trans (hc j hj).1,(hW.cell (p:=⟨b,aA+j*2+1,none⟩) (hK _ aC)).trans (hc j hj).2⟩) h0
theorem Nv(A:Option Addr)(n c:Nat)(w:World):
  Calls Tryz.prog 151 #[.slice A n c] w fun e w'=>e= .returned (.func (.func 153) #[] #[.pointer (some ⟨w.heap.size,0,none⟩)])∧w'=w.alloc (.cells #[.slice A n c] 138):=by
 go_enter Tryz.func151,Tryz.ntmps151;go_wp2
 go_ret;exact⟨rfl,rfl⟩
def ceE(P:Int)(l:List (Int×Bool)):Int:=if prB P=false then 9 else if 32<l.length∨P≤l.length then 4 else if ((kn l).all fun p=>el P p.2)=true then 0 else 9
def ceP(P:Int)(l:List (Int×Bool)):Int:=if ceE P l=0 then P else 0
def ceN(P:Int)(l:List (Int×Bool)):Int:=if ceE P l=0 then ((kn l).length:Int) else 0
theorem ce_p{P:Int}{l:List (Int×Bool)}(h:prB P=false):ceE P l=9∧ceP P l=0∧ceN P l=0:=by
 have e:ceE P l=9:=if_pos h;exact⟨e,if_neg (by rw[e];omega),if_neg (by rw[e];omega)⟩
theorem ce_4{P:Int}{l:List (Int×Bool)}(h:prB P=true)(h2:32<l.length∨P≤l.length):ceE P l=4∧ceP P l=0∧ceN P l=0:=by
 have e:ceE P l=4:=by unfold ceE;rw[if_neg (by rw[h];simp),if_pos h2]
 exact⟨e,if_neg (by rw[e];omega),if_neg (by rw[e];omega)⟩
theorem ce_9{P:Int}{l:List (Int×Bool)}(h:prB P=true)(h2:¬(32<l.length∨P≤l.length))(j:Fin (kn l).length)(h3:el P (kn l)[j].2=false):ceE P l=9∧ceP P l=0∧ceN P l=0:=by
 have e:ceE P l=9:=by
  unfold ceE;rw[if_neg (by rw[h];simp),if_neg h2,if_neg];intro ha;rw[List.all_eq_true] at ha;have:=ha _ (List.getElem_mem j.2);simp only[Fin.getElem_fin] at h3;rw[h3] at this
  cases this
 exact⟨e,if_neg (by rw[e];omega),if_neg (by rw[e];omega)⟩
theorem ce_0{P:Int}{l:List (Int×Bool)}(h:prB P=true)(h2:¬(32<l.length∨P≤l.length))(h3:∀j∈upA (kn l).length (kn l).length,el P (kn l)[j].2=true):ceE P l=0∧ceP P l=P∧ceN P l=(kn l).length:=by
 have e:ceE P l=0:=by
  unfold ceE;rw[if_neg (by rw[h];simp),if_neg h2,if_pos];rw[List.all_eq_true];intro x hx;obtain⟨j,hj,rfl⟩:=List.mem_iff_getElem.1 hx;have:=h3 ⟨j,hj⟩ (by unfold upA;rw[List.mem_filterMap];exact⟨j,by simpa using hj,by simp[hj]⟩);simpa using this
 exact⟨e,if_pos e,if_pos e⟩
theorem Rn{w:World}{n:Nat}{a b c a' b' c':Value}(k1:w.cell? ⟨n+1,0,none⟩=some a')(k2:w.cell? ⟨n+2,0,none⟩=some b')(k3:w.cell? ⟨n+3,0,none⟩=some c'):
  (((w.setCell ⟨n+1,0,none⟩ a).setCell ⟨n+2,0,none⟩ b).setCell ⟨n+3,0,none⟩ c).cell? ⟨n+1,0,none⟩=some a∧(((w.setCell ⟨n+1,0,none⟩ a).setCell ⟨n+2,0,none⟩ b).setCell ⟨n+3,0,none⟩ c).cell? ⟨n+2,0,none⟩=some b∧
   (((w.setCell ⟨n+1,0,none⟩ a).setCell ⟨n+2,0,none⟩ b).setCell ⟨n+3,0,none⟩ c).cell? ⟨n+3,0,none⟩=some c:=by
 have aA:(⟨n+1,0,none⟩:Addr)≠⟨n+2,0,none⟩:=by simp
 have aB:(⟨n+1,0,none⟩:Addr)≠⟨n+3,0,none⟩:=by simp
 have aC:(⟨n+2,0,none⟩:Addr)≠⟨n+3,0,none⟩:=by simp
 refine⟨?_,?_,?_⟩
 ·rw[World.cell?_setCell_other _ _ _ _ aB.symm,World.cell?_setCell_other _ _ _ _ aA.symm];exact World.cell?_setCell_same _ _ _ k1
 ·rw[World.cell?_setCell_other _ _ _ _ aC.symm];exact World.cell?_setCell_same _ _ _ ((World.cell?_setCell_other _ _ _ _ aA).trans k2)
 ·exact World.cell?_setCell_same _ _ _ ((World.cell?_setCell_other _ _ _ _ aC).trans ((World.cell?_setCell_other _ _ _ _ aB).trans k3))
theorem Lx{w w':World}{a b c:Value}(h:Below w.heap.size w w'):Below w.heap.size w (((w'.setCell ⟨w.heap.size+1,0,none⟩ a).setCell ⟨w.heap.size+2,0,none⟩ b).setCell ⟨w.heap.size+3,0,none⟩ c):=
 ((h.setCell (p:=⟨w.heap.size+1,0,none⟩) (by show _≤w.heap.size+1;omega) _).setCell (p:=⟨w.heap.size+2,0,none⟩) (by show _≤w.heap.size+2;omega) _).setCell (p:=⟨w.heap.size+3,0,none⟩) (by show _≤w.heap.size+3;omega) _
theorem Hl{W:World}{p q:Addr}{v u:Value}(h:W.cell? q=some u)(hne:p.block≠q.block):(W.setCell p v).cell? q=some u:=
 (World.cell?_setCell_other W p q v (fun e=>hne (by rw[e]))).trans h
theorem Xp(P:Int)(l:List (Int×Bool))(v:Value)(w:World)(hP:At P)(h:SCl w v l)(hz:l.length≤1000000):
  CallsIn Fence.wide 5 Tryz.prog 144 #[.agg #[.int .i64 P],v] w fun e w'=>e= .returned (.tuple #[.int .i64 (ceP P l),.int .i64 (ceN P l),.int .i64 (ceE P l)])∧Below w.heap.size w w':=by
 obtain⟨A,c,rfl,hcc,hm,hr,ha⟩:=h;have HA:=Zk ha;clear hr ha;refine callsIn_of_wp_marks Tryz.func144 rfl trivial ?_ rfl;simp only[Tryz.ntmps144,List.size_toArray,List.length_cons,List.length_nil,Nat.reduceAdd,Nat.reduceSub,Array.replicate_succ,Array.replicate_zero,List.push_toArray,List.append_toArray,List.nil_append,List.cons_append];gi_wp2_with fail
 obtain⟨w0,ew⟩:∃w0:World,w0=(((w.alloc (.cells #[.int .i64 P] 31)).alloc (.cells #[.int .i64 0] 85)).alloc (.cells #[.int .i64 0] 3)).alloc (.cells #[.int .i64 0] 36):=⟨_,rfl⟩;have aQ:Below w.heap.size w w0:=by rw[ew];exact ((((Zb _ _).alloc (Zl _) _).alloc (by simp) _).alloc (by simp;omega) _).alloc (by simp;omega) _
 have hz0:w.heap.size+3<w0.heap.size:=by rw[ew];simp
 have b0:w0.cell? ⟨w.heap.size,0,none⟩=some (.int .i64 P):=by rw[ew];simp[go_sem]
 have b1:w0.cell? ⟨w.heap.size+1,0,none⟩=some (.int .i64 0):=by rw[ew];simp[go_sem]
 have b2:w0.cell? ⟨w.heap.size+2,0,none⟩=some (.int .i64 0):=by rw[ew];simp[go_sem]
 have b3:w0.cell? ⟨w.heap.size+3,0,none⟩=some (.int .i64 0):=by rw[ew];simp[go_sem]
 have f1:w0.frozen? ⟨w.heap.size+1,0,none⟩=false:=by rw[ew];simp[go_sem]
 have f2:w0.frozen? ⟨w.heap.size+2,0,none⟩=false:=by rw[ew];simp[go_sem]
 have f3:w0.frozen? ⟨w.heap.size+3,0,none⟩=false:=by rw[ew];simp[go_sem]
 refine⟨trivial,(callsIn_wide.2 (Mn P _ hP)).mono ?_⟩;rintro e w1 ⟨rfl,aA⟩;rw[←ew] at aA;clear ew;have c0:=(aA.cell (p:=⟨w.heap.size,0,none⟩) (by show w.heap.size<_;omega)).trans b0;have c1:=(aA.cell (p:=⟨w.heap.size+1,0,none⟩) (by show w.heap.size+1<_;omega)).trans b1;have c2:=(aA.cell (p:=⟨w.heap.size+2,0,none⟩) (by show w.heap.size+2<_;omega)).trans b2;have c3:=(aA.cell (p:=⟨w.heap.size+3,0,none⟩) (by show w.heap.size+3<_;omega)).trans b3;have g1:=(aA.frozen (p:=⟨w.heap.size+1,0,none⟩) (by show w.heap.size+1<_;omega)).trans f1;have g2:=(aA.frozen (p:=⟨w.heap.size+2,0,none⟩) (by show w.heap.size+2<_;omega)).trans f2;have g3:=(aA.frozen (p:=⟨w.heap.size+3,0,none⟩) (by show w.heap.size+3<_;omega)).trans f3;have hz1:=aA.size;have aR:=aQ.trans (aA.mono aQ.size);clear b0 b1 b2 b3 f1 f2 f3;rw[show w.heap.size+1+1+1=w.heap.size+3 from rfl,show w.heap.size+1+1=w.heap.size+2 from rfl];obtain⟨op,aI⟩:∃q,ofP P=q:=⟨_,rfl⟩;rw[aI];have aZ:=Zk aI;clear aI;obtain⟨pb,aO⟩:∃q,prB P=q:=⟨_,rfl⟩;rw[aO];have aE:=Zk aO;clear aO
 gi_upto_region 2 with fail
 obtain⟨w2,ew⟩:∃w2:World,w2=w1.alloc (.cells #[.int .i64 op] 85):=⟨_,rfl⟩;have aC:Below w1.heap.size w1 w2:=by rw[ew];exact (Zb _ _).alloc (Zl _) _
 have bD:w1.heap.size<w2.heap.size:=by rw[ew];simp
 have k0:=(aC.cell (p:=⟨w.heap.size,0,none⟩) (by show w.heap.size<_;omega)).trans c0;have k1:=(aC.cell (p:=⟨w.heap.size+1,0,none⟩) (by show w.heap.size+1<_;omega)).trans c1;have k2:=(aC.cell (p:=⟨w.heap.size+2,0,none⟩) (by show w.heap.size+2<_;omega)).trans c2;have k3:=(aC.cell (p:=⟨w.heap.size+3,0,none⟩) (by show w.heap.size+3<_;omega)).trans c3;have k7:w2.cell? ⟨w1.heap.size,0,none⟩=some (.int .i64 op):=by rw[ew];exact Zc _ _ 0 _ _ (0,0) (Zh w1 _)
 have m1:=(aC.frozen (p:=⟨w.heap.size+1,0,none⟩) (by show w.heap.size+1<_;omega)).trans g1;have m2:=(aC.frozen (p:=⟨w.heap.size+2,0,none⟩) (by show w.heap.size+2<_;omega)).trans g2;have m3:=(aC.frozen (p:=⟨w.heap.size+3,0,none⟩) (by show w.heap.size+3<_;omega)).trans g3;have aF:=aR.trans (aC.mono aR.size);rw[←ew];clear ew c0 c1 c2 c3 g1 g2 g3
 cases pb with
 |false=>
  have HE:=Zk (ce_p (l:=l) aE.out);gi_wp2_with fail
  obtain⟨q1,q2,q3⟩:=Rn (a:= .int .i64 0) (b:= .int .i64 0) (c:= .int .i64 9) k1 k2 k3;exact⟨.tuple #[.int .i64 0,.int .i64 0,.int .i64 9],by simp[results,Tryz.results144,go_sem,q1,q2,q3],by rw[HE.out.1,HE.out.2.1,HE.out.2.2],Lx aF⟩
 |true=>
  have hPb:=Bj aE.out;by_cases hbad:32<l.length∨P≤l.length
  ·have HE:=Zk (ce_4 aE.out hbad);by_cases hb32:32<l.length
   ·have aU:decide ((32:Int)<(l.length:Int))=true:=Ze (by omega);have aV:decide (32<l.length)=true:=Ze hb32;gi_wp2_with fail
    obtain⟨q1,q2,q3⟩:=Rn (a:= .int .i64 0) (b:= .int .i64 0) (c:= .int .i64 4) k1 k2 k3;exact⟨.tuple #[.int .i64 0,.int .i64 0,.int .i64 4],by simp[results,Tryz.results144,go_sem,q1,q2,q3],by rw[HE.out.1,HE.out.2.1,HE.out.2.2],Lx aF⟩
   ·have aU:decide ((32:Int)<(l.length:Int))=false:=Zd (by omega);have aV:decide (32<l.length)=false:=Zd hb32;have bA:decide (P≤(l.length:Int))=true:=Ze (by omega);gi_wp2_with fail
    obtain⟨q1,q2,q3⟩:=Rn (a:= .int .i64 0) (b:= .int .i64 0) (c:= .int .i64 4) k1 k2 k3;exact⟨.tuple #[.int .i64 0,.int .i64 0,.int .i64 4],by simp[results,Tryz.results144,go_sem,q1,q2,q3],by rw[HE.out.1,HE.out.2.1,HE.out.2.2],Lx aF⟩
  ·have aU:decide ((32:Int)<(l.length:Int))=false:=Zd (by omega);have aV:decide (32<l.length)=false:=Zd (by omega);have bA:decide (P≤(l.length:Int))=false:=Zd (by omega);have bB:op=P:=by rw[←aZ.out];exact Ku aE.out
   subst bB
   gi_upto_region 7 with fail
   obtain⟨w3,ew⟩:∃w3:World,w3=w2.alloc (.cells #[.int .i64 0] 3):=⟨_,rfl⟩;have aD:Below w2.heap.size w2 w3:=by rw[ew];exact (Zb _ _).alloc (Zl _) _
   have aX:w2.heap.size<w3.heap.size:=by rw[ew];simp
   have n1:=(aD.cell (p:=⟨w.heap.size+1,0,none⟩) (by show w.heap.size+1<_;omega)).trans k1;have n2:=(aD.cell (p:=⟨w.heap.size+2,0,none⟩) (by show w.heap.size+2<_;omega)).trans k2;have n3:=(aD.cell (p:=⟨w.heap.size+3,0,none⟩) (by show w.heap.size+3<_;omega)).trans k3;have n7:=(aD.cell (p:=⟨w1.heap.size,0,none⟩) bD).trans k7;have n9:w3.cell? ⟨w2.heap.size,0,none⟩=some (.int .i64 0):=by rw[ew];exact Zc _ _ 0 _ _ (0,0) (Zh w2 _)
   have j1:=(aD.frozen (p:=⟨w.heap.size+1,0,none⟩) (by show w.heap.size+1<_;omega)).trans m1;have j2:=(aD.frozen (p:=⟨w.heap.size+2,0,none⟩) (by show w.heap.size+2<_;omega)).trans m2;have j3:=(aD.frozen (p:=⟨w.heap.size+3,0,none⟩) (by show w.heap.size+3<_;omega)).trans m3;have j9:w3.frozen? ⟨w2.heap.size,0,none⟩=false:=by rw[ew];exact Zf _ _ 0 _ _ (Zh w2 _)
   have aS:=aF.trans (aD.mono aF.size);rw[←ew];clear ew k0 k1 k2 k3 k7 m1 m2 m3;gi_wp2_with fail
   refine⟨trivial,(callsIn_wide.2 (Nv _ _ _ _)).mono ?_⟩;rintro e w' ⟨rfl,rfl⟩;gi_wp2_with fail
   obtain⟨W0,eW⟩:∃W0:World,W0=w3.alloc (.cells #[.slice A l.length c] 138):=⟨_,rfl⟩;have aB:Below w3.heap.size w3 W0:=by rw[eW];exact (Zb _ _).alloc (Zl _) _
   have bE:w3.heap.size<W0.heap.size:=by rw[eW];simp
   have cS:W0.cell? ⟨w3.heap.size,0,none⟩=some (.slice A l.length c):=by rw[eW];exact Zc _ _ 0 _ _ (0,0) (Zh w3 _)
   have aJ:=aS.trans (aB.mono aS.size);have y1:=(aB.cell (p:=⟨w.heap.size+1,0,none⟩) (by show w.heap.size+1<_;omega)).trans n1;have y2:=(aB.cell (p:=⟨w.heap.size+2,0,none⟩) (by show w.heap.size+2<_;omega)).trans n2;have y3:=(aB.cell (p:=⟨w.heap.size+3,0,none⟩) (by show w.heap.size+3<_;omega)).trans n3;have y7:=(aB.cell (p:=⟨w1.heap.size,0,none⟩) (by show w1.heap.size<_;omega)).trans n7;have y9:=(aB.cell (p:=⟨w2.heap.size,0,none⟩) aX).trans n9;have x1:=(aB.frozen (p:=⟨w.heap.size+1,0,none⟩) (by show w.heap.size+1<_;omega)).trans j1;have x2:=(aB.frozen (p:=⟨w.heap.size+2,0,none⟩) (by show w.heap.size+2<_;omega)).trans j2;have x3:=(aB.frozen (p:=⟨w.heap.size+3,0,none⟩) (by show w.heap.size+3<_;omega)).trans j3;have x9:=(aB.frozen (p:=⟨w2.heap.size,0,none⟩) aX).trans j9;rw[←eW];clear eW n1 n2 n3 n7 n9 j1 j2 j3 j9;refine wpIn_rangeFunc_ownG rfl (by omega) (gf:=153) (lb:= #[.pointer (some ⟨w3.heap.size,0,none⟩)]) rfl trivial (enters_of Tryz.func153 (by kernel_rfl) rfl)
    (Qq 4 (by omega) w3.heap.size (fun b=>b<w.heap.size) l A c hz W0 (fun k hk=>by omega) bE cS
     (fun h0=>by
      obtain⟨b,aP,e,hb,hc⟩:=HA.out h0;exact⟨b,aP,e,hb,fun j hj=>⟨(aJ.cell (p:=⟨b,aP+j*2,none⟩) hb).trans (hc j hj).1,(aJ.cell (p:=⟨b,aP+j*2+1,none⟩) hb).trans (hc j hj).2⟩⟩))
    Il (zCd (fun k hk=>by omega)) (Zb _ _) (fun _=>rfl)
    (fun pre W=>(W.cell? ⟨w.heap.size+1,0,none⟩=some (.int .i64 0)∧W.cell? ⟨w.heap.size+2,0,none⟩=some (.int .i64 0)∧W.cell? ⟨w.heap.size+3,0,none⟩=some (.int .i64 0)∧W.cell? ⟨w1.heap.size,0,none⟩=some (.int .i64 op)∧W.cell? ⟨w2.heap.size,0,none⟩=some (.int .i64 pre.length)∧
      W.frozen? ⟨w.heap.size+1,0,none⟩=false∧W.frozen? ⟨w.heap.size+2,0,none⟩=false∧W.frozen? ⟨w.heap.size+3,0,none⟩=false∧W.frozen? ⟨w2.heap.size,0,none⟩=false∧(∀j∈pre,el op (kn l)[j].2=true))∧Below w.heap.size w W)
    (fun c pre W=>(c= .ret∧W.cell? ⟨w.heap.size+1,0,none⟩=some (.int .i64 0)∧W.cell? ⟨w.heap.size+2,0,none⟩=some (.int .i64 0)∧W.cell? ⟨w.heap.size+3,0,none⟩=some (.int .i64 9)∧∃j:Fin (kn l).length,el op (kn l)[j].2=false)∧Below w.heap.size w W)
    (OwnFrom.and (Own.from (fun s A B row hs hg hr=>⟨cell_kept hs.1 hg hr,cell_kept hs.2.1 hg hr,cell_kept hs.2.2.1 hg hr,cell_kept hs.2.2.2.1 hg hr,cell_kept hs.2.2.2.2.1 hg hr,(frozen_kept hs.1 hg hr).trans hs.2.2.2.2.2.1,(frozen_kept hs.2.1 hg hr).trans hs.2.2.2.2.2.2.1,(frozen_kept hs.2.2.1 hg hr).trans hs.2.2.2.2.2.2.2.1,(frozen_kept hs.2.2.2.2.1 hg hr).trans hs.2.2.2.2.2.2.2.2.1,hs.2.2.2.2.2.2.2.2.2⟩) _) (ownFrom_below (Zl _) (by omega)))
    (fun c=>OwnFrom.and (Own.from (fun s A B row hs hg hr=>⟨hs.1,cell_kept hs.2.1 hg hr,cell_kept hs.2.2.1 hg hr,cell_kept hs.2.2.2.1 hg hr,hs.2.2.2.2⟩) _) (ownFrom_below (Zl _) (by omega)))
    ⟨⟨y1,y2,y3,y7,y9,x1,x2,x3,x9,fun j hj=>by cases hj⟩,aJ⟩
    (fun j=>{tmps:= #[.agg #[.int .i64 op],.slice A l.length c,.pointer (some ⟨w.heap.size,0,none⟩),undef,.pointer (some ⟨w.heap.size+1,0,none⟩),.pointer (some ⟨w.heap.size+2,0,none⟩),.pointer (some ⟨w.heap.size+3,0,none⟩),.pointer (some ⟨w1.heap.size,0,none⟩),.bool true,.pointer (some ⟨w2.heap.size,0,none⟩),undef,.int .i64 (kn l)[j].2,.tuple #[.int .i64 op,.bool true],.agg #[.int .i64 op],.tuple #[.int .i64 op,.bool true],.int .i64 op,.bool true,.bool true,.bool false,.slice A l.length c,.int .i64 l.length,.bool false,.bool false,.slice A l.length c,.int .i64 l.length,.pointer (some ⟨w.heap.size,0,none⟩),.int .i64 op,.bool false,.bool false,.slice A l.length c,.func (.func 153) #[] #[.pointer (some ⟨w3.heap.size,0,none⟩)],.int .i64 (kn l)[j].1,.int .i64 (kn l)[j].2,undef,undef,undef,undef,undef,undef,undef,undef],defers:=[]}) ?assign ?body ?done ?stop
   case assign=>
    intro lr x W K hK
    gi_wp2
    exact hK
   case body=>
    rintro lr pre j W ⟨⟨p1,p2,p3,p7,p9,r1,r2,r3,r9,aH⟩,hB⟩ bC;have aY:=Zk aH;have hpl2:pre.length≤1000000:=by
     have h1:(kn l).length≤l.length:=Ft l 0;omega
    clear aH bC y1 y2 y3 y7 y9 x1 x2 x3 x9 cS;simp only[Fin.getElem_fin];obtain⟨y,ey⟩:∃y,(kn l)[j.1].2=y:=⟨_,rfl⟩;rw[ey];have EY:=Zk ey;clear ey;gi_wp2_with fail
    refine⟨trivial,(CallsIn.inRound lr (callsIn_wide.2 (Uq _ _ _))).mono ?_⟩;rintro e w' ⟨rfl,rfl⟩
    cases he:el op y with
    |true=>
     have HE:=Zk he;clear he;gi_wp2_with fail
     have aK:w2.heap.size≠w.heap.size+1:=by omega
     have aL:w2.heap.size≠w.heap.size+2:=by omega
     have aM:w2.heap.size≠w.heap.size+3:=by omega
     have aN:w2.heap.size≠w1.heap.size:=by omega
     refine⟨(KeepsOthers.setCell _ _ _).from _,⟨by simp[World.setCell],fun p hp=>World.cell?_setCell_other _ _ _ _ (fun e=>by rw[←e] at hp;have h5:w2.heap.size<w.heap.size:=hp;omega)⟩,⟨Hl p1 aK,Hl p2 aL,Hl p3 aM,Hl p7 aN,?_,by rw[World.frozen?_setCell];exact r1,by rw[World.frozen?_setCell];exact r2,by rw[World.frozen?_setCell];exact r3,by rw[World.frozen?_setCell];exact r9,fun q hq=> ?_⟩,hB.setCell (p:=⟨w2.heap.size,0,none⟩) (by show w.heap.size≤w2.heap.size;omega) _⟩
     ·rw[World.cell?_setCell_same _ _ _ p9,List.length_append];rfl
     ·rcases List.mem_append.1 hq with hq|hq
      ·exact aY.out q hq
      ·simp at hq;subst hq;show el op (kn l)[q.1].2=true;rw[EY.out];exact HE.out
    |false=>
     have HE:=Zk he;clear he;gi_wp2_with fail
     obtain⟨q1,q2,q3⟩:=Rn (a:= .int .i64 0) (b:= .int .i64 0) (c:= .int .i64 9) p1 p2 p3;exact⟨(((KeepsOthers.setCell _ _ _).trans (KeepsOthers.setCell _ _ _)).trans (KeepsOthers.setCell _ _ _)).from _,⟨rfl,q1,q2,q3,j,by show el op (kn l)[j.1].2=false;rw[EY.out];exact HE.out⟩,Lx hB⟩
   case done=>
    rintro D ys W hD rfl ⟨⟨p1,p2,p3,p7,p9,r1,r2,r3,r9,aH⟩,hB⟩ hK;have HE:=Zk (ce_0 aE.out hbad aH);rw[Fi (Zl _)] at p9;clear aH y1 y2 y3 y7 y9 x1 x2 x3 x9 cS;have HK:=Zk hK;have hfo:Tryz.prog.follows .mixedOrders=true:=by kernel_rfl
    clear hK;gi_wp2_with fail
    gi_region_with_o (fail)
    all_goals
     gi_wp2_with fail
     obtain⟨q1,q2,q3⟩:=Rn (a:= .int .i64 op) (b:= .int .i64 (kn l).length) (c:= .int .i64 0) p1 p2 p3;have aW:=(((KeepsOthers.setCell W ⟨w.heap.size+1,0,none⟩ (.int .i64 op)).trans (KeepsOthers.setCell _ ⟨w.heap.size+2,0,none⟩ (.int .i64 (kn l).length))).trans (KeepsOthers.setCell _ ⟨w.heap.size+3,0,none⟩ (.int .i64 0))).same D _ HK.out rfl;have aT:=Lx (a:= .int .i64 op) (b:= .int .i64 (kn l).length) (c:= .int .i64 0) hB;generalize ((W.setCell ⟨w.heap.size+1,0,none⟩ (.int .i64 op)).setCell ⟨w.heap.size+2,0,none⟩ (.int .i64 (kn l).length)).setCell ⟨w.heap.size+3,0,none⟩ (.int .i64 0)=WX at q1 q2 q3 aW aT⊢;have aG:WX.drew.heap[D]? =some (.deferred (some [])):=aW;refine⟨by simp,.inl ⟨_,_,rfl,run_takeDeferred aG,?_⟩⟩;have z1:=cell_kept (W:=WX.drew) q1 (grownBy_putObj' WX.drew D (.deferred none)) (fun r e=>by cases e;exact⟨_,aG,rfl⟩)
     have z2:=cell_kept (W:=WX.drew) q2 (grownBy_putObj' WX.drew D (.deferred none)) (fun r e=>by cases e;exact⟨_,aG,rfl⟩)
     have z3:=cell_kept (W:=WX.drew) q3 (grownBy_putObj' WX.drew D (.deferred none)) (fun r e=>by cases e;exact⟨_,aG,rfl⟩)
     exact⟨.tuple #[.int .i64 op,.int .i64 (kn l).length,.int .i64 0],by simp[results,Tryz.results144,go_sem,z1,z2,z3],by rw[HE.out.1,HE.out.2.1,HE.out.2.2],aT.drew.trans (belowK_b (w:=w) (Zl _) WX.drew D _ _ (by omega) aG rfl rfl)⟩
   case stop=>
    rintro D c pre W hD _ ⟨⟨rfl,p1,p2,p3,j,hj⟩,hB⟩ hK;have HE:=Zk (ce_9 aE.out hbad j hj);have HJ:=Zk hj;clear hj
    gi_wp2
    refine⟨by simp,.inl ⟨_,_,rfl,run_takeDeferred hK,?_⟩⟩;have q1:=cell_kept p1 (grownBy_putObj' W D (.deferred none)) (fun r e=>by cases e;exact⟨_,hK,rfl⟩)
    have q2:=cell_kept p2 (grownBy_putObj' W D (.deferred none)) (fun r e=>by cases e;exact⟨_,hK,rfl⟩)
    have q3:=cell_kept p3 (grownBy_putObj' W D (.deferred none)) (fun r e=>by cases e;exact⟨_,hK,rfl⟩)
    exact⟨.tuple #[.int .i64 0,.int .i64 0,.int .i64 9],by simp[results,Tryz.results144,go_sem,q1,q2,q3],by rw[HE.out.1,HE.out.2.1,HE.out.2.2],hB.trans (belowK_b (w:=w) (Zl _) W D _ _ (by omega) hK rfl rfl)⟩
theorem Vs(P:Int)(l:List (Int×Bool))(v:Value)(w:World)(hP:At P)(h:SCl w v l)(hz:l.length≤1000000):
  Calls Tryz.prog 144 #[.agg #[.int .i64 P],v] w fun e w'=>e= .returned (.tuple #[.int .i64 (ceP P l),.int .i64 (ceN P l),.int .i64 (ceE P l)])∧Below w.heap.size w w':=
 callsIn_wide.1 (Xp P l v w hP h hz)
theorem Kd(l:List (Int×Bool)):∀i,∀t∈knF i l,(i:Int)+1≤t.1∧t.1≤(i:Int)+l.length:=by
 induction l with
 |nil=>intro i t h;simp[knF] at h
 |cons c l ih=>
  intro i t h;simp only[knF,List.mem_append,List.length_cons] at h⊢;rcases h with h|h
  ·split at h
   ·simp at h;subst h;simp;omega
   ·simp at h
  ·have:=ih (i+1) t h;omega
theorem Uw{l:List (Int×Bool)}{t:Int×Int}(h:t∈kn l):1≤t.1∧t.1≤l.length:=by
 have:=Kd l 0 t h;omega
open Go.RowKit Go.Shelf
attribute [local go_sem] Oper.semAt_some
theorem Tx{P:Int}{l:List (Int×Bool)}(h:ceE P l=0):prB P=true∧l.length≤32∧(l.length:Int)<P∧∀t∈kn l,el P t.2=true:=by
 unfold ceE at h;by_cases h1:prB P=false
 ·rw[if_pos h1] at h;omega
 rw[if_neg h1] at h;by_cases h2:32<l.length∨P≤l.length
 ·rw[if_pos h2] at h;omega
 rw[if_neg h2] at h;by_cases h3:((kn l).all fun p=>el P p.2)=true
 ·exact⟨by simpa using h1,by omega,by omega,fun t ht=>List.all_eq_true.1 h3 t ht⟩
 ·rw[if_neg h3] at h;omega
end Go.Proofs.YtoiabanpnkpbhaaGreatDoor
