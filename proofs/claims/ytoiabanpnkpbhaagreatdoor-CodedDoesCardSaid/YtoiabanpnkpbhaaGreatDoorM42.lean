/- Parts. -/
import Derived.Test.YtoiabanpnkpbhaaGreatDoorM38
import Derived.Test.YtoiabanpnkpbhaaGreatDoorM41
set_option linter.unusedVariables false
set_option linter.unusedSimpArgs false
set_option maxRecDepth 100000
set_option maxHeartbeats 8000000
namespace Go.Proofs.YtoiabanpnkpbhaaGreatDoor
open Go.RowKit Go.Shelf
def GdR(P n t G width:Int)(l:List (Bool×List Int))(rows:List (List Int))(wr:List Int)(er:Int):Prop:=
 (gcE P n t G≠0∧er=gcE P n t G∧rows=[]∧wr=[])∨(gcE P n t G=0∧DgR P n.toNat t.toNat G.toNat width l rows wr er)
theorem DgR.uniq{P:Int}{n t G:Nat}{width:Int}{l:List (Bool×List Int)}{r r':List (List Int)}{w w':List Int}{e e':Int}(h:DgR P n t G width l r w e)(h':DgR P n t G width l r' w' e'):r=r'∧w=w'∧e=e':=by
 unfold DgR at h h';rcases h with⟨a,b,c,d⟩|⟨a,h⟩
 ·rcases h' with⟨_,b',c',d'⟩|⟨a',_⟩
  ·exact⟨by rw[c,c'],by rw[d,d'],by rw[b,b']⟩
  ·exact absurd a' a
 ·rcases h' with⟨a',_⟩|⟨_,h'⟩
  ·exact absurd a a'
  ·rcases h with⟨a1,b,c,d⟩|⟨ps,a1,b,c⟩
   ·rcases h' with⟨_,b',c',d'⟩|⟨aB,aA,_⟩
    ·exact⟨by rw[c,c'],by rw[d,d'],by rw[b,b']⟩
    ·exact (aA.no a1).elim
   ·rcases h' with⟨aA,_⟩|⟨aB,aA,b',c'⟩
    ·exact (a1.no aA).elim
    ·obtain⟨e1,e2⟩:=a1.uniq aA;exact⟨by rw[b,b',e1],e2,by rw[c,c']⟩
theorem GdR.uniq{P n t G width:Int}{l:List (Bool×List Int)}{r r':List (List Int)}{w w':List Int}{e e':Int}(h:GdR P n t G width l r w e)(h':GdR P n t G width l r' w' e'):r=r'∧w=w'∧e=e':=by
 rcases h with⟨a,b,c,d⟩|⟨a,h⟩
 ·rcases h' with⟨_,b',c',d'⟩|⟨a',_⟩
  ·exact⟨by rw[c,c'],by rw[d,d'],by rw[b,b']⟩
  ·exact absurd a' a
 ·rcases h' with⟨a',_⟩|⟨_,h'⟩
  ·exact absurd a a'
  ·exact h.uniq h'
def GdeP(g:Nat)(P n t G width:Int)(l:List (Bool×List Int))(w:World)(e:Ending)(w':World):Prop:=
 ∃rows wr er v1 v2,e= .returned (.tuple #[v1,v2,.int .i64 er])∧Below w.heap.size w w'∧GdR P n t G width l rows wr er∧SLE g w' v1 rows∧SE g w' v2 wr
theorem Pq(P width servers need:Int)(l:List (Bool×List Int))(v:Value)(w:World)(h:SAn w v l)(hs:servers≤10):
  Calls Tryz.prog 64 #[.agg #[.int .i64 P],.int .i64 width,.int .i64 servers,.int .i64 need,v] w fun e w'=>e= .returned (.int .i64 (ckE P width servers need l))∧Below w.heap.size w w':=by
 by_cases hz:l.length≤1000000
 ·exact Kq P width servers need l v w h hz
 ·exact (Pr P width servers need l v w h (by omega) hs).mono fun e w' ⟨_,h1,h2⟩=>⟨h1,h2⟩
theorem Oo(g:Nat)(P n t G width:Int)(l:List (Bool×List Int))(v:Value)(w:World)(hP:At P)(h:SAn w v l)(hE:EW w)(hg:g<w.heap.size):
  Calls Tryz.prog 40 #[.agg #[.int .i64 P],.agg #[.int .i64 n,.int .i64 t,.int .i64 G],.int .i64 width,v] w (GdeP g P n t G width l w):=by
 by_cases hc:gcE P n t G=0∧ckE P width n (2*G+t-1) l=0
 ·have hV:=He hc.1;obtain⟨h0,h64,hln,_⟩:=Sa hc.2;have b1:=hV.t1;have b2:=hV.n2;have b3:=hV.G1;have b4:=hV.n10;have aR:=hc.1;obtain⟨tn,rfl⟩:∃tn:Nat,t=tn:=⟨t.toNat,by omega⟩;obtain⟨nn,rfl⟩:∃nn:Nat,n=nn:=⟨n.toNat,by omega⟩;obtain⟨Gn,rfl⟩:∃Gn:Nat,G=Gn:=⟨G.toNat,by omega⟩;obtain⟨wn,rfl⟩:∃wn:Nat,width=wn:=⟨width.toNat,by omega⟩;exact (Ks P nn tn Gn wn g l v w hV h (by omega) hE hg (by omega)).mono fun e w' ⟨rows,wr,er,v1,v2,h1,h2,h3,h4⟩=>⟨rows,wr,er,v1,v2,h1,h2,.inr ⟨aR,h3⟩,h4⟩
 have aP:=Zk hc;have HS:=Zk h;obtain⟨A,c,rfl⟩:=h.form;obtain⟨nl,aM⟩:∃nl,nl=l.length:=⟨_,rfl⟩;rw[←aM] at HS⊢;clear h hE hc aM;go_enter Tryz.func40,Tryz.ntmps40;obtain⟨F,eF⟩:∃F,F=w.heap.size:=⟨_,rfl⟩;obtain⟨w1,aD⟩:∃w1:World,w1=(w.alloc (.cells #[.int .i64 P] 31)).alloc (.cells #[.int .i64 n,.int .i64 t,.int .i64 G] 29):=⟨_,rfl⟩;have aG:Hid ((w.alloc (.cells #[.int .i64 P] 31)).alloc (.cells #[.int .i64 n,.int .i64 t,.int .i64 G] 29)=w1):=aD.symm;have aC:Hid (Below w.heap.size w w1):=Zk (by rw[aD];exact ((Zb _ w).alloc (Zl _) _).alloc (by simp) _);have aA:Hid (w1.heap[F]? =some (.cells #[.int .i64 P] 31 (0,0))):=Zk (by show _=_;rw[aD,eF,Below.heap_alloc _ _ _ (by simp)];exact Zh w _);have aB:Hid (w1.heap[F+1]? =some (.cells #[.int .i64 n,.int .i64 t,.int .i64 G] 29 (0,0))):=Zk (by show _=_;rw[aD,eF];have:=Zh (w.alloc (.cells #[.int .i64 P] 31)) (.cells #[.int .i64 n,.int .i64 t,.int .i64 G] 29);simpa using this);have aL:Hid (∀W,Below w1.heap.size w1 W→W.cell? ⟨F,0,none⟩=some (.int .i64 P)∧W.cell? ⟨F+1,0,none⟩=some (.int .i64 n)∧W.cell? ⟨F+1,1,none⟩=some (.int .i64 t)∧W.cell? ⟨F+1,2,none⟩=some (.int .i64 G)):=Zk (fun W hg=>by
  have aQ:=(hg.block F (Ae aA.out)).trans aA.out;have aI:=(hg.block (F+1) (Ae aB.out)).trans aB.out;exact⟨Zc W F 0 _ _ _ aQ,Zc W (F+1) 0 _ _ _ aI,Zc W (F+1) 1 _ _ _ aI,Zc W (F+1) 2 _ _ _ aI⟩)
 go_upto_region 1 with fail
 rw[aG.out,←eF];clear aD eF;obtain⟨x0,x1,x2,x3⟩:=aL.out w1 (Zb _ _);go_wp2_with fail;(with_reducible refine (Fe P n t G _ hP).mono ?_)
 rintro e w2 ⟨rfl,aJ⟩;have aE:Hid (Below w.heap.size w w2):=Zk (aC.out.trans (aJ.mono aC.out.size));have aF:=Zk aJ;clear x0 x1 x2 x3 aJ;obtain⟨x0,x1,x2,x3⟩:=aL.out w2 aF.out;obtain⟨z,ez⟩:∃z,z=gcE P n t G:=⟨_,rfl⟩;rw[←ez];have HZ:=Zk ez;clear ez;by_cases hz:z=0
 case' neg=>
  have dz:(z !=0)=true:=by rw[bne_iff_ne];exact hz
  have HR:Hid (GdR P n t G width l [] [] z):=Zk (.inl ⟨by rw[←HZ.out];exact hz,HZ.out,rfl,rfl⟩);clear hz;go_wp2_with fail;refine bodyPost_ret (v:= .tuple #[.slice none 0 0,.slice none 0 0,.int .i64 z]) (by simp[results,Tryz.results40,go_sem]) rfl ?_;exact⟨[],[],z,_,_,rfl,aE.out,HR.out,SLE.nil _ _,SE.nil _ _⟩
 subst hz;have hV:=He HZ.out.symm;have b1:=hV.t1;have b2:=hV.n10;have b3:=hV.sum;have b4:=hV.G1;have b5:=hV.n2;clear hV;obtain⟨k1,aH⟩:∃k1:Int,k1=2*G+t-1:=⟨_,rfl⟩;have m1:IntKind.i64.wrap (2*G)=2*G:=by exact Zi _ (by omega)
 have m2:IntKind.i64.wrap (2*G+t)=2*G+t:=by exact Zi _ (by omega)
 have m3:IntKind.i64.wrap (2*G+t-1)=k1:=by rw[aH];exact Zi _ (by omega)
 have aK:=Zk aH;clear aH;go_wp2_with fail;(with_reducible refine (Pq P width n k1 l _ _ (HS.out.below aE.out) (by omega)).mono ?_)
 rintro e w3 ⟨rfl,aN⟩;have aO:Hid (Below w.heap.size w w3):=Zk (aE.out.trans (aN.mono aE.out.size));clear x0 x1 x2 x3 aN m1 m2 m3;obtain⟨y,ey⟩:∃y,y=ckE P width n k1 l:=⟨_,rfl⟩;rw[←ey];have HY:=Zk ey;clear ey;have hy:¬y=0:=fun h=>aP.out ⟨HZ.out.symm,by rw[←aK.out,←HY.out];exact h⟩
 have dy:(y !=0)=true:=by rw[bne_iff_ne];exact hy
 have HR:Hid (GdR P n t G width l [] [] y):=Zk (.inr ⟨HZ.out.symm,.inl (by
  have e1:((n.toNat:Nat):Int)=n:=Int.toNat_of_nonneg (by omega);have e2:((2*G.toNat+t.toNat-1:Nat):Int)=k1:=by rw[aK.out];omega
  rw[e1,e2,←HY.out];exact⟨hy,rfl,rfl,rfl⟩)⟩)
 clear hy;go_wp2_with fail;refine bodyPost_ret (v:= .tuple #[.slice none 0 0,.slice none 0 0,.int .i64 y]) (by simp[results,Tryz.results40,go_sem]) rfl ?_;exact⟨[],[],y,_,_,rfl,aO.out,HR.out,SLE.nil _ _,SE.nil _ _⟩
open Go.RowKit
theorem lit2(W:World)(a b:Int)(ha:At a)(hb:At b):
  SL (((W.alloc (.cells #[.int .i64 a] 3)).alloc (.cells #[.int .i64 b] 3)).alloc (.cells #[.slice (some ⟨W.heap.size,0,none⟩) 1 1,.slice (some ⟨W.heap.size+1,0,none⟩) 1 1] 22)) (.slice (some ⟨W.heap.size+2,0,none⟩) 2 2) [[a],[b]]:=by
 have al:∀(V:World) (o:Obj),Below V.heap.size V (V.alloc o):=fun V o=>(Zb _ V).alloc (Zl _) o
 have sz:∀(V:World) (o:Obj),(V.alloc o).heap.size=V.heap.size+1:=fun V o=>by simp
 obtain⟨w1,e1⟩:∃w1,w1=W.alloc (.cells #[.int .i64 a] 3):=⟨_,rfl⟩;obtain⟨w2,e2⟩:∃w2,w2=w1.alloc (.cells #[.int .i64 b] 3):=⟨_,rfl⟩;have s1:w1.heap.size=W.heap.size+1:=by rw[e1];exact sz _ _
 have s2:w2.heap.size=W.heap.size+2:=by rw[e2,sz,s1]
 have t1:SI w1 (.slice (some ⟨W.heap.size,0,none⟩) 1 1) [a]:=by rw[e1];exact lit1 W a ha
 have t2:SI w2 (.slice (some ⟨W.heap.size+1,0,none⟩) 1 1) [b]:=by rw[e2,←s1];exact lit1 w1 b hb
 have b2:Below w1.heap.size w1 w2:=by rw[e2];exact al _ _
 rw[←e1,←e2,←s2];have b3:=al w2 (.cells #[.slice (some ⟨W.heap.size,0,none⟩) 1 1,.slice (some ⟨W.heap.size+1,0,none⟩) 1 1] 22);have aA:=Zh w2 (.cells #[.slice (some ⟨W.heap.size,0,none⟩) 1 1,.slice (some ⟨W.heap.size+1,0,none⟩) 1 1] 22);refine⟨_,2,rfl,Zl _,by omega,fun _=>⟨w2.heap.size,0,rfl,by simp,fun j hj=> ?_⟩⟩
 have aB:j<2:=hj
 match j,aB with
 |0,_=>exact⟨_,1,Zc _ _ 0 _ _ _ aA,(t1.below b2).below b3⟩
 |1,_=>exact⟨_,1,Zc _ _ 1 _ _ _ aA,t2.below b3⟩
theorem Jw:SV 7 4 1 2:=⟨by kernel_rfl,by omega,by omega,by omega,by omega,by omega,by omega⟩
theorem Vz:gOut 2 1 [[3],[5]] 0=[[3],[5]]:=by kernel_rfl
theorem Ob:∀r∈([[3],[5]]:List (List Int)),r.length=1∧els 7 r=true:=by decide
def sA(j:Nat):List Int:=cmb 7 (Ds 7 0 [6] 1 2 j 1) (Ca 7 [[3],[5]] ((j:Int)+1) 1 2 1) 1
theorem To(j:Nat):(sA j).length=1:=Ep ..
def Sn1(w3:World)(v iv:Value)(wr:World):Prop:=
 ∃(k:Nat) (pv:Value) (xs:List (Bool×Value)),pv=v∧k≤4∧iv= .int .i64 ((k:Int)+1)∧xs.length=k∧LM w3.heap.size wr pv none xs ((List.range k).map fun j=>(true,sA j))∧Below w3.heap.size w3 wr
theorem zBm{rows:List (List Int)}{wr:List Int}{er:Int}(h:DgR 7 4 1 2 1 ((List.range 4).map fun j=>(true,sA j)) rows wr er):er=0∧rows=[[3],[5]]∧wr=[]:=by
 obtain⟨h1,h2,h3⟩:=Yt (P:=7) (n:=4) (t:=1) (G:=2) (w:=1) (ng:=1) (want:=0) (D:=[6]) (table:=[[3],[5]]) (bad:=[]) Jw.pr (by omega) (by omega) (by omega) (by omega) (by omega) (by simp) Ob (by omega) (by simp) (by have h:knL ((List.range 4).map fun j=>(true,sA j))=4:=rfl;omega) (fun j hj hk=>by
   have hj':j<4:=by simpa using hj
   simp only[List.getElem_map,List.getElem_range];exact⟨To j,Fc (by omega) ..⟩) (by simp[inc]) (fun x=>by
   constructor
   ·intro h;cases h
   ·rintro⟨j,hj,_,_,h⟩;exfalso;apply h;simp only[List.getElem_map,List.getElem_range];rfl) (by simp) h
 exact⟨h1,by rw[h2,Vz],h3⟩
theorem zBl(w:World)(hE:EW w):Calls Tryz.prog 10 #[] w fun e w'=>e= .returned (.bool true)∧Below w.heap.size w w':=by
 have HE:=Zk hE;clear hE;go_enter Tryz.func10,Tryz.ntmps10;obtain⟨F,eF⟩:∃F,F=w.heap.size:=⟨_,rfl⟩;obtain⟨wb,aG⟩:∃wb:World,wb=(w.alloc (.cells #[.int .i64 7] 31)).alloc (.cells #[.int .i64 4,.int .i64 1,.int .i64 2] 29):=⟨_,rfl⟩;have cE:wb.heap.size=F+2:=by rw[aG,eF];simp
 obtain⟨w1,ew⟩:∃w1:World,w1=((wb.alloc (.cells #[.int .i64 3] 3)).alloc (.cells #[.int .i64 5] 3)).alloc (.cells #[.slice (some ⟨F+2,0,none⟩) 1 1,.slice (some ⟨F+3,0,none⟩) 1 1] 22):=⟨_,rfl⟩;have cS:Hid (((((w.alloc (.cells #[.int .i64 7] 31)).alloc (.cells #[.int .i64 4,.int .i64 1,.int .i64 2] 29)).alloc (.cells #[.int .i64 3] 3)).alloc (.cells #[.int .i64 5] 3)).alloc (.cells #[.slice (some ⟨F+2,0,none⟩) 1 1,.slice (some ⟨F+3,0,none⟩) 1 1] 22)=w1):=Zk (by show _=_;rw[ew,aG]);have bD:Hid (Below w.heap.size w wb):=Zk (by rw[aG];exact ((Zb _ w).alloc (Zl _) _).alloc (by simp) _);have bH:Hid (wb.heap[F]? =some (.cells #[.int .i64 7] 31 (0,0))):=Zk (by show _=_;rw[aG,eF,Below.heap_alloc _ _ _ (by simp)];exact Zh w _);have bR:Hid (wb.heap[F+1]? =some (.cells #[.int .i64 4,.int .i64 1,.int .i64 2] 29 (0,0))):=Zk (by show _=_;rw[aG,eF];have:=Zh (w.alloc (.cells #[.int .i64 7] 31)) (.cells #[.int .i64 4,.int .i64 1,.int .i64 2] 29);simpa using this);have bO:Hid (SL w1 (.slice (some ⟨F+4,0,none⟩) 2 2) [[3],[5]]):=Zk (by
  have h:=lit2 wb 3 5 (zAf (by omega)) (zAf (by omega));rw[cE] at h;rw[ew];exact h)
 have aE:Hid (Below wb.heap.size wb w1):=Zk (by rw[ew];exact (((Zb _ wb).alloc (Zl _) _).alloc (by simp) _).alloc (by simp;omega) _);have aP:Hid (Below w.heap.size w w1):=Zk (bD.out.trans (aE.out.mono bD.out.size));have aV:Hid (w1.heap[F]? =some (.cells #[.int .i64 7] 31 (0,0))):=Zk ((aE.out.block F (Ae bH.out)).trans bH.out);have bQ:Hid (w1.heap[F+1]? =some (.cells #[.int .i64 4,.int .i64 1,.int .i64 2] 29 (0,0))):=Zk ((aE.out.block (F+1) (Ae bR.out)).trans bR.out);have HEF:=Zk eF;go_upto_region 4 with fail
 rw[←eF];rw[show F+1+1+1=F+3 from rfl,show F+1+1=F+2 from rfl];rw[cS.out];clear ew aG eF cE;have HC:Hid (∀W,Below w1.heap.size w1 W→W.cell? ⟨F,0,none⟩=some (.int .i64 7)∧W.cell? ⟨F+1,0,none⟩=some (.int .i64 4)∧W.cell? ⟨F+1,1,none⟩=some (.int .i64 1)∧W.cell? ⟨F+1,2,none⟩=some (.int .i64 2)):=Zk (fun W hb=>by
  have h1:=(hb.block F (Ae aV.out)).trans aV.out;have h2:=(hb.block (F+1) (Ae bQ.out)).trans bQ.out;exact⟨Zc W F 0 _ _ _ h1,Zc W (F+1) 0 _ _ _ h2,Zc W (F+1) 1 _ _ _ h2,Zc W (F+1) 2 _ _ _ h2⟩)
 have aW:Hid (F<w1.heap.size):=Zk (Ae aV.out);obtain⟨c0,c1,c2,c3⟩:=HC.out w1 (Zb _ _);have bF:Hid (Below w1.heap.size w1 (w1.alloc (.cells #[.int .i64 6] 3))):=Zk ((Zb _ w1).alloc (Zl _) _);have bM:Hid (Calls Tryz.prog 22 #[.agg #[.int .i64 7],.agg #[.int .i64 4,.int .i64 1,.int .i64 2],.int .i64 1,.int .i64 0,.agg #[.slice (some ⟨w1.heap.size,0,none⟩) 1 1,.int .i64 0]] (w1.alloc (.cells #[.int .i64 6] 3)) fun e w'=>∃Aq cq A2 c2,e= .returned (.tuple #[.slice Aq 4 cq,.agg #[.slice A2 1 c2,.int .i64 1],.int .i64 0])∧Below (w1.alloc (.cells #[.int .i64 6] 3)).heap.size (w1.alloc (.cells #[.int .i64 6] 3)) w'∧SLE F w' (.slice Aq 4 cq) (Db 7 0 [6] 1 2 4 1)∧SI w' (.slice A2 1 c2) [6]):=Zk (Qn 7 4 1 2 1 1 0 F [6] (.slice (some ⟨w1.heap.size,0,none⟩) 1 1) (w1.alloc (.cells #[.int .i64 6] 3)) Jw (by omega) (by omega) rfl rfl (by decide) (lit1 w1 6 (zAf (by omega))) (by have:=aW.out;simp;omega))
 go_wp2_with fail;(with_reducible refine bM.out.mono ?_)
 rintro e w2 ⟨Aq,cq,A2,k2,rfl,bU,cB,_⟩;have cQ:=Zk cB;have bA:Hid (Below w1.heap.size w1 w2):=Zk (bF.out.trans (bU.mono bF.out.size));clear bU cB c0 c1 c2 c3 bM;obtain⟨w3,aX⟩:∃w3:World,w3=w2.alloc (.cells #[.slice A2 1 k2,.int .i64 1] 45):=⟨_,rfl⟩;have cT:Hid (w2.alloc (.cells #[.slice A2 1 k2,.int .i64 1] 45)=w3):=aX.symm;have bB:Hid (Below w2.heap.size w2 w3):=Zk (by rw[aX];exact (Zb _ w2).alloc (Zl _) _);have aC:Hid (Below w1.heap.size w1 w3):=Zk (bA.out.trans (bB.out.mono bA.out.size));have cO:=Zk (cQ.out.below bB.out);go_upto_region 5 with fail
 rw[cT.out];clear aX;go_wp2_with fail;go_loopw [7,8] (fun v iv wr=>Sn1 w3 v iv wr) (fun _ iv _=>6- (intOf iv).toNat)
 case atStart=>exact⟨0,_,[],rfl,by omega,rfl,rfl,LM.nil ..,Zb _ _⟩
 case round=>
  obtain⟨k,pv,xs,rfl,hk,rfl,cD,bX,hb⟩:=hrel;have bL:=Zk bX;have HB:=Zk hb;have cU:=Zk cD;have hxl':xs.length≤4:=by omega
  have aA:Hid (Below w1.heap.size w1 wr):=Zk (aC.out.trans (hb.mono aC.out.size));have bI:Hid (F<wr.heap.size):=Zk (Nat.lt_of_lt_of_le aW.out aA.out.size);have bS:Hid (w3.heap.size≤wr.heap.size):=hb.size;obtain⟨c0,c1,c2,c3⟩:=HC.out wr aA.out;clear bX hb cD;by_cases hlk:k<4
  ·have dk:decide ((k:Int)+1≤4)=true:=Ze (by omega);have cX:k<(Db 7 0 [6] 1 2 4 1).length:=by rw[Dn];exact hlk
   obtain⟨bq,oq,cq',Hq,bT,_,cC⟩:=cO.out.view (by rw[Dn];omega);obtain⟨aR,aT,Bq,dq,aS⟩:=cC wr (Af HB.out _) k cX;have aO:(Db 7 0 [6] 1 2 4 1)[k]=Ds 7 0 [6] 1 2 k 1:=by simp[Db]
   rw[aO] at aT aS;rw[Hd] at aS;rw[aS] at aR aT;have cM:Hid (SI wr (.slice Bq 1 dq) (Ds 7 0 [6] 1 2 k 1)):=Zk (aT.si);have bK:Hid (Calls Tryz.prog 17 #[.agg #[.int .i64 7],.agg #[.int .i64 4,.int .i64 1,.int .i64 2],.int .i64 1,.slice (some ⟨F+3+1,0,none⟩) 2 2,.int .i64 ((k:Int)+1)] wr fun e w'=>∃A c,e= .returned (.tuple #[.slice A 1 c,.int .i64 0])∧Below wr.heap.size wr w'∧SLE F w' (.slice A 1 c) (Ca 7 [[3],[5]] ((k:Int)+1) 1 2 1)):=Zk (Ur 7 4 1 2 1 (k+1) F [[3],[5]] _ wr Jw (by omega) (by omega) (by simp) Ob (bO.out.below aA.out) bI.out)
   rw[Dn] at bT;injection bT with evq1 _ evq3;subst evq1 evq3;clear aT aO cC aS;go_wp2_with fail;(with_reducible refine bK.out.mono ?_)
   rintro e w4 ⟨Ah,ch,rfl,aN,cA⟩;have cP:=Zk cA;have aQ:=Zk aN;have aD:Hid (Below w1.heap.size w1 w4):=Zk (aA.out.trans (aN.mono aA.out.size));have aL:=(aN.cell (p:=⟨bq,oq+k,none⟩) (by have h:=World.block_lt_of_cell? wr _ aR;exact h)).trans aR;have cN:=Zk (cM.out.below aN);clear c0 c1 c2 c3 aR cA aN bK;obtain⟨c0,c1,c2,c3⟩:=HC.out w4 aD.out;have cG:Hid (∀W,Below w4.heap.size w4 W→Calls Tryz.prog 44 #[.agg #[.int .i64 7],.int .i64 1,.slice Ah 1 ch,.slice Bq 1 dq] W fun e w'=>∃A c,e= .returned (.tuple #[.slice A 1 c,.int .i64 0])∧Below W.heap.size W w'∧w'.ownsRow w4.heap.size 3 1 (.slice A 1 c) 1 ((sA k).map (Value.int .i64))):=Zk (fun W hb=>by
    have cW:coE 7 (Ds 7 0 [6] 1 2 k 1) (Ca 7 [[3],[5]] ((k:Int)+1) 1 2 1) (1:Nat)=0:=Pt Jw.pr (by omega) (by rw[Hd,Fx]) (Kc (by omega)) (Hc (by omega) ..);refine (Je 7 (Ds 7 0 [6] 1 2 k 1) (Ca 7 [[3],[5]] ((k:Int)+1) 1 2 1) (1:Nat) _ _ W (by unfold At;omega) (cN.out.below hb) (cP.out.below hb).sl).mono fun e w' ⟨v,h1,h2,_,h4⟩=> ?_
    rw[cW] at h1 h4;have h5:=h4 rfl;rw[Int.toNat_natCast] at h5;have h6:w'.ownsRow W.heap.size 3 1 v 1 ((sA k).map (Value.int .i64)):=by
     have e1:(cmb 7 (Ds 7 0 [6] 1 2 k 1) (Ca 7 [[3],[5]] ((k:Int)+1) 1 2 1) 1).length=1:=To k;rw[e1] at h5;exact h5
    obtain⟨A,c,e2⟩:=Dd h6;subst e2;exact⟨A,c,h1,h2,Cf h6 hb.size⟩)
   have cH:Hid (Below w4.heap.size w4 w4):=Zb _ _;have aU:Hid (Below w4.heap.size w4 w4.drew):=(Zb _ w4).drew;have k1:IntKind.i64.wrap ((k:Int)+1-1)=(k:Int):=by rw[show (k:Int)+1-1=(k:Int) by omega];exact Zi _ (by omega)
   have k2:IntKind.i64.wrap (k:Int)=(k:Int):=by exact Zi _ (by omega)
   have z4:(0:Int)≤(k:Int)+1-1:=by omega
   have z5:(k:Int)+1-1<(4:Int):=by omega
   have z6:((k:Int)+1-1).toNat=k:=by omega
   have z1:(0:Int)≤(k:Int):=by omega
   have z2:(k:Int)<(4:Int):=by omega
   have z3:(k:Int)<((4:Nat):Int):=by omega
   go_upto_region 10 with fail
   go_region_held3 (fun w'=>w'.cell? ⟨F,0,none⟩=some (.int .i64 7)∧w'.cell? ⟨bq,oq+k,none⟩=some (.slice Bq 1 dq)) (first|exact⟨c0,aL⟩|go_keep)
    (first|(go_at_call 44;refine (cG.out _ (by first|exact cH.out|exact aU.out)).mono ?_;rintro e9 w5 ⟨Aa,ca,rfl,aH,bY⟩;have aI:Hid (Below w4.heap.size w4 w5):=Zk (⟨aH.os,aH.tape,aH.output,aH.size,aH.block⟩);have cK:=Zk bY;obtain⟨c0,c1,c2,c3⟩:=HC.out w5 (aD.out.trans (aI.out.mono aD.out.size));have aL:=(aI.out.cell (p:=⟨bq,oq+k,none⟩) (by have h:=World.block_lt_of_cell? w4 _ aL;exact h)).trans aL;clear aH bY))
   all_goals
    have aK:Hid (w3.heap.size≤w4.heap.size):=Nat.le_trans bS.out aQ.out.size;have aJ:Hid (LM w3.heap.size w4 pv none xs ((List.range k).map fun j=>(true,sA j))):=Zk (bL.out.below aQ.out)
    have aF:Hid (LM w3.heap.size w5 pv none xs ((List.range k).map fun j=>(true,sA j))):=Zk (aJ.out.below aI.out)
    have cR:Hid (SY w3.heap.size w5 pv.ownBlock none (.slice Aa 1 ca) (sA k)):=Zk (SY.of_own (base:=w4.heap.size) (e:=3) (by rw[To];exact cK.out) (Ci (by omega) (Fc (by omega) ..)) aK.out (fun b hb=>(aJ.out.ans.lt b hb).2) (fun b hb=>by cases hb))
    have cZ:w3.heap.size≤w5.heap.size:=Nat.le_trans aK.out aI.out.size;clear c0 c1 c2 c3 aL;go_wp2_with (at_builtin;refine Dm _ rfl _ _ 59 rfl w3.heap.size 61 _ 2 32 Tryz.underlying59 Xj pv xs.length (xs.flatMap anc) rfl (aF.out.ans.alloc _) [.bool true,.slice Aa 1 ca] rfl (by intro u hu;simp at hu;rcases hu with rfl|rfl<;>rfl) w5.heap.size rfl (fun j u hu=>by have h:=Ba w5 [.bool true,.slice Aa 1 ca] 61 j u hu;rw[Jd] at h;exact h) (by omega) (by omega) rfl (by omega) (by simp;omega) ?_;intro ga ca' w6 aB bW aM;have cL:=Zk aB;have bJ:=Zk bW;have cF:=Zk aM;clear aB bW aM)
    have bC:Hid (Below w5.heap.size w5 (w5.alloc (.cells #[.bool true,.slice Aa 1 ca] 61))):=Zk ((Zb _ w5).alloc (Zl _) _);go_roundw
    case rel=>
     have hL:((List.range (k+1)).map fun j=>(true,sA j))=((List.range k).map fun j=>(true,sA j))++[(true,sA k)]:=by rw[List.range_succ,List.map_append];rfl
     refine⟨k+1,_,xs++[(true,.slice Aa 1 ca)],rfl,by omega,by go_num,by have:=cU.out;simp;omega,?_,?_⟩
     ·rw[hL];exact (aF.out.below bC.out).app (fun b hb=>by cases hb) (cR.out.below bC.out) cL.out bJ.out rfl (cF.out.imp id fun e=>Nat.le_of_eq e.symm)
     ·have cV:Below w3.heap.size w3 w5:=HB.out.trans ((aQ.out.trans (aI.out.mono aQ.out.size)).mono bS.out);exact (cV.alloc cZ _).grown bJ.out (by simp;omega) (fun b hb=>(aF.out.ans.lt b hb).1)
    case measure=>simp[intOf];omega
  ·have dk:decide ((k:Int)+1≤4)=false:=Zd (by omega);have cY:k=4:=by omega
   subst cY;have bN:Hid (SAE F wr pv ((List.range 4).map fun j=>(true,sA j))):=Zk (bL.out.sae (by have:=aW.out;have:=aC.out.size;omega))
   obtain⟨Al,cl,el⟩:=bN.out.form;rw[show ((List.range 4).map fun j=>(true,sA j)).length=4 from by simp] at el
   subst el;have cJ:Hid (EW wr):=HE.out.below (aP.out.trans (aA.out.mono aP.out.size));have bG:Hid (Calls Tryz.prog 40 #[.agg #[.int .i64 7],.agg #[.int .i64 4,.int .i64 1,.int .i64 2],.int .i64 1,.slice Al 4 cl] wr fun e w'=>∃v1 v2,e= .returned (.tuple #[v1,v2,.int .i64 0])∧Below wr.heap.size wr w'∧SLE F w' v1 [[3],[5]]∧SE F w' v2 []):=Zk ((Ks 7 4 1 2 1 F _ _ wr Jw bN.out.san (by simp) cJ.out bI.out (by omega)).mono fun e w' ⟨rows,wr',er,v1,v2,h1,h2,h3,h4,h5⟩=>by
    obtain⟨e1,e2,e3⟩:=zBm h3;subst e1 e2 e3;exact⟨v1,v2,h1,h2,h4,h5⟩)
   go_wp2_with fail;(with_reducible refine bG.out.mono ?_)
   rintro e w7 ⟨v1,v2,rfl,aY,aZ,bZ⟩;obtain⟨A7,c7,e7⟩:=aZ.form;subst e7;obtain⟨A8,c8,e8⟩:=bZ.form;subst e8;have bP:Hid (Calls Tryz.prog 18 #[.slice A7 2 c7,.slice (some ⟨F+3+1,0,none⟩) 2 2] w7 fun e w'=>e= .returned (.bool true)∧Below w7.heap.size w7 w'):=Zk ((Fa [[3],[5]] [[3],[5]] _ _ w7 aZ.sl ((bO.out.below aA.out).below aY)).mono fun e w' ⟨h1,h2⟩=>⟨h1.trans (by rw[Ze rfl]),h2⟩)
   have bE:Hid (Below w.heap.size w w7):=Zk (aP.out.trans ((aA.out.trans (aY.mono aA.out.size)).mono aP.out.size));rw[show ([[3],[5]]:List (List Int)).length=2 from rfl,show ([]:List Int).length=0 from rfl];clear aY aZ bZ c0 c1 c2 c3 bG;go_wp2_with fail;(with_reducible refine bP.out.mono ?_)
   rintro e w8 ⟨rfl,bV⟩;have cI:Hid (Below w.heap.size w w8):=Zk (bE.out.trans (bV.mono bE.out.size));clear bV bP;go_wp2_with fail;go_ret;exact⟨rfl,cI.out⟩
end Go.Proofs.YtoiabanpnkpbhaaGreatDoor
