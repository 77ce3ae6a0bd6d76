/- Parts. -/
import Derived.Test.YtoiabanpnkpbhaaGreatDoorM36
import Derived.Test.YtoiabanpnkpbhaaGreatDoorM40
set_option linter.unusedVariables false
set_option linter.unusedSimpArgs false
set_option maxRecDepth 100000
set_option maxHeartbeats 8000000
namespace Go.Proofs.YtoiabanpnkpbhaaGreatDoor
open Go.RowKit
theorem SLE.nil(g:Nat)(w:World):SLE g w (.slice none 0 0) []:=⟨none,0,rfl,Zl _,by omega,fun h=>by simp at h⟩
theorem SE.nil(g:Nat)(w:World):SE g w (.slice none 0 0) []:=⟨none,0,rfl,Zl _,by omega,fun x h=>by simp at h,fun h=>by simp at h⟩
theorem SL.i64{w:World}{v:Value}{ps:List (List Int)}(h:SL w v ps):∀p∈ps,∀x∈p,At x:=fun p hp x hx=>by
 obtain⟨A,c,_,_,_,ha⟩:=h;obtain⟨j,hj,rfl⟩:=List.mem_iff_getElem.1 hp;obtain⟨b,off,_,_,hc⟩:=ha (by omega);obtain⟨B,d,_,hs⟩:=hc j hj;obtain⟨_,_,_,_,_,hr,_⟩:=hs;exact hr x hx
theorem zFb{P k:Int}{l:List (Int×Bool)}{out:List Int}{er:Int}(h:UnR P l k out er)(hk:k≤1000):out.length≤1000:=by
 rcases h with⟨_,_,rfl⟩|⟨_,⟨_,hg⟩|⟨_,rfl,_⟩⟩
 ·simp
 ·have:=hg.len;omega
 ·simp
theorem Ks(P:Int)(n t G wd g:Nat)(l:List (Bool×List Int))(v:Value)(w:World)(hV:SV P n t G)(h:SAn w v l)(hz:l.length≤1000000)(hE:EW w)(hg:g<w.heap.size)(hwd:wd≤1000):
  Calls Tryz.prog 40 #[.agg #[.int .i64 P],.agg #[.int .i64 n,.int .i64 t,.int .i64 G],.int .i64 wd,v] w fun e w'=>∃rows wr er v1 v2,e= .returned (.tuple #[v1,v2,.int .i64 er])∧Below w.heap.size w w'∧DgR P n t G wd l rows wr er∧SLE g w' v1 rows∧SE g w' v2 wr:=by
 have HV:=Zk hV;have hPb:=hV.pb;have hn:=hV.n10;have ht1:=hV.t1;have hG1:=hV.G1;have hsum:=hV.sum;have HE:=Zk hE;have HS:=Zk h;obtain⟨A,c,rfl⟩:=h.form;obtain⟨k1,bK⟩:∃k1:Nat,k1=2*G+t-1:=⟨_,rfl⟩;have m1:IntKind.i64.wrap (2*(G:Int))=2*(G:Int):=by exact Zi _ (by omega)
 have m2:IntKind.i64.wrap (2*(G:Int)+(t:Int))=2*(G:Int)+(t:Int):=by exact Zi _ (by omega)
 have m3:IntKind.i64.wrap (2*(G:Int)+(t:Int)-1)=(k1:Int):=by rw[Zi _ (by omega)];omega
 have hk1:1≤k1∧k1≤10:=by omega
 have aZ:Hid (∀rows wr er,((ckE P wd n (k1:Int) l≠0∧er=ckE P wd n (k1:Int) l∧rows=[]∧wr=[])∨(ckE P wd n (k1:Int) l=0∧((AlN P (k1:Int) l wd∧er=12∧rows=[]∧wr=[])∨(∃ps,AlR P (k1:Int) l wd ps wr∧rows=((List.range G).map fun i=>ps.map fun p=>gd p i)∧er=0))))→DgR P n t G wd l rows wr er):=Zk (fun rows wr er h=>by
  unfold DgR;rw[Int.toNat_natCast,←bK];exact h)
 clear h hE hV bK;go_enter Tryz.func40,Tryz.ntmps40;obtain⟨F,eF⟩:∃F,F=w.heap.size:=⟨_,rfl⟩;obtain⟨wa,ew⟩:∃wa:World,wa=(w.alloc (.cells #[.int .i64 P] 31)).alloc (.cells #[.int .i64 n,.int .i64 t,.int .i64 G] 29):=⟨_,rfl⟩;have bY:Hid ((w.alloc (.cells #[.int .i64 P] 31)).alloc (.cells #[.int .i64 n,.int .i64 t,.int .i64 G] 29)=wa):=ew.symm;have bH:Hid (Below w.heap.size w wa):=Zk (by rw[ew];exact ((Zb _ w).alloc (Zl _) _).alloc (by simp) _);have HF:Hid (wa.heap[F]? =some (.cells #[.int .i64 P] 31 (0,0))):=Zk (by show _=_;rw[ew,eF,Below.heap_alloc _ _ _ (by simp)];exact Zh w _);have HT:Hid (wa.heap[F+1]? =some (.cells #[.int .i64 n,.int .i64 t,.int .i64 G] 29 (0,0))):=Zk (by show _=_;rw[ew,eF];have:=Zh (w.alloc (.cells #[.int .i64 P] 31)) (.cells #[.int .i64 n,.int .i64 t,.int .i64 G] 29);simpa using this);have HEF:=Zk eF;go_upto_region 1 with fail
 rw[bY.out,←eF];clear ew eF;have HC:Hid (∀W,Below wa.heap.size wa W→W.cell? ⟨F,0,none⟩=some (.int .i64 P)∧W.cell? ⟨F+1,0,none⟩=some (.int .i64 n)∧W.cell? ⟨F+1,1,none⟩=some (.int .i64 t)∧W.cell? ⟨F+1,2,none⟩=some (.int .i64 G)):=Zk (fun W hb=>by
  have h1:=(hb.block F (Ae HF.out)).trans HF.out;have h2:=(hb.block (F+1) (Ae HT.out)).trans HT.out;exact⟨Zc W F 0 _ _ _ h1,Zc W (F+1) 0 _ _ _ h2,Zc W (F+1) 1 _ _ _ h2,Zc W (F+1) 2 _ _ _ h2⟩)
 obtain⟨aD,aE,aF,aG⟩:=HC.out wa (Zb _ _);go_wp2_with fail;(with_reducible refine (Nr P n t G _ HV.out).mono ?_)
 rintro e w1 ⟨rfl,bE⟩;have aW:Hid (Below w.heap.size w w1):=bH.out.trans (bE.mono bH.out.size);have aR:=Zk bE;have bI:=Zk (HS.out.below aW.out);clear aD aE aF aG bE;obtain⟨aD,aE,aF,aG⟩:=HC.out w1 aR.out;go_wp2_with fail;(with_reducible refine (Kq P wd n k1 l _ _ bI.out hz).mono ?_)
 rintro e w2 ⟨rfl,aO⟩;have aC:Hid (Below w.heap.size w w2):=aW.out.trans (aO.mono aW.out.size);have aT:Hid (Below wa.heap.size wa w2):=aR.out.trans (aO.mono aR.out.size);have bU:=Zk (bI.out.below aO);clear aD aE aF aG aO;obtain⟨aD,aE,aF,aG⟩:=HC.out w2 aT.out;by_cases hk:ckE P wd n k1 l=0
 ·have HK:=Zk hk;obtain⟨_,w64,hln,aM,_,_⟩:=Sa hk;rw[hk];have bP:Hid (∀a∈l,a.1=true→wd≤a.2.length):=Zk (fun a ha h1=>by have:=zHz aM a ha h1;omega)
  have bG:l.length≤400:=by omega
  have aL:wd≤2000:=by omega
  obtain⟨C,eC⟩:∃C,C=w2.heap.size:=⟨_,rfl⟩;obtain⟨w3,aN⟩:∃w3:World,w3=w2.alloc (.cells #[.int .i64 P,.int .i64 k1,.slice A l.length c] 105):=⟨_,rfl⟩;have bX:Hid (w2.alloc (.cells #[.int .i64 P,.int .i64 k1,.slice A l.length c] 105)=w3):=aN.symm;have aX:Hid (w3.heap[C]? =some (.cells #[.int .i64 P,.int .i64 k1,.slice A l.length c] 105 (0,0))):=Zk (by show _=_;rw[aN,eC];exact Zh w2 _);have aU:Hid (Below w2.heap.size w2 w3):=Zk (by rw[aN];exact (Zb _ w2).alloc (Zl _) _);have aA:Hid (Below w.heap.size w w3):=aC.out.trans (aU.out.mono aC.out.size);have aI:Hid (Below wa.heap.size wa w3):=aT.out.trans (aU.out.mono aT.out.size);have bV:=Zk (bU.out.below aU.out);have bQ:Hid (EW w3):=HE.out.below aA.out;have HEC:=Zk eC;clear hk aM;go_upto_region 9 with fail
  rw[bX.out,←eC];clear aN eC aD aE aF aG m1 m2 m3;have c0:w3.cell? ⟨C,0,none⟩=some (.int .i64 P):=Zc w3 C 0 _ _ _ aX.out;have c1:w3.cell? ⟨C,1,none⟩=some (.int .i64 k1):=Zc w3 C 1 _ _ _ aX.out;have c2:w3.cell? ⟨C,2,none⟩=some (.slice A l.length c):=Zc w3 C 2 _ _ _ aX.out;go_wp2_with fail;(with_reducible refine (Xn P k1 l wd _ _ (by unfold At;omega) bV.out bG aL bP.out bQ.out).mono ?_)
  rintro e9 w9 ⟨pv,wv,er,rfl,aP,bM⟩;have HB9:=Zk aP;have aY:=Zk bM;have aB:Hid (Below w.heap.size w w9):=aA.out.trans (aP.mono aA.out.size);have aV:Hid (Below wa.heap.size wa w9):=aI.out.trans (aP.mono aI.out.size);clear aP bM c0 c1 c2;rcases aY.out with⟨rfl,ps,ws,aK,bC,bD⟩|⟨rfl,rfl,rfl,hN⟩
  ·have bF:g<w9.heap.size:=Nat.lt_of_lt_of_le hg aB.out.size;have bA:=Zk bC;obtain⟨Ap,cp,bZ⟩:∃A c,pv= .slice A ps.length c:=by obtain⟨A,c,e,_⟩:=bC;exact⟨A,c,e⟩
   subst bZ;obtain⟨Aw,cw,cA⟩:=Dd bD;subst cA;have bO:=Zk aK;have bJ:Hid (SE g w9 (.slice Aw ws.length cw) ws):=Zk (SE.of_own bD (fun x hx=>by have:=Xf aK x hx;unfold At;omega) (Nat.lt_of_lt_of_le hg aA.out.size))
   have bT:Hid (∀p∈ps,p.length≤1000000):=Zk (fun p hp=>by
    obtain⟨q,hq,rfl⟩:=List.mem_iff_getElem.1 hp;exact Nat.le_trans (zFb (aK.2.1 q hq) (by omega)) (by omega))
   have cB:ps.length≤10000:=by have:=aK.1;omega
   clear aK bC bD aY;obtain⟨lp,bB⟩:∃l,l=ps.length:=⟨_,rfl⟩;obtain⟨lw,bL⟩:∃l,l=ws.length:=⟨_,rfl⟩;rw[←bB] at bA⊢;rw[←bL] at bJ⊢;have HELP:=Zk bB;clear bB bL;obtain⟨aD,aE,aF,aG⟩:=HC.out w9 aV.out;go_wp2_with fail;(with_reducible refine (Wh ps G g _ w9 bF bA.out (by omega) cB bA.out.i64 bT.out).mono ?_)
   rintro e cC ⟨Ar,cr,rfl,aH,bN⟩;have bW:=Zk bN;have aS:Hid (Below w.heap.size w cC):=aB.out.trans (aH.mono aB.out.size);have aJ:=Zk (bJ.out.grown (Af aH _));clear aH bN aD aE aF aG;go_wp2_with fail;refine bodyPost_ret (v:= .tuple #[.slice Ar G cr,.slice Aw lw cw,.int .i64 0]) (by simp[results,Tryz.results40,go_sem]) rfl ⟨_,ws,0,_,_,rfl,aS.out,aZ.out _ _ _ (.inr ⟨HK.out,.inr ⟨ps,bO.out,rfl,rfl⟩⟩),bW.out,aJ.out⟩
  ·have bS:=Zk hN;clear hN aY;go_wp2_with fail;refine bodyPost_ret (v:= .tuple #[.slice none 0 0,.slice none 0 0,.int .i64 12]) (by simp[results,Tryz.results40,go_sem]) rfl ⟨[],[],12,_,_,rfl,aB.out,aZ.out _ _ _ (.inr ⟨HK.out,.inl ⟨bS.out,rfl,rfl,rfl⟩⟩),SLE.nil ..,SE.nil ..⟩
 ·have HK:=Zk hk;obtain⟨er,aQ⟩:∃er,ckE P wd n k1 l=er:=⟨_,rfl⟩;rw[aQ];have d0:(er !=0)=true:=by rw[bne_iff_ne,←aQ];exact hk
  have bR:=Zk aQ;clear aQ hk;go_wp2_with fail;refine bodyPost_ret (v:= .tuple #[.slice none 0 0,.slice none 0 0,.int .i64 er]) (by simp[results,Tryz.results40,go_sem]) rfl ⟨[],[],er,_,_,rfl,aC.out,aZ.out _ _ _ (.inl ⟨HK.out,bR.out.symm,rfl,rfl⟩),SLE.nil ..,SE.nil ..⟩
end Go.Proofs.YtoiabanpnkpbhaaGreatDoor
