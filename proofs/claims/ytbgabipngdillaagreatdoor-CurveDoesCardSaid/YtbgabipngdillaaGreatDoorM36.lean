/- Parts. -/
import Derived.Sort.LotD3
import Derived.Sort.AssemblyPlain
import Derived.Deep.CutBlock
import Derived.Shelf.SlSortCmp.Kit1
import Derived.Sort.WalkB3
import Derived.Sort.WalkC4
import Derived.Sort.WalkC
import Derived.Sort.WalkA6
import Derived.Deep.LoopGhost
import Derived.Sort.Walk7a
import Derived.Sort.LotD5
import Derived.Sort.LotD1
import Derived.Sort.LotD2
import Derived.Test.YtbgabipngdillaaGreatDoorM35
import Derived.Test.YtbgabipngdillaaGreatDoorM32
import Derived.Test.YtbgabipngdillaaGreatDoorM33
set_option linter.unusedVariables false
set_option linter.unusedSimpArgs false
namespace Go.Proofs.YtbgabipngdillaaGreatDoor
theorem zBh{P:Int}{l:List (Int×Bool)}(h:ceE P l=0):prB P=true∧l.length≤32∧(l.length:Int)<P∧∀t∈kn l,el P t.2=true:=by
 unfold ceE at h;split at h
 ·omega
 ·rename_i h1;split at h
  ·omega
  ·rename_i h2;split at h
   ·rename_i h3;exact⟨by simpa using h1,by omega,by omega,List.all_eq_true.1 h3⟩
   ·omega
theorem Wg{P:Int}{l:List (Int×Bool)}{k:Int}(h:fiE P l k=0∨fiE P l k=11):ceE P l=0:=by
 apply Classical.byContradiction;intro hc;rw[(Tn hc).1] at h;unfold ceE at h hc;split at h
 ·omega
 ·split at h
  ·omega
  ·split at h
   ·rename_i h3;simp_all
   ·omega
def bgE(P:Int)(l:List (Int×Bool))(k:Int):Int:=if ceE P l=0 then (if k<1∨(l.length:Int)<k then 1 else 0) else ceE P l
theorem zBv{P:Int}{l:List (Int×Bool)}{k:Int}(h:bgE P l k=0):ceE P l=0∧1≤k∧k≤l.length:=by
 unfold bgE at h;split at h
 ·rename_i h1;split at h
  ·omega
  ·exact⟨h1,by omega,by omega⟩
 ·contradiction
theorem fi_bg{P:Int}{l:List (Int×Bool)}{k:Int}(h:bgE P l k≠0):fiE P l k=bgE P l k∧fiE P l k≠0∧fiE P l k≠11:=by
 unfold bgE at h⊢;by_cases hc:ceE P l=0
 ·rw[if_pos hc] at h⊢;split at h
  ·rename_i h1;rw[if_pos h1,(Yk hc h1).1];omega
  ·contradiction
 ·rw[if_neg hc,(Tn hc).1];refine⟨rfl,hc,fun aA=>hc (Wg (k:=k) (.inr ?_))⟩
  rw[(Tn hc).1,aA]
open Go.RowKit Go.Shelf
set_option maxRecDepth 100000 in
set_option maxHeartbeats 4000000 in
theorem Lk(P:Int)(l:List (Int×Bool))(k:Int)(v:Value)(w:World)(hP:An P)(h:SCl w v l)(hz:l.length≤1000000):
  Calls Tryz.prog 98 #[.agg #[.int .i64 P],v,.int .i64 k] w fun e w'=>e= .returned (.int .i64 (bgE P l k))∧Below w.heap.size w w':=by
 obtain⟨A,c,rfl⟩:=h.form;have HS:=Zk h;clear h;obtain⟨n,en⟩:∃n,n=l.length:=⟨_,rfl⟩;have HN:=Zk en;rw[←en] at HS hz⊢;clear en;go_enter Tryz.func98,Tryz.ntmps98;obtain⟨F,eF⟩:∃F,F=w.heap.size:=⟨_,rfl⟩;obtain⟨w1,aD⟩:∃w1:World,w1=w.alloc (.cells #[.int .i64 P] 31):=⟨_,rfl⟩;have aF:Hid (w.alloc (.cells #[.int .i64 P] 31)=w1):=aD.symm;have aB:Hid (Below w.heap.size w w1):=Zk (by rw[aD];exact (Zb _ w).alloc (Zl _) _);have aA:Hid (w1.heap[F]? =some (.cells #[.int .i64 P] 31 (0,0))):=Zk (by show _=_;rw[aD,eF];exact Zh w _);have aH:Hid (∀W,Below w1.heap.size w1 W→W.cell? ⟨F,0,none⟩=some (.int .i64 P)):=Zk (fun W hg=>by
  have aI:=(hg.block F (Ae aA.out)).trans aA.out;exact (Zc W F 0 _ _ _ aI))
 go_upto_region 1 with fail
 rw[aF.out,←eF];clear aD eF;have x0:=aH.out w1 (Zb _ _);go_wp2_with fail;(with_reducible refine (Rj P l _ w1 hP (HS.out.below aB.out) (by rw[←HN.out];exact hz)).mono ?_)
 rintro e w2 ⟨rfl,aG⟩;have aC:Hid (Below w.heap.size w w2):=Zk (aB.out.trans (aG.mono aB.out.size));clear aG x0;by_cases hc:ceE P l=0
 case' neg=>
  have aE:(ceE P l !=0)=true:=by rw[bne_iff_ne];exact hc
  have HR:Hid (bgE P l k=ceE P l):=Zk (if_neg hc);clear hc;go_wp2_with fail;go_ret;exact⟨by rw[HR.out]<;>rfl,aC.out⟩
 have aE:(ceE P l !=0)=false:=by rw[bne_eq_false_iff_eq];exact hc
 by_cases h1:k<1
 ·have d1:decide (k<1)=true:=Ze h1;have HR:Hid (bgE P l k=1):=Zk (by show _=_;unfold bgE;rw[if_pos hc,if_pos (.inl h1)]);rw[hc];clear hc aE h1;go_wp2_with fail;go_ret;exact⟨by rw[HR.out]<;>rfl,aC.out⟩
 ·have d1:decide (k<1)=false:=Zd h1;by_cases h2:(n:Int)<k
  ·have d2:decide ((n:Int)<k)=true:=Ze h2;have HR:Hid (bgE P l k=1):=Zk (by show _=_;unfold bgE;rw[if_pos hc,if_pos (.inr (by rw[←HN.out];exact h2))]);rw[hc];clear hc aE h1 h2;go_wp2_with fail;go_ret;exact⟨by rw[HR.out]<;>rfl,aC.out⟩
  ·have d2:decide ((n:Int)<k)=false:=Zd h2;have HR:Hid (bgE P l k=0):=Zk (by show _=_;unfold bgE;rw[if_pos hc,if_neg (by rw[←HN.out];omega)]);rw[hc];clear hc aE h1 h2;go_wp2_with fail;go_ret;exact⟨by rw[HR.out]<;>rfl,aC.out⟩
theorem Ol{α:Type}(f:α→Bool)(qs:List α){i:Nat}(h:i<qs.length):(qs.take (i+1)).filter f=(qs.take i).filter f++if f qs[i]=true then [qs[i]] else []:=by
 rw[List.take_succ_eq_append_getElem h,List.filter_append];congr 1;by_cases hf:f qs[i]=true
 ·simp[hf]
 ·simp[hf]
open Go.RowKit Go.Shelf
theorem rv_ok{P x:Int}{p:List Int}(h:opE P [p]=0)(hx:0≤x∧x<P):rvV P x p=val P p x:=by
 have hp:=(zCj h).1;have h1:inB P [x]=true:=by
  unfold inB;rw[hp];simp[els,Ez hx]
 have h2:rvE P x p=0:=by unfold rvE;rw[h1];simpa using h
 exact if_pos h2
open Go.RowKit Go.Shelf
theorem SG.take{α:Type}{enc:α→List Int}{sz B n c:Nat}{A:Option Addr}{w:World}{l:List α}(h:SG enc sz B w (.slice A n c) l){m:Nat}(hm:m≤l.length):SG enc sz B w (.slice A m c) (l.take m):=by
 obtain⟨A',c',e,h1,h2,h3,h4⟩:=h;injection e with e1 e2 e3;subst e1 e3;have hl:(l.take m).length=m:=by rw[List.length_take];omega
 refine⟨A,c,by rw[hl],by omega,h2,fun x hx=>h3 x (List.mem_of_mem_take hx),fun h0=> ?_⟩
 obtain⟨b,aA,e,hb,hc⟩:=h4 (by omega);refine⟨b,aA,e,hb,fun j hj i hi=> ?_⟩
 rw[List.getElem_take];exact hc j (by omega) i hi
theorem SG.capB{α:Type}{enc:α→List Int}{sz B n c:Nat}{A:Option Addr}{w:World}{l:List α}(h:SG enc sz B w (.slice A n c) l):l.length≤c:=by
 obtain⟨A',c',e,h1,h2,h3,h4⟩:=h;injection e with e1 e2 e3;omega
set_option maxRecDepth 100000 in
set_option maxHeartbeats 4000000 in
theorem Up(P:Int)(l:List (Int×Bool))(k:Int)(v:Value)(w:World)(hP:An P)(h:SCl w v l)(hz:l.length≤1000000):
  Calls Tryz.prog 81 #[.agg #[.int .i64 P],v,.int .i64 k] w fun e w'=>∃v',e= .returned (.tuple #[v',.int .i64 (fiE P l k)])∧Below w.heap.size w w':=by
 obtain⟨A,c,rfl⟩:=h.form;have HS:=Zk h;clear h;obtain⟨n,en⟩:∃n,n=l.length:=⟨_,rfl⟩;have HN:=Zk en;have HZ:=Zk hz;rw[←en] at HS hz⊢;clear en;go_enter Tryz.func81,Tryz.ntmps81;obtain⟨F,eF⟩:∃F,F=w.heap.size:=⟨_,rfl⟩;obtain⟨w1,aH⟩:∃w1:World,w1=w.alloc (.cells #[.int .i64 P] 31):=⟨_,rfl⟩;have aK:Hid (w.alloc (.cells #[.int .i64 P] 31)=w1):=aH.symm;have aC:Hid (Below w.heap.size w w1):=Zk (by rw[aH];exact (Zb _ w).alloc (Zl _) _);have aD:Hid (w1.heap[F]? =some (.cells #[.int .i64 P] 31 (0,0))):=Zk (by show _=_;rw[aH,eF];exact Zh w _);have aL:Hid (∀W,Below w1.heap.size w1 W→W.cell? ⟨F,0,none⟩=some (.int .i64 P)):=Zk (fun W hg=>by
  have bA:=(hg.block F (Ae aD.out)).trans aD.out;exact (Zc W F 0 _ _ _ bA))
 go_upto_region 1 with fail
 rw[aK.out,←eF];clear aH eF;have x0:=aL.out w1 (Zb _ _);go_wp2_with fail;(with_reducible refine (Lk P l k _ w1 hP (HS.out.below aC.out) HZ.out).mono ?_)
 rintro e w2 ⟨rfl,aS⟩;have aG:Hid (Below w1.heap.size w1 w2):=Zk (aS);have aI:Hid (∀W,Below w1.heap.size w1 W→Below w.heap.size w W):=Zk (fun W hW=>aC.out.trans (hW.mono aC.out.size))
 clear aS x0;by_cases hc:bgE P l k=0
 case' neg=>
  have aU:(bgE P l k !=0)=true:=by rw[bne_iff_ne];exact hc
  have HR:Hid (fiE P l k=bgE P l k):=Zk ((fi_bg hc).1);clear hc;go_wp2_with fail;refine bodyPost_ret (v:= .tuple #[.slice none 0 0,.int .i64 (bgE P l k)]) (by simp[results,Tryz.results81,go_sem]) rfl ?_;rw[HR.out];exact⟨_,rfl,aI.out _ aG.out⟩
 have aU:(bgE P l k !=0)=false:=by rw[bne_eq_false_iff_eq];exact hc
 have aM:=zBv hc;have HC:Hid (bgE P l k=0):=hc;have hk1:1≤k∧k≤(n:Int):=by rw[HN.out];exact aM.2
 have aO:Hid (ceE P l=0):=aM.1;rw[hc];clear hc aU aM;have aY:Hid (SCl w2 (.slice A n c) l):=Zk ((HS.out.below aC.out).below aG.out);have aP:Hid ((kn l).length≤n):=Zk (by have h1:=Fs l 0;have h2:=HN.out;show (knF 0 l).length≤n;omega);have aV:∀t∈kn l,An t.1∧An t.2:=by
  obtain⟨A',c',e',hc',hm',bC,ha'⟩:=HS.out;exact Rg HZ.out bC
 have aR:=Zk aV;clear aV;go_wp2_with fail;(with_reducible refine (Fw l _ w2 aY.out HZ.out).mono ?_)
 rintro e w3 ⟨v3,rfl,aB,aT⟩;have aW:=Zk aT;have aJ:Hid (SG pcs 2 w3.heap.size w3 v3 (kn l)):=Zk (SG.of_own aB (fun t ht y hy=>by simp[pcs] at hy;rcases hy with rfl|rfl;exact (aR.out t ht).1;exact (aR.out t ht).2) (fun _ _=>rfl))
 obtain⟨A3,c3,aZ⟩:=Co aB;subst aZ;obtain⟨K,eK⟩:∃K,K=(kn l).length:=⟨_,rfl⟩;have HK:=Zk eK;rw[←eK] at aP aJ⊢;have hKn:=aP.out;have aA:Hid (Below w1.heap.size w1 w3):=Zk (aG.out.trans (aW.out.mono aG.out.size));clear aB aT eK;by_cases hfew:(K:Int)<k
 ·have d0:decide ((K:Int)<k)=true:=Ze hfew;have HR:Hid (fiE P l k=11):=Zk ((Vn aO.out (by have:=HN.out;omega) (by rw[←HK.out];exact hfew)).1);clear hfew;go_wp2_with fail;refine bodyPost_ret (v:= .tuple #[.slice none 0 0,.int .i64 11]) (by simp[results,Tryz.results81,go_sem]) rfl ?_;rw[HR.out];exact⟨_,rfl,aI.out _ aA.out⟩
 ·have d0:decide ((K:Int)<k)=false:=Zd hfew;obtain⟨kk,rfl⟩:∃kk:Nat,k=kk:=⟨k.toNat,by omega⟩;have bB:kk≤K:=by omega
  have d0n:decide (K<kk)=false:=Zd (by omega);have HR:Hid (fiE P l kk=inE P ((kn l).take kk)):=Zk ((zCv aO.out (by have:=HN.out;omega) (by rw[←HK.out];exact hfew)).1);have aQ:Hid (SG pcs 2 w3.heap.size w3 (.slice A3 kk c3) ((kn l).take kk)):=Zk (aJ.out.take (by rw[←HK.out];exact bB));have hc3:K≤c3:=by rw[HK.out];exact aJ.out.capB
  have x3:=aL.out w3 aA.out;have aX:Hid (((kn l).take kk).length≤1000000):=Zk (by show ((kn l).take kk).length≤_;rw[List.length_take];omega);have y1:(0:Int)≤(kk:Int):=by omega
  have y2:(kk:Int)≤(c3:Int):=by omega
  clear hfew;go_upto_region 7 with fail
  go_region_held3 (fun w'=>w'.cell? ⟨F,0,none⟩=some (.int .i64 P)) (first|exact x3|exact x4|go_keep)
   ((go_at_call 99;refine (Pf P ((kn l).take kk) _ _ hP (by first|exact aQ.out|exact aQ.out.below (Zb _ w3).drew) aX.out).mono ?_;rintro e w4 ⟨v4,rfl,aF,aE⟩;have aN:Hid (Below w3.heap.size w3 w4):=Zk (⟨aE.os,aE.tape,aE.output,aE.size,aE.block⟩);have x4:w4.cell? ⟨F,0,none⟩=some (.int .i64 P):=aL.out w4 (aA.out.trans (aN.out.mono aA.out.size));clear aF aE))
  go_wp2_with fail;refine bodyPost_ret (v:= .tuple #[v4,.int .i64 (inE P ((kn l).take kk))]) (by simp[results,Tryz.results81,go_sem]) rfl ?_;rw[HR.out];exact⟨_,rfl,aI.out _ (aA.out.trans (aN.out.mono aA.out.size))⟩
theorem Qu(n k:Nat)(w:World)(hk:1≤k)(hkn:k≤n)(hn:n≤32):
  Calls Tryz.prog 82 #[.int .i64 n,.int .i64 k] w fun e w'=>e= .returned (.tuple #[.int .i64 (((n-k)/2:Nat):Int),.int .i64 0])∧w=w':=by
 have d1:decide ((k:Int)<1)=false:=Zd (by omega);have d1n:decide (k<1)=false:=Zd (by omega);have d2:decide ((n:Int)<0)=false:=Zd (by omega);have d3:decide ((32:Int)<(n:Int))=false:=Zd (by omega);have d3n:decide (32<n)=false:=Zd (by omega);have d4:decide ((n:Int)<(k:Int))=false:=Zd (by omega);have d4n:decide (n<k)=false:=Zd (by omega);have u1:IntKind.i64.wrap ((n:Int)- (k:Int))=(n:Int)- (k:Int):=by exact Zi _ (by omega)
 have u2:((n:Int)- (k:Int)).tdiv 2=(((n-k)/2:Nat):Int):=by
  rw[Int.tdiv_eq_ediv_of_nonneg (by omega)];omega
 have u3:IntKind.i64.wrap ((((n-k)/2:Nat):Int))=(((n-k)/2:Nat):Int):=by exact Zi _ (by omega)
 obtain⟨e,ee⟩:∃e,e=(n-k)/2:=⟨_,rfl⟩;rw[←ee] at u2 u3⊢;clear ee;go_enter Tryz.func82,Tryz.ntmps82;go_wp2_with fail;refine bodyPost_ret (v:= .tuple #[.int .i64 e,.int .i64 0]) (by simp[results,Tryz.results82,go_sem]) rfl ?_;exact⟨rfl,rfl⟩
open Go.RowKit Go.Shelf
def wrK(P:Int)(l:List (Int×Bool))(p:List Int)(i:Nat):List Int:=(((kn l).take i).filter fun t=> !(val P p t.1==t.2)).map Prod.fst
theorem Vp(P:Int)(l:List (Int×Bool))(p:List Int){i:Nat}(h:i<(kn l).length):wrK P l p (i+1)=wrK P l p i++if (!(val P p (kn l)[i].1==(kn l)[i].2))=true then [(kn l)[i].1] else []:=by
 unfold wrK;rw[Ol (fun t=> !(val P p t.1==t.2)) (kn l) h,List.map_append]
 congr 1;split<;>rfl
theorem zBq(P:Int)(l:List (Int×Bool))(p:List Int)(i:Nat):(wrK P l p i).length≤i:=by
 unfold wrK;rw[List.length_map];refine Nat.le_trans (List.length_filter_le _ _) ?_;rw[List.length_take];omega
def RwrR(P:Int)(l:List (Int×Bool))(p:List Int)(w3:World)(iv pv:Value)(wr:World):Prop:=
 ∃i:Nat,i≤(kn l).length∧iv= .int .i64 i∧wr.ownsRow w3.heap.size 3 1 pv (wrK P l p i).length ((wrK P l p i).map (Value.int .i64))∧Below w3.heap.size w3 wr
set_option maxRecDepth 100000 in
set_option maxHeartbeats 8000000 in
theorem Rv(P:Int)(l:List (Int×Bool))(p:List Int)(v vp:Value)(w:World)(h:SCl w v l)(hc:ceE P l=0)(hp:SI w vp p)(hop:opE P [p]=0)(hpl:p.length≤1000000):
  Calls Tryz.prog 87 #[.agg #[.int .i64 P],v,vp] w fun e w'=>∃v',e= .returned v'∧w'.ownsRow w.heap.size 3 1 v' (wrg P l p).length ((wrg P l p).map (Value.int .i64))∧Below w.heap.size w w':=by
 obtain⟨i0,cG,cH,cI,cJ⟩:=info_parts Bf;have aQ:=Tq hc;have hP2:=Bd aQ.1;have cE:An P:=by unfold An;omega
 obtain⟨A,c,rfl⟩:=h.form;obtain⟨Ap,cp,rfl⟩:=hp.form;have HS:=Zk h;have bG:=Zk hp;have bU:=Zk hop;obtain⟨n,en⟩:∃n,n=l.length:=⟨_,rfl⟩;obtain⟨np,bK⟩:∃n,n=p.length:=⟨_,rfl⟩;have hl32:n≤32:=by rw[en];exact aQ.2.1
 have hlP:(n:Int)<P:=by rw[en];exact aQ.2.2.1
 have HZ:Hid (l.length≤1000000):=Zk (by show l.length≤1000000;omega);have bW:=Zk hpl;rw[←en] at HS⊢;rw[←bK] at bG⊢;have HN:=Zk en;have bP:∀t∈kn l,An t.1∧An t.2:=by
  obtain⟨A',c',e',hc',hm',cL,bB⟩:=h;exact Rg HZ.out cL
 have bH:=Zk bP;clear h hp hc hop hpl aQ en bK bP;go_enter Tryz.func87,Tryz.ntmps87;obtain⟨F,eF⟩:∃F,F=w.heap.size:=⟨_,rfl⟩;obtain⟨w1,aN⟩:∃w1:World,w1=w.alloc (.cells #[.int .i64 P] 31):=⟨_,rfl⟩;have aX:Hid (w.alloc (.cells #[.int .i64 P] 31)=w1):=aN.symm;have aH:Hid (Below w.heap.size w w1):=Zk (by rw[aN];exact (Zb _ w).alloc (Zl _) _);have aD:Hid (w1.heap[F]? =some (.cells #[.int .i64 P] 31 (0,0))):=Zk (by show _=_;rw[aN,eF];exact Zh w _);have bY:Hid (∀W,Below w1.heap.size w1 W→W.cell? ⟨F,0,none⟩=some (.int .i64 P)):=Zk (fun W hg=>by
  have cD:=(hg.block F (Ae aD.out)).trans aD.out;exact (Zc W F 0 _ _ _ cD))
 have aT:Hid (∀W,Below w1.heap.size w1 W→Below w.heap.size w W):=Zk (fun W hW=>aH.out.trans (hW.mono aH.out.size))
 go_upto_region 1 with fail
 rw[aX.out,←eF];clear aN eF;go_wp2_with fail;(with_reducible refine (Fw l _ w1 (HS.out.below aH.out) HZ.out).mono ?_)
 rintro e w3 ⟨v3,rfl,aB,bN⟩;have bE:Hid (SG pcs 2 w3.heap.size w3 v3 (kn l)):=Zk (SG.of_own aB (fun t ht y hy=>by simp[pcs] at hy;rcases hy with rfl|rfl;exact (bH.out t ht).1;exact (bH.out t ht).2) (fun _ _=>rfl))
 obtain⟨A3,c3,cB⟩:=Co aB;subst cB;have cK:=Fs l 0;obtain⟨K,eK⟩:∃K,K=(kn l).length:=⟨_,rfl⟩;have hK32:K≤32:=by rw[eK];have:=HN.out;unfold kn;omega
 have HK:=Zk eK;rw[←eK] at bE⊢;have aA:Hid (Below w1.heap.size w1 w3):=Zk (bN);clear aB bN cK eK;go_wp2_with fail;go_loopw [15,7] (fun iv pv wr=>RwrR P l p w3 iv pv wr) (fun iv _ _=>K- (intOf iv).toNat)
 case atStart=>exact⟨0,Nat.zero_le _,rfl,by simpa [wrK] using World.ownsRow_nil w3 w3.heap.size 3 1,Zb _ _⟩
 case round=>
  obtain⟨i,hi,rfl,aM,bC⟩:=hrel;have HO:=Zk aM;have aV:=Zk bC;have bQ:=bC.size;rw[←HK.out] at hi;clear aM bC;have cC:(wrK P l p i).length≤i:=zBq P l p i;by_cases hli:i<K
  ·have di:decide ((i:Int)<(K:Int))=true:=Ze (by omega);have bZ:decide (i<K)=true:=Ze hli;have bD:i<(kn l).length:=by rw[←HK.out];exact hli
   obtain⟨A',c',bJ,_,_,_,bB⟩:=Gz ((bE.out.below aV.out).more bQ);rw[←HK.out] at bJ;injection bJ with eA1 eA2 eA3;obtain⟨b,off,eA,cF,aF⟩:=bB (by omega);obtain⟨c0,c1⟩:=aF i bD;rw[←eA1] at eA;subst eA;have aL:=Ts (List.getElem_mem bD);have bF:=Zk (Vp P l p bD);obtain⟨xv,aZ⟩:∃xv,xv=(kn l)[i].1:=⟨_,rfl⟩;obtain⟨yv,bA⟩:∃yv,yv=(kn l)[i].2:=⟨_,rfl⟩;have aC:Hid (wrK P l p (i+1)=wrK P l p i++if (!(val P p xv==yv))=true then [xv] else []):=Zk (by show _=_;rw[bF.out,aZ,bA]);rw[←aZ] at c0 aL;rw[←bA] at c1;have hx1:1≤xv∧xv<P:=by have:=HN.out;omega
   have cM:An xv:=by unfold An;omega
   have bX:Hid (rvV P xv p=val P p xv):=Zk (rv_ok bU.out (by omega));obtain⟨D,hD⟩:∃D,wrK P l p i=D:=⟨_,rfl⟩;rw[hD] at HO aC cC;clear aF aZ bA hD bB eA1 eA2 eA3 cF bF aL;obtain⟨X,eX⟩:∃X,X=wr.heap.size:=⟨_,rfl⟩;obtain⟨wx,aO⟩:∃wx:World,wx=wr.alloc (.cells #[.int .i64 xv,.int .i64 yv] 91):=⟨_,rfl⟩;have aY:Hid (wr.alloc (.cells #[.int .i64 xv,.int .i64 yv] 91)=wx):=aO.symm;have aJ:Hid (Below wr.heap.size wr wx):=Zk (by rw[aO];exact (Zb _ wr).alloc (Zl _) _);have aE:Hid (wx.heap[X]? =some (.cells #[.int .i64 xv,.int .i64 yv] 91 (0,0))):=Zk (by show _=_;rw[aO,eX];exact Zh wr _);have bI:Hid (∀W,Below wx.heap.size wx W→W.cell? ⟨X,0,none⟩=some (.int .i64 xv)∧W.cell? ⟨X,1,none⟩=some (.int .i64 yv)):=Zk (fun W hg=>by
    have bM:=(hg.block X (Ae aE.out)).trans aE.out;exact⟨Zc W X 0 _ _ _ bM,Zc W X 1 _ _ _ bM⟩)
   have aU:Hid (Below w3.heap.size w3 wx):=Zk (aV.out.trans (aJ.out.mono bQ));have bV:Hid (wx.ownsRow w3.heap.size 3 1 u7 D.length (D.map (Value.int .i64))):=Zk (Ea HO.out aJ.out);have cO:w3.heap.size≤wx.heap.size:=aU.out.size;have aK:Hid (Below w1.heap.size w1 wx):=Zk (aA.out.trans (aU.out.mono aA.out.size));go_upto_region 5 with fail
   rw[aY.out,←eX];clear aO eX;obtain⟨y0,y1⟩:=bI.out wx (Zb _ _);have f0:=bY.out wx aK.out;clear c0 c1;go_wp2_with fail;(with_reducible refine (Gb P xv p _ wx cE cM (bG.out.below (aT.out _ aK.out)) bW.out).mono ?_)
   rintro e w6 ⟨rfl,aP⟩;rw[bX.out];have aS:Hid (Below wx.heap.size wx w6):=Zk (aP);have aR:Hid (Below w3.heap.size w3 w6):=Zk (aU.out.trans (aP.mono cO));have cN:w3.heap.size≤w6.heap.size:=aR.out.size;have aW:Hid (w6.ownsRow w3.heap.size 3 1 u7 D.length (D.map (Value.int .i64))):=Zk (Ea bV.out aP);clear y0 y1 f0 aP;obtain⟨y0,y1⟩:=bI.out w6 aS.out;obtain⟨yy,bL⟩:∃yy,yy=val P p xv:=⟨_,rfl⟩;rw[←bL] at aC⊢;clear bL;by_cases hyy:yy=yv
   ·have cA:(yy !=yv)=false:=by rw[bne_eq_false_iff_eq];exact hyy
    have aI:Hid (wrK P l p (i+1)=D):=Zk (by show _=_;have h:=aC.out;simpa [hyy] using h);clear hyy;go_wp2_with fail;go_roundw
    case rel=>exact⟨i+1,by rw[←HK.out];omega,by go_num,by rw[aI.out];exact aW.out,aR.out⟩
    case measure=>simp[intOf];omega
   ·have cA:(yy !=yv)=true:=by rw[bne_iff_ne];exact hyy
    have aI:Hid (wrK P l p (i+1)=D++[xv]):=Zk (by show _=_;have h:=aC.out;simpa [hyy] using h);clear hyy;go_wp2_with (at_builtin;refine wpList_append_own _ rfl _ _ 22 rfl w3.heap.size 3 i0 (.int .i64 0) 1 8 Tryz.underlying22 cG cH cI cJ rfl (by omega) _ _ _ rfl (aW.out.alloc _) ⟨w6.heap.size,0,none⟩ 1 1 [.int .i64 xv] rfl rfl (Ax w6 _ _) (by intro u hu;simp at hu;subst hu;rfl) (by unfold maxLen;omega) (by omega) (by simp;omega) ?_;intro v9 w9 aG bO _;have bT:=Zk aG;have bS:=Zk bO;clear aG bO);go_roundw
    case rel=>
     refine⟨i+1,by rw[←HK.out];omega,by go_num,?_,?_⟩
     ·rw[aI.out];simpa using bT.out
     ·exact (aR.out.alloc cN _).grown bS.out (by simp;omega) (fun k hk=>(aW.out.lt k hk).1)
    case measure=>simp[intOf];omega
  ·have di:decide ((i:Int)<(K:Int))=false:=Zd (by omega);have bZ:decide (i<K)=false:=Zd hli;have bR:Hid (wrg P l p=wrK P l p i):=Zk (by show _=_;unfold wrK;rw[show i=(kn l).length by rw[←HK.out];omega,List.take_length];rfl);go_wp2_with fail;go_ret;rw[bR.out];exact⟨_,rfl,Kx HO.out (aT.out _ aA.out).size,aT.out _ (aA.out.trans (aV.out.mono aA.out.size))⟩
end Go.Proofs.YtbgabipngdillaaGreatDoor
