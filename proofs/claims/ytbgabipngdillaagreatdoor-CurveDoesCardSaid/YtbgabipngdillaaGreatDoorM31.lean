/- Parts. -/
import Derived.Test.YtbgabipngdillaaGreatDoorM29
import Derived.Test.YtbgabipngdillaaGreatDoorM30
set_option linter.unusedVariables false
set_option linter.unusedSimpArgs false
namespace Go.Proofs.YtbgabipngdillaaGreatDoor
open Go.RowKit
open Go.RowKit
open Go.RowKit
def SLE(g:Nat)(w:World)(v:Value)(rows:List (List Int)):Prop:=
 ∃A c,v= .slice A rows.length c∧rows.length≤c∧c≤9223372036854775807∧
  (0<rows.length→∃b off,A=some ⟨b,off,none⟩∧b<w.heap.size∧b≠g∧∀j (h:j<rows.length),∃B d,w.cell? ⟨b,off+j,none⟩=some (.slice B rows[j].length d)∧SE g w (.slice B rows[j].length d) rows[j])
theorem SLE.grown{g:Nat}{w w':World}{v:Value}{rows:List (List Int)}(h:SLE g w v rows)(hg:w.grownBy w' (some g)):SLE g w' v rows:=by
 obtain⟨A,c,rfl,hc,hm,ha⟩:=h;refine⟨A,c,rfl,hc,hm,fun h0=> ?_⟩
 obtain⟨b,aC,rfl,hb,aB,aA⟩:=ha h0;refine⟨b,aC,rfl,by have:=hg.size;omega,aB,fun j hj=> ?_⟩
 obtain⟨B,d,h1,h2⟩:=aA j hj;exact⟨B,d,(World.cell?_of_block (hg.block b hb (by simp;exact aB))).trans h1,h2.grown hg⟩
theorem SLE.below{g:Nat}{w w':World}{v:Value}{rows:List (List Int)}(h:SLE g w v rows)(hb:Below w.heap.size w w'):SLE g w' v rows:=h.grown (Ag hb _)
theorem SLE.sl{g:Nat}{w:World}{v:Value}{rows:List (List Int)}(h:SLE g w v rows):SL w v rows:=by
 obtain⟨A,c,rfl,hc,hm,ha⟩:=h;refine⟨A,c,rfl,hc,hm,fun h0=> ?_⟩
 obtain⟨b,aB,rfl,hb,hbg,aA⟩:=ha h0;refine⟨b,aB,rfl,hb,fun j hj=> ?_⟩
 obtain⟨B,d,h1,h2⟩:=aA j hj;exact⟨B,d,h1,h2.si⟩
theorem SLE.form{g:Nat}{w:World}{v:Value}{rows:List (List Int)}(h:SLE g w v rows):∃A c,v= .slice A rows.length c:=by
 obtain⟨A,c,rfl,_⟩:=h;exact⟨A,c,rfl⟩
theorem SX.se{W:World}{X:Option Nat}{g:Nat}{v:Value}{l:List Int}(h:SX W X (some g) v l):SE g W v l:=by
 obtain⟨A,c,rfl,hc,hm,hr,ha⟩:=h;refine⟨A,c,rfl,hc,hm,hr,fun h0=> ?_⟩
 obtain⟨b,aC,rfl,aB,_,hy,aA⟩:=ha h0;exact⟨b,aC,rfl,aB,fun e=>hy (by rw[e]),aA⟩
theorem QRv.sle{B g:Nat}{w:World}{v:Value}{rows:List (List Int)}(h:QRv B w v rows)(hg:g<B):SLE g w v rows:=by
 obtain⟨G,vs,hB,rfl,hq,hr,hm⟩:=h;refine⟨_,rows.length,rfl,Zl _,by omega,fun h0=>⟨G,0,rfl,hq.lt,by omega,fun j hj=> ?_⟩⟩
 have aA:j<vs.length:=by rw[hq.len];exact hj
 have h1:=hq.cell aA;have h2:=hq.own j aA hj;have h3:=SE.of_own (g:=g) h2 (hr _ (List.getElem_mem hj)) (by omega);obtain⟨B',d,e⟩:=h3.form;rw[e] at h1 h3;exact⟨B',d,by rw[Nat.zero_add];exact h1,h3⟩
structure RW (G g:Nat) (W:World) (pv:Value) (vs:List Value) (ps:List (List Int)):Prop where
 len:vs.length=ps.length
 hdr:W.ownsRow G 22 1 pv vs.length vs
 row:∀j (h:j<vs.length) (h':j<ps.length),SX W pv.ownBlock (some g) vs[j] ps[j]
theorem RW.nil(W:World)(G g:Nat):RW G g W (.slice none 0 0) [] []:=⟨rfl,World.ownsRow_nil _ _ _ _,fun j h=>by simp at h⟩
theorem RW.grown{G g:Nat}{W W':World}{pv:Value}{vs:List Value}{ps:List (List Int)}(h:RW G g W pv vs ps)(hgG:g<G)(hg:W.grownBy W' (some g)):RW G g W' pv vs ps:=
 ⟨h.len,Cb h.hdr fun b hb=>hg.block b (h.hdr.lt b hb).2 (by have:=(h.hdr.lt b hb).1;simp;omega),fun j h1 h2=>(h.row j h1 h2).keep hg.size fun b aA hx hy=>⟨hg.block b aA hy,hx,hy⟩⟩
theorem RW.below{G g:Nat}{W W':World}{pv:Value}{vs:List Value}{ps:List (List Int)}(h:RW G g W pv vs ps)(hgG:g<G)(hb:Below W.heap.size W W'):RW G g W' pv vs ps:=h.grown hgG (Ag hb _)
theorem RW.app{G g:Nat}{W W':World}{pv pv':Value}{vs:List Value}{ps:List (List Int)}{v:Value}{l:List Int}(h:RW G g W pv vs ps)
  (hx:SX W pv.ownBlock (some g) v l) (ho:W'.ownsRow G 22 1 pv' (vs.length+1) (vs++[v])) (hg:W.grownBy W' pv.ownBlock) (hat:∀q,pv'.ownBlock=some q→pv.ownBlock=some q∨q=W.heap.size):RW G g W' pv' (vs++[v]) (ps++[l]):=by
 have hk:∀b,b<W.heap.size→some b≠pv.ownBlock→some b≠some g→W'.heap[b]? =W.heap[b]? ∧some b≠pv'.ownBlock∧some b≠some g:=fun b hb h1 h2=>
  ⟨hg.block b hb h1,fun e=>by rcases hat b e.symm with h3|h3;exact h1 h3.symm;omega,h2⟩
 refine⟨by simp[h.len],by simpa using ho,fun j h1 h2=> ?_⟩
 by_cases hj:j<vs.length
 ·have aA:j<ps.length:=by rw[←h.len];exact hj
  simp only[List.getElem_append_left hj,List.getElem_append_left aA];exact (h.row j hj aA).keep hg.size hk
 ·have aB:j=vs.length:=by simp at h1;omega
  have hj2:j=ps.length:=by rw[←h.len];exact aB
  subst aB;have e1:(vs++[v])[vs.length]'h1=v:=by simp
  have e2:(ps++[l])[vs.length]'h2=l:=by simp[h.len]
  rw[e1,e2];exact hx.keep hg.size hk
theorem RW.sle{G g:Nat}{W:World}{pv:Value}{vs:List Value}{ps:List (List Int)}(h:RW G g W pv vs ps)(hgG:g<G):SLE g W pv ps:=by
 rcases h.hdr.2 with⟨rfl,hn⟩|⟨b,aB,cur,rfl,hb,aD,aE,aC,hcs,htake⟩
 ·have:ps=[]:=List.eq_nil_of_length_eq_zero (by rw[←h.len];exact hn);subst this;exact⟨none,0,rfl,Zl _,by omega,fun h=>by simp at h⟩
 ·refine⟨some ⟨b,0,none⟩,aB,by rw[h.len],by rw[←h.len];exact aE,by simpa [maxLen] using aC,fun h0=>⟨b,0,rfl,(Array.getElem?_eq_some_iff.1 aD).1,by omega,fun j hj=> ?_⟩⟩
  have aA:j<vs.length:=by rw[h.len];exact hj
  have h1:=h.hdr.cellAt j (by omega);have h3:=(h.row j aA hj).se;obtain⟨B',d,e⟩:=h3.form;rw[Nat.zero_add];rw[List.getElem?_eq_getElem aA,e] at h1;rw[e] at h3;exact⟨B',d,h1,h3⟩
theorem Cl{P:Program}(w:World){ops:Array Oper}{rest:List Oper}{o:Oper}{a:Act}{Q:Exit→Act→World→Prop}(hgd:o.guard=none)(s x:Operand)(t:TypeId)
  (ho:o.op= .call {callee:= .builtin .append,args:= #[s,x],argTypes:= #[t,t]})
  (base:Nat) (e:TypeId) (z:Value) (by':Nat) (ht:P.underlying t=some (.slice e)) (hinfo:(P.info? e).map (fun i=>(i.zero,i.size,i.bytes))=some (some z,1,by'))
  (v:Value) (n:Nat) (xs:List Value) (hs:a.eval s=v) (hown:w.ownsRow base e 1 v n xs)
  (y:Value) (hy:y.oneCell'=true) (b:Nat) (hx:a.eval x= .slice (some ⟨b,0,none⟩) 1 1) (hc:w.cell? ⟨b,0,none⟩=some y)
  (hbytes:(n+1)*by'≤140737488355328) (hn:n≤1000000) (hzs:z.cells.size=1) (hbase:base≤w.heap.size)
  (h:∀g aA w',w'.ownsRow base e 1 (.slice (some ⟨g,0,none⟩) (n+1) aA) (n+1) (xs++[y])→w.grownBy w' v.ownBlock→(v.ownBlock=some g∨g=w.heap.size)→wpList P ops Q rest (a.put o.dst (.slice (some ⟨g,0,none⟩) (n+1) aA)) w'):
  wpList P ops Q (o::rest) a w:=by
 obtain⟨i0,aC,aE,aF,aG⟩:=info_parts hinfo;obtain⟨v',w',aB,h2,h3,h4⟩:=Cp (P:=P) w base t o.type e i0 _ 1 by' ht aC aE aF aG hzs (by omega) v _ _ hown (b+1) (.slice (some ⟨b,0,none⟩) 1 1) 1 [y] ⟨_,1,rfl,rfl,fun _=>⟨b,0,rfl,by omega,fun j u hu=>by
  cases j with
  |zero=>simp at hu;subst hu;exact hc
  |succ j=>simp at hu⟩⟩ (by intro u hu;simp at hu;subst hu;exact hy) (by unfold maxLen;omega) hbytes hbase
 rcases h2.2 with⟨_,aD⟩|⟨g,aA,cur,rfl,hb,hg,hnc,hcm,hcs,htake⟩
 ·simp at aD
 ·refine Lib.wpList_append_run w hgd s x t t ho _ _ hs hx _ w' aB (h g aA w' h2 h3 ?_);rcases h4 with h4|h4
  ·exact .inl h4.symm
  ·exact .inr (by simpa [Value.ownBlock] using h4)
open Go.RowKit
def El1(g n:Nat)(P:Int)(w1:World)(v iv:Value)(wr:World):Prop:=
 ∃(k:Nat) (ns:List Int),k≤n∧iv= .int .i64 k∧ns.length=k∧els P ns=true∧wr.ownsRow w1.heap.size 3 1 v ns.length (ns.map (Value.int .i64))∧Dk wr g∧w1.grownBy wr (some g)
set_option maxRecDepth 100000 in
set_option maxHeartbeats 4000000 in
theorem Nq(g n:Nat)(P:Int)(w:World)(hD:Dk w g)(hP:1≤P∧P≤65521)(hn:n≤100000):
  Calls Tryz.prog 41 #[.pointer (some ⟨g,0,none⟩),.agg #[.int .i64 P],.int .i64 n] w fun e w'=>∃v ns,e= .returned v∧ns.length=n∧els P ns=true∧w'.ownsRow w.heap.size 3 1 v ns.length (ns.map (Value.int .i64))∧Dk w' g∧w.grownBy w' (some g):=by
 go_enter Tryz.func41,Tryz.ntmps41;obtain⟨F,eF⟩:∃F,F=w.heap.size:=⟨_,rfl⟩;obtain⟨w1,ew⟩:∃w1:World,w1=w.alloc (.cells #[.int .i64 P] 31):=⟨_,rfl⟩;have aW:Hid (w.alloc (.cells #[.int .i64 P] 31)=w1):=ew.symm;have aD:Hid (Below w.heap.size w w1):=Zk (by rw[ew];exact (Zb _ w).alloc (Zl _) _);have aJ:Hid (w1.heap[F]? =some (.cells #[.int .i64 P] 31 (0,0))):=Zk (by show _=_;rw[ew,eF];exact Zh w _);have aG:Hid (Dk w1 g):=hD.below aD.out;have aU:Hid (g<F):=Zk (by rw[eF];exact hD.lt);have HEF:=Zk eF;clear hD;go_upto_region 2 with fail
 rw[aW.out,←eF];clear ew eF;go_wp2_with fail;go_loopw [7,9] (fun v iv wr=>El1 g n P w1 v iv wr) (fun _ iv _=>n- (intOf iv).toNat)
 case atStart=>exact⟨0,[],Nat.zero_le _,rfl,rfl,by simp[els],World.ownsRow_nil _ _ _ _,aG.out,Ah _ _⟩
 case round=>
  obtain⟨k,ns,hk,rfl,aP,aN,aB,hd,hg⟩:=hrel;obtain⟨A,c,rfl⟩:=Bn aB;have HO:=Zk aB;have aH:=Zk hd;have HG:=Zk hg;have aI:=Zk aN;have aL:=Zk aP;have hz:=hg.size;have hnl:ns.length≤100000:=by omega
  have hg1:g<w1.heap.size:=aG.out.lt;clear aB hd hg aN aP;by_cases hlk:k<n
  ·have dk:decide (k<n)=true:=Ze hlk;have f0:wr.cell? ⟨F,0,none⟩=some (.int .i64 P):=Zc wr F 0 _ _ _ ((HG.out.block F (Ae aJ.out) (by have:=aU.out;simp;omega)).trans aJ.out);go_wp2_with fail;(with_reducible refine (Cs P g wr aH.out (by unfold An;omega) (by omega)).mono ?_)
   rintro e w2 ⟨x,rfl,_,hx,aM,aC⟩;obtain⟨aX,aY⟩:=hx hP.1;have aQ:=Zk aM;have aS:=Zk aC;have aF:Hid (w2.ownsRow w1.heap.size 3 1 (.slice A ns.length c) ns.length (ns.map (Value.int .i64))):=Zk (Cb HO.out fun b hb=>aC.block b (HO.out.lt b hb).2 (by have:=(HO.out.lt b hb).1;simp;omega))
   have aZ:w1.heap.size≤w2.heap.size:=Nat.le_trans hz aC.size;clear hx aM aC f0;go_wp2_with (at_builtin;refine Az _ rfl _ _ 22 rfl w1.heap.size 3 Tryz.underlying22 Bf _ ns rfl aF.out x rfl (by omega) aZ ?_;intro v3 w3 aA aO;have aV:=Zk aA;have aK:=Zk aO;clear aA aO);have aT:Hid (w2.grownBy (w2.alloc (.cells #[.int .i64 x] 3)) (some g)):=Zk (Ag ((Zb _ w2).alloc (Zl _) _) _);have aE:Hid (w1.grownBy w3 (some g)):=Zk (Cc (Af (Af HG.out aS.out) aT.out) aK.out (fun q hq=>(aF.out.lt q hq).1))
   have aR:Hid (Dk w3 g):=Zk ((aQ.out.alloc _).grown aK.out (fun q hq=>by have:=(aF.out.lt q hq).1;omega))
   go_roundw
   case rel=>exact⟨k+1,ns++[x],by omega,by go_num,by have:=aL.out;simp;omega,by
    refine Ca fun y hy=> ?_
    rcases List.mem_append.1 hy with h|h
    ·exact Ba aI.out y h
    ·simp at h;subst h;exact Ez ⟨aX,aY⟩,aV.out,aR.out,aE.out⟩
   case measure=>simp[intOf];omega
  ·have dk:decide (k<n)=false:=Zd hlk;go_wp2_with fail;go_ret;refine⟨_,ns,rfl,by have:=aL.out;omega,aI.out,?_,aH.out,Af (Ag aD.out _) HG.out⟩;exact Bt HO.out (by have:=aD.out.size;omega)
set_option maxRecDepth 100000 in
set_option maxHeartbeats 4000000 in
theorem Od(P:Int)(c:List Int)(rows:List (List Int))(width:Int)(vc vr:Value)(w:World)(hP:An P)(hc:SI w vc c)(hr:SL w vr rows):
  Calls Tryz.prog 49 #[.agg #[.int .i64 P],.int .i64 width,vr,vc] w (CmP P c rows width w):=by
 go_enter Tryz.func49,Tryz.ntmps49;obtain⟨F,eF⟩:∃F,F=w.heap.size:=⟨_,rfl⟩;obtain⟨w1,ew⟩:∃w1:World,w1=w.alloc (.cells #[.int .i64 P] 31):=⟨_,rfl⟩;have aH:Hid (w.alloc (.cells #[.int .i64 P] 31)=w1):=ew.symm;have aA:Hid (Below w.heap.size w w1):=Zk (by rw[ew];exact (Zb _ w).alloc (Zl _) _);have aF:Hid (w1.heap[F]? =some (.cells #[.int .i64 P] 31 (0,0))):=Zk (by show _=_;rw[ew,eF];exact Zh w _);have HC:=Zk (hc.below aA.out);have HR:=Zk (hr.below aA.out);clear hc hr;go_upto_region 1 with fail
 rw[aH.out,←eF];clear ew eF;have f0:w1.cell? ⟨F,0,none⟩=some (.int .i64 P):=Zc w1 F 0 _ _ _ aF.out;go_wp2_with fail;(with_reducible refine (Qi P c rows width _ _ w1 hP HC.out HR.out).mono ?_)
 rintro e w2 ⟨v,rfl,aB,he,aC⟩;have aD:=Zk aB;have aE:=Zk he;have aG:=Zk aC;clear aB he aC;go_wp2_with fail;go_ret2;exact⟨v,rfl,aA.out.trans (aD.out.mono aA.out.size),aE.out,fun h=>Bt (aG.out h) aA.out.size⟩
def Fi(P:Int)(rows:List (List Int))(width:Int)(q:List Int):List Int:=if coE P q rows width=0 then cmb P q rows width.toNat else []
def An1(P:Int)(width:Int)(rows qs:List (List Int))(g:Nat)(w1:World)(v iv:Value)(wr:World):Prop:=
 ∃(k:Nat) (pv:Value) (vs:List Value),pv=v∧k≤qs.length∧iv= .int .i64 k∧RW w1.heap.size g wr pv vs ((qs.take k).map (Fi P rows width))∧Below w1.heap.size w1 wr
theorem cmb_r{P:Int}(hP:2≤P∧P≤65521)(c:List Int)(rows:List (List Int))(n:Nat):∀x∈cmb P c rows n,An x:=Ch hP.2 (Ix hP.1 ..)
theorem zEj{P:Int}{c:List Int}{rows:List (List Int)}{width:Int}(h:coE P c rows width=0):prB P=true:=by
 unfold coE at h
 cases hp:prB P with
 |true=>rfl
 |false=>rw[hp] at h;simp at h
set_option maxRecDepth 100000 in
set_option maxHeartbeats 4000000 in
theorem Ot(P:Int)(width:Int)(rows qs:List (List Int))(g:Nat)(vr vq:Value)(w:World)(hP:An P)(hg:g<w.heap.size)(hr:SL w vr rows)(hq:SL w vq qs)(hz:qs.length≤1000):
  Calls Tryz.prog 28 #[.agg #[.int .i64 P],.int .i64 width,vr,vq] w fun e w'=>∃v,e= .returned v∧Below w.heap.size w w'∧SLE g w' v (qs.map (Fi P rows width)):=by
 obtain⟨Aq,cq,rfl,hq1,hq2,hs,aY,aZ,aX⟩:=hq.heads;have bK:=Zk aZ;have bI:=Zk aX;have bJ:=Zk aY;go_enter Tryz.func28,Tryz.ntmps28;obtain⟨F,eF⟩:∃F,F=w.heap.size:=⟨_,rfl⟩;obtain⟨w1,ew⟩:∃w1:World,w1=w.alloc (.cells #[.int .i64 P] 31):=⟨_,rfl⟩;have bO:Hid (w.alloc (.cells #[.int .i64 P] 31)=w1):=ew.symm;have aE:Hid (Below w.heap.size w w1):=Zk (by rw[ew];exact (Zb _ w).alloc (Zl _) _);have aP:Hid (w1.heap[F]? =some (.cells #[.int .i64 P] 31 (0,0))):=Zk (by show _=_;rw[ew,eF];exact Zh w _);have HR:=Zk (hr.below aE.out);have aF:Hid (g<w1.heap.size):=Zk (by have:=aE.out.size;show g<_;omega);obtain⟨Ar,cr,bP⟩:∃A c,vr= .slice A rows.length c:=by obtain⟨A,c,e,_⟩:=hr;exact⟨A,c,e⟩
 subst bP;clear hr hq aZ aX aY;go_upto_region 2 with fail
 rw[bO.out,←eF];clear ew eF;go_wp2_with fail;go_loopw [9,16] (fun v iv wr=>An1 P width rows qs g w1 v iv wr) (fun _ iv _=>qs.length- (intOf iv).toNat)
 case atStart=>exact⟨0,_,[],rfl,Nat.zero_le _,rfl,RW.nil _ _ _,Zb _ _⟩
 case round=>
  obtain⟨k,pv,vs,rfl,hk,rfl,bC,hb⟩:=hrel;have aG:=Zk bC;have HB:=Zk hb;have aI:Hid (Below w.heap.size w wr):=aE.out.trans (hb.mono aE.out.size);have bE:=hb.size;clear bC hb;by_cases hlk:k<qs.length
  ·have dk:decide (k<qs.length)=true:=Ze hlk;have f0:wr.cell? ⟨F,0,none⟩=some (.int .i64 P):=Zc wr F 0 _ _ _ ((HB.out.block F (Ae aP.out)).trans aP.out);obtain⟨b,bS,rfl,bQ,aA⟩:=bI.out (by omega);have bA:k<hs.length:=by rw[bJ.out];exact hlk
   obtain⟨B,d,aS,aO⟩:=bK.out k bA hlk;have ck:=(aI.out.cell (p:=⟨b,bS+k,none⟩) bQ).trans (aA k bA);rw[aS] at ck aO;have aR:=Zk (aO.below aI.out);have bN:=Zk (HR.out.below HB.out);have aL:Hid ((qs.take (k+1)).map (Fi P rows width)=(qs.take k).map (Fi P rows width)++[Fi P rows width qs[k]]):=Zk (by show _=_;rw[←List.take_append_getElem hlk,List.map_append];rfl);obtain⟨q,eq⟩:∃q,q=qs[k]:=⟨_,rfl⟩;rw[←eq] at ck aR aL;clear aA aS aO eq;go_wp2_with fail;(with_reducible refine (Od P q rows width _ _ wr hP aR.out bN.out).mono ?_)
   rintro e w2 ⟨vx,rfl,aH,aU,bB⟩;have bG:=Zk aH;have aN:w2.ownsRow wr.heap.size 3 1 vx (Fi P rows width q).length ((Fi P rows width q).map (Value.int .i64)):=by
    unfold Fi;by_cases h0:coE P q rows width=0
    ·rw[if_pos h0];exact bB h0
    ·rw[if_neg h0,aU h0];exact World.ownsRow_nil _ _ _ _
   have bD:∀x∈Fi P rows width q,An x:=by
    unfold Fi;by_cases h0:coE P q rows width=0
    ·rw[if_pos h0];exact cmb_r (Bd (zEj h0)) _ _ _
    ·rw[if_neg h0];simp
   obtain⟨er,aV⟩:∃er,er=coE P q rows width:=⟨_,rfl⟩;obtain⟨A1,c1,rfl⟩:=Dv aN;have bR:w1.heap.size≤w2.heap.size:=Nat.le_trans bE aH.size;have aC:Hid (RW w1.heap.size g w2 pv vs ((qs.take k).map (Fi P rows width))):=Zk (aG.out.below aF.out aH);have aK:Hid (SX (w2.alloc (.cells #[.slice A1 (Fi P rows width q).length c1] 22)) pv.ownBlock (some g) (.slice A1 (Fi P rows width q).length c1) (Fi P rows width q)):=Zk (SX.of_own (aN.alloc _) bD (fun q hq=>(aG.out.hdr.lt q hq).2) (fun q hq=>by injection hq with e;have:=aF.out;omega))
   have hvn:vs.length≤1000:=by have:=aG.out.len;rw[this];simp;omega
   obtain⟨X,eX⟩:∃X,X=Fi P rows width q:=⟨_,rfl⟩;rw[←eX] at aK aL⊢;rw[←aV];obtain⟨n1,aT⟩:∃n1,n1=X.length:=⟨_,rfl⟩;rw[←aT] at aK⊢;clear aN bD aH aU bB aV eX aT f0 ck;go_wp2_with (at_builtin;refine Cl _ rfl _ _ 42 rfl w1.heap.size 22 (.slice none 0 0) 24 Tryz.underlying42 Hq pv vs.length vs rfl (aC.out.hdr.alloc _) (.slice A1 n1 c1) rfl w2.heap.size rfl (Ax w2 [.slice A1 n1 c1] 22 0 _ rfl) (by omega) (by omega) rfl (by simp;omega) ?_;intro g9 aM w9 aB aW aD;have bL:=Zk aB;have aQ:=Zk aW;have bF:=Zk aD;clear aB aW aD);have aJ:Hid (RW w1.heap.size g w9 (.slice (some ⟨g9,0,none⟩) (vs.length+1) aM) (vs++[.slice A1 n1 c1]) ((qs.take k).map (Fi P rows width)++[X])):=(show Hid _ from
    (aC.out.below aF.out ((Zb _ w2).alloc (Zl _) _)).app aK.out bL.out aQ.out (fun q hq=>by
     have e:g9=q:=by simpa [Value.ownBlock] using hq
     subst e;exact bF.out))
   have bH:Hid (Below w1.heap.size w1 w9):=Zk (((HB.out.trans (bG.out.mono bE)).alloc bR _).grown aQ.out (by simp;omega) (fun q hq=>(aC.out.hdr.lt q hq).1))
   go_roundw
   case rel=>exact⟨k+1,_,_,rfl,by omega,by go_num,by rw[aL.out];exact aJ.out,bH.out⟩
   case measure=>simp[intOf];omega
  ·have dk:decide (k<qs.length)=false:=Zd hlk;have bM:Hid (RW w1.heap.size g wr pv vs (qs.map (Fi P rows width))):=Zk (by
    have h:=aG.out;rw[List.take_of_length_le (by omega)] at h;exact h)
   go_wp2_with fail;go_ret;exact⟨_,rfl,aI.out,bM.out.sle aF.out⟩
theorem Dk.set2{w:World}{g z:Nat}(h:Dk w g)(hz:g<z)(u1 u2:Value):Dk ((w.setCell ⟨z,0,none⟩ u1).setCell ⟨z,1,none⟩ u2) g:=
 (h.grown (Ai (g:=z) (p:=⟨z,0,none⟩) (Ah _ _) (.inl rfl) u1) (fun k hk=>by injection hk with e;omega)).grown (Ai (g:=z) (p:=⟨z,1,none⟩) (Ah _ _) (.inl rfl) u2) (fun k hk=>by injection hk with e;omega)
theorem Hw{a w:World}{r:Option Nat}{z:Nat}(h:a.grownBy w r)(hz:a.heap.size≤z)(u1 u2:Value):a.grownBy ((w.setCell ⟨z,0,none⟩ u1).setCell ⟨z,1,none⟩ u2) r:=
 Cc (Cc h (Ai (g:=z) (p:=⟨z,0,none⟩) (Ah _ _) (.inl rfl) u1) (fun k hk=>by injection hk with e;omega)) (Ai (g:=z) (p:=⟨z,1,none⟩) (Ah _ _) (.inl rfl) u2) (fun k hk=>by injection hk with e;omega)
theorem QRv.set2{B:Nat}{w:World}{v:Value}{rows:List (List Int)}(h:QRv B w v rows){z:Nat}(hz:z<B)(u1 u2:Value):QRv B ((w.setCell ⟨z,0,none⟩ u1).setCell ⟨z,1,none⟩ u2) v rows:=(h.set3 (p:=⟨z,0,none⟩) hz u1).set3 (p:=⟨z,1,none⟩) hz u2
open Go.RowKit
theorem SL.at{w:World}{v:Value}{rows:List (List Int)}(h:SL w v rows):∃A c,v= .slice A rows.length c∧
  ∀i (hi:i<rows.length),∃bh oh B d,A=some ⟨bh,oh,none⟩∧∀W,Below w.heap.size w W→W.cell? ⟨bh,oh+i,none⟩=some (.slice B rows[i].length d)∧SI W (.slice B rows[i].length d) rows[i]:=by
 obtain⟨A,c,rfl,_,_,ha⟩:=h;refine⟨A,c,rfl,fun i hi=> ?_⟩
 obtain⟨b,o,eA,hb,hc⟩:=ha (by omega);obtain⟨B,d,h1,h2⟩:=hc i hi;exact⟨b,o,B,d,eA,fun W hW=>⟨(hW.cell (p:=⟨b,o+i,none⟩) hb).trans h1,h2.below hW⟩⟩
theorem SI.at{w:World}{B:Option Addr}{n d:Nat}{r:List Int}(h:SI w (.slice B n d) r){k:Nat}(hk:k<r.length):∃bb ob,B=some ⟨bb,ob,none⟩∧w.cell? ⟨bb,ob+k,none⟩=some (.int .i64 r[k]):=by
 obtain⟨A2,c2,e2,_,_,_,aB⟩:=h;injection e2 with e21 e22 e23;obtain⟨bb,ob,e3,hbb,aA⟩:=aB (by omega);exact⟨bb,ob,by rw[e21];exact e3,aA k hk⟩
open Go.RowKit Go.Shelf
theorem Li{w w2 w':World}{g O:Nat}(h:w.grownBy w2 (some g))(hb:Below O w2 w')(hO:w.heap.size≤O):w.grownBy w' (some g):=
 ⟨hb.os.trans h.os,hb.tape.trans h.tape,hb.output.trans h.output,Nat.le_trans h.size hb.size,fun i hi hn=>(hb.block i (by omega)).trans (h.block i hi hn)⟩
def vld(lims ns:List Int):Prop:=∀j (h:j<lims.length) (h2:j<ns.length),0≤ns[j]∧ns[j]<lims[j]
theorem Ou{lims ns:List Int}{x:Int}(h:vld lims ns)(hx:∀h:ns.length<lims.length,0≤x∧x<lims[ns.length]):vld lims (ns++[x]):=fun j h1 h2=>by
 by_cases hj:j<ns.length
 ·rw[List.getElem_append_left hj];exact h j h1 hj
 ·have e:j=ns.length:=by simp at h2;omega
  subst e;rw[List.getElem_append_right (Zl _)];simp only[Nat.sub_self,List.getElem_cons_zero];exact hx h1
def TpR(lims:List Int)(g F:Nat)(w wr:World)(ns:List Int):Prop:=
 ∃(A:Option Addr) (c:Nat),TAc (F+1) (.slice A ns.length c) ns wr∧vld lims ns∧Dk wr g∧w.grownBy wr (some g)∧wr.heap[F]? =some (.cells #[.slice none 0 0,.int .i64 0] 39 (0,0))∧∀x∈ns,An x
set_option maxRecDepth 100000 in
set_option maxHeartbeats 8000000 in
theorem Ro(g:Nat)(lims:List Int)(v:Value)(w:World)(hD:Dk w g)(h:SE g w v lims)(hl:∀x∈lims,1≤x∧x≤65521)(hz:lims.length≤20000):
  Calls Tryz.prog 23 #[.pointer (some ⟨g,0,none⟩),v] w fun e w'=>∃v1 ns,e= .returned (.agg #[v1,.int .i64 0])∧Dk w' g∧w.grownBy w' (some g)∧lims.length≤ns.length∧ns.length≤lims.length+2∧vld lims ns∧∀z,z<w.heap.size→SE z w' v1 ns:=by
 have HS:=Zk h;have HL:=Zk hl;obtain⟨A0,c0',rfl⟩:=h.form;have hgw:g<w.heap.size:=hD.lt;obtain⟨nl,bH⟩:∃nl,nl=lims.length:=⟨_,rfl⟩;rw[←bH] at hz HS⊢;have bO:=Zk bH;have bZ:=Zk hD;clear bH h hl hD;go_enter Tryz.func23,Tryz.ntmps23;obtain⟨F,eF⟩:∃F,F=w.heap.size:=⟨_,rfl⟩;obtain⟨w1,aO⟩:∃w1:World,w1=(w.alloc (.cells #[.slice none 0 0,.int .i64 0] 39)).alloc (.cells #[.slice none 0 0,.int .i64 0] 39):=⟨_,rfl⟩;have bE:Hid ((w.alloc (.cells #[.slice none 0 0,.int .i64 0] 39)).alloc (.cells #[.slice none 0 0,.int .i64 0] 39)=w1):=aO.symm;have aL:Hid (Below w.heap.size w w1):=Zk (by rw[aO];exact ((Zb _ w).alloc (Zl _) _).alloc (by simp) _);have aM:Hid (w1.heap[F]? =some (.cells #[.slice none 0 0,.int .i64 0] 39 (0,0))):=Zk (by show _=_;rw[aO,eF,Below.heap_alloc _ _ _ (by simp)];exact Zh w _);have aN:Hid (w1.heap[F+1]? =some (.cells #[.slice none 0 0,.int .i64 0] 39 (0,0))):=Zk (by show _=_;rw[aO,eF];have:=Zh (w.alloc (.cells #[.slice none 0 0,.int .i64 0] 39)) (.cells #[.slice none 0 0,.int .i64 0] 39);simpa using this);have bQ:w.heap.size=F:=eF.symm;have HFW:=Zk bQ;have hgF:g<F:=by omega
 have cI:w.heap.size≤F:=by omega
 clear bQ;go_upto_region 2 with fail
 rw[bE.out,←eF];clear aO eF;have bR:TAc (F+1) (.slice none 0 0) [] w1:=⟨aN.out,by simpa using World.ownsRow_nil w1 (F+1+1) 3 1⟩;have cD:=Zk bR;clear bR;go_wp2_with fail;go_loopw [11] (fun iv wr=>∃(j:Nat) (ns:List Int),j≤nl∧iv= .int .i64 j∧ns.length=j∧TpR lims g F w wr ns) (fun iv _=>nl- (intOf iv).toNat)
 case atStart=>exact⟨0,[],Nat.zero_le _,rfl,rfl,none,0,cD.out,fun j h h2=>by simp at h2,bZ.out.below aL.out,Ag aL.out _,aM.out,fun x h=>by simp at h⟩
 case round=>
  obtain⟨j,ns,hj,rfl,bX,A,c,hT,hv,hd,hg,hf,hr⟩:=hrel;have HT:=Zk hT;have HV:=Zk hv;have HD:=Zk hd;have HG:=Zk hg;have HF:=Zk hf;have HR:=Zk hr;have aS:=Zk bX;have cH:ns.length≤20000:=by omega
  clear hT hv hd hg hf hr bX;have wj:IntKind.i64.wrap ((j:Int)+1)=(j:Int)+1:=by exact Zi _ (by omega)
  by_cases hlt:j<nl
  ·have dj:decide ((j:Int)<(nl:Int))=true:=Ze (by omega);have bP:decide (j<nl)=true:=Ze hlt;have bU:j<lims.length:=by rw[←bO.out];exact hlt
   obtain⟨b,off,eA,hb,aG⟩:=((HS.out.grown HG.out).si).cells (by omega);subst eA;have cl:=aG j bU;have bJ:=HL.out lims[j] (List.getElem_mem bU);obtain⟨lm,bG⟩:∃lm,lm=lims[j]:=⟨_,rfl⟩;rw[←bG] at cl bJ;have cC:Hid (∀x:Int,(1≤lm→0≤x∧x<lm)→∀h:ns.length<lims.length,0≤x∧x<lims[ns.length]):=Zk (fun x hx h=>by
    have h1:=hx bJ.1;have e:lims[ns.length]=lm:=by rw[bG];simp only[aS.out]
    rw[e];exact h1)
   have z0:(0:Int)≤(j:Int):=by omega
   have z1:(j:Int)<(nl:Int):=by omega
   clear aG bG;have c0:wr.cell? ⟨F+1,0,none⟩=some (.slice A ns.length c):=Zc wr (F+1) 0 _ _ _ HT.out.1;have aW:Hid (Dk wr.drew g):=Zk (HD.out.below (Zb _ wr).drew);have bD:Hid (∀W,wr.grownBy W (some g)→TAc (F+1) (.slice A ns.length c) ns W):=Zk (fun W hW=>⟨(hW.block (F+1) HT.out.lt (by simp;omega)).trans HT.out.1,Cb HT.out.2 (fun b hb=>hW.block b (HT.out.2.lt b hb).2 (by have:=(HT.out.2.lt b hb).1;simp;omega))⟩)
   go_wp2_with fail;go_region_law (first
    |(go_simp;go_at_call 12;refine (Cs lm g _ (by first|exact HD.out|exact aW.out) (by unfold An;omega) (by omega)).mono ?_;rintro e9 w2 ⟨x,rfl,_,aR,aQ,aD⟩;have aT:=Zk aR;have aU:=Zk aQ;have aH:Hid (wr.grownBy w2 (some g)):=Zk (⟨aD.os,aD.tape,aD.output,aD.size,aD.block⟩);have aC:=Zk (bD.out w2 aH.out);have c2:w2.cell? ⟨F+1,0,none⟩=some (.slice A ns.length c):=Zc w2 (F+1) 0 _ _ _ aC.out.1;have bF:(w2.alloc (.cells #[.int .i64 x] 3)).cell? ⟨F+1,0,none⟩=some (.slice A ns.length c):=Bk (.cells #[.int .i64 x] 3) c2;clear aR aQ aD)
    |(refine Al _ (by rfl) _ _ 22 (by rfl) (F+1+1) 3 Tryz.underlying22 Bf (.slice A ns.length c) ns (by rfl) (by first|exact aC.out.2.alloc (.cells #[.int .i64 x] 3)|exact (aC.out.2.alloc (.cells #[.int .i64 x] 3)).drew) x w2.heap.size (by rfl) (by exact Ax w2 [.int .i64 x] 3 0 _ rfl) (by omega) (by have:=aC.out.lt;simp;omega) ?_;intro gg aA w9 aB aE aJ;have aI:Hid ((w2.alloc (.cells #[.int .i64 x] 3)).grownBy w9 (Value.slice A ns.length c).ownBlock):=Zk (⟨aE.os,aE.tape,aE.output,aE.size,aE.block⟩);have bB:=Zk aB;have c9:w9.cell? ⟨F+1,0,none⟩=some (.slice A ns.length c):=aI.out.cell bF aC.out.ne;have f9:w9.frozen? ⟨F+1,0,none⟩=false:=aC.out.frozen aI.out;clear aB aE aJ))
   all_goals
    obtain⟨aP,aF⟩:=aC.out.step (Zb (F+1) w2) aI.out bB.out;have bC:=Zk aP;have aZ:Hid (w.grownBy (w9.setCell ⟨F+1,0,none⟩ (.slice (some ⟨gg,0,none⟩) (ns.length+1) aA)) (some g)):=Zk (Li (Af HG.out aH.out) aF (by omega));have aV:Hid (Dk (w9.setCell ⟨F+1,0,none⟩ (.slice (some ⟨gg,0,none⟩) (ns.length+1) aA)) g):=Zk (aU.out.of fun i hi=>aF.block i (by omega))
    have aX:Hid ((w9.setCell ⟨F+1,0,none⟩ (.slice (some ⟨gg,0,none⟩) (ns.length+1) aA)).heap[F]? =some (.cells #[.slice none 0 0,.int .i64 0] 39 (0,0))):=Zk ((aF.block F (by omega)).trans ((aH.out.block F (by have:=HT.out.lt;omega) (by simp;omega)).trans HF.out));clear aP aF;go_wp2_with fail;go_roundw
    case rel=>
     refine⟨j+1,ns++[x],by omega,by go_num,by rw[List.length_append,aS.out];rfl,some ⟨gg,0,none⟩,aA,by rw[List.length_append];exact bC.out,Ou HV.out (cC.out x aT.out),aV.out,aZ.out,aX.out,fun y hy=> ?_⟩
     rcases List.mem_append.1 hy with h|h
     ·exact HR.out y h
     ·simp at h;rw[h];have:=aT.out bJ.1;unfold An;omega
    case measure=>simp[intOf];omega
  ·have dj:decide ((j:Int)<(nl:Int))=false:=Zd (by omega);have bP:decide (j<nl)=false:=Zd hlt;have bV:j=nl:=by omega
   have bM:=Zk bV;clear hlt bV;go_wp2_with fail;(with_reducible refine (Cs 3 g wr HD.out (by unfold An;omega) (by omega)).mono ?_)
   rintro e w5 ⟨k3,rfl,_,bW,bT,aK⟩;have hk:=bW (by omega);have cA:=Zk bT;have HG5:=Zk aK;have bS:TAc (F+1) (.slice A ns.length c) ns w5:=⟨(aK.block (F+1) HT.out.lt (by simp;omega)).trans HT.out.1,Cb HT.out.2 (fun b hb=>aK.block b (HT.out.2.lt b hb).2 (by have:=(HT.out.2.lt b hb).1;simp;omega))⟩
   have cE:=Zk bS;have cB:Hid (w5.heap[F]? =some (.cells #[.slice none 0 0,.int .i64 0] 39 (0,0))):=Zk ((aK.block F (by have:=HT.out.lt;omega) (by simp;omega)).trans HF.out);have aY:Hid (w.grownBy w5 (some g)):=Zk (Af HG.out aK);obtain⟨kn,cG⟩:∃kn:Nat,k3=(kn:Int):=⟨k3.toNat,by omega⟩;subst cG;clear bW bT aK bS dj bP;go_wp2_with fail;go_loopw [8] (fun kv wr=>∃(q:Nat) (ns:List Int),q≤2∧kv= .int .i64 q∧nl≤ns.length∧ns.length+q≤nl+2∧TpR lims g F w wr ns) (fun kv _=>(intOf kv).toNat)
   case atStart=>exact⟨kn,ns,by omega,rfl,by rw[aS.out,bM.out];exact Zl _,by rw[aS.out,bM.out];omega,A,c,cE.out,HV.out,cA.out,aY.out,cB.out,HR.out⟩
   case round=>
    obtain⟨q,ns,hq,rfl,bK,bL,A,c,hT,hv,hd,hg,hf,hr⟩:=hrel;have HT:=Zk hT;have HV:=Zk hv;have HD:=Zk hd;have HG:=Zk hg;have HF:=Zk hf;have HR:=Zk hr;have cH:ns.length≤30000:=by omega
    have bA:=Zk bK;have bN:=Zk bL;clear hT hv hd hg hf hr;by_cases hq0:0<q
    ·have dq:decide ((0:Int)<(q:Int))=true:=Ze (by omega);have cF:decide (0<q)=true:=Ze hq0;have wq:IntKind.i64.wrap ((q:Int)-1)=(q:Int)-1:=by exact Zi _ (by omega)
     clear bK bL;have c0:wr.cell? ⟨F+1,0,none⟩=some (.slice A ns.length c):=Zc wr (F+1) 0 _ _ _ HT.out.1;have aW:Hid (Dk wr.drew g):=Zk (HD.out.below (Zb _ wr).drew);have bD:Hid (∀W,wr.grownBy W (some g)→TAc (F+1) (.slice A ns.length c) ns W):=Zk (fun W hW=>⟨(hW.block (F+1) HT.out.lt (by simp;omega)).trans HT.out.1,Cb HT.out.2 (fun b hb=>hW.block b (HT.out.2.lt b hb).2 (by have:=(HT.out.2.lt b hb).1;simp;omega))⟩)
     go_wp2_with fail;go_region_law (first
      |(go_simp;go_at_call 12;refine (Cs 9 g _ (by first|exact HD.out|exact aW.out) (by unfold An;omega) (by omega)).mono ?_;rintro e9 w2 ⟨x,rfl,_,aR,aQ,aD⟩;have aT:=Zk aR;have aU:=Zk aQ;have aH:Hid (wr.grownBy w2 (some g)):=Zk (⟨aD.os,aD.tape,aD.output,aD.size,aD.block⟩);have aC:=Zk (bD.out w2 aH.out);have c2:w2.cell? ⟨F+1,0,none⟩=some (.slice A ns.length c):=Zc w2 (F+1) 0 _ _ _ aC.out.1;have bF:(w2.alloc (.cells #[.int .i64 x] 3)).cell? ⟨F+1,0,none⟩=some (.slice A ns.length c):=Bk (.cells #[.int .i64 x] 3) c2;clear aR aQ aD)
      |(refine Al _ (by rfl) _ _ 22 (by rfl) (F+1+1) 3 Tryz.underlying22 Bf (.slice A ns.length c) ns (by rfl) (by first|exact aC.out.2.alloc (.cells #[.int .i64 x] 3)|exact (aC.out.2.alloc (.cells #[.int .i64 x] 3)).drew) x w2.heap.size (by rfl) (by exact Ax w2 [.int .i64 x] 3 0 _ rfl) (by omega) (by have:=aC.out.lt;simp;omega) ?_;intro gg aA w9 aB aE aJ;have aI:Hid ((w2.alloc (.cells #[.int .i64 x] 3)).grownBy w9 (Value.slice A ns.length c).ownBlock):=Zk (⟨aE.os,aE.tape,aE.output,aE.size,aE.block⟩);have bB:=Zk aB;have c9:w9.cell? ⟨F+1,0,none⟩=some (.slice A ns.length c):=aI.out.cell bF aC.out.ne;have f9:w9.frozen? ⟨F+1,0,none⟩=false:=aC.out.frozen aI.out;clear aB aE aJ))
     all_goals
      obtain⟨aP,aF⟩:=aC.out.step (Zb (F+1) w2) aI.out bB.out;have bC:=Zk aP;have aZ:Hid (w.grownBy (w9.setCell ⟨F+1,0,none⟩ (.slice (some ⟨gg,0,none⟩) (ns.length+1) aA)) (some g)):=Zk (Li (Af HG.out aH.out) aF (by omega));have aV:Hid (Dk (w9.setCell ⟨F+1,0,none⟩ (.slice (some ⟨gg,0,none⟩) (ns.length+1) aA)) g):=Zk (aU.out.of fun i hi=>aF.block i (by omega))
      have aX:Hid ((w9.setCell ⟨F+1,0,none⟩ (.slice (some ⟨gg,0,none⟩) (ns.length+1) aA)).heap[F]? =some (.cells #[.slice none 0 0,.int .i64 0] 39 (0,0))):=Zk ((aF.block F (by omega)).trans ((aH.out.block F (by have:=HT.out.lt;omega) (by simp;omega)).trans HF.out));clear aP aF;go_wp2_with fail;go_roundw
      case rel=>
       refine⟨q-1,ns++[x],by omega,by rw[show ((q-1:Nat):Int)=(q:Int)-1 by omega],by rw[List.length_append];have:=bA.out;omega,by rw[List.length_append];have:=bN.out;simp;omega,some ⟨gg,0,none⟩,aA,by rw[List.length_append];exact bC.out,Ou HV.out (fun h=>absurd h (by rw[←bO.out];have:=bA.out;omega)),aV.out,aZ.out,aX.out,fun y hy=> ?_⟩
       rcases List.mem_append.1 hy with h|h
       ·exact HR.out y h
       ·simp at h;rw[h];have:=aT.out (by omega);unfold An;omega
      case measure=>simp[intOf];omega
    ·have dq:decide ((0:Int)<(q:Int))=false:=Zd (by omega);have cF:decide (0<q)=false:=Zd hq0;have c0:wr.cell? ⟨F+1,0,none⟩=some (.slice A ns.length c):=Zc wr (F+1) 0 _ _ _ HT.out.1;have c1:wr.cell? ⟨F+1,1,none⟩=some (.int .i64 0):=Zc wr (F+1) 1 _ _ _ HT.out.1;have z0:wr.cell? ⟨F,0,none⟩=some (.slice none 0 0):=Zc wr F 0 _ _ _ HF.out;have z1:wr.cell? ⟨F,1,none⟩=some (.int .i64 0):=Zc wr F 1 _ _ _ HF.out;have f0:=Zf wr F 0 _ _ HF.out;have f1:=Zf wr F 1 _ _ HF.out;clear bK bL;go_wp2_with fail;have h4:=Bo (.slice A ns.length c) (.int .i64 0) HF.out;have bY:=At (p:=⟨F,1,none⟩) (u:= .int .i64 0) (At (p:=⟨F,0,none⟩) (u:= .slice A ns.length c) HT.out.2 (by show F<_;omega)) (by show F<_;omega);have bI:Below F wr ((wr.setCell ⟨F,0,none⟩ (.slice A ns.length c)).setCell ⟨F,1,none⟩ (.int .i64 0)):=((Zb F wr).setCell (Zl _) _).setCell (Zl _) _;generalize ((wr.setCell ⟨F,0,none⟩ (.slice A ns.length c)).setCell ⟨F,1,none⟩ (.int .i64 0))=wE at h4 bY bI⊢;have q0:=Zc wE F 0 _ _ _ h4;have q1:=Zc wE F 1 _ _ _ h4;simp at q0 q1;refine bodyPost_ret (v:= .agg #[.slice A ns.length c,.int .i64 0]) (by simp[results,Tryz.results23,go_sem,q0,q1]) rfl ?_;exact⟨_,ns,rfl,HD.out.of fun i hi=>bI.block i (by omega),Li HG.out bI cI,bA.out,by have:=bN.out;omega,HV.out,fun z hz=>SE.of_own bY HR.out (by omega)⟩
open Go.RowKit
open Go.RowKit
open Go.RowKit
theorem Jr{α:Type}[DecidableEq α]:∀(a b:List α),a.Nodup→(∀x∈a,x∈b)→a.length≤b.length
 |[],_,_,_=>by simp
 |x::a,b,hd,hs=>by
  have hx:x∈b:=hs x (by simp);have h1:=Jr a (b.erase x) (List.nodup_cons.1 hd).2 fun y hy=>by
   have h2:y≠x:=fun e=>(List.nodup_cons.1 hd).1 (e▸hy)
   exact (List.mem_erase_of_ne h2).2 (hs y (by simp[hy]))
  rw[List.length_erase_of_mem hx] at h1;have:0<b.length:=List.length_pos_of_mem hx;simp;omega
open Go.RowKit
noncomputable def zAn:Code:=((Tryz.f27.body.bind (Ce 13)).getD .skip)
set_option maxRecDepth 1000000 in
set_option maxHeartbeats 4000000 in
theorem zCx(g F L n cap k c q len cap':Nat)(P x:Int)(w:World)(hqL:q≠L)(hqF:q≠F)(hP:2≤P∧P≤65521)(hx:0≤x∧x<P)(hk1:k<n)(hc1:c<len)(hX:∀W,w.grownBy W (some g)→W.cell? ⟨L,k*2+1,none⟩=some (.slice (some ⟨q,0,none⟩) len cap')∧W.cell? ⟨q,c,none⟩=some (.int .i64 x)∧W.frozen? ⟨q,c,none⟩=false∧W.cell? ⟨F,0,none⟩=some (.int .i64 P))(hD:Dk w g)
  (aa ab ac ad ae af ag ah ai aj ak al am an ao ap aq ar au av aw ax ay az aA aB aC aD aE aF aG aH aI aJ aK aL aM aN aO aP aQ aR aS aT aU aV aW aX aY aZ a0 a1 a2 a3 a4 a5 a6 a7 a8 a9 ba bb bc bd be bf bg bh bi bj bk bl bm bn bo bp bq br bs bt bu bv bw bx bz bA bB bC bD bE bF bG bH bI bJ bK bL bM bN bO bP bQ bR bS bT bU bV bW bX bY bZ b0 b1 b2 b3 b4 b5 b6 b7 b8:Value) (Q:Exit→Act→World→Prop)
  (hK:∀(b9 ca cb cc cd ce cf cg ch ci cj ck cl cm cn co cp cq cr cs ct cu cv cw cx:Value) (y:Int) (wN:World) (w':World),w.grownBy wN (some g)∧Dk wN g∧0≤y∧y<P∧y≠x∧w'=wN.setCell ⟨q,c,none⟩ (.int .i64 y)→Q .normal ⟨List.toArray ((Value.pointer (some ⟨g,0,none⟩))::aa::ab::ac::ad::ae::(Value.pointer (some ⟨F,0,none⟩))::af::ag::ah::ai::aj::(Value.slice (some ⟨L,0,none⟩) n cap)::ak::al::am::an::(Value.int .i64 (k:Int))::(Value.int .i64 (c:Int))::ao::ap::aq::ar::au::av::aw::ax::ay::az::aA::aB::aC::aD::aE::aF::aG::aH::aI::aJ::aK::aL::aM::aN::aO::aP::aQ::aR::aS::aT::aU::aV::aW::aX::aY::aZ::a0::a1::a2::a3::a4::a5::a6::a7::a8::a9::ba::b9::ca::cb::cc::cd::ce::cf::cg::ch::ci::cj::ck::cl::cm::cn::co::cp::cq::cr::cs::ct::cu::cv::cw::cx::bB::bC::bD::bE::bF::bG::bH::bI::bJ::bK::bL::bM::bN::bO::bP::bQ::bR::bS::bT::bU::bV::bW::bX::bY::bZ::b0::b1::b2::b3::b4::b5::b6::b7::b8::[]),[]⟩ w'):
  Code.wp Tryz.prog zAn Q ⟨List.toArray ((Value.pointer (some ⟨g,0,none⟩))::aa::ab::ac::ad::ae::(Value.pointer (some ⟨F,0,none⟩))::af::ag::ah::ai::aj::(Value.slice (some ⟨L,0,none⟩) n cap)::ak::al::am::an::(Value.int .i64 (k:Int))::(Value.int .i64 (c:Int))::ao::ap::aq::ar::au::av::aw::ax::ay::az::aA::aB::aC::aD::aE::aF::aG::aH::aI::aJ::aK::aL::aM::aN::aO::aP::aQ::aR::aS::aT::aU::aV::aW::aX::aY::aZ::a0::a1::a2::a3::a4::a5::a6::a7::a8::a9::ba::bb::bc::bd::be::bf::bg::bh::bi::bj::bk::bl::bm::bn::bo::bp::bq::br::bs::bt::bu::bv::bw::bx::bz::bA::bB::bC::bD::bE::bF::bG::bH::bI::bJ::bK::bL::bM::bN::bO::bP::bQ::bR::bS::bT::bU::bV::bW::bX::bY::bZ::b0::b1::b2::b3::b4::b5::b6::b7::b8::[]),[]⟩ w:=by
 have HK:=Zk hK;have HX:=Zk hX;have HD:=Zk hD;obtain⟨l0,q0,q1,f0⟩:=hX w (Ah _ _);have cL:Hid (∀W,w.grownBy W (some g)→Dk W g→Calls Tryz.prog 12 #[.pointer (some ⟨g,0,none⟩),.int .i64 (P-1)] W fun e w'=>∃z:Int,e= .returned (.int .i64 z)∧0≤z∧z<P-1∧Dk w' g∧W.grownBy w' (some g)):=Zk (fun W _ hd=>(Cs (P-1) g W hd (by unfold An;omega) (by omega)).mono fun e w' ⟨z,h1,_,h3,h4,h5⟩=>by
  obtain⟨h6,h7⟩:=h3 (by omega);exact⟨z,h1,h6,h7,h4,h5⟩)
 have cK:Hid (w.grownBy w (some g)):=Zk (Ah _ _);have cF:Hid (w.grownBy w.drew (some g)):=Zk (Ag (Zb _ w).drew _);have z1:(0:Int)≤(k:Int):=by omega
 have z2:(k:Int)<(n:Int):=by omega
 have z3:(0:Int)≤(c:Int):=by omega
 have z4:(c:Int)<(len:Int):=by omega
 have w1_:IntKind.i64.wrap (x+1)=x+1:=by exact Zi _ (by omega)
 have w2_:IntKind.i64.wrap (P-1)=P-1:=by exact Zi _ (by omega)
 have cO:¬P=0:=by omega
 have cM:Hid (∀z:Int,0≤z→z<P-1→IntKind.i64.wrap (x+1+z)=x+1+z∧(x+1+z).tmod P=(x+1+z)%P∧IntKind.i64.wrap ((x+1+z)%P)=(x+1+z)%P∧0≤(x+1+z)%P∧(x+1+z)%P<P∧(x+1+z)%P≠x):=Zk (fun z h1 h2=>by
  have h3:=Int.emod_nonneg (x+1+z) cO;have h4:=Int.emod_lt_of_pos (x+1+z) (show 0<P by omega);refine⟨by exact Zi _ (by omega),Int.tmod_eq_emod_of_nonneg (by omega),by exact Zi _ (by omega),h3,h4,fun e=> ?_⟩
  by_cases hb:x+1+z<P
  ·rw[Int.emod_eq_of_lt (by omega) hb] at e;omega
  ·have e2:(x+1+z)%P=x+1+z-P:=by
    rw[←Int.sub_emod_right,Int.emod_eq_of_lt (by omega) (by omega)]
   omega)
 have cN:Hid (∀(W:World) (u:Value),w.grownBy W (some g)→(W.setCell ⟨q,c,none⟩ u).cell? ⟨L,k*2+1,none⟩=some (.slice (some ⟨q,0,none⟩) len cap')∧(W.setCell ⟨q,c,none⟩ u).cell? ⟨F,0,none⟩=some (.int .i64 P)):=Zk (fun W u hg=>by
  obtain⟨h1,_,_,h2⟩:=HX.out W hg;exact⟨(World.cell?_of_block (Zo W ⟨q,c,none⟩ L u (by show L≠q;omega))).trans h1,(World.cell?_of_block (Zo W ⟨q,c,none⟩ F u (by show F≠q;omega))).trans h2⟩)
 clear hK hX hD;conv=>arg 2;whnf
 refine wp_region_noPanic ?_;refine wp_region_held_drew (S:=fun w'=>w'.cell? ⟨L,k*2+1,none⟩=some (.slice (some ⟨q,0,none⟩) len cap')∧w'.cell? ⟨F,0,none⟩=some (.int .i64 P)) (by kernel_rfl) ?_ (fun cB=> ?_)
 ·exact⟨l0,f0⟩
 refine wpAnyH_take (i:=0) (v:= ?_) rfl (by kernel_rfl) (by kernel_rfl) (by kernel_rfl) (fun _ _ _ h=>h) (Or.inl ⟨by rfl,?_⟩) (by assumption) ?_
 rotate_left 1
 ·intro w' cA;try dsimp only at cA
  go_simp<;>with_reducible rfl
 try simp only[Act.put,Zz,Zy,Zx]
 refine wpAnyH_take (i:=1) (v:= ?_) rfl (by kernel_rfl) (by kernel_rfl) (by kernel_rfl) (fun _ _ _ h=>h) (Or.inl ⟨by rfl,?_⟩) (by assumption) ?_
 rotate_left 1
 ·intro w' cA;try dsimp only at cA
  go_simp<;>with_reducible rfl
 try simp only[Act.put,Zz,Zy,Zx]
 refine wpAnyH_take (i:=2) (v:= ?_) rfl (by kernel_rfl) (by kernel_rfl) (by kernel_rfl) (fun _ _ _ h=>h) (Or.inl ⟨by rfl,?_⟩) (by assumption) ?_
 rotate_left 1
 ·intro w' cA;try dsimp only at cA
  go_simp<;>with_reducible rfl
 try simp only[Act.put,Zz,Zy,Zx]
 refine wpAnyH_take (i:=3) (v:= ?_) rfl (by kernel_rfl) (by kernel_rfl) (by kernel_rfl) (fun _ _ _ h=>h) (Or.inl ⟨by rfl,?_⟩) (by assumption) ?_
 rotate_left 1
 ·intro w' cA;try dsimp only at cA
  go_simp<;>with_reducible rfl
 try simp only[Act.put,Zz,Zy,Zx]
 refine wpAnyH_take (i:=4) (v:= ?_) rfl (by kernel_rfl) (by kernel_rfl) (by kernel_rfl) (fun _ _ _ h=>h) (Or.inl ⟨by rfl,?_⟩) (by assumption) ?_
 rotate_left 1
 ·intro w' cA;try dsimp only at cA
  go_simp<;>with_reducible rfl
 try simp only[Act.put,Zz,Zy,Zx]
 refine wpAnyH_take (i:=5) (v:= ?_) rfl (by kernel_rfl) (by kernel_rfl) (by kernel_rfl) (fun _ _ _ h=>h) (Or.inl ⟨by rfl,?_⟩) (by assumption) ?_
 rotate_left 1
 ·intro w' cA;try dsimp only at cA
  go_simp<;>with_reducible rfl
 try simp only[Act.put,Zz,Zy,Zx]
 refine wpAnyH_take (i:=6) (v:= ?_) rfl (by kernel_rfl) (by kernel_rfl) (by kernel_rfl) (fun _ _ _ h=>h) (Or.inl ⟨by rfl,?_⟩) (by assumption) ?_
 rotate_left 1
 ·intro w' cA;try dsimp only at cA
  go_simp<;>with_reducible rfl
 try simp only[Act.put,Zz,Zy,Zx]
 refine wpAnyH_take (i:=7) (v:= ?_) rfl (by kernel_rfl) (by kernel_rfl) (by kernel_rfl) (fun _ _ _ h=>h) (Or.inl ⟨by rfl,?_⟩) (by assumption) ?_
 rotate_left 1
 ·intro w' cA;try dsimp only at cA
  go_simp<;>with_reducible rfl
 try simp only[Act.put,Zz,Zy,Zx]
 refine wpAnyH_take (i:=8) (v:= ?_) rfl (by kernel_rfl) (by kernel_rfl) (by kernel_rfl) (fun _ _ _ h=>h) (Or.inl ⟨by rfl,?_⟩) (by assumption) ?_
 rotate_left 1
 ·intro w' cA;try dsimp only at cA
  go_simp<;>with_reducible rfl
 try simp only[Act.put,Zz,Zy,Zx]
 refine wpAnyH_take (i:=9) (v:= ?_) rfl (by kernel_rfl) (by kernel_rfl) (by kernel_rfl) (fun _ _ _ h=>h) (Or.inl ⟨by rfl,?_⟩) (by assumption) ?_
 rotate_left 1
 ·intro w' cA;try dsimp only at cA
  go_simp<;>with_reducible rfl
 try simp only[Act.put,Zz,Zy,Zx]
 refine wpAnyH_take (i:=10) (v:= ?_) rfl (by kernel_rfl) (by kernel_rfl) (by kernel_rfl) (fun _ _ _ h=>h) (Or.inl ⟨by rfl,?_⟩) (by assumption) ?_
 rotate_left 1
 ·intro w' cA;try dsimp only at cA
  go_simp<;>with_reducible rfl
 try simp only[Act.put,Zz,Zy,Zx]
 refine wpAnyH_take (i:=11) (v:= ?_) rfl (by kernel_rfl) (by kernel_rfl) (by kernel_rfl) (fun _ _ _ h=>h) (Or.inl ⟨by rfl,?_⟩) (by assumption) ?_
 rotate_left 1
 ·intro w' cA;try dsimp only at cA
  go_simp<;>with_reducible rfl
 try simp only[Act.put,Zz,Zy,Zx]
 refine wpAnyH_take (i:=12) (v:= ?_) rfl (by kernel_rfl) (by kernel_rfl) (by kernel_rfl) (fun _ _ _ h=>h) (Or.inl ⟨by rfl,?_⟩) (by assumption) ?_
 rotate_left 1
 ·intro w' cA;try dsimp only at cA
  go_simp<;>with_reducible rfl
 try simp only[Act.put,Zz,Zy,Zx]
 refine wpAnyH_take (i:=15) (v:= ?_) rfl (by kernel_rfl) (by kernel_rfl) (by kernel_rfl) (fun _ _ _ h=>h) (Or.inl ⟨by rfl,?_⟩) (by assumption) ?_
 rotate_left 1
 ·intro w' cA;try dsimp only at cA
  go_simp<;>with_reducible rfl
 try simp only[Act.put,Zz,Zy,Zx]
 refine wpAnyH_take (i:=16) (v:= ?_) rfl (by kernel_rfl) (by kernel_rfl) (by kernel_rfl) (fun _ _ _ h=>h) (Or.inl ⟨by rfl,?_⟩) (by assumption) ?_
 rotate_left 1
 ·intro w' cA;try dsimp only at cA
  go_simp<;>with_reducible rfl
 try simp only[Act.put,Zz,Zy,Zx]
 refine wpAnyH_take (i:=17) (v:= ?_) rfl (by kernel_rfl) (by kernel_rfl) (by kernel_rfl) (fun _ _ _ h=>h) (Or.inl ⟨by rfl,?_⟩) (by assumption) ?_
 rotate_left 1
 ·intro w' cA;try dsimp only at cA
  go_simp<;>with_reducible rfl
 try simp only[Act.put,Zz,Zy,Zx]
 refine wpAnyH_take (i:=18) (v:= ?_) rfl (by kernel_rfl) (by kernel_rfl) (by kernel_rfl) (fun _ _ _ h=>h) (Or.inl ⟨by rfl,?_⟩) (by assumption) ?_
 rotate_left 1
 ·intro w' cA;try dsimp only at cA
  go_simp<;>with_reducible rfl
 try simp only[Act.put,Zz,Zy,Zx]
 refine wpAnyH_take (i:=21) (v:= ?_) rfl (by kernel_rfl) (by kernel_rfl) (by kernel_rfl) (fun _ _ _ h=>h) (Or.inl ⟨by rfl,?_⟩) (by assumption) ?_
 rotate_left 1
 ·intro w' cA;try dsimp only at cA
  go_simp<;>with_reducible rfl
 try simp only[Act.put,Zz,Zy,Zx]
 refine wpAnyH_take (i:=22) (v:= ?_) rfl (by kernel_rfl) (by kernel_rfl) (by kernel_rfl) (fun _ _ _ h=>h) (Or.inl ⟨by rfl,?_⟩) (by assumption) ?_
 rotate_left 1
 ·intro w' cA;try dsimp only at cA
  go_simp<;>with_reducible rfl
 try simp only[Act.put,Zz,Zy,Zx]
 refine wpAnyH_ready (rs:=[13,19]) (by kernel_rfl) (by simp) ?_;refine AllReadyH.cons (o:=_) rfl (fun K hK=> ?_) ?_
 ·go_simp;refine hK.out _ _ ?_ (fun cB=> ?_)
  ·exact⟨l0,f0⟩
  clear hK K;try simp only[Act.put,Zz,Zy,Zx]
  refine wpAnyH_take (i:=14) (v:= ?_) rfl (by kernel_rfl) (by kernel_rfl) (by kernel_rfl) (fun _ _ _ h=>h) (Or.inl ⟨by rfl,?_⟩) (by assumption) ?_
  rotate_left 1
  ·intro w' cA;try dsimp only at cA
   go_simp<;>with_reducible rfl
  try simp only[Act.put,Zz,Zy,Zx]
  refine wpAnyH_ready (rs:=[19]) (by kernel_rfl) (by simp) ?_;refine AllReadyH.cons (o:=_) rfl (fun K hK=> ?_) ?_
  ·go_simp;go_at_call 12;refine (cL.out _ (by first|exact cK.out|exact cF.out) (by exact HD.out)).mono ?_;rintro e9 w9 ⟨z,rfl,cI,cJ,cH,cC⟩;have cD:Hid (w.grownBy w9 (some g)):=Zk (⟨cC.os,cC.tape,cC.output,cC.size,cC.block⟩);have cE:=Zk cH;obtain⟨l0,q0,q1,f0⟩:=HX.out w9 cD.out;obtain⟨y1,y2,y3,y4,y5,y6⟩:=cM.out z cI cJ;have cG:=Zk y6;clear cH cC y6
   refine hK.out _ _ ?_ (fun cB=> ?_)
   ·exact⟨l0,f0⟩
   clear hK K;try simp only[Act.put,Zz,Zy,Zx]
   refine wpAnyH_take (i:=20) (v:= ?_) rfl (by kernel_rfl) (by kernel_rfl) (by kernel_rfl) (fun _ _ _ h=>h) (Or.inl ⟨by rfl,?_⟩) (by assumption) ?_
   rotate_left 1
   ·intro w' cA;try dsimp only at cA
    go_simp<;>with_reducible rfl
   try simp only[Act.put,Zz,Zy,Zx]
   refine wpAnyH_take (i:=23) (v:= ?_) rfl (by kernel_rfl) (by kernel_rfl) (by kernel_rfl) (fun _ _ _ h=>h) (Or.inl ⟨by rfl,?_⟩) (by assumption) ?_
   rotate_left 1
   ·intro w' cA;try dsimp only at cA
    go_simp<;>with_reducible rfl
   try simp only[Act.put,Zz,Zy,Zx]
   refine wpAnyH_take (i:=24) (v:= ?_) rfl (by kernel_rfl) (by kernel_rfl) (by kernel_rfl) (fun _ _ _ h=>h) (Or.inl ⟨by rfl,?_⟩) (by assumption) ?_
   rotate_left 1
   ·intro w' cA;try dsimp only at cA
    go_simp<;>with_reducible rfl
   try simp only[Act.put,Zz,Zy,Zx]
   refine wpAnyH_ready (rs:=[25]) (by kernel_rfl) (by simp) ?_;refine AllReadyH.cons (o:=_) rfl (fun K hK=> ?_) ?_
   ·go_simp;refine hK.out _ _ ?_ (fun cB=> ?_)
    ·exact cN.out _ _ cD.out
    clear hK K;try simp only[Act.put,Zz,Zy,Zx]
    refine wpAnyH_done (by kernel_rfl) ?_ _;refine NoPanic.normal ?_;have hk:=HK.out;first
     |exact hk _ _ _ _ _ _ _ _ _ _ _ _ _ _ _ _ _ _ _ _ _ _ _ _ _ ((x+1+z)%P) w9 _ ⟨cD.out,cE.out,y4,y5,cG.out,rfl⟩
     |exact hk _ _ _ _ _ _ _ _ _ _ _ _ _ _ _ _ _ _ _ _ _ _ _ _ _ ((x+1+z)%P) w9.drew _ ⟨Af cD.out (Ag (Zb _ w9).drew _),cE.out,y4,y5,cG.out,rfl⟩
   exact AllReadyH.nil
  exact AllReadyH.nil
 refine AllReadyH.cons (o:=_) rfl (fun K hK=> ?_) ?_
 ·go_simp;go_at_call 12;refine (cL.out _ (by first|exact cK.out|exact cF.out) (by exact HD.out)).mono ?_;rintro e9 w9 ⟨z,rfl,cI,cJ,cH,cC⟩;have cD:Hid (w.grownBy w9 (some g)):=Zk (⟨cC.os,cC.tape,cC.output,cC.size,cC.block⟩);have cE:=Zk cH;obtain⟨l0,q0,q1,f0⟩:=HX.out w9 cD.out;obtain⟨y1,y2,y3,y4,y5,y6⟩:=cM.out z cI cJ;have cG:=Zk y6;clear cH cC y6
  refine hK.out _ _ ?_ (fun cB=> ?_)
  ·exact⟨l0,f0⟩
  clear hK K;try simp only[Act.put,Zz,Zy,Zx]
  refine wpAnyH_ready (rs:=[13]) (by kernel_rfl) (by simp) ?_;refine AllReadyH.cons (o:=_) rfl (fun K hK=> ?_) ?_
  ·go_simp;refine hK.out _ _ ?_ (fun cB=> ?_)
   ·exact⟨l0,f0⟩
   clear hK K;try simp only[Act.put,Zz,Zy,Zx]
   refine wpAnyH_take (i:=14) (v:= ?_) rfl (by kernel_rfl) (by kernel_rfl) (by kernel_rfl) (fun _ _ _ h=>h) (Or.inl ⟨by rfl,?_⟩) (by assumption) ?_
   rotate_left 1
   ·intro w' cA;try dsimp only at cA
    go_simp<;>with_reducible rfl
   try simp only[Act.put,Zz,Zy,Zx]
   refine wpAnyH_take (i:=20) (v:= ?_) rfl (by kernel_rfl) (by kernel_rfl) (by kernel_rfl) (fun _ _ _ h=>h) (Or.inl ⟨by rfl,?_⟩) (by assumption) ?_
   rotate_left 1
   ·intro w' cA;try dsimp only at cA
    go_simp<;>with_reducible rfl
   try simp only[Act.put,Zz,Zy,Zx]
   refine wpAnyH_take (i:=23) (v:= ?_) rfl (by kernel_rfl) (by kernel_rfl) (by kernel_rfl) (fun _ _ _ h=>h) (Or.inl ⟨by rfl,?_⟩) (by assumption) ?_
   rotate_left 1
   ·intro w' cA;try dsimp only at cA
    go_simp<;>with_reducible rfl
   try simp only[Act.put,Zz,Zy,Zx]
   refine wpAnyH_take (i:=24) (v:= ?_) rfl (by kernel_rfl) (by kernel_rfl) (by kernel_rfl) (fun _ _ _ h=>h) (Or.inl ⟨by rfl,?_⟩) (by assumption) ?_
   rotate_left 1
   ·intro w' cA;try dsimp only at cA
    go_simp<;>with_reducible rfl
   try simp only[Act.put,Zz,Zy,Zx]
   refine wpAnyH_ready (rs:=[25]) (by kernel_rfl) (by simp) ?_;refine AllReadyH.cons (o:=_) rfl (fun K hK=> ?_) ?_
   ·go_simp;refine hK.out _ _ ?_ (fun cB=> ?_)
    ·exact cN.out _ _ cD.out
    clear hK K;try simp only[Act.put,Zz,Zy,Zx]
    refine wpAnyH_done (by kernel_rfl) ?_ _;refine NoPanic.normal ?_;have hk:=HK.out;first
     |exact hk _ _ _ _ _ _ _ _ _ _ _ _ _ _ _ _ _ _ _ _ _ _ _ _ _ ((x+1+z)%P) w9 _ ⟨cD.out,cE.out,y4,y5,cG.out,rfl⟩
     |exact hk _ _ _ _ _ _ _ _ _ _ _ _ _ _ _ _ _ _ _ _ _ _ _ _ _ ((x+1+z)%P) w9.drew _ ⟨Af cD.out (Ag (Zb _ w9).drew _),cE.out,y4,y5,cG.out,rfl⟩
   exact AllReadyH.nil
  exact AllReadyH.nil
 exact AllReadyH.nil
open Go.RowKit Go.Shelf
set_option maxRecDepth 100000 in
theorem Uq(rows:List (List Int))(v:Value)(w:World)(h:SL w v rows):
  Calls Tryz.prog 21 #[v] w fun e w'=>∃b,e= .returned (.bool b)∧w=w':=by
 have aF:rows.length≤9223372036854775807:=by
  obtain⟨_,_,_,h1,h2,_⟩:=h;omega
 obtain⟨A,c,rfl,aB⟩:=h.at
 have aC:=Zk aB
 clear h aB
 obtain⟨nr,aA⟩:∃nr,nr=rows.length:=⟨_,rfl⟩;rw[←aA] at aF⊢;have aD:=Zk aA;clear aA;go_enter Tryz.func21,Tryz.ntmps21;go_wp2_with fail;go_loopw [3,8] (fun sv iv wr=>∃(j:Nat) (s:Int),j≤nr∧iv= .int .i64 j∧sv= .int .i64 s∧w=wr) (fun _ iv _=>nr- (intOf iv).toNat)
 case atStart=>exact⟨0,0,Nat.zero_le _,rfl,rfl,rfl⟩
 case round=>
  obtain⟨j,s,hj,rfl,rfl,hw⟩:=hrel;subst hw;by_cases hlt:j<nr
  ·have dj:decide ((j:Int)<(nr:Int))=true:=Ze (by omega);have aE:decide (j<nr)=true:=Ze hlt;obtain⟨bh,oh,B,d,eA,hW⟩:=aC.out j (by rw[←aD.out];exact hlt);subst eA;obtain⟨cj,_⟩:=hW w (Zb _ _);have z0:(0:Int)≤(j:Int):=by omega
   have z1:(j:Int)<(nr:Int):=by omega
   have wj:IntKind.i64.wrap ((j:Int)+1)=(j:Int)+1:=by exact Zi _ (by omega)
   clear hW;go_wp2_with fail;go_roundw
   case rel=>
    refine⟨j+1,_,by omega,by go_num,rfl,?_⟩;first|rfl|trivial
   case measure=>simp[intOf];omega
  ·have dj:decide ((j:Int)<(nr:Int))=false:=Zd (by omega);have aE:decide (j<nr)=false:=Zd hlt;go_wp2_with fail;go_ret;exact⟨_,rfl,rfl⟩
structure CR (G:Nat) (W:World) (pv:Value) (vs:List Value) (ps:List (List Int)):Prop where
 len:vs.length=ps.length
 hdr:W.ownsRow G 22 1 pv vs.length vs
 row:∀j (h:j<vs.length) (h':j<ps.length),W.ownsRow G 3 1 vs[j] ps[j].length (ps[j].map (Value.int .i64))
 apart:∀j (h:j<vs.length),∀b,vs[j].ownBlock=some b→pv.ownBlock≠some b
theorem CR.nil(W:World)(G:Nat):CR G W (.slice none 0 0) [] []:=⟨rfl,World.ownsRow_nil _ _ _ _,fun j h=>by simp at h,fun j h=>by simp at h⟩
theorem CR.below{G:Nat}{W W':World}{pv:Value}{vs:List Value}{ps:List (List Int)}(h:CR G W pv vs ps)(hb:Below W.heap.size W W'):CR G W' pv vs ps:=
 ⟨h.len,Be h.hdr hb,fun j h1 h2=>Be (h.row j h1 h2) hb,h.apart⟩
theorem CR.app{G:Nat}{W W':World}{pv pv':Value}{vs:List Value}{ps:List (List Int)}{v:Value}{l:List Int}(h:CR G W pv vs ps)
  (hv:W.ownsRow G 3 1 v l.length (l.map (Value.int .i64))) (hx:∀b,v.ownBlock=some b→pv.ownBlock≠some b)
  (ho:W'.ownsRow G 22 1 pv' (vs.length+1) (vs++[v])) (hg:W.grownBy W' pv.ownBlock) (hat:∀q,pv'.ownBlock=some q→pv.ownBlock=some q∨q=W.heap.size):CR G W' pv' (vs++[v]) (ps++[l]):=by
 have aA:∀(u:Value) (xs:List Int),W.ownsRow G 3 1 u xs.length (xs.map (Value.int .i64))→(∀b,u.ownBlock=some b→pv.ownBlock≠some b)→W'.ownsRow G 3 1 u xs.length (xs.map (Value.int .i64))∧∀b,u.ownBlock=some b→pv'.ownBlock≠some b:=fun u xs hu hn=>
  ⟨Cb hu fun b hb=>hg.block b (hu.lt b hb).2 (fun e=>hn b hb e.symm),fun b hb e=>by
   rcases hat b e with h3|h3
   ·exact hn b hb h3
   ·have:=(hu.lt b hb).2;omega⟩
 refine⟨by simp[h.len],by simpa using ho,fun j h1 h2=> ?_,fun j h1=> ?_⟩
 ·by_cases hj:j<vs.length
  ·have aB:j<ps.length:=by rw[←h.len];exact hj
   rw[List.getElem_append_left hj,List.getElem_append_left aB];exact (aA _ _ (h.row j hj aB) (h.apart j hj)).1
  ·have e1:j=vs.length:=by simp at h1;omega
   subst e1;have e2:(vs++[v])[vs.length]'h1=v:=by simp
   have e3:(ps++[l])[vs.length]'h2=l:=by simp[h.len]
   rw[e2,e3];exact (aA v l hv hx).1
 ·by_cases hj:j<vs.length
  ·rw[List.getElem_append_left hj];exact (aA _ _ (h.row j hj (by rw[←h.len];exact hj)) (h.apart j hj)).2
  ·have e1:j=vs.length:=by simp at h1;omega
   subst e1;have e2:(vs++[v])[vs.length]'h1=v:=by simp
   rw[e2];exact (aA v l hv hx).2
def CrR(rows:List (List Int))(w:World)(ov iv:Value)(wr:World):Prop:=
 ∃(j:Nat) (vs:List Value),j≤rows.length∧iv= .int .i64 j∧CR w.heap.size wr ov vs (rows.take j)∧Below w.heap.size w wr
set_option maxRecDepth 100000 in
set_option maxHeartbeats 4000000 in
theorem Nl(rows:List (List Int))(v:Value)(w:World)(h:SL w v rows)(hz:rows.length≤1000)(hl:∀r∈rows,r.length≤100000):
  Calls Tryz.prog 29 #[v] w fun e w'=>∃v' vs,e= .returned v'∧CR w.heap.size w' v' vs rows∧Below w.heap.size w w':=by
 obtain⟨A,c,rfl,aT⟩:=h.at
 have aX:=Zk aT
 have HL:=Zk hl;clear h aT hl;obtain⟨nr,aL⟩:∃nr,nr=rows.length:=⟨_,rfl⟩;rw[←aL] at hz⊢;have aG:=Zk aL;clear aL;go_enter Tryz.func29,Tryz.ntmps29;go_wp2_with fail;go_loopw [3,8] (fun ov iv wr=>CrR rows w ov iv wr) (fun _ iv _=>nr- (intOf iv).toNat)
 case atStart=>exact⟨0,[],Nat.zero_le _,rfl,CR.nil _ _,Zb _ _⟩
 case round=>
  obtain⟨j,vs,hj,rfl,aM,aC⟩:=hrel;rw[←aG.out] at hj;have aE:=Zk aM;have HB:=Zk aC;have aP:=aC.size;have aV:vs.length=j:=by rw[aM.len,List.length_take,←aG.out];omega
  clear aM aC;have wj:IntKind.i64.wrap ((j:Int)+1)=(j:Int)+1:=by exact Zi _ (by omega)
  by_cases hlt:j<nr
  ·have dj:decide ((j:Int)<(nr:Int))=true:=Ze (by omega);have aZ:decide (j<nr)=true:=Ze hlt;have aN:j<rows.length:=by rw[←aG.out];exact hlt
   obtain⟨bh,oh,B,d,eA,hW⟩:=aX.out j aN;subst eA;obtain⟨cj,aO⟩:=hW wr HB.out;have bB:=HL.out rows[j] (List.getElem_mem aN);have aI:Hid (rows.take (j+1)=rows.take j++[rows[j]]):=Zk (List.take_succ_eq_append_getElem aN);obtain⟨r,er⟩:∃r,r=rows[j]:=⟨_,rfl⟩;rw[←er] at cj aO bB aI;have aS:=Zk aO;obtain⟨lr,aK⟩:∃lr,lr=r.length:=⟨_,rfl⟩;rw[←aK] at cj aS;have HLR:=Zk aK;have z0:(0:Int)≤(j:Int):=by omega
   have z1:(j:Int)<(nr:Int):=by omega
   clear hW aO er aK;go_wp2_with (at_builtin;first
    |(refine Bm wr (by rfl) _ _ 22 (by rfl) wr.heap.size 3 Tryz.underlying22 Bf (.slice none 0 0) [] (by rfl) (World.ownsRow_nil _ _ _ _) wr.heap.size (.slice B lr d) r (by rfl) (by exact aS.out) (by simp;omega) (Zl _) ?_;intro v2 w2 aA aD;rw[List.nil_append] at aA;obtain⟨A2,c2,bA⟩:=Bn aA;subst bA;have aR:=Zk aA;have aJ:Hid (Below wr.heap.size wr w2):=Zk (⟨aD.os,aD.tape,aD.output,aD.size,fun i hi=>aD.block i hi (by simp[Value.ownBlock])⟩);have aF:Hid (CR w.heap.size (w2.alloc (.cells #[.slice A2 r.length c2] 22)) u3 vs (rows.take j)):=Zk ((aE.out.below aJ.out).below ((Zb _ w2).alloc (Zl _) _));have bC:w.heap.size≤w2.heap.size:=Nat.le_trans aP aJ.out.size;clear aA aD)
    |(refine Cl _ (by rfl) _ _ 42 (by rfl) w.heap.size 22 (.slice none 0 0) 24 Tryz.underlying42 Hq u3 j vs (by rfl) (by rw[←aV];exact aF.out.hdr) (.slice A2 r.length c2) (by rfl) w2.heap.size (by rfl) (by exact Ax w2 [.slice A2 r.length c2] 22 0 _ rfl) (by omega) (by omega) (by rfl) (by simp;omega) ?_;intro g9 cap9 w9 aB aU aH;have aY:=Zk aB;have aQ:=Zk aU;have aW:=Zk aH;clear aB aU aH))
   go_roundw
   case rel=>
    refine⟨j+1,vs++[.slice A2 r.length c2],by rw[←aG.out];omega,by go_num,?_,?_⟩
    ·rw[aI.out];refine aF.out.app (Bt (aR.out.alloc _) aP) (fun b hb e=>by have:=(aE.out.hdr.lt b e).2;have:=(aR.out.lt b hb).1;omega) (by rw[aV];exact aY.out) aQ.out (fun g hg=>by
      have e:g9=g:=by simpa [Value.ownBlock] using hg
      rw[←e];exact aW.out)
    ·exact (HB.out.trans (aJ.out.mono aP)).alloc bC _|>.grown aQ.out (by simp;omega) (fun b hb=>(aE.out.hdr.lt b hb).1)
   case measure=>simp[intOf];omega
  ·have dj:decide ((j:Int)<(nr:Int))=false:=Zd (by omega);have aZ:decide (j<nr)=false:=Zd hlt;have aI:Hid (rows.take j=rows):=Zk (List.take_of_length_le (by rw[←aG.out];omega));rw[aI.out] at aE;clear hlt;go_wp2_with fail;go_ret;exact⟨_,vs,rfl,aE.out,HB.out⟩
open Go.RowKit
theorem AlR.uniq{P k:Int}{l:List (Bool×List Int)}{n:Nat}{ps qs:List (List Int)}{ws vs:List Int}(h:AlR P k l n ps ws)(h':AlR P k l n qs vs):ps=qs∧ws=vs:=by
 obtain⟨a1,a2,a3⟩:=h;obtain⟨b1,b2,b3⟩:=h';have e:ps=qs:=List.ext_getElem (by omega) fun i h1 h2=>((a2 i h1).uniq (b2 i h2)).1
 subst e;exact⟨rfl,a3.trans b3.symm⟩
theorem AlR.no{P k:Int}{l:List (Bool×List Int)}{n:Nat}{ps:List (List Int)}{ws:List Int}(h:AlR P k l n ps ws)(h':AlN P k l n):False:=by
 obtain⟨a1,a2,a3⟩:=h;obtain⟨i,hi,o,er,hu,he⟩:=h';exact he ((a2 i (by omega)).uniq hu).2.symm
theorem DeR.uniq{P n t width:Int}{l:List (Bool×List Int)}{row row' ws ws':List Int}{er er':Int}(h:DeR P n t width l row ws er)(h':DeR P n t width l row' ws' er'):row=row'∧ws=ws'∧er=er':=by
 rcases h with⟨a1,a2,a3,a4⟩|⟨a1,a⟩
 ·rcases h' with⟨b1,b2,b3,b4⟩|⟨b1,b⟩
  ·exact⟨a3.trans b3.symm,a4.trans b4.symm,a2.trans b2.symm⟩
  ·exact absurd b1 a1
 ·rcases h' with⟨b1,_⟩|⟨_,b⟩
  ·exact absurd a1 b1
  ·rcases a with⟨a1,a2,a3,a4⟩|⟨a1,a⟩
   ·rcases b with⟨b1,b2,b3,b4⟩|⟨b1,b⟩
    ·exact⟨a3.trans b3.symm,a4.trans b4.symm,a2.trans b2.symm⟩
    ·exact absurd b1 a1
   ·rcases b with⟨b1,_⟩|⟨_,b⟩
    ·exact absurd a1 b1
    ·rcases a with⟨a1,a2,a3,a4⟩|⟨ps,a1,a2,a3⟩
     ·rcases b with⟨b1,b2,b3,b4⟩|⟨qs,b1,b2,b3⟩
      ·exact⟨a3.trans b3.symm,a4.trans b4.symm,a2.trans b2.symm⟩
      ·exact (b1.no a1).elim
     ·rcases b with⟨b1,b2,b3,b4⟩|⟨qs,b1,b2,b3⟩
      ·exact (a1.no b1).elim
      ·obtain⟨e1,e2⟩:=a1.uniq b1;subst e1;exact⟨a2.trans b2.symm,e2,a3.trans b3.symm⟩
theorem WaR.uniq{P n t:Int}{rows:List (List Int)}{a a':Nat}{o o':Bool}{er er':Int}(h:WaR P n t rows a o er)(h':WaR P n t rows a' o' er'):a=a'∧o=o'∧er=er':=by
 rcases h with⟨a1,a2,a3,a4⟩|⟨a1,x⟩
 ·rcases h' with⟨b1,b2,b3,b4⟩|⟨b1,y⟩
  ·exact⟨a3.trans b3.symm,a4.trans b4.symm,a2.trans b2.symm⟩
  ·exact absurd b1 a1
 ·rcases h' with⟨b1,_⟩|⟨_,y⟩
  ·exact absurd a1 b1
  ·rcases x with⟨a1,a2,a3,a4⟩|⟨a1,x⟩
   ·rcases y with⟨b1,b2,b3,b4⟩|⟨b1,y⟩
    ·exact⟨a3.trans b3.symm,a4.trans b4.symm,a2.trans b2.symm⟩
    ·rw[a1] at b1;exact Bool.noConfusion b1
   ·rcases y with⟨b1,_⟩|⟨_,y⟩
    ·rw[a1] at b1;exact Bool.noConfusion b1
    ·rcases x with⟨a1,a2,a3,a4⟩|⟨a1,a2,x⟩
     ·rcases y with⟨b1,b2,b3,b4⟩|⟨b1,b2,y⟩
      ·exact⟨a3.trans b3.symm,a4.trans b4.symm,a2.trans b2.symm⟩
      ·rw[a1] at b1;exact Bool.noConfusion b1
     ·rcases y with⟨b1,_⟩|⟨_,b2,y⟩
      ·rw[a1] at b1;exact Bool.noConfusion b1
      ·refine (fun (hh:a=a'∧o=o')=>⟨hh.1,hh.2,a2.trans b2.symm⟩) ?_
       rcases x with⟨x1,x2,x3⟩|⟨ps,ws,x1,x2⟩
       ·rcases y with⟨y1,y2,y3⟩|⟨qs,vs,y1,y2⟩
        ·exact⟨x2.trans y2.symm,x3.trans y3.symm⟩
        ·exact (y1.no x1).elim
       ·rcases y with⟨y1,y2,y3⟩|⟨qs,vs,y1,y2⟩
        ·exact (x1.no y1).elim
        ·obtain⟨e1,_⟩:=x1.uniq y1;subst e1;have e:=x2.trans y2.symm;injection e with e1 e2;exact⟨e1,e2⟩
end Go.Proofs.YtbgabipngdillaaGreatDoor
