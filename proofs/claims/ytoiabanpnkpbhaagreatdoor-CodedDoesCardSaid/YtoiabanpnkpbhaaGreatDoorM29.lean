/- Parts. -/
import Derived.Test.YtoiabanpnkpbhaaGreatDoorM27
import Derived.Test.YtoiabanpnkpbhaaGreatDoorM28
set_option linter.unusedVariables false
set_option linter.unusedSimpArgs false
set_option maxRecDepth 100000
set_option maxHeartbeats 4000000
namespace Go.Proofs.YtoiabanpnkpbhaaGreatDoor
open Go.RowKit
def SLE(g:Nat)(w:World)(v:Value)(rows:List (List Int)):Prop:=
 ∃A c,v= .slice A rows.length c∧rows.length≤c∧c≤9223372036854775807∧
  (0<rows.length→∃b off,A=some ⟨b,off,none⟩∧b<w.heap.size∧b≠g∧∀j (h:j<rows.length),∃B d,w.cell? ⟨b,off+j,none⟩=some (.slice B rows[j].length d)∧SE g w (.slice B rows[j].length d) rows[j])
theorem SLE.grown{g:Nat}{w w':World}{v:Value}{rows:List (List Int)}(h:SLE g w v rows)(hg:w.grownBy w' (some g)):SLE g w' v rows:=by
 obtain⟨A,c,rfl,hc,hm,ha⟩:=h;refine⟨A,c,rfl,hc,hm,fun h0=> ?_⟩
 obtain⟨b,aC,rfl,hb,aB,aA⟩:=ha h0;refine⟨b,aC,rfl,by have:=hg.size;omega,aB,fun j hj=> ?_⟩
 obtain⟨B,d,h1,h2⟩:=aA j hj;exact⟨B,d,(World.cell?_of_block (hg.block b hb (by simp;exact aB))).trans h1,h2.grown hg⟩
theorem SLE.below{g:Nat}{w w':World}{v:Value}{rows:List (List Int)}(h:SLE g w v rows)(hb:Below w.heap.size w w'):SLE g w' v rows:=h.grown (Af hb _)
theorem SLE.sl{g:Nat}{w:World}{v:Value}{rows:List (List Int)}(h:SLE g w v rows):SL w v rows:=by
 obtain⟨A,c,rfl,hc,hm,ha⟩:=h;refine⟨A,c,rfl,hc,hm,fun h0=> ?_⟩
 obtain⟨b,aB,rfl,hb,hbg,aA⟩:=ha h0;refine⟨b,aB,rfl,hb,fun j hj=> ?_⟩
 obtain⟨B,d,h1,h2⟩:=aA j hj;exact⟨B,d,h1,h2.si⟩
theorem SLE.form{g:Nat}{w:World}{v:Value}{rows:List (List Int)}(h:SLE g w v rows):∃A c,v= .slice A rows.length c:=by
 obtain⟨A,c,rfl,_⟩:=h;exact⟨A,c,rfl⟩
theorem SX.se{W:World}{X:Option Nat}{g:Nat}{v:Value}{l:List Int}(h:SX W X (some g) v l):SE g W v l:=by
 obtain⟨A,c,rfl,hc,hm,hr,ha⟩:=h;refine⟨A,c,rfl,hc,hm,hr,fun h0=> ?_⟩
 obtain⟨b,aC,rfl,aB,_,hy,aA⟩:=ha h0;exact⟨b,aC,rfl,aB,fun e=>hy (by rw[e]),aA⟩
structure RW (G g:Nat) (W:World) (pv:Value) (vs:List Value) (ps:List (List Int)):Prop where
 len:vs.length=ps.length
 hdr:W.ownsRow G 22 1 pv vs.length vs
 row:∀j (h:j<vs.length) (h':j<ps.length),SX W pv.ownBlock (some g) vs[j] ps[j]
theorem RW.nil(W:World)(G g:Nat):RW G g W (.slice none 0 0) [] []:=⟨rfl,World.ownsRow_nil _ _ _ _,fun j h=>by simp at h⟩
theorem RW.grown{G g:Nat}{W W':World}{pv:Value}{vs:List Value}{ps:List (List Int)}(h:RW G g W pv vs ps)(hgG:g<G)(hg:W.grownBy W' (some g)):RW G g W' pv vs ps:=
 ⟨h.len,Bu h.hdr fun b hb=>hg.block b (h.hdr.lt b hb).2 (by have:=(h.hdr.lt b hb).1;simp;omega),fun j h1 h2=>(h.row j h1 h2).keep hg.size fun b aA hx hy=>⟨hg.block b aA hy,hx,hy⟩⟩
theorem RW.below{G g:Nat}{W W':World}{pv:Value}{vs:List Value}{ps:List (List Int)}(h:RW G g W pv vs ps)(hgG:g<G)(hb:Below W.heap.size W W'):RW G g W' pv vs ps:=h.grown hgG (Af hb _)
theorem RW.app{G g:Nat}{W W':World}{pv pv':Value}{vs:List Value}{ps:List (List Int)}{v:Value}{l:List Int}(h:RW G g W pv vs ps)
  (hx:SX W pv.ownBlock (some g) v l) (ho:W'.ownsRow G 22 1 pv' (vs.length+1) (vs++[v])) (hg:W.grownBy W' pv.ownBlock) (hat:∀q,pv'.ownBlock=some q→pv.ownBlock=some q∨q=W.heap.size):RW G g W' pv' (vs++[v]) (ps++[l]):=by
 have hk:∀b,b<W.heap.size→some b≠pv.ownBlock→some b≠some g→W'.heap[b]? =W.heap[b]? ∧some b≠pv'.ownBlock∧some b≠some g:=fun b hb h1 h2=>
  ⟨hg.block b hb h1,fun e=>by rcases hat b e.symm with h3|h3;exact h1 h3.symm;omega,h2⟩
 refine⟨by simp[h.len],by simpa using ho,fun j h1 h2=> ?_⟩
 by_cases hj:j<vs.length
 ·have aA:j<ps.length:=by rw[←h.len];exact hj
  simp only[List.getElem_append_left hj,List.getElem_append_left aA];exact (h.row j hj aA).keep hg.size hk
 ·have aB:j=vs.length:=by simp at h1;omega
  have hj2:j=ps.length:=by rw[←h.len];exact aB
  subst aB;have e1:(vs++[v])[vs.length]'h1=v:=by simp
  have e2:(ps++[l])[vs.length]'h2=l:=by simp[h.len]
  rw[e1,e2];exact hx.keep hg.size hk
theorem RW.sle{G g:Nat}{W:World}{pv:Value}{vs:List Value}{ps:List (List Int)}(h:RW G g W pv vs ps)(hgG:g<G):SLE g W pv ps:=by
 rcases h.hdr.2 with⟨rfl,hn⟩|⟨b,aB,cur,rfl,hb,aD,aE,aC,hcs,htake⟩
 ·have:ps=[]:=List.eq_nil_of_length_eq_zero (by rw[←h.len];exact hn);subst this;exact⟨none,0,rfl,Zl _,by omega,fun h=>by simp at h⟩
 ·refine⟨some ⟨b,0,none⟩,aB,by rw[h.len],by rw[←h.len];exact aE,by simpa [maxLen] using aC,fun h0=>⟨b,0,rfl,(Array.getElem?_eq_some_iff.1 aD).1,by omega,fun j hj=> ?_⟩⟩
  have aA:j<vs.length:=by rw[h.len];exact hj
  have h1:=h.hdr.cellAt j (by omega);have h3:=(h.row j aA hj).se;obtain⟨B',d,e⟩:=h3.form;rw[Nat.zero_add];rw[List.getElem?_eq_getElem aA,e] at h1;rw[e] at h3;exact⟨B',d,h1,h3⟩
theorem Bt{P:Program}(w:World){ops:Array Oper}{rest:List Oper}{o:Oper}{a:Act}{Q:Exit→Act→World→Prop}(hgd:o.guard=none)(s x:Operand)(t:TypeId)
  (ho:o.op= .call {callee:= .builtin .append,args:= #[s,x],argTypes:= #[t,t]})
  (base:Nat) (e:TypeId) (z:Value) (by':Nat) (ht:P.underlying t=some (.slice e)) (hinfo:(P.info? e).map (fun i=>(i.zero,i.size,i.bytes))=some (some z,1,by'))
  (v:Value) (n:Nat) (xs:List Value) (hs:a.eval s=v) (hown:w.ownsRow base e 1 v n xs)
  (y:Value) (hy:y.oneCell'=true) (b:Nat) (hx:a.eval x= .slice (some ⟨b,0,none⟩) 1 1) (hc:w.cell? ⟨b,0,none⟩=some y)
  (hbytes:(n+1)*by'≤140737488355328) (hn:n≤1000000) (hzs:z.cells.size=1) (hbase:base≤w.heap.size)
  (h:∀g aA w',w'.ownsRow base e 1 (.slice (some ⟨g,0,none⟩) (n+1) aA) (n+1) (xs++[y])→w.grownBy w' v.ownBlock→(v.ownBlock=some g∨g=w.heap.size)→wpList P ops Q rest (a.put o.dst (.slice (some ⟨g,0,none⟩) (n+1) aA)) w'):
  wpList P ops Q (o::rest) a w:=by
 obtain⟨i0,aC,aE,aF,aG⟩:=info_parts hinfo;obtain⟨v',w',aB,h2,h3,h4⟩:=Cx (P:=P) w base t o.type e i0 _ 1 by' ht aC aE aF aG hzs (by omega) v _ _ hown (b+1) (.slice (some ⟨b,0,none⟩) 1 1) 1 [y] ⟨_,1,rfl,rfl,fun _=>⟨b,0,rfl,by omega,fun j u hu=>by
  cases j with
  |zero=>simp at hu;subst hu;exact hc
  |succ j=>simp at hu⟩⟩ (by intro u hu;simp at hu;subst hu;exact hy) (by unfold maxLen;omega) hbytes hbase
 rcases h2.2 with⟨_,aD⟩|⟨g,aA,cur,rfl,hb,hg,hnc,hcm,hcs,htake⟩
 ·simp at aD
 ·refine Lib.wpList_append_run w hgd s x t t ho _ _ hs hx _ w' aB (h g aA w' h2 h3 ?_);rcases h4 with h4|h4
  ·exact .inl h4.symm
  ·exact .inr (by simpa [Value.ownBlock] using h4)
open Go.RowKit
def El1(g n:Nat)(P:Int)(w1:World)(v iv:Value)(wr:World):Prop:=
 ∃(k:Nat) (ns:List Int),k≤n∧iv= .int .i64 k∧ns.length=k∧els P ns=true∧wr.ownsRow w1.heap.size 3 1 v ns.length (ns.map (Value.int .i64))∧Dk wr g∧w1.grownBy wr (some g)
theorem Oh(g n:Nat)(P:Int)(w:World)(hD:Dk w g)(hP:1≤P∧P≤65521)(hn:n≤100000):
  Calls Tryz.prog 45 #[.pointer (some ⟨g,0,none⟩),.agg #[.int .i64 P],.int .i64 n] w fun e w'=>∃v ns,e= .returned v∧ns.length=n∧els P ns=true∧w'.ownsRow w.heap.size 3 1 v ns.length (ns.map (Value.int .i64))∧Dk w' g∧w.grownBy w' (some g):=by
 go_enter Tryz.func45,Tryz.ntmps45;obtain⟨F,eF⟩:∃F,F=w.heap.size:=⟨_,rfl⟩;obtain⟨w1,ew⟩:∃w1:World,w1=w.alloc (.cells #[.int .i64 P] 31):=⟨_,rfl⟩;have aW:Hid (w.alloc (.cells #[.int .i64 P] 31)=w1):=ew.symm;have aD:Hid (Below w.heap.size w w1):=Zk (by rw[ew];exact (Zb _ w).alloc (Zl _) _);have aJ:Hid (w1.heap[F]? =some (.cells #[.int .i64 P] 31 (0,0))):=Zk (by show _=_;rw[ew,eF];exact Zh w _);have aG:Hid (Dk w1 g):=hD.below aD.out;have aU:Hid (g<F):=Zk (by rw[eF];exact hD.lt);have HEF:=Zk eF;clear hD;go_upto_region 2 with fail
 rw[aW.out,←eF];clear ew eF;go_wp2_with fail;go_loopw [7,9] (fun v iv wr=>El1 g n P w1 v iv wr) (fun _ iv _=>n- (intOf iv).toNat)
 case atStart=>exact⟨0,[],Nat.zero_le _,rfl,rfl,by simp[els],World.ownsRow_nil _ _ _ _,aG.out,Ai _ _⟩
 case round=>
  obtain⟨k,ns,hk,rfl,aP,aN,aB,hd,hg⟩:=hrel;obtain⟨A,c,rfl⟩:=Ct aB;have HO:=Zk aB;have aH:=Zk hd;have HG:=Zk hg;have aI:=Zk aN;have aL:=Zk aP;have hz:=hg.size;have hnl:ns.length≤100000:=by omega
  have hg1:g<w1.heap.size:=aG.out.lt;clear aB hd hg aN aP;by_cases hlk:k<n
  ·have dk:decide (k<n)=true:=Ze hlk;have f0:wr.cell? ⟨F,0,none⟩=some (.int .i64 P):=Zc wr F 0 _ _ _ ((HG.out.block F (Ae aJ.out) (by have:=aU.out;simp;omega)).trans aJ.out);go_wp2_with fail;(with_reducible refine (Cy P g wr aH.out (by unfold At;omega) (by omega)).mono ?_)
   rintro e w2 ⟨x,rfl,_,hx,aM,aC⟩;obtain⟨aX,aY⟩:=hx hP.1;have aQ:=Zk aM;have aS:=Zk aC;have aF:Hid (w2.ownsRow w1.heap.size 3 1 (.slice A ns.length c) ns.length (ns.map (Value.int .i64))):=Zk (Bu HO.out fun b hb=>aC.block b (HO.out.lt b hb).2 (by have:=(HO.out.lt b hb).1;simp;omega))
   have aZ:w1.heap.size≤w2.heap.size:=Nat.le_trans hz aC.size;clear hx aM aC f0;go_wp2_with (at_builtin;refine Bh _ rfl _ _ 22 rfl w1.heap.size 3 Tryz.underlying22 Bi _ ns rfl aF.out x rfl (by omega) aZ ?_;intro v3 w3 aA aO;have aV:=Zk aA;have aK:=Zk aO;clear aA aO);have aT:Hid (w2.grownBy (w2.alloc (.cells #[.int .i64 x] 3)) (some g)):=Zk (Af ((Zb _ w2).alloc (Zl _) _) _);have aE:Hid (w1.grownBy w3 (some g)):=Zk (Cv (Ag (Ag HG.out aS.out) aT.out) aK.out (fun q hq=>(aF.out.lt q hq).1))
   have aR:Hid (Dk w3 g):=Zk ((aQ.out.alloc _).grown aK.out (fun q hq=>by have:=(aF.out.lt q hq).1;omega))
   go_roundw
   case rel=>exact⟨k+1,ns++[x],by omega,by go_num,by have:=aL.out;simp;omega,by
    refine Ce fun y hy=> ?_
    rcases List.mem_append.1 hy with h|h
    ·exact Be aI.out y h
    ·simp at h;subst h;exact Ex ⟨aX,aY⟩,aV.out,aR.out,aE.out⟩
   case measure=>simp[intOf];omega
  ·have dk:decide (k<n)=false:=Zd hlk;go_wp2_with fail;go_ret;refine⟨_,ns,rfl,by have:=aL.out;omega,aI.out,?_,aH.out,Ag (Af aD.out _) HG.out⟩;exact Cf HO.out (by have:=aD.out.size;omega)
theorem Je(P:Int)(c:List Int)(rows:List (List Int))(width:Int)(vc vr:Value)(w:World)(hP:At P)(hc:SI w vc c)(hr:SL w vr rows):
  Calls Tryz.prog 44 #[.agg #[.int .i64 P],.int .i64 width,vr,vc] w (CmP P c rows width w):=by
 go_enter Tryz.func44,Tryz.ntmps44;obtain⟨F,eF⟩:∃F,F=w.heap.size:=⟨_,rfl⟩;obtain⟨w1,ew⟩:∃w1:World,w1=w.alloc (.cells #[.int .i64 P] 31):=⟨_,rfl⟩;have aH:Hid (w.alloc (.cells #[.int .i64 P] 31)=w1):=ew.symm;have aA:Hid (Below w.heap.size w w1):=Zk (by rw[ew];exact (Zb _ w).alloc (Zl _) _);have aF:Hid (w1.heap[F]? =some (.cells #[.int .i64 P] 31 (0,0))):=Zk (by show _=_;rw[ew,eF];exact Zh w _);have HC:=Zk (hc.below aA.out);have HR:=Zk (hr.below aA.out);clear hc hr;go_upto_region 1 with fail
 rw[aH.out,←eF];clear ew eF;have f0:w1.cell? ⟨F,0,none⟩=some (.int .i64 P):=Zc w1 F 0 _ _ _ aF.out;go_wp2_with fail;(with_reducible refine (Pv P c rows width _ _ w1 hP HC.out HR.out).mono ?_)
 rintro e w2 ⟨v,rfl,aB,he,aC⟩;have aD:=Zk aB;have aE:=Zk he;have aG:=Zk aC;clear aB he aC;go_wp2_with fail;go_ret2;exact⟨v,rfl,aA.out.trans (aD.out.mono aA.out.size),aE.out,fun h=>Cf (aG.out h) aA.out.size⟩
theorem cmb_r{P:Int}(hP:2≤P∧P≤65521)(c:List Int)(rows:List (List Int))(n:Nat):∀x∈cmb P c rows n,At x:=Ci hP.2 (Fc hP.1 ..)
end Go.Proofs.YtoiabanpnkpbhaaGreatDoor
