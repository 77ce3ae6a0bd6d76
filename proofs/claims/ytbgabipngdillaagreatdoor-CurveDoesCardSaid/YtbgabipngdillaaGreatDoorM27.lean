/- Parts. -/
import Derived.Test.YtbgabipngdillaaGreatDoorM23
import Derived.Test.YtbgabipngdillaaGreatDoorM26
import Derived.Test.YtbgabipngdillaaGreatDoorM15
set_option linter.unusedVariables false
set_option linter.unusedSimpArgs false
namespace Go.Proofs.YtbgabipngdillaaGreatDoor
open Go.RowKit
theorem Gl{P:Program}(w:World){ops:Array Oper}{o:Oper}{a:Act}{K:Act→World→Prop}{Q:Exit→Act→World→Prop}{E:Prop}(hgd:o.guard=none)(s x:Operand)(t:TypeId)
  (ho:o.op= .call {callee:= .builtin .append,args:= #[s,x],argTypes:= #[t,t]})
  (base:Nat) (e:TypeId) (ht:P.underlying t=some (.slice e)) (hinfo:(P.info? e).map (fun i=>(i.zero,i.size,i.bytes))=some (some (.int .i64 0),1,8))
  (v:Value) (xs:List Int) (hs:a.eval s=v) (hown:w.ownsRow base e 1 v xs.length (xs.map (Value.int .i64)))
  (B:Nat) (src:Value) (l:List Int) (hx:a.eval x=src) (hr:SB B w src l)
  (hbytes:xs.length+l.length≤17592186044416) (hbase:base≤w.heap.size)
  (h:∀A c w',w'.ownsRow base e 1 (.slice A (xs++l).length c) (xs++l).length ((xs++l).map (Value.int .i64))→w.grownBy w' v.ownBlock→((Value.slice A (xs++l).length c).ownBlock=v.ownBlock∨(Value.slice A (xs++l).length c).ownBlock=some w.heap.size)→K (a.put o.dst (.slice A (xs++l).length c)) w'):
  if Region.wanted o (yielded ops a.tmps)=true then Oper.wp P o a w K Q else E:=by
 obtain⟨i0,aC,aD,aE,aF⟩:=info_parts hinfo;have hw:Region.wanted o (yielded ops a.tmps)=true:=by simp[Region.wanted,hgd]
 rw[if_pos hw];obtain⟨v',w',aA,h2,h3,h4⟩:=Cp (P:=P) w base t o.type e i0 _ 1 8 ht aC aD aE aF rfl (by omega) v _ _ hown B src _ _ hr.sc (Fm l) (by unfold maxLen;omega) (by omega) hbase;have aB:w'.ownsRow base e 1 v' (xs++l).length ((xs++l).map (Value.int .i64)):=by rw[List.length_append,List.map_append];exact h2
 obtain⟨A,c,rfl⟩:=Bn aB;unfold Oper.wp execOp;simp only[ho,resolve,invoke,builtin,Sem.run_bind,Sem.run_pure,Result.andThen_ok,List.map_toArray,List.map_cons,List.map_nil,hs,hx,aA];exact h A c w' aB h3 h4
def SX(W:World)(X Y:Option Nat)(v:Value)(l:List Int):Prop:=
 ∃A c,v= .slice A l.length c∧l.length≤c∧c≤9223372036854775807∧(∀x∈l,An x)∧
  (0<l.length→∃b off,A=some ⟨b,off,none⟩∧b<W.heap.size∧some b≠X∧some b≠Y∧∀j (h:j<l.length),W.cell? ⟨b,off+j,none⟩=some (.int .i64 l[j]))
theorem SX.keep{W W':World}{X Y X' Y':Option Nat}{v:Value}{l:List Int}(h:SX W X Y v l)(hs:W.heap.size≤W'.heap.size)
  (hb:∀b,b<W.heap.size→some b≠X→some b≠Y→W'.heap[b]? =W.heap[b]? ∧some b≠X'∧some b≠Y'):SX W' X' Y' v l:=by
 obtain⟨A,c,rfl,hc,hm,hr,ha⟩:=h;refine⟨A,c,rfl,hc,hm,hr,fun h0=> ?_⟩
 obtain⟨b,aE,rfl,aB,hx,hy,aA⟩:=ha h0;obtain⟨e,aC,aD⟩:=hb b aB hx hy;exact⟨b,aE,rfl,by omega,aC,aD,fun j hj=>(World.cell?_of_block e).trans (aA j hj)⟩
theorem SX.si{W:World}{X Y:Option Nat}{v:Value}{l:List Int}(h:SX W X Y v l):SI W v l:=by
 obtain⟨A,c,rfl,hc,hm,hr,ha⟩:=h;refine⟨A,c,rfl,hc,hm,hr,fun h0=> ?_⟩
 obtain⟨b,aC,rfl,aB,_,_,aA⟩:=ha h0;exact⟨b,aC,rfl,aB,aA⟩
theorem SX.of_own{W:World}{X Y:Option Nat}{base:Nat}{e:TypeId}{v:Value}{l:List Int}(h:W.ownsRow base e 1 v l.length (l.map (Value.int .i64)))(hr:∀x∈l,An x)(hX:∀k,X=some k→k<base)(hY:∀k,Y=some k→k<base):SX W X Y v l:=by
 rcases h.2 with⟨rfl,hn⟩|⟨b,aA,cur,rfl,hb,aC,aD,aB,hcs,htake⟩
 ·have:l=[]:=List.eq_nil_of_length_eq_zero hn;subst this;exact⟨none,0,rfl,Zl _,by omega,hr,fun h=>by simp at h⟩
 ·refine⟨_,aA,rfl,aD,by simpa [maxLen] using aB,hr,fun h0=>⟨b,0,rfl,(Array.getElem?_eq_some_iff.1 aC).1,fun e=>by have:=hX b e.symm;omega,fun e=>by have:=hY b e.symm;omega,fun j hj=> ?_⟩⟩
  have:=h.cellAt j (by omega);rw[Nat.zero_add,this];simp[hj]
structure St (G:Nat) (w0 W:World) (pv wv:Value) (vs:List Value) (ps:List (List Int)) (ws:List Int):Prop where
 len:vs.length=ps.length
 hdr:W.ownsRow G 22 1 pv vs.length vs
 row:∀j (h:j<vs.length) (h':j<ps.length),SX W pv.ownBlock wv.ownBlock vs[j] ps[j]
 own:W.ownsRow G 3 1 wv ws.length (ws.map (Value.int .i64))
 apart:∀b,pv.ownBlock=some b→wv.ownBlock≠some b
 bel:Below G w0 W
theorem St.nil(w0:World)(G:Nat):St G w0 w0 (.slice none 0 0) (.slice none 0 0) [] [] []:=
 ⟨rfl,World.ownsRow_nil _ _ _ _,fun j h=>by simp at h,World.ownsRow_nil _ _ _ _,fun b h=>by simp[Value.ownBlock] at h,Zb _ _⟩
theorem Cb{w w':World}{base e size n:Nat}{v:Value}{xs:List Value}(h:w.ownsRow base e size v n xs)(hk:∀b,v.ownBlock=some b→w'.heap[b]? =w.heap[b]?):w'.ownsRow base e size v n xs:=by
 refine⟨h.1,?_⟩;rcases h.2 with hn|⟨b,aA,aB,rfl,hb,hg,rest⟩
 ·exact .inl hn
 ·exact .inr ⟨b,aA,aB,rfl,hb,(hk b rfl).trans hg,rest⟩
theorem St.below{G:Nat}{w0 W W':World}{pv wv:Value}{vs:List Value}{ps:List (List Int)}{ws:List Int}(h:St G w0 W pv wv vs ps ws)(hb:Below W.heap.size W W')(hG:G≤W.heap.size):St G w0 W' pv wv vs ps ws:=
 ⟨h.len,Be h.hdr hb,fun j h1 h2=>(h.row j h1 h2).keep hb.size fun b aA hx hy=>⟨hb.block b aA,hx,hy⟩,Be h.own hb,h.apart,h.bel.trans (hb.mono hG)⟩
theorem St.appP{G:Nat}{w0 W W':World}{pv wv pv':Value}{vs:List Value}{ps:List (List Int)}{ws:List Int}{v:Value}{l:List Int}(h:St G w0 W pv wv vs ps ws)(hG:G≤W.heap.size)
  (hx:SX W pv.ownBlock wv.ownBlock v l) (ho:W'.ownsRow G 22 1 pv' (vs.length+1) (vs++[v])) (hg:W.grownBy W' pv.ownBlock) (hat:∀g,pv'.ownBlock=some g→pv.ownBlock=some g∨g=W.heap.size):St G w0 W' pv' wv (vs++[v]) (ps++[l]) ws:=by
 have hp:∀b,pv.ownBlock=some b→G≤b:=fun b hb=>(h.hdr.lt b hb).1
 have hw:∀b,wv.ownBlock=some b→b<W.heap.size:=fun b hb=>(h.own.lt b hb).2
 have hk:∀b,b<W.heap.size→some b≠pv.ownBlock→some b≠wv.ownBlock→W'.heap[b]? =W.heap[b]? ∧some b≠pv'.ownBlock∧some b≠wv.ownBlock:=fun b hb h1 h2=>
  ⟨hg.block b hb h1,fun e=>by rcases hat b e.symm with h3|h3;exact h1 h3.symm;omega,h2⟩
 refine⟨by simp[h.len],by simpa using ho,fun j h1 h2=> ?_,Cb h.own fun b hb=>hg.block b (hw b hb) fun e=>h.apart b e.symm hb,fun b hb=> ?_,⟨hg.os.trans h.bel.os,hg.tape.trans h.bel.tape,hg.output.trans h.bel.output,Nat.le_trans h.bel.size hg.size,fun i hi=>(hg.block i (by omega) fun e=>by have:=hp i e.symm;omega).trans (h.bel.block i hi)⟩⟩
 ·by_cases hj:j<vs.length
  ·have aA:j<ps.length:=by rw[←h.len];exact hj
   rw[List.getElem_append_left hj,List.getElem_append_left aA];exact (h.row j hj aA).keep hg.size hk
  ·have e1:j=vs.length:=by simp at h1;omega
   subst e1;have e2:(vs++[v])[vs.length]'h1=v:=by simp
   have e3:(ps++[l])[vs.length]'h2=l:=by simp[h.len]
   rw[e2,e3];exact hx.keep hg.size hk
 ·rcases hat b hb with h3|h3
  ·exact h.apart b h3
  ·intro e;have:=hw b e;omega
theorem St.appW{G:Nat}{w0 W W':World}{pv wv wv':Value}{vs:List Value}{ps:List (List Int)}{ws ws':List Int}(h:St G w0 W pv wv vs ps ws)(hG:G≤W.heap.size)
  (ho:W'.ownsRow G 3 1 wv' ws'.length (ws'.map (Value.int .i64))) (hg:W.grownBy W' wv.ownBlock) (hat:wv'.ownBlock=wv.ownBlock∨wv'.ownBlock=some W.heap.size):St G w0 W' pv wv' vs ps ws':=by
 have hw:∀b,wv.ownBlock=some b→G≤b:=fun b hb=>(h.own.lt b hb).1
 have hp:∀b,pv.ownBlock=some b→b<W.heap.size:=fun b hb=>(h.hdr.lt b hb).2
 refine⟨h.len,Cb h.hdr fun b hb=>hg.block b (hp b hb) fun e=>h.apart b hb e.symm,fun j h1 h2=>(h.row j h1 h2).keep hg.size fun b hb h3 h4=>⟨hg.block b hb h4,h3,fun e=> ?_⟩,ho,fun b hb e=> ?_,⟨hg.os.trans h.bel.os,hg.tape.trans h.bel.tape,hg.output.trans h.bel.output,Nat.le_trans h.bel.size hg.size,fun i hi=>(hg.block i (by omega) fun e=>by have:=hw i e.symm;omega).trans (h.bel.block i hi)⟩⟩
 ·rcases hat with h5|h5
  ·exact h4 (by rw[←h5];exact e)
  ·rw[h5] at e;injection e with e;omega
 ·rcases hat with h5|h5
  ·exact h.apart b hb (by rw[←h5];exact e)
  ·rw[h5] at e;injection e with e;have:=hp b hb;omega
theorem St.sl{G:Nat}{w0 W W':World}{pv wv:Value}{vs:List Value}{ps:List (List Int)}{ws:List Int}(h:St G w0 W pv wv vs ps ws)(hg:W.grownBy W' wv.ownBlock):SL W' pv ps:=by
 have hp:∀b,pv.ownBlock=some b→b<W.heap.size:=fun b hb=>(h.hdr.lt b hb).2
 have ho:=Cb (w':=W') h.hdr fun b hb=>hg.block b (hp b hb) fun e=>h.apart b hb e.symm
 have hl:=h.len;rcases ho.2 with⟨e,hn⟩|⟨b,aB,cur,e,hb,aD,hnc,aC,hcs,htake⟩
 ·have:ps=[]:=List.eq_nil_of_length_eq_zero (by omega);subst this;rw[e];exact⟨none,0,rfl,Zl _,by omega,fun h=>by simp at h⟩
 ·rw[e,hl];refine⟨_,aB,rfl,by omega,by simpa [maxLen] using aC,fun h0=>⟨b,0,rfl,(Array.getElem?_eq_some_iff.1 aD).1,fun j hj=> ?_⟩⟩
  have aA:j<vs.length:=by omega
  have hs:SI W' vs[j] ps[j]:=((h.row j aA hj).keep (X':=none) (Y':=none) hg.size fun b hb h3 h4=>⟨hg.block b hb h4,by simp,by simp⟩).si
  obtain⟨B,d,hv⟩:=hs.form;refine⟨B,d,?_,by rw[←hv];exact hs⟩;rw[e] at ho;have:=ho.cellAt j (by omega);rw[Nat.zero_add,this,←hv];simp[aA]
def wrA(P:Int)(l:List (Bool×List Int)):Nat→List (List Int)→List Int
 |_,[]=>[]
 |i,p::ps=>wrg P (Bw l i) p++wrA P l (i+1) ps
theorem Lf(P:Int)(l:List (Bool×List Int))(p:List Int):∀(ps:List (List Int)) (i:Nat),wrA P l i (ps++[p])=wrA P l i ps++wrg P (Bw l (i+ps.length)) p
 |[],i=>by simp[wrA]
 |q::ps,i=>by
  show wrg P (Bw l i) q++wrA P l (i+1) (ps++[p])=wrg P (Bw l i) q++wrA P l (i+1) ps++_;rw[Lf P l p ps (i+1),←List.append_assoc];have e:i+1+ps.length=i+(q::ps).length:=by simp;omega
  rw[e]
theorem Oj(P:Int)(l:List (Bool×List Int)):∀(ps:List (List Int)) (i:Nat),(wrA P l i ps).length≤ps.length*l.length
 |[],i=>by simp[wrA]
 |p::ps,i=>by
  have h1:=Iy P (Bw l i) p;rw[Br] at h1;have h2:=Oj P l ps (i+1);show (wrg P (Bw l i) p++wrA P l (i+1) ps).length≤(ps.length+1)*l.length;rw[List.length_append,Nat.add_mul];omega
theorem Tw(P:Int)(l:List (Bool×List Int))(x:Int):∀(ps:List (List Int)) (i:Nat),x∈wrA P l i ps↔∃j,∃h:j<ps.length,x∈wrg P (Bw l (i+j)) ps[j]
 |[],i=>by simp[wrA]
 |p::ps,i=>by
  show x∈wrg P (Bw l i) p++wrA P l (i+1) ps↔_;rw[List.mem_append,Tw P l x ps (i+1)];constructor
  ·rintro (h|⟨j,hj,h⟩)
   ·exact⟨0,by simp,by simpa using h⟩
   ·exact⟨j+1,by simpa using hj,by
     have e:i+(j+1)=i+1+j:=by omega
     rw[e];simpa using h⟩
  ·rintro⟨j,hj,h⟩
   cases j with
   |zero=>exact .inl (by simpa using h)
   |succ j=>exact .inr ⟨j,by simpa using hj,by
     have e:i+(j+1)=i+1+j:=by omega
     rw[e] at h;simpa using h⟩
def AlR(P k:Int)(l:List (Bool×List Int))(n:Nat)(ps:List (List Int))(ws:List Int):Prop:=ps.length=n∧(∀i (h:i<ps.length),UnR P (Bw l i) k ps[i] 0)∧ws=srt (wrA P l 0 ps)
def AlN(P k:Int)(l:List (Bool×List Int))(n:Nat):Prop:=∃i,i<n∧∃o er,UnR P (Bw l i) k o er∧er≠0
open Go.RowKit
theorem Nf(P:Int)(l:List (Int×Bool))(p:List Int):∀x∈wrg P l p,1≤x∧x≤(l.length:Int):=by
 intro x hx;unfold wrg wrk at hx;obtain⟨t,ht,rfl⟩:=List.mem_map.1 hx;have:=Jl l 0 t (List.mem_filter.1 ht).1;simp at this;omega
theorem Sd(P:Int)(l:List (Bool×List Int))(ps:List (List Int)):∀x∈wrA P l 0 ps,1≤x∧x≤(l.length:Int):=by
 intro x hx;obtain⟨j,hj,h⟩:=(Tw P l x ps 0).1 hx;have:=Nf _ _ _ x h
 rwa [Br] at this
theorem Sx{P k:Int}{l:List (Int×Bool)}{out:List Int}{er:Int}(h:UnR P l k out er):∀x∈out,An x:=by
 rcases h with⟨_,_,rfl⟩|⟨h0,⟨_,hg⟩|⟨_,rfl,_⟩⟩
 ·simp
 ·exact Ch (Bd (Kl h0).1).2 hg.els
 ·simp
def ClR(P k:Int)(l:List (Bool×List Int))(n G:Nat)(w0:World)(p q iv:Value)(wr:World):Prop:=
 ∃(pv wv:Value) (i:Nat) (vs:List Value) (ps:List (List Int)),pv=p∧wv=q∧i≤n∧iv= .int .i64 i∧ps.length=i∧(∀j (h:j<ps.length),UnR P (Bw l j) k ps[j] 0)∧St G w0 wr pv wv vs ps (wrA P l 0 ps)
def AlP(P k:Int)(l:List (Bool×List Int))(n:Nat)(w:World)(e:Ending)(w':World):Prop:=
 ∃pv wv er,e= .returned (.tuple #[pv,wv,.int .i64 er])∧Below w.heap.size w w'∧
  ((er=0∧∃ps ws,AlR P k l n ps ws∧SL w' pv ps∧w'.ownsRow w.heap.size 3 1 wv ws.length (ws.map (Value.int .i64)))∨(er=12∧pv= .slice none 0 0∧wv= .slice none 0 0∧AlN P k l n))
set_option maxRecDepth 100000 in
set_option maxHeartbeats 8000000 in
theorem Pq(P k:Int)(l:List (Bool×List Int))(n:Nat)(v:Value)(w:World)(hPi:An P)(h:SAn w v l)(hz:l.length≤400)(hn:n≤2000)(hw:∀a∈l,a.1=true→n≤a.2.length)(hE:EW w):
  Calls Tryz.prog 54 #[.agg #[.int .i64 P,.int .i64 k,v],.int .i64 n,.func (.func 55) #[] #[]] w (AlP P k l n w):=by
 have HS:=Zk h;have HE:=Zk hE;have HW:=Zk hw;obtain⟨A,c,rfl⟩:=h.form;clear h hE hw;go_enter Tryz.func54,Tryz.ntmps54;obtain⟨F,eF⟩:∃F,F=w.heap.size:=⟨_,rfl⟩;obtain⟨w0,ew⟩:∃w0:World,w0=w.alloc (.cells #[.int .i64 P,.int .i64 k,.slice A l.length c] 103):=⟨_,rfl⟩;have dJ:Hid (w.alloc (.cells #[.int .i64 P,.int .i64 k,.slice A l.length c] 103)=w0):=ew.symm;have bL:Hid (Below w.heap.size w w0):=Zk (by rw[ew];exact (Zb _ w).alloc (Zl _) _);have dC:Hid (w0.heap[F]? =some (.cells #[.int .i64 P,.int .i64 k,.slice A l.length c] 103 (0,0))):=Zk (by show _=_;rw[ew,eF];exact Zh w _);have dN:Hid (w0.heap.size=F+1):=Zk (by show _=_;rw[ew,eF];simp);have HEF:=Zk eF;obtain⟨G,eG⟩:∃G,G=w0.heap.size:=⟨_,rfl⟩;have cS:F<G:=by rw[eG,dN.out];omega
 have cK:Hid (w.heap.size≤G):=Zk (by rw[eG];exact bL.out.size);have dE:=Zk eG;go_upto_region 4 with fail
 rw[dJ.out,←eF];clear ew eF eG;go_loopw [9,10,15] (fun pv wv iv wr=>ClR P k l n G w0 pv wv iv wr) (fun _ _ iv _=>n- (intOf iv).toNat)
 case atStart=>exact⟨_,_,0,[],[],rfl,rfl,Nat.zero_le _,rfl,rfl,fun j h=>by simp at h,St.nil w0 G⟩
 case round=>
  obtain⟨pv,wv,i,vs,ps,rfl,rfl,hi,rfl,cW,cY,cE⟩:=hrel;have aF:=Zk cE;have cO:=Zk cY;have aI:=Zk cW;have bM:Hid (Below G w0 wr):=cE.bel;have bZ:G≤wr.heap.size:=by have:=bM.out.size;have:=dE.out;omega
  have aU:Hid (Below w.heap.size w wr):=Zk (bL.out.trans (bM.out.mono cK.out));clear cE cY cW;have bO:Hid (wr.heap[F]? =some (.cells #[.int .i64 P,.int .i64 k,.slice A l.length c] 103 (0,0))):=Zk ((bM.out.block F cS).trans dC.out);by_cases hlt:i<n
  ·have hd:decide (i<n)=true:=Ze hlt;have a0:wr.cell? ⟨F,0,none⟩=some (.int .i64 P):=Zc wr F 0 _ _ _ bO.out;have a1:wr.cell? ⟨F,1,none⟩=some (.int .i64 k):=Zc wr F 1 _ _ _ bO.out;have a2:wr.cell? ⟨F,2,none⟩=some (.slice A l.length c):=Zc wr F 2 _ _ _ bO.out;have cJ:=Zk (Wn P k l i (.slice A l.length c) wr hPi (HS.out.below aU.out) (by omega) (by omega) (fun a ha hk=>by have:=HW.out a ha hk;omega) (HE.out.below aU.out))
   go_wp2_with fail;(with_reducible refine cJ.out.mono ?_)
   rintro e w1 ⟨out,er,v1,v2,rfl,cC,cZ,aQ,cU⟩;have bU:=Zk cZ;have cG:=Zk cC;have cL:=Zk aQ;have cM:=Zk cU;have bF:wr.heap.size≤w1.heap.size:=cC.size;clear cC cZ aQ cU a0 a1 a2 cJ;by_cases h0:er=0
   ·subst h0;obtain⟨Q,eQ⟩:∃Q,Q=w1.heap.size:=⟨_,rfl⟩;obtain⟨wq,bA⟩:∃wq:World,wq=w1.alloc (.cells #[v1,v2] 118):=⟨_,rfl⟩;have cP:Hid (w1.alloc (.cells #[v1,v2] 118)=wq):=bA.symm;have HQ:Hid (wq.heap[Q]? =some (.cells #[v1,v2] 118 (0,0))):=Zk (by show _=_;rw[bA,eQ];exact Zh w1 _);have cI:Hid (Below wr.heap.size wr wq):=Zk (by rw[bA];exact cG.out.alloc bF _);have aT:Hid (Below w1.heap.size w1 wq):=Zk (by rw[bA];exact (Zb _ w1).alloc (Zl _) _);have dO:G≤wq.heap.size:=by have:=cI.out.size;omega
    have aK:Hid (St G w0 wq pv wv vs ps (wrA P l 0 ps)):=Zk (aF.out.below cI.out bZ);have cD:∀b,pv.ownBlock=some b→b<wr.heap.size:=fun b hb=>(aF.out.hdr.lt b hb).2
    have cF:∀b,wv.ownBlock=some b→b<wr.heap.size:=fun b hb=>(aF.out.own.lt b hb).2
    have bT:Hid (SX wq pv.ownBlock wv.ownBlock v1 out):=Zk (SX.of_own (Be cL.out aT.out) (Sx bU.out) cD cF);obtain⟨WR,aW⟩:∃WR,WR=wrg P (Bw l i) out:=⟨_,rfl⟩;have dL:=Zk aW;have bH:∀x∈WR,An x:=fun x hx=>by rw[aW] at hx;have:=Nf _ _ _ x hx;rw[Br] at this;unfold An;omega
    have hWl:WR.length≤400:=by rw[aW];have:=Iy P (Bw l i) out;rw[Br] at this;omega
    have bB:wq.ownsRow wr.heap.size 3 1 v2 WR.length (WR.map (Value.int .i64)):=by
     have:=Be cM.out aT.out;rw[if_pos rfl,←aW] at this;exact this
    have aL:Hid (SX wq pv.ownBlock wv.ownBlock v2 WR):=Zk (SX.of_own bB bH cD cF);obtain⟨A1,c1,bX⟩:=bT.out.si.form;obtain⟨A2,c2,bY⟩:=aL.out.si.form;subst bX bY;obtain⟨no,aY⟩:∃no,no=out.length:=⟨_,rfl⟩;obtain⟨nw,aZ⟩:∃nw,nw=WR.length:=⟨_,rfl⟩;have HNO:=Zk aY;have HNW:=Zk aZ;rw[←aY,←aZ] at HQ cP;rw[←aY] at bT;rw[←aZ] at aL;rw[←aY,←aZ];obtain⟨WS,aD⟩:∃WS,WS=wrA P l 0 ps:=⟨_,rfl⟩;rw[←aD] at aK;have bV:=Zk aD;have cA:WS.length≤800000:=by
     rw[aD];have h1:=Oj P l ps 0;have h2:ps.length*l.length≤2000*400:=Nat.mul_le_mul (by have:=aI.out;omega) hz;omega
    have hvs:vs.length≤2000:=by have h1:=aF.out.len;have:=aI.out;omega
    obtain⟨nv,cQ⟩:∃nv,nv=vs.length:=⟨_,rfl⟩;have aV:=Zk cQ;clear bB bA aW aY aZ aD cQ cD cF;have d0:((0:Int) !=0)=false:=rfl;go_upto_region 9 with fail
    rw[cP.out,←eQ];have dH:=Zk eQ;clear eQ;have y0:wq.cell? ⟨Q,0,none⟩=some (.slice A1 no c1):=Zc wq Q 0 _ _ _ HQ.out;have y1:wq.cell? ⟨Q,1,none⟩=some (.slice A2 nw c2):=Zc wq Q 1 _ _ _ HQ.out;have dP:Q<wq.heap.size:=Ae HQ.out;have hQr:wr.heap.size≤Q:=by have:=dH.out;omega
    have cN:Hid (wq.ownsRow G 22 1 pv nv vs):=Zk (by rw[aV.out];exact aK.out.hdr);have dA:Hid (∀(g9 aB:Nat) (w9:World),(wq.alloc (.cells #[.slice A1 no c1] 22)).grownBy w9 pv.ownBlock→w9.ownsRow G 22 1 (.slice (some ⟨g9,0,none⟩) (nv+1) aB) (nv+1) (vs++[.slice A1 no c1])→(pv.ownBlock=some g9∨g9=(wq.alloc (.cells #[.slice A1 no c1] 22)).heap.size)→
      Hid (St G w0 w9 (.slice (some ⟨g9,0,none⟩) (nv+1) aB) wv (vs++[.slice A1 no c1]) (ps++[out]) WS)∧Hid (SB w9.heap.size w9 (.slice A2 nw c2) WR)∧w9.cell? ⟨Q,1,none⟩=some (.slice A2 nw c2)∧G≤w9.heap.size):=Zk (fun g9 aB w9 hg ho ha=>by
     have aO:Below wq.heap.size wq (wq.alloc (.cells #[.slice A1 no c1] 22)):=(Zb _ wq).alloc (Zl _) _;have hS:=aK.out.below aO dO;have hX:=bT.out.keep (X':=pv.ownBlock) (Y':=wv.ownBlock) aO.size (fun b hb h1 h2=>⟨aO.block b hb,h1,h2⟩)
     have hY:=aL.out.keep (X':=pv.ownBlock) (Y':=wv.ownBlock) aO.size (fun b hb h1 h2=>⟨aO.block b hb,h1,h2⟩)
     have hsz:(wq.alloc (.cells #[.slice A1 no c1] 22)).heap.size=wq.heap.size+1:=by simp
     have bG:G≤(wq.alloc (.cells #[.slice A1 no c1] 22)).heap.size:=by omega
     refine⟨hS.appP bG hX (by rw[aV.out] at ho;rw[aV.out];exact ho) hg (fun g hb=>by injection hb with e;subst e;exact ha),?_,?_,by have:=hg.size;omega⟩
     ·exact (hY.keep (X':=none) (Y':=none) hg.size (fun b hb h1 h2=>⟨hg.block b hb h1,by simp,by simp⟩)).si
     ·have hQ:w9.heap[Q]? =some (.cells #[.slice A1 no c1,.slice A2 nw c2] 118 (0,0)):=(hg.block Q (by omega) (fun e=>by have:=(aF.out.hdr.lt Q e.symm).2;omega)).trans ((aO.block Q dP).trans HQ.out)
      exact Zc w9 Q 1 _ _ _ hQ)
    have bN:Hid (∀(bJ aS:Value) (w9 aR:World),St G w0 w9 bJ wv (vs++[.slice A1 no c1]) (ps++[out]) WS→G≤w9.heap.size→aR.ownsRow G 3 1 aS (WS++WR).length ((WS++WR).map (Value.int .i64))→w9.grownBy aR wv.ownBlock→(aS.ownBlock=wv.ownBlock∨aS.ownBlock=some w9.heap.size)→ClR P k l n G w0 bJ aS (.int .i64 ((i:Int)+1)) aR):=Zk (fun bJ aS w9 aR hs hG ho hg ha=>by
     have e1:wrA P l 0 (ps++[out])=WS++WR:=by rw[Lf,←bV.out,dL.out,Nat.zero_add,aI.out]
     refine⟨bJ,aS,i+1,vs++[.slice A1 no c1],ps++[out],rfl,rfl,by omega,by simp,by simp[aI.out],fun j hj=> ?_,?_⟩
     ·by_cases hji:j<ps.length
      ·rw[List.getElem_append_left hji];exact cO.out j hji
      ·have ej:j=ps.length:=by simp at hj;omega
       subst ej;have e2:(ps++[out])[ps.length]'hj=out:=by simp
       rw[e2,aI.out];exact bU.out
     ·rw[e1];exact hs.appW hG ho hg ha)
    clear hd d0 cS bZ bF;go_region_law (first
     |(refine Do _ (by rfl) (.tmp 27) _ 42 (by rfl) G 22 (.slice none 0 0) 24 Tryz.underlying42 Hq pv nv vs (by rfl) (by first|exact cN.out.alloc (.cells #[.slice A1 no c1] 22)|exact (cN.out.alloc (.cells #[.slice A1 no c1] 22)).drew) (.slice A1 no c1) (by rfl) wq.heap.size (by rfl) (by exact Ax wq [.slice A1 no c1] 22 0 _ rfl) (by have:=aV.out;omega) (by have:=aV.out;omega) (by rfl) (by simp;omega) ?_;intro g9 aB w9 aH aP bE;have dD:Hid ((wq.alloc (.cells #[.slice A1 no c1] 22)).grownBy w9 pv.ownBlock):=Zk (⟨aP.os,aP.tape,aP.output,aP.size,aP.block⟩);obtain⟨aJ,bS,y1,bG⟩:=dA.out g9 aB w9 dD.out aH bE;clear aP aH bE)
     |(refine Gl _ (by rfl) (.tmp 32) _ 22 (by rfl) G 3 Tryz.underlying22 Bf wv WS (by rfl) (by first|exact aJ.out.own|exact aJ.out.own.drew) w9.heap.size _ WR (by rfl) (by exact bS.out) (by omega) (by exact bG) ?_;intro A10 c10 aR aC aA aG;have bP:Hid (w9.grownBy aR wv.ownBlock):=Zk (⟨aA.os,aA.tape,aA.output,aA.size,aA.block⟩);have bQ:=Zk aC;have bK:=Zk aG;clear aA aC aG))
    all_goals
     go_wp2_with fail;go_roundw
     case rel=>
      have h:=bN.out _ _ _ _ aJ.out bG bQ.out bP.out bK.out;rw[List.length_append] at h;exact h
     case measure=>simp[intOf];omega
   ·have d0:(er !=0)=true:=by rw[bne_iff_ne];exact h0
    have HN:Hid (AlN P k l n):=⟨i,hlt,out,er,bU.out,h0⟩;obtain⟨A1,c1,bX⟩:=Dv cL.out;obtain⟨A2,c2,bY⟩:=Dv cM.out;subst bX bY;generalize out.length=n1;generalize (if er=0 then wrg P (Bw l i) out else []).length=n2;clear h0;go_wp2_with fail;go_ret3
    refine⟨_,_,12,rfl,?_,.inr ⟨rfl,rfl,rfl,HN.out⟩⟩;exact (aU.out.trans (cG.out.mono aU.out.size)).alloc (by have:=aU.out.size;omega) _
  ·have hd:decide (i<n)=false:=Zd hlt;have hin:i=n:=by omega
   have dG:Hid (∀i (h:i<ps.length),UnR P (Bw l i) k ps[i] 0):=cO.out;obtain⟨WS,aD⟩:∃WS,WS=wrA P l 0 ps:=⟨_,rfl⟩;have cA:WS.length≤800000:=by
    rw[aD];have h1:=Oj P l ps 0;have h2:ps.length*l.length≤2000*400:=Nat.mul_le_mul (by have:=aI.out;omega) hz;omega
   have bH:∀x∈WS,An x:=fun x hx=>by rw[aD] at hx;have:=Sd P l ps x hx;unfold An;omega
   have dK:=Zk bH;rw[←aD] at aF;have bV:=Zk aD;clear bH aD;go_wp2_with fail;(with_reducible refine (Vs WS wv wr (by omega) aF.out.own).mono ?_)
   rintro e w1 ⟨rfl,aQ,bI⟩;obtain⟨WT,aX⟩:∃WT,WT=WS.mergeSort fun x y=>decide (x≤y):=⟨_,rfl⟩
   have cB:WT.length=WS.length:=by rw[aX];exact List.length_mergeSort _
   have bD:∀x∈WT,An x:=fun x hx=>dK.out x ((List.mergeSort_perm WS _).mem_iff.1 (by rw[aX] at hx;exact hx))
   have bC:St G w0 w1 pv wv vs ps WT:=aF.out.appW (by exact bZ) (by rw[cB];rw[←aX] at aQ;exact aQ) bI (.inl rfl);have aE:=Zk bC;have dM:=Zk aX;have bW:=Zk bD;have hG1:G≤w1.heap.size:=by have:=bI.size;omega
   have HG1:=Zk bI;clear aQ bI aX bD bC;go_wp2_with fail;(with_reducible refine (Pw WT wv w1 (by omega) bW.out aE.out.own).mono ?_)
   rintro e w2 ⟨vc,rfl,cX,aN⟩;have bR:=Zk (aE.out.sl aN);have cR:Below G w0 w2:=by
    have h:=aE.out.bel;have hw:∀b,wv.ownBlock=some b→G≤b:=fun b hb=>(aE.out.own.lt b hb).1
    exact⟨aN.os.trans h.os,aN.tape.trans h.tape,aN.output.trans h.output,Nat.le_trans h.size aN.size,fun i hi=>(aN.block i (by omega) fun e=>by have:=hw i e.symm;omega).trans (h.block i hi)⟩
   have dB:=Zk cR;have dI:=Zk cX;have hcl:(Lib.compact WT).length≤WT.length:=by
    show (Lib.compactUpTo WT.toArray WT.length).length≤_;unfold Lib.compactUpTo;rw[List.length_map];exact Nat.le_trans (List.length_filter_le _ _) (by simp)
   clear aN cR cX;go_wp2_with fail;(with_reducible refine (Jw (Lib.compact WT) vc w2 dI.out (by omega)).mono ?_)
   rintro e w3 ⟨v3,rfl,cV,cT⟩;have dF:=Zk cV;have cH:=Zk cT;clear cV cT;go_wp2_with fail;go_ret3
   have aM:Below w.heap.size w w2:=bL.out.trans (dB.out.mono cK.out);refine⟨pv,v3,0,rfl,aM.trans (cH.out.mono aM.size),.inl ⟨rfl,ps,Lib.compact WT,⟨by have:=aI.out;omega,dG.out,?_⟩,bR.out.below cH.out,Bt dF.out aM.size⟩⟩;rw[dM.out,bV.out];rfl
open Go.RowKit
theorem SL.heads{w:World}{v:Value}{rows:List (List Int)}(h:SL w v rows):∃A c,v= .slice A rows.length c∧rows.length≤c∧c≤9223372036854775807∧∃hs:List Value,hs.length=rows.length∧(∀j (h1:j<hs.length) (h2:j<rows.length),∃B d,hs[j]= .slice B rows[j].length d∧SI w hs[j] rows[j])∧
  (0<rows.length→∃b aA,A=some ⟨b,aA,none⟩∧b<w.heap.size∧∀j (h:j<hs.length),w.cell? ⟨b,aA+j,none⟩=some hs[j]):=by
 obtain⟨A,c,rfl,hc,hm,ha⟩:=h;refine⟨A,c,rfl,hc,hm,?_⟩;rcases Nat.eq_zero_or_pos rows.length with h0|h0
 ·exact⟨[],by simp[h0],fun j h=>by simp at h,fun h=>by omega⟩
 ·obtain⟨b,aA,rfl,hb,aB⟩:=ha h0;have aC:∀j (h1:j<((List.range rows.length).map fun j=>(w.cell? ⟨b,aA+j,none⟩).getD undef).length) (h2:j<rows.length),∃B d,((List.range rows.length).map fun j=>(w.cell? ⟨b,aA+j,none⟩).getD undef)[j]= .slice B rows[j].length d∧SI w (.slice B rows[j].length d) rows[j]∧w.cell? ⟨b,aA+j,none⟩=some (.slice B rows[j].length d):=by
   intro j h1 h2;obtain⟨B,d,h3,h4⟩:=aB j h2;exact⟨B,d,by simp[h3],h4,h3⟩
  refine⟨(List.range rows.length).map fun j=>(w.cell? ⟨b,aA+j,none⟩).getD undef,by simp,fun j h1 h2=> ?_,fun _=>⟨b,aA,rfl,hb,fun j h1=> ?_⟩⟩
  ·obtain⟨B,d,h3,h4,_⟩:=aC j h1 h2;exact⟨B,d,h3,by rw[h3];exact h4⟩
  ·obtain⟨B,d,h3,_,h5⟩:=aC j h1 (by simpa using h1);rw[h3,h5]
def apc(v:Value):List Value:=[.bool true,v]
theorem Td:∀(l:List Value) (j:Nat) (h:j<l.length),(l.flatMap apc)[j*2]? =some (.bool true)∧(l.flatMap apc)[j*2+1]? =some l[j]
 |x::t,0,_=>by simp[apc]
 |x::t,j+1,h=>by
  have:=Td t j (by simpa using h);refine⟨?_,?_⟩
  ·have e:(j+1)*2=j*2+1+1:=by omega
   rw[e];simpa [apc] using this.1
  ·have e:(j+1)*2+1=j*2+1+1+1:=by omega
   rw[e];simpa [apc] using this.2
def ans(rows:List (List Int)):List (Bool×List Int):=rows.map fun r=>(true,r)
theorem Dm(rows:List (List Int)):(ans rows).length=rows.length:=by simp[ans]
theorem zAb{w:World}{base:Nat}{e:TypeId}{v:Value}{hs:List Value}{rows:List (List Int)}(hl:hs.length=rows.length)(h:w.ownsRow base e 2 v hs.length (hs.flatMap apc))(hr:∀j (h1:j<hs.length) (h2:j<rows.length),SI w hs[j] rows[j]):SAn w v (ans rows):=by
 rcases h.2 with⟨rfl,hn⟩|⟨g,aB,cur,rfl,hb,hg,hnc,aC,hcs,htake⟩
 ·have:rows=[]:=List.eq_nil_of_length_eq_zero (by omega);subst this;exact⟨none,0,rfl,Zl _,by omega,fun h=>by simp[ans] at h⟩
 ·refine⟨_,aB,by rw[Dm,hl],by rw[Dm];omega,by simpa [maxLen] using aC,fun h0=>⟨g,0,rfl,Ae hg,fun j hj=> ?_⟩⟩
  have aD:j<rows.length:=by rw[Dm] at hj;exact hj
  have aA:j<hs.length:=by omega
  have h1:=h.cellAt (j*2) (by omega);have h2:=h.cellAt (j*2+1) (by omega);rw[Nat.zero_add,h1,h2];obtain⟨g1,g2⟩:=Td hs j aA;refine⟨by rw[g1];simp[ans],hs[j],g2,?_⟩;have e:(ans rows)[j].2=rows[j]:=by simp[ans]
  rw[e];exact hr j aA aD
def CAc(C:Nat)(P k:Int)(sv:Value)(hs:List Value)(w:World):Prop:=w.heap[C]? =some (.cells #[.int .i64 P,.int .i64 k,sv] 103 (0,0))∧w.ownsRow (C+1) 52 2 sv hs.length (hs.flatMap apc)
theorem CAc.lt{C:Nat}{P k:Int}{sv:Value}{hs:List Value}{w:World}(h:CAc C P k sv hs w):C<w.heap.size:=Ae h.1
theorem CAc.ne{C:Nat}{P k:Int}{sv:Value}{hs:List Value}{w:World}(h:CAc C P k sv hs w):some C≠sv.ownBlock:=fun e=>by have:=(h.2.lt C e.symm).1;omega
theorem CAc.below{C:Nat}{P k:Int}{sv:Value}{hs:List Value}{w w':World}(h:CAc C P k sv hs w)(hb:Below w.heap.size w w'):CAc C P k sv hs w':=⟨(hb.block C h.lt).trans h.1,Be h.2 hb⟩
theorem CAc.grown{C:Nat}{P k:Int}{sv:Value}{hs:List Value}{w w9:World}(h:CAc C P k sv hs w)(o:Obj)(hg:(w.alloc o).grownBy w9 sv.ownBlock):w9.heap[C]? =some (.cells #[.int .i64 P,.int .i64 k,sv] 103 (0,0)):=
 (hg.block C (by have:=h.lt;simp;omega) h.ne).trans ((Below.heap_alloc w _ C h.lt).trans h.1)
theorem CAc.step{C:Nat}{P k:Int}{sv sv' u:Value}{hs:List Value}{w0 w w9:World}(h:CAc C P k sv hs w)(hB:Below C w0 w)(o:Obj)
  (hg:(w.alloc o).grownBy w9 sv.ownBlock) (ho:w9.ownsRow (C+1) 52 2 sv' (hs.length+1) (hs.flatMap apc++[.bool true,u])):
  CAc C P k sv' (hs++[u]) (w9.setCell ⟨C,2,none⟩ sv')∧Below C w0 (w9.setCell ⟨C,2,none⟩ sv'):=by
 have aA:=h.lt;have hv:∀q,sv.ownBlock=some q→C+1≤q:=fun q hq=>(h.2.lt q hq).1
 refine⟨⟨?_,?_⟩,?_⟩
 ·have:=heap_setCell_same w9 C 2 _ _ sv' (h.grown o hg);simpa using this
 ·have e:(hs++[u]).flatMap apc=hs.flatMap apc++[.bool true,u]:=by simp[apc]
  rw[e,List.length_append];exact Ay ho (by show C<C+1;omega) _
 ·exact (((hB.alloc (Nat.le_of_lt aA) _)).grown hg (by simp;omega) (fun k hk=>by have:=hv k hk;omega)).setCell (Zl _) _
def wfB(n:Int)(rows:List (List Int)):Bool:=decide ((rows.length:Int)=n)&&rows.all fun r=>decide (r.length=(gr rows 0).length)&&decide (r.length≤1024)
def WaR(P n t:Int)(rows:List (List Int))(at_:Nat)(ok:Bool)(er:Int):Prop:=
 (cuE P n t≠0∧er=cuE P n t∧at_=0∧ok=false)∨(cuE P n t=0∧((wfB n rows=false∧er=2∧at_=0∧ok=false)∨(wfB n rows=true∧((rows.all (els P)=false∧er=9∧at_=0∧ok=false)∨(rows.all (els P)=true∧er=0∧
  ((AlN P (t+1) (ans rows) (gr rows 0).length∧at_=0∧ok=false)∨∃ps ws,AlR P (t+1) (ans rows) (gr rows 0).length ps ws∧(at_,ok)=Ei (ps.map fun p=>gd p 0)))))))
open Go.RowKit
theorem Wf:(Tryz.prog.info? 52).map (fun i=>(i.zero,i.size,i.bytes))=some (some (.agg #[.bool false,.slice none 0 0]),2,32):=by kernel_rfl
def wanP(P n t:Int)(rows:List (List Int))(w:World)(e:Ending)(w':World):Prop:=∃at_ ok er,e= .returned (.tuple #[.int .i64 (at_:Nat),.bool ok,.int .i64 er])∧Below w.heap.size w w'∧WaR P n t rows at_ ok er
def Wa1(P k:Int)(rows:List (List Int))(hs:List Value)(C:Nat)(w6:World)(b i:Value)(wr:World):Prop:=
 ∃(j:Nat) (sv:Value),j≤rows.length∧i= .int .i64 j∧b= .bool ((rows.take j).all (els P))∧(∀q (h:q<rows.length),q<j→rows[q].length=(gr rows 0).length∧rows[q].length≤1024)∧CAc C P k sv (hs.take j) wr∧Below C w6 wr
def Wa2(ps:List (List Int))(w8:World)(u i:Value)(wr:World):Prop:=
 ∃j:Nat,j≤ps.length∧i= .int .i64 j∧wr.ownsRow w8.heap.size 3 1 u ((ps.take j).map fun p=>gd p 0).length (((ps.take j).map fun p=>gd p 0).map (Value.int .i64))∧Below w8.heap.size w8 wr
theorem Xo{n:Int}{rows:List (List Int)}{q:Nat}(h:q<rows.length)(hb:rows[q].length≠(gr rows 0).length∨1024<rows[q].length):wfB n rows=false:=by
 cases e:wfB n rows with
 |false=>rfl
 |true=>
  unfold wfB at e;rw[Bool.and_eq_true,List.all_eq_true] at e;have:=e.2 _ (List.getElem_mem h);simp at this;omega
theorem Ti{n:Int}{rows:List (List Int)}(hn:(rows.length:Int)=n)(h:∀q (h:q<rows.length),rows[q].length=(gr rows 0).length∧rows[q].length≤1024):wfB n rows=true:=by
 unfold wfB;rw[Bool.and_eq_true,List.all_eq_true];refine⟨Ze hn,fun r hr=> ?_⟩
 obtain⟨q,hq,rfl⟩:=List.mem_iff_getElem.1 hr;have:=h q hq;simp[this.1];omega
theorem Hl{P:Int}{rows:List (List Int)}{j:Nat}(h:j<rows.length):(rows.take (j+1)).all (els P)=((rows.take j).all (els P)&&els P rows[j]):=by
 rw[←List.take_append_getElem h,List.all_append];simp
theorem Mp(l:List Int)(v:Value)(w:World)(h:SI w v l)(hl:l.length≤1000000):
  Calls Tryz.prog 56 #[v,.int .i64 0] w fun e w'=>e= .returned (.int .i64 (gd l 0))∧w=w':=Wh l 0 v w h hl
theorem Tt{P k:Int}{l:List (Int×Bool)}{out:List Int}{er:Int}(h:UnR P l k out er)(hk:k≤1000):out.length≤1000:=by
 rcases h with⟨_,_,rfl⟩|⟨_,⟨_,hg⟩|⟨_,rfl,_⟩⟩
 ·simp
 ·have:=hg.len;omega
 ·simp
theorem Ny{P k:Int}{l:List (Int×Bool)}{out:List Int}{er:Int}(h:UnR P l k out er):An (gd out 0):=by
 unfold gd
 cases hg:out[0]? with
 |none=>show An 0;unfold An;omega
 |some y=>exact Sx h y (List.mem_of_getElem? hg)
set_option maxRecDepth 100000 in
set_option maxHeartbeats 8000000 in
theorem Lo(P n t:Int)(rows:List (List Int))(v:Value)(w:World)(hP:An P)(h:SL w v rows)(hE:EW w):
  Calls Tryz.prog 37 #[.agg #[.int .i64 P],.agg #[.int .i64 n,.int .i64 t],v] w (wanP P n t rows w):=by
 have HE:=Zk hE;obtain⟨A,c,rfl,hc,hm,hs,eE,eF,eD⟩:=h.heads;have bP:=Zk eF;have eY:=Zk eD;have aS:=Zk eE;clear h hE eF eD eE;obtain⟨ic,eG,eH,eI,eJ⟩:=info_parts Wf;go_enter Tryz.func37,Tryz.ntmps37;go_upto_region 1 with fail
 obtain⟨wa,ew⟩:∃wa:World,wa=(w.alloc (.cells #[.int .i64 P] 31)).alloc (.cells #[.int .i64 n,.int .i64 t] 29):=⟨_,rfl⟩;have dK:Hid (Below w.heap.size w wa):=by show Below _ _ _;rw[ew];exact (((Zb _ w).alloc (Zl _) _).alloc (by simp) _)
 have dF:wa.heap.size=w.heap.size+2:=by rw[ew];simp
 have HF:Hid (wa.heap[w.heap.size]? =some (.cells #[.int .i64 P] 31 (0,0))):=by
  show _=_;rw[ew,Below.heap_alloc _ _ _ (by simp)];exact Zh w _
 have HT:Hid (wa.heap[w.heap.size+1]? =some (.cells #[.int .i64 n,.int .i64 t] 29 (0,0))):=by
  show _=_;rw[ew];have:=Zh (w.alloc (.cells #[.int .i64 P] 31)) (.cells #[.int .i64 n,.int .i64 t] 29);simpa using this
 rw[←ew];clear ew;obtain⟨F,hF⟩:∃F,w.heap.size=F:=⟨_,rfl⟩;have HFF:=Zk hF;rw[hF] at HF HT dF⊢;have HZA:=Zk dF;clear hF dF;have bE:wa.cell? ⟨F,0,none⟩=some (.int .i64 P):=Zc wa F 0 _ _ _ HF.out;have cL:wa.cell? ⟨F+1,0,none⟩=some (.int .i64 n):=Zc wa (F+1) 0 _ _ _ HT.out;have cM:wa.cell? ⟨F+1,1,none⟩=some (.int .i64 t):=Zc wa (F+1) 1 _ _ _ HT.out;go_wp2_with fail;(with_reducible refine (Ev P n t _ hP).mono ?_)
 rintro e w1 ⟨rfl,bU⟩;have aY:Hid (Below w.heap.size w w1):=dK.out.trans (bU.mono dK.out.size);have cD:Hid (w1.heap[F]? =some (.cells #[.int .i64 P] 31 (0,0))):=(bU.block F (Ae HF.out)).trans HF.out;have cJ:Hid (w1.heap[F+1]? =some (.cells #[.int .i64 n,.int .i64 t] 29 (0,0))):=(bU.block (F+1) (Ae HT.out)).trans HT.out;clear bE cL cM bU;by_cases h0:cuE P n t=0
 ·have HZ:=Zk h0;obtain⟨eO,hv,hnP⟩:=Ff h0;obtain⟨b1,b2,b3,b4⟩:=Eu hv;have HPR:=Zk eO;rw[h0];clear h0 eO hv;have d0:((0:Int) !=0)=false:=rfl;have cL:w1.cell? ⟨F+1,0,none⟩=some (.int .i64 n):=Zc w1 (F+1) 0 _ _ _ cJ.out;have cM:w1.cell? ⟨F+1,1,none⟩=some (.int .i64 t):=Zc w1 (F+1) 1 _ _ _ cJ.out;have bE:w1.cell? ⟨F,0,none⟩=some (.int .i64 P):=Zc w1 F 0 _ _ _ cD.out;by_cases hrn:(rows.length:Int)=n
  ·have d1:((rows.length:Int) !=n)=false:=by rw[bne_eq_false_iff_eq];exact hrn
   have fC:=Zk hrn;have hr2:2≤rows.length:=by omega
   have dC:rows.length≤10:=by omega
   have wt:IntKind.i64.wrap (t+1)=t+1:=by exact Zi _ (by omega)
   obtain⟨b,bL,rfl,hb,aQ⟩:=eY.out (by omega);have aF:=Zk aQ;obtain⟨C,eC⟩:∃C,C=w1.heap.size:=⟨_,rfl⟩;obtain⟨k1,cP⟩:∃k1,k1=t+1:=⟨_,rfl⟩;obtain⟨w6,bT⟩:∃w6:World,w6=w1.alloc (.cells #[.int .i64 P,.int .i64 k1,.slice none 0 0] 103):=⟨_,rfl⟩;have fE:Hid (w1.alloc (.cells #[.int .i64 P,.int .i64 (t+1),.slice none 0 0] 103)=w6):=Zk (by show _=_;rw[bT,cP]);have eW:Hid (CAc C P k1 (.slice none 0 0) [] w6):=Zk (by rw[bT,eC];exact⟨Zh w1 _,World.ownsRow_nil _ _ _ _⟩);have dJ:Hid (Below w1.heap.size w1 w6):=Zk (by rw[bT];exact (Zb _ w1).alloc (Zl _) _);have hF1C:F+1<C:=by rw[eC];exact Ae cJ.out
   have cC:=Zk cP;have HEC:=Zk eC;have hbC:b<C:=by rw[eC];have:=aY.out.size;omega
   have fF:Hid (w.heap.size≤C):=Zk (by rw[eC];exact aY.out.size);have cA:Hid (Below w.heap.size w w6):=aY.out.trans (dJ.out.mono aY.out.size);clear hrn aQ;go_upto_region 7 with fail
   rw[fE.out,←eC];clear bT eC cP cL cM bE wt;go_wp2_with fail;go_loopw [11,40] (fun bv iv wr=>Wa1 P k1 rows hs C w6 bv iv wr) (fun _ iv _=>rows.length- (intOf iv).toNat)
   case atStart=>exact⟨0,.slice none 0 0,Nat.zero_le _,rfl,rfl,fun q h1 h2=>by omega,eW.out,Zb _ _⟩
   case round=>
    obtain⟨j,sv,hj,rfl,rfl,eB,cV,dX⟩:=hrel;have bD:=Zk eB;have aJ:=Zk cV;have bN:=Zk dX;have aA:Hid (Below w.heap.size w wr):=cA.out.trans (bN.out.mono fF.out);have cS:C<wr.heap.size:=cV.lt;clear eB cV dX;by_cases hlt:j<rows.length
    ·have cY:j<hs.length:=by rw[aS.out];exact hlt
     obtain⟨B,d,bS,bY⟩:=bP.out j cY hlt;have bG:0<hs.length:=by rw[aS.out];omega
     obtain⟨B0,dQ,bF,dD⟩:=bP.out 0 bG (by omega);have cj:=(aA.out.cell (p:=⟨b,bL+j,none⟩) hb).trans (aF.out j cY);have c0:=(aA.out.cell (p:=⟨b,bL+0,none⟩) hb).trans (aF.out 0 bG);rw[bS] at cj bY;rw[bF] at c0;rw[Nat.add_zero] at c0;have bI:rows[0].length=(gr rows 0).length:=by unfold gr;rw[List.getElem?_eq_getElem (by omega)];rfl
     rw[bI] at c0;obtain⟨row,aU⟩:∃row,row=rows[j]:=⟨_,rfl⟩;obtain⟨l0,aO⟩:∃l0,l0=(gr rows 0).length:=⟨_,rfl⟩;rw[←aU] at cj bY bS;rw[←aO] at c0;have aC:=Zk aU;have aL:=Zk aO;have bC:=Zk bS;have fD:Hid (SI wr (.slice B row.length d) row):=bY.below aA.out;have cN:decide (j<rows.length)=true:=Ze hlt;clear aU aO bS bY bI bF dD;by_cases hbad:row.length≠l0∨1024<row.length
     ·have aN:Hid (wfB n rows=false):=Zk (by
       show _=_;refine Xo hlt ?_;rw[←aC.out,←aL.out];exact hbad)
      by_cases hne:row.length=l0
      ·have bV:((row.length:Int) !=(l0:Int))=false:=by rw[bne_eq_false_iff_eq];omega
       have eA:decide (1024<(row.length:Int))=true:=Ze (by omega);have hd3:decide (1024<row.length)=true:=Ze (by omega);have bW:(row.length !=l0)=false:=by rw[bne_eq_false_iff_eq];omega
       have hd5:decide (1024<l0)=true:=Ze (by omega);have cW:decide (1024<(l0:Int))=true:=Ze (by omega);clear hbad;rw[hne] at cj;go_wp2_with fail;go_ret3
       exact⟨0,false,2,rfl,aA.out,.inr ⟨HZ.out,.inl ⟨aN.out,rfl,rfl,rfl⟩⟩⟩
      ·have bV:((row.length:Int) !=(l0:Int))=true:=by rw[bne_iff_ne];omega
       have bW:(row.length !=l0)=true:=by rw[bne_iff_ne];omega
       clear hbad;go_wp2_with fail;go_ret3
       exact⟨0,false,2,rfl,aA.out,.inr ⟨HZ.out,.inl ⟨aN.out,rfl,rfl,rfl⟩⟩⟩
     ·have bX:row.length=l0:=by omega
      have bV:((row.length:Int) !=(l0:Int))=false:=by rw[bne_eq_false_iff_eq];omega
      have eA:decide (1024<(row.length:Int))=false:=Zd (by omega);have eK:row.length≤1024:=by omega
      have bW:decide (1024<l0)=false:=Zd (by omega);have cW:decide (1024<(l0:Int))=false:=Zd (by omega);rw[bX] at cj bC;have cH:Hid (SI wr (.slice B l0 d) row):=Zk (by rw[←bX];exact fD.out);obtain⟨HT,bR⟩:∃HT,HT=hs.take j:=⟨_,rfl⟩;have hTl:HT.length≤10:=by rw[bR,List.length_take,aS.out];omega
      have dO:Hid (hs.take (j+1)=HT++[.slice B l0 d]):=Zk (by
       show _=_;rw[←List.take_append_getElem cY,←bR,bC.out])
      rw[←bR] at aJ;obtain⟨As,cs,cQ⟩:=Bn aJ.out.2;subst cQ;obtain⟨eb,aT⟩:∃eb,eb=(rows.take j).all (els P):=⟨_,rfl⟩;have bB:Hid ((rows.take (j+1)).all (els P)=(eb&&els P row)):=Zk (by show _=_;rw[Hl hlt,aT,aC.out]);rw[←aT];clear aT bR hbad eA
      cases eb with
      |false=>
       have aR:Hid (Value.bool false=Value.bool ((rows.take (j+1)).all (els P))):=Zk (by show _=_;rw[bB.out];rfl);have aE:Hid (CAc C P k1 (.slice As HT.length cs) HT wr):=Zk (aJ.out);have bA:Hid (Below C w6 wr):=Zk (bN.out);have fL:C<wr.heap.size:=aE.out.lt;have cK:wr.cell? ⟨C,2,none⟩=some (.slice As HT.length cs):=Zc wr C 2 _ _ _ aE.out.1;have aH:Hid (∀(aM:Value) (w8:World),(wr.alloc (.cells #[.bool true,.slice B l0 d] 52)).grownBy w8 (Value.slice As HT.length cs).ownBlock→w8.ownsRow (C+1) 52 2 aM (HT.length+1) (HT.flatMap apc++[.bool true,.slice B l0 d])→
         (w8.cell? ⟨C,2,none⟩=some (.slice As HT.length cs)∧w8.frozen? ⟨C,2,none⟩=false)∧Wa1 P k1 rows hs C w6 (.bool false) (.int .i64 ((j:Int)+1)) (w8.setCell ⟨C,2,none⟩ aM)):=Zk (fun aM w8 hg ho=>by
        have bH:=aE.out.grown _ hg;refine⟨⟨Zc w8 C 2 _ _ _ bH,Zf w8 C 2 _ _ bH⟩,j+1,aM,by omega,by simp,aR.out,fun q h1 h2=> ?_,?_,?_⟩
        ·by_cases hq:q<j
         ·exact bD.out q h1 hq
         ·have eq:q=j:=by omega
          subst eq;have:=aC.out;have:=aL.out;exact⟨by rw[←aC.out,←aL.out];exact bX,by rw[←aC.out];exact eK⟩
        ·rw[dO.out];exact (aE.out.step bA.out _ hg ho).1
        ·exact (aE.out.step bA.out _ hg ho).2)
       clear bV bW cW cN;go_wp2_with (at_builtin;refine wpList_append_own _ rfl _ _ 50 rfl (C+1) 52 ic _ 2 32 Tryz.underlying50 eG eH eI eJ rfl (by omega) _ _ _ rfl (aE.out.2.alloc _) ⟨wr.heap.size,0,none⟩ 1 1 [.bool true,.slice B l0 d] rfl rfl (Ax wr _ _) (by intro u hu;simp at hu;rcases hu with rfl|rfl<;>rfl) (by unfold maxLen;omega) (by omega) (by simp;omega) ?_;intro v8 w8 aB bK _;obtain⟨A8,c8,cR⟩:=Bn aB;subst cR;obtain⟨⟨cK,fK⟩,aD⟩:=aH.out _ w8 bK aB;have aG:=Zk aD;clear aB bK aD)
       go_roundw
       case rel=>exact aG.out
       case measure=>simp[intOf];omega
      |true=>
       have aR:Hid (Value.bool (els P row)=Value.bool ((rows.take (j+1)).all (els P))):=Zk (by show _=_;rw[bB.out];simp);have bE:wr.cell? ⟨F,0,none⟩=some (.int .i64 P):=by
        have h1:=(bN.out.block F (by omega)).trans ((dJ.out.block F (Ae cD.out)).trans cD.out);exact Zc wr F 0 _ _ _ h1
       go_wp2_with fail;(with_reducible refine (Ir P row _ _ cH.out).mono ?_)
       rintro e w2 ⟨rfl,dW⟩;have dI:=Zk dW;have cT:C≤wr.heap.size:=by omega
       clear dW bE cj c0;have aE:Hid (CAc C P k1 (.slice As HT.length cs) HT w2):=Zk (aJ.out.below dI.out);have bA:Hid (Below C w6 w2):=Zk (bN.out.trans (dI.out.mono cT));have fL:C<w2.heap.size:=aE.out.lt;have cK:w2.cell? ⟨C,2,none⟩=some (.slice As HT.length cs):=Zc w2 C 2 _ _ _ aE.out.1;have aH:Hid (∀(aM:Value) (w8:World),(w2.alloc (.cells #[.bool true,.slice B l0 d] 52)).grownBy w8 (Value.slice As HT.length cs).ownBlock→w8.ownsRow (C+1) 52 2 aM (HT.length+1) (HT.flatMap apc++[.bool true,.slice B l0 d])→
         (w8.cell? ⟨C,2,none⟩=some (.slice As HT.length cs)∧w8.frozen? ⟨C,2,none⟩=false)∧Wa1 P k1 rows hs C w6 (.bool (els P row)) (.int .i64 ((j:Int)+1)) (w8.setCell ⟨C,2,none⟩ aM)):=Zk (fun aM w8 hg ho=>by
        have bH:=aE.out.grown _ hg;refine⟨⟨Zc w8 C 2 _ _ _ bH,Zf w8 C 2 _ _ bH⟩,j+1,aM,by omega,by simp,aR.out,fun q h1 h2=> ?_,?_,?_⟩
        ·by_cases hq:q<j
         ·exact bD.out q h1 hq
         ·have eq:q=j:=by omega
          subst eq;have:=aC.out;have:=aL.out;exact⟨by rw[←aC.out,←aL.out];exact bX,by rw[←aC.out];exact eK⟩
        ·rw[dO.out];exact (aE.out.step bA.out _ hg ho).1
        ·exact (aE.out.step bA.out _ hg ho).2)
       clear bV bW cW cN;go_wp2_with (at_builtin;refine wpList_append_own _ rfl _ _ 50 rfl (C+1) 52 ic _ 2 32 Tryz.underlying50 eG eH eI eJ rfl (by omega) _ _ _ rfl (aE.out.2.alloc _) ⟨w2.heap.size,0,none⟩ 1 1 [.bool true,.slice B l0 d] rfl rfl (Ax w2 _ _) (by intro u hu;simp at hu;rcases hu with rfl|rfl<;>rfl) (by unfold maxLen;omega) (by omega) (by simp;omega) ?_;intro v8 w8 aB bK _;obtain⟨A8,c8,cR⟩:=Bn aB;subst cR;obtain⟨⟨cK,fK⟩,aD⟩:=aH.out _ w8 bK aB;have aG:=Zk aD;clear aB bK aD)
       go_roundw
       case rel=>exact aG.out
       case measure=>simp[intOf];omega
    ·have cN:decide (j<rows.length)=false:=Zd hlt;have cZ:j=rows.length:=by omega
     have eT:rows.take j=rows:=by rw[cZ,List.take_length]
     have eS:hs.take j=hs:=by rw[cZ,←aS.out,List.take_length]
     rw[eT];rw[eS] at aJ;have aN:Hid (wfB n rows=true):=Zk (Ti fC.out fun q hq=>bD.out q hq (by omega))
     obtain⟨As,cs,cQ⟩:=Bn aJ.out.2;subst cQ;have cG:Hid (SAn wr (.slice As hs.length cs) (ans rows)):=Zk (zAb aS.out aJ.out.2 fun q h1 h2=>(bP.out q h1 h2).elim fun B h=>h.elim fun d h=>h.2.below aA.out)
     have fM:(ans rows).length≤400:=by rw[Dm];omega
     have bG:0<hs.length:=by rw[aS.out];omega
     obtain⟨B0,dQ,bF,dD⟩:=bP.out 0 bG (by omega);have c0:=(aA.out.cell (p:=⟨b,bL+0,none⟩) hb).trans (aF.out 0 bG);rw[bF,Nat.add_zero] at c0;have bI:rows[0].length=(gr rows 0).length:=by unfold gr;rw[List.getElem?_eq_getElem (by omega)];rfl
     rw[bI] at c0;obtain⟨l0,aO⟩:∃l0,l0=(gr rows 0).length:=⟨_,rfl⟩;rw[←aO] at c0;have aL:=Zk aO;have dB:l0≤2000:=by have h1:=bD.out 0 (by omega) (by omega);rw[aO,←h1.1];omega
     have bZ:Hid (∀a∈ans rows,a.1=true→l0≤a.2.length):=Zk (fun a ha _=>by
      obtain⟨r,hr,rfl⟩:=List.mem_map.1 ha;obtain⟨q,hq,rfl⟩:=List.mem_iff_getElem.1 hr;have:=(bD.out q hq (by omega)).1;rw[aL.out];show _≤rows[q].length;omega)
     have eX:Hid (EW wr):=HE.out.below aA.out;have k0:wr.cell? ⟨C,0,none⟩=some (.int .i64 P):=Zc wr C 0 _ _ _ aJ.out.1;have dG:wr.cell? ⟨C,1,none⟩=some (.int .i64 k1):=Zc wr C 1 _ _ _ aJ.out.1;have k2:wr.cell? ⟨C,2,none⟩=some (.slice As hs.length cs):=Zc wr C 2 _ _ _ aJ.out.1;have dA:k1≤1000:=by have:=cC.out;omega
     obtain⟨eb,aT⟩:∃eb,eb=rows.all (els P):=⟨_,rfl⟩;have aR:=Zk aT;have fN:b<wr.heap.size:=by omega
     have z0:(0:Int)<(rows.length:Int):=by omega
     have z0':0<rows.length:=by omega
     have hhn:hs.length≤10:=by rw[aS.out];exact dC
     rw[←aT];clear aT aO bI bF dD eT eS cZ
     cases eb with
     |false=>
      go_wp2_with fail;go_ret3
      exact⟨0,false,9,rfl,aA.out,.inr ⟨HZ.out,.inr ⟨aN.out,.inl ⟨aR.out.symm,rfl,rfl,rfl⟩⟩⟩⟩
     |true=>
      go_upto_region 18 with fail
      go_region_held3 (fun w'=>w'.cell? ⟨C,0,none⟩=some (.int .i64 P)∧w'.cell? ⟨C,1,none⟩=some (.int .i64 k1)∧w'.cell? ⟨C,2,none⟩=some (.slice As hs.length cs)∧w'.cell? ⟨b,bL,none⟩=some (.slice B0 l0 dQ)) (first|exact⟨k0,dG,k2,c0⟩|exact⟨t0,t1,t2,t3⟩|go_keep)
       (first|(go_at_call 54;refine (Pq P k1 (ans rows) l0 _ _ hP (by exact cG.out) fM dB (by exact bZ.out) (by exact eX.out)).mono ?_;rintro e9 w9 ⟨pv,wv,er,rfl,aP,dZ⟩;have aZ:Hid (Below wr.heap.size wr w9):=Zk (⟨aP.os,aP.tape,aP.output,aP.size,aP.block⟩);have cB:=Zk dZ;have t0:=(aZ.out.cell (p:=⟨C,0,none⟩) (by exact cS)).trans k0;have t1:=(aZ.out.cell (p:=⟨C,1,none⟩) (by exact cS)).trans dG;have t2:=(aZ.out.cell (p:=⟨C,2,none⟩) (by exact cS)).trans k2;have t3:=(aZ.out.cell (p:=⟨b,bL,none⟩) (by exact fN)).trans c0;clear aP dZ))
      all_goals
       have aK:Hid (Below w.heap.size w w9):=aA.out.trans (aZ.out.mono aA.out.size);clear t0 t1 t2 t3 k0 dG k2 c0;rcases cB.out with⟨rfl,ps,ws,dT,dV,_⟩|⟨rfl,rfl,rfl,hN⟩
       ·obtain⟨A9,c9,fI,_,_,hp,eN,eM,eL⟩:=dV.heads;subst fI;have bM:=Zk dT;have fA:=Zk eM;have eZ:=Zk eL;have fB:=Zk eN;clear dT dV eM eL eN cB;have hpsl:ps.length≤2000:=by have:=bM.out.1;omega
        go_wp2_with fail;go_loopw [17,87] (fun u iv wz=>Wa2 ps w9 u iv wz) (fun _ iv _=>ps.length- (intOf iv).toNat)
        case atStart=>exact⟨0,Nat.zero_le _,rfl,by simpa using World.ownsRow_nil w9 w9.heap.size 3 1,Zb _ _⟩
        case round=>
         obtain⟨q,hq,rfl,aV,cU⟩:=hrel;obtain⟨Au,cu,fJ⟩:=Bn aV;subst fJ;have bQ:=Zk aV;have bO:=Zk cU;have eU:w9.heap.size≤wr.heap.size:=cU.size;clear aV cU;by_cases hlq:q<ps.length
         ·have dq:decide (q<ps.length)=true:=Ze hlq;have eQ:q<hp.length:=by rw[fB.out];exact hlq
          obtain⟨b9,dH,fH,aP,dY⟩:=eZ.out (by omega);subst fH;obtain⟨Bq,fG,dR,dE⟩:=fA.out q eQ hlq;have cq:=(bO.out.cell (p:=⟨b9,dH+q,none⟩) aP).trans (dY q eQ);rw[dR] at cq dE;have dM:Hid (SI wr (.slice Bq ps[q].length fG) ps[q]):=dE.below bO.out;have dP:Hid (ps[q].length≤1000):=Tt (bM.out.2.1 q hlq) dA;have cI:Hid ((ps.take (q+1)).map (fun p=>gd p 0)=(ps.take q).map (fun p=>gd p 0)++[gd ps[q] 0]):=Zk (by
           show _=_;rw[←List.take_append_getElem hlq,List.map_append];rfl)
          obtain⟨pq,dS⟩:∃pq,pq=ps[q]:=⟨_,rfl⟩;rw[←dS] at cq dM dP cI;obtain⟨UV,cO⟩:∃UV,UV=(ps.take q).map (fun p=>gd p 0):=⟨_,rfl⟩
          have hUl:UV.length≤2000:=by rw[cO];simp;omega
          rw[←cO] at bQ cI⊢;clear dR dE dY dS cO;go_wp2_with fail;(with_reducible refine (Mp pq _ _ dM.out (by have:=dP.out;omega)).mono ?_)
          rintro e fP ⟨rfl,aW⟩;have aX:=aW.symm;subst aX;go_wp2_with (at_builtin;refine Az _ rfl _ _ 22 rfl w9.heap.size 3 Tryz.underlying22 Bf _ UV rfl bQ.out (gd pq 0) rfl (by omega) eU ?_;intro v11 w11 aI bJ;have cF:=Zk aI;have cE:=Zk bJ;clear aI bJ);go_roundw
          case rel=>
           refine⟨q+1,by omega,by go_num,by rw[cI.out];exact cF.out,?_⟩;exact (bO.out.alloc eU _).grown cE.out (by simp;omega) (fun k hk=>(bQ.out.lt k hk).1)
          case measure=>simp[intOf];omega
         ·have dq:decide (q<ps.length)=false:=Zd hlq;have eP:q=ps.length:=by omega
          have dU:Below w.heap.size w wr:=aK.out.trans (bO.out.mono aK.out.size);have eV:=Zk dU;have eR:SI wr (.slice Au ((ps.take q).map fun p=>gd p 0).length cu) (ps.map fun p=>gd p 0):=by
           have h:=bQ.out;rw[eP,List.take_length] at h⊢;refine SI.of_own h fun x hx=> ?_
           obtain⟨p,fO,rfl⟩:=List.mem_map.1 hx;obtain⟨r,hr,rfl⟩:=List.mem_iff_getElem.1 fO;exact Ny (bM.out.2.1 r hr)
          have dN:=Zk eR;clear eR dU eP;generalize ((ps.take q).map fun p=>gd p 0).length=nu at dN⊢
          go_wp2_with fail;(with_reducible refine (zCb _ _ _ dN.out).mono ?_)
          rintro e fP ⟨rfl,aW⟩;have aX:=aW.symm;subst aX;go_wp2_with fail;go_ret3
          refine⟨_,_,0,rfl,eV.out,.inr ⟨HZ.out,.inr ⟨aN.out,.inr ⟨aR.out.symm,rfl,.inr ⟨ps,ws,?_,rfl⟩⟩⟩⟩⟩;rw[←cC.out,←aL.out];exact bM.out
       ·have HN:=Zk hN;clear hN cB;go_wp2_with fail;go_ret3
        refine⟨0,false,0,rfl,by first|exact aK.out|exact aK.out.drew,.inr ⟨HZ.out,.inr ⟨aN.out,.inr ⟨aR.out.symm,rfl,.inl ⟨?_,rfl,rfl⟩⟩⟩⟩⟩;rw[←cC.out,←aL.out];exact HN.out
  ·have d1:((rows.length:Int) !=n)=true:=by rw[bne_iff_ne];exact hrn
   have aN:Hid (wfB n rows=false):=Zk (by show _=_;unfold wfB;rw[Zd hrn];rfl);clear hrn;go_wp2_with fail;go_ret3
   exact⟨0,false,2,rfl,aY.out,.inr ⟨HZ.out,.inl ⟨aN.out,rfl,rfl,rfl⟩⟩⟩
 ·obtain⟨er,cX⟩:∃er,cuE P n t=er:=⟨_,rfl⟩;have dL:=Zk cX;rw[cX] at h0⊢;have H0:=Zk h0;have d0:(er !=0)=true:=by rw[bne_iff_ne];exact h0
  have d1:(er==0)=false:=by rw[beq_eq_false_iff_ne];exact h0
  clear cX h0;go_wp2_with fail;go_ret3
  exact⟨0,false,er,rfl,aY.out,.inl ⟨by rw[dL.out];exact H0.out,dL.out.symm,rfl,rfl⟩⟩
open Go.RowKit
def DeR(P n t width:Int)(l:List (Bool×List Int))(row wr:List Int)(er:Int):Prop:=
 (cuE P n t≠0∧er=cuE P n t∧row=[]∧wr=[])∨(cuE P n t=0∧
  ((ckE P width n (t+1) l≠0∧er=ckE P width n (t+1) l∧row=[]∧wr=[])∨(ckE P width n (t+1) l=0∧
   ((AlN P (t+1) l width.toNat∧er=12∧row=[]∧wr=[])∨(∃ps,AlR P (t+1) l width.toNat ps wr∧row=ps.map (fun p=>gd p 0)∧er=0)))))
def DeP(P n t width:Int)(l:List (Bool×List Int))(w:World)(e:Ending)(w':World):Prop:=
 ∃row wr er v1 v2,e= .returned (.tuple #[.agg #[v1,v2],.int .i64 er])∧Below w.heap.size w w'∧DeR P n t width l row wr er∧SI w' v1 row∧SI w' v2 wr
def De1(O:Nat)(w9:World)(v2:Value)(ps:List (List Int))(iv:Value)(wr:World):Prop:=
 ∃(j:Nat) (u:Value),j≤ps.length∧iv= .int .i64 j∧wr.heap[O]? =some (.cells #[u,v2] 68 (0,0))∧wr.ownsRow (O+1) 3 1 u ((ps.take j).map fun p=>gd p 0).length (((ps.take j).map fun p=>gd p 0).map (Value.int .i64))∧Below O w9 wr
theorem Qg{O j:Nat}{w9 wr w8:World}{v2 u v':Value}{ps:List (List Int)}{xs:List Int}{y:Int}(hj:j<ps.length)(hxs:(ps.take (j+1)).map (fun p=>gd p 0)=xs++[y])
  (hO:wr.heap[O]? =some (.cells #[u,v2] 68 (0,0))) (hown:wr.ownsRow (O+1) 3 1 u xs.length (xs.map (Value.int .i64))) (hb:Below O w9 wr)
  (hg:(wr.alloc (.cells #[.int .i64 y] 3)).grownBy w8 u.ownBlock) (ho:w8.ownsRow (O+1) 3 1 v' (xs++[y]).length ((xs++[y]).map (Value.int .i64))):
  De1 O w9 v2 ps (.int .i64 ((j:Int)+1)) (w8.setCell ⟨O,0,none⟩ v'):=by
 have aA:=Ae hO;have hu:∀q,u.ownBlock=some q→O+1≤q:=fun q hq=>(hown.lt q hq).1
 have h8:w8.heap[O]? =some (.cells #[u,v2] 68 (0,0)):=(hg.block O (by simp;omega) (fun e=>by have:=hu O e.symm;omega)).trans ((Below.heap_alloc wr _ O aA).trans hO)
 refine⟨j+1,v',by omega,by go_num,?_,?_,?_⟩
 ·have:=heap_setCell_same w8 O 0 _ _ v' h8;simpa using this
 ·rw[hxs];exact Ay ho (by show O<O+1;omega) _
 ·exact (((hb.alloc (Nat.le_of_lt aA) _)).grown hg (by simp;omega) (fun k hk=>by have:=hu k hk;omega)).setCell (Zl _) _
theorem Rt{P width servers need:Int}{l:List (Bool×List Int)}(h:ckE P width servers need l=0):0≤width∧width≤64∧(l.length:Int)=servers∧wdB width l=true∧elB P l=true∧need≤(knL l:Int):=by
 unfold ckE at h;by_cases h1:width<0∨64<width
 ·rw[if_pos h1] at h;omega
 ·rw[if_neg h1] at h;by_cases h2:(l.length:Int)≠servers
  ·rw[if_pos h2] at h;omega
  ·rw[if_neg h2] at h
   cases h3:wdB width l with
   |false=>rw[h3] at h;simp at h
   |true=>
    rw[h3,if_neg (by simp)] at h
    cases h4:elB P l with
    |false=>rw[h4] at h;simp at h
    |true=>
     rw[h4,if_neg (by simp)] at h;by_cases h5:(knL l:Int)<need
     ·rw[if_pos h5] at h;omega
     ·exact⟨by omega,by omega,by omega,rfl,rfl,by omega⟩
theorem zDq{width:Int}{l:List (Bool×List Int)}(h:wdB width l=true):∀a∈l,a.1=true→(a.2.length:Int)=width:=fun a ha h1=>by
 unfold wdB at h;rw[List.all_eq_true] at h;have:=h a ha;simpa [h1] using this
theorem Xm{P k:Int}{l:List (Bool×List Int)}{n:Nat}{ps:List (List Int)}{ws:List Int}(h:AlR P k l n ps ws):∀x∈ws,1≤x∧x≤(l.length:Int):=fun x hx=>by
 have h1:=h.2.2;rw[h1] at hx;exact Sd P l ps x (((Ma _).2 x).1 hx)
set_option maxRecDepth 100000 in
set_option maxHeartbeats 8000000 in
theorem Qt(P n t width:Int)(l:List (Bool×List Int))(v:Value)(w:World)(hP:An P)(h:SAn w v l)(hz:l.length≤1000000)(hE:EW w):
    Calls Tryz.prog 34 #[.agg #[.int .i64 P],.agg #[.int .i64 n,.int .i64 t],.int .i64 width,v] w (DeP P n t width l w):=by
  have HE:=Zk hE;have HS:=Zk h;obtain⟨A,c,rfl⟩:=h.form;clear h hE;go_enter Tryz.func34,Tryz.ntmps34;go_upto_region 1 with fail
  obtain⟨wa,ew⟩:∃wa:World,wa=((w.alloc (.cells #[.int .i64 P] 31)).alloc (.cells #[.int .i64 n,.int .i64 t] 29)).alloc (.cells #[.slice none 0 0,.slice none 0 0] 68):=⟨_,rfl⟩;have cF:Hid (Below w.heap.size w wa):=by show Below _ _ _;rw[ew];exact (((Zb _ w).alloc (Zl _) _).alloc (by simp) _).alloc (by simp;omega) _
  have cD:wa.heap.size=w.heap.size+3:=by rw[ew];simp
  have HF:Hid (wa.heap[w.heap.size]? =some (.cells #[.int .i64 P] 31 (0,0))):=by
    show _=_;rw[ew,Below.heap_alloc _ _ _ (by simp;omega),Below.heap_alloc _ _ _ (by simp)];exact Zh w _
  have HT:Hid (wa.heap[w.heap.size+1]? =some (.cells #[.int .i64 n,.int .i64 t] 29 (0,0))):=by
    show _=_;rw[ew,Below.heap_alloc _ _ _ (by simp)];have:=Zh (w.alloc (.cells #[.int .i64 P] 31)) (.cells #[.int .i64 n,.int .i64 t] 29);simpa using this
  have HR:Hid (wa.heap[w.heap.size+2]? =some (.cells #[.slice none 0 0,.slice none 0 0] 68 (0,0))):=by
    show _=_;rw[ew];have:=Zh ((w.alloc (.cells #[.int .i64 P] 31)).alloc (.cells #[.int .i64 n,.int .i64 t] 29)) (.cells #[.slice none 0 0,.slice none 0 0] 68);simpa using this
  rw[←ew];clear ew;obtain⟨F,hF⟩:∃F,w.heap.size=F:=⟨_,rfl⟩;have bA:=Zk hF;rw[hF] at HF HT HR cD⊢;have HZA:=Zk cD;clear hF cD;have aU:wa.cell? ⟨F,0,none⟩=some (.int .i64 P):=Zc wa F 0 _ _ _ HF.out;have bT:wa.cell? ⟨F+1,0,none⟩=some (.int .i64 n):=Zc wa (F+1) 0 _ _ _ HT.out;have aV:wa.cell? ⟨F+1,1,none⟩=some (.int .i64 t):=Zc wa (F+1) 1 _ _ _ HT.out;go_wp2_with fail;(with_reducible refine (Ev P n t _ hP).mono ?_)
  rintro e w1 ⟨rfl,aW⟩;have aZ:Hid (Below w.heap.size w w1):=cF.out.trans (aW.mono cF.out.size);have bL:Hid (w1.heap[F]? =some (.cells #[.int .i64 P] 31 (0,0))):=(aW.block F (Ae HF.out)).trans HF.out;have bC:Hid (w1.heap[F+1]? =some (.cells #[.int .i64 n,.int .i64 t] 29 (0,0))):=(aW.block (F+1) (Ae HT.out)).trans HT.out;have aL:Hid (w1.heap[F+2]? =some (.cells #[.slice none 0 0,.slice none 0 0] 68 (0,0))):=(aW.block (F+2) (Ae HR.out)).trans HR.out;clear aU bT aV aW;by_cases h0:cuE P n t=0
  · have HZ:=Zk h0;obtain⟨eF,hv,hnP⟩:=Ff h0;obtain⟨b1,b2,b3,b4⟩:=Eu hv;rw[h0];clear h0 eF hv;have d0:((0:Int) !=0)=false:=rfl;have bT:w1.cell? ⟨F+1,0,none⟩=some (.int .i64 n):=Zc w1 (F+1) 0 _ _ _ bC.out;have aV:w1.cell? ⟨F+1,1,none⟩=some (.int .i64 t):=Zc w1 (F+1) 1 _ _ _ bC.out;have aU:w1.cell? ⟨F,0,none⟩=some (.int .i64 P):=Zc w1 F 0 _ _ _ bL.out;have wt:IntKind.i64.wrap (t+1)=t+1:=by exact Zi _ (by omega)
    have cL:=Zk (HS.out.below aZ.out);go_wp2_with fail;(with_reducible refine (Qm P width n (t+1) l _ _ cL.out hz).mono ?_)
    rintro e w2 ⟨rfl,aN⟩;have HB2:=Zk aN;have aH:Hid (Below w.heap.size w w2):=aZ.out.trans (aN.mono aZ.out.size);have dG:Hid (w2.heap[F]? =some (.cells #[.int .i64 P] 31 (0,0))):=(aN.block F (Ae bL.out)).trans bL.out;have dN:Hid (w2.heap[F+1]? =some (.cells #[.int .i64 n,.int .i64 t] 29 (0,0))):=(aN.block (F+1) (Ae bC.out)).trans bC.out;have aM:Hid (w2.heap[F+2]? =some (.cells #[.slice none 0 0,.slice none 0 0] 68 (0,0))):=(aN.block (F+2) (Ae aL.out)).trans aL.out;have dL:=Zk (cL.out.below aN);clear aU bT aV aN;by_cases hk:ckE P width n (t+1) l=0
    · have HK:=Zk hk;obtain⟨w0,w64,hln,dB,_,_⟩:=Rt hk;rw[hk];obtain⟨wd,dW⟩:∃wd:Nat,width=wd:=⟨width.toNat,by omega⟩;subst dW;have dC:Hid (∀a∈l,a.1=true→wd≤a.2.length):=Zk (fun a ha h1=>by have:=zDq dB a ha h1;omega)
      have cB:l.length≤400:=by omega
      have aY:wd≤2000:=by omega
      have aV:w2.cell? ⟨F+1,1,none⟩=some (.int .i64 t):=Zc w2 (F+1) 1 _ _ _ dN.out;have aU:w2.cell? ⟨F,0,none⟩=some (.int .i64 P):=Zc w2 F 0 _ _ _ dG.out;obtain⟨k1,bV⟩:∃k1,k1=t+1:=⟨_,rfl⟩;have cA:k1≤1000:=by omega
      obtain⟨C,eC⟩:∃C,C=w2.heap.size:=⟨_,rfl⟩;obtain⟨w3,bD⟩:∃w3:World,w3=w2.alloc (.cells #[.int .i64 P,.int .i64 k1,.slice A l.length c] 103):=⟨_,rfl⟩;have dP:Hid (w2.alloc (.cells #[.int .i64 P,.int .i64 (t+1),.slice A l.length c] 103)=w3):=Zk (by show _=_;rw[bD,bV]);have bJ:Hid (w3.heap[C]? =some (.cells #[.int .i64 P,.int .i64 k1,.slice A l.length c] 103 (0,0))):=Zk (by show _=_;rw[bD,eC];exact Zh w2 _);have bH:Hid (Below w2.heap.size w2 w3):=Zk (by rw[bD];exact (Zb _ w2).alloc (Zl _) _);have aI:Hid (Below w.heap.size w w3):=aH.out.trans (bH.out.mono aH.out.size);have dM:=Zk (dL.out.below bH.out);have dF:Hid (EW w3):=HE.out.below aI.out;have bN:Hid (w3.heap[F+2]? =some (.cells #[.slice none 0 0,.slice none 0 0] 68 (0,0))):=(bH.out.block (F+2) (Ae aM.out)).trans aM.out;have cG:=Zk bV;have HEC:=Zk eC;clear hk dB;go_upto_region 8 with fail
      rw[dP.out,←eC];clear bD eC bV aV aU wt;have c0:w3.cell? ⟨C,0,none⟩=some (.int .i64 P):=Zc w3 C 0 _ _ _ bJ.out;have c1:w3.cell? ⟨C,1,none⟩=some (.int .i64 k1):=Zc w3 C 1 _ _ _ bJ.out;have c2:w3.cell? ⟨C,2,none⟩=some (.slice A l.length c):=Zc w3 C 2 _ _ _ bJ.out;go_wp2_with fail;(with_reducible refine (Pq P k1 l wd _ _ hP dM.out cB aY dC.out dF.out).mono ?_)
      rintro e9 w9 ⟨pv,wv,er,rfl,aQ,cV⟩;have HB9:=Zk aQ;have bK:=Zk cV;have aJ:Hid (Below w.heap.size w w9):=aI.out.trans (aQ.mono aI.out.size);have aF:Hid (w9.heap[F+2]? =some (.cells #[.slice none 0 0,.slice none 0 0] 68 (0,0))):=(aQ.block (F+2) (Ae bN.out)).trans bN.out;have dZ:F+2<w9.heap.size:=Ae aF.out;clear aQ cV c0 c1 c2;rcases bK.out with⟨rfl,ps,ws,bE,cS,bY⟩|⟨rfl,rfl,rfl,hN⟩
      · obtain⟨A9,c9,dV,eD,eE,hp,cY,cX,cW⟩:=cS.heads;subst dV;obtain⟨Aw,cw,dX⟩:=Dv bY;subst dX;have bF:=Zk bE;have dJ:=Zk cX;have dI:=Zk cW;have dK:=Zk cY;have dR:Hid (w9.ownsRow w3.heap.size 3 1 (.slice Aw ws.length cw) ws.length (ws.map (Value.int .i64))):=bY;have dS:Hid (∀x∈ws,An x):=Zk (fun x hx=>by have:=Xm bE x hx;unfold An;omega)
        have cI:Hid (F+2<w3.heap.size):=Ae bN.out;have hpsl:ps.length≤2000:=by have:=bE.1;omega
        clear bE cS cX cW cY bK eD eE bY;obtain⟨O,eO⟩:∃O,O=w9.heap.size:=⟨_,rfl⟩;obtain⟨aR,aD⟩:∃aR:World,aR=w9.alloc (.cells #[.slice none 0 0,.slice Aw ws.length cw] 68):=⟨_,rfl⟩;have bP:Hid (w9.alloc (.cells #[.slice none 0 0,.slice Aw ws.length cw] 68)=aR):=aD.symm;have bM:Hid (aR.heap[O]? =some (.cells #[.slice none 0 0,.slice Aw ws.length cw] 68 (0,0))):=Zk (by show _=_;rw[aD,eO];exact Zh w9 _);have bG:Hid (Below O w9 aR):=Zk (by rw[aD,eO];exact (Zb _ w9).alloc (Zl _) _);have cH:=Zk eO;rw[←eO] at dZ;go_upto_region 12 with fail
        rw[bP.out,←eO];clear aD eO;go_wp2_with fail;go_loopw [60] (fun iv wz=>De1 O w9 (.slice Aw ws.length cw) ps iv wz) (fun iv _=>ps.length- (intOf iv).toNat)
        case atStart=>exact⟨0,.slice none 0 0,Nat.zero_le _,rfl,bM.out,by simpa using World.ownsRow_nil aR (O+1) 3 1,bG.out⟩
        case round=>
          obtain⟨q,u,hq,rfl,hO,aX,cT⟩:=hrel;have aE:=Zk aX;have bI:=Zk cT;have aK:=Zk hO;have eA:O<wr.heap.size:=Ae hO;clear aX cT hO;by_cases hlq:q<ps.length
          · have dq:decide (q<ps.length)=true:=Ze hlq;have dA:q<hp.length:=by rw[dK.out];exact hlq
            obtain⟨b9,cE,dU,aQ,cU⟩:=dI.out (by omega);subst dU;obtain⟨Bq,cP,cQ,cC⟩:=dJ.out q dA hlq;have aA:Below w9.heap.size w9 wr:=by rw[←cH.out];exact bI.out
            have cq:=(aA.cell (p:=⟨b9,cE+q,none⟩) aQ).trans (cU q dA);rw[cQ] at cq cC;have cM:Hid (SI wr (.slice Bq ps[q].length cP) ps[q]):=cC.below aA;have cO:Hid (ps[q].length≤1000):=Tt (bF.out.2.1 q hlq) cA;have bB:Hid ((ps.take (q+1)).map (fun p=>gd p 0)=(ps.take q).map (fun p=>gd p 0)++[gd ps[q] 0]):=Zk (by
              show _=_;rw[←List.take_append_getElem hlq,List.map_append];rfl)
            obtain⟨pq,cR⟩:∃pq,pq=ps[q]:=⟨_,rfl⟩;rw[←cR] at cq cM cO bB;obtain⟨y,ey⟩:∃y,y=gd pq 0:=⟨_,rfl⟩;have dE:Hid (∀W,Below wr.heap.size wr W→Calls Tryz.prog 56 #[.slice Bq pq.length cP,.int .i64 0] W fun e w'=>e= .returned (.int .i64 y)∧W=w'):=Zk (fun W hb=>(Mp pq _ W (cM.out.below hb) (by have:=cO.out;omega)).mono fun e w' ⟨h1,h2⟩=>⟨by rw[h1,ey],h2⟩)
            rw[←ey] at bB;obtain⟨UV,bU⟩:∃UV,UV=(ps.take q).map (fun p=>gd p 0):=⟨_,rfl⟩
            have hUl:UV.length≤2000:=by rw[bU];simp;omega
            rw[←bU] at aE bB;have bO:Hid (∀(g9 aB:Nat) (w8:World),(wr.alloc (.cells #[.int .i64 y] 3)).grownBy w8 u.ownBlock→w8.ownsRow (O+1) 3 1 (.slice (some ⟨g9,0,none⟩) (UV++[y]).length aB) (UV++[y]).length ((UV++[y]).map (Value.int .i64))→
                De1 O w9 (.slice Aw ws.length cw) ps (.int .i64 ((q:Int)+1)) (w8.setCell ⟨O,0,none⟩ (.slice (some ⟨g9,0,none⟩) (UV.length+1) aB))):=Zk (fun g9 aB w8 hg ho=>by
              have h1:=Qg hlq bB.out aK.out aE.out bI.out hg ho;rw[List.length_append] at h1;exact h1)
            have bQ:wr.cell? ⟨O,0,none⟩=some u:=Zc wr O 0 _ _ _ aK.out;have dY:wr.frozen? ⟨O,0,none⟩=false:=Zf wr O 0 _ _ aK.out;have cK:Hid (∀q,q≤O→some q≠u.ownBlock):=Zk (fun q hq e1=>by have:=(aE.out.lt q e1.symm).1;omega)
            have dT:Hid (∀wb:World,(wr.alloc (.cells #[.int .i64 y] 3)).grownBy wb u.ownBlock→wb.frozen? ⟨O,0,none⟩=false):=Zk (fun wb hg=>Zf wb O 0 _ _ ((hg.block O (by simp;omega) (cK.out O (Zl _))).trans ((Below.heap_alloc wr _ O eA).trans aK.out)))
            clear cQ cC cU cR bU ey aA;go_upto_region 15 with fail
            go_region_law (first
              | (refine Al _ (by rfl) (.tmp 65) _ 22 (by rfl) (O+1) 3 Tryz.underlying22 Bf u UV (by rfl) (by first|exact aE.out.alloc (.cells #[.int .i64 y] 3)|exact (aE.out.alloc (.cells #[.int .i64 y] 3)).drew) y wr.heap.size (by rfl) (by exact Ax wr [.int .i64 y] 3 0 _ rfl) (by omega) (by simp;omega) ?_;intro g9 aB w8 aG aP bZ;
                 have cJ:Hid ((wr.alloc (.cells #[.int .i64 y] 3)).grownBy w8 u.ownBlock):=Zk (⟨aP.os,aP.tape,aP.output,aP.size,aP.block⟩);have dH:=Zk aG;have bQ:w8.cell? ⟨O,0,none⟩=some u:=aP.cell (Bk (.cells #[.int .i64 y] 3) bQ) (cK.out O (Zl O));have dY:w8.frozen? ⟨O,0,none⟩=false:=dT.out w8 cJ.out;clear aP aG bZ)
              | (go_simp;go_at_call 56;refine (dE.out _ (by first|exact Zb _ _|exact (Zb _ _).drew)).mono ?_;rintro e9 w8 ⟨rfl,rfl⟩))
            all_goals
              go_wp2_with fail;go_roundw
              case rel=>exact bO.out g9 aB w8 cJ.out dH.out
              case measure=>simp[intOf];omega
          · have dq:decide (q<ps.length)=false:=Zd hlq;have cZ:q=ps.length:=by omega
            have aA:Below w9.heap.size w9 wr:=by rw[←cH.out];exact bI.out
            obtain⟨Au,cu,eu⟩:=Dv aE.out;subst eu;have cN:Hid (wr.ownsRow (O+1) 3 1 (.slice Au ((ps.take q).map fun p=>gd p 0).length cu) (ps.map fun p=>gd p 0).length ((ps.map fun p=>gd p 0).map (Value.int .i64))):=Zk (by
              have h:=aE.out;rw[cZ,List.take_length] at h⊢;exact h)
            generalize ((ps.take q).map fun p=>gd p 0).length=nu at cN aE aK
            have dD:Hid (Below w.heap.size w wr):=aJ.out.trans (aA.mono aJ.out.size);have aT:Hid (wr.heap[F+2]? =some (.cells #[.slice none 0 0,.slice none 0 0] 68 (0,0))):=(aA.block (F+2) (Ae aF.out)).trans aF.out;have dQ:Hid (wr.ownsRow w3.heap.size 3 1 (.slice Aw ws.length cw) ws.length (ws.map (Value.int .i64))):=Zk (Be dR.out aA);have dO:Hid (∀x∈ps.map fun p=>gd p 0,An x):=Zk (fun x hx=>by
              obtain⟨p,eB,rfl⟩:=List.mem_map.1 hx;obtain⟨r,hr,rfl⟩:=List.mem_iff_getElem.1 eB;exact Ny (bF.out.2.1 r hr))
            have bQ:wr.cell? ⟨O,0,none⟩=some (.slice Au nu cu):=Zc wr O 0 _ _ _ aK.out;have cO1:wr.cell? ⟨O,1,none⟩=some (.slice Aw ws.length cw):=Zc wr O 1 _ _ _ aK.out;have bR:wr.cell? ⟨F+2,0,none⟩=some (.slice none 0 0):=Zc wr (F+2) 0 _ _ _ aT.out;have bS:wr.cell? ⟨F+2,1,none⟩=some (.slice none 0 0):=Zc wr (F+2) 1 _ _ _ aT.out;have bW:wr.frozen? ⟨F+2,0,none⟩=false:=Zf wr (F+2) 0 _ _ aT.out;have bX:wr.frozen? ⟨F+2,1,none⟩=false:=Zf wr (F+2) 1 _ _ aT.out;clear cZ aA;go_wp2_with fail;have HW:=Bo (.slice Au nu cu) (.slice Aw ws.length cw) aT.out;have q0:=Zc _ (F+2) 0 _ _ _ HW;have q1:=Zc _ (F+2) 1 _ _ _ HW;simp only[List.getElem?_toArray,List.getElem?_cons_zero,List.getElem?_cons_succ] at q0 q1;have aC:w.heap.size≤F+2:=by have:=bA.out;omega
            refine bodyPost_ret (v:= .tuple #[.agg #[.slice Au nu cu,.slice Aw ws.length cw],.int .i64 0]) (by simp[results,Tryz.results34,go_sem,q0,q1]) rfl ⟨ps.map fun p=>gd p 0,ws,0,_,_,rfl,?_,.inr ⟨HZ.out,.inr ⟨HK.out,.inr ⟨ps,?_,rfl,rfl⟩⟩⟩,?_,?_⟩
            · exact (dD.out.setCell (by show _≤F+2;exact aC) _).setCell (by show _≤F+2;exact aC) _
            · rw[←cG.out,Int.toNat_natCast];exact bF.out
            · exact SI.of_own (Ay (Ay cN.out (by show F+2<O+1;omega) _) (by show F+2<O+1;omega) _) dO.out
            · exact SI.of_own (Ay (Ay dQ.out (by exact cI.out) _) (by exact cI.out) _) dS.out
      · have HN:=Zk hN;clear hN bK;have bR:w9.cell? ⟨F+2,0,none⟩=some (.slice none 0 0):=Zc w9 (F+2) 0 _ _ _ aF.out;have bS:w9.cell? ⟨F+2,1,none⟩=some (.slice none 0 0):=Zc w9 (F+2) 1 _ _ _ aF.out;have bW:w9.frozen? ⟨F+2,0,none⟩=false:=Zf w9 (F+2) 0 _ _ aF.out;have bX:w9.frozen? ⟨F+2,1,none⟩=false:=Zf w9 (F+2) 1 _ _ aF.out;go_wp2_with fail;have HW:=Bo (.slice none 0 0) (.slice none 0 0) aF.out;have q0:=Zc _ (F+2) 0 _ _ _ HW;have q1:=Zc _ (F+2) 1 _ _ _ HW;simp only[List.getElem?_toArray,List.getElem?_cons_zero,List.getElem?_cons_succ] at q0 q1;have aC:w.heap.size≤F+2:=by have:=bA.out;omega
        refine bodyPost_ret (v:= .tuple #[.agg #[.slice none 0 0,.slice none 0 0],.int .i64 12]) (by simp[results,Tryz.results34,go_sem,q0,q1]) rfl ⟨[],[],12,_,_,rfl,?_,.inr ⟨HZ.out,.inr ⟨HK.out,.inl ⟨?_,rfl,rfl,rfl⟩⟩⟩,Du _,Du _⟩
        · exact (aJ.out.setCell (by show _≤F+2;exact aC) _).setCell (by show _≤F+2;exact aC) _
        · rw[←cG.out,Int.toNat_natCast];exact HN.out
    · obtain⟨er,aO⟩:∃er,ckE P width n (t+1) l=er:=⟨_,rfl⟩;have aS:=Zk aO;rw[aO] at hk⊢;have H0:=Zk hk;have d1:(er !=0)=true:=by rw[bne_iff_ne];exact hk
      have d2:(er==0)=false:=by rw[beq_eq_false_iff_ne];exact hk
      clear aO hk;have bR:w2.cell? ⟨F+2,0,none⟩=some (.slice none 0 0):=Zc w2 (F+2) 0 _ _ _ aM.out;have bS:w2.cell? ⟨F+2,1,none⟩=some (.slice none 0 0):=Zc w2 (F+2) 1 _ _ _ aM.out;have bW:w2.frozen? ⟨F+2,0,none⟩=false:=Zf w2 (F+2) 0 _ _ aM.out;have bX:w2.frozen? ⟨F+2,1,none⟩=false:=Zf w2 (F+2) 1 _ _ aM.out;go_wp2_with fail;have HW:=Bo (.slice none 0 0) (.slice none 0 0) aM.out;have q0:=Zc _ (F+2) 0 _ _ _ HW;have q1:=Zc _ (F+2) 1 _ _ _ HW;simp only[List.getElem?_toArray,List.getElem?_cons_zero,List.getElem?_cons_succ] at q0 q1;have aC:w.heap.size≤F+2:=by have:=bA.out;omega
      refine bodyPost_ret (v:= .tuple #[.agg #[.slice none 0 0,.slice none 0 0],.int .i64 er]) (by simp[results,Tryz.results34,go_sem,q0,q1]) rfl ⟨[],[],er,_,_,rfl,?_,.inr ⟨HZ.out,.inl ⟨by rw[aS.out];exact H0.out,aS.out.symm,rfl,rfl⟩⟩,Du _,Du _⟩;exact (aH.out.setCell (by show _≤F+2;exact aC) _).setCell (by show _≤F+2;exact aC) _
  · obtain⟨er,aO⟩:∃er,cuE P n t=er:=⟨_,rfl⟩;have aS:=Zk aO;rw[aO] at h0⊢;have H0:=Zk h0;have d0:(er !=0)=true:=by rw[bne_iff_ne];exact h0
    have d1:(er==0)=false:=by rw[beq_eq_false_iff_ne];exact h0
    clear aO h0;have bR:w1.cell? ⟨F+2,0,none⟩=some (.slice none 0 0):=Zc w1 (F+2) 0 _ _ _ aL.out;have bS:w1.cell? ⟨F+2,1,none⟩=some (.slice none 0 0):=Zc w1 (F+2) 1 _ _ _ aL.out;have bW:w1.frozen? ⟨F+2,0,none⟩=false:=Zf w1 (F+2) 0 _ _ aL.out;have bX:w1.frozen? ⟨F+2,1,none⟩=false:=Zf w1 (F+2) 1 _ _ aL.out;go_wp2_with fail;have HW:=Bo (.slice none 0 0) (.slice none 0 0) aL.out;have q0:=Zc _ (F+2) 0 _ _ _ HW;have q1:=Zc _ (F+2) 1 _ _ _ HW;simp only[List.getElem?_toArray,List.getElem?_cons_zero,List.getElem?_cons_succ] at q0 q1;have aC:w.heap.size≤F+2:=by have:=bA.out;omega
    refine bodyPost_ret (v:= .tuple #[.agg #[.slice none 0 0,.slice none 0 0],.int .i64 er]) (by simp[results,Tryz.results34,go_sem,q0,q1]) rfl ⟨[],[],er,_,_,rfl,?_,.inl ⟨by rw[aS.out];exact H0.out,aS.out.symm,rfl,rfl⟩,Du _,Du _⟩;exact (aZ.out.setCell (by show _≤F+2;exact aC) _).setCell (by show _≤F+2;exact aC) _
open Go.RowKit
def rcE(P:Int):Int:=if prB P=true then 0 else 9
theorem Mu{P:Int}(h:prB P=true):rcE P=0:=if_pos h
theorem Ke{P:Int}(h:prB P=false):rcE P=9:=by unfold rcE;rw[h];rfl
set_option maxHeartbeats 2000000 in
theorem Dz(P:Int)(w:World)(hP:An P):
  Calls Tryz.prog 52 #[.agg #[.int .i64 P]] w fun e w'=>e= .returned (.int .i64 (rcE P))∧Below w.heap.size w w':=by
 obtain⟨hP1,hP2⟩:=hP;by_cases h1:P<2
 ·have HB:=Zk (Ub (.inl h1));have d1:decide (P<2)=true:=Ze h1;go_enter Tryz.func52,Tryz.ntmps52;go_wp2_with fail;go_ret;exact⟨by rw[Ke HB.out];first|rfl|simp,(Zb _ _).alloc (Zl _) _⟩
 by_cases h2:65521<P
 ·have HB:=Zk (Ub (.inr h2));have d1:decide (P<2)=false:=Zd h1;have d2:decide (65521<P)=true:=Ze h2;go_enter Tryz.func52,Tryz.ntmps52;go_wp2_with fail;go_ret;exact⟨by rw[Ke HB.out];first|rfl|simp,(Zb _ _).alloc (Zl _) _⟩
 have h3:2≤P:=by omega
 have h4:P≤65521:=by omega
 have d1:decide (P<2)=false:=Zd h1;have d2:decide (65521<P)=false:=Zd h2;clear h1 h2;go_enter Tryz.func52,Tryz.ntmps52;obtain⟨F,eF⟩:∃F,F=w.heap.size:=⟨_,rfl⟩;obtain⟨w1,ew⟩:∃w1:World,w1=w.alloc (.cells #[.int .i64 P] 31):=⟨_,rfl⟩;have aD:Hid (w.alloc (.cells #[.int .i64 P] 31)=w1):=ew.symm;have aA:Hid (Below w.heap.size w w1):=Zk (by rw[ew];exact (Zb _ w).alloc (Zl _) _);have aC:Hid (w1.heap[F]? =some (.cells #[.int .i64 P] 31 (0,0))):=Zk (by show _=_;rw[ew,eF];exact Zh w _);go_upto_region 1 with fail
 rw[aD.out,←eF];clear ew eF;have f0:w1.cell? ⟨F,0,none⟩=some (.int .i64 P):=Zc w1 F 0 _ _ _ aC.out;go_wp2_with fail;go_loopw [3] (fun i wr=>∃d:Nat,2≤d∧d≤256∧i= .int .i64 d∧(∀e:Nat,2≤e→e<d→P%e≠0)∧w1=wr) (fun i _=>300- (intOf i).toNat)
 case atStart=>exact⟨2,by omega,by omega,rfl,fun e h1 h2=>absurd h1 (by omega),rfl⟩
 case round=>
  obtain⟨d,aF,hd2,rfl,aB,rfl⟩:=hrel;have HN:=Zk aB;clear aB;have hdd:(d:Int)*d≤65536:=by
   have:(d:Int)*d≤256*256:=Int.mul_le_mul (by omega) (by omega) (by omega) (by omega);omega
  have hdn:0≤(d:Int)*d:=Int.mul_nonneg (by omega) (by omega);have wdd:IntKind.i64.wrap ((d:Int)*d)=(d:Int)*d:=by exact Zi _ (by omega)
  have wdp:IntKind.i64.wrap ((d:Int)+1)=(d:Int)+1:=by exact Zi _ (by omega)
  have wP:IntKind.i64.wrap (P%(d:Int))=P%(d:Int):=by
   have h1:=Int.emod_nonneg P (show (d:Int)≠0 by omega);have h2:=Int.emod_lt_of_pos P (show (0:Int)<d by omega);exact Zi _ (by omega)
  have wtm:P.tmod (d:Int)=P%(d:Int):=Int.tmod_eq_emod_of_nonneg (by omega);have hd0:¬d=0:=by omega
  have hd0':¬(d:Int)=0:=by omega
  by_cases hc:(d:Int)*d≤P
  ·have dc:decide ((d:Int)*d≤P)=true:=Ze hc;have hd3:d<256:=by
    rcases Nat.lt_or_ge d 256 with h|h
    ·exact h
    ·have h5:(256:Int)*256≤(d:Int)*d:=Int.mul_le_mul (by omega) (by omega) (by omega) (by omega);omega
   by_cases hm:P%d=0
   ·have HB:=Zk (Ty aF hc hm);have aE:(P%(d:Int)==0)=true:=by rw[beq_iff_eq];exact hm
    clear hm;go_wp2_with fail;go_ret;exact⟨by rw[Ke HB.out];first|rfl|simp,aA.out⟩
   ·have aE:(P%(d:Int)==0)=false:=by rw[beq_eq_false_iff_ne];exact hm
    have HM:=Zk hm;clear hm;go_wp2_with fail;go_roundw
    case rel=>exact⟨d+1,by omega,by omega,by go_num,fun e h1 h2=>by
     by_cases h:e=d
     ·subst h;exact HM.out
     ·exact HN.out e h1 (by omega),by first|trivial|rfl⟩
    case measure=>simp[intOf];omega
  ·have dc:decide ((d:Int)*d≤P)=false:=Zd hc;have HB:Hid (prB P=true):=Vo h3 h4 (fun e h1 h2=>by
    refine HN.out e h1 ?_;rcases Nat.lt_or_ge e d with h|h
    ·exact h
    ·have h5:(d:Int)*d≤(e:Int)*e:=Int.mul_le_mul (by omega) (by omega) (by omega) (by omega);omega)
   clear hc;go_wp2_with fail;go_ret;exact⟨by rw[Mu HB.out];first|rfl|simp,aA.out⟩
def inB(P:Int)(l:List Int):Bool:=prB P&&els P l
theorem Mh{P:Int}{l:List Int}{j:Nat}(h:j<l.length):els P (l.take (j+1))=(els P (l.take j)&&el P l[j]):=by
 rw[←List.take_append_getElem h];unfold els;rw[List.all_append];simp
set_option maxHeartbeats 2000000 in
theorem Eb(P:Int)(l:List Int)(v:Value)(w:World)(hP:An P)(h:SI w v l):
  Calls Tryz.prog 61 #[.agg #[.int .i64 P],v] w fun e w'=>e= .returned (.bool (inB P l))∧Below w.heap.size w w':=by
 obtain⟨A,c,rfl,hcl,hcm,hr,ha⟩:=h;have HA:=Zk ha;clear ha hr;go_enter Tryz.func61,Tryz.ntmps61;obtain⟨F,eF⟩:∃F,F=w.heap.size:=⟨_,rfl⟩;obtain⟨w1,ew⟩:∃w1:World,w1=w.alloc (.cells #[.int .i64 P] 31):=⟨_,rfl⟩;have aJ:Hid (w.alloc (.cells #[.int .i64 P] 31)=w1):=ew.symm;have aD:Hid (Below w.heap.size w w1):=Zk (by rw[ew];exact (Zb _ w).alloc (Zl _) _);have aB:Hid (w1.heap[F]? =some (.cells #[.int .i64 P] 31 (0,0))):=Zk (by show _=_;rw[ew,eF];exact Zh w _);go_upto_region 1 with fail
 rw[aJ.out,←eF];clear ew eF;have f0:w1.cell? ⟨F,0,none⟩=some (.int .i64 P):=Zc w1 F 0 _ _ _ aB.out;go_wp2_with fail;(with_reducible refine (Dz P _ hP).mono ?_)
 rintro e w2 ⟨rfl,aC⟩;have aA:Hid (Below w.heap.size w w2):=aD.out.trans (aC.mono aD.out.size);have aH:Hid (w2.heap[F]? =some (.cells #[.int .i64 P] 31 (0,0))):=(aC.block F (Ae aB.out)).trans aB.out;clear aC f0
 cases hp:prB P with
 |false=>
  have aI:Hid (inB P l=false):=Zk (by show _=_;unfold inB;rw[hp];rfl);rw[Ke hp];have d0:((9:Int) !=0)=true:=rfl;clear hp;go_wp2_with fail;go_ret;exact⟨by rw[aI.out];first|rfl|simp,aA.out⟩
 |true=>
  have HP:=Zk hp;rw[Mu hp];have d0:((0:Int) !=0)=false:=rfl;clear hp;have f0:w2.cell? ⟨F,0,none⟩=some (.int .i64 P):=Zc w2 F 0 _ _ _ aH.out;go_wp2_with fail;go_loopw [12] (fun iv wr=>∃j:Nat,j≤l.length∧iv= .int .i64 j∧els P (l.take j)=true∧w2=wr) (fun iv _=>l.length- (intOf iv).toNat)
  case atStart=>exact⟨0,Nat.zero_le _,rfl,by simp[els],rfl⟩
  case round=>
   obtain⟨j,hj,rfl,aF,rfl⟩:=hrel;have aE:=Zk aF;clear aF;by_cases hlj:j<l.length
   ·have dj:decide (j<l.length)=true:=Ze hlj;obtain⟨b,aL,rfl,aK,hc⟩:=HA.out (by omega);have cj:=(aA.out.cell (p:=⟨b,aL+j,none⟩) aK).trans (hc j hlj);obtain⟨x,ex⟩:∃x,x=l[j]:=⟨_,rfl⟩;rw[←ex] at cj;have HX:=Zk ex;clear hc ex;by_cases hx0:x<0
    ·have HN:Hid (inB P l=false):=Zk (by
      show _=_;unfold inB;rw[Ru hlj (by rw[←HX.out];unfold el;simp;omega),Bool.and_false])
     have d1:decide (x<0)=true:=Ze hx0;go_wp2_with fail;go_ret;exact⟨by rw[HN.out];first|rfl|simp,aA.out⟩
    ·have d1:decide (x<0)=false:=Zd hx0;by_cases hxP:P≤x
     ·have HN:Hid (inB P l=false):=Zk (by
       show _=_;unfold inB;rw[Ru hlj (by rw[←HX.out];unfold el;simp;omega),Bool.and_false])
      have d2:decide (P≤x)=true:=Ze hxP;go_wp2_with fail;go_ret;exact⟨by rw[HN.out];first|rfl|simp,aA.out⟩
     ·have d2:decide (P≤x)=false:=Zd hxP;go_wp2_with fail;go_roundw
      case rel=>exact⟨j+1,by omega,by go_num,by rw[Mh hlj,aE.out,←HX.out];unfold el;simp;omega,by first|trivial|rfl⟩
      case measure=>simp[intOf];omega
   ·have dj:decide (j<l.length)=false:=Zd hlj;have aG:j=l.length:=by omega
    have HY:Hid (inB P l=true):=Zk (by
     have h:=aE.out;rw[aG,List.take_length] at h;show _=_;unfold inB;rw[HP.out,h];rfl)
    clear aG;go_wp2_with fail;go_ret;exact⟨by rw[HY.out];first|rfl|simp,aA.out⟩
open Go.RowKit Go.Shelf
theorem Gn{n t s x:Int}(h:¬(2≤n∧n≤10∧1≤t∧t<n∧0≤s∧s≤n∧0≤x∧x≤n)):beB n t s x=false:=by
 cases hb:beB n t s x with
 |false=>rfl
 |true=>
  unfold beB vaB at hb;simp at hb;exact absurd (by omega) h
theorem zAy{n t s x:Int}(h:2≤n∧n≤10∧1≤t∧t<n∧0≤s∧s≤n∧0≤x∧x≤n):beB n t s x=decide (t+1+s+2*x≤n):=by
 unfold beB vaB;obtain⟨a1,a2,a3,a4,a5,a6,a7,a8⟩:=h;simp[a1,a2,a3,a4,a5,a6,a7,a8]
theorem Ll{P n t:Int}(hp:prB P=true)(h:¬(2≤n∧n≤10∧1≤t∧t<n)∨P≤n):cuE P n t=1:=by
 unfold cuE;rw[if_neg (by rw[hp];simp),if_pos];rcases h with h|h
 ·exact .inl (Zd h)
 ·exact .inr h
set_option maxRecDepth 100000 in
set_option maxHeartbeats 4000000 in
theorem Ey(P n t:Int)(w:World)(hP:An P):
  Calls Tryz.prog 31 #[.agg #[.int .i64 P],.agg #[.int .i64 n,.int .i64 t]] w fun e w'=>e= .returned (.int .i64 (cuE P n t))∧Below w.heap.size w w':=by
 go_enter Tryz.func31,Tryz.ntmps31;obtain⟨F,eF⟩:∃F,F=w.heap.size:=⟨_,rfl⟩;obtain⟨w1,aE⟩:∃w1:World,w1=(w.alloc (.cells #[.int .i64 P] 31)).alloc (.cells #[.int .i64 n,.int .i64 t] 29):=⟨_,rfl⟩;have aF:Hid ((w.alloc (.cells #[.int .i64 P] 31)).alloc (.cells #[.int .i64 n,.int .i64 t] 29)=w1):=aE.symm;have aD:Hid (Below w.heap.size w w1):=Zk (by rw[aE];exact ((Zb _ w).alloc (Zl _) _).alloc (by simp) _);have aA:Hid (w1.heap[F]? =some (.cells #[.int .i64 P] 31 (0,0))):=Zk (by show _=_;rw[aE,eF,Below.heap_alloc _ _ _ (by simp)];exact Zh w _);have aB:Hid (w1.heap[F+1]? =some (.cells #[.int .i64 n,.int .i64 t] 29 (0,0))):=Zk (by show _=_;rw[aE,eF];have:=Zh (w.alloc (.cells #[.int .i64 P] 31)) (.cells #[.int .i64 n,.int .i64 t] 29);simpa using this);have aH:Hid (∀W,Below w1.heap.size w1 W→W.cell? ⟨F,0,none⟩=some (.int .i64 P)∧W.cell? ⟨F+1,0,none⟩=some (.int .i64 n)∧W.cell? ⟨F+1,1,none⟩=some (.int .i64 t)):=Zk (fun W hg=>by
  have aO:=(hg.block F (Ae aA.out)).trans aA.out;have aI:=(hg.block (F+1) (Ae aB.out)).trans aB.out;exact⟨Zc W F 0 _ _ _ aO,Zc W (F+1) 0 _ _ _ aI,Zc W (F+1) 1 _ _ _ aI⟩)
 go_upto_region 1 with fail
 rw[aF.out,←eF];clear aE eF;obtain⟨x0,x1,x2⟩:=aH.out w1 (Zb _ _);go_wp2_with fail;(with_reducible refine (Dz P _ hP).mono ?_)
 rintro e w2 ⟨rfl,aG⟩;have aC:Hid (Below w.heap.size w w2):=Zk (aD.out.trans (aG.mono aD.out.size));have HX:=aH.out w2 aG;clear x0 x1 x2 aG;obtain⟨x0,x1,x2⟩:=HX
 cases hp:prB P with
 |false=>
  have HE:Hid (cuE P n t=9):=Zk (by show _=_;unfold cuE;rw[if_pos hp]);rw[Ke hp];clear hp;go_wp2_with fail;go_ret;exact⟨by rw[HE.out]<;>rfl,aC.out⟩
 |true=>
  have HP:=Zk hp;rw[Mu hp];clear hp;by_cases h1:n<2
  ·have aJ:decide (n<2)=true:=Ze h1;have HE:Hid (cuE P n t=1):=Zk (Ll HP.out (by omega));go_wp2_with fail;go_ret;exact⟨by rw[HE.out]<;>rfl,aC.out⟩
  have aJ:decide (n<2)=false:=Zd h1;by_cases h2:10<n
  ·have aK:decide (10<n)=true:=Ze h2;have HE:Hid (cuE P n t=1):=Zk (Ll HP.out (by omega));go_wp2_with fail;go_ret;exact⟨by rw[HE.out]<;>rfl,aC.out⟩
  have aK:decide (10<n)=false:=Zd h2;by_cases h3:P≤n
  ·have aL:decide (P≤n)=true:=Ze h3;have HE:Hid (cuE P n t=1):=Zk (Ll HP.out (by omega));go_wp2_with fail;go_ret;exact⟨by rw[HE.out]<;>rfl,aC.out⟩
  have aL:decide (P≤n)=false:=Zd h3;by_cases h4:t<1
  ·have aM:decide (t<1)=true:=Ze h4;have HE:Hid (cuE P n t=1):=Zk (Ll HP.out (by omega));go_wp2_with fail;go_ret;exact⟨by rw[HE.out]<;>rfl,aC.out⟩
  have aM:decide (t<1)=false:=Zd h4;have w1':IntKind.i64.wrap (n-1)=n-1:=by exact Zi _ (by omega)
  by_cases h5:n-1<t
  ·have aN:decide (n-1<t)=true:=Ze h5;have HE:Hid (cuE P n t=1):=Zk (Ll HP.out (by omega));go_wp2_with fail;go_ret;exact⟨by rw[HE.out]<;>rfl,aC.out⟩
  have aN:decide (n-1<t)=false:=Zd h5;have HE:Hid (cuE P n t=0):=Zk (by show _=_;unfold cuE;rw[if_neg (by rw[HP.out];simp),if_neg (by unfold vaB;simp;omega)]);go_wp2_with fail;go_ret;exact⟨by rw[HE.out]<;>rfl,aC.out⟩
set_option maxRecDepth 100000 in
set_option maxHeartbeats 4000000 in
theorem Qw(n t s x:Int)(w:World):
  Calls Tryz.prog 40 #[.agg #[.int .i64 n,.int .i64 t],.int .i64 s,.int .i64 x] w fun e w'=>e= .returned (.bool (beB n t s x))∧Below w.heap.size w w':=by
 go_enter Tryz.func40,Tryz.ntmps40;obtain⟨F,eF⟩:∃F,F=w.heap.size:=⟨_,rfl⟩;obtain⟨w1,aC⟩:∃w1:World,w1=w.alloc (.cells #[.int .i64 n,.int .i64 t] 29):=⟨_,rfl⟩;have aD:Hid (w.alloc (.cells #[.int .i64 n,.int .i64 t] 29)=w1):=aC.symm;have aA:Hid (Below w.heap.size w w1):=Zk (by rw[aC];exact (Zb _ w).alloc (Zl _) _);have aB:Hid (w1.heap[F]? =some (.cells #[.int .i64 n,.int .i64 t] 29 (0,0))):=Zk (by show _=_;rw[aC,eF];exact Zh w _);have aF:Hid (∀W,Below w1.heap.size w1 W→W.cell? ⟨F,0,none⟩=some (.int .i64 n)∧W.cell? ⟨F,1,none⟩=some (.int .i64 t)):=Zk (fun W hg=>by
  have aE:=(hg.block F (Ae aB.out)).trans aB.out;exact⟨Zc W F 0 _ _ _ aE,Zc W F 1 _ _ _ aE⟩)
 go_upto_region 1 with fail
 rw[aD.out,←eF];clear aC eF;obtain⟨x0,x1⟩:=aF.out w1 (Zb _ _);by_cases h1:n<2
 ·have aG:decide (n<2)=true:=Ze h1;have HE:Hid (beB n t s x=false):=Zk (Gn (by omega));go_wp2_with fail;go_ret;exact⟨by rw[HE.out]<;>rfl,aA.out⟩
 have aG:decide (n<2)=false:=Zd h1;by_cases h2:10<n
 ·have aH:decide (10<n)=true:=Ze h2;have HE:Hid (beB n t s x=false):=Zk (Gn (by omega));go_wp2_with fail;go_ret;exact⟨by rw[HE.out]<;>rfl,aA.out⟩
 have aH:decide (10<n)=false:=Zd h2;by_cases h3:t<1
 ·have aI:decide (t<1)=true:=Ze h3;have HE:Hid (beB n t s x=false):=Zk (Gn (by omega));go_wp2_with fail;go_ret;exact⟨by rw[HE.out]<;>rfl,aA.out⟩
 have aI:decide (t<1)=false:=Zd h3;have w1':IntKind.i64.wrap (n-1)=n-1:=by exact Zi _ (by omega)
 by_cases h4:n-1<t
 ·have aJ:decide (n-1<t)=true:=Ze h4;have HE:Hid (beB n t s x=false):=Zk (Gn (by omega));go_wp2_with fail;go_ret;exact⟨by rw[HE.out]<;>rfl,aA.out⟩
 have aJ:decide (n-1<t)=false:=Zd h4;by_cases h5:s<0
 ·have aK:decide (s<0)=true:=Ze h5;have HE:Hid (beB n t s x=false):=Zk (Gn (by omega));go_wp2_with fail;go_ret;exact⟨by rw[HE.out]<;>rfl,aA.out⟩
 have aK:decide (s<0)=false:=Zd h5;by_cases h6:x<0
 ·have aL:decide (x<0)=true:=Ze h6;have HE:Hid (beB n t s x=false):=Zk (Gn (by omega));go_wp2_with fail;go_ret;exact⟨by rw[HE.out]<;>rfl,aA.out⟩
 have aL:decide (x<0)=false:=Zd h6;by_cases h7:n<s
 ·have aM:decide (n<s)=true:=Ze h7;have HE:Hid (beB n t s x=false):=Zk (Gn (by omega));go_wp2_with fail;go_ret;exact⟨by rw[HE.out]<;>rfl,aA.out⟩
 have aM:decide (n<s)=false:=Zd h7;by_cases h8:n<x
 ·have aN:decide (n<x)=true:=Ze h8;have HE:Hid (beB n t s x=false):=Zk (Gn (by omega));go_wp2_with fail;go_ret;exact⟨by rw[HE.out]<;>rfl,aA.out⟩
 have aN:decide (n<x)=false:=Zd h8;have w1_:IntKind.i64.wrap (t+1)=t+1:=by exact Zi _ (by omega)
 have w2_:IntKind.i64.wrap (t+1+s)=t+1+s:=by exact Zi _ (by omega)
 have w3_:IntKind.i64.wrap (2*x)=2*x:=by exact Zi _ (by omega)
 have w4_:IntKind.i64.wrap (t+1+s+2*x)=t+1+s+2*x:=by exact Zi _ (by omega)
 have HE:Hid (beB n t s x=decide (t+1+s+2*x≤n)):=Zk (zAy (by omega));go_wp2_with fail;go_ret;exact⟨by rw[HE.out]<;>rfl,aA.out⟩
set_option maxRecDepth 100000 in
set_option maxHeartbeats 8000000 in
theorem Jo(P n t m:Int)(w:World)(hP:An P):
  Calls Tryz.prog 22 #[.agg #[.int .i64 P],.agg #[.int .i64 n,.int .i64 t],.int .i64 m] w fun e w'=>∃v,e= .returned (.tuple #[v,.int .i64 (ccE P n t m)])∧Below w.heap.size w w'∧
   (ccE P n t m=0→w'.ownsRow w.heap.size 3 1 v (List.replicate (m*t).toNat P).length ((List.replicate (m*t).toNat P).map (Value.int .i64)))∧(ccE P n t m≠0→v= .slice none 0 0):=by
 go_enter Tryz.func22,Tryz.ntmps22;obtain⟨F,eF⟩:∃F,F=w.heap.size:=⟨_,rfl⟩;obtain⟨w1,aH⟩:∃w1:World,w1=(w.alloc (.cells #[.int .i64 P] 31)).alloc (.cells #[.int .i64 n,.int .i64 t] 29):=⟨_,rfl⟩;have aL:Hid ((w.alloc (.cells #[.int .i64 P] 31)).alloc (.cells #[.int .i64 n,.int .i64 t] 29)=w1):=aH.symm;have aF:Hid (Below w.heap.size w w1):=Zk (by rw[aH];exact ((Zb _ w).alloc (Zl _) _).alloc (by simp) _);have aB:Hid (w1.heap[F]? =some (.cells #[.int .i64 P] 31 (0,0))):=Zk (by show _=_;rw[aH,eF,Below.heap_alloc _ _ _ (by simp)];exact Zh w _);have aC:Hid (w1.heap[F+1]? =some (.cells #[.int .i64 n,.int .i64 t] 29 (0,0))):=Zk (by show _=_;rw[aH,eF];have:=Zh (w.alloc (.cells #[.int .i64 P] 31)) (.cells #[.int .i64 n,.int .i64 t] 29);simpa using this);have aM:Hid (∀W,Below w1.heap.size w1 W→W.cell? ⟨F,0,none⟩=some (.int .i64 P)∧W.cell? ⟨F+1,0,none⟩=some (.int .i64 n)∧W.cell? ⟨F+1,1,none⟩=some (.int .i64 t)):=Zk (fun W hg=>by
  have aU:=(hg.block F (Ae aB.out)).trans aB.out;have aO:=(hg.block (F+1) (Ae aC.out)).trans aC.out;exact⟨Zc W F 0 _ _ _ aU,Zc W (F+1) 0 _ _ _ aO,Zc W (F+1) 1 _ _ _ aO⟩)
 go_upto_region 1 with fail
 rw[aL.out,←eF];clear aH eF;obtain⟨x0,x1,x2⟩:=aM.out w1 (Zb _ _);go_wp2_with fail;(with_reducible refine (Ey P n t _ hP).mono ?_)
 rintro e w2 ⟨rfl,aK⟩;have aE:Hid (Below w.heap.size w w2):=Zk (aF.out.trans (aK.mono aF.out.size));have HX:=aM.out w2 aK;have aG:=Zk aK;clear x0 x1 x2 aK;obtain⟨x0,x1,x2⟩:=HX;by_cases hc:cuE P n t=0
 case' neg=>
  have dc:(cuE P n t !=0)=true:=by rw[bne_iff_ne];exact hc
  have HC:Hid (cuE P n t≠0):=hc;have HE:Hid (ccE P n t m=cuE P n t):=Zk (by show _=_;unfold ccE;rw[if_neg (fun h=>hc h.1)])
  obtain⟨z,ez⟩:∃z,z=cuE P n t:=⟨_,rfl⟩;rw[←ez] at dc HE HC⊢;clear ez hc;go_wp2_with fail;refine bodyPost_ret (v:= .tuple #[.slice none 0 0,.int .i64 z]) (by simp[results,Tryz.results22,go_sem]) rfl ?_;exact⟨_,by rw[HE.out],aE.out,fun h=>absurd (HE.out.symm.trans h) HC.out,fun _=>rfl⟩
 have HC:=Zk hc;rw[hc];clear hc;by_cases h1:m<1
 ·have d1:decide (m<1)=true:=Ze h1;have HE:Hid (ccE P n t m=1):=Zk (if_pos ⟨HC.out,.inl h1⟩);go_wp2_with fail;refine bodyPost_ret (v:= .tuple #[.slice none 0 0,.int .i64 1]) (by simp[results,Tryz.results22,go_sem]) rfl ?_;exact⟨_,by rw[HE.out],aE.out,fun h=>by rw[HE.out] at h;omega,fun _=>rfl⟩
 have d1:decide (m<1)=false:=Zd h1;by_cases h2:1024<m
 ·have d2:decide (1024<m)=true:=Ze h2;have HE:Hid (ccE P n t m=1):=Zk (if_pos ⟨HC.out,.inr h2⟩);go_wp2_with fail;refine bodyPost_ret (v:= .tuple #[.slice none 0 0,.int .i64 1]) (by simp[results,Tryz.results22,go_sem]) rfl ?_;exact⟨_,by rw[HE.out],aE.out,fun h=>by rw[HE.out] at h;omega,fun _=>rfl⟩
 have d2:decide (1024<m)=false:=Zd h2;have HE:Hid (ccE P n t m=0):=Zk (by show _=_;unfold ccE;rw[if_neg (by omega)];exact HC.out);obtain⟨_,hv,_⟩:=Ff HC.out;obtain⟨b1,b2,b3,b4⟩:=Eu hv;clear hv;obtain⟨mn,rfl⟩:∃mn:Nat,m=mn:=⟨m.toNat,by omega⟩;obtain⟨tn,rfl⟩:∃tn:Nat,t=tn:=⟨t.toNat,by omega⟩;have aV:mn*tn≤1024*10:=Nat.mul_le_mul (by omega) (by omega);have aJ:((mn:Int)*(tn:Int))=((mn*tn:Nat):Int):=(Int.natCast_mul mn tn).symm;have aN:Hid (((mn:Int)*(tn:Int)).toNat=mn*tn):=Zk (by show _=_;rw[aJ];rfl);obtain⟨K,hK⟩:∃K,mn*tn=K:=⟨_,rfl⟩;rw[hK] at aN aJ aV;have hKw:IntKind.i64.wrap ((mn:Int)*(tn:Int))=(K:Int):=by rw[aJ];exact Zi _ (by omega)
 clear hK aJ;go_wp2_with fail;clear x0 x1 x2;go_loopw [26,9] (fun i v wr=>LiR P K w2 i v wr) (fun i _ _=>K- (intOf i).toNat)
 case atStart=>exact⟨0,Nat.zero_le _,rfl,by simpa using World.ownsRow_nil w2 w2.heap.size 3 1,Zb _ _⟩
 case round=>
  obtain⟨k,hk,rfl,aI,aA⟩:=hrel;have HO:=Zk aI;have HB:=Zk aA;have aQ:=aA.size;obtain⟨x0,x1,x2⟩:=aM.out wr (aG.out.trans (aA.mono aG.out.size));clear aI aA;by_cases hlt:k<K
  ·have dk:decide ((k:Int)<(K:Int))=true:=Ze (by omega);have aT:decide (k<K)=true:=Ze hlt;have w2':IntKind.i64.wrap ((k:Int)+1)=(k:Int)+1:=by exact Zi _ (by omega)
   go_wp2_with (at_builtin;refine Az wr (by rfl) _ _ 22 (by rfl) w2.heap.size 3 Tryz.underlying22 Bf _ (List.replicate k P) (by rfl) (by exact HO.out) P (by rfl) (by simp;omega) (by exact aQ) ?_;intro v3 w3 aD aP;have aS:=Zk aD;have aR:=Zk aP;clear aD aP);go_roundw
   case rel=>
    refine⟨k+1,by omega,by go_num,?_,?_⟩
    ·rw[List.replicate_succ'];exact aS.out
    ·exact (HB.out.alloc aQ _).grown aR.out (by simp;omega) (fun b hb=>(HO.out.lt b hb).1)
   case measure=>simp[intOf];omega
  ·have dk:decide ((k:Int)<(K:Int))=false:=Zd (by omega);have aT:decide (k<K)=false:=Zd hlt;obtain rfl:K=k:=by omega
   obtain⟨Ao,co,eo⟩:=Bn HO.out;subst eo;go_wp2_with fail;refine bodyPost_ret (v:= .tuple #[.slice Ao (List.replicate K P).length co,.int .i64 0]) (by simp[results,Tryz.results22,go_sem]) rfl ?_;exact⟨_,by rw[HE.out],aE.out.trans (HB.out.mono aE.out.size),fun _=>by rw[aN.out];exact Bt HO.out aE.out.size,fun h=>absurd HE.out h⟩
open Go.RowKit
def Jy(P:Int)(c:List Int)(rows:List (List Int))(width k:Nat):List Int:=(List.range k).foldl (fun L i=>Bp P L 0 (gd c i) (gr rows i)) (Bc width)
def cmb(P:Int)(c:List Int)(rows:List (List Int))(width:Nat):List Int:=Jy P c rows width rows.length
theorem Jz(P:Int)(c:List Int)(rows:List (List Int))(width k:Nat):Jy P c rows width (k+1)=Bp P (Jy P c rows width k) 0 (gd c k) (gr rows k):=by
 unfold Jy;rw[List.range_succ,List.foldl_append];rfl
theorem Iu(P:Int)(c:List Int)(rows:List (List Int))(width:Nat):∀k,(Jy P c rows width k).length=width
 |0=>by simp[Jy,Bc]
 |k+1=>by rw[Jz,Bh,Iu P c rows width k]
theorem Ix{P:Int}(hP:2≤P)(c:List Int)(rows:List (List Int))(width:Nat):∀k,els P (Jy P c rows width k)=true
 |0=>by simpa [Jy] using Dq hP width
 |k+1=>by rw[Jz];exact Cx hP (Ix hP c rows width k) 0 _ _
def coE(P:Int)(c:List Int)(rows:List (List Int))(width:Int):Int:=
 if prB P=false then 9 else if width<0∨64<width then 4 else if c.length≠rows.length then 2 else if (rows.all fun r=>decide ((r.length:Int)=width))=false then 2 else if els P c=false then 9 else if (rows.all (els P))=false then 9 else 0
def CmP(P:Int)(c:List Int)(rows:List (List Int))(width:Int)(w:World)(e:Ending)(w':World):Prop:=
 ∃v,e= .returned (.tuple #[v,.int .i64 (coE P c rows width)])∧Below w.heap.size w w'∧(coE P c rows width≠0→v= .slice none 0 0)∧
  (coE P c rows width=0→w'.ownsRow w.heap.size 3 1 v (cmb P c rows width.toNat).length ((cmb P c rows width.toNat).map (Value.int .i64)))
theorem Yg{α:Type}{p:α→Bool}{l:List α}{j:Nat}(h:j<l.length)(hb:p l[j]=false):l.all p=false:=by
 cases e:l.all p with
 |false=>rfl
 |true=>rw[List.all_eq_true] at e;have:=e _ (List.getElem_mem h);rw[hb] at this;cases this
theorem Tk{α:Type}{p:α→Bool}{l:List α}(h:∀j (h:j<l.length),p l[j]=true):l.all p=true:=by
 rw[List.all_eq_true];intro x hx;obtain⟨j,hj,rfl⟩:=List.mem_iff_getElem.1 hx;exact h j hj
def Cm3(P:Int)(c:List Int)(rows:List (List Int))(width b:Nat)(w5:World)(iv:Value)(wr:World):Prop:=
 ∃i:Nat,i≤rows.length∧iv= .int .i64 i∧BK wr b (Jy P c rows width i)∧Below w5.heap.size w5 wr
def Cm4(P:Int)(L:List Int)(x:Int)(r:List Int)(b:Nat)(w5:World)(iv:Value)(wr:World):Prop:=
 ∃k:Nat,k≤r.length∧iv= .int .i64 k∧BK wr b (Bp P L 0 x (r.take k))∧Below w5.heap.size w5 wr
set_option maxRecDepth 100000 in
set_option maxHeartbeats 8000000 in
theorem Qi(P:Int)(c:List Int)(rows:List (List Int))(width:Int)(vc vr:Value)(w:World)(hP:An P)(hc:SI w vc c)(hr:SL w vr rows):
  Calls Tryz.prog 73 #[.agg #[.int .i64 P],vc,vr,.int .i64 width] w (CmP P c rows width w):=by
 obtain⟨Ar,cr,rfl,hr1,hr2,hs,cD,cE,cC⟩:=hr.heads;have bH:=Zk cE;have bF:=Zk cC;have bG:=Zk cD;have HC:=Zk hc;obtain⟨Ac,cc,rfl⟩:=hc.form;clear hc hr cE cC cD;go_enter Tryz.func73,Tryz.ntmps73;obtain⟨F,eF⟩:∃F,F=w.heap.size:=⟨_,rfl⟩;obtain⟨w1,ew⟩:∃w1:World,w1=w.alloc (.cells #[.int .i64 P] 31):=⟨_,rfl⟩;have cW:Hid (w.alloc (.cells #[.int .i64 P] 31)=w1):=ew.symm;have bS:Hid (Below w.heap.size w w1):=Zk (by rw[ew];exact (Zb _ w).alloc (Zl _) _);have bD:Hid (w1.heap[F]? =some (.cells #[.int .i64 P] 31 (0,0))):=Zk (by show _=_;rw[ew,eF];exact Zh w _);have HEF:=Zk eF;go_upto_region 1 with fail
 rw[cW.out,←eF];clear ew eF;have f0:w1.cell? ⟨F,0,none⟩=some (.int .i64 P):=Zc w1 F 0 _ _ _ bD.out;go_wp2_with fail;(with_reducible refine (Dz P _ hP).mono ?_)
 rintro e w2 ⟨rfl,bK⟩;have aF:Hid (Below w.heap.size w w2):=bS.out.trans (bK.mono bS.out.size);have bE:Hid (w2.heap[F]? =some (.cells #[.int .i64 P] 31 (0,0))):=(bK.block F (Ae bD.out)).trans bD.out;clear bK f0
 cases hp:prB P with
 |false=>
  have HE:Hid (coE P c rows width=9):=Zk (by show _=_;unfold coE;rw[hp];rfl);rw[Ke hp];have d0:((9:Int) !=0)=true:=rfl;clear hp;go_wp2_with fail;go_ret2;exact⟨_,by rw[HE.out];rfl,aF.out,fun _=>rfl,fun h=>by rw[HE.out] at h;omega⟩
 |true=>
  have HP:=Zk hp;have aX:=Bd hp;rw[Mu hp];have d0:((0:Int) !=0)=false:=rfl;clear hp;by_cases hw0:width<0
  ·have HE:Hid (coE P c rows width=4):=Zk (by show _=_;unfold coE;rw[HP.out,if_neg (by simp),if_pos (.inl hw0)]);have d1:decide (width<0)=true:=Ze hw0;go_wp2_with fail;go_ret2;exact⟨_,by rw[HE.out];rfl,aF.out,fun _=>rfl,fun h=>by rw[HE.out] at h;omega⟩
  ·have d1:decide (width<0)=false:=Zd hw0;by_cases hw64:64<width
   ·have HE:Hid (coE P c rows width=4):=Zk (by show _=_;unfold coE;rw[HP.out,if_neg (by simp),if_pos (.inr hw64)]);have d2:decide (64<width)=true:=Ze hw64;go_wp2_with fail;go_ret2;exact⟨_,by rw[HE.out];rfl,aF.out,fun _=>rfl,fun h=>by rw[HE.out] at h;omega⟩
   ·have d2:decide (64<width)=false:=Zd hw64;obtain⟨wd,rfl⟩:∃n:Nat,width=n:=⟨width.toNat,by omega⟩;have hwd:wd≤64:=by omega
    by_cases hcl:c.length=rows.length
    ·have d3:((c.length:Int) !=(rows.length:Int))=false:=by rw[bne_eq_false_iff_eq];omega
     have aV:(c.length !=rows.length)=false:=by rw[bne_eq_false_iff_eq];exact hcl
     have aN:=Zk hcl;clear hcl hw0 hw64;go_wp2_with fail;clear d3 aV;go_loopw [38] (fun iv wr=>∃j:Nat,j≤rows.length∧iv= .int .i64 j∧(∀q (h:q<rows.length),q<j→rows[q].length=wd)∧w2=wr) (fun iv _=>rows.length- (intOf iv).toNat)
     case atStart=>exact⟨0,Nat.zero_le _,rfl,fun q h1 h2=>by omega,rfl⟩
     case round=>
      obtain⟨j,hj,rfl,aD,rfl⟩:=hrel;have aC:=Zk aD;clear aD;by_cases hlj:j<rows.length
      ·have dj:decide (j<rows.length)=true:=Ze hlj;obtain⟨b,bR,rfl,aH,aA⟩:=bF.out (by omega);have aR:j<hs.length:=by rw[bG.out];exact hlj
       obtain⟨B,d,aG,aJ⟩:=bH.out j aR hlj;have cj:=(aF.out.cell (p:=⟨b,bR+j,none⟩) aH).trans (aA j aR);rw[aG] at cj;obtain⟨rl,bI⟩:∃rl,rl=rows[j].length:=⟨_,rfl⟩;have bW:=Zk bI;rw[←bI] at cj;clear aA aG aJ bI;by_cases hne:rl=wd
       ·have d3:((rl:Int) !=(wd:Int))=false:=by rw[bne_eq_false_iff_eq];omega
        have aV:(rl !=wd)=false:=by rw[bne_eq_false_iff_eq];exact hne
        have cQ:=Zk hne;clear hne;go_wp2_with fail;go_roundw
        case rel=>exact⟨j+1,by omega,by go_num,fun q h1 h2=>by
         by_cases hq:q<j
         ·exact aC.out q h1 hq
         ·have:q=j:=by omega
          subst this;rw[←bW.out];exact cQ.out,by first|trivial|rfl⟩
        case measure=>simp[intOf];omega
       ·have d3:((rl:Int) !=(wd:Int))=true:=by rw[bne_iff_ne];omega
        have aV:(rl !=wd)=true:=by rw[bne_iff_ne];exact hne
        have HE:Hid (coE P c rows wd=2):=Zk (by
         show _=_;unfold coE;rw[HP.out,if_neg (by simp),if_neg (by omega),if_neg (by rw[aN.out];simp),if_pos (Yg hlj (by simp;have:=bW.out;omega))])
        clear hne;go_wp2_with fail;go_ret2;exact⟨_,by rw[HE.out];rfl,aF.out,fun _=>rfl,fun h=>by rw[HE.out] at h;omega⟩
      ·have dj:decide (j<rows.length)=false:=Zd hlj;have aU:Hid (∀q (h:q<rows.length),rows[q].length=wd):=Zk (fun q h=>aC.out q h (by omega))
       have aZ:Hid ((rows.all fun r=>decide ((r.length:Int)=(wd:Int)))=true):=Zk (Tk fun q h=>Ze (by have:=aU.out q h;omega))
       have f0:w2.cell? ⟨F,0,none⟩=some (.int .i64 P):=Zc w2 F 0 _ _ _ bE.out;clear aC;go_wp2_with fail;(with_reducible refine (Eb P c _ _ hP (HC.out.below aF.out)).mono ?_)
       rintro e w3 ⟨rfl,bL⟩;have aK:Hid (Below w.heap.size w w3):=aF.out.trans (bL.mono aF.out.size);have bU:Hid (w3.heap[F]? =some (.cells #[.int .i64 P] 31 (0,0))):=(bL.block F (Ae bE.out)).trans bE.out;clear bL f0
       cases hin:inB P c with
       |false=>
        have HE:Hid (coE P c rows wd=9):=Zk (by
         have h:els P c=false:=by unfold inB at hin;rw[HP.out] at hin;simpa using hin
         show _=_;unfold coE;rw[HP.out,if_neg (by simp),if_neg (by omega),if_neg (by rw[aN.out];simp),aZ.out,if_neg (by simp),h];rfl)
        clear hin;go_wp2_with fail;go_ret2;exact⟨_,by rw[HE.out];rfl,aK.out,fun _=>rfl,fun h=>by rw[HE.out] at h;omega⟩
       |true=>
        have bC:Hid (els P c=true):=Zk (by show _=_;unfold inB at hin;rw[HP.out] at hin;simpa using hin);clear hin;go_wp2_with fail;go_loopw [53] (fun iv wr=>∃j:Nat,j≤rows.length∧iv= .int .i64 j∧(∀q (h:q<rows.length),q<j→els P rows[q]=true)∧Below w3.heap.size w3 wr) (fun iv _=>rows.length- (intOf iv).toNat)
        case atStart=>exact⟨0,Nat.zero_le _,rfl,fun q h1 h2=>by omega,Zb _ _⟩
        case round=>
         obtain⟨j,hj,rfl,aD,aY⟩:=hrel;have aC:=Zk aD;have bA:=Zk aY;have aB:Hid (Below w.heap.size w wr):=aK.out.trans (aY.mono aK.out.size);have aO:Hid (wr.heap[F]? =some (.cells #[.int .i64 P] 31 (0,0))):=(aY.block F (Ae bU.out)).trans bU.out;clear aD aY;by_cases hlj:j<rows.length
         ·have dj:decide (j<rows.length)=true:=Ze hlj;obtain⟨b,bR,rfl,aH,aA⟩:=bF.out (by omega);have aR:j<hs.length:=by rw[bG.out];exact hlj
          obtain⟨B,d,aG,aJ⟩:=bH.out j aR hlj;have cj:=(aB.out.cell (p:=⟨b,bR+j,none⟩) aH).trans (aA j aR);rw[aG] at cj aJ;have bX:Hid (SI wr (.slice B rows[j].length d) rows[j]):=aJ.below aB.out;obtain⟨r,er⟩:∃r,r=rows[j]:=⟨_,rfl⟩;rw[←er] at cj bX;have HR:=Zk er;have f0:wr.cell? ⟨F,0,none⟩=some (.int .i64 P):=Zc wr F 0 _ _ _ aO.out;clear aA aG aJ er;go_wp2_with fail;(with_reducible refine (Eb P r _ _ hP bX.out).mono ?_)
          rintro e w4 ⟨rfl,cA⟩;have bT:=Zk cA;clear cA f0 cj
          cases hin:inB P r with
          |false=>
           have HE:Hid (coE P c rows wd=9):=Zk (by
            have h:els P rows[j]=false:=by rw[←HR.out];unfold inB at hin;rw[HP.out] at hin;simpa using hin
            show _=_;unfold coE;rw[HP.out,if_neg (by simp),if_neg (by omega),if_neg (by rw[aN.out];simp),aZ.out,if_neg (by simp),bC.out,if_neg (by simp),if_pos (Yg hlj h)])
           clear hin;go_wp2_with fail;go_ret2;exact⟨_,by rw[HE.out];rfl,aB.out.trans (bT.out.mono aB.out.size),fun _=>rfl,fun h=>by rw[HE.out] at h;omega⟩
          |true=>
           have aT:Hid (els P rows[j]=true):=Zk (by show _=_;rw[←HR.out];unfold inB at hin;rw[HP.out] at hin;simpa using hin);clear hin;go_wp2_with fail;go_roundw
           case rel=>exact⟨j+1,by omega,by go_num,fun q h1 h2=>by
            by_cases hq:q<j
            ·exact aC.out q h1 hq
            ·have:q=j:=by omega
             subst this;exact aT.out,bA.out.trans (bT.out.mono bA.out.size)⟩
           case measure=>simp[intOf];omega
         ·have dj:decide (j<rows.length)=false:=Zd hlj;have aT:Hid (∀q (h:q<rows.length),els P rows[q]=true):=Zk (fun q h=>aC.out q h (by omega))
          have HE:Hid (coE P c rows wd=0):=Zk (by
           show _=_;unfold coE;rw[HP.out,if_neg (by simp),if_neg (by omega),if_neg (by rw[aN.out];simp),aZ.out,if_neg (by simp),bC.out,if_neg (by simp),Tk aT.out,if_neg (by simp)])
          clear aC;obtain⟨w5,bY⟩:∃w5:World,w5=wr:=⟨_,rfl⟩;rw[←bY] at aB aO⊢;clear bY bA;have cX:=wd;clear cX;go_wp2_with (at_make;refine Bv _ rfl _ _ 22 rfl 3 Tryz.underlying22 Bf _ wd rfl rfl rfl (by omega) ?_);obtain⟨b,eb⟩:∃b,b=w5.heap.size:=⟨_,rfl⟩;obtain⟨w6,aW⟩:∃w6:World,w6=w5.alloc (.cells ((Bc wd).map (Value.int .i64)).toArray 3):=⟨_,rfl⟩;have cI:Hid (Below w5.heap.size w5 w6):=Zk (by rw[aW];exact (Zb _ _).alloc (Zl _) _);have cN:Hid (BK w6 b (Jy P c rows wd 0)):=Zk (by rw[aW,eb];exact Zh w5 _);have bB:=Zk eb;have hFb:F<b:=by rw[eb];exact Ae aO.out
          have cT:Hid (∀i (h:i<rows.length),∃B d,∀W,Below w5.heap.size w5 W→(∃bh oh,Ar=some ⟨bh,oh,none⟩∧W.cell? ⟨bh,oh+i,none⟩=some (.slice B wd d))∧SI W (.slice B wd d) rows[i]):=Zk (fun i hi=>by
           obtain⟨bh,oh,eA,bM,aA⟩:=bF.out (by omega);have cF:i<hs.length:=by rw[bG.out];exact hi
           obtain⟨B,d,aG,aJ⟩:=bH.out i cF hi;rw[aG,aU.out i hi] at aJ;refine⟨B,d,fun W hb=> ?_⟩
           have aH:=aB.out.trans (hb.mono aB.out.size);have cj:=(aH.cell (p:=⟨bh,oh+i,none⟩) bM).trans (aA i cF);rw[aG,aU.out i hi] at cj;exact⟨⟨bh,oh,eA,cj⟩,aJ.below aH⟩)
          have cK:Hid (∀W,Below w5.heap.size w5 W→∀i (h:i<c.length),∃bh oh,Ac=some ⟨bh,oh,none⟩∧W.cell? ⟨bh,oh+i,none⟩=some (.int .i64 c[i])):=Zk (fun W hb i hi=>by
           have aH:=aB.out.trans (hb.mono aB.out.size);obtain⟨A2,c2,e2,_,_,_,bJ⟩:=HC.out;injection e2 with e21 e22 e23;obtain⟨bh,oh,e3,bM,aA⟩:=bJ (by omega);exact⟨bh,oh,by rw[e21];exact e3,(aH.cell (p:=⟨bh,oh+i,none⟩) bM).trans (aA i hi)⟩)
          have cM:Hid (∀W,Below w5.heap.size w5 W→W.cell? ⟨F,0,none⟩=some (.int .i64 P)):=Zk (fun W hb=>Zc W F 0 _ _ _ ((hb.block F (Ae aO.out)).trans aO.out))
          rw[←aW,←eb];clear aW eb;go_wp2_with fail;go_loopw [66] (fun iv wr=>Cm3 P c rows wd b w5 iv wr) (fun iv _=>rows.length- (intOf iv).toNat)
          case atStart=>exact⟨0,Nat.zero_le _,rfl,cN.out,cI.out⟩
          case round=>
           obtain⟨i,hi,rfl,aQ,aP⟩:=hrel;have aS:=Zk aQ;have HB:=Zk aP;clear aQ aP;by_cases hli:i<rows.length
           ·have di:decide (i<rows.length)=true:=Ze hli;obtain⟨B,d,bO⟩:=cT.out i hli;obtain⟨⟨bh,oh,eA,ci⟩,_⟩:=bO _ HB.out;subst eA;have bQ:=fun W hb=>(bO W hb).2
            clear bO;have bP:rows[i].length=wd:=aU.out i hli;obtain⟨r,er⟩:∃r,r=rows[i]:=⟨_,rfl⟩;obtain⟨L,eL⟩:∃L,L=Jy P c rows wd i:=⟨_,rfl⟩;rw[←er] at bQ bP;rw[←eL] at aS;have bV:Hid (L.length=wd):=Zk (by show _=_;rw[eL,Iu]);have cP:Hid (els P L=true):=Zk (by show _=_;rw[eL];exact Ix aX.1 ..);have cS:Hid (els P r=true):=Zk (by show _=_;rw[er];exact aT.out i hli);have bN:i<c.length:=by rw[aN.out];exact hli
            obtain⟨x,ex⟩:∃x,x=c[i]:=⟨_,rfl⟩;have cZ:0≤x∧x<P:=by rw[ex];exact Cr (Ba bC.out _ (List.getElem_mem bN))
            have cR:Hid (Jy P c rows wd (i+1)=Bp P L 0 x r):=Zk (by
             show _=_;rw[Jz,←eL,ex,er,Bu bN];unfold gr;rw[List.getElem?_eq_getElem hli];rfl)
            have HX:Hid (∀W,Below w5.heap.size w5 W→∃bc oc,Ac=some ⟨bc,oc,none⟩∧W.cell? ⟨bc,oc+i,none⟩=some (.int .i64 x)):=Zk (fun W hb=>by rw[ex];exact cK.out W hb i bN)
            have cU:Hid (∀W,Below w5.heap.size w5 W→∀k (h:k<r.length),∃bb ob,B=some ⟨bb,ob,none⟩∧W.cell? ⟨bb,ob+k,none⟩=some (.int .i64 r[k])):=Zk (fun W hb k hk=>by
             obtain⟨A2,c2,e2,_,_,_,bJ⟩:=bQ W hb;injection e2 with e21 e22 e23;obtain⟨bb,ob,e3,hbb,aA⟩:=bJ (by omega);exact⟨bb,ob,by rw[e21];exact e3,aA k hk⟩)
            clear bQ eL er ex;rw[←bP] at ci;have hrl64:r.length≤64:=by omega
            have cY:=bP;go_wp2_with fail;obtain⟨wo,bZ⟩:∃wo:World,wo=wr:=⟨_,rfl⟩;rw[←bZ] at aS HB⊢;clear bZ ci cY;go_loopw [73] (fun iv wr=>Cm4 P L x r b w5 iv wr) (fun iv _=>r.length- (intOf iv).toNat)
            case atStart=>exact⟨0,Nat.zero_le _,rfl,by rw[List.take_zero,En];exact aS.out,HB.out⟩
            case round=>
             obtain⟨k,hk,rfl,aQ,aP⟩:=hrel;have aE:=Zk aQ;have aM:=Zk aP;clear aQ aP;by_cases hlk:k<r.length
             ·have dk:decide (k<r.length)=true:=Ze hlk;obtain⟨bb,ob,eB,ck⟩:=cU.out _ aM.out k hlk;subst eB;obtain⟨bc,oc,eC,cx⟩:=HX.out _ aM.out;subst eC;have f0:=cM.out _ aM.out;have aI:(Bp P L 0 x (r.take k)).length=wd:=by rw[Bh];exact bV.out
              have cH:=aE.out.cell (j:=k) (by rw[aI];omega);have hfk:=aE.out.frozen k;have cB:=Cr (Cf aX.1 (Cx aX.1 cP.out 0 x (r.take k)) k);have aL:=Cr (Ba cS.out _ (List.getElem_mem hlk));rw[←Bu] at cH;obtain⟨t,ht⟩:∃t,t=gd (Bp P L 0 x (r.take k)) k:=⟨_,rfl⟩;rw[←ht] at cH cB;obtain⟨y,hy⟩:∃y,y=r[k]:=⟨_,rfl⟩;rw[←hy] at ck aL;have cV:Hid (Bp P L 0 x (r.take (k+1))=(Bp P L 0 x (r.take k)).set k ((t+x*y)%P)):=by
               have h:=Eo P L 0 x r k hlk (by have:=bV.out;omega);rw[Nat.zero_add] at h;show _=_;rw[ht,hy];exact h
              have dA:=Fd cZ aL aX.2;have w1_:IntKind.i64.wrap (x*y)=x*y:=by exact Zi _ (by omega)
              have w2_:IntKind.i64.wrap (t+x*y)=t+x*y:=by exact Zi _ (by omega)
              have w3_:(t+x*y).tmod P=(t+x*y)%P:=Int.tmod_eq_emod_of_nonneg (by omega);have w4_:IntKind.i64.wrap ((t+x*y)%P)=(t+x*y)%P:=by
               have h1:=Int.emod_nonneg (t+x*y) (show P≠0 by omega);have h2:=Int.emod_lt_of_pos (t+x*y) (show 0<P by omega);exact Zi _ (by omega)
              have hP0:¬P=0:=by omega
              have z1:(0:Int)≤(k:Int):=by omega
              have z2:(k:Int)<(wd:Int):=by omega
              have z3:(0:Int)≤(i:Int):=by omega
              have z4:(i:Int)<(c.length:Int):=by omega
              clear ht hy aI cB aL dA;go_upto_region 29 with fail
              go_region
              all_goals
               go_wp2_with fail;go_roundw
               case rel=>exact⟨k+1,by omega,by go_num,by rw[cV.out];exact aE.out.set _ _,by first|exact aM.out.setCell (by have:=bB.out;show _≤b;omega) _|exact (Below.drewN (aM.out.setCell (by have:=bB.out;show _≤b;omega) _) _)⟩
               case measure=>simp[intOf];omega
             ·have dk:decide (k<r.length)=false:=Zd hlk;have cG:k=r.length:=by omega
              have cL:Hid (BK wr b (Jy P c rows wd (i+1))):=Zk (by
               have h:=aE.out;rw[cG,List.take_length] at h;rw[cR.out];exact h)
              clear cG;go_wp2_with fail;go_roundw
              case rel=>exact⟨i+1,by omega,by go_num,cL.out,aM.out⟩
              case measure=>simp[intOf];omega
           ·have di:decide (i<rows.length)=false:=Zd hli;have cO:Hid (BK wr b (cmb P c rows wd)):=Zk (by
             have h:=aS.out;rw[show i=rows.length by omega] at h;exact h)
            have cJ:Hid (Below w.heap.size w wr):=aB.out.trans (HB.out.mono aB.out.size);go_wp2_with fail;go_ret2;refine⟨_,by rw[HE.out];rfl,cJ.out,fun h=>absurd HE.out h,fun _=> ?_⟩
            have hl:(cmb P c rows wd).length=wd:=Iu ..;have h:=BK.own cO.out (base:=w.heap.size) (by have:=aB.out.size;have:=bB.out;omega) (by rw[hl];omega);rw[hl] at h;rw[Int.toNat_natCast,hl];exact h
    ·have d3:((c.length:Int) !=(rows.length:Int))=true:=by rw[bne_iff_ne];omega
     have aV:(c.length !=rows.length)=true:=by rw[bne_iff_ne];exact hcl
     have HE:Hid (coE P c rows wd=2):=Zk (by show _=_;unfold coE;rw[HP.out,if_neg (by simp),if_neg (by omega),if_pos hcl]);clear hcl;go_wp2_with fail;go_ret2;exact⟨_,by rw[HE.out];rfl,aF.out,fun _=>rfl,fun h=>by rw[HE.out] at h;omega⟩
end Go.Proofs.YtbgabipngdillaaGreatDoor
