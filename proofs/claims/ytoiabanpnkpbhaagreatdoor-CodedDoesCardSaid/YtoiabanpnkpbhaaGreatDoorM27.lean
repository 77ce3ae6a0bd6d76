/- Parts. -/
import Derived.Test.YtoiabanpnkpbhaaGreatDoorM23
import Derived.Test.YtoiabanpnkpbhaaGreatDoorM26
import Derived.Test.YtoiabanpnkpbhaaGreatDoorM08
set_option linter.unusedVariables false
set_option linter.unusedSimpArgs false
set_option maxRecDepth 100000
set_option maxHeartbeats 8000000
namespace Go.Proofs.YtoiabanpnkpbhaaGreatDoor
open Go.RowKit
theorem Hm{P:Program}(w:World){ops:Array Oper}{o:Oper}{a:Act}{K:Act→World→Prop}{Q:Exit→Act→World→Prop}{E:Prop}(hgd:o.guard=none)(s x:Operand)(t:TypeId)
  (ho:o.op= .call {callee:= .builtin .append,args:= #[s,x],argTypes:= #[t,t]})
  (base:Nat) (e:TypeId) (ht:P.underlying t=some (.slice e)) (hinfo:(P.info? e).map (fun i=>(i.zero,i.size,i.bytes))=some (some (.int .i64 0),1,8))
  (v:Value) (xs:List Int) (hs:a.eval s=v) (hown:w.ownsRow base e 1 v xs.length (xs.map (Value.int .i64)))
  (B:Nat) (src:Value) (l:List Int) (hx:a.eval x=src) (hr:SB B w src l)
  (hbytes:xs.length+l.length≤17592186044416) (hbase:base≤w.heap.size)
  (h:∀A c w',w'.ownsRow base e 1 (.slice A (xs++l).length c) (xs++l).length ((xs++l).map (Value.int .i64))→w.grownBy w' v.ownBlock→((Value.slice A (xs++l).length c).ownBlock=v.ownBlock∨(Value.slice A (xs++l).length c).ownBlock=some w.heap.size)→K (a.put o.dst (.slice A (xs++l).length c)) w'):
  if Region.wanted o (yielded ops a.tmps)=true then Oper.wp P o a w K Q else E:=by
 obtain⟨i0,aC,aD,aE,aF⟩:=info_parts hinfo;have hw:Region.wanted o (yielded ops a.tmps)=true:=by simp[Region.wanted,hgd]
 rw[if_pos hw];obtain⟨v',w',aA,h2,h3,h4⟩:=Cx (P:=P) w base t o.type e i0 _ 1 8 ht aC aD aE aF rfl (by omega) v _ _ hown B src _ _ hr.sc (Hk l) (by unfold maxLen;omega) (by omega) hbase;have aB:w'.ownsRow base e 1 v' (xs++l).length ((xs++l).map (Value.int .i64)):=by rw[List.length_append,List.map_append];exact h2
 obtain⟨A,c,rfl⟩:=Ct aB;unfold Oper.wp execOp;simp only[ho,resolve,invoke,builtin,Sem.run_bind,Sem.run_pure,Result.andThen_ok,List.map_toArray,List.map_cons,List.map_nil,hs,hx,aA];exact h A c w' aB h3 h4
def SX(W:World)(X Y:Option Nat)(v:Value)(l:List Int):Prop:=
 ∃A c,v= .slice A l.length c∧l.length≤c∧c≤9223372036854775807∧(∀x∈l,At x)∧
  (0<l.length→∃b off,A=some ⟨b,off,none⟩∧b<W.heap.size∧some b≠X∧some b≠Y∧∀j (h:j<l.length),W.cell? ⟨b,off+j,none⟩=some (.int .i64 l[j]))
theorem SX.keep{W W':World}{X Y X' Y':Option Nat}{v:Value}{l:List Int}(h:SX W X Y v l)(hs:W.heap.size≤W'.heap.size)
  (hb:∀b,b<W.heap.size→some b≠X→some b≠Y→W'.heap[b]? =W.heap[b]? ∧some b≠X'∧some b≠Y'):SX W' X' Y' v l:=by
 obtain⟨A,c,rfl,hc,hm,hr,ha⟩:=h;refine⟨A,c,rfl,hc,hm,hr,fun h0=> ?_⟩
 obtain⟨b,aE,rfl,aB,hx,hy,aA⟩:=ha h0;obtain⟨e,aC,aD⟩:=hb b aB hx hy;exact⟨b,aE,rfl,by omega,aC,aD,fun j hj=>(World.cell?_of_block e).trans (aA j hj)⟩
theorem SX.si{W:World}{X Y:Option Nat}{v:Value}{l:List Int}(h:SX W X Y v l):SI W v l:=by
 obtain⟨A,c,rfl,hc,hm,hr,ha⟩:=h;refine⟨A,c,rfl,hc,hm,hr,fun h0=> ?_⟩
 obtain⟨b,aC,rfl,aB,_,_,aA⟩:=ha h0;exact⟨b,aC,rfl,aB,aA⟩
theorem SX.of_own{W:World}{X Y:Option Nat}{base:Nat}{e:TypeId}{v:Value}{l:List Int}(h:W.ownsRow base e 1 v l.length (l.map (Value.int .i64)))(hr:∀x∈l,At x)(hX:∀k,X=some k→k<base)(hY:∀k,Y=some k→k<base):SX W X Y v l:=by
 rcases h.2 with⟨rfl,hn⟩|⟨b,aA,cur,rfl,hb,aC,aD,aB,hcs,htake⟩
 ·have:l=[]:=List.eq_nil_of_length_eq_zero hn;subst this;exact⟨none,0,rfl,Zl _,by omega,hr,fun h=>by simp at h⟩
 ·refine⟨_,aA,rfl,aD,by simpa [maxLen] using aB,hr,fun h0=>⟨b,0,rfl,(Array.getElem?_eq_some_iff.1 aC).1,fun e=>by have:=hX b e.symm;omega,fun e=>by have:=hY b e.symm;omega,fun j hj=> ?_⟩⟩
  have:=h.cellAt j (by omega);rw[Nat.zero_add,this];simp[hj]
structure St (G:Nat) (w0 W:World) (pv wv:Value) (vs:List Value) (ps:List (List Int)) (ws:List Int):Prop where
 len:vs.length=ps.length
 hdr:W.ownsRow G 22 1 pv vs.length vs
 row:∀j (h:j<vs.length) (h':j<ps.length),SX W pv.ownBlock wv.ownBlock vs[j] ps[j]
 own:W.ownsRow G 3 1 wv ws.length (ws.map (Value.int .i64))
 apart:∀b,pv.ownBlock=some b→wv.ownBlock≠some b
 bel:Below G w0 W
theorem St.nil(w0:World)(G:Nat):St G w0 w0 (.slice none 0 0) (.slice none 0 0) [] [] []:=
 ⟨rfl,World.ownsRow_nil _ _ _ _,fun j h=>by simp at h,World.ownsRow_nil _ _ _ _,fun b h=>by simp[Value.ownBlock] at h,Zb _ _⟩
theorem Bu{w w':World}{base e size n:Nat}{v:Value}{xs:List Value}(h:w.ownsRow base e size v n xs)(hk:∀b,v.ownBlock=some b→w'.heap[b]? =w.heap[b]?):w'.ownsRow base e size v n xs:=by
 refine⟨h.1,?_⟩;rcases h.2 with hn|⟨b,aA,aB,rfl,hb,hg,rest⟩
 ·exact .inl hn
 ·exact .inr ⟨b,aA,aB,rfl,hb,(hk b rfl).trans hg,rest⟩
theorem St.below{G:Nat}{w0 W W':World}{pv wv:Value}{vs:List Value}{ps:List (List Int)}{ws:List Int}(h:St G w0 W pv wv vs ps ws)(hb:Below W.heap.size W W')(hG:G≤W.heap.size):St G w0 W' pv wv vs ps ws:=
 ⟨h.len,Bm h.hdr hb,fun j h1 h2=>(h.row j h1 h2).keep hb.size fun b aA hx hy=>⟨hb.block b aA,hx,hy⟩,Bm h.own hb,h.apart,h.bel.trans (hb.mono hG)⟩
theorem St.appP{G:Nat}{w0 W W':World}{pv wv pv':Value}{vs:List Value}{ps:List (List Int)}{ws:List Int}{v:Value}{l:List Int}(h:St G w0 W pv wv vs ps ws)(hG:G≤W.heap.size)
  (hx:SX W pv.ownBlock wv.ownBlock v l) (ho:W'.ownsRow G 22 1 pv' (vs.length+1) (vs++[v])) (hg:W.grownBy W' pv.ownBlock) (hat:∀g,pv'.ownBlock=some g→pv.ownBlock=some g∨g=W.heap.size):St G w0 W' pv' wv (vs++[v]) (ps++[l]) ws:=by
 have hp:∀b,pv.ownBlock=some b→G≤b:=fun b hb=>(h.hdr.lt b hb).1
 have hw:∀b,wv.ownBlock=some b→b<W.heap.size:=fun b hb=>(h.own.lt b hb).2
 have hk:∀b,b<W.heap.size→some b≠pv.ownBlock→some b≠wv.ownBlock→W'.heap[b]? =W.heap[b]? ∧some b≠pv'.ownBlock∧some b≠wv.ownBlock:=fun b hb h1 h2=>
  ⟨hg.block b hb h1,fun e=>by rcases hat b e.symm with h3|h3;exact h1 h3.symm;omega,h2⟩
 refine⟨by simp[h.len],by simpa using ho,fun j h1 h2=> ?_,Bu h.own fun b hb=>hg.block b (hw b hb) fun e=>h.apart b e.symm hb,fun b hb=> ?_,⟨hg.os.trans h.bel.os,hg.tape.trans h.bel.tape,hg.output.trans h.bel.output,Nat.le_trans h.bel.size hg.size,fun i hi=>(hg.block i (by omega) fun e=>by have:=hp i e.symm;omega).trans (h.bel.block i hi)⟩⟩
 ·by_cases hj:j<vs.length
  ·have aA:j<ps.length:=by rw[←h.len];exact hj
   rw[List.getElem_append_left hj,List.getElem_append_left aA];exact (h.row j hj aA).keep hg.size hk
  ·have e1:j=vs.length:=by simp at h1;omega
   subst e1;have e2:(vs++[v])[vs.length]'h1=v:=by simp
   have e3:(ps++[l])[vs.length]'h2=l:=by simp[h.len]
   rw[e2,e3];exact hx.keep hg.size hk
 ·rcases hat b hb with h3|h3
  ·exact h.apart b h3
  ·intro e;have:=hw b e;omega
theorem St.appW{G:Nat}{w0 W W':World}{pv wv wv':Value}{vs:List Value}{ps:List (List Int)}{ws ws':List Int}(h:St G w0 W pv wv vs ps ws)(hG:G≤W.heap.size)
  (ho:W'.ownsRow G 3 1 wv' ws'.length (ws'.map (Value.int .i64))) (hg:W.grownBy W' wv.ownBlock) (hat:wv'.ownBlock=wv.ownBlock∨wv'.ownBlock=some W.heap.size):St G w0 W' pv wv' vs ps ws':=by
 have hw:∀b,wv.ownBlock=some b→G≤b:=fun b hb=>(h.own.lt b hb).1
 have hp:∀b,pv.ownBlock=some b→b<W.heap.size:=fun b hb=>(h.hdr.lt b hb).2
 refine⟨h.len,Bu h.hdr fun b hb=>hg.block b (hp b hb) fun e=>h.apart b hb e.symm,fun j h1 h2=>(h.row j h1 h2).keep hg.size fun b hb h3 h4=>⟨hg.block b hb h4,h3,fun e=> ?_⟩,ho,fun b hb e=> ?_,⟨hg.os.trans h.bel.os,hg.tape.trans h.bel.tape,hg.output.trans h.bel.output,Nat.le_trans h.bel.size hg.size,fun i hi=>(hg.block i (by omega) fun e=>by have:=hw i e.symm;omega).trans (h.bel.block i hi)⟩⟩
 ·rcases hat with h5|h5
  ·exact h4 (by rw[←h5];exact e)
  ·rw[h5] at e;injection e with e;omega
 ·rcases hat with h5|h5
  ·exact h.apart b hb (by rw[←h5];exact e)
  ·rw[h5] at e;injection e with e;have:=hp b hb;omega
theorem St.sl{G:Nat}{w0 W W':World}{pv wv:Value}{vs:List Value}{ps:List (List Int)}{ws:List Int}(h:St G w0 W pv wv vs ps ws)(hg:W.grownBy W' wv.ownBlock):SL W' pv ps:=by
 have hp:∀b,pv.ownBlock=some b→b<W.heap.size:=fun b hb=>(h.hdr.lt b hb).2
 have ho:=Bu (w':=W') h.hdr fun b hb=>hg.block b (hp b hb) fun e=>h.apart b hb e.symm
 have hl:=h.len;rcases ho.2 with⟨e,hn⟩|⟨b,aB,cur,e,hb,aD,hnc,aC,hcs,htake⟩
 ·have:ps=[]:=List.eq_nil_of_length_eq_zero (by omega);subst this;rw[e];exact⟨none,0,rfl,Zl _,by omega,fun h=>by simp at h⟩
 ·rw[e,hl];refine⟨_,aB,rfl,by omega,by simpa [maxLen] using aC,fun h0=>⟨b,0,rfl,(Array.getElem?_eq_some_iff.1 aD).1,fun j hj=> ?_⟩⟩
  have aA:j<vs.length:=by omega
  have hs:SI W' vs[j] ps[j]:=((h.row j aA hj).keep (X':=none) (Y':=none) hg.size fun b hb h3 h4=>⟨hg.block b hb h4,by simp,by simp⟩).si
  obtain⟨B,d,hv⟩:=hs.form;refine⟨B,d,?_,by rw[←hv];exact hs⟩;rw[e] at ho;have:=ho.cellAt j (by omega);rw[Nat.zero_add,this,←hv];simp[aA]
def wrA(P:Int)(l:List (Bool×List Int)):Nat→List (List Int)→List Int
 |_,[]=>[]
 |i,p::ps=>wrg P (Cc l i) p++wrA P l (i+1) ps
theorem Ng(P:Int)(l:List (Bool×List Int))(p:List Int):∀(ps:List (List Int)) (i:Nat),wrA P l i (ps++[p])=wrA P l i ps++wrg P (Cc l (i+ps.length)) p
 |[],i=>by simp[wrA]
 |q::ps,i=>by
  show wrg P (Cc l i) q++wrA P l (i+1) (ps++[p])=wrg P (Cc l i) q++wrA P l (i+1) ps++_;rw[Ng P l p ps (i+1),←List.append_assoc];have e:i+1+ps.length=i+(q::ps).length:=by simp;omega
  rw[e]
theorem Ph(P:Int)(l:List (Bool×List Int)):∀(ps:List (List Int)) (i:Nat),(wrA P l i ps).length≤ps.length*l.length
 |[],i=>by simp[wrA]
 |p::ps,i=>by
  have h1:=Jz P (Cc l i) p;rw[Bp] at h1;have h2:=Ph P l ps (i+1);show (wrg P (Cc l i) p++wrA P l (i+1) ps).length≤(ps.length+1)*l.length;rw[List.length_append,Nat.add_mul];omega
theorem Pi(P:Int)(l:List (Bool×List Int))(x:Int):∀(ps:List (List Int)) (i:Nat),x∈wrA P l i ps↔∃j,∃h:j<ps.length,x∈wrg P (Cc l (i+j)) ps[j]
 |[],i=>by simp[wrA]
 |p::ps,i=>by
  show x∈wrg P (Cc l i) p++wrA P l (i+1) ps↔_;rw[List.mem_append,Pi P l x ps (i+1)];constructor
  ·rintro (h|⟨j,hj,h⟩)
   ·exact⟨0,by simp,by simpa using h⟩
   ·exact⟨j+1,by simpa using hj,by
     have e:i+(j+1)=i+1+j:=by omega
     rw[e];simpa using h⟩
  ·rintro⟨j,hj,h⟩
   cases j with
   |zero=>exact .inl (by simpa using h)
   |succ j=>exact .inr ⟨j,by simpa using hj,by
     have e:i+(j+1)=i+1+j:=by omega
     rw[e] at h;simpa using h⟩
def AlR(P k:Int)(l:List (Bool×List Int))(n:Nat)(ps:List (List Int))(ws:List Int):Prop:=ps.length=n∧(∀i (h:i<ps.length),UnR P (Cc l i) k ps[i] 0)∧ws=srt (wrA P l 0 ps)
def AlN(P k:Int)(l:List (Bool×List Int))(n:Nat):Prop:=∃i,i<n∧∃o er,UnR P (Cc l i) k o er∧er≠0
open Go.RowKit
theorem Pj(P:Int)(l:List (Int×Bool))(p:List Int):∀x∈wrg P l p,1≤x∧x≤(l.length:Int):=by
 intro x hx;unfold wrg wrk at hx;obtain⟨t,ht,rfl⟩:=List.mem_map.1 hx;have:=Kd l 0 t (List.mem_filter.1 ht).1;simp at this;omega
theorem Tt(P:Int)(l:List (Bool×List Int))(ps:List (List Int)):∀x∈wrA P l 0 ps,1≤x∧x≤(l.length:Int):=by
 intro x hx;obtain⟨j,hj,h⟩:=(Pi P l x ps 0).1 hx;have:=Pj _ _ _ x h
 rwa [Bp] at this
theorem zFa{P k:Int}{l:List (Int×Bool)}{out:List Int}{er:Int}(h:UnR P l k out er):∀x∈out,At x:=by
 rcases h with⟨_,_,rfl⟩|⟨h0,⟨_,hg⟩|⟨_,rfl,_⟩⟩
 ·simp
 ·exact Ci (Bj (Ld h0).1).2 hg.els
 ·simp
def ClR(P k:Int)(l:List (Bool×List Int))(n G:Nat)(w0:World)(p q iv:Value)(wr:World):Prop:=
 ∃(pv wv:Value) (i:Nat) (vs:List Value) (ps:List (List Int)),pv=p∧wv=q∧i≤n∧iv= .int .i64 i∧ps.length=i∧(∀j (h:j<ps.length),UnR P (Cc l j) k ps[j] 0)∧St G w0 wr pv wv vs ps (wrA P l 0 ps)
def AlP(P k:Int)(l:List (Bool×List Int))(n:Nat)(w:World)(e:Ending)(w':World):Prop:=
 ∃pv wv er,e= .returned (.tuple #[pv,wv,.int .i64 er])∧Below w.heap.size w w'∧
  ((er=0∧∃ps ws,AlR P k l n ps ws∧SL w' pv ps∧w'.ownsRow w.heap.size 3 1 wv ws.length (ws.map (Value.int .i64)))∨(er=12∧pv= .slice none 0 0∧wv= .slice none 0 0∧AlN P k l n))
theorem Xn(P k:Int)(l:List (Bool×List Int))(n:Nat)(v:Value)(w:World)(hPi:At P)(h:SAn w v l)(hz:l.length≤400)(hn:n≤2000)(hw:∀a∈l,a.1=true→n≤a.2.length)(hE:EW w):
  Calls Tryz.prog 65 #[.agg #[.int .i64 P,.int .i64 k,v],.int .i64 n,.func (.func 66) #[] #[]] w (AlP P k l n w):=by
 have HS:=Zk h;have HE:=Zk hE;have HW:=Zk hw;obtain⟨A,c,rfl⟩:=h.form;clear h hE hw;go_enter Tryz.func65,Tryz.ntmps65;obtain⟨F,eF⟩:∃F,F=w.heap.size:=⟨_,rfl⟩;obtain⟨w0,ew⟩:∃w0:World,w0=w.alloc (.cells #[.int .i64 P,.int .i64 k,.slice A l.length c] 105):=⟨_,rfl⟩;have dJ:Hid (w.alloc (.cells #[.int .i64 P,.int .i64 k,.slice A l.length c] 105)=w0):=ew.symm;have bL:Hid (Below w.heap.size w w0):=Zk (by rw[ew];exact (Zb _ w).alloc (Zl _) _);have dC:Hid (w0.heap[F]? =some (.cells #[.int .i64 P,.int .i64 k,.slice A l.length c] 105 (0,0))):=Zk (by show _=_;rw[ew,eF];exact Zh w _);have dN:Hid (w0.heap.size=F+1):=Zk (by show _=_;rw[ew,eF];simp);have HEF:=Zk eF;obtain⟨G,eG⟩:∃G,G=w0.heap.size:=⟨_,rfl⟩;have cS:F<G:=by rw[eG,dN.out];omega
 have cK:Hid (w.heap.size≤G):=Zk (by rw[eG];exact bL.out.size);have dE:=Zk eG;go_upto_region 4 with fail
 rw[dJ.out,←eF];clear ew eF eG;go_loopw [9,10,15] (fun pv wv iv wr=>ClR P k l n G w0 pv wv iv wr) (fun _ _ iv _=>n- (intOf iv).toNat)
 case atStart=>exact⟨_,_,0,[],[],rfl,rfl,Nat.zero_le _,rfl,rfl,fun j h=>by simp at h,St.nil w0 G⟩
 case round=>
  obtain⟨pv,wv,i,vs,ps,rfl,rfl,hi,rfl,cW,cY,cE⟩:=hrel;have aF:=Zk cE;have cO:=Zk cY;have aI:=Zk cW;have bM:Hid (Below G w0 wr):=cE.bel;have bZ:G≤wr.heap.size:=by have:=bM.out.size;have:=dE.out;omega
  have aU:Hid (Below w.heap.size w wr):=Zk (bL.out.trans (bM.out.mono cK.out));clear cE cY cW;have bO:Hid (wr.heap[F]? =some (.cells #[.int .i64 P,.int .i64 k,.slice A l.length c] 105 (0,0))):=Zk ((bM.out.block F cS).trans dC.out);by_cases hlt:i<n
  ·have hd:decide (i<n)=true:=Ze hlt;have a0:wr.cell? ⟨F,0,none⟩=some (.int .i64 P):=Zc wr F 0 _ _ _ bO.out;have a1:wr.cell? ⟨F,1,none⟩=some (.int .i64 k):=Zc wr F 1 _ _ _ bO.out;have a2:wr.cell? ⟨F,2,none⟩=some (.slice A l.length c):=Zc wr F 2 _ _ _ bO.out;have cJ:=Zk (Xo P k l i (.slice A l.length c) wr hPi (HS.out.below aU.out) (by omega) (by omega) (fun a ha hk=>by have:=HW.out a ha hk;omega) (HE.out.below aU.out))
   go_wp2_with fail;(with_reducible refine cJ.out.mono ?_)
   rintro e w1 ⟨out,er,v1,v2,rfl,cC,cZ,aQ,cU⟩;have bU:=Zk cZ;have cG:=Zk cC;have cL:=Zk aQ;have cM:=Zk cU;have bF:wr.heap.size≤w1.heap.size:=cC.size;clear cC cZ aQ cU a0 a1 a2 cJ;by_cases h0:er=0
   ·subst h0;obtain⟨Q,eQ⟩:∃Q,Q=w1.heap.size:=⟨_,rfl⟩;obtain⟨wq,bA⟩:∃wq:World,wq=w1.alloc (.cells #[v1,v2] 135):=⟨_,rfl⟩;have cP:Hid (w1.alloc (.cells #[v1,v2] 135)=wq):=bA.symm;have HQ:Hid (wq.heap[Q]? =some (.cells #[v1,v2] 135 (0,0))):=Zk (by show _=_;rw[bA,eQ];exact Zh w1 _);have cI:Hid (Below wr.heap.size wr wq):=Zk (by rw[bA];exact cG.out.alloc bF _);have aT:Hid (Below w1.heap.size w1 wq):=Zk (by rw[bA];exact (Zb _ w1).alloc (Zl _) _);have dO:G≤wq.heap.size:=by have:=cI.out.size;omega
    have aK:Hid (St G w0 wq pv wv vs ps (wrA P l 0 ps)):=Zk (aF.out.below cI.out bZ);have cD:∀b,pv.ownBlock=some b→b<wr.heap.size:=fun b hb=>(aF.out.hdr.lt b hb).2
    have cF:∀b,wv.ownBlock=some b→b<wr.heap.size:=fun b hb=>(aF.out.own.lt b hb).2
    have bT:Hid (SX wq pv.ownBlock wv.ownBlock v1 out):=Zk (SX.of_own (Bm cL.out aT.out) (zFa bU.out) cD cF);obtain⟨WR,aW⟩:∃WR,WR=wrg P (Cc l i) out:=⟨_,rfl⟩;have dL:=Zk aW;have bH:∀x∈WR,At x:=fun x hx=>by rw[aW] at hx;have:=Pj _ _ _ x hx;rw[Bp] at this;unfold At;omega
    have hWl:WR.length≤400:=by rw[aW];have:=Jz P (Cc l i) out;rw[Bp] at this;omega
    have bB:wq.ownsRow wr.heap.size 3 1 v2 WR.length (WR.map (Value.int .i64)):=by
     have:=Bm cM.out aT.out;rw[if_pos rfl,←aW] at this;exact this
    have aL:Hid (SX wq pv.ownBlock wv.ownBlock v2 WR):=Zk (SX.of_own bB bH cD cF);obtain⟨A1,c1,bX⟩:=bT.out.si.form;obtain⟨A2,c2,bY⟩:=aL.out.si.form;subst bX bY;obtain⟨no,aY⟩:∃no,no=out.length:=⟨_,rfl⟩;obtain⟨nw,aZ⟩:∃nw,nw=WR.length:=⟨_,rfl⟩;have HNO:=Zk aY;have HNW:=Zk aZ;rw[←aY,←aZ] at HQ cP;rw[←aY] at bT;rw[←aZ] at aL;rw[←aY,←aZ];obtain⟨WS,aD⟩:∃WS,WS=wrA P l 0 ps:=⟨_,rfl⟩;rw[←aD] at aK;have bV:=Zk aD;have cA:WS.length≤800000:=by
     rw[aD];have h1:=Ph P l ps 0;have h2:ps.length*l.length≤2000*400:=Nat.mul_le_mul (by have:=aI.out;omega) hz;omega
    have hvs:vs.length≤2000:=by have h1:=aF.out.len;have:=aI.out;omega
    obtain⟨nv,cQ⟩:∃nv,nv=vs.length:=⟨_,rfl⟩;have aV:=Zk cQ;clear bB bA aW aY aZ aD cQ cD cF;have d0:((0:Int) !=0)=false:=rfl;go_upto_region 9 with fail
    rw[cP.out,←eQ];have dH:=Zk eQ;clear eQ;have y0:wq.cell? ⟨Q,0,none⟩=some (.slice A1 no c1):=Zc wq Q 0 _ _ _ HQ.out;have y1:wq.cell? ⟨Q,1,none⟩=some (.slice A2 nw c2):=Zc wq Q 1 _ _ _ HQ.out;have dP:Q<wq.heap.size:=Ae HQ.out;have hQr:wr.heap.size≤Q:=by have:=dH.out;omega
    have cN:Hid (wq.ownsRow G 22 1 pv nv vs):=Zk (by rw[aV.out];exact aK.out.hdr);have dA:Hid (∀(g9 aB:Nat) (w9:World),(wq.alloc (.cells #[.slice A1 no c1] 22)).grownBy w9 pv.ownBlock→w9.ownsRow G 22 1 (.slice (some ⟨g9,0,none⟩) (nv+1) aB) (nv+1) (vs++[.slice A1 no c1])→(pv.ownBlock=some g9∨g9=(wq.alloc (.cells #[.slice A1 no c1] 22)).heap.size)→
      Hid (St G w0 w9 (.slice (some ⟨g9,0,none⟩) (nv+1) aB) wv (vs++[.slice A1 no c1]) (ps++[out]) WS)∧Hid (SB w9.heap.size w9 (.slice A2 nw c2) WR)∧w9.cell? ⟨Q,1,none⟩=some (.slice A2 nw c2)∧G≤w9.heap.size):=Zk (fun g9 aB w9 hg ho ha=>by
     have aO:Below wq.heap.size wq (wq.alloc (.cells #[.slice A1 no c1] 22)):=(Zb _ wq).alloc (Zl _) _;have hS:=aK.out.below aO dO;have hX:=bT.out.keep (X':=pv.ownBlock) (Y':=wv.ownBlock) aO.size (fun b hb h1 h2=>⟨aO.block b hb,h1,h2⟩)
     have hY:=aL.out.keep (X':=pv.ownBlock) (Y':=wv.ownBlock) aO.size (fun b hb h1 h2=>⟨aO.block b hb,h1,h2⟩)
     have hsz:(wq.alloc (.cells #[.slice A1 no c1] 22)).heap.size=wq.heap.size+1:=by simp
     have bG:G≤(wq.alloc (.cells #[.slice A1 no c1] 22)).heap.size:=by omega
     refine⟨hS.appP bG hX (by rw[aV.out] at ho;rw[aV.out];exact ho) hg (fun g hb=>by injection hb with e;subst e;exact ha),?_,?_,by have:=hg.size;omega⟩
     ·exact (hY.keep (X':=none) (Y':=none) hg.size (fun b hb h1 h2=>⟨hg.block b hb h1,by simp,by simp⟩)).si
     ·have hQ:w9.heap[Q]? =some (.cells #[.slice A1 no c1,.slice A2 nw c2] 135 (0,0)):=(hg.block Q (by omega) (fun e=>by have:=(aF.out.hdr.lt Q e.symm).2;omega)).trans ((aO.block Q dP).trans HQ.out)
      exact Zc w9 Q 1 _ _ _ hQ)
    have bN:Hid (∀(bJ aS:Value) (w9 aR:World),St G w0 w9 bJ wv (vs++[.slice A1 no c1]) (ps++[out]) WS→G≤w9.heap.size→aR.ownsRow G 3 1 aS (WS++WR).length ((WS++WR).map (Value.int .i64))→w9.grownBy aR wv.ownBlock→(aS.ownBlock=wv.ownBlock∨aS.ownBlock=some w9.heap.size)→ClR P k l n G w0 bJ aS (.int .i64 ((i:Int)+1)) aR):=Zk (fun bJ aS w9 aR hs hG ho hg ha=>by
     have e1:wrA P l 0 (ps++[out])=WS++WR:=by rw[Ng,←bV.out,dL.out,Nat.zero_add,aI.out]
     refine⟨bJ,aS,i+1,vs++[.slice A1 no c1],ps++[out],rfl,rfl,by omega,by simp,by simp[aI.out],fun j hj=> ?_,?_⟩
     ·by_cases hji:j<ps.length
      ·rw[List.getElem_append_left hji];exact cO.out j hji
      ·have ej:j=ps.length:=by simp at hj;omega
       subst ej;have e2:(ps++[out])[ps.length]'hj=out:=by simp
       rw[e2,aI.out];exact bU.out
     ·rw[e1];exact hs.appW hG ho hg ha)
    clear hd d0 cS bZ bF;go_region_law (first
     |(refine Dz _ (by rfl) (.tmp 27) _ 33 (by rfl) G 22 (.slice none 0 0) 24 Tryz.underlying33 Ev pv nv vs (by rfl) (by first|exact cN.out.alloc (.cells #[.slice A1 no c1] 22)|exact (cN.out.alloc (.cells #[.slice A1 no c1] 22)).drew) (.slice A1 no c1) (by rfl) wq.heap.size (by rfl) (by exact Ba wq [.slice A1 no c1] 22 0 _ rfl) (by have:=aV.out;omega) (by have:=aV.out;omega) (by rfl) (by simp;omega) ?_;intro g9 aB w9 aH aP bE;have dD:Hid ((wq.alloc (.cells #[.slice A1 no c1] 22)).grownBy w9 pv.ownBlock):=Zk (⟨aP.os,aP.tape,aP.output,aP.size,aP.block⟩);obtain⟨aJ,bS,y1,bG⟩:=dA.out g9 aB w9 dD.out aH bE;clear aP aH bE)
     |(refine Hm _ (by rfl) (.tmp 32) _ 22 (by rfl) G 3 Tryz.underlying22 Bi wv WS (by rfl) (by first|exact aJ.out.own|exact aJ.out.own.drew) w9.heap.size _ WR (by rfl) (by exact bS.out) (by omega) (by exact bG) ?_;intro A10 c10 aR aC aA aG;have bP:Hid (w9.grownBy aR wv.ownBlock):=Zk (⟨aA.os,aA.tape,aA.output,aA.size,aA.block⟩);have bQ:=Zk aC;have bK:=Zk aG;clear aA aC aG))
    all_goals
     go_wp2_with fail;go_roundw
     case rel=>
      have h:=bN.out _ _ _ _ aJ.out bG bQ.out bP.out bK.out;rw[List.length_append] at h;exact h
     case measure=>simp[intOf];omega
   ·have d0:(er !=0)=true:=by rw[bne_iff_ne];exact h0
    have HN:Hid (AlN P k l n):=⟨i,hlt,out,er,bU.out,h0⟩;obtain⟨A1,c1,bX⟩:=Dd cL.out;obtain⟨A2,c2,bY⟩:=Dd cM.out;subst bX bY;generalize out.length=n1;generalize (if er=0 then wrg P (Cc l i) out else []).length=n2;clear h0;go_wp2_with fail;go_ret3
    refine⟨_,_,12,rfl,?_,.inr ⟨rfl,rfl,rfl,HN.out⟩⟩;exact (aU.out.trans (cG.out.mono aU.out.size)).alloc (by have:=aU.out.size;omega) _
  ·have hd:decide (i<n)=false:=Zd hlt;have hin:i=n:=by omega
   have dG:Hid (∀i (h:i<ps.length),UnR P (Cc l i) k ps[i] 0):=cO.out;obtain⟨WS,aD⟩:∃WS,WS=wrA P l 0 ps:=⟨_,rfl⟩;have cA:WS.length≤800000:=by
    rw[aD];have h1:=Ph P l ps 0;have h2:ps.length*l.length≤2000*400:=Nat.mul_le_mul (by have:=aI.out;omega) hz;omega
   have bH:∀x∈WS,At x:=fun x hx=>by rw[aD] at hx;have:=Tt P l ps x hx;unfold At;omega
   have dK:=Zk bH;rw[←aD] at aF;have bV:=Zk aD;clear bH aD;go_wp2_with fail;(with_reducible refine (zBs WS wv wr (by omega) aF.out.own).mono ?_)
   rintro e w1 ⟨rfl,aQ,bI⟩;obtain⟨WT,aX⟩:∃WT,WT=WS.mergeSort fun x y=>decide (x≤y):=⟨_,rfl⟩
   have cB:WT.length=WS.length:=by rw[aX];exact List.length_mergeSort _
   have bD:∀x∈WT,At x:=fun x hx=>dK.out x ((List.mergeSort_perm WS _).mem_iff.1 (by rw[aX] at hx;exact hx))
   have bC:St G w0 w1 pv wv vs ps WT:=aF.out.appW (by exact bZ) (by rw[cB];rw[←aX] at aQ;exact aQ) bI (.inl rfl);have aE:=Zk bC;have dM:=Zk aX;have bW:=Zk bD;have hG1:G≤w1.heap.size:=by have:=bI.size;omega
   have HG1:=Zk bI;clear aQ bI aX bD bC;go_wp2_with fail;(with_reducible refine (Px WT wv w1 (by omega) bW.out aE.out.own).mono ?_)
   rintro e w2 ⟨vc,rfl,cX,aN⟩;have bR:=Zk (aE.out.sl aN);have cR:Below G w0 w2:=by
    have h:=aE.out.bel;have hw:∀b,wv.ownBlock=some b→G≤b:=fun b hb=>(aE.out.own.lt b hb).1
    exact⟨aN.os.trans h.os,aN.tape.trans h.tape,aN.output.trans h.output,Nat.le_trans h.size aN.size,fun i hi=>(aN.block i (by omega) fun e=>by have:=hw i e.symm;omega).trans (h.block i hi)⟩
   have dB:=Zk cR;have dI:=Zk cX;have hcl:(Lib.compact WT).length≤WT.length:=by
    show (Lib.compactUpTo WT.toArray WT.length).length≤_;unfold Lib.compactUpTo;rw[List.length_map];exact Nat.le_trans (List.length_filter_le _ _) (by simp)
   clear aN cR cX;go_wp2_with fail;(with_reducible refine (Hs (Lib.compact WT) vc w2 dI.out (by omega)).mono ?_)
   rintro e w3 ⟨v3,rfl,cV,cT⟩;have dF:=Zk cV;have cH:=Zk cT;clear cV cT;go_wp2_with fail;go_ret3
   have aM:Below w.heap.size w w2:=bL.out.trans (dB.out.mono cK.out);refine⟨pv,v3,0,rfl,aM.trans (cH.out.mono aM.size),.inl ⟨rfl,ps,Lib.compact WT,⟨by have:=aI.out;omega,dG.out,?_⟩,bR.out.below cH.out,Cf dF.out aM.size⟩⟩;rw[dM.out,bV.out];rfl
open Go.RowKit
theorem SL.heads{w:World}{v:Value}{rows:List (List Int)}(h:SL w v rows):∃A c,v= .slice A rows.length c∧rows.length≤c∧c≤9223372036854775807∧∃hs:List Value,hs.length=rows.length∧(∀j (h1:j<hs.length) (h2:j<rows.length),∃B d,hs[j]= .slice B rows[j].length d∧SI w hs[j] rows[j])∧
  (0<rows.length→∃b aA,A=some ⟨b,aA,none⟩∧b<w.heap.size∧∀j (h:j<hs.length),w.cell? ⟨b,aA+j,none⟩=some hs[j]):=by
 obtain⟨A,c,rfl,hc,hm,ha⟩:=h;refine⟨A,c,rfl,hc,hm,?_⟩;rcases Nat.eq_zero_or_pos rows.length with h0|h0
 ·exact⟨[],by simp[h0],fun j h=>by simp at h,fun h=>by omega⟩
 ·obtain⟨b,aA,rfl,hb,aB⟩:=ha h0;have aC:∀j (h1:j<((List.range rows.length).map fun j=>(w.cell? ⟨b,aA+j,none⟩).getD undef).length) (h2:j<rows.length),∃B d,((List.range rows.length).map fun j=>(w.cell? ⟨b,aA+j,none⟩).getD undef)[j]= .slice B rows[j].length d∧SI w (.slice B rows[j].length d) rows[j]∧w.cell? ⟨b,aA+j,none⟩=some (.slice B rows[j].length d):=by
   intro j h1 h2;obtain⟨B,d,h3,h4⟩:=aB j h2;exact⟨B,d,by simp[h3],h4,h3⟩
  refine⟨(List.range rows.length).map fun j=>(w.cell? ⟨b,aA+j,none⟩).getD undef,by simp,fun j h1 h2=> ?_,fun _=>⟨b,aA,rfl,hb,fun j h1=> ?_⟩⟩
  ·obtain⟨B,d,h3,h4,_⟩:=aC j h1 h2;exact⟨B,d,h3,by rw[h3];exact h4⟩
  ·obtain⟨B,d,h3,_,h5⟩:=aC j h1 (by simpa using h1);rw[h3,h5]
def apc(v:Value):List Value:=[.bool true,v]
def ans(rows:List (List Int)):List (Bool×List Int):=rows.map fun r=>(true,r)
open Go.RowKit
theorem Xj:(Tryz.prog.info? 61).map (fun i=>(i.zero,i.size,i.bytes))=some (some (.agg #[.bool false,.slice none 0 0]),2,32):=by kernel_rfl
open Go.RowKit
theorem Sa{P width servers need:Int}{l:List (Bool×List Int)}(h:ckE P width servers need l=0):0≤width∧width≤64∧(l.length:Int)=servers∧wdB width l=true∧elB P l=true∧need≤(knL l:Int):=by
 unfold ckE at h;by_cases h1:width<0∨64<width
 ·rw[if_pos h1] at h;omega
 ·rw[if_neg h1] at h;by_cases h2:(l.length:Int)≠servers
  ·rw[if_pos h2] at h;omega
  ·rw[if_neg h2] at h
   cases h3:wdB width l with
   |false=>rw[h3] at h;simp at h
   |true=>
    rw[h3,if_neg (by simp)] at h
    cases h4:elB P l with
    |false=>rw[h4] at h;simp at h
    |true=>
     rw[h4,if_neg (by simp)] at h;by_cases h5:(knL l:Int)<need
     ·rw[if_pos h5] at h;omega
     ·exact⟨by omega,by omega,by omega,rfl,rfl,by omega⟩
theorem zHz{width:Int}{l:List (Bool×List Int)}(h:wdB width l=true):∀a∈l,a.1=true→(a.2.length:Int)=width:=fun a ha h1=>by
 unfold wdB at h;rw[List.all_eq_true] at h;have:=h a ha;simpa [h1] using this
theorem Xf{P k:Int}{l:List (Bool×List Int)}{n:Nat}{ps:List (List Int)}{ws:List Int}(h:AlR P k l n ps ws):∀x∈ws,1≤x∧x≤(l.length:Int):=fun x hx=>by
 have h1:=h.2.2;rw[h1] at hx;exact Tt P l ps x (((Mx _).2 x).1 hx)
open Go.RowKit
def rcE(P:Int):Int:=if prB P=true then 0 else 9
theorem Oa{P:Int}(h:prB P=true):rcE P=0:=if_pos h
theorem Kw{P:Int}(h:prB P=false):rcE P=9:=by unfold rcE;rw[h];rfl
theorem Em(P:Int)(w:World)(hP:At P):
  Calls Tryz.prog 61 #[.agg #[.int .i64 P]] w fun e w'=>e= .returned (.int .i64 (rcE P))∧Below w.heap.size w w':=by
 obtain⟨hP1,hP2⟩:=hP;by_cases h1:P<2
 ·have HB:=Zk (Vf (.inl h1));have d1:decide (P<2)=true:=Ze h1;go_enter Tryz.func61,Tryz.ntmps61;go_wp2_with fail;go_ret;exact⟨by rw[Kw HB.out];first|rfl|simp,(Zb _ _).alloc (Zl _) _⟩
 by_cases h2:65521<P
 ·have HB:=Zk (Vf (.inr h2));have d1:decide (P<2)=false:=Zd h1;have d2:decide (65521<P)=true:=Ze h2;go_enter Tryz.func61,Tryz.ntmps61;go_wp2_with fail;go_ret;exact⟨by rw[Kw HB.out];first|rfl|simp,(Zb _ _).alloc (Zl _) _⟩
 have h3:2≤P:=by omega
 have h4:P≤65521:=by omega
 have d1:decide (P<2)=false:=Zd h1;have d2:decide (65521<P)=false:=Zd h2;clear h1 h2;go_enter Tryz.func61,Tryz.ntmps61;obtain⟨F,eF⟩:∃F,F=w.heap.size:=⟨_,rfl⟩;obtain⟨w1,ew⟩:∃w1:World,w1=w.alloc (.cells #[.int .i64 P] 31):=⟨_,rfl⟩;have aD:Hid (w.alloc (.cells #[.int .i64 P] 31)=w1):=ew.symm;have aA:Hid (Below w.heap.size w w1):=Zk (by rw[ew];exact (Zb _ w).alloc (Zl _) _);have aC:Hid (w1.heap[F]? =some (.cells #[.int .i64 P] 31 (0,0))):=Zk (by show _=_;rw[ew,eF];exact Zh w _);go_upto_region 1 with fail
 rw[aD.out,←eF];clear ew eF;have f0:w1.cell? ⟨F,0,none⟩=some (.int .i64 P):=Zc w1 F 0 _ _ _ aC.out;go_wp2_with fail;go_loopw [3] (fun i wr=>∃d:Nat,2≤d∧d≤256∧i= .int .i64 d∧(∀e:Nat,2≤e→e<d→P%e≠0)∧w1=wr) (fun i _=>300- (intOf i).toNat)
 case atStart=>exact⟨2,by omega,by omega,rfl,fun e h1 h2=>absurd h1 (by omega),rfl⟩
 case round=>
  obtain⟨d,aF,hd2,rfl,aB,rfl⟩:=hrel;have HN:=Zk aB;clear aB;have hdd:(d:Int)*d≤65536:=by
   have:(d:Int)*d≤256*256:=Int.mul_le_mul (by omega) (by omega) (by omega) (by omega);omega
  have hdn:0≤(d:Int)*d:=Int.mul_nonneg (by omega) (by omega);have wdd:IntKind.i64.wrap ((d:Int)*d)=(d:Int)*d:=by exact Zi _ (by omega)
  have wdp:IntKind.i64.wrap ((d:Int)+1)=(d:Int)+1:=by exact Zi _ (by omega)
  have wP:IntKind.i64.wrap (P%(d:Int))=P%(d:Int):=by
   have h1:=Int.emod_nonneg P (show (d:Int)≠0 by omega);have h2:=Int.emod_lt_of_pos P (show (0:Int)<d by omega);exact Zi _ (by omega)
  have wtm:P.tmod (d:Int)=P%(d:Int):=Int.tmod_eq_emod_of_nonneg (by omega);have hd0:¬d=0:=by omega
  have hd0':¬(d:Int)=0:=by omega
  by_cases hc:(d:Int)*d≤P
  ·have dc:decide ((d:Int)*d≤P)=true:=Ze hc;have hd3:d<256:=by
    rcases Nat.lt_or_ge d 256 with h|h
    ·exact h
    ·have h5:(256:Int)*256≤(d:Int)*d:=Int.mul_le_mul (by omega) (by omega) (by omega) (by omega);omega
   by_cases hm:P%d=0
   ·have HB:=Zk (Ve aF hc hm);have aE:(P%(d:Int)==0)=true:=by rw[beq_iff_eq];exact hm
    clear hm;go_wp2_with fail;go_ret;exact⟨by rw[Kw HB.out];first|rfl|simp,aA.out⟩
   ·have aE:(P%(d:Int)==0)=false:=by rw[beq_eq_false_iff_ne];exact hm
    have HM:=Zk hm;clear hm;go_wp2_with fail;go_roundw
    case rel=>exact⟨d+1,by omega,by omega,by go_num,fun e h1 h2=>by
     by_cases h:e=d
     ·subst h;exact HM.out
     ·exact HN.out e h1 (by omega),by first|trivial|rfl⟩
    case measure=>simp[intOf];omega
  ·have dc:decide ((d:Int)*d≤P)=false:=Zd hc;have HB:Hid (prB P=true):=zAz h3 h4 (fun e h1 h2=>by
    refine HN.out e h1 ?_;rcases Nat.lt_or_ge e d with h|h
    ·exact h
    ·have h5:(d:Int)*d≤(e:Int)*e:=Int.mul_le_mul (by omega) (by omega) (by omega) (by omega);omega)
   clear hc;go_wp2_with fail;go_ret;exact⟨by rw[Oa HB.out];first|rfl|simp,aA.out⟩
def inB(P:Int)(l:List Int):Bool:=prB P&&els P l
theorem Ni{P:Int}{l:List Int}{j:Nat}(h:j<l.length):els P (l.take (j+1))=(els P (l.take j)&&el P l[j]):=by
 rw[←List.take_append_getElem h];unfold els;rw[List.all_append];simp
theorem Ei(P:Int)(l:List Int)(v:Value)(w:World)(hP:At P)(h:SI w v l):
  Calls Tryz.prog 62 #[.agg #[.int .i64 P],v] w fun e w'=>e= .returned (.bool (inB P l))∧Below w.heap.size w w':=by
 obtain⟨A,c,rfl,hcl,hcm,hr,ha⟩:=h;have HA:=Zk ha;clear ha hr;go_enter Tryz.func62,Tryz.ntmps62;obtain⟨F,eF⟩:∃F,F=w.heap.size:=⟨_,rfl⟩;obtain⟨w1,ew⟩:∃w1:World,w1=w.alloc (.cells #[.int .i64 P] 31):=⟨_,rfl⟩;have aJ:Hid (w.alloc (.cells #[.int .i64 P] 31)=w1):=ew.symm;have aD:Hid (Below w.heap.size w w1):=Zk (by rw[ew];exact (Zb _ w).alloc (Zl _) _);have aB:Hid (w1.heap[F]? =some (.cells #[.int .i64 P] 31 (0,0))):=Zk (by show _=_;rw[ew,eF];exact Zh w _);go_upto_region 1 with fail
 rw[aJ.out,←eF];clear ew eF;have f0:w1.cell? ⟨F,0,none⟩=some (.int .i64 P):=Zc w1 F 0 _ _ _ aB.out;go_wp2_with fail;(with_reducible refine (Em P _ hP).mono ?_)
 rintro e w2 ⟨rfl,aC⟩;have aA:Hid (Below w.heap.size w w2):=aD.out.trans (aC.mono aD.out.size);have aH:Hid (w2.heap[F]? =some (.cells #[.int .i64 P] 31 (0,0))):=(aC.block F (Ae aB.out)).trans aB.out;clear aC f0
 cases hp:prB P with
 |false=>
  have aI:Hid (inB P l=false):=Zk (by show _=_;unfold inB;rw[hp];rfl);rw[Kw hp];have d0:((9:Int) !=0)=true:=rfl;clear hp;go_wp2_with fail;go_ret;exact⟨by rw[aI.out];first|rfl|simp,aA.out⟩
 |true=>
  have HP:=Zk hp;rw[Oa hp];have d0:((0:Int) !=0)=false:=rfl;clear hp;have f0:w2.cell? ⟨F,0,none⟩=some (.int .i64 P):=Zc w2 F 0 _ _ _ aH.out;go_wp2_with fail;go_loopw [12] (fun iv wr=>∃j:Nat,j≤l.length∧iv= .int .i64 j∧els P (l.take j)=true∧w2=wr) (fun iv _=>l.length- (intOf iv).toNat)
  case atStart=>exact⟨0,Nat.zero_le _,rfl,by simp[els],rfl⟩
  case round=>
   obtain⟨j,hj,rfl,aF,rfl⟩:=hrel;have aE:=Zk aF;clear aF;by_cases hlj:j<l.length
   ·have dj:decide (j<l.length)=true:=Ze hlj;obtain⟨b,aL,rfl,aK,hc⟩:=HA.out (by omega);have cj:=(aA.out.cell (p:=⟨b,aL+j,none⟩) aK).trans (hc j hlj);obtain⟨x,ex⟩:∃x,x=l[j]:=⟨_,rfl⟩;rw[←ex] at cj;have HX:=Zk ex;clear hc ex;by_cases hx0:x<0
    ·have HN:Hid (inB P l=false):=Zk (by
      show _=_;unfold inB;rw[Sf hlj (by rw[←HX.out];unfold el;simp;omega),Bool.and_false])
     have d1:decide (x<0)=true:=Ze hx0;go_wp2_with fail;go_ret;exact⟨by rw[HN.out];first|rfl|simp,aA.out⟩
    ·have d1:decide (x<0)=false:=Zd hx0;by_cases hxP:P≤x
     ·have HN:Hid (inB P l=false):=Zk (by
       show _=_;unfold inB;rw[Sf hlj (by rw[←HX.out];unfold el;simp;omega),Bool.and_false])
      have d2:decide (P≤x)=true:=Ze hxP;go_wp2_with fail;go_ret;exact⟨by rw[HN.out];first|rfl|simp,aA.out⟩
     ·have d2:decide (P≤x)=false:=Zd hxP;go_wp2_with fail;go_roundw
      case rel=>exact⟨j+1,by omega,by go_num,by rw[Ni hlj,aE.out,←HX.out];unfold el;simp;omega,by first|trivial|rfl⟩
      case measure=>simp[intOf];omega
   ·have dj:decide (j<l.length)=false:=Zd hlj;have aG:j=l.length:=by omega
    have HY:Hid (inB P l=true):=Zk (by
     have h:=aE.out;rw[aG,List.take_length] at h;show _=_;unfold inB;rw[HP.out,h];rfl)
    clear aG;go_wp2_with fail;go_ret;exact⟨by rw[HY.out];first|rfl|simp,aA.out⟩
open Go.RowKit
set_option linter.unusedVariables false
theorem Et(P n t G:Int)(w:World)(hP:At P):
  Calls Tryz.prog 38 #[.agg #[.int .i64 P],.agg #[.int .i64 n,.int .i64 t,.int .i64 G]] w fun e w'=>e= .returned (.int .i64 (gcE P n t G))∧Below w.heap.size w w':=by
 go_enter Tryz.func38,Tryz.ntmps38;obtain⟨F,eF⟩:∃F,F=w.heap.size:=⟨_,rfl⟩;obtain⟨w1,aE⟩:∃w1:World,w1=(w.alloc (.cells #[.int .i64 P] 31)).alloc (.cells #[.int .i64 n,.int .i64 t,.int .i64 G] 29):=⟨_,rfl⟩;have aF:Hid ((w.alloc (.cells #[.int .i64 P] 31)).alloc (.cells #[.int .i64 n,.int .i64 t,.int .i64 G] 29)=w1):=aE.symm;have aD:Hid (Below w.heap.size w w1):=Zk (by rw[aE];exact ((Zb _ w).alloc (Zl _) _).alloc (by simp) _);have aB:Hid (w1.heap[F]? =some (.cells #[.int .i64 P] 31 (0,0))):=Zk (by show _=_;rw[aE,eF,Below.heap_alloc _ _ _ (by simp)];exact Zh w _);have aC:Hid (w1.heap[F+1]? =some (.cells #[.int .i64 n,.int .i64 t,.int .i64 G] 29 (0,0))):=Zk (by show _=_;rw[aE,eF];have:=Zh (w.alloc (.cells #[.int .i64 P] 31)) (.cells #[.int .i64 n,.int .i64 t,.int .i64 G] 29);simpa using this);have aI:Hid (∀W,Below w1.heap.size w1 W→W.cell? ⟨F,0,none⟩=some (.int .i64 P)∧W.cell? ⟨F+1,0,none⟩=some (.int .i64 n)∧W.cell? ⟨F+1,1,none⟩=some (.int .i64 t)∧W.cell? ⟨F+1,2,none⟩=some (.int .i64 G)):=Zk (fun W hg=>by
  have aJ:=(hg.block F (Ae aB.out)).trans aB.out;have aG:=(hg.block (F+1) (Ae aC.out)).trans aC.out;exact⟨Zc W F 0 _ _ _ aJ,Zc W (F+1) 0 _ _ _ aG,Zc W (F+1) 1 _ _ _ aG,Zc W (F+1) 2 _ _ _ aG⟩)
 go_upto_region 1 with fail
 rw[aF.out,←eF];clear aE eF;obtain⟨x0,x1,x2,x3⟩:=aI.out w1 (Zb _ _);go_wp2_with fail;(with_reducible refine (Em P _ hP).mono ?_)
 rintro e w2 ⟨rfl,aH⟩;have aA:Hid (Below w.heap.size w w2):=Zk (aD.out.trans (aH.mono aD.out.size));have HX:=aI.out w2 aH;clear x0 x1 x2 x3 aH;obtain⟨x0,x1,x2,x3⟩:=HX
 cases hp:prB P with
 |false=>
  have HE:Hid (gcE P n t G=9):=Zk (Ys hp);rw[Kw hp];clear hp;go_wp2_with fail;go_ret;exact⟨by rw[HE.out]<;>rfl,aA.out⟩
 |true=>
  have HP:=Zk hp;rw[Oa hp];clear hp;by_cases h0:n<2
  ·have d0:decide (n<2)=true:=Ze h0;have HE:Hid (gcE P n t G=1):=Zk (Es HP.out (by omega));go_wp2_with fail;go_ret;exact⟨by rw[HE.out]<;>rfl,aA.out⟩
  have d0:decide (n<2)=false:=Zd h0;by_cases h1:10<n
  ·have d1:decide (10<n)=true:=Ze h1;have HE:Hid (gcE P n t G=1):=Zk (Es HP.out (by omega));go_wp2_with fail;go_ret;exact⟨by rw[HE.out]<;>rfl,aA.out⟩
  have d1:decide (10<n)=false:=Zd h1;by_cases h2:P≤n
  ·have d2:decide (P≤n)=true:=Ze h2;have HE:Hid (gcE P n t G=1):=Zk (Es HP.out (by omega));go_wp2_with fail;go_ret;exact⟨by rw[HE.out]<;>rfl,aA.out⟩
  have d2:decide (P≤n)=false:=Zd h2;by_cases h3:t<1
  ·have d3:decide (t<1)=true:=Ze h3;have HE:Hid (gcE P n t G=1):=Zk (Es HP.out (by omega));go_wp2_with fail;go_ret;exact⟨by rw[HE.out]<;>rfl,aA.out⟩
  have d3:decide (t<1)=false:=Zd h3;by_cases h4:n<t
  ·have d4:decide (n<t)=true:=Ze h4;have HE:Hid (gcE P n t G=1):=Zk (Es HP.out (by omega));go_wp2_with fail;go_ret;exact⟨by rw[HE.out]<;>rfl,aA.out⟩
  have d4:decide (n<t)=false:=Zd h4;by_cases h5:G<1
  ·have d5:decide (G<1)=true:=Ze h5;have HE:Hid (gcE P n t G=1):=Zk (Es HP.out (by omega));go_wp2_with fail;go_ret;exact⟨by rw[HE.out]<;>rfl,aA.out⟩
  have d5:decide (G<1)=false:=Zd h5;by_cases h6:n<G
  ·have d6:decide (n<G)=true:=Ze h6;have HE:Hid (gcE P n t G=1):=Zk (Es HP.out (by omega));go_wp2_with fail;go_ret;exact⟨by rw[HE.out]<;>rfl,aA.out⟩
  have d6:decide (n<G)=false:=Zd h6;have m1:IntKind.i64.wrap (2*G)=2*G:=by exact Zi _ (by omega)
  have m2:IntKind.i64.wrap (2*G+t)=2*G+t:=by exact Zi _ (by omega)
  have m3:IntKind.i64.wrap (2*G+t-1)=2*G+t-1:=by exact Zi _ (by omega)
  by_cases h9:n<2*G+t-1
  ·have d9:decide (n<2*G+t-1)=true:=Ze h9;have HE:Hid (gcE P n t G=1):=Zk (Es HP.out (by omega));go_wp2_with fail;go_ret;exact⟨by rw[HE.out]<;>rfl,aA.out⟩
  have d9:decide (n<2*G+t-1)=false:=Zd h9;have HE:Hid (gcE P n t G=0):=Zk (Yr HP.out (by omega));go_wp2_with fail;go_ret;exact⟨by rw[HE.out]<;>rfl,aA.out⟩
theorem Gm(n t G m:Int)(w:World):
  Calls Tryz.prog 30 #[.agg #[.int .i64 n,.int .i64 t,.int .i64 G],.int .i64 m] w fun e w'=>e= .returned (.tuple #[.int .i64 (gnV G m),.int .i64 (gnE G m)])∧Below w.heap.size w w':=by
 go_enter Tryz.func30,Tryz.ntmps30;obtain⟨F,eF⟩:∃F,F=w.heap.size:=⟨_,rfl⟩;obtain⟨w1,aD⟩:∃w1:World,w1=w.alloc (.cells #[.int .i64 n,.int .i64 t,.int .i64 G] 29):=⟨_,rfl⟩;have aE:Hid (w.alloc (.cells #[.int .i64 n,.int .i64 t,.int .i64 G] 29)=w1):=aD.symm;have aA:Hid (Below w.heap.size w w1):=Zk (by rw[aD];exact (Zb _ w).alloc (Zl _) _);have aB:Hid (w1.heap[F]? =some (.cells #[.int .i64 n,.int .i64 t,.int .i64 G] 29 (0,0))):=Zk (by show _=_;rw[aD,eF];exact Zh w _);have aG:Hid (∀W,Below w1.heap.size w1 W→W.cell? ⟨F,0,none⟩=some (.int .i64 n)∧W.cell? ⟨F,1,none⟩=some (.int .i64 t)∧W.cell? ⟨F,2,none⟩=some (.int .i64 G)):=Zk (fun W hg=>by
  have aF:=(hg.block F (Ae aB.out)).trans aB.out;exact⟨Zc W F 0 _ _ _ aF,Zc W F 1 _ _ _ aF,Zc W F 2 _ _ _ aF⟩)
 go_upto_region 1 with fail
 rw[aE.out,←eF];clear aD eF;obtain⟨x1,x2,x3⟩:=aG.out w1 (Zb _ _);clear x1 x2;by_cases h0:G<1
 ·have d0:decide (G<1)=true:=Ze h0;have HE:Hid (gnE G m=1∧gnV G m=0):=Zk (⟨if_pos (by omega),if_pos (by omega)⟩);go_wp2_with fail;refine bodyPost_ret (results_tmp2 rfl _ _ _) rfl ?_;exact⟨by rw[HE.out.1,HE.out.2];rfl,aA.out⟩
 have d0:decide (G<1)=false:=Zd h0;by_cases h1:m<0
 ·have d1:decide (m<0)=true:=Ze h1;have HE:Hid (gnE G m=1∧gnV G m=0):=Zk (⟨if_pos (by omega),if_pos (by omega)⟩);go_wp2_with fail;refine bodyPost_ret (results_tmp2 rfl _ _ _) rfl ?_;exact⟨by rw[HE.out.1,HE.out.2];rfl,aA.out⟩
 have d1:decide (m<0)=false:=Zd h1;by_cases h2:1024<m
 ·have d2:decide (1024<m)=true:=Ze h2;have HE:Hid (gnE G m=1∧gnV G m=0):=Zk (⟨if_pos (by omega),if_pos (by omega)⟩);go_wp2_with fail;refine bodyPost_ret (results_tmp2 rfl _ _ _) rfl ?_;exact⟨by rw[HE.out.1,HE.out.2];rfl,aA.out⟩
 have d2:decide (1024<m)=false:=Zd h2;obtain⟨mn,rfl⟩:∃mn:Nat,m=mn:=⟨m.toNat,by omega⟩;obtain⟨Gn,rfl⟩:∃Gn:Nat,G=Gn:=⟨G.toNat,by omega⟩;have HN:=Zk (Nx (len:=mn) (G:=Gn) (by omega));have aC:Hid (gnE (Gn:Int) mn=0∧gnV (Gn:Int) mn=(ngr mn Gn:Nat)):=Zk (⟨if_neg (by omega),if_neg (by omega)⟩);have e0:decide (Gn<1)=false:=Zd (by omega);have e2:decide (1024<mn)=false:=Zd (by omega);have hG0:¬Gn=0:=by omega
 have hG0':¬(Gn:Int)=0:=by omega
 obtain⟨q,eq⟩:∃q,q=mn/Gn:=⟨_,rfl⟩;obtain⟨r,er⟩:∃r,r=mn%Gn:=⟨_,rfl⟩;have hq:q≤1024:=by rw[eq];exact Nat.le_trans (Nat.div_le_self _ _) (by omega)
 have m1:(mn:Int).tdiv (Gn:Int)=(q:Int):=by rw[eq];exact (Int.ofNat_tdiv mn Gn).symm
 have m2:(mn:Int).tmod (Gn:Int)=(r:Int):=by rw[er];exact (Int.ofNat_tmod mn Gn).symm
 have m3:IntKind.i64.wrap (q:Int)=(q:Int):=by exact Zi _ (by omega)
 have m4:IntKind.i64.wrap ((q:Int)+1)=(q:Int)+1:=by exact Zi _ (by omega)
 have HQ:=Zk eq;have HR:=Zk er;clear eq er h0 h1 h2;by_cases hr:r=0
 ·have d6:decide ((0:Int)<(r:Int))=false:=Zd (by omega);have d7:decide (0<r)=false:=Zd (by omega);have HE:Hid (ngr mn Gn=q):=Zk (by show _=_;rw[HN.out,←HR.out,←HQ.out,if_pos hr];rfl);clear hr;go_wp2_with fail;refine bodyPost_ret (results_tmp2 rfl _ _ _) rfl ?_;exact⟨by rw[aC.out.1,aC.out.2,HE.out];rfl,aA.out⟩
 ·have d6:decide ((0:Int)<(r:Int))=true:=Ze (by omega);have d7:decide (0<r)=true:=Ze (by omega);have HE:Hid (ngr mn Gn=q+1):=Zk (by show _=_;rw[HN.out,←HR.out,←HQ.out,if_neg hr]);clear hr;go_wp2_with fail;refine bodyPost_ret (results_tmp2 rfl _ _ _) rfl ?_;exact⟨by rw[aC.out.1,aC.out.2,HE.out];rfl,aA.out⟩
open Go.RowKit
theorem Kv(P n t G:Int)(w:World)(h:SV P n t G):
  Calls Tryz.prog 38 #[.agg #[.int .i64 P],.agg #[.int .i64 n,.int .i64 t,.int .i64 G]] w fun e w'=>e= .returned (.int .i64 0)∧Below w.heap.size w w':=
 (Et P n t G w h.pi).mono fun e w' ⟨h1,h2⟩=>⟨by rw[h1,h.gcE],h2⟩
theorem Jq(n t:Int)(G m:Nat)(w:World)(hG:1≤G∧G≤10)(hm:m≤1024):
  Calls Tryz.prog 30 #[.agg #[.int .i64 n,.int .i64 t,.int .i64 G],.int .i64 m] w fun e w'=>e= .returned (.tuple #[.int .i64 (ngr m G:Nat),.int .i64 0])∧Below w.heap.size w w':=
 (Gm n t G m w).mono fun e w' ⟨h1,h2⟩=>⟨by rw[h1,(Uo hG.1 hm).1,(Uo hG.1 hm).2],h2⟩
def Pw3(P a:Int)(n:Nat)(w1:World)(xv av nv:Value)(wr:World):Prop:=
 ∃(x b:Int) (k:Nat),xv= .int .i64 x∧av= .int .i64 b∧nv= .int .i64 k∧k≤10∧0≤x∧x<P∧0≤b∧b<P∧P∣x*b^k-a^n∧w1=wr
theorem Ri(P a:Int)(n:Nat)(w:World)(hP:2≤P∧P≤65521)(ha:0≤a∧a<P)(hn:n≤10):
  Calls Tryz.prog 63 #[.agg #[.int .i64 P],.int .i64 a,.int .i64 n] w fun e w'=>e= .returned (.int .i64 (a^n%P))∧Below w.heap.size w w':=by
 go_enter Tryz.func63,Tryz.ntmps63;obtain⟨F,eF⟩:∃F,F=w.heap.size:=⟨_,rfl⟩;obtain⟨w1,ew⟩:∃w1:World,w1=w.alloc (.cells #[.int .i64 P] 31):=⟨_,rfl⟩;have aK:Hid (w.alloc (.cells #[.int .i64 P] 31)=w1):=ew.symm;have aI:Hid (Below w.heap.size w w1):=Zk (by rw[ew];exact (Zb _ w).alloc (Zl _) _);have aJ:Hid (w1.heap[F]? =some (.cells #[.int .i64 P] 31 (0,0))):=Zk (by show _=_;rw[ew,eF];exact Zh w _);go_upto_region 1 with fail
 rw[aK.out,←eF];clear ew eF;have f0:w1.cell? ⟨F,0,none⟩=some (.int .i64 P):=Zc w1 F 0 _ _ _ aJ.out;have hP0:¬P=0:=by omega
 have h1:(1:Int).tmod P=1:=by rw[Int.tmod_eq_emod_of_nonneg (by omega)];exact Int.emod_eq_of_lt (by omega) (by omega)
 go_wp2_with fail;go_loopw [7,1,2] (fun xv av nv wr=>Pw3 P a n w1 xv av nv wr) (fun _ _ nv _=>(intOf nv).toNat)
 case atStart=>exact⟨1,a,n,by first|rfl|simp[h1],rfl,rfl,hn,by omega,by omega,ha.1,ha.2,⟨0,by simp⟩,rfl⟩
 case round=>
  obtain⟨x,b,k,rfl,rfl,rfl,hk,aC,aD,aG,aH,hd,rfl⟩:=hrel;have HD:=Zk hd;clear hd h1;by_cases hk0:k=0
  ·subst hk0;have HX:Hid (x=a^n%P):=Zk (by
    have h:=HD.out;rw[Int.pow_zero,Int.mul_one] at h;have h1:=Int.emod_eq_emod_iff_emod_sub_eq_zero.2 (Int.emod_eq_zero_of_dvd h);rw[Int.emod_eq_of_lt aC aD] at h1;exact h1)
   go_wp2_with fail;go_ret;exact⟨by rw[HX.out];rfl,aI.out⟩
  ·have aB:0≤x*b%P∧x*b%P<P:=⟨Int.emod_nonneg _ (by omega),Int.emod_lt_of_pos _ (by omega)⟩;have aA:0≤b*b%P∧b*b%P<P:=⟨Int.emod_nonneg _ (by omega),Int.emod_lt_of_pos _ (by omega)⟩;have m1:=Eg ⟨aC,aD⟩ ⟨aG,aH⟩ hP.2;have m2:=Eg ⟨aG,aH⟩ ⟨aG,aH⟩ hP.2;have w1_:IntKind.i64.wrap (x*b)=x*b:=by exact Zi _ (by omega)
   have w2_:IntKind.i64.wrap (b*b)=b*b:=by exact Zi _ (by omega)
   have t1_:(x*b).tmod P=x*b%P:=Int.tmod_eq_emod_of_nonneg (by omega);have t2_:(b*b).tmod P=b*b%P:=Int.tmod_eq_emod_of_nonneg (by omega);have w3_:IntKind.i64.wrap (x*b%P)=x*b%P:=by exact Zi _ (by omega)
   have w4_:IntKind.i64.wrap (b*b%P)=b*b%P:=by exact Zi _ (by omega)
   have aE:Hid (∀m:Nat,k=2*m→P∣x*(b*b%P)^m-a^n):=Zk (fun m hm=>by
    have h1:=Lo P x b m;rw[←hm] at h1;exact Bd (Int.dvd_add h1 HD.out) (by omega))
   have aF:Hid (∀m:Nat,k=2*m+1→P∣(x*b%P)*(b*b%P)^m-a^n):=Zk (fun m hm=>by
    have h1:=Te P x b m;rw[←hm] at h1;exact Bd (Int.dvd_add h1 HD.out) (by omega))
   have hc:k=1∨k=2∨k=3∨k=4∨k=5∨k=6∨k=7∨k=8∨k=9∨k=10:=by omega
   clear HD hk0 hk m1 m2;rcases hc with rfl|rfl|rfl|rfl|rfl|rfl|rfl|rfl|rfl|rfl;all_goals
    go_wp2_with fail;first
     |exact⟨⟨_,_,0,rfl,rfl,rfl,by omega,aB.1,aB.2,aA.1,aA.2,aF.out 0 rfl,rfl⟩,by simp[intOf]⟩
     |exact⟨⟨_,_,1,rfl,rfl,rfl,by omega,aB.1,aB.2,aA.1,aA.2,aF.out 1 rfl,rfl⟩,by simp[intOf]⟩
     |exact⟨⟨_,_,2,rfl,rfl,rfl,by omega,aB.1,aB.2,aA.1,aA.2,aF.out 2 rfl,rfl⟩,by simp[intOf]⟩
     |exact⟨⟨_,_,3,rfl,rfl,rfl,by omega,aB.1,aB.2,aA.1,aA.2,aF.out 3 rfl,rfl⟩,by simp[intOf]⟩
     |exact⟨⟨_,_,4,rfl,rfl,rfl,by omega,aB.1,aB.2,aA.1,aA.2,aF.out 4 rfl,rfl⟩,by simp[intOf]⟩
     |exact⟨⟨_,_,1,rfl,rfl,rfl,by omega,aC,aD,aA.1,aA.2,aE.out 1 rfl,rfl⟩,by simp[intOf]⟩
     |exact⟨⟨_,_,2,rfl,rfl,rfl,by omega,aC,aD,aA.1,aA.2,aE.out 2 rfl,rfl⟩,by simp[intOf]⟩
     |exact⟨⟨_,_,3,rfl,rfl,rfl,by omega,aC,aD,aA.1,aA.2,aE.out 3 rfl,rfl⟩,by simp[intOf]⟩
     |exact⟨⟨_,_,4,rfl,rfl,rfl,by omega,aC,aD,aA.1,aA.2,aE.out 4 rfl,rfl⟩,by simp[intOf]⟩
     |exact⟨⟨_,_,5,rfl,rfl,rfl,by omega,aC,aD,aA.1,aA.2,aE.out 5 rfl,rfl⟩,by simp[intOf]⟩
open Go.RowKit
set_option linter.unusedVariables false
def Vp(P n t G m:Int)(w:World)(e:Ending)(w':World):Prop:=
 ∃v,e= .returned (.tuple #[v,.int .i64 (g2E P n t G m)])∧Below w.heap.size w w'∧(g2E P n t G m=0→w'.ownsRow w.heap.size 3 1 v (List.replicate (m*t).toNat P).length ((List.replicate (m*t).toNat P).map (Value.int .i64)))∧(g2E P n t G m≠0→v= .slice none 0 0)
theorem Ql(P n t G m:Int)(w:World)(hP:At P):
  Calls Tryz.prog 19 #[.agg #[.int .i64 P],.agg #[.int .i64 n,.int .i64 t,.int .i64 G],.int .i64 m] w (Vp P n t G m w):=by
 by_cases h0:g2E P n t G m=0
 ·obtain⟨hV,hm1,hm2⟩:=Om h0;have hV2:=hV.t1;obtain⟨mn,rfl⟩:∃mn:Nat,m=mn:=⟨m.toNat,by omega⟩;obtain⟨tn,rfl⟩:∃tn:Nat,t=tn:=⟨t.toNat,by omega⟩;have hk:((mn:Int)*(tn:Int)).toNat=mn*tn:=by rw[←Int.natCast_mul];rfl
  refine (Sm P n tn G mn _ tn w hV (by omega) rfl rfl).mono fun e w' ⟨A,c,h1,h2,h3⟩=>⟨_,by rw[h0];exact h1,h2,fun _=> ?_,fun h=>absurd h0 h⟩
  rw[hk];exact h3
 have H0:=Zk h0;have d0:(g2E P n t G m !=0)=true:=by rw[bne_iff_ne];exact h0
 clear h0;go_enter Tryz.func19,Tryz.ntmps19;obtain⟨F,eF⟩:∃F,F=w.heap.size:=⟨_,rfl⟩;obtain⟨w1,aD⟩:∃w1:World,w1=(w.alloc (.cells #[.int .i64 P] 31)).alloc (.cells #[.int .i64 n,.int .i64 t,.int .i64 G] 29):=⟨_,rfl⟩;have aE:Hid ((w.alloc (.cells #[.int .i64 P] 31)).alloc (.cells #[.int .i64 n,.int .i64 t,.int .i64 G] 29)=w1):=aD.symm;have aC:Hid (Below w.heap.size w w1):=Zk (by rw[aD];exact ((Zb _ w).alloc (Zl _) _).alloc (by simp) _);have aA:Hid (w1.heap[F]? =some (.cells #[.int .i64 P] 31 (0,0))):=Zk (by show _=_;rw[aD,eF,Below.heap_alloc _ _ _ (by simp)];exact Zh w _);have aB:Hid (w1.heap[F+1]? =some (.cells #[.int .i64 n,.int .i64 t,.int .i64 G] 29 (0,0))):=Zk (by show _=_;rw[aD,eF];have:=Zh (w.alloc (.cells #[.int .i64 P] 31)) (.cells #[.int .i64 n,.int .i64 t,.int .i64 G] 29);simpa using this);have aI:Hid (∀W,Below w1.heap.size w1 W→W.cell? ⟨F,0,none⟩=some (.int .i64 P)∧W.cell? ⟨F+1,0,none⟩=some (.int .i64 n)∧W.cell? ⟨F+1,1,none⟩=some (.int .i64 t)∧W.cell? ⟨F+1,2,none⟩=some (.int .i64 G)):=Zk (fun W hg=>by
  have aJ:=(hg.block F (Ae aA.out)).trans aA.out;have aF:=(hg.block (F+1) (Ae aB.out)).trans aB.out;exact⟨Zc W F 0 _ _ _ aJ,Zc W (F+1) 0 _ _ _ aF,Zc W (F+1) 1 _ _ _ aF,Zc W (F+1) 2 _ _ _ aF⟩)
 go_upto_region 1 with fail
 rw[aE.out,←eF];clear aD eF;obtain⟨x0,x1,x2,x3⟩:=aI.out w1 (Zb _ _);go_wp2_with fail;(with_reducible refine (Iw P n t G m _ hP).mono ?_)
 rintro e w2 ⟨rfl,aG⟩;have aH:Hid (Below w.heap.size w w2):=Zk (aC.out.trans (aG.mono aC.out.size));clear x0 x1 x2 x3 aG;obtain⟨z,ez⟩:∃z,z=g2E P n t G m:=⟨_,rfl⟩;rw[←ez] at d0⊢;have HZ:=Zk ez;clear ez;go_wp2_with fail;refine bodyPost_ret (v:= .tuple #[.slice none 0 0,.int .i64 z]) (by simp[results,Tryz.results19,go_sem]) rfl ?_;exact⟨_,by rw[HZ.out],aH.out,fun h=>absurd h H0.out,fun _=>rfl⟩
theorem Gq(P n t G m:Int)(w:World)(hP:At P):
  Calls Tryz.prog 31 #[.agg #[.int .i64 P],.agg #[.int .i64 n,.int .i64 t,.int .i64 G],.int .i64 m] w (Vp P n t G m w):=by
 go_enter Tryz.func31,Tryz.ntmps31;obtain⟨F,eF⟩:∃F,F=w.heap.size:=⟨_,rfl⟩;obtain⟨w1,aI⟩:∃w1:World,w1=(w.alloc (.cells #[.int .i64 P] 31)).alloc (.cells #[.int .i64 n,.int .i64 t,.int .i64 G] 29):=⟨_,rfl⟩;have aL:Hid ((w.alloc (.cells #[.int .i64 P] 31)).alloc (.cells #[.int .i64 n,.int .i64 t,.int .i64 G] 29)=w1):=aI.symm;have aG:Hid (Below w.heap.size w w1):=Zk (by rw[aI];exact ((Zb _ w).alloc (Zl _) _).alloc (by simp) _);have aC:Hid (w1.heap[F]? =some (.cells #[.int .i64 P] 31 (0,0))):=Zk (by show _=_;rw[aI,eF,Below.heap_alloc _ _ _ (by simp)];exact Zh w _);have aD:Hid (w1.heap[F+1]? =some (.cells #[.int .i64 n,.int .i64 t,.int .i64 G] 29 (0,0))):=Zk (by show _=_;rw[aI,eF];have:=Zh (w.alloc (.cells #[.int .i64 P] 31)) (.cells #[.int .i64 n,.int .i64 t,.int .i64 G] 29);simpa using this);have aM:Hid (∀W,Below w1.heap.size w1 W→W.cell? ⟨F,0,none⟩=some (.int .i64 P)∧W.cell? ⟨F+1,0,none⟩=some (.int .i64 n)∧W.cell? ⟨F+1,1,none⟩=some (.int .i64 t)∧W.cell? ⟨F+1,2,none⟩=some (.int .i64 G)):=Zk (fun W hg=>by
  have aU:=(hg.block F (Ae aC.out)).trans aC.out;have aN:=(hg.block (F+1) (Ae aD.out)).trans aD.out;exact⟨Zc W F 0 _ _ _ aU,Zc W (F+1) 0 _ _ _ aN,Zc W (F+1) 1 _ _ _ aN,Zc W (F+1) 2 _ _ _ aN⟩)
 go_upto_region 1 with fail
 rw[aL.out,←eF];clear aI eF;obtain⟨x0,x1,x2,x3⟩:=aM.out w1 (Zb _ _);go_wp2_with fail;(with_reducible refine (Et P n t G _ hP).mono ?_)
 rintro e w2 ⟨rfl,aK⟩;have aF:Hid (Below w.heap.size w w2):=Zk (aG.out.trans (aK.mono aG.out.size));have HX:=aM.out w2 aK;have aH:=Zk aK;clear x0 x1 x2 x3 aK;obtain⟨x0,x1,x2,x3⟩:=HX;obtain⟨z,ez⟩:∃z,z=gcE P n t G:=⟨_,rfl⟩;rw[←ez];have HZ:=Zk ez;clear ez;by_cases hc:z=0
 case' neg=>
  have HC:Hid (z≠0):=hc;have HE:Hid (g2E P n t G m=z):=Zk (by show _=_;rw[HZ.out];exact zFo (by rw[←HZ.out];exact hc));have dz:(z !=0)=true:=by rw[bne_iff_ne];exact hc
  clear hc;go_wp2_with fail;refine bodyPost_ret (v:= .tuple #[.slice none 0 0,.int .i64 z]) (by simp[results,Tryz.results31,go_sem]) rfl ?_;exact⟨_,by rw[HE.out],aF.out,fun h=>absurd (HE.out.symm.trans h) HC.out,fun _=>rfl⟩
 subst hc;by_cases h1:m<1
 ·have d1:decide (m<1)=true:=Ze h1;have HE:Hid (g2E P n t G m=1):=Zk (Um HZ.out.symm (.inl h1));go_wp2_with fail;refine bodyPost_ret (v:= .tuple #[.slice none 0 0,.int .i64 1]) (by simp[results,Tryz.results31,go_sem]) rfl ?_;exact⟨_,by rw[HE.out],aF.out,fun h=>by rw[HE.out] at h;omega,fun _=>rfl⟩
 have d1:decide (m<1)=false:=Zd h1;by_cases h2:1024<m
 ·have d2:decide (1024<m)=true:=Ze h2;have HE:Hid (g2E P n t G m=1):=Zk (Um HZ.out.symm (.inr h2));go_wp2_with fail;refine bodyPost_ret (v:= .tuple #[.slice none 0 0,.int .i64 1]) (by simp[results,Tryz.results31,go_sem]) rfl ?_;exact⟨_,by rw[HE.out],aF.out,fun h=>by rw[HE.out] at h;omega,fun _=>rfl⟩
 have d2:decide (1024<m)=false:=Zd h2;have HE:Hid (g2E P n t G m=0):=Zk (Ul HZ.out.symm (by omega));have hV:=He HZ.out.symm;have b1:=hV.t1;have b2:=hV.n10;have b3:=hV.sum;have b4:=hV.G1;clear hV;obtain⟨mn,rfl⟩:∃mn:Nat,m=mn:=⟨m.toNat,by omega⟩;obtain⟨tn,rfl⟩:∃tn:Nat,t=tn:=⟨t.toNat,by omega⟩;have aV:mn*tn≤1024*10:=Nat.mul_le_mul (by omega) (by omega);have aJ:((mn:Int)*(tn:Int))=((mn*tn:Nat):Int):=(Int.natCast_mul mn tn).symm;have aO:Hid (((mn:Int)*(tn:Int)).toNat=mn*tn):=Zk (by show _=_;rw[aJ];rfl);obtain⟨K,hK⟩:∃K,mn*tn=K:=⟨_,rfl⟩;rw[hK] at aO aJ aV;have hKw:IntKind.i64.wrap ((mn:Int)*(tn:Int))=(K:Int):=by rw[aJ];exact Zi _ (by omega)
 clear hK aJ;go_wp2_with fail;clear x0 x1 x2 x3;go_loopw [26,9] (fun i v wr=>LiR P K w2 i v wr) (fun i _ _=>K- (intOf i).toNat)
 case atStart=>exact⟨0,Nat.zero_le _,rfl,by simpa using World.ownsRow_nil w2 w2.heap.size 3 1,Zb _ _⟩
 case round=>
  obtain⟨k,hk,rfl,aA,aB⟩:=hrel;have HO:=Zk aA;have HB:=Zk aB;have aQ:=aB.size;obtain⟨x0,x1,x2,x3⟩:=aM.out wr (aH.out.trans (aB.mono aH.out.size));clear aA aB x1 x2 x3;by_cases hlt:k<K
  ·have dk:decide ((k:Int)<(K:Int))=true:=Ze (by omega);have dn:decide (k<K)=true:=Ze hlt;go_wp2_with (at_builtin;refine Bh _ rfl _ _ 22 rfl w2.heap.size 3 Tryz.underlying22 Bi _ (List.replicate k P) rfl HO.out P rfl (by simp;omega) aQ ?_;intro v3 w3 aE aP;have aS:=Zk aE;have aR:=Zk aP;clear aE aP);go_roundw
   case rel=>exact⟨k+1,by omega,by go_num,by rw[List.replicate_succ'];exact aS.out,(HB.out.alloc aQ _).grown aR.out (by simp;omega) (fun j hj=>(HO.out.lt j hj).1)⟩
   case measure=>simp[intOf];omega
  ·have aW:K=k:=by omega
   subst aW;have dk:decide ((K:Int)<(K:Int))=false:=Zd (by omega);have dn:decide (K<K)=false:=Zd (by omega);have aA:=HO.out;rw[List.length_replicate] at aA;obtain⟨Av,cv,ev⟩:=Ct aA;subst ev;have aT:=Zk aA;clear hlt x0 aA;go_wp2_with fail;refine bodyPost_ret (v:= .tuple #[.slice Av K cv,.int .i64 0]) (by simp[results,Tryz.results31,go_sem]) rfl ?_;exact⟨_,by rw[HE.out],aF.out.trans (HB.out.mono aF.out.size),fun _=>by rw[aO.out,List.length_replicate];exact Cf aT.out aF.out.size,fun h=>absurd HE.out h⟩
open Go.RowKit
def Ha(P:Int)(c:List Int)(rows:List (List Int))(width k:Nat):List Int:=(List.range k).foldl (fun L i=>Bl P L 0 (gd c i) (gr rows i)) (Ay width)
def cmb(P:Int)(c:List Int)(rows:List (List Int))(width:Nat):List Int:=Ha P c rows width rows.length
theorem Ht(P:Int)(c:List Int)(rows:List (List Int))(width k:Nat):Ha P c rows width (k+1)=Bl P (Ha P c rows width k) 0 (gd c k) (gr rows k):=by
 unfold Ha;rw[List.range_succ,List.foldl_append];rfl
theorem Ep(P:Int)(c:List Int)(rows:List (List Int))(width:Nat):∀k,(Ha P c rows width k).length=width
 |0=>by simp[Ha,Ay]
 |k+1=>by rw[Ht,Bg,Ep P c rows width k]
theorem Fc{P:Int}(hP:2≤P)(c:List Int)(rows:List (List Int))(width:Nat):∀k,els P (Ha P c rows width k)=true
 |0=>by simpa [Ha] using Di hP width
 |k+1=>by rw[Ht];exact Cq hP (Fc hP c rows width k) 0 _ _
def coE(P:Int)(c:List Int)(rows:List (List Int))(width:Int):Int:=
 if prB P=false then 9 else if width<0∨64<width then 4 else if c.length≠rows.length then 2 else if (rows.all fun r=>decide ((r.length:Int)=width))=false then 2 else if els P c=false then 9 else if (rows.all (els P))=false then 9 else 0
def CmP(P:Int)(c:List Int)(rows:List (List Int))(width:Int)(w:World)(e:Ending)(w':World):Prop:=
 ∃v,e= .returned (.tuple #[v,.int .i64 (coE P c rows width)])∧Below w.heap.size w w'∧(coE P c rows width≠0→v= .slice none 0 0)∧
  (coE P c rows width=0→w'.ownsRow w.heap.size 3 1 v (cmb P c rows width.toNat).length ((cmb P c rows width.toNat).map (Value.int .i64)))
theorem Xh{α:Type}{p:α→Bool}{l:List α}{j:Nat}(h:j<l.length)(hb:p l[j]=false):l.all p=false:=by
 cases e:l.all p with
 |false=>rfl
 |true=>rw[List.all_eq_true] at e;have:=e _ (List.getElem_mem h);rw[hb] at this;cases this
theorem Hr{α:Type}{p:α→Bool}{l:List α}(h:∀j (h:j<l.length),p l[j]=true):l.all p=true:=by
 rw[List.all_eq_true];intro x hx;obtain⟨j,hj,rfl⟩:=List.mem_iff_getElem.1 hx;exact h j hj
def Cm3(P:Int)(c:List Int)(rows:List (List Int))(width b:Nat)(w5:World)(iv:Value)(wr:World):Prop:=
 ∃i:Nat,i≤rows.length∧iv= .int .i64 i∧BK wr b (Ha P c rows width i)∧Below w5.heap.size w5 wr
def Cm4(P:Int)(L:List Int)(x:Int)(r:List Int)(b:Nat)(w5:World)(iv:Value)(wr:World):Prop:=
 ∃k:Nat,k≤r.length∧iv= .int .i64 k∧BK wr b (Bl P L 0 x (r.take k))∧Below w5.heap.size w5 wr
theorem Pv(P:Int)(c:List Int)(rows:List (List Int))(width:Int)(vc vr:Value)(w:World)(hP:At P)(hc:SI w vc c)(hr:SL w vr rows):
  Calls Tryz.prog 72 #[.agg #[.int .i64 P],vc,vr,.int .i64 width] w (CmP P c rows width w):=by
 obtain⟨Ar,cr,rfl,hr1,hr2,hs,cD,cE,cC⟩:=hr.heads;have bH:=Zk cE;have bF:=Zk cC;have bG:=Zk cD;have HC:=Zk hc;obtain⟨Ac,cc,rfl⟩:=hc.form;clear hc hr cE cC cD;go_enter Tryz.func72,Tryz.ntmps72;obtain⟨F,eF⟩:∃F,F=w.heap.size:=⟨_,rfl⟩;obtain⟨w1,ew⟩:∃w1:World,w1=w.alloc (.cells #[.int .i64 P] 31):=⟨_,rfl⟩;have cW:Hid (w.alloc (.cells #[.int .i64 P] 31)=w1):=ew.symm;have bS:Hid (Below w.heap.size w w1):=Zk (by rw[ew];exact (Zb _ w).alloc (Zl _) _);have bD:Hid (w1.heap[F]? =some (.cells #[.int .i64 P] 31 (0,0))):=Zk (by show _=_;rw[ew,eF];exact Zh w _);have HEF:=Zk eF;go_upto_region 1 with fail
 rw[cW.out,←eF];clear ew eF;have f0:w1.cell? ⟨F,0,none⟩=some (.int .i64 P):=Zc w1 F 0 _ _ _ bD.out;go_wp2_with fail;(with_reducible refine (Em P _ hP).mono ?_)
 rintro e w2 ⟨rfl,bK⟩;have aF:Hid (Below w.heap.size w w2):=bS.out.trans (bK.mono bS.out.size);have bE:Hid (w2.heap[F]? =some (.cells #[.int .i64 P] 31 (0,0))):=(bK.block F (Ae bD.out)).trans bD.out;clear bK f0
 cases hp:prB P with
 |false=>
  have HE:Hid (coE P c rows width=9):=Zk (by show _=_;unfold coE;rw[hp];rfl);rw[Kw hp];have d0:((9:Int) !=0)=true:=rfl;clear hp;go_wp2_with fail;go_ret2;exact⟨_,by rw[HE.out];rfl,aF.out,fun _=>rfl,fun h=>by rw[HE.out] at h;omega⟩
 |true=>
  have HP:=Zk hp;have aX:=Bj hp;rw[Oa hp];have d0:((0:Int) !=0)=false:=rfl;clear hp;by_cases hw0:width<0
  ·have HE:Hid (coE P c rows width=4):=Zk (by show _=_;unfold coE;rw[HP.out,if_neg (by simp),if_pos (.inl hw0)]);have d1:decide (width<0)=true:=Ze hw0;go_wp2_with fail;go_ret2;exact⟨_,by rw[HE.out];rfl,aF.out,fun _=>rfl,fun h=>by rw[HE.out] at h;omega⟩
  ·have d1:decide (width<0)=false:=Zd hw0;by_cases hw64:64<width
   ·have HE:Hid (coE P c rows width=4):=Zk (by show _=_;unfold coE;rw[HP.out,if_neg (by simp),if_pos (.inr hw64)]);have d2:decide (64<width)=true:=Ze hw64;go_wp2_with fail;go_ret2;exact⟨_,by rw[HE.out];rfl,aF.out,fun _=>rfl,fun h=>by rw[HE.out] at h;omega⟩
   ·have d2:decide (64<width)=false:=Zd hw64;obtain⟨wd,rfl⟩:∃n:Nat,width=n:=⟨width.toNat,by omega⟩;have hwd:wd≤64:=by omega
    by_cases hcl:c.length=rows.length
    ·have d3:((c.length:Int) !=(rows.length:Int))=false:=by rw[bne_eq_false_iff_eq];omega
     have aV:(c.length !=rows.length)=false:=by rw[bne_eq_false_iff_eq];exact hcl
     have aN:=Zk hcl;clear hcl hw0 hw64;go_wp2_with fail;clear d3 aV;go_loopw [38] (fun iv wr=>∃j:Nat,j≤rows.length∧iv= .int .i64 j∧(∀q (h:q<rows.length),q<j→rows[q].length=wd)∧w2=wr) (fun iv _=>rows.length- (intOf iv).toNat)
     case atStart=>exact⟨0,Nat.zero_le _,rfl,fun q h1 h2=>by omega,rfl⟩
     case round=>
      obtain⟨j,hj,rfl,aD,rfl⟩:=hrel;have aC:=Zk aD;clear aD;by_cases hlj:j<rows.length
      ·have dj:decide (j<rows.length)=true:=Ze hlj;obtain⟨b,bR,rfl,aH,aA⟩:=bF.out (by omega);have aR:j<hs.length:=by rw[bG.out];exact hlj
       obtain⟨B,d,aG,aJ⟩:=bH.out j aR hlj;have cj:=(aF.out.cell (p:=⟨b,bR+j,none⟩) aH).trans (aA j aR);rw[aG] at cj;obtain⟨rl,bI⟩:∃rl,rl=rows[j].length:=⟨_,rfl⟩;have bW:=Zk bI;rw[←bI] at cj;clear aA aG aJ bI;by_cases hne:rl=wd
       ·have d3:((rl:Int) !=(wd:Int))=false:=by rw[bne_eq_false_iff_eq];omega
        have aV:(rl !=wd)=false:=by rw[bne_eq_false_iff_eq];exact hne
        have cQ:=Zk hne;clear hne;go_wp2_with fail;go_roundw
        case rel=>exact⟨j+1,by omega,by go_num,fun q h1 h2=>by
         by_cases hq:q<j
         ·exact aC.out q h1 hq
         ·have:q=j:=by omega
          subst this;rw[←bW.out];exact cQ.out,by first|trivial|rfl⟩
        case measure=>simp[intOf];omega
       ·have d3:((rl:Int) !=(wd:Int))=true:=by rw[bne_iff_ne];omega
        have aV:(rl !=wd)=true:=by rw[bne_iff_ne];exact hne
        have HE:Hid (coE P c rows wd=2):=Zk (by
         show _=_;unfold coE;rw[HP.out,if_neg (by simp),if_neg (by omega),if_neg (by rw[aN.out];simp),if_pos (Xh hlj (by simp;have:=bW.out;omega))])
        clear hne;go_wp2_with fail;go_ret2;exact⟨_,by rw[HE.out];rfl,aF.out,fun _=>rfl,fun h=>by rw[HE.out] at h;omega⟩
      ·have dj:decide (j<rows.length)=false:=Zd hlj;have aU:Hid (∀q (h:q<rows.length),rows[q].length=wd):=Zk (fun q h=>aC.out q h (by omega))
       have aZ:Hid ((rows.all fun r=>decide ((r.length:Int)=(wd:Int)))=true):=Zk (Hr fun q h=>Ze (by have:=aU.out q h;omega))
       have f0:w2.cell? ⟨F,0,none⟩=some (.int .i64 P):=Zc w2 F 0 _ _ _ bE.out;clear aC;go_wp2_with fail;(with_reducible refine (Ei P c _ _ hP (HC.out.below aF.out)).mono ?_)
       rintro e w3 ⟨rfl,bL⟩;have aK:Hid (Below w.heap.size w w3):=aF.out.trans (bL.mono aF.out.size);have bU:Hid (w3.heap[F]? =some (.cells #[.int .i64 P] 31 (0,0))):=(bL.block F (Ae bE.out)).trans bE.out;clear bL f0
       cases hin:inB P c with
       |false=>
        have HE:Hid (coE P c rows wd=9):=Zk (by
         have h:els P c=false:=by unfold inB at hin;rw[HP.out] at hin;simpa using hin
         show _=_;unfold coE;rw[HP.out,if_neg (by simp),if_neg (by omega),if_neg (by rw[aN.out];simp),aZ.out,if_neg (by simp),h];rfl)
        clear hin;go_wp2_with fail;go_ret2;exact⟨_,by rw[HE.out];rfl,aK.out,fun _=>rfl,fun h=>by rw[HE.out] at h;omega⟩
       |true=>
        have bC:Hid (els P c=true):=Zk (by show _=_;unfold inB at hin;rw[HP.out] at hin;simpa using hin);clear hin;go_wp2_with fail;go_loopw [53] (fun iv wr=>∃j:Nat,j≤rows.length∧iv= .int .i64 j∧(∀q (h:q<rows.length),q<j→els P rows[q]=true)∧Below w3.heap.size w3 wr) (fun iv _=>rows.length- (intOf iv).toNat)
        case atStart=>exact⟨0,Nat.zero_le _,rfl,fun q h1 h2=>by omega,Zb _ _⟩
        case round=>
         obtain⟨j,hj,rfl,aD,aY⟩:=hrel;have aC:=Zk aD;have bA:=Zk aY;have aB:Hid (Below w.heap.size w wr):=aK.out.trans (aY.mono aK.out.size);have aO:Hid (wr.heap[F]? =some (.cells #[.int .i64 P] 31 (0,0))):=(aY.block F (Ae bU.out)).trans bU.out;clear aD aY;by_cases hlj:j<rows.length
         ·have dj:decide (j<rows.length)=true:=Ze hlj;obtain⟨b,bR,rfl,aH,aA⟩:=bF.out (by omega);have aR:j<hs.length:=by rw[bG.out];exact hlj
          obtain⟨B,d,aG,aJ⟩:=bH.out j aR hlj;have cj:=(aB.out.cell (p:=⟨b,bR+j,none⟩) aH).trans (aA j aR);rw[aG] at cj aJ;have bX:Hid (SI wr (.slice B rows[j].length d) rows[j]):=aJ.below aB.out;obtain⟨r,er⟩:∃r,r=rows[j]:=⟨_,rfl⟩;rw[←er] at cj bX;have HR:=Zk er;have f0:wr.cell? ⟨F,0,none⟩=some (.int .i64 P):=Zc wr F 0 _ _ _ aO.out;clear aA aG aJ er;go_wp2_with fail;(with_reducible refine (Ei P r _ _ hP bX.out).mono ?_)
          rintro e w4 ⟨rfl,cA⟩;have bT:=Zk cA;clear cA f0 cj
          cases hin:inB P r with
          |false=>
           have HE:Hid (coE P c rows wd=9):=Zk (by
            have h:els P rows[j]=false:=by rw[←HR.out];unfold inB at hin;rw[HP.out] at hin;simpa using hin
            show _=_;unfold coE;rw[HP.out,if_neg (by simp),if_neg (by omega),if_neg (by rw[aN.out];simp),aZ.out,if_neg (by simp),bC.out,if_neg (by simp),if_pos (Xh hlj h)])
           clear hin;go_wp2_with fail;go_ret2;exact⟨_,by rw[HE.out];rfl,aB.out.trans (bT.out.mono aB.out.size),fun _=>rfl,fun h=>by rw[HE.out] at h;omega⟩
          |true=>
           have aT:Hid (els P rows[j]=true):=Zk (by show _=_;rw[←HR.out];unfold inB at hin;rw[HP.out] at hin;simpa using hin);clear hin;go_wp2_with fail;go_roundw
           case rel=>exact⟨j+1,by omega,by go_num,fun q h1 h2=>by
            by_cases hq:q<j
            ·exact aC.out q h1 hq
            ·have:q=j:=by omega
             subst this;exact aT.out,bA.out.trans (bT.out.mono bA.out.size)⟩
           case measure=>simp[intOf];omega
         ·have dj:decide (j<rows.length)=false:=Zd hlj;have aT:Hid (∀q (h:q<rows.length),els P rows[q]=true):=Zk (fun q h=>aC.out q h (by omega))
          have HE:Hid (coE P c rows wd=0):=Zk (by
           show _=_;unfold coE;rw[HP.out,if_neg (by simp),if_neg (by omega),if_neg (by rw[aN.out];simp),aZ.out,if_neg (by simp),bC.out,if_neg (by simp),Hr aT.out,if_neg (by simp)])
          clear aC;obtain⟨w5,bY⟩:∃w5:World,w5=wr:=⟨_,rfl⟩;rw[←bY] at aB aO⊢;clear bY bA;have cX:=wd;clear cX;go_wp2_with (at_make;refine Bn _ rfl _ _ 22 rfl 3 Tryz.underlying22 Bi _ wd rfl rfl rfl (by omega) ?_);obtain⟨b,eb⟩:∃b,b=w5.heap.size:=⟨_,rfl⟩;obtain⟨w6,aW⟩:∃w6:World,w6=w5.alloc (.cells ((Ay wd).map (Value.int .i64)).toArray 3):=⟨_,rfl⟩;have cI:Hid (Below w5.heap.size w5 w6):=Zk (by rw[aW];exact (Zb _ _).alloc (Zl _) _);have cN:Hid (BK w6 b (Ha P c rows wd 0)):=Zk (by rw[aW,eb];exact Zh w5 _);have bB:=Zk eb;have hFb:F<b:=by rw[eb];exact Ae aO.out
          have cT:Hid (∀i (h:i<rows.length),∃B d,∀W,Below w5.heap.size w5 W→(∃bh oh,Ar=some ⟨bh,oh,none⟩∧W.cell? ⟨bh,oh+i,none⟩=some (.slice B wd d))∧SI W (.slice B wd d) rows[i]):=Zk (fun i hi=>by
           obtain⟨bh,oh,eA,bM,aA⟩:=bF.out (by omega);have cF:i<hs.length:=by rw[bG.out];exact hi
           obtain⟨B,d,aG,aJ⟩:=bH.out i cF hi;rw[aG,aU.out i hi] at aJ;refine⟨B,d,fun W hb=> ?_⟩
           have aH:=aB.out.trans (hb.mono aB.out.size);have cj:=(aH.cell (p:=⟨bh,oh+i,none⟩) bM).trans (aA i cF);rw[aG,aU.out i hi] at cj;exact⟨⟨bh,oh,eA,cj⟩,aJ.below aH⟩)
          have cK:Hid (∀W,Below w5.heap.size w5 W→∀i (h:i<c.length),∃bh oh,Ac=some ⟨bh,oh,none⟩∧W.cell? ⟨bh,oh+i,none⟩=some (.int .i64 c[i])):=Zk (fun W hb i hi=>by
           have aH:=aB.out.trans (hb.mono aB.out.size);obtain⟨A2,c2,e2,_,_,_,bJ⟩:=HC.out;injection e2 with e21 e22 e23;obtain⟨bh,oh,e3,bM,aA⟩:=bJ (by omega);exact⟨bh,oh,by rw[e21];exact e3,(aH.cell (p:=⟨bh,oh+i,none⟩) bM).trans (aA i hi)⟩)
          have cM:Hid (∀W,Below w5.heap.size w5 W→W.cell? ⟨F,0,none⟩=some (.int .i64 P)):=Zk (fun W hb=>Zc W F 0 _ _ _ ((hb.block F (Ae aO.out)).trans aO.out))
          rw[←aW,←eb];clear aW eb;go_wp2_with fail;go_loopw [66] (fun iv wr=>Cm3 P c rows wd b w5 iv wr) (fun iv _=>rows.length- (intOf iv).toNat)
          case atStart=>exact⟨0,Nat.zero_le _,rfl,cN.out,cI.out⟩
          case round=>
           obtain⟨i,hi,rfl,aQ,aP⟩:=hrel;have aS:=Zk aQ;have HB:=Zk aP;clear aQ aP;by_cases hli:i<rows.length
           ·have di:decide (i<rows.length)=true:=Ze hli;obtain⟨B,d,bO⟩:=cT.out i hli;obtain⟨⟨bh,oh,eA,ci⟩,_⟩:=bO _ HB.out;subst eA;have bQ:=fun W hb=>(bO W hb).2
            clear bO;have bP:rows[i].length=wd:=aU.out i hli;obtain⟨r,er⟩:∃r,r=rows[i]:=⟨_,rfl⟩;obtain⟨L,eL⟩:∃L,L=Ha P c rows wd i:=⟨_,rfl⟩;rw[←er] at bQ bP;rw[←eL] at aS;have bV:Hid (L.length=wd):=Zk (by show _=_;rw[eL,Ep]);have cP:Hid (els P L=true):=Zk (by show _=_;rw[eL];exact Fc aX.1 ..);have cS:Hid (els P r=true):=Zk (by show _=_;rw[er];exact aT.out i hli);have bN:i<c.length:=by rw[aN.out];exact hli
            obtain⟨x,ex⟩:∃x,x=c[i]:=⟨_,rfl⟩;have cZ:0≤x∧x<P:=by rw[ex];exact Co (Be bC.out _ (List.getElem_mem bN))
            have cR:Hid (Ha P c rows wd (i+1)=Bl P L 0 x r):=Zk (by
             show _=_;rw[Ht,←eL,ex,er,Bw bN];unfold gr;rw[List.getElem?_eq_getElem hli];rfl)
            have HX:Hid (∀W,Below w5.heap.size w5 W→∃bc oc,Ac=some ⟨bc,oc,none⟩∧W.cell? ⟨bc,oc+i,none⟩=some (.int .i64 x)):=Zk (fun W hb=>by rw[ex];exact cK.out W hb i bN)
            have cU:Hid (∀W,Below w5.heap.size w5 W→∀k (h:k<r.length),∃bb ob,B=some ⟨bb,ob,none⟩∧W.cell? ⟨bb,ob+k,none⟩=some (.int .i64 r[k])):=Zk (fun W hb k hk=>by
             obtain⟨A2,c2,e2,_,_,_,bJ⟩:=bQ W hb;injection e2 with e21 e22 e23;obtain⟨bb,ob,e3,hbb,aA⟩:=bJ (by omega);exact⟨bb,ob,by rw[e21];exact e3,aA k hk⟩)
            clear bQ eL er ex;rw[←bP] at ci;have hrl64:r.length≤64:=by omega
            have cY:=bP;go_wp2_with fail;obtain⟨wo,bZ⟩:∃wo:World,wo=wr:=⟨_,rfl⟩;rw[←bZ] at aS HB⊢;clear bZ ci cY;go_loopw [73] (fun iv wr=>Cm4 P L x r b w5 iv wr) (fun iv _=>r.length- (intOf iv).toNat)
            case atStart=>exact⟨0,Nat.zero_le _,rfl,by rw[List.take_zero,Eb];exact aS.out,HB.out⟩
            case round=>
             obtain⟨k,hk,rfl,aQ,aP⟩:=hrel;have aE:=Zk aQ;have aM:=Zk aP;clear aQ aP;by_cases hlk:k<r.length
             ·have dk:decide (k<r.length)=true:=Ze hlk;obtain⟨bb,ob,eB,ck⟩:=cU.out _ aM.out k hlk;subst eB;obtain⟨bc,oc,eC,cx⟩:=HX.out _ aM.out;subst eC;have f0:=cM.out _ aM.out;have aI:(Bl P L 0 x (r.take k)).length=wd:=by rw[Bg];exact bV.out
              have cH:=aE.out.cell (j:=k) (by rw[aI];omega);have hfk:=aE.out.frozen k;have cB:=Co (Cd aX.1 (Cq aX.1 cP.out 0 x (r.take k)) k);have aL:=Co (Be cS.out _ (List.getElem_mem hlk));rw[←Bw] at cH;obtain⟨t,ht⟩:∃t,t=gd (Bl P L 0 x (r.take k)) k:=⟨_,rfl⟩;rw[←ht] at cH cB;obtain⟨y,hy⟩:∃y,y=r[k]:=⟨_,rfl⟩;rw[←hy] at ck aL;have cV:Hid (Bl P L 0 x (r.take (k+1))=(Bl P L 0 x (r.take k)).set k ((t+x*y)%P)):=by
               have h:=Ea P L 0 x r k hlk (by have:=bV.out;omega);rw[Nat.zero_add] at h;show _=_;rw[ht,hy];exact h
              have dA:=Eg cZ aL aX.2;have w1_:IntKind.i64.wrap (x*y)=x*y:=by exact Zi _ (by omega)
              have w2_:IntKind.i64.wrap (t+x*y)=t+x*y:=by exact Zi _ (by omega)
              have w3_:(t+x*y).tmod P=(t+x*y)%P:=Int.tmod_eq_emod_of_nonneg (by omega);have w4_:IntKind.i64.wrap ((t+x*y)%P)=(t+x*y)%P:=by
               have h1:=Int.emod_nonneg (t+x*y) (show P≠0 by omega);have h2:=Int.emod_lt_of_pos (t+x*y) (show 0<P by omega);exact Zi _ (by omega)
              have hP0:¬P=0:=by omega
              have z1:(0:Int)≤(k:Int):=by omega
              have z2:(k:Int)<(wd:Int):=by omega
              have z3:(0:Int)≤(i:Int):=by omega
              have z4:(i:Int)<(c.length:Int):=by omega
              clear ht hy aI cB aL dA;go_upto_region 29 with fail
              go_region
              all_goals
               go_wp2_with fail;go_roundw
               case rel=>exact⟨k+1,by omega,by go_num,by rw[cV.out];exact aE.out.set _ _,by first|exact aM.out.setCell (by have:=bB.out;show _≤b;omega) _|exact (Below.drewN (aM.out.setCell (by have:=bB.out;show _≤b;omega) _) _)⟩
               case measure=>simp[intOf];omega
             ·have dk:decide (k<r.length)=false:=Zd hlk;have cG:k=r.length:=by omega
              have cL:Hid (BK wr b (Ha P c rows wd (i+1))):=Zk (by
               have h:=aE.out;rw[cG,List.take_length] at h;rw[cR.out];exact h)
              clear cG;go_wp2_with fail;go_roundw
              case rel=>exact⟨i+1,by omega,by go_num,cL.out,aM.out⟩
              case measure=>simp[intOf];omega
           ·have di:decide (i<rows.length)=false:=Zd hli;have cO:Hid (BK wr b (cmb P c rows wd)):=Zk (by
             have h:=aS.out;rw[show i=rows.length by omega] at h;exact h)
            have cJ:Hid (Below w.heap.size w wr):=aB.out.trans (HB.out.mono aB.out.size);go_wp2_with fail;go_ret2;refine⟨_,by rw[HE.out];rfl,cJ.out,fun h=>absurd HE.out h,fun _=> ?_⟩
            have hl:(cmb P c rows wd).length=wd:=Ep ..;have h:=BK.own cO.out (base:=w.heap.size) (by have:=aB.out.size;have:=bB.out;omega) (by rw[hl];omega);rw[hl] at h;rw[Int.toNat_natCast,hl];exact h
    ·have d3:((c.length:Int) !=(rows.length:Int))=true:=by rw[bne_iff_ne];omega
     have aV:(c.length !=rows.length)=true:=by rw[bne_iff_ne];exact hcl
     have HE:Hid (coE P c rows wd=2):=Zk (by show _=_;unfold coE;rw[HP.out,if_neg (by simp),if_neg (by omega),if_pos hcl]);clear hcl;go_wp2_with fail;go_ret2;exact⟨_,by rw[HE.out];rfl,aF.out,fun _=>rfl,fun h=>by rw[HE.out] at h;omega⟩
end Go.Proofs.YtoiabanpnkpbhaaGreatDoor
