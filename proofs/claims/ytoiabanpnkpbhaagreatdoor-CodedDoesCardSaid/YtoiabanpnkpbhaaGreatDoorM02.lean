/- Parts. -/
import Derived.Maps.AppendAt
import Derived.OwnWalk
import Derived.Test.YtoiabanpnkpbhaaGreatDoorM01
set_option linter.unusedVariables false
set_option linter.unusedSimpArgs false
namespace Go.Proofs.YtoiabanpnkpbhaaGreatDoor
open Go.RowKit
section
variable {P:Program} (w:World)
theorem Fm(base:Nat)(t ty e:TypeId)(i:TypeInfo)(size:Nat)(ht:P.underlying t=some (.slice e))(hi:P.info? e=some i)
  (v:Value) (n:Nat) (xs:List Value) (hown:w.ownsRow base e size v n xs) (c:Nat):(Builtin.append_ #[t,t] ty #[v,.slice none 0 c]).run P w= .ok v w:=by
 rcases hown.2 with⟨rfl,rfl⟩|⟨g,cap,cur,rfl,_,_,aA,_⟩
 ·simp[Builtin.append_,run_underlying ht,sizeOf,typeInfo,hi,Builtin.lenOf,Builtin.firstCells]
 ·simp[Builtin.append_,run_underlying ht,sizeOf,typeInfo,hi,Builtin.lenOf,Builtin.firstCells,aA,storeCells]
def SC(B:Nat)(w:World)(v:Value)(n sz:Nat)(cs:List Value):Prop:=
 ∃A c,v= .slice A n c∧cs.length=n*sz∧(0<n→∃b off,A=some ⟨b,off,none⟩∧b<B∧∀j u,cs[j]? =some u→w.cell? ⟨b,off+j,none⟩=some u)
theorem SB.sc{B:Nat}{w:World}{v:Value}{l:List Int}(h:SB B w v l):SC B w v l.length 1 (l.map (Value.int .i64)):=by
 obtain⟨A,c,rfl,hc,hm,hr,ha⟩:=h;refine⟨A,c,rfl,by simp,fun h0=> ?_⟩
 obtain⟨b,aB,rfl,hb,aA⟩:=ha h0;refine⟨b,aB,rfl,hb,fun j u hu=> ?_⟩
 rw[List.getElem?_map] at hu;obtain⟨x,hx,rfl⟩:=Option.map_eq_some_iff.1 hu;obtain⟨hj,rfl⟩:=List.getElem?_eq_some_iff.1 hx;exact aA j hj
theorem Nm(base:Nat)(t ty e:TypeId)(i:TypeInfo)(z:Value)(size bytes:Nat)(ht:P.underlying t=some (.slice e))(hi:P.info? e=some i)(hz:i.zero=some z)
  (hsize:i.size=size) (hby:i.bytes=bytes) (hzs:z.cells.size=size) (hsz:0<size)
  (v:Value) (n:Nat) (xs:List Value) (hown:w.ownsRow base e size v n xs)
  (B:Nat) (src:Value) (m:Nat) (news:List Value) (hr:SC B w src m size news) (h1:∀u∈news,u.oneCell'=true)
  (h63:n+m≤maxLen) (hbytes:(n+m)*bytes≤140737488355328) (hbase:base≤w.heap.size):
  ∃v' w',(Builtin.append_ #[t,t] ty #[v,src]).run P w= .ok v' w'∧w'.ownsRow base e size v' (n+m) (xs++news)∧w.grownBy w' v.ownBlock:=by
 obtain⟨A,c,rfl,hl,ha⟩:=hr;rcases Nat.eq_zero_or_pos m with h0|h0
 ·subst h0;have hn:news=[]:=List.eq_nil_of_length_eq_zero (by simpa using hl);subst hn;rcases A with _|ad
  ·exact⟨v,w,Fm w base t ty e i size ht hi v n xs hown c,by simpa using hown,Ai w _⟩
  ·obtain⟨v',w',aA,h2,h3,_,h5⟩:=run_append_own_at (P:=P) w base t ty e i z size bytes ht hi hz hsize hby hzs hsz v n xs hown ad 0 c [] hl (by simp) h1 h63 hbytes hbase;exact⟨v',w',aA,h2,h3⟩
 ·obtain⟨b,aB,rfl,hb,hc⟩:=ha h0;obtain⟨v',w',aA,h2,h3,_,h5⟩:=run_append_own_at (P:=P) w base t ty e i z size bytes ht hi hz hsize hby hzs hsz v n xs hown ⟨b,aB,none⟩ m c news hl (fun j u hu=>by
   have:(⟨b,aB,none⟩:Addr).add j=⟨b,aB+j,none⟩:=by unfold Addr.add;split<;>simp_all
   rw[this];exact hc j u hu) h1 h63 hbytes hbase
  exact⟨v',w',aA,h2,h3⟩
theorem Pg{o:Oper}{a:Act}{K:Act→World→Prop}{Q:Exit→Act→World→Prop}(s x:Operand)(t:TypeId)
  (ho:o.op= .call {callee:= .builtin .append,args:= #[s,x],argTypes:= #[t,t]})
  (base:Nat) (e:TypeId) (i:TypeInfo) (z:Value) (size bytes:Nat) (ht:P.underlying t=some (.slice e)) (hi:P.info? e=some i) (hz:i.zero=some z)
  (hsize:i.size=size) (hby:i.bytes=bytes) (hzs:z.cells.size=size) (hsz:0<size)
  (v:Value) (n:Nat) (xs:List Value) (hs:a.eval s=v) (hown:w.ownsRow base e size v n xs)
  (B:Nat) (src:Value) (m:Nat) (news:List Value) (hx:a.eval x=src) (hr:SC B w src m size news) (h1:∀u∈news,u.oneCell'=true)
  (h63:n+m≤maxLen) (hbytes:(n+m)*bytes≤140737488355328) (hbase:base≤w.heap.size)
  (h:∀v' w',w'.ownsRow base e size v' (n+m) (xs++news)→w.grownBy w' v.ownBlock→K (a.put o.dst v') w'):o.wp P a w K Q:=by
 obtain⟨v',w',aA,h2,h3⟩:=Nm (P:=P) w base t o.type e i z size bytes ht hi hz hsize hby hzs hsz v n xs hown B src m news hr h1 h63 hbytes hbase;unfold Oper.wp execOp;simp only[ho,resolve,invoke,builtin,Sem.run_bind,Sem.run_pure,Result.andThen_ok,List.map_toArray,List.map_cons,List.map_nil,hs,hx,aA];exact h v' w' h2 h3
theorem Km{ops:Array Oper}{rest:List Oper}{o:Oper}{a:Act}{Q:Exit→Act→World→Prop}(hgd:o.guard=none)(s x:Operand)(t:TypeId)
  (ho:o.op= .call {callee:= .builtin .append,args:= #[s,x],argTypes:= #[t,t]})
  (base:Nat) (e:TypeId) (i:TypeInfo) (z:Value) (size bytes:Nat) (ht:P.underlying t=some (.slice e)) (hi:P.info? e=some i) (hz:i.zero=some z)
  (hsize:i.size=size) (hby:i.bytes=bytes) (hzs:z.cells.size=size) (hsz:0<size)
  (v:Value) (n:Nat) (xs:List Value) (hs:a.eval s=v) (hown:w.ownsRow base e size v n xs)
  (B:Nat) (src:Value) (m:Nat) (news:List Value) (hx:a.eval x=src) (hr:SC B w src m size news) (h1:∀u∈news,u.oneCell'=true)
  (h63:n+m≤maxLen) (hbytes:(n+m)*bytes≤140737488355328) (hbase:base≤w.heap.size)
  (h:∀v' w',w'.ownsRow base e size v' (n+m) (xs++news)→w.grownBy w' v.ownBlock→wpList P ops Q rest (a.put o.dst v') w'):wpList P ops Q (o::rest) a w:=
 wpList_plain hgd fun _ hK=>Pg w s x t ho base e i z size bytes ht hi hz hsize hby hzs hsz v n xs hs hown B src m news hx hr h1 h63 hbytes hbase fun v' w' h2 h3=>hK _ _ (h v' w' h2 h3)
end
theorem Bi:(Tryz.prog.info? 3).map (fun i=>(i.zero,i.size,i.bytes))=some (some (.int .i64 0),1,8):=by kernel_rfl
theorem Hk(l:List Int):∀u∈l.map (Value.int .i64),u.oneCell'=true:=by
 intro u hu;obtain⟨x,_,rfl⟩:=List.mem_map.1 hu;rfl
theorem Bv{P:Program}(w:World){ops:Array Oper}{rest:List Oper}{o:Oper}{a:Act}{Q:Exit→Act→World→Prop}(hgd:o.guard=none)(s x:Operand)(t:TypeId)
  (ho:o.op= .call {callee:= .builtin .append,args:= #[s,x],argTypes:= #[t,t]})
  (base:Nat) (e:TypeId) (ht:P.underlying t=some (.slice e)) (hinfo:(P.info? e).map (fun i=>(i.zero,i.size,i.bytes))=some (some (.int .i64 0),1,8))
  (v:Value) (xs:List Int) (hs:a.eval s=v) (hown:w.ownsRow base e 1 v xs.length (xs.map (Value.int .i64)))
  (B:Nat) (src:Value) (l:List Int) (hx:a.eval x=src) (hr:SB B w src l)
  (hbytes:xs.length+l.length≤17592186044416) (hbase:base≤w.heap.size)
  (h:∀v' w',w'.ownsRow base e 1 v' (xs++l).length ((xs++l).map (Value.int .i64))→w.grownBy w' v.ownBlock→wpList P ops Q rest (a.put o.dst v') w'):wpList P ops Q (o::rest) a w:=by
 obtain⟨i0,aA,aB,aC,aD⟩:=info_parts hinfo;refine Km w hgd s x t ho base e i0 _ 1 8 ht aA aB aC aD rfl (by omega) v _ _ hs hown B src _ _ hx hr.sc (Hk l) (by unfold maxLen;omega) (by omega) hbase fun v' w' h1 h2=>h v' w' (by rw[List.length_append,List.map_append];exact h1) h2
theorem Bh{P:Program}(w:World){ops:Array Oper}{rest:List Oper}{o:Oper}{a:Act}{Q:Exit→Act→World→Prop}(hgd:o.guard=none)(s x:Operand)(t:TypeId)
  (ho:o.op= .call {callee:= .builtin .append,args:= #[s,x],argTypes:= #[t,t]})
  (base:Nat) (e:TypeId) (ht:P.underlying t=some (.slice e)) (hinfo:(P.info? e).map (fun i=>(i.zero,i.size,i.bytes))=some (some (.int .i64 0),1,8))
  (v:Value) (xs:List Int) (hs:a.eval s=v) (hown:w.ownsRow base e 1 v xs.length (xs.map (Value.int .i64)))
  (y:Int) (hx:a.eval x= .slice (some ⟨w.heap.size,0,none⟩) 1 1)
  (hbytes:xs.length+1≤17592186044416) (hbase:base≤w.heap.size)
  (h:∀v' w',w'.ownsRow base e 1 v' (xs++[y]).length ((xs++[y]).map (Value.int .i64))→(w.alloc (.cells #[.int .i64 y] e)).grownBy w' v.ownBlock→wpList P ops Q rest (a.put o.dst v') w'):wpList P ops Q (o::rest) a (w.alloc (.cells #[.int .i64 y] e)):=by
 obtain⟨i0,aA,aB,aC,aD⟩:=info_parts hinfo;refine wpList_append_own _ hgd s x t ho base e i0 _ 1 8 ht aA aB aC aD rfl (by omega) v _ _ hs (hown.alloc _) ⟨w.heap.size,0,none⟩ 1 1 [.int .i64 y] hx rfl (Ba w [.int .i64 y] e) (by intro u hu;simp at hu;subst hu;rfl) (by unfold maxLen;omega) (by omega) (by simp;omega) fun v' w' h1 h2 _=>h v' w' (by rw[List.length_append,List.map_append];exact h1) h2
theorem Cx{P:Program}(w:World)(base:Nat)(t ty e:TypeId)(i:TypeInfo)(z:Value)(size bytes:Nat)(ht:P.underlying t=some (.slice e))(hi:P.info? e=some i)(hz:i.zero=some z)
  (hsize:i.size=size) (hby:i.bytes=bytes) (hzs:z.cells.size=size) (hsz:0<size)
  (v:Value) (n:Nat) (xs:List Value) (hown:w.ownsRow base e size v n xs)
  (B:Nat) (src:Value) (m:Nat) (news:List Value) (hr:SC B w src m size news) (h1:∀u∈news,u.oneCell'=true)
  (h63:n+m≤maxLen) (hbytes:(n+m)*bytes≤140737488355328) (hbase:base≤w.heap.size):
  ∃v' w',(Builtin.append_ #[t,t] ty #[v,src]).run P w= .ok v' w'∧w'.ownsRow base e size v' (n+m) (xs++news)∧w.grownBy w' v.ownBlock∧(v'.ownBlock=v.ownBlock∨v'.ownBlock=some w.heap.size):=by
 obtain⟨A,c,rfl,hl,ha⟩:=hr;rcases Nat.eq_zero_or_pos m with h0|h0
 ·subst h0;have hn:news=[]:=List.eq_nil_of_length_eq_zero (by simpa using hl);subst hn;rcases A with _|ad
  ·exact⟨v,w,Fm w base t ty e i size ht hi v n xs hown c,by simpa using hown,Ai w _,.inl rfl⟩
  ·obtain⟨v',w',aA,h2,h3,_,h5⟩:=run_append_own_at (P:=P) w base t ty e i z size bytes ht hi hz hsize hby hzs hsz v n xs hown ad 0 c [] hl (by simp) h1 h63 hbytes hbase;exact⟨v',w',aA,h2,h3,h5⟩
 ·obtain⟨b,aB,rfl,hb,hc⟩:=ha h0;obtain⟨v',w',aA,h2,h3,_,h5⟩:=run_append_own_at (P:=P) w base t ty e i z size bytes ht hi hz hsize hby hzs hsz v n xs hown ⟨b,aB,none⟩ m c news hl (fun j u hu=>by
   have:(⟨b,aB,none⟩:Addr).add j=⟨b,aB+j,none⟩:=by unfold Addr.add;split<;>simp_all
   rw[this];exact hc j u hu) h1 h63 hbytes hbase
  exact⟨v',w',aA,h2,h3,h5⟩
theorem Ax{P:Program}(w:World){ops:Array Oper}{o:Oper}{a:Act}{K:Act→World→Prop}{Q:Exit→Act→World→Prop}{E:Prop}(hgd:o.guard=none)(s x:Operand)(t:TypeId)
  (ho:o.op= .call {callee:= .builtin .append,args:= #[s,x],argTypes:= #[t,t]})
  (base:Nat) (e:TypeId) (ht:P.underlying t=some (.slice e)) (hinfo:(P.info? e).map (fun i=>(i.zero,i.size,i.bytes))=some (some (.int .i64 0),1,8))
  (v:Value) (xs:List Int) (hs:a.eval s=v) (hown:w.ownsRow base e 1 v xs.length (xs.map (Value.int .i64)))
  (y:Int) (b:Nat) (hx:a.eval x= .slice (some ⟨b,0,none⟩) 1 1) (hc:w.cell? ⟨b,0,none⟩=some (.int .i64 y))
  (hbytes:xs.length+1≤17592186044416) (hbase:base≤w.heap.size)
  (h:∀g aA w',w'.ownsRow base e 1 (.slice (some ⟨g,0,none⟩) (xs++[y]).length aA) (xs++[y]).length ((xs++[y]).map (Value.int .i64))→w.grownBy w' v.ownBlock→(v.ownBlock=some g∨g=w.heap.size)→K (a.put o.dst (.slice (some ⟨g,0,none⟩) (xs++[y]).length aA)) w'):
  if Region.wanted o (yielded ops a.tmps)=true then Oper.wp P o a w K Q else E:=by
 obtain⟨i0,aD,aF,aG,aH⟩:=info_parts hinfo;have hw:Region.wanted o (yielded ops a.tmps)=true:=by simp[Region.wanted,hgd]
 rw[if_pos hw];obtain⟨v',w',aB,h2,h3,h4⟩:=Cx (P:=P) w base t o.type e i0 _ 1 8 ht aD aF aG aH rfl (by omega) v _ _ hown (b+1) (.slice (some ⟨b,0,none⟩) 1 1) 1 [.int .i64 y] ⟨_,1,rfl,rfl,fun _=>⟨b,0,rfl,by omega,fun j u hu=>by
  cases j with
  |zero=>simp at hu;subst hu;exact hc
  |succ j=>simp at hu⟩⟩ (by intro u hu;simp at hu;subst hu;rfl) (by unfold maxLen;omega) (by omega) hbase
 have aC:w'.ownsRow base e 1 v' (xs++[y]).length ((xs++[y]).map (Value.int .i64)):=by rw[List.length_append,List.map_append];exact h2
 rcases aC.2 with⟨_,aE⟩|⟨g,aA,cur,rfl,hb,hg,hnc,hcm,hcs,htake⟩
 ·simp at aE
 ·unfold Oper.wp execOp;simp only[ho,resolve,invoke,builtin,Sem.run_bind,Sem.run_pure,Result.andThen_ok,List.map_toArray,List.map_cons,List.map_nil,hs,hx,aB];refine h g aA w' aC h3 ?_;rcases h4 with e4|e4
  ·exact .inl (by rw[←e4];rfl)
  ·exact .inr (by simpa [Value.ownBlock] using e4)
theorem Dg{w:World}{base e size n:Nat}{v:Value}{xs:List Value}(h:w.ownsRow base e size v n xs)(hn:0<n):∃g aA,v= .slice (some ⟨g,0,none⟩) n aA∧base≤g∧g<w.heap.size:=by
 rcases h.2 with⟨rfl,hn'⟩|⟨g,aA,cur,rfl,hb,hg,hnc,hcm,hcs,htake⟩
 ·omega
 ·exact⟨g,aA,rfl,hb,Ae hg⟩
theorem zEj{w:World}{base e g cap:Nat}{l:List Int}(h:w.ownsRow base e 1 (.slice (some ⟨g,0,none⟩) l.length cap) l.length (l.map (Value.int .i64)))(j:Nat)(hj:j<l.length):
  w.cell? ⟨g,j,none⟩=some (.int .i64 l[j]):=by
 have k0:=h.cellAt j (by omega);rw[List.getElem?_map,List.getElem?_eq_getElem hj] at k0;exact k0
theorem SB.cells{B c n:Nat}{A:Option Addr}{w:World}{l:List Int}(h:SB B w (.slice A n c) l)(h0:0<l.length):
  ∃b off,A=some ⟨b,off,none⟩∧b<B∧∀j (h:j<l.length),w.cell? ⟨b,off+j,none⟩=some (.int .i64 l[j]):=by
 obtain⟨A',c',e,_,_,_,ha⟩:=h;injection e with e1 e2 e3;subst e1;exact ha h0
theorem Va{base:Nat}(w:World)(e:TypeId)(l:List Value)(hb:base≤w.heap.size)(hm:l.length≤maxLen):
  (w.alloc (.cells l.toArray e)).ownsRow base e 1 (.slice (some ⟨w.heap.size,0,none⟩) l.length l.length) l.length l:=by
 have:=World.ownsRow_lit (e:=e) (size:=1) w l.toArray l.length hb hm (by simp);simpa using this
end Go.Proofs.YtoiabanpnkpbhaaGreatDoor
