/- Parts. -/
import Derived.Deep.AppendSrc
import Derived.Deep.Upon
import Derived.Test.YtoiabanpnkpbhaaGreatDoorM36
set_option linter.unusedVariables false
set_option linter.unusedSimpArgs false
set_option maxRecDepth 100000
set_option maxHeartbeats 8000000
namespace Go.Proofs.YtoiabanpnkpbhaaGreatDoor
open Go.RowKit
theorem Ms{P:Program}(W:World)(t ty e:TypeId)(ht:P.underlying t=some (.slice e))(hinfo:(P.info? e).map (fun i=>(i.zero,i.size,i.bytes))=some (some (.int .i64 0),1,8))
  (X Y:Option Nat) (A:Option Addr) (k:Nat) (src:Value) (l1 l2:List Int) (hk:l1.length=k) (h1:SX W X Y (.slice A k k) l1) (h2:SI W src l2) (hb:l1.length+l2.length≤1000000)
  (hX:∀b,X=some b→b<W.heap.size) (hY:∀b,Y=some b→b<W.heap.size):
  ∃A' c' w',(Builtin.append_ #[t,t] ty #[.slice A k k,src]).run P W= .ok (.slice A' (l1++l2).length c') w'∧Below W.heap.size W w'∧SX w' X Y (.slice A' (l1++l2).length c') (l1++l2):=by
 obtain⟨i0,aI,aR,aJ,aS⟩:=info_parts hinfo;subst hk;obtain⟨As,cs,rfl,hcs,hms,aQ,has⟩:=h2;have aD:Src P i0.size t (.slice As l2.length cs) l2.length (l2.map (Value.int .i64)) W:=by
  rw[aJ];rcases Nat.eq_zero_or_pos l2.length with h0|h0
  ·have aF:l2=[]:=List.eq_nil_of_length_eq_zero h0;subst aF
   cases As with
   |none=>exact Src.ofNil W ht cs
   |some a=>exact Src.ofSlice W ht a 0 cs [] (by simp) (by simp) (by simp)
  ·obtain⟨b,aB,rfl,aL,aA⟩:=has h0;refine Src.ofSlice W ht ⟨b,aB,none⟩ _ cs _ (by simp) (fun j u hu=> ?_) (fun u hu=>by obtain⟨x,_,rfl⟩:=List.mem_map.1 hu;rfl)
   have hj:j<l2.length:=by
    rcases Nat.lt_or_ge j l2.length with h|h
    ·exact h
    ·rw[List.getElem?_eq_none (by simpa using h)] at hu;cases hu
   have ha:(⟨b,aB,none⟩:Addr).add j=⟨b,aB+j,none⟩:=by unfold Addr.add;split<;>simp_all
   rw[ha,aA j hj];simpa [hj] using hu
 rcases Nat.eq_zero_or_pos l2.length with h0|h0
 ·have aF:l2=[]:=List.eq_nil_of_length_eq_zero h0;subst aF;refine⟨A,l1.length,W,?_,Zb _ _,by simpa using h1⟩;have:=run_append_nothing (P:=P) W t t ty e i0 ht aI A l1.length l1.length (Zl _) _ aD;simpa using this
 ·obtain⟨A1,c1,e1,hc1,hm1,aP,aK⟩:=h1;injection e1 with e1 e2 e3;subst e1;have aG:(Builtin.firstCells i0.size l1.length (.slice A l1.length l1.length)).run P W.drew= .ok (l1.map (Value.int .i64)).toArray W.drew:=by
   rw[aJ];rcases Nat.eq_zero_or_pos l1.length with hz|hz
   ·have aN:l1=[]:=List.eq_nil_of_length_eq_zero hz;subst aN
    cases A with
    |none=>exact run_firstCells_none W.drew 1 0 0 0
    |some a=>exact run_firstCells_some W.drew 1 0 a 0 0 [] (by simp) (by simp)
   ·obtain⟨b,aB,rfl,aL,_,_,aA⟩:=aK hz;refine run_firstCells_some W.drew 1 _ ⟨b,aB,none⟩ _ _ _ (by simp) (fun j u hu=> ?_)
    have hj:j<l1.length:=by
     rcases Nat.lt_or_ge j l1.length with h|h
     ·exact h
     ·rw[List.getElem?_eq_none (by simpa using h)] at hu;cases hu
    have ha:(⟨b,aB,none⟩:Addr).add j=⟨b,aB+j,none⟩:=by unfold Addr.add;split<;>simp_all
    rw[ha];have h3:W.cell? ⟨b,aB+j,none⟩=some (.int .i64 l1[j]):=aA j hj;have h4:W.drew.cell? ⟨b,aB+j,none⟩=some (.int .i64 l1[j]):=h3;rw[h4];simpa [hj] using hu
  have aE:Builtin.nextslicecap (l1.length+l2.length) l1.length*i0.bytes≤281474976710656:=by
   rw[aS];have:=nextslicecap_le (need:=l1.length+l2.length) (old:=l1.length) (by omega);omega
  have aH:=run_append_grow_src (P:=P) W t t ty e i0 _ ht aI aR A l1.length l1.length _ aG _ _ _ aD (by omega) (by omega) aE;have aM:=grownCap_ge W (l1.length+l2.length) l1.length e;have aO:=grownCap_le_maxLen W (l1.length+l2.length) l1.length e (by unfold maxLen;omega);have aC:(l1++l2).length=l1.length+l2.length:=by simp
  refine⟨some ⟨W.heap.size,0,none⟩,_,_,by rw[aC];exact aH,?_,?_⟩
  ·exact ((Zb _ W).drew).alloc (Zl _) _
  ·refine⟨_,_,rfl,by rw[aC];exact aM,by unfold maxLen at aO;omega,fun x hx=> ?_,fun _=>⟨W.heap.size,0,rfl,by simp,fun e=>by have:=hX _ e.symm;omega,fun e=>by have:=hY _ e.symm;omega,fun j hj=> ?_⟩⟩
   ·rcases List.mem_append.1 hx with h|h
    ·exact aP x h
    ·exact aQ x h
   ·have hn:=Zh W.drew (.cells ((l1.map (Value.int .i64)++l2.map (Value.int .i64)).toArray++Builtin.zeroCells (Value.int .i64 0).cells (grownCap W (l1.length+l2.length) l1.length e- (l1.length+l2.length))) e);rw[Zc _ W.heap.size (0+j) _ _ _ hn,Nat.zero_add];rw[Array.getElem?_append_left (by simp;omega)];rw[←List.map_append,List.getElem?_toArray,List.getElem?_map,List.getElem?_eq_getElem hj];rfl
theorem Gz{P:Program}(w:World){ops:Array Oper}{o:Oper}{a:Act}{K:Act→World→Prop}{Q:Exit→Act→World→Prop}{E:Prop}(hgd:o.guard=none)(s x:Operand)(t:TypeId)
  (ho:o.op= .call {callee:= .builtin .append,args:= #[s,x],argTypes:= #[t,t]})
  (e:TypeId) (ht:P.underlying t=some (.slice e)) (hinfo:(P.info? e).map (fun i=>(i.zero,i.size,i.bytes))=some (some (.int .i64 0),1,8))
  (X Y:Option Nat) (A:Option Addr) (k:Nat) (src:Value) (l1 l2:List Int) (hs:a.eval s= .slice A k k) (hx:a.eval x=src) (hk:l1.length=k) (h1:SX w X Y (.slice A k k) l1) (h2:SI w src l2) (hb:l1.length+l2.length≤1000000)
  (hX:∀b,X=some b→b<w.heap.size) (hY:∀b,Y=some b→b<w.heap.size)
  (h:∀A' c' w',Below w.heap.size w w'→SX w' X Y (.slice A' (l1++l2).length c') (l1++l2)→K (a.put o.dst (.slice A' (l1++l2).length c')) w'):
  if Region.wanted o (yielded ops a.tmps)=true then Oper.wp P o a w K Q else E:=by
 have hw:Region.wanted o (yielded ops a.tmps)=true:=by simp[Region.wanted,hgd]
 rw[if_pos hw];obtain⟨A',c',w',aB,aA,aC⟩:=Ms (P:=P) w t o.type e ht hinfo X Y A k src l1 l2 hk h1 h2 hb hX hY;unfold Oper.wp execOp;simp only[ho,resolve,invoke,builtin,Sem.run_bind,Sem.run_pure,Result.andThen_ok,List.map_toArray,List.map_cons,List.map_nil,hs,hx,aB];exact h A' c' w' aA aC
open Go.RowKit
def Fg(n:Nat):List Int:=(List.range n).map fun (j:Nat)=>(j:Int)
theorem Wk(n:Nat):Fg (n+1)=Fg n++[(n:Int)]:=by
 unfold Fg;rw[List.range_succ,List.map_append];rfl
theorem Mm(n:Nat):(Fg n).length=n:=by unfold Fg;simp
theorem Uy(n:Nat):∀x∈Fg n,0≤x∧x<(n:Int):=by
 intro x hx;obtain⟨j,hj,rfl⟩:=List.mem_map.1 hx;have:=List.mem_range.1 hj;omega
theorem Tb(n:Nat):(Fg n).Nodup:=by
 unfold Fg;rw[List.Nodup,List.pairwise_map];exact List.Pairwise.imp (fun h e=>h (by omega)) List.nodup_range
theorem zAw{n:Nat}(hn:n≤1000):∀x∈Fg n,At x:=fun x hx=>by have:=Uy n x hx;unfold At;omega
theorem Wm{O R L:List Int}{k:Nat}(hk:k<R.length)(h:(O++R).Perm L):((O++[R[k]])++(R.take k++R.drop (k+1))).Perm L:=by
 refine List.Perm.trans ?_ h;rw[List.append_assoc];refine List.Perm.append_left O ?_;have e:R=R.take k++R[k]::R.drop (k+1):=by
  rw[←List.drop_eq_getElem_cons hk,List.take_append_drop]
 have h2:(R[k]::(R.take k++R.drop (k+1))).Perm (R.take k++R[k]::R.drop (k+1)):=List.perm_middle.symm;exact h2.trans (List.Perm.of_eq e.symm)
def Od1(n B:Nat)(w0:World)(v i:Value)(wr:World):Prop:=∃k:Nat,k≤n∧i= .int .i64 k∧wr.ownsRow B 3 1 v (Fg k).length ((Fg k).map (Value.int .i64))∧Below B w0 wr
def Od2(n g B:Nat)(w0:World)(rv ov:Value)(wr:World):Prop:=
 ∃(vr vo:Value) (R O:List Int),vr=rv∧vo=ov∧(O++R).Perm (Fg n)∧wr.ownsRow B 3 1 vo O.length (O.map (Value.int .i64))∧SX wr (some g) vo.ownBlock vr R∧Dk wr g∧w0.grownBy wr (some g)∧B≤wr.heap.size
def lenV:Value→Nat| .slice _ n _=>n|_=>0
theorem Wl(n g:Nat)(w:World)(hD:Dk w g)(hn:n≤1000):
  Calls Tryz.prog 16 #[.pointer (some ⟨g,0,none⟩),.int .i64 n] w fun e w'=>∃(v:Value) (O:List Int),e= .returned v∧O.Perm (Fg n)∧w'.ownsRow w.heap.size 3 1 v O.length (O.map (Value.int .i64))∧Dk w' g∧w.grownBy w' (some g):=by
 have HD:=Zk hD;have cN:g<w.heap.size:=hD.lt;obtain⟨B,eB⟩:∃B,B=w.heap.size:=⟨_,rfl⟩;have aT:=Zk eB;rw[←eB] at cN⊢;clear hD;obtain⟨i0,cO,cP,cQ,cR⟩:=info_parts Bi;go_enter Tryz.func16,Tryz.ntmps16;go_wp2_with fail;clear eB;go_loopw [5,10] (fun v i wr=>Od1 n B w v i wr) (fun _ i _=>n- (intOf i).toNat)
 case atStart=>exact⟨0,Nat.zero_le _,rfl,by simpa [Fg] using World.ownsRow_nil w B 3 1,Zb _ _⟩
 case round=>
  obtain⟨k,hk,rfl,aB,aI⟩:=hrel;obtain⟨A,c,rfl⟩:=Ct aB;have HO:=Zk aB;have HB:=Zk aI;have bC:B≤wr.heap.size:=by have:=aI.size;have:=aT.out;omega
  clear aB aI;by_cases hlt:k<n
  ·have dk:decide (k<n)=true:=Ze hlt;have hl:(Fg k).length≤1000:=by rw[Mm];omega
   obtain⟨D,hD⟩:∃D,D=Fg k:=⟨_,rfl⟩;rw[←hD] at HO hl⊢;have cJ:Hid (Fg (k+1)=D++[(k:Int)]):=Zk (by show _=_;rw[Wk,←hD]);clear hD;go_wp2_with (at_builtin;refine Bh _ rfl _ _ 22 rfl B 3 Tryz.underlying22 Bi _ D rfl HO.out (k:Int) rfl (by omega) bC ?_;intro v3 w3 aA aO;have aU:=Zk aA;have aG:=Zk aO;clear aA aO);go_roundw
   case rel=>
    refine⟨k+1,by omega,by go_num,by rw[cJ.out];exact aU.out,?_⟩;exact (HB.out.alloc bC _).grown aG.out (by simp;omega) (fun k hk=>(HO.out.lt k hk).1)
   case measure=>simp[intOf];omega
  ·have dk:decide (k<n)=false:=Zd hlt;have bZ:k=n:=by omega
   rw[bZ] at HO⊢;have cI:Hid (w.grownBy wr (some g)):=Zk (Af (by rw[←aT.out];exact HB.out) _);have cG:Hid (Dk wr g):=Zk (HD.out.below (by rw[←aT.out];exact HB.out));have cL:Hid (SX wr (some g) (Value.slice none 0 0).ownBlock (.slice A (Fg n).length c) (Fg n)):=Zk (SX.of_own HO.out (zAw hn) (fun k hk=>by injection hk with e;omega) (fun k hk=>by simp[Value.ownBlock] at hk))
   clear bZ hlt;go_wp2_with fail;go_loopw [5,6] (fun rv ov wz=>Od2 n g B w rv ov wz) (fun rv _ _=>lenV rv)
   case atStart=>exact⟨_,_,Fg n,[],rfl,rfl,by simp,World.ownsRow_nil _ _ _ _,cL.out,cG.out,cI.out,bC⟩
   case round=>
    obtain⟨vr,vo,R,O,rfl,rfl,aE,aB,bL,hd,bY,hB⟩:=hrel;obtain⟨Ar,cr,rfl⟩:=bL.si.form;obtain⟨Ao,co,rfl⟩:=Ct aB;have HP:=Zk aE;have aY:=Zk aB;have cK:=Zk bL;have bO:=Zk hd;have bP:=Zk bY;have hln:O.length+R.length=n:=by have:=aE.length_eq;rw[List.length_append,Mm] at this;exact this
    clear aE aB bL hd bY;by_cases hlt:0<R.length
    ·have dr:decide (0<R.length)=true:=Ze hlt;have bU:decide ((0:Int)<(R.length:Int))=true:=Ze (by omega);have ri:At (R.length:Int):=by unfold At;omega
     have cB:(R.length:Int)≤4611686018427387904:=by omega
     go_wp2_with fail;(with_reducible refine (Cy (R.length:Int) g wr bO.out ri cB).mono ?_)
     rintro e w1 ⟨x,rfl,_,hx,bX,aJ⟩;obtain⟨cS,bN⟩:=hx (by omega);obtain⟨k,rfl⟩:∃k:Nat,x=k:=⟨x.toNat,by omega⟩;have bI:k<R.length:=by omega
     have cE:=Zk bX;have cH:=Zk aJ;have bJ:∀b,(Value.slice Ao O.length co).ownBlock=some b→B≤b∧b<wr.heap.size:=aY.out.lt;have aW:Hid (w1.ownsRow B 3 1 (.slice Ao O.length co) O.length (O.map (Value.int .i64))):=Zk (Bu aY.out fun b hb=>aJ.block b (bJ b hb).2 (by have:=(bJ b hb).1;simp;omega))
     have aZ:Hid (SX w1 (some g) (Value.slice Ao O.length co).ownBlock (.slice Ar R.length cr) R):=Zk (cK.out.keep aJ.size fun b hb h1 h2=>⟨aJ.block b hb h1,h1,h2⟩)
     have HSI1:Hid (SI w1 (.slice Ar R.length cr) R):=aZ.out.si;obtain⟨A',c',e',hrc,hcm,_,bW⟩:=aZ.out;injection e' with e1 e2 e3;subst e1;subst e3;obtain⟨br,aF,rfl,hbr,hbg,hbo,aH⟩:=bW hlt;have ck:=aH k bI;have bQ:Hid (((O++[R[k]])++(R.take k++R.drop (k+1))).Perm (Fg n)):=Wm bI HP.out;have cT:At R[k]:=by
      have h1:R[k]∈Fg n:=HP.out.mem_iff.1 (List.mem_append.2 (.inr (List.getElem_mem bI)));exact zAw hn _ h1
     obtain⟨y,ey⟩:∃y,y=R[k]:=⟨_,rfl⟩;rw[←ey] at ck bQ cT;have hB1:B≤w1.heap.size:=by have:=aJ.size;omega
     have z1:(0:Int)≤(k:Int):=by omega
     have z2:(k:Int)<(R.length:Int):=by omega
     have z3:(k:Int)≤(R.length:Int):=by omega
     have z4:(k:Int)≤(cr:Int):=by omega
     have z5:(k:Int)+1≤(R.length:Int):=by omega
     have z6:IntKind.i64.wrap ((k:Int)+1)=(k:Int)+1:=by exact Zi _ (by omega)
     have hOl:O.length≤1000:=by omega
     clear hx cS bX aJ bJ bW aH ey dr bU ri cB;go_wp2_with (at_builtin;refine wpList_append_own_at _ rfl _ _ 22 rfl B 3 i0 _ 1 8 Tryz.underlying22 cO cP cQ cR rfl (by omega) _ _ _ rfl (aW.out.alloc _) ⟨w1.heap.size,0,none⟩ 1 1 [.int .i64 y] rfl rfl (Ba w1 _ _) (by intro u hu;simp at hu;subst hu;rfl) (by unfold maxLen;omega) (by omega) (by simp;omega) ?_;intro v3 w3 aA aO _ aN;have aU:=Zk aA;have aG:Hid ((w1.alloc (.cells #[.int .i64 y] 3)).grownBy w3 (Value.slice Ao O.length co).ownBlock):=Zk (aO);have cC:Hid (v3.ownBlock=(Value.slice Ao O.length co).ownBlock∨v3.ownBlock=some (w1.alloc (.cells #[.int .i64 y] 3)).heap.size):=Zk (aN);clear aA aO aN);have bE:Below w1.heap.size w1 (w1.alloc (.cells #[.int .i64 y] 3)):=(Zb _ w1).alloc (Zl _) _;have bM:(w1.alloc (.cells #[.int .i64 y] 3)).heap.size=w1.heap.size+1:=by simp
     have bR:Hid (SX w3 (some g) v3.ownBlock (.slice (some ⟨br,aF,none⟩) R.length cr) R):=Zk ((aZ.out.keep (X':=some g) (Y':=(Value.slice Ao O.length co).ownBlock) bE.size fun b hb h1 h2=>⟨bE.block b hb,h1,h2⟩).keep aG.out.size fun b hb h1 h2=>⟨aG.out.block b hb h2,h1,fun e=>by
      rcases cC.out with h3|h3
      ·exact h2 (by rw[e,h3])
      ·rw[h3] at e;injection e with e;omega⟩)
     have bS:Hid (SX w3 (some g) v3.ownBlock (.slice (some ⟨br,aF,none⟩) k k) (R.take k)):=Zk (by
      obtain⟨A2,c2,e2,_,bH,bK,bD⟩:=bR.out;injection e2 with e21 e22 e23;have aD:(R.take k).length=k:=by rw[List.length_take];omega
      refine⟨_,k,by rw[aD],by rw[aD];exact Zl _,by omega,fun x hx=>bK x (List.mem_of_mem_take hx),fun h0=> ?_⟩
      obtain⟨b2,o2,e3,bF,bN,cA,bG⟩:=bD (by omega);rw[←e21] at e3;injection e3 with e3;injection e3 with e31 e32;subst e31 e32;refine⟨br,aF,rfl,bF,bN,cA,fun j hj=> ?_⟩
      rw[bG j (by rw[aD] at hj;omega)];simp)
     have cM:Hid (SI w3 (.slice (some ⟨br,aF+(k+1),none⟩) (R.length- (k+1)) (cr- (k+1))) (R.drop (k+1))):=Zk (by
      obtain⟨A2,c2,e2,hcl2,bH,bK,bD⟩:=bR.out;injection e2 with e21 e22 e23;have aD:(R.drop (k+1)).length=R.length- (k+1):=List.length_drop;refine⟨_,cr- (k+1),by rw[aD],by rw[aD];omega,by omega,fun x hx=>bK x (List.mem_of_mem_drop hx),fun h0=> ?_⟩
      obtain⟨b2,o2,e3,bF,bN,cA,bG⟩:=bD (by omega);rw[←e21] at e3;injection e3 with e3;injection e3 with e31 e32;subst e31 e32;refine⟨br,aF+(k+1),rfl,bF,fun j hj=> ?_⟩
      rw[aD] at hj;rw[Nat.add_assoc,bG (k+1+j) (by omega)];simp)
     have aP:g<w3.heap.size:=by have:=aG.out.size;omega
     have aS:∀b,v3.ownBlock=some b→b<w3.heap.size:=fun b hb=>(aU.out.lt b hb).2
     have bT:=Zk aS;have cD:Hid (w.grownBy w3 (some g)):=Zk (Cv (Ag (Ag bP.out cH.out) (World.grownBy_alloc w1 _ _)) aG.out (fun k hk=>by have:=(aW.out.lt k hk).1;have:=aT.out;omega))
     have cF:Hid (Dk w3 g):=Zk ((cE.out.alloc _).grown aG.out (fun k hk=>by have:=(aW.out.lt k hk).1;omega))
     have aD:(R.take k).length=k:=by rw[List.length_take];omega
     have aM:=Zk aD;have aR:(R.take k).length+(R.drop (k+1)).length≤1000000:=by rw[List.length_drop,aD];omega
     have aL:Hid ((R.take k++R.drop (k+1)).length<R.length):=Zk (by show _<_;rw[List.length_append,List.length_drop,aD];omega);have aX:Hid (w3.ownsRow B 3 1 v3 (O++[y]).length ((O++[y]).map (Value.int .i64))):=Zk (by
      have h:=aU.out;rw[List.length_append,List.map_append];exact h)
     have hB3:B≤w3.heap.size:=by have:=aG.out.size;omega
     have aK:Hid (∀(A':Option Addr) (c':Nat) (w':World),Below w3.heap.size w3 w'→SX w' (some g) v3.ownBlock (.slice A' (R.take k++R.drop (k+1)).length c') (R.take k++R.drop (k+1))→Od2 n g B w (.slice A' (R.take k++R.drop (k+1)).length c') v3 w'):=Zk (fun A' c' w' hb hs=>
      ⟨_,_,R.take k++R.drop (k+1),O++[y],rfl,rfl,bQ.out,Bm aX.out hb,hs,cF.out.below hb,Ag cD.out (Af hb _),by have:=hb.size;omega⟩)
     have z7:(0:Int)≤(k:Int)+1:=by omega
     clear aS aD bE bM z2;by_cases hck:cr=k+1
     ·have bB:Hid (SI w3 (.slice (some ⟨br,aF,none⟩) (R.length- (k+1)) (cr- (k+1))) (R.drop (k+1))):=Zk (by
       have hl:(R.drop (k+1)).length=R.length- (k+1):=List.length_drop;have h0:R.length- (k+1)=0:=by omega
       refine⟨_,cr- (k+1),by rw[hl],by rw[hl];omega,by omega,fun x hx=> ?_,fun h=>by omega⟩
       have:R.drop (k+1)=[]:=List.eq_nil_of_length_eq_zero (by omega);rw[this] at hx;cases hx)
      have hck':(cr=k+1)=True:=eq_true hck;clear hck;go_region_law (refine Gz _ (by rfl) (.tmp 35) _ 22 (by rfl) 3 Tryz.underlying22 Bi (some g) v3.ownBlock (some ⟨br,aF,none⟩) k (.slice (some ⟨br,aF,none⟩) (R.length- (k+1)) (cr- (k+1))) (R.take k) (R.drop (k+1)) (by simp[Act.eval,Act.put,go_sem]) (by simp[Act.eval,Act.put,go_sem]) (by exact aM.out) (by exact bS.out) (by exact bB.out) (by exact aR) (by intro b hb;injection hb with e;subst e;exact aP) (by exact bT.out) ?_;intro A9 c9 w9 aC aQ;have aV:Hid (Below w3.heap.size w3 w9):=Zk (⟨aC.os,aC.tape,aC.output,aC.size,aC.block⟩);have bA:=Zk aQ;clear aC aQ)
      all_goals
       go_wp2_with fail;simp only[Act.put,List.getElem_toArray,List.getElem_cons_succ,List.getElem_cons_zero];go_roundw
       case rel=>
        have h:=aK.out _ _ _ aV.out bA.out;simpa using h
       case measure=>
        have h:=aL.out;simpa [lenV] using h
     ·go_region_law (refine Gz _ (by rfl) (.tmp 35) _ 22 (by rfl) 3 Tryz.underlying22 Bi (some g) v3.ownBlock (some ⟨br,aF,none⟩) k (.slice (some ⟨br,aF+(k+1),none⟩) (R.length- (k+1)) (cr- (k+1))) (R.take k) (R.drop (k+1)) (by simp[Act.eval,Act.put,go_sem]) (by simp[Act.eval,Act.put,go_sem]) (by exact aM.out) (by exact bS.out) (by exact cM.out) (by exact aR) (by intro b hb;injection hb with e;subst e;exact aP) (by exact bT.out) ?_;intro A9 c9 w9 aC aQ;have aV:Hid (Below w3.heap.size w3 w9):=Zk (⟨aC.os,aC.tape,aC.output,aC.size,aC.block⟩);have bA:=Zk aQ;clear aC aQ)
      all_goals
       go_wp2_with fail;simp only[Act.put,List.getElem_toArray,List.getElem_cons_succ,List.getElem_cons_zero];go_roundw
       case rel=>
        have h:=aK.out _ _ _ aV.out bA.out;simpa using h
       case measure=>
        have h:=aL.out;simpa [lenV] using h
    ·have dr:decide (0<R.length)=false:=Zd hlt;have bU:decide ((0:Int)<(R.length:Int))=false:=Zd (by omega);have bV:R=[]:=List.eq_nil_of_length_eq_zero (by omega);have HF:Hid (O.Perm (Fg n)):=Zk (by have:=HP.out;rw[bV,List.append_nil] at this;exact this);clear bV;go_wp2_with fail;go_ret;exact⟨_,O,rfl,HF.out,aY.out,bO.out,bP.out⟩
open Go.RowKit
theorem Uj:∀(xs:List (Bool×Value)) (j:Nat) (h:j<xs.length),(xs.flatMap fun x=>[Value.bool x.1,x.2])[j*2]? =some (.bool xs[j].1)∧(xs.flatMap fun x=>[Value.bool x.1,x.2])[j*2+1]? =some xs[j].2
 |x::t,0,_=>by simp
 |x::t,j+1,h=>by
  have:=Uj t j (by simpa using h);have e1:(j+1)*2=j*2+1+1:=by omega
  have e2:(j+1)*2+1=j*2+1+1+1:=by omega
  refine⟨?_,?_⟩
  ·rw[e1];simpa using this.1
  ·rw[e2];simpa using this.2
open Go.RowKit
theorem SLE.view{g:Nat}{w:World}{v:Value}{rows:List (List Int)}(h:SLE g w v rows)(h0:0<rows.length):∃(ba oa c:Nat) (H:Nat→Value),v= .slice (some ⟨ba,oa,none⟩) rows.length c∧ba<w.heap.size∧
  ∀W,w.grownBy W (some g)→∀j (hj:j<rows.length),W.cell? ⟨ba,oa+j,none⟩=some (H j)∧SE g W (H j) rows[j]∧∃B d,H j= .slice B rows[j].length d:=by
 obtain⟨A,c,rfl,hc,hm,ha⟩:=h;obtain⟨b,aB,rfl,hb,aC,aA⟩:=ha h0;refine⟨b,aB,c,fun j=>(w.cell? ⟨b,aB+j,none⟩).getD undef,rfl,hb,fun W hg j hj=> ?_⟩
 obtain⟨B,d,h1,h2⟩:=aA j hj;have e:(w.cell? ⟨b,aB+j,none⟩).getD undef= .slice B rows[j].length d:=by rw[h1];rfl
 refine⟨?_,?_,B,d,e⟩
 ·show _=some ((w.cell? ⟨b,aB+j,none⟩).getD undef);rw[e];exact (World.cell?_of_block (hg.block b hb (by simp;exact aC))).trans h1
 ·show SE g W ((w.cell? ⟨b,aB+j,none⟩).getD undef) _;rw[e];exact h2.grown hg
theorem Pt{P:Int}{q:List Int}{rows:List (List Int)}{w:Nat}(hp:prB P=true)(hw:w≤64)(hl:q.length=rows.length)(hr:∀r∈rows,r.length=w∧els P r=true)(hq:els P q=true):coE P q rows w=0:=by
 have h1:(rows.all fun r=>decide ((r.length:Int)=(w:Int)))=true:=Hr fun j hj=>Ze (by have:=(hr _ (List.getElem_mem hj)).1;omega)
 unfold coE;rw[hp,if_neg (by simp),if_neg (by omega),if_neg (by omega),h1,if_neg (by simp),hq,if_neg (by simp),Hr (fun j hj=>(hr _ (List.getElem_mem hj)).2),if_neg (by simp)]
open Go.RowKit
def SAE(g:Nat)(w:World)(v:Value)(l:List (Bool×List Int)):Prop:=
 ∃A c,v= .slice A l.length c∧l.length≤c∧c≤9223372036854775807∧
  (0<l.length→∃b off,A=some ⟨b,off,none⟩∧b<w.heap.size∧b≠g∧∀j (h:j<l.length),w.cell? ⟨b,off+j*2,none⟩=some (.bool l[j].1)∧∃vr,w.cell? ⟨b,off+j*2+1,none⟩=some vr∧SE g w vr l[j].2)
theorem SAE.san{g:Nat}{w:World}{v:Value}{l:List (Bool×List Int)}(h:SAE g w v l):SAn w v l:=by
 obtain⟨A,c,rfl,hc,hm,ha⟩:=h;refine⟨A,c,rfl,hc,hm,fun h0=> ?_⟩
 obtain⟨b,aB,rfl,hb,hbg,aA⟩:=ha h0;refine⟨b,aB,rfl,hb,fun j hj=> ?_⟩
 obtain⟨h1,vr,h2,h3⟩:=aA j hj;exact⟨h1,vr,h2,h3.si⟩
theorem SAE.form{g:Nat}{w:World}{v:Value}{l:List (Bool×List Int)}(h:SAE g w v l):∃A c,v= .slice A l.length c:=by
 obtain⟨A,c,rfl,_⟩:=h;exact⟨A,c,rfl⟩
theorem Ln{w:World}{base e size n b cap:Nat}{xs:List Value}(h:w.ownsRow base e size (.slice (some ⟨b,0,none⟩) n cap) n xs)(i:Nat)(u:Value):
  (w.setCell ⟨b,i,none⟩ u).ownsRow base e size (.slice (some ⟨b,0,none⟩) n cap) n (xs.set i u):=by
 obtain⟨hl,h⟩:=h;refine⟨by simp[hl],.inr ?_⟩;rcases h with⟨e1,_⟩|⟨g',cap',cur,e1,hb,hg,aC,aA,aB,ht⟩
 ·cases e1
 ·injection e1 with e1 e2 e3;injection e1 with e1;injection e1 with e1;subst e1 e3;have h1:=heap_setCell_same w b i _ _ u hg;refine⟨b,cap,_,rfl,hb,h1,aC,aA,by simp[aB],?_⟩;rw[←ht];simp[List.take_set]
theorem Cj{w:World}{base e size n:Nat}{v:Value}{xs:List Value}(h:w.ownsRow base e size v n xs){p:Addr}(hp:v.ownBlock≠some p.block)(u:Value):(w.setCell p u).ownsRow base e size v n xs:=
 Bu h fun b hb=>Zo w p b u (fun e=>hp (by rw[hb,e]))
theorem Dm{P:Program}(w:World){ops:Array Oper}{rest:List Oper}{o:Oper}{a:Act}{Q:Exit→Act→World→Prop}(hgd:o.guard=none)(s x:Operand)(t:TypeId)
  (ho:o.op= .call {callee:= .builtin .append,args:= #[s,x],argTypes:= #[t,t]})
  (base:Nat) (e:TypeId) (z:Value) (size by':Nat) (ht:P.underlying t=some (.slice e)) (hinfo:(P.info? e).map (fun i=>(i.zero,i.size,i.bytes))=some (some z,size,by'))
  (v:Value) (n:Nat) (xs:List Value) (hs:a.eval s=v) (hown:w.ownsRow base e size v n xs)
  (news:List Value) (hnl:news.length=size) (h1:∀u∈news,u.oneCell'=true) (b:Nat) (hx:a.eval x= .slice (some ⟨b,0,none⟩) 1 1) (hc:∀j u,news[j]? =some u→w.cell? ⟨b,j,none⟩=some u)
  (hbytes:(n+1)*by'≤140737488355328) (hn:n≤1000000) (hzs:z.cells.size=size) (hsz:0<size) (hbase:base≤w.heap.size)
  (h:∀g aA w',w'.ownsRow base e size (.slice (some ⟨g,0,none⟩) (n+1) aA) (n+1) (xs++news)→w.grownBy w' v.ownBlock→(v.ownBlock=some g∨g=w.heap.size)→wpList P ops Q rest (a.put o.dst (.slice (some ⟨g,0,none⟩) (n+1) aA)) w'):
  wpList P ops Q (o::rest) a w:=by
 obtain⟨i0,aC,aD,aE,aF⟩:=info_parts hinfo;obtain⟨v',w',aB,h2,h3,h4⟩:=Cx (P:=P) w base t o.type e i0 _ size by' ht aC aD aE aF hzs hsz v _ _ hown (b+1) (.slice (some ⟨b,0,none⟩) 1 1) 1 news ⟨_,1,rfl,by omega,fun _=>⟨b,0,rfl,by omega,fun j u hu=>by rw[Nat.zero_add];exact hc j u hu⟩⟩ h1 (by unfold maxLen;omega) hbytes hbase
 rcases h2.2 with⟨_,hn'⟩|⟨g,aA,cur,rfl,hb,hg,hnc,hcm,hcs,htake⟩
 ·omega
 ·refine Lib.wpList_append_run w hgd s x t t ho _ _ hs hx _ w' aB (h g aA w' h2 h3 ?_);rcases h4 with h4|h4
  ·exact .inl h4.symm
  ·exact .inr (by simpa [Value.ownBlock] using h4)
structure AM (C:Nat) (w:World) (pv:Value) (n:Nat) (V:Nat→Value) (K:Nat→Bool) (Cn:Nat→List Int):Prop where
 ans:w.ownsRow C 61 2 pv n ((List.range n).flatMap fun j=>[.bool (K j),if K j then V j else .slice none 0 0])
 row:∀j,j<n→w.ownsRow C 3 1 (V j) (Cn j).length ((Cn j).map (Value.int .i64))
 apl:∀j,j<n→∀q,(V j).ownBlock=some q→pv.ownBlock≠some q
 apart:∀i j,i<n→j<n→i≠j→∀q,(V i).ownBlock=some q→(V j).ownBlock≠some q
theorem AM.keep{C:Nat}{w w':World}{pv:Value}{n:Nat}{V:Nat→Value}{K:Nat→Bool}{Cn:Nat→List Int}(h:AM C w pv n V K Cn)(hk:∀b,C≤b→b<w.heap.size→(pv.ownBlock=some b∨∃j,j<n∧(V j).ownBlock=some b)→w'.heap[b]? =w.heap[b]?):AM C w' pv n V K Cn:=
 ⟨Bu h.ans fun b hb=>hk b (h.ans.lt b hb).1 (h.ans.lt b hb).2 (.inl hb),fun j hj=>Bu (h.row j hj) fun b hb=>hk b ((h.row j hj).lt b hb).1 ((h.row j hj).lt b hb).2 (.inr ⟨j,hj,hb⟩),h.apl,h.apart⟩
theorem AM.grown{C g:Nat}{w w':World}{pv:Value}{n:Nat}{V:Nat→Value}{K:Nat→Bool}{Cn:Nat→List Int}(h:AM C w pv n V K Cn)(hg:w.grownBy w' (some g))(hgC:g<C):AM C w' pv n V K Cn:=
 h.keep fun b h1 h2 _=>hg.block b h2 (by simp;omega)
open Go.RowKit
open Go.RowKit
theorem zFm(l:List Int)(n:Nat)(hn:n≤l.length)(x:Int):ez l x=ez (l.take n) x+x^n*ez (l.drop n) x:=by
 have h:=Iu (l.take n) (l.drop n) x;rw[List.take_append_drop,List.length_take,Nat.min_eq_left hn] at h;exact h
theorem Xd{P y:Int}{T b:List Int}{o:Nat}(h:o+b.length≤T.length)(x:Int):P∣ez (Bl P T o y b) x- (ez T x+y*(x^o*ez b x)):=by
 have h1:=Tv (P:=P) (y:=y) h x;have e1:=zFm (Bl P T o y b) (o+b.length) (by rw[Bg];exact h) x;have e2:=zFm T (o+b.length) h x;have e3:(Bl P T o y b).drop (o+b.length)=T.drop (o+b.length):=by
  refine Cb (by simp[Bg]) fun k hk=> ?_
  have g:∀l:List Int,gd (l.drop (o+b.length)) k=gd l (o+b.length+k):=fun l=>by unfold gd;rw[List.getElem?_drop]
  rw[g,g,Dw _ _ _ _ _ h,if_neg (by omega)]
 rw[e3] at e1;refine Bd h1 ?_;omega
open Go.RowKit
def AnR(P:Int)(rows:List (List Int))(wrong silent:Nat)(L:List (Bool×List Int))(bad:List Int):Prop:=
 L.length=rows.length∧(∀j (h:j<L.length),L[j].1=true→L[j].2.length=(gr rows j).length∧els P L[j].2=true)∧inc bad∧
  (∀x,x∈bad↔∃j,∃h:j<L.length,L[j].1=true∧x=(j:Int)+1∧L[j].2≠gr rows j)∧bad.length≤wrong∧rows.length≤knL L+silent
def MaP(g:Nat)(P:Int)(rows:List (List Int))(wrong silent:Nat)(w:World)(e:Ending)(w':World):Prop:=
 ∃v1 v2 L bad,e= .returned (.tuple #[v1,v2])∧SAE g w' v1 L∧SE g w' v2 bad∧Dk w' g∧w.grownBy w' (some g)∧AnR P rows wrong silent L bad
def Am1(rows:List (List Int))(w1:World)(sv iv:Value)(wr:World):Prop:=
 ∃(k:Nat) (pv:Value) (xs:List Value),pv=sv∧k≤rows.length∧iv= .int .i64 k∧xs.length=k∧wr.ownsRow w1.heap.size 61 2 pv xs.length (xs.flatMap apc)∧
  (∀j (h:j<xs.length),wr.ownsRow w1.heap.size 3 1 xs[j] (gr rows j).length ((gr rows j).map (Value.int .i64)))∧(∀j (h:j<xs.length) q,xs[j].ownBlock=some q→pv.ownBlock≠some q)∧
  (∀i j (hi:i<xs.length) (hj:j<xs.length),i≠j→∀q,xs[i].ownBlock=some q→xs[j].ownBlock≠some q)∧Below w1.heap.size w1 wr
theorem Xi{rows:List (List Int)}{w1 wr w2 w9:World}{k:Nat}{pv v2 pv':Value}{xs:List Value}(hk:k<rows.length)(hxk:xs.length=k)
  (hown:wr.ownsRow w1.heap.size 61 2 pv xs.length (xs.flatMap apc)) (hrow:∀j (h:j<xs.length),wr.ownsRow w1.heap.size 3 1 xs[j] (gr rows j).length ((gr rows j).map (Value.int .i64)))
  (hapl:∀j (h:j<xs.length) q,xs[j].ownBlock=some q→pv.ownBlock≠some q) (hap:∀i j (hi:i<xs.length) (hj:j<xs.length),i≠j→∀q,xs[i].ownBlock=some q→xs[j].ownBlock≠some q) (hb:Below w1.heap.size w1 wr)
  (h2:w2.ownsRow wr.heap.size 3 1 v2 (gr rows k).length ((gr rows k).map (Value.int .i64))) (hb2:Below wr.heap.size wr w2)
  (hg:(w2.alloc (.cells #[.bool true,v2] 61)).grownBy w9 pv.ownBlock) (ho:w9.ownsRow w1.heap.size 61 2 pv' (xs.length+1) (xs.flatMap apc++[.bool true,v2]))
  (hat:∀q,pv'.ownBlock=some q→pv.ownBlock=some q∨q=(w2.alloc (.cells #[.bool true,v2] 61)).heap.size):
  Am1 rows w1 pv' (.int .i64 ((k:Int)+1)) w9:=by
 have hz:=hb.size;have hz2:=hb2.size;have aI:∀q,pv.ownBlock=some q→w1.heap.size≤q∧q<wr.heap.size:=fun q hq=>hown.lt q hq
 have aB:∀q,q<w2.heap.size→pv.ownBlock≠some q→w9.heap[q]? =w2.heap[q]? :=fun q hq aF=>(hg.block q (by simp;omega) (fun e=>aF e.symm)).trans (Below.heap_alloc w2 _ q hq)
 have aH:∀j (h:j<xs.length) q,xs[j].ownBlock=some q→w1.heap.size≤q∧q<wr.heap.size:=fun j h q hq=>(hrow j h).lt q hq
 have aA:∀q,v2.ownBlock=some q→wr.heap.size≤q∧q<w2.heap.size:=fun q hq=>h2.lt q hq
 have aG:∀q,q<w2.heap.size→pv.ownBlock≠some q→pv'.ownBlock≠some q:=fun q hq aF e=>by
  rcases hat q e with h|h
  ·exact aF h
  ·simp at h;omega
 have gx:∀j (h:j<(xs++[v2]).length),(∃h':j<xs.length,(xs++[v2])[j]=xs[j])∨(j=xs.length∧(xs++[v2])[j]=v2):=fun j h=>by
  by_cases hj:j<xs.length
  ·exact .inl ⟨hj,List.getElem_append_left hj⟩
  ·have:j=xs.length:=by simp at h;omega
   subst this;exact .inr ⟨rfl,by simp⟩
 refine⟨k+1,pv',xs++[v2],rfl,by omega,by go_num,by simp[hxk],?_,fun j h=> ?_,fun j h q hq=> ?_,fun i j hi hj aF q aC aD=> ?_,?_⟩
 ·have e:(xs++[v2]).flatMap apc=xs.flatMap apc++[.bool true,v2]:=by simp[apc]
  rw[e,List.length_append];exact ho
 ·rcases gx j h with⟨h',e⟩|⟨h',e⟩
  ·rw[e];have h3:=Bm (hrow j h') hb2;exact Bu h3 fun q hq=>aB q (h3.lt q hq).2 (hapl j h' q hq)
  ·rw[e];have e2:j=k:=by omega
   subst e2;exact Cf (Bu h2 fun q hq=>aB q (aA q hq).2 (fun e3=>by have:=aI q e3;have:=aA q hq;omega)) hz
 ·rcases gx j h with⟨h',e⟩|⟨h',e⟩
  ·rw[e] at hq;exact aG q (by have:=aH j h' q hq;omega) (hapl j h' q hq)
  ·rw[e] at hq;exact aG q (aA q hq).2 (fun e3=>by have:=aI q e3;have:=aA q hq;omega)
 ·rcases gx i hi with⟨h',e⟩|⟨h',e⟩
  ·rcases gx j hj with⟨aE,e'⟩|⟨aE,e'⟩
   ·rw[e] at aC;rw[e'] at aD;exact hap i j h' aE aF q aC aD
   ·rw[e] at aC;rw[e'] at aD;have:=aH i h' q aC;have:=aA q aD;omega
  ·rcases gx j hj with⟨aE,e'⟩|⟨aE,e'⟩
   ·rw[e] at aC;rw[e'] at aD;have:=aH j aE q aD;have:=aA q aC;omega
   ·omega
 ·have h5:Below w1.heap.size w1 w2:=hb.trans (hb2.mono hz);exact (h5.alloc (by omega) _).grown hg (by simp;omega) (fun q hq=>(aI q hq).1)
open Go.RowKit
structure AQ (n:Nat) (P:Int) (rows:List (List Int)) (wrong silent i:Nat) (Oi:List Int) (BL SL:List Nat) (Cn:Nat→List Int):Prop where
 bnd:BL.Nodup
 snd:SL.Nodup
 bo:∀j∈BL,j<n∧(j:Int)∈Oi
 so:∀j∈SL,j<n∧(j:Int)∈Oi
 dis:∀j∈BL,j∉SL
 chg:∀j∈BL,Cn j≠gr rows j
 un:∀j,j∉BL→Cn j=gr rows j
 ln:∀j,(Cn j).length=(gr rows j).length∧els P (Cn j)=true
 cb:BL.length≤min i wrong
 cs:SL.length≤min i (wrong+silent)-wrong
theorem AQ.start{n:Nat}{P:Int}{rows:List (List Int)}{wrong silent:Nat}(h:∀j,els P (gr rows j)=true):AQ n P rows wrong silent 0 [] [] [] (gr rows) where
 bnd:=List.nodup_nil
 snd:=List.nodup_nil
 bo:=fun j hj=>by simp at hj
 so:=fun j hj=>by simp at hj
 dis:=fun j hj=>by simp at hj
 chg:=fun j hj=>by simp at hj
 un:=fun _ _=>rfl
 ln:=fun j=>⟨rfl,h j⟩
 cb:=by simp
 cs:=by simp
theorem AQ.skip{n:Nat}{P:Int}{rows:List (List Int)}{wrong silent i:Nat}{Oi:List Int}{BL SL:List Nat}{Cn:Nat→List Int}(h:AQ n P rows wrong silent i Oi BL SL Cn)(x:Int):AQ n P rows wrong silent (i+1) (Oi++[x]) BL SL Cn where
 bnd:=h.bnd
 snd:=h.snd
 bo:=fun j hj=>⟨(h.bo j hj).1,List.mem_append_left _ (h.bo j hj).2⟩
 so:=fun j hj=>⟨(h.so j hj).1,List.mem_append_left _ (h.so j hj).2⟩
 dis:=h.dis
 chg:=h.chg
 un:=h.un
 ln:=h.ln
 cb:=by have:=h.cb;omega
 cs:=by have:=h.cs;omega
theorem AQ.wrg{n:Nat}{P:Int}{rows:List (List Int)}{wrong silent i:Nat}{Oi:List Int}{BL SL:List Nat}{Cn:Nat→List Int}(h:AQ n P rows wrong silent i Oi BL SL Cn)(hi:i<wrong){j:Nat}(hj:j<n)(hjO:(j:Int)∉Oi){l:List Int}
  (hl:l.length=(gr rows j).length∧els P l=true) (hne:l≠gr rows j):AQ n P rows wrong silent (i+1) (Oi++[(j:Int)]) (j::BL) SL (fun a=>if a=j then l else Cn a) where
 bnd:=List.nodup_cons.2 ⟨fun hm=>hjO (h.bo j hm).2,h.bnd⟩
 snd:=h.snd
 bo:=fun a ha=>by
  rcases List.mem_cons.1 ha with rfl|ha
  ·exact⟨hj,by simp⟩
  ·exact⟨(h.bo a ha).1,List.mem_append_left _ (h.bo a ha).2⟩
 so:=fun a ha=>⟨(h.so a ha).1,List.mem_append_left _ (h.so a ha).2⟩
 dis:=fun a ha hs=>by
  rcases List.mem_cons.1 ha with rfl|ha
  ·exact hjO (h.so a hs).2
  ·exact h.dis a ha hs
 chg:=fun a ha=>by
  by_cases e:a=j
  ·rw[if_pos e,e];exact hne
  ·rw[if_neg e];rcases List.mem_cons.1 ha with rfl|ha
   ·exact absurd rfl e
   ·exact h.chg a ha
 un:=fun a ha=>by
  have e:a≠j:=fun e=>ha (by simp[e])
  rw[if_neg e];exact h.un a fun hm=>ha (by simp[hm])
 ln:=fun a=>by
  by_cases e:a=j
  ·rw[if_pos e,e];exact hl
  ·rw[if_neg e];exact h.ln a
 cb:=by have:=h.cb;simp;omega
 cs:=by have:=h.cs;omega
theorem AQ.sil{n:Nat}{P:Int}{rows:List (List Int)}{wrong silent i:Nat}{Oi:List Int}{BL SL:List Nat}{Cn:Nat→List Int}(h:AQ n P rows wrong silent i Oi BL SL Cn)(hi:wrong≤i∧i<wrong+silent){j:Nat}(hj:j<n)(hjO:(j:Int)∉Oi):
  AQ n P rows wrong silent (i+1) (Oi++[(j:Int)]) BL (j::SL) Cn where
 bnd:=h.bnd
 snd:=List.nodup_cons.2 ⟨fun hm=>hjO (h.so j hm).2,h.snd⟩
 bo:=fun a ha=>⟨(h.bo a ha).1,List.mem_append_left _ (h.bo a ha).2⟩
 so:=fun a ha=>by
  rcases List.mem_cons.1 ha with rfl|ha
  ·exact⟨hj,by simp⟩
  ·exact⟨(h.so a ha).1,List.mem_append_left _ (h.so a ha).2⟩
 dis:=fun a ha hs=>by
  rcases List.mem_cons.1 hs with rfl|hs
  ·exact hjO (h.bo a ha).2
  ·exact h.dis a ha hs
 chg:=h.chg
 un:=h.un
 ln:=h.ln
 cb:=by have:=h.cb;omega
 cs:=by have:=h.cs;simp;omega
theorem Jh{α:Type}(p:α→Bool):∀l:List α,l.length=(l.filter p).length+(l.filter fun a=> !p a).length
 |[]=>rfl
 |x::t=>by
  have:=Jh p t
  cases h:p x<;>simp[h]<;>omega
def maL(n:Nat)(SL:List Nat)(Cn:Nat→List Int):List (Bool×List Int):=(List.range n).map fun (j:Nat)=>if j∈SL then (false,[]) else (true,Cn j)
def maB(n:Nat)(BL:List Nat):List Int:=((List.range n).filter fun (j:Nat)=>decide (j∈BL)).map fun (j:Nat)=>(j:Int)+1
theorem Hy(n:Nat)(SL:List Nat)(Cn:Nat→List Int):(maL n SL Cn).length=n:=by simp[maL]
theorem Hx(n:Nat)(SL:List Nat)(Cn:Nat→List Int)(j:Nat)(h:j<(maL n SL Cn).length):(maL n SL Cn)[j]=if j∈SL then (false,[]) else (true,Cn j):=by simp[maL]
theorem AQ.fin{n:Nat}{P:Int}{rows:List (List Int)}{wrong silent i:Nat}{Oi:List Int}{BL SL:List Nat}{Cn:Nat→List Int}(h:AQ n P rows wrong silent i Oi BL SL Cn)(hn:n=rows.length):AnR P rows wrong silent (maL n SL Cn) (maB n BL):=by
 refine⟨by rw[Hy,hn],fun j hj h1=> ?_,?_,fun x=> ?_,?_,?_⟩
 ·rw[Hx] at h1⊢;by_cases hs:j∈SL
  ·rw[if_pos hs] at h1;cases h1
  ·rw[if_neg hs];exact h.ln j
 ·unfold maB inc;rw[List.pairwise_map];exact List.Pairwise.imp (fun {a b} e=>by omega) (List.pairwise_lt_range.sublist List.filter_sublist)
 ·constructor
  ·intro hx;obtain⟨j,hj,rfl⟩:=List.mem_map.1 hx;obtain⟨h1,h2⟩:=List.mem_filter.1 hj;have hb:j∈BL:=by simpa using h2
   have aA:=(h.bo j hb).1;refine⟨j,by rw[Hy];exact aA,?_,rfl,?_⟩
   ·rw[Hx,if_neg (h.dis j hb)]
   ·rw[Hx,if_neg (h.dis j hb)];exact h.chg j hb
  ·rintro⟨j,hj,h1,rfl,h2⟩;rw[Hx] at h1 h2;by_cases hs:j∈SL
   ·rw[if_pos hs] at h1;cases h1
   ·rw[if_neg hs] at h2;refine List.mem_map.2 ⟨j,List.mem_filter.2 ⟨List.mem_range.2 (by rw[Hy] at hj;exact hj),?_⟩,rfl⟩;by_cases hb:j∈BL
    ·simpa using hb
    ·exact absurd (h.un j hb) h2
 ·have h1:(maB n BL).length=((List.range n).filter fun (j:Nat)=>decide (j∈BL)).length:=by unfold maB;rw[List.length_map]
  have h2:((List.range n).filter fun (j:Nat)=>decide (j∈BL)).length≤BL.length:=Hz _ _ (List.nodup_range.sublist List.filter_sublist) fun x hx=>by simpa using (List.mem_filter.1 hx).2
  have:=h.cb;omega
 ·have h1:knL (maL n SL Cn)=((List.range n).filter fun (j:Nat)=> !decide (j∈SL)).length:=by
   unfold knL maL;rw[List.filter_map,List.length_map];congr 1;refine List.filter_congr fun j _=> ?_
   by_cases h:j∈SL<;>simp[h]
  have h2:((List.range n).filter fun (j:Nat)=>decide (j∈SL)).length≤SL.length:=Hz _ _ (List.nodup_range.sublist List.filter_sublist) fun x hx=>by simpa using (List.mem_filter.1 hx).2
  have h3:=Jh (fun (j:Nat)=>decide (j∈SL)) (List.range n)
  have:=h.cs;rw[List.length_range] at h3;rw[h1,←hn];omega
theorem Ok{n:Nat}(f:Nat→Value×Value):∀j,j<n→((List.range n).flatMap fun j=>[(f j).1,(f j).2])[j*2]? =some (f j).1∧((List.range n).flatMap fun j=>[(f j).1,(f j).2])[j*2+1]? =some (f j).2:=by
 have aA:∀(l:List Nat) (j:Nat) (h:j<l.length),(l.flatMap fun j=>[(f j).1,(f j).2])[j*2]? =some (f l[j]).1∧(l.flatMap fun j=>[(f j).1,(f j).2])[j*2+1]? =some (f l[j]).2:=by
  intro l;induction l with
  |nil=>intro j h;simp at h
  |cons x t ih=>
   intro j h
   cases j with
   |zero=>simp
   |succ j=>
    have:=ih j (by simpa using h);have e1:(j+1)*2=j*2+1+1:=by omega
    have e2:(j+1)*2+1=j*2+1+1+1:=by omega
    refine⟨?_,?_⟩
    ·rw[e1];simpa using this.1
    ·rw[e2];simpa using this.2
 intro j hj;have:=aA (List.range n) j (by simpa using hj);simpa using this
theorem zCy{n:Nat}(f:Nat→Value×Value)(j:Nat)(hj:j<n)(a b:Value):(((List.range n).flatMap fun j=>[(f j).1,(f j).2]).set (j*2) a).set (j*2+1) b=(List.range n).flatMap fun q=>[(if q=j then (a,b) else f q).1,(if q=j then (a,b) else f q).2]:=by
 have aA:∀(F:Nat→Value×Value) (l:List Nat),(l.flatMap fun j=>[(F j).1,(F j).2]).length=l.length*2:=fun F l=>by
  induction l with
  |nil=>rfl
  |cons x t ih=>simp[ih];omega
 refine List.ext_getElem? fun p=> ?_
 by_cases hp:p/2<n
 ·have h1:=Ok f (p/2) hp;have h2:=Ok (fun q=>if q=j then (a,b) else f q) (p/2) hp
  rcases Nat.mod_two_eq_zero_or_one p with h0|h0
  ·have e:p=p/2*2:=by omega
   rw[←e] at h1 h2;rw[h2.1,List.getElem?_set];by_cases hq:p/2=j
   ·rw[if_neg (by omega),List.getElem?_set,if_pos (by omega),if_pos (by rw[aA];simp;omega),if_pos hq]
   ·rw[if_neg (by omega),List.getElem?_set,if_neg (by omega),h1.1,if_neg hq]
  ·have e:p=p/2*2+1:=by omega
   rw[←e] at h1 h2;rw[h2.2,List.getElem?_set];by_cases hq:p/2=j
   ·rw[if_pos (by omega),if_pos (by rw[List.length_set,aA];simp;omega),if_pos hq]
   ·rw[if_neg (by omega),List.getElem?_set,if_neg (by omega),h1.2,if_neg hq]
 ·rw[List.getElem?_eq_none (by rw[List.length_set,List.length_set,aA];simp;omega),List.getElem?_eq_none (by rw[aA (fun q=>if q=j then (a,b) else f q)];simp;omega)]
theorem AM.fl{C:Nat}{w:World}{pv:Value}{n:Nat}{V:Nat→Value}{K:Nat→Bool}{Cn:Nat→List Int}(h:AM C w pv n V K Cn):w.ownsRow C 61 2 pv n ((List.range n).flatMap fun j=>[(Value.bool (K j),if K j then V j else .slice none 0 0).1,(Value.bool (K j),if K j then V j else .slice none 0 0).2]):=h.ans
theorem AM.chg{C:Nat}{w:World}{pv:Value}{n:Nat}{V:Nat→Value}{K:Nat→Bool}{Cn:Nat→List Int}(h:AM C w pv n V K Cn){j:Nat}(hj:j<n){q l cap:Nat}(hV:V j= .slice (some ⟨q,0,none⟩) l cap)(c:Nat)(y:Int):
  AM C (w.setCell ⟨q,c,none⟩ (.int .i64 y)) pv n V K (fun a=>if a=j then (Cn j).set c y else Cn a):=by
 have hq:(V j).ownBlock=some q:=by rw[hV];rfl
 refine⟨Cj h.ans (h.apl j hj q hq) _,fun a ha=> ?_,h.apl,h.apart⟩
 by_cases e:a=j
 ·subst e;have h1:=h.row a ha;have hl:l=(Cn a).length:=by
   rw[hV] at h1;rcases h1.2 with⟨e1,_⟩|⟨g',cap',cur,e1,_⟩
   ·cases e1
   ·injection e1
  rw[hV] at h1⊢;subst hl;have h2:=Ln h1 c (.int .i64 y);rw[if_pos rfl,List.length_set,List.map_set];exact h2
 ·rw[if_neg e];exact Cj (h.row a ha) (h.apart j a hj ha (fun e2=>e e2.symm) q hq) _
theorem AM.sil{C:Nat}{w:World}{n:Nat}{V:Nat→Value}{K:Nat→Bool}{Cn:Nat→List Int}{L cap:Nat}(h:AM C w (.slice (some ⟨L,0,none⟩) n cap) n V K Cn){j:Nat}(hj:j<n):
  AM C ((w.setCell ⟨L,j*2,none⟩ (.bool false)).setCell ⟨L,j*2+1,none⟩ (.slice none 0 0)) (.slice (some ⟨L,0,none⟩) n cap) n V (fun a=>if a=j then false else K a) Cn:=by
 refine⟨?_,fun a ha=>Cj (Cj (h.row a ha) (fun e=>h.apl a ha L e rfl) _) (fun e=>h.apl a ha L e rfl) _,h.apl,h.apart⟩
 have h1:=Ln (Ln h.fl (j*2) (.bool false)) (j*2+1) (.slice none 0 0);rw[zCy (fun j=>(Value.bool (K j),if K j then V j else .slice none 0 0)) j hj] at h1
 have e:((List.range n).flatMap fun q=>[(if q=j then (Value.bool false,Value.slice none 0 0) else (Value.bool (K q),if K q then V q else .slice none 0 0)).1,(if q=j then (Value.bool false,Value.slice none 0 0) else (Value.bool (K q),if K q then V q else .slice none 0 0)).2])=
   (List.range n).flatMap fun a=>[Value.bool (if a=j then false else K a),if (if a=j then false else K a) then V a else .slice none 0 0]:=by
  congr 1;funext a;by_cases e:a=j<;>simp[e]
 rw[e] at h1;exact h1
theorem AM.oth{C:Nat}{w:World}{pv:Value}{n:Nat}{V:Nat→Value}{K:Nat→Bool}{Cn:Nat→List Int}(h:AM C w pv n V K Cn){p:Addr}(hp:pv.ownBlock≠some p.block)(hv:∀j,j<n→(V j).ownBlock≠some p.block)(u:Value):AM C (w.setCell p u) pv n V K Cn:=
 ⟨Cj h.ans hp u,fun j hj=>Cj (h.row j hj) (hv j hj) u,h.apl,h.apart⟩
theorem AM.cells{C:Nat}{w:World}{n:Nat}{V:Nat→Value}{K:Nat→Bool}{Cn:Nat→List Int}{L cap:Nat}(h:AM C w (.slice (some ⟨L,0,none⟩) n cap) n V K Cn){j:Nat}(hj:j<n):
  w.cell? ⟨L,j*2,none⟩=some (.bool (K j))∧w.cell? ⟨L,j*2+1,none⟩=some (if K j then V j else .slice none 0 0):=by
 have h1:=Ok (n:=n) (fun j=>(Value.bool (K j),if K j then V j else .slice none 0 0)) j hj
 have hl:((List.range n).flatMap fun j=>[(Value.bool (K j),if K j then V j else Value.slice none 0 0).1,(Value.bool (K j),if K j then V j else Value.slice none 0 0).2]).length=n*2:=h.fl.1
 have h2:=h.fl.cellAt (j*2) (by omega);have h3:=h.fl.cellAt (j*2+1) (by omega);exact⟨h2.trans h1.1,h3.trans h1.2⟩
theorem Gl{w:World}{base e size n b cap:Nat}{xs:List Value}(h:w.ownsRow base e size (.slice (some ⟨b,0,none⟩) n cap) n xs)(i:Nat):w.frozen? ⟨b,i,none⟩=false:=by
 rcases h.2 with⟨e1,_⟩|⟨g',cap',cur,e1,hb,hg,_⟩
 ·cases e1
 ·injection e1 with e1 e2 e3;injection e1 with e1;injection e1 with e1;subst e1;exact Zf w b i _ _ hg
theorem AM.sae{C g:Nat}{w:World}{pv:Value}{n:Nat}{V:Nat→Value}{SL:List Nat}{Cn:Nat→List Int}(h:AM C w pv n V (fun a=> !decide (a∈SL)) Cn)(hg:g<C)(hr:∀j,∀x∈Cn j,At x)(hn:1≤n):SAE g w pv (maL n SL Cn):=by
 rcases h.ans.2 with⟨_,e⟩|⟨L,aB,cur,rfl,hb,aD,aE,aC,_⟩
 ·omega
 ·refine⟨some ⟨L,0,none⟩,aB,by rw[Hy],by rw[Hy];exact aE,by simpa [maxLen] using aC,fun _=>⟨L,0,rfl,(Array.getElem?_eq_some_iff.1 aD).1,by omega,fun j hj=> ?_⟩⟩
  have aA:j<n:=by rw[Hy] at hj;exact hj
  obtain⟨h1,h2⟩:=h.cells aA;rw[Nat.zero_add];by_cases hs:j∈SL
  ·have e:(maL n SL Cn)[j]=(false,[]):=by rw[Hx,if_pos hs]
   rw[e];simp only[hs,decide_true,Bool.not_true,Bool.false_eq_true,if_false] at h1 h2;exact⟨h1,_,h2,⟨none,0,rfl,Zl _,by omega,fun x hx=>by simp at hx,fun h=>by simp at h⟩⟩
  ·have e:(maL n SL Cn)[j]=(true,Cn j):=by rw[Hx,if_neg hs]
   rw[e];simp only[hs,decide_false,Bool.not_false,if_true] at h1 h2;exact⟨h1,_,h2,SE.of_own (h.row j aA) (hr j) hg⟩
theorem zFj:(Tryz.prog.info? 4).map (fun i=>(i.zero,i.size,i.bytes))=some (some (.bool false),1,1):=by kernel_rfl
theorem Wi(n:Nat):madeCells (Value.bool false).cells n=((List.range n).map fun (j:Nat)=>Value.bool (decide (j∈([]:List Nat)))).toArray:=by
 apply Array.toList_inj.1;show (madeCells #[Value.bool false] n).toList=_;rw[toList_madeCells_one];refine List.ext_getElem (by simp) fun j h1 h2=>by simp
theorem Fo{P:Program}(w:World){ops:Array Oper}{rest:List Oper}{o:Oper}{a:Act}{Q:Exit→Act→World→Prop}
  (hg:o.guard=none) (l c:Operand) (t:TypeId) (hop:o.op=Op.makeSlice t l c) (e:TypeId) (ht:P.underlying t=some (.slice e)) (hinfo:(P.info? e).map (fun i=>(i.zero,i.size,i.bytes))=some (some (.bool false),1,1))
  (L:Int) (n:Nat) (hl:a.eval l= .int .i64 L) (hc:a.eval c= .int .i64 L) (hL:L=(n:Int)) (hn:n≤10000000)
  (hK:wpList P ops Q rest (a.put o.dst (.slice (some ⟨w.heap.size,0,none⟩) n n)) (w.alloc (.cells ((List.range n).map fun (j:Nat)=>Value.bool (decide (j∈([]:List Nat)))).toArray e))):
  wpList P ops Q (o::rest) a w:=by
 obtain⟨i0,aD,aE,aC,aF⟩:=info_parts hinfo;subst hL;have aA:=run_makeSlice (P:=P) w t e i0 _ ht aD aE .i64 .i64 n n (by omega) (Int.le_refl _) (by rw[aC];simp;omega) (by rw[aF];omega) (by omega);simp only[Int.toNat_natCast] at aA;rw[aC,Nat.mul_one,Wi n] at aA;refine wpList_plain hg fun K aB=> ?_
 unfold Oper.wp;simp only[execOp,hop,hl,hc,aA,Result.andThen,Sem.run_bind,Sem.run_pure];first
  |exact aB _ _ hK
  |(simp[aA,Result.andThen];exact aB _ _ hK)
def BBk(w:World)(B n:Nat)(BL:List Nat):Prop:=w.heap[B]? =some (.cells ((List.range n).map fun (j:Nat)=>Value.bool (decide (j∈BL))).toArray 4 (0,0))
theorem BBk.lt{w:World}{B n:Nat}{BL:List Nat}(h:BBk w B n BL):B<w.heap.size:=Ae h
theorem BBk.cell{w:World}{B n:Nat}{BL:List Nat}(h:BBk w B n BL){j:Nat}(hj:j<n):w.cell? ⟨B,j,none⟩=some (.bool (decide (j∈BL))):=by
 rw[Zc w B j _ _ _ h];simp[hj]
theorem BBk.frozen{w:World}{B n:Nat}{BL:List Nat}(h:BBk w B n BL)(j:Nat):w.frozen? ⟨B,j,none⟩=false:=Zf w B j _ _ h
theorem BBk.set{w:World}{B n:Nat}{BL:List Nat}(h:BBk w B n BL)(j:Nat):BBk (w.setCell ⟨B,j,none⟩ (.bool true)) B n (j::BL):=by
 unfold BBk;rw[heap_setCell_same w B j _ _ _ h];congr 2;apply Array.toList_inj.1;refine List.ext_getElem (by simp) fun q h1 h2=> ?_
 simp;by_cases e:j=q
 ·simp[e]
 ·have e2:¬q=j:=fun h=>e h.symm
  simp[e,e2]
theorem BBk.oth{w:World}{B n:Nat}{BL:List Nat}(h:BBk w B n BL){p:Addr}(hp:p.block≠B)(u:Value):BBk (w.setCell p u) B n BL:=(Zo w p B u (by omega)).trans h
theorem BBk.grown{w w':World}{B n g:Nat}{BL:List Nat}(h:BBk w B n BL)(hg:w.grownBy w' (some g))(hne:B≠g):BBk w' B n BL:=(hg.block B h.lt (by simp;exact hne)).trans h
theorem am_of{rows:List (List Int)}{C:Nat}{wr:World}{pv:Value}{xs:List Value}{n:Nat}(hl:xs.length=n)(hown:wr.ownsRow C 61 2 pv xs.length (xs.flatMap apc))(hrow:∀j (h:j<xs.length),wr.ownsRow C 3 1 xs[j] (gr rows j).length ((gr rows j).map (Value.int .i64)))
  (hapl:∀j (h:j<xs.length) q,xs[j].ownBlock=some q→pv.ownBlock≠some q) (hap:∀i j (hi:i<xs.length) (hj:j<xs.length),i≠j→∀q,xs[i].ownBlock=some q→xs[j].ownBlock≠some q):
  AM C wr pv n (fun j=>(xs[j]?).getD undef) (fun a=> !decide (a∈([]:List Nat))) (gr rows):=by
 have e:∀j (h:j<n),(xs[j]?).getD undef=xs[j]'(by omega):=fun j h=>by rw[List.getElem?_eq_getElem (by omega)];rfl
 refine⟨?_,fun j hj=> ?_,fun j hj q hq=> ?_,fun i j hi hj aC q aA aB=> ?_⟩
 ·rw[hl] at hown;have e2:xs.flatMap apc=(List.range n).flatMap fun j=>[Value.bool (!decide (j∈([]:List Nat))),if (!decide (j∈([]:List Nat)))=true then (xs[j]?).getD undef else .slice none 0 0]:=by
   have e3:xs=(List.range n).map fun j=>(xs[j]?).getD undef:=by
    refine List.ext_getElem (by simp[hl]) fun j h1 h2=> ?_
    simp[List.getElem?_eq_getElem h1]
   have e4:∀l:List Nat,(l.map fun j=>(xs[j]?).getD undef).flatMap apc=l.flatMap fun j=>[Value.bool (!decide (j∈([]:List Nat))),if (!decide (j∈([]:List Nat)))=true then (xs[j]?).getD undef else .slice none 0 0]:=fun l=>by
    induction l with
    |nil=>rfl
    |cons x t ih=>rw[List.map_cons,List.flatMap_cons,List.flatMap_cons,ih];simp[apc]
   calc xs.flatMap apc=((List.range n).map fun j=>(xs[j]?).getD undef).flatMap apc:=by rw[←e3]
    _=_:=e4 _
  rw[e2] at hown;exact hown
 ·rw[e j hj];exact hrow j (by omega)
 ·rw[e j hj] at hq;exact hapl j (by omega) q hq
 ·rw[e i hi] at aA;rw[e j hj] at aB;exact hap i j (by omega) (by omega) aC q aA aB
theorem zEa{k:Nat}{BL:List Nat}(h:k∈BL):maB (k+1) BL=maB k BL++[(k:Int)+1]:=by
 unfold maB;rw[List.range_succ,List.filter_append,List.map_append];simp[h]
theorem zHf{k:Nat}{BL:List Nat}(h:k∉BL):maB (k+1) BL=maB k BL:=by
 unfold maB;rw[List.range_succ,List.filter_append,List.map_append];simp[h]
theorem zAq(n:Nat)(BL:List Nat):(maB n BL).length≤n∧∀x∈maB n BL,1≤x∧x≤(n:Int):=by
 unfold maB;refine⟨?_,fun x hx=> ?_⟩
 ·rw[List.length_map];exact Nat.le_trans (List.length_filter_le _ _) (by simp)
 ·obtain⟨j,hj,rfl⟩:=List.mem_map.1 hx;have:=List.mem_range.1 (List.mem_filter.1 hj).1;omega
def Am3(n:Nat)(BL:List Nat)(wy:World)(v iv:Value)(wz:World):Prop:=
 ∃k:Nat,k≤n∧iv= .int .i64 k∧wz.ownsRow wy.heap.size 3 1 v (maB k BL).length ((maB k BL).map (Value.int .i64))∧Below wy.heap.size wy wz
open Go.RowKit
def Am2(rows:List (List Int))(n:Nat)(P:Int)(wrong silent:Nat)(O:List Int)(C D B g:Nat)(pv vo:Value)(V:Nat→Value)(w1:World)(iv:Value)(wr:World):Prop:=
 ∃(i:Nat) (BL SL:List Nat) (Cn:Nat→List Int),i≤n∧iv= .int .i64 i∧AQ n P rows wrong silent i (O.take i) BL SL Cn∧AM C wr pv n V (fun a=> !decide (a∈SL)) Cn∧BBk wr B n BL∧wr.ownsRow D 3 1 vo O.length (O.map (Value.int .i64))∧Dk wr g∧w1.grownBy wr (some g)
theorem Nl(g wrong silent:Nat)(P:Int)(rows:List (List Int))(v:Value)(w:World)(hD:Dk w g)(hP:2≤P∧P≤65521)(hr:SLE g w v rows)(hel:∀r∈rows,els P r=true∧r.length≤1000)(hn1:1≤rows.length)(hn:rows.length≤100)(hwr:wrong≤1000∧silent≤1000):
  Calls Tryz.prog 35 #[.pointer (some ⟨g,0,none⟩),.agg #[.int .i64 P],v,.int .i64 wrong,.int .i64 silent] w (MaP g P rows wrong silent w):=by
 have HEL:=Zk hel;obtain⟨br,fU,cr,H,rfl,hbr,aR⟩:=hr.view (by omega);have HV:Hid (∀W,w.grownBy W (some g)→∀j,j<rows.length→W.cell? ⟨br,fU+j,none⟩=some (H j)∧SE g W (H j) (gr rows j)∧∃B d,H j= .slice B (gr rows j).length d):=Zk (fun W hg j hj=>by
  have e:gr rows j=rows[j]:=by unfold gr;rw[List.getElem?_eq_getElem hj];rfl
  rw[e];exact aR W hg j hj)
 have cC:Hid (∀j,els P (gr rows j)=true∧(gr rows j).length≤1000):=Zk (fun j=>by
  unfold gr
  cases h:rows[j]? with
  |none=>simp[els]
  |some r=>exact hel r (List.mem_of_getElem? h))
 go_enter Tryz.func35,Tryz.ntmps35;obtain⟨F,eF⟩:∃F,F=w.heap.size:=⟨_,rfl⟩;obtain⟨w1,ew⟩:∃w1:World,w1=w.alloc (.cells #[.int .i64 P] 31):=⟨_,rfl⟩;have fE:Hid (w.alloc (.cells #[.int .i64 P] 31)=w1):=ew.symm;have cU:Hid (Below w.heap.size w w1):=Zk (by rw[ew];exact (Zb _ w).alloc (Zl _) _);have bZ:Hid (w1.heap[F]? =some (.cells #[.int .i64 P] 31 (0,0))):=Zk (by show _=_;rw[ew,eF];exact Zh w _);have cV:Hid (Dk w1 g):=hD.below cU.out;have eT:Hid (g<F):=Zk (by rw[eF];exact hD.lt);have aK:Hid (g<w1.heap.size):=cV.out.lt;have aT:Hid (w.grownBy w1 (some g)):=Zk (Af cU.out _);have HEF:=Zk eF;clear hD hel aR;go_upto_region 2 with fail
 rw[fE.out,←eF];clear ew eF;go_wp2_with fail;go_loopw [12,24] (fun v iv wr=>Am1 rows w1 v iv wr) (fun _ iv _=>rows.length- (intOf iv).toNat)
 case atStart=>exact⟨0,_,[],rfl,Nat.zero_le _,rfl,rfl,World.ownsRow_nil _ _ _ _,fun j h=>by simp at h,fun j h=>by simp at h,fun i j h=>by simp at h,Zb _ _⟩
 case round=>
  obtain⟨k,pv,xs,rfl,hk,rfl,eI,aF,aL,bE,dN,hb⟩:=hrel;have aJ:=Zk aF;have cF:=Zk aL;have bR:=Zk bE;have bU:=Zk dN;have HB:=Zk hb;have cH:=Zk eI;have hz:=hb.size;have hxl:xs.length≤100:=by omega
  have cY:Hid (w.grownBy wr (some g)):=Zk (Ag aT.out (Af hb _));clear aF aL bE dN hb eI;by_cases hlk:k<rows.length
  ·have dk:decide (k<rows.length)=true:=Ze hlk;obtain⟨ck,cT,B,d,eH⟩:=HV.out wr cY.out k hlk;rw[eH] at ck cT;have dE:Hid (SI wr (.slice B (gr rows k).length d) (gr rows k)):=Zk (cT.si);obtain⟨r,er⟩:∃r,r=gr rows k:=⟨_,rfl⟩;have hrl:r.length≤1000:=by rw[er];exact (cC.out k).2
   have eQ:=Zk er;rw[←er] at ck dE;clear cT eH er;go_wp2_with (at_builtin;first
    |(refine Bv _ rfl _ _ 22 rfl wr.heap.size 3 Tryz.underlying22 Bi (.slice none 0 0) [] rfl (World.ownsRow_nil _ _ _ _) _ _ r rfl dE.out (by simp;omega) (Zl _) ?_;intro v2 w2 aC bA;rw[List.nil_append] at aC;obtain⟨A2,c2,fM⟩:=Dd aC;subst fM;have eY:=Zk aC;have bW:Hid (Below wr.heap.size wr w2):=Zk (⟨bA.os,bA.tape,bA.output,bA.size,fun i hi=>bA.block i hi (by simp[Value.ownBlock])⟩);clear aC bA)
    |(refine Dm _ rfl _ _ 59 rfl w1.heap.size 61 _ 2 32 Tryz.underlying59 Xj pv xs.length (xs.flatMap apc) rfl ((Bm aJ.out bW.out).alloc _) [.bool true,.slice A2 r.length c2] rfl (by intro u hu;simp at hu;rcases hu with rfl|rfl<;>rfl) w2.heap.size rfl (fun j u hu=>by have h:=Ba w2 [.bool true,.slice A2 r.length c2] 61 j u hu;rw[Jd] at h;exact h) (by omega) (by omega) rfl (by omega) (by have:=bW.out.size;simp;omega) ?_;intro g9 cap9 w9 aQ dW bF;have eZ:=Zk aQ;have eS:=Zk dW;have eK:=Zk bF;clear aQ dW bF))
   go_roundw
   case rel=>
    exact Xi hlk cH.out aJ.out cF.out bR.out bU.out HB.out (by rw[←eQ.out];exact eY.out) bW.out eS.out eZ.out (fun q hq=>by
     have e:g9=q:=by simpa [Value.ownBlock] using hq
     subst e;exact eK.out)
   case measure=>simp[intOf];omega
  ·have dk:decide (k<rows.length)=false:=Zd hlk;have eC:k=rows.length:=by omega
   have aM:=Zk (am_of (rows:=rows) (C:=w1.heap.size) (wr:=wr) (pv:=pv) (xs:=xs) (n:=rows.length) (by rw[cH.out,eC]) aJ.out cF.out bR.out bU.out);obtain⟨V,eV⟩:∃V:Nat→Value,V=fun j=>(xs[j]?).getD undef:=⟨_,rfl⟩
   rw[←eV] at aM;obtain⟨wq,dI⟩:∃wq:World,wq=wr:=⟨_,rfl⟩;rw[←dI] at aM HB cY hz⊢;clear eC aJ cF bR bU cH eV dI;have eP:Hid (Dk wq g):=cV.out.below HB.out;have bD:=aM.out.ans;rcases bD.2 with⟨_,h0⟩|⟨Lb,aV,fI,fR,hLb,_⟩
   ·omega
   subst fR;obtain⟨n,en⟩:∃n,n=rows.length:=⟨_,rfl⟩;have cW:=Zk en;rw[←en] at aM hn1 hn dk⊢;obtain⟨B,eB⟩:∃B,B=wq.heap.size:=⟨_,rfl⟩;obtain⟨w3,bO⟩:∃w3:World,w3=wq.alloc (.cells ((List.range n).map fun (j:Nat)=>Value.bool (decide (j∈([]:List Nat)))).toArray 4):=⟨_,rfl⟩
   have fF:Hid (wq.alloc (.cells ((List.range n).map fun (_:Nat)=>Value.bool false).toArray 4)=w3):=Zk (by show _=_;rw[bO];simp)
   have bB:Hid (BBk w3 B n []):=Zk (by rw[bO,eB];exact Zh wq _);have bX:Hid (Below wq.heap.size wq w3):=Zk (by rw[bO];exact (Zb _ wq).alloc (Zl _) _);have eL:=Zk (eP.out.below bX.out);have bS:Hid (AM w1.heap.size w3 (.slice (some ⟨Lb,0,none⟩) n aV) n V (fun a=> !decide (a∈([]:List Nat))) (gr rows)):=Zk (aM.out.grown (Af bX.out (some g)) aK.out)
   have dA:Hid (Lb<B∧w1.heap.size≤Lb):=Zk (by
    have:=aM.out.ans.lt Lb rfl;rw[eB];exact⟨this.2,this.1⟩)
   have bK:Hid (∀j,j<n→∀q,(V j).ownBlock=some q→q<B∧w1.heap.size≤q∧q≠Lb):=Zk (fun j hj q hq=>by
    have h1:=(aM.out.row j hj).lt q hq;rw[eB];exact⟨h1.2,h1.1,fun e=>aM.out.apl j hj q hq (by rw[e];rfl)⟩)
   have aN:Hid (w1.heap.size≤B∧B<w3.heap.size):=Zk (⟨by rw[eB];exact hz,bB.out.lt⟩);have HEBq:=Zk eB;clear bD en hlk;go_upto_region 7 with fail
   go_wp2_with (at_make;refine Fo _ rfl _ _ 97 rfl 4 Tryz.underlying97 zFj _ n rfl rfl rfl (by omega) ?_);rw[fF.out,←eB];clear bO eB;(with_reducible refine (Wl n g w3 eL.out (by omega)).mono ?_)
   rintro e w4 ⟨vo,O,rfl,aD,aI,dR,bQ⟩;have cN:O.length=n:=by have h1:=aD.length_eq;rwa [Mm] at h1
   have fC:Hid (O.Nodup):=Zk (aD.nodup_iff.2 (Tb n));have fA:Hid (∀j∈O,0≤j∧j<(n:Int)):=Zk (fun j hj=>Uy n j (aD.mem_iff.1 hj))
   have cE:=Zk cN;rcases aI.2 with⟨_,h0⟩|⟨bo,co,curO,fS,dQ,_⟩
   ·omega
   subst fS;have dB:=Zk aI;have eM:=Zk dR;have bT:=Zk (bS.out.grown bQ aK.out);have bY:Hid (BBk w4 B n []):=Zk (bB.out.grown bQ (by have:=aN.out.1;have:=aK.out;omega));have eR:Hid (w1.grownBy w4 (some g)):=Zk (Ag (Ag (Af HB.out _) (Af bX.out _)) bQ);have HBO:Hid (w3.heap.size≤bo):=dQ;rw[cN] at dB⊢;clear aD aI dR bQ cN dQ;go_wp2_with fail;go_loopw [43] (fun iv wr=>Am2 rows n P wrong silent O w1.heap.size w3.heap.size B g (.slice (some ⟨Lb,0,none⟩) n aV) (.slice (some ⟨bo,0,none⟩) n co) V w1 iv wr) (fun iv _=>n- (intOf iv).toNat)
   case atStart=>exact⟨0,[],[],gr rows,Nat.zero_le _,rfl,by rw[List.take_zero];exact AQ.start fun j=>(cC.out j).1,bT.out,bY.out,by rw[cE.out];exact dB.out,eM.out,eR.out⟩
   case round=>
    obtain⟨i,BL,SL,Cn,hi,rfl,dO,dM,dP,eD,dU,dX⟩:=hrel;have aG:=Zk dO;have aA:=Zk dM;have aE:=Zk dP;have aO:=Zk eD;have aY:=Zk dU;have aU:=Zk dX;clear dO dM dP eD dU dX;by_cases hli:i<n
    ·have di:decide (i<n)=true:=Ze hli;have cR:i<O.length:=by rw[cE.out];exact hli
     have fO:=fA.out O[i] (List.getElem_mem cR);obtain⟨jn,cJ⟩:∃jn:Nat,O[i]=(jn:Int):=⟨O[i].toNat,by omega⟩;have aB:jn<n:=by omega
     have bM:Hid (O.take (i+1)=O.take i++[(jn:Int)]):=Zk (by show _=_;rw[←List.take_append_getElem cR,cJ]);have bJ:Hid ((jn:Int)∉O.take i):=Zk (by
      have h1:(O.take (i+1)).Nodup:=fC.out.sublist (List.take_sublist _ O);rw[bM.out,List.nodup_append] at h1;exact fun hm=>h1.2.2 _ hm _ (by simp) rfl)
     have cO:wr.cell? ⟨bo,i,none⟩=some (.int .i64 (jn:Int)):=by
      have h1:=aO.out;rw[cE.out] at h1;have h2:=h1.cellAt i (by omega);rw[h2,List.getElem?_map,List.getElem?_eq_getElem cR,cJ];rfl
     have fG:Hid (w.grownBy wr (some g)):=Zk (Ag aT.out aU.out);obtain⟨ch,_,B',d',eH⟩:=HV.out wr fG.out jn (by rw[←cW.out];exact aB);rw[eH] at ch;obtain⟨ln,bN⟩:∃ln,ln=(gr rows jn).length:=⟨_,rfl⟩;have hln:ln≤1000:=by rw[bN];exact (cC.out jn).2
     rw[←bN] at ch;have eX:=Zk bN;have hgC:=aK.out;have dZ:jn∉BL:=fun hm=>bJ.out (aG.out.bo jn hm).2
     have eA:jn∉SL:=fun hm=>bJ.out (aG.out.so jn hm).2
     have eW:=Zk dZ;have cZ:=Zk eA;clear cJ fO eH bN dZ eA;by_cases hA:i<wrong∧0<ln
     ·have d1:decide ((i:Int)<(wrong:Int))=true:=Ze (by omega);have cI:decide (i<wrong)=true:=Ze hA.1;have d2:decide ((0:Int)<(ln:Int))=true:=Ze (by omega);have dG:decide (0<ln)=true:=Ze hA.2;have cS:(1:Int)≤(ln:Int):=by omega
      have HA:=Zk hA;clear hA;go_wp2_with fail;(with_reducible refine (Cy ln g wr aY.out (by unfold At;omega) (by omega)).mono ?_)
      rintro e w5 ⟨c0,rfl,_,hc,dS,cQ⟩;obtain⟨hc1,hc2⟩:=hc cS;obtain⟨c,rfl⟩:∃c:Nat,c0=c:=⟨c0.toNat,by omega⟩;have bP:c<ln:=by omega
      have eN:=Zk dS;have bI:Hid (wr.grownBy w5 (some g)):=cQ;have aS:=Zk (aA.out.grown cQ aK.out);have aL:=aS.out.row jn aB;have dK:(Cn jn).length=ln:=by rw[(aG.out.ln jn).1,eX.out]
      have hV:∃q cq,V jn= .slice (some ⟨q,0,none⟩) ln cq:=by
       rcases aL.2 with⟨_,h0⟩|⟨q,cq,fI,h1,_⟩
       ·omega
       ·rw[dK] at h1;exact⟨q,cq,h1⟩
      obtain⟨q,cq,dL⟩:=hV;obtain⟨x,ex⟩:∃x,x=(Cn jn)[c]'(by omega):=⟨_,rfl⟩;have fT:0≤x∧x<P:=by rw[ex];exact Co (Be (aG.out.ln jn).2 _ (List.getElem_mem _))
      have cX:=Zk ex;have aZ:=Zk dL;have bH:=Zk dK;have dF:Hid (∀W,w5.grownBy W (some g)→W.cell? ⟨Lb,jn*2+1,none⟩=some (.slice (some ⟨q,0,none⟩) ln cq)∧W.cell? ⟨q,c,none⟩=some (.int .i64 x)∧W.frozen? ⟨q,c,none⟩=false∧W.cell? ⟨F,0,none⟩=some (.int .i64 P)):=Zk (fun W hg=>by
       have hA:=aS.out.grown hg aK.out;have h1:=(hA.cells aB).2;rw[if_pos (by simp;exact cZ.out),aZ.out] at h1;have h2:=hA.row jn aB;rw[aZ.out,bH.out] at h2;have h3:=h2.cellAt c (by omega);refine⟨h1,?_,Gl h2 c,?_⟩
       ·rw[h3,List.getElem?_map,List.getElem?_eq_getElem (by rw[bH.out];exact bP),cX.out];rfl
       ·have h4:=Ag (Ag aU.out bI.out) hg;exact Zc W F 0 _ _ _ ((h4.block F (Ae bZ.out) (by have:=eT.out;simp;omega)).trans bZ.out))
      have aP:Hid (∀W y,w5.grownBy W (some g)→Dk W g→0≤y→y<P→y≠x→(∃u,(W.setCell ⟨q,c,none⟩ (.int .i64 y)).cell? ⟨B,jn,none⟩=some u)∧(W.setCell ⟨q,c,none⟩ (.int .i64 y)).frozen? ⟨B,jn,none⟩=false∧
        Am2 rows n P wrong silent O w1.heap.size w3.heap.size B g (.slice (some ⟨Lb,0,none⟩) n aV) (.slice (some ⟨bo,0,none⟩) n co) V w1 (.int .i64 ((i:Int)+1)) ((W.setCell ⟨q,c,none⟩ (.int .i64 y)).setCell ⟨B,jn,none⟩ (.bool true))):=Zk (fun W y hg hd y4 y5 y6=>by
       have hq:=bK.out jn aB q (by rw[aZ.out];rfl);have hgB:g<B:=by have:=aN.out.1;omega
       have cK:=(aS.out.grown hg aK.out).chg aB aZ.out c y;have aW:BBk (W.setCell ⟨q,c,none⟩ (.int .i64 y)) B n BL:=((aE.out.grown bI.out (by omega)).grown hg (by omega)).oth (by show q≠B;omega) _;have cL:Dk (W.setCell ⟨q,c,none⟩ (.int .i64 y)) g:=hd.grown (Ak (g:=q) (p:=⟨q,c,none⟩) (Ai _ _) (.inl rfl) _) (fun k hk=>by injection hk with e;omega)
       have cM:W.ownsRow w3.heap.size 3 1 (.slice (some ⟨bo,0,none⟩) n co) O.length (O.map (Value.int .i64)):=Bu aO.out fun b hb=>by
        have h1:=aO.out.lt b hb;have h2:=aN.out;exact ((Ag bI.out hg).block b h1.2 (by simp;omega))
       have bC:∀b,(Value.slice (some ⟨bo,0,none⟩) n co).ownBlock=some b→w3.heap.size≤b:=fun b hb=>(aO.out.lt b hb).1
       refine⟨⟨_,aW.cell aB⟩,aW.frozen jn,i+1,jn::BL,SL,fun a=>if a=jn then (Cn jn).set c y else Cn a,by omega,by go_num,?_,?_,aW.set jn,?_,?_,?_⟩
       ·rw[bM.out];refine aG.out.wrg HA.out.1 aB bJ.out ⟨by rw[List.length_set];exact (aG.out.ln jn).1,Ce fun u hu=> ?_⟩ fun e=> ?_
        ·rcases List.mem_or_eq_of_mem_set hu with h|h
         ·exact Be (aG.out.ln jn).2 u h
         ·rw[h];exact Ex ⟨y4,y5⟩
        ·have h1:=aG.out.un jn eW.out;have h2:((Cn jn).set c y)[c]? =(Cn jn)[c]? :=by rw[e,h1]
         rw[List.getElem?_set_self (by rw[bH.out];exact bP),List.getElem?_eq_getElem (by rw[bH.out];exact bP)] at h2;injection h2 with h2;exact y6 (by rw[h2,cX.out])
       ·exact cK.oth (by show some Lb≠some B;have:=dA.out.1;simp;omega) (fun a ha h=>by have:=(bK.out a ha B h).1;omega) _
       ·refine Cj (Cj cM (fun h=> ?_) _) (fun h=> ?_) _
        ·have:=bC q h;have:=aN.out.2;omega
        ·have:=bC B h;have:=aN.out.2;omega
       ·exact cL.grown (Ak (g:=B) (p:=⟨B,jn,none⟩) (Ai _ _) (.inl rfl) _) (fun k hk=>by injection hk with e;omega)
       ·exact Cv (Cv (Ag (Ag aU.out bI.out) hg) (Ak (g:=q) (p:=⟨q,c,none⟩) (Ai _ _) (.inl rfl) _) (fun k hk=>by injection hk with e;omega)) (Ak (g:=B) (p:=⟨B,jn,none⟩) (Ai _ _) (.inl rfl) _) (fun k hk=>by injection hk with e;have:=aN.out.1;omega))
      clear hc dS cQ dL ex cO ch d1 cI d2 dG;go_upto_region 13 with fail
      apply zHl g F Lb n aV jn c q ln cq P x w5 (by have:=bK.out jn aB q (by rw[aZ.out];rfl);omega) (by have:=bK.out jn aB q (by rw[aZ.out];rfl);have:=Ae bZ.out;omega) hP fT aB bP dF.out eN.out;rintro u66 u67 u68 u69 u70 u71 u72 u73 u74 u75 u76 u77 u78 u79 u80 u81 u82 u83 u84 u85 u86 u87 u88 u89 u90 y w6 w7 ⟨dV,dT,y4,y5,y6,rfl⟩;obtain⟨⟨uB,cB⟩,fB,eG⟩:=aP.out w6 y dV dT y4 y5 y6;have cG:=Zk eG;clear dV dT y6 eG dF aP;go_wp2_with fail;exact⟨cG.out,by simp[intOf];omega⟩
     ·have dC:Hid (Am2 rows n P wrong silent O w1.heap.size w3.heap.size B g (.slice (some ⟨Lb,0,none⟩) n aV) (.slice (some ⟨bo,0,none⟩) n co) V w1 (.int .i64 ((i:Int)+1)) wr):=Zk (⟨i+1,BL,SL,Cn,by omega,by go_num,by rw[bM.out];exact aG.out.skip _,aA.out,aE.out,aO.out,aY.out,aU.out⟩);have wws:IntKind.i64.wrap ((wrong:Int)+(silent:Int))=(wrong:Int)+(silent:Int):=by exact Zi _ (by omega)
      by_cases hw:i<wrong
      ·have fP:¬0<ln:=fun h=>hA ⟨hw,h⟩
       have d1:decide ((i:Int)<(wrong:Int))=true:=Ze (by omega);have cI:decide (i<wrong)=true:=Ze hw;have d2:decide ((0:Int)<(ln:Int))=false:=Zd (by omega);have dG:decide (0<ln)=false:=Zd fP;have d3:decide ((wrong:Int)≤(i:Int))=false:=Zd (by omega);have fJ:decide (wrong≤i)=false:=Zd (by omega);clear hA;go_wp2_with fail;exact⟨dC.out,by simp[intOf];omega⟩
      ·have d1:decide ((i:Int)<(wrong:Int))=false:=Zd (by omega);have cI:decide (i<wrong)=false:=Zd hw;have d3:decide ((wrong:Int)≤(i:Int))=true:=Ze (by omega);have fJ:decide (wrong≤i)=true:=Ze (by omega);clear hA;by_cases hs:i<wrong+silent
       ·have d4:decide ((i:Int)<(wrong:Int)+(silent:Int))=true:=Ze (by omega);have fK:decide (i<wrong+silent)=true:=Ze hs;have cG:Hid (Am2 rows n P wrong silent O w1.heap.size w3.heap.size B g (.slice (some ⟨Lb,0,none⟩) n aV) (.slice (some ⟨bo,0,none⟩) n co) V w1 (.int .i64 ((i:Int)+1)) ((wr.setCell ⟨Lb,jn*2,none⟩ (.bool false)).setCell ⟨Lb,jn*2+1,none⟩ (.slice none 0 0))):=Zk (by
         have hN:=dA.out;have hgL:g<Lb:=by omega
         have bC:∀b,(Value.slice (some ⟨bo,0,none⟩) n co).ownBlock=some b→w3.heap.size≤b:=fun b hb=>(aO.out.lt b hb).1
         refine⟨i+1,BL,jn::SL,Cn,by omega,by go_num,by rw[bM.out];exact aG.out.sil ⟨by omega,hs⟩ aB bJ.out,?_,(aE.out.oth (by show Lb≠B;omega) _).oth (by show Lb≠B;omega) _,?_,?_,?_⟩
         ·have h:=aA.out.sil aB;have e:(fun a=>if a=jn then false else !decide (a∈SL))=fun a=> !decide (a∈jn::SL):=by
           funext a;by_cases e:a=jn<;>simp[e]
          rw[e] at h;exact h
         ·refine Cj (Cj aO.out (fun h=> ?_) _) (fun h=> ?_) _
          ·have:=bC Lb h;have:=aN.out.2;omega
          ·have:=bC Lb h;have:=aN.out.2;omega
         ·exact (aY.out.grown (Ak (g:=Lb) (p:=⟨Lb,jn*2,none⟩) (Ai _ _) (.inl rfl) _) (fun k hk=>by injection hk with e;omega)).grown (Ak (g:=Lb) (p:=⟨Lb,jn*2+1,none⟩) (Ai _ _) (.inl rfl) _) (fun k hk=>by injection hk with e;omega)
         ·exact Cv (Cv aU.out (Ak (g:=Lb) (p:=⟨Lb,jn*2,none⟩) (Ai _ _) (.inl rfl) _) (fun k hk=>by injection hk with e;omega)) (Ak (g:=Lb) (p:=⟨Lb,jn*2+1,none⟩) (Ai _ _) (.inl rfl) _) (fun k hk=>by injection hk with e;omega))
        obtain⟨cl0,fH⟩:=aA.out.cells aB;have fl0:=Gl aA.out.ans (jn*2);have fl1:=Gl aA.out.ans (jn*2+1);rw[if_pos (by simp;exact cZ.out)] at fH;go_wp2_with fail;exact⟨cG.out,by simp[intOf];omega⟩
       ·have d4:decide ((i:Int)<(wrong:Int)+(silent:Int))=false:=Zd (by omega);have fK:decide (i<wrong+silent)=false:=Zd hs;go_wp2_with fail;exact⟨dC.out,by simp[intOf];omega⟩
    ·have di:decide (i<n)=false:=Zd hli;have dY:i=n:=by omega
     have HIN:=Zk dY;obtain⟨wy,dJ⟩:∃wy:World,wy=wr:=⟨_,rfl⟩;rw[←dJ] at aA aE aY aU⊢;clear dJ dY aO;go_wp2_with fail;go_loopw [19,111] (fun v iv wz=>Am3 n BL wy v iv wz) (fun _ iv _=>n- (intOf iv).toNat)
     case atStart=>exact⟨0,Nat.zero_le _,rfl,by simpa [maB] using World.ownsRow_nil wy wy.heap.size 3 1,Zb _ _⟩
     case round=>
      obtain⟨q,hq,rfl,aF,cP⟩:=hrel;obtain⟨Au,cu,fL⟩:=Ct aF;subst fL;have aJ:=Zk aF;have aX:=Zk cP;have eJ:=cP.size;clear aF cP;by_cases hlq:q<n
      ·have dq:decide (q<n)=true:=Ze hlq;have cB:wr.cell? ⟨B,q,none⟩=some (.bool (decide (q∈BL))):=(aX.out.cell (p:=⟨B,q,none⟩) aE.out.lt).trans (aE.out.cell hlq);have fQ:=(zAq q BL).1;have wq1:IntKind.i64.wrap ((q:Int)+1)=(q:Int)+1:=by exact Zi _ (by omega)
       by_cases hm:q∈BL
       ·have dm:decide (q∈BL)=true:=Ze hm;rw[dm] at cB;have bL:=Zk (zEa hm);clear hm dm;obtain⟨UV,dH⟩:∃UV,UV=maB q BL:=⟨_,rfl⟩;rw[←dH] at aJ bL fQ⊢;clear dH;go_wp2_with (at_builtin;refine Bh _ rfl _ _ 22 rfl wy.heap.size 3 Tryz.underlying22 Bi _ UV rfl aJ.out ((q:Int)+1) rfl (by omega) eJ ?_;intro v11 w11 aH bG;have cD:=Zk aH;have cA:=Zk bG;clear aH bG);go_roundw
        case rel=>exact⟨q+1,by omega,by go_num,by rw[bL.out];exact cD.out,(aX.out.alloc eJ _).grown cA.out (by simp;omega) (fun k hk=>(aJ.out.lt k hk).1)⟩
        case measure=>simp[intOf];omega
       ·have dm:decide (q∈BL)=false:=Zd hm;rw[dm] at cB;have bL:=Zk (zHf hm);clear hm dm;go_wp2_with fail;go_roundw
        case rel=>exact⟨q+1,by omega,by go_num,by rw[bL.out];exact aJ.out,aX.out⟩
        case measure=>simp[intOf];omega
      ·have dq:decide (q<n)=false:=Zd hlq;have eE:q=n:=by omega
       have fN:g<wy.heap.size:=aY.out.lt;have bV:Hid (AnR P rows wrong silent (maL n SL Cn) (maB n BL)):=Zk (aG.out.fin cW.out);have fD:Hid (SAE g wr (.slice (some ⟨Lb,0,none⟩) n aV) (maL n SL Cn)):=Zk ((aA.out.grown (Af aX.out (some g)) aK.out).sae aK.out (fun j x hx=>el_r hP.2 (Be (aG.out.ln j).2 x hx)) hn1)
       have dD:Hid (SE g wr (.slice Au (maB q BL).length cu) (maB n BL)):=Zk (by
        have h:=aJ.out;rw[eE] at h⊢;exact SE.of_own h (fun x hx=>by have:=(zAq n BL).2 x hx;unfold At;omega) fN)
       have eO:Hid (Dk wr g):=aY.out.below aX.out;have eU:Hid (w.grownBy wr (some g)):=Zk (Ag aT.out (Ag aU.out (Af aX.out _)));clear eE;generalize (maB q BL).length=nu at dD⊢;go_wp2_with fail;go_ret2;exact⟨_,_,_,_,rfl,fD.out,dD.out,eO.out,eU.out,bV.out⟩
open Go.RowKit Go.Shelf
theorem SX.two{W W':World}{X:Option Nat}{g z:Nat}{v:Value}{l:List Int}(h1:SX W X (some g) v l)(h2:SX W X (some z) v l)(hg:W.grownBy W' (some g)):SX W' X (some z) v l:=by
 obtain⟨A,c,rfl,hc,hm,hr,ha⟩:=h1;obtain⟨A',c',e,_,_,_,aB⟩:=h2;injection e with e1 e2 e3;subst e1;refine⟨A,c,rfl,hc,hm,hr,fun h0=> ?_⟩
 obtain⟨b,aD,rfl,hb,hx,hy,aA⟩:=ha h0;obtain⟨b',off',e4,_,_,aC,_⟩:=aB h0;injection e4 with e5;injection e5 with e6;subst e6;exact⟨b,aD,rfl,Nat.lt_of_lt_of_le hb hg.size,hx,aC,fun j hj=>(World.cell?_of_block (hg.block b hb hy)).trans (aA j hj)⟩
theorem RW.two{G g z:Nat}{W W':World}{pv:Value}{vs:List Value}{ps:List (List Int)}(h:RW G g W pv vs ps)(h':RW G z W pv vs ps)(hgG:g<G)(hg:W.grownBy W' (some g)):RW G z W' pv vs ps:=
 ⟨h.len,Bu h.hdr fun b hb=>hg.block b (h.hdr.lt b hb).2 (by have:=(h.hdr.lt b hb).1;simp;omega),fun j h1 h2=>(h.row j h1 h2).two (h'.row j h1 h2) hg⟩
theorem SE.set2{g z:Nat}{w:World}{v:Value}{l:List Int}(h1:SE g w v l)(h2:SE z w v l)(u1 u2:Value):SE g ((w.setCell ⟨z,0,none⟩ u1).setCell ⟨z,1,none⟩ u2) v l:=by
 obtain⟨A,c,rfl,hc,hm,hr,ha⟩:=h1;obtain⟨A',c',e,_,_,_,aC⟩:=h2;injection e with e1 e2 e3;subst e1;refine⟨A,c,rfl,hc,hm,hr,fun h0=> ?_⟩
 obtain⟨b,aE,rfl,hb,hy,aA⟩:=ha h0;obtain⟨b',off',e4,_,aD,_⟩:=aC h0;injection e4 with e5;injection e5 with e6;subst e6;have aB:w.grownBy ((w.setCell ⟨z,0,none⟩ u1).setCell ⟨z,1,none⟩ u2) (some z):=Ag (Ak (g:=z) (p:=⟨z,0,none⟩) (Ai _ _) (.inl rfl) u1) (Ak (g:=z) (p:=⟨z,1,none⟩) (Ai _ _) (.inl rfl) u2);exact⟨b,aE,rfl,Nat.lt_of_lt_of_le hb aB.size,hy,fun j hj=>(World.cell?_of_block (aB.block b hb (by simp;exact aD))).trans (aA j hj)⟩
theorem SLE.set2'{g z:Nat}{w:World}{v:Value}{l:List (List Int)}(h1:SLE g w v l)(h2:SLE z w v l)(u1 u2:Value):SLE g ((w.setCell ⟨z,0,none⟩ u1).setCell ⟨z,1,none⟩ u2) v l:=by
 obtain⟨A,c,rfl,hc,hm,ha⟩:=h1;obtain⟨A',c',e,_,_,aE⟩:=h2;injection e with e1 e2 e3;subst e1;refine⟨A,c,rfl,hc,hm,fun h0=> ?_⟩
 obtain⟨b,aH,rfl,hb,hy,aB⟩:=ha h0;obtain⟨b',off',e4,_,aF,aA⟩:=aE h0;injection e4 with e5;injection e5 with e6 e7;subst e6 e7;have aC:w.grownBy ((w.setCell ⟨z,0,none⟩ u1).setCell ⟨z,1,none⟩ u2) (some z):=Ag (Ak (g:=z) (p:=⟨z,0,none⟩) (Ai _ _) (.inl rfl) u1) (Ak (g:=z) (p:=⟨z,1,none⟩) (Ai _ _) (.inl rfl) u2);refine⟨b,aH,rfl,Nat.lt_of_lt_of_le hb aC.size,hy,fun j hj=> ?_⟩
 obtain⟨B,d,k1,k2⟩:=aB j hj;obtain⟨B',d',aD,aG⟩:=aA j hj;rw[k1] at aD;injection aD with e8;injection e8 with e9 e10 e11;subst e9 e11;exact⟨B,d,(World.cell?_of_block (aC.block b hb (by simp;exact aF))).trans k1,k2.set2 aG u1 u2⟩
def RoF(g n m:Nat)(P:Int)(w1:World)(v iv:Value)(wr:World):Prop:=
 ∃(k:Nat) (pv:Value) (vs:List Value) (rows:List (List Int)),pv=v∧k≤n∧iv= .int .i64 k∧rows.length=k∧(∀r∈rows,r.length=m∧els P r=true)∧(∀z,z<w1.heap.size→RW w1.heap.size z wr pv vs rows)∧Dk wr g∧w1.grownBy wr (some g)
theorem Wq(g n m:Nat)(P:Int)(w:World)(hD:Dk w g)(hP:1≤P∧P≤65521)(hn:n≤1000)(hm:m≤100000):
  Calls Tryz.prog 15 #[.pointer (some ⟨g,0,none⟩),.agg #[.int .i64 P],.int .i64 n,.int .i64 m] w fun e w'=>∃v rows,e= .returned v∧rows.length=n∧(∀r∈rows,r.length=m∧els P r=true)∧Dk w' g∧w.grownBy w' (some g)∧∀z,z<w.heap.size→SLE z w' v rows:=by
 go_enter Tryz.func15,Tryz.ntmps15;obtain⟨F,eF⟩:∃F,F=w.heap.size:=⟨_,rfl⟩;obtain⟨w1,ew⟩:∃w1:World,w1=w.alloc (.cells #[.int .i64 P] 31):=⟨_,rfl⟩;have bL:Hid (w.alloc (.cells #[.int .i64 P] 31)=w1):=ew.symm;have aH:Hid (Below w.heap.size w w1):=Zk (by rw[ew];exact (Zb _ w).alloc (Zl _) _);have aU:Hid (w1.heap[F]? =some (.cells #[.int .i64 P] 31 (0,0))):=Zk (by show _=_;rw[ew,eF];exact Zh w _);have aR:Hid (Dk w1 g):=hD.below aH.out;have bH:Hid (g<F):=Zk (by rw[eF];exact hD.lt);have aC:Hid (g<w1.heap.size):=aR.out.lt;have HEF:=Zk eF;clear hD;go_upto_region 2 with fail
 rw[bL.out,←eF];clear ew eF;go_wp2_with fail;go_loopw [9,11] (fun v iv wr=>RoF g n m P w1 v iv wr) (fun _ iv _=>n- (intOf iv).toNat)
 case atStart=>exact⟨0,_,[],[],rfl,Nat.zero_le _,rfl,rfl,fun r hr=>by simp at hr,fun z _=>RW.nil _ _ _,aR.out,Ai _ _⟩
 case round=>
  obtain⟨k,pv,vs,rows,rfl,hk,rfl,aZ,aX,bB,hd,hg⟩:=hrel;have aD:=Zk bB;have aS:=Zk hd;have HG:=Zk hg;have aT:=Zk aX;have aM:=Zk aZ;have hz:=hg.size;clear bB hd hg aX aZ;by_cases hlk:k<n
  ·have dk:decide (k<n)=true:=Ze hlk;have f0:wr.cell? ⟨F,0,none⟩=some (.int .i64 P):=Zc wr F 0 _ _ _ ((HG.out.block F (Ae aU.out) (by have:=bH.out;simp;omega)).trans aU.out);go_wp2_with fail;(with_reducible refine (Oh g m P wr aS.out hP hm).mono ?_)
   rintro e w2 ⟨vx,ns,rfl,bA,aQ,aA,aW,aI⟩;obtain⟨A1,c1,rfl⟩:=Dd aA;have HOW:=Zk aA;have bD:=Zk aW;have bF:=Zk aI;have bI:=Zk bA;have bJ:=Zk aQ;have hz2:w1.heap.size≤w2.heap.size:=Nat.le_trans hz aI.size;have aE:Hid (∀z,z<w1.heap.size→RW w1.heap.size z w2 pv vs rows):=Zk (fun z hz=>(aD.out g aC.out).two (aD.out z hz) aC.out aI)
   have aL:Hid (w2.ownsRow w1.heap.size 22 1 pv vs.length vs):=Zk ((aE.out g aC.out).hdr);have aV:Hid (∀z,z<w1.heap.size→SX (w2.alloc (.cells #[.slice A1 ns.length c1] 22)) pv.ownBlock (some z) (.slice A1 ns.length c1) ns):=Zk (fun z aG=>SX.of_own (aA.alloc _) (Ci hP.2 aQ) (fun q hq=>((aD.out g aC.out).hdr.lt q hq).2) (fun q hq=>by injection hq with e;omega))
   have hvn:vs.length≤1000:=by have:=(aD.out g aC.out).len;have:=aM.out;omega
   obtain⟨n1,aP⟩:∃n1,n1=ns.length:=⟨_,rfl⟩;rw[←aP] at aV⊢;have HN1:=Zk aP;clear bA aQ aA aW aI f0 aP;go_wp2_with (at_builtin;refine Bt _ rfl _ _ 33 rfl w1.heap.size 22 (.slice none 0 0) 24 Tryz.underlying33 Ev pv vs.length vs rfl (aL.out.alloc _) (.slice A1 n1 c1) rfl w2.heap.size rfl (Ba w2 [.slice A1 n1 c1] 22 0 _ rfl) (by omega) (by omega) rfl (by simp;omega) ?_;intro g9 aO w9 aB aY aF;have bK:=Zk aB;have aJ:=Zk aY;have bC:=Zk aF;clear aB aY aF);have bG:Hid (w2.grownBy (w2.alloc (.cells #[.slice A1 n1 c1] 22)) (some g)):=Zk (Af ((Zb _ w2).alloc (Zl _) _) _);have aN:Hid (∀z,z<w1.heap.size→RW w1.heap.size z w9 (.slice (some ⟨g9,0,none⟩) (vs.length+1) aO) (vs++[.slice A1 n1 c1]) (rows++[ns])):=(show Hid _ from
    fun z aG=>((aE.out z aG).below aG ((Zb _ w2).alloc (Zl _) _)).app (aV.out z aG) bK.out aJ.out (fun q hq=>by
     have e:g9=q:=by simpa [Value.ownBlock] using hq
     subst e;exact bC.out))
   have aK:Hid (w1.grownBy w9 (some g)):=Zk (Cv (Ag (Ag HG.out bF.out) bG.out) aJ.out (fun q hq=>(aL.out.lt q hq).1))
   have bE:Hid (Dk w9 g):=Zk ((bD.out.alloc _).grown aJ.out (fun q hq=>by have:=(aL.out.lt q hq).1;have:=aC.out;omega))
   go_roundw
   case rel=>exact⟨k+1,_,_,rows++[ns],rfl,by omega,by go_num,by have:=aM.out;simp;omega,fun r hr=>by
    rcases List.mem_append.1 hr with h|h
    ·exact aT.out r h
    ·simp at h;subst h;exact⟨bI.out,bJ.out⟩,aN.out,bE.out,aK.out⟩
   case measure=>simp[intOf];omega
  ·have dk:decide (k<n)=false:=Zd hlk;go_wp2_with fail;go_ret;exact⟨_,rows,rfl,by have:=aM.out;omega,aT.out,aS.out,Ag (Af aH.out _) HG.out,fun z aG=>(aD.out z (by have:=aH.out.size;omega)).sle (by have:=aH.out.size;omega)⟩
theorem AlR.uniq{P k:Int}{l:List (Bool×List Int)}{n:Nat}{ps qs:List (List Int)}{ws vs:List Int}(h:AlR P k l n ps ws)(h':AlR P k l n qs vs):ps=qs∧ws=vs:=by
 obtain⟨a1,a2,a3⟩:=h;obtain⟨b1,b2,b3⟩:=h';have e:ps=qs:=List.ext_getElem (by omega) fun i h1 h2=>((a2 i h1).uniq (b2 i h2)).1
 subst e;exact⟨rfl,a3.trans b3.symm⟩
theorem AlR.no{P k:Int}{l:List (Bool×List Int)}{n:Nat}{ps:List (List Int)}{ws:List Int}(h:AlR P k l n ps ws)(h':AlN P k l n):False:=by
 obtain⟨a1,a2,a3⟩:=h;obtain⟨i,hi,o,er,hu,he⟩:=h';exact he ((a2 i (by omega)).uniq hu).2.symm
theorem Pr(P width servers need:Int)(l:List (Bool×List Int))(v:Value)(w:World)(h:SAn w v l)(hz:1000000<l.length)(hs:servers≤10):
  Calls Tryz.prog 64 #[.agg #[.int .i64 P],.int .i64 width,.int .i64 servers,.int .i64 need,v] w fun e w'=>ckE P width servers need l≠0∧e= .returned (.int .i64 (ckE P width servers need l))∧Below w.heap.size w w':=by
 obtain⟨A,c,rfl⟩:=h.form;clear h;have HB:Hid (∀o:Obj,Below w.heap.size w (w.alloc o)):=Zk (fun o=>(Zb _ w).alloc (Zl _) o)
 go_enter Tryz.func64,Tryz.ntmps64;by_cases h1:width<0
 ·have d1:decide (width<0)=true:=Ze h1;have HE:Hid (ckE P width servers need l=4):=Zk (if_pos (.inl h1));go_wp2_with fail;go_ret;exact⟨by rw[HE.out];decide,by rw[HE.out]<;>rfl,HB.out _⟩
 have d1:decide (width<0)=false:=Zd h1;by_cases h2:64<width
 ·have d2:decide (64<width)=true:=Ze h2;have HE:Hid (ckE P width servers need l=4):=Zk (if_pos (.inr h2));go_wp2_with fail;go_ret;exact⟨by rw[HE.out];decide,by rw[HE.out]<;>rfl,HB.out _⟩
 have d2:decide (64<width)=false:=Zd h2;have d3:((l.length:Int) !=servers)=true:=by rw[bne_iff_ne];omega
 have HE:Hid (ckE P width servers need l=2):=Zk (by show _=_;unfold ckE;rw[if_neg (by omega),if_pos (by omega)]);go_wp2_with fail;go_ret;exact⟨by rw[HE.out];decide,by rw[HE.out]<;>rfl,HB.out _⟩
open Go.RowKit
structure PB (Bb:Nat) (w0 W:World) (pv:Value) (vs:List Value) (ps:List (List Int)):Prop where
 len:vs.length=ps.length
 hdr:W.ownsRow w0.heap.size 22 1 pv vs.length vs
 row:∀j (h:j<vs.length) (h':j<ps.length),SX W pv.ownBlock (some Bb) vs[j] ps[j]
 bel:w0.grownBy W (some Bb)
section
variable {Bb:Nat} {w0 W W':World} {pv:Value} {vs:List Value} {ps:List (List Int)}
theorem PB.nil(w0:World)(Bb:Nat):PB Bb w0 w0 (.slice none 0 0) [] []:=
 ⟨rfl,World.ownsRow_nil _ _ _ _,fun j h=>by simp at h,Ai _ _⟩
theorem PB.grown(h:PB Bb w0 W pv vs ps)(hB:Bb<w0.heap.size)(hg:W.grownBy W' (some Bb)):PB Bb w0 W' pv vs ps:=by
 refine⟨h.len,Bu h.hdr fun b hb=>hg.block b (h.hdr.lt b hb).2 (fun e=> ?_),fun j h1 h2=>(h.row j h1 h2).keep hg.size fun b hb hx hy=>⟨hg.block b hb hy,hx,hy⟩,Ag h.bel hg⟩
 injection e with e;have:=(h.hdr.lt b hb).1;omega
theorem PB.app{pv':Value}{v:Value}{l:List Int}(h:PB Bb w0 W pv vs ps)(_hB:Bb<w0.heap.size)
  (hx:SX W pv.ownBlock (some Bb) v l) (ho:W'.ownsRow w0.heap.size 22 1 pv' (vs.length+1) (vs++[v])) (hg:W.grownBy W' pv.ownBlock) (hat:∀g,pv'.ownBlock=some g→pv.ownBlock=some g∨g=W.heap.size):PB Bb w0 W' pv' (vs++[v]) (ps++[l]):=by
 have hk:∀b,b<W.heap.size→some b≠pv.ownBlock→some b≠some Bb→W'.heap[b]? =W.heap[b]? ∧some b≠pv'.ownBlock∧some b≠some Bb:=fun b hb h1 h2=>
  ⟨hg.block b hb h1,fun e=>by rcases hat b e.symm with h3|h3;exact h1 h3.symm;omega,h2⟩
 refine⟨by simp[h.len],by simpa using ho,fun j h1 h2=> ?_,Sj h.bel hg fun b hb=>(h.hdr.lt b hb).1⟩
 by_cases hj:j<vs.length
 ·have aA:j<ps.length:=by rw[←h.len];exact hj
  rw[List.getElem_append_left hj,List.getElem_append_left aA];exact (h.row j hj aA).keep hg.size hk
 ·have e1:j=vs.length:=by simp at h1;omega
  subst e1;have e2:(vs++[v])[vs.length]'h1=v:=by simp
  have e3:(ps++[l])[vs.length]'h2=l:=by simp[h.len]
  rw[e2,e3];exact hx.keep hg.size hk
theorem PB.sl(h:PB Bb w0 W pv vs ps):SL W pv ps:=by
 have hl:=h.len;have ho:=h.hdr;rcases ho.2 with⟨e,hn⟩|⟨b,aC,cur,e,hb,aE,hnc,aD,hcs,htake⟩
 ·have:ps=[]:=List.eq_nil_of_length_eq_zero (by omega);subst this;rw[e];exact⟨none,0,rfl,Zl _,by omega,fun h=>by simp at h⟩
 ·have aA:=h.row;rw[e,hl];refine⟨_,aC,rfl,by omega,by simpa [maxLen] using aD,fun h0=>⟨b,0,rfl,(Array.getElem?_eq_some_iff.1 aE).1,fun j hj=> ?_⟩⟩
  have aB:j<vs.length:=by omega
  have hs:SI W vs[j] ps[j]:=(aA j aB hj).si;obtain⟨B,d,hv⟩:=hs.form;refine⟨B,d,?_,by rw[←hv];exact hs⟩;rw[e] at ho;have:=ho.cellAt j (by omega);rw[Nat.zero_add,this,←hv];simp[aB]
end
def flg(BL:List Nat)(n:Nat):List Int:=((List.range n).filter fun j=>decide (j∈BL)).map fun (j:Nat)=>(j:Int)
theorem Yl(BL:List Nat)(n:Nat):flg BL (n+1)=flg BL n++if decide (n∈BL)=true then [(n:Int)] else []:=by
 unfold flg;rw[List.range_succ,List.filter_append,List.map_append];congr 1;by_cases h:n∈BL<;>simp[h]
theorem zDa(BL:List Nat)(n:Nat):(flg BL n).length≤n:=by
 unfold flg;rw[List.length_map];have:=List.length_filter_le (fun j=>decide (j∈BL)) (List.range n)
 simpa using this
theorem zCz(BL:List Nat)(n:Nat):inc (flg BL n):=by
 unfold inc flg;rw[List.pairwise_map];refine List.Pairwise.imp (R:=(· < ·)) (fun {a b} h=>by omega) ?_
 exact List.Pairwise.filter _ List.pairwise_lt_range
theorem zDb{BL:List Nat}{n:Nat}{zs:List Int}(h1:∀x:Nat,x∈BL↔(x:Int)∈zs)(h2:∀z∈zs,0≤z∧z<(n:Int)):srt zs=flg BL n:=
 Vj (zCz BL n) fun x=>by
  unfold flg;rw[List.mem_map];constructor
  ·intro hx;have hb:=h2 x hx;refine⟨x.toNat,?_,by omega⟩;rw[List.mem_filter];exact⟨List.mem_range.2 (by omega),Ze ((h1 _).2 (by rw[Int.toNat_of_nonneg hb.1];exact hx))⟩
  ·rintro⟨j,hj,rfl⟩;exact (h1 j).1 (of_decide_eq_true (List.mem_filter.1 hj).2)
open Go.RowKit
def SY(C:Nat)(W:World)(X Y:Option Nat)(v:Value)(l:List Int):Prop:=
 ∃A c,v= .slice A l.length c∧l.length≤c∧c≤9223372036854775807∧(∀x∈l,At x)∧
  (0<l.length→∃b off,A=some ⟨b,off,none⟩∧C≤b∧b<W.heap.size∧some b≠X∧some b≠Y∧∀j (h:j<l.length),W.cell? ⟨b,off+j,none⟩=some (.int .i64 l[j]))
theorem SY.keep{C:Nat}{W W':World}{X Y X' Y':Option Nat}{v:Value}{l:List Int}(h:SY C W X Y v l)(hs:W.heap.size≤W'.heap.size)
  (hb:∀b,C≤b→b<W.heap.size→some b≠X→some b≠Y→W'.heap[b]? =W.heap[b]? ∧some b≠X'∧some b≠Y'):SY C W' X' Y' v l:=by
 obtain⟨A,c,rfl,hc,hm,hr,ha⟩:=h;refine⟨A,c,rfl,hc,hm,hr,fun h0=> ?_⟩
 obtain⟨b,aE,rfl,hC,aB,hx,hy,aA⟩:=ha h0;obtain⟨e,aC,aD⟩:=hb b hC aB hx hy;exact⟨b,aE,rfl,hC,by omega,aC,aD,fun j hj=>(World.cell?_of_block e).trans (aA j hj)⟩
theorem SY.nil(C:Nat)(W:World)(X Y:Option Nat):SY C W X Y (.slice none 0 0) []:=⟨none,0,rfl,Zl _,by omega,fun x h=>by simp at h,fun h=>by simp at h⟩
theorem SY.se{C g:Nat}{W:World}{X Y:Option Nat}{v:Value}{l:List Int}(h:SY C W X Y v l)(hg:g<C):SE g W v l:=by
 obtain⟨A,c,rfl,hc,hm,hr,ha⟩:=h;refine⟨A,c,rfl,hc,hm,hr,fun h0=> ?_⟩
 obtain⟨b,aC,rfl,hC,aB,_,_,aA⟩:=ha h0;exact⟨b,aC,rfl,aB,by omega,aA⟩
theorem SY.of_own{W:World}{X Y:Option Nat}{C base:Nat}{e:TypeId}{v:Value}{l:List Int}(h:W.ownsRow base e 1 v l.length (l.map (Value.int .i64)))(hr:∀x∈l,At x)(hC:C≤base)(hX:∀k,X=some k→k<base)(hY:∀k,Y=some k→k<base):SY C W X Y v l:=by
 rcases h.2 with⟨rfl,hn⟩|⟨b,aA,cur,rfl,hb,aC,aD,aB,hcs,htake⟩
 ·have:l=[]:=List.eq_nil_of_length_eq_zero hn;subst this;exact SY.nil ..
 ·refine⟨_,aA,rfl,aD,by simpa [maxLen] using aB,hr,fun h0=>⟨b,0,rfl,by omega,(Array.getElem?_eq_some_iff.1 aC).1,fun e=>by have:=hX b e.symm;omega,fun e=>by have:=hY b e.symm;omega,fun j hj=> ?_⟩⟩
  have:=h.cellAt j (by omega);rw[Nat.zero_add,this];simp[hj]
theorem SY.below{C:Nat}{W W':World}{X Y:Option Nat}{v:Value}{l:List Int}(h:SY C W X Y v l)(hb:Below W.heap.size W W'):SY C W' X Y v l:=
 h.keep hb.size fun b _ aA hx hy=>⟨hb.block b aA,hx,hy⟩
def anc(x:Bool×Value):List Value:=[.bool x.1,x.2]
theorem zCf(xs:List (Bool×Value))(j:Nat)(h:j<xs.length):(xs.flatMap anc)[j*2]? =some (.bool xs[j].1)∧(xs.flatMap anc)[j*2+1]? =some xs[j].2:=Uj xs j h
structure LM (C:Nat) (w:World) (pv:Value) (X:Option Nat) (xs:List (Bool×Value)) (L:List (Bool×List Int)):Prop where
 ans:w.ownsRow C 61 2 pv xs.length (xs.flatMap anc)
 len:xs.length=L.length
 row:∀j (h1:j<xs.length) (h2:j<L.length),xs[j].1=L[j].1∧SY C w pv.ownBlock X xs[j].2 L[j].2
 apl:∀b,pv.ownBlock=some b→X≠some b
theorem LM.nil(C:Nat)(w:World)(X:Option Nat):LM C w (.slice none 0 0) X [] []:=
 ⟨World.ownsRow_nil _ _ _ _,rfl,fun j h=>by simp at h,fun b h=>by simp[Value.ownBlock] at h⟩
theorem LM.keep{C:Nat}{w w':World}{pv:Value}{X:Option Nat}{xs:List (Bool×Value)}{L:List (Bool×List Int)}(h:LM C w pv X xs L)(hs:w.heap.size≤w'.heap.size)(hk:∀b,C≤b→b<w.heap.size→w'.heap[b]? =w.heap[b]?):LM C w' pv X xs L:=
 ⟨Bu h.ans fun b hb=>hk b (h.ans.lt b hb).1 (h.ans.lt b hb).2,h.len,fun j h1 h2=>⟨(h.row j h1 h2).1,(h.row j h1 h2).2.keep hs fun b hC hb hx hy=>⟨hk b hC hb,hx,hy⟩⟩,h.apl⟩
theorem LM.below{C:Nat}{w w':World}{pv:Value}{X:Option Nat}{xs:List (Bool×Value)}{L:List (Bool×List Int)}(h:LM C w pv X xs L)(hb:Below w.heap.size w w'):LM C w' pv X xs L:=h.keep hb.size fun b _ h2=>hb.block b h2
theorem LM.app{C g9:Nat}{w w':World}{pv pv':Value}{X:Option Nat}{xs:List (Bool×Value)}{L:List (Bool×List Int)}{k:Bool}{v:Value}{l:List Int}(h:LM C w pv X xs L)(hX:∀b,X=some b→b<w.heap.size)
  (hv:SY C w pv.ownBlock X v l) (ho:w'.ownsRow C 61 2 pv' (xs.length+1) (xs.flatMap anc++[.bool k,v])) (hg:w.grownBy w' pv.ownBlock) (hpv:pv'.ownBlock=some g9) (hat:pv.ownBlock=some g9∨w.heap.size≤g9):LM C w' pv' X (xs++[(k,v)]) (L++[(k,l)]):=by
 have hk:∀b,C≤b→b<w.heap.size→some b≠pv.ownBlock→some b≠X→w'.heap[b]? =w.heap[b]? ∧some b≠pv'.ownBlock∧some b≠X:=fun b _ hb h1 h2=>
  ⟨hg.block b hb h1,fun e=>by rw[hpv] at e;injection e with e;subst e;rcases hat with h3|h3;exact h1 h3.symm;omega,h2⟩
 refine⟨by simpa [anc] using ho,by simp[h.len],fun j h1 h2=> ?_,fun b hb e=> ?_⟩
 ·by_cases hj:j<xs.length
  ·have aA:j<L.length:=by rw[←h.len];exact hj
   rw[List.getElem_append_left hj,List.getElem_append_left aA];exact⟨(h.row j hj aA).1,(h.row j hj aA).2.keep hg.size hk⟩
  ·have e1:j=xs.length:=by simp at h1;omega
   subst e1;have e2:(xs++[(k,v)])[xs.length]'h1=(k,v):=by simp
   have e3:(L++[(k,l)])[xs.length]'h2=(k,l):=by simp[h.len]
   rw[e2,e3];exact⟨rfl,hv.keep hg.size hk⟩
 ·rw[hpv] at hb;injection hb with hb;subst hb;rcases hat with h3|h3
  ·exact h.apl _ h3 e
  ·have:=hX _ e;omega
theorem LM.sae{C g:Nat}{w:World}{pv:Value}{X:Option Nat}{xs:List (Bool×Value)}{L:List (Bool×List Int)}(h:LM C w pv X xs L)(hg:g<C):SAE g w pv L:=by
 have hl:=h.len;rcases h.ans.2 with⟨e,hn⟩|⟨b,aB,cur,e,hb,aD,hnc,aC,hcs,htake⟩
 ·have:L=[]:=List.eq_nil_of_length_eq_zero (by omega);subst this;rw[e];exact⟨none,0,rfl,Zl _,by omega,fun h=>by simp at h⟩
 ·have ho:=h.ans;rw[e] at ho⊢;rw[hl];refine⟨_,aB,rfl,by omega,by simpa [maxLen] using aC,fun h0=>⟨b,0,rfl,(Array.getElem?_eq_some_iff.1 aD).1,by omega,fun j hj=> ?_⟩⟩
  have aA:j<xs.length:=by omega
  obtain⟨h1,h2⟩:=h.row j aA hj;obtain⟨g1,g2⟩:=zCf xs j aA;have c1:=ho.cellAt (j*2) (by omega);have c2:=ho.cellAt (j*2+1) (by omega);rw[g1] at c1;rw[g2] at c2;rw[Nat.zero_add];exact⟨by rw[c1,h1],xs[j].2,c2,h2.se hg⟩
open Go.RowKit
def Iv(P:Int)(rows:List (List Int))(wd G N:Nat)(qs:List (List Int))(k:Nat):List (List Int):=(List.range k).map fun (j:Nat)=>cmb P (gr qs j) (Ca P rows ((j:Int)+1) wd G N) wd
theorem Vw(P:Int)(rows:List (List Int))(wd G N:Nat)(qs:List (List Int))(k:Nat):Iv P rows wd G N qs (k+1)=Iv P rows wd G N qs k++[cmb P (gr qs k) (Ca P rows ((k:Int)+1) wd G N) wd]:=by
 unfold Iv;rw[List.range_succ,List.map_append];rfl
theorem Mc(P:Int)(rows:List (List Int))(wd G N:Nat)(qs:List (List Int))(k:Nat):(Iv P rows wd G N qs k).length=k:=by simp[Iv]
def Uc1(P:Int)(rows:List (List Int))(wd G N n:Nat)(qs:List (List Int))(g:Nat)(w1:World)(v iv:Value)(wr:World):Prop:=
 ∃(k:Nat) (pv:Value) (vs:List Value),pv=v∧k≤n∧iv= .int .i64 k∧RW w1.heap.size g wr pv vs (Iv P rows wd G N qs k)∧Below w1.heap.size w1 wr
theorem Qj(P t:Int)(n G wd g:Nat)(rows qs:List (List Int))(vr vq:Value)(w:World)(hV:SV P n t G)(hwd:wd≤64)(hrl:rows.length≤1024)(aK:∀r∈rows,r.length=wd∧els P r=true)(hql:qs.length=n)(hqe:∀q∈qs,q.length=ngr rows.length G∧els P q=true)(hr:SL w vr rows)(hq:SL w vq qs)(hg:g<w.heap.size):
  Calls Tryz.prog 36 #[.agg #[.int .i64 P],.agg #[.int .i64 n,.int .i64 t,.int .i64 G],.int .i64 wd,vr,vq] w fun e w'=>∃A c,e= .returned (.slice A n c)∧Below w.heap.size w w'∧SLE g w' (.slice A n c) (Iv P rows wd G (ngr rows.length G) qs n):=by
 obtain⟨N,eN⟩:∃N,N=ngr rows.length G:=⟨_,rfl⟩;rw[←eN] at hqe⊢;have bJ:=hV.pb;have hn10:=hV.n10;have cB:At P:=by unfold At;omega
 have bV:Hid (prB P=true):=Zk (hV.pr);have bT:Hid (∀k (h:k<qs.length),coE P qs[k] (Ca P rows ((k:Int)+1) wd G N) wd=0):=Zk (fun k h=>Pt bV.out hwd (by rw[Fx];exact (hqe _ (List.getElem_mem _)).1) (fun r hr=>Kc bJ.1 r hr) (hqe _ (List.getElem_mem _)).2)
 have bX:Hid (∀W (j:Nat),1≤(j:Int)∧(j:Int)≤n→SL W vr rows→g<W.heap.size→Calls Tryz.prog 39 #[.agg #[.int .i64 P],.agg #[.int .i64 n,.int .i64 t,.int .i64 G],.int .i64 wd,vr,.int .i64 j] W fun e w'=>∃A c,e= .returned (.tuple #[.slice A N c,.int .i64 0])∧Below W.heap.size W w'∧SLE g w' (.slice A N c) (Ca P rows j wd G N)):=Zk (fun W j hj hs cC=>by
  have h:=zBi P n t G wd j g rows vr W hV hj hwd hrl aK hs cC;rw[←eN] at h;exact h)
 obtain⟨Aq,cq,rfl,bK⟩:=hq.at
 rw[hql];have bR:=Zk bK
 have bW:=Zk hql;have HR:=Zk hr;have HG:=Zk hg;clear hqe hV bK hql hr hg hq aK hrl eN;go_enter Tryz.func36,Tryz.ntmps36;obtain⟨F,eF⟩:∃F,F=w.heap.size:=⟨_,rfl⟩;obtain⟨w1,aI⟩:∃w1:World,w1=(w.alloc (.cells #[.int .i64 P] 31)).alloc (.cells #[.int .i64 n,.int .i64 t,.int .i64 G] 29):=⟨_,rfl⟩;have aU:Hid ((w.alloc (.cells #[.int .i64 P] 31)).alloc (.cells #[.int .i64 n,.int .i64 t,.int .i64 G] 29)=w1):=aI.symm;have aD:Hid (Below w.heap.size w w1):=Zk (by rw[aI];exact ((Zb _ w).alloc (Zl _) _).alloc (by simp) _);have aA:Hid (w1.heap[F]? =some (.cells #[.int .i64 P] 31 (0,0))):=Zk (by show _=_;rw[aI,eF,Below.heap_alloc _ _ _ (by simp)];exact Zh w _);have aB:Hid (w1.heap[F+1]? =some (.cells #[.int .i64 n,.int .i64 t,.int .i64 G] 29 (0,0))):=Zk (by show _=_;rw[aI,eF];have:=Zh (w.alloc (.cells #[.int .i64 P] 31)) (.cells #[.int .i64 n,.int .i64 t,.int .i64 G] 29);simpa using this);have bF:Hid (∀W,Below w1.heap.size w1 W→W.cell? ⟨F,0,none⟩=some (.int .i64 P)∧W.cell? ⟨F+1,0,none⟩=some (.int .i64 n)∧W.cell? ⟨F+1,1,none⟩=some (.int .i64 t)∧W.cell? ⟨F+1,2,none⟩=some (.int .i64 G)):=Zk (fun W hg=>by
  have cA:=(hg.block F (Ae aA.out)).trans aA.out;have aX:=(hg.block (F+1) (Ae aB.out)).trans aB.out;exact⟨Zc W F 0 _ _ _ cA,Zc W (F+1) 0 _ _ _ aX,Zc W (F+1) 1 _ _ _ aX,Zc W (F+1) 2 _ _ _ aX⟩)
 have aL:Hid (g<w1.heap.size):=Zk (by have:=aD.out.size;have:=HG.out;show g<_;omega);go_upto_region 2 with fail
 rw[aU.out,←eF];clear aI eF;go_wp2_with fail;go_loopw [11,20] (fun v iv wr=>Uc1 P rows wd G N n qs g w1 v iv wr) (fun _ iv _=>n- (intOf iv).toNat)
 case atStart=>exact⟨0,_,[],rfl,Nat.zero_le _,rfl,RW.nil _ _ _,Zb _ _⟩
 case round=>
  obtain⟨k,pv,vs,rfl,hk,rfl,aK,hb⟩:=hrel;have aM:=Zk aK;have HB:=Zk hb;have aG:Hid (Below w.heap.size w wr):=aD.out.trans (hb.mono aD.out.size);have bP:=hb.size;clear aK hb;by_cases hlk:k<n
  ·have dk:decide (k<n)=true:=Ze hlk;obtain⟨f0,s0,s1,s2⟩:=bF.out wr HB.out;have aZ:k<qs.length:=by rw[bW.out];exact hlk
   obtain⟨bh,oh,B,d,eA,hW⟩:=bR.out k aZ;subst eA;have bE:=Zk hW;obtain⟨ck,_⟩:=hW wr aG.out;obtain⟨ql,bI⟩:∃ql,ql=qs[k].length:=⟨_,rfl⟩;rw[←bI] at ck bE;obtain⟨j1,aW⟩:∃j1:Nat,(j1:Int)=(k:Int)+1:=⟨k+1,by omega⟩;have wj:IntKind.i64.wrap ((k:Int)+1)=(j1:Int):=by rw[←aW];exact Zi _ (by omega)
   have cD:1≤(j1:Int)∧(j1:Int)≤n:=by omega
   have z1:(0:Int)≤(k:Int):=by omega
   have z2:(k:Int)<(n:Int):=by omega
   have bB:=Zk aW;have bD:Hid (g<wr.heap.size):=Zk (by have:=aL.out;show g<_;omega);clear hW bI aW;go_wp2_with fail;(with_reducible refine (bX.out wr j1 cD (HR.out.below aG.out) bD.out).mono ?_)
   rintro e w2 ⟨Ah,ch,rfl,aY,bO⟩;have aF:Hid (Below wr.heap.size wr w2):=aY;have bY:=Zk bO;have aQ:Hid (Below w.heap.size w w2):=Zk (aG.out.trans (aY.mono aG.out.size));clear f0 s0 s1 s2 ck aY bO wj;obtain⟨f0,s0,s1,s2⟩:=bF.out w2 (HB.out.trans (aF.out.mono HB.out.size));go_wp2_with fail;(with_reducible refine (Je P qs[k] (Ca P rows j1 wd G N) wd _ _ w2 cB (bE.out w2 aQ.out).2 bY.out.sl).mono ?_)
   rintro e w3 ⟨vx,rfl,bL,_,bN⟩;have aN:=bT.out k aZ;rw[←bB.out] at aN;rw[aN];have aO:=bN aN;rw[Int.toNat_natCast] at aO;have aP:Hid (Below wr.heap.size wr w3):=Zk (aF.out.trans (bL.mono aF.out.size));have bA:(cmb P qs[k] (Ca P rows j1 wd G N) wd).length=wd:=Ep ..;rw[bA] at aO;have aR:Hid (w3.ownsRow w2.heap.size 3 1 vx wd ((cmb P qs[k] (Ca P rows j1 wd G N) wd).map (Value.int .i64))):=Zk (aO);have bH:Hid (∀x∈cmb P qs[k] (Ca P rows j1 wd G N) wd,At x):=Zk (fun x hx=>cmb_r bJ _ _ _ x hx)
   have bG:=Zk bA;have aH:Hid (Iv P rows wd G N qs (k+1)=Iv P rows wd G N qs k++[cmb P qs[k] (Ca P rows j1 wd G N) wd]):=Zk (by
    show _=_;rw[Vw,←bB.out];have e:gr qs k=qs[k]:=by unfold gr;rw[List.getElem?_eq_getElem aZ];rfl
    rw[e])
   obtain⟨X,eX⟩:∃X,X=cmb P qs[k] (Ca P rows j1 wd G N) wd:=⟨_,rfl⟩;rw[←eX] at aR bH bG aH;obtain⟨A1,c1,rfl⟩:=Dd aR.out;have cE:w1.heap.size≤w3.heap.size:=Nat.le_trans bP aP.out.size;have aE:Hid (RW w1.heap.size g w3 pv vs (Iv P rows wd G N qs k)):=Zk (aM.out.below aL.out aP.out);have bZ:Hid (SX (w3.alloc (.cells #[.slice A1 wd c1] 22)) pv.ownBlock (some g) (.slice A1 wd c1) X):=Zk (SX.of_own (base:=w2.heap.size) (by rw[bG.out];exact aR.out.alloc _) bH.out (fun q hq=>Nat.lt_of_lt_of_le (aM.out.hdr.lt q hq).2 aF.out.size) (fun q hq=>by injection hq with e;have:=bD.out;have:=aF.out.size;omega))
   have hvn:vs.length≤1000:=by have:=aM.out.len;rw[this,Mc];omega
   clear bL bN aO aN bA eX f0 s0 s1 s2;go_wp2_with (at_builtin;refine Bt _ rfl _ _ 33 rfl w1.heap.size 22 (.slice none 0 0) 24 Tryz.underlying33 Ev pv vs.length vs rfl (aE.out.hdr.alloc _) (.slice A1 wd c1) rfl w3.heap.size rfl (Ba w3 [.slice A1 wd c1] 22 0 _ rfl) (by omega) (by omega) rfl (by simp;omega) ?_;intro g9 aV w9 aC bM aJ;have bU:=Zk aC;have bC:=Zk bM;have bQ:=Zk aJ;clear aC bM aJ);have aT:Hid (RW w1.heap.size g w9 (.slice (some ⟨g9,0,none⟩) (vs.length+1) aV) (vs++[.slice A1 wd c1]) (Iv P rows wd G N qs (k+1))):=Zk (by
    rw[aH.out];exact (aE.out.below aL.out ((Zb _ w3).alloc (Zl _) _)).app bZ.out bU.out bC.out (fun q hq=>by
     have e:g9=q:=by simpa [Value.ownBlock] using hq
     subst e;exact bQ.out))
   have bS:Hid (Below w1.heap.size w1 w9):=Zk (((HB.out.trans (aP.out.mono bP)).alloc cE _).grown bC.out (by simp;omega) (fun q hq=>(aE.out.hdr.lt q hq).1))
   go_roundw
   case rel=>exact⟨k+1,_,_,rfl,by omega,by go_num,aT.out,bS.out⟩
   case measure=>simp[intOf];omega
  ·have dk:decide (k<n)=false:=Zd hlk;have aS:Hid (SLE g wr pv (Iv P rows wd G N qs n)):=Zk (by
    have h:=aM.out.sle aL.out;rw[show k=n by omega] at h;exact h)
   obtain⟨Ao,co,eo⟩:=aS.out.form;subst eo;rw[Mc] at aS⊢;go_wp2_with fail;go_ret;exact⟨Ao,co,rfl,aG.out,aS.out⟩
end Go.Proofs.YtoiabanpnkpbhaaGreatDoor
