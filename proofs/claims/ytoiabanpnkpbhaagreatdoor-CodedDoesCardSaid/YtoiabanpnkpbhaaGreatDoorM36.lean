/- Parts. -/
import Derived.Test.YtoiabanpnkpbhaaGreatDoorM33
import Derived.Test.YtoiabanpnkpbhaaGreatDoorM35
set_option linter.unusedVariables false
set_option linter.unusedSimpArgs false
set_option maxRecDepth 1000000
set_option maxHeartbeats 8000000
namespace Go.Proofs.YtoiabanpnkpbhaaGreatDoor
open Go.RowKit Go.Shelf
attribute [local go_sem] Oper.semAt_some
theorem zBz(n:Int)(w:World)(h:0≤n∧n≤64):Calls Tryz.prog 46 #[.int .i64 n] w fun e w'=>e= .returned (.bool true)∧w=w':=by
 have d1:decide (0≤n)=true:=Ze h.1;have d2:decide (n≤64)=true:=Ze h.2;go_enter Tryz.func46,Tryz.ntmps46;go_wp2_with fail;go_ret;exact⟨rfl,rfl⟩
theorem zEb(n:Nat)(hn:n≤1000000)(W:World):(Instr.makeSlice 22 (.int .i64 (n:Int)) (.int .i64 (n:Int))).run Tryz.prog W= .ok (.slice (some ⟨W.heap.size,0,none⟩) n n) (W.alloc (.cells ((Ay n).map (Value.int .i64)).toArray 3)):=by
 obtain⟨i0,aC,aD,aB,aE⟩:=info_parts (P:=Tryz.prog) (e:=3) Bi;have aA:=run_makeSlice (P:=Tryz.prog) W 22 3 i0 _ Tryz.underlying22 aC aD .i64 .i64 n n (by omega) (Int.le_refl _) (by rw[aB];simp;omega) (by rw[aE];omega) (by omega);simp only[Int.toNat_natCast] at aA;rw[aB,Nat.mul_one] at aA;have hm:madeCells (Value.int .i64 0).cells n=((Ay n).map (Value.int .i64)).toArray:=Qv n;rw[hm] at aA;exact aA
theorem Jl{B:Nat}{W W':World}{row:Option Nat}(hg:W.grownBy W' row)(hr:∀r,row=some r→∃o:Obj,W.heap[r]? =some o∧o.isCells=true):KeepsFrom B W W':=
 ⟨hg.size,fun k o' _ hk hc=>by
  have aA:=(Array.getElem?_eq_some_iff.1 hk).1;rw[hg.block k aA (fun e=> ?_)]
  ·exact hk
  ·obtain⟨o,h1,h2⟩:=hr k e.symm;rw[hk] at h1
   cases h1;rw[hc] at h2
   cases h2⟩
def hp(P:Int)(rows:List (List Int))(j:Int)(wd G:Nat){N:Nat}(pre:List (Fin N)):List (List Int):=pre.map fun x=>hdT P rows j wd (x.1*G) (gS rows.length G x.1)
theorem Us(P:Int)(rows:List (List Int))(j:Int)(wd G:Nat){N:Nat}(pre:List (Fin N))(x:Fin N):hp P rows j wd G (pre++[x])=hp P rows j wd G pre++[hdT P rows j wd (x.1*G) (gS rows.length G x.1)]:=by simp[hp]
theorem zAe(P:Int)(rows:List (List Int))(j:Int)(wd G N:Nat):∀k,k≤N→hp P rows j wd G (upA N k)=(List.range k).map fun g=>hdT P rows j wd (g*G) (gSz rows.length G g)
 |0,_=>rfl
 |k+1,h=>by rw[Gd (by omega),Us,zAe P rows j wd G N k (by omega),List.range_succ,List.map_append];rfl
def HO(P:Int)(wd j F R O C:Nat)(W:World)(v:Value)(vs:List Value)(ps:List (List Int)):Prop:=
 W.cell? ⟨R,0,none⟩=some (.int .i64 P)∧W.cell? ⟨F+2,0,none⟩=some (.int .i64 wd)∧W.cell? ⟨F+3,0,none⟩=some (.int .i64 j)∧W.cell? ⟨O,0,none⟩=some v∧W.frozen? ⟨O,0,none⟩=false∧RO C W v vs ps∧C≤W.heap.size
theorem HO.kept{P:Int}{wd j F R O C:Nat}{A B:World}{v:Value}{vs:List Value}{ps:List (List Int)}{row:Option Nat}(h:HO P wd j F R O C A v vs ps)(hg:A.grownBy B row)(hr:∀r,row=some r→∃o:Obj,A.heap[r]? =some o∧o.isCells=false):HO P wd j F R O C B v vs ps:=
 ⟨cell_kept h.1 hg hr,cell_kept h.2.1 hg hr,cell_kept h.2.2.1 hg hr,cell_kept h.2.2.2.1 hg hr,(frozen_kept h.2.2.2.1 hg hr).trans h.2.2.2.2.1,h.2.2.2.2.2.1.keptR hg hr,Nat.le_trans h.2.2.2.2.2.2 hg.size⟩
theorem Vq(P x:Int)(b o n c d:Nat)(B:Option Addr)(w:World):
  Calls Tryz.prog 49 #[.int .i64 P,.slice (some ⟨b,o,none⟩) n c,.int .i64 x,.slice B 0 d] w fun e w'=>(∃v,e= .returned v)∧w=w':=by
 go_enter Tryz.func49,Tryz.ntmps49;go_wp2_with fail;go_loopw [12] (fun i wr=>i= .int .i64 0∧w=wr) (fun _ _=>0)
 case atStart=>exact⟨rfl,rfl⟩
 case round=>
  obtain⟨rfl,rfl⟩:=hrel;go_wp2_with fail;go_end0
  exact⟨⟨_,rfl⟩,rfl⟩
theorem Xe(P:Int)(tq:List Int)(o:Nat)(x:Int):Bl P tq o x []=tq:=by
 refine Cb (by rw[Bg]) fun k hk=> ?_
 rw[Bg] at hk;have h:¬(o≤k∧k<o+([]:List Int).length):=by simp
 have e:Bl P tq o x []=(List.range tq.length).map fun k=>if o≤k∧k<o+([]:List Int).length then (gd tq k+x*gd [] (k-o))%P else gd tq k:=rfl
 rw[e];unfold gd;rw[List.getElem?_map,List.getElem?_range hk];show (if o≤k∧k<o+([]:List Int).length then _ else _)=_;rw[if_neg h]
theorem zAd{C H O R F wd j:Nat}{P:Int}{w W w7 wr w3:World}{v v3:Value}{vs:List Value}{ps:List (List Int)}{l:List Int}{o:Obj}(hH:H=W.heap.size)(h7:Below W.heap.size W w7)(hk7:∃o,w7.heap[H]? =some o∧o.isCells=true)(hgr:w7.grownBy wr (some H))(hbk:BK wr H l)(hl:l.length=wd)(hwd:wd≤64)
  (hRO:RO C W v vs ps) (hc:wr.cell? ⟨R,0,none⟩=some (.int .i64 P)∧wr.cell? ⟨F+3,0,none⟩=some (.int .i64 j)∧wr.cell? ⟨O,0,none⟩=some v∧wr.frozen? ⟨O,0,none⟩=false∧wr.cell? ⟨F+2,0,none⟩=some (.int .i64 wd)) (hC:C≤W.heap.size) (hO:O+3≤C∧R<O∧F+3<O)
  (h3:w3.ownsRow C 22 1 v3 (vs.length+1) (vs++[.slice (some ⟨H,0,none⟩) wd wd])) (hg3:(wr.alloc o).grownBy w3 v.ownBlock) (hat:v3.ownBlock=v.ownBlock∨v3.ownBlock=some (wr.alloc o).heap.size) (hBw:Below w.heap.size w W) (hwO:w.heap.size≤O):
  KeepsFrom C W (w3.setCell ⟨O,0,none⟩ v3)∧KB (fun q=>q=O+1∨q=O+1+1) W (w3.setCell ⟨O,0,none⟩ v3)∧(∃v vs',HO P wd j F R O C (w3.setCell ⟨O,0,none⟩ v3) v vs' (ps++[l]))∧Below w.heap.size w (w3.setCell ⟨O,0,none⟩ v3):=by
 obtain⟨c1,c2,c3,c4,c5⟩:=hc;have z7:=h7.size;have zr:=hgr.size;have z3:=hg3.size;have za:(wr.alloc o).heap.size=wr.heap.size+1:=by simp
 have K1:∀b,b<W.heap.size→wr.heap[b]? =W.heap[b]? :=fun b hb=>(hgr.block b (by omega) (by simp;omega)).trans (h7.block b hb)
 have aA:RO C wr v vs ps:=hRO.keep fun b _ hb=>K1 b hb
 have aC:∀b,v.ownBlock=some b→C≤b:=fun b hb=>(hRO.hdr.lt b hb).1
 have hu:wr.ownsRow C 3 1 (.slice (some ⟨H,0,none⟩) wd wd) l.length (l.map (Value.int .i64)):=by
  have:=hbk.own (base:=C) (by omega) (by omega);rw[hl] at this⊢;exact this
 obtain⟨g9,aF,e3,hb3,hl3⟩:=Dg h3 (by omega);subst e3;have aE:v.ownBlock=some g9∨(wr.alloc o).heap.size≤g9:=by
  rcases hat with h|h
  ·exact .inl h.symm
  ·have e:g9=(wr.alloc o).heap.size:=by simpa [Value.ownBlock] using h
   exact .inr (by omega)
 have aD:=aA.app hu (fun b hb e=>by
  have e1:H=b:=by simpa [Value.ownBlock] using hb
  have:=(hRO.hdr.lt b e).2;omega) h3 hg3 aE
 have aB:∀k i,k<C→w3.cell? ⟨k,i,none⟩=wr.cell? ⟨k,i,none⟩:=fun k i hk=>
  (hg3.cell_far ⟨k,i,none⟩ (by show k<_;omega) (fun e=>by have h:=aC _ e.symm;have h':C≤k:=h;omega)).trans (World.cell?_of_block (Below.heap_alloc _ _ _ (show k<wr.heap.size by omega)))
 have aG:∀b,C≤b→(w3.setCell ⟨O,0,none⟩ (.slice (some ⟨g9,0,none⟩) (vs.length+1) aF)).heap[b]? =w3.heap[b]? :=fun b hb=>Zo w3 ⟨O,0,none⟩ b _ (by show b≠O;omega)
 refine⟨?_,?_,⟨_,_,?_,?_,?_,?_,?_,aD.keep fun b hb _=>aG b hb,by simp[World.setCell];omega⟩,?_⟩
 ·refine (Jl (Af h7 none) fun r h=>by cases h).trans ((Jl hgr fun r h=>by injection h with h;subst h;exact hk7).trans ((Jl (World.grownBy_alloc wr o none) fun r h=>by cases h).trans ((Jl hg3 fun r h=>Vc (aA.hdr.alloc o) h).trans ((KeepsOthers.setCell _ _ _).from _))))
 ·refine Il (KB.of h7 fun k hk=>by rcases hk with h|h<;>omega) (Il (KB.grown hgr fun b hb=>⟨by rcases hb with h|h<;>omega,by simp;rcases hb with h|h<;>omega⟩) (Il (KB.grown (World.grownBy_alloc wr o none) fun b hb=>⟨by rcases hb with h|h<;>omega,by simp⟩) (Il (KB.grown hg3 fun b hb=>⟨by rcases hb with h|h<;>omega,fun e=>by have:=aC _ e.symm;rcases hb with h|h<;>omega⟩) ⟨by simp[World.setCell],fun p hp=>World.cell?_setCell_other _ _ _ _ (fun e=>by rw[←e] at hp;rcases hp with h|h<;>(have h':O=_:=h;omega))⟩)))
 ·exact (World.cell?_setCell_other _ _ _ _ (by first|(simp;done)|(simp;omega))).trans ((aB R 0 (by omega)).trans c1)
 ·exact (World.cell?_setCell_other _ _ _ _ (by first|(simp;done)|(simp;omega))).trans ((aB (F+2) 0 (by omega)).trans c5)
 ·exact (World.cell?_setCell_other _ _ _ _ (by first|(simp;done)|(simp;omega))).trans ((aB (F+3) 0 (by omega)).trans c2)
 ·exact World.cell?_setCell_same _ _ _ ((aB O 0 (by omega)).trans c3)
 ·rw[World.frozen?_setCell];exact (hg3.frozen_far ⟨O,0,none⟩ (by show O<_;omega) (fun e=>by have h:=aC _ e.symm;have h':C≤O:=h;omega)).trans ((((Zb wr.heap.size wr).alloc (Zl _) o).frozen (p:=⟨O,0,none⟩) (by show O<_;omega)).trans c4)
 ·have aH:=hBw.size;have b7:Below w.heap.size w w7:=hBw.trans (h7.mono aH);have br:Below w.heap.size w wr:=b7.grown hgr (by omega) fun r hr=>by injection hr with e;omega
  have b3:Below w.heap.size w w3:=(br.alloc (by omega) o).grown hg3 (by omega) fun r hr=>by have:=aC r hr;omega
  exact b3.setCell (p:=⟨O,0,none⟩) hwO _
theorem zDh(P n t:Int)(G wd j g:Nat)(rows:List (List Int))(v:Value)(w:World)(hV:SV P n t G)(hj:1≤(j:Int)∧(j:Int)≤n)(hwd:wd≤64)(hrl:rows.length≤1024)(hrw:∀r∈rows,r.length=wd∧els P r=true)(h:SL w v rows)(hg:g<w.heap.size):
  CallsIn Fence.wide 8 Tryz.prog 17 #[.agg #[.int .i64 P],.agg #[.int .i64 n,.int .i64 t,.int .i64 G],.int .i64 wd,v,.int .i64 j] w fun e w'=>∃A c,e= .returned (.tuple #[.slice A (ngr rows.length G) c,.int .i64 0])∧Below w.heap.size w w'∧SLE g w' (.slice A (ngr rows.length G) c) (Ca P rows j wd G (ngr rows.length G)):=by
 have HV:=Zk hV;have aW:=hV.pb;have hG:1≤G∧G≤10:=by have:=hV.G1;have:=hV.sum;have:=hV.n10;have:=hV.t1;omega
 have hn10:=hV.n10;have bU:=Zk hrw;obtain⟨A,c,rfl,hc,hm,ha⟩:=h;have HA:=Zk ha;obtain⟨len,el⟩:∃l,l=rows.length:=⟨_,rfl⟩;have HL:=Zk el;rw[←el] at hc hrl⊢;clear ha hrw hV el;refine callsIn_of_wp_marks Tryz.func17 rfl trivial ?_ rfl;simp only[Tryz.ntmps17,List.size_toArray,List.length_cons,List.length_nil,Nat.reduceAdd,Nat.reduceSub,Array.replicate_succ,Array.replicate_zero,List.push_toArray,List.append_toArray,List.nil_append,List.cons_append];obtain⟨F,eF⟩:∃F,F=w.heap.size:=⟨_,rfl⟩;obtain⟨w1,ew⟩:∃w1:World,w1=(((w.alloc (.cells #[.int .i64 P] 31)).alloc (.cells #[.int .i64 n,.int .i64 t,.int .i64 G] 29)).alloc (.cells #[.int .i64 wd] 3)).alloc (.cells #[.int .i64 j] 3):=⟨_,rfl⟩;have dS:Hid ((((w.alloc (.cells #[.int .i64 P] 31)).alloc (.cells #[.int .i64 n,.int .i64 t,.int .i64 G] 29)).alloc (.cells #[.int .i64 wd] 3)).alloc (.cells #[.int .i64 j] 3)=w1):=ew.symm;have aZ:Hid (Below w.heap.size w w1):=Zk (by rw[ew];exact ((((Zb _ w).alloc (Zl _) _).alloc (by simp) _).alloc (by simp;omega) _).alloc (by simp;omega) _);have cN:Hid (w1.heap.size=F+4):=Zk (by show _=_;rw[ew,eF];simp);have dH:Hid (w1.cell? ⟨F,0,none⟩=some (.int .i64 P)∧w1.cell? ⟨F+1,0,none⟩=some (.int .i64 n)∧w1.cell? ⟨F+1,1,none⟩=some (.int .i64 t)∧w1.cell? ⟨F+1,2,none⟩=some (.int .i64 G)∧w1.cell? ⟨F+2,0,none⟩=some (.int .i64 wd)∧w1.cell? ⟨F+3,0,none⟩=some (.int .i64 j)):=Zk (by
  rw[ew,eF];refine⟨?_,?_,?_,?_,?_,?_⟩<;>simp[go_sem])
 gi_upto_region 1 with fail
 rw[show w.heap.size+1+1+1=w.heap.size+3 from rfl,show w.heap.size+1+1=w.heap.size+2 from rfl];rw[dS.out,←eF];have dM:=Zk eF;clear ew eF;have HK:Hid (∀W,Below w1.heap.size w1 W→W.cell? ⟨F,0,none⟩=some (.int .i64 P)∧W.cell? ⟨F+1,0,none⟩=some (.int .i64 n)∧W.cell? ⟨F+1,1,none⟩=some (.int .i64 t)∧W.cell? ⟨F+1,2,none⟩=some (.int .i64 G)∧W.cell? ⟨F+2,0,none⟩=some (.int .i64 wd)∧W.cell? ⟨F+3,0,none⟩=some (.int .i64 j)):=Zk (fun W hb=>by
  obtain⟨a1,a2,a3,a4,a5,a6⟩:=dH.out;have hz:=cN.out;exact⟨(hb.cell (p:=⟨F,0,none⟩) (by show F<_;omega)).trans a1,(hb.cell (p:=⟨F+1,0,none⟩) (by show F+1<_;omega)).trans a2,(hb.cell (p:=⟨F+1,1,none⟩) (by show F+1<_;omega)).trans a3,(hb.cell (p:=⟨F+1,2,none⟩) (by show F+1<_;omega)).trans a4,(hb.cell (p:=⟨F+2,0,none⟩) (by show F+2<_;omega)).trans a5,(hb.cell (p:=⟨F+3,0,none⟩) (by show F+3<_;omega)).trans a6⟩)
 obtain⟨f0,s0,s1,s2,d0,j0⟩:=HK.out w1 (Zb _ _);gi_wp2_with fail
 refine⟨trivial,(callsIn_wide.2 (Nr P n t G _ HV.out)).mono ?_⟩;rintro e w2 ⟨rfl,cU⟩;have bA:=Zk cU;clear f0 s0 s1 s2 d0 j0 cU;obtain⟨f0,s0,s1,s2,d0,j0⟩:=HK.out w2 bA.out;have t1:decide ((j:Int)<1)=false:=Zd (by omega);have t2:decide (n<(j:Int))=false:=Zd (by omega);have t3:decide (j<1)=false:=Zd (by omega);gi_wp2_with fail
 refine⟨trivial,(callsIn_wide.2 (zBz wd _ (by omega))).mono ?_⟩;rintro e wz ⟨rfl,eJ⟩;subst eJ;have t4:decide ((1024:Int)<(len:Int))=false:=Zd (by omega);have t5:decide (1024<len)=false:=Zd (by omega);obtain⟨R,eR⟩:∃R,R=w2.heap.size:=⟨_,rfl⟩;obtain⟨w3,aU⟩:∃w3:World,w3=w2.alloc (.cells #[.int .i64 P] 85):=⟨_,rfl⟩;have dT:Hid (w2.alloc (.cells #[.int .i64 P] 85)=w3):=aU.symm;have dR:Hid (w3.cell? ⟨R,0,none⟩=some (.int .i64 P)):=Zk (by show _=_;rw[aU,eR];exact Zc _ _ 0 _ _ (0,0) (Zh w2 _));have bW:Hid (w3.heap.size=R+1∧F+4≤R):=Zk (by
  have h1:=bA.out.size;have h2:=cN.out;refine⟨by rw[aU,eR];simp,by rw[eR];omega⟩)
 have cF:Hid (Below w1.heap.size w1 w3):=Zk (by rw[aU];exact bA.out.alloc bA.out.size _);have HER:=Zk eR
 gi_upto_region 9 with fail
 rw[dT.out,←eR];clear aU eR f0 s0 s1 s2 d0 j0;have cM:Hid (∀W,Below w3.heap.size w3 W→W.cell? ⟨R,0,none⟩=some (.int .i64 P)):=Zk (fun W hb=>(hb.cell (p:=⟨R,0,none⟩) (by have:=bW.out;show R<_;omega)).trans dR.out)
 gi_wp2_with fail
 gi_loopw [48] (fun iv wr=>∃k:Nat,k≤len∧iv= .int .i64 k∧Below w3.heap.size w3 wr) (fun iv _=>len- (intOf iv).toNat)
 case atStart=>exact⟨0,Nat.zero_le _,rfl,Zb _ _⟩
 case round=>
  obtain⟨k,hk,rfl,hb⟩:=hrel;have HB:=Zk hb;have aE:Hid (Below w1.heap.size w1 wr):=Zk (cF.out.trans (hb.mono cF.out.size));have cH:Hid (Below w.heap.size w wr):=Zk (aZ.out.trans (aE.out.mono aZ.out.size));clear hb;by_cases hlk:k<len
  ·have dk:decide (k<len)=true:=Ze hlk;have dX:decide ((k:Int)<(len:Int))=true:=Ze (by omega);have cC:k<rows.length:=by rw[←HL.out];exact hlk
   obtain⟨b,aD,rfl,bH,aA⟩:=HA.out (by omega);obtain⟨B,d,c1,hs⟩:=aA k cC;have c2:=(cH.out.cell (p:=⟨b,aD+k,none⟩) bH).trans c1;have HS:Hid (SI wr (.slice B rows[k].length d) rows[k]):=Zk (hs.below cH.out);have HE:Hid (rows[k].length=wd∧els P rows[k]=true):=Zk (bU.out _ (List.getElem_mem cC));generalize rows[k]=r at HS HE c2;have aC:r.length=wd:=HE.out.1;rw[aC] at HS c2;obtain⟨f0,s0,s1,s2,d0,j0⟩:=HK.out wr aE.out;have r0:=cM.out wr HB.out;have e1:((wd:Int) !=(wd:Int))=false:=by simp
   clear aA c1 hs aC;gi_wp2_with fail
   refine⟨trivial,(callsIn_wide.2 (Hp P r _ _ HS.out)).mono ?_⟩;rintro e w4 ⟨rfl,cV⟩;rw[HE.out.2];have dE:=Zk cV;clear f0 s0 s1 s2 d0 j0 r0 c2 cV;gi_wp2_with fail
   go_roundw
   case rel=>exact⟨k+1,by omega,by go_num,HB.out.trans (dE.out.mono HB.out.size)⟩
   case measure=>simp[intOf];omega
  ·have dk:decide (k<len)=false:=Zd hlk;have dX:decide ((k:Int)<(len:Int))=false:=Zd (by omega);obtain⟨w4,rfl⟩:∃w4:World,w4=wr:=⟨_,rfl⟩;obtain⟨O,eO⟩:∃O,O=w4.heap.size:=⟨_,rfl⟩;obtain⟨w5,aV⟩:∃w5:World,w5=w4.alloc (.cells #[.slice none 0 0] 33):=⟨_,rfl⟩;have dU:Hid (w4.alloc (.cells #[.slice none 0 0] 33)=w5):=aV.symm;have cL:Hid (w5.heap[O]? =some (.cells #[.slice none 0 0] 33 (0,0))):=Zk (by show _=_;rw[aV,eO];exact Zh w4 _);have cG:Hid (Below w4.heap.size w4 w5):=Zk (by rw[aV];exact (Zb _ w4).alloc (Zl _) _);have cO:Hid (w5.heap.size=O+1∧R+1≤O):=Zk (by
    have h1:=HB.out.size;have h2:=bW.out.1;refine⟨by rw[aV,eO];simp,by rw[eO];omega⟩)
   have aI:Hid (Below w1.heap.size w1 w5):=Zk (aE.out.trans (cG.out.mono aE.out.size));have aP:Hid (Below w3.heap.size w3 w5):=Zk (HB.out.trans (cG.out.mono HB.out.size));have HEO:=Zk eO
   gi_upto_region 18 with fail
   rw[dU.out,←eO];clear aV eO;obtain⟨f0,s0,s1,s2,d0,j0⟩:=HK.out w5 aI.out;gi_wp2_with fail
   refine⟨trivial,(callsIn_wide.2 (So _ _ _ _ _)).mono ?_⟩;rintro e w6 ⟨rfl,bZ⟩;have bN:Hid (Below w5.heap.size w5 w6):=Zk (by rw[bZ];exact ((Zb _ w5).alloc (Zl _) _).alloc (by simp) _);have bB:Hid (w6.cell? ⟨w5.heap.size,0,none⟩=some (.slice A len c)∧w6.cell? ⟨w5.heap.size+1,0,none⟩=some (.int .i64 G)∧w6.heap.size=w5.heap.size+2):=Zk (by
    rw[bZ];refine⟨?_,?_,?_⟩<;>simp[go_sem])
   have dB:=cO.out.1;rw[dB] at bB⊢;clear bZ f0 s0 s1 s2 d0 j0;gi_wp2_with fail
   obtain⟨C,eC⟩:∃C,C=w6.heap.size:=⟨_,rfl⟩;have aL:Hid (C=O+3):=Zk (by show _=_;rw[eC,bB.out.2.2]);have dL:=Zk eC;obtain⟨b,aD,cP,bH,aA⟩:∃b aD,(0<len→A=some ⟨b,aD,none⟩)∧(0<len→b<w.heap.size)∧∀q (h:q<rows.length),∃B d,w.cell? ⟨b,aD+q,none⟩=some (.slice B rows[q].length d)∧SI w (.slice B rows[q].length d) rows[q]:=by
    by_cases h0:0<rows.length
    ·obtain⟨b,aD,e,h1,h2⟩:=HA.out h0;exact⟨b,aD,fun _=>e,fun _=>h1,h2⟩
    ·exact⟨0,0,fun h=>absurd (by rw[←HL.out];exact h) h0,fun h=>absurd (by rw[←HL.out];exact h) h0,fun q h=>absurd (Nat.lt_of_le_of_lt (Nat.zero_le _) h) h0⟩
   have dI:=Zk aA;have dG:=Zk bH;have dD:=Zk cP;have aO:Hid (Below w1.heap.size w1 w6):=Zk (aI.out.trans (bN.out.mono aI.out.size));have bM:Hid (Below w3.heap.size w3 w6):=Zk (aP.out.trans (bN.out.mono aP.out.size));have aG:Hid (Below w.heap.size w w6):=Zk (aZ.out.trans (aO.out.mono aZ.out.size));have dP:Hid (HO P wd j F R O C w6 (.slice none 0 0) [] (hp P rows j wd G ([]:List (Fin (ngr len G))))):=Zk (by
    obtain⟨_,_,_,_,h5,h6⟩:=HK.out w6 aO.out;have hO:w6.heap[O]? =some (.cells #[.slice none 0 0] 33 (0,0)):=(bN.out.block O (Ae cL.out)).trans cL.out;exact⟨cM.out w6 bM.out,h5,h6,Zc w6 O 0 _ _ _ hO,Zf w6 O 0 _ _ hO,RO.nil _ _,by rw[eC];exact Zl _⟩)
   have cR:F+4≤R∧R+1≤O:=⟨bW.out.2,cO.out.2⟩;have bC:=Zk cR;have cQ:C=w6.heap.size:=eC;clear aA bH cP dB eC cR;refine wpIn_rangeFunc_ownG rfl (by omega) (gf:=76) (lb:= #[.pointer (some ⟨O+1+1,0,none⟩),.pointer (some ⟨O+1,0,none⟩)]) rfl trivial (enters_of Tryz.func76 (by kernel_rfl) rfl)
    (Yz 7 (by omega) (O+1+1) (O+1) (fun q=>q=O+1∨q=O+1+1) b aD c len G A hG hrl hc hm w6 (fun q hq=>by have:=aL.out;rcases hq with h|h<;>omega) (.inr rfl) (.inl rfl) bB.out.2.1 bB.out.1 dD.out)
    Il (zCd (fun q hq=>by have:=aL.out;rcases hq with h|h<;>omega)) (Zb _ _) (fun _=>rfl)
    (fun pre W=>(∃v vs,HO P wd j F R O C W v vs (hp P rows j wd G pre))∧Below w.heap.size w W)
    (fun _ _ _=>False)
    (OwnFrom.and (Own.from (fun s A B row hs hg hr=>hs.imp fun v hv=>hv.imp fun vs h=>h.kept hg hr) _) (ownFrom_below (Zl _) aG.out.size))
    (fun _ _ _ _ _ hs _ _=>hs)
    ⟨⟨_,_,dP.out⟩,aG.out⟩
    (fun x=>{tmps:= #[Value.agg #[Value.int IntKind.i64 P],Value.agg #[Value.int IntKind.i64 n,Value.int IntKind.i64 t,Value.int IntKind.i64 G],Value.int IntKind.i64 wd,Value.slice A len c,Value.int IntKind.i64 j,Value.pointer (some ⟨F,0,none⟩),Value.pointer (some ⟨F+1,0,none⟩),Value.pointer (some ⟨F+2,0,none⟩),undef,Value.pointer (some ⟨F+3,0,none⟩),u10,u11,Value.int IntKind.i64 0,Value.pointer (some ⟨R,0,none⟩),undef,u15,Value.pointer (some ⟨O,0,none⟩),undef,Value.slice (some ⟨b,aD+x.1*G,none⟩) (gS len G x.1) (c-x.1*G),undef,undef,undef,Value.agg #[Value.int IntKind.i64 P],Value.agg #[Value.int IntKind.i64 n,Value.int IntKind.i64 t,Value.int IntKind.i64 G],Value.int IntKind.i64 0,Value.int IntKind.i64 0,Value.bool false,undef,Value.int IntKind.i64 j,Value.bool false,Value.bool false,Value.int IntKind.i64 j,Value.pointer (some ⟨F+1,0,none⟩),Value.int IntKind.i64 n,Value.bool false,Value.bool false,Value.int IntKind.i64 wd,Value.bool true,Value.bool false,Value.bool false,Value.slice A len c,Value.int IntKind.i64 len,Value.bool false,Value.bool false,Value.pointer (some ⟨F,0,none⟩),Value.int IntKind.i64 P,Value.slice A len c,Value.int IntKind.i64 len,Value.int IntKind.i64 k,Value.bool false,u50,u51,u52,u53,u54,u55,u56,u57,u58,u59,u60,Value.slice A len c,Value.pointer (some ⟨F+1,2,none⟩),Value.int IntKind.i64 G,Value.func (Fn.func 76) #[] #[Value.pointer (some ⟨O+1+1,0,none⟩),Value.pointer (some ⟨O+1,0,none⟩)],Value.int .i64 (x.1:Int),Value.slice (some ⟨b,aD+x.1*G,none⟩) (gS len G x.1) (c-x.1*G),undef,undef,undef,undef,undef,undef,undef,undef,undef,undef,undef,undef,undef,undef,undef,undef,undef,undef,undef,undef,undef,undef,undef],defers:=[]}) ?assign ?body ?done ?stop
   case assign=>
    intro lr x W K hK
    gi_wp2
    exact hK
   case body=>
    rintro lr pre x W ⟨⟨v,vs,cA⟩,hB⟩ eG;obtain⟨r0,d0,j0,o0,of,aH,dC⟩:=cA;have bT:=Zk aH;have aK:=Zk hB;have bR:=Zk (Us P rows j wd G pre x);have dA:=(Ml (len:=len) hG.1).1;have cD:ngr len G≤len+G:=Nat.le_trans (Nat.le_mul_of_pos_right _ (by omega)) (Nat.le_of_lt dA);have cE:vs.length≤1100:=by
     have h1:=aH.len;have h2:(hp P rows j wd G pre).length=pre.length:=by unfold hp;simp
     omega
    obtain⟨q,bF⟩:∃q,q=x.1:=⟨_,rfl⟩;have hq:q<ngr len G:=by rw[bF];exact x.2
    rw[←HL.out,←bF] at bR;rw[←bF];clear bF;obtain⟨sz,bY⟩:∃sz,sz=gS len G q:=⟨_,rfl⟩;obtain⟨oq,bX⟩:∃oq,oq=q*G:=⟨_,rfl⟩;have hoq:oq+sz≤len∧sz≤10:=by
     have h1:(q+1)*G≤ngr len G*G:=Nat.mul_le_mul_right _ hq;rw[Nat.add_mul] at h1;rw[bY,bX];unfold gS;omega
    rw[←bY,←bX] at bR⊢;clear bY bX aH hB dA cD eG hq;obtain⟨H,eH⟩:∃H,H=W.heap.size:=⟨_,rfl⟩;obtain⟨w7,bG⟩:∃w7:World,w7=W.alloc (.cells ((Ay wd).map (Value.int .i64)).toArray 3):=⟨_,rfl⟩;have dV:Hid (W.alloc (.cells ((Ay wd).map (Value.int .i64)).toArray 3)=w7):=bG.symm;have aF:Hid (Below W.heap.size W w7):=Zk (by rw[bG];exact (Zb _ W).alloc (Zl _) _);have cJ:Hid (BK w7 H (Ay wd)):=Zk (by rw[bG,eH];exact Zh W _);have aM:=Zk eH;have bD:Hid (C≤W.heap.size):=dC;have eE:=zEb wd (by omega)
    gi_upto_region 21 with fail
    rw[dV.out,←eH];have dK:Hid (W.cell? ⟨R,0,none⟩=some (.int .i64 P)∧W.cell? ⟨F+3,0,none⟩=some (.int .i64 j)∧W.cell? ⟨O,0,none⟩=some v∧W.frozen? ⟨O,0,none⟩=false∧W.cell? ⟨F+2,0,none⟩=some (.int .i64 wd)):=⟨r0,j0,o0,of,d0⟩;have aS:Hid (O<C∧R<C∧F+3<C):=Zk (by have:=bC.out;have:=aL.out;exact⟨by omega,by omega,by omega⟩);clear eE r0 d0 j0 o0 of eH bG dC cQ;have cK:Hid (∀W',w7.grownBy W' (some H)→W'.cell? ⟨R,0,none⟩=some (.int .i64 P)∧W'.cell? ⟨F+3,0,none⟩=some (.int .i64 j)∧W'.cell? ⟨O,0,none⟩=some v∧W'.frozen? ⟨O,0,none⟩=false∧W'.cell? ⟨F+2,0,none⟩=some (.int .i64 wd)):=Zk (fun W' hg=>by
     obtain⟨a1,a2,a3,a4,a5⟩:=dK.out;obtain⟨z1,z2,z3⟩:=aS.out;have hz:=bD.out;have he:=aM.out;have hs:=aF.out.size;have K:∀k,k<C→∀i,W'.cell? ⟨k,i,none⟩=W.cell? ⟨k,i,none⟩:=fun k hk i=>(hg.cell_far ⟨k,i,none⟩ (by show k<_;omega) (fun e=>by injection e with e;have e':k=H:=e;omega)).trans (aF.out.cell (p:=⟨k,i,none⟩) (by show k<_;omega))
     refine⟨(K R z2 0).trans a1,(K (F+3) z3 0).trans a2,(K O z1 0).trans a3,?_,(K (F+2) (by omega) 0).trans a5⟩;exact (hg.frozen_far ⟨O,0,none⟩ (by show O<_;omega) (fun e=>by injection e with e;have e':O=H:=e;omega)).trans ((aF.out.frozen (p:=⟨O,0,none⟩) (by show O<_;omega)).trans a4))
    have bP:Hid (∀W',w7.grownBy W' (some H)→Below w.heap.size w W'):=Zk (fun W' hg=>(aK.out.trans (aF.out.mono aK.out.size)).grown hg (by have:=aK.out.size;have:=aF.out.size;omega) (fun r hr=>by injection hr with e;subst e;have:=aK.out.size;have:=aM.out;omega))
    gi_wp2_with fail
    gi_loopw [71] (fun iv wr=>∃i:Nat,i≤sz∧iv= .int .i64 i∧BK wr H (hdT P rows j wd oq i)∧w7.grownBy wr (some H)) (fun iv _=>sz- (intOf iv).toNat)
    case atStart=>exact⟨0,Nat.zero_le _,rfl,cJ.out,Ai _ _⟩
    case round=>
     obtain⟨i,hi,rfl,cW,bJ⟩:=hrel;have bO:=Zk cW;have aR:=Zk bJ;obtain⟨r0,j0,o0,of,_⟩:=cK.out wr bJ;have aQ:Hid (Below w.heap.size w wr):=bP.out wr bJ;clear cW bJ;by_cases hli:i<sz
     ·have di:decide (i<sz)=true:=Ze hli;have dW:decide ((i:Int)<(sz:Int))=true:=Ze (by omega);have bK:oq+i<rows.length:=by rw[←HL.out];omega
      obtain⟨B,d,c1,hs⟩:=dI.out (oq+i) bK;have c2:=(aQ.out.cell (p:=⟨b,aD+(oq+i),none⟩) (dG.out (by omega))).trans c1;rw[←Nat.add_assoc] at c2;have HS:Hid (SI wr (.slice B rows[oq+i].length d) rows[oq+i]):=Zk (hs.below aQ.out);have cI:Hid (rows[oq+i].length=wd):=Zk ((bU.out _ (List.getElem_mem bK)).1);have HE:Hid (rows[oq+i].length=wd∧els P rows[oq+i]=true):=Zk (bU.out _ (List.getElem_mem bK));have bQ:Hid (0<wd→∀k,(Value.slice B rows[oq+i].length d).ownBlock=some k→k≠H):=Zk (fun h0 k hk e=>by
       obtain⟨A',c',e1,_,_,_,ha⟩:=hs;injection e1 with e1 e2 e3;subst e1;obtain⟨b',o',rfl,cB,_⟩:=ha (by rw[cI.out];exact h0);have cC:b'=k:=by simpa [Value.ownBlock] using hk
       have:=aM.out;have:=aK.out.size;omega)
      have bV:Hid (hdT P rows j wd oq (i+1)=Bl P (hdT P rows j wd oq i) 0 ((j:Int)^i%P) rows[oq+i]):=Zk (by
       show _=_;rw[Fy,Hf bK])
      clear hs;generalize rows[oq+i]=r at HS HE cI bQ bV c2;have aC:r.length=wd:=HE.out.1;rw[aC] at HS bQ c2;have eD:0≤(j:Int)∧(j:Int)<P:=⟨by omega,by have:=HV.out.nP;omega⟩;have dQ:Hid (0≤(j:Int)^i%P∧(j:Int)^i%P<P):=⟨Int.emod_nonneg _ (by omega),Int.emod_lt_of_pos _ (by omega)⟩;obtain⟨aY,bE⟩:∃x,x=(j:Int)^i%P:=⟨_,rfl⟩;have bS:Hid (∀W,Calls Tryz.prog 50 #[.int .i64 P,.int .i64 j,.int .i64 i] W fun e w'=>e= .returned (.int .i64 aY)∧W=w'):=Zk (fun W=>(Ny P j i W aW eD (by omega)).mono fun e w' ⟨h1,h2⟩=>⟨by rw[h1,bE],h2⟩)
      have bL:Hid (∀W,BK W H (hdT P rows j wd oq i)→SI W (.slice B wd d) r→Calls Tryz.prog 49 #[.int .i64 P,.slice (some ⟨H,0,none⟩) wd wd,.int .i64 aY,.slice B wd d] W fun e w'=>(∃v,e= .returned v)∧BK w' H (hdT P rows j wd oq (i+1))∧W.grownBy w' (some H)):=Zk (fun W hk hs=>by
       by_cases h0:wd=0
       ·have eI:r=[]:=List.eq_nil_of_length_eq_zero (by rw[HE.out.1,h0]);have e4:hdT P rows j wd oq (i+1)=hdT P rows j wd oq i:=by rw[bV.out,eI,Xe]
        rw[e4];rw[h0];exact (Vq P aY H 0 0 0 d B W).mono fun e w' ⟨h1,h2⟩=>by subst h2;rw[h0] at hk;exact⟨h1,hk,Ai _ _⟩
       ·exact (Gf P H 0 wd wd (hdT P rows j wd oq i) aY r _ W aW (by rw[bE];exact dQ.out) (Gj aW.1 ..) HE.out.2 hk hs (bQ.out (by omega)) (by rw[HE.out.1];exact Zl _) (by rw[HE.out.1,Dc];omega)).mono fun e w' ⟨h1,h2,h3⟩=>⟨h1,by rw[bV.out,←bE];exact h2,h3⟩)
      clear aC bE;have hHC:C≤H:=by have:=aM.out;have:=bD.out;omega
      have hzH:H<wr.heap.size:=bO.out.lt;have eK:R<wr.heap.size:=by have:=aS.out;omega
      have eL:F+3<wr.heap.size:=by have:=aS.out;omega
      have eM:some R≠some H:=by have:=aS.out;simp;omega
      have eN:some (F+3)≠some H:=by have:=aS.out;simp;omega
      gi_upto_region 24 with fail
      apply regH lr R (F+3) H i j wd P aY (hdT P rows j wd oq i) (hdT P rows j wd oq (i+1)) r (.slice B wd d) wr r0 j0 eK eL eM eN bO.out HS.out bS.out bL.out;rintro u76 u77 u78 u79 u80 u81 u82 u83 w9 ⟨cZ,cX⟩;have dO:=Zk cZ;have dN:=Zk cX;clear cZ cX;gi_wp2_with fail
      go_roundw
      case rel=>exact⟨i+1,by omega,by go_num,dO.out,Ag aR.out dN.out⟩
      case measure=>simp[intOf];omega
     ·have di:decide (i<sz)=false:=Zd hli;have dW:decide ((i:Int)<(sz:Int))=false:=Zd (by omega);have cY:i=sz:=by omega
      have dF:Hid (BK wr H (hdT P rows j wd oq sz)):=Zk (by rw[←cY];exact bO.out);have aJ:Hid (RO C wr v vs (hp P rows j wd G pre)):=Zk (bT.out.keep fun b' _ cB=>(aR.out.block b' (Nat.lt_of_lt_of_le cB aF.out.size) (by have:=aM.out;simp;omega)).trans (aF.out.block b' cB))
      have dJ:=Zk (cK.out wr aR.out);have hzCr:C≤wr.heap.size:=Nat.le_trans bD.out (Nat.le_trans aF.out.size aR.out.size);obtain⟨Av,cv,ev⟩:=Ch bT.out.hdr;obtain⟨i0,dY,dZ,eA,eB⟩:=info_parts Ev;rw[ev] at o0 aJ;clear cY hli;gi_wp2_with (gi_at_builtin;refine wpListIn_append_own_at _ rfl _ _ 33 rfl C 22 i0 _ 1 24 Tryz.underlying33 dY dZ eA eB rfl (by omega) _ _ _ rfl (aJ.out.hdr.alloc _) ⟨wr.heap.size,0,none⟩ 1 1 [.slice (some ⟨H,0,none⟩) wd wd] rfl rfl ?c1 ?c2 ?c3 ?c4 ?c5 ?_)
      case c1=>exact Ba wr _ _
      case c2=>intro u hu;simp at hu;subst hu;rfl
      case c3=>unfold maxLen;omega
      case c4=>omega
      case c5=>simp;omega
      intro v3 aN aB bI _ aX;obtain⟨A3,c3,e3⟩:=Ch aB;have HX:Hid (KeepsFrom C W (aN.setCell ⟨O,0,none⟩ v3)∧KB (fun q=>q=O+1∨q=O+1+1) W (aN.setCell ⟨O,0,none⟩ v3)∧(∃v vs',HO P wd j F R O C (aN.setCell ⟨O,0,none⟩ v3) v vs' (hp P rows j wd G pre++[hdT P rows j wd oq sz]))∧Below w.heap.size w (aN.setCell ⟨O,0,none⟩ v3)):=(show Hid _ from
       zAd aM.out aF.out ⟨_,cJ.out,rfl⟩ aR.out dF.out (Dc ..) hwd bT.out dJ.out bD.out ⟨by have:=aL.out;omega,by have:=bC.out;omega,by have:=bC.out;omega⟩ aB (by rw[ev];exact bI) (by rw[ev,show (wr.alloc (.cells #[.slice (some ⟨H,0,none⟩) wd wd] 22)).heap.size=wr.heap.size+1 by simp];exact aX) aK.out (by have:=dM.out;have:=bC.out;omega))
      have cS:some O≠(Value.slice Av vs.length cv).ownBlock:=fun e=>by
       have h1:=(aJ.out.hdr.lt O e.symm).1;have:=aL.out;omega
      have cT:O<wr.heap.size:=by have:=aL.out;omega
      have ob:aN.cell? ⟨O,0,none⟩=some (.slice Av vs.length cv):=(bI.cell_far ⟨O,0,none⟩ (by show O<_;simp;omega) cS).trans ((World.cell?_of_block (Below.heap_alloc _ _ _ cT)).trans o0);have fb:aN.frozen? ⟨O,0,none⟩=false:=(bI.frozen_far ⟨O,0,none⟩ (by show O<_;simp;omega) cS).trans ((((Zb wr.heap.size wr).alloc (Zl _) _).frozen (p:=⟨O,0,none⟩) cT).trans of);subst e3;clear aB bI aX;gi_wp2_with fail
      obtain⟨k1,k2,k3,k4⟩:=HX.out;refine⟨by rw[←dL.out];exact k1,k2,?_⟩;show (∃v vs,HO P wd j F R O C _ v vs (hp P rows j wd G (pre++[x])))∧Below w.heap.size w _;rw[bR.out];exact⟨k3,k4⟩
   case done=>
    rintro D ys W hD rfl ⟨⟨v,vs,cA⟩,hB⟩ hK;obtain⟨_,_,_,o0,_,aH,_⟩:=cA;rw[zAe P rows j wd G (ngr len G) (ngr len G) (Zl _)] at aH;have cE:vs.length=ngr len G:=by rw[aH.len];simp
    obtain⟨Av,cv,ev⟩:=Ch aH.hdr;subst ev;have aT:Hid (SLE g (W.putObj D (.deferred none)) (.slice Av vs.length cv) (Ca P rows j wd G (ngr len G))):=Zk ((aH.keptR (grownBy_putObj' W D (.deferred none)) (fun r e=>by cases e;exact⟨_,hK,rfl⟩)).sle (by rw[cQ];exact Nat.lt_of_lt_of_le hg aG.out.size) fun p hp x hx=>Ci aW.2 (Kc (P:=P) aW.1 p hp).2 x hx)
    rw[cE] at o0 aT;clear cE aH;gi_wp2_with fail
    refine⟨by simp,.inl ⟨_,_,rfl,run_takeDeferred hK,?_⟩⟩;exact⟨_,results_tmp2 rfl _ _ _,_,_,rfl,hB.trans (belowK_b (w:=w) (Zl _) W D _ _ (by have:=aG.out.size;omega) hK rfl rfl),aT.out⟩
   case stop=>
    rintro D c pre W _ _ h _;exact h.elim
theorem Ur(P n t:Int)(G wd j g:Nat)(rows:List (List Int))(v:Value)(w:World)(hV:SV P n t G)(hj:1≤(j:Int)∧(j:Int)≤n)(hwd:wd≤64)(hrl:rows.length≤1024)(hrw:∀r∈rows,r.length=wd∧els P r=true)(h:SL w v rows)(hg:g<w.heap.size):
  Calls Tryz.prog 17 #[.agg #[.int .i64 P],.agg #[.int .i64 n,.int .i64 t,.int .i64 G],.int .i64 wd,v,.int .i64 j] w fun e w'=>∃A c,e= .returned (.tuple #[.slice A (ngr rows.length G) c,.int .i64 0])∧Below w.heap.size w w'∧SLE g w' (.slice A (ngr rows.length G) c) (Ca P rows j wd G (ngr rows.length G)):=
 callsIn_wide.1 (zDh P n t G wd j g rows v w hV hj hwd hrl hrw h hg)
open Go.RowKit
theorem SL.at{w:World}{v:Value}{rows:List (List Int)}(h:SL w v rows):∃A c,v= .slice A rows.length c∧
  ∀i (hi:i<rows.length),∃bh oh B d,A=some ⟨bh,oh,none⟩∧∀W,Below w.heap.size w W→W.cell? ⟨bh,oh+i,none⟩=some (.slice B rows[i].length d)∧SI W (.slice B rows[i].length d) rows[i]:=by
 obtain⟨A,c,rfl,_,_,ha⟩:=h;refine⟨A,c,rfl,fun i hi=> ?_⟩
 obtain⟨b,o,eA,hb,hc⟩:=ha (by omega);obtain⟨B,d,h1,h2⟩:=hc i hi;exact⟨b,o,B,d,eA,fun W hW=>⟨(hW.cell (p:=⟨b,o+i,none⟩) hb).trans h1,h2.below hW⟩⟩
theorem SI.at{w:World}{B:Option Addr}{n d:Nat}{r:List Int}(h:SI w (.slice B n d) r){k:Nat}(hk:k<r.length):∃bb ob,B=some ⟨bb,ob,none⟩∧w.cell? ⟨bb,ob+k,none⟩=some (.int .i64 r[k]):=by
 obtain⟨A2,c2,e2,_,_,_,aB⟩:=h;injection e2 with e21 e22 e23;obtain⟨bb,ob,e3,hbb,aA⟩:=aB (by omega);exact⟨bb,ob,by rw[e21];exact e3,aA k hk⟩
def Uh1(N G wd:Nat)(P j:Int)(rows:List (List Int))(g:Nat)(w2:World)(v iv:Value)(wr:World):Prop:=
 ∃(k:Nat) (pv:Value) (vs:List Value),pv=v∧k≤N∧iv= .int .i64 k∧RW w2.heap.size g wr pv vs (Ca P rows j wd G k)∧Below w2.heap.size w2 wr
def Uh2(z wd o b:Nat)(P j:Int)(rows:List (List Int))(wo:World)(iv:Value)(wr:World):Prop:=
 ∃(i:Nat) (l:List Int),i≤z∧iv= .int .i64 i∧l=hdT P rows j wd o i∧BK wr b l∧Below wo.heap.size wo wr
theorem Mf(P:Int)(rows:List (List Int))(j:Int)(w G n:Nat):Ca P rows j w G (n+1)=Ca P rows j w G n++[hdT P rows j w (n*G) (gSz rows.length G n)]:=by
 unfold Ca;rw[List.range_succ,List.map_append];rfl
theorem zBi(P n t:Int)(G wd j g:Nat)(rows:List (List Int))(v:Value)(w:World)(hV:SV P n t G)(hj:1≤(j:Int)∧(j:Int)≤n)(hwd:wd≤64)(hrl:rows.length≤1024)(bA:∀r∈rows,r.length=wd∧els P r=true)(h:SL w v rows)(hg:g<w.heap.size):
  Calls Tryz.prog 39 #[.agg #[.int .i64 P],.agg #[.int .i64 n,.int .i64 t,.int .i64 G],.int .i64 wd,v,.int .i64 j] w fun e w'=>∃A c,e= .returned (.tuple #[.slice A (ngr rows.length G) c,.int .i64 0])∧Below w.heap.size w w'∧SLE g w' (.slice A (ngr rows.length G) c) (Ca P rows j wd G (ngr rows.length G)):=by
 have HV:=Zk hV;have aL:=hV.pb;have hn10:=hV.n10;have hnP:=hV.nP;have hG:1≤G∧G≤10:=by have:=hV.G1;have:=hV.sum;have:=hV.t1;omega
 have cB:=Zk bA;obtain⟨Ar,cr,rfl,cE⟩:=h.at
 have bU:=Zk cE
 obtain⟨R,eR⟩:∃R,R=rows.length:=⟨_,rfl⟩;obtain⟨N,eN⟩:∃N,N=ngr rows.length G:=⟨_,rfl⟩;have bP:=Ml (len:=rows.length) (G:=G) hG.1;rw[←eN] at bP⊢;have cQ:=Zk bP;have bY:Hid (∀W,Calls Tryz.prog 30 #[.agg #[.int .i64 n,.int .i64 t,.int .i64 G],.int .i64 R] W fun e w'=>e= .returned (.tuple #[.int .i64 N,.int .i64 0])∧Below W.heap.size W w'):=Zk (fun W=>by
  have:=Jq n t G rows.length W hG hrl;rw[←eN,←eR] at this;exact this)
 have HR:=Zk eR;have hNle:N≤2048:=by
  have h2:N*1≤N*G:=Nat.mul_le_mul_left _ hG.1;omega
 rw[←eR] at hrl;clear hV bA h cE eN bP;go_enter Tryz.func39,Tryz.ntmps39;rw[←eR];obtain⟨F,eF⟩:∃F,F=w.heap.size:=⟨_,rfl⟩;obtain⟨w1,ew⟩:∃w1:World,w1=(w.alloc (.cells #[.int .i64 P] 31)).alloc (.cells #[.int .i64 n,.int .i64 t,.int .i64 G] 29):=⟨_,rfl⟩;have cY:Hid ((w.alloc (.cells #[.int .i64 P] 31)).alloc (.cells #[.int .i64 n,.int .i64 t,.int .i64 G] 29)=w1):=ew.symm;have aC:Hid (Below w.heap.size w w1):=Zk (by rw[ew];exact ((Zb _ w).alloc (Zl _) _).alloc (by simp) _);have bW:Hid (w1.heap[F]? =some (.cells #[.int .i64 P] 31 (0,0))):=Zk (by show _=_;rw[ew,eF,Below.heap_alloc _ _ _ (by simp)];exact Zh w _);have cC:Hid (w1.heap[F+1]? =some (.cells #[.int .i64 n,.int .i64 t,.int .i64 G] 29 (0,0))):=Zk (by show _=_;rw[ew,eF];have:=Zh (w.alloc (.cells #[.int .i64 P] 31)) (.cells #[.int .i64 n,.int .i64 t,.int .i64 G] 29);simpa using this);have aK:Hid (∀W,Below w1.heap.size w1 W→W.cell? ⟨F,0,none⟩=some (.int .i64 P)∧W.cell? ⟨F+1,0,none⟩=some (.int .i64 n)∧W.cell? ⟨F+1,1,none⟩=some (.int .i64 t)∧W.cell? ⟨F+1,2,none⟩=some (.int .i64 G)):=Zk (fun W hb=>by
  have h1:=(hb.block F (Ae bW.out)).trans bW.out;have h2:=(hb.block (F+1) (Ae cC.out)).trans cC.out;exact⟨Zc W F 0 _ _ _ h1,Zc W (F+1) 0 _ _ _ h2,Zc W (F+1) 1 _ _ _ h2,Zc W (F+1) 2 _ _ _ h2⟩)
 have bK:Hid (g<w1.heap.size):=Zk (by have:=aC.out.size;show g<_;omega);clear eR;go_upto_region 1 with fail
 rw[cY.out,←eF];clear ew eF;obtain⟨f0,s0,s1,s2⟩:=aK.out w1 (Zb _ _);have d1:decide ((j:Int)<1)=false:=Zd (by omega);have dB:decide (j<1)=false:=Zd (by omega);have d2:decide (n<(j:Int))=false:=Zd (by omega);have d3:decide ((wd:Int)<0)=false:=Zd (by omega);have d4:decide ((64:Int)<(wd:Int))=false:=Zd (by omega);have dC:decide (64<wd)=false:=Zd (by omega);have d5:decide ((1024:Int)<(R:Int))=false:=Zd (by omega);have dD:decide (1024<R)=false:=Zd (by omega);go_wp2_with fail;(with_reducible refine (Kv P n t G w1 HV.out).mono ?_)
 rintro e w2 ⟨rfl,aO⟩;have bV:Hid (Below w1.heap.size w1 w2):=aO;clear f0 s0 s1 s2;obtain⟨f0,s0,s1,s2⟩:=aK.out w2 bV.out;clear aO;go_wp2_with fail;clear d1 dB d2 d3 d4 dC d5 dD f0 s0 s1 s2;go_loopw [51] (fun iv wr=>∃k:Nat,k≤R∧iv= .int .i64 k∧Below w1.heap.size w1 wr) (fun iv _=>R- (intOf iv).toNat)
 case atStart=>exact⟨0,Nat.zero_le _,rfl,bV.out⟩
 case round=>
  obtain⟨k,hk,rfl,hb⟩:=hrel;have HB:=Zk hb;clear hb;by_cases hlk:k<R
  ·have dk:decide (k<R)=true:=Ze hlk;have aN:k<rows.length:=by have:=HR.out;omega
   obtain⟨bh,oh,B,d,eA,hW⟩:=bU.out k aN;subst eA;obtain⟨ck,bE⟩:=hW wr (aC.out.trans (HB.out.mono aC.out.size));have aF:=cB.out _ (List.getElem_mem aN);obtain⟨r,er⟩:∃r,r=rows[k]:=⟨_,rfl⟩;rw[←er] at ck bE aF;rw[aF.1] at ck bE;have cV:=Zk bE;have cN:Hid (inB P r=true):=Zk (by show _=_;unfold inB;rw[HV.out.pr,aF.2];rfl);obtain⟨f0,_⟩:=aK.out wr HB.out;clear hW bE aF er;go_wp2_with fail;(with_reducible refine (Ei P r _ wr (by unfold At;omega) cV.out).mono ?_)
   rintro e w3 ⟨rfl,aX⟩;rw[cN.out];have aP:Hid (Below w1.heap.size w1 w3):=Zk (HB.out.trans (aX.mono HB.out.size));clear aX f0 ck;go_wp2_with fail;go_roundw
   case rel=>exact⟨k+1,by omega,by go_num,aP.out⟩
   case measure=>simp[intOf];omega
  ·have dk:decide (k<R)=false:=Zd hlk;clear hk;obtain⟨f0,s0,s1,s2⟩:=aK.out wr HB.out;go_wp2_with fail;(with_reducible refine (bY.out wr).mono ?_)
   rintro e w3 ⟨rfl,aX⟩;have aP:Hid (Below w1.heap.size w1 w3):=Zk (HB.out.trans (aX.mono HB.out.size));have aE:Hid (g<w3.heap.size):=Zk (by have:=aP.out.size;have:=bK.out;show g<_;omega);clear aX f0 s0 s1 s2 bY;go_wp2_with fail;go_loopw [17,18] (fun v iv wr=>Uh1 N G wd P j rows g w3 v iv wr) (fun _ iv _=>N- (intOf iv).toNat)
   case atStart=>exact⟨0,_,[],rfl,Nat.zero_le _,rfl,RW.nil _ _ _,Zb _ _⟩
   case round=>
    obtain⟨q,pv,vs,rfl,hq,rfl,bA,hb⟩:=hrel;have aU:=Zk bA;have aT:=Zk hb;have aA:Hid (Below w1.heap.size w1 wr):=Zk (aP.out.trans (hb.mono aP.out.size));clear bA hb;by_cases hlq:q<N
    ·have dq:decide (q<N)=true:=Ze hlq;obtain⟨wo,cD⟩:∃wo:World,wo=wr:=⟨_,rfl⟩;rw[←cD] at aU aT aA⊢;clear cD;obtain⟨b,eb⟩:∃b,b=wo.heap.size:=⟨_,rfl⟩;obtain⟨w6,bC⟩:∃w6:World,w6=wo.alloc (.cells ((Ay wd).map (Value.int .i64)).toArray 3):=⟨_,rfl⟩;have cK:Hid (Below wo.heap.size wo w6):=Zk (by rw[bC];exact (Zb _ _).alloc (Zl _) _);have bZ:Hid (BK w6 b (hdT P rows j wd (q*G) 0)):=Zk (by rw[bC,eb];exact Zh wo _);have bI:=Zk eb;obtain⟨z,ez⟩:∃z,z=gSz R G q:=⟨_,rfl⟩;obtain⟨o,eo⟩:∃o,o=q*G:=⟨_,rfl⟩;have hoR:o<R:=by
      have h1:=cQ.out.1;have h2:(q+1)*G≤N*G:=Nat.mul_le_mul_right G (by omega);rw[Nat.add_mul,Nat.one_mul] at h2;have:=HR.out;omega
     have hz:z≤G∧o+z≤R∧(z=G∨o+z=R):=by rw[ez];unfold gSz;rw[←eo];omega
     have hqb:q≤2048:=by omega
     have ho1:IntKind.i64.wrap ((q:Int)*(G:Int))=(o:Int):=by
      have e:(q:Int)*(G:Int)=(o:Int):=by rw[eo,Int.natCast_mul]
      rw[e];exact Zi _ (by omega)
     have bL:Hid (Ca P rows j wd G (q+1)=Ca P rows j wd G q++[hdT P rows j wd o z]):=Zk (by
      show _=_;rw[Mf,ez,eo,HR.out])
     rw[←eo] at bZ;have HZ:=Zk ez;have HO:=Zk eo;clear ez eo;go_wp2_with (at_make;refine Bn _ rfl _ _ 22 rfl 3 Tryz.underlying22 Bi _ wd rfl rfl rfl (by omega) ?_);rw[←bC,←eb];clear bC eb;go_wp2_with fail;go_loopw [20] (fun iv wr=>Uh2 z wd o b P j rows wo iv wr) (fun iv _=>z- (intOf iv).toNat)
     case atStart=>exact⟨0,_,Nat.zero_le _,rfl,rfl,bZ.out,cK.out⟩
     case round=>
      obtain⟨i,L,hi,rfl,hL,aY,aO⟩:=hrel;have HL:=Zk hL;have bF:=Zk aY;have aR:=Zk aO;have aI:Hid (Below w1.heap.size w1 wr):=Zk (aA.out.trans (aO.mono aA.out.size));clear hL aY aO;obtain⟨f0,s0,s1,s2⟩:=aK.out wr aI.out;have bB:IntKind.i64.wrap ((o:Int)+(i:Int))=((o+i:Nat):Int):=by rw[Int.natCast_add];exact Zi _ (by omega)
      obtain⟨x1,bO⟩:∃x1,x1=o+i:=⟨_,rfl⟩;rw[←bO] at bB;have dA:=Zk bO;have hx1:x1≤R:=by omega
      have bR:i<z→x1<R∧i<G:=by omega
      have bT:¬i<z→(¬i<G)∨(i<G∧¬x1<R):=by omega
      clear bO;by_cases hli:i<z
      ·obtain⟨dF,aZ⟩:=bR hli;have dG:decide (i<G)=true:=Ze aZ;have dR:decide (x1<R)=true:=Ze dF;clear bR bT;go_wp2_with fail;(with_reducible refine (Ri P j i wr aL (by omega) (by omega)).mono ?_)
       rintro e w7 ⟨rfl,bD⟩;have cL:Hid (Below wo.heap.size wo w7):=Zk (aR.out.trans (bD.mono aR.out.size));have aQ:Hid (Below w1.heap.size w1 w7):=Zk (aI.out.trans (bD.mono aI.out.size));have bG:Hid (BK w7 b L):=Zk (bF.out.below bD bF.out.lt);obtain⟨x,ex⟩:∃x,x=(j:Int)^i%P:=⟨_,rfl⟩;rw[←ex];have dH:0≤x∧x<P:=by rw[ex];exact⟨Int.emod_nonneg _ (by omega),Int.emod_lt_of_pos _ (by omega)⟩
       have aN:x1<rows.length:=by have:=HR.out;omega
       obtain⟨bh,oh,B,d,eA,hW⟩:=bU.out x1 aN;subst eA;have aF:=cB.out _ (List.getElem_mem aN);obtain⟨r,er⟩:∃r,r=rows[x1]:=⟨_,rfl⟩;rw[←er] at hW aF;have aB:r.length=wd:=aF.1;rw[aB] at hW;have cZ:=Zk hW;have cU:Hid (els P r=true):=aF.2;have cA:Hid (L.length=wd):=Zk (by show _=_;rw[HL.out,Dc]);have cO:Hid (els P L=true):=Zk (by show _=_;rw[HL.out];exact Gj aL.1 ..);have cP:Hid (hdT P rows j wd o (i+1)=Bl P L 0 x r):=Zk (by
        show _=_;rw[Fy,←HL.out,←ex,←dA.out,er];unfold gr;rw[List.getElem?_eq_getElem aN];rfl)
       have ck:=(hW w7 (aC.out.trans (aQ.out.mono aC.out.size))).1;obtain⟨g0,t0,t1,t2⟩:=aK.out w7 aQ.out;have z1:(0:Int)≤(x1:Int):=by omega
       have z2:(x1:Int)<(R:Int):=by omega
       have aV:=Zk aB;clear bD ex er aF hW aN f0 s0 s1 s2 aB;go_wp2_with fail;clear ck g0 t0 t1 t2 bB z1 z2;go_loopw [109] (fun iv wr=>Cm4 P L x r b wo iv wr) (fun iv _=>wd- (intOf iv).toNat)
       case atStart=>exact⟨0,Nat.zero_le _,rfl,by rw[List.take_zero,Eb];exact bG.out,cL.out⟩
       case round=>
        obtain⟨k,hk,rfl,aY,bQ⟩:=hrel;have aD:=Zk aY;have bH:=Zk bQ;have aS:Hid (Below w1.heap.size w1 wr):=Zk (aA.out.trans (bQ.mono aA.out.size));have aB:=aV.out;clear aY bQ;by_cases hlk:k<wd
        ·have dk:decide (k<wd)=true:=Ze hlk;have bS:k<r.length:=by omega
         obtain⟨bb,ob,eB,ck⟩:=((cZ.out wr (aC.out.trans (aS.out.mono aC.out.size))).2).at bS;subst eB;obtain⟨f0,_⟩:=aK.out wr aS.out;have aG:(Bl P L 0 x (r.take k)).length=wd:=by rw[Bg];exact cA.out
         have cI:=aD.out.cell (j:=k) (by rw[aG];omega);have hfk:=aD.out.frozen k;have cF:=Co (Cd aL.1 (Cq aL.1 cO.out 0 x (r.take k)) k);have aM:=Co (Be cU.out _ (List.getElem_mem bS));rw[←Bw] at cI;obtain⟨t',ht⟩:∃t',t'=gd (Bl P L 0 x (r.take k)) k:=⟨_,rfl⟩;rw[←ht] at cI cF;obtain⟨y,hy⟩:∃y,y=r[k]:=⟨_,rfl⟩;rw[←hy] at ck aM;have cW:Hid (Bl P L 0 x (r.take (k+1))=(Bl P L 0 x (r.take k)).set k ((t'+x*y)%P)):=by
          have h:=Ea P L 0 x r k bS (by have:=cA.out;omega);rw[Nat.zero_add] at h;show _=_;rw[ht,hy];exact h
         have dI:=Eg dH aM aL.2;have w1_:IntKind.i64.wrap (x*y)=x*y:=by exact Zi _ (by omega)
         have w2_:IntKind.i64.wrap (t'+x*y)=t'+x*y:=by exact Zi _ (by omega)
         have w3_:(t'+x*y).tmod P=(t'+x*y)%P:=Int.tmod_eq_emod_of_nonneg (by omega);have w4_:IntKind.i64.wrap ((t'+x*y)%P)=(t'+x*y)%P:=by
          have h1:=Int.emod_nonneg (t'+x*y) (show P≠0 by omega);have h2:=Int.emod_lt_of_pos (t'+x*y) (show 0<P by omega);exact Zi _ (by omega)
         have hP0:¬P=0:=by omega
         have z1:(0:Int)≤(k:Int):=by omega
         have z2:(k:Int)<(wd:Int):=by omega
         clear ht hy aG cF aM dI aB;go_upto_region 29 with fail
         go_region
         all_goals
          go_wp2_with fail;go_roundw
          case rel=>exact⟨k+1,by have:=aV.out;omega,by go_num,by rw[cW.out];exact aD.out.set _ _,by first|exact bH.out.setCell (by have:=bI.out;show _≤b;omega) _|exact (Below.drewN (bH.out.setCell (by have:=bI.out;show _≤b;omega) _) _)⟩
          case measure=>simp[intOf];omega
        ·have dk:decide (k<wd)=false:=Zd hlk;have bJ:Hid (BK wr b (hdT P rows j wd o (i+1))):=Zk (by
          have h:=aD.out;rw[show k=r.length by omega,List.take_length] at h;rw[cP.out];exact h)
         clear aB;go_wp2_with fail;go_roundw
         case rel=>exact⟨i+1,_,by omega,by go_num,rfl,bJ.out,bH.out⟩
         case measure=>simp[intOf];omega
      ·have bJ:Hid (BK wr b (hdT P rows j wd o z)):=Zk (by
        have h:=bF.out;rw[HL.out,show i=z by omega] at h;exact h)
       have cS:Hid (wr.ownsRow wo.heap.size 3 1 (.slice (some ⟨b,0,none⟩) wd wd) wd ((hdT P rows j wd o z).map (Value.int .i64))):=Zk (by
        have h:=BK.own bJ.out (base:=wo.heap.size) (by have:=bI.out;omega) (by rw[Dc];omega);rw[Dc] at h;exact h)
       have bM:Hid (RW w3.heap.size g wr pv vs (Ca P rows j wd G q)):=Zk (aU.out.below aE.out aR.out);have cX:Hid (SX (wr.alloc (.cells #[.slice (some ⟨b,0,none⟩) wd wd] 22)) pv.ownBlock (some g) (.slice (some ⟨b,0,none⟩) wd wd) (hdT P rows j wd o z)):=Zk (SX.of_own (base:=wo.heap.size) (by rw[Dc];exact cS.out.alloc _) (Ci aL.2 (Gj aL.1 ..)) (fun q hq=>(aU.out.hdr.lt q hq).2) (fun q hq=>by injection hq with e;have:=aE.out;have:=aT.out.size;omega))
       have hvn:vs.length≤2048:=by have h:=aU.out.len;rw[Fx] at h;omega
       have hzw:w3.heap.size≤wr.heap.size:=Nat.le_trans aT.out.size aR.out.size;clear bR;rcases bT hli with aZ|⟨aZ,dE⟩
       case' inl=>have dG:decide (i<G)=false:=Zd aZ
       case' inr=>
        have dG:decide (i<G)=true:=Ze aZ;have dR:decide (x1<R)=false:=Zd dE
       all_goals
        clear bT;go_wp2_with (at_builtin;refine Bt _ rfl _ _ 33 rfl w3.heap.size 22 (.slice none 0 0) 24 Tryz.underlying33 Ev pv vs.length vs rfl (bM.out.hdr.alloc _) (.slice (some ⟨b,0,none⟩) wd wd) rfl wr.heap.size rfl (Ba wr [.slice (some ⟨b,0,none⟩) wd wd] 22 0 _ rfl) (by omega) (by omega) rfl (by simp;omega) ?_;intro g9 bN w9 aH cG aW;have cR:=Zk aH;have bX:=Zk cG;have cJ:=Zk aW;clear aH cG aW);have cT:Hid (RW w3.heap.size g w9 (.slice (some ⟨g9,0,none⟩) (vs.length+1) bN) (vs++[.slice (some ⟨b,0,none⟩) wd wd]) (Ca P rows j wd G (q+1))):=Zk (by
         rw[bL.out];exact (bM.out.below aE.out ((Zb _ wr).alloc (Zl _) _)).app cX.out cR.out bX.out (fun q hq=>by
          have e:g9=q:=by simpa [Value.ownBlock] using hq
          subst e;exact cJ.out))
        have cM:Hid (Below w3.heap.size w3 w9):=Zk (((aT.out.trans (aR.out.mono aT.out.size)).alloc (by omega) _).grown bX.out (by simp;omega) (fun q hq=>(bM.out.hdr.lt q hq).1))
        go_roundw
        case rel=>exact⟨q+1,_,_,rfl,by omega,by go_num,cT.out,cM.out⟩
        case measure=>simp[intOf];omega
    ·have dq:decide (q<N)=false:=Zd hlq;have cH:q=N:=by omega
     have aJ:Hid (SLE g wr pv (Ca P rows j wd G N)):=Zk (by rw[←cH];exact aU.out.sle aE.out);obtain⟨Ao,co,eo⟩:=aJ.out.form;subst eo;rw[Fx] at aJ⊢;clear cH;go_wp2_with fail;go_ret2;exact⟨Ao,co,rfl,aC.out.trans (aA.out.mono aC.out.size),aJ.out⟩
open Go.RowKit
def g3(hs:List (List (List Int)))(i:Nat):List (List Int):=hs[i]?.getD []
open Go.RowKit
open Go.RowKit
def UhF1(N G wd:Nat)(P j:Int)(rows:List (List Int))(w2:World)(v iv:Value)(wr:World):Prop:=
 ∃(k:Nat) (pv:Value) (vs:List Value),pv=v∧k≤N∧iv= .int .i64 k∧wr.ownsRow w2.heap.size 22 1 pv vs.length vs∧vs.length=k∧(∀g,g<w2.heap.size→RW w2.heap.size g wr pv vs (Ca P rows j wd G k))∧Below w2.heap.size w2 wr
theorem Wp(P n t:Int)(G wd j:Nat)(rows:List (List Int))(v:Value)(w:World)(hV:SV P n t G)(hj:1≤(j:Int)∧(j:Int)≤n)(hwd:wd≤64)(hrl:rows.length≤1024)(bA:∀r∈rows,r.length=wd∧els P r=true)(h:SL w v rows):
  Calls Tryz.prog 39 #[.agg #[.int .i64 P],.agg #[.int .i64 n,.int .i64 t,.int .i64 G],.int .i64 wd,v,.int .i64 j] w fun e w'=>∃A c,e= .returned (.tuple #[.slice A (ngr rows.length G) c,.int .i64 0])∧Below w.heap.size w w'∧(∀g,g<w.heap.size→SLE g w' (.slice A (ngr rows.length G) c) (Ca P rows j wd G (ngr rows.length G))):=by
 have HV:=Zk hV;have aJ:=hV.pb;have hn10:=hV.n10;have hnP:=hV.nP;have hG:1≤G∧G≤10:=by have:=hV.G1;have:=hV.sum;have:=hV.t1;omega
 have cG:=Zk bA;obtain⟨Ar,cr,rfl,cJ⟩:=h.at
 have bY:=Zk cJ
 obtain⟨R,eR⟩:∃R,R=rows.length:=⟨_,rfl⟩;obtain⟨N,eN⟩:∃N,N=ngr rows.length G:=⟨_,rfl⟩;have bS:=Ml (len:=rows.length) (G:=G) hG.1;rw[←eN] at bS⊢;have cV:=Zk bS;have cC:Hid (∀W,Calls Tryz.prog 30 #[.agg #[.int .i64 n,.int .i64 t,.int .i64 G],.int .i64 R] W fun e w'=>e= .returned (.tuple #[.int .i64 N,.int .i64 0])∧Below W.heap.size W w'):=Zk (fun W=>by
  have:=Jq n t G rows.length W hG hrl;rw[←eN,←eR] at this;exact this)
 have HR:=Zk eR;have hNle:N≤2048:=by
  have h2:N*1≤N*G:=Nat.mul_le_mul_left _ hG.1;omega
 rw[←eR] at hrl;clear hV bA h cJ eN bS;go_enter Tryz.func39,Tryz.ntmps39;rw[←eR];obtain⟨F,eF⟩:∃F,F=w.heap.size:=⟨_,rfl⟩;obtain⟨w1,ew⟩:∃w1:World,w1=(w.alloc (.cells #[.int .i64 P] 31)).alloc (.cells #[.int .i64 n,.int .i64 t,.int .i64 G] 29):=⟨_,rfl⟩;have dD:Hid ((w.alloc (.cells #[.int .i64 P] 31)).alloc (.cells #[.int .i64 n,.int .i64 t,.int .i64 G] 29)=w1):=ew.symm;have aC:Hid (Below w.heap.size w w1):=Zk (by rw[ew];exact ((Zb _ w).alloc (Zl _) _).alloc (by simp) _);have cA:Hid (w1.heap[F]? =some (.cells #[.int .i64 P] 31 (0,0))):=Zk (by show _=_;rw[ew,eF,Below.heap_alloc _ _ _ (by simp)];exact Zh w _);have cH:Hid (w1.heap[F+1]? =some (.cells #[.int .i64 n,.int .i64 t,.int .i64 G] 29 (0,0))):=Zk (by show _=_;rw[ew,eF];have:=Zh (w.alloc (.cells #[.int .i64 P] 31)) (.cells #[.int .i64 n,.int .i64 t,.int .i64 G] 29);simpa using this);have aI:Hid (∀W,Below w1.heap.size w1 W→W.cell? ⟨F,0,none⟩=some (.int .i64 P)∧W.cell? ⟨F+1,0,none⟩=some (.int .i64 n)∧W.cell? ⟨F+1,1,none⟩=some (.int .i64 t)∧W.cell? ⟨F+1,2,none⟩=some (.int .i64 G)):=Zk (fun W hb=>by
  have h1:=(hb.block F (Ae cA.out)).trans cA.out;have h2:=(hb.block (F+1) (Ae cH.out)).trans cH.out;exact⟨Zc W F 0 _ _ _ h1,Zc W (F+1) 0 _ _ _ h2,Zc W (F+1) 1 _ _ _ h2,Zc W (F+1) 2 _ _ _ h2⟩)
 clear eR;go_upto_region 1 with fail
 rw[dD.out,←eF];clear ew eF;obtain⟨f0,s0,s1,s2⟩:=aI.out w1 (Zb _ _);have d1:decide ((j:Int)<1)=false:=Zd (by omega);have dH:decide (j<1)=false:=Zd (by omega);have d2:decide (n<(j:Int))=false:=Zd (by omega);have d3:decide ((wd:Int)<0)=false:=Zd (by omega);have d4:decide ((64:Int)<(wd:Int))=false:=Zd (by omega);have dI:decide (64<wd)=false:=Zd (by omega);have d5:decide ((1024:Int)<(R:Int))=false:=Zd (by omega);have dJ:decide (1024<R)=false:=Zd (by omega);go_wp2_with fail;(with_reducible refine (Kv P n t G w1 HV.out).mono ?_)
 rintro e w2 ⟨rfl,aN⟩;have bZ:Hid (Below w1.heap.size w1 w2):=aN;clear f0 s0 s1 s2;obtain⟨f0,s0,s1,s2⟩:=aI.out w2 bZ.out;clear aN;go_wp2_with fail;clear d1 dH d2 d3 d4 dI d5 dJ f0 s0 s1 s2;go_loopw [51] (fun iv wr=>∃k:Nat,k≤R∧iv= .int .i64 k∧Below w1.heap.size w1 wr) (fun iv _=>R- (intOf iv).toNat)
 case atStart=>exact⟨0,Nat.zero_le _,rfl,bZ.out⟩
 case round=>
  obtain⟨k,hk,rfl,hb⟩:=hrel;have HB:=Zk hb;clear hb;by_cases hlk:k<R
  ·have dk:decide (k<R)=true:=Ze hlk;have aL:k<rows.length:=by have:=HR.out;omega
   obtain⟨bh,oh,B,d,eA,hW⟩:=bY.out k aL;subst eA;obtain⟨ck,bG⟩:=hW wr (aC.out.trans (HB.out.mono aC.out.size));have aE:=cG.out _ (List.getElem_mem aL);obtain⟨r,er⟩:∃r,r=rows[k]:=⟨_,rfl⟩;rw[←er] at ck bG aE;rw[aE.1] at ck bG;have dA:=Zk bG;have cS:Hid (inB P r=true):=Zk (by show _=_;unfold inB;rw[HV.out.pr,aE.2];rfl);obtain⟨f0,_⟩:=aI.out wr HB.out;clear hW bG aE er;go_wp2_with fail;(with_reducible refine (Ei P r _ wr (by unfold At;omega) dA.out).mono ?_)
   rintro e w3 ⟨rfl,aX⟩;rw[cS.out];have aP:Hid (Below w1.heap.size w1 w3):=Zk (HB.out.trans (aX.mono HB.out.size));clear aX f0 ck;go_wp2_with fail;go_roundw
   case rel=>exact⟨k+1,by omega,by go_num,aP.out⟩
   case measure=>simp[intOf];omega
  ·have dk:decide (k<R)=false:=Zd hlk;clear hk;obtain⟨f0,s0,s1,s2⟩:=aI.out wr HB.out;go_wp2_with fail;(with_reducible refine (cC.out wr).mono ?_)
   rintro e w3 ⟨rfl,aX⟩;have aP:Hid (Below w1.heap.size w1 w3):=Zk (HB.out.trans (aX.mono HB.out.size));have aV:Hid (w.heap.size≤w3.heap.size):=Zk (by have:=aP.out.size;have:=aC.out.size;show _≤_;omega);clear aX f0 s0 s1 s2 cC;go_wp2_with fail;go_loopw [17,18] (fun v iv wr=>UhF1 N G wd P j rows w3 v iv wr) (fun _ iv _=>N- (intOf iv).toNat)
   case atStart=>exact⟨0,_,[],rfl,Nat.zero_le _,rfl,World.ownsRow_nil _ _ _ _,rfl,fun g _=>RW.nil _ _ _,Zb _ _⟩
   case round=>
    obtain⟨q,pv,vs,rfl,hq,rfl,aO,cN,bA,hb⟩:=hrel;have bD:=Zk aO;have bP:=Zk cN;have bN:=Zk bA;have aS:=Zk hb;have aA:Hid (Below w1.heap.size w1 wr):=Zk (aP.out.trans (hb.mono aP.out.size));clear bA hb aO cN;by_cases hlq:q<N
    ·have dq:decide (q<N)=true:=Ze hlq;obtain⟨wo,cI⟩:∃wo:World,wo=wr:=⟨_,rfl⟩;rw[←cI] at bN aS aA bD⊢;clear cI;obtain⟨b,eb⟩:∃b,b=wo.heap.size:=⟨_,rfl⟩;obtain⟨w6,bE⟩:∃w6:World,w6=wo.alloc (.cells ((Ay wd).map (Value.int .i64)).toArray 3):=⟨_,rfl⟩;have cP:Hid (Below wo.heap.size wo w6):=Zk (by rw[bE];exact (Zb _ _).alloc (Zl _) _);have cD:Hid (BK w6 b (hdT P rows j wd (q*G) 0)):=Zk (by rw[bE,eb];exact Zh wo _);have bK:=Zk eb;obtain⟨z,ez⟩:∃z,z=gSz R G q:=⟨_,rfl⟩;obtain⟨o,eo⟩:∃o,o=q*G:=⟨_,rfl⟩;have hoR:o<R:=by
      have h1:=cV.out.1;have h2:(q+1)*G≤N*G:=Nat.mul_le_mul_right G (by omega);rw[Nat.add_mul,Nat.one_mul] at h2;have:=HR.out;omega
     have hz:z≤G∧o+z≤R∧(z=G∨o+z=R):=by rw[ez];unfold gSz;rw[←eo];omega
     have hqb:q≤2048:=by omega
     have ho1:IntKind.i64.wrap ((q:Int)*(G:Int))=(o:Int):=by
      have e:(q:Int)*(G:Int)=(o:Int):=by rw[eo,Int.natCast_mul]
      rw[e];exact Zi _ (by omega)
     have bM:Hid (Ca P rows j wd G (q+1)=Ca P rows j wd G q++[hdT P rows j wd o z]):=Zk (by
      show _=_;rw[Mf,ez,eo,HR.out])
     rw[←eo] at cD;have HZ:=Zk ez;have HO:=Zk eo;clear ez eo;go_wp2_with (at_make;refine Bn _ rfl _ _ 22 rfl 3 Tryz.underlying22 Bi _ wd rfl rfl rfl (by omega) ?_);rw[←bE,←eb];clear bE eb;go_wp2_with fail;go_loopw [20] (fun iv wr=>Uh2 z wd o b P j rows wo iv wr) (fun iv _=>z- (intOf iv).toNat)
     case atStart=>exact⟨0,_,Nat.zero_le _,rfl,rfl,cD.out,cP.out⟩
     case round=>
      obtain⟨i,L,hi,rfl,hL,aY,aN⟩:=hrel;have HL:=Zk hL;have bH:=Zk aY;have aM:=Zk aN;have aH:Hid (Below w1.heap.size w1 wr):=Zk (aA.out.trans (aN.mono aA.out.size));clear hL aY aN;obtain⟨f0,s0,s1,s2⟩:=aI.out wr aH.out;have bB:IntKind.i64.wrap ((o:Int)+(i:Int))=((o+i:Nat):Int):=by rw[Int.natCast_add];exact Zi _ (by omega)
      obtain⟨x1,bR⟩:∃x1,x1=o+i:=⟨_,rfl⟩;rw[←bR] at bB;have dF:=Zk bR;have hx1:x1≤R:=by omega
      have bU:i<z→x1<R∧i<G:=by omega
      have bW:¬i<z→(¬i<G)∨(i<G∧¬x1<R):=by omega
      clear bR;by_cases hli:i<z
      ·obtain⟨dL,aZ⟩:=bU hli;have dG:decide (i<G)=true:=Ze aZ;have dR:decide (x1<R)=true:=Ze dL;clear bU bW;go_wp2_with fail;(with_reducible refine (Ri P j i wr aJ (by omega) (by omega)).mono ?_)
       rintro e w7 ⟨rfl,bF⟩;have cQ:Hid (Below wo.heap.size wo w7):=Zk (aM.out.trans (bF.mono aM.out.size));have aQ:Hid (Below w1.heap.size w1 w7):=Zk (aH.out.trans (bF.mono aH.out.size));have bI:Hid (BK w7 b L):=Zk (bH.out.below bF bH.out.lt);obtain⟨x,ex⟩:∃x,x=(j:Int)^i%P:=⟨_,rfl⟩;rw[←ex];have dM:0≤x∧x<P:=by rw[ex];exact⟨Int.emod_nonneg _ (by omega),Int.emod_lt_of_pos _ (by omega)⟩
       have aL:x1<rows.length:=by have:=HR.out;omega
       obtain⟨bh,oh,B,d,eA,hW⟩:=bY.out x1 aL;subst eA;have aE:=cG.out _ (List.getElem_mem aL);obtain⟨r,er⟩:∃r,r=rows[x1]:=⟨_,rfl⟩;rw[←er] at hW aE;have aB:r.length=wd:=aE.1;rw[aB] at hW;have dE:=Zk hW;have cZ:Hid (els P r=true):=aE.2;have cE:Hid (L.length=wd):=Zk (by show _=_;rw[HL.out,Dc]);have cT:Hid (els P L=true):=Zk (by show _=_;rw[HL.out];exact Gj aJ.1 ..);have cU:Hid (hdT P rows j wd o (i+1)=Bl P L 0 x r):=Zk (by
        show _=_;rw[Fy,←HL.out,←ex,←dF.out,er];unfold gr;rw[List.getElem?_eq_getElem aL];rfl)
       have ck:=(hW w7 (aC.out.trans (aQ.out.mono aC.out.size))).1;obtain⟨g0,t0,t1,t2⟩:=aI.out w7 aQ.out;have z1:(0:Int)≤(x1:Int):=by omega
       have z2:(x1:Int)<(R:Int):=by omega
       have aU:=Zk aB;clear bF ex er aE hW aL f0 s0 s1 s2 aB;go_wp2_with fail;clear ck g0 t0 t1 t2 bB z1 z2;go_loopw [109] (fun iv wr=>Cm4 P L x r b wo iv wr) (fun iv _=>wd- (intOf iv).toNat)
       case atStart=>exact⟨0,Nat.zero_le _,rfl,by rw[List.take_zero,Eb];exact bI.out,cQ.out⟩
       case round=>
        obtain⟨k,hk,rfl,aY,bT⟩:=hrel;have aD:=Zk aY;have bJ:=Zk bT;have aR:Hid (Below w1.heap.size w1 wr):=Zk (aA.out.trans (bT.mono aA.out.size));have aB:=aU.out;clear aY bT;by_cases hlk:k<wd
        ·have dk:decide (k<wd)=true:=Ze hlk;have bV:k<r.length:=by omega
         obtain⟨bb,ob,eB,ck⟩:=((dE.out wr (aC.out.trans (aR.out.mono aC.out.size))).2).at bV;subst eB;obtain⟨f0,_⟩:=aI.out wr aR.out;have aF:(Bl P L 0 x (r.take k)).length=wd:=by rw[Bg];exact cE.out
         have cM:=aD.out.cell (j:=k) (by rw[aF];omega);have hfk:=aD.out.frozen k;have cK:=Co (Cd aJ.1 (Cq aJ.1 cT.out 0 x (r.take k)) k);have aK:=Co (Be cZ.out _ (List.getElem_mem bV));rw[←Bw] at cM;obtain⟨t',ht⟩:∃t',t'=gd (Bl P L 0 x (r.take k)) k:=⟨_,rfl⟩;rw[←ht] at cM cK;obtain⟨y,hy⟩:∃y,y=r[k]:=⟨_,rfl⟩;rw[←hy] at ck aK;have dB:Hid (Bl P L 0 x (r.take (k+1))=(Bl P L 0 x (r.take k)).set k ((t'+x*y)%P)):=by
          have h:=Ea P L 0 x r k bV (by have:=cE.out;omega);rw[Nat.zero_add] at h;show _=_;rw[ht,hy];exact h
         have dN:=Eg dM aK aJ.2;have w1_:IntKind.i64.wrap (x*y)=x*y:=by exact Zi _ (by omega)
         have w2_:IntKind.i64.wrap (t'+x*y)=t'+x*y:=by exact Zi _ (by omega)
         have w3_:(t'+x*y).tmod P=(t'+x*y)%P:=Int.tmod_eq_emod_of_nonneg (by omega);have w4_:IntKind.i64.wrap ((t'+x*y)%P)=(t'+x*y)%P:=by
          have h1:=Int.emod_nonneg (t'+x*y) (show P≠0 by omega);have h2:=Int.emod_lt_of_pos (t'+x*y) (show 0<P by omega);exact Zi _ (by omega)
         have hP0:¬P=0:=by omega
         have z1:(0:Int)≤(k:Int):=by omega
         have z2:(k:Int)<(wd:Int):=by omega
         clear ht hy aF cK aK dN aB;go_upto_region 29 with fail
         go_region
         all_goals
          go_wp2_with fail;go_roundw
          case rel=>exact⟨k+1,by have:=aU.out;omega,by go_num,by rw[dB.out];exact aD.out.set _ _,by first|exact bJ.out.setCell (by have:=bK.out;show _≤b;omega) _|exact (Below.drewN (bJ.out.setCell (by have:=bK.out;show _≤b;omega) _) _)⟩
          case measure=>simp[intOf];omega
        ·have dk:decide (k<wd)=false:=Zd hlk;have bL:Hid (BK wr b (hdT P rows j wd o (i+1))):=Zk (by
          have h:=aD.out;rw[show k=r.length by omega,List.take_length] at h;rw[cU.out];exact h)
         clear aB;go_wp2_with fail;go_roundw
         case rel=>exact⟨i+1,_,by omega,by go_num,rfl,bL.out,bJ.out⟩
         case measure=>simp[intOf];omega
      ·have bL:Hid (BK wr b (hdT P rows j wd o z)):=Zk (by
        have h:=bH.out;rw[HL.out,show i=z by omega] at h;exact h)
       have cW:Hid (wr.ownsRow wo.heap.size 3 1 (.slice (some ⟨b,0,none⟩) wd wd) wd ((hdT P rows j wd o z).map (Value.int .i64))):=Zk (by
        have h:=BK.own bL.out (base:=wo.heap.size) (by have:=bK.out;omega) (by rw[Dc];omega);rw[Dc] at h;exact h)
       have cX:Hid (∀g,g<w3.heap.size→RW w3.heap.size g wr pv vs (Ca P rows j wd G q)):=Zk (fun g hg=>(bN.out g hg).below hg aM.out)
       have aT:Hid (wr.ownsRow w3.heap.size 22 1 pv vs.length vs):=Zk (Bm bD.out aM.out);have dC:Hid (∀g,g<w3.heap.size→SX (wr.alloc (.cells #[.slice (some ⟨b,0,none⟩) wd wd] 22)) pv.ownBlock (some g) (.slice (some ⟨b,0,none⟩) wd wd) (hdT P rows j wd o z)):=Zk (fun g hg=>SX.of_own (base:=wo.heap.size) (by rw[Dc];exact cW.out.alloc _) (Ci aJ.2 (Gj aJ.1 ..)) (fun q hq=>(bD.out.lt q hq).2) (fun q hq=>by injection hq with e;have:=aS.out.size;omega))
       have hvn:vs.length≤2048:=by have h:=bP.out;omega
       have hzw:w3.heap.size≤wr.heap.size:=Nat.le_trans aS.out.size aM.out.size;clear bU;rcases bW hli with aZ|⟨aZ,dK⟩
       case' inl=>have dG:decide (i<G)=false:=Zd aZ
       case' inr=>
        have dG:decide (i<G)=true:=Ze aZ;have dR:decide (x1<R)=false:=Zd dK
       all_goals
        clear bW;go_wp2_with (at_builtin;refine Bt _ rfl _ _ 33 rfl w3.heap.size 22 (.slice none 0 0) 24 Tryz.underlying33 Ev pv vs.length vs rfl (aT.out.alloc _) (.slice (some ⟨b,0,none⟩) wd wd) rfl wr.heap.size rfl (Ba wr [.slice (some ⟨b,0,none⟩) wd wd] 22 0 _ rfl) (by omega) (by omega) rfl (by simp;omega) ?_;intro g9 bQ w9 aG cL aW;have cF:=Zk aG;have cB:=Zk cL;have cO:=Zk aW;clear aG cL aW);have cY:Hid (∀g,g<w3.heap.size→RW w3.heap.size g w9 (.slice (some ⟨g9,0,none⟩) (vs.length+1) bQ) (vs++[.slice (some ⟨b,0,none⟩) wd wd]) (Ca P rows j wd G (q+1))):=Zk (fun g hg=>by
         rw[bM.out];exact ((cX.out g hg).below hg ((Zb _ wr).alloc (Zl _) _)).app (dC.out g hg) cF.out cB.out (fun q hq=>by
          have e:g9=q:=by simpa [Value.ownBlock] using hq
          subst e;exact cO.out))
        have cR:Hid (Below w3.heap.size w3 w9):=Zk (((aS.out.trans (aM.out.mono aS.out.size)).alloc (by omega) _).grown cB.out (by simp;omega) (fun q hq=>(aT.out.lt q hq).1))
        go_roundw
        case rel=>exact⟨q+1,_,_,rfl,by omega,by go_num,by simpa using cF.out,by simp[bP.out],cY.out,cR.out⟩
        case measure=>simp[intOf];omega
    ·have dq:decide (q<N)=false:=Zd hlq;have bX:q=N:=by omega
     have bO:Hid (∀g,g<w.heap.size→SLE g wr pv (Ca P rows j wd G N)):=Zk (fun g hg=>by rw[←bX];exact (bN.out g (Nat.lt_of_lt_of_le hg aV.out)).sle (Nat.lt_of_lt_of_le hg aV.out))
     have aO:=bD.out;have bC:vs.length=N:=by rw[bP.out,bX]
     rw[bC] at aO;obtain⟨Ao,co,eo⟩:=Dd aO;subst eo;clear bX aO bC;go_wp2_with fail;go_ret2;exact⟨Ao,co,rfl,aC.out.trans (aA.out.mono aC.out.size),bO.out⟩
open Go.RowKit Go.Shelf
attribute [local go_sem] Oper.semAt_some
def rwE(P wd:Int):List (List Int)→Int
 |[]=>0
 |r::rs=>if (r.length:Int)≠wd then 2 else if els P r=false then 9 else rwE P wd rs
theorem Tm{P wd:Int}:∀{rows:List (List Int)},rwE P wd rows=0→∀r∈rows,(r.length:Int)=wd∧els P r=true
 |[],_,r,hr=>by simp at hr
 |q::rs,h,r,hr=>by
  unfold rwE at h;split at h
  ·cases h
  ·split at h
   ·cases h
   ·rename_i h1 h2;rcases List.mem_cons.1 hr with e|e
    ·subst e;exact⟨by omega,by simpa using h2⟩
    ·exact Tm h r e
theorem zBk{P wd:Int}{rows:List (List Int)}{k:Nat}(h:k<rows.length):rwE P wd (rows.drop k)=if (rows[k].length:Int)≠wd then 2 else if els P rows[k]=false then 9 else rwE P wd (rows.drop (k+1)):=by
 rw[List.drop_eq_getElem_cons h];rfl
def ghE(P n t G wd:Int)(rows:List (List Int))(j:Int):Int:=if gcE P n t G≠0 then gcE P n t G else if j<1∨n<j then 1 else if wd<0∨64<wd∨1024<rows.length then 4 else rwE P wd rows
theorem Yu{P n t G wd:Int}{rows:List (List Int)}{j:Int}(h:gcE P n t G≠0):ghE P n t G wd rows j=gcE P n t G:=if_pos h
theorem Qk{P n t G wd:Int}{rows:List (List Int)}{j:Int}(h:gcE P n t G=0)(h2:j<1∨n<j):ghE P n t G wd rows j=1:=by
 unfold ghE;rw[if_neg (by rw[h];simp),if_pos h2]
theorem Nu{P n t G wd:Int}{rows:List (List Int)}{j:Int}(h:gcE P n t G=0)(h2:1≤j∧j≤n)(h3:wd<0∨64<wd∨1024<rows.length):ghE P n t G wd rows j=4:=by
 unfold ghE;rw[if_neg (by rw[h];simp),if_neg (by omega),if_pos h3]
theorem Yw{P n t G wd:Int}{rows:List (List Int)}{j:Int}(h:gcE P n t G=0)(h2:1≤j∧j≤n)(h3:0≤wd∧wd≤64∧rows.length≤1024):ghE P n t G wd rows j=rwE P wd rows:=by
 unfold ghE;rw[if_neg (by rw[h];simp),if_neg (by omega),if_neg (by omega)]
theorem Yv{P n t G wd:Int}{rows:List (List Int)}{j:Int}(h:ghE P n t G wd rows j=0):SV P n t G∧(1≤j∧j≤n)∧(0≤wd∧wd≤64∧rows.length≤1024)∧rwE P wd rows=0:=by
 by_cases h1:gcE P n t G=0
 ·by_cases h2:j<1∨n<j
  ·rw[Qk h1 h2] at h;cases h
  ·by_cases h3:wd<0∨64<wd∨1024<rows.length
   ·rw[Nu h1 (by omega) h3] at h;cases h
   ·rw[Yw h1 (by omega) (by omega)] at h;exact⟨He h1,by omega,by omega,h⟩
 ·rw[Yu h1] at h;exact absurd h h1
def Pn(g:Nat)(P n t G wd:Int)(rows:List (List Int))(j:Int)(w:World)(e:Ending)(w':World):Prop:=
 ∃v,e= .returned (.tuple #[v,.int .i64 (ghE P n t G wd rows j)])∧Below w.heap.size w w'∧(ghE P n t G wd rows j=0→SLE g w' v (Ca P rows j wd.toNat G.toNat (ngr rows.length G.toNat)))∧(ghE P n t G wd rows j≠0→v= .slice none 0 0)
theorem Wz(n:Int)(w:World):Calls Tryz.prog 46 #[.int .i64 n] w fun e w'=>e= .returned (.bool (decide (0≤n∧n≤64)))∧w=w':=by
 go_enter Tryz.func46,Tryz.ntmps46;by_cases h1:0≤n
 ·have d1:decide (0≤n)=true:=Ze h1;by_cases h2:n≤64
  ·have d2:decide (n≤64)=true:=Ze h2;have HE:Hid (decide (0≤n∧n≤64)=true):=Zk (Ze ⟨h1,h2⟩);go_wp2_with fail;go_ret;exact⟨by first|rfl|(rw[HE.out]<;>rfl),rfl⟩
  ·have d2:decide (n≤64)=false:=Zd h2;have HE:Hid (decide (0≤n∧n≤64)=false):=Zk (Zd fun h=>h2 h.2)
   go_wp2_with fail;go_ret;exact⟨by first|rfl|(rw[HE.out]<;>rfl),rfl⟩
 ·have d1:decide (0≤n)=false:=Zd h1;have HE:Hid (decide (0≤n∧n≤64)=false):=Zk (Zd fun h=>h1 h.1)
  go_wp2_with fail;go_ret;exact⟨by first|rfl|(rw[HE.out]<;>rfl),rfl⟩
theorem Wb(g:Nat)(P n t G wd:Int)(rows:List (List Int))(j:Int)(v:Value)(w:World)(hP:At P)(h:SL w v rows)(h0:ghE P n t G wd rows j≠0):
  CallsIn Fence.wide 8 Tryz.prog 17 #[.agg #[.int .i64 P],.agg #[.int .i64 n,.int .i64 t,.int .i64 G],.int .i64 wd,v,.int .i64 j] w (Pn g P n t G wd rows j w):=by
 have aE:=Zk h0;obtain⟨A,c,rfl,hc,hm,ha⟩:=h;have HA:=Zk ha;obtain⟨len,el⟩:∃l,l=rows.length:=⟨_,rfl⟩;have HL:=Zk el;rw[←el] at hc⊢;clear ha el h0;refine callsIn_of_wp_marks Tryz.func17 rfl trivial ?_ rfl;simp only[Tryz.ntmps17,List.size_toArray,List.length_cons,List.length_nil,Nat.reduceAdd,Nat.reduceSub,Array.replicate_succ,Array.replicate_zero,List.push_toArray,List.append_toArray,List.nil_append,List.cons_append];obtain⟨F,eF⟩:∃F,F=w.heap.size:=⟨_,rfl⟩;obtain⟨w1,aJ⟩:∃w1:World,w1=(((w.alloc (.cells #[.int .i64 P] 31)).alloc (.cells #[.int .i64 n,.int .i64 t,.int .i64 G] 29)).alloc (.cells #[.int .i64 wd] 3)).alloc (.cells #[.int .i64 j] 3):=⟨_,rfl⟩;have aV:Hid ((((w.alloc (.cells #[.int .i64 P] 31)).alloc (.cells #[.int .i64 n,.int .i64 t,.int .i64 G] 29)).alloc (.cells #[.int .i64 wd] 3)).alloc (.cells #[.int .i64 j] 3)=w1):=aJ.symm;have aK:Hid (Below w.heap.size w w1):=Zk (by rw[aJ];exact ((((Zb _ w).alloc (Zl _) _).alloc (by simp) _).alloc (by simp;omega) _).alloc (by simp;omega) _);have aA:Hid (w1.heap[F]? =some (.cells #[.int .i64 P] 31 (0,0))):=Zk (by show _=_;rw[aJ,eF,Below.heap_alloc _ _ _ (by simp;try omega),Below.heap_alloc _ _ _ (by simp;try omega),Below.heap_alloc _ _ _ (by simp)];exact Zh w _);have aB:Hid (w1.heap[F+1]? =some (.cells #[.int .i64 n,.int .i64 t,.int .i64 G] 29 (0,0))):=Zk (by show _=_;rw[aJ,eF,Below.heap_alloc _ _ _ (by simp;try omega),Below.heap_alloc _ _ _ (by simp;try omega)];have:=Zh (w.alloc (.cells #[.int .i64 P] 31)) (.cells #[.int .i64 n,.int .i64 t,.int .i64 G] 29);simpa using this);have aC:Hid (w1.heap[F+2]? =some (.cells #[.int .i64 wd] 3 (0,0))):=Zk (by show _=_;rw[aJ,eF,Below.heap_alloc _ _ _ (by simp;try omega)];have:=Zh ((w.alloc (.cells #[.int .i64 P] 31)).alloc (.cells #[.int .i64 n,.int .i64 t,.int .i64 G] 29)) (.cells #[.int .i64 wd] 3);simpa using this);have aD:Hid (w1.heap[F+3]? =some (.cells #[.int .i64 j] 3 (0,0))):=Zk (by show _=_;rw[aJ,eF];have:=Zh (((w.alloc (.cells #[.int .i64 P] 31)).alloc (.cells #[.int .i64 n,.int .i64 t,.int .i64 G] 29)).alloc (.cells #[.int .i64 wd] 3)) (.cells #[.int .i64 j] 3);simpa using this);have aX:Hid (∀W,Below w1.heap.size w1 W→W.cell? ⟨F,0,none⟩=some (.int .i64 P)∧W.cell? ⟨F+1,0,none⟩=some (.int .i64 n)∧W.cell? ⟨F+1,1,none⟩=some (.int .i64 t)∧W.cell? ⟨F+1,2,none⟩=some (.int .i64 G)∧W.cell? ⟨F+2,0,none⟩=some (.int .i64 wd)∧W.cell? ⟨F+3,0,none⟩=some (.int .i64 j)):=Zk (fun W hg=>by
  have bI:=(hg.block F (Ae aA.out)).trans aA.out;have aZ:=(hg.block (F+1) (Ae aB.out)).trans aB.out;have bJ:=(hg.block (F+2) (Ae aC.out)).trans aC.out;have bK:=(hg.block (F+3) (Ae aD.out)).trans aD.out;exact⟨Zc W F 0 _ _ _ bI,Zc W (F+1) 0 _ _ _ aZ,Zc W (F+1) 1 _ _ _ aZ,Zc W (F+1) 2 _ _ _ aZ,Zc W (F+2) 0 _ _ _ bJ,Zc W (F+3) 0 _ _ _ bK⟩)
 gi_upto_region 1 with fail
 rw[show w.heap.size+1+1+1=w.heap.size+3 from rfl,show w.heap.size+1+1=w.heap.size+2 from rfl];rw[aV.out,←eF];clear aJ eF;obtain⟨f0,s0,s1,s2,d0,j0⟩:=aX.out w1 (Zb _ _);gi_wp2_with fail
 refine⟨trivial,(callsIn_wide.2 (Fe P n t G _ hP)).mono ?_⟩;rintro e w2 ⟨rfl,bA⟩;have aH:=Zk bA;have aI:Hid (Below w.heap.size w w2):=Zk (aK.out.trans (bA.mono aK.out.size));clear f0 s0 s1 s2 d0 j0 bA;obtain⟨f0,s0,s1,s2,d0,j0⟩:=aX.out w2 aH.out;obtain⟨z,ez⟩:∃z,z=gcE P n t G:=⟨_,rfl⟩;rw[←ez];have HZ:=Zk ez;clear ez;by_cases hz0:z=0
 case' neg=>
  have HE:Hid (ghE P n t G wd rows j=z):=Zk (by show _=_;rw[HZ.out];exact Yu (by rw[←HZ.out];exact hz0));have dz:(z !=0)=true:=by rw[bne_iff_ne];exact hz0
  clear hz0;gi_wp2_with fail
  exact⟨_,results_tmp2 rfl _ _ _,.slice none 0 0,by rw[HE.out];rfl,aI.out,fun h=>absurd h aE.out,fun _=>rfl⟩
 subst hz0;by_cases h1:j<1
 ·have d1:decide (j<1)=true:=Ze h1;have HE:Hid (ghE P n t G wd rows j=1):=Zk (Qk HZ.out.symm (.inl h1));gi_wp2_with fail
  exact⟨_,results_tmp2 rfl _ _ _,.slice none 0 0,by rw[HE.out];rfl,aI.out,fun h=>absurd h aE.out,fun _=>rfl⟩
 have d1:decide (j<1)=false:=Zd h1;by_cases h2:n<j
 ·have d2:decide (n<j)=true:=Ze h2;have HE:Hid (ghE P n t G wd rows j=1):=Zk (Qk HZ.out.symm (.inr h2));gi_wp2_with fail
  exact⟨_,results_tmp2 rfl _ _ _,.slice none 0 0,by rw[HE.out];rfl,aI.out,fun h=>absurd h aE.out,fun _=>rfl⟩
 have d2:decide (n<j)=false:=Zd h2;gi_wp2_with fail
 refine⟨trivial,(callsIn_wide.2 (Wz wd _)).mono ?_⟩;rintro e wz ⟨rfl,bN⟩;subst bN;by_cases h3:0≤wd∧wd≤64
 case' neg=>
  have HE:Hid (ghE P n t G wd rows j=4):=Zk (Nu HZ.out.symm (by omega) (by omega));rw[show decide (0≤wd∧wd≤64)=false from Zd h3];clear h3;gi_wp2_with fail
  exact⟨_,results_tmp2 rfl _ _ _,.slice none 0 0,by rw[HE.out];rfl,aI.out,fun h=>absurd h aE.out,fun _=>rfl⟩
 rw[show decide (0≤wd∧wd≤64)=true from Ze h3];by_cases h4:1024<len
 ·have d4:decide ((1024:Int)<(len:Int))=true:=Ze (by omega);have d4n:decide (1024<len)=true:=Ze h4;have HE:Hid (ghE P n t G wd rows j=4):=Zk (Nu HZ.out.symm (by omega) (by rw[←HL.out];omega));gi_wp2_with fail
  exact⟨_,results_tmp2 rfl _ _ _,.slice none 0 0,by rw[HE.out];rfl,aI.out,fun h=>absurd h aE.out,fun _=>rfl⟩
 have t4:decide ((1024:Int)<(len:Int))=false:=Zd (by omega);have t5:decide (1024<len)=false:=Zd (by omega);have aT:Hid (ghE P n t G wd rows j=rwE P wd rows):=Zk (Yw HZ.out.symm (by omega) (by rw[←HL.out];omega));have hV:=He HZ.out.symm;have hPb:=hV.pb;clear hV;obtain⟨R,eR⟩:∃R,R=w2.heap.size:=⟨_,rfl⟩;obtain⟨w3,aQ⟩:∃w3:World,w3=w2.alloc (.cells #[.int .i64 P] 85):=⟨_,rfl⟩;have aW:Hid (w2.alloc (.cells #[.int .i64 P] 85)=w3):=aQ.symm;have aL:Hid (Below w2.heap.size w2 w3):=Zk (by rw[aQ];exact (Zb _ w2).alloc (Zl _) _);have aF:Hid (w3.heap[R]? =some (.cells #[.int .i64 P] 85 (0,0))):=Zk (by show _=_;rw[aQ,eR];exact Zh w2 _);have bH:Hid (∀W,Below w3.heap.size w3 W→W.cell? ⟨R,0,none⟩=some (.int .i64 P)):=Zk (fun W hg=>by
  have bL:=(hg.block R (Ae aF.out)).trans aF.out;exact (Zc W R 0 _ _ _ bL))
 have aM:Hid (Below w1.heap.size w1 w3):=Zk (aH.out.trans (aL.out.mono aH.out.size));have bC:Hid (Below w.heap.size w w3):=Zk (aI.out.trans (aL.out.mono aI.out.size))
 gi_upto_region 9 with fail
 rw[aW.out,←eR];clear aQ eR;clear f0 s0 s1 s2 d0 j0;gi_wp2_with fail
 gi_loopw [48] (fun iv wr=>∃k:Nat,k≤len∧iv= .int .i64 k∧rwE P wd (rows.drop k)=rwE P wd rows∧Below w3.heap.size w3 wr) (fun iv _=>len- (intOf iv).toNat)
 case atStart=>exact⟨0,Nat.zero_le _,rfl,by rw[List.drop_zero],Zb _ _⟩
 case round=>
  obtain⟨k,hk,rfl,bE,hb⟩:=hrel;have HB:=Zk hb;have aP:=Zk bE;have aR:Hid (Below w1.heap.size w1 wr):=Zk (aM.out.trans (hb.mono aM.out.size));have aN:Hid (Below w.heap.size w wr):=Zk (bC.out.trans (hb.mono bC.out.size));clear hb bE;by_cases hlk:k<len
  ·have dk:decide (k<len)=true:=Ze hlk;have dk':decide ((k:Int)<(len:Int))=true:=Ze (by omega);have bD:k<rows.length:=by rw[←HL.out];exact hlk
   obtain⟨b,bO,rfl,bM,aG⟩:=HA.out (by omega);obtain⟨B,d,c1,hs⟩:=aG k bD;have c2:=(aN.out.cell (p:=⟨b,bO+k,none⟩) bM).trans c1;have HS:Hid (SI wr (.slice B rows[k].length d) rows[k]):=Zk (hs.below aN.out);have aO:=Zk (zBk (P:=P) (wd:=wd) bD);generalize rows[k]=r at HS aO c2;obtain⟨f0,s0,s1,s2,d0,j0⟩:=aX.out wr aR.out;have r0:=bH.out wr HB.out;obtain⟨rl,aY⟩:∃rl,rl=r.length:=⟨_,rfl⟩;rw[←aY] at HS c2;have aU:=Zk aY;clear aG c1 hs aY;by_cases hwl:(rl:Int)=wd
   case' neg=>
    have e1:((rl:Int) !=wd)=true:=by rw[bne_iff_ne];exact hwl
    have HE:Hid (ghE P n t G wd rows j=2):=Zk (by show _=_;rw[aT.out,←aP.out,aO.out,if_pos (by rw[←aU.out];exact hwl)]);clear hwl;gi_wp2_with fail
    exact⟨_,results_tmp2 rfl _ _ _,.slice none 0 0,by rw[HE.out];rfl,aN.out,fun h=>absurd h aE.out,fun _=>rfl⟩
   have e1:((rl:Int) !=wd)=false:=by simpa using hwl
   clear hwl;gi_wp2_with fail
   refine⟨trivial,(callsIn_wide.2 (Hp P r _ _ HS.out)).mono ?_⟩;rintro e w4 ⟨rfl,bB⟩;have bF:=Zk bB;have aS:Hid (Below w.heap.size w w4):=Zk (aN.out.trans (bB.mono aN.out.size));clear f0 s0 s1 s2 d0 j0 r0 c2 bB
   cases hel:els P r with
   |false=>
    have HE:Hid (ghE P n t G wd rows j=9):=Zk (by show _=_;rw[aT.out,←aP.out,aO.out,if_neg (by rw[←aU.out];simpa using e1),if_pos hel]);clear hel;gi_wp2_with fail
    exact⟨_,results_tmp2 rfl _ _ _,.slice none 0 0,by rw[HE.out];rfl,aS.out,fun h=>absurd h aE.out,fun _=>rfl⟩
   |true=>
    have bG:Hid (rwE P wd (rows.drop (k+1))=rwE P wd rows):=Zk (by show _=_;rw[←aP.out,aO.out,if_neg (by rw[←aU.out];simpa using e1),if_neg (by rw[hel];simp)]);clear hel;gi_wp2_with fail
    go_roundw
    case rel=>exact⟨k+1,by omega,by go_num,bG.out,HB.out.trans (bF.out.mono HB.out.size)⟩
    case measure=>simp[intOf];omega
  ·have HF:Hid False:=Zk (aE.out (by rw[aT.out,←aP.out,List.drop_of_length_le (by rw[←HL.out];omega)];rfl));exact HF.out.elim
theorem Wc(g:Nat)(P n t G wd:Int)(rows:List (List Int))(j:Int)(v:Value)(w:World)(hP:At P)(h:SL w v rows)(hg:g<w.heap.size):
  Calls Tryz.prog 17 #[.agg #[.int .i64 P],.agg #[.int .i64 n,.int .i64 t,.int .i64 G],.int .i64 wd,v,.int .i64 j] w (Pn g P n t G wd rows j w):=by
 by_cases h0:ghE P n t G wd rows j=0
 ·obtain⟨hV,hj,hw,hr⟩:=Yv h0;have b3:=hV.G1;obtain⟨Gn,rfl⟩:∃Gn:Nat,G=Gn:=⟨G.toNat,by omega⟩;obtain⟨wn,rfl⟩:∃wn:Nat,wd=wn:=⟨wd.toNat,by omega⟩;obtain⟨jn,rfl⟩:∃jn:Nat,j=jn:=⟨j.toNat,by omega⟩;have aA:=Tm hr;exact (Ur P n t Gn wn jn g rows v w hV hj (by omega) hw.2.2 (fun r hr=>⟨by have:=(aA r hr).1;omega,(aA r hr).2⟩) h hg).mono fun e w' ⟨A,c,h1,h2,h3⟩=>⟨_,by rw[h0];exact h1,h2,fun _=>h3,fun hn=>absurd h0 hn⟩
 ·exact callsIn_wide.1 (Wb g P n t G wd rows j v w hP h h0)
theorem Rg(g:Nat)(P n t G wd:Int)(rows:List (List Int))(j:Int)(v:Value)(w:World)(hP:At P)(h:SL w v rows)(h0:ghE P n t G wd rows j≠0):
  Calls Tryz.prog 39 #[.agg #[.int .i64 P],.agg #[.int .i64 n,.int .i64 t,.int .i64 G],.int .i64 wd,v,.int .i64 j] w (Pn g P n t G wd rows j w):=by
 have aA:=Zk h0;obtain⟨A,c,rfl,hc,hm,ha⟩:=h;have HA:=Zk ha;obtain⟨len,el⟩:∃l,l=rows.length:=⟨_,rfl⟩;have HL:=Zk el;rw[←el] at hc⊢;clear ha el h0;go_enter Tryz.func39,Tryz.ntmps39;obtain⟨F,eF⟩:∃F,F=w.heap.size:=⟨_,rfl⟩;obtain⟨w1,aI⟩:∃w1:World,w1=(w.alloc (.cells #[.int .i64 P] 31)).alloc (.cells #[.int .i64 n,.int .i64 t,.int .i64 G] 29):=⟨_,rfl⟩;have aO:Hid ((w.alloc (.cells #[.int .i64 P] 31)).alloc (.cells #[.int .i64 n,.int .i64 t,.int .i64 G] 29)=w1):=aI.symm;have aG:Hid (Below w.heap.size w w1):=Zk (by rw[aI];exact ((Zb _ w).alloc (Zl _) _).alloc (by simp) _);have aC:Hid (w1.heap[F]? =some (.cells #[.int .i64 P] 31 (0,0))):=Zk (by show _=_;rw[aI,eF,Below.heap_alloc _ _ _ (by simp)];exact Zh w _);have aD:Hid (w1.heap[F+1]? =some (.cells #[.int .i64 n,.int .i64 t,.int .i64 G] 29 (0,0))):=Zk (by show _=_;rw[aI,eF];have:=Zh (w.alloc (.cells #[.int .i64 P] 31)) (.cells #[.int .i64 n,.int .i64 t,.int .i64 G] 29);simpa using this);have aP:Hid (∀W,Below w1.heap.size w1 W→W.cell? ⟨F,0,none⟩=some (.int .i64 P)∧W.cell? ⟨F+1,0,none⟩=some (.int .i64 n)∧W.cell? ⟨F+1,1,none⟩=some (.int .i64 t)∧W.cell? ⟨F+1,2,none⟩=some (.int .i64 G)):=Zk (fun W hg=>by
  have bC:=(hg.block F (Ae aC.out)).trans aC.out;have aR:=(hg.block (F+1) (Ae aD.out)).trans aD.out;exact⟨Zc W F 0 _ _ _ bC,Zc W (F+1) 0 _ _ _ aR,Zc W (F+1) 1 _ _ _ aR,Zc W (F+1) 2 _ _ _ aR⟩)
 go_upto_region 1 with fail
 rw[aO.out,←eF];clear aI eF;obtain⟨f0,s0,s1,s2⟩:=aP.out w1 (Zb _ _);go_wp2_with fail;(with_reducible refine (Et P n t G _ hP).mono ?_)
 rintro e w2 ⟨rfl,aS⟩;have aF:=Zk aS;have aB:Hid (Below w.heap.size w w2):=Zk (aG.out.trans (aS.mono aG.out.size));clear f0 s0 s1 s2 aS;obtain⟨f0,s0,s1,s2⟩:=aP.out w2 aF.out;obtain⟨z,ez⟩:∃z,z=gcE P n t G:=⟨_,rfl⟩;rw[←ez];have HZ:=Zk ez;clear ez;by_cases hz0:z=0
 case' neg=>
  have HE:Hid (ghE P n t G wd rows j=z):=Zk (by show _=_;rw[HZ.out];exact Yu (by rw[←HZ.out];exact hz0));have dz:(z !=0)=true:=by rw[bne_iff_ne];exact hz0
  clear hz0;go_wp2_with fail;refine bodyPost_ret (v:= .tuple #[.slice none 0 0,.int .i64 z]) (by simp[results,Tryz.results39,go_sem]) rfl ?_;exact⟨_,by rw[HE.out],aB.out,fun h=>absurd h aA.out,fun _=>rfl⟩
 subst hz0;by_cases h1:j<1
 ·have d1:decide (j<1)=true:=Ze h1;have HE:Hid (ghE P n t G wd rows j=1):=Zk (Qk HZ.out.symm (.inl h1));go_wp2_with fail;refine bodyPost_ret (v:= .tuple #[.slice none 0 0,.int .i64 1]) (by simp[results,Tryz.results39,go_sem]) rfl ?_;exact⟨_,by rw[HE.out],aB.out,fun h=>absurd h aA.out,fun _=>rfl⟩
 have d1:decide (j<1)=false:=Zd h1;by_cases h2:n<j
 ·have d2:decide (n<j)=true:=Ze h2;have HE:Hid (ghE P n t G wd rows j=1):=Zk (Qk HZ.out.symm (.inr h2));go_wp2_with fail;refine bodyPost_ret (v:= .tuple #[.slice none 0 0,.int .i64 1]) (by simp[results,Tryz.results39,go_sem]) rfl ?_;exact⟨_,by rw[HE.out],aB.out,fun h=>absurd h aA.out,fun _=>rfl⟩
 have d2:decide (n<j)=false:=Zd h2;by_cases h3:wd<0
 ·have d3:decide (wd<0)=true:=Ze h3;have HE:Hid (ghE P n t G wd rows j=4):=Zk (Nu HZ.out.symm (by omega) (by omega));go_wp2_with fail;refine bodyPost_ret (v:= .tuple #[.slice none 0 0,.int .i64 4]) (by simp[results,Tryz.results39,go_sem]) rfl ?_;exact⟨_,by rw[HE.out],aB.out,fun h=>absurd h aA.out,fun _=>rfl⟩
 have d3:decide (wd<0)=false:=Zd h3;by_cases h6:64<wd
 ·have d6:decide (64<wd)=true:=Ze h6;have HE:Hid (ghE P n t G wd rows j=4):=Zk (Nu HZ.out.symm (by omega) (by omega));go_wp2_with fail;refine bodyPost_ret (v:= .tuple #[.slice none 0 0,.int .i64 4]) (by simp[results,Tryz.results39,go_sem]) rfl ?_;exact⟨_,by rw[HE.out],aB.out,fun h=>absurd h aA.out,fun _=>rfl⟩
 have d6:decide (64<wd)=false:=Zd h6;by_cases h4:1024<len
 ·have d4:decide ((1024:Int)<(len:Int))=true:=Ze (by omega);have d4n:decide (1024<len)=true:=Ze h4;have HE:Hid (ghE P n t G wd rows j=4):=Zk (Nu HZ.out.symm (by omega) (by rw[←HL.out];omega));go_wp2_with fail;refine bodyPost_ret (v:= .tuple #[.slice none 0 0,.int .i64 4]) (by simp[results,Tryz.results39,go_sem]) rfl ?_;exact⟨_,by rw[HE.out],aB.out,fun h=>absurd h aA.out,fun _=>rfl⟩
 have t4:decide ((1024:Int)<(len:Int))=false:=Zd (by omega);have t5:decide (1024<len)=false:=Zd (by omega);have aN:Hid (ghE P n t G wd rows j=rwE P wd rows):=Zk (Yw HZ.out.symm (by omega) (by rw[←HL.out];omega));have bB:=Zk (He HZ.out.symm).pr;go_wp2_with fail;clear f0 s0 s1 s2;go_loopw [51] (fun iv wr=>∃k:Nat,k≤len∧iv= .int .i64 k∧rwE P wd (rows.drop k)=rwE P wd rows∧Below w2.heap.size w2 wr) (fun iv _=>len- (intOf iv).toNat)
 case atStart=>exact⟨0,Nat.zero_le _,rfl,by rw[List.drop_zero],Zb _ _⟩
 case round=>
  obtain⟨k,hk,rfl,aX,hb⟩:=hrel;have aK:=Zk aX;have HB:=Zk hb;have aL:Hid (Below w1.heap.size w1 wr):=Zk (aF.out.trans (hb.mono aF.out.size));have aH:Hid (Below w.heap.size w wr):=Zk (aB.out.trans (hb.mono aB.out.size));clear hb aX;by_cases hlk:k<len
  ·have dk:decide (k<len)=true:=Ze hlk;have dk':decide ((k:Int)<(len:Int))=true:=Ze (by omega);have aW:k<rows.length:=by rw[←HL.out];exact hlk
   obtain⟨b,bE,rfl,bD,aE⟩:=HA.out (by omega);obtain⟨B,d,c1,hs⟩:=aE k aW;have c2:=(aH.out.cell (p:=⟨b,bE+k,none⟩) bD).trans c1;have HS:Hid (SI wr (.slice B rows[k].length d) rows[k]):=Zk (hs.below aH.out);have aJ:=Zk (zBk (P:=P) (wd:=wd) aW);generalize rows[k]=r at HS aJ c2;obtain⟨f0,s0,s1,s2⟩:=aP.out wr aL.out;obtain⟨rl,aQ⟩:∃rl,rl=r.length:=⟨_,rfl⟩;rw[←aQ] at HS c2;have aU:=Zk aQ;clear aE c1 hs aQ;by_cases hwl:(rl:Int)=wd
   case' neg=>
    have e1:((rl:Int) !=wd)=true:=by rw[bne_iff_ne];exact hwl
    have HE:Hid (ghE P n t G wd rows j=2):=Zk (by show _=_;rw[aN.out,←aK.out,aJ.out,if_pos (by rw[←aU.out];exact hwl)]);clear hwl;go_wp2_with fail;refine bodyPost_ret (v:= .tuple #[.slice none 0 0,.int .i64 2]) (by simp[results,Tryz.results39,go_sem]) rfl ?_;exact⟨_,by rw[HE.out],aH.out,fun h=>absurd h aA.out,fun _=>rfl⟩
   have e1:((rl:Int) !=wd)=false:=by simpa using hwl
   have aV:Hid ((r.length:Int)=wd):=Zk (by rw[←aU.out];exact hwl);clear hwl;go_wp2_with fail;(with_reducible refine (Ei P r _ wr hP HS.out).mono ?_)
   rintro e w4 ⟨rfl,aT⟩;have aY:=Zk aT;have aM:Hid (Below w.heap.size w w4):=Zk (aH.out.trans (aT.mono aH.out.size));have aZ:Hid (inB P r=els P r):=Zk (by show _=_;unfold inB;rw[bB.out];rfl);rw[aZ.out];clear f0 s0 s1 s2 c2 aT
   cases hel:els P r with
   |false=>
    have HE:Hid (ghE P n t G wd rows j=9):=Zk (by show _=_;rw[aN.out,←aK.out,aJ.out,if_neg (by have:=aV.out;omega),if_pos hel]);clear hel;go_wp2_with fail;refine bodyPost_ret (v:= .tuple #[.slice none 0 0,.int .i64 9]) (by simp[results,Tryz.results39,go_sem]) rfl ?_;exact⟨_,by rw[HE.out],aM.out,fun h=>absurd h aA.out,fun _=>rfl⟩
   |true=>
    have bA:Hid (rwE P wd (rows.drop (k+1))=rwE P wd rows):=Zk (by show _=_;rw[←aK.out,aJ.out,if_neg (by have:=aV.out;omega),if_neg (by rw[hel];simp)]);clear hel;go_wp2_with fail;go_roundw
    case rel=>exact⟨k+1,by omega,by go_num,bA.out,HB.out.trans (aY.out.mono HB.out.size)⟩
    case measure=>simp[intOf];omega
  ·have HF:Hid False:=Zk (aA.out (by rw[aN.out,←aK.out,List.drop_of_length_le (by rw[←HL.out];omega)];rfl));exact HF.out.elim
theorem Tj(g:Nat)(P n t G wd:Int)(rows:List (List Int))(j:Int)(v:Value)(w:World)(hP:At P)(h:SL w v rows)(hg:g<w.heap.size):
  Calls Tryz.prog 39 #[.agg #[.int .i64 P],.agg #[.int .i64 n,.int .i64 t,.int .i64 G],.int .i64 wd,v,.int .i64 j] w (Pn g P n t G wd rows j w):=by
 by_cases h0:ghE P n t G wd rows j=0
 ·obtain⟨hV,hj,hw,hr⟩:=Yv h0;have b3:=hV.G1;obtain⟨Gn,rfl⟩:∃Gn:Nat,G=Gn:=⟨G.toNat,by omega⟩;obtain⟨wn,rfl⟩:∃wn:Nat,wd=wn:=⟨wd.toNat,by omega⟩;obtain⟨jn,rfl⟩:∃jn:Nat,j=jn:=⟨j.toNat,by omega⟩;have aA:=Tm hr;exact (Wp P n t Gn wn jn rows v w hV hj (by omega) hw.2.2 (fun r hr=>⟨by have:=(aA r hr).1;omega,(aA r hr).2⟩) h).mono fun e w' ⟨A,c,h1,h2,h3⟩=>⟨_,by rw[h0];exact h1,h2,fun _=>h3 g hg,fun hn=>absurd h0 hn⟩
 ·exact Rg g P n t G wd rows j v w hP h h0
open Go.RowKit Go.Shelf
theorem Mz{w w2 w':World}{g O:Nat}(h:w.grownBy w2 (some g))(hb:Below O w2 w')(hO:w.heap.size≤O):w.grownBy w' (some g):=
 ⟨hb.os.trans h.os,hb.tape.trans h.tape,hb.output.trans h.output,Nat.le_trans h.size hb.size,fun i hi hn=>(hb.block i (by omega)).trans (h.block i hi hn)⟩
def vld(lims ns:List Int):Prop:=∀j (h:j<lims.length) (h2:j<ns.length),0≤ns[j]∧ns[j]<lims[j]
theorem Rv{lims ns:List Int}{x:Int}(h:vld lims ns)(hx:∀h:ns.length<lims.length,0≤x∧x<lims[ns.length]):vld lims (ns++[x]):=fun j h1 h2=>by
 by_cases hj:j<ns.length
 ·rw[List.getElem_append_left hj];exact h j h1 hj
 ·have e:j=ns.length:=by simp at h2;omega
  subst e;rw[List.getElem_append_right (Zl _)];simp only[Nat.sub_self,List.getElem_cons_zero];exact hx h1
def TpR(lims:List Int)(g F:Nat)(w wr:World)(ns:List Int):Prop:=
 ∃(A:Option Addr) (c:Nat),TAc (F+1) (.slice A ns.length c) ns wr∧vld lims ns∧Dk wr g∧w.grownBy wr (some g)∧wr.heap[F]? =some (.cells #[.slice none 0 0,.int .i64 0] 45 (0,0))∧∀x∈ns,At x
theorem Sw(g:Nat)(lims:List Int)(v:Value)(w:World)(hD:Dk w g)(h:SE g w v lims)(hl:∀x∈lims,1≤x∧x≤65521)(hz:lims.length≤20000):
  Calls Tryz.prog 32 #[.pointer (some ⟨g,0,none⟩),v] w fun e w'=>∃v1 ns,e= .returned (.agg #[v1,.int .i64 0])∧Dk w' g∧w.grownBy w' (some g)∧lims.length≤ns.length∧ns.length≤lims.length+2∧vld lims ns∧∀z,z<w.heap.size→SE z w' v1 ns:=by
 have HS:=Zk h;have HL:=Zk hl;obtain⟨A0,c0',rfl⟩:=h.form;have hgw:g<w.heap.size:=hD.lt;obtain⟨nl,bH⟩:∃nl,nl=lims.length:=⟨_,rfl⟩;rw[←bH] at hz HS⊢;have bO:=Zk bH;have bZ:=Zk hD;clear bH h hl hD;go_enter Tryz.func32,Tryz.ntmps32;obtain⟨F,eF⟩:∃F,F=w.heap.size:=⟨_,rfl⟩;obtain⟨w1,aO⟩:∃w1:World,w1=(w.alloc (.cells #[.slice none 0 0,.int .i64 0] 45)).alloc (.cells #[.slice none 0 0,.int .i64 0] 45):=⟨_,rfl⟩;have bE:Hid ((w.alloc (.cells #[.slice none 0 0,.int .i64 0] 45)).alloc (.cells #[.slice none 0 0,.int .i64 0] 45)=w1):=aO.symm;have aL:Hid (Below w.heap.size w w1):=Zk (by rw[aO];exact ((Zb _ w).alloc (Zl _) _).alloc (by simp) _);have aM:Hid (w1.heap[F]? =some (.cells #[.slice none 0 0,.int .i64 0] 45 (0,0))):=Zk (by show _=_;rw[aO,eF,Below.heap_alloc _ _ _ (by simp)];exact Zh w _);have aN:Hid (w1.heap[F+1]? =some (.cells #[.slice none 0 0,.int .i64 0] 45 (0,0))):=Zk (by show _=_;rw[aO,eF];have:=Zh (w.alloc (.cells #[.slice none 0 0,.int .i64 0] 45)) (.cells #[.slice none 0 0,.int .i64 0] 45);simpa using this);have bQ:w.heap.size=F:=eF.symm;have HFW:=Zk bQ;have hgF:g<F:=by omega
 have cI:w.heap.size≤F:=by omega
 clear bQ;go_upto_region 2 with fail
 rw[bE.out,←eF];clear aO eF;have bR:TAc (F+1) (.slice none 0 0) [] w1:=⟨aN.out,by simpa using World.ownsRow_nil w1 (F+1+1) 3 1⟩;have cD:=Zk bR;clear bR;go_wp2_with fail;go_loopw [11] (fun iv wr=>∃(j:Nat) (ns:List Int),j≤nl∧iv= .int .i64 j∧ns.length=j∧TpR lims g F w wr ns) (fun iv _=>nl- (intOf iv).toNat)
 case atStart=>exact⟨0,[],Nat.zero_le _,rfl,rfl,none,0,cD.out,fun j h h2=>by simp at h2,bZ.out.below aL.out,Af aL.out _,aM.out,fun x h=>by simp at h⟩
 case round=>
  obtain⟨j,ns,hj,rfl,bX,A,c,hT,hv,hd,hg,hf,hr⟩:=hrel;have HT:=Zk hT;have HV:=Zk hv;have HD:=Zk hd;have HG:=Zk hg;have HF:=Zk hf;have HR:=Zk hr;have aS:=Zk bX;have cH:ns.length≤20000:=by omega
  clear hT hv hd hg hf hr bX;have wj:IntKind.i64.wrap ((j:Int)+1)=(j:Int)+1:=by exact Zi _ (by omega)
  by_cases hlt:j<nl
  ·have dj:decide ((j:Int)<(nl:Int))=true:=Ze (by omega);have bP:decide (j<nl)=true:=Ze hlt;have bU:j<lims.length:=by rw[←bO.out];exact hlt
   obtain⟨b,off,eA,hb,aG⟩:=((HS.out.grown HG.out).si).cells (by omega);subst eA;have cl:=aG j bU;have bJ:=HL.out lims[j] (List.getElem_mem bU);obtain⟨lm,bG⟩:∃lm,lm=lims[j]:=⟨_,rfl⟩;rw[←bG] at cl bJ;have cC:Hid (∀x:Int,(1≤lm→0≤x∧x<lm)→∀h:ns.length<lims.length,0≤x∧x<lims[ns.length]):=Zk (fun x hx h=>by
    have h1:=hx bJ.1;have e:lims[ns.length]=lm:=by rw[bG];simp only[aS.out]
    rw[e];exact h1)
   have z0:(0:Int)≤(j:Int):=by omega
   have z1:(j:Int)<(nl:Int):=by omega
   clear aG bG;have c0:wr.cell? ⟨F+1,0,none⟩=some (.slice A ns.length c):=Zc wr (F+1) 0 _ _ _ HT.out.1;have aW:Hid (Dk wr.drew g):=Zk (HD.out.below (Zb _ wr).drew);have bD:Hid (∀W,wr.grownBy W (some g)→TAc (F+1) (.slice A ns.length c) ns W):=Zk (fun W hW=>⟨(hW.block (F+1) HT.out.lt (by simp;omega)).trans HT.out.1,Bu HT.out.2 (fun b hb=>hW.block b (HT.out.2.lt b hb).2 (by have:=(HT.out.2.lt b hb).1;simp;omega))⟩)
   go_wp2_with fail;go_region_law (first
    |(go_simp;go_at_call 13;refine (Cy lm g _ (by first|exact HD.out|exact aW.out) (by unfold At;omega) (by omega)).mono ?_;rintro e9 w2 ⟨x,rfl,_,aR,aQ,aD⟩;have aT:=Zk aR;have aU:=Zk aQ;have aH:Hid (wr.grownBy w2 (some g)):=Zk (⟨aD.os,aD.tape,aD.output,aD.size,aD.block⟩);have aC:=Zk (bD.out w2 aH.out);have c2:w2.cell? ⟨F+1,0,none⟩=some (.slice A ns.length c):=Zc w2 (F+1) 0 _ _ _ aC.out.1;have bF:(w2.alloc (.cells #[.int .i64 x] 3)).cell? ⟨F+1,0,none⟩=some (.slice A ns.length c):=Bo (.cells #[.int .i64 x] 3) c2;clear aR aQ aD)
    |(refine Ax _ (by rfl) _ _ 22 (by rfl) (F+1+1) 3 Tryz.underlying22 Bi (.slice A ns.length c) ns (by rfl) (by first|exact aC.out.2.alloc (.cells #[.int .i64 x] 3)|exact (aC.out.2.alloc (.cells #[.int .i64 x] 3)).drew) x w2.heap.size (by rfl) (by exact Ba w2 [.int .i64 x] 3 0 _ rfl) (by omega) (by have:=aC.out.lt;simp;omega) ?_;intro gg aA w9 aB aE aJ;have aI:Hid ((w2.alloc (.cells #[.int .i64 x] 3)).grownBy w9 (Value.slice A ns.length c).ownBlock):=Zk (⟨aE.os,aE.tape,aE.output,aE.size,aE.block⟩);have bB:=Zk aB;have c9:w9.cell? ⟨F+1,0,none⟩=some (.slice A ns.length c):=aI.out.cell bF aC.out.ne;have f9:w9.frozen? ⟨F+1,0,none⟩=false:=aC.out.frozen aI.out;clear aB aE aJ))
   all_goals
    obtain⟨aP,aF⟩:=aC.out.step (Zb (F+1) w2) aI.out bB.out;have bC:=Zk aP;have aZ:Hid (w.grownBy (w9.setCell ⟨F+1,0,none⟩ (.slice (some ⟨gg,0,none⟩) (ns.length+1) aA)) (some g)):=Zk (Mz (Ag HG.out aH.out) aF (by omega));have aV:Hid (Dk (w9.setCell ⟨F+1,0,none⟩ (.slice (some ⟨gg,0,none⟩) (ns.length+1) aA)) g):=Zk (aU.out.of fun i hi=>aF.block i (by omega))
    have aX:Hid ((w9.setCell ⟨F+1,0,none⟩ (.slice (some ⟨gg,0,none⟩) (ns.length+1) aA)).heap[F]? =some (.cells #[.slice none 0 0,.int .i64 0] 45 (0,0))):=Zk ((aF.block F (by omega)).trans ((aH.out.block F (by have:=HT.out.lt;omega) (by simp;omega)).trans HF.out));clear aP aF;go_wp2_with fail;go_roundw
    case rel=>
     refine⟨j+1,ns++[x],by omega,by go_num,by rw[List.length_append,aS.out];rfl,some ⟨gg,0,none⟩,aA,by rw[List.length_append];exact bC.out,Rv HV.out (cC.out x aT.out),aV.out,aZ.out,aX.out,fun y hy=> ?_⟩
     rcases List.mem_append.1 hy with h|h
     ·exact HR.out y h
     ·simp at h;rw[h];have:=aT.out bJ.1;unfold At;omega
    case measure=>simp[intOf];omega
  ·have dj:decide ((j:Int)<(nl:Int))=false:=Zd (by omega);have bP:decide (j<nl)=false:=Zd hlt;have bV:j=nl:=by omega
   have bM:=Zk bV;clear hlt bV;go_wp2_with fail;(with_reducible refine (Cy 3 g wr HD.out (by unfold At;omega) (by omega)).mono ?_)
   rintro e w5 ⟨k3,rfl,_,bW,bT,aK⟩;have hk:=bW (by omega);have cA:=Zk bT;have HG5:=Zk aK;have bS:TAc (F+1) (.slice A ns.length c) ns w5:=⟨(aK.block (F+1) HT.out.lt (by simp;omega)).trans HT.out.1,Bu HT.out.2 (fun b hb=>aK.block b (HT.out.2.lt b hb).2 (by have:=(HT.out.2.lt b hb).1;simp;omega))⟩
   have cE:=Zk bS;have cB:Hid (w5.heap[F]? =some (.cells #[.slice none 0 0,.int .i64 0] 45 (0,0))):=Zk ((aK.block F (by have:=HT.out.lt;omega) (by simp;omega)).trans HF.out);have aY:Hid (w.grownBy w5 (some g)):=Zk (Ag HG.out aK);obtain⟨kn,cG⟩:∃kn:Nat,k3=(kn:Int):=⟨k3.toNat,by omega⟩;subst cG;clear bW bT aK bS dj bP;go_wp2_with fail;go_loopw [8] (fun kv wr=>∃(q:Nat) (ns:List Int),q≤2∧kv= .int .i64 q∧nl≤ns.length∧ns.length+q≤nl+2∧TpR lims g F w wr ns) (fun kv _=>(intOf kv).toNat)
   case atStart=>exact⟨kn,ns,by omega,rfl,by rw[aS.out,bM.out];exact Zl _,by rw[aS.out,bM.out];omega,A,c,cE.out,HV.out,cA.out,aY.out,cB.out,HR.out⟩
   case round=>
    obtain⟨q,ns,hq,rfl,bK,bL,A,c,hT,hv,hd,hg,hf,hr⟩:=hrel;have HT:=Zk hT;have HV:=Zk hv;have HD:=Zk hd;have HG:=Zk hg;have HF:=Zk hf;have HR:=Zk hr;have cH:ns.length≤30000:=by omega
    have bA:=Zk bK;have bN:=Zk bL;clear hT hv hd hg hf hr;by_cases hq0:0<q
    ·have dq:decide ((0:Int)<(q:Int))=true:=Ze (by omega);have cF:decide (0<q)=true:=Ze hq0;have wq:IntKind.i64.wrap ((q:Int)-1)=(q:Int)-1:=by exact Zi _ (by omega)
     clear bK bL;have c0:wr.cell? ⟨F+1,0,none⟩=some (.slice A ns.length c):=Zc wr (F+1) 0 _ _ _ HT.out.1;have aW:Hid (Dk wr.drew g):=Zk (HD.out.below (Zb _ wr).drew);have bD:Hid (∀W,wr.grownBy W (some g)→TAc (F+1) (.slice A ns.length c) ns W):=Zk (fun W hW=>⟨(hW.block (F+1) HT.out.lt (by simp;omega)).trans HT.out.1,Bu HT.out.2 (fun b hb=>hW.block b (HT.out.2.lt b hb).2 (by have:=(HT.out.2.lt b hb).1;simp;omega))⟩)
     go_wp2_with fail;go_region_law (first
      |(go_simp;go_at_call 13;refine (Cy 9 g _ (by first|exact HD.out|exact aW.out) (by unfold At;omega) (by omega)).mono ?_;rintro e9 w2 ⟨x,rfl,_,aR,aQ,aD⟩;have aT:=Zk aR;have aU:=Zk aQ;have aH:Hid (wr.grownBy w2 (some g)):=Zk (⟨aD.os,aD.tape,aD.output,aD.size,aD.block⟩);have aC:=Zk (bD.out w2 aH.out);have c2:w2.cell? ⟨F+1,0,none⟩=some (.slice A ns.length c):=Zc w2 (F+1) 0 _ _ _ aC.out.1;have bF:(w2.alloc (.cells #[.int .i64 x] 3)).cell? ⟨F+1,0,none⟩=some (.slice A ns.length c):=Bo (.cells #[.int .i64 x] 3) c2;clear aR aQ aD)
      |(refine Ax _ (by rfl) _ _ 22 (by rfl) (F+1+1) 3 Tryz.underlying22 Bi (.slice A ns.length c) ns (by rfl) (by first|exact aC.out.2.alloc (.cells #[.int .i64 x] 3)|exact (aC.out.2.alloc (.cells #[.int .i64 x] 3)).drew) x w2.heap.size (by rfl) (by exact Ba w2 [.int .i64 x] 3 0 _ rfl) (by omega) (by have:=aC.out.lt;simp;omega) ?_;intro gg aA w9 aB aE aJ;have aI:Hid ((w2.alloc (.cells #[.int .i64 x] 3)).grownBy w9 (Value.slice A ns.length c).ownBlock):=Zk (⟨aE.os,aE.tape,aE.output,aE.size,aE.block⟩);have bB:=Zk aB;have c9:w9.cell? ⟨F+1,0,none⟩=some (.slice A ns.length c):=aI.out.cell bF aC.out.ne;have f9:w9.frozen? ⟨F+1,0,none⟩=false:=aC.out.frozen aI.out;clear aB aE aJ))
     all_goals
      obtain⟨aP,aF⟩:=aC.out.step (Zb (F+1) w2) aI.out bB.out;have bC:=Zk aP;have aZ:Hid (w.grownBy (w9.setCell ⟨F+1,0,none⟩ (.slice (some ⟨gg,0,none⟩) (ns.length+1) aA)) (some g)):=Zk (Mz (Ag HG.out aH.out) aF (by omega));have aV:Hid (Dk (w9.setCell ⟨F+1,0,none⟩ (.slice (some ⟨gg,0,none⟩) (ns.length+1) aA)) g):=Zk (aU.out.of fun i hi=>aF.block i (by omega))
      have aX:Hid ((w9.setCell ⟨F+1,0,none⟩ (.slice (some ⟨gg,0,none⟩) (ns.length+1) aA)).heap[F]? =some (.cells #[.slice none 0 0,.int .i64 0] 45 (0,0))):=Zk ((aF.block F (by omega)).trans ((aH.out.block F (by have:=HT.out.lt;omega) (by simp;omega)).trans HF.out));clear aP aF;go_wp2_with fail;go_roundw
      case rel=>
       refine⟨q-1,ns++[x],by omega,by rw[show ((q-1:Nat):Int)=(q:Int)-1 by omega],by rw[List.length_append];have:=bA.out;omega,by rw[List.length_append];have:=bN.out;simp;omega,some ⟨gg,0,none⟩,aA,by rw[List.length_append];exact bC.out,Rv HV.out (fun h=>absurd h (by rw[←bO.out];have:=bA.out;omega)),aV.out,aZ.out,aX.out,fun y hy=> ?_⟩
       rcases List.mem_append.1 hy with h|h
       ·exact HR.out y h
       ·simp at h;rw[h];have:=aT.out (by omega);unfold At;omega
      case measure=>simp[intOf];omega
    ·have dq:decide ((0:Int)<(q:Int))=false:=Zd (by omega);have cF:decide (0<q)=false:=Zd hq0;have c0:wr.cell? ⟨F+1,0,none⟩=some (.slice A ns.length c):=Zc wr (F+1) 0 _ _ _ HT.out.1;have c1:wr.cell? ⟨F+1,1,none⟩=some (.int .i64 0):=Zc wr (F+1) 1 _ _ _ HT.out.1;have z0:wr.cell? ⟨F,0,none⟩=some (.slice none 0 0):=Zc wr F 0 _ _ _ HF.out;have z1:wr.cell? ⟨F,1,none⟩=some (.int .i64 0):=Zc wr F 1 _ _ _ HF.out;have f0:=Zf wr F 0 _ _ HF.out;have f1:=Zf wr F 1 _ _ HF.out;clear bK bL;go_wp2_with fail;have h4:=Ck (.slice A ns.length c) (.int .i64 0) HF.out;have bY:=Az (p:=⟨F,1,none⟩) (u:= .int .i64 0) (Az (p:=⟨F,0,none⟩) (u:= .slice A ns.length c) HT.out.2 (by show F<_;omega)) (by show F<_;omega);have bI:Below F wr ((wr.setCell ⟨F,0,none⟩ (.slice A ns.length c)).setCell ⟨F,1,none⟩ (.int .i64 0)):=((Zb F wr).setCell (Zl _) _).setCell (Zl _) _;generalize ((wr.setCell ⟨F,0,none⟩ (.slice A ns.length c)).setCell ⟨F,1,none⟩ (.int .i64 0))=wE at h4 bY bI⊢;have q0:=Zc wE F 0 _ _ _ h4;have q1:=Zc wE F 1 _ _ _ h4;simp at q0 q1;refine bodyPost_ret (v:= .agg #[.slice A ns.length c,.int .i64 0]) (by simp[results,Tryz.results32,go_sem,q0,q1]) rfl ?_;exact⟨_,ns,rfl,HD.out.of fun i hi=>bI.block i (by omega),Mz HG.out bI cI,bA.out,by have:=bN.out;omega,HV.out,fun z hz=>SE.of_own bY HR.out (by omega)⟩
open Go.RowKit
set_option linter.unusedSimpArgs false
noncomputable def zEq:Code:=((Tryz.f35.body.bind (Cr 13)).getD .skip)
theorem zHl(g F L n cap k c q len cap':Nat)(P x:Int)(w:World)(hqL:q≠L)(hqF:q≠F)(hP:2≤P∧P≤65521)(hx:0≤x∧x<P)(hk1:k<n)(hc1:c<len)(hX:∀W,w.grownBy W (some g)→W.cell? ⟨L,k*2+1,none⟩=some (.slice (some ⟨q,0,none⟩) len cap')∧W.cell? ⟨q,c,none⟩=some (.int .i64 x)∧W.frozen? ⟨q,c,none⟩=false∧W.cell? ⟨F,0,none⟩=some (.int .i64 P))(hD:Dk w g)
  (aa ab ac ad ae af ag ah ai aj ak al am an ao ap aq ar au av aw ax ay az aA aB aC aD aE aF aG aH aI aJ aK aL aM aN aO aP aQ aR aS aT aU aV aW aX aY aZ a0 a1 a2 a3 a4 a5 a6 a7 a8 a9 ba bb bc bd be bf bg bh bi bj bk bl bm bn bo bp bq br bs bt bu bv bw bx bz bA bB bC bD bE bF bG bH bI bJ bK bL bM bN bO bP bQ bR bS bT bU bV bW bX bY bZ b0 b1 b2 b3 b4 b5 b6 b7 b8:Value) (Q:Exit→Act→World→Prop)
  (hK:∀(b9 ca cb cc cd ce cf cg ch ci cj ck cl cm cn co cp cq cr cs ct cu cv cw cx:Value) (y:Int) (wN:World) (w':World),w.grownBy wN (some g)∧Dk wN g∧0≤y∧y<P∧y≠x∧w'=wN.setCell ⟨q,c,none⟩ (.int .i64 y)→Q .normal ⟨List.toArray ((Value.pointer (some ⟨g,0,none⟩))::aa::ab::ac::ad::ae::(Value.pointer (some ⟨F,0,none⟩))::af::ag::ah::ai::aj::(Value.slice (some ⟨L,0,none⟩) n cap)::ak::al::am::an::(Value.int .i64 (k:Int))::(Value.int .i64 (c:Int))::ao::ap::aq::ar::au::av::aw::ax::ay::az::aA::aB::aC::aD::aE::aF::aG::aH::aI::aJ::aK::aL::aM::aN::aO::aP::aQ::aR::aS::aT::aU::aV::aW::aX::aY::aZ::a0::a1::a2::a3::a4::a5::a6::a7::a8::a9::ba::b9::ca::cb::cc::cd::ce::cf::cg::ch::ci::cj::ck::cl::cm::cn::co::cp::cq::cr::cs::ct::cu::cv::cw::cx::bB::bC::bD::bE::bF::bG::bH::bI::bJ::bK::bL::bM::bN::bO::bP::bQ::bR::bS::bT::bU::bV::bW::bX::bY::bZ::b0::b1::b2::b3::b4::b5::b6::b7::b8::[]),[]⟩ w'):
  Code.wp Tryz.prog zEq Q ⟨List.toArray ((Value.pointer (some ⟨g,0,none⟩))::aa::ab::ac::ad::ae::(Value.pointer (some ⟨F,0,none⟩))::af::ag::ah::ai::aj::(Value.slice (some ⟨L,0,none⟩) n cap)::ak::al::am::an::(Value.int .i64 (k:Int))::(Value.int .i64 (c:Int))::ao::ap::aq::ar::au::av::aw::ax::ay::az::aA::aB::aC::aD::aE::aF::aG::aH::aI::aJ::aK::aL::aM::aN::aO::aP::aQ::aR::aS::aT::aU::aV::aW::aX::aY::aZ::a0::a1::a2::a3::a4::a5::a6::a7::a8::a9::ba::bb::bc::bd::be::bf::bg::bh::bi::bj::bk::bl::bm::bn::bo::bp::bq::br::bs::bt::bu::bv::bw::bx::bz::bA::bB::bC::bD::bE::bF::bG::bH::bI::bJ::bK::bL::bM::bN::bO::bP::bQ::bR::bS::bT::bU::bV::bW::bX::bY::bZ::b0::b1::b2::b3::b4::b5::b6::b7::b8::[]),[]⟩ w:=by
 have HK:=Zk hK;have HX:=Zk hX;have HD:=Zk hD;obtain⟨l0,q0,q1,f0⟩:=hX w (Ai _ _);have cL:Hid (∀W,w.grownBy W (some g)→Dk W g→Calls Tryz.prog 13 #[.pointer (some ⟨g,0,none⟩),.int .i64 (P-1)] W fun e w'=>∃z:Int,e= .returned (.int .i64 z)∧0≤z∧z<P-1∧Dk w' g∧W.grownBy w' (some g)):=Zk (fun W _ hd=>(Cy (P-1) g W hd (by unfold At;omega) (by omega)).mono fun e w' ⟨z,h1,_,h3,h4,h5⟩=>by
  obtain⟨h6,h7⟩:=h3 (by omega);exact⟨z,h1,h6,h7,h4,h5⟩)
 have cK:Hid (w.grownBy w (some g)):=Zk (Ai _ _);have cF:Hid (w.grownBy w.drew (some g)):=Zk (Af (Zb _ w).drew _);have z1:(0:Int)≤(k:Int):=by omega
 have z2:(k:Int)<(n:Int):=by omega
 have z3:(0:Int)≤(c:Int):=by omega
 have z4:(c:Int)<(len:Int):=by omega
 have w1_:IntKind.i64.wrap (x+1)=x+1:=by exact Zi _ (by omega)
 have w2_:IntKind.i64.wrap (P-1)=P-1:=by exact Zi _ (by omega)
 have cO:¬P=0:=by omega
 have cM:Hid (∀z:Int,0≤z→z<P-1→IntKind.i64.wrap (x+1+z)=x+1+z∧(x+1+z).tmod P=(x+1+z)%P∧IntKind.i64.wrap ((x+1+z)%P)=(x+1+z)%P∧0≤(x+1+z)%P∧(x+1+z)%P<P∧(x+1+z)%P≠x):=Zk (fun z h1 h2=>by
  have h3:=Int.emod_nonneg (x+1+z) cO;have h4:=Int.emod_lt_of_pos (x+1+z) (show 0<P by omega);refine⟨by exact Zi _ (by omega),Int.tmod_eq_emod_of_nonneg (by omega),by exact Zi _ (by omega),h3,h4,fun e=> ?_⟩
  by_cases hb:x+1+z<P
  ·rw[Int.emod_eq_of_lt (by omega) hb] at e;omega
  ·have e2:(x+1+z)%P=x+1+z-P:=by
    rw[←Int.sub_emod_right,Int.emod_eq_of_lt (by omega) (by omega)]
   omega)
 have cN:Hid (∀(W:World) (u:Value),w.grownBy W (some g)→(W.setCell ⟨q,c,none⟩ u).cell? ⟨L,k*2+1,none⟩=some (.slice (some ⟨q,0,none⟩) len cap')∧(W.setCell ⟨q,c,none⟩ u).cell? ⟨F,0,none⟩=some (.int .i64 P)):=Zk (fun W u hg=>by
  obtain⟨h1,_,_,h2⟩:=HX.out W hg;exact⟨(World.cell?_of_block (Zo W ⟨q,c,none⟩ L u (by show L≠q;omega))).trans h1,(World.cell?_of_block (Zo W ⟨q,c,none⟩ F u (by show F≠q;omega))).trans h2⟩)
 clear hK hX hD;conv=>arg 2;whnf
 refine wp_region_noPanic ?_;refine wp_region_held_drew (S:=fun w'=>w'.cell? ⟨L,k*2+1,none⟩=some (.slice (some ⟨q,0,none⟩) len cap')∧w'.cell? ⟨F,0,none⟩=some (.int .i64 P)) (by kernel_rfl) ?_ (fun cB=> ?_)
 ·exact⟨l0,f0⟩
 refine wpAnyH_take (i:=0) (v:= ?_) rfl (by kernel_rfl) (by kernel_rfl) (by kernel_rfl) (fun _ _ _ h=>h) (Or.inl ⟨by rfl,?_⟩) (by assumption) ?_
 rotate_left 1
 ·intro w' cA;try dsimp only at cA
  go_simp<;>with_reducible rfl
 try simp only[Act.put,Zz,Zy,Zx]
 refine wpAnyH_take (i:=1) (v:= ?_) rfl (by kernel_rfl) (by kernel_rfl) (by kernel_rfl) (fun _ _ _ h=>h) (Or.inl ⟨by rfl,?_⟩) (by assumption) ?_
 rotate_left 1
 ·intro w' cA;try dsimp only at cA
  go_simp<;>with_reducible rfl
 try simp only[Act.put,Zz,Zy,Zx]
 refine wpAnyH_take (i:=2) (v:= ?_) rfl (by kernel_rfl) (by kernel_rfl) (by kernel_rfl) (fun _ _ _ h=>h) (Or.inl ⟨by rfl,?_⟩) (by assumption) ?_
 rotate_left 1
 ·intro w' cA;try dsimp only at cA
  go_simp<;>with_reducible rfl
 try simp only[Act.put,Zz,Zy,Zx]
 refine wpAnyH_take (i:=3) (v:= ?_) rfl (by kernel_rfl) (by kernel_rfl) (by kernel_rfl) (fun _ _ _ h=>h) (Or.inl ⟨by rfl,?_⟩) (by assumption) ?_
 rotate_left 1
 ·intro w' cA;try dsimp only at cA
  go_simp<;>with_reducible rfl
 try simp only[Act.put,Zz,Zy,Zx]
 refine wpAnyH_take (i:=4) (v:= ?_) rfl (by kernel_rfl) (by kernel_rfl) (by kernel_rfl) (fun _ _ _ h=>h) (Or.inl ⟨by rfl,?_⟩) (by assumption) ?_
 rotate_left 1
 ·intro w' cA;try dsimp only at cA
  go_simp<;>with_reducible rfl
 try simp only[Act.put,Zz,Zy,Zx]
 refine wpAnyH_take (i:=5) (v:= ?_) rfl (by kernel_rfl) (by kernel_rfl) (by kernel_rfl) (fun _ _ _ h=>h) (Or.inl ⟨by rfl,?_⟩) (by assumption) ?_
 rotate_left 1
 ·intro w' cA;try dsimp only at cA
  go_simp<;>with_reducible rfl
 try simp only[Act.put,Zz,Zy,Zx]
 refine wpAnyH_take (i:=6) (v:= ?_) rfl (by kernel_rfl) (by kernel_rfl) (by kernel_rfl) (fun _ _ _ h=>h) (Or.inl ⟨by rfl,?_⟩) (by assumption) ?_
 rotate_left 1
 ·intro w' cA;try dsimp only at cA
  go_simp<;>with_reducible rfl
 try simp only[Act.put,Zz,Zy,Zx]
 refine wpAnyH_take (i:=7) (v:= ?_) rfl (by kernel_rfl) (by kernel_rfl) (by kernel_rfl) (fun _ _ _ h=>h) (Or.inl ⟨by rfl,?_⟩) (by assumption) ?_
 rotate_left 1
 ·intro w' cA;try dsimp only at cA
  go_simp<;>with_reducible rfl
 try simp only[Act.put,Zz,Zy,Zx]
 refine wpAnyH_take (i:=8) (v:= ?_) rfl (by kernel_rfl) (by kernel_rfl) (by kernel_rfl) (fun _ _ _ h=>h) (Or.inl ⟨by rfl,?_⟩) (by assumption) ?_
 rotate_left 1
 ·intro w' cA;try dsimp only at cA
  go_simp<;>with_reducible rfl
 try simp only[Act.put,Zz,Zy,Zx]
 refine wpAnyH_take (i:=9) (v:= ?_) rfl (by kernel_rfl) (by kernel_rfl) (by kernel_rfl) (fun _ _ _ h=>h) (Or.inl ⟨by rfl,?_⟩) (by assumption) ?_
 rotate_left 1
 ·intro w' cA;try dsimp only at cA
  go_simp<;>with_reducible rfl
 try simp only[Act.put,Zz,Zy,Zx]
 refine wpAnyH_take (i:=10) (v:= ?_) rfl (by kernel_rfl) (by kernel_rfl) (by kernel_rfl) (fun _ _ _ h=>h) (Or.inl ⟨by rfl,?_⟩) (by assumption) ?_
 rotate_left 1
 ·intro w' cA;try dsimp only at cA
  go_simp<;>with_reducible rfl
 try simp only[Act.put,Zz,Zy,Zx]
 refine wpAnyH_take (i:=11) (v:= ?_) rfl (by kernel_rfl) (by kernel_rfl) (by kernel_rfl) (fun _ _ _ h=>h) (Or.inl ⟨by rfl,?_⟩) (by assumption) ?_
 rotate_left 1
 ·intro w' cA;try dsimp only at cA
  go_simp<;>with_reducible rfl
 try simp only[Act.put,Zz,Zy,Zx]
 refine wpAnyH_take (i:=12) (v:= ?_) rfl (by kernel_rfl) (by kernel_rfl) (by kernel_rfl) (fun _ _ _ h=>h) (Or.inl ⟨by rfl,?_⟩) (by assumption) ?_
 rotate_left 1
 ·intro w' cA;try dsimp only at cA
  go_simp<;>with_reducible rfl
 try simp only[Act.put,Zz,Zy,Zx]
 refine wpAnyH_take (i:=15) (v:= ?_) rfl (by kernel_rfl) (by kernel_rfl) (by kernel_rfl) (fun _ _ _ h=>h) (Or.inl ⟨by rfl,?_⟩) (by assumption) ?_
 rotate_left 1
 ·intro w' cA;try dsimp only at cA
  go_simp<;>with_reducible rfl
 try simp only[Act.put,Zz,Zy,Zx]
 refine wpAnyH_take (i:=16) (v:= ?_) rfl (by kernel_rfl) (by kernel_rfl) (by kernel_rfl) (fun _ _ _ h=>h) (Or.inl ⟨by rfl,?_⟩) (by assumption) ?_
 rotate_left 1
 ·intro w' cA;try dsimp only at cA
  go_simp<;>with_reducible rfl
 try simp only[Act.put,Zz,Zy,Zx]
 refine wpAnyH_take (i:=17) (v:= ?_) rfl (by kernel_rfl) (by kernel_rfl) (by kernel_rfl) (fun _ _ _ h=>h) (Or.inl ⟨by rfl,?_⟩) (by assumption) ?_
 rotate_left 1
 ·intro w' cA;try dsimp only at cA
  go_simp<;>with_reducible rfl
 try simp only[Act.put,Zz,Zy,Zx]
 refine wpAnyH_take (i:=18) (v:= ?_) rfl (by kernel_rfl) (by kernel_rfl) (by kernel_rfl) (fun _ _ _ h=>h) (Or.inl ⟨by rfl,?_⟩) (by assumption) ?_
 rotate_left 1
 ·intro w' cA;try dsimp only at cA
  go_simp<;>with_reducible rfl
 try simp only[Act.put,Zz,Zy,Zx]
 refine wpAnyH_take (i:=21) (v:= ?_) rfl (by kernel_rfl) (by kernel_rfl) (by kernel_rfl) (fun _ _ _ h=>h) (Or.inl ⟨by rfl,?_⟩) (by assumption) ?_
 rotate_left 1
 ·intro w' cA;try dsimp only at cA
  go_simp<;>with_reducible rfl
 try simp only[Act.put,Zz,Zy,Zx]
 refine wpAnyH_take (i:=22) (v:= ?_) rfl (by kernel_rfl) (by kernel_rfl) (by kernel_rfl) (fun _ _ _ h=>h) (Or.inl ⟨by rfl,?_⟩) (by assumption) ?_
 rotate_left 1
 ·intro w' cA;try dsimp only at cA
  go_simp<;>with_reducible rfl
 try simp only[Act.put,Zz,Zy,Zx]
 refine wpAnyH_ready (rs:=[13,19]) (by kernel_rfl) (by simp) ?_;refine AllReadyH.cons (o:=_) rfl (fun K hK=> ?_) ?_
 ·go_simp;refine hK.out _ _ ?_ (fun cB=> ?_)
  ·exact⟨l0,f0⟩
  clear hK K;try simp only[Act.put,Zz,Zy,Zx]
  refine wpAnyH_take (i:=14) (v:= ?_) rfl (by kernel_rfl) (by kernel_rfl) (by kernel_rfl) (fun _ _ _ h=>h) (Or.inl ⟨by rfl,?_⟩) (by assumption) ?_
  rotate_left 1
  ·intro w' cA;try dsimp only at cA
   go_simp<;>with_reducible rfl
  try simp only[Act.put,Zz,Zy,Zx]
  refine wpAnyH_ready (rs:=[19]) (by kernel_rfl) (by simp) ?_;refine AllReadyH.cons (o:=_) rfl (fun K hK=> ?_) ?_
  ·go_simp;go_at_call 13;refine (cL.out _ (by first|exact cK.out|exact cF.out) (by exact HD.out)).mono ?_;rintro e9 w9 ⟨z,rfl,cI,cJ,cH,cC⟩;have cD:Hid (w.grownBy w9 (some g)):=Zk (⟨cC.os,cC.tape,cC.output,cC.size,cC.block⟩);have cE:=Zk cH;obtain⟨l0,q0,q1,f0⟩:=HX.out w9 cD.out;obtain⟨y1,y2,y3,y4,y5,y6⟩:=cM.out z cI cJ;have cG:=Zk y6;clear cH cC y6
   refine hK.out _ _ ?_ (fun cB=> ?_)
   ·exact⟨l0,f0⟩
   clear hK K;try simp only[Act.put,Zz,Zy,Zx]
   refine wpAnyH_take (i:=20) (v:= ?_) rfl (by kernel_rfl) (by kernel_rfl) (by kernel_rfl) (fun _ _ _ h=>h) (Or.inl ⟨by rfl,?_⟩) (by assumption) ?_
   rotate_left 1
   ·intro w' cA;try dsimp only at cA
    go_simp<;>with_reducible rfl
   try simp only[Act.put,Zz,Zy,Zx]
   refine wpAnyH_take (i:=23) (v:= ?_) rfl (by kernel_rfl) (by kernel_rfl) (by kernel_rfl) (fun _ _ _ h=>h) (Or.inl ⟨by rfl,?_⟩) (by assumption) ?_
   rotate_left 1
   ·intro w' cA;try dsimp only at cA
    go_simp<;>with_reducible rfl
   try simp only[Act.put,Zz,Zy,Zx]
   refine wpAnyH_take (i:=24) (v:= ?_) rfl (by kernel_rfl) (by kernel_rfl) (by kernel_rfl) (fun _ _ _ h=>h) (Or.inl ⟨by rfl,?_⟩) (by assumption) ?_
   rotate_left 1
   ·intro w' cA;try dsimp only at cA
    go_simp<;>with_reducible rfl
   try simp only[Act.put,Zz,Zy,Zx]
   refine wpAnyH_ready (rs:=[25]) (by kernel_rfl) (by simp) ?_;refine AllReadyH.cons (o:=_) rfl (fun K hK=> ?_) ?_
   ·go_simp;refine hK.out _ _ ?_ (fun cB=> ?_)
    ·exact cN.out _ _ cD.out
    clear hK K;try simp only[Act.put,Zz,Zy,Zx]
    refine wpAnyH_done (by kernel_rfl) ?_ _;refine NoPanic.normal ?_;have hk:=HK.out;first
     |exact hk _ _ _ _ _ _ _ _ _ _ _ _ _ _ _ _ _ _ _ _ _ _ _ _ _ ((x+1+z)%P) w9 _ ⟨cD.out,cE.out,y4,y5,cG.out,rfl⟩
     |exact hk _ _ _ _ _ _ _ _ _ _ _ _ _ _ _ _ _ _ _ _ _ _ _ _ _ ((x+1+z)%P) w9.drew _ ⟨Ag cD.out (Af (Zb _ w9).drew _),cE.out,y4,y5,cG.out,rfl⟩
   exact AllReadyH.nil
  exact AllReadyH.nil
 refine AllReadyH.cons (o:=_) rfl (fun K hK=> ?_) ?_
 ·go_simp;go_at_call 13;refine (cL.out _ (by first|exact cK.out|exact cF.out) (by exact HD.out)).mono ?_;rintro e9 w9 ⟨z,rfl,cI,cJ,cH,cC⟩;have cD:Hid (w.grownBy w9 (some g)):=Zk (⟨cC.os,cC.tape,cC.output,cC.size,cC.block⟩);have cE:=Zk cH;obtain⟨l0,q0,q1,f0⟩:=HX.out w9 cD.out;obtain⟨y1,y2,y3,y4,y5,y6⟩:=cM.out z cI cJ;have cG:=Zk y6;clear cH cC y6
  refine hK.out _ _ ?_ (fun cB=> ?_)
  ·exact⟨l0,f0⟩
  clear hK K;try simp only[Act.put,Zz,Zy,Zx]
  refine wpAnyH_ready (rs:=[13]) (by kernel_rfl) (by simp) ?_;refine AllReadyH.cons (o:=_) rfl (fun K hK=> ?_) ?_
  ·go_simp;refine hK.out _ _ ?_ (fun cB=> ?_)
   ·exact⟨l0,f0⟩
   clear hK K;try simp only[Act.put,Zz,Zy,Zx]
   refine wpAnyH_take (i:=14) (v:= ?_) rfl (by kernel_rfl) (by kernel_rfl) (by kernel_rfl) (fun _ _ _ h=>h) (Or.inl ⟨by rfl,?_⟩) (by assumption) ?_
   rotate_left 1
   ·intro w' cA;try dsimp only at cA
    go_simp<;>with_reducible rfl
   try simp only[Act.put,Zz,Zy,Zx]
   refine wpAnyH_take (i:=20) (v:= ?_) rfl (by kernel_rfl) (by kernel_rfl) (by kernel_rfl) (fun _ _ _ h=>h) (Or.inl ⟨by rfl,?_⟩) (by assumption) ?_
   rotate_left 1
   ·intro w' cA;try dsimp only at cA
    go_simp<;>with_reducible rfl
   try simp only[Act.put,Zz,Zy,Zx]
   refine wpAnyH_take (i:=23) (v:= ?_) rfl (by kernel_rfl) (by kernel_rfl) (by kernel_rfl) (fun _ _ _ h=>h) (Or.inl ⟨by rfl,?_⟩) (by assumption) ?_
   rotate_left 1
   ·intro w' cA;try dsimp only at cA
    go_simp<;>with_reducible rfl
   try simp only[Act.put,Zz,Zy,Zx]
   refine wpAnyH_take (i:=24) (v:= ?_) rfl (by kernel_rfl) (by kernel_rfl) (by kernel_rfl) (fun _ _ _ h=>h) (Or.inl ⟨by rfl,?_⟩) (by assumption) ?_
   rotate_left 1
   ·intro w' cA;try dsimp only at cA
    go_simp<;>with_reducible rfl
   try simp only[Act.put,Zz,Zy,Zx]
   refine wpAnyH_ready (rs:=[25]) (by kernel_rfl) (by simp) ?_;refine AllReadyH.cons (o:=_) rfl (fun K hK=> ?_) ?_
   ·go_simp;refine hK.out _ _ ?_ (fun cB=> ?_)
    ·exact cN.out _ _ cD.out
    clear hK K;try simp only[Act.put,Zz,Zy,Zx]
    refine wpAnyH_done (by kernel_rfl) ?_ _;refine NoPanic.normal ?_;have hk:=HK.out;first
     |exact hk _ _ _ _ _ _ _ _ _ _ _ _ _ _ _ _ _ _ _ _ _ _ _ _ _ ((x+1+z)%P) w9 _ ⟨cD.out,cE.out,y4,y5,cG.out,rfl⟩
     |exact hk _ _ _ _ _ _ _ _ _ _ _ _ _ _ _ _ _ _ _ _ _ _ _ _ _ ((x+1+z)%P) w9.drew _ ⟨Ag cD.out (Af (Zb _ w9).drew _),cE.out,y4,y5,cG.out,rfl⟩
   exact AllReadyH.nil
  exact AllReadyH.nil
 exact AllReadyH.nil
open Go.RowKit
def Lo1(ps:List (List Int))(G g:Nat)(w:World)(v iv:Value)(wr:World):Prop:=
 ∃(i:Nat) (pv:Value) (vs:List Value) (rows:List (List Int)),pv=v∧i≤G∧iv= .int .i64 i∧rows=((List.range i).map fun i=>ps.map fun p=>gd p i)∧RW w.heap.size g wr pv vs rows∧Below w.heap.size w wr
def Lo2(ps:List (List Int))(i:Nat)(wq:World)(v iv:Value)(wr:World):Prop:=
 ∃(j:Nat) (pv:Value) (ns:List Int),pv=v∧j≤ps.length∧iv= .int .i64 j∧ns=((ps.take j).map fun p=>gd p i)∧wr.ownsRow wq.heap.size 3 1 pv ns.length (ns.map (Value.int .i64))∧Below wq.heap.size wq wr
theorem Wh(ps:List (List Int))(G g:Nat)(v:Value)(w:World)(hg:g<w.heap.size)(h:SL w v ps)(hG:G≤100)(hz:ps.length≤10000)(hr:∀p∈ps,∀x∈p,At x)(hpl:∀p∈ps,p.length≤1000000):
  Calls Tryz.prog 67 #[v,.int .i64 G] w fun e w'=>∃A c,e= .returned (.slice A G c)∧Below w.heap.size w w'∧SLE g w' (.slice A G c) ((List.range G).map fun i=>ps.map fun p=>gd p i):=by
 obtain⟨A,c,rfl,hc,hm,ha⟩:=h;have HA:=Zk ha;have HR:=Zk hr;have bL:=Zk hpl;clear hpl;obtain⟨n,en⟩:∃n,n=ps.length:=⟨_,rfl⟩;have HN:=Zk en;rw[←en] at hc hz⊢;clear ha hr en;go_enter Tryz.func67,Tryz.ntmps67;go_wp2_with fail;go_loopw [5,11] (fun v iv wr=>Lo1 ps G g w v iv wr) (fun _ iv _=>G- (intOf iv).toNat)
 case atStart=>exact⟨0,_,[],[],rfl,Nat.zero_le _,rfl,rfl,RW.nil _ _ _,Zb _ _⟩
 case round=>
  obtain⟨i,pv,vs,rows,rfl,hi,rfl,aA,aS,hb⟩:=hrel;have aM:=Zk aS;have HB:=Zk hb;have aL:=Zk aA;have hvn:vs.length≤100:=by have h1:=aS.len;rw[aA] at h1;simp at h1;omega
  clear aS hb aA;by_cases hli:i<G
  ·have di:decide (i<G)=true:=Ze hli;obtain⟨wq,rfl⟩:∃wq:World,wq=wr:=⟨_,rfl⟩;have HZ:Hid (w.heap.size≤wq.heap.size):=HB.out.size;go_wp2_with fail;go_loopw [7,16] (fun v iv wr=>Lo2 ps i wq v iv wr) (fun _ iv _=>n- (intOf iv).toNat)
   case atStart=>exact⟨0,_,[],rfl,Nat.zero_le _,rfl,rfl,World.ownsRow_nil _ _ _ _,Zb _ _⟩
   case round=>
    obtain⟨j,qv,ns,rfl,hj,rfl,aR,aH,aJ⟩:=hrel;have HO:=Zk aH;have aU:=Zk aJ;have aY:=Zk aR;have bE:ns.length=j:=by rw[aR];simp;omega
    have HNL:=Zk bE;have hnl':ns.length≤10000:=by have:=HN.out;omega
    have bG:wq.heap.size≤wr.heap.size:=aJ.size;have aI:Hid (Below w.heap.size w wr):=HB.out.trans (aJ.mono HZ.out);clear aH aJ aR bE;by_cases hlj:j<n
    ·have dj:decide (j<n)=true:=Ze hlj;have aK:j<ps.length:=by rw[←HN.out];exact hlj
     obtain⟨b,bP,rfl,bN,aB⟩:=HA.out (by omega);obtain⟨B,d,c1,hs⟩:=aB j aK;have HS:Hid (SI wr (.slice B ps[j].length d) ps[j]):=Zk (hs.below aI.out);have c2:=(aI.out.cell (p:=⟨b,bP+j,none⟩) bN).trans c1;have bM:Hid (At (gd ps[j] i)):=Zk (by
      show At _;by_cases h:i<ps[j].length
      ·rw[Bw h];exact HR.out _ (List.getElem_mem aK) _ (List.getElem_mem h)
      ·rw[Ee (Nat.le_of_not_lt h)];unfold At;omega)
     have aW:Hid (ps[j].length≤1000000):=Zk (bL.out _ (List.getElem_mem aK));have aO:Hid (((ps.take (j+1)).map fun p=>gd p i)=ns++[gd ps[j] i]):=Zk (by
      show _=_;rw[List.take_succ_eq_append_getElem aK,List.map_append,←aY.out];rfl)
     generalize ps[j]=p at HS c2 bM aO aW;obtain⟨x,ex⟩:∃x,x=gd p i:=⟨_,rfl⟩;have HX:=Zk ex;rw[←ex] at aO;obtain⟨lp,aQ⟩:∃l,l=p.length:=⟨_,rfl⟩;rw[←aQ] at HS c2;have aF:=Zk aQ;clear aB c1 hs aQ;go_wp2_with fail;(with_reducible refine (Xs p i _ wr (by have h:=HS.out;rw[aF.out] at h;rw[aF.out];exact h) aW.out).mono ?_)
     rintro e wz ⟨rfl,aT⟩;subst aT;rw[←ex];clear ex;go_wp2_with (at_builtin;refine Bh _ rfl _ _ 22 rfl wq.heap.size 3 Tryz.underlying22 Bi _ ns rfl HO.out x rfl (by omega) bG ?_;intro v3 w3 aC bC;have bJ:=Zk aC;have bI:=Zk bC;clear aC bC);go_roundw
     case rel=>exact⟨j+1,_,ns++[x],rfl,by have:=HN.out;omega,by go_num,aO.out.symm,bJ.out,(aU.out.alloc bG _).grown bI.out (by simp;omega) (fun q hq=>(HO.out.lt q hq).1)⟩
     case measure=>simp[intOf];omega
    ·have dj:decide (j<n)=false:=Zd hlj;have aX:Hid (ns=ps.map fun p=>gd p i):=Zk (by
      have e:ps.take j=ps:=List.take_of_length_le (by have:=HN.out;omega);show _=_;rw[aY.out,e])
     obtain⟨A1,c1,e1⟩:=Dd HO.out;subst e1;have aE:Hid (RW w.heap.size g wr pv vs rows):=Zk (aM.out.below hg (aU.out.mono (Zl _)));have bA:Hid (SX (wr.alloc (.cells #[.slice A1 ns.length c1] 22)) pv.ownBlock (some g) (.slice A1 ns.length c1) ns):=Zk (SX.of_own (HO.out.alloc _) (fun x hx=>by
       rw[aX.out] at hx;obtain⟨p,hp,rfl⟩:=List.mem_map.1 hx;by_cases h:i<p.length
       ·rw[Bw h];exact HR.out p hp _ (List.getElem_mem h)
       ·rw[Ee (Nat.le_of_not_lt h)];unfold At;omega) (fun q hq=>(aM.out.hdr.lt q hq).2) (fun q hq=>by injection hq with e;have:=HZ.out;omega))
     have aT:w.heap.size≤wr.heap.size:=aI.out.size;obtain⟨n1,bB⟩:∃n1,n1=ns.length:=⟨_,rfl⟩;rw[←bB] at bA⊢;clear bB;go_wp2_with (at_builtin;refine Bt _ rfl _ _ 33 rfl w.heap.size 22 (.slice none 0 0) 24 Tryz.underlying33 Ev pv vs.length vs rfl (aE.out.hdr.alloc _) (.slice A1 n1 c1) rfl wr.heap.size rfl (Ba wr [.slice A1 n1 c1] 22 0 _ rfl) (by omega) (by omega) rfl (by simp;omega) ?_;intro g9 aP w9 aD bD aG;have bK:=Zk aD;have aV:=Zk bD;have bH:=Zk aG;clear aD bD aG);have aN:Hid (RW w.heap.size g w9 (.slice (some ⟨g9,0,none⟩) (vs.length+1) aP) (vs++[.slice A1 n1 c1]) (rows++[ns])):=(show Hid _ from
      (aE.out.below hg ((Zb _ wr).alloc (Zl _) _)).app bA.out bK.out aV.out (fun q hq=>by
       have e:g9=q:=by simpa [Value.ownBlock] using hq
       subst e;exact bH.out))
     go_roundw
     case rel=>
      refine⟨i+1,_,_,rows++[ns],rfl,by omega,by go_num,?_,aN.out,?_⟩
      ·rw[aL.out,aX.out,List.range_succ,List.map_append];rfl
      ·exact (aI.out.alloc aT _).grown aV.out (by simp;omega) (fun q hq=>(aE.out.hdr.lt q hq).1)
     case measure=>simp[intOf];omega
  ·have di:decide (i<G)=false:=Zd hli;have bO:G=i:=by omega
   subst bO;have aZ:Hid (SLE g wr pv rows):=Zk (aM.out.sle hg);have bF:rows.length=G:=by rw[aL.out];simp
   obtain⟨A5,c5,e5⟩:=aZ.out.form;rw[bF] at e5;subst e5;clear bF;go_wp2_with fail;go_ret;exact⟨_,_,rfl,HB.out,by rw[←aL.out];exact aZ.out⟩
open Go.RowKit
theorem zCl{P:Int}{need c w:Nat}{R:List Int}{L:List (Bool×List Int)}(hp:prB P=true)(hn32:L.length≤32)(hnP:(L.length:Int)<P)(hk1:1≤need)(hk:need≤knL L)
  (hv:∀j (h:j<L.length),L[j].1=true→L[j].2.length=w∧els P L[j].2=true) (hR:els P R=true∧R.length≤need∧Bf R=R) (hf:(wrk P (kn (Cc L c)) R).length≤(knL L-need)/2):
  UnR P (Cc L c) (need:Int) R 0:=by
 have hP:=Bj hp;refine .inr ⟨zCx hp (by rw[Bp];omega) (by rw[Bp];omega) (fun j hj h1=> ?_) (by omega) (by rw[Uu];omega),.inl ⟨rfl,⟨?_,hR.1,hR.2.2,?_⟩⟩⟩
 ·have aA:j<L.length:=by rw[Bp] at hj;exact hj
  rw[Jf _ _ _ aA] at h1⊢;simp only at h1⊢;rw[if_pos h1];exact Co (Cd hP.1 (hv j aA h1).2 c)
 ·rw[Int.toNat_natCast];exact hR.2.1
 ·rw[Int.toNat_natCast];unfold Fv;rw[Uu];exact hf
theorem Xt{P:Int}{need w:Nat}{L:List (Bool×List Int)}{bad:List Int}{R S:Nat→List Int}(hp:prB P=true)(hn32:L.length≤32)(hnP:(L.length:Int)<P)(hk1:1≤need)(hk:need≤knL L)
  (hv:∀j (h:j<L.length),L[j].1=true→L[j].2.length=w∧els P L[j].2=true) (hR:∀c,els P (R c)=true∧(R c).length≤need∧Bf (R c)=R c) (hRv:∀j c,j<L.length→c<w→val P (R c) ((j:Int)+1)=gd (S j) c) (hS:∀j,(S j).length=w)
  (hinc:inc bad) (hbad:∀x,x∈bad↔∃j,∃h:j<L.length,L[j].1=true∧x=(j:Int)+1∧L[j].2≠S j) (hb:bad.length≤(knL L-need)/2):
  (∀c,c<w→UnR P (Cc L c) (need:Int) (R c) 0)∧∀ps:List (List Int),ps.length=w→(∀c (h:c<ps.length),UnR P (Cc L c) (need:Int) ps[c] 0)→(∀c (h:c<ps.length),ps[c]=R c)∧srt (wrA P L 0 ps)=bad:=by
 have aB:∀c,c<w→UnR P (Cc L c) (need:Int) (R c) 0:=fun c hc=>by
  refine zCl hp hn32 hnP hk1 hk hv (hR c) (Nat.le_trans ?_ hb);have h1:(wrg P (Cc L c) (R c)).length=(wrk P (kn (Cc L c)) (R c)).length:=by unfold wrg;rw[List.length_map]
  rw[←h1];refine Hz _ _ (Xb ..) fun x hx=> ?_
  obtain⟨j,hj,h2,rfl,h3⟩:=Pm.1 hx;refine (hbad _).2 ⟨j,hj,h2,rfl,fun e=>h3 ?_⟩
  rw[hRv j c hj hc,e]
 refine⟨aB,fun ps hl aC=> ?_⟩
 have aA:∀c (h:c<ps.length),ps[c]=R c:=fun c h=>(UnR.uniq (aC c h) (aB c (by omega))).1
 refine⟨aA,Vj hinc fun x=> ?_⟩
 rw[Pi];constructor
 ·rintro⟨c,hc,hx⟩;rw[Nat.zero_add,aA c hc] at hx;obtain⟨j,hj,h2,rfl,h3⟩:=Pm.1 hx;refine (hbad _).2 ⟨j,hj,h2,rfl,fun e=>h3 ?_⟩
  rw[hRv j c hj (by omega),e]
 ·intro hx;obtain⟨j,hj,h2,rfl,h3⟩:=(hbad _).1 hx;have h4:∃c,c<w∧gd L[j].2 c≠gd (S j) c:=by
   refine Classical.byContradiction fun hn=>h3 (Cb (by rw[hS,(hv j hj h2).1]) fun c hc=> ?_)
   refine Classical.byContradiction fun h5=>hn ⟨c,by rw[(hv j hj h2).1] at hc;exact hc,h5⟩
  obtain⟨c,hc,h5⟩:=h4;refine⟨c,by omega,?_⟩;rw[Nat.zero_add,aA c (by omega)];exact Pm.2 ⟨j,hj,h2,rfl,by rw[hRv j c hj hc];exact fun e=>h5 e.symm⟩
open Go.RowKit
def DgR(P:Int)(n t G:Nat)(width:Int)(l:List (Bool×List Int))(rows:List (List Int))(wr:List Int)(er:Int):Prop:=
 (ckE P width n ((2*G+t-1:Nat):Int) l≠0∧er=ckE P width n ((2*G+t-1:Nat):Int) l∧rows=[]∧wr=[])∨(ckE P width n ((2*G+t-1:Nat):Int) l=0∧
  ((AlN P ((2*G+t-1:Nat):Int) l width.toNat∧er=12∧rows=[]∧wr=[])∨(∃ps,AlR P ((2*G+t-1:Nat):Int) l width.toNat ps wr∧rows=((List.range G).map fun i=>ps.map fun p=>gd p i)∧er=0)))
def gOut(G w:Nat)(table:List (List Int))(want:Nat):List (List Int):=(List.range G).map fun i=>(List.range w).map fun c=>gd (gr table (want*G+i)) c
theorem Yt{P:Int}{n t G w ng want:Nat}{D:List Int}{table:List (List Int)}{L:List (Bool×List Int)}{bad wr:List Int}{rows:List (List Int)}{er:Int}(hp:prB P=true)(hn10:n≤10)(hnP:(n:Int)<P)(ht1:1≤t)(hG1:1≤G)
  (hwant:want<ng) (hng:ng*G<table.length+G) (hrw:∀r∈table,r.length=w∧els P r=true) (hw:w≤64) (hL:L.length=n) (hk:2*G+t-1≤knL L) (hv:∀j (h:j<L.length),L[j].1=true→L[j].2.length=w∧els P L[j].2=true)
  (hinc:inc bad) (hbad:∀x,x∈bad↔∃j,∃h:j<L.length,L[j].1=true∧x=(j:Int)+1∧L[j].2≠cmb P (Ds P want D t G j ng) (Ca P table ((j:Int)+1) w G ng) w) (hb:bad.length≤(knL L- (2*G+t-1))/2)
  (hD:DgR P n t G w L rows wr er):er=0∧rows=gOut G w table want∧wr=bad:=by
 have hP:=Bj hp;have aN:wdB w L=true:=by
  unfold wdB;exact Hr fun j hj=>by
   cases h:L[j].1 with
   |false=>rfl
   |true=>have h2:=(hv j hj h).1;simp;omega
 have aF:elB P L=true:=by
  unfold elB;exact Hr fun j hj=>by
   cases h:L[j].1 with
   |false=>rfl
   |true=>simp;exact (hv j hj h).2
 have aD:ckE P w n ((2*G+t-1:Nat):Int) L=0:=by
  unfold ckE;rw[if_neg (by omega),if_neg (by omega),aN,if_neg (by simp),aF,if_neg (by simp),if_neg (by omega)]
 obtain⟨aM,aJ⟩:=Xt (P:=P) (need:=2*G+t-1) (w:=w) (L:=L) (bad:=bad) (R:=fun c=>Gc P want D t G table c ng) (S:=fun j=>cmb P (Ds P want D t G j ng) (Ca P table ((j:Int)+1) w G ng) w) hp (by omega) (by omega) (by omega) hk hv
  (fun c=>⟨zFy hP.1 ..,zFz _ _ _ _ _ _ ht1 hG1,Wx _⟩) (fun j c _ hc=>zGb hP.1 (fun r hr=>(hrw r hr).1) hc hng) (fun j=>Ep ..) hinc hbad hb
 rcases hD with⟨h,_⟩|⟨_,h⟩
 ·exact absurd aD h
 rcases h with⟨⟨c,hc,o,e,h1,h2⟩,_⟩|⟨ps,aB,aA,aG⟩
 ·rw[Int.toNat_natCast] at hc;exact absurd (UnR.uniq h1 (aM c hc)).2 h2
 ·rw[Int.toNat_natCast] at aB;obtain⟨hl,aK,aO⟩:=aB;obtain⟨aI,aL⟩:=aJ ps hl aK;refine⟨aG,?_,by rw[aO,aL]⟩;rw[aA];unfold gOut;refine List.map_congr_left fun i hi=> ?_
  have aH:i<G:=List.mem_range.1 hi;refine Cb (by simp[hl]) fun c hc=> ?_
  have aC:c<ps.length:=by simpa using hc
  have e:gd (ps.map fun p=>gd p i) c=gd ps[c] i:=by
   unfold gd;rw[List.getElem?_map,List.getElem?_eq_getElem aC];rfl
  rw[e,aI c aC];show gd (Gc P want D t G table c ng) i=_;have e3:gd ((List.range w).map fun q=>gd (gr table (want*G+i)) q) c=gd (gr table (want*G+i)) c:=by
   have aE:c<w:=by omega
   unfold gd;rw[List.getElem?_map,List.getElem?_range aE];rfl
  rw[zGa hP.1 aH hwant (fun r hr=>(hrw r hr).2),e3]
open Go.RowKit Go.Shelf
theorem Wr(rows:List (List Int))(v:Value)(w:World)(h:SL w v rows):
  Calls Tryz.prog 29 #[v] w fun e w'=>∃b,e= .returned (.bool b)∧w=w':=by
 have aF:rows.length≤9223372036854775807:=by
  obtain⟨_,_,_,h1,h2,_⟩:=h;omega
 obtain⟨A,c,rfl,aB⟩:=h.at
 have aC:=Zk aB
 clear h aB
 obtain⟨nr,aA⟩:∃nr,nr=rows.length:=⟨_,rfl⟩;rw[←aA] at aF⊢;have aD:=Zk aA;clear aA;go_enter Tryz.func29,Tryz.ntmps29;go_wp2_with fail;go_loopw [3,8] (fun sv iv wr=>∃(j:Nat) (s:Int),j≤nr∧iv= .int .i64 j∧sv= .int .i64 s∧w=wr) (fun _ iv _=>nr- (intOf iv).toNat)
 case atStart=>exact⟨0,0,Nat.zero_le _,rfl,rfl,rfl⟩
 case round=>
  obtain⟨j,s,hj,rfl,rfl,hw⟩:=hrel;subst hw;by_cases hlt:j<nr
  ·have dj:decide ((j:Int)<(nr:Int))=true:=Ze (by omega);have aE:decide (j<nr)=true:=Ze hlt;obtain⟨bh,oh,B,d,eA,hW⟩:=aC.out j (by rw[←aD.out];exact hlt);subst eA;obtain⟨cj,_⟩:=hW w (Zb _ _);have z0:(0:Int)≤(j:Int):=by omega
   have z1:(j:Int)<(nr:Int):=by omega
   have wj:IntKind.i64.wrap ((j:Int)+1)=(j:Int)+1:=by exact Zi _ (by omega)
   clear hW;go_wp2_with fail;go_roundw
   case rel=>
    refine⟨j+1,_,by omega,by go_num,rfl,?_⟩;first|rfl|trivial
   case measure=>simp[intOf];omega
  ·have dj:decide ((j:Int)<(nr:Int))=false:=Zd (by omega);have aE:decide (j<nr)=false:=Zd hlt;go_wp2_with fail;go_ret;exact⟨_,rfl,rfl⟩
end Go.Proofs.YtoiabanpnkpbhaaGreatDoor
