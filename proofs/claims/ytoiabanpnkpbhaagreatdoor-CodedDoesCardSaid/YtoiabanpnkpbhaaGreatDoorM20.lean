/- Parts. -/
import Derived.Maps.OwnIn
import Derived.Test.YtoiabanpnkpbhaaGreatDoorM19
set_option linter.unusedVariables false
set_option linter.unusedSimpArgs false
set_option maxRecDepth 100000
set_option maxHeartbeats 4000000
namespace Go.Proofs.YtoiabanpnkpbhaaGreatDoor
open Go.RowKit Go.Shelf
attribute [local go_sem] Oper.semAt_some
theorem zHu:(Tryz.prog.info? 114).map (fun i=>(i.zero,i.size,i.bytes))=some (some (.agg #[.int .i64 0,.int .i64 0]),2,16):=by kernel_rfl
def shs(l:List (Int×Bool))(pre:List (Fin (kn l).length)):List (Int×Int):=pre.map fun j=>(kn l)[j]
theorem Pc(l:List (Int×Bool))(pre:List (Fin (kn l).length)):(shs l pre).length=pre.length:=List.length_map _
theorem Rq(l:List (Int×Bool))(pre:List (Fin (kn l).length))(j:Fin (kn l).length):shs l (pre++[j])=shs l pre++[(kn l)[j]]:=by simp[shs]
theorem Vi(l:List (Int×Bool))(k:Nat)(h:k≤(kn l).length):shs l (upA (kn l).length k)=(kn l).take k:=by
 induction k with
 |zero=>simp[shs,upA]
 |succ k ih=>rw[Gd (by omega),Rq,ih (by omega),List.take_succ_eq_append_getElem (by omega)];rfl
theorem Ga{w w':World}{base e size n:Nat}{v:Value}{xs:List Value}{row:Option Nat}(h:w.ownsRow base e size v n xs)(hg:w.grownBy w' row)(hr:∀r,row=some r→∃o:Obj,w.heap[r]? =some o∧o.isCells=false):w'.ownsRow base e size v n xs:=by
 refine h.kept hg ?_;rcases h.2 with⟨rfl,_⟩|⟨g,cap,cur,rfl,hb,aA,_⟩
 ·exact .inl rfl
 ·refine .inr fun e=> ?_
  obtain⟨o,ho,hc⟩:=hr g e.symm;rw[aA] at ho
  cases ho
  cases hc
theorem Ch{w:World}{base e size n:Nat}{v:Value}{xs:List Value}(h:w.ownsRow base e size v n xs):∃A c,v= .slice A n c:=by
 rcases h.2 with⟨rfl,rfl⟩|⟨g,cap,cur,rfl,_⟩
 ·exact⟨_,_,rfl⟩
 ·exact⟨_,_,rfl⟩
theorem Vc{w:World}{base e size n g:Nat}{v:Value}{xs:List Value}(h:w.ownsRow base e size v n xs)(hg:v.ownBlock=some g):∃o:Obj,w.heap[g]? =some o∧o.isCells=true:=by
 rcases h.2 with⟨rfl,_⟩|⟨g',cap,cur,rfl,hb,aA,_⟩
 ·cases hg
 ·cases hg;exact⟨_,aA,rfl⟩
theorem Nk{W Wa W3:World}{base e size n B:Nat}{v:Value}{xs:List Value}{o:Obj}(ea:Wa=W.alloc o)(h:W.ownsRow base e size v n xs)(hg:Wa.grownBy W3 v.ownBlock):KeepsFrom B W W3:=by
 subst ea;have h1:W.heap.size≤(W.alloc o).heap.size:=by simp
 refine⟨Nat.le_trans h1 hg.size,fun k o' _ hk hc=> ?_⟩
 have aA:=(Array.getElem?_eq_some_iff.1 hk).1;rw[hg.block k (by omega) (fun e=> ?_),((Zb _ W).alloc (Zl _) o).block k aA]
 ·exact hk
 ·obtain⟨o2,h2,h3⟩:=Vc h e.symm;rw[hk] at h2
  cases h2;rw[hc] at h3
  cases h3
theorem Rb{w:World}{base e size n:Nat}{v u:Value}{xs:List Value}{p:Addr}(h:w.ownsRow base e size v n xs)(hp:p.block<base):(w.setCell p u).ownsRow base e size v n xs:=by
 refine⟨h.1,?_⟩;rcases h.2 with hn|⟨g,aA,aB,rfl,hb,aC,rest⟩
 ·exact .inl hn
 ·refine .inr ⟨g,aA,aB,rfl,hb,?_,rest⟩;rw[←aC];have aD:¬p.block=g:=by omega
  simp[World.setCell,Array.getElem?_modify,aD]
def FO(w W:World)(k:Int)(sh:List (Int×Int))(v:Value):Prop:=W.cell? ⟨w.heap.size,0,none⟩=some (.int .i64 k)∧W.cell? ⟨w.heap.size+1,0,none⟩=some v∧W.frozen? ⟨w.heap.size+1,0,none⟩=false∧
 W.ownsRow (w.heap.size+2) 114 2 v sh.length ((sh.flatMap pcs).map (Value.int .i64))∧w.heap.size+2≤W.heap.size
theorem FO.kept{w A B:World}{k:Int}{sh:List (Int×Int)}{v:Value}{row:Option Nat}(h:FO w A k sh v)(hg:A.grownBy B row)(hr:∀r,row=some r→∃o:Obj,A.heap[r]? =some o∧o.isCells=false):FO w B k sh v:=
 ⟨cell_kept h.1 hg hr,cell_kept h.2.1 hg hr,(frozen_kept h.2.1 hg hr).trans h.2.2.1,Ga h.2.2.2.1 hg hr,Nat.le_trans h.2.2.2.2 hg.size⟩
theorem Yk(l:List (Int×Bool))(k:Nat)(v:Value)(w:World)(hk:1≤k)(hkl:k≤(kn l).length)(h:SCl w v l)(hz:l.length≤1000000):
  CallsIn Fence.wide 8 Tryz.prog 145 #[v,.int .i64 k] w fun e w'=>∃v',e= .returned v'∧w'.ownsRow (w.heap.size+2) 114 2 v' ((kn l).take k).length ((((kn l).take k).flatMap pcs).map (Value.int .i64))∧Below w.heap.size w w':=by
 have HS:=Zk h;obtain⟨A,c,rfl⟩:=h.form;clear h;obtain⟨i0,aV,aW,aX,aY⟩:=info_parts zHu;have hknl:(kn l).length≤l.length:=Ft l 0;refine callsIn_of_wp_marks Tryz.func145 rfl trivial ?_ rfl;simp only[Tryz.ntmps145,List.size_toArray,List.length_cons,List.length_nil,Nat.reduceAdd,Nat.reduceSub,Array.replicate_succ,Array.replicate_zero,List.push_toArray,List.append_toArray,List.nil_append,List.cons_append]
 gi_upto_region 2 with fail
 obtain⟨w0,ew⟩:∃w0:World,w0=(w.alloc (.cells #[.int .i64 k] 3)).alloc (.cells #[.slice none 0 0] 112):=⟨_,rfl⟩;have aO:Below w.heap.size w w0:=by rw[ew];exact ((Zb _ _).alloc (Zl _) _).alloc (by simp) _
 have aS:w.heap.size+1<w0.heap.size:=by rw[ew];simp
 have b0:w0.cell? ⟨w.heap.size,0,none⟩=some (.int .i64 k):=by rw[ew];simp[go_sem]
 have b1:w0.cell? ⟨w.heap.size+1,0,none⟩=some (.slice none 0 0):=by rw[ew];simp[go_sem]
 have b2:w0.frozen? ⟨w.heap.size+1,0,none⟩=false:=by rw[ew];simp[go_sem]
 rw[←ew];clear ew;gi_wp2_with fail
 refine⟨trivial,(callsIn_wide.2 (Nv _ _ _ _)).mono ?_⟩;rintro e w' ⟨rfl,rfl⟩;gi_wp2_with fail
 obtain⟨W0,eW⟩:∃W0:World,W0=w0.alloc (.cells #[.slice A l.length c] 138):=⟨_,rfl⟩;have aJ:Below w0.heap.size w0 W0:=by rw[eW];exact (Zb _ _).alloc (Zl _) _
 have bC:w0.heap.size<W0.heap.size:=by rw[eW];simp
 have cS:W0.cell? ⟨w0.heap.size,0,none⟩=some (.slice A l.length c):=by rw[eW];exact Zc _ _ 0 _ _ (0,0) (Zh w0 _)
 have aL:=aO.trans (aJ.mono aO.size);have aI:FO w W0 k (shs l []) (.slice none 0 0):=⟨(aJ.cell (p:=⟨w.heap.size,0,none⟩) (by show w.heap.size<_;omega)).trans b0,(aJ.cell (p:=⟨w.heap.size+1,0,none⟩) aS).trans b1,
  (aJ.frozen (p:=⟨w.heap.size+1,0,none⟩) aS).trans b2,World.ownsRow_nil _ _ _ _,by omega⟩
 rw[←eW];clear eW b0 b1 b2;refine wpIn_rangeFunc_ownG rfl (by omega) (gf:=153) (lb:= #[.pointer (some ⟨w0.heap.size,0,none⟩)]) rfl trivial (enters_of Tryz.func153 (by kernel_rfl) rfl)
  (Qq 7 (by omega) w0.heap.size (fun b=>b<w.heap.size) l A c hz W0 (fun k hk=>by omega) bC cS
   (fun h0=>by
    obtain⟨A',c',e,_,_,_,ha⟩:=HS.out;injection e with e1 e2 e3;subst e1;obtain⟨b,aN,e,hb,hc⟩:=ha h0;exact⟨b,aN,e,hb,fun j hj=>⟨(aL.cell (p:=⟨b,aN+j*2,none⟩) hb).trans (hc j hj).1,(aL.cell (p:=⟨b,aN+j*2+1,none⟩) hb).trans (hc j hj).2⟩⟩))
  Il (zCd (fun k hk=>by omega)) (Zb _ _) (fun _=>rfl)
  (fun pre W=>((∃v,FO w W k (shs l pre) v)∧pre.length≤k∧W0.heap.size≤W.heap.size)∧Below w.heap.size w W)
  (fun c pre W=>(c= .exit 0∧(∃v,FO w W k (shs l pre.dropLast) v)∧pre.length=k+1)∧Below w.heap.size w W)
  (OwnFrom.and (Own.from (fun s A B row hs hg hr=>⟨hs.1.imp fun v hv=>hv.kept hg hr,hs.2.1,Nat.le_trans hs.2.2 hg.size⟩) _) (ownFrom_below (Zl _) (by omega)))
  (fun c=>OwnFrom.and (Own.from (fun s A B row hs hg hr=>⟨hs.1,hs.2.1.imp fun v hv=>hv.kept hg hr,hs.2.2⟩) _) (ownFrom_below (Zl _) (by omega)))
  ⟨⟨⟨_,aI⟩,Nat.zero_le _,Zl _⟩,aL⟩
  (fun j=>{tmps:= #[.slice A l.length c,.int .i64 k,undef,.pointer (some ⟨w.heap.size,0,none⟩),.slice none 0 0,.pointer (some ⟨w.heap.size+1,0,none⟩),.int .i64 (kn l)[j].1,.int .i64 (kn l)[j].2,.slice A l.length c,.func (.func 153) #[] #[.pointer (some ⟨w0.heap.size,0,none⟩)],.int .i64 (kn l)[j].1,.int .i64 (kn l)[j].2,undef,undef,undef,undef,undef,undef,undef,undef,undef,undef,undef],defers:=[]}) ?assign ?body ?done ?stop
 case assign=>
  intro lr x W K hK
  gi_wp2
  exact hK
 case body=>
  rintro lr pre j W ⟨⟨⟨v,aD⟩,aH,bD⟩,hB⟩ hpl;obtain⟨p0,p1,r1,aA,aM⟩:=aD;have aK:=Zk (Rq l pre j);have aR:=Pc l pre;simp only[Fin.getElem_fin] at aK⊢;generalize (kn l)[j.1]=t at aK⊢;clear aI cS;rw[aR] at aA;obtain⟨Av,cv,rfl⟩:=Ch aA;have HO:=Zk aA;have aQ:∀g,(Value.slice Av pre.length cv).ownBlock=some g→w.heap.size+2≤g:=fun g e=>(HO.out.lt g e).1
  have aE:=Zk aQ;clear aR aA aQ;by_cases he:pre.length=k
  ·have hd:((pre.length:Int)==(k:Int))=true:=by rw[he];simp
   gi_wp2_with fail
   exact⟨KeepsFrom.refl _ _,⟨rfl,⟨_,by rw[List.dropLast_concat];exact⟨p0,p1,r1,by rw[Pc];exact HO.out,aM⟩⟩,by simp;omega⟩,hB⟩
  ·have hd:((pre.length:Int)==(k:Int))=false:=by simp;omega
   gi_wp2_with (gi_at_builtin;refine wpListIn_append_own_at _ rfl _ _ 112 rfl (w.heap.size+2) 114 i0 _ 2 16 Tryz.underlying112 aV aW aX aY rfl (by omega) _ _ _ rfl (HO.out.alloc _) ⟨W.heap.size,0,none⟩ 1 1 (List.map (Value.int .i64) (pcs t)) rfl rfl ?c1 ?c2 ?c3 ?c4 ?c5 ?_)
   case c1=>exact Ba W _ _
   case c2=>intro u hu;simp[pcs] at hu;rcases hu with rfl|rfl<;>rfl
   case c3=>unfold maxLen;omega
   case c4=>omega
   case c5=>simp;omega
   intro v3 w3 aB aP _ _;obtain⟨A3,c3,rfl⟩:=Ch aB;obtain⟨Wa,aF⟩:∃Wa:World,Wa=W.alloc (.cells (List.map (Value.int .i64) (pcs t)).toArray 114):=⟨_,rfl⟩;have aC:Wa.grownBy w3 (Value.slice Av pre.length cv).ownBlock:=by rw[aF];exact aP
   have bB:KeepsFrom W0.heap.size W w3:=Nk aF HO.out aC;have hza:W.heap.size<Wa.heap.size:=by rw[aF];simp
   have aG:Below W.heap.size W Wa:=by rw[aF];exact (Zb _ _).alloc (Zl _) _
   have hz3:=aC.size;have q0:w3.cell? ⟨w.heap.size,0,none⟩=some (.int .i64 k):=(aC.cell_far ⟨w.heap.size,0,none⟩ (by show w.heap.size<_;omega) (fun e=>by have h5:w.heap.size+2≤w.heap.size:=aE.out _ e.symm;omega)).trans ((aG.cell (p:=⟨w.heap.size,0,none⟩) (by show w.heap.size<_;omega)).trans p0)
   have q1:w3.cell? ⟨w.heap.size+1,0,none⟩=some (.slice Av pre.length cv):=(aC.cell_far ⟨w.heap.size+1,0,none⟩ (by show w.heap.size+1<_;omega) (fun e=>by have h5:w.heap.size+2≤w.heap.size+1:=aE.out _ e.symm;omega)).trans ((aG.cell (p:=⟨w.heap.size+1,0,none⟩) (by show w.heap.size+1<_;omega)).trans p1)
   have s1:w3.frozen? ⟨w.heap.size+1,0,none⟩=false:=(aC.frozen_far ⟨w.heap.size+1,0,none⟩ (by show w.heap.size+1<_;omega) (fun e=>by have h5:w.heap.size+2≤w.heap.size+1:=aE.out _ e.symm;omega)).trans ((aG.frozen (p:=⟨w.heap.size+1,0,none⟩) (by show w.heap.size+1<_;omega)).trans r1)
   have aU:Below w.heap.size w w3:=(hB.trans (aG.mono hB.size)).grown aC (by omega) (fun g e=>by have:=aE.out _ e;omega)
   have bA:KB (fun b=>b<w.heap.size) W w3:=Il (KB.of aG (fun b hb=>by omega)) (KB.grown aC (fun b hb=>⟨by omega,fun e=>by have:=aE.out _ e.symm;omega⟩))
   clear aP aC aF p0 p1 r1;have aT:=Zk aB;clear aB;gi_wp2_with fail
   have aZ:KB (fun b=>b<w.heap.size) w3 (w3.setCell ⟨w.heap.size+1,0,none⟩ (.slice A3 (pre.length+1) c3)):=⟨by simp[World.setCell],fun p hp=>World.cell?_setCell_other _ _ _ _ (fun e=>by rw[←e] at hp;have h5:w.heap.size+1<w.heap.size:=hp;omega)⟩
   have hs3:w3.heap.size≤(w3.setCell ⟨w.heap.size+1,0,none⟩ (.slice A3 (pre.length+1) c3)).heap.size:=by simp[World.setCell]
   refine⟨bB.trans ((KeepsOthers.setCell _ _ _).from _),Il bA aZ,⟨⟨_,Hl q0 (by show w.heap.size+1≠w.heap.size;omega),World.cell?_setCell_same _ _ _ q1,by rw[World.frozen?_setCell];exact s1,?_,by omega⟩,by simp;omega,by omega⟩,aU.setCell (p:=⟨w.heap.size+1,0,none⟩) (by show w.heap.size≤w.heap.size+1;omega) _⟩;rw[aK.out,List.length_append,Pc,List.flatMap_append,List.map_append];refine Rb ?_ (by show w.heap.size+1<_;omega);have:=aT.out;simpa using this
 case done=>
  rintro D ys W hD rfl ⟨⟨⟨v,aD⟩,aH,bD⟩,hB⟩ hK;rw[Fi (Zl _)] at aH;obtain rfl:k=(kn l).length:=by omega
  rw[Vi l _ (Zl _)] at aD;obtain⟨p0,p1,r1,aA,aM⟩:=aD;have HO:=Zk aA;clear aI cS aA;gi_wp2_with fail
  refine⟨by simp,.inl ⟨_,_,rfl,run_takeDeferred hK,?_⟩⟩;exact⟨_,results_tmp rfl _ _ _,_,rfl,Ga HO.out (grownBy_putObj' W D (.deferred none)) (fun r e=>by cases e;exact⟨_,hK,rfl⟩),hB.trans (belowK_b (w:=w) (Zl _) W D _ _ (by omega) hK rfl rfl)⟩
 case stop=>
  rintro D c pre W hD ⟨m,hm,rfl⟩ ⟨⟨rfl,⟨v,aD⟩,aH⟩,hB⟩ hK;rw[Fi hm] at aH;subst aH;rw[Gd (by omega),List.dropLast_concat,Vi l _ hkl] at aD;obtain⟨p0,p1,r1,aA,aM⟩:=aD;have HO:=Zk aA;clear aI cS aA;gi_wp2_with fail
  refine⟨by simp,.inl ⟨_,_,rfl,run_takeDeferred hK,?_⟩⟩;exact⟨_,results_tmp rfl _ _ _,_,rfl,Ga HO.out (grownBy_putObj' W D (.deferred none)) (fun r e=>by cases e;exact⟨_,hK,rfl⟩),hB.trans (belowK_b (w:=w) (Zl _) W D _ _ (by omega) hK rfl rfl)⟩
theorem Vv(l:List (Int×Bool))(k:Nat)(v:Value)(w:World)(hk:1≤k)(hkl:k≤(kn l).length)(h:SCl w v l)(hz:l.length≤1000000):
  Calls Tryz.prog 145 #[v,.int .i64 k] w fun e w'=>∃v',e= .returned v'∧w'.ownsRow (w.heap.size+2) 114 2 v' ((kn l).take k).length ((((kn l).take k).flatMap pcs).map (Value.int .i64))∧Below w.heap.size w w':=
 callsIn_wide.1 (Yk l k v w hk hkl h hz)
open Go.RowKit Go.Shelf
attribute [local go_sem] Oper.semAt_some
def fiE(P:Int)(l:List (Int×Bool))(k:Int):Int:=if ceE P l=0 then (if k<1∨(l.length:Int)<k then 1 else if ((kn l).length:Int)<k then 11 else inE P ((kn l).take k.toNat)) else ceE P l
def fiP(P:Int)(l:List (Int×Bool))(k:Int):List Int:=if ceE P l=0∧¬(k<1∨(l.length:Int)<k)∧¬((kn l).length:Int)<k then inP P ((kn l).take k.toNat) else []
theorem Ui{P:Int}{l:List (Int×Bool)}{k:Int}(h:ceE P l≠0):fiE P l k=ceE P l∧fiP P l k=[]:=⟨if_neg h,if_neg fun e=>h e.1⟩
theorem Yi{P:Int}{l:List (Int×Bool)}{k:Int}(h:ceE P l=0)(h2:k<1∨(l.length:Int)<k):fiE P l k=1∧fiP P l k=[]:=by
 refine⟨?_,if_neg fun e=>e.2.1 h2⟩
 unfold fiE;rw[if_pos h,if_pos h2]
theorem Yh{P:Int}{l:List (Int×Bool)}{k:Int}(h:ceE P l=0)(h2:¬(k<1∨(l.length:Int)<k))(h3:((kn l).length:Int)<k):fiE P l k=11∧fiP P l k=[]:=by
 refine⟨?_,if_neg fun e=>e.2.2 h3⟩
 unfold fiE;rw[if_pos h,if_neg h2,if_pos h3]
theorem zFn{P:Int}{l:List (Int×Bool)}{k:Int}(h:ceE P l=0)(h2:¬(k<1∨(l.length:Int)<k))(h3:¬((kn l).length:Int)<k):fiE P l k=inE P ((kn l).take k.toNat)∧fiP P l k=inP P ((kn l).take k.toNat):=by
 refine⟨?_,if_pos ⟨h,h2,h3⟩⟩;unfold fiE;rw[if_pos h,if_neg h2,if_neg h3]
theorem zGu{w:World}{v:Value}{l:List (Int×Bool)}(h:SCl w v l)(hz:l.length≤1000000):∀t∈kn l,At t.1∧At t.2:=by
 have hz':=hz;obtain⟨A,c,rfl,_,_,hr,_⟩:=h;intro t ht;have h1:=Uw ht;refine⟨by unfold At;omega,?_⟩;have aA:∀(m:List (Int×Bool)) (i:Nat),(∀x∈m,At x.1)→∀t∈knF i m,At t.2:=by
  intro m;induction m with
  |nil=>intro i _ t h;simp[knF] at h
  |cons c m ih=>
   intro i hm t h;simp only[knF,List.mem_append] at h;rcases h with h|h
   ·split at h
    ·simp at h;subst h;exact hm c (by simp)
    ·simp at h
   ·exact ih (i+1) (fun x hx=>hm x (by simp[hx])) t h
 exact aA l 0 hr t ht
theorem fi_sg{w2:World}{l:List (Int×Bool)}{m base:Nat}{e:TypeId}{v2:Value}(hown2:w2.ownsRow base e 2 v2 ((kn l).take m).length ((((kn l).take m).flatMap pcs).map (Value.int .i64)))(hr:∀t∈kn l,At t.1∧At t.2):SG pcs 2 w2.heap.size w2 v2 ((kn l).take m):=
 SG.of_own hown2 (fun x hx y hy=>by
  have aA:=hr x (List.mem_of_mem_take hx);simp[pcs] at hy;rcases hy with rfl|rfl
  ·exact aA.1
  ·exact aA.2) (fun _ _=>rfl)
theorem Qe(P:Int)(l:List (Int×Bool))(k:Int)(v:Value)(w:World)(hP:At P)(h:SCl w v l)(hz:l.length≤1000000):
  Calls Tryz.prog 125 #[.agg #[.int .i64 P],v,.int .i64 k] w fun e w'=>∃v',e= .returned (.tuple #[v',.int .i64 (fiE P l k)])∧w'.ownsRow w.heap.size 3 1 v' (fiP P l k).length ((fiP P l k).map (Value.int .i64))∧Below w.heap.size w w':=by
 have HS:=Zk h;obtain⟨A,c,rfl⟩:=h.form;clear h;go_enter Tryz.func125,Tryz.ntmps125;go_upto_region 1 with fail
 obtain⟨w0,ew⟩:∃w0:World,w0=w.alloc (.cells #[.int .i64 P] 31):=⟨_,rfl⟩;have aF:Below w.heap.size w w0:=by rw[ew];exact (Zb _ _).alloc (Zl _) _
 have hz0:w.heap.size<w0.heap.size:=by rw[ew];simp
 have b0:w0.cell? ⟨w.heap.size,0,none⟩=some (.int .i64 P):=by rw[ew];simp[go_sem]
 rw[←ew];clear ew;have aI:=Zk (HS.out.below aF);go_wp2_with fail;(with_reducible refine (Vs P l _ _ hP aI.out hz).mono ?_)
 rintro e w1 ⟨rfl,aD⟩;have aA:=aF.trans (aD.mono aF.size);have hz1:=aD.size;have c0:=(aD.cell (p:=⟨w.heap.size,0,none⟩) (by show w.heap.size<_;omega)).trans b0;clear b0;generalize ceP P l=cp;by_cases h0:ceE P l=0
 ·have aJ:ceN P l=(kn l).length:=if_pos h0;have H0:=Zk h0;rw[h0,aJ];clear h0 aJ;by_cases h1:k<1∨(l.length:Int)<k
  ·have HE:=Zk (Yi H0.out h1);by_cases h3:k<1
   ·have aH:decide (k<1)=true:=Ze h3;go_wp2_with fail;go_ret2;exact⟨.slice none 0 0,by rw[HE.out.1]<;>rfl,by rw[HE.out.2];exact World.ownsRow_nil _ _ _ _,aA⟩
   ·have aH:decide (k<1)=false:=Zd h3;have aK:decide ((l.length:Int)<k)=true:=Ze (by omega);go_wp2_with fail;go_ret2;exact⟨.slice none 0 0,by rw[HE.out.1]<;>rfl,by rw[HE.out.2];exact World.ownsRow_nil _ _ _ _,aA⟩
  ·by_cases h2:((kn l).length:Int)<k
   ·have HE:=Zk (Yh H0.out h1 h2);have aH:decide (k<1)=false:=Zd (by omega);have aK:decide ((l.length:Int)<k)=false:=Zd (by omega);have aO:decide (((kn l).length:Int)<k)=true:=Ze h2;go_wp2_with fail;go_ret2;exact⟨.slice none 0 0,by rw[HE.out.1]<;>rfl,by rw[HE.out.2];exact World.ownsRow_nil _ _ _ _,aA⟩
   ·have HE:=Zk (zFn H0.out h1 h2);have aH:decide (k<1)=false:=Zd (by omega);have aK:decide ((l.length:Int)<k)=false:=Zd (by omega);have aO:decide (((kn l).length:Int)<k)=false:=Zd h2;obtain⟨m,rfl⟩:∃m:Nat,k=m:=⟨k.toNat,by omega⟩;have aQ:1≤m:=by omega
    have aR:m≤(kn l).length:=by omega
    have HR:=Zk (zGu HS.out hz);have aM:=Zk (aI.out.below aD);have hkl:(kn l).length≤l.length:=Ft l 0;rw[Int.toNat_natCast] at HE;clear h1 h2;go_wp2_with fail;have aP:((kn l).take m).length≤1000000:=by rw[List.length_take];omega
    go_region_with (first
     |(go_at_call 145;refine (Vv l m _ _ aQ aR (by exact aM.out) hz).mono ?_;rintro e w2 ⟨v2,rfl,aB,aE⟩;have aG:Below w.heap.size w w2:=(by first|exact aA.trans (aE.mono aA.size)|exact aA.drew.trans (aE.mono aA.size)|exact aA.drew.drew.trans (aE.mono aA.size));have c2:w2.cell? ⟨w.heap.size,0,none⟩=some (.int .i64 P):=(aE.cell (p:=⟨w.heap.size,0,none⟩) (by show w.heap.size<w1.heap.size;omega)).trans c0;have HG:Hid (SG pcs 2 w2.heap.size w2 v2 ((kn l).take m)):=fi_sg aB HR.out;clear aB)
     |(go_at_call 70;refine (Sp P _ v2 _ hP (by exact HG.out) aP).mono ?_;rintro e w3 ⟨v3,rfl,aC,aN⟩;have aL:=Zk aC;clear aC))
    all_goals
     go_wp2_with fail;go_ret2;exact⟨v3,by rw[HE.out.1]<;>rfl,by rw[HE.out.2];exact Kf aL.out (by have h5:w.heap.size≤w2.heap.size:=aG.size;exact h5),aG.trans (aN.mono aG.size)⟩
 ·have HE:=Zk (Ui (k:=k) h0);have hb:(ceE P l !=0)=true:=by rw[bne_iff_ne];exact h0
  have H0:=Zk h0;clear h0;go_wp2_with fail;go_ret2;exact⟨.slice none 0 0,by rw[HE.out.1]<;>rfl,by rw[HE.out.2];exact World.ownsRow_nil _ _ _ _,aA⟩
open Go.RowKit Go.Shelf
theorem Ts{P:Program}(l n:Nat){o:Oper}{a:Act}{w:World}{K:Act→World→Prop}{Q:Exit→Act→World→Prop}(hd:∀c,o.op≠ .defer c)(h:Oper.wp P o a w K Q):Oper.wpIn (Fence.wide.inRound l) n P o a w K Q:=by
 refine⟨fun f _=>trivial,?_⟩
 show Oper.uponIn _ _ _ _ _ _ _ ((Oper.semAt (some l) a.eval o).run P w);rw[Oper.semAt_some l _ _ hd];unfold Oper.wp at h;generalize (execOp a.eval o).run P w=r at h⊢
 cases r with
 |ok x w'=>
  cases x with
  |value v=>exact h
  |skip=>exact h
  |defer d=>exact h
  |enter f args=>exact⟨(fun h'=>by cases h'),CallsIn.inRound l (callsIn_wide.2 h)⟩
  |row row args=>exact⟨(fun h'=>by cases h'),fun c cs _=>let ⟨v,w',r,s⟩:=h c cs;⟨v,w',r,stepsIn_wide.2 s⟩⟩
  |round=>exact h.elim
  |_=>exact h.elim
 |halt x w'=>
  cases x<;>first|exact h|exact h.elim
def Lk(ops:Array Oper):Bool:=ops.all fun o=>match o.op with| .defer _=>false|_=>true
theorem Ox{ops:Array Oper}(h:Lk ops=true){i:Nat}{o:Oper}(ho:ops[i]? =some o):∀c,o.op≠ .defer c:=fun c e=>by
 unfold Lk at h;rw[Array.all_eq_true'] at h;have:=h o (Array.mem_of_getElem? ho);rw[e] at this
 cases this
theorem Ek{P:Program}{md:Region.Mode}{ops:Array Oper}{Q:Exit→Act→World→Prop}(l n:Nat)(hQ:¬LetsOut Q)(hd:Lk ops=true):∀(fuel:Nat) (listed:Array Bool) (a:Act) (w:World),wpAny P md ops Q fuel listed a w→wpAnyIn (Fence.wide.inRound l) n P md ops Q fuel listed a w
 |0,_,_,_,h=>h
 |fuel+1,listed,a,w,h=>⟨h.1,fun i hi=>by
  have h2:=h.2 i hi;unfold wpOp at h2;unfold wpOpIn
  cases ho:ops[i]? with
  |none=>
   simp only[ho] at h2⊢;exact Ek l n hQ hd fuel _ _ _ h2
  |some o=>
   simp only[ho] at h2⊢;split
   ·rename_i hw;rw[if_pos hw] at h2;rcases h2 with h2|⟨_,h2⟩
    ·exact Ts l n (Ox hd ho) (Oper.wp_mono (fun a w h=>Ek l n hQ hd fuel _ a w h) h2)
    ·exact absurd h2 hQ
   ·rename_i hw;rw[if_neg hw] at h2;exact⟨fun f _=>trivial,Ek l n hQ hd fuel _ _ _ h2⟩⟩
def Kp(Q:Exit→Act→World→Prop):Exit→Act→World→Prop
 | .normal,a,w=>Q .normal a w
 |_,_,_=>False
theorem Kp.normal{Q:Exit→Act→World→Prop}{a:Act}{w:World}(h:Q .normal a w):Kp Q .normal a w:=h
theorem Kp.imp{Q:Exit→Act→World→Prop}:∀(e:Exit) (a:Act) (w:World),Kp Q e a w→Q e a w:=fun e a w h=>by
 cases e<;>first|exact h|exact (h:False).elim
theorem Qy{Q:Exit→Act→World→Prop}:¬LetsOut (Kp Q):=fun⟨_,_,h⟩=>h
theorem Kl{P:Program}{ops:Array Oper}{Q:Exit→Act→World→Prop}{S:World→Prop}(l n:Nat){id:Nat}{a:Act}{w:World}(hm:P.follows .mixedOrders=true)(hd:Lk ops=true)(hS:S w.drew)
  (h:S w.drew→wpAnyH P .any ops (Kp Q) S ops.size (Array.replicate ops.size false) a w.drew):(Code.region id ops true).wpIn (Fence.wide.inRound l) n P Q a w:=
 Code.wpIn_mono Kp.imp (wpIn_region_any hm (Ek l n Qy hd _ _ _ _ (wpAny_of_held _ _ _ _ (h hS))))
end Go.Proofs.YtoiabanpnkpbhaaGreatDoor
