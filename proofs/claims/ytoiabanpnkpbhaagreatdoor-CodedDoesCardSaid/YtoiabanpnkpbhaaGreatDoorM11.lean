/- Parts. -/
import Derived.Deep.RegionLaw
import Derived.Deep.AppendLies
import Derived.Test.YtoiabanpnkpbhaaGreatDoorM10
set_option linter.unusedVariables false
set_option linter.unusedSimpArgs false
set_option maxRecDepth 1000000
set_option maxHeartbeats 4000000
namespace Go.Proofs.YtoiabanpnkpbhaaGreatDoor
open Go.RowKit
def Cr(n:Nat):Code→Option Code
 | .region k ops d=>if k=n then some (.region k ops d) else none
 | .seq a b=>(Cr n a).or (Cr n b)
 | .block _ c=>Cr n c
 | .loop c=>Cr n c
 | .scope c=>Cr n c
 | .cond _ a b=>(Cr n a).or (Cr n b)
 |_=>none
def Dr(B:Nat)(w:World)(v:Value)(xs:List Int)(u:Value)(ys:List Int):Prop:=
 w.ownsRow B 3 1 v xs.length (xs.map (Value.int .i64))∧w.ownsRow B 3 1 u ys.length (ys.map (Value.int .i64))∧∀k,v.ownBlock=some k→u.ownBlock≠some k
theorem Dr.alloc{B:Nat}{w:World}{v u:Value}{xs ys:List Int}(h:Dr B w v xs u ys)(o:Obj):Dr B (w.alloc o) v xs u ys:=⟨h.1.alloc _,h.2.1.alloc _,h.2.2⟩
theorem Dr.app1{B g cap:Nat}{w w':World}{v u:Value}{xs ys zs:List Int}(h:Dr B w v xs u ys)(hown:w'.ownsRow B 3 1 (.slice (some ⟨g,0,none⟩) zs.length cap) zs.length (zs.map (Value.int .i64)))
  (hg:w.grownBy w' v.ownBlock) (hat:v.ownBlock=some g∨g=w.heap.size):Dr B w' (.slice (some ⟨g,0,none⟩) zs.length cap) zs u ys:=by
 refine⟨hown,h.2.1.kept hg ?_,fun k hk=> ?_⟩
 ·cases hv:v.ownBlock with
  |none=>cases hu:u.ownBlock<;>simp
  |some k=>exact .inr (fun e=>h.2.2 k hv e)
 ·simp[Value.ownBlock] at hk;subst hk;rcases hat with e|e
  ·exact h.2.2 _ e
  ·intro e2;have:=(h.2.1.lt _ e2).2;omega
theorem Dr.swap{B:Nat}{w:World}{v u:Value}{xs ys:List Int}(h:Dr B w v xs u ys):Dr B w u ys v xs:=⟨h.2.1,h.1,fun k h1 h2=>h.2.2 k h2 h1⟩
def LB(B:Nat)(a w:World):Prop:=w.os=a.os∧w.tape=a.tape∧w.output=a.output∧a.heap.size≤w.heap.size∧∀i,i<B→w.heap[i]? =a.heap[i]?
theorem LB.of{B:Nat}{a w:World}(h:Below B a w):LB B a w:=⟨h.os,h.tape,h.output,h.size,fun i hi=>h.block i hi⟩
theorem LB.to{B:Nat}{a w:World}(h:LB B a w):Below B a w:=⟨h.1,h.2.1,h.2.2.1,h.2.2.2.1,fun i hi=>h.2.2.2.2 i hi⟩
theorem LB.al{B:Nat}{a w:World}(h:LB B a w)(hB:B≤a.heap.size)(o:Obj):LB B a (w.alloc o):=LB.of (h.to.alloc (Nat.le_trans hB h.2.2.2.1) o)
theorem LB.gr{B:Nat}{a w w':World}{r:Option Nat}(h:LB B a w)(hB:B≤a.heap.size)(hg:w.grownBy w' r)(hr:∀k,r=some k→B≤k):LB B a w':=LB.of (h.to.grown hg (Nat.le_trans hB h.2.2.2.1) hr)
theorem Bo{w:World}{p:Addr}{v:Value}(o:Obj)(h:w.cell? p=some v):(w.alloc o).cell? p=some v:=
 (((Zb w.heap.size w).alloc (Zl _) o).cell (World.block_lt_of_cell? w _ h)).trans h
theorem Hj{B a n:Nat}{w:World}{v:Value}{xs:List Value}(h:w.ownsRow B 3 1 v n xs)(ha:w.heap.size≤a):some a≠v.ownBlock:=fun e=>by
 have:=(h.lt _ e.symm).2;omega
theorem Gg(w:World)(o:Obj)(u:Value)(t:TypeId):((w.alloc o).alloc (.cells #[u] t)).cell? ⟨w.heap.size+1,0,none⟩=some u:=by simp[go_sem]
noncomputable def reg5C:Code:=((Tryz.f70.body.bind (Cr 5)).getD .skip)
theorem reg5(B G:Nat)(x y:Int)(xs ys:List Int)(v6 v7:Value)(w:World)(hT:Dr B w v6 xs v7 ys)(hx0:w.cell? ⟨G,0,none⟩=some (.int .i64 x))(hx1:w.cell? ⟨G,1,none⟩=some (.int .i64 y))(hG:∀k,v6.ownBlock=some k∨v7.ownBlock=some k→k≠G)(hGl:G<w.heap.size)(hB:B≤w.heap.size)(hxl:xs.length+1≤17592186044416)(hyl:ys.length+1≤17592186044416)
  (aa ab ac ad ae af ag ah ai aj ak am an ao ap aq ar au av aw ax ay az aA aB aC aD aE aF aG aH aI aJ aK aL aM aN aO aP aQ aR aS aT aU aV aW aX aY aZ a0 a1 a2 a3 a4 a5 a6 a7 a8 a9 ba bb bc bd be bf bg bh bi bj bk bl bm bn bo bp bq br bs bt bu bv bw bx bz bA bB bC bD bE bF bG bH bI bJ bK bL bM bN bO bP bQ bR bS bT bU bV bW:Value) (Q:Exit→Act→World→Prop)
  (hK:∀(bX bY bZ b0 b1 b2 b3 b4 b5 b6:Value) (v6' v7':Value) (w':World),Dr B w' v6' (xs++[x]) v7' (ys++[y])→Below B w w'→Q .normal ⟨List.toArray (aa::ab::ac::ad::ae::af::(v6')::(v7')::ag::(Value.pointer (some ⟨G,0,none⟩))::ah::ai::aj::ak::am::an::ao::ap::aq::ar::au::av::aw::ax::ay::az::aA::bX::bY::bZ::b0::b1::b2::b3::b4::b5::b6::aL::aM::aN::aO::aP::aQ::aR::aS::aT::aU::aV::aW::aX::aY::aZ::a0::a1::a2::a3::a4::a5::a6::a7::a8::a9::ba::bb::bc::bd::be::bf::bg::bh::bi::bj::bk::bl::bm::bn::bo::bp::bq::br::bs::bt::bu::bv::bw::bx::bz::bA::bB::bC::bD::bE::bF::bG::bH::bI::bJ::bK::bL::bM::bN::bO::bP::bQ::bR::bS::bT::bU::bV::bW::[]),[]⟩ w'):
  Code.wp Tryz.prog reg5C Q ⟨List.toArray (aa::ab::ac::ad::ae::af::(v6)::(v7)::ag::(Value.pointer (some ⟨G,0,none⟩))::ah::ai::aj::ak::am::an::ao::ap::aq::ar::au::av::aw::ax::ay::az::aA::aB::aC::aD::aE::aF::aG::aH::aI::aJ::aK::aL::aM::aN::aO::aP::aQ::aR::aS::aT::aU::aV::aW::aX::aY::aZ::a0::a1::a2::a3::a4::a5::a6::a7::a8::a9::ba::bb::bc::bd::be::bf::bg::bh::bi::bj::bk::bl::bm::bn::bo::bp::bq::br::bs::bt::bu::bv::bw::bx::bz::bA::bB::bC::bD::bE::bF::bG::bH::bI::bJ::bK::bL::bM::bN::bO::bP::bQ::bR::bS::bT::bU::bV::bW::[]),[]⟩ w:=by
 have HK:=Zk hK;have T:=Zk hT;have T0:=T;have x0:=hx0;have x1:=hx1;have hz:=Zl w.heap.size;have L:=Zk (LB.of (Zb B w));have cE:=Zk hG;have hGl2:=hGl;clear hK hT hx0 hx1 hG;conv=>arg 2;whnf
 go_region_held3 (fun w'=>w'.cell? ⟨G,0,none⟩=some (.int .i64 x)∧w'.cell? ⟨G,1,none⟩=some (.int .i64 y)) (first|exact⟨x0,x1⟩|go_keep)
  (first
   |(refine Ax _ (by rfl) (.tmp 27) _ 22 (by rfl) B 3 Tryz.underlying22 Bi _ xs (by rfl) (by first|exact T.out.1|exact (T.out.alloc _).1|exact ((T.out.alloc _).alloc _).1) x _ (by rfl) (by first|exact n1|(simp[go_sem];done)) hxl (by first|omega|(simp;omega)) ?_;intro g2 cap2 w2 cC cA cF;have x0:=cA.cell (a:=⟨G,0,none⟩) (by first|exact x0|exact Bo _ x0|exact Bo _ (Bo _ x0)) (fun e=>cE.out _ (.inl e.symm) rfl);have x1:=cA.cell (a:=⟨G,1,none⟩) (by first|exact x1|exact Bo _ x1|exact Bo _ (Bo _ x1)) (fun e=>cE.out _ (.inl e.symm) rfl);have L2:=Zk (LB.gr (by first|exact L.out|exact L.out.al hB _|exact (L.out.al hB _).al hB _) hB cA (fun k hk=>(T.out.1.lt k hk).1));have T:=Zk (Dr.app1 (by first|exact T.out|exact T.out.alloc _|exact (T.out.alloc _).alloc _) cC cA cF);have L:=L2;have hsz2:w.heap.size≤w2.heap.size:=L.out.2.2.2.1;first|have n2:=cA.cell (a:=⟨w.heap.size,0,none⟩) (v:= .int .i64 y) (Bo _ (Ba w [.int .i64 y] 3 0 _ rfl)) (Hj T0.out.1 (Zl _))|have n2:=cA.cell (a:=⟨w.heap.size+1,0,none⟩) (v:= .int .i64 y) (Gg w (.cells #[.int .i64 x] 3) (.int .i64 y) 3) (Hj T0.out.1 (Nat.le_succ _))|skip)
   |(refine Ax _ (by rfl) (.tmp 32) _ 22 (by rfl) B 3 Tryz.underlying22 Bi _ ys (by rfl) (by first|exact T.out.2.1|exact (T.out.alloc _).2.1|exact ((T.out.alloc _).alloc _).2.1) y _ (by rfl) (by first|exact n2|(simp[go_sem];done)) hyl (by first|omega|(simp;omega)) ?_;intro g3 cap3 w3 cD cB cG;have x0:=cB.cell (a:=⟨G,0,none⟩) (by first|exact x0|exact Bo _ x0|exact Bo _ (Bo _ x0)) (fun e=>cE.out _ (.inr e.symm) rfl);have x1:=cB.cell (a:=⟨G,1,none⟩) (by first|exact x1|exact Bo _ x1|exact Bo _ (Bo _ x1)) (fun e=>cE.out _ (.inr e.symm) rfl);have L2:=Zk (LB.gr (by first|exact L.out|exact L.out.al hB _|exact (L.out.al hB _).al hB _) hB cB (fun k hk=>(T.out.2.1.lt k hk).1));have T:=Zk (Dr.swap (Dr.app1 (by first|exact T.out.swap|exact (T.out.alloc _).swap|exact ((T.out.alloc _).alloc _).swap) cD cB cG));have L:=L2;have hsz3:w.heap.size≤w3.heap.size:=L.out.2.2.2.1;first|have n1:=cB.cell (a:=⟨w.heap.size,0,none⟩) (v:= .int .i64 x) (Bo _ (Ba w [.int .i64 x] 3 0 _ rfl)) (Hj T0.out.2.1 (Zl _))|have n1:=cB.cell (a:=⟨w.heap.size+1,0,none⟩) (v:= .int .i64 x) (Gg w (.cells #[.int .i64 y] 3) (.int .i64 x) 3) (Hj T0.out.2.1 (Nat.le_succ _))|skip))
 all_goals
  have t:=T.out;simp only[List.length_append,List.length_singleton] at t;exact HK.out _ _ _ _ _ _ _ _ _ _ _ _ _ t L.out.to
open Go.RowKit
theorem zBt(P a b:Int)(w:World)(hP:2≤P∧P≤65521)(ha:0≤a∧a<P)(hb:0≤b∧b<P):
  Calls Tryz.prog 92 #[.int .i64 P,.int .i64 a,.int .i64 b] w fun e w'=>e= .returned (.int .i64 ((a-b)%P))∧w=w':=
 (Jv P a b w hP ha hb).mono fun e w' ⟨he,hw⟩=>⟨by rw[he,Int.add_emod_right],hw⟩
noncomputable def zHk:Code:=((Tryz.f70.body.bind (Cr 23)).getD .skip)
theorem reg23(P x y:Int)(poly node:List Int)(vp vn:Value)(bv ov nv cv i:Nat)(w:World)(hp:prB P=true)(hx:0≤x∧x<P)(hy:0≤y∧y<P)(hep:els P poly=true)(hen:els P node=true)(hlp:poly.length≤1000000)(hln:node.length≤1000000)(hSp:SI w vp poly)(hSn:SI w vn node)(hi:i<nv)(hb:bv<w.heap.size)(hn0:w.cell? ⟨bv,ov+i,none⟩=some (.int .i64 y))
  (aa ab ac ad ae af ag ah ai aj ak al am an ao ap aq ar au av aw ax ay az aA aB aC aD aE aF aG aH aI aJ aK aL aM aN aO aP aQ aR aS aT aU aV aW aX aY aZ a0 a1 a2 a3 a4 a5 a6 a7 a8 a9 ba bb bc bd be bf bg bh bi bj bk bl bm bn bo bp bq br bs bt bu bw bx bz bA bB bC bD bE bF bG bH bI bJ bK bL bM bN bO bP bQ bR bS bT:Value) (Q:Exit→Act→World→Prop)
  (hK:∀(bU bV bW bX bY bZ b0 b1 b2 b3 b4 b5 b6 b7 b8 b9 ca cb:Value) (w':World),Below w.heap.size w w'→Q .normal ⟨List.toArray (aa::ab::ac::ad::ae::af::ag::(Value.slice (some ⟨bv,ov,none⟩) nv cv)::ah::ai::(Value.int .i64 P)::aj::ak::al::am::(vp)::(vn)::(Value.int .i64 (i:Int))::(Value.int .i64 x)::(Value.int .i64 (byN P (poly,node) (x,y)))::ao::ap::aq::ar::au::av::aw::ax::ay::az::aA::aB::aC::aD::aE::aF::aG::aH::aI::aJ::aK::aL::aM::aN::aO::aP::aQ::aR::aS::aT::aU::aV::aW::aX::aY::aZ::a0::a1::a2::a3::a4::a5::a6::a7::a8::a9::ba::bb::bc::bd::bU::bV::bW::bX::bY::bZ::b0::b1::b2::b3::b4::b5::b6::b7::b8::b9::ca::cb::bx::bz::bA::bB::bC::bD::bE::bF::bG::bH::bI::bJ::bK::bL::bM::bN::bO::bP::bQ::bR::bS::bT::[]),[]⟩ w'):
  Code.wp Tryz.prog zHk Q ⟨List.toArray (aa::ab::ac::ad::ae::af::ag::(Value.slice (some ⟨bv,ov,none⟩) nv cv)::ah::ai::(Value.int .i64 P)::aj::ak::al::am::(vp)::(vn)::(Value.int .i64 (i:Int))::(Value.int .i64 x)::an::ao::ap::aq::ar::au::av::aw::ax::ay::az::aA::aB::aC::aD::aE::aF::aG::aH::aI::aJ::aK::aL::aM::aN::aO::aP::aQ::aR::aS::aT::aU::aV::aW::aX::aY::aZ::a0::a1::a2::a3::a4::a5::a6::a7::a8::a9::ba::bb::bc::bd::be::bf::bg::bh::bi::bj::bk::bl::bm::bn::bo::bp::bq::br::bs::bt::bu::bw::bx::bz::bA::bB::bC::bD::bE::bF::bG::bH::bI::bJ::bK::bL::bM::bN::bO::bP::bQ::bR::bS::bT::[]),[]⟩ w:=by
 have HK:=Zk hK;have SP:=Zk hSp;have SN:=Zk hSn;have eP:=Zk hep;have eN:=Zk hen;have HP:=Zk hp;have n0:=hn0;have cC:=hb;have L:=Zk (LB.of (Zb w.heap.size w));have cB:=Bj hp;have h1:=Nf cB.1 poly x;have h2:=Nf cB.1 node x;have h3:=Ix cB.1 (val P node x);obtain⟨v1,e1⟩:∃v,val P poly x=v:=⟨_,rfl⟩;obtain⟨v2,e2⟩:∃v,val P node x=v:=⟨_,rfl⟩;rw[e1] at h1;rw[e2] at h2 h3;have cD:Hid ((y-v1)%P*inv P v2%P=byN P (poly,node) (x,y)):=by show _=_;rw[←e1,←e2];unfold byN;rw[Int.add_emod_right]
 have E1:=Zk e1;have E2:=Zk e2;clear hK hSp hSn hep hen hp hn0 hb e1 e2;have h4:0≤(y-v1)%P∧(y-v1)%P<P:=⟨Int.emod_nonneg _ (by omega),Int.emod_lt_of_pos _ (by omega)⟩;have z1:(0:Int)≤(i:Int):=by omega
 have z2:(i:Int)<(nv:Int):=by omega
 conv=>arg 2;whnf
 go_region_held3 (fun w'=>w'.cell? ⟨bv,ov+i,none⟩=some (.int .i64 y)) (first|exact n0|go_keep)
  (first
   |(go_at_call 54;refine (Ik P x poly vp _ cB hx eP.out hlp (by exact SP.out)).mono ?_;rintro e wn ⟨rfl,cA⟩;rw[E1.out];have n0:=(cA.cell (p:=⟨bv,ov+i,none⟩) cC).trans n0;have SN:=Zk (SI.below (by exact SN.out) cA);have cC:=Nat.lt_of_lt_of_le cC cA.size;have L:=Zk (LB.of (L.out.to.trans (Below.mono (Below.drew_left cA) L.out.2.2.2.1)));clear eP)
   |(go_at_call 54;refine (Ik P x node vn _ cB hx eN.out hln (by exact SN.out)).mono ?_;rintro e wn ⟨rfl,cA⟩;rw[E2.out];have n0:=(cA.cell (p:=⟨bv,ov+i,none⟩) cC).trans n0;have cC:=Nat.lt_of_lt_of_le cC cA.size;have L:=Zk (LB.of (L.out.to.trans (Below.mono cA L.out.2.2.2.1)));clear eN)
   |(go_at_call 92;refine (zBt P y v1 _ cB hy h1).mono ?_;rintro e wn ⟨rfl,rfl⟩)
   |(go_at_call 93;refine (Hh P v2 _ HP.out h2).mono ?_;rintro e wn ⟨rfl,rfl⟩)
   |(go_at_call 53;refine (Ef P _ _ _ cB h4 h3).mono ?_;rintro e wn ⟨rfl,rfl⟩))
 all_goals
  have hk:=HK.out;rw[←cD.out] at hk;exact hk _ _ _ _ _ _ _ _ _ _ _ _ _ _ _ _ _ _ _ L.out.to
open Go.RowKit
theorem SI.part{w:World}{b off c:Nat}{l:List Int}(h:SI w (.slice (some ⟨b,off,none⟩) l.length c) l){lo k:Nat}(h1:lo+k≤l.length):
  SI w (.slice (some ⟨b,off+lo,none⟩) k (c-lo)) ((l.drop lo).take k):=by
 have hk:((l.drop lo).take k).length=k:=by simp;omega
 obtain⟨A',c',e,hc,hm,hr,ha⟩:=h;injection e with e1 e2 e3;subst e3;refine⟨_,c-lo,by rw[hk],by rw[hk];omega,by omega,fun x hx=>hr x (List.mem_of_mem_drop (List.mem_of_mem_take hx)),fun h0=> ?_⟩
 obtain⟨b',off',hA,hb,aA⟩:=ha (by rw[hk] at h0;omega);rw[←e1] at hA;injection hA with hA;injection hA with hb1 ho1;subst hb1 ho1;refine⟨b,off+lo,rfl,hb,fun j hj=> ?_⟩
 have aB:lo+j<l.length:=by rw[hk] at hj;omega
 have:=aA (lo+j) aB;rw[Nat.add_assoc,this];simp
theorem Ev:(Tryz.prog.info? 22).map (fun i=>(i.zero,i.size,i.bytes))=some (some (.slice none 0 0),1,24):=by kernel_rfl
theorem Dz{P:Program}(w:World){ops:Array Oper}{o:Oper}{a:Act}{K:Act→World→Prop}{Q:Exit→Act→World→Prop}{E:Prop}(hgd:o.guard=none)(s x:Operand)(t:TypeId)
  (ho:o.op= .call {callee:= .builtin .append,args:= #[s,x],argTypes:= #[t,t]})
  (base:Nat) (e:TypeId) (z:Value) (by':Nat) (ht:P.underlying t=some (.slice e)) (hinfo:(P.info? e).map (fun i=>(i.zero,i.size,i.bytes))=some (some z,1,by'))
  (v:Value) (n:Nat) (xs:List Value) (hs:a.eval s=v) (hown:w.ownsRow base e 1 v n xs)
  (y:Value) (hy:y.oneCell'=true) (b:Nat) (hx:a.eval x= .slice (some ⟨b,0,none⟩) 1 1) (hc:w.cell? ⟨b,0,none⟩=some y)
  (hbytes:(n+1)*by'≤140737488355328) (hn:n≤1000000) (hzs:z.cells.size=1) (hbase:base≤w.heap.size)
  (h:∀g aA w',w'.ownsRow base e 1 (.slice (some ⟨g,0,none⟩) (n+1) aA) (n+1) (xs++[y])→w.grownBy w' v.ownBlock→(v.ownBlock=some g∨g=w.heap.size)→K (a.put o.dst (.slice (some ⟨g,0,none⟩) (n+1) aA)) w'):
  if Region.wanted o (yielded ops a.tmps)=true then Oper.wp P o a w K Q else E:=by
 obtain⟨i0,aC,aE,aF,aG⟩:=info_parts hinfo;have hw:Region.wanted o (yielded ops a.tmps)=true:=by simp[Region.wanted,hgd]
 rw[if_pos hw];obtain⟨v',w',aB,h2,h3,h4⟩:=Cx (P:=P) w base t o.type e i0 _ 1 by' ht aC aE aF aG hzs (by omega) v _ _ hown (b+1) (.slice (some ⟨b,0,none⟩) 1 1) 1 [y] ⟨_,1,rfl,rfl,fun _=>⟨b,0,rfl,by omega,fun j u hu=>by
  cases j with
  |zero=>simp at hu;subst hu;exact hc
  |succ j=>simp at hu⟩⟩ (by intro u hu;simp at hu;subst hu;exact hy) (by unfold maxLen;omega) hbytes hbase
 rcases h2.2 with⟨_,aD⟩|⟨g,aA,cur,rfl,hb,hg,hnc,hcm,hcs,htake⟩
 ·simp at aD
 ·unfold Oper.wp execOp;simp only[ho,resolve,invoke,builtin,Sem.run_bind,Sem.run_pure,Result.andThen_ok,List.map_toArray,List.map_cons,List.map_nil,hs,hx,aB];refine h g aA w' h2 h3 ?_;rcases h4 with e4|e4
  ·exact .inl (by rw[←e4];rfl)
  ·exact .inr (by simpa [Value.ownBlock] using e4)
structure BR (base:Nat) (w:World) (hv:Value) (n k:Nat) (bs cs:Nat→Nat) (M:List (List Int)):Prop where
 own:w.ownsRow base 22 1 hv k ((List.range k).map (hd n bs cs))
 len:M.length=k
 row:∀i,i<k→RB w (bs i) (gr M i)∧(gr M i).length=n∧n≤cs i∧cs i≤9223372036854775807∧base≤bs i∧hv.ownBlock≠some (bs i)
 apart:∀i j,i<k→j<k→bs i=bs j→i=j
def upd(f:Nat→Nat)(k b:Nat)(i:Nat):Nat:=if i=k then b else f i
theorem BR.nil(base:Nat)(w:World)(n:Nat)(bs cs:Nat→Nat):BR base w (.slice none 0 0) n 0 bs cs []:=
 ⟨World.ownsRow_nil _ _ _ _,rfl,fun i hi=>by omega,fun i j hi=>by omega⟩
theorem BR.keep{base:Nat}{w w':World}{hv:Value}{n k:Nat}{bs cs:Nat→Nat}{M:List (List Int)}(h:BR base w hv n k bs cs M)(hk:∀b,base≤b→b<w.heap.size→w'.heap[b]? =w.heap[b]?):BR base w' hv n k bs cs M:=by
 refine⟨⟨h.own.1,?_⟩,h.len,fun i hi=> ?_,h.apart⟩
 ·rcases h.own.2 with hn|⟨g,aA,aB,e,hb,hg,rest⟩
  ·exact .inl hn
  ·exact .inr ⟨g,aA,aB,e,hb,(hk g hb (Ae hg)).trans hg,rest⟩
 ·obtain⟨⟨tl,r1⟩,r2,r3,r4,r5,r6⟩:=h.row i hi;exact⟨⟨tl,(hk _ r5 (Ae r1)).trans r1⟩,r2,r3,r4,r5,r6⟩
theorem BR.push{base:Nat}{w w0 w1 w2:World}{hv v:Value}{n k:Nat}{bs cs:Nat→Nat}{M:List (List Int)}(h:BR base w hv n k bs cs M){row:List Int}{y:Int}{g1 cap1 g2 cap2:Nat}{o1 o2:Obj}
  (hw:∀b,b<w.heap.size→w0.heap[b]? =w.heap[b]?) (hws:w.heap.size≤w0.heap.size) (hvo:∀b,v.ownBlock=some b→w.heap.size≤b∧b<w0.heap.size) (hn:row.length+1=n)
  (hg1:(w0.alloc o1).grownBy w1 v.ownBlock) (ho1:w1.ownsRow base 3 1 (.slice (some ⟨g1,0,none⟩) (row++[y]).length cap1) (row++[y]).length ((row++[y]).map (Value.int .i64))) (ha1:v.ownBlock=some g1∨g1=(w0.alloc o1).heap.size)
  (hg2:(w1.alloc o2).grownBy w2 hv.ownBlock) (ho2:w2.ownsRow base 22 1 (.slice (some ⟨g2,0,none⟩) (k+1) cap2) (k+1) ((List.range k).map (hd n bs cs)++[.slice (some ⟨g1,0,none⟩) (row++[y]).length cap1])) (ha2:hv.ownBlock=some g2∨g2=(w1.alloc o2).heap.size):
  BR base w2 (.slice (some ⟨g2,0,none⟩) (k+1) cap2) n (k+1) (upd bs k g1) (upd cs k cap1) (M++[row++[y]]):=by
 have hl:(row++[y]).length=n:=by simp;omega
 rw[hl] at ho1 ho2;obtain⟨r1,r2,r3,r4⟩:=RB.of_own ho1 rfl;have aG:=h.len;have aJ:=hg1.size;have aK:=hg2.size;simp at aJ aK;have aH:=h.own.lt;have hg1lo:w.heap.size≤g1:=by
  rcases ha1 with e|e
  ·exact (hvo g1 e).1
  ·rw[e];simp;omega
 have aB:g1<w1.heap.size:=r1.lt;have old:∀b,b<w.heap.size→hv.ownBlock≠some b→w2.heap[b]? =w.heap[b]? :=by
  intro b hb aI;rw[hg2.block b (by simp;omega) (fun e=>aI e.symm),Below.heap_alloc w1 o2 b (by omega),hg1.block b (by simp;omega) (fun e=>by have:=(hvo b e.symm).1;omega),Below.heap_alloc w0 o1 b (by omega)]
  exact hw b hb
 have aA:∀i,i<k→bs i<w.heap.size:=fun i hi=>(h.row i hi).1.lt
 have aC:∀b,(Value.slice (some ⟨g2,0,none⟩) (k+1) cap2).ownBlock=some b→hv.ownBlock=some b∨w1.heap.size≤b:=by
  intro b hb;have e:g2=b:=by injection hb
  subst e;rcases ha2 with e2|e2
  ·exact .inl e2
  ·right;rw[e2];simp
 refine⟨?_,by simp[aG],fun i hi=> ?_,fun i j hi hj aD=> ?_⟩
 ·have:(List.range (k+1)).map (hd n (upd bs k g1) (upd cs k cap1))=(List.range k).map (hd n bs cs)++[.slice (some ⟨g1,0,none⟩) n cap1]:=by
   rw[List.range_succ,List.map_append];congr 1
   ·apply List.map_congr_left;intro i hi;have:i≠k:=by have:=List.mem_range.1 hi;omega
    simp[hd,upd,this]
   ·simp[hd,upd]
  rw[this];exact ho2
 ·by_cases e:i=k
  ·subst e;have aE:gr (M++[row++[y]]) i=row++[y]:=by rw[Hf (by simp;omega)];simp[aG.symm]
   rw[aE];simp only[upd,↓reduceIte];refine⟨?_,hl,r3,by simpa [maxLen] using r4,r2,fun e2=> ?_⟩
   ·obtain⟨tl,r1⟩:=r1;refine⟨tl,?_⟩;rw[hg2.block g1 (by simp;omega) (fun e2=>by have:=(aH g1 e2.symm).2;omega),Below.heap_alloc w1 o2 g1 aB]
    exact r1
   ·rcases aC g1 e2 with e3|e3
    ·have:=(aH g1 e3).2;omega
    ·omega
  ·have aF:i<k:=by omega
   obtain⟨⟨tl,q1⟩,q2,q3,q4,q5,q6⟩:=h.row i aF;have aE:gr (M++[row++[y]]) i=gr M i:=by
    unfold gr;rw[List.getElem?_append_left (by omega)]
   rw[aE];simp only[upd];rw[if_neg e,if_neg e];refine⟨⟨tl,(old _ (aA i aF) q6).trans q1⟩,q2,q3,q4,q5,fun e2=> ?_⟩
   rcases aC _ e2 with e3|e3
   ·exact q6 e3
   ·have:=aA i aF;omega
 ·simp only[upd] at aD;by_cases ei:i=k
  ·by_cases ej:j=k
   ·omega
   ·rw[if_pos ei,if_neg ej] at aD;have:=aA j (by omega);omega
  ·by_cases ej:j=k
   ·rw[if_neg ei,if_pos ej] at aD;have:=aA i (by omega);omega
   ·rw[if_neg ei,if_neg ej] at aD;exact h.apart i j (by omega) (by omega) aD
theorem BR.rm{base:Nat}{w:World}{hv:Value}{n k:Nat}{bs cs:Nat→Nat}{M:List (List Int)}(h:BR base w hv n k bs cs M)(hk:0<k):∃G c,hv= .slice (some ⟨G,0,none⟩) k c∧k≤c∧RM base w G n k bs cs M:=by
 rcases h.own.2 with⟨_,hn⟩|⟨g,aC,aB,rfl,hb,hg,aD,hcm,hcs,aA⟩
 ·omega
 ·refine⟨g,aC,rfl,aD,⟨aB.toList,by rw[hg],fun i hi=> ?_⟩,h.len,hb,fun i hi=> ?_,h.apart⟩
  ·have h1:(aB.toList.take (k*1))[i]? =((List.range k).map (hd n bs cs))[i]? :=by rw[aA]
   rw[List.getElem?_take,if_pos (by omega)] at h1;rw[h1];simp[hi]
  ·obtain⟨q1,q2,q3,q4,q5,q6⟩:=h.row i hi;exact⟨q1,q2,q3,q4,q5,fun e=>q6 (by rw[e];rfl)⟩
end Go.Proofs.YtoiabanpnkpbhaaGreatDoor
