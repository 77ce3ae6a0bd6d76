/- Parts. -/
import Derived.Test.YtoiabanpnkpbhaaGreatDoorM34
import Derived.Test.YtoiabanpnkpbhaaGreatDoorM20
set_option linter.unusedVariables false
set_option linter.unusedSimpArgs false
set_option maxRecDepth 1000000
set_option maxHeartbeats 4000000
namespace Go.Proofs.YtoiabanpnkpbhaaGreatDoor
open Go.RowKit Go.Shelf
attribute [local go_sem] Oper.semAt_some
def Dh(n:Nat):Code→Option Code
 | .region k ops d=>if k=n then some (.region k ops d) else none
 | .seq a b=>(Dh n a).or (Dh n b)
 | .block _ c=>Dh n c
 | .loop c=>Dh n c
 | .scope c=>Dh n c
 | .cond _ a b=>(Dh n a).or (Dh n b)
 | .rangeFunc _ _ a b=>(Dh n a).or (Dh n b)
 |_=>none
noncomputable def regHC:Code:=((Tryz.f17.body.bind (Dh 24)).getD .skip)
theorem regH(lr R F3 H i j wd:Nat)(P pw_:Int)(L L2 r:List Int)(vr:Value)(w:World)(r0:w.cell? ⟨R,0,none⟩=some (.int .i64 P))(j0:w.cell? ⟨F3,0,none⟩=some (.int .i64 (j:Int)))(hz1:R<w.heap.size)(hz2:F3<w.heap.size)(hz3:some R≠some H)(hz4:some F3≠some H)(hB:BK w H L)(hS:SI w vr r)(hPW:∀W,Calls Tryz.prog 50 #[.int .i64 P,.int .i64 (j:Int),.int .i64 (i:Int)] W fun e w'=>e= .returned (.int .i64 pw_)∧W=w')(hAT:∀W,BK W H L→SI W vr r→Calls Tryz.prog 49 #[.int .i64 P,.slice (some ⟨H,0,none⟩) wd wd,.int .i64 pw_,vr] W fun e w'=>(∃v,e= .returned v)∧BK w' H L2∧W.grownBy w' (some H))
  (aa ab ac ad ae af ag ah ai aj ak al am an ao ap aq ar au av aw ax ay az aA aB aC aD aE aF aG aH aI aJ aK aL aM aN aO aP aQ aR aS aT aU aV aW aX aY aZ a0 a1 a2 a3 a4 a5 a6 a7 a8 a9 ba bb bc bd be bf bg bh bi bj bk bl bm bn bo bp bq br bs bt bu bv bw bx bz:Value) (Q:Exit→Act→World→Prop)
  (hK:∀(u76 u77 u78 u79 u80 u81 u82 u83:Value) (w':World),BK w' H L2∧w.grownBy w' (some H)→Q .normal ⟨List.toArray (aa::ab::ac::ad::ae::af::ag::ah::ai::(Value.pointer (some ⟨F3,0,none⟩))::aj::ak::al::(Value.pointer (some ⟨R,0,none⟩))::am::an::ao::ap::aq::(Value.slice (some ⟨H,0,none⟩) wd wd)::(Value.int .i64 (i:Int))::(vr)::ar::au::av::aw::ax::ay::az::aA::aB::aC::aD::aE::aF::aG::aH::aI::aJ::aK::aL::aM::aN::aO::aP::aQ::aR::aS::aT::aU::aV::aW::aX::aY::aZ::a0::a1::a2::a3::a4::a5::a6::a7::a8::a9::ba::bb::bc::bd::be::bf::bg::bh::bi::bj::bk::u76::u77::u78::u79::u80::u81::u82::u83::bt::bu::bv::bw::bx::bz::[]),[]⟩ w'):
  Code.wpIn (Fence.wide.inRound lr) 6 Tryz.prog regHC Q ⟨List.toArray (aa::ab::ac::ad::ae::af::ag::ah::ai::(Value.pointer (some ⟨F3,0,none⟩))::aj::ak::al::(Value.pointer (some ⟨R,0,none⟩))::am::an::ao::ap::aq::(Value.slice (some ⟨H,0,none⟩) wd wd)::(Value.int .i64 (i:Int))::(vr)::ar::au::av::aw::ax::ay::az::aA::aB::aC::aD::aE::aF::aG::aH::aI::aJ::aK::aL::aM::aN::aO::aP::aQ::aR::aS::aT::aU::aV::aW::aX::aY::aZ::a0::a1::a2::a3::a4::a5::a6::a7::a8::a9::ba::bb::bc::bd::be::bf::bg::bh::bi::bj::bk::bl::bm::bn::bo::bp::bq::br::bs::bt::bu::bv::bw::bx::bz::[]),[]⟩ w:=by
 have HK:=Zk hK;have bG:=Zk hB;have HS:=Zk hS;have bI:=Zk hPW;have bF:=Zk hAT;clear hK hB hS hPW hAT;conv=>arg 4;whnf
 refine Kl (S:=fun w'=>w'.cell? ⟨R,0,none⟩=some (.int .i64 P)∧w'.cell? ⟨F3,0,none⟩=some (.int .i64 (j:Int))) lr 6 (by kernel_rfl) (by kernel_rfl) ?_ (fun bB=> ?_)
 ·exact⟨r0,j0⟩
 refine wpAnyH_take (i:=0) (v:= ?_) rfl (by kernel_rfl) (by kernel_rfl) (by kernel_rfl) (fun _ _ _ h=>h) (Or.inl ⟨by rfl,?_⟩) (by assumption) ?_
 rotate_left 1
 ·intro w' bA;try dsimp only at bA
  go_simp<;>with_reducible rfl
 try simp only[Act.put,Zz]
 refine wpAnyH_take (i:=1) (v:= ?_) rfl (by kernel_rfl) (by kernel_rfl) (by kernel_rfl) (fun _ _ _ h=>h) (Or.inl ⟨by rfl,?_⟩) (by assumption) ?_
 rotate_left 1
 ·intro w' bA;try dsimp only at bA
  go_simp<;>with_reducible rfl
 try simp only[Act.put]
 refine wpAnyH_take (i:=2) (v:= ?_) rfl (by kernel_rfl) (by kernel_rfl) (by kernel_rfl) (fun _ _ _ h=>h) (Or.inl ⟨by rfl,?_⟩) (by assumption) ?_
 rotate_left 1
 ·intro w' bA;try dsimp only at bA
  go_simp<;>with_reducible rfl
 try simp only[Act.put]
 refine wpAnyH_take (i:=3) (v:= ?_) rfl (by kernel_rfl) (by kernel_rfl) (by kernel_rfl) (fun _ _ _ h=>h) (Or.inl ⟨by rfl,?_⟩) (by assumption) ?_
 rotate_left 1
 ·intro w' bA;try dsimp only at bA
  go_simp<;>with_reducible rfl
 try simp only[Act.put]
 refine wpAnyH_take (i:=4) (v:= ?_) rfl (by kernel_rfl) (by kernel_rfl) (by kernel_rfl) (fun _ _ _ h=>h) (Or.inl ⟨by rfl,?_⟩) (by assumption) ?_
 rotate_left 1
 ·intro w' bA;try dsimp only at bA
  go_simp<;>with_reducible rfl
 try simp only[Act.put]
 refine wpAnyH_take (i:=6) (v:= ?_) rfl (by kernel_rfl) (by kernel_rfl) (by kernel_rfl) (fun _ _ _ h=>h) (Or.inl ⟨by rfl,?_⟩) (by assumption) ?_
 rotate_left 1
 ·intro w' bA;try dsimp only at bA
  go_simp<;>with_reducible rfl
 try simp only[Act.put]
 refine wpAnyH_ready (rs:=[5]) (by kernel_rfl) (by simp) ?_;refine AllReadyH.cons (o:=_) rfl (fun K hK=> ?_) ?_
 ·go_simp;go_at_call 50;refine (bI.out _).mono ?_;rintro e w' ⟨rfl,rfl⟩
  refine hK.out _ _ ?_ (fun bB=> ?_)
  ·exact⟨r0,j0⟩
  clear hK K;try simp only[Act.put]
  refine wpAnyH_ready (rs:=[7]) (by kernel_rfl) (by simp) ?_;refine AllReadyH.cons (o:=_) rfl (fun K hK=> ?_) ?_
  ·go_simp;go_at_call 49;refine (bF.out _ (by exact bG.out) (by exact HS.out)).mono ?_;rintro e w9 ⟨⟨v9,rfl⟩,bE,bC⟩;have bH:Hid (BK w9 H L2):=bE;have bD:Hid (w.grownBy w9 (some H)):=Zk (⟨bC.os,bC.tape,bC.output,bC.size,bC.block⟩);have r9:w9.cell? ⟨R,0,none⟩=some (.int .i64 P):=(bD.out.cell_far ⟨R,0,none⟩ hz1 hz3).trans r0;have j9:w9.cell? ⟨F3,0,none⟩=some (.int .i64 (j:Int)):=(bD.out.cell_far ⟨F3,0,none⟩ hz2 hz4).trans j0;clear bE bC
   refine hK.out _ _ ?_ (fun bB=> ?_)
   ·exact⟨r9,j9⟩
   clear hK K;try simp only[Act.put]
   refine wpAnyH_done (by kernel_rfl) ?_ _;refine Kp.normal ?_;exact HK.out _ _ _ _ _ _ _ _ w9 ⟨bH.out,bD.out⟩
  exact AllReadyH.nil
 exact AllReadyH.nil
open Go.RowKit Go.Shelf
section
variable {P:Program}
end
theorem zEx:(Tryz.prog.info? 114).map (fun i=>(i.zero,i.size,i.bytes))=some (some (.agg #[.int .i64 0,.int .i64 0]),2,16):=by kernel_rfl
theorem SCl.at0{w:World}{A:Option Addr}{n c:Nat}{l:List (Int×Bool)}(h:SCl w (.slice A n c) l)(h0:0<l.length):∃b off,A=some ⟨b,off,none⟩∧b<w.heap.size∧∀j (h:j<l.length),w.cell? ⟨b,off+j*2,none⟩=some (.int .i64 l[j].1)∧w.cell? ⟨b,off+j*2+1,none⟩=some (.bool l[j].2):=by
 obtain⟨A',c',e,_,_,_,ha⟩:=h;injection e with e1 e2 e3;subst e1;exact ha h0
theorem SCl.rng{w:World}{v:Value}{l:List (Int×Bool)}(h:SCl w v l):∀x∈l,At x.1:=by
 obtain⟨A,c,rfl,_,_,hr,_⟩:=h;exact hr
end Go.Proofs.YtoiabanpnkpbhaaGreatDoor
