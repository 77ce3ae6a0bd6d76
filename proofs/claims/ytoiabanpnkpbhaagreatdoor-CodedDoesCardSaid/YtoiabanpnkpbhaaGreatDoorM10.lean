/- Parts. -/
import Derived.RangeFuncNested
import Derived.RangeFuncBound
import Derived.RangeFuncCalls
import Derived.RangeFuncLeaves
import Derived.RangeFuncBox
import Derived.Shelf.Abstract
import Derived.Shelf.RegionOpen
import Derived.OwnWalkIn
import Derived.TacticsInMore
import Derived.LoopNIn
import Derived.LoopIn
import Derived.Test.YtoiabanpnkpbhaaGreatDoorM09
set_option linter.unusedVariables false
set_option linter.unusedSimpArgs false
set_option maxRecDepth 100000
set_option maxHeartbeats 4000000
namespace Go.Proofs.YtoiabanpnkpbhaaGreatDoor
open Go.RowKit Go.Shelf
attribute [local go_sem] Oper.semAt_some
def KB(K:Nat→Prop)(A B:World):Prop:=A.heap.size≤B.heap.size∧∀p:Addr,K p.block→B.cell? p=A.cell? p
theorem KB.refl(K:Nat→Prop)(A:World):KB K A A:=⟨Zl _,fun _ _=>rfl⟩
theorem Il{K:Nat→Prop}{A B C:World}(h:KB K A B)(k:KB K B C):KB K A C:=⟨Nat.le_trans h.1 k.1,fun p hp=>(k.2 p hp).trans (h.2 p hp)⟩
theorem zCd{K:Nat→Prop}{w:World}(hn:∀k,K k→k<w.heap.size)(W:World)(l:Nat)(o o':Obj)(hl:w.heap.size≤l)(h:W.heap[l]? =some o)(h1:o.isCells=false)(h2:o.isWalk=false):KB K W (W.putObj l o'):=by
 have hb:=belowK_b (w:=w) (Zl _) W l o o' hl h h1 h2;exact⟨hb.size,fun _ hp=>hb.cell (hn _ hp)⟩
theorem KB.of{K:Nat→Prop}{n:Nat}{A B:World}(h:Below n A B)(hn:∀k,K k→k<n):KB K A B:=⟨h.size,fun _ hp=>h.cell (hn _ hp)⟩
theorem KB.grown{K:Nat→Prop}{A B:World}{r:Option Nat}(h:A.grownBy B r)(hn:∀k,K k→k<A.heap.size∧some k≠r):KB K A B:=
 ⟨h.size,fun p hp=>World.cell?_of_block (h.block p.block (hn _ hp).1 (hn _ hp).2)⟩
def upf(n k:Nat):List (Fin n):=(List.range k).filterMap fun i=>if h:n-1-i<n then some ⟨n-1-i,h⟩ else none
theorem Nd{n k:Nat}(h:k<n):upf n (k+1)=upf n k++[⟨n-1-k,by omega⟩]:=by
 unfold upf;rw[List.range_succ,List.filterMap_append];have:n-1-k<n:=by omega
 simp[this]
theorem Tr{n k:Nat}(h:k≤n):(upf n k).length=k:=by
 induction k with
 |zero=>rfl
 |succ k ih=>rw[Nd (by omega),List.length_append,ih (by omega)];rfl
def fv(P x:Int)(l:List Int)(ys:List (Fin l.length)):Int:=ys.foldl (fun s j=>(s*x+l[j])%P) 0
theorem Ol(P x:Int)(l:List Int)(ys:List (Fin l.length))(j:Fin l.length):fv P x l (ys++[j])=(fv P x l ys*x+l[j])%P:=by simp[fv]
theorem zGj(P x:Int)(l:List Int)(k:Nat)(h:k≤l.length):fv P x l (upf l.length k)=val P (l.drop (l.length-k)) x:=by
 induction k with
 |zero=>simp[upf,fv,val]
 |succ k ih=>
  rw[Nd (by omega),Ol,ih (by omega),show l.length-k=l.length- (k+1)+1 by omega];rw[Ru (k:=l.length- (k+1)) (by omega)];have e:l.length-1-k=l.length- (k+1):=by omega
  simp only[Fin.getElem_fin,e]
theorem fv_bd{P:Int}(hP:2≤P)(x:Int)(l:List Int)(ys:List (Fin l.length)):0≤fv P x l ys∧fv P x l ys<P:=by
 rw[←List.reverse_reverse ys];generalize ys.reverse=m
 cases m with
 |nil=>simp only[List.reverse_nil,fv,List.foldl_nil];omega
 |cons a m=>rw[List.reverse_cons,Ol];exact⟨Int.emod_nonneg _ (by omega),Int.emod_lt_of_pos _ (by omega)⟩
theorem zCi(n:Nat)(hn:1≤n)(l Bs b off c:Nat)(K:Nat→Prop)(zs:List Int)(hb:K b)(hBsK:K Bs)(hz:zs.length≤1152921504606846976)(J Jx:List (Fin zs.length)→World→Prop)
  (hY:∀pre x W,J pre W→pre.length<zs.length→YieldAt Fence.wide (n-1) Tryz.prog l #[.int .i64 (x.1:Int),.int .i64 zs[x]] W fun e W'=>
   (e= .returned (.bool true)∧J (pre++[x]) W'∧KB K W W')∨(e= .returned (.bool false)∧Jx (pre++[x]) W'))
  (W:World) (hBs:W.cell? ⟨Bs,0,none⟩=some (.slice (some ⟨b,off,none⟩) zs.length c)) (hc:∀j (h:j<zs.length),W.cell? ⟨b,off+j,none⟩=some (.int .i64 zs[j])) (h0:J [] W):
  CallsIn Fence.wide n Tryz.prog 100 #[.func (.yield l) #[] #[],.pointer (some ⟨Bs,0,none⟩)] W fun e W'=>(∃v,e= .returned v)∧
   ((∃ys,ys=upf zs.length zs.length∧J ys W')∨(∃pre,(∃k,k≤zs.length∧pre=upf zs.length k)∧Jx pre W')):=by
 refine callsIn_of_wp Tryz.func100 rfl trivial ?_ rfl;simp only[Tryz.ntmps100,List.size_toArray,List.length_cons,List.length_nil,Nat.reduceAdd,Nat.reduceSub,Array.replicate_succ,Array.replicate_zero,List.push_toArray,List.append_toArray,List.nil_append,List.cons_append];have HC:=Zk hc;have HY:=Zk hY;clear hc hY;gi_wp2_with fail
 gi_loopw [3] (fun i wr=>∃(k:Nat) (m:Int),k≤zs.length∧i= .int .i64 m∧m+1+(k:Int)≤(zs.length:Int)∧(zs.length:Int)≤m+1+(k:Int)∧J (upf zs.length k) wr∧KB K W wr)
  (fun i _=>(intOf i+1).toNat)
 case atStart=>exact⟨0,(zs.length:Int)-1,Nat.zero_le _,rfl,by omega,by omega,h0,KB.refl _ _⟩
 case round=>
  obtain⟨k,m,hk,rfl,hm1,hm2,aD,aA⟩:=hrel;have hBs':=(aA.2 ⟨Bs,0,none⟩ hBsK).trans hBs;have HN:=Zk aA;by_cases hlt:k<zs.length
  ·obtain⟨m,rfl⟩:∃q:Nat,m=q:=⟨m.toNat,by omega⟩;have aE:m=zs.length-1-k:=by omega
   have aC:m<zs.length:=by omega
   have hcx:=(aA.2 ⟨b,off+m,none⟩ hb).trans (HC.out m aC);obtain⟨fn,tmps,assign,body,hy,hR⟩:=HY.out _ ⟨m,aC⟩ wr aD (by rw[Tr hk];exact hlt);dsimp only[Fin.getElem_fin] at hy;have HU:Hid (upf zs.length (k+1)=upf zs.length k++[⟨m,aC⟩]):=by subst aE;exact Nd hlt
   have hd1:decide ((0:Int)≤(m:Int))=true:=Ze (by omega);clear aA aE
   gi_wp2
   refine hR.mono ?_;rintro e W3 (⟨rfl,aF,aG⟩|⟨rfl,aB⟩)
   ·gi_wp2
    go_roundw
    case rel=>exact⟨k+1,(m:Int)-1,by omega,rfl,by omega,by omega,by rw[HU.out];exact aF,Il HN.out aG⟩
    case measure=>simp[intOf]
   ·gi_wp2
    refine bodyPost_ret (results_none rfl _ _ _) rfl ?_;exact⟨⟨_,rfl⟩,.inr ⟨_,⟨k+1,by omega,HU.out.symm⟩,aB⟩⟩
  ·obtain rfl:k=zs.length:=by omega
   obtain rfl:m= -1:=by omega
   clear aA
   gi_wp2
   go_end0
   exact⟨⟨_,rfl⟩,.inl ⟨_,rfl,aD⟩⟩
theorem Xm(n l Bs c:Nat)(A:Option Addr)(J:World→Prop)(W:World)(hBs:W.cell? ⟨Bs,0,none⟩=some (.slice A 0 c))(h0:J W):
  CallsIn Fence.wide n Tryz.prog 100 #[.func (.yield l) #[] #[],.pointer (some ⟨Bs,0,none⟩)] W fun e W'=>(∃v,e= .returned v)∧J W':=by
 refine callsIn_of_wp Tryz.func100 rfl trivial ?_ rfl;simp only[Tryz.ntmps100,List.size_toArray,List.length_cons,List.length_nil,Nat.reduceAdd,Nat.reduceSub,Array.replicate_succ,Array.replicate_zero,List.push_toArray,List.append_toArray,List.nil_append,List.cons_append];gi_wp2_with fail
 gi_loopw [3] (fun i wr=>i= .int .i64 (-1)∧J wr) (fun _ _=>0)
 case atStart=>exact⟨rfl,h0⟩
 case round=>
  obtain⟨rfl,aA⟩:=hrel
  gi_wp2
  go_end0
  exact⟨⟨_,rfl⟩,aA⟩
theorem Vr(n:Nat)(hn:1≤n)(Bs:Nat)(K:Nat→Prop)(zs:List Int)(A:Option Addr)(c:Nat)(hBsK:K Bs)(hz:zs.length≤1152921504606846976)(w:World)(hK:∀k,K k→k<w.heap.size)
  (hBs:w.cell? ⟨Bs,0,none⟩=some (.slice A zs.length c)) (h:0<zs.length→∃b aB,A=some ⟨b,aB,none⟩∧K b∧∀j (h:j<zs.length),w.cell? ⟨b,aB+j,none⟩=some (.int .i64 zs[j])):
  SeqStopsK Fence.wide n Tryz.prog 100 #[.pointer (some ⟨Bs,0,none⟩)] (fun x:Fin zs.length=> #[.int .i64 (x.1:Int),.int .i64 zs[x]]) (KB K) (fun ys=>ys=upf zs.length zs.length) (fun pre=>∃k,k≤zs.length∧pre=upf zs.length k) zs.length w:=fun l J Jx W hW _ _ hY h0=>by
 have aA:=(hW.cell (p:=⟨Bs,0,none⟩) (hK _ hBsK)).trans hBs;by_cases hl:zs.length=0
 ·rw[hl] at aA;refine (Xm n l Bs c A (J []) W aA h0).mono fun e W' ⟨he,hj⟩=>⟨he,.inl ⟨[],?_,hj⟩⟩
  rw[hl];rfl
 ·obtain⟨b,aB,rfl,aC,hc⟩:=h (by omega);exact zCi n hn l Bs b aB c K zs aC hBsK hz J Jx hY W aA (fun j hj=>(hW.cell (p:=⟨b,aB+j,none⟩) (hK _ aC)).trans (hc j hj)) h0
theorem zCj(A:Option Addr)(n c:Nat)(w:World):
  Calls Tryz.prog 81 #[.slice A n c] w fun e w'=>e= .returned (.func (.func 100) #[] #[.pointer (some ⟨w.heap.size,0,none⟩)])∧w'=w.alloc (.cells #[.slice A n c] 22):=by
 go_enter Tryz.func81,Tryz.ntmps81;go_wp2
 go_ret;exact⟨rfl,rfl⟩
theorem VEnd{P x y s:Int}{l:List Int}{pre:List (Fin l.length)}{j:Fin l.length}{w W0 W:World}(HF:fv P x l (pre++[j])=y)
  (d0:W.cell? ⟨w.heap.size,0,none⟩=some (.int .i64 P)) (d1:W.cell? ⟨w.heap.size+1,0,none⟩=some (.int .i64 x)) (d2:W.cell? ⟨w.heap.size+2,0,none⟩=some (.int .i64 s)) (g2:W.frozen? ⟨w.heap.size+2,0,none⟩=false) (hB:Below w.heap.size w W):
  KeepsFrom W0.heap.size W (W.setCell ⟨w.heap.size+2,0,none⟩ (.int .i64 y)).drew∧KB (fun b=>b<w.heap.size+4∧b≠w.heap.size+2) W (W.setCell ⟨w.heap.size+2,0,none⟩ (.int .i64 y)).drew∧
   ((W.setCell ⟨w.heap.size+2,0,none⟩ (.int .i64 y)).drew.cell? ⟨w.heap.size,0,none⟩=some (.int .i64 P)∧(W.setCell ⟨w.heap.size+2,0,none⟩ (.int .i64 y)).drew.cell? ⟨w.heap.size+1,0,none⟩=some (.int .i64 x)∧
    (W.setCell ⟨w.heap.size+2,0,none⟩ (.int .i64 y)).drew.cell? ⟨w.heap.size+2,0,none⟩=some (.int .i64 (fv P x l (pre++[j])))∧(W.setCell ⟨w.heap.size+2,0,none⟩ (.int .i64 y)).drew.frozen? ⟨w.heap.size+2,0,none⟩=false)∧Below w.heap.size w (W.setCell ⟨w.heap.size+2,0,none⟩ (.int .i64 y)).drew:=by
 have hs:=(hB.setCell (p:=⟨w.heap.size+2,0,none⟩) (by show _≤w.heap.size+2;omega) (.int .i64 y)).drew;refine⟨((KeepsOthers.setCell _ _ _).trans (KeepsOthers.drew _)).from _,⟨by simp[World.setCell],fun p hp=> ?_⟩,⟨?_,?_,?_,?_⟩,hs⟩
 ·show (W.setCell _ _).cell? p=_;exact World.cell?_setCell_other _ _ _ _ (fun e=>hp.2 (by rw[←e]))
 ·exact (World.cell?_setCell_other _ _ _ _ (by simp)).trans d0
 ·exact (World.cell?_setCell_other _ _ _ _ (by simp)).trans d1
 ·rw[HF];exact World.cell?_setCell_same _ _ _ d2
 ·show (W.setCell _ _).frozen? _=_;rw[World.frozen?_setCell];exact g2
theorem zBx(P x:Int)(l:List Int)(v:Value)(w:World)(hP:2≤P∧P≤65521)(hx:0≤x∧x<P)(hl:els P l=true)(hlen:l.length≤1000000)(h:SI w v l):
  CallsIn Fence.wide 5 Tryz.prog 54 #[.int .i64 P,v,.int .i64 x] w fun e w'=>e= .returned (.int .i64 (val P l x))∧Below w.heap.size w w':=by
 obtain⟨A,c,rfl,aI,hm,hr,ha⟩:=h;have HA:=Zk ha;have HL:=Zk hl;clear hr ha hl;refine callsIn_of_wp_marks Tryz.func54 rfl trivial ?_ rfl;simp only[Tryz.ntmps54,List.size_toArray,List.length_cons,List.length_nil,Nat.reduceAdd,Nat.reduceSub,Array.replicate_succ,Array.replicate_zero,List.push_toArray,List.append_toArray,List.nil_append,List.cons_append];gi_wp2_with fail
 refine⟨trivial,(callsIn_wide.2 (zCj _ _ _ _)).mono ?_⟩;rintro e w' ⟨rfl,rfl⟩;obtain⟨W0,eW⟩:∃W0:World,W0=(((w.alloc (.cells #[.int .i64 P] 85)).alloc (.cells #[.int .i64 x] 3)).alloc (.cells #[.int .i64 0] 3)).alloc (.cells #[.slice A l.length c] 22):=⟨_,rfl⟩;have aE:Below w.heap.size w W0:=by rw[eW];exact ((((Zb _ _).alloc (Zl _) _).alloc (by simp) _).alloc (by simp;omega) _).alloc (by simp;omega) _
 have aG:W0.heap.size=w.heap.size+4:=by rw[eW];simp
 have c0:W0.cell? ⟨w.heap.size,0,none⟩=some (.int .i64 P):=by rw[eW];simp[go_sem]
 have c1:W0.cell? ⟨w.heap.size+1,0,none⟩=some (.int .i64 x):=by rw[eW];simp[go_sem]
 have c2:W0.cell? ⟨w.heap.size+2,0,none⟩=some (.int .i64 0):=by rw[eW];simp[go_sem]
 have c3:W0.cell? ⟨w.heap.size+3,0,none⟩=some (.slice A l.length c):=by rw[eW];simp[go_sem]
 have f2:W0.frozen? ⟨w.heap.size+2,0,none⟩=false:=by rw[eW];simp[go_sem]
 have aD:=Zk aG;have aC:w.heap.size+3<W0.heap.size:=by omega
 clear aG;gi_wp2_with fail
 rw[show w.heap.size+1+1+1=w.heap.size+3 from rfl,show w.heap.size+1+1=w.heap.size+2 from rfl];rw[←eW];clear eW;refine wpIn_rangeFunc_ownG rfl (by omega) (gf:=100) (lb:= #[.pointer (some ⟨w.heap.size+3,0,none⟩)]) rfl trivial (enters_of Tryz.func100 (by kernel_rfl) rfl)
  (Vr 4 (by omega) (w.heap.size+3) (fun b=>b<w.heap.size+4∧b≠w.heap.size+2) l A c ⟨by omega,by omega⟩ (by omega) W0 (fun k hk=>by have:=aD.out;omega) c3
   (fun h0=>by
    obtain⟨b,aH,e,hb,hc⟩:=HA.out h0;exact⟨b,aH,e,⟨by omega,by omega⟩,fun j hj=>(aE.cell (p:=⟨b,aH+j,none⟩) hb).trans (hc j hj)⟩))
  Il (zCd (fun k hk=>by have:=aD.out;omega)) (Zb _ _) (fun _=>rfl)
  (fun pre W=>(W.cell? ⟨w.heap.size,0,none⟩=some (.int .i64 P)∧W.cell? ⟨w.heap.size+1,0,none⟩=some (.int .i64 x)∧W.cell? ⟨w.heap.size+2,0,none⟩=some (.int .i64 (fv P x l pre))∧W.frozen? ⟨w.heap.size+2,0,none⟩=false)∧Below w.heap.size w W)
  (fun _ _ _=>False)
  (OwnFrom.and (Own.from (fun s A B row hs hg hr=>⟨cell_kept hs.1 hg hr,cell_kept hs.2.1 hg hr,cell_kept hs.2.2.1 hg hr,(frozen_kept hs.2.2.1 hg hr).trans hs.2.2.2⟩) _) (ownFrom_below (Zl _) (by omega)))
  (fun _ _ _ _ _ hs _ _=>hs)
  ⟨⟨c0,c1,c2,f2⟩,aE⟩
  (fun j=>{tmps:= #[.int .i64 P,.slice A l.length c,.int .i64 x,.pointer (some ⟨w.heap.size,0,none⟩),undef,.pointer (some ⟨w.heap.size+1,0,none⟩),.int .i64 0,.pointer (some ⟨w.heap.size+2,0,none⟩),undef,.int .i64 l[j],.slice A l.length c,.func (.func 100) #[] #[.pointer (some ⟨w.heap.size+3,0,none⟩)],.int .i64 (j.1:Int),.int .i64 l[j],undef,undef,undef,undef,undef,undef,undef,undef],defers:=[]}) ?assign ?body ?done ?stop
 case assign=>
  intro l x W K hK
  gi_wp2
  exact hK
 case body=>
  rintro lr pre j W ⟨⟨d0,d1,d2,g2⟩,hB⟩ _;have aF:=fv_bd hP.1 x l pre;have aB:=Co (Be HL.out _ (List.getElem_mem j.2));have HF:Hid (fv P x l (pre++[j])=(fv P x l pre*x+l[j])%P):=Ol _ _ _ _ _;generalize fv P x l pre=s at d2 aF HF;simp only[Fin.getElem_fin] at HF aB⊢;obtain⟨a,ea⟩:∃a,a=l[j.1]:=⟨_,rfl⟩;rw[←ea] at HF aB⊢;clear ea;have aJ:0≤s*x%P:=Int.emod_nonneg _ (by omega);have aK:s*x%P<P:=Int.emod_lt_of_pos _ (by omega);have hfo:Tryz.prog.follows .mixedOrders=true:=by kernel_rfl
  clear HA HL c0 c1 c2 c3 f2 aI hm hlen aC;gi_wp2_with fail
  gi_region_with_o (first|(refine⟨trivial,?_⟩;gi_at_call 53;refine (CallsIn.inRound lr (callsIn_wide.2 (Ef _ _ _ _ hP aF hx))).mono ?_;rintro e w' ⟨rfl,rfl⟩)|(refine⟨trivial,?_⟩;gi_at_call 55;refine (CallsIn.inRound lr (callsIn_wide.2 (Kz _ _ _ _ hP ⟨aJ,aK⟩ aB))).mono ?_;rintro e w' ⟨rfl,rfl⟩))
  all_goals
   gi_wp2_with fail
   exact VEnd HF.out d0 d1 d2 g2 hB
 case done=>
  rintro D ys W hD rfl ⟨⟨d0,d1,d2,g2⟩,hB⟩ hK;have aA:=zGj P x l l.length (Zl _);rw[Nat.sub_self,List.drop_zero] at aA;rw[aA] at d2;clear aA
  gi_wp2
  refine⟨by simp,.inl ⟨_,_,rfl,run_takeDeferred hK,?_⟩⟩;exact⟨_,results_tmp rfl _ _ _,rfl,hB.trans (belowK_b (w:=w) (Zl _) W D _ _ (by omega) hK rfl rfl)⟩
 case stop=>
  rintro D c pre W _ _ h _;exact h.elim
theorem Ik(P x:Int)(l:List Int)(v:Value)(w:World)(hP:2≤P∧P≤65521)(hx:0≤x∧x<P)(hl:els P l=true)(hlen:l.length≤1000000)(h:SI w v l):
  Calls Tryz.prog 54 #[.int .i64 P,v,.int .i64 x] w fun e w'=>e= .returned (.int .i64 (val P l x))∧Below w.heap.size w w':=
 callsIn_wide.1 (zBx P x l v w hP hx hl hlen h)
open Go.RowKit
def SL(w:World)(v:Value)(ls:List (List Int)):Prop:=
 ∃A c,v= .slice A ls.length c∧ls.length≤c∧c≤9223372036854775807∧
  (0<ls.length→∃b off,A=some ⟨b,off,none⟩∧b<w.heap.size∧∀j (h:j<ls.length),∃B d,w.cell? ⟨b,off+j,none⟩=some (.slice B ls[j].length d)∧SI w (.slice B ls[j].length d) ls[j])
theorem SL.below{w w':World}{v:Value}{ls:List (List Int)}(h:SL w v ls)(hb:Below w.heap.size w w'):SL w' v ls:=by
 obtain⟨A,c,rfl,hc,hm,ha⟩:=h;refine⟨A,c,rfl,hc,hm,fun h0=> ?_⟩
 obtain⟨b,aC,rfl,aB,aA⟩:=ha h0;refine⟨b,aC,rfl,by have:=hb.size;omega,fun j hj=> ?_⟩
 obtain⟨B,d,h1,h2⟩:=aA j hj;exact⟨B,d,(hb.cell aB).trans h1,SI.below h2 hb⟩
theorem SI.form{w:World}{v:Value}{l:List Int}(h:SI w v l):∃A c,v= .slice A l.length c:=by
 obtain⟨A,c,rfl,_⟩:=h;exact⟨A,c,rfl⟩
theorem SL.one{w:World}{A:Option Addr}{c:Nat}{l:List Int}(h:SI w (.slice A l.length c) l)(t:TypeId):SL (w.alloc (.cells #[.slice A l.length c] t)) (.slice (some ⟨w.heap.size,0,none⟩) 1 1) [l]:=by
 refine⟨_,1,rfl,Zl _,by omega,fun _=>⟨w.heap.size,0,rfl,by simp,fun j hj=> ?_⟩⟩
 have aA:j=0:=by simp at hj;omega
 subst aA;exact⟨A,c,Zc _ _ 0 _ _ (0,0) (Zh w _),SI.below h ((Zb _ _).alloc (Zl _) _)⟩
theorem SL.two{w:World}{A B:Option Addr}{c d:Nat}{l m:List Int}(h:SI w (.slice A l.length c) l)(h':SI w (.slice B m.length d) m)(t:TypeId):SL (w.alloc (.cells #[.slice A l.length c,.slice B m.length d] t)) (.slice (some ⟨w.heap.size,0,none⟩) 2 2) [l,m]:=by
 refine⟨_,2,rfl,Zl _,by omega,fun _=>⟨w.heap.size,0,rfl,by simp,fun j hj=> ?_⟩⟩
 have aA:j=0∨j=1:=by simp at hj;omega
 rcases aA with rfl|rfl
 ·exact⟨A,c,Zc _ _ 0 _ _ (0,0) (Zh w _),SI.below h ((Zb _ _).alloc (Zl _) _)⟩
 ·exact⟨B,d,Zc _ _ 1 _ _ (0,0) (Zh w _),SI.below h' ((Zb _ _).alloc (Zl _) _)⟩
def Dl(ls:List (List Int)):Bool:=ls.any fun l=>decide (512<l.length)
def opE(P:Int)(ls:List (List Int)):Int:=if prB P=false then 9 else if (ls.all (els P))=false then 9 else if Dl ls=true then 4 else 0
def opV(P:Int)(ls:List (List Int)):Int:=if opE P ls=0 then P else 0
theorem zFu{P:Int}{ls:List (List Int)}(h:prB P=false):opE P ls=9∧opV P ls=0:=by unfold opV opE;rw[if_pos h];exact⟨rfl,rfl⟩
theorem zFt{P:Int}{ls:List (List Int)}(h0:prB P=true){k:Nat}(hk:k<ls.length)(h:els P ls[k]=false):opE P ls=9∧opV P ls=0:=by
 have:ls.all (els P)=false:=by
  cases e:ls.all (els P) with
  |false=>rfl
  |true=>rw[List.all_eq_true] at e;have:=e _ (List.getElem_mem hk);rw[h] at this;cases this
 unfold opV opE;rw[h0,this];exact⟨rfl,rfl⟩
theorem Ll{P:Int}{ls:List (List Int)}(h0:prB P=true)(h:∀j (h:j<ls.length),els P ls[j]=true):(Dl ls=true→opE P ls=4∧opV P ls=0)∧(Dl ls=false→opE P ls=0∧opV P ls=P):=by
 have:ls.all (els P)=true:=by
  rw[List.all_eq_true];intro x hx;obtain⟨j,hj,rfl⟩:=List.mem_iff_getElem.1 hx;exact h j hj
 constructor
 ·intro hl;unfold opV opE;rw[h0,this,hl];exact⟨rfl,rfl⟩
 ·intro hl;unfold opV opE;rw[h0,this,hl];exact⟨rfl,rfl⟩
theorem Mh(ls:List (List Int))(k:Nat)(h:k<ls.length):Dl (ls.take (k+1))=(Dl (ls.take k)||decide (512<ls[k].length)):=by
 unfold Dl;rw[List.take_succ_eq_append_getElem h,List.any_append];simp
def OpRel(P:Int)(ls:List (List Int))(w:World)(i lg:Value)(wr:World):Prop:=
 ∃k:Nat,k≤ls.length∧i= .int .i64 k∧lg= .bool (Dl (ls.take k))∧(∀j (_:j<k) (h:j<ls.length),els P ls[j]=true)∧Below w.heap.size w wr
theorem Ra(P:Int)(ls:List (List Int))(v:Value)(w:World)(hP:At P)(h:SL w v ls):
  Calls Tryz.prog 91 #[.agg #[.int .i64 P],v] w fun e w'=>e= .returned (.tuple #[.int .i64 (opV P ls),.int .i64 (opE P ls)])∧Below w.heap.size w w':=by
 have aI:Below w.heap.size w (w.alloc (.cells #[.int .i64 P] 31)):=(Zb _ _).alloc (Zl _) _;obtain⟨A,c,rfl,hc,hm,ha⟩:=h;have HA:=Zk ha;clear ha
 cases hp:prB P with
 |false=>
  have HE:=Zk (zFu (ls:=ls) hp);have HP:=Zk hp;clear hp;go_enter Tryz.func91,Tryz.ntmps91;go_wp2_with fail;(with_reducible refine (Mn P _ hP).mono ?_);rintro e w1 ⟨rfl,aF⟩
  rw[HP.out];go_wp2_with fail;go_ret2;exact⟨by rw[HE.out.1,HE.out.2];rfl,aI.trans (aF.mono (by simp))⟩
 |true=>
  have HP:=Zk hp;have hPb:=Bj hp;clear hp;go_enter Tryz.func91,Tryz.ntmps91;go_wp2_with fail;(with_reducible refine (Mn P _ hP).mono ?_);rintro e w1 ⟨rfl,aF⟩
  rw[HP.out,Ku HP.out];have aL:=aI.trans (aF.mono (by simp));go_wp2_with fail;go_loopw [20,8] (fun i lg wr=>OpRel P ls w i lg wr) (fun i _ _=>ls.length- (intOf i).toNat)
  case atStart=>exact⟨0,Nat.zero_le _,rfl,rfl,fun j h=>absurd h (by omega),aL⟩
  case round=>
   obtain⟨k,hk,rfl,rfl,aE,hB⟩:=hrel;have aC:=Zk aE;clear aE;by_cases hlt:k<ls.length
   ·obtain⟨b,aQ,rfl,hb,aB⟩:=HA.out (by omega);obtain⟨B,d,aJ,hS⟩:=aB k hlt;have hck':=(hB.cell (p:=⟨b,aQ+k,none⟩) hb).trans aJ;have HS:=Zk (SI.below hS hB);have HL:=Zk (Mh ls k hlt);have aM:decide ((k:Int)<(ls.length:Int))=true:=Ze (by omega);have aN:decide (k<ls.length)=true:=Ze hlt;clear aB aJ hS;go_wp2_with fail;(with_reducible refine (Hp P ls[k] _ _ HS.out).mono ?_);rintro e w2 ⟨rfl,aH⟩
    cases he:els P ls[k] with
    |false=>
     have HE:=Zk (zFt HP.out hlt he);clear he;go_wp2_with fail;go_ret2;exact⟨by rw[HE.out.1,HE.out.2];rfl,hB.trans (aH.mono hB.size)⟩
    |true=>
     have HE:=Zk he;clear he;have aG:=hB.trans (aH.mono hB.size);have aA:Hid (∀j (_:j<k+1) (h:j<ls.length),els P ls[j]=true):=fun j h1 h2=>by
      by_cases e:j=k
      ·subst e;exact HE.out
      ·exact aC.out j (by omega) h2
     generalize Dl (ls.take k)=lb at HL⊢;by_cases h5:512<ls[k].length
     ·have aO:decide ((512:Int)<(ls[k].length:Int))=true:=Ze (by omega);have aP:decide (512<ls[k].length)=true:=Ze h5
      cases lb;all_goals
       go_wp2_with fail;go_roundw
       case rel=>exact⟨k+1,by omega,by go_num,by rw[HL.out,Ze h5];rfl,aA.out,aG⟩
       case measure=>simp[intOf];omega
     ·have aO:decide ((512:Int)<(ls[k].length:Int))=false:=Zd (by omega);have aP:decide (512<ls[k].length)=false:=Zd h5
      cases lb;all_goals
       go_wp2_with fail;go_roundw
       case rel=>exact⟨k+1,by omega,by go_num,by rw[HL.out,Zd h5];rfl,aA.out,aG⟩
       case measure=>simp[intOf];omega
   ·have aK:k=ls.length:=by omega
    have HE:=Zk (Ll HP.out (fun j hj=>aC.out j (by omega) hj))
    have HT:Hid (Dl (ls.take k)=Dl ls):=by show _=_;rw[aK,List.take_length]
    rw[HT.out];have aM:decide ((k:Int)<(ls.length:Int))=false:=Zd (by omega);have aN:decide (k<ls.length)=false:=Zd hlt;clear aK
    cases hl:Dl ls
    ·have aD:=Zk (HE.out.2 hl);clear hl;go_wp2_with fail;go_ret2;exact⟨by rw[aD.out.1,aD.out.2];rfl,hB⟩
    ·have aD:=Zk (HE.out.1 hl);clear hl;go_wp2_with fail;go_ret2;exact⟨by rw[aD.out.1,aD.out.2];rfl,hB⟩
theorem Lm(l:List Int)(v:Value)(w:World)(h:SI w v l)(hlen:l.length≤1000000):
  Calls Tryz.prog 95 #[v] w fun e w'=>∃v',e= .returned v'∧w'.ownsRow w.heap.size 3 1 v' (Bf l).length ((Bf l).map (Value.int .i64))∧Below w.heap.size w w':=by
 have HS:=Zk h;obtain⟨A,c,rfl⟩:=h.form;clear h;have hlen2:(Bf l).length≤1000000:=by have:=Da l;omega
 go_enter Tryz.func95,Tryz.ntmps95;go_wp2_with fail;(with_reducible refine (Na l A c _ HS.out).mono ?_);rintro e w' ⟨rfl,ht,rfl⟩
 have hT:SI w (.slice A (Bf l).length c) (Bf l):=by
  have:=SI.take HS.out (Da l)
  rwa [←ht] at this
 have HT:=Zk hT;clear ht hT;go_wp2_with (at_builtin;refine Bv _ rfl _ _ 22 rfl w.heap.size 3 Tryz.underlying22 Bi (.slice none 0 0) [] rfl (World.ownsRow_nil _ _ _ _) _ _ (Bf l) rfl HT.out (by simp;omega) (Zl _) ?_;intro v2 w2 aA aB);simp only[List.nil_append] at aA;go_ret;exact⟨_,rfl,aA,⟨aB.os,aB.tape,aB.output,aB.size,fun i hi=>aB.block i hi (by simp[Value.ownBlock])⟩⟩
theorem Qv(n:Nat):madeCells #[Value.int .i64 0] n=((Ay n).map (Value.int .i64)).toArray:=by
 apply Array.toList_inj.1;rw[toList_madeCells_one];simp[Ay]
theorem Bn{P:Program}(w:World){ops:Array Oper}{rest:List Oper}{o:Oper}{a:Act}{Q:Exit→Act→World→Prop}
  (hg:o.guard=none) (l c:Operand) (t:TypeId) (hop:o.op=Op.makeSlice t l c) (e:TypeId) (ht:P.underlying t=some (.slice e)) (hinfo:(P.info? e).map (fun i=>(i.zero,i.size,i.bytes))=some (some (.int .i64 0),1,8))
  (L:Int) (n:Nat) (hl:a.eval l= .int .i64 L) (hc:a.eval c= .int .i64 L) (hL:L=(n:Int)) (hn:n≤10000000)
  (hK:wpList P ops Q rest (a.put o.dst (.slice (some ⟨w.heap.size,0,none⟩) n n)) (w.alloc (.cells ((Ay n).map (Value.int .i64)).toArray e))):
  wpList P ops Q (o::rest) a w:=by
 obtain⟨i0,aD,aE,aB,aF⟩:=info_parts hinfo;subst hL;have aA:=run_makeSlice (P:=P) w t e i0 _ ht aD aE .i64 .i64 n n (by omega) (Int.le_refl _) (by rw[aB];simp;omega) (by rw[aF];omega) (by omega);simp only[Int.toNat_natCast] at aA;rw[aB,Nat.mul_one] at aA;have hm:madeCells (Value.int .i64 0).cells n=((Ay n).map (Value.int .i64)).toArray:=Qv n;rw[hm] at aA;refine wpList_plain hg fun K aC=> ?_
 unfold Oper.wp;simp[execOp,hop,hl,hc,aA,Result.andThen];exact aC _ _ hK
def TmRel(P:Int)(a b:List Int)(w:World)(g:Nat)(i:Value)(wr:World):Prop:=
 ∃k:Nat,k≤a.length∧i= .int .i64 k∧BK wr g (Cz P a b k)∧Below w.heap.size w wr
theorem Wt(P:Int)(a b:List Int)(va vb:Value)(w:World)(hP:2≤P∧P≤65521)(ha:SI w va a)(hb:SI w vb b)(hea:els P a=true)(heb:els P b=true)(h1:1≤a.length)(h2:1≤b.length)(h3:a.length≤1000000)(h4:b.length≤1000000):
  Calls Tryz.prog 94 #[.int .i64 P,va,vb] w fun e w'=>∃g,e= .returned (.slice (some ⟨g,0,none⟩) (Du P a b).length (Du P a b).length)∧BK w' g (Du P a b)∧w.heap.size≤g∧Below w.heap.size w w':=by
 obtain⟨A1,c1,rfl,hc1,hm1,aX,aH⟩:=id ha;obtain⟨A2,c2,rfl⟩:=hb.form;have HA:=Zk aH;have aE:=Zk hb;have aL:=Zk hea;have aM:=Zk heb;clear aX aH ha hb hea heb;have hn:((a.length:Int)+(b.length:Int)-1).toNat=a.length+b.length-1:=by omega
 have aJ:((a.length:Int)+(b.length:Int)-1)=((a.length+b.length-1:Nat):Int):=by omega
 have HX:=Zk aJ;have aF:=Zk (Fh P a b);clear aJ hn;go_enter Tryz.func94,Tryz.ntmps94;go_wp2_with (at_make;refine Bn _ rfl _ _ 22 rfl 3 Tryz.underlying22 Bi _ (a.length+b.length-1) rfl rfl HX.out (by omega) ?_);obtain⟨w0,ew⟩:∃w0:World,w0=w.alloc (.cells ((Ay (a.length+b.length-1)).map (Value.int .i64)).toArray 3):=⟨_,rfl⟩;have aS:Below w.heap.size w w0:=by rw[ew];exact (Zb _ _).alloc (Zl _) _
 have hz0:w.heap.size<w0.heap.size:=by rw[ew];simp
 have aG:BK w0 w.heap.size (Cz P a b 0):=by rw[ew];exact Zh w _
 have aN:=Zk aG;rw[←ew];clear ew aG;go_loopw [19] (fun i wr=>TmRel P a b w w.heap.size i wr) (fun i _=>a.length- (intOf i).toNat)
 case atStart=>exact⟨0,Nat.zero_le _,rfl,aN.out,aS⟩
 case round=>
  obtain⟨k,hk,rfl,aC,hB⟩:=hrel;have aD:=Zk aC;have hzr:w.heap.size<wr.heap.size:=aC.lt;clear aC;by_cases hlt:k<a.length
  ·obtain⟨b2,aY,rfl,aB,aA⟩:=HA.out (by omega);have hck:=(hB.cell (p:=⟨b2,aY+k,none⟩) aB).trans (aA k hlt);have aV:=Co (Be aL.out _ (List.getElem_mem hlt));have aP:Hid (Cz P a b (k+1)=Bl P (Cz P a b k) k a[k] b):=by show _=_;rw[Hn,Bw hlt]
   have aQ:=Zk (SI.below aE.out hB);have aT:decide ((k:Int)<(a.length:Int))=true:=Ze (by omega);have aU:decide (k<a.length)=true:=Ze hlt;have aO:Hid (∀q,(Value.slice A2 b.length c2).ownBlock=some q→q≠w.heap.size):=fun q hq=>by
    obtain⟨A',c',e,_,_,_,hx⟩:=aE.out;injection e with e1 e2 e3;subst e1;obtain⟨b',off',e4,hb',_⟩:=hx (by omega);subst e4;simp[Value.ownBlock] at hq;omega
   have aR:=Zk (Gu (P:=P) hP.1 a b k);have z1:(k:Int)≤((a.length+b.length-1:Nat):Int):=by omega
   have z2:k≤a.length+b.length-1:=by omega
   clear aA;go_wp2_with fail;(with_reducible refine (Gf P w.heap.size k _ _ (Cz P a b k) a[k] b _ _ hP aV aR.out aM.out aD.out aQ.out aO.out (by omega) (by rw[aF.out];omega)).mono ?_);rintro e w2 ⟨⟨v2,rfl⟩,aB,aW⟩
   have aK:=Zk aB;clear aB;go_wp2_with fail;go_roundw
   case rel=>exact⟨k+1,by omega,by go_num,by rw[aP.out];exact aK.out,Below.grown hB aW hB.size (fun q e=>by cases e;exact Zl _)⟩
   case measure=>simp[intOf];omega
  ·have aI:k=a.length:=by omega
   have HF:Hid (BK wr w.heap.size (Du P a b)):=by show BK _ _ _;have:=aD.out;rwa [aI] at this
   have HL:Hid ((Du P a b).length=a.length+b.length-1):=aF.out a.length;have aT:decide ((k:Int)<(a.length:Int))=false:=Zd (by omega);have aU:decide (k<a.length)=false:=Zd hlt;clear aI;go_wp2_with fail;go_ret;exact⟨w.heap.size,by rw[HL.out];rfl,HF.out,Zl _,hB⟩
end Go.Proofs.YtoiabanpnkpbhaaGreatDoor
