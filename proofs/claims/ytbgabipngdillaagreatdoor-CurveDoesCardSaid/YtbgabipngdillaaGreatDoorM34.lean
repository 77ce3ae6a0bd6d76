/- Parts. -/
import Derived.Test.YtbgabipngdillaaGreatDoorM32
import Derived.Test.YtbgabipngdillaaGreatDoorM33
set_option linter.unusedVariables false
set_option linter.unusedSimpArgs false
namespace Go.Proofs.YtbgabipngdillaaGreatDoor
open Go.RowKit
def frn:Nat→List Value→Prop
 |0,L=>L=[]
 |n+1,L=>∃a T,L=a::T∧frn n T
theorem Cz:∀L:List Value,frn L.length L
 |[]=>rfl
 |a::L=>⟨a,L,rfl,Cz L⟩
def seg:List Value→Nat→List Value→List Value
 |L,0,[]=>L
 |_::L,0,t::T=>t::seg L 0 T
 |a::L,n+1,T=>a::seg L n T
 |[],_,_=>[]
theorem Cv(L:List Value):seg L 0 []=L:=by unfold seg;rfl
theorem Cu(a t:Value)(L T:List Value):seg (a::L) 0 (t::T)=t::seg L 0 T:=by rw[seg]
theorem Ct(a:Value)(L T:List Value)(n:Nat):seg (a::L) (n+1) T=a::seg L n T:=by rw[seg]
set_option maxRecDepth 100000 in
theorem Df{p:List Value→Prop}{L:List Value}(hL:frn 419 L)(hp:∀s0 s1 s2 s3 s4 s5 s6 s7 s8 s9 s10 s11 s12 s13 s14 s15 s16 s17 s18 s19 s20 s21 s22 s23 s24 s25 s26 s27 s28 s29 s30 s31 s32 s33 s34 s35 s36 s37 s38 s39 s40 s41 s42 s43 s44 s45 s46 s47 s48 s49 s50 s51 s52 s53 s54 s55 s56 s57 s58 s59 s60 s61 s62 s63 s64 s65 s66 s67 s68 s69 s70 s71 s72 s73 s74 s75 s76 s77 s78 s79 s80 s81 s82 s83 s84 s85 s86 s87 s88 s89 s90 s91 s92 s93 s94 s95 s96 s97 s98 s99 s100 s101 s102 s103 s104 s105 s106 s107 s108 s109 s110 s111 s112 s113 s114 s115 s116 s117 s118 s119 s120 s121 s122 s123 s124 s125 s126 s127 s128 s129 s130 s131 s132 s133 s134 s135 s136 s137 s138 s139 s140 s141 s142 s143 s144 s145 s146 s147 s148 s149 s150 s151 s152 s153 s154 s155 s156 s157 s158 s159 s160 s161 s162 s163 s164 s165 s166 s167 s168 s169 s170 s171 s172 s173 s174 s175 s176 s177 s178 s179 s180 s181 s182 s183 s184 s185 s186 s187 s188 s189 s190 s191 s192 s193 s194 s195 s196 s197 s198 s199 s200 s201 s202 s203 s204 s205 s206 s207 s208 s209 s210 s211 s212 s213 s214 s215 s216 s217 s218 s219 s220 s221 s222 s223 s224 s225 s226 s227 s228 s229 s230 s231 s232 s233 s234 s235 s236 s237 s238 s239 s240 s241 s242 s243 s244 s245 s246 s247 s248 s249 s250 s251 s252 s253 s254 s255 s256 s257 s258 s259 s260 s261 s262 s263 s264 s265 s266 s267 s268 s269 s270 s271 s272 s273 s274 s275 s276 s277 s278 s279 s280 s281 s282 s283 s284 s285 s286 s287 s288 s289 s290 s291 s292 s293 s294 s295 s296 s297 s298 s299 s300 s301 s302 s303 s304 s305 s306 s307 s308 s309 s310 s311 s312 s313 s314 s315 s316 s317 s318 s319 s320 s321 s322 s323 s324 s325 s326 s327 s328 s329 s330 s331 s332 s333 s334 s335 s336 s337 s338 s339 s340 s341 s342 s343 s344 s345 s346 s347 s348 s349 s350 s351 s352 s353 s354 s355 s356 s357 s358 s359 s360 s361 s362 s363 s364 s365 s366 s367 s368 s369 s370 s371 s372 s373 s374 s375 s376 s377 s378 s379 s380 s381 s382 s383 s384 s385 s386 s387 s388 s389 s390 s391 s392 s393 s394 s395 s396 s397 s398 s399 s400 s401 s402 s403 s404 s405 s406 s407 s408 s409 s410 s411 s412 s413 s414 s415 s416 s417 s418:Value,p (s0::s1::s2::s3::s4::s5::s6::s7::s8::s9::s10::s11::s12::s13::s14::s15::s16::s17::s18::s19::s20::s21::s22::s23::s24::s25::s26::s27::s28::s29::s30::s31::s32::s33::s34::s35::s36::s37::s38::s39::s40::s41::s42::s43::s44::s45::s46::s47::s48::s49::s50::s51::s52::s53::s54::s55::s56::s57::s58::s59::s60::s61::s62::s63::s64::s65::s66::s67::s68::s69::s70::s71::s72::s73::s74::s75::s76::s77::s78::s79::s80::s81::s82::s83::s84::s85::s86::s87::s88::s89::s90::s91::s92::s93::s94::s95::s96::s97::s98::s99::s100::s101::s102::s103::s104::s105::s106::s107::s108::s109::s110::s111::s112::s113::s114::s115::s116::s117::s118::s119::s120::s121::s122::s123::s124::s125::s126::s127::s128::s129::s130::s131::s132::s133::s134::s135::s136::s137::s138::s139::s140::s141::s142::s143::s144::s145::s146::s147::s148::s149::s150::s151::s152::s153::s154::s155::s156::s157::s158::s159::s160::s161::s162::s163::s164::s165::s166::s167::s168::s169::s170::s171::s172::s173::s174::s175::s176::s177::s178::s179::s180::s181::s182::s183::s184::s185::s186::s187::s188::s189::s190::s191::s192::s193::s194::s195::s196::s197::s198::s199::s200::s201::s202::s203::s204::s205::s206::s207::s208::s209::s210::s211::s212::s213::s214::s215::s216::s217::s218::s219::s220::s221::s222::s223::s224::s225::s226::s227::s228::s229::s230::s231::s232::s233::s234::s235::s236::s237::s238::s239::s240::s241::s242::s243::s244::s245::s246::s247::s248::s249::s250::s251::s252::s253::s254::s255::s256::s257::s258::s259::s260::s261::s262::s263::s264::s265::s266::s267::s268::s269::s270::s271::s272::s273::s274::s275::s276::s277::s278::s279::s280::s281::s282::s283::s284::s285::s286::s287::s288::s289::s290::s291::s292::s293::s294::s295::s296::s297::s298::s299::s300::s301::s302::s303::s304::s305::s306::s307::s308::s309::s310::s311::s312::s313::s314::s315::s316::s317::s318::s319::s320::s321::s322::s323::s324::s325::s326::s327::s328::s329::s330::s331::s332::s333::s334::s335::s336::s337::s338::s339::s340::s341::s342::s343::s344::s345::s346::s347::s348::s349::s350::s351::s352::s353::s354::s355::s356::s357::s358::s359::s360::s361::s362::s363::s364::s365::s366::s367::s368::s369::s370::s371::s372::s373::s374::s375::s376::s377::s378::s379::s380::s381::s382::s383::s384::s385::s386::s387::s388::s389::s390::s391::s392::s393::s394::s395::s396::s397::s398::s399::s400::s401::s402::s403::s404::s405::s406::s407::s408::s409::s410::s411::s412::s413::s414::s415::s416::s417::s418::[])):p L:=by
 iterate 419 obtain⟨_,L,rfl,hL⟩:=hL
 subst hL;exact hp _ _ _ _ _ _ _ _ _ _ _ _ _ _ _ _ _ _ _ _ _ _ _ _ _ _ _ _ _ _ _ _ _ _ _ _ _ _ _ _ _ _ _ _ _ _ _ _ _ _ _ _ _ _ _ _ _ _ _ _ _ _ _ _ _ _ _ _ _ _ _ _ _ _ _ _ _ _ _ _ _ _ _ _ _ _ _ _ _ _ _ _ _ _ _ _ _ _ _ _ _ _ _ _ _ _ _ _ _ _ _ _ _ _ _ _ _ _ _ _ _ _ _ _ _ _ _ _ _ _ _ _ _ _ _ _ _ _ _ _ _ _ _ _ _ _ _ _ _ _ _ _ _ _ _ _ _ _ _ _ _ _ _ _ _ _ _ _ _ _ _ _ _ _ _ _ _ _ _ _ _ _ _ _ _ _ _ _ _ _ _ _ _ _ _ _ _ _ _ _ _ _ _ _ _ _ _ _ _ _ _ _ _ _ _ _ _ _ _ _ _ _ _ _ _ _ _ _ _ _ _ _ _ _ _ _ _ _ _ _ _ _ _ _ _ _ _ _ _ _ _ _ _ _ _ _ _ _ _ _ _ _ _ _ _ _ _ _ _ _ _ _ _ _ _ _ _ _ _ _ _ _ _ _ _ _ _ _ _ _ _ _ _ _ _ _ _ _ _ _ _ _ _ _ _ _ _ _ _ _ _ _ _ _ _ _ _ _ _ _ _ _ _ _ _ _ _ _ _ _ _ _ _ _ _ _ _ _ _ _ _ _ _ _ _ _ _ _ _ _ _ _ _ _ _ _ _ _ _ _ _ _ _ _ _ _ _ _ _ _ _ _ _ _ _ _ _ _ _ _ _ _ _ _ _ _ _ _ _ _ _ _ _ _ _ _ _ _ _ _ _ _ _ _ _ _ _ _ _ _ _ _ _ _ _ _ _ _ _
theorem SX.two{W W':World}{X:Option Nat}{g z:Nat}{v:Value}{l:List Int}(h1:SX W X (some g) v l)(h2:SX W X (some z) v l)(hg:W.grownBy W' (some g)):SX W' X (some z) v l:=by
 obtain⟨A,c,rfl,hc,hm,hr,ha⟩:=h1;obtain⟨A',c',e,_,_,_,aB⟩:=h2;injection e with e1 e2 e3;subst e1;refine⟨A,c,rfl,hc,hm,hr,fun h0=> ?_⟩
 obtain⟨b,aD,rfl,hb,hx,hy,aA⟩:=ha h0;obtain⟨b',off',e4,_,_,aC,_⟩:=aB h0;injection e4 with e5;injection e5 with e6;subst e6;exact⟨b,aD,rfl,Nat.lt_of_lt_of_le hb hg.size,hx,aC,fun j hj=>(World.cell?_of_block (hg.block b hb hy)).trans (aA j hj)⟩
theorem RW.two{G g z:Nat}{W W':World}{pv:Value}{vs:List Value}{ps:List (List Int)}(h:RW G g W pv vs ps)(h':RW G z W pv vs ps)(hgG:g<G)(hg:W.grownBy W' (some g)):RW G z W' pv vs ps:=
 ⟨h.len,Cb h.hdr fun b hb=>hg.block b (h.hdr.lt b hb).2 (by have:=(h.hdr.lt b hb).1;simp;omega),fun j h1 h2=>(h.row j h1 h2).two (h'.row j h1 h2) hg⟩
theorem SE.set2{g z:Nat}{w:World}{v:Value}{l:List Int}(h1:SE g w v l)(h2:SE z w v l)(u1 u2:Value):SE g ((w.setCell ⟨z,0,none⟩ u1).setCell ⟨z,1,none⟩ u2) v l:=by
 obtain⟨A,c,rfl,hc,hm,hr,ha⟩:=h1;obtain⟨A',c',e,_,_,_,aC⟩:=h2;injection e with e1 e2 e3;subst e1;refine⟨A,c,rfl,hc,hm,hr,fun h0=> ?_⟩
 obtain⟨b,aE,rfl,hb,hy,aA⟩:=ha h0;obtain⟨b',off',e4,_,aD,_⟩:=aC h0;injection e4 with e5;injection e5 with e6;subst e6;have aB:w.grownBy ((w.setCell ⟨z,0,none⟩ u1).setCell ⟨z,1,none⟩ u2) (some z):=Af (Ai (g:=z) (p:=⟨z,0,none⟩) (Ah _ _) (.inl rfl) u1) (Ai (g:=z) (p:=⟨z,1,none⟩) (Ah _ _) (.inl rfl) u2);exact⟨b,aE,rfl,Nat.lt_of_lt_of_le hb aB.size,hy,fun j hj=>(World.cell?_of_block (aB.block b hb (by simp;exact aD))).trans (aA j hj)⟩
theorem SE.two{g z:Nat}{w w':World}{v:Value}{l:List Int}(h1:SE g w v l)(h2:SE z w v l)(hg:w.grownBy w' (some g)):SE z w' v l:=by
 obtain⟨A,c,rfl,hc,hm,hr,ha⟩:=h1;obtain⟨A',c',e,_,_,_,aB⟩:=h2;injection e with e1 e2 e3;subst e1;refine⟨A,c,rfl,hc,hm,hr,fun h0=> ?_⟩
 obtain⟨b,aD,rfl,hb,hy,aA⟩:=ha h0;obtain⟨b',off',e4,_,aC,_⟩:=aB h0;injection e4 with e5;injection e5 with e6;subst e6;exact⟨b,aD,rfl,Nat.lt_of_lt_of_le hb hg.size,aC,fun j hj=>(World.cell?_of_block (hg.block b hb (by simp;exact hy))).trans (aA j hj)⟩
theorem SLE.set2'{g z:Nat}{w:World}{v:Value}{l:List (List Int)}(h1:SLE g w v l)(h2:SLE z w v l)(u1 u2:Value):SLE g ((w.setCell ⟨z,0,none⟩ u1).setCell ⟨z,1,none⟩ u2) v l:=by
 obtain⟨A,c,rfl,hc,hm,ha⟩:=h1;obtain⟨A',c',e,_,_,aE⟩:=h2;injection e with e1 e2 e3;subst e1;refine⟨A,c,rfl,hc,hm,fun h0=> ?_⟩
 obtain⟨b,aH,rfl,hb,hy,aB⟩:=ha h0;obtain⟨b',off',e4,_,aF,aA⟩:=aE h0;injection e4 with e5;injection e5 with e6 e7;subst e6 e7;have aC:w.grownBy ((w.setCell ⟨z,0,none⟩ u1).setCell ⟨z,1,none⟩ u2) (some z):=Af (Ai (g:=z) (p:=⟨z,0,none⟩) (Ah _ _) (.inl rfl) u1) (Ai (g:=z) (p:=⟨z,1,none⟩) (Ah _ _) (.inl rfl) u2);refine⟨b,aH,rfl,Nat.lt_of_lt_of_le hb aC.size,hy,fun j hj=> ?_⟩
 obtain⟨B,d,k1,k2⟩:=aB j hj;obtain⟨B',d',aD,aG⟩:=aA j hj;rw[k1] at aD;injection aD with e8;injection e8 with e9 e10 e11;subst e9 e11;exact⟨B,d,(World.cell?_of_block (aC.block b hb (by simp;exact aF))).trans k1,k2.set2 aG u1 u2⟩
def RoF(g n m:Nat)(P:Int)(w1:World)(v iv:Value)(wr:World):Prop:=
 ∃(k:Nat) (pv:Value) (vs:List Value) (rows:List (List Int)),pv=v∧k≤n∧iv= .int .i64 k∧rows.length=k∧(∀r∈rows,r.length=m∧els P r=true)∧(∀z,z<w1.heap.size→RW w1.heap.size z wr pv vs rows)∧Dk wr g∧w1.grownBy wr (some g)
set_option maxRecDepth 100000 in
set_option maxHeartbeats 4000000 in
theorem Um(g n m:Nat)(P:Int)(w:World)(hD:Dk w g)(hP:1≤P∧P≤65521)(hn:n≤1000)(hm:m≤100000):
  Calls Tryz.prog 24 #[.pointer (some ⟨g,0,none⟩),.agg #[.int .i64 P],.int .i64 n,.int .i64 m] w fun e w'=>∃v rows,e= .returned v∧rows.length=n∧(∀r∈rows,r.length=m∧els P r=true)∧Dk w' g∧w.grownBy w' (some g)∧∀z,z<w.heap.size→SLE z w' v rows:=by
 go_enter Tryz.func24,Tryz.ntmps24;obtain⟨F,eF⟩:∃F,F=w.heap.size:=⟨_,rfl⟩;obtain⟨w1,ew⟩:∃w1:World,w1=w.alloc (.cells #[.int .i64 P] 31):=⟨_,rfl⟩;have bL:Hid (w.alloc (.cells #[.int .i64 P] 31)=w1):=ew.symm;have aH:Hid (Below w.heap.size w w1):=Zk (by rw[ew];exact (Zb _ w).alloc (Zl _) _);have aU:Hid (w1.heap[F]? =some (.cells #[.int .i64 P] 31 (0,0))):=Zk (by show _=_;rw[ew,eF];exact Zh w _);have aR:Hid (Dk w1 g):=hD.below aH.out;have bH:Hid (g<F):=Zk (by rw[eF];exact hD.lt);have aC:Hid (g<w1.heap.size):=aR.out.lt;have HEF:=Zk eF;clear hD;go_upto_region 2 with fail
 rw[bL.out,←eF];clear ew eF;go_wp2_with fail;go_loopw [9,11] (fun v iv wr=>RoF g n m P w1 v iv wr) (fun _ iv _=>n- (intOf iv).toNat)
 case atStart=>exact⟨0,_,[],[],rfl,Nat.zero_le _,rfl,rfl,fun r hr=>by simp at hr,fun z _=>RW.nil _ _ _,aR.out,Ah _ _⟩
 case round=>
  obtain⟨k,pv,vs,rows,rfl,hk,rfl,aZ,aX,bB,hd,hg⟩:=hrel;have aD:=Zk bB;have aS:=Zk hd;have HG:=Zk hg;have aT:=Zk aX;have aM:=Zk aZ;have hz:=hg.size;clear bB hd hg aX aZ;by_cases hlk:k<n
  ·have dk:decide (k<n)=true:=Ze hlk;have f0:wr.cell? ⟨F,0,none⟩=some (.int .i64 P):=Zc wr F 0 _ _ _ ((HG.out.block F (Ae aU.out) (by have:=bH.out;simp;omega)).trans aU.out);go_wp2_with fail;(with_reducible refine (Nq g m P wr aS.out hP hm).mono ?_)
   rintro e w2 ⟨vx,ns,rfl,bA,aQ,aA,aW,aI⟩;obtain⟨A1,c1,rfl⟩:=Dv aA;have HOW:=Zk aA;have bD:=Zk aW;have bF:=Zk aI;have bI:=Zk bA;have bJ:=Zk aQ;have hz2:w1.heap.size≤w2.heap.size:=Nat.le_trans hz aI.size;have aE:Hid (∀z,z<w1.heap.size→RW w1.heap.size z w2 pv vs rows):=Zk (fun z hz=>(aD.out g aC.out).two (aD.out z hz) aC.out aI)
   have aL:Hid (w2.ownsRow w1.heap.size 22 1 pv vs.length vs):=Zk ((aE.out g aC.out).hdr);have aV:Hid (∀z,z<w1.heap.size→SX (w2.alloc (.cells #[.slice A1 ns.length c1] 22)) pv.ownBlock (some z) (.slice A1 ns.length c1) ns):=Zk (fun z aG=>SX.of_own (aA.alloc _) (Ch hP.2 aQ) (fun q hq=>((aD.out g aC.out).hdr.lt q hq).2) (fun q hq=>by injection hq with e;omega))
   have hvn:vs.length≤1000:=by have:=(aD.out g aC.out).len;have:=aM.out;omega
   obtain⟨n1,aP⟩:∃n1,n1=ns.length:=⟨_,rfl⟩;rw[←aP] at aV⊢;have HN1:=Zk aP;clear bA aQ aA aW aI f0 aP;go_wp2_with (at_builtin;refine Cl _ rfl _ _ 42 rfl w1.heap.size 22 (.slice none 0 0) 24 Tryz.underlying42 Hq pv vs.length vs rfl (aL.out.alloc _) (.slice A1 n1 c1) rfl w2.heap.size rfl (Ax w2 [.slice A1 n1 c1] 22 0 _ rfl) (by omega) (by omega) rfl (by simp;omega) ?_;intro g9 aO w9 aB aY aF;have bK:=Zk aB;have aJ:=Zk aY;have bC:=Zk aF;clear aB aY aF);have bG:Hid (w2.grownBy (w2.alloc (.cells #[.slice A1 n1 c1] 22)) (some g)):=Zk (Ag ((Zb _ w2).alloc (Zl _) _) _);have aN:Hid (∀z,z<w1.heap.size→RW w1.heap.size z w9 (.slice (some ⟨g9,0,none⟩) (vs.length+1) aO) (vs++[.slice A1 n1 c1]) (rows++[ns])):=(show Hid _ from
    fun z aG=>((aE.out z aG).below aG ((Zb _ w2).alloc (Zl _) _)).app (aV.out z aG) bK.out aJ.out (fun q hq=>by
     have e:g9=q:=by simpa [Value.ownBlock] using hq
     subst e;exact bC.out))
   have aK:Hid (w1.grownBy w9 (some g)):=Zk (Cc (Af (Af HG.out bF.out) bG.out) aJ.out (fun q hq=>(aL.out.lt q hq).1))
   have bE:Hid (Dk w9 g):=Zk ((bD.out.alloc _).grown aJ.out (fun q hq=>by have:=(aL.out.lt q hq).1;have:=aC.out;omega))
   go_roundw
   case rel=>exact⟨k+1,_,_,rows++[ns],rfl,by omega,by go_num,by have:=aM.out;simp;omega,fun r hr=>by
    rcases List.mem_append.1 hr with h|h
    ·exact aT.out r h
    ·simp at h;subst h;exact⟨bI.out,bJ.out⟩,aN.out,bE.out,aK.out⟩
   case measure=>simp[intOf];omega
  ·have dk:decide (k<n)=false:=Zd hlk;go_wp2_with fail;go_ret;exact⟨_,rows,rfl,by have:=aM.out;omega,aT.out,aS.out,Af (Ag aH.out _) HG.out,fun z aG=>(aD.out z (by have:=aH.out.size;omega)).sle (by have:=aH.out.size;omega)⟩
theorem Gq{w:World}{b off:Nat}{q:Addr}{v u:Value}(hne:q.block≠b)(hlt:b<w.heap.size)(h:w.cell? ⟨b,off,none⟩=some v):(w.setCell q u).cell? ⟨b,off,none⟩=some v:=
 (World.cell?_of_block ((Ai (g:=q.block) (Ah w _) (.inl rfl) u).block b hlt (by simp;exact fun e=>hne e.symm))).trans h
noncomputable def zAu:Code:=((Tryz.f5.body.bind (Ce 15)).getD .skip)
set_option maxRecDepth 1000000 in
set_option maxHeartbeats 4000000 in
theorem zEu(g F m wd:Nat)(P:Int)(vl:Value)(RT:List Int→Prop)(RR:List (List Int)→Prop)(w:World)(hX:∀W,w.grownBy W (some g)→W.cell? ⟨F,0,none⟩=some (.int .i64 P))(hD:Dk w g)(hT:∀W,w.grownBy W (some g)→Dk W g→Calls Tryz.prog 23 #[.pointer (some ⟨g,0,none⟩),vl] W fun e w'=>∃A1 c1 ns,e= .returned (.agg #[.slice A1 ns.length c1,.int .i64 0])∧RT ns∧Dk w' g∧W.grownBy w' (some g)∧∀z,z<W.heap.size→SE z w' (.slice A1 ns.length c1) ns)(hR:∀W,w.grownBy W (some g)→Dk W g→Calls Tryz.prog 24 #[.pointer (some ⟨g,0,none⟩),.agg #[.int .i64 P],.int .i64 m,.int .i64 wd] W fun e w'=>∃A n c rows,e= .returned (.slice A n c)∧RR rows∧Dk w' g∧W.grownBy w' (some g)∧∀z,z<W.heap.size→SLE z w' (.slice A n c) rows){lfr:List Value}{Q:Exit→Act→World→Prop}
  (hK:∀(aa ab ac ad ae af ag ah ai aj:Value) (Z:Nat) (v1:Value) (ns:List Int) (rows:List (List Int)) (w':World),aa= .pointer (some ⟨Z,0,none⟩)∧RT ns∧RR rows∧w.heap.size≤Z∧w'.heap[Z]? =some (.cells #[v1,.int .i64 0] 39 (0,0))∧SE g w' v1 ns∧SLE g w' ab rows∧Dk w' g∧w.grownBy w' (some g)→Q .normal ⟨(seg (seg lfr 29 [aa,ab]) 125 [ac,ad,ae,af,ag,ah,ai,aj]).toArray,[]⟩ w') (hL:frn 419 lfr) (bD:lfr[22]? =some (Value.pointer (some ⟨g,0,none⟩))) (bE:lfr[23]? =some (Value.pointer (some ⟨F,0,none⟩))) (bF:lfr[25]? =some (Value.int .i64 (m:Int))) (bG:lfr[26]? =some (Value.int .i64 (wd:Int))) (bH:lfr[27]? =some (vl)):
  Code.wp Tryz.prog zAu Q ⟨lfr.toArray,[]⟩ w:=by
 revert hK bD bE bF bG bH
 apply Df hL;iterate 419 intro _
 intro hK bD bE bF bG bH;simp only[List.getElem?_cons_succ,List.getElem?_cons_zero,Option.some.injEq] at bD bE bF bG bH;simp only[Ct,Cu,Cv] at hK;subst bD bE bF bG bH;have HK:=Zk hK;have HT:=Zk hT;have HR:=Zk hR;have HX:=Zk hX;have HD:=Zk hD;have f0:=hX w (Ah _ _);have aX:=hD.lt;have bQ:Hid (w.grownBy w (some g)):=Zk (Ah _ _);have bK:Hid (w.grownBy w.drew (some g)):=Zk (Ag (Zb _ w).drew _);have bS:Hid (Dk w.drew g):=Zk (hD.below (Zb _ w).drew);have bL:Hid (w.grownBy (w.alloc (.cells #[.slice none 0 0,.int .i64 0] 39)) (some g)):=Zk (Ag ((Zb _ w).alloc (Zl _) _) _);have bM:Hid (w.grownBy (w.alloc (.cells #[.slice none 0 0,.int .i64 0] 39)).drew (some g)):=Zk (Ag ((Zb _ w).alloc (Zl _) _).drew _);have bR:Hid (Dk (w.alloc (.cells #[.slice none 0 0,.int .i64 0] 39)) g):=Zk (hD.alloc _);have bJ:Hid (Dk (w.alloc (.cells #[.slice none 0 0,.int .i64 0] 39)).drew g):=Zk ((hD.alloc _).below (Zb _ _).drew);have bN:Hid (∀U V:World,g<U.heap.size→(U.alloc (.cells #[.slice none 0 0,.int .i64 0] 39)).grownBy V (some g)→V.heap[U.heap.size]? =some (.cells #[.slice none 0 0,.int .i64 0] 39 (0,0))∧V.cell? ⟨U.heap.size,0,none⟩=some (.slice none 0 0)∧V.cell? ⟨U.heap.size,1,none⟩=some (.int .i64 0)∧V.frozen? ⟨U.heap.size,0,none⟩=false∧V.frozen? ⟨U.heap.size,1,none⟩=false):=Zk (fun U V hU hg=>by
  have hv:=(hg.block U.heap.size (by simp) (by simp;omega)).trans (Zh U _);exact⟨hv,Zc V _ 0 _ _ _ hv,Zc V _ 1 _ _ _ hv,Zf V _ 0 _ _ hv,Zf V _ 1 _ _ hv⟩)
 clear hK hT hR hX hD;conv=>arg 2;whnf
 go_region_held3 (fun w'=>w'.cell? ⟨F,0,none⟩=some (.int .i64 P)) (first|exact f0|exact HX.out _ bL.out|exact HX.out _ (Af aD.out (Ag ((Zb _ _).alloc (Zl _) _) _))|exact HX.out _ (Hw aE.out aQ.out _ _)|exact HX.out _ (Af aE.out (Ag ((Zb _ _).alloc (Zl _) _) _))|go_keep)
  (first
   |(go_at_call 23;refine (HT.out _ (by first|exact bL.out|exact bM.out) (by first|exact bR.out|exact bJ.out)).mono ?_;rintro e8 w8 ⟨A8,c8,ns,rfl,aY,aH,aC,aZ⟩;have bC:=Zk aY;have aP:Hid (∀z,z<(w.alloc (.cells #[.slice none 0 0,.int .i64 0] 39)).heap.size→SE z w8 (.slice A8 ns.length c8) ns):=Zk (aZ);have aR:Hid (Dk w8 g):=Zk (aH);have aF:Hid ((w.alloc (.cells #[.slice none 0 0,.int .i64 0] 39)).grownBy w8 (some g)):=Zk (⟨aC.os,aC.tape,aC.output,aC.size,aC.block⟩);have aD:Hid (w.grownBy w8 (some g)):=Zk (Af bL.out aF.out);have aM:Hid (w.grownBy w8.drew (some g)):=Zk (Af aD.out (Ag (Zb _ w8).drew _));have aL:Hid (Dk w8.drew g):=Zk (aH.below (Zb _ w8).drew);obtain⟨aO,z0,z1,y0,y1⟩:=bN.out w w8 (by exact aX) (aF.out);have aG:=Zk aF.out;clear aO;have f0:=HX.out w8 aD.out;clear aY aH aC aZ)
   |(go_at_call 23;refine (HT.out _ (by first|exact bQ.out|exact bK.out) (by first|exact HD.out|exact bS.out)).mono ?_;rintro e8 w8 ⟨A8,c8,ns,rfl,aY,aH,aC,aZ⟩;have bC:=Zk aY;have aP:Hid (∀z,z<(w).heap.size→SE z w8 (.slice A8 ns.length c8) ns):=Zk (aZ);have aR:Hid (Dk w8 g):=Zk (aH);have aF:Hid ((w).grownBy w8 (some g)):=Zk (⟨aC.os,aC.tape,aC.output,aC.size,aC.block⟩);have aD:Hid (w.grownBy w8 (some g)):=Zk (Af bQ.out aF.out);have aM:Hid (w.grownBy w8.drew (some g)):=Zk (Af aD.out (Ag (Zb _ w8).drew _));have aL:Hid (Dk w8.drew g):=Zk (aH.below (Zb _ w8).drew);have aU:Hid (w.grownBy (w8.alloc (.cells #[.slice none 0 0,.int .i64 0] 39)) (some g)):=Zk (Af aD.out (Ag ((Zb _ _).alloc (Zl _) _) _));have aV:Hid (w.grownBy (w8.alloc (.cells #[.slice none 0 0,.int .i64 0] 39)).drew (some g)):=Zk (Af aD.out (Ag ((Zb _ _).alloc (Zl _) _).drew _));have bI:Hid (Dk (w8.alloc (.cells #[.slice none 0 0,.int .i64 0] 39)) g):=Zk (aH.alloc _);have aT:Hid (Dk (w8.alloc (.cells #[.slice none 0 0,.int .i64 0] 39)).drew g):=Zk ((aH.alloc _).below (Zb _ _).drew);have f0:=HX.out w8 aD.out;clear aY aH aC aZ)
   |(revert aG;intro aG;go_at_call 24;refine (HR.out _ (by first|exact aD.out|exact aM.out) (by first|exact aR.out|exact aL.out)).mono ?_;rintro e9 w9 ⟨A9,n9,c9,rows,rfl,aJ,aI,aB,aK⟩;have aW:=Zk aJ;have aN:Hid (∀z,z<(w8).heap.size→SLE z w9 (.slice A9 n9 c9) rows):=Zk (aK);have aS:Hid (Dk w9 g):=Zk (aI);have aA:Hid ((w8).grownBy w9 (some g)):=Zk (⟨aB.os,aB.tape,aB.output,aB.size,aB.block⟩);have aE:Hid (w.grownBy w9 (some g)):=Zk (Af aD.out aA.out);obtain⟨aO,z0,z1,y0,y1⟩:=bN.out w w9 (by exact aX) (Af aG.out aA.out);have bO:=Zk aO;have aQ:Hid (w.heap.size≤w.heap.size):=Zk (Zl _);clear aO;have f0:=HX.out w9 aE.out;clear aJ aI aB aK)
   |(go_at_call 24;refine (HR.out _ (by first|exact aD.out|exact aM.out) (by first|exact aR.out|exact aL.out)).mono ?_;rintro e9 w9 ⟨A9,n9,c9,rows,rfl,aJ,aI,aB,aK⟩;have aW:=Zk aJ;have aN:Hid (∀z,z<(w8).heap.size→SLE z w9 (.slice A9 n9 c9) rows):=Zk (aK);have aS:Hid (Dk w9 g):=Zk (aI);have aA:Hid ((w8).grownBy w9 (some g)):=Zk (⟨aB.os,aB.tape,aB.output,aB.size,aB.block⟩);have aE:Hid (w.grownBy w9 (some g)):=Zk (Af aD.out aA.out);have f0:=HX.out w9 aE.out;clear aJ aI aB aK)
   |(go_at_call 24;refine (HR.out _ (by first|exact aU.out|exact aV.out) (by first|exact bI.out|exact aT.out)).mono ?_;rintro e9 w9 ⟨A9,n9,c9,rows,rfl,aJ,aI,aB,aK⟩;have aW:=Zk aJ;have aN:Hid (∀z,z<(w8.alloc (.cells #[.slice none 0 0,.int .i64 0] 39)).heap.size→SLE z w9 (.slice A9 n9 c9) rows):=Zk (aK);have aS:Hid (Dk w9 g):=Zk (aI);have aA:Hid ((w8.alloc (.cells #[.slice none 0 0,.int .i64 0] 39)).grownBy w9 (some g)):=Zk (⟨aB.os,aB.tape,aB.output,aB.size,aB.block⟩);have aE:Hid (w.grownBy w9 (some g)):=Zk (Af aU.out aA.out);obtain⟨aO,z0,z1,y0,y1⟩:=bN.out w8 w9 (by exact aR.out.lt) (aA.out);have bO:=Zk aO;have aQ:Hid (w.heap.size≤w8.heap.size):=Zk (aD.out.size);clear aO;have f0:=HX.out w9 aE.out;clear aJ aI aB aK))
 all_goals
  have hk:=HK.out;have hz8:=aD.out.size;have hz9:=aA.out.size;have aC:=aR.out.lt;have bB:∀u:World,(u.alloc (.cells #[.slice none 0 0,.int .i64 0] 39)).heap.size=u.heap.size+1:=fun u=>by simp
  first
   |exact hk _ _ _ _ _ _ _ _ _ _ w9.heap.size (.slice A8 ns.length c8) ns rows _ ⟨rfl,bC.out,aW.out,aE.out.size,Zh w9 _,((aP.out g (by exact aX)).grown aA.out).below ((Zb _ _).alloc (Zl _) _),(aN.out g (by exact aC)).below ((Zb _ _).alloc (Zl _) _),aS.out.alloc _,Af aE.out (Ag ((Zb _ _).alloc (Zl _) _) _)⟩
   |(have bA:=(aP.out g (by exact aX)).below ((Zb _ w8).alloc (Zl _) (.cells #[.slice none 0 0,.int .i64 0] 39));have bP:=((aP.out g (by exact aX)).si.se (Zl w8.heap.size)).below ((Zb _ w8).alloc (Zl _) (.cells #[.slice none 0 0,.int .i64 0] 39));exact hk _ _ _ _ _ _ _ _ _ _ w8.heap.size (.slice A8 ns.length c8) ns rows _ ⟨rfl,bC.out,aW.out,by exact aQ.out,Bo _ _ bO.out,(bA.grown aA.out).set2 (bA.two bP aA.out) _ _,(aN.out g (by rw[bB];omega)).set2' (aN.out _ (by rw[bB];omega)) _ _,aS.out.set2 (by omega) _ _,Hw aE.out (by exact aQ.out) _ _⟩)
   |(have bT:=aG.out.size;rw[bB] at bT;have bA:=aP.out g (by rw[bB];omega);have bP:=aP.out w.heap.size (by rw[bB];omega);exact hk _ _ _ _ _ _ _ _ _ _ w.heap.size (.slice A8 ns.length c8) ns rows _ ⟨rfl,bC.out,aW.out,by exact aQ.out,Bo _ _ bO.out,(bA.grown aA.out).set2 (bA.two bP aA.out) _ _,(aN.out g (by omega)).set2' (aN.out _ (by omega)) _ _,aS.out.set2 (by omega) _ _,Hw aE.out (by exact aQ.out) _ _⟩)
noncomputable def Yp:Code:=((Tryz.f5.body.bind (Ce 16)).getD .skip)
set_option maxRecDepth 1000000 in
set_option maxHeartbeats 4000000 in
theorem zEq(g F p T m nT cT:Nat)(P n t ix i:Int)(AT:Option Addr)(rows:List (List Int))(w:World)(hg:g<w.heap.size)(hX:∀W,Below w.heap.size w W→W.cell? ⟨F,0,none⟩=some (.int .i64 P)∧W.cell? ⟨p,0,none⟩=some (.int .i64 n)∧W.cell? ⟨p,1,none⟩=some (.int .i64 t)∧W.cell? ⟨T,0,none⟩=some (.slice AT nT cT)∧W.cell? ⟨T,1,none⟩=some (.int .i64 0))(hM:∀W,Calls Tryz.prog 26 #[.int .i64 ix,.int .i64 (m:Int)] W fun e w'=>e= .returned (.int .i64 i)∧W=w')(hQ:∀W,Below w.heap.size w W→Calls Tryz.prog 25 #[.agg #[.int .i64 P],.agg #[.int .i64 n,.int .i64 t],.int .i64 (m:Int),.int .i64 i,.agg #[.slice AT nT cT,.int .i64 0]] W fun e w'=>∃Aq nq cq A1 n1 c1 a1,e= .returned (.tuple #[.slice Aq nq cq,.agg #[.slice A1 n1 c1,.int .i64 a1],.int .i64 0])∧Below W.heap.size W w'∧QRv W.heap.size w' (.slice Aq nq cq) rows){lfr:List Value}{Q:Exit→Act→World→Prop}
  (hK:∀(aa ab ac ad ae af ag ah ai aj ak al am an:Value) (w':World),Below w.heap.size w w'∧SLE g w' aa rows→Q .normal ⟨(seg (seg lfr 31 [aa,ab,Value.int .i64 0]) 133 [ac,ad,ae,af,ag,ah,ai,aj,ak,al,am,an]).toArray,[]⟩ w') (hL:frn 419 lfr) (e6:lfr[6]? =some (Value.int .i64 ix)) (aF:lfr[23]? =some (Value.pointer (some ⟨F,0,none⟩))) (aG:lfr[24]? =some (Value.pointer (some ⟨p,0,none⟩))) (aH:lfr[25]? =some (Value.int .i64 (m:Int))) (aI:lfr[29]? =some (Value.pointer (some ⟨T,0,none⟩))):
  Code.wp Tryz.prog Yp Q ⟨lfr.toArray,[]⟩ w:=by
 revert hK e6 aF aG aH aI
 apply Df hL;iterate 419 intro _
 intro hK e6 aF aG aH aI;simp only[List.getElem?_cons_succ,List.getElem?_cons_zero,Option.some.injEq] at e6 aF aG aH aI;simp only[Ct,Cu,Cv] at hK;subst e6 aF aG aH aI;have HK:=Zk hK;have HM:=Zk hM;have HQ:=Zk hQ;have HX:=Zk hX;obtain⟨f0,p0,p1,aN,aO⟩:=hX w (Zb _ _);have aJ:Hid (Below w.heap.size w w):=Zk (Zb _ _);have aK:Hid (Below w.heap.size w w.drew):=Zk ((Zb _ w).drew);have aE:Hid (Below w.heap.size w (w.alloc (.cells #[.slice none 0 0,.int .i64 0] 39))):=Zk ((Zb _ w).alloc (Zl _) _);have aL:Hid (Below w.heap.size w (w.alloc (.cells #[.slice none 0 0,.int .i64 0] 39)).drew):=Zk (((Zb _ w).alloc (Zl _) _).drew);have aQ:Hid (∀V:World,Below (w.alloc (.cells #[.slice none 0 0,.int .i64 0] 39)).heap.size (w.alloc (.cells #[.slice none 0 0,.int .i64 0] 39)) V→V.cell? ⟨w.heap.size,0,none⟩=some (.slice none 0 0)∧V.cell? ⟨w.heap.size,1,none⟩=some (.int .i64 0)∧V.frozen? ⟨w.heap.size,0,none⟩=false∧V.frozen? ⟨w.heap.size,1,none⟩=false):=Zk (fun V hg=>by
  have hv:=(hg.block w.heap.size (by simp)).trans (Zh w _);exact⟨Zc V _ 0 _ _ _ hv,Zc V _ 1 _ _ _ hv,Zf V _ 0 _ _ hv,Zf V _ 1 _ _ hv⟩)
 clear hK hM hQ hX;conv=>arg 2;whnf
 go_region_held3 (fun w'=>w'.cell? ⟨F,0,none⟩=some (.int .i64 P)∧w'.cell? ⟨p,0,none⟩=some (.int .i64 n)∧w'.cell? ⟨p,1,none⟩=some (.int .i64 t)∧w'.cell? ⟨T,0,none⟩=some (.slice AT nT cT)∧w'.cell? ⟨T,1,none⟩=some (.int .i64 0)) (first|exact⟨f0,p0,p1,aN,aO⟩|exact HX.out _ aE.out|exact HX.out _ ((aB.out.setCell (Zl _) _).setCell (Zl _) _)|exact HX.out _ ((aB.out.setCell (p:=⟨w9.heap.size,0,none⟩) (by exact aB.out.size) _).setCell (p:=⟨w9.heap.size,1,none⟩) (by exact aB.out.size) _)|exact HX.out _ (aB.out.alloc aB.out.size _)|go_keep)
  (first
   |(go_at_call 26;refine (HM.out _).mono ?_;rintro e8 w8 ⟨rfl,rfl⟩)
   |(go_at_call 25;refine (HQ.out _ (by first|exact aE.out|exact aL.out)).mono ?_;rintro e9 w9 ⟨Aq,nq,cq,A1,n1,c1,a1,rfl,aA,aD⟩;have aC:Hid (Below (w.alloc (.cells #[.slice none 0 0,.int .i64 0] 39)).heap.size (w.alloc (.cells #[.slice none 0 0,.int .i64 0] 39)) w9):=Zk (⟨aA.os,aA.tape,aA.output,aA.size,aA.block⟩);have aM:Hid (QRv (w.alloc (.cells #[.slice none 0 0,.int .i64 0] 39)).heap.size w9 (.slice Aq nq cq) rows):=Zk (aD);have aB:Hid (Below w.heap.size w w9):=Zk (aE.out.trans (aC.out.mono aE.out.size));obtain⟨z0,z1,y0,y1⟩:=aQ.out w9 aC.out;obtain⟨f0,p0,p1,aN,aO⟩:=HX.out w9 aB.out;clear aA aD)
   |(go_at_call 25;refine (HQ.out _ (by first|exact aJ.out|exact aK.out)).mono ?_;rintro e9 w9 ⟨Aq,nq,cq,A1,n1,c1,a1,rfl,aA,aD⟩;have aC:Hid (Below (w).heap.size (w) w9):=Zk (⟨aA.os,aA.tape,aA.output,aA.size,aA.block⟩);have aM:Hid (QRv (w).heap.size w9 (.slice Aq nq cq) rows):=Zk (aD);have aB:Hid (Below w.heap.size w w9):=Zk (aJ.out.trans (aC.out.mono aJ.out.size));obtain⟨f0,p0,p1,aN,aO⟩:=HX.out w9 aB.out;clear aA aD))
 all_goals
  have hk:=HK.out;have aP:∀u:World,(u.alloc (.cells #[.slice none 0 0,.int .i64 0] 39)).heap.size=u.heap.size+1:=fun u=>by simp
  first
   |exact hk _ _ _ _ _ _ _ _ _ _ _ _ _ _ _ ⟨aB.out.alloc aB.out.size _,(aM.out.below ((Zb _ _).alloc (Zl _) _)).sle (by exact hg)⟩
   |exact hk _ _ _ _ _ _ _ _ _ _ _ _ _ _ _ ⟨(aB.out.setCell (Zl _) _).setCell (Zl _) _,(aM.out.set2 (z:=w.heap.size) (by rw[aP];omega) _ _).sle (by rw[aP];omega)⟩
noncomputable def zBi:Code:=((Tryz.f5.body.bind (Ce 17)).getD .skip)
set_option maxRecDepth 1000000 in
set_option maxHeartbeats 4000000 in
theorem zDw(g F na wd nL:Nat)(P:Int)(vr vq:Value)(all:List (List Int))(w:World)(hX:∀W,w.grownBy W (some g)→W.cell? ⟨F,0,none⟩=some (.int .i64 P))(hD:Dk w g)(hA:∀W,w.grownBy W (some g)→Calls Tryz.prog 28 #[.agg #[.int .i64 P],.int .i64 wd,vr,vq] W fun e w'=>∃Aa ca,e= .returned (.slice Aa na ca)∧Below W.heap.size W w'∧SLE g w' (.slice Aa na ca) all)(hN:∀W,Dk W g→Calls Tryz.prog 12 #[.pointer (some ⟨g,0,none⟩),.int .i64 3] W fun e w'=>∃x:Nat,e= .returned (.int .i64 (x:Int))∧x<3∧Dk w' g∧W.grownBy w' (some g))(hM:∀W v (x y:Nat),w.grownBy W (some g)→Dk W g→SLE g W v all→x<3→y<3→Calls Tryz.prog 27 #[.pointer (some ⟨g,0,none⟩),.agg #[.int .i64 P],v,.int .i64 (x:Int),.int .i64 (y:Int)] W fun e w'=>∃A1 n1 c1 A2 n2 c2 L aI,e= .returned (.tuple #[.slice A1 n1 c1,.slice A2 n2 c2])∧SAE g w' (.slice A1 n1 c1) L∧SE g w' (.slice A2 n2 c2) aI∧Dk w' g∧W.grownBy w' (some g)∧L.length=nL){lfr:List Value}{Q:Exit→Act→World→Prop}
  (hK:∀(aa ab ac ad ae af ag ah ai aj ak al am an ao ap aq:Value) (L:List (Bool×List Int)) (aI:List Int) (w':World),SAE g w' aa L∧SE g w' ab aI∧Dk w' g∧w.grownBy w' (some g)∧L.length=nL→Q .normal ⟨(seg (seg lfr 34 [aa,ab]) 145 [ac,ad,ae,af,ag,ah,ai,aj,ak,al,am,an,ao,ap,aq]).toArray,[]⟩ w') (hL:frn 419 lfr) (aT:lfr[22]? =some (Value.pointer (some ⟨g,0,none⟩))) (aU:lfr[23]? =some (Value.pointer (some ⟨F,0,none⟩))) (aV:lfr[26]? =some (Value.int .i64 (wd:Int))) (aW:lfr[30]? =some (vr)) (aX:lfr[31]? =some (vq)):
  Code.wp Tryz.prog zBi Q ⟨lfr.toArray,[]⟩ w:=by
 revert hK aT aU aV aW aX
 apply Df hL;iterate 419 intro _
 intro hK aT aU aV aW aX;simp only[List.getElem?_cons_succ,List.getElem?_cons_zero,Option.some.injEq] at aT aU aV aW aX;simp only[Ct,Cu,Cv] at hK;subst aT aU aV aW aX;have HK:=Zk hK;have HX:=Zk hX;have HD:=Zk hD;have HA:=Zk hA;have HN:=Zk hN;have HM:=Zk hM;have f0:=hX w (Ah _ _);have bL:Hid (w.grownBy w (some g)):=Zk (Ah _ _);have aZ:Hid (w.grownBy w.drew (some g)):=Zk (Ag (Zb _ w).drew _);clear hK hX hD hA hN hM;conv=>arg 2;whnf
 go_region_held3 (fun w'=>w'.cell? ⟨F,0,none⟩=some (.int .i64 P)) (first|exact f0|go_keep)
  (first
   |(go_at_call 28;refine (HA.out _ (by first|exact bL.out|exact aZ.out)).mono ?_;rintro e8 w8 ⟨Aa,ca,rfl,aJ,bH⟩;have bD:Hid (Below w.heap.size w w8):=Zk (⟨aJ.os,aJ.tape,aJ.output,aJ.size,aJ.block⟩);have bN:Hid (SLE g w8 (.slice Aa na ca) all):=Zk (bH);have bA:Hid (w.grownBy w8 (some g)):=Zk (Ag bD.out _);have bE:Hid (Dk w8 g):=Zk (HD.out.below bD.out);have HG8d:Hid (w.grownBy w8.drew (some g)):=Zk (Af bA.out (Ag (Zb _ w8).drew _));have aY:Hid (Dk w8.drew g):=Zk (bE.out.below (Zb _ w8).drew);have f0:=HX.out w8 bA.out;clear aJ bH)
   |(go_at_call 27;refine (HM.out _ _ _ _ (by first|exact aE.out|exact aO.out) (by first|exact aM.out|exact aN.out) (by first|exact aQ.out|exact aR.out) (by exact bB.out) (by exact bC.out)).mono ?_;rintro e9 w9 ⟨A1,n1,c1,A2,n2,c2,L,aI,rfl,bI,bJ,aH,aA,bG⟩;have bO:Hid (SAE g w9 (.slice A1 n1 c1) L):=Zk (bI);have bP:Hid (SE g w9 (.slice A2 n2 c2) aI):=Zk (bJ);have bK:Hid (Dk w9 g):=Zk (aH);have bF:Hid (w.grownBy w9 (some g)):=Zk (Af aE.out ⟨aA.os,aA.tape,aA.output,aA.size,aA.block⟩);have f0:=HX.out w9 bF.out;have bM:=Zk bG;clear bI bJ aH aA bG)
   |(revert aC;intro aC;go_at_call 12;refine (HN.out _ (by first|exact aK.out|exact aL.out)).mono ?_;rintro e11 aD ⟨y,rfl,aS,aH,aA⟩;have bC:=Zk aS;have aM:Hid (Dk aD g):=Zk (aH);have aG:Hid (aB.grownBy aD (some g)):=Zk (⟨aA.os,aA.tape,aA.output,aA.size,aA.block⟩);have aE:Hid (w.grownBy aD (some g)):=Zk (Af aC.out aG.out);have aQ:Hid (SLE g aD (.slice Aa na ca) all):=Zk (aP.out.grown aG.out);have aR:Hid (SLE g aD.drew (.slice Aa na ca) all):=Zk (aQ.out.below (Zb _ aD).drew);have aO:Hid (w.grownBy aD.drew (some g)):=Zk (Af aE.out (Ag (Zb _ aD).drew _));have aN:Hid (Dk aD.drew g):=Zk (aM.out.below (Zb _ aD).drew);have f0:=HX.out aD aE.out;clear aS aH aA)
   |(go_at_call 12;refine (HN.out _ (by first|exact bE.out|exact aY.out)).mono ?_;rintro e10 aB ⟨x,rfl,aS,aH,aA⟩;have bB:=Zk aS;have aK:Hid (Dk aB g):=Zk (aH);have aF:Hid (w8.grownBy aB (some g)):=Zk (⟨aA.os,aA.tape,aA.output,aA.size,aA.block⟩);have aC:Hid (w.grownBy aB (some g)):=Zk (Af bA.out aF.out);have aP:Hid (SLE g aB (.slice Aa na ca) all):=Zk (bN.out.grown aF.out);have HS10d:Hid (SLE g aB.drew (.slice Aa na ca) all):=Zk (aP.out.below (Zb _ aB).drew);have HG10d:Hid (w.grownBy aB.drew (some g)):=Zk (Af aC.out (Ag (Zb _ aB).drew _));have aL:Hid (Dk aB.drew g):=Zk (aK.out.below (Zb _ aB).drew);have f0:=HX.out aB aC.out;clear aS aH aA))
 all_goals
  have hk:=HK.out;exact hk _ _ _ _ _ _ _ _ _ _ _ _ _ _ _ _ _ L aI w9 ⟨bO.out,bP.out,bK.out,bF.out,bM.out⟩
noncomputable def zBd:Code:=((Tryz.f5.body.bind (Ce 19)).getD .skip)
set_option maxRecDepth 1000000 in
set_option maxHeartbeats 4000000 in
theorem zEc(g F HB n cB m:Nat)(P:Int)(RB RC:Nat→Nat)(w:World)(hP1:1≤P)(hP2:P≤65521)(hn1:1≤n)(hn2:n≤65521)(hm1:1≤m)(hm2:m≤65521)(hRB:∀k,k<n→RB k≠F∧RB k≠HB)(hF:F<w.heap.size)(hH:HB<w.heap.size)(hX:∀W,w.grownBy W (some g)→W.cell? ⟨F,0,none⟩=some (.int .i64 P))(hD:Dk w g)(hN:∀W (q:Int),Dk W g→1≤q→q≤65521→Calls Tryz.prog 12 #[.pointer (some ⟨g,0,none⟩),.int .i64 q] W fun e w'=>∃x:Nat,e= .returned (.int .i64 (x:Int))∧(x:Int)<q∧Dk w' g∧W.grownBy w' (some g))(hC:∀W,w.grownBy W (some g)→∀k,k<n→W.cell? ⟨HB,k,none⟩=some (.slice (some ⟨RB k,0,none⟩) m (RC k))∧∀j,j<m→∃z,W.cell? ⟨RB k,j,none⟩=some (.int .i64 z)∧W.frozen? ⟨RB k,j,none⟩=false){lfr:List Value}{Q:Exit→Act→World→Prop}
  (hK:∀(aa ab ac ad ae af ag ah ai aj ak al am an ao:Value) (W0:World) (x y z:Nat) (w':World),w.grownBy W0 (some g)∧Dk W0 g∧x<n∧y<m∧(z:Int)<P∧w'=W0.setCell ⟨RB x,y,none⟩ (.int .i64 (z:Int))→Q .normal ⟨(seg lfr 162 [aa,ab,ac,ad,ae,af,ag,ah,ai,aj,ak,al,am,an,ao]).toArray,[]⟩ w') (hL:frn 419 lfr) (aT:lfr[22]? =some (Value.pointer (some ⟨g,0,none⟩))) (aU:lfr[23]? =some (Value.pointer (some ⟨F,0,none⟩))) (aV:lfr[25]? =some (Value.int .i64 (m:Int))) (aW:lfr[36]? =some (Value.slice (some ⟨HB,0,none⟩) n cB)):
  Code.wp Tryz.prog zBd Q ⟨lfr.toArray,[]⟩ w:=by
 revert hK aT aU aV aW
 apply Df hL;iterate 419 intro _
 intro hK aT aU aV aW;simp only[List.getElem?_cons_succ,List.getElem?_cons_zero,Option.some.injEq] at aT aU aV aW;simp only[Ct,Cu,Cv] at hK;subst aT aU aV aW;have HK:=Zk hK;have HX:=Zk hX;have bE:=Zk hD;have aX:Hid (Dk w.drew g):=Zk (hD.below (Zb _ w).drew);have HN:=Zk hN;have HC:=Zk hC;have bA:=Zk hRB;have HF:=Zk hF;have HH:=Zk hH;have f0:=hX w (Ah _ _);have aZ:Hid (w.grownBy w (some g)):=Zk (Ah _ _);clear hK hX hD hN hC hRB hF hH;conv=>arg 2;whnf
 go_region_held3 (fun w'=>w'.cell? ⟨F,0,none⟩=some (.int .i64 P)∧∀k,k<n→w'.cell? ⟨HB,k,none⟩=some (.slice (some ⟨RB k,0,none⟩) m (RC k))) (first|exact⟨f0,fun k hk=>(HC.out _ aZ.out k hk).1⟩|exact⟨f0,fun k hk=>(HC.out _ aD.out k hk).1⟩|exact⟨f0,fun k hk=>(HC.out _ aE.out k hk).1⟩|exact⟨f0,fun k hk=>(HC.out _ aC.out k hk).1⟩|exact⟨Gq (by exact (bA.out x (Int.ofNat_lt.1 aA.out)).1) (Nat.lt_of_lt_of_le HF.out aC.out.size) f0,fun k hk=>Gq (by exact (bA.out x (Int.ofNat_lt.1 aA.out)).2) (Nat.lt_of_lt_of_le HH.out aC.out.size) (HC.out _ aC.out k hk).1⟩|go_keep)
  (first
   |(revert aE;intro aE;go_at_call 12;refine (HN.out _ (P) (by first|exact aN.out|exact aO.out) (by omega) (by omega)).mono ?_;rintro e12 aF ⟨z,rfl,aJ,aI,aB⟩;have aY:=Zk aJ;have aP:Hid (Dk aF g):=Zk (aI);have aS:Hid (aH.grownBy aF (some g)):=Zk (⟨aB.os,aB.tape,aB.output,aB.size,aB.block⟩);have aC:Hid (w.grownBy aF (some g)):=Zk (Af aE.out aS.out);have HG12d:Hid (w.grownBy aF.drew (some g)):=Zk (Af aC.out (Ag (Zb _ aF).drew _));have HD12d:Hid (Dk aF.drew g):=Zk (aP.out.below (Zb _ aF).drew);have f0:=HX.out aF aC.out;clear aJ aI aB;have bD:=Int.ofNat_lt.1 aA.out;have bB:=Int.natCast_nonneg x;have bC:=aA.out;obtain⟨z0,cy,fy⟩:=(HC.out aF aC.out x (Int.ofNat_lt.1 aA.out)).2 y (Int.ofNat_lt.1 aK.out);have yn0:=Int.natCast_nonneg y;have yn1:=aK.out)
   |(revert aD;intro aD;go_at_call 12;refine (HN.out _ ((m:Int)) (by first|exact aL.out|exact aM.out) (by omega) (by omega)).mono ?_;rintro e11 aH ⟨y,rfl,aJ,aI,aB⟩;have aK:=Zk aJ;have aN:Hid (Dk aH g):=Zk (aI);have aR:Hid (aG.grownBy aH (some g)):=Zk (⟨aB.os,aB.tape,aB.output,aB.size,aB.block⟩);have aE:Hid (w.grownBy aH (some g)):=Zk (Af aD.out aR.out);have HG11d:Hid (w.grownBy aH.drew (some g)):=Zk (Af aE.out (Ag (Zb _ aH).drew _));have aO:Hid (Dk aH.drew g):=Zk (aN.out.below (Zb _ aH).drew);have f0:=HX.out aH aE.out;clear aJ aI aB;have bD:=Int.ofNat_lt.1 aA.out;have bB:=Int.natCast_nonneg x;have bC:=aA.out)
   |(go_at_call 12;refine (HN.out _ ((n:Int)) (by first|exact bE.out|exact aX.out) (by omega) (by omega)).mono ?_;rintro e10 aG ⟨x,rfl,aJ,aI,aB⟩;have aA:=Zk aJ;have aL:Hid (Dk aG g):=Zk (aI);have aQ:Hid (w.grownBy aG (some g)):=Zk (⟨aB.os,aB.tape,aB.output,aB.size,aB.block⟩);have aD:Hid (w.grownBy aG (some g)):=Zk (Af aZ.out aQ.out);have HG10d:Hid (w.grownBy aG.drew (some g)):=Zk (Af aD.out (Ag (Zb _ aG).drew _));have aM:Hid (Dk aG.drew g):=Zk (aL.out.below (Zb _ aG).drew);have f0:=HX.out aG aD.out;clear aJ aI aB;have bD:=Int.ofNat_lt.1 aA.out;have bB:=Int.natCast_nonneg x;have bC:=aA.out))
 all_goals
  have hk:=HK.out;exact hk _ _ _ _ _ _ _ _ _ _ _ _ _ _ _ aF x y z _ ⟨aC.out,aP.out,by have:=aA.out;omega,by have:=aK.out;omega,by have:=aY.out;omega,rfl⟩
open Go.RowKit
theorem Yj{w:World}{base n:Nat}{e:TypeId}{v:Value}{xs:List Value}(h:w.ownsRow base e 1 v n xs)(hn:0<n):
  ∃b aA aB,v= .slice (some ⟨b,0,none⟩) n aA∧base≤b∧b<w.heap.size∧w.heap[b]? =some (.cells aB e (0,0))∧n≤aA∧aA≤9223372036854775807∧∀j,j<n→w.cell? ⟨b,j,none⟩=xs[j]? :=by
 have h0:=h;rcases h.2 with⟨rfl,hz⟩|⟨b,aA,aB,rfl,hb,hg,aD,aC,hcs,htake⟩
 ·omega
 ·exact⟨b,aA,aB,rfl,hb,(Array.getElem?_eq_some_iff.1 hg).1,hg,aD,by simpa [maxLen] using aC,fun j hj=>h0.cellAt j (by omega)⟩
structure BT (G n m HB:Nat) (RB RC:Nat→Nat) (W:World) (ps:List (List Int)):Prop where
 hb:HB<W.heap.size
 hG:G≤HB
 len:ps.length=n
 row:∀k,k<n→RB k≠HB∧G≤RB k∧RB k<W.heap.size∧m≤RC k∧RC k≤9223372036854775807∧W.cell? ⟨HB,k,none⟩=some (.slice (some ⟨RB k,0,none⟩) m (RC k))∧∀j,j<m→W.cell? ⟨RB k,j,none⟩=some (.int .i64 (gd (gr ps k) j))∧W.frozen? ⟨RB k,j,none⟩=false
theorem CR.bt{G m:Nat}{W:World}{pv:Value}{vs:List Value}{ps:List (List Int)}(h:CR G W pv vs ps)(hn:0<ps.length)(hm:0<m)(hl:∀r∈ps,r.length=m):
  ∃HB cB RB RC,pv= .slice (some ⟨HB,0,none⟩) ps.length cB∧ps.length≤cB∧cB≤9223372036854775807∧BT G ps.length m HB RB RC W ps:=by
 obtain⟨HB,cB,cur,rfl,hG,aP,hblk,aM,aN,aA⟩:=Yj h.hdr (by rw[h.len];exact hn);have aQ:∀k,∃q:Nat×Nat,k<ps.length→q.1≠HB∧G≤q.1∧q.1<W.heap.size∧m≤q.2∧q.2≤9223372036854775807∧W.cell? ⟨HB,k,none⟩=some (.slice (some ⟨q.1,0,none⟩) m q.2)∧∀j,j<m→W.cell? ⟨q.1,j,none⟩=some (.int .i64 (gd (gr ps k) j))∧W.frozen? ⟨q.1,j,none⟩=false:=fun k=>by
  by_cases hk:k<ps.length
  ·have aB:k<vs.length:=by rw[h.len];exact hk
   have aD:=hl _ (List.getElem_mem hk);obtain⟨b,aE,cu,ev,aG,aH,aI,aJ,aK,aL⟩:=Yj (h.row k aB hk) (by omega);have aF:=h.apart k aB b (by rw[ev];rfl);have e1:gr ps k=ps[k]:=by unfold gr;rw[List.getElem?_eq_getElem hk];rfl
   refine⟨(b,aE),fun _=>⟨fun e=>aF (by rw[←e];rfl),aG,aH,by rw[←aD];exact aJ,aK,?_,fun j hj=>⟨?_,Zf W b j _ _ aI⟩⟩⟩
   ·rw[aA k aB,List.getElem?_eq_getElem aB,ev,aD]
   ·have aC:j<ps[k].length:=by omega
    show W.cell? ⟨b,j,none⟩=_;rw[aL j aC,List.getElem?_map,List.getElem?_eq_getElem aC,e1];unfold gd;rw[List.getElem?_eq_getElem aC];rfl
  ·exact⟨(0,0),fun aO=>absurd aO hk⟩
 obtain⟨f,hf⟩:=Classical.skolem.1 aQ;exact⟨HB,cB,fun k=>(f k).1,fun k=>(f k).2,by rw[h.len],by rw[←h.len];exact aM,aN,aP,hG,rfl,fun k hk=>hf k hk⟩
theorem BT.grown{G g n m HB:Nat}{RB RC:Nat→Nat}{W W':World}{ps:List (List Int)}(h:BT G n m HB RB RC W ps)(hg:W.grownBy W' (some g))(hgG:g<G):BT G n m HB RB RC W' ps:=
 ⟨Nat.lt_of_lt_of_le h.hb hg.size,h.hG,h.len,fun k hk=>by
  obtain⟨a1,a2,a3,a4,a5,a6,a7⟩:=h.row k hk;have hb:=hg.block (RB k) a3 (by simp;omega);exact⟨a1,a2,Nat.lt_of_lt_of_le a3 hg.size,a4,a5,(World.cell?_of_block (hg.block HB h.hb (by simp;have:=h.hG;omega))).trans a6,fun j hj=>⟨(World.cell?_of_block hb).trans (a7 j hj).1,(World.frozen?_of_block hb).trans (a7 j hj).2⟩⟩⟩
theorem zBk{p:Nat→List Int→Prop}:∀{n:Nat},(∀k,k<n→∃r,p k r)→∃rows:List (List Int),rows.length=n∧∀k (h:k<rows.length),p k rows[k]:=by
 intro n;induction n with
 |zero=>intro _;exact⟨[],rfl,fun k h=>by simp at h⟩
 |succ n ih=>
  intro h;obtain⟨rows,h1,h2⟩:=ih fun k hk=>h k (by omega)
  obtain⟨r,hr⟩:=h n (by omega);refine⟨rows++[r],by simp[h1],fun k hk=> ?_⟩
  by_cases hlt:k<rows.length
  ·rw[List.getElem_append_left hlt];exact h2 k hlt
  ·have e:k=rows.length:=by simp at hk;omega
   subst e;have e2:(rows++[r])[rows.length]'hk=r:=by simp
   rw[e2,h1];exact hr
theorem BT.bent{G n m HB cB:Nat}{RB RC:Nat→Nat}{W:World}{ps:List (List Int)}(h:BT G n m HB RB RC W ps)(hc1:n≤cB)(hc2:cB≤9223372036854775807)(hr:∀k j,k<n→j<m→An (gd (gr ps k) j)){x y:Nat}{z:Int}(hx:x<n)(hy:y<m)(hz:An z):
  ∃rows,rows.length=n∧SL (W.setCell ⟨RB x,y,none⟩ (.int .i64 z)) (.slice (some ⟨HB,0,none⟩) n cB) rows:=by
 obtain⟨rows,hl,hp⟩:=zBk (n:=n) (p:=fun k r=>r.length=m∧SI (W.setCell ⟨RB x,y,none⟩ (.int .i64 z)) (.slice (some ⟨RB k,0,none⟩) m (RC k)) r) (fun k hk=>by
  obtain⟨a1,a2,a3,a4,a5,a6,a7⟩:=h.row k hk;refine⟨(List.range m).map fun j=>if RB k=RB x∧j=y then z else gd (gr ps k) j,by simp,some ⟨RB k,0,none⟩,RC k,by simp,by simpa using a4,a5,fun v hv=> ?_,fun _=>⟨RB k,0,rfl,?_,fun j hj=> ?_⟩⟩
  ·obtain⟨j,hj,rfl⟩:=List.mem_map.1 hv;split
   ·exact hz
   ·exact hr k j hk (by simpa using hj)
  ·simpa using a3
  ·have aA:j<m:=by simpa using hj
   rw[List.getElem_map,List.getElem_range,Nat.zero_add];split
   ·rename_i e;rw[e.1,e.2];exact World.cell?_setCell_same' _ _ _ (by rw[(h.row x hx).2.2.2.2.2.2 y hy|>.1];rfl)
   ·rename_i e;rw[←(a7 j aA).1];refine World.cell?_setCell_other _ _ _ _ ?_;intro e';injection e' with e1 e2;exact e ⟨by omega,by omega⟩)
 refine⟨rows,hl,some ⟨HB,0,none⟩,cB,by rw[hl],by omega,hc2,fun _=>⟨HB,0,rfl,by simpa using h.hb,fun k hk=> ?_⟩⟩
 obtain⟨b1,b2⟩:=hp k hk;obtain⟨a1,a2,a3,a4,a5,a6,a7⟩:=h.row k (by omega);rw[b1];refine⟨_,_,?_,b2⟩;rw[Nat.zero_add];exact Gq (by exact (h.row x hx).1) h.hb a6
theorem SLE.i64{g:Nat}{w:World}{v:Value}{rows:List (List Int)}(h:SLE g w v rows):∀k j,k<rows.length→j<(gr rows k).length→An (gd (gr rows k) j):=fun k j hk hj=>by
 obtain⟨A,c,rfl,_,_,ha⟩:=h;obtain⟨b,off,_,_,_,aA⟩:=ha (by omega);obtain⟨B,d,_,A',c',_,_,_,hr,_⟩:=aA k hk;have e1:gr rows k=rows[k]:=by unfold gr;rw[List.getElem?_eq_getElem hk];rfl
 rw[e1] at hj⊢;unfold gd;rw[List.getElem?_eq_getElem hj];exact hr _ (List.getElem_mem hj)
theorem zDx{P:Int}{n t m K i:Nat}{ns:List Int}(hP:prB P=true)(hc:ccE P n t m=0)(hi:i<m)(hK:K=m*t)(hl:K≤ns.length)(hl2:ns.length≤16384)(hv:vld (List.replicate K P) ns):quI P n t m i ns 0=0:=by
 have hb:=Bd hP;unfold quI;rw[if_neg (by omega),if_neg (by omega)];unfold dsE;have h0:(0:Int)≤(m:Int)*(t:Int):=by rw[←Int.natCast_mul];exact Int.natCast_nonneg _
 rw[if_neg (by unfold tvB;simp;omega),if_neg (by unfold liB;simp;omega)];refine Wd fun j hj=> ?_
 have aA:j<K:=by rw[hK,←Int.toNat_natCast (m*t),Int.natCast_mul];exact hj
 have h1:=hv j (by simpa using aA) (by omega);simp only[List.getElem_replicate] at h1;refine⟨by simp;omega,?_⟩;unfold gd;simp only[Int.toNat_zero,Nat.zero_add];rw[List.getElem?_eq_getElem (by omega)];exact h1
theorem Xy{P:Int}{rows:List (List Int)}{wd:Nat}{q:List Int}(hP:2≤P∧P≤65521)(hw:wd≤1000):els P (Fi P rows wd q)=true∧(Fi P rows wd q).length≤1000:=by
 unfold Fi;split
 ·rw[Int.toNat_natCast];have hl:(cmb P q rows wd).length=wd:=Iu ..;exact⟨Ix hP.1 ..,by omega⟩
 ·exact⟨rfl,by simp⟩
open Go.RowKit
noncomputable def zBz:Code:=((Tryz.f5.body.bind (Ce 23)).getD .skip)
set_option maxRecDepth 1000000 in
set_option maxHeartbeats 4000000 in
theorem zEf(X:Nat)(P n t er:Int)(w:World)(hX:∀W,Below w.heap.size w W→W.cell? ⟨X,0,none⟩=some (.int .i64 P)∧W.cell? ⟨X,1,none⟩=some (.int .i64 n)∧W.cell? ⟨X,2,none⟩=some (.int .i64 t))(hA:∀W,Below w.heap.size w W→Calls Tryz.prog 30 #[.agg #[.int .i64 P],.agg #[.int .i64 n,.int .i64 t]] W fun e w'=>e= .returned (.int .i64 er)∧Below W.heap.size W w')(hB:∀W,Below w.heap.size w W→Calls Tryz.prog 31 #[.agg #[.int .i64 P],.agg #[.int .i64 n,.int .i64 t]] W fun e w'=>e= .returned (.int .i64 er)∧Below W.heap.size W w'){lfr:List Value}{Q:Exit→Act→World→Prop}
  (hK:∀(aa ab ac ad ae af ag ah ai aj:Value) (w':World),Below w.heap.size w w'→Q .normal ⟨(seg lfr 192 [aa,ab,ac,ad,ae,af,ag,ah,ai,aj,Value.bool false]).toArray,[]⟩ w') (hL:frn 419 lfr) (aC:lfr[38]? =some (Value.pointer (some ⟨X,0,none⟩))):
  Code.wp Tryz.prog zBz Q ⟨lfr.toArray,[]⟩ w:=by
 revert hK aC
 apply Df hL;iterate 419 intro _
 intro hK aC;simp only[List.getElem?_cons_succ,List.getElem?_cons_zero,Option.some.injEq] at aC;simp only[Ct,Cu,Cv] at hK;subst aC;have HK:=Zk hK;have HX:=Zk hX;have HA:=Zk hA;have HB:=Zk hB;obtain⟨x0,x1,x2⟩:=hX w (Zb _ w);have aB:Hid (Below w.heap.size w w):=Zk (Zb _ _);clear hK hX hA hB;conv=>arg 2;whnf
 go_region_held3 (fun w'=>w'.cell? ⟨X,0,none⟩=some (.int .i64 P)∧w'.cell? ⟨X,1,none⟩=some (.int .i64 n)∧w'.cell? ⟨X,2,none⟩=some (.int .i64 t)) (first|exact⟨x0,x1,x2⟩|go_keep)
  (first
   |(go_at_call 30;refine (HA.out _ (by first|exact aB.out|exact aB.out.drew)).mono ?_;rintro e9 w9 ⟨rfl,aA⟩;have aB:Hid (Below w.heap.size w w9):=Zk (by first|exact aB.out.trans ((show Below _ _ w9 from ⟨aA.os,aA.tape,aA.output,aA.size,aA.block⟩).mono aB.out.size)|exact aB.out.drew.trans ((show Below _ _ w9 from ⟨aA.os,aA.tape,aA.output,aA.size,aA.block⟩).mono aB.out.drew.size));obtain⟨x0,x1,x2⟩:=HX.out w9 aB.out;clear aA)
   |(go_at_call 31;refine (HB.out _ (by first|exact aB.out|exact aB.out.drew)).mono ?_;rintro e9 w9 ⟨rfl,aA⟩;have aB:Hid (Below w.heap.size w w9):=Zk (by first|exact aB.out.trans ((show Below _ _ w9 from ⟨aA.os,aA.tape,aA.output,aA.size,aA.block⟩).mono aB.out.size)|exact aB.out.drew.trans ((show Below _ _ w9 from ⟨aA.os,aA.tape,aA.output,aA.size,aA.block⟩).mono aB.out.drew.size));obtain⟨x0,x1,x2⟩:=HX.out w9 aB.out;clear aA))
 all_goals
  have hk:=HK.out;first
   |exact hk _ _ _ _ _ _ _ _ _ _ _ aB.out
   |exact hk _ _ _ _ _ _ _ _ _ _ _ aB.out.drew
noncomputable def Yz:Code:=((Tryz.f5.body.bind (Ce 68)).getD .skip)
set_option maxRecDepth 1000000 in
set_option maxHeartbeats 4000000 in
theorem zEb(X Y:Nat)(n t s y:Int)(b:Bool)(w:World)(hX:∀W,Below w.heap.size w W→W.cell? ⟨X,1,none⟩=some (.int .i64 n)∧W.cell? ⟨X,2,none⟩=some (.int .i64 t)∧W.cell? ⟨Y,0,none⟩=some (.int .i64 s)∧W.cell? ⟨Y,1,none⟩=some (.int .i64 y))(hA:∀W,Below w.heap.size w W→Calls Tryz.prog 39 #[.agg #[.int .i64 n,.int .i64 t],.int .i64 s,.int .i64 y] W fun e w'=>e= .returned (.bool b)∧Below W.heap.size W w')(hB:∀W,Below w.heap.size w W→Calls Tryz.prog 40 #[.agg #[.int .i64 n,.int .i64 t],.int .i64 s,.int .i64 y] W fun e w'=>e= .returned (.bool b)∧Below W.heap.size W w'){lfr:List Value}{Q:Exit→Act→World→Prop}
  (hK:∀(aa ab ac ad ae af ag ah ai aj ak al am an:Value) (w':World),Below w.heap.size w w'→Q .normal ⟨(seg lfr 402 [aa,ab,ac,ad,ae,af,ag,ah,ai,aj,ak,al,am,an,Value.bool false]).toArray,[]⟩ w') (hL:frn 419 lfr) (aC:lfr[38]? =some (Value.pointer (some ⟨X,0,none⟩))) (aD:lfr[72]? =some (Value.pointer (some ⟨Y,0,none⟩))):
  Code.wp Tryz.prog Yz Q ⟨lfr.toArray,[]⟩ w:=by
 revert hK aC aD
 apply Df hL;iterate 419 intro _
 intro hK aC aD;simp only[List.getElem?_cons_succ,List.getElem?_cons_zero,Option.some.injEq] at aC aD;simp only[Ct,Cu,Cv] at hK;subst aC aD;have HK:=Zk hK;have HX:=Zk hX;have HA:=Zk hA;have HB:=Zk hB;obtain⟨x0,x1,x2,x3⟩:=hX w (Zb _ w);have aB:Hid (Below w.heap.size w w):=Zk (Zb _ _);clear hK hX hA hB;conv=>arg 2;whnf
 go_region_held3 (fun w'=>w'.cell? ⟨X,1,none⟩=some (.int .i64 n)∧w'.cell? ⟨X,2,none⟩=some (.int .i64 t)∧w'.cell? ⟨Y,0,none⟩=some (.int .i64 s)∧w'.cell? ⟨Y,1,none⟩=some (.int .i64 y)) (first|exact⟨x0,x1,x2,x3⟩|go_keep)
  (first
   |(go_at_call 39;refine (HA.out _ (by first|exact aB.out|exact aB.out.drew)).mono ?_;rintro e9 w9 ⟨rfl,aA⟩;have aB:Hid (Below w.heap.size w w9):=Zk (by first|exact aB.out.trans ((show Below _ _ w9 from ⟨aA.os,aA.tape,aA.output,aA.size,aA.block⟩).mono aB.out.size)|exact aB.out.drew.trans ((show Below _ _ w9 from ⟨aA.os,aA.tape,aA.output,aA.size,aA.block⟩).mono aB.out.drew.size));obtain⟨x0,x1,x2,x3⟩:=HX.out w9 aB.out;clear aA)
   |(go_at_call 40;refine (HB.out _ (by first|exact aB.out|exact aB.out.drew)).mono ?_;rintro e9 w9 ⟨rfl,aA⟩;have aB:Hid (Below w.heap.size w w9):=Zk (by first|exact aB.out.trans ((show Below _ _ w9 from ⟨aA.os,aA.tape,aA.output,aA.size,aA.block⟩).mono aB.out.size)|exact aB.out.drew.trans ((show Below _ _ w9 from ⟨aA.os,aA.tape,aA.output,aA.size,aA.block⟩).mono aB.out.drew.size));obtain⟨x0,x1,x2,x3⟩:=HX.out w9 aB.out;clear aA))
 all_goals
  have hk:=HK.out;first
   |exact hk _ _ _ _ _ _ _ _ _ _ _ _ _ _ _ aB.out
   |exact hk _ _ _ _ _ _ _ _ _ _ _ _ _ _ _ aB.out.drew
end Go.Proofs.YtbgabipngdillaaGreatDoor
