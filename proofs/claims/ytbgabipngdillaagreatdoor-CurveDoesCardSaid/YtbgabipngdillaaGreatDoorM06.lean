/- Parts. -/
import Derived.Lib.SliceRun
import Derived.Deep.RegionHeld3
import Derived.Deep.RegionWith
import Derived.Deep.Cut
import Derived.Test.YtbgabipngdillaaGreatDoorM05
set_option linter.unusedVariables false
set_option linter.unusedSimpArgs false
namespace Go.Proofs.YtbgabipngdillaaGreatDoor
open Go.RowKit
def tvB(l:List Int)(at_:Int):Bool:=decide (l.length≤16384∧0≤at_∧at_≤(l.length:Int))
def liB(n:Int):Bool:=decide (1≤n∧n≤2147483647)
theorem Rq(l:List Int)(at_:Int)(v:Value)(w:World)(h:SI w v l):
  Calls Tryz.prog 65 #[.agg #[v,.int .i64 at_]] w fun e w'=>e= .returned (.bool (tvB l at_))∧Below w.heap.size w w':=by
 obtain⟨A,c,rfl⟩:=h.form';clear h;have HB:Hid (∀o:Obj,Below w.heap.size w (w.alloc o)):=fun o=>(Zb _ w).alloc (Zl _) o
 go_enter Tryz.func65,Tryz.ntmps65;by_cases h1:l.length≤16384
 ·have d1:decide ((l.length:Int)≤16384)=true:=Ze (by omega);by_cases h2:0≤at_
  ·have d2:decide (0≤at_)=true:=Ze h2;by_cases h3:at_≤(l.length:Int)
   ·have d3:decide (at_≤(l.length:Int))=true:=Ze h3;have HE:Hid (tvB l at_=true):=Ze ⟨h1,h2,h3⟩;go_wp2_with fail;go_ret;exact⟨by rw[HE.out]<;>rfl,HB.out _⟩
   ·have d3:decide (at_≤(l.length:Int))=false:=Zd h3;have HE:Hid (tvB l at_=false):=Zd fun h=>h3 h.2.2
    go_wp2_with fail;go_ret;exact⟨by rw[HE.out]<;>rfl,HB.out _⟩
  ·have d2:decide (0≤at_)=false:=Zd h2;have HE:Hid (tvB l at_=false):=Zd fun h=>h2 h.2.1
   go_wp2_with fail;go_ret;exact⟨by rw[HE.out]<;>rfl,HB.out _⟩
 ·have d1:decide ((l.length:Int)≤16384)=false:=Zd (by omega);have HE:Hid (tvB l at_=false):=Zd fun h=>h1 h.1
  go_wp2_with fail;go_ret;exact⟨by rw[HE.out]<;>rfl,HB.out _⟩
theorem Qz(n:Int)(w:World):Calls Tryz.prog 66 #[.int .i64 n] w fun e w'=>e= .returned (.bool (liB n))∧w=w':=by
 go_enter Tryz.func66,Tryz.ntmps66;by_cases h1:1≤n
 ·have d1:decide (1≤n)=true:=Ze h1;by_cases h2:n≤2147483647
  ·have d2:decide (n≤2147483647)=true:=Ze h2;have HE:Hid (liB n=true):=Ze ⟨h1,h2⟩;go_wp2_with fail;go_ret;exact⟨by rw[HE.out]<;>rfl,rfl⟩
  ·have d2:decide (n≤2147483647)=false:=Zd h2;have HE:Hid (liB n=false):=Zd fun h=>h2 h.2
   go_wp2_with fail;go_ret;exact⟨by rw[HE.out]<;>rfl,rfl⟩
 ·have d1:decide (1≤n)=false:=Zd h1;have HE:Hid (liB n=false):=Zd fun h=>h1 h.1
  go_wp2_with fail;go_ret;exact⟨by rw[HE.out]<;>rfl,rfl⟩
theorem Bt{w:World}{base base' e size n:Nat}{v:Value}{xs:List Value}(h:w.ownsRow base e size v n xs)(hb:base'≤base):w.ownsRow base' e size v n xs:=by
 refine⟨h.1,?_⟩;rcases h.2 with hn|⟨g,aA,aB,rfl,hbg,rest⟩
 ·exact .inl hn
 ·exact .inr ⟨g,aA,aB,rfl,by omega,rest⟩
theorem Be{w w':World}{base e size n:Nat}{v:Value}{xs:List Value}(h:w.ownsRow base e size v n xs)(hb:Below w.heap.size w w'):w'.ownsRow base e size v n xs:=by
 refine⟨h.1,?_⟩;rcases h.2 with hn|⟨g,aB,aC,rfl,aD,aA,rest⟩
 ·exact .inl hn
 ·exact .inr ⟨g,aB,aC,rfl,aD,(hb.block g (Ae aA)).trans aA,rest⟩
set_option maxRecDepth 100000 in
theorem Jw(l:List Int)(v:Value)(w:World)(h:SI w v l)(hl:l.length≤1000000):
  Calls Tryz.prog 68 #[v] w fun e w'=>∃v',e= .returned v'∧w'.ownsRow w.heap.size 3 1 v' l.length (l.map (Value.int .i64))∧Below w.heap.size w w':=by
 have HS:=Zk h;obtain⟨A,c,rfl⟩:=h.form';clear h;rcases A with _|a
 ·have aF:l=[]:=by
   rcases Nat.eq_zero_or_pos l.length with h|h
   ·exact List.eq_nil_of_length_eq_zero h
   ·obtain⟨b,off,e,_⟩:=SB.cells HS.out h;cases e
  subst aF;have hn:=Lib.run_eql_slice_nil (P:=Tryz.prog) w 22 3 none 0 c 0 0 Tryz.underlying22;go_enter Tryz.func68,Tryz.ntmps68;go_wp2_with fail;go_ret;exact⟨_,rfl,by simpa using World.ownsRow_nil w w.heap.size 3 1,Zb _ _⟩
 ·have hn:=Lib.run_eql_slice_nil (P:=Tryz.prog) w 22 3 (some a) l.length c 0 0 Tryz.underlying22;go_enter Tryz.func68,Tryz.ntmps68;have hO:Hid ((w.alloc (.cells #[] 3)).ownsRow w.heap.size 3 1 (.slice (some ⟨w.heap.size,0,none⟩) 0 0) 0 []):=Io (base:=w.heap.size) w 3 [] (Zl _) (by simp);have aE:Hid (SB w.heap.size (w.alloc (.cells #[] 3)) (.slice (some a) l.length c) l):=SB.below HS.out ((Zb _ w).alloc (Zl _) _);go_wp2_with (at_builtin;refine Bm _ rfl _ _ 22 rfl w.heap.size 3 Tryz.underlying22 Bf _ [] rfl hO.out w.heap.size _ l rfl aE.out (by simp;omega) (by simp) ?_;intro v2 w2 aA aB;have aD:=Zk aA;have aC:=Zk aB;clear aA aB);go_ret;refine⟨_,rfl,by simpa using aD.out,((Zb _ w).alloc (Zl _) _).grown aC.out (by simp) (fun k hk=> ?_)⟩
  have:=hO.out.lt k hk;omega
theorem Bo{w:World}{R:Nat}{t:TypeId}{x y:Value}(a b:Value)(h:w.heap[R]? =some (.cells #[x,y] t (0,0))):((w.setCell ⟨R,0,none⟩ a).setCell ⟨R,1,none⟩ b).heap[R]? =some (.cells #[a,b] t (0,0)):=by
 have h1:=heap_setCell_same w R 0 _ _ a h;have h2:=heap_setCell_same _ R 1 _ _ b h1;simpa using h2
def dsE(l:List Int)(at_ n c:Int):Int:=if tvB l at_=false then 2 else if liB n=false∨c<0 then 1 else drE l n at_.toNat c.toNat
set_option maxRecDepth 100000 in
set_option maxHeartbeats 4000000 in
theorem Jj(l:List Int)(at_ n c:Int)(v:Value)(w:World)(h:SI w v l)(hc:An c):
  Calls Tryz.prog 44 #[.agg #[v,.int .i64 at_],.int .i64 n,.int .i64 c] w fun e w'=>∃v1 a1 v2,e= .returned (.tuple #[.agg #[v1,.int .i64 a1],v2,.int .i64 (dsE l at_ n c)])∧Below w.heap.size w w'∧
   (dsE l at_ n c=0→a1=at_+c∧SI w' v1 l∧w'.ownsRow w.heap.size 3 1 v2 ((l.drop at_.toNat).take c.toNat).length (((l.drop at_.toNat).take c.toNat).map (Value.int .i64)))∧(dsE l at_ n c≠0→v1= .slice none 0 0∧a1=0∧v2= .slice none 0 0):=by
 have HS:=Zk h;obtain⟨A,cc,rfl⟩:=h.form';clear h;go_enter Tryz.func44,Tryz.ntmps44;go_upto_region 1 with fail
 obtain⟨wa,ew⟩:∃wa:World,wa=(w.alloc (.cells #[.slice A l.length cc,.int .i64 at_] 39)).alloc (.cells #[.slice none 0 0,.int .i64 0] 39):=⟨_,rfl⟩;have aS:Hid (Below w.heap.size w wa):=by show Below _ _ _;rw[ew];exact ((Zb _ w).alloc (Zl _) _).alloc (by simp) _
 have bZ:wa.heap.size=w.heap.size+2:=by rw[ew];simp
 have HT:Hid (wa.heap[w.heap.size]? =some (.cells #[.slice A l.length cc,.int .i64 at_] 39 (0,0))):=by
  show _=_;rw[ew,Below.heap_alloc _ _ _ (by simp)];exact Zh w _
 have HR:Hid (wa.heap[w.heap.size+1]? =some (.cells #[.slice none 0 0,.int .i64 0] 39 (0,0))):=by
  show _=_;rw[ew];have:=Zh (w.alloc (.cells #[.slice A l.length cc,.int .i64 at_] 39)) (.cells #[.slice none 0 0,.int .i64 0] 39);simpa using this
 rw[←ew];clear ew;have bU:=Zk (HS.out.below aS.out);obtain⟨T,hT⟩:∃T,w.heap.size=T:=⟨_,rfl⟩;have aE:=Zk hT;rw[hT] at HT HR bZ⊢;clear hT;have aJ:wa.cell? ⟨T,0,none⟩=some (.slice A l.length cc):=Zc wa T 0 _ _ _ HT.out;have aY:wa.cell? ⟨T,1,none⟩=some (.int .i64 at_):=Zc wa T 1 _ _ _ HT.out;go_wp2_with fail;(with_reducible refine (Rq l at_ _ _ bU.out).mono ?_)
 rintro e w1 ⟨rfl,aK⟩;have HB1:=Zk aK;have aB:Hid (Below w.heap.size w w1):=aS.out.trans (aK.mono aS.out.size);have aV:Hid (w1.heap[T]? =some (.cells #[.slice A l.length cc,.int .i64 at_] 39 (0,0))):=(aK.block T (by omega)).trans HT.out;have aD:Hid (w1.heap[T+1]? =some (.cells #[.slice none 0 0,.int .i64 0] 39 (0,0))):=(aK.block (T+1) (by omega)).trans HR.out;have bY:=aK.size;have aW:w1.cell? ⟨T+1,0,none⟩=some (.slice none 0 0):=Zc w1 (T+1) 0 _ _ _ aD.out;have aX:w1.cell? ⟨T+1,1,none⟩=some (.int .i64 0):=Zc w1 (T+1) 1 _ _ _ aD.out;have aZ:w1.frozen? ⟨T+1,0,none⟩=false:=Zf w1 (T+1) 0 _ _ aD.out;have bA:w1.frozen? ⟨T+1,1,none⟩=false:=Zf w1 (T+1) 1 _ _ aD.out;clear aJ aY aK;by_cases hv:tvB l at_=false
 ·have HE:Hid (dsE l at_ n c=2):=by show _=_;unfold dsE;rw[if_pos hv]
  rw[hv];clear hv;go_wp2_with fail;have HW:=Bo (.slice none 0 0) (.int .i64 0) aD.out;have q0:=Zc _ (T+1) 0 _ _ _ HW;have q1:=Zc _ (T+1) 1 _ _ _ HW;simp only[List.getElem?_toArray,List.getElem?_cons_zero,List.getElem?_cons_succ] at q0 q1;refine bodyPost_ret (v:= .tuple #[.agg #[.slice none 0 0,.int .i64 0],.slice none 0 0,.int .i64 2]) (by simp[results,Tryz.results44,go_sem,q0,q1]) rfl ⟨_,_,_,by rw[HE.out],?_,fun h=>by rw[HE.out] at h;omega,fun _=>⟨rfl,rfl,rfl⟩⟩
  exact (aB.out.setCell (by show _≤T+1;have:=aE.out;omega) _).setCell (by show _≤T+1;have:=aE.out;omega) _
 ·have aQ:tvB l at_=true:=by simpa using hv
  have HV:=Zk aQ;have bE:=Zk hv;rw[aQ];have hvv:l.length≤16384∧0≤at_∧at_≤(l.length:Int):=of_decide_eq_true aQ;clear hv aQ;go_wp2_with fail;(with_reducible refine (Qz n _).mono ?_)
  rintro e w2 ⟨rfl,rfl⟩;by_cases hlm:liB n=false∨c<0
  ·have HE:Hid (dsE l at_ n c=1):=by show _=_;unfold dsE;rw[if_neg bE.out,if_pos hlm]
   have hg:liB n=false∨(liB n=true∧decide (c<0)=true):=by
    cases h:liB n with
    |false=>exact .inl rfl
    |true=>exact .inr ⟨rfl,by rcases hlm with h2|h2;(rw[h] at h2;cases h2);exact Ze h2⟩
   clear hlm;rcases hg with hg|⟨hg,hcz⟩;all_goals
    rw[hg];clear hg;go_wp2_with fail;have HW:=Bo (.slice none 0 0) (.int .i64 0) aD.out;have q0:=Zc _ (T+1) 0 _ _ _ HW;have q1:=Zc _ (T+1) 1 _ _ _ HW;simp only[List.getElem?_toArray,List.getElem?_cons_zero,List.getElem?_cons_succ] at q0 q1;refine bodyPost_ret (v:= .tuple #[.agg #[.slice none 0 0,.int .i64 0],.slice none 0 0,.int .i64 1]) (by simp[results,Tryz.results44,go_sem,q0,q1]) rfl ⟨_,_,_,by rw[HE.out],?_,fun h=>by rw[HE.out] at h;omega,fun _=>⟨rfl,rfl,rfl⟩⟩
    exact (aB.out.setCell (by show _≤T+1;have:=aE.out;omega) _).setCell (by show _≤T+1;have:=aE.out;omega) _
  ·have bJ:liB n=true:=by
    cases h:liB n with
    |false=>exact absurd (.inl h) hlm
    |true=>rfl
   have bX:¬c<0:=fun h=>hlm (.inr h)
   obtain⟨cn,rfl⟩:∃cn:Nat,c=cn:=⟨c.toNat,by omega⟩;obtain⟨an,rfl⟩:∃an:Nat,at_=an:=⟨at_.toNat,by omega⟩;have hdc:decide ((cn:Int)<0)=false:=Zd bX;have aU:Hid (dsE l an n cn=drE l n an cn):=by show _=_;unfold dsE;rw[if_neg bE.out,if_neg hlm];rfl
   rw[bJ];clear hlm bJ;have aJ:w1.cell? ⟨T,0,none⟩=some (.slice A l.length cc):=Zc w1 T 0 _ _ _ aV.out;have aY:w1.cell? ⟨T,1,none⟩=some (.int .i64 an):=Zc w1 T 1 _ _ _ aV.out;go_upto_region 6 with fail
   obtain⟨b,hb⟩:∃b,w1.heap.size=b:=⟨_,rfl⟩;have aN:=Zk hb;obtain⟨w2,aO⟩:∃w2:World,w2=w1.alloc (.cells #[.slice A l.length cc,.int .i64 an,.slice none 0 0] 128):=⟨_,rfl⟩;have aH:Hid (Below w1.heap.size w1 w2):=by show Below _ _ _;rw[aO];exact (Zb _ _).alloc (Zl _) _
   have bM:Hid (w2.heap[b]? =some (.cells #[.slice A l.length cc,.int .i64 an,.slice none 0 0] 128 (0,0))):=by show _=_;rw[aO,←hb];exact Zh w1 _
   have hz2:w2.heap.size=b+1:=by rw[aO,←hb];simp
   rw[←aO,hb];rw[hb] at bY;clear aO hb;have bR:Hid (SB b w2 (.slice A l.length cc) l):=(SB.below HS.out (aB.out.trans (aH.out.mono aB.out.size))).more (by have:=aB.out.size;have:=aN.out;omega);clear aJ aY aW aX aZ bA;go_wp2_with fail;(with_reducible refine (Yd l an n cn b _ w2 bR.out (by omega) (by omega) (by have:=hc;unfold An at this;omega) bM.out).mono ?_)
   rintro e w3 ⟨rfl,aL,bK⟩;have HG3:=Zk aL;have bP:=Zk bK;have hz3:=aL.size;have aI:Hid (w3.heap[T+1]? =some (.cells #[.slice none 0 0,.int .i64 0] 39 (0,0))):=(aL.block (T+1) (by omega) (by simp;omega)).trans ((aH.out.block (T+1) (by have:=aN.out;omega)).trans aD.out);have bV:Hid (w3.heap[T]? =some (.cells #[.slice A l.length cc,.int .i64 an] 39 (0,0))):=(aL.block T (by omega) (by simp;omega)).trans ((aH.out.block T (by have:=aN.out;omega)).trans aV.out);have aA:Hid (Below w.heap.size w w3):=(aB.out.trans (aH.out.mono aB.out.size)).grown aL (by have:=aB.out.size;have:=aH.out.size;omega) (fun k hk=>by injection hk with hk;have:=aB.out.size;have:=aN.out;omega)
   have aW:w3.cell? ⟨T+1,0,none⟩=some (.slice none 0 0):=Zc w3 (T+1) 0 _ _ _ aI.out;have aX:w3.cell? ⟨T+1,1,none⟩=some (.int .i64 0):=Zc w3 (T+1) 1 _ _ _ aI.out;have aZ:w3.frozen? ⟨T+1,0,none⟩=false:=Zf w3 (T+1) 0 _ _ aI.out;have bA:w3.frozen? ⟨T+1,1,none⟩=false:=Zf w3 (T+1) 1 _ _ aI.out;obtain⟨er,bC⟩:∃er,drE l n an cn=er:=⟨_,rfl⟩;have aP:=Zk bC;rw[bC];clear aL bK bC;by_cases h0:er=0
   ·subst h0;obtain⟨vd,bH,aG⟩:=bP.out aP.out;have aR:=Zk bH;have HO:=Zk aG;obtain⟨Ad,cd,rfl⟩:=Bn aG;obtain⟨D,hD⟩:∃D,(l.drop an).take cn=D:=⟨_,rfl⟩;have bN:=Zk hD;rw[hD] at HO aR;have aJ:w3.cell? ⟨T,0,none⟩=some (.slice A l.length cc):=Zc w3 T 0 _ _ _ bV.out;have bF:w3.cell? ⟨b,1,none⟩=some (.int .i64 ((an:Int)+cn)):=Zc w3 b 1 _ _ _ aR.out;have bG:w3.cell? ⟨b,2,none⟩=some (.slice Ad D.length cd):=Zc w3 b 2 _ _ _ aR.out;have bI:b<w3.heap.size:=by omega
    have bW:T<w3.heap.size:=by omega
    have aF:T+1<w3.heap.size:=by omega
    have bQ:Hid (∀x∈l,An x):=by obtain⟨_,_,_,_,_,hr,_⟩:=HS.out;exact hr
    have bS:Hid (SI w3 (.slice A l.length cc) l):=(SB.below HS.out aA.out).si aA.out.size;clear bH aG hD;go_wp2_with fail;have hbT:¬(b=T+1):=by have:=aN.out;omega
    have hbT':¬(T+1=b):=by omega
    go_region_held3 (fun w'=>w'.cell? ⟨T,0,none⟩=some (.slice A l.length cc)∧w'.cell? ⟨b,1,none⟩=some (.int .i64 ((an:Int)+cn))∧w'.cell? ⟨b,2,none⟩=some (.slice Ad D.length cd)) (first|exact⟨aJ,bF,bG⟩|exact⟨x0,x1,x2⟩|go_keep)
     (first|(go_at_call 68;refine (Jw l _ _ (by exact bS.out) (by omega)).mono ?_;rintro e w4 ⟨v4,rfl,bB,aC⟩;obtain⟨A4,k4,rfl⟩:=Bn bB;have bT:=Zk bB;have aM:=Zk aC;have x0:=(aC.cell (p:=⟨T,0,none⟩) bW).trans aJ;have x1:=(aC.cell (p:=⟨b,1,none⟩) bI).trans bF;have x2:=(aC.cell (p:=⟨b,2,none⟩) bI).trans bG;have x3:=(aC.cell (p:=⟨T+1,0,none⟩) aF).trans aW;have x4:=(aC.cell (p:=⟨T+1,1,none⟩) aF).trans aX;have x5:=(aC.frozen (p:=⟨T+1,0,none⟩) aF).trans aZ;have x6:=(aC.frozen (p:=⟨T+1,1,none⟩) aF).trans bA;clear bB aC))
    all_goals
     have bD:Hid (w4.heap[T+1]? =some (.cells #[.slice none 0 0,.int .i64 0] 39 (0,0))):=(aM.out.block (T+1) aF).trans aI.out;have aT:Hid (Below w.heap.size w w4):=aA.out.trans ((by first|exact aM.out|exact aM.out.drew_left:Below w3.heap.size w3 w4).mono aA.out.size);go_wp2_with fail;have HW:=Bo (.slice A4 l.length k4) (.int .i64 ((an:Int)+cn)) bD.out;have q0:=Zc _ (T+1) 0 _ _ _ HW;have q1:=Zc _ (T+1) 1 _ _ _ HW;simp only[List.getElem?_toArray,List.getElem?_cons_zero,List.getElem?_cons_succ] at q0 q1;have hTw:w.heap.size≤T:=by have:=aE.out;omega
     have hTl2:T+1<w4.heap.size:=Ae bD.out;have bL:Hid (Below w.heap.size w ((w4.setCell ⟨T+1,0,none⟩ (.slice A4 l.length k4)).setCell ⟨T+1,1,none⟩ (.int .i64 ((an:Int)+cn)))):=(aT.out.setCell (by show _≤T+1;omega) _).setCell (by show _≤T+1;omega) _;refine bodyPost_ret (v:= .tuple #[.agg #[.slice A4 l.length k4,.int .i64 ((an:Int)+cn)],.slice Ad D.length cd,.int .i64 0]) (by simp[results,Tryz.results44,go_sem,q0,q1]) rfl ⟨_,_,_,by rw[aU.out,aP.out],bL.out,fun _=>⟨rfl,?_,?_⟩,fun h=>absurd (aU.out.trans aP.out) h⟩
     ·exact SI.of_own (Ay (Ay bT.out aF _) aF _) bQ.out
     ·rw[show ((an:Int)).toNat=an from rfl,show ((cn:Int)).toNat=cn from rfl,bN.out];exact Bt (Ay (Ay (Be HO.out (by first|exact aM.out|exact aM.out.drew_left)) (by show T+1<w2.heap.size;omega) _) (by show T+1<w2.heap.size;omega) _) (by have:=aH.out.size;have:=aB.out.size;omega)
   ·have HE:Hid (dsE l an n cn=er):=aU.out.trans aP.out;have hbn:(er !=0)=true:=by rw[bne_iff_ne];exact h0
    have bO:=Zk h0;clear h0;go_wp2_with fail;have HW:=Bo (.slice none 0 0) (.int .i64 0) aI.out;have q0:=Zc _ (T+1) 0 _ _ _ HW;have q1:=Zc _ (T+1) 1 _ _ _ HW;simp only[List.getElem?_toArray,List.getElem?_cons_zero,List.getElem?_cons_succ] at q0 q1;refine bodyPost_ret (v:= .tuple #[.agg #[.slice none 0 0,.int .i64 0],.slice none 0 0,.int .i64 er]) (by simp[results,Tryz.results44,go_sem,q0,q1]) rfl ⟨_,_,_,by rw[HE.out],?_,fun h=>by rw[HE.out] at h;exact absurd h bO.out,fun _=>⟨rfl,rfl,rfl⟩⟩
    exact (aA.out.setCell (by show _≤T+1;have:=aE.out;omega) _).setCell (by show _≤T+1;have:=aE.out;omega) _
open Go.RowKit
def SE(g:Nat)(w:World)(v:Value)(l:List Int):Prop:=
 ∃A c,v= .slice A l.length c∧l.length≤c∧c≤9223372036854775807∧(∀x∈l,An x)∧
  (0<l.length→∃b off,A=some ⟨b,off,none⟩∧b<w.heap.size∧b≠g∧∀j (h:j<l.length),w.cell? ⟨b,off+j,none⟩=some (.int .i64 l[j]))
theorem SE.grown{g:Nat}{w w':World}{v:Value}{l:List Int}(h:SE g w v l)(hg:w.grownBy w' (some g)):SE g w' v l:=by
 obtain⟨A,c,rfl,hc,hm,hr,ha⟩:=h;refine⟨A,c,rfl,hc,hm,hr,fun h0=> ?_⟩
 obtain⟨b,aC,rfl,hb,aB,aA⟩:=ha h0;exact⟨b,aC,rfl,Nat.lt_of_lt_of_le hb hg.size,aB,fun j hj=>(World.cell?_of_block (hg.block b hb (by simpa using aB))).trans (aA j hj)⟩
theorem SE.below{g:Nat}{w w':World}{v:Value}{l:List Int}(h:SE g w v l)(hb:Below w.heap.size w w'):SE g w' v l:=h.grown (Ag hb _)
theorem SE.si{g:Nat}{w:World}{v:Value}{l:List Int}(h:SE g w v l):SI w v l:=by
 obtain⟨A,c,rfl,hc,hm,hr,ha⟩:=h;refine⟨A,c,rfl,hc,hm,hr,fun h0=> ?_⟩
 obtain⟨b,aB,rfl,hb,_,aA⟩:=ha h0;exact⟨b,aB,rfl,hb,aA⟩
theorem SE.form{g:Nat}{w:World}{v:Value}{l:List Int}(h:SE g w v l):∃A c,v= .slice A l.length c:=by
 obtain⟨A,c,rfl,_⟩:=h;exact⟨A,c,rfl⟩
theorem SE.of_own{g:Nat}{w:World}{base:Nat}{e:TypeId}{v:Value}{l:List Int}(h:w.ownsRow base e 1 v l.length (l.map (Value.int .i64)))(hr:∀x∈l,An x)(hg:g<base):SE g w v l:=by
 rcases h.2 with⟨rfl,hn⟩|⟨b,aA,cur,rfl,hb,aC,aD,aB,hcs,htake⟩
 ·have:l=[]:=List.eq_nil_of_length_eq_zero hn;subst this;exact⟨none,0,rfl,Zl _,by omega,hr,fun h=>by simp at h⟩
 ·refine⟨_,aA,rfl,aD,by simpa [maxLen] using aB,hr,fun h0=>⟨b,0,rfl,(Array.getElem?_eq_some_iff.1 aC).1,by omega,fun j hj=> ?_⟩⟩
  have:=h.cellAt j (by omega);rw[Nat.zero_add,this];simp[hj]
def TAc(O:Nat)(v:Value)(ns:List Int)(w:World):Prop:=w.heap[O]? =some (.cells #[v,.int .i64 0] 39 (0,0))∧w.ownsRow (O+1) 3 1 v ns.length (ns.map (Value.int .i64))
theorem TAc.lt{O:Nat}{v:Value}{ns:List Int}{w:World}(h:TAc O v ns w):O<w.heap.size:=Ae h.1
theorem TAc.step{O g9 cap9:Nat}{v:Value}{ns:List Int}{y:Int}{w0 w w9:World}(h:TAc O v ns w)(hB:Below O w0 w)
  (hg:(w.alloc (.cells #[.int .i64 y] 3)).grownBy w9 v.ownBlock) (ho:w9.ownsRow (O+1) 3 1 (.slice (some ⟨g9,0,none⟩) (ns++[y]).length cap9) (ns++[y]).length ((ns++[y]).map (Value.int .i64))):
  TAc O (.slice (some ⟨g9,0,none⟩) (ns.length+1) cap9) (ns++[y]) (w9.setCell ⟨O,0,none⟩ (.slice (some ⟨g9,0,none⟩) (ns.length+1) cap9))∧Below O w0 (w9.setCell ⟨O,0,none⟩ (.slice (some ⟨g9,0,none⟩) (ns.length+1) cap9)):=by
 have aA:=h.lt;have hv:∀q,v.ownBlock=some q→O+1≤q:=fun q hq=>(h.2.lt q hq).1
 have hO:w9.heap[O]? =some (.cells #[v,.int .i64 0] 39 (0,0)):=(hg.block O (by simp;omega) (fun e=>by have:=hv O e.symm;omega)).trans ((Below.heap_alloc w _ O aA).trans h.1)
 have hl:(ns++[y]).length=ns.length+1:=by simp
 rw[hl] at ho;refine⟨⟨?_,?_⟩,?_⟩
 ·have:=heap_setCell_same w9 O 0 _ _ (.slice (some ⟨g9,0,none⟩) (ns.length+1) cap9) hO;simpa using this
 ·rw[hl];exact Ay ho (by show O<O+1;omega) _
 ·exact (((hB.alloc (Nat.le_of_lt aA) _)).grown hg (by simp;omega) (fun k hk=>by have:=hv k hk;omega)).setCell (Zl _) _
theorem TAc.frozen{O:Nat}{v:Value}{ns:List Int}{w w9:World}{y:Int}(h:TAc O v ns w)(hg:(w.alloc (.cells #[.int .i64 y] 3)).grownBy w9 v.ownBlock):w9.frozen? ⟨O,0,none⟩=false:=by
 have hv:∀q,v.ownBlock=some q→O+1≤q:=fun q hq=>(h.2.lt q hq).1
 exact Zf w9 O 0 _ _ ((hg.block O (by have:=h.lt;simp;omega) (fun e=>by have:=hv O e.symm;omega)).trans ((Below.heap_alloc w _ O h.lt).trans h.1))
theorem TAc.ne{O:Nat}{v:Value}{ns:List Int}{w:World}(h:TAc O v ns w):some O≠v.ownBlock:=fun e=>by have:=(h.2.lt O e.symm).1;omega
open Go.RowKit
theorem At{w:World}{base e size n:Nat}{v u:Value}{xs:List Value}{p:Addr}(h:w.ownsRow base e size v n xs)(hp:p.block<base):(w.setCell p u).ownsRow base e size v n xs:=Ay h hp u
theorem Ri(l:List Int)(at_:Int)(v:Value)(w:World)(h:SI w v l):
  Calls Tryz.prog 90 #[.agg #[v,.int .i64 at_]] w fun e w'=>e= .returned (.bool (tvB l at_))∧Below w.heap.size w w':=by
 obtain⟨A,c,rfl⟩:=h.form';clear h;have HB:Hid (∀o:Obj,Below w.heap.size w (w.alloc o)):=fun o=>(Zb _ w).alloc (Zl _) o
 go_enter Tryz.func90,Tryz.ntmps90;by_cases h1:l.length≤16384
 ·have d1:decide ((l.length:Int)≤16384)=true:=Ze (by omega);by_cases h2:0≤at_
  ·have d2:decide (0≤at_)=true:=Ze h2;by_cases h3:at_≤(l.length:Int)
   ·have d3:decide (at_≤(l.length:Int))=true:=Ze h3;have HE:Hid (tvB l at_=true):=Ze ⟨h1,h2,h3⟩;go_wp2_with fail;go_ret;exact⟨by rw[HE.out]<;>rfl,HB.out _⟩
   ·have d3:decide (at_≤(l.length:Int))=false:=Zd h3;have HE:Hid (tvB l at_=false):=Zd fun h=>h3 h.2.2
    go_wp2_with fail;go_ret;exact⟨by rw[HE.out]<;>rfl,HB.out _⟩
  ·have d2:decide (0≤at_)=false:=Zd h2;have HE:Hid (tvB l at_=false):=Zd fun h=>h2 h.2.1
   go_wp2_with fail;go_ret;exact⟨by rw[HE.out]<;>rfl,HB.out _⟩
 ·have d1:decide ((l.length:Int)≤16384)=false:=Zd (by omega);have HE:Hid (tvB l at_=false):=Zd fun h=>h1 h.1
  go_wp2_with fail;go_ret;exact⟨by rw[HE.out]<;>rfl,HB.out _⟩
theorem Rz{a w w':World}{F:Nat}{r:Option Nat}(h:a.grownBy w (some F))(hg:w.grownBy w' r)(hr:∀b,r=some b→a.heap.size≤b):a.grownBy w' (some F):=
 ⟨hg.os.trans h.os,hg.tape.trans h.tape,hg.output.trans h.output,Nat.le_trans h.size hg.size,fun i hi hn=>(hg.block i (Nat.lt_of_lt_of_le hi h.size) (fun e=>by have:=hr i e.symm;omega)).trans (h.block i hi hn)⟩
theorem Ju{a w:World}{F i:Nat}{u:Value}(h:a.grownBy w (some F)):a.grownBy (w.setCell ⟨F,i,none⟩ u) (some F):=
 ⟨h.os,h.tape,h.output,by simpa using h.size,fun j hj hn=>by
  have e:j≠F:=by simpa using hn
  have h1:=h.block j hj hn;rw[←h1];exact Zo w ⟨F,i,none⟩ j u e⟩
set_option maxRecDepth 100000 in
set_option maxHeartbeats 4000000 in
theorem Uh(l:List Int)(at_:Int)(v:Value)(w:World)(h:SI w v l)(hz:l.length≤1000000):
  Calls Tryz.prog 91 #[.agg #[v,.int .i64 at_]] w fun e w'=>∃v1,e= .returned (.agg #[v1,.int .i64 at_])∧w'.ownsRow w.heap.size 3 1 v1 l.length (l.map (Value.int .i64))∧Below w.heap.size w w':=by
 have HS:=Zk h;obtain⟨A,c,rfl⟩:=h.form';clear h;go_enter Tryz.func91,Tryz.ntmps91;obtain⟨F,eF⟩:∃F,F=w.heap.size:=⟨_,rfl⟩;obtain⟨w1,aH⟩:∃w1:World,w1=(w.alloc (.cells #[.slice A l.length c,.int .i64 at_] 39)).alloc (.cells #[.slice none 0 0,.int .i64 0] 39):=⟨_,rfl⟩;have aI:Hid ((w.alloc (.cells #[.slice A l.length c,.int .i64 at_] 39)).alloc (.cells #[.slice none 0 0,.int .i64 0] 39)=w1):=aH.symm;have aC:Hid (Below w.heap.size w w1):=Zk (by rw[aH];exact ((Zb _ w).alloc (Zl _) _).alloc (by simp) _);have aA:Hid (w1.heap[F]? =some (.cells #[.slice A l.length c,.int .i64 at_] 39 (0,0))):=Zk (by show _=_;rw[aH,eF,Below.heap_alloc _ _ _ (by simp)];exact Zh w _);have aD:Hid (w1.heap[F+1]? =some (.cells #[.slice none 0 0,.int .i64 0] 39 (0,0))):=Zk (by show _=_;rw[aH,eF];have:=Zh (w.alloc (.cells #[.slice A l.length c,.int .i64 at_] 39)) (.cells #[.slice none 0 0,.int .i64 0] 39);simpa using this);have hFw:w.heap.size≤F:=by omega
 go_upto_region 1 with fail
 rw[aI.out,←eF];clear aH eF;have x0:=Zc w1 F 0 _ _ _ aA.out;simp at x0;have aJ:F+1<w1.heap.size:=Ae aD.out;go_upto_region 2 with (at_builtin;refine Bm _ rfl _ _ 22 rfl w1.heap.size 3 Tryz.underlying22 Bf (.slice none 0 0) [] rfl (World.ownsRow_nil _ _ _ _) w1.heap.size (.slice A l.length c) l rfl (HS.out.below aC.out) (by simp;omega) (Zl _) ?_;intro v2 w2 aB aF;rw[List.nil_append] at aB;obtain⟨A2,c2,aU⟩:=Bn aB;subst aU;have aS:=Zk aB;have aG:Hid (Below w1.heap.size w1 w2):=Zk (⟨aF.os,aF.tape,aF.output,aF.size,fun i hi=>aF.block i hi (by simp[Value.ownBlock])⟩);have f0:=Zf w2 F 0 _ _ ((aG.out.block F (by omega)).trans aA.out);have e0:w2.cell? ⟨F,0,none⟩=some (.slice A l.length c):=Zc w2 F 0 _ _ _ ((aG.out.block F (by omega)).trans aA.out);clear aB aF)
 have aM:=(aG.out.block F (by omega)).trans aA.out;have aN:=(aG.out.block (F+1) aJ).trans aD.out;have h3:=heap_setCell_same w2 F 0 _ _ (.slice A2 l.length c2) aM;have aE:=(Zo w2 ⟨F,0,none⟩ (F+1) (.slice A2 l.length c2) (by show F+1≠F;omega)).trans aN;have aL:=At (p:=⟨F,0,none⟩) (u:= .slice A2 l.length c2) aS.out (by show F<_;omega);have aK:=(aC.out.trans (aG.out.mono aC.out.size)).setCell (p:=⟨F,0,none⟩) (by show _≤F;omega) (.slice A2 l.length c2);generalize (w2.setCell ⟨F,0,none⟩ (.slice A2 l.length c2))=w3 at h3 aE aL aK⊢;have aT:=Zk aL;have aR:=Zk aK;have aQ:=Zk aE;have y0:=Zc w3 F 0 _ _ _ h3;have y1:=Zc w3 F 1 _ _ _ h3;have g0:=Zf w3 (F+1) 0 _ _ aE;have g1:=Zf w3 (F+1) 1 _ _ aE;have z0:w3.cell? ⟨F+1,0,none⟩=some (.slice none 0 0):=Zc w3 (F+1) 0 _ _ _ aE;have z1:w3.cell? ⟨F+1,1,none⟩=some (.int .i64 0):=Zc w3 (F+1) 1 _ _ _ aE;simp at y0 y1;clear aM aN h3 aE aL aK f0 e0 x0;go_wp2_with fail;have h4:=Bo (.slice A2 l.length c2) (.int .i64 at_) aQ.out;have aP:=At (p:=⟨F+1,1,none⟩) (u:= .int .i64 at_) (At (p:=⟨F+1,0,none⟩) (u:= .slice A2 l.length c2) aT.out aJ) aJ;have aO:=(aR.out.setCell (p:=⟨F+1,0,none⟩) (by show _≤F+1;omega) (.slice A2 l.length c2)).setCell (p:=⟨F+1,1,none⟩) (by show _≤F+1;omega) (.int .i64 at_);generalize ((w3.setCell ⟨F+1,0,none⟩ (.slice A2 l.length c2)).setCell ⟨F+1,1,none⟩ (.int .i64 at_))=w4 at h4 aP aO⊢;have q0:=Zc w4 (F+1) 0 _ _ _ h4;have q1:=Zc w4 (F+1) 1 _ _ _ h4;simp at q0 q1;exact bodyPost_ret (v:= .agg #[.slice A2 l.length c2,.int .i64 at_]) (by simp[results,Tryz.results91,go_sem,q0,q1]) rfl ⟨_,rfl,Bt aP aC.out.size,aO⟩
def DrP(l:List Int)(at_ n c:Int)(w:World)(e:Ending)(w':World):Prop:=
 ∃v1 a1 v2,e= .returned (.tuple #[.agg #[v1,.int .i64 a1],v2,.int .i64 (dsE l at_ n c)])∧Below w.heap.size w w'∧
  (dsE l at_ n c=0→a1=at_+c∧w'.ownsRow w.heap.size 3 1 v1 l.length (l.map (Value.int .i64))∧w'.ownsRow w.heap.size 3 1 v2 ((l.drop at_.toNat).take c.toNat).length (((l.drop at_.toNat).take c.toNat).map (Value.int .i64)))∧
  (dsE l at_ n c≠0→v1= .slice none 0 0∧a1=0∧v2= .slice none 0 0)
def DwR(l:List Int)(n:Int)(an cn F:Nat)(A1:Option Addr)(c1:Nat)(w4:World)(ov iv:Value)(wr:World):Prop:=
 ∃k q:Nat,k≤cn∧q=an+k∧iv= .int .i64 k∧q≤l.length∧wr.heap[F]? =some (.cells #[.slice A1 l.length c1,.int .i64 (q:Int)] 39 (0,0))∧
  wr.ownsRow w4.heap.size 3 1 ov ((l.drop an).take k).length (((l.drop an).take k).map (Value.int .i64))∧drE l n an cn=drE l n q (cn-k)∧w4.grownBy wr (some F)
theorem zDd{a w:World}{F base n e size:Nat}{v:Value}{xs:List Value}(h:a.ownsRow base e size v n xs)(hg:a.grownBy w (some F))(hF:F<base):w.ownsRow base e size v n xs:=by
 refine⟨h.1,?_⟩;rcases h.2 with h0|⟨g,aA,aB,h1,h2,h3,h4⟩
 ·exact .inl h0
 ·exact .inr ⟨g,aA,aB,h1,h2,(hg.block g (Ae h3) (by simp;omega)).trans h3,h4⟩
set_option maxRecDepth 100000 in
set_option maxHeartbeats 8000000 in
theorem Ry(l:List Int)(at_ n c:Int)(v:Value)(w:World)(h:SI w v l)(hc:An c):
  Calls Tryz.prog 72 #[.agg #[v,.int .i64 at_],.int .i64 n,.int .i64 c] w (DrP l at_ n c w):=by
 have HS:=Zk h;obtain⟨A,cc,rfl⟩:=h.form';clear h;obtain⟨n0,bC⟩:∃n0,n0=l.length:=⟨_,rfl⟩;rw[←bC] at HS⊢;have HN:=Zk bC;clear bC;go_enter Tryz.func72,Tryz.ntmps72;obtain⟨F,eF⟩:∃F,F=w.heap.size:=⟨_,rfl⟩;obtain⟨w1,aN⟩:∃w1:World,w1=(w.alloc (.cells #[.slice A n0 cc,.int .i64 at_] 39)).alloc (.cells #[.slice none 0 0,.int .i64 0] 39):=⟨_,rfl⟩;have bB:Hid ((w.alloc (.cells #[.slice A n0 cc,.int .i64 at_] 39)).alloc (.cells #[.slice none 0 0,.int .i64 0] 39)=w1):=aN.symm;have aI:Hid (Below w.heap.size w w1):=Zk (by rw[aN];exact ((Zb _ w).alloc (Zl _) _).alloc (by simp) _);have aC:Hid (w1.heap[F]? =some (.cells #[.slice A n0 cc,.int .i64 at_] 39 (0,0))):=Zk (by show _=_;rw[aN,eF,Below.heap_alloc _ _ _ (by simp)];exact Zh w _);have aG:Hid (w1.heap[F+1]? =some (.cells #[.slice none 0 0,.int .i64 0] 39 (0,0))):=Zk (by show _=_;rw[aN,eF];have:=Zh (w.alloc (.cells #[.slice A n0 cc,.int .i64 at_] 39)) (.cells #[.slice none 0 0,.int .i64 0] 39);simpa using this);have hFw:w.heap.size≤F:=by omega
 have bM:F+1<w1.heap.size:=Ae aG.out;go_upto_region 1 with fail
 rw[bB.out,←eF];clear aN eF;have x0:=Zc w1 F 0 _ _ _ aC.out;have x1:=Zc w1 F 1 _ _ _ aC.out;simp at x0 x1;have bN:SI w1 (.slice A l.length cc) l:=by rw[←HN.out];exact HS.out.below aI.out
 have HV:Hid (Calls Tryz.prog 90 #[.agg #[.slice A n0 cc,.int .i64 at_]] w1 fun e w'=>e= .returned (.bool (tvB l at_))∧Below w1.heap.size w1 w'):=Zk (by rw[HN.out];exact Ri l at_ _ w1 bN)
 clear bN;go_wp2_with fail;(with_reducible refine HV.out.mono ?_)
 rintro e w2 ⟨rfl,aO⟩;have aF:Hid (Below w.heap.size w w2):=Zk (aI.out.trans (aO.mono aI.out.size));have aJ:Hid (w2.heap[F]? =some (.cells #[.slice A n0 cc,.int .i64 at_] 39 (0,0))):=Zk ((aO.block F (by omega)).trans aC.out);have aE:Hid (w2.heap[F+1]? =some (.cells #[.slice none 0 0,.int .i64 0] 39 (0,0))):=Zk ((aO.block (F+1) bM).trans aG.out);have cK:F+1<w2.heap.size:=Nat.lt_of_lt_of_le bM aO.size;have g0:=Zf w2 (F+1) 0 _ _ aE.out;have g1:=Zf w2 (F+1) 1 _ _ aE.out;have z0:w2.cell? ⟨F+1,0,none⟩=some (.slice none 0 0):=Zc w2 (F+1) 0 _ _ _ aE.out;have z1:w2.cell? ⟨F+1,1,none⟩=some (.int .i64 0):=Zc w2 (F+1) 1 _ _ _ aE.out;clear aO x0 x1 HV;by_cases hv:tvB l at_=false
 ·have HE:Hid (dsE l at_ n c=2):=Zk (by show _=_;unfold dsE;rw[if_pos hv]);rw[hv];clear hv;go_wp2_with fail;have h4:=Bo (.slice none 0 0) (.int .i64 0) aE.out;have aA:=(aF.out.setCell (p:=⟨F+1,0,none⟩) (by show _≤F+1;omega) (.slice none 0 0)).setCell (p:=⟨F+1,1,none⟩) (by show _≤F+1;omega) (.int .i64 0);generalize ((w2.setCell ⟨F+1,0,none⟩ (.slice none 0 0)).setCell ⟨F+1,1,none⟩ (.int .i64 0))=wE at h4 aA⊢;have q0:=Zc wE (F+1) 0 _ _ _ h4;have q1:=Zc wE (F+1) 1 _ _ _ h4;simp at q0 q1;refine bodyPost_ret (v:= .tuple #[.agg #[.slice none 0 0,.int .i64 0],.slice none 0 0,.int .i64 2]) (by simp[results,Tryz.results72,go_sem,q0,q1]) rfl ?_;exact⟨_,_,_,by rw[HE.out],aA,fun h=>by rw[HE.out] at h;omega,fun _=>⟨rfl,rfl,rfl⟩⟩
 have bJ:tvB l at_=true:=by simpa using hv
 have aS:=Zk hv;rw[bJ];have bR:l.length≤16384∧0≤at_∧at_≤(l.length:Int):=of_decide_eq_true bJ;clear hv bJ;by_cases h1:n<1
 ·have HE:Hid (dsE l at_ n c=1):=Zk (by show _=_;unfold dsE;rw[if_neg aS.out,if_pos (.inl (Zd fun h=>by omega))])
  have d1:decide (n<1)=true:=Ze h1;clear h1;go_wp2_with fail;have h4:=Bo (.slice none 0 0) (.int .i64 0) aE.out;have aA:=(aF.out.setCell (p:=⟨F+1,0,none⟩) (by show _≤F+1;omega) (.slice none 0 0)).setCell (p:=⟨F+1,1,none⟩) (by show _≤F+1;omega) (.int .i64 0);generalize ((w2.setCell ⟨F+1,0,none⟩ (.slice none 0 0)).setCell ⟨F+1,1,none⟩ (.int .i64 0))=wE at h4 aA⊢;have q0:=Zc wE (F+1) 0 _ _ _ h4;have q1:=Zc wE (F+1) 1 _ _ _ h4;simp at q0 q1;refine bodyPost_ret (v:= .tuple #[.agg #[.slice none 0 0,.int .i64 0],.slice none 0 0,.int .i64 1]) (by simp[results,Tryz.results72,go_sem,q0,q1]) rfl ?_;exact⟨_,_,_,by rw[HE.out],aA,fun h=>by rw[HE.out] at h;omega,fun _=>⟨rfl,rfl,rfl⟩⟩
 have d1:decide (n<1)=false:=Zd h1;by_cases h2:2147483647<n
 ·have HE:Hid (dsE l at_ n c=1):=Zk (by show _=_;unfold dsE;rw[if_neg aS.out,if_pos (.inl (Zd fun h=>by omega))])
  have d2:decide (2147483647<n)=true:=Ze h2;clear h1 h2;go_wp2_with fail;have h4:=Bo (.slice none 0 0) (.int .i64 0) aE.out;have aA:=(aF.out.setCell (p:=⟨F+1,0,none⟩) (by show _≤F+1;omega) (.slice none 0 0)).setCell (p:=⟨F+1,1,none⟩) (by show _≤F+1;omega) (.int .i64 0);generalize ((w2.setCell ⟨F+1,0,none⟩ (.slice none 0 0)).setCell ⟨F+1,1,none⟩ (.int .i64 0))=wE at h4 aA⊢;have q0:=Zc wE (F+1) 0 _ _ _ h4;have q1:=Zc wE (F+1) 1 _ _ _ h4;simp at q0 q1;refine bodyPost_ret (v:= .tuple #[.agg #[.slice none 0 0,.int .i64 0],.slice none 0 0,.int .i64 1]) (by simp[results,Tryz.results72,go_sem,q0,q1]) rfl ?_;exact⟨_,_,_,by rw[HE.out],aA,fun h=>by rw[HE.out] at h;omega,fun _=>⟨rfl,rfl,rfl⟩⟩
 have d2:decide (2147483647<n)=false:=Zd h2;by_cases h3:c<0
 ·have HE:Hid (dsE l at_ n c=1):=Zk (by show _=_;unfold dsE;rw[if_neg aS.out,if_pos (.inr h3)]);have d3:decide (c<0)=true:=Ze h3;clear h1 h2 h3;go_wp2_with fail;have h4:=Bo (.slice none 0 0) (.int .i64 0) aE.out;have aA:=(aF.out.setCell (p:=⟨F+1,0,none⟩) (by show _≤F+1;omega) (.slice none 0 0)).setCell (p:=⟨F+1,1,none⟩) (by show _≤F+1;omega) (.int .i64 0);generalize ((w2.setCell ⟨F+1,0,none⟩ (.slice none 0 0)).setCell ⟨F+1,1,none⟩ (.int .i64 0))=wE at h4 aA⊢;have q0:=Zc wE (F+1) 0 _ _ _ h4;have q1:=Zc wE (F+1) 1 _ _ _ h4;simp at q0 q1;refine bodyPost_ret (v:= .tuple #[.agg #[.slice none 0 0,.int .i64 0],.slice none 0 0,.int .i64 1]) (by simp[results,Tryz.results72,go_sem,q0,q1]) rfl ?_;exact⟨_,_,_,by rw[HE.out],aA,fun h=>by rw[HE.out] at h;omega,fun _=>⟨rfl,rfl,rfl⟩⟩
 have d3:decide (c<0)=false:=Zd h3;have bO:liB n=true:=Ze (by omega);obtain⟨cn,rfl⟩:∃cn:Nat,c=cn:=⟨c.toNat,by omega⟩;obtain⟨an,rfl⟩:∃an:Nat,at_=an:=⟨at_.toNat,by omega⟩;have aY:Hid (dsE l an n cn=drE l n an cn):=Zk (by show _=_;unfold dsE;rw[if_neg aS.out,if_neg (by rw[bO];simp)];rfl);have hn0:n0≤16384:=by rw[HN.out];exact bR.1
 have cE:an≤n0:=by rw[HN.out];omega
 have hcr:(cn:Int)≤9223372036854775807:=by unfold An at hc;omega
 have x0:=Zc w2 F 0 _ _ _ aJ.out;have x1:=Zc w2 F 1 _ _ _ aJ.out;simp at x0 x1;have bK:Hid (Calls Tryz.prog 91 #[.agg #[.slice A n0 cc,.int .i64 an]] w2 fun e w'=>∃v1,e= .returned (.agg #[v1,.int .i64 an])∧w'.ownsRow w2.heap.size 3 1 v1 n0 (l.map (Value.int .i64))∧Below w2.heap.size w2 w'):=Zk (by
  have h:=Uh l an (.slice A n0 cc) w2 (HS.out.below aF.out) (by rw[←HN.out];omega);rw[←HN.out] at h;exact h)
 have f0:=Zf w2 F 0 _ _ aJ.out;have f1:=Zf w2 F 1 _ _ aJ.out;clear bO h1 h2 h3 bR hc g0 g1 z0 z1;go_wp2_with fail;(with_reducible refine bK.out.mono ?_)
 rintro e w3 ⟨v1,rfl,bF,aU⟩;obtain⟨A1,c1,cD⟩:=Bn bF;subst cD;have bW:=Zk bF;have bS:=Zk aU;have aK:Hid (w3.heap[F]? =some (.cells #[.slice A n0 cc,.int .i64 an] 39 (0,0))):=Zk ((aU.block F (by omega)).trans aJ.out);have bY:Hid (w3.heap[F+1]? =some (.cells #[.slice none 0 0,.int .i64 0] 39 (0,0))):=Zk ((aU.block (F+1) cK).trans aE.out);clear bF aU x0 x1 bK f0 f1;have f0:=Zf w3 F 0 _ _ aK.out;have f1:=Zf w3 F 1 _ _ aK.out;have x0:w3.cell? ⟨F,0,none⟩=some (.slice A n0 cc):=Zc w3 F 0 _ _ _ aK.out;have x1:w3.cell? ⟨F,1,none⟩=some (.int .i64 an):=Zc w3 F 1 _ _ _ aK.out;go_upto_region 6 with fail
 have aR:=Bo (.slice A1 n0 c1) (.int .i64 an) aK.out;have aM:((w3.setCell ⟨F,0,none⟩ (.slice A1 n0 c1)).setCell ⟨F,1,none⟩ (.int .i64 an)).heap[F+1]? =some (.cells #[.slice none 0 0,.int .i64 0] 39 (0,0)):=(Zo _ _ (F+1) _ (by show F+1≠F;omega)).trans ((Zo _ _ (F+1) _ (by show F+1≠F;omega)).trans bY.out);have aA:=((aF.out.trans (bS.out.mono aF.out.size)).setCell (p:=⟨F,0,none⟩) (by show _≤F;omega) (.slice A1 n0 c1)).setCell (p:=⟨F,1,none⟩) (by show _≤F;omega) (.int .i64 an);have bG:=At (p:=⟨F,1,none⟩) (u:= .int .i64 an) (At (p:=⟨F,0,none⟩) (u:= .slice A1 n0 c1) bW.out (by show F<_;omega)) (by show F<_;omega);generalize ((w3.setCell ⟨F,0,none⟩ (.slice A1 n0 c1)).setCell ⟨F,1,none⟩ (.int .i64 an))=w4 at aR aM aA bG⊢;have aR:=Zk aR;have aM:=Zk aM;have aW:=Zk aA;have bL:=Zk bG;have cL:F+1<w4.heap.size:=Ae aM.out;have bZ:Hid (∀W,w4.grownBy W (some F)→SE F W (.slice A1 n0 c1) l):=Zk (fun W hW=>by
  have h:=bL.out;rw[HN.out] at h⊢;obtain⟨_,_,_,_,_,hr,_⟩:=HS.out;exact (SE.of_own h hr (by omega)).grown hW)
 clear aA bG f0 f1 x0 x1;go_wp2_with fail;go_loopw [9,10] (fun ov iv wr=>DwR l n an cn F A1 c1 w4 ov iv wr) (fun _ iv _=>cn- (intOf iv).toNat)
 case atStart=>exact⟨0,an,Nat.zero_le _,rfl,rfl,by rw[←HN.out];exact cE,by rw[←HN.out];exact aR.out,by simpa using World.ownsRow_nil w4 w4.heap.size 3 1,rfl,Ah _ _⟩
 case round=>
  obtain⟨k,q,hk,hq,rfl,cI,hF,aQ,hdr,hg⟩:=hrel;rw[←HN.out] at cI hF;have HF:=Zk hF;have HQ:=Zk hq;have HO:=Zk aQ;have HD:=Zk hdr;have HG:=Zk hg;have hzr:=hg.size;have aB:Hid (wr.heap[F+1]? =some (.cells #[.slice none 0 0,.int .i64 0] 39 (0,0))):=Zk ((hg.block (F+1) cL (by simp)).trans aM.out);have aX:Hid (Below w.heap.size w wr):=Zk (aW.out.grown hg aW.out.size (fun b hb=>by injection hb with e;omega))
  have x0:=Zc wr F 0 _ _ _ HF.out;have x1:=Zc wr F 1 _ _ _ HF.out;simp at x0 x1;clear hF hq aQ hdr hg;by_cases hlt:k<cn
  ·have dk:decide ((k:Int)<(cn:Int))=true:=Ze (by omega);have cA:decide (k<cn)=true:=Ze hlt;obtain⟨m,hm⟩:∃m,cn-k=m+1:=⟨cn-k-1,by omega⟩;by_cases hqn:q=n0
   ·have dq:((q:Int)==(n0:Int))=true:=by rw[beq_iff_eq];omega
    have cB:(q==n0)=true:=by rw[beq_iff_eq];exact hqn
    have HE:Hid (dsE l an n cn=3):=Zk (by
     show _=_;rw[aY.out,HD.out,hm];unfold drE;rw[if_neg (by rw[←HN.out];omega)])
    have g0:=Zf wr (F+1) 0 _ _ aB.out;have g1:=Zf wr (F+1) 1 _ _ aB.out;have z0:wr.cell? ⟨F+1,0,none⟩=some (.slice none 0 0):=Zc wr (F+1) 0 _ _ _ aB.out;have z1:wr.cell? ⟨F+1,1,none⟩=some (.int .i64 0):=Zc wr (F+1) 1 _ _ _ aB.out;clear hqn hm;go_wp2_with fail;have h4:=Bo (.slice none 0 0) (.int .i64 0) aB.out;have aA:=(aX.out.setCell (p:=⟨F+1,0,none⟩) (by show _≤F+1;omega) (.slice none 0 0)).setCell (p:=⟨F+1,1,none⟩) (by show _≤F+1;omega) (.int .i64 0);generalize ((wr.setCell ⟨F+1,0,none⟩ (.slice none 0 0)).setCell ⟨F+1,1,none⟩ (.int .i64 0))=wE at h4 aA⊢;have q0:=Zc wE (F+1) 0 _ _ _ h4;have q1:=Zc wE (F+1) 1 _ _ _ h4;simp at q0 q1;refine bodyPost_ret (v:= .tuple #[.agg #[.slice none 0 0,.int .i64 0],.slice none 0 0,.int .i64 3]) (by simp[results,Tryz.results72,go_sem,q0,q1]) rfl ?_;exact⟨_,_,_,by rw[HE.out],aA,fun h=>by rw[HE.out] at h;omega,fun _=>⟨rfl,rfl,rfl⟩⟩
   ·have dq:((q:Int)==(n0:Int))=false:=by rw[beq_eq_false_iff_ne];omega
    have cB:(q==n0)=false:=by rw[beq_eq_false_iff_ne];exact hqn
    have bH:q<n0:=by omega
    have aV:q<l.length:=by rw[←HN.out];exact bH
    have bI:=bZ.out wr HG.out;rw[HN.out] at bI;obtain⟨b,off,eA,hb,aH⟩:=bI.si.cells (by omega);have xx:=aH q aV;subst eA;obtain⟨y,ey⟩:∃y,y=l[q]:=⟨_,rfl⟩;rw[←ey] at xx;have HY:Hid (gd l q=y):=Zk (by show _=_;rw[Bu aV,ey]);have HT:Hid ((l.drop an).take (k+1)=(l.drop an).take k++[y]):=Zk (by
     show _=_;have cH:k<(l.drop an).length:=by rw[List.length_drop];have:=HQ.out;omega
     rw[List.take_succ_eq_append_getElem cH,List.getElem_drop,ey];simp only[HQ.out])
    have z0:(0:Int)≤(q:Int):=by omega
    have z1:(q:Int)<(n0:Int):=by omega
    have f0:=Zf wr F 0 _ _ HF.out;have f1:=Zf wr F 1 _ _ HF.out;have g0:=Zf wr (F+1) 0 _ _ aB.out;have g1:=Zf wr (F+1) 1 _ _ aB.out;have z0:wr.cell? ⟨F+1,0,none⟩=some (.slice none 0 0):=Zc wr (F+1) 0 _ _ _ aB.out;have z1:wr.cell? ⟨F+1,1,none⟩=some (.int .i64 0):=Zc wr (F+1) 1 _ _ _ aB.out;clear bI aH ey hqn;by_cases hy:y<0∨n≤y
    ·have HE:Hid (dsE l an n cn=8):=Zk (by
      show _=_;rw[aY.out,HD.out,hm];unfold drE;rw[if_pos aV,if_pos (by rw[HY.out];exact hy)])
     have cJ:decide (y<0)=true∨(decide (y<0)=false∧decide (n≤y)=true):=by
      by_cases h:y<0
      ·exact .inl (Ze h)
      ·exact .inr ⟨Zd h,Ze (by omega)⟩
     clear hy hm;rcases cJ with dy|⟨dy,cC⟩;all_goals
      go_wp2_with fail;have h4:=Bo (.slice none 0 0) (.int .i64 0) aB.out;have aA:=(aX.out.setCell (p:=⟨F+1,0,none⟩) (by show _≤F+1;omega) (.slice none 0 0)).setCell (p:=⟨F+1,1,none⟩) (by show _≤F+1;omega) (.int .i64 0);generalize ((wr.setCell ⟨F+1,0,none⟩ (.slice none 0 0)).setCell ⟨F+1,1,none⟩ (.int .i64 0))=wE at h4 aA⊢;have q0:=Zc wE (F+1) 0 _ _ _ h4;have q1:=Zc wE (F+1) 1 _ _ _ h4;simp at q0 q1;refine bodyPost_ret (v:= .tuple #[.agg #[.slice none 0 0,.int .i64 0],.slice none 0 0,.int .i64 8]) (by simp[results,Tryz.results72,go_sem,q0,q1]) rfl ?_;exact⟨_,_,_,by rw[HE.out],aA,fun h=>by rw[HE.out] at h;omega,fun _=>⟨rfl,rfl,rfl⟩⟩
    ·have dy:decide (y<0)=false:=Zd (by omega);have cC:decide (n≤y)=false:=Zd (by omega);have bT:Hid (drE l n an cn=drE l n (q+1) (cn- (k+1))):=Zk (by
      show _=_;rw[HD.out,hm,show cn- (k+1)=m by omega];conv=>lhs;unfold drE
      rw[if_pos aV,if_neg (by rw[HY.out];exact hy)])
     have w1':IntKind.i64.wrap ((q:Int)+1)=(q:Int)+1:=by exact Zi _ (by omega)
     have w2':IntKind.i64.wrap ((k:Int)+1)=(k:Int)+1:=by exact Zi _ (by omega)
     obtain⟨D,eD⟩:∃D,D=(l.drop an).take k:=⟨_,rfl⟩;rw[←eD] at HO HT;have hDl:D.length≤16384:=by rw[eD,List.length_take,List.length_drop,←HN.out];omega
     clear hy hm eD;go_upto_region 16 with fail
     have bD:=heap_setCell_same wr F 1 _ _ (.int .i64 ((q:Int)+1)) HF.out;have aT:=Ju (i:=1) (u:= .int .i64 ((q:Int)+1)) HG.out;have bE:=At (p:=⟨F,1,none⟩) (u:= .int .i64 ((q:Int)+1)) HO.out (by show F<_;omega);generalize (wr.setCell ⟨F,1,none⟩ (.int .i64 ((q:Int)+1)))=w9 at bD aT bE⊢;have bU:=Zk bD;have bV:=Zk aT;have bA:=Zk bE;have cM:=aT.size;clear bD aT bE x0 x1 xx f0 f1 g0 g1 z0 z1;go_wp2_with (at_builtin;refine Az w9 (by rfl) _ _ 22 (by rfl) w4.heap.size 3 Tryz.underlying22 Bf _ D (by rfl) (by exact bA.out) y (by rfl) (by omega) (by exact cM) ?_;intro v10 cO aD aP;have aZ:=Zk aD;have aL:=Zk aP;clear aD aP);go_roundw
     case rel=>
      have cF:w4.grownBy (w9.alloc (.cells #[.int .i64 y] 3)) (some F):=Rz bV.out (Ag ((Zb _ w9).alloc (Zl _) _) none) (fun b hb=>by simp at hb)
      have cG:=Rz cF aL.out (fun b hb=>(bA.out.lt b hb).1)
      refine⟨k+1,q+1,by omega,by have:=HQ.out;omega,by go_num,by rw[←HN.out];omega,?_,by rw[HT.out];exact aZ.out,bT.out,cG⟩;have h1:cO.heap[F]? =w9.heap[F]? :=(aL.out.block F (by simp;omega) (fun e=>by have:=(bA.out.lt F e.symm).1;omega)).trans (Below.heap_alloc _ _ _ (by omega))
      rw[h1,bU.out,←HN.out];simp
     case measure=>simp[intOf];omega
  ·have dk:decide ((k:Int)<(cn:Int))=false:=Zd (by omega);have cA:decide (k<cn)=false:=Zd hlt;obtain rfl:cn=k:=by omega
   have HE:Hid (dsE l an n cn=0):=Zk (by show _=_;rw[aY.out,HD.out,Nat.sub_self];rfl);have g0:=Zf wr (F+1) 0 _ _ aB.out;have g1:=Zf wr (F+1) 1 _ _ aB.out;have z0:wr.cell? ⟨F+1,0,none⟩=some (.slice none 0 0):=Zc wr (F+1) 0 _ _ _ aB.out;have z1:wr.cell? ⟨F+1,1,none⟩=some (.int .i64 0):=Zc wr (F+1) 1 _ _ _ aB.out;obtain⟨Ao,co,eo⟩:=Bn HO.out;subst eo;have bX:Hid (wr.ownsRow w2.heap.size 3 1 (.slice A1 n0 c1) n0 (l.map (Value.int .i64))):=Zk (by
    exact zDd bL.out HG.out (by omega))
   go_wp2_with fail;have h4:=Bo (.slice A1 n0 c1) (.int .i64 (q:Int)) aB.out;have aA:=(aX.out.setCell (p:=⟨F+1,0,none⟩) (by show _≤F+1;omega) (.slice A1 n0 c1)).setCell (p:=⟨F+1,1,none⟩) (by show _≤F+1;omega) (.int .i64 (q:Int));have bP:=At (p:=⟨F+1,1,none⟩) (u:= .int .i64 (q:Int)) (At (p:=⟨F+1,0,none⟩) (u:= .slice A1 n0 c1) bX.out (by show F+1<_;omega)) (by show F+1<_;omega);have bQ:=At (p:=⟨F+1,1,none⟩) (u:= .int .i64 (q:Int)) (At (p:=⟨F+1,0,none⟩) (u:= .slice A1 n0 c1) HO.out (by show F+1<_;omega)) (by show F+1<_;omega);generalize ((wr.setCell ⟨F+1,0,none⟩ (.slice A1 n0 c1)).setCell ⟨F+1,1,none⟩ (.int .i64 (q:Int)))=wE at h4 aA bP bQ⊢;have q0:=Zc wE (F+1) 0 _ _ _ h4;have q1:=Zc wE (F+1) 1 _ _ _ h4;simp at q0 q1;have cN:w.heap.size≤w2.heap.size:=aF.out.size;refine bodyPost_ret (v:= .tuple #[.agg #[.slice A1 n0 c1,.int .i64 (q:Int)],.slice Ao ((l.drop an).take cn).length co,.int .i64 0]) (by simp[results,Tryz.results72,go_sem,q0,q1]) rfl ?_;refine⟨_,_,_,by rw[HE.out],aA,fun _=>⟨by have:=HQ.out;omega,?_,?_⟩,fun h=>absurd HE.out h⟩
   ·rw[←HN.out];exact Bt bP cN
   ·have:=Bt bQ (base':=w.heap.size) (by have:=aW.out.size;omega);simpa using this
open Go.RowKit
def pms:List Int:=[2,3,5,7,11,13,17,257,65521]
theorem zEg:∀j (h:j<9),prB (pms[j]'h)=true
 |0,_=>by kernel_rfl|1,_=>by kernel_rfl|2,_=>by kernel_rfl|3,_=>by kernel_rfl|4,_=>by kernel_rfl|5,_=>by kernel_rfl|6,_=>by kernel_rfl|7,_=>by kernel_rfl|8,_=>by kernel_rfl
theorem Ox:∀j (hj:j<9),∀i (hi:i≤j),pms[i]'(Nat.lt_of_le_of_lt hi hj)≤pms[j]'hj:=by decide
def lnOf:Value→Nat| .slice _ n _=>n|_=>0
set_option maxRecDepth 100000 in
set_option maxHeartbeats 4000000 in
theorem zAx(g:Nat)(least:Int)(w:World)(hD:Dk w g)(h0:0≤least)(h1:least≤16):
  Calls Tryz.prog 46 #[.pointer (some ⟨g,0,none⟩),.int .i64 least] w fun e w'=>∃P,e= .returned (.agg #[.int .i64 P])∧Dk w' g∧w.grownBy w' (some g)∧prB P=true∧least<P:=by
 have HD:=Zk hD;have hgw:g<w.heap.size:=hD.lt;clear hD;go_enter Tryz.func46,Tryz.ntmps46;obtain⟨R,eR⟩:∃R,R=w.heap.size:=⟨_,rfl⟩;obtain⟨w1,aB⟩:∃w1:World,w1=w.alloc (.cells #[.int .i64 0] 31):=⟨_,rfl⟩;have aZ:Hid (w.alloc (.cells #[.int .i64 0] 31)=w1):=aB.symm;have aE:Hid (w1.heap[R]? =some (.cells #[.int .i64 0] 31 (0,0))):=Zk (by show _=_;rw[aB,eR];exact Zh w _);have aH:Hid (Below w.heap.size w w1):=Zk (by rw[aB];exact (Zb _ w).alloc (Zl _) _);have aT:w1.heap.size=R+1:=by rw[aB,eR];simp
 have aU:=Zk (HD.out.below aH.out);have hgR:g<R:=by omega
 have aX:=Zk eR;have HZ1:=Zk aT;clear aB aT;go_upto_region 1 with fail
 rw[aZ.out,←eR];clear eR;obtain⟨b,eb⟩:∃b,b=w1.heap.size:=⟨_,rfl⟩;obtain⟨w2,aC⟩:∃w2:World,w2=w1.alloc (.cells #[.int .i64 2,.int .i64 3,.int .i64 5,.int .i64 7,.int .i64 11,.int .i64 13,.int .i64 17,.int .i64 257,.int .i64 65521] 3):=⟨_,rfl⟩;have bA:Hid (w1.alloc (.cells #[.int .i64 2,.int .i64 3,.int .i64 5,.int .i64 7,.int .i64 11,.int .i64 13,.int .i64 17,.int .i64 257,.int .i64 65521] 3)=w2):=aC.symm;have aO:Hid (w2.heap[b]? =some (.cells (pms.map (Value.int .i64)).toArray 3 (0,0))):=Zk (by show _=_;rw[aC,eb];exact Zh w1 _);have aD:Hid (Below w1.heap.size w1 w2):=Zk (by rw[aC];exact (Zb _ w1).alloc (Zl _) _);have aN:Hid (w2.heap[R]? =some (.cells #[.int .i64 0] 31 (0,0))):=Zk ((aD.out.block R (Ae aE.out)).trans aE.out);have aV:=Zk (aU.out.below aD.out);have hbR:R<b:=by rw[eb];exact Ae aE.out
 have aY:Hid (w.grownBy w2 (some g)):=Af (Ag aH.out _) (Ag aD.out _);have HC:Hid (∀j (h:j<9),w2.cell? ⟨b,j,none⟩=some (.int .i64 (pms[j]'h))):=Zk (fun j h=>by
  rw[Zc w2 b j _ _ _ aO.out];have hj:j<pms.length:=h;simp[hj];rfl)
 have bB:b<w2.heap.size:=Ae aO.out;have HEB:=Zk eb;go_upto_region 2 with fail
 rw[bA.out,←eb];clear aC eb;go_loopw [5] (fun v wr=>∃(k m:Nat),k+m=9∧1≤m∧v= .slice (some ⟨b,k,none⟩) m m∧w2=wr) (fun v _=>lnOf v)
 case atStart=>exact⟨0,9,rfl,by omega,rfl,rfl⟩
 case round=>
  obtain⟨k,m,aR,hm,rfl,rfl⟩:=hrel;obtain⟨m,rfl⟩:∃m',m=m'+1:=⟨m-1,by omega⟩;have c0:=HC.out k (by omega);have bC:k<9:=by omega
  have hm8:m≤8:=by omega
  have aK:Hid (least<pms[k]∨(pms[k]≤least∧1≤m)):=Zk (by
   by_cases h:pms[k]≤least
   ·refine .inr ⟨h,?_⟩;by_cases hk:k≤7
    ·omega
    ·have:pms[7]≤pms[k]:=Ox k bC 7 (by omega);have h7:pms[7]=257:=rfl;omega
   ·exact .inl (by omega))
  obtain⟨x,ex⟩:∃x,x=pms[k]:=⟨_,rfl⟩;rw[←ex] at c0 aK;have HX:=Zk ex;have aJ:=Zk aR;clear ex aR;rcases aK.out with aS|⟨aS,bD⟩
  ·have z0:decide (x≤least)=false:=Zd (by omega);have mi:An ((m:Int)+1):=by unfold An;omega
   have bG:(m:Int)+1≤4611686018427387904:=by omega
   go_wp2_with fail;(with_reducible refine (Cs ((m:Int)+1) g w2 aV.out mi bG).mono ?_)
   rintro e w3 ⟨y,rfl,_,hy,aQ,aG⟩;obtain⟨bE,bF⟩:=hy (by omega);obtain⟨yn,rfl⟩:∃yn:Nat,y=yn:=⟨y.toNat,by omega⟩;have hyn:yn<m+1:=by omega
   have hyn2:(yn:Int)<(m:Int)+1:=by omega
   have aA:k+yn<9:=by have:=aJ.out;omega
   have c1:w3.cell? ⟨b,k+yn,none⟩=some (.int .i64 (pms[k+yn]'aA)):=(World.cell?_of_block (aG.block b bB (by simp;omega))).trans (HC.out _ aA);have aM:Hid (prB (pms[k+yn]'aA)=true):=zEg _ _;have aL:Hid (least<pms[k+yn]'aA):=Zk (by
    have h5:=Ox (k+yn) aA k (by omega);have h6:=HX.out;show _<_;omega)
   obtain⟨P,eP⟩:∃P,P=pms[k+yn]'aA:=⟨_,rfl⟩;rw[←eP] at c1 aM aL;have aW:=Zk aQ;have aI:=Zk aG;have aF:Hid (w3.heap[R]? =some (.cells #[.int .i64 0] 31 (0,0))):=Zk ((aI.out.block R (Ae aN.out) (by simp;omega)).trans aN.out);have cR0:w3.cell? ⟨R,0,none⟩=some (.int .i64 0):=Zc w3 R 0 _ _ _ aF.out;have fR0:w3.frozen? ⟨R,0,none⟩=false:=Zf w3 R 0 _ _ aF.out;clear eP aQ aG hy bE bF;go_wp2_with fail;have HW:(w3.setCell ⟨R,0,none⟩ (.int .i64 P)).heap[R]? =some (.cells #[.int .i64 P] 31 (0,0)):=by
    have:=heap_setCell_same w3 R 0 _ _ (.int .i64 P) aF.out;simpa using this
   have q0:=Zc _ R 0 _ _ _ HW;simp only[List.getElem?_toArray,List.getElem?_cons_zero] at q0;have aP:w3.grownBy (w3.setCell ⟨R,0,none⟩ (.int .i64 P)) (some R):=Ai (g:=R) (p:=⟨R,0,none⟩) (Ah _ _) (.inl rfl) _;refine bodyPost_ret (v:= .agg #[.int .i64 P]) (by simp[results,Tryz.results46,go_sem,q0]) rfl ⟨P,rfl,aW.out.grown aP (fun k hk=>by injection hk with e;omega),?_,aM.out,aL.out⟩
   exact Cc (Af aY.out aI.out) aP (fun k hk=>by injection hk with e;have:=aX.out;omega)
  ·have z0:decide (x≤least)=true:=Ze aS;go_wp2_with fail;go_roundw
   case rel=>exact⟨k+1,m,by have:=aJ.out;omega,bD,by simp,by simp⟩
   case measure=>simp[lnOf]
theorem i64_6:An 6:=by unfold An;omega
set_option maxRecDepth 100000 in
set_option maxHeartbeats 4000000 in
theorem Xv(g:Nat)(w:World)(hD:Dk w g):
  Calls Tryz.prog 18 #[.pointer (some ⟨g,0,none⟩)] w fun e w'=>∃P n t,e= .returned (.tuple #[.agg #[.int .i64 P],.agg #[.int .i64 n,.int .i64 t]])∧Dk w' g∧w.grownBy w' (some g)∧prB P=true∧n<P∧2≤n∧n≤7∧1≤t∧t<n:=by
 have HD:=Zk hD;have hgw:g<w.heap.size:=hD.lt;clear hD;go_enter Tryz.func18,Tryz.ntmps18;obtain⟨R,eR⟩:∃R,R=w.heap.size:=⟨_,rfl⟩;obtain⟨S,eS⟩:∃S,S=w.heap.size+1:=⟨_,rfl⟩;obtain⟨w1,aC⟩:∃w1:World,w1=(w.alloc (.cells #[.int .i64 0] 31)).alloc (.cells #[.int .i64 0,.int .i64 0] 29):=⟨_,rfl⟩;have bY:Hid ((w.alloc (.cells #[.int .i64 0] 31)).alloc (.cells #[.int .i64 0,.int .i64 0] 29)=w1):=aC.symm;have aX:Hid (w1.heap[R]? =some (.cells #[.int .i64 0] 31 (0,0))):=Zk (by show _=_;rw[aC,eR,Below.heap_alloc _ _ _ (by simp)];exact Zh w _);have bB:Hid (w1.heap[S]? =some (.cells #[.int .i64 0,.int .i64 0] 29 (0,0))):=Zk (by show _=_;rw[aC,eS];have:=Zh (w.alloc (.cells #[.int .i64 0] 31)) (.cells #[.int .i64 0,.int .i64 0] 29);simpa using this);have aT:Hid (Below w.heap.size w w1):=Zk (by rw[aC];exact ((Zb _ w).alloc (Zl _) _).alloc (by simp) _);have bN:=Zk (HD.out.below aT.out);have hgR:g<R:=by omega
 have hRS:R<S:=by omega
 have aV:=Zk eR;go_upto_region 1 with fail
 rw[bY.out,←eS,←eR];clear eR eS aC;go_wp2_with fail;(with_reducible refine (Cs 6 g w1 bN.out i64_6 (by omega)).mono ?_)
 rintro e w2 ⟨x,rfl,_,hx,bE,bH⟩;obtain⟨cF,cG⟩:=hx (by omega);have bO:=Zk bE;have aL:=Zk bH;have m1:IntKind.i64.wrap (2+x)=2+x:=by exact Zi _ (by omega)
 have aY:Hid (w2.heap[R]? =some (.cells #[.int .i64 0] 31 (0,0))):=Zk ((aL.out.block R (Ae aX.out) (by simp;omega)).trans aX.out);have aO:Hid (w2.heap[S]? =some (.cells #[.int .i64 0,.int .i64 0] 29 (0,0))):=Zk ((aL.out.block S (Ae bB.out) (by simp;omega)).trans bB.out);clear hx bE bH;obtain⟨n,en⟩:∃n,n=2+x:=⟨_,rfl⟩;have hn:2≤n∧n≤7:=by omega
 rw[←en] at m1;obtain⟨q,eq⟩:∃q,q=w2.heap.size:=⟨_,rfl⟩;obtain⟨w3,aI⟩:∃w3:World,w3=w2.alloc (.cells #[.int .i64 n,.int .i64 0] 29):=⟨_,rfl⟩;have bZ:Hid (w2.alloc (.cells #[.int .i64 n,.int .i64 0] 29)=w3):=aI.symm;have aP:Hid (w3.heap[q]? =some (.cells #[.int .i64 n,.int .i64 0] 29 (0,0))):=Zk (by show _=_;rw[aI,eq];exact Zh w2 _);have aE:Hid (Below w2.heap.size w2 w3):=Zk (by rw[aI];exact (Zb _ w2).alloc (Zl _) _);have bP:=Zk (bO.out.below aE.out);have aZ:Hid (w3.heap[R]? =some (.cells #[.int .i64 0] 31 (0,0))):=Zk ((aE.out.block R (Ae aY.out)).trans aY.out);have bC:Hid (w3.heap[S]? =some (.cells #[.int .i64 0,.int .i64 0] 29 (0,0))):=Zk ((aE.out.block S (Ae aO.out)).trans aO.out);have hSq:S<q:=by rw[eq];exact Ae aO.out
 have bT:Hid (2+x=n):=en.symm;have HEQ:=Zk eq;go_upto_region 2 with fail
 rw[bT.out,bZ.out,←eq];clear en eq aI m1 cF cG;have c0:w3.cell? ⟨q,0,none⟩=some (.int .i64 n):=Zc w3 q 0 _ _ _ aP.out;have m2:IntKind.i64.wrap (n-1)=n-1:=by exact Zi _ (by omega)
 go_wp2_with fail;(with_reducible refine (Cs (n-1) g w3 bP.out (by unfold An;omega) (by omega)).mono ?_)
 rintro e w4 ⟨y,rfl,_,hy,bF,bI⟩;obtain⟨cH,cI⟩:=hy (by omega);obtain⟨t,et⟩:∃t,t=1+y:=⟨_,rfl⟩;have ht:1≤t∧t<n:=by omega
 have m3:IntKind.i64.wrap (1+y)=t:=by rw[et];exact Zi _ (by omega)
 have bQ:=Zk bF;have aF:=Zk bI;have aQ:Hid (w4.heap[q]? =some (.cells #[.int .i64 n,.int .i64 0] 29 (0,0))):=Zk ((aF.out.block q (Ae aP.out) (by simp;omega)).trans aP.out);have bA:Hid (w4.heap[R]? =some (.cells #[.int .i64 0] 31 (0,0))):=Zk ((aF.out.block R (Ae aZ.out) (by simp;omega)).trans aZ.out);have bD:Hid (w4.heap[S]? =some (.cells #[.int .i64 0,.int .i64 0] 29 (0,0))):=Zk ((aF.out.block S (Ae bC.out) (by simp;omega)).trans bC.out);clear c0 hy cH cI bF bI et;have c1:w4.cell? ⟨q,1,none⟩=some (.int .i64 0):=Zc w4 q 1 _ _ _ aQ.out;have f1:w4.frozen? ⟨q,1,none⟩=false:=Zf w4 q 1 _ _ aQ.out;go_upto_region 3 with fail
 clear c1 f1;obtain⟨w5,aJ⟩:∃w5:World,w5=w4.setCell ⟨q,1,none⟩ (.int .i64 t):=⟨_,rfl⟩;have aD:w4.grownBy w5 (some q):=by rw[aJ];exact Ai (g:=q) (p:=⟨q,1,none⟩) (Ah _ _) (.inl rfl) _
 have aH:Hid (w5.heap[q]? =some (.cells #[.int .i64 n,.int .i64 t] 29 (0,0))):=Zk (by
  show _=_;rw[aJ];have:=heap_setCell_same w4 q 1 _ _ (.int .i64 t) aQ.out;simpa using this)
 have aU:Hid (Dk w5 g):=bQ.out.grown aD (fun k hk=>by injection hk with e;omega)
 have aG:Hid (w5.heap[R]? =some (.cells #[.int .i64 0] 31 (0,0))):=Zk ((aD.block R (Ae bA.out) (by simp;omega)).trans bA.out);have aA:Hid (w5.heap[S]? =some (.cells #[.int .i64 0,.int .i64 0] 29 (0,0))):=Zk ((aD.block S (Ae bD.out) (by simp;omega)).trans bD.out);have aM:Hid (w.grownBy w5 (some g)):=Cc (Af (Af (Af (Ag aT.out _) aL.out) (Ag aE.out _)) aF.out) aD (fun k hk=>by injection hk with e;have:=aV.out;omega)
 have cA:Hid (w4.setCell ⟨q,1,none⟩ (.int .i64 t)=w5):=aJ.symm;rw[cA.out];clear aJ aD m3;have c0:w5.cell? ⟨q,0,none⟩=some (.int .i64 n):=Zc w5 q 0 _ _ _ aH.out;have c1:w5.cell? ⟨q,1,none⟩=some (.int .i64 t):=Zc w5 q 1 _ _ _ aH.out;have r0:w5.cell? ⟨R,0,none⟩=some (.int .i64 0):=Zc w5 R 0 _ _ _ aG.out;have s0:w5.cell? ⟨S,0,none⟩=some (.int .i64 0):=Zc w5 S 0 _ _ _ aA.out;have s1:w5.cell? ⟨S,1,none⟩=some (.int .i64 0):=Zc w5 S 1 _ _ _ aA.out;have g0:w5.frozen? ⟨R,0,none⟩=false:=Zf w5 R 0 _ _ aG.out;have g1:w5.frozen? ⟨S,0,none⟩=false:=Zf w5 S 0 _ _ aA.out;have g2:w5.frozen? ⟨S,1,none⟩=false:=Zf w5 S 1 _ _ aA.out;have aK:Hid (∀W:World,Dk W g→Calls Tryz.prog 46 #[.pointer (some ⟨g,0,none⟩),.int .i64 n] W fun e w'=>∃P,e= .returned (.agg #[.int .i64 P])∧Dk w' g∧W.grownBy w' (some g)∧prB P=true∧n<P):=Zk (fun W h=>zAx g n W h (by omega) (by omega))
 have cJ:¬R=S:=by omega
 have nRq:¬R=q:=by omega
 have nSq:¬S=q:=by omega
 have bS:Hid (Dk w5.drew g):=aU.out;have bU:Hid (g<R∧g<S∧g<q):=⟨by omega,by omega,by omega⟩;have cB:Hid (∀w6:World,w5.grownBy w6 (some g)→(w6.cell? ⟨q,0,none⟩=some (.int .i64 n)∧w6.cell? ⟨q,1,none⟩=some (.int .i64 t))∧(w6.cell? ⟨R,0,none⟩=some (.int .i64 0)∧w6.cell? ⟨S,0,none⟩=some (.int .i64 0)∧w6.cell? ⟨S,1,none⟩=some (.int .i64 0))∧w6.frozen? ⟨R,0,none⟩=false∧w6.frozen? ⟨S,0,none⟩=false∧w6.frozen? ⟨S,1,none⟩=false∧w6.heap[R]? =some (.cells #[.int .i64 0] 31 (0,0))∧w6.heap[S]? =some (.cells #[.int .i64 0,.int .i64 0] 29 (0,0))):=Zk (fun w6 hg=>by
  have a1:=(hg.block q (Ae aH.out) (by simp;omega)).trans aH.out;have a2:=(hg.block R (Ae aG.out) (by simp;omega)).trans aG.out;have a3:=(hg.block S (Ae aA.out) (by simp;omega)).trans aA.out;exact⟨⟨Zc w6 q 0 _ _ _ a1,Zc w6 q 1 _ _ _ a1⟩,⟨Zc w6 R 0 _ _ _ a2,Zc w6 S 0 _ _ _ a3,Zc w6 S 1 _ _ _ a3⟩,Zf w6 R 0 _ _ a2,Zf w6 S 0 _ _ a3,Zf w6 S 1 _ _ a3,a2,a3⟩)
 go_region_held3 (fun w'=>w'.cell? ⟨q,0,none⟩=some (.int .i64 n)∧w'.cell? ⟨q,1,none⟩=some (.int .i64 t)) (first|exact⟨c0,c1⟩|exact k1|go_keep)
  (first|(go_at_call 46;refine (aK.out _ (by first|exact aU.out|exact bS.out)).mono ?_;rintro e9 w6 ⟨P,rfl,bG,aB,bK,bJ⟩;have bR:Hid (Dk w6 g):=Zk (bG);have aW:Hid (w5.grownBy w6 (some g)):=Zk (⟨aB.os,aB.tape,aB.output,aB.size,aB.block⟩);have bV:=Zk bK;have aN:=Zk bJ;obtain⟨k1,⟨r0,s0,s1⟩,g0,g1,g2,bL,bM⟩:=cB.out w6 aW.out;have bW:=Zk bL;have bX:=Zk bM;clear bG aB bK bJ bL bM))
 all_goals
  go_wp2_with fail;have aS:R≠S:=cJ;have x1:(w6.setCell ⟨R,0,none⟩ (.int .i64 P)).heap[R]? =some (.cells #[.int .i64 P] 31 (0,0)):=by
   have:=heap_setCell_same w6 R 0 _ _ (.int .i64 P) bW.out;simpa using this
  have x2:(w6.setCell ⟨R,0,none⟩ (.int .i64 P)).heap[S]? =some (.cells #[.int .i64 0,.int .i64 0] 29 (0,0)):=(Zo w6 _ S _ (Ne.symm aS)).trans bX.out;have x3:=Bo (.int .i64 n) (.int .i64 t) x2;have x4:(((w6.setCell ⟨R,0,none⟩ (.int .i64 P)).setCell ⟨S,0,none⟩ (.int .i64 n)).setCell ⟨S,1,none⟩ (.int .i64 t)).heap[R]? =some (.cells #[.int .i64 P] 31 (0,0)):=(Zo _ _ R _ aS).trans ((Zo _ _ R _ aS).trans x1);have q0:=Zc _ R 0 _ _ _ x4;have q1:=Zc _ S 0 _ _ _ x3;have q2:=Zc _ S 1 _ _ _ x3;simp only[List.getElem?_toArray,List.getElem?_cons_zero,List.getElem?_cons_succ] at q0 q1 q2;obtain⟨l1,l2,l3⟩:=bU.out;have cE:w.heap.size≤R:=by have:=aV.out;omega
  have aR:w.grownBy w6 (some g):=Af aM.out aW.out;have cD:w.grownBy (((w6.setCell ⟨R,0,none⟩ (.int .i64 P)).setCell ⟨S,0,none⟩ (.int .i64 n)).setCell ⟨S,1,none⟩ (.int .i64 t)) (some g):=
   Ai (g:=g) (p:=⟨S,1,none⟩) (Ai (g:=g) (p:=⟨S,0,none⟩) (Ai (g:=g) (p:=⟨R,0,none⟩) aR (.inr cE) _) (.inr (by show _≤S;omega)) _) (.inr (by show _≤S;omega)) _
  have cC:Dk (((w6.setCell ⟨R,0,none⟩ (.int .i64 P)).setCell ⟨S,0,none⟩ (.int .i64 n)).setCell ⟨S,1,none⟩ (.int .i64 t)) g:=
   bR.out.of fun i hi=>(Zo _ _ i _ (by show i≠S;omega)).trans ((Zo _ _ i _ (by show i≠S;omega)).trans (Zo _ _ i _ (by show i≠R;omega)))
  exact bodyPost_ret (v:= .tuple #[.agg #[.int .i64 P],.agg #[.int .i64 n,.int .i64 t]]) (by simp[results,Tryz.results18,go_sem,q0,q1,q2]) rfl ⟨P,n,t,rfl,cC,cD,bV.out,aN.out,hn.1,hn.2,ht.1,ht.2⟩
end Go.Proofs.YtbgabipngdillaaGreatDoor
