/- Parts. -/
import Derived.Lib.SliceRun
import Derived.Deep.RegionHeld3
import Derived.Deep.RegionWith
import Derived.Deep.Cut
import Derived.Test.YtoiabanpnkpbhaaGreatDoorM05
set_option linter.unusedVariables false
set_option linter.unusedSimpArgs false
set_option maxRecDepth 100000
set_option maxHeartbeats 4000000
namespace Go.Proofs.YtoiabanpnkpbhaaGreatDoor
open Go.RowKit
def tvB(l:List Int)(at_:Int):Bool:=decide (l.length≤16384∧0≤at_∧at_≤(l.length:Int))
def liB(n:Int):Bool:=decide (1≤n∧n≤2147483647)
theorem Nc(l:List Int)(at_:Int)(v:Value)(w:World)(h:SI w v l):
  Calls Tryz.prog 77 #[.agg #[v,.int .i64 at_]] w fun e w'=>e= .returned (.bool (tvB l at_))∧Below w.heap.size w w':=by
 obtain⟨A,c,rfl⟩:=h.form';clear h;have HB:Hid (∀o:Obj,Below w.heap.size w (w.alloc o)):=fun o=>(Zb _ w).alloc (Zl _) o
 go_enter Tryz.func77,Tryz.ntmps77;by_cases h1:l.length≤16384
 ·have d1:decide ((l.length:Int)≤16384)=true:=Ze (by omega);by_cases h2:0≤at_
  ·have d2:decide (0≤at_)=true:=Ze h2;by_cases h3:at_≤(l.length:Int)
   ·have d3:decide (at_≤(l.length:Int))=true:=Ze h3;have HE:Hid (tvB l at_=true):=Ze ⟨h1,h2,h3⟩;go_wp2_with fail;go_ret;exact⟨by rw[HE.out]<;>rfl,HB.out _⟩
   ·have d3:decide (at_≤(l.length:Int))=false:=Zd h3;have HE:Hid (tvB l at_=false):=Zd fun h=>h3 h.2.2
    go_wp2_with fail;go_ret;exact⟨by rw[HE.out]<;>rfl,HB.out _⟩
  ·have d2:decide (0≤at_)=false:=Zd h2;have HE:Hid (tvB l at_=false):=Zd fun h=>h2 h.2.1
   go_wp2_with fail;go_ret;exact⟨by rw[HE.out]<;>rfl,HB.out _⟩
 ·have d1:decide ((l.length:Int)≤16384)=false:=Zd (by omega);have HE:Hid (tvB l at_=false):=Zd fun h=>h1 h.1
  go_wp2_with fail;go_ret;exact⟨by rw[HE.out]<;>rfl,HB.out _⟩
theorem My(n:Int)(w:World):Calls Tryz.prog 78 #[.int .i64 n] w fun e w'=>e= .returned (.bool (liB n))∧w=w':=by
 go_enter Tryz.func78,Tryz.ntmps78;by_cases h1:1≤n
 ·have d1:decide (1≤n)=true:=Ze h1;by_cases h2:n≤2147483647
  ·have d2:decide (n≤2147483647)=true:=Ze h2;have HE:Hid (liB n=true):=Ze ⟨h1,h2⟩;go_wp2_with fail;go_ret;exact⟨by rw[HE.out]<;>rfl,rfl⟩
  ·have d2:decide (n≤2147483647)=false:=Zd h2;have HE:Hid (liB n=false):=Zd fun h=>h2 h.2
   go_wp2_with fail;go_ret;exact⟨by rw[HE.out]<;>rfl,rfl⟩
 ·have d1:decide (1≤n)=false:=Zd h1;have HE:Hid (liB n=false):=Zd fun h=>h1 h.1
  go_wp2_with fail;go_ret;exact⟨by rw[HE.out]<;>rfl,rfl⟩
theorem Cf{w:World}{base base' e size n:Nat}{v:Value}{xs:List Value}(h:w.ownsRow base e size v n xs)(hb:base'≤base):w.ownsRow base' e size v n xs:=by
 refine⟨h.1,?_⟩;rcases h.2 with hn|⟨g,aA,aB,rfl,hbg,rest⟩
 ·exact .inl hn
 ·exact .inr ⟨g,aA,aB,rfl,by omega,rest⟩
theorem Bm{w w':World}{base e size n:Nat}{v:Value}{xs:List Value}(h:w.ownsRow base e size v n xs)(hb:Below w.heap.size w w'):w'.ownsRow base e size v n xs:=by
 refine⟨h.1,?_⟩;rcases h.2 with hn|⟨g,aB,aC,rfl,aD,aA,rest⟩
 ·exact .inl hn
 ·exact .inr ⟨g,aB,aC,rfl,aD,(hb.block g (Ae aA)).trans aA,rest⟩
theorem Hs(l:List Int)(v:Value)(w:World)(h:SI w v l)(hl:l.length≤1000000):
  Calls Tryz.prog 80 #[v] w fun e w'=>∃v',e= .returned v'∧w'.ownsRow w.heap.size 3 1 v' l.length (l.map (Value.int .i64))∧Below w.heap.size w w':=by
 have HS:=Zk h;obtain⟨A,c,rfl⟩:=h.form';clear h;rcases A with _|a
 ·have aF:l=[]:=by
   rcases Nat.eq_zero_or_pos l.length with h|h
   ·exact List.eq_nil_of_length_eq_zero h
   ·obtain⟨b,off,e,_⟩:=SB.cells HS.out h;cases e
  subst aF;have hn:=Lib.run_eql_slice_nil (P:=Tryz.prog) w 22 3 none 0 c 0 0 Tryz.underlying22;go_enter Tryz.func80,Tryz.ntmps80;go_wp2_with fail;go_ret;exact⟨_,rfl,by simpa using World.ownsRow_nil w w.heap.size 3 1,Zb _ _⟩
 ·have hn:=Lib.run_eql_slice_nil (P:=Tryz.prog) w 22 3 (some a) l.length c 0 0 Tryz.underlying22;go_enter Tryz.func80,Tryz.ntmps80;have hO:Hid ((w.alloc (.cells #[] 3)).ownsRow w.heap.size 3 1 (.slice (some ⟨w.heap.size,0,none⟩) 0 0) 0 []):=Va (base:=w.heap.size) w 3 [] (Zl _) (by simp);have aE:Hid (SB w.heap.size (w.alloc (.cells #[] 3)) (.slice (some a) l.length c) l):=SB.below HS.out ((Zb _ w).alloc (Zl _) _);go_wp2_with (at_builtin;refine Bv _ rfl _ _ 22 rfl w.heap.size 3 Tryz.underlying22 Bi _ [] rfl hO.out w.heap.size _ l rfl aE.out (by simp;omega) (by simp) ?_;intro v2 w2 aA aB;have aD:=Zk aA;have aC:=Zk aB;clear aA aB);go_ret;refine⟨_,rfl,by simpa using aD.out,((Zb _ w).alloc (Zl _) _).grown aC.out (by simp) (fun k hk=> ?_)⟩
  have:=hO.out.lt k hk;omega
theorem Ck{w:World}{R:Nat}{t:TypeId}{x y:Value}(a b:Value)(h:w.heap[R]? =some (.cells #[x,y] t (0,0))):((w.setCell ⟨R,0,none⟩ a).setCell ⟨R,1,none⟩ b).heap[R]? =some (.cells #[a,b] t (0,0)):=by
 have h1:=heap_setCell_same w R 0 _ _ a h;have h2:=heap_setCell_same _ R 1 _ _ b h1;simpa using h2
def dsE(l:List Int)(at_ n c:Int):Int:=if tvB l at_=false then 2 else if liB n=false∨c<0 then 1 else drE l n at_.toNat c.toNat
theorem Vu(l:List Int)(at_ n c:Int)(v:Value)(w:World)(h:SI w v l)(hc:At c):
  Calls Tryz.prog 52 #[.agg #[v,.int .i64 at_],.int .i64 n,.int .i64 c] w fun e w'=>∃v1 a1 v2,e= .returned (.tuple #[.agg #[v1,.int .i64 a1],v2,.int .i64 (dsE l at_ n c)])∧Below w.heap.size w w'∧
   (dsE l at_ n c=0→a1=at_+c∧SI w' v1 l∧w'.ownsRow w.heap.size 3 1 v2 ((l.drop at_.toNat).take c.toNat).length (((l.drop at_.toNat).take c.toNat).map (Value.int .i64)))∧(dsE l at_ n c≠0→v1= .slice none 0 0∧a1=0∧v2= .slice none 0 0):=by
 have HS:=Zk h;obtain⟨A,cc,rfl⟩:=h.form';clear h;go_enter Tryz.func52,Tryz.ntmps52;go_upto_region 1 with fail
 obtain⟨wa,ew⟩:∃wa:World,wa=(w.alloc (.cells #[.slice A l.length cc,.int .i64 at_] 45)).alloc (.cells #[.slice none 0 0,.int .i64 0] 45):=⟨_,rfl⟩;have aS:Hid (Below w.heap.size w wa):=by show Below _ _ _;rw[ew];exact ((Zb _ w).alloc (Zl _) _).alloc (by simp) _
 have bZ:wa.heap.size=w.heap.size+2:=by rw[ew];simp
 have HT:Hid (wa.heap[w.heap.size]? =some (.cells #[.slice A l.length cc,.int .i64 at_] 45 (0,0))):=by
  show _=_;rw[ew,Below.heap_alloc _ _ _ (by simp)];exact Zh w _
 have HR:Hid (wa.heap[w.heap.size+1]? =some (.cells #[.slice none 0 0,.int .i64 0] 45 (0,0))):=by
  show _=_;rw[ew];have:=Zh (w.alloc (.cells #[.slice A l.length cc,.int .i64 at_] 45)) (.cells #[.slice none 0 0,.int .i64 0] 45);simpa using this
 rw[←ew];clear ew;have bU:=Zk (HS.out.below aS.out);obtain⟨T,hT⟩:∃T,w.heap.size=T:=⟨_,rfl⟩;have aE:=Zk hT;rw[hT] at HT HR bZ⊢;clear hT;have aJ:wa.cell? ⟨T,0,none⟩=some (.slice A l.length cc):=Zc wa T 0 _ _ _ HT.out;have aY:wa.cell? ⟨T,1,none⟩=some (.int .i64 at_):=Zc wa T 1 _ _ _ HT.out;go_wp2_with fail;(with_reducible refine (Nc l at_ _ _ bU.out).mono ?_)
 rintro e w1 ⟨rfl,aK⟩;have HB1:=Zk aK;have aB:Hid (Below w.heap.size w w1):=aS.out.trans (aK.mono aS.out.size);have aV:Hid (w1.heap[T]? =some (.cells #[.slice A l.length cc,.int .i64 at_] 45 (0,0))):=(aK.block T (by omega)).trans HT.out;have aD:Hid (w1.heap[T+1]? =some (.cells #[.slice none 0 0,.int .i64 0] 45 (0,0))):=(aK.block (T+1) (by omega)).trans HR.out;have bY:=aK.size;have aW:w1.cell? ⟨T+1,0,none⟩=some (.slice none 0 0):=Zc w1 (T+1) 0 _ _ _ aD.out;have aX:w1.cell? ⟨T+1,1,none⟩=some (.int .i64 0):=Zc w1 (T+1) 1 _ _ _ aD.out;have aZ:w1.frozen? ⟨T+1,0,none⟩=false:=Zf w1 (T+1) 0 _ _ aD.out;have bA:w1.frozen? ⟨T+1,1,none⟩=false:=Zf w1 (T+1) 1 _ _ aD.out;clear aJ aY aK;by_cases hv:tvB l at_=false
 ·have HE:Hid (dsE l at_ n c=2):=by show _=_;unfold dsE;rw[if_pos hv]
  rw[hv];clear hv;go_wp2_with fail;have HW:=Ck (.slice none 0 0) (.int .i64 0) aD.out;have q0:=Zc _ (T+1) 0 _ _ _ HW;have q1:=Zc _ (T+1) 1 _ _ _ HW;simp only[List.getElem?_toArray,List.getElem?_cons_zero,List.getElem?_cons_succ] at q0 q1;refine bodyPost_ret (v:= .tuple #[.agg #[.slice none 0 0,.int .i64 0],.slice none 0 0,.int .i64 2]) (by simp[results,Tryz.results52,go_sem,q0,q1]) rfl ⟨_,_,_,by rw[HE.out],?_,fun h=>by rw[HE.out] at h;omega,fun _=>⟨rfl,rfl,rfl⟩⟩
  exact (aB.out.setCell (by show _≤T+1;have:=aE.out;omega) _).setCell (by show _≤T+1;have:=aE.out;omega) _
 ·have aQ:tvB l at_=true:=by simpa using hv
  have HV:=Zk aQ;have bE:=Zk hv;rw[aQ];have hvv:l.length≤16384∧0≤at_∧at_≤(l.length:Int):=of_decide_eq_true aQ;clear hv aQ;go_wp2_with fail;(with_reducible refine (My n _).mono ?_)
  rintro e w2 ⟨rfl,rfl⟩;by_cases hlm:liB n=false∨c<0
  ·have HE:Hid (dsE l at_ n c=1):=by show _=_;unfold dsE;rw[if_neg bE.out,if_pos hlm]
   have hg:liB n=false∨(liB n=true∧decide (c<0)=true):=by
    cases h:liB n with
    |false=>exact .inl rfl
    |true=>exact .inr ⟨rfl,by rcases hlm with h2|h2;(rw[h] at h2;cases h2);exact Ze h2⟩
   clear hlm;rcases hg with hg|⟨hg,hcz⟩;all_goals
    rw[hg];clear hg;go_wp2_with fail;have HW:=Ck (.slice none 0 0) (.int .i64 0) aD.out;have q0:=Zc _ (T+1) 0 _ _ _ HW;have q1:=Zc _ (T+1) 1 _ _ _ HW;simp only[List.getElem?_toArray,List.getElem?_cons_zero,List.getElem?_cons_succ] at q0 q1;refine bodyPost_ret (v:= .tuple #[.agg #[.slice none 0 0,.int .i64 0],.slice none 0 0,.int .i64 1]) (by simp[results,Tryz.results52,go_sem,q0,q1]) rfl ⟨_,_,_,by rw[HE.out],?_,fun h=>by rw[HE.out] at h;omega,fun _=>⟨rfl,rfl,rfl⟩⟩
    exact (aB.out.setCell (by show _≤T+1;have:=aE.out;omega) _).setCell (by show _≤T+1;have:=aE.out;omega) _
  ·have bJ:liB n=true:=by
    cases h:liB n with
    |false=>exact absurd (.inl h) hlm
    |true=>rfl
   have bX:¬c<0:=fun h=>hlm (.inr h)
   obtain⟨cn,rfl⟩:∃cn:Nat,c=cn:=⟨c.toNat,by omega⟩;obtain⟨an,rfl⟩:∃an:Nat,at_=an:=⟨at_.toNat,by omega⟩;have hdc:decide ((cn:Int)<0)=false:=Zd bX;have aU:Hid (dsE l an n cn=drE l n an cn):=by show _=_;unfold dsE;rw[if_neg bE.out,if_neg hlm];rfl
   rw[bJ];clear hlm bJ;have aJ:w1.cell? ⟨T,0,none⟩=some (.slice A l.length cc):=Zc w1 T 0 _ _ _ aV.out;have aY:w1.cell? ⟨T,1,none⟩=some (.int .i64 an):=Zc w1 T 1 _ _ _ aV.out;go_upto_region 6 with fail
   obtain⟨b,hb⟩:∃b,w1.heap.size=b:=⟨_,rfl⟩;have aN:=Zk hb;obtain⟨w2,aO⟩:∃w2:World,w2=w1.alloc (.cells #[.slice A l.length cc,.int .i64 an,.slice none 0 0] 125):=⟨_,rfl⟩;have aH:Hid (Below w1.heap.size w1 w2):=by show Below _ _ _;rw[aO];exact (Zb _ _).alloc (Zl _) _
   have bM:Hid (w2.heap[b]? =some (.cells #[.slice A l.length cc,.int .i64 an,.slice none 0 0] 125 (0,0))):=by show _=_;rw[aO,←hb];exact Zh w1 _
   have hz2:w2.heap.size=b+1:=by rw[aO,←hb];simp
   rw[←aO,hb];rw[hb] at bY;clear aO hb;have bR:Hid (SB b w2 (.slice A l.length cc) l):=(SB.below HS.out (aB.out.trans (aH.out.mono aB.out.size))).more (by have:=aB.out.size;have:=aN.out;omega);clear aJ aY aW aX aZ bA;go_wp2_with fail;(with_reducible refine (Pz l an n cn b _ w2 bR.out (by omega) (by omega) (by have:=hc;unfold At at this;omega) bM.out).mono ?_)
   rintro e w3 ⟨rfl,aL,bK⟩;have HG3:=Zk aL;have bP:=Zk bK;have hz3:=aL.size;have aI:Hid (w3.heap[T+1]? =some (.cells #[.slice none 0 0,.int .i64 0] 45 (0,0))):=(aL.block (T+1) (by omega) (by simp;omega)).trans ((aH.out.block (T+1) (by have:=aN.out;omega)).trans aD.out);have bV:Hid (w3.heap[T]? =some (.cells #[.slice A l.length cc,.int .i64 an] 45 (0,0))):=(aL.block T (by omega) (by simp;omega)).trans ((aH.out.block T (by have:=aN.out;omega)).trans aV.out);have aA:Hid (Below w.heap.size w w3):=(aB.out.trans (aH.out.mono aB.out.size)).grown aL (by have:=aB.out.size;have:=aH.out.size;omega) (fun k hk=>by injection hk with hk;have:=aB.out.size;have:=aN.out;omega)
   have aW:w3.cell? ⟨T+1,0,none⟩=some (.slice none 0 0):=Zc w3 (T+1) 0 _ _ _ aI.out;have aX:w3.cell? ⟨T+1,1,none⟩=some (.int .i64 0):=Zc w3 (T+1) 1 _ _ _ aI.out;have aZ:w3.frozen? ⟨T+1,0,none⟩=false:=Zf w3 (T+1) 0 _ _ aI.out;have bA:w3.frozen? ⟨T+1,1,none⟩=false:=Zf w3 (T+1) 1 _ _ aI.out;obtain⟨er,bC⟩:∃er,drE l n an cn=er:=⟨_,rfl⟩;have aP:=Zk bC;rw[bC];clear aL bK bC;by_cases h0:er=0
   ·subst h0;obtain⟨vd,bH,aG⟩:=bP.out aP.out;have aR:=Zk bH;have HO:=Zk aG;obtain⟨Ad,cd,rfl⟩:=Ct aG;obtain⟨D,hD⟩:∃D,(l.drop an).take cn=D:=⟨_,rfl⟩;have bN:=Zk hD;rw[hD] at HO aR;have aJ:w3.cell? ⟨T,0,none⟩=some (.slice A l.length cc):=Zc w3 T 0 _ _ _ bV.out;have bF:w3.cell? ⟨b,1,none⟩=some (.int .i64 ((an:Int)+cn)):=Zc w3 b 1 _ _ _ aR.out;have bG:w3.cell? ⟨b,2,none⟩=some (.slice Ad D.length cd):=Zc w3 b 2 _ _ _ aR.out;have bI:b<w3.heap.size:=by omega
    have bW:T<w3.heap.size:=by omega
    have aF:T+1<w3.heap.size:=by omega
    have bQ:Hid (∀x∈l,At x):=by obtain⟨_,_,_,_,_,hr,_⟩:=HS.out;exact hr
    have bS:Hid (SI w3 (.slice A l.length cc) l):=(SB.below HS.out aA.out).si aA.out.size;clear bH aG hD;go_wp2_with fail;have hbT:¬(b=T+1):=by have:=aN.out;omega
    have hbT':¬(T+1=b):=by omega
    go_region_held3 (fun w'=>w'.cell? ⟨T,0,none⟩=some (.slice A l.length cc)∧w'.cell? ⟨b,1,none⟩=some (.int .i64 ((an:Int)+cn))∧w'.cell? ⟨b,2,none⟩=some (.slice Ad D.length cd)) (first|exact⟨aJ,bF,bG⟩|exact⟨x0,x1,x2⟩|go_keep)
     (first|(go_at_call 80;refine (Hs l _ _ (by exact bS.out) (by omega)).mono ?_;rintro e w4 ⟨v4,rfl,bB,aC⟩;obtain⟨A4,k4,rfl⟩:=Ct bB;have bT:=Zk bB;have aM:=Zk aC;have x0:=(aC.cell (p:=⟨T,0,none⟩) bW).trans aJ;have x1:=(aC.cell (p:=⟨b,1,none⟩) bI).trans bF;have x2:=(aC.cell (p:=⟨b,2,none⟩) bI).trans bG;have x3:=(aC.cell (p:=⟨T+1,0,none⟩) aF).trans aW;have x4:=(aC.cell (p:=⟨T+1,1,none⟩) aF).trans aX;have x5:=(aC.frozen (p:=⟨T+1,0,none⟩) aF).trans aZ;have x6:=(aC.frozen (p:=⟨T+1,1,none⟩) aF).trans bA;clear bB aC))
    all_goals
     have bD:Hid (w4.heap[T+1]? =some (.cells #[.slice none 0 0,.int .i64 0] 45 (0,0))):=(aM.out.block (T+1) aF).trans aI.out;have aT:Hid (Below w.heap.size w w4):=aA.out.trans ((by first|exact aM.out|exact aM.out.drew_left:Below w3.heap.size w3 w4).mono aA.out.size);go_wp2_with fail;have HW:=Ck (.slice A4 l.length k4) (.int .i64 ((an:Int)+cn)) bD.out;have q0:=Zc _ (T+1) 0 _ _ _ HW;have q1:=Zc _ (T+1) 1 _ _ _ HW;simp only[List.getElem?_toArray,List.getElem?_cons_zero,List.getElem?_cons_succ] at q0 q1;have hTw:w.heap.size≤T:=by have:=aE.out;omega
     have hTl2:T+1<w4.heap.size:=Ae bD.out;have bL:Hid (Below w.heap.size w ((w4.setCell ⟨T+1,0,none⟩ (.slice A4 l.length k4)).setCell ⟨T+1,1,none⟩ (.int .i64 ((an:Int)+cn)))):=(aT.out.setCell (by show _≤T+1;omega) _).setCell (by show _≤T+1;omega) _;refine bodyPost_ret (v:= .tuple #[.agg #[.slice A4 l.length k4,.int .i64 ((an:Int)+cn)],.slice Ad D.length cd,.int .i64 0]) (by simp[results,Tryz.results52,go_sem,q0,q1]) rfl ⟨_,_,_,by rw[aU.out,aP.out],bL.out,fun _=>⟨rfl,?_,?_⟩,fun h=>absurd (aU.out.trans aP.out) h⟩
     ·exact SI.of_own (Bc (Bc bT.out aF _) aF _) bQ.out
     ·rw[show ((an:Int)).toNat=an from rfl,show ((cn:Int)).toNat=cn from rfl,bN.out];exact Cf (Bc (Bc (Bm HO.out (by first|exact aM.out|exact aM.out.drew_left)) (by show T+1<w2.heap.size;omega) _) (by show T+1<w2.heap.size;omega) _) (by have:=aH.out.size;have:=aB.out.size;omega)
   ·have HE:Hid (dsE l an n cn=er):=aU.out.trans aP.out;have hbn:(er !=0)=true:=by rw[bne_iff_ne];exact h0
    have bO:=Zk h0;clear h0;go_wp2_with fail;have HW:=Ck (.slice none 0 0) (.int .i64 0) aI.out;have q0:=Zc _ (T+1) 0 _ _ _ HW;have q1:=Zc _ (T+1) 1 _ _ _ HW;simp only[List.getElem?_toArray,List.getElem?_cons_zero,List.getElem?_cons_succ] at q0 q1;refine bodyPost_ret (v:= .tuple #[.agg #[.slice none 0 0,.int .i64 0],.slice none 0 0,.int .i64 er]) (by simp[results,Tryz.results52,go_sem,q0,q1]) rfl ⟨_,_,_,by rw[HE.out],?_,fun h=>by rw[HE.out] at h;exact absurd h bO.out,fun _=>⟨rfl,rfl,rfl⟩⟩
    exact (aA.out.setCell (by show _≤T+1;have:=aE.out;omega) _).setCell (by show _≤T+1;have:=aE.out;omega) _
end Go.Proofs.YtoiabanpnkpbhaaGreatDoor
