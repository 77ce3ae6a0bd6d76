/- Parts. -/
import Derived.Stop.Asserts
import Derived.LaidEql
import Derived.RowKitTokens
import Derived.Test.YtoiabanpnkpbhaaGreatDoorM22
set_option linter.unusedVariables false
set_option linter.unusedSimpArgs false
set_option maxRecDepth 100000
set_option maxHeartbeats 4000000
namespace Go.Proofs.YtoiabanpnkpbhaaGreatDoor
open Go.RowKit Go.Extern.Stop Go.Stop Go.Extern
theorem Qo(v:Value)(w:World):(Extern.ReflectliteType.typeOf #[.iface 190 v]).run Tryz.prog w= .ok (.iface 211 (.agg #[.pointer (some ⟨1,190,none⟩)])) w:=by kernel_rfl
theorem Ua(w:World):(callFunc 174 #[.agg #[.pointer (some ⟨1,190,none⟩)]]).run Tryz.prog w= .ok (Next.value (.bool true)) w:=by kernel_rfl
theorem Ff(v:Value)(w:World):(Go.method 363 211 v "Comparable").run Tryz.prog w= .ok (174,v) w:=by kernel_rfl
theorem noIsE(v:Value)(xT:TypeId)(w:World):(Instr.typeAssert (.iface 190 v) xT 213 true).run Tryz.prog w= .ok (.tuple #[.nilIface,.bool false]) w:=run_typeAssert_lacksB Tryz.underlying213 (by kernel_rfl) (by kernel_rfl) v xT w
theorem Wj(v:Value)(xT:TypeId)(w:World):(Instr.typeAssert (.iface 190 v) xT 216 true).run Tryz.prog w= .ok (.tuple #[.nilIface,.bool false]) w:=run_typeAssert_lacksB Tryz.underlying216 (by kernel_rfl) (by kernel_rfl) v xT w
theorem Sx(v:Value)(xT:TypeId)(w:World):(Instr.typeAssert (.iface 190 v) xT 218 true).run Tryz.prog w= .ok (.tuple #[.nilIface,.bool false]) w:=run_typeAssert_lacksB Tryz.underlying218 (by kernel_rfl) (by kernel_rfl) v xT w
def ErN(e:Int):Prop:=e=1∨e=4∨e=7∨e=9∨e=11
theorem zCu{e:Int}(h:ErN e)(w:World):(binOp .eql 153 (.iface 190 (.agg #[.int .i64 e])) (.iface 190 (.agg #[.int .i64 12]))).run Tryz.prog w=Result.ok (.bool false) w:=by
 rcases h with rfl|rfl|rfl|rfl|rfl<;>kernel_rfl
theorem Yf(w:World):(binOp .eql 153 (.iface 190 (.agg #[.int .i64 12])) (.iface 190 (.agg #[.int .i64 12]))).run Tryz.prog w=Result.ok (.bool true) w:=by kernel_rfl
theorem zGr(v:Value)(w:World):
  Calls Tryz.prog 104 #[.nilIface,.iface 190 v] w fun e w'=>e= .returned (.bool false)∧w'=w:=by
 have hn:=run_eql_iface_nil_left (P:=Tryz.prog) w 190 v Tryz.underlying153;go_enter Tryz.func104,Tryz.ntmps104;go_wp2
 go_ret;exact⟨rfl,rfl⟩
theorem zDl(w:World):
  Calls Tryz.prog 104 #[.iface 190 (.agg #[.int .i64 12]),.iface 190 (.agg #[.int .i64 12])] w fun e w'=>e= .returned (.bool true)∧w'=w:=by
 have h8:= @run_callFunc_extern Tryz.prog 133 _ Extern.ReflectliteType.typeOf Tryz.func133 (by kernel_rfl) (by kernel_rfl) (by kernel_rfl) (by kernel_rfl);have tT:=Qo;have cT:=Ua;have mR:=Ff;have heq:=Yf w;go_enter Tryz.func104,Tryz.ntmps104;go_wp2
 refine wp_loop_rounds 1 ?_;rw[rounds_succ];go_wp2
 go_ret;exact⟨rfl,rfl⟩
theorem zAk{n:Int}(h:ErN n)(w:World):
  Calls Tryz.prog 104 #[.iface 190 (.agg #[.int .i64 n]),.iface 190 (.agg #[.int .i64 12])] w fun e w'=>e= .returned (.bool false)∧w'=w:=by
 have h8:= @run_callFunc_extern Tryz.prog 133 _ Extern.ReflectliteType.typeOf Tryz.func133 (by kernel_rfl) (by kernel_rfl) (by kernel_rfl) (by kernel_rfl);have tT:=Qo;have cT:=Ua;have mR:=Ff;have nE:=noIsE;have uE:=Wj;have vE:=Sx;have heq:=zCu h w;clear h;go_enter Tryz.func104,Tryz.ntmps104;go_wp2
 refine wp_loop_rounds 1 ?_;rw[rounds_succ];go_wp2
 go_ret;exact⟨rfl,rfl⟩
theorem Rz(v:Value)(w:World):(Instr.typeAssert (.iface 190 v) 153 190 true).run Tryz.prog w= .ok (.tuple #[v,.bool true]) w:=by kernel_rfl
theorem Sz(n:Int)(w:World):Calls Tryz.prog 105 #[.iface 190 (.agg #[.int .i64 n])] w fun e w'=>e= .returned (.int .i64 n)∧Below w.heap.size w w':=by
 have HB:Hid (∀o:Obj,Below w.heap.size w (w.alloc o)):=Zk (fun o=>(Zb _ w).alloc (Zl _) o)
 have hA:=Rz (.agg #[.int .i64 n]);go_enter Tryz.func105,Tryz.ntmps105;go_wp2
 go_ret;exact⟨rfl,HB.out _⟩
theorem Ta(w:World):Calls Tryz.prog 105 #[.nilIface] w fun e w'=>e= .returned (.int .i64 0)∧w=w':=by
 go_enter Tryz.func105,Tryz.ntmps105;go_wp2
 go_ret;exact⟨rfl,rfl⟩
open Go.RowKit
theorem zAy(P:Int)(ls:List (List Int)):opE P ls=0∨opE P ls=4∨opE P ls=9:=by
 unfold opE;split
 ·exact .inr (.inr rfl)
 ·split
  ·exact .inr (.inr rfl)
  ·split
   ·exact .inr (.inl rfl)
   ·exact .inl rfl
theorem Yg(P:Int)(l:List (Int×Bool))(k:Int):fiE P l k=0∨ErN (fiE P l k):=by
 unfold ErN;have hc:ceE P l=0∨ceE P l=4∨ceE P l=9:=by
  unfold ceE;split
  ·omega
  ·split
   ·omega
   ·split<;>omega
 unfold fiE;split
 ·split
  ·omega
  ·split
   ·omega
   ·unfold inE;split
    ·split<;>omega
    ·rcases zAy P [shX ((kn l).take k.toNat),shY ((kn l).take k.toNat)] with h|h|h<;>omega
 ·omega
theorem Dd{w:World}{base e n:Nat}{v:Value}{xs:List Value}(h:w.ownsRow base e 1 v n xs):∃A c,v= .slice A n c:=by
 rcases h.2 with⟨rfl,rfl⟩|⟨g,aA,cur,rfl,_⟩
 ·exact⟨none,0,rfl⟩
 ·exact⟨_,aA,rfl⟩
def UdP(P:Int)(l:List (Int×Bool))(k:Int)(w:World)(e:Ending)(w':World):Prop:=
 ∃(out:List Int) (er:Int) (v1 v2:Value),e= .returned (.tuple #[.agg #[v1,v2],.int .i64 er])∧Below w.heap.size w w'∧UnR P l k out er∧w'.ownsRow w.heap.size 3 1 v1 out.length (out.map (Value.int .i64))∧w'.ownsRow w.heap.size 3 1 v2 (if er=0 then wrg P l out else []).length ((if er=0 then wrg P l out else []).map (Value.int .i64))
theorem UdP.drew{P:Int}{l:List (Int×Bool)}{k:Int}{w wf:World}{e:Ending}(h:UdP P l k w e wf):UdP P l k w e wf.drew:=by
 obtain⟨o,er,v1,v2,h1,h2,h3,h4,h5⟩:=h;exact⟨o,er,v1,v2,h1,h2.drew,h3,h4.drew,h5.drew⟩
theorem Rt(P:Int)(l:List (Int×Bool))(k:Int)(v:Value)(w:World)(hPi:At P)(h:SCl w v l)(hz:l.length≤1000000)(hE:EW w):
  Calls Tryz.prog 88 #[.agg #[.int .i64 P],v,.int .i64 k] w (UdP P l k w):=by
 have HE:=Zk hE;obtain⟨A,c,rfl⟩:=h.form;obtain⟨wa,aI⟩:∃wa:World,wa=(w.alloc (.cells #[.int .i64 P] 31)).alloc (.cells #[.slice none 0 0,.slice none 0 0] 135):=⟨_,rfl⟩;have aM:Hid (Below w.heap.size w wa):=Zk (by rw[aI];exact ((Zb _ w).alloc (Zl _) _).alloc (by simp) _);have bU:Hid (wa.heap[w.heap.size+1]? =some (.cells #[.slice none 0 0,.slice none 0 0] 135 (0,0))):=Zk (by
  show _=_;rw[aI];have:=Zh (w.alloc (.cells #[.int .i64 P] 31)) (.cells #[.slice none 0 0,.slice none 0 0] 135);simpa using this)
 have bI:w.heap.size+2=wa.heap.size:=by rw[aI];simp
 have aF:=Zk bI;have bR:Hid ((w.alloc (.cells #[.int .i64 P] 31)).alloc (.cells #[.slice none 0 0,.slice none 0 0] 135)=wa):=aI.symm;have bL:=Zk (zBw P l k (.slice A l.length c) wa hPi (h.below aM.out) hz (hE.below aM.out));clear h hE aI bI;go_enter Tryz.func88,Tryz.ntmps88;go_wp2_with fail;rw[bR.out];(with_reducible refine bL.out.mono ?_);rintro e1 w1 ⟨out,er,v1,v2,rfl,aS,bJ,aT,aU⟩
 obtain⟨A1,c1,bV⟩:=Dd aT;obtain⟨A2,c2,bW⟩:=Dd aU;subst bV bW;obtain⟨n1,aP⟩:∃n,n=out.length:=⟨_,rfl⟩;obtain⟨n2,aQ⟩:∃n,n=(if er=0 then wrg P l out else []).length:=⟨_,rfl⟩;rw[←aP] at aT;rw[←aQ] at aU;rw[←aP,←aQ];have bO:=Zk aP;have bP:=Zk aQ;have bE:=Zk aT;have bF:=Zk aU;have aH:=Zk bJ;obtain⟨Z,eZ⟩:∃Z,Z=w.heap.size+1:=⟨_,rfl⟩;have bC:Hid (Below w.heap.size w w1):=Zk (aM.out.trans (aS.mono (by have:=aF.out;omega)));have bS:Hid (w1.heap[Z]? =some (.cells #[.slice none 0 0,.slice none 0 0] 135 (0,0))):=Zk (by rw[eZ];exact (aS.block _ (by have:=aF.out;omega)).trans bU.out);have bX:Z<w1.heap.size:=by have:=aS.size;have:=aF.out;omega
 have bH:w.heap.size≤Z:=by omega
 obtain⟨b8,aO⟩:∃b,b=w1.heap.size:=⟨_,rfl⟩;obtain⟨w2,aR⟩:∃w2:World,w2=w1.alloc (.cells #[.slice A1 n1 c1,.slice A2 n2 c2] 135):=⟨_,rfl⟩;have aW:Hid (w1.alloc (.cells #[.slice A1 n1 c1,.slice A2 n2 c2] 135)=w2):=aR.symm;have aL:Hid (Below w1.heap.size w1 w2):=Zk (by rw[aR];exact (Zb _ w1).alloc (Zl _) _);have aC:Hid (Below w.heap.size w w2):=Zk (bC.out.trans (aL.out.mono bC.out.size));have aN:Hid (w2.heap[b8]? =some (.cells #[.slice A1 n1 c1,.slice A2 n2 c2] 135 (0,0))):=Zk (by show _=_;rw[aR,aO];exact Zh w1 _);have aB:Hid (w2.heap[Z]? =some (.cells #[.slice none 0 0,.slice none 0 0] 135 (0,0))):=Zk ((aL.out.block Z bX).trans bS.out);have bG:EW w2:=HE.out.below aC.out;have hZb:Z<b8:=by omega
 have cg:=bG.1;have z0:w2.cell? ⟨Z,0,none⟩=some (.slice none 0 0):=Zc w2 _ 0 _ _ _ aB.out;have z1:w2.cell? ⟨Z,1,none⟩=some (.slice none 0 0):=Zc w2 _ 1 _ _ _ aB.out;have g0:=Zf w2 Z 0 _ _ aB.out;have g1:=Zf w2 Z 1 _ _ aB.out;have y0:w2.cell? ⟨b8,0,none⟩=some (.slice A1 n1 c1):=Zc w2 _ 0 _ _ _ aN.out;have y1:w2.cell? ⟨b8,1,none⟩=some (.slice A2 n2 c2):=Zc w2 _ 1 _ _ _ aN.out;have aY:b8<w2.heap.size:=Ae aN.out;have aV:=Zk aO;have bT:=Zk eZ;rw[←eZ];clear aT aU bJ aS aR eZ aP aQ bG;by_cases h12:er=12
 ·subst h12;have bQ:Hid (UnR P l k [] 12):=Zk (by
   rcases aH.out with⟨q1,q2,q3⟩|⟨q1,⟨q2,_⟩|⟨q2,q3,q4⟩⟩
   ·rw[←q3];exact aH.out
   ·cases q2
   ·rw[←q3];exact aH.out)
  have aJ:Nj 12= .iface 190 (.agg #[.int .i64 12]):=rfl;rw[aJ];clear aJ aO;go_upto_region 2 with fail
  rw[aW.out,←aV.out];go_wp2_with (go_at_call 104;refine (zDl _).mono ?_;rintro e9 w9 ⟨rfl,rfl⟩);have r0:=(Gy aB.out (.slice none 0 0) (.slice none 0 0)).1;have r1:=(Gy aB.out (.slice none 0 0) (.slice none 0 0)).2;refine bodyPost_ret (v:= .tuple #[.agg #[.slice none 0 0,.slice none 0 0],.int .i64 12]) (by simp[results,Tryz.results88,go_sem,r0,r1]) rfl ⟨[],12,.slice none 0 0,.slice none 0 0,rfl,?_,bQ.out,World.ownsRow_nil _ _ _ _,World.ownsRow_nil _ _ _ _⟩;exact (aC.out.setCell (by show w.heap.size≤Z;omega) _).setCell (by show w.heap.size≤Z;omega) _
 ·have bY:w1.ownsRow w.heap.size 3 1 (.slice A1 n1 c1) n1 (out.map (Value.int .i64)):=Cf bE.out (by have:=aF.out;omega);have bA:w1.ownsRow w.heap.size 3 1 (.slice A2 n2 c2) n2 ((if er=0 then wrg P l out else []).map (Value.int .i64)):=Cf bF.out (by have:=aF.out;omega);have aZ:er=0∨ErN er:=by
   rcases aH.out with⟨q1,q2,_⟩|⟨_,⟨q2,_⟩|⟨q2,_,_⟩⟩
   ·rw[q2];exact Yg P l k
   ·exact .inl q2
   ·exact absurd q2 h12
  have aD:Hid (∀w9:World,Below w2.heap.size w2 w9→∀wf:World,wf=(w9.setCell ⟨Z,0,none⟩ (.slice A1 n1 c1)).setCell ⟨Z,1,none⟩ (.slice A2 n2 c2)→
    UdP P l k w (.returned (.tuple #[.agg #[.slice A1 n1 c1,.slice A2 n2 c2],.int .i64 er])) wf):=Zk (fun w9 hb wf aX=>by
   have hz:Z<wa.heap.size:=by have:=aF.out;have:=bT.out;omega
   have h1:=Bc (Bc (Bm (Bm bE.out aL.out) hb) (p:=⟨Z,0,none⟩) hz (.slice A1 n1 c1)) (p:=⟨Z,1,none⟩) hz (.slice A2 n2 c2);have h2:=Bc (Bc (Bm (Bm bF.out aL.out) hb) (p:=⟨Z,0,none⟩) hz (.slice A1 n1 c1)) (p:=⟨Z,1,none⟩) hz (.slice A2 n2 c2);have bK:w.heap.size≤wa.heap.size:=aM.out.size;refine⟨out,er,_,_,rfl,?_,aH.out,?_,?_⟩
   ·rw[aX];exact ((aC.out.trans (hb.mono aC.out.size)).setCell (p:=⟨Z,0,none⟩) bH _).setCell (p:=⟨Z,1,none⟩) bH _
   ·rw[aX];rw[←bO.out];exact Cf h1 bK
   ·rw[aX];rw[←bP.out];exact Cf h2 bK)
  have aE:Hid (∀w9:World,Below w2.heap.size w2 w9→w9.heap[Z]? =some (.cells #[.slice none 0 0,.slice none 0 0] 135 (0,0))):=Zk (fun w9 hb=>(hb.block Z (by omega)).trans aB.out)
  have bD:Hid (∀w9:World,Below w2.heap.size w2 w9→w9.heap[b8]? =some (.cells #[.slice A1 n1 c1,.slice A2 n2 c2] 135 (0,0))):=Zk (fun w9 hb=>(hb.block b8 aY).trans aN.out)
  have zn1:¬Z=b8:=by omega
  have zn2:¬b8=Z:=by omega
  clear bY bA aO;rcases aZ with h0|h0
  ·subst h0;have aJ:Nj 0= .nilIface:=rfl;rw[aJ];clear aJ h12;go_upto_region 2 with fail
   rw[aW.out,←aV.out];go_wp2_with (go_at_call 104;refine (zGr _ _).mono ?_;rintro e9 w9 ⟨rfl,aK⟩;have bB:=aK.symm;clear aK;subst bB);go_region_with ((go_at_call 105;refine (Ta _).mono ?_;rintro e9 w9 ⟨rfl,rfl⟩))
   all_goals
    go_wp2_with fail;have r0:=(Jr aB.out (.slice A1 n1 c1) (.slice A2 n2 c2)).1;have r1:=(Jr aB.out (.slice A1 n1 c1) (.slice A2 n2 c2)).2;have r2:=(Gy aB.out (.slice A1 n1 c1) (.slice A2 n2 c2)).1;have r3:=(Gy aB.out (.slice A1 n1 c1) (.slice A2 n2 c2)).2;refine bodyPost_ret (v:= .tuple #[.agg #[.slice A1 n1 c1,.slice A2 n2 c2],.int .i64 0]) (by first|(simp[results,Tryz.results88,go_sem,r0,r1];done)|(simp[results,Tryz.results88,go_sem,r2,r3];done)) rfl ?_;first|exact aD.out w2 (Zb _ _) _ rfl|exact (aD.out w2 (Zb _ _) _ rfl).drew
  ·have bN:Hid (Nj er= .iface 190 (.agg #[.int .i64 er])):=Zk (by
    show _=_;unfold Nj;rw[if_neg (by unfold ErN at h0;omega)])
   have bM:=Zk h0;rw[bN.out];clear h0 h12;go_upto_region 2 with fail
   rw[aW.out,←aV.out];go_wp2_with (go_at_call 104;refine (zAk bM.out _).mono ?_;rintro e9 w9 ⟨rfl,aK⟩;have bB:=aK.symm;clear aK;subst bB);go_region_with ((go_at_call 105;refine (Sz er _).mono ?_;rintro e9 w9 ⟨rfl,aG⟩;have aA:Hid (Below w2.heap.size w2 w9):=Zk (⟨aG.os,aG.tape,aG.output,aG.size,aG.block⟩);have z0:w9.cell? ⟨Z,0,none⟩=some (.slice none 0 0):=Zc w9 _ 0 _ _ _ (aE.out w9 aA.out);have z1:w9.cell? ⟨Z,1,none⟩=some (.slice none 0 0):=Zc w9 _ 1 _ _ _ (aE.out w9 aA.out);have g0:=Zf w9 Z 0 _ _ (aE.out w9 aA.out);have g1:=Zf w9 Z 1 _ _ (aE.out w9 aA.out);have y0:w9.cell? ⟨b8,0,none⟩=some (.slice A1 n1 c1):=Zc w9 _ 0 _ _ _ (bD.out w9 aA.out);have y1:w9.cell? ⟨b8,1,none⟩=some (.slice A2 n2 c2):=Zc w9 _ 1 _ _ _ (bD.out w9 aA.out);clear aG))
   all_goals
    go_wp2_with fail;have r0:=(Jr (aE.out w9 aA.out) (.slice A1 n1 c1) (.slice A2 n2 c2)).1;have r1:=(Jr (aE.out w9 aA.out) (.slice A1 n1 c1) (.slice A2 n2 c2)).2;have r2:=(Gy (aE.out w9 aA.out) (.slice A1 n1 c1) (.slice A2 n2 c2)).1;have r3:=(Gy (aE.out w9 aA.out) (.slice A1 n1 c1) (.slice A2 n2 c2)).2;refine bodyPost_ret (v:= .tuple #[.agg #[.slice A1 n1 c1,.slice A2 n2 c2],.int .i64 er]) (by simp[results,Tryz.results88,go_sem,r2,r3]) rfl ?_;first|exact aD.out w9 aA.out _ rfl|exact (aD.out w9 aA.out _ rfl).drew
open Go.RowKit
theorem Xs(l:List Int)(k:Nat)(v:Value)(w:World)(h:SI w v l)(hl:l.length≤1000000):
  Calls Tryz.prog 89 #[v,.int .i64 k] w fun e w'=>e= .returned (.int .i64 (gd l k))∧w=w':=by
 obtain⟨A,c,rfl,hcc,hm,hr,ha⟩:=h;have HA:=Zk ha;clear hr ha;go_enter Tryz.func89,Tryz.ntmps89;by_cases hlt:k<l.length
 ·obtain⟨b,off,rfl,hb,aA⟩:=HA.out (by omega);have hck:=aA k hlt;clear aA;have aB:decide ((k:Int)<(l.length:Int))=true:=Ze (by omega);have aC:decide (k<l.length)=true:=Ze hlt;go_wp2_with fail;go_ret;exact⟨by simp[gd,hlt],rfl⟩
 ·have aB:decide ((k:Int)<(l.length:Int))=false:=Zd (by omega);have aC:decide (k<l.length)=false:=Zd hlt;go_wp2_with fail;go_ret;exact⟨by simp[gd,hlt],rfl⟩
def SAn(w:World)(v:Value)(l:List (Bool×List Int)):Prop:=
 ∃A c,v= .slice A l.length c∧l.length≤c∧c≤9223372036854775807∧
  (0<l.length→∃b off,A=some ⟨b,off,none⟩∧b<w.heap.size∧∀j (h:j<l.length),w.cell? ⟨b,off+j*2,none⟩=some (.bool l[j].1)∧∃vr,w.cell? ⟨b,off+j*2+1,none⟩=some vr∧SI w vr l[j].2)
theorem SAn.below{w w':World}{v:Value}{l:List (Bool×List Int)}(h:SAn w v l)(hb:Below w.heap.size w w'):SAn w' v l:=by
 obtain⟨A,c,rfl,hc,hm,ha⟩:=h;refine⟨A,c,rfl,hc,hm,fun h0=> ?_⟩
 obtain⟨b,aC,rfl,aB,aA⟩:=ha h0;refine⟨b,aC,rfl,by have:=hb.size;omega,fun j hj=> ?_⟩
 obtain⟨h1,vr,h2,h3⟩:=aA j hj;exact⟨(hb.cell aB).trans h1,vr,(hb.cell aB).trans h2,h3.below hb⟩
theorem SAn.form{w:World}{v:Value}{l:List (Bool×List Int)}(h:SAn w v l):∃A c,v= .slice A l.length c:=by
 obtain⟨A,c,rfl,_⟩:=h;exact⟨A,c,rfl⟩
def Cc(l:List (Bool×List Int))(i:Nat):List (Int×Bool):=l.map fun a=>(if a.1 then gd a.2 i else 0,a.1)
theorem Bp(l:List (Bool×List Int))(i:Nat):(Cc l i).length=l.length:=by simp[Cc]
theorem Jf(l:List (Bool×List Int))(i j:Nat)(h:j<l.length):(Cc l i)[j]'(by rw[Bp];exact h)=(if l[j].1 then gd l[j].2 i else 0,l[j].1):=by simp[Cc]
theorem Nn(l:List (Bool×List Int))(i j:Nat)(h:j<l.length):Cc (l.take (j+1)) i=Cc (l.take j) i++[(if l[j].1 then gd l[j].2 i else 0,l[j].1)]:=by
 unfold Cc;rw[←List.take_append_getElem h,List.map_append];simp
def cpc(x:Int×Bool):List Value:=[.int .i64 x.1,.bool x.2]
theorem Ub:∀(l:List (Int×Bool)) (j:Nat) (h:j<l.length),(l.flatMap cpc)[j*2]? =some (.int .i64 l[j].1)∧(l.flatMap cpc)[j*2+1]? =some (.bool l[j].2)
 |x::t,0,_=>by simp[cpc]
 |x::t,j+1,h=>by
  have:=Ub t j (by simpa using h);refine⟨?_,?_⟩
  ·have e:(j+1)*2=j*2+1+1:=by omega
   rw[e];simpa [cpc] using this.1
  ·have e:(j+1)*2+1=j*2+1+1+1:=by omega
   rw[e];simpa [cpc] using this.2
theorem Vd{w:World}{base:Nat}{e:TypeId}{v:Value}{l:List (Int×Bool)}(h:w.ownsRow base e 2 v l.length (l.flatMap cpc))(hr:∀x∈l,At x.1):SCl w v l:=by
 rcases h.2 with⟨rfl,hn⟩|⟨g,aA,cur,rfl,hb,hg,aC,aB,hcs,htake⟩
 ·have:l=[]:=List.eq_nil_of_length_eq_zero hn;subst this;exact⟨none,0,rfl,Zl _,by omega,hr,fun h=>by simp at h⟩
 ·refine⟨_,aA,rfl,aC,by simpa [maxLen] using aB,hr,fun h0=>⟨g,0,rfl,Ae hg,fun j hj=> ?_⟩⟩
  have h1:=h.cellAt (j*2) (by omega);have h2:=h.cellAt (j*2+1) (by omega);rw[Nat.zero_add,h1,h2];exact Ub l j hj
theorem Pu(l:List (Bool×List Int))(i:Nat)(h:∀a∈l,∀x∈a.2,At x):∀x∈Cc l i,At x.1:=by
 intro x hx;unfold Cc at hx;obtain⟨a,ha,rfl⟩:=List.mem_map.1 hx;have h0:At 0:=by unfold At;omega
 show At (if a.1 then gd a.2 i else 0);split
 ·unfold gd
  cases hg:a.2[i]? with
  |none=>exact h0
  |some y=>exact h a ha y (List.mem_of_getElem? hg)
 ·exact h0
theorem Ia{w:World}{base n:Nat}{e:TypeId}{v:Value}{l:List (Int×Bool)}{y:Int}{b:Bool}(h:w.ownsRow base e 2 v n (l.flatMap cpc++[.int .i64 y,.bool b])):w.ownsRow base e 2 v n ((l++[(y,b)]).flatMap cpc):=by
 have e:(l++[(y,b)]).flatMap cpc=l.flatMap cpc++[.int .i64 y,.bool b]:=by simp[cpc]
 rw[e];exact h
theorem SAn.rng{w:World}{v:Value}{l:List (Bool×List Int)}(h:SAn w v l):∀a∈l,∀x∈a.2,At x:=by
 obtain⟨A,c,_,_,_,ha⟩:=h;intro a hm x hx;obtain⟨j,hj,rfl⟩:=List.mem_iff_getElem.1 hm;obtain⟨b,off,_,_,hc⟩:=ha (by omega);obtain⟨_,vr,_,A2,c2,_,_,_,hr,_⟩:=hc j hj;exact hr x hx
open Go.RowKit
theorem Xq:(Tryz.prog.info? 140).map (fun i=>(i.zero,i.size,i.bytes))=some (some (.agg #[.int .i64 0,.bool false]),2,16):=by kernel_rfl
def CdR(l:List (Bool×List Int))(ci:Nat)(w0:World)(s i:Value)(wr:World):Prop:=
 ∃k:Nat,k≤l.length∧i= .int .i64 k∧wr.ownsRow w0.heap.size 140 2 s (Cc (l.take k) ci).length ((Cc (l.take k) ci).flatMap cpc)∧Below w0.heap.size w0 wr
theorem Xo(P k:Int)(l:List (Bool×List Int))(ci:Nat)(v:Value)(w:World)(hPi:At P)(h:SAn w v l)(hz:l.length≤1000000)(hci:ci≤1000000)(hw:∀a∈l,a.1=true→ci<a.2.length)(hE:EW w):
  Calls Tryz.prog 66 #[.agg #[.int .i64 P,.int .i64 k,v],.int .i64 ci] w (UdP P (Cc l ci) k w):=by
 have HS:=Zk h;have HE:=Zk hE;have HW:=Zk hw;have aV:=Zk (Pu l ci h.rng);obtain⟨A,c,rfl⟩:=h.form;clear h hE hw;obtain⟨ic,bJ,bK,bL,bM⟩:=info_parts Xq;go_enter Tryz.func66,Tryz.ntmps66;obtain⟨w0,ew⟩:∃w0:World,w0=(w.alloc (.cells #[.int .i64 P,.int .i64 k,.slice A l.length c] 105)).alloc (.cells #[.slice none 0 0,.slice none 0 0] 135):=⟨_,rfl⟩;have cB:Hid ((w.alloc (.cells #[.int .i64 P,.int .i64 k,.slice A l.length c] 105)).alloc (.cells #[.slice none 0 0,.slice none 0 0] 135)=w0):=ew.symm;have aP:Hid (Below w.heap.size w w0):=Zk (by rw[ew];exact ((Zb _ _).alloc (Zl _) _).alloc (by simp) _);have cD:Hid (w0.heap[w.heap.size+1]? =some (.cells #[.slice none 0 0,.slice none 0 0] 135 (0,0))):=Zk (by show _=_;rw[ew];simpa using Zh (w.alloc (.cells #[.int .i64 P,.int .i64 k,.slice A l.length c] 105)) _);have aX:Hid (w0.heap[w.heap.size]? =some (.cells #[.int .i64 P,.int .i64 k,.slice A l.length c] 105 (0,0))):=Zk (by
  show _=_;rw[ew];exact (((Zb (w.heap.size+1) (w.alloc (.cells #[.int .i64 P,.int .i64 k,.slice A l.length c] 105))).alloc (by simp) _).block _ (by omega)).trans (Zh w _))
 have hz0:w0.heap.size=w.heap.size+2:=by rw[ew];simp
 clear ew;have a2:w0.cell? ⟨w.heap.size,2,none⟩=some (.slice A l.length c):=Zc w0 _ 2 _ _ _ aX.out;go_upto_region 3 with fail
 rw[cB.out];go_loopw [6,13] (fun s i wr=>CdR l ci w0 s i wr) (fun _ i _=>l.length- (intOf i).toNat)
 case atStart=>exact⟨0,Nat.zero_le _,rfl,World.ownsRow_nil _ _ _ _,Zb _ _⟩
 case round=>
  obtain⟨kk,hk,rfl,aH,aG⟩:=hrel;obtain⟨As,cs,rfl⟩:=Ct aH;have HO:=Zk aH;have HB:=Zk aG;have bP:w0.heap.size≤wr.heap.size:=aG.size;clear aH aG;have cG:wr.cell? ⟨w.heap.size,2,none⟩=some (.slice A l.length c):=(HB.out.cell (p:=⟨w.heap.size,2,none⟩) (by show w.heap.size<_;omega)).trans a2;have cE:wr.cell? ⟨w.heap.size,0,none⟩=some (.int .i64 P):=(HB.out.cell (p:=⟨w.heap.size,0,none⟩) (by show w.heap.size<_;omega)).trans (Zc w0 _ 0 _ _ _ aX.out);have cF:wr.cell? ⟨w.heap.size,1,none⟩=some (.int .i64 k):=(HB.out.cell (p:=⟨w.heap.size,1,none⟩) (by show w.heap.size<_;omega)).trans (Zc w0 _ 1 _ _ _ aX.out);by_cases hlt:kk<l.length
  ·obtain⟨A',c',e,_,_,ha⟩:=HS.out;injection e with e1 e2 e3;subst e1;obtain⟨b,bQ,rfl,hb,aA⟩:=ha (by omega);obtain⟨c1,vr,c2,aS⟩:=aA kk hlt;have aD:Hid (Below w.heap.size w wr):=Zk (aP.out.trans (HB.out.mono aP.out.size));have c1:=(aD.out.cell (p:=⟨b,bQ+kk*2,none⟩) hb).trans c1;have c2:=(aD.out.cell (p:=⟨b,bQ+kk*2+1,none⟩) hb).trans c2;have hbw:b<wr.heap.size:=by omega
   obtain⟨row,er⟩:∃row,row=l[kk].2:=⟨_,rfl⟩;obtain⟨kb,aR⟩:∃kb,kb=l[kk].1:=⟨_,rfl⟩;have cC:Hid (kb=true→ci<row.length):=Zk (fun h=>by rw[er];exact HW.out _ (List.getElem_mem _) (by rw[←aR];exact h))
   have aQ:Hid (Cc (l.take (kk+1)) ci=Cc (l.take kk) ci++[(if kb then gd row ci else 0,kb)]):=Zk (by show _=_;rw[Nn l ci kk hlt,er,aR]);rw[←er] at aS;rw[←aR] at c1;have bZ:=Zk (aS.below aD.out);obtain⟨Ar,cr,rfl⟩:=aS.form;have bI:(Cc (l.take kk) ci).length=kk:=by rw[Bp,List.length_take];omega
   clear ha aA e2 e3 er aR aS;have hd:decide (kk<l.length)=true:=Ze hlt;have hwK:IntKind.i64.wrap ((kk:Int)+1)=(kk:Int)+1:=by exact Zi _ (by omega)
   obtain⟨D,hD⟩:∃D,Cc (l.take kk) ci=D:=⟨_,rfl⟩;rw[hD] at HO aQ bI⊢;have hDl:D.length≤1000000:=by omega
   clear hD bI
   cases kb with
   |false=>
    go_upto_region 8 with fail
    obtain⟨wx,aE⟩:∃wx:World,wx=(wr.alloc (.cells #[.bool false,.slice Ar row.length cr] 61)).alloc (.cells #[.int .i64 0,.bool false] 140):=⟨_,rfl⟩;have aL:Hid (Below wr.heap.size wr wx):=Zk (by rw[aE];exact ((Zb wr.heap.size wr).alloc (Zl _) _).alloc (by simp) _);have aF:Hid (wx.heap[wr.heap.size+1]? =some (.cells #[.int .i64 0,.bool false] 140 (0,0))):=Zk (by
     show _=_;rw[aE];have:=Zh (wr.alloc (.cells #[.bool false,.slice Ar row.length cr] 61)) (.cells #[.int .i64 0,.bool false] 140);simpa using this)
    have aC:Hid (wx.ownsRow w0.heap.size 140 2 (.slice As D.length cs) D.length (D.flatMap cpc)):=Zk (Bm HO.out aL.out);have aK:Hid (Below w0.heap.size w0 wx):=Zk (HB.out.trans (aL.out.mono bP));have bG:w0.heap.size≤wx.heap.size:=aK.out.size;obtain⟨q,eq⟩:∃q,q=wr.heap.size+1:=⟨_,rfl⟩;rw[←eq] at aF;have aW:Hid ((wr.alloc (.cells #[.bool false,.slice Ar row.length cr] 61)).alloc (.cells #[.int .i64 0,.bool false] 140)=wx):=aE.symm;rw[aW.out,←eq];clear eq aE;have y0:wx.cell? ⟨q,0,none⟩=some (.int .i64 0):=Zc wx q 0 _ _ _ aF.out;have y1:wx.cell? ⟨q,1,none⟩=some (.bool false):=Zc wx q 1 _ _ _ aF.out;go_wp2_with (at_builtin;refine wpList_append_own _ rfl _ _ 138 rfl w0.heap.size 140 ic _ 2 16 Tryz.underlying138 bJ bK bL bM rfl (by omega) _ _ _ rfl (aC.out.alloc _) ⟨wx.heap.size,0,none⟩ 1 1 [.int .i64 0,.bool false] rfl rfl (Ba wx _ _) (by intro u hu;simp at hu;rcases hu with rfl|rfl<;>rfl) (by unfold maxLen;omega) (by omega) (by simp;omega) ?_;intro v8 w8 aB aO _;have aT:Hid (Below w0.heap.size w0 w8):=Zk ((aK.out.alloc bG _).grown aO (by simp;omega) (fun k hk=>(aC.out.lt k hk).1));have aU:=Zk aB;clear aB aO)
    go_roundw
    case rel=>
     refine⟨kk+1,by omega,by go_num,?_,aT.out⟩;rw[aQ.out,List.length_append];exact Ia aU.out
    case measure=>simp[intOf];omega
   |true=>
    have bC:ci<row.length:=cC.out rfl;obtain⟨Ar',cr',e,_,_,_,ha⟩:=bZ.out;injection e with e1 e2 e3;subst e1;obtain⟨b2,aI,rfl,hb2,aA⟩:=ha (by omega);have c3:=aA ci bC;have bT:Hid (gd row ci=row[ci]):=Zk (by show _=_;simp[gd,bC]);rw[←bT.out] at c3;generalize gd row ci=y at c3 aQ;have hd3:decide (ci<row.length)=true:=Ze bC;clear ha aA e2 e3;go_upto_region 8 with fail
    obtain⟨wx,aE⟩:∃wx:World,wx=(wr.alloc (.cells #[.bool true,.slice (some ⟨b2,aI,none⟩) row.length cr] 61)).alloc (.cells #[.int .i64 y,.bool true] 140):=⟨_,rfl⟩;have aL:Hid (Below wr.heap.size wr wx):=Zk (by rw[aE];exact ((Zb wr.heap.size wr).alloc (Zl _) _).alloc (by simp) _);have aF:Hid (wx.heap[wr.heap.size+1]? =some (.cells #[.int .i64 y,.bool true] 140 (0,0))):=Zk (by
     show _=_;rw[aE];have:=Zh (wr.alloc (.cells #[.bool true,.slice (some ⟨b2,aI,none⟩) row.length cr] 61)) (.cells #[.int .i64 y,.bool true] 140);simpa using this)
    have aC:Hid (wx.ownsRow w0.heap.size 140 2 (.slice As D.length cs) D.length (D.flatMap cpc)):=Zk (Bm HO.out aL.out);have aK:Hid (Below w0.heap.size w0 wx):=Zk (HB.out.trans (aL.out.mono bP));have bG:w0.heap.size≤wx.heap.size:=aK.out.size;obtain⟨q,eq⟩:∃q,q=wr.heap.size+1:=⟨_,rfl⟩;rw[←eq] at aF;have aW:Hid ((wr.alloc (.cells #[.bool true,.slice (some ⟨b2,aI,none⟩) row.length cr] 61)).alloc (.cells #[.int .i64 y,.bool true] 140)=wx):=aE.symm;rw[aW.out,←eq];clear eq aE;have y0:wx.cell? ⟨q,0,none⟩=some (.int .i64 y):=Zc wx q 0 _ _ _ aF.out;have y1:wx.cell? ⟨q,1,none⟩=some (.bool true):=Zc wx q 1 _ _ _ aF.out;go_wp2_with (at_builtin;refine wpList_append_own _ rfl _ _ 138 rfl w0.heap.size 140 ic _ 2 16 Tryz.underlying138 bJ bK bL bM rfl (by omega) _ _ _ rfl (aC.out.alloc _) ⟨wx.heap.size,0,none⟩ 1 1 [.int .i64 y,.bool true] rfl rfl (Ba wx _ _) (by intro u hu;simp at hu;rcases hu with rfl|rfl<;>rfl) (by unfold maxLen;omega) (by omega) (by simp;omega) ?_;intro v8 w8 aB aO _;have aT:Hid (Below w0.heap.size w0 w8):=Zk ((aK.out.alloc bG _).grown aO (by simp;omega) (fun k hk=>(aC.out.lt k hk).1));have aU:=Zk aB;clear aB aO)
    go_roundw
    case rel=>
     refine⟨kk+1,by omega,by go_num,?_,aT.out⟩;rw[aQ.out,List.length_append];exact Ia aU.out
    case measure=>simp[intOf];omega
  ·have hd:decide (kk<l.length)=false:=Zd hlt;have bD:kk=l.length:=by omega
   have bY:Hid (SCl wr (.slice As (Cc (l.take kk) ci).length cs) (Cc l ci)):=Zk (by
    have h:=HO.out;rw[bD,List.take_length] at h;rw[bD,List.take_length];exact Vd h aV.out)
   have aD:Hid (Below w.heap.size w wr):=Zk (aP.out.trans (HB.out.mono aP.out.size));have bH:=Zk (Rt P (Cc l ci) k (.slice As (Cc (l.take kk) ci).length cs) wr hPi bY.out (by rw[Bp];exact hz) (HE.out.below aD.out));obtain⟨ncl,aM⟩:∃n,n=(Cc (l.take kk) ci).length:=⟨_,rfl⟩;rw[←aM] at bH⊢;have aY:Hid (wr.heap[w.heap.size+1]? =some (.cells #[.slice none 0 0,.slice none 0 0] 135 (0,0))):=Zk ((HB.out.block _ (by omega)).trans cD.out);clear a2 cG bD aM hlt;go_wp2_with fail;(with_reducible refine bH.out.mono ?_)
   rintro e w9 ⟨out,er,v1,v2,rfl,bB,bN,bE,bF⟩;obtain⟨A1,c1,cH⟩:=Dd bE;obtain⟨A2,c2,cI⟩:=Dd bF;subst cH cI;obtain⟨n1,aZ⟩:∃n,n=out.length:=⟨_,rfl⟩;obtain⟨n2,bA⟩:∃n,n=(if er=0 then wrg P (Cc l ci) out else []).length:=⟨_,rfl⟩;have bW:=Zk bE;have bX:=Zk bF;have cA:=Zk bN;have bR:=Zk bB;have bU:=Zk aZ;have bV:=Zk bA;rw[←aZ,←bA];obtain⟨Z,eZ⟩:∃Z,Z=w.heap.size+1:=⟨_,rfl⟩;rw[←eZ] at aY⊢;have bS:=Zk eZ;have aN:Z<wr.heap.size:=Ae aY.out;have aJ:Hid (w9.heap[Z]? =some (.cells #[.slice none 0 0,.slice none 0 0] 135 (0,0))):=Zk ((bB.block Z aN).trans aY.out);have z0:w9.cell? ⟨Z,0,none⟩=some (.slice none 0 0):=Zc w9 _ 0 _ _ _ aJ.out;have z1:w9.cell? ⟨Z,1,none⟩=some (.slice none 0 0):=Zc w9 _ 1 _ _ _ aJ.out;have g0:=Zf w9 Z 0 _ _ aJ.out;have g1:=Zf w9 Z 1 _ _ aJ.out;clear bE bF bN bB aZ bA eZ cE cF;go_wp2_with fail;have r0:=(Gy aJ.out (.slice A1 n1 c1) (.slice A2 n2 c2)).1;have r1:=(Gy aJ.out (.slice A1 n1 c1) (.slice A2 n2 c2)).2;have bO:w.heap.size≤Z:=by have:=bS.out;omega
   refine bodyPost_ret (v:= .tuple #[.agg #[.slice A1 n1 c1,.slice A2 n2 c2],.int .i64 er]) (by simp[results,Tryz.results66,go_sem,r0,r1]) rfl ⟨out,er,_,_,rfl,?_,cA.out,?_,?_⟩
   ·exact ((aD.out.trans (bR.out.mono aD.out.size)).setCell (p:=⟨Z,0,none⟩) bO _).setCell (p:=⟨Z,1,none⟩) bO _
   ·have h:=Bc (Bc bW.out (p:=⟨Z,0,none⟩) aN (.slice A1 n1 c1)) (p:=⟨Z,1,none⟩) aN (.slice A2 n2 c2);rw[←bU.out] at h⊢;exact Cf h aD.out.size
   ·have h:=Bc (Bc bX.out (p:=⟨Z,0,none⟩) aN (.slice A1 n1 c1)) (p:=⟨Z,1,none⟩) aN (.slice A2 n2 c2);rw[←bV.out] at h⊢;exact Cf h aD.out.size
open Go.RowKit
def knL(l:List (Bool×List Int)):Nat:=(l.filter fun a=>a.1).length
def wdB(width:Int)(l:List (Bool×List Int)):Bool:=l.all fun a=> !a.1||decide ((a.2.length:Int)=width)
def elB(P:Int)(l:List (Bool×List Int)):Bool:=l.all fun a=> !a.1||els P a.2
def ckE(P width servers need:Int)(l:List (Bool×List Int)):Int:=
 if width<0∨64<width then 4 else if (l.length:Int)≠servers then 2 else if wdB width l=false then 2 else if elB P l=false then 9 else if (knL l:Int)<need then 11 else 0
theorem Jy{p:Bool×List Int→Bool}{l:List (Bool×List Int)}{k:Nat}(h:k<l.length):(l.take (k+1)).all p=((l.take k).all p&&p l[k]):=by
 rw[←List.take_append_getElem h,List.all_append];simp
theorem Vl{l:List (Bool×List Int)}{k:Nat}(h:k<l.length):knL (l.take (k+1))=knL (l.take k)+if l[k].1 then 1 else 0:=by
 unfold knL;rw[←List.take_append_getElem h,List.filter_append,List.length_append]
 cases e:l[k].1<;>simp[e]
theorem zBy{width:Int}{l:List (Bool×List Int)}{k:Nat}(h:k<l.length)(h1:l[k].1=true)(h2:(l[k].2.length:Int)≠width):wdB width l=false:=by
 cases e:wdB width l with
 |false=>rfl
 |true=>
  unfold wdB at e;rw[List.all_eq_true] at e;have:=e _ (List.getElem_mem h);simp[h1] at this;exact absurd this h2
def CkR(P width:Int)(l:List (Bool×List Int))(w1:World)(kv bv iv:Value)(wr:World):Prop:=
 ∃i:Nat,i≤l.length∧iv= .int .i64 i∧kv= .int .i64 (knL (l.take i))∧bv= .bool (elB P (l.take i))∧wdB width (l.take i)=true∧Below w1.heap.size w1 wr
theorem Kq(P width servers need:Int)(l:List (Bool×List Int))(v:Value)(w:World)(h:SAn w v l)(hz:l.length≤1000000):
  Calls Tryz.prog 64 #[.agg #[.int .i64 P],.int .i64 width,.int .i64 servers,.int .i64 need,v] w fun e w'=>e= .returned (.int .i64 (ckE P width servers need l))∧Below w.heap.size w w':=by
 have HS:=Zk h;obtain⟨A,c,rfl⟩:=h.form;clear h;obtain⟨F,eF⟩:∃F,F=w.heap.size:=⟨_,rfl⟩;obtain⟨w1,aN⟩:∃w1:World,w1=w.alloc (.cells #[.int .i64 P] 31):=⟨_,rfl⟩;have bI:Hid (w.alloc (.cells #[.int .i64 P] 31)=w1):=aN.symm;have aV:Hid (w1.heap[F]? =some (.cells #[.int .i64 P] 31 (0,0))):=Zk (by show _=_;rw[aN,eF];exact Zh w _);have aC:Hid (Below w.heap.size w w1):=Zk (by rw[aN];exact (Zb _ w).alloc (Zl _) _);have HEF:=Zk eF;clear aN;go_enter Tryz.func64,Tryz.ntmps64;go_upto_region 1 with fail
 rw[bI.out,←eF];clear eF;by_cases h1:width<0
 ·have d1:decide (width<0)=true:=Ze h1;have HR:Hid (ckE P width servers need l=4):=by show _=_;unfold ckE;rw[if_pos (.inl h1)]
  clear h1;go_wp2_with fail;go_ret;exact⟨by rw[HR.out]<;>rfl,aC.out⟩
 ·have d1:decide (width<0)=false:=Zd h1;by_cases h2:64<width
  ·have d2:decide (64<width)=true:=Ze h2;have HR:Hid (ckE P width servers need l=4):=by show _=_;unfold ckE;rw[if_pos (.inr h2)]
   clear h1 h2;go_wp2_with fail;go_ret;exact⟨by rw[HR.out]<;>rfl,aC.out⟩
  ·have d2:decide (64<width)=false:=Zd h2;have aK:Hid (¬(width<0∨64<width)):=Zk (fun h=>h.elim h1 h2)
   by_cases h3:(l.length:Int)=servers
   ·have d3:((l.length:Int) !=servers)=false:=by rw[bne_eq_false_iff_eq];exact h3
    have HL:=Zk h3;clear h1 h2 h3;go_wp2_with fail;go_loopw [11,12,27] (fun kv bv iv wr=>CkR P width l w1 kv bv iv wr) (fun _ _ iv _=>l.length- (intOf iv).toNat)
    case atStart=>exact⟨0,Nat.zero_le _,rfl,by simp[knL],by simp[elB],by simp[wdB],Zb _ _⟩
    case round=>
     obtain⟨i,hi,rfl,rfl,rfl,bD,aM⟩:=hrel;have aL:=Zk bD;have aQ:=Zk aM;have aF:Hid (Below w.heap.size w wr):=Zk (aC.out.trans (aQ.out.mono aC.out.size));clear bD aM;have bC:knL (l.take i)≤i:=by
      unfold knL;have h1:=List.length_filter_le (fun a:Bool×List Int=>a.1) (l.take i)
      rw[List.length_take] at h1;omega
     by_cases hlt:i<l.length
     ·have dl:decide (i<l.length)=true:=Ze hlt;obtain⟨A',c',e,_,_,ha⟩:=HS.out;injection e with e1 e2 e3;subst e1;obtain⟨b,bE,rfl,hb,aB⟩:=ha (by omega);obtain⟨c1,vr,c2,aT⟩:=aB i hlt;have c1:=(aF.out.cell (p:=⟨b,bE+i*2,none⟩) hb).trans c1;have c2:=(aF.out.cell (p:=⟨b,bE+i*2+1,none⟩) hb).trans c2;have aJ:=Zk (Jy (p:=fun a=> !a.1||decide ((a.2.length:Int)=width)) hlt)
      have aH:=Zk (Jy (p:=fun a=> !a.1||els P a.2) hlt)
      have aI:=Zk (Vl hlt);have aR:Hid (l[i].1=true→(l[i].2.length:Int)≠width→wdB width l=false):=Zk (fun x y=>zBy hlt x y)
      obtain⟨row,er⟩:∃row,row=l[i].2:=⟨_,rfl⟩;obtain⟨kb,aZ⟩:∃kb,kb=l[i].1:=⟨_,rfl⟩;have aX:=Zk (aT.below aF.out);obtain⟨Ar,cr,rfl⟩:=aT.form;rw[←er] at c2 aX aJ aH aR;rw[←aZ] at c1 aJ aH aI aR;obtain⟨kn,aG⟩:∃kn,kn=knL (l.take i):=⟨_,rfl⟩;rw[←aG] at aI bC⊢;obtain⟨eb,aE⟩:∃eb,eb=elB P (l.take i):=⟨_,rfl⟩;have aD:=Zk aE;rw[←aE];have wk:IntKind.i64.wrap ((kn:Int)+1)=(kn:Int)+1:=by exact Zi _ (by omega)
      clear ha aB e2 e3 er aZ aT aG aE;obtain⟨wx,aO⟩:∃wx:World,wx=wr.alloc (.cells #[.bool kb,.slice Ar row.length cr] 61):=⟨_,rfl⟩;have aS:Hid (wr.alloc (.cells #[.bool kb,.slice Ar row.length cr] 61)=wx):=aO.symm;have aP:Hid (wx.heap[wr.heap.size]? =some (.cells #[.bool kb,.slice Ar row.length cr] 61 (0,0))):=Zk (by show _=_;rw[aO];exact Zh wr _);have aU:Hid (Below wr.heap.size wr wx):=Zk (by rw[aO];exact (Zb _ wr).alloc (Zl _) _);have bJ:w1.heap.size≤wr.heap.size:=aQ.out.size;have aA:Hid (Below w1.heap.size w1 wx):=Zk (aQ.out.trans (aU.out.mono bJ));have bG:Hid (wx.heap[F]? =some (.cells #[.int .i64 P] 31 (0,0))):=Zk ((aA.out.block F (Ae aV.out)).trans aV.out);obtain⟨Q,eQ⟩:∃Q,Q=wr.heap.size:=⟨_,rfl⟩;rw[←eQ] at aP;go_upto_region 9 with fail
      rw[aS.out,←eQ];clear aO eQ c1 c2;have a0:wx.cell? ⟨Q,0,none⟩=some (.bool kb):=Zc wx Q 0 _ _ _ aP.out;have a1:wx.cell? ⟨Q,1,none⟩=some (.slice Ar row.length cr):=Zc wx Q 1 _ _ _ aP.out;have f0:wx.cell? ⟨F,0,none⟩=some (.int .i64 P):=Zc wx F 0 _ _ _ bG.out
      cases kb with
      |false=>
       go_wp2_with fail;go_roundw
       case rel=>exact⟨i+1,by omega,by go_num,by rw[aI.out];rfl,by unfold elB;rw[aH.out,aD.out];simp[elB],by unfold wdB;rw[aJ.out];have:=aL.out;unfold wdB at this;rw[this];rfl,aA.out⟩
       case measure=>simp[intOf];omega
      |true=>
       by_cases hw:(row.length:Int)=width
       ·have dw:((row.length:Int) !=width)=false:=by rw[bne_eq_false_iff_eq];exact hw
        have aY:=Zk hw;clear hw;have bH:Hid (SI wx (.slice Ar row.length cr) row):=Zk (aX.out.below aU.out)
        cases eb with
        |false=>
         go_wp2_with fail;go_roundw
         case rel=>exact⟨i+1,by omega,by go_num,by rw[aI.out];simp,by unfold elB;rw[aH.out];have:=aD.out;unfold elB at this;rw[←this];rfl,by unfold wdB;rw[aJ.out];have:=aL.out;unfold wdB at this;rw[this];simp[aY.out],aA.out⟩
         case measure=>simp[intOf];omega
        |true=>
         go_wp2_with fail;(with_reducible refine (Hp P row _ _ bH.out).mono ?_)
         rintro e w9 ⟨rfl,bA⟩;have bF:Hid (Below w1.heap.size w1 w9):=Zk (aA.out.trans (bA.mono aA.out.size));clear bA;go_wp2_with fail;go_roundw
         case rel=>exact⟨i+1,by omega,by go_num,by rw[aI.out];simp,by unfold elB;rw[aH.out];have:=aD.out;unfold elB at this;rw[←this];simp,by unfold wdB;rw[aJ.out];have:=aL.out;unfold wdB at this;rw[this];simp[aY.out],bF.out⟩
         case measure=>simp[intOf];omega
       ·have dw:((row.length:Int) !=width)=true:=by rw[bne_iff_ne];exact hw
        have HR:Hid (ckE P width servers need l=2):=by show _=_;unfold ckE;rw[if_neg aK.out,if_neg (by rw[HL.out];simp),if_pos (aR.out rfl hw)]
        clear hw;go_wp2_with fail;go_ret;exact⟨by rw[HR.out]<;>rfl,aC.out.trans (aA.out.mono aC.out.size)⟩
     ·have dl:decide (i<l.length)=false:=Zd hlt;have bB:l.take i=l:=List.take_of_length_le (by omega);rw[bB] at aL⊢;have HW:Hid (¬wdB width l=false):=by show¬_;rw[aL.out];simp
      obtain⟨eb,aE⟩:∃eb,eb=elB P l:=⟨_,rfl⟩;obtain⟨kn,aG⟩:∃kn,kn=knL l:=⟨_,rfl⟩;have aD:=Zk aE;have aW:=Zk aG;rw[←aE,←aG];clear bB aE aG bC
      cases eb with
      |false=>
       have HR:Hid (ckE P width servers need l=9):=by show _=_;unfold ckE;rw[if_neg aK.out,if_neg (by rw[HL.out];simp),if_neg HW.out,if_pos aD.out.symm]
       go_wp2_with fail;go_ret;exact⟨by rw[HR.out]<;>rfl,aF.out⟩
      |true=>
       by_cases hk:(kn:Int)<need
       ·have dk:decide ((kn:Int)<need)=true:=Ze hk;have HR:Hid (ckE P width servers need l=11):=by show _=_;unfold ckE;rw[if_neg aK.out,if_neg (by rw[HL.out];simp),if_neg HW.out,if_neg (by rw[←aD.out];simp),if_pos (by rw[←aW.out];exact hk)]
        clear hk;go_wp2_with fail;go_ret;exact⟨by rw[HR.out]<;>rfl,aF.out⟩
       ·have dk:decide ((kn:Int)<need)=false:=Zd hk;have HR:Hid (ckE P width servers need l=0):=by show _=_;unfold ckE;rw[if_neg aK.out,if_neg (by rw[HL.out];simp),if_neg HW.out,if_neg (by rw[←aD.out];simp),if_neg (by rw[←aW.out];exact hk)]
        clear hk;go_wp2_with fail;go_ret;exact⟨by rw[HR.out]<;>rfl,aF.out⟩
   ·have d3:((l.length:Int) !=servers)=true:=by rw[bne_iff_ne];exact h3
    have HR:Hid (ckE P width servers need l=2):=by show _=_;unfold ckE;rw[if_neg aK.out,if_pos h3]
    clear h1 h2 h3;go_wp2_with fail;go_ret;exact⟨by rw[HR.out]<;>rfl,aC.out⟩
end Go.Proofs.YtoiabanpnkpbhaaGreatDoor
