/- Parts. -/
import Derived.Test.YtoiabanpnkpbhaaGreatDoorM39
import Derived.Test.YtoiabanpnkpbhaaGreatDoorM43
set_option linter.unusedVariables false
set_option linter.unusedSimpArgs false
set_option maxRecDepth 100000
set_option maxHeartbeats 16000000
namespace Go.Proofs.YtoiabanpnkpbhaaGreatDoor
open Go.RowKit
structure KQ (O B X:Nat) (P n C:Int) (vc vr:Value) (cl rl:List Int) (w:World):Prop where
 box:w.heap[O]? =some (.cells #[.int .i64 P,.int .i64 n,.int .i64 C,vc,vr] 162 (0,0))
 two:Dr B w vc cl vr rl
 lt:O<B
 nc:vc.ownBlock≠some X
 nr:vr.ownBlock≠some X
section
variable {O B X:Nat} {P n C:Int} {vc vr:Value} {cl rl:List Int} {w w':World}
theorem KQ.olt(h:KQ O B X P n C vc vr cl rl w):O<w.heap.size:=Ae h.box
theorem KQ.cells(h:KQ O B X P n C vc vr cl rl w):w.cell? ⟨O,1,none⟩=some (.int .i64 n)∧w.cell? ⟨O,3,none⟩=some vc∧w.cell? ⟨O,4,none⟩=some vr:=
 ⟨Zc w O 1 _ _ _ h.box,Zc w O 3 _ _ _ h.box,Zc w O 4 _ _ _ h.box⟩
theorem KQ.frozen(h:KQ O B X P n C vc vr cl rl w)(j:Nat):w.frozen? ⟨O,j,none⟩=false:=Zf w O j _ _ h.box
theorem KQ.below(h:KQ O B X P n C vc vr cl rl w)(hb:Below w.heap.size w w'):KQ O B X P n C vc vr cl rl w':=
 ⟨(hb.block O h.olt).trans h.box,⟨Eo h.two.1 hb,Eo h.two.2.1 hb,h.two.2.2⟩,h.lt,h.nc,h.nr⟩
theorem KQ.alloc(h:KQ O B X P n C vc vr cl rl w)(o:Obj):KQ O B X P n C vc vr cl rl (w.alloc o):=h.below ((Zb _ w).alloc (Zl _) o)
theorem KQ.apart(h:KQ O B X P n C vc vr cl rl w){Y:Nat}(hY:w.heap.size≤Y):KQ O B Y P n C vc vr cl rl w:=
 ⟨h.box,h.two,h.lt,fun e=>by have:=(h.two.1.lt Y e).2;omega,fun e=>by have:=(h.two.2.1.lt Y e).2;omega⟩
theorem KQ.free(h:KQ O B X P n C vc vr cl rl w):KQ O B O P n C vc vr cl rl w:=
 ⟨h.box,h.two,h.lt,fun e=>by have:=(h.two.1.lt O e).1;have:=h.lt;omega,fun e=>by have:=(h.two.2.1.lt O e).1;have:=h.lt;omega⟩
theorem KQ.rows(h:KQ O B X P n C vc vr cl rl w)(n':Int):KQ O B X P n' C vc vr cl rl (w.setCell ⟨O,1,none⟩ (.int .i64 n')):=by
 refine⟨?_,⟨Az h.two.1 h.lt,Az h.two.2.1 h.lt,h.two.2.2⟩,h.lt,h.nc,h.nr⟩;rw[heap_setCell_same w O 1 _ _ _ h.box];simp
theorem KQ.app{more:List Int}{g cap:Nat}(h:KQ O B X P n C vc vr cl rl w)(hX:X<w.heap.size)
  (hown:w'.ownsRow B 3 1 (.slice (some ⟨g,0,none⟩) (cl++more).length cap) (cl++more).length ((cl++more).map (Value.int .i64))) (hg:w.grownBy w' vc.ownBlock) (hat:vc.ownBlock=some g∨g=w.heap.size):
  KQ O B X P n C (.slice (some ⟨g,0,none⟩) (cl++more).length cap) vr (cl++more) rl (w'.setCell ⟨O,3,none⟩ (.slice (some ⟨g,0,none⟩) (cl++more).length cap)):=by
 have h1:w'.heap[O]? =w.heap[O]? :=hg.block O h.olt (fun e=>by have:=(h.two.1.lt O e.symm).1;have:=h.lt;omega)
 have h2:=h.two.app1 hown hg hat
 refine⟨?_,⟨Az h2.1 h.lt,Az h2.2.1 h.lt,h2.2.2⟩,h.lt,fun e=> ?_,h.nr⟩
 ·rw[heap_setCell_same w' O 3 _ _ _ (h1.trans h.box)];simp
 ·have e2:g=X:=by simpa [Value.ownBlock] using e
  rcases hat with h3|h3
  ·exact h.nc (by rw[h3,e2])
  ·omega
theorem KQ.appR{more:List Int}{g cap:Nat}(h:KQ O B X P n C vc vr cl rl w)(hX:X<w.heap.size)
  (hown:w'.ownsRow B 3 1 (.slice (some ⟨g,0,none⟩) (rl++more).length cap) (rl++more).length ((rl++more).map (Value.int .i64))) (hg:w.grownBy w' vr.ownBlock) (hat:vr.ownBlock=some g∨g=w.heap.size):
  KQ O B X P n C vc (.slice (some ⟨g,0,none⟩) (rl++more).length cap) cl (rl++more) (w'.setCell ⟨O,4,none⟩ (.slice (some ⟨g,0,none⟩) (rl++more).length cap)):=by
 have h1:w'.heap[O]? =w.heap[O]? :=hg.block O h.olt (fun e=>by have:=(h.two.2.1.lt O e.symm).1;have:=h.lt;omega)
 have h2:=(h.two.swap.app1 hown hg hat).swap;refine⟨?_,⟨Az h2.1 h.lt,Az h2.2.1 h.lt,h2.2.2⟩,h.lt,h.nc,fun e=> ?_⟩
 ·rw[heap_setCell_same w' O 4 _ _ _ (h1.trans h.box)];simp
 ·have e2:g=X:=by simpa [Value.ownBlock] using e
  rcases hat with h3|h3
  ·exact h.nr (by rw[h3,e2])
  ·omega
end
theorem Qr{W0 w w':World}{O:Nat}{v u:Value}{j:Nat}(h:W0.grownBy w (some O))(hg:w.grownBy w' v.ownBlock)(hv:∀b,v.ownBlock=some b→W0.heap.size≤b):W0.grownBy (w'.setCell ⟨O,j,none⟩ u) (some O):=by
 have h1:W0.grownBy w' (some O):=⟨hg.os.trans h.os,hg.tape.trans h.tape,hg.output.trans h.output,Nat.le_trans h.size hg.size,fun b hb aA=>(hg.block b (Nat.lt_of_lt_of_le hb h.size) (fun e=>by have:=hv b e.symm;omega)).trans (h.block b hb aA)⟩
 exact Ak h1 (.inl rfl) u
theorem zAn{w w':World}{O X j:Nat}{v u:Value}(hg:w.grownBy w' v.ownBlock)(hX:X<w.heap.size)(hv:v.ownBlock≠some X)(hO:X≠O):(w'.setCell ⟨O,j,none⟩ u).heap[X]? =w.heap[X]? :=
 (Zo w' ⟨O,j,none⟩ X u hO).trans (hg.block X hX (fun e=>hv e.symm))
theorem zEe{P y t:Int}:(P-y)*t%P=(0-y*t%P+P)%P:=by
 have h1:P∣(P-y)*t- (0-y*t%P+P):=by
  have h2:=Cl P (y*t);have h3:P∣P*(t-1):=Int.dvd_mul_right _ _;refine Bd (Int.dvd_add h2 h3) ?_;rw[Int.sub_mul,Int.mul_sub,Int.mul_one];omega
 exact Int.emod_eq_emod_iff_emod_sub_eq_zero.2 (Int.emod_eq_zero_of_dvd h1)
open Go.RowKit Go.Shelf
def Ky1(P C:Int)(a e:Nat)(KK:List (Int×Int))(O:Nat)(W0:World)(iv:Value)(wr:World):Prop:=
 ∃(i:Nat) (vc vr:Value),i≤KK.length∧iv= .int .i64 i∧KQ O W0.heap.size O P i C vc vr (kcl P a e (KK.take i)) (krl P e (KK.take i)) wr∧W0.grownBy wr (some O)
def Ky2(P C n:Int)(f:Nat→List Int)(top:Nat)(CB RL:List Int)(O X:Nat)(cX:Array Value)(W0:World)(jv:Value)(wr:World):Prop:=
 ∃(j:Nat) (vc vr:Value),j≤top∧jv= .int .i64 j∧KQ O W0.heap.size X P n C vc vr (CB++f j) RL wr∧W0.grownBy wr (some O)∧wr.heap[X]? =some (.cells cX 114 (0,0))
theorem Hw{P C n:Int}{f:Nat→List Int}{top j:Nat}{CB RL:List Int}{O X g9 cap9:Nat}{cX:Array Value}{W0 wr w6 w9:World}{vc vr:Value}{s1:Int}(hj:j<top)(hf:f (j+1)=f j++[s1])
  (h1:KQ O W0.heap.size X P n C vc vr (CB++f j) RL wr) (h2:W0.grownBy wr (some O)) (h3:wr.heap[X]? =some (.cells cX 114 (0,0))) (hXO:X≠O) (hb:Below wr.heap.size wr w6)
  (hg:w6.grownBy w9 vc.ownBlock) (ho:w9.ownsRow W0.heap.size 3 1 (.slice (some ⟨g9,0,none⟩) ((CB++f j)++[s1]).length cap9) ((CB++f j)++[s1]).length (((CB++f j)++[s1]).map (Value.int .i64))) (ha:vc.ownBlock=some g9∨g9=w6.heap.size):
  Ky2 P C n f top CB RL O X cX W0 (.int .i64 ((j:Int)+1)) (w9.setCell ⟨O,3,none⟩ (.slice (some ⟨g9,0,none⟩) ((CB++f j)++[s1]).length cap9)):=by
 have aC:=Ae h3;have hz:=hb.size;have aG:=h1.below hb;have aA:X<w6.heap.size:=by omega
 have aH:∀b,vc.ownBlock=some b→W0.heap.size≤b:=fun b hb=>(h1.two.1.lt b hb).1
 have h5:w6.heap[X]? =wr.heap[X]? :=hb.block X aC;have aD:W0.grownBy w6 (some O):=Ag h2 (Af hb _);have aB:=aG.app aA ho hg ha;rw[List.append_assoc,←hf] at aB⊢;have aF:(w9.setCell ⟨O,3,none⟩ (.slice (some ⟨g9,0,none⟩) (CB++f (j+1)).length cap9)).heap[X]? =some (.cells cX 114 (0,0)):=(zAn hg aA h1.nc hXO).trans (h5.trans h3);have aE:W0.grownBy (w9.setCell ⟨O,3,none⟩ (.slice (some ⟨g9,0,none⟩) (CB++f (j+1)).length cap9)) (some O):=Qr aD hg aH;exact⟨j+1,_,vr,by omega,by simp,aB,aE,aF⟩
theorem Mg{P C:Int}{a e i O X g9 cap9:Nat}{x y s1:Int}{K:List (Int×Int)}{CB0 RL0:List Int}{W0 wr w6 w9:World}{vc vr:Value}(hi:i<K.length)(hT:K.take (i+1)=K.take i++[(x,y)])(hC:CB0=kcl P a e (K.take i))(hR:RL0=krl P e (K.take i))(hs:s1=y*(x^e%P)%P)
  (h1:KQ O W0.heap.size X P ((i:Int)+1) C vc vr ((CB0++pw P x a)++ngl P y (pw P x e)) RL0 wr) (h2:W0.grownBy wr (some O)) (hXl:X<wr.heap.size) (hb:Below wr.heap.size wr w6)
  (hg:w6.grownBy w9 vr.ownBlock) (ho:w9.ownsRow W0.heap.size 3 1 (.slice (some ⟨g9,0,none⟩) (RL0++[s1]).length cap9) (RL0++[s1]).length ((RL0++[s1]).map (Value.int .i64))) (ha:vr.ownBlock=some g9∨g9=w6.heap.size):
  Ky1 P C a e K O W0 (.int .i64 ((i:Int)+1)) (w9.setCell ⟨O,4,none⟩ (.slice (some ⟨g9,0,none⟩) (RL0++[s1]).length cap9)):=by
 have aD:∀b,vr.ownBlock=some b→W0.heap.size≤b:=fun b hb=>(h1.two.2.1.lt b hb).1
 have hz:=hb.size;have aA:W0.grownBy w6 (some O):=Ag h2 (Af hb _);have aC:=((h1.below hb).appR (by omega) ho hg ha).free;have aB:=Qr (j:=4) (u:= .slice (some ⟨g9,0,none⟩) (RL0++[s1]).length cap9) aA hg aD;have e1:kcl P a e (K.take (i+1))=(CB0++pw P x a)++ngl P y (pw P x e):=by rw[hT,Qp,hC]
 have e2:krl P e (K.take (i+1))=RL0++[s1]:=by rw[hT,Qs,hR,hs]
 refine⟨i+1,vc,.slice (some ⟨g9,0,none⟩) (RL0++[s1]).length cap9,by omega,by simp,?_,aB⟩;rw[e1,e2];exact aC
theorem An{w:World}{O j b i:Nat}{u v:Value}(h:w.cell? ⟨b,i,none⟩=some v)(hne:b≠O):(w.setCell ⟨O,j,none⟩ u).cell? ⟨b,i,none⟩=some v:=
 (World.cell?_of_block (Zo w ⟨O,j,none⟩ b u hne)).trans h
theorem Fz{P C n:Int}{CL RL:List Int}{O B X:Nat}{w w':World}{vc vr:Value}(h:KQ O B X P n C vc vr CL RL w)(hg:w.grownBy w' vc.ownBlock):w'.cell? ⟨O,3,none⟩=some vc∧w'.frozen? ⟨O,3,none⟩=false:=by
 have h1:w'.heap[O]? =some (.cells #[.int .i64 P,.int .i64 n,.int .i64 C,vc,vr] 162 (0,0)):=(hg.block O h.olt (fun e=>by have:=(h.two.1.lt O e.symm).1;have:=h.lt;omega)).trans h.box
 exact⟨Zc w' O 3 _ _ _ h1,Zf w' O 3 _ _ h1⟩
theorem Ke{P C n:Int}{CL RL:List Int}{O B X:Nat}{w w':World}{vc vr:Value}(h:KQ O B X P n C vc vr CL RL w)(hg:w.grownBy w' vr.ownBlock):w'.cell? ⟨O,4,none⟩=some vr∧w'.frozen? ⟨O,4,none⟩=false:=by
 have h1:w'.heap[O]? =some (.cells #[.int .i64 P,.int .i64 n,.int .i64 C,vc,vr] 162 (0,0)):=(hg.block O h.olt (fun e=>by have:=(h.two.2.1.lt O e.symm).1;have:=h.lt;omega)).trans h.box
 exact⟨Zc w' O 4 _ _ _ h1,Zf w' O 4 _ _ h1⟩
theorem zDq{w:World}{G:Nat}{T:TypeId}{c0 c1 c2 c3 c4 a b c d e:Value}(h:w.heap[G]? =some (.cells #[c0,c1,c2,c3,c4] T (0,0))):
  (((((w.setCell ⟨G,0,none⟩ a).setCell ⟨G,1,none⟩ b).setCell ⟨G,2,none⟩ c).setCell ⟨G,3,none⟩ d).setCell ⟨G,4,none⟩ e).heap[G]? =some (.cells #[a,b,c,d,e] T (0,0)):=by
 have h1:(w.setCell ⟨G,0,none⟩ a).heap[G]? =some (.cells #[a,c1,c2,c3,c4] T (0,0)):=by rw[heap_setCell_same w G 0 _ _ _ h];simp
 have h2:((w.setCell ⟨G,0,none⟩ a).setCell ⟨G,1,none⟩ b).heap[G]? =some (.cells #[a,b,c2,c3,c4] T (0,0)):=by rw[heap_setCell_same _ G 1 _ _ _ h1];simp
 have h3:(((w.setCell ⟨G,0,none⟩ a).setCell ⟨G,1,none⟩ b).setCell ⟨G,2,none⟩ c).heap[G]? =some (.cells #[a,b,c,c3,c4] T (0,0)):=by rw[heap_setCell_same _ G 2 _ _ _ h2];simp
 have h4:((((w.setCell ⟨G,0,none⟩ a).setCell ⟨G,1,none⟩ b).setCell ⟨G,2,none⟩ c).setCell ⟨G,3,none⟩ d).heap[G]? =some (.cells #[a,b,c,d,c4] T (0,0)):=by rw[heap_setCell_same _ G 3 _ _ _ h3];simp
 rw[heap_setCell_same _ G 4 _ _ _ h4];simp
theorem zBj(P:Int)(l:List (Int×Bool))(k e:Nat)(v:Value)(w:World)(h:SCl w v l)(hc:ceE P l=0)(hk:1≤k)(hkl:k≤l.length)(hke:k+2*e≤32)(hkn:k≤(kn l).length):
  Calls Tryz.prog 109 #[.agg #[.int .i64 P],v,.int .i64 k,.int .i64 e] w (KeP P (k+e) e (kn l) w):=by
 have cW:=Tx hc;have hP:=Bj cW.1;have eW:At P:=by unfold At;omega
 have eB:=(zCk hc).2.2.2;have dZ:bgE P l k=0:=by unfold bgE;rw[if_pos hc,if_neg (by omega)]
 have eG:=Zk dZ;obtain⟨A,c,rfl⟩:=h.form;have HS:=Zk h;have HZ:Hid (l.length≤1000000):=Zk (by show l.length≤1000000;omega);have eD:∀t∈kn l,At t.1∧At t.2:=by
  obtain⟨A',c',e',hc',hm',fB,dL⟩:=h;exact Ss HZ.out fB
 have dS:=Zk eD;have eJ:=Zk eB;obtain⟨n,en⟩:∃n,n=l.length:=⟨_,rfl⟩;have hl32:n≤32:=by rw[en];exact cW.2.1
 have hlP:(n:Int)<P:=by rw[en];exact cW.2.2.1
 rw[←en] at HS hkl⊢;have HN:=Zk en;clear h hc cW eB dZ eD en;go_enter Tryz.func109,Tryz.ntmps109;obtain⟨F,eF⟩:∃F,F=w.heap.size:=⟨_,rfl⟩;obtain⟨w1,cF⟩:∃w1:World,w1=(w.alloc (.cells #[.int .i64 P] 31)).alloc (.cells #[.int .i64 0,.int .i64 0,.int .i64 0,.slice none 0 0,.slice none 0 0] 162):=⟨_,rfl⟩;have dH:Hid ((w.alloc (.cells #[.int .i64 P] 31)).alloc (.cells #[.int .i64 0,.int .i64 0,.int .i64 0,.slice none 0 0,.slice none 0 0] 162)=w1):=cF.symm;have bD:Hid (Below w.heap.size w w1):=Zk (by rw[cF];exact ((Zb _ w).alloc (Zl _) _).alloc (by simp) _);have aY:Hid (w1.heap[F]? =some (.cells #[.int .i64 P] 31 (0,0))):=Zk (by show _=_;rw[cF,eF,Below.heap_alloc _ _ _ (by simp)];exact Zh w _);have aZ:Hid (w1.heap[F+1]? =some (.cells #[.int .i64 0,.int .i64 0,.int .i64 0,.slice none 0 0,.slice none 0 0] 162 (0,0))):=Zk (by show _=_;rw[cF,eF];have:=Zh (w.alloc (.cells #[.int .i64 P] 31)) (.cells #[.int .i64 0,.int .i64 0,.int .i64 0,.slice none 0 0,.slice none 0 0] 162);simpa using this);have hFw:w.heap.size≤F:=by omega
 have cE:Hid (∀W,Below w1.heap.size w1 W→W.cell? ⟨F,0,none⟩=some (.int .i64 P)∧W.cell? ⟨F+1,0,none⟩=some (.int .i64 0)∧W.cell? ⟨F+1,1,none⟩=some (.int .i64 0)∧W.cell? ⟨F+1,2,none⟩=some (.int .i64 0)∧W.cell? ⟨F+1,3,none⟩=some (.slice none 0 0)∧W.cell? ⟨F+1,4,none⟩=some (.slice none 0 0)):=Zk (fun W hg=>by
  have eV:=(hg.block F (Ae aY.out)).trans aY.out;have bQ:=(hg.block (F+1) (Ae aZ.out)).trans aZ.out;exact⟨Zc W F 0 _ _ _ eV,Zc W (F+1) 0 _ _ _ bQ,Zc W (F+1) 1 _ _ _ bQ,Zc W (F+1) 2 _ _ _ bQ,Zc W (F+1) 3 _ _ _ bQ,Zc W (F+1) 4 _ _ _ bQ⟩)
 go_upto_region 1 with fail
 rw[dH.out,←eF];clear cF eF;obtain⟨f0,_⟩:=cE.out w1 (Zb _ _);go_wp2_with fail;(with_reducible refine (Mq P l k _ w1 eW (HS.out.below bD.out) HZ.out).mono ?_)
 rintro en w2 ⟨rfl,dY⟩;rw[eG.out];have cN:Hid (Below w1.heap.size w1 w2):=Zk (dY);clear dY f0;obtain⟨f0,_⟩:=cE.out w2 cN.out;have d1:decide ((e:Int)<0)=false:=Zd (by omega);have d2:decide ((32:Int)<(e:Int))=false:=Zd (by omega);have d2n:decide (32<e)=false:=Zd (by omega);have d3:decide ((32:Int)<(k:Int)+2*(e:Int))=false:=Zd (by omega);obtain⟨O,eO⟩:∃O,O=w2.heap.size:=⟨_,rfl⟩;obtain⟨C,eC⟩:∃C:Int,C=(k:Int)+2*(e:Int):=⟨_,rfl⟩;obtain⟨w3,cT⟩:∃w3:World,w3=w2.alloc (.cells #[.int .i64 P,.int .i64 0,.int .i64 C,.slice none 0 0,.slice none 0 0] 162):=⟨_,rfl⟩;have dQ:Hid (w3.heap[O]? =some (.cells #[.int .i64 P,.int .i64 0,.int .i64 C,.slice none 0 0,.slice none 0 0] 162 (0,0))):=Zk (by rw[cT,eO];exact Zh w2 _);have eE:Hid (Below w2.heap.size w2 w3):=Zk (by rw[cT];exact (Zb _ w2).alloc (Zl _) _);have eM:Hid (w2.alloc (.cells #[.int .i64 P,.int .i64 0,.int .i64 ((k:Int)+2*(e:Int)),.slice none 0 0,.slice none 0 0] 162)=w3):=Zk (by show _=_;rw[cT,eC]);have bT:Hid (Below w1.heap.size w1 w3):=Zk (cN.out.trans (eE.out.mono cN.out.size));have hO1:w1.heap.size≤O:=by rw[eO];exact cN.out.size
 have eI:=Zk eC;have HEO:=Zk eO;clear cT;go_upto_region 7 with fail
 rw[eM.out,←eO,←eC];clear eO eC;go_wp2_with fail;(with_reducible refine (Gr l _ w3 (HS.out.below (bD.out.trans (bT.out.mono bD.out.size))) HZ.out).mono ?_)
 rintro en w4 ⟨v4,rfl,bH,dM⟩;have dO:=Zk dM;have hz34:w3.heap.size≤w4.heap.size:=dM.size;have dJ:O<w3.heap.size:=Ae dQ.out;have dP:Hid ((kn l).length≤n):=Zk (by have h1:=Ft l 0;have h2:=HN.out;show (knF 0 l).length≤n;omega);have dR:Hid (SG pcs 2 w4.heap.size w4 v4 (kn l)):=Zk (SG.of_own bH (fun t ht y hy=>by simp[pcs] at hy;rcases hy with rfl|rfl;exact (dS.out t ht).1;exact (dS.out t ht).2) (fun _ _=>rfl))
 obtain⟨gs,cs4,eT,hgs1,hgs2⟩:=Dg bH (by omega);subst eT;obtain⟨K,eK⟩:∃K,K=(kn l).length:=⟨_,rfl⟩;have HK:=Zk eK;rw[←eK] at dP dR hkn⊢;have hKn:=dP.out;have dX:KQ O w4.heap.size O P 0 C (.slice none 0 0) (.slice none 0 0) [] [] w4:=⟨(dO.out.block O dJ).trans dQ.out,⟨World.ownsRow_nil _ _ _ _,World.ownsRow_nil _ _ _ _,fun k hk=>by simp[Value.ownBlock] at hk⟩,by omega,by simp[Value.ownBlock],by simp[Value.ownBlock]⟩
 have eL:=Zk dX;have bK:Hid (Below w1.heap.size w1 w4):=Zk (bT.out.trans (dO.out.mono bT.out.size));have cB:Hid (∀W,w4.grownBy W (some O)→Below w1.heap.size w1 W):=Zk (fun W hW=>bK.out.grown hW bK.out.size (fun b hb=>by injection hb with hb;omega))
 clear bH dM eK f0 dX;go_wp2_with fail;go_loopw [47] (fun iv wr=>Ky1 P C (k+e) e (kn l) O w4 iv wr) (fun iv _=>K- (intOf iv).toNat)
 case atStart=>exact⟨0,_,_,Nat.zero_le _,rfl,eL.out,Ai _ _⟩
 case round=>
  obtain⟨i,vc,vr,hi,rfl,aR,bG⟩:=hrel;have dE:=Zk aR;have cO:=Zk bG;have hzr:w4.heap.size≤wr.heap.size:=bG.size;rw[←HK.out] at hi;have o1:=aR.cells.1;have cU:=aR.frozen 1;clear aR bG;by_cases hiK:i<K
  ·have di:decide ((i:Int)<(K:Int))=true:=Ze (by omega);have eQ:decide (i<K)=true:=Ze hiK;have bX:i<(kn l).length:=by rw[←HK.out];exact hiK
   obtain⟨A',c',eS,_,_,_,dL⟩:=Ib dR.out;injection eS with eA1 eA2 eA3;obtain⟨b,off,eA,eZ,bR⟩:=dL (by omega);rw[←eA1] at eA;injection eA with eA;injection eA with eb eo;subst eb eo;obtain⟨c0,c1⟩:=bR i bX;have c0:=cO.out.cell c0 (by simp;omega);have c1:=cO.out.cell c1 (by simp;omega);simp only[Nat.zero_add] at c0 c1;have cI:=Uw (List.getElem_mem bX);have fA:=Co (eJ.out _ (List.getElem_mem bX));have dT:Hid ((kn l).take (i+1)=(kn l).take i++[(kn l)[i]]):=Zk (List.take_succ_eq_append_getElem bX);obtain⟨x,ex⟩:∃x,x=(kn l)[i].1:=⟨_,rfl⟩;obtain⟨y,ey⟩:∃y,y=(kn l)[i].2:=⟨_,rfl⟩;have bW:Hid ((kn l).take (i+1)=(kn l).take i++[(x,y)]):=Zk (by show _=_;rw[dT.out,ex,ey]);rw[←ex] at c0 cI;rw[←ey] at c1 fA;have hx:0≤x∧x<P:=by have:=HN.out;omega
   clear bR ex ey dL eA1 eA2 eA3 eZ dT cI;obtain⟨X,eX⟩:∃X,X=wr.heap.size:=⟨_,rfl⟩;obtain⟨wx,cA⟩:∃wx:World,wx=wr.alloc (.cells #[.int .i64 x,.int .i64 y] 114):=⟨_,rfl⟩;have dI:Hid (wr.alloc (.cells #[.int .i64 x,.int .i64 y] 114)=wx):=cA.symm;have cX:Hid (Below wr.heap.size wr wx):=Zk (by rw[cA];exact (Zb _ wr).alloc (Zl _) _);have cD:Hid (wx.heap[X]? =some (.cells #[.int .i64 x,.int .i64 y] 114 (0,0))):=Zk (by show _=_;rw[cA,eX];exact Zh wr _);have eY:X=wr.heap.size:=eX;have bV:Hid (KQ O w4.heap.size X P i C vc vr (kcl P (k+e) e ((kn l).take i)) (krl P e ((kn l).take i)) wx):=Zk (by
    rw[cA];exact (dE.out.apart (Y:=X) (by omega)).alloc _)
   have dC:Hid (w4.grownBy wx (some O)):=Zk (Ag cO.out (Af cX.out _));have aF:X≠O:=by have:=dE.out.olt;omega
   have hXl:X<wx.heap.size:=by rw[cA];simp;omega
   go_upto_region 10 with fail
   rw[dI.out,←eX];clear cA eX;clear c0 c1 o1 cU eY;have o1:=bV.out.cells.1;have cU:=bV.out.frozen 1;have u1:IntKind.i64.wrap ((i:Int)+1)=(i:Int)+1:=by exact Zi _ (by omega)
   obtain⟨wy,cG⟩:∃wy:World,wy=wx.setCell ⟨O,1,none⟩ (.int .i64 ((i:Int)+1)):=⟨_,rfl⟩;have cC:Hid (KQ O w4.heap.size X P ((i:Int)+1) C vc vr (kcl P (k+e) e ((kn l).take i)) (krl P e ((kn l).take i)) wy):=Zk (by rw[cG];exact bV.out.rows _);have dD:Hid (w4.grownBy wy (some O)):=Zk (by rw[cG];exact Ak dC.out (.inl rfl) _);have eP:Hid (wy.heap[X]? =some (.cells #[.int .i64 x,.int .i64 y] 114 (0,0))):=Zk (by show _=_;rw[cG];exact (Zo wx ⟨O,1,none⟩ X _ aF).trans cD.out);have eN:Hid (wx.setCell ⟨O,1,none⟩ (.int .i64 ((i:Int)+1))=wy):=Zk (cG.symm);obtain⟨bJ,cP⟩:∃bJ,bJ=kcl P (k+e) e ((kn l).take i):=⟨_,rfl⟩;obtain⟨bL,cQ⟩:∃bL,bL=krl P e ((kn l).take i):=⟨_,rfl⟩;rw[←cP,←cQ] at cC;have cY:=Zk cP;have dF:=Zk cQ;have hCBl:bJ.length≤2000:=by
    rw[cP,Lg];have h1:((kn l).take i).length≤32:=by rw[List.length_take];omega
    have h2:k+e+e≤32:=by omega
    have:=Nat.mul_le_mul h1 h2;omega
   have hRLl:bL.length≤32:=by rw[cQ,Jn,List.length_take];omega
   clear cG cP cQ;go_wp2_with fail;rw[eN.out];clear o1 cU;obtain⟨wz,rfl⟩:∃wz:World,wz=wr:=⟨_,rfl⟩;go_loopw [14] (fun jv wr=>Ky2 P C ((i:Int)+1) (fun j=>pw P x j) (k+e) bJ bL O X #[.int .i64 x,.int .i64 y] w4 jv wr) (fun jv _=>(k+e)- (intOf jv).toNat)
   case atStart=>exact⟨0,vc,vr,Nat.zero_le _,rfl,by simpa [pw] using cC.out,dD.out,eP.out⟩
   case round=>
    obtain⟨j,cK,fD,hj,rfl,aR,bG,cH⟩:=hrel;have aO:=Zk aR;have bA:=Zk bG;have bZ:=Zk cH;have bY:w4.heap.size≤wr.heap.size:=bG.size;have hFl:F<w4.heap.size:=Nat.lt_of_lt_of_le (Ae aY.out) bK.out.size;have aN:F≠O:=by have:=Ae aY.out;omega
    have bF:Hid (∀W,Below wr.heap.size wr W→W.cell? ⟨F,0,none⟩=some (.int .i64 P)∧W.cell? ⟨X,0,none⟩=some (.int .i64 x)):=Zk (fun W hW=>
     ⟨(cE.out W ((cB.out wr bA.out).trans (hW.mono (cB.out wr bA.out).size))).1,(hW.cell (p:=⟨X,0,none⟩) (Ae bZ.out)).trans (Zc wr X 0 _ _ _ bZ.out)⟩)
    clear aR bG cH;have uk:IntKind.i64.wrap ((k:Int)+(e:Int))=(k:Int)+(e:Int):=by exact Zi _ (by omega)
    have uj:IntKind.i64.wrap ((j:Int)+1)=(j:Int)+1:=by exact Zi _ (by omega)
    by_cases hjt:j<k+e
    ·have dj:decide ((j:Int)<(k:Int)+(e:Int))=true:=Ze (by omega);have aL:=Zk (bF.out wr (Zb _ _));have aU:Hid (∀W,Below wr.heap.size wr W→W.cell? ⟨O,3,none⟩=some cK):=Zk (fun W hW=>(aO.out.below hW).cells.2.1)
     have o0:=aU.out wr (Zb _ _);obtain⟨s1,bC⟩:∃s1,s1=x^j%P:=⟨_,rfl⟩;have bE:=Zk bC;clear bC;go_upto_region 14 with fail
     refine wp_region_noPanic ?_;refine wp_region_held_drew (S:=fun w'=>w'.cell? ⟨F,0,none⟩=some (.int .i64 P)∧w'.cell? ⟨X,0,none⟩=some (.int .i64 x)) (by kernel_rfl) ?hs1 (fun aD=> ?_)
     case hs1=>((try dsimp only);(first|exact aL.out|exact aJ.out|exact aC.out|exact aA.out|exact⟨An aA.out.1 aN,An aA.out.2 aF⟩|go_keep))
     try simp only[Act.put,Zz,Zx,Zy]
     refine wpAnyH_take (i:=0) (oi:=_) (v:= ?v1) rfl (by kernel_rfl) (by kernel_rfl) (by kernel_rfl) (fun _ _ _ h=>h) (Or.inl ⟨by rfl,?hy1⟩) (by assumption) ?rs1
     case hy1=>(intro w aE;(try dsimp only at aE);go_simp;all_goals with_reducible rfl)
     try simp only[Act.put,Zz,Zx,Zy]
     refine wpAnyH_take (i:=2) (oi:=_) (v:= ?v2) rfl (by kernel_rfl) (by kernel_rfl) (by kernel_rfl) (fun _ _ _ h=>h) (Or.inl ⟨by rfl,?hy2⟩) (by assumption) ?rs2
     case hy2=>(intro w aE;(try dsimp only at aE);go_simp;all_goals with_reducible rfl)
     try simp only[Act.put,Zz,Zx,Zy]
     refine wpAnyH_take (i:=3) (oi:=_) (v:= ?v3) rfl (by kernel_rfl) (by kernel_rfl) (by kernel_rfl) (fun _ _ _ h=>h) (Or.inl ⟨by rfl,?hy3⟩) (by assumption) ?rs3
     case hy3=>(intro w aE;(try dsimp only at aE);go_simp;all_goals with_reducible rfl)
     try simp only[Act.put,Zz,Zx,Zy]
     refine wpAnyH_take (i:=4) (oi:=_) (v:= ?v4) rfl (by kernel_rfl) (by kernel_rfl) (by kernel_rfl) (fun _ _ _ h=>h) (Or.inl ⟨by rfl,?hy4⟩) (by assumption) ?rs4
     case hy4=>(intro w aE;(try dsimp only at aE);go_simp;all_goals with_reducible rfl)
     try simp only[Act.put,Zz,Zx,Zy]
     refine wpAnyH_take (i:=5) (oi:=_) (v:= ?v5) rfl (by kernel_rfl) (by kernel_rfl) (by kernel_rfl) (fun _ _ _ h=>h) (Or.inl ⟨by rfl,?hy5⟩) (by assumption) ?rs5
     case hy5=>(intro w aE;(try dsimp only at aE);go_simp;all_goals with_reducible rfl)
     try simp only[Act.put,Zz,Zx,Zy]
     refine wpAnyH_ready (rs:=[1,6]) (by kernel_rfl) (by simp) ?_;refine AllReadyH.cons (o:=_) rfl (fun K hK=> ?st6_0) ?mo6_0
     case st6_0=>
      go_simp;refine hK.out _ _ ?sh6_0 (fun aD=> ?re6_0)
      case sh6_0=>((try dsimp only);(first|exact aL.out|exact aJ.out|exact aC.out|exact aA.out|exact⟨An aA.out.1 aN,An aA.out.2 aF⟩|go_keep))
      clear hK K;try simp only[Act.put,Zz,Zx,Zy]
      refine wpAnyH_ready (rs:=[6]) (by kernel_rfl) (by simp) ?_;refine AllReadyH.cons (o:=_) rfl (fun K hK=> ?st7_0) ?mo7_0
      case st7_0=>
       (go_simp;go_at_call 63;refine (En P x j _ hP hx (by omega)).mono ?_;rintro e9 w5 ⟨rfl,aP⟩;rw[←bE.out];have aQ:Hid (Below wr.heap.size wr w5):=Zk (⟨aP.os,aP.tape,aP.output,aP.size,aP.block⟩);have aJ:=Zk (bF.out w5 aQ.out);have aB:=Zk (aQ.out.alloc aQ.out.size (.cells #[.int .i64 s1] 3));have aC:=Zk (bF.out _ aB.out);have o5:=aU.out w5 aQ.out;have cJ:=aU.out _ aB.out;clear aP)
       go_wp2_with fail;refine hK.out _ _ ?sh7_0 (fun aD=> ?re7_0)
       case sh7_0=>((try dsimp only);(first|exact aL.out|exact aJ.out|exact aC.out|exact aA.out|exact⟨An aA.out.1 aN,An aA.out.2 aF⟩|go_keep))
       clear hK K;try simp only[Act.put,Zz,Zx,Zy]
       refine wpAnyH_ready (rs:=[7]) (by kernel_rfl) (by simp) ?_;refine AllReadyH.cons (o:=_) rfl (fun K hK=> ?st8_0) ?mo8_0
       case st8_0=>
        go_simp;refine hK.out _ _ ?sh8_0 (fun aD=> ?re8_0)
        case sh8_0=>((try dsimp only);(first|exact aL.out|exact aJ.out|exact aC.out|exact aA.out|exact⟨An aA.out.1 aN,An aA.out.2 aF⟩|go_keep))
        clear hK K;try simp only[Act.put,Zz,Zx,Zy]
        refine wpAnyH_ready (rs:=[8]) (by kernel_rfl) (by simp) ?_;refine AllReadyH.cons (o:=_) rfl (fun K hK=> ?st9_0) ?mo9_0
        case st9_0=>
         (refine Ax _ (by rfl) (.tmp 63) _ 22 (by rfl) w4.heap.size 3 Tryz.underlying22 Bi cK (bJ++pw P x j) (by rfl) (by first|exact (aO.out.below aB.out).two.1|exact (aO.out.below aB.out.drew).two.1) s1 w5.heap.size (by rfl) (by exact Ba w5 [.int .i64 s1] 3 0 _ rfl) (by rw[List.length_append];have:=(show (pw P x j).length=j by simp[pw]);omega) (by have:=aB.out.size;have:=bY;first|omega|(simp at*;omega)) ?_;intro g9 aW w9 aG aH aI;obtain⟨o9,bP⟩:=Fz (aO.out.below (by first|exact aB.out|exact aB.out.drew)) aH;have aA:=Zk (And.intro (aH.cell (a:=⟨F,0,none⟩) aC.out.1 (fun e=>by have:=(aO.out.two.1.lt F e.symm).1;omega)) (aH.cell (a:=⟨X,0,none⟩) aC.out.2 (fun e=>aO.out.nc e.symm)));have aV:=Zk (Hw hjt (by rw[bE.out];exact Ic P x j) aO.out bA.out bZ.out aF (by first|exact aB.out|exact aB.out.drew) aH aG aI);clear aG aH aI)
         refine hK.out _ _ ?sh9_0 (fun aD=> ?re9_0)
         case sh9_0=>((try dsimp only);(first|exact aL.out|exact aJ.out|exact aC.out|exact aA.out|exact⟨An aA.out.1 aN,An aA.out.2 aF⟩|go_keep))
         clear hK K;try simp only[Act.put,Zz,Zx,Zy]
         refine wpAnyH_take (i:=9) (oi:=_) (v:= ?v10) rfl (by kernel_rfl) (by kernel_rfl) (by kernel_rfl) (fun _ _ _ h=>h) (Or.inl ⟨by rfl,?hy10⟩) (by assumption) ?rs10
         case hy10=>(intro w aE;(try dsimp only at aE);go_simp;all_goals with_reducible rfl)
         try simp only[Act.put,Zz,Zx,Zy]
         refine wpAnyH_ready (rs:=[10]) (by kernel_rfl) (by simp) ?_;refine AllReadyH.cons (o:=_) rfl (fun K hK=> ?st11_0) ?mo11_0
         case st11_0=>
          go_simp;refine hK.out _ _ ?sh11_0 (fun aD=> ?re11_0)
          case sh11_0=>((try dsimp only);(first|exact aL.out|exact aJ.out|exact aC.out|exact aA.out|exact⟨An aA.out.1 aN,An aA.out.2 aF⟩|go_keep))
          clear hK K;try simp only[Act.put,Zz,Zx,Zy]
          refine wpAnyH_done (by kernel_rfl) ?_ _;refine NoPanic.normal ?_;go_wp2_with fail;go_roundw
          case rel=>simpa [uj,Nat.add_assoc] using aV.out
          case measure=>simp[intOf];omega
         exact AllReadyH.nil
        exact AllReadyH.nil
       exact AllReadyH.nil
      exact AllReadyH.nil
     refine AllReadyH.cons (o:=_) rfl (fun K hK=> ?st6_1) ?mo6_1
     case st6_1=>
      (go_simp;go_at_call 63;refine (En P x j _ hP hx (by omega)).mono ?_;rintro e9 w5 ⟨rfl,aP⟩;rw[←bE.out];have aQ:Hid (Below wr.heap.size wr w5):=Zk (⟨aP.os,aP.tape,aP.output,aP.size,aP.block⟩);have aJ:=Zk (bF.out w5 aQ.out);have aB:=Zk (aQ.out.alloc aQ.out.size (.cells #[.int .i64 s1] 3));have aC:=Zk (bF.out _ aB.out);have o5:=aU.out w5 aQ.out;have cJ:=aU.out _ aB.out;clear aP)
      go_wp2_with fail;refine hK.out _ _ ?sh6_1 (fun aD=> ?re6_1)
      case sh6_1=>((try dsimp only);(first|exact aL.out|exact aJ.out|exact aC.out|exact aA.out|exact⟨An aA.out.1 aN,An aA.out.2 aF⟩|go_keep))
      clear hK K;try simp only[Act.put,Zz,Zx,Zy]
      refine wpAnyH_ready (rs:=[1,7]) (by kernel_rfl) (by simp) ?_;refine AllReadyH.cons (o:=_) rfl (fun K hK=> ?st13_0) ?mo13_0
      case st13_0=>
       go_simp;refine hK.out _ _ ?sh13_0 (fun aD=> ?re13_0)
       case sh13_0=>((try dsimp only);(first|exact aL.out|exact aJ.out|exact aC.out|exact aA.out|exact⟨An aA.out.1 aN,An aA.out.2 aF⟩|go_keep))
       clear hK K;try simp only[Act.put,Zz,Zx,Zy]
       refine wpAnyH_ready (rs:=[7]) (by kernel_rfl) (by simp) ?_;refine AllReadyH.cons (o:=_) rfl (fun K hK=> ?st14_0) ?mo14_0
       case st14_0=>
        go_simp;refine hK.out _ _ ?sh14_0 (fun aD=> ?re14_0)
        case sh14_0=>((try dsimp only);(first|exact aL.out|exact aJ.out|exact aC.out|exact aA.out|exact⟨An aA.out.1 aN,An aA.out.2 aF⟩|go_keep))
        clear hK K;try simp only[Act.put,Zz,Zx,Zy]
        refine wpAnyH_ready (rs:=[8]) (by kernel_rfl) (by simp) ?_;refine AllReadyH.cons (o:=_) rfl (fun K hK=> ?st15_0) ?mo15_0
        case st15_0=>
         (refine Ax _ (by rfl) (.tmp 63) _ 22 (by rfl) w4.heap.size 3 Tryz.underlying22 Bi cK (bJ++pw P x j) (by rfl) (by first|exact (aO.out.below aB.out).two.1|exact (aO.out.below aB.out.drew).two.1) s1 w5.heap.size (by rfl) (by exact Ba w5 [.int .i64 s1] 3 0 _ rfl) (by rw[List.length_append];have:=(show (pw P x j).length=j by simp[pw]);omega) (by have:=aB.out.size;have:=bY;first|omega|(simp at*;omega)) ?_;intro g9 aW w9 aG aH aI;obtain⟨o9,bP⟩:=Fz (aO.out.below (by first|exact aB.out|exact aB.out.drew)) aH;have aA:=Zk (And.intro (aH.cell (a:=⟨F,0,none⟩) aC.out.1 (fun e=>by have:=(aO.out.two.1.lt F e.symm).1;omega)) (aH.cell (a:=⟨X,0,none⟩) aC.out.2 (fun e=>aO.out.nc e.symm)));have aV:=Zk (Hw hjt (by rw[bE.out];exact Ic P x j) aO.out bA.out bZ.out aF (by first|exact aB.out|exact aB.out.drew) aH aG aI);clear aG aH aI)
         refine hK.out _ _ ?sh15_0 (fun aD=> ?re15_0)
         case sh15_0=>((try dsimp only);(first|exact aL.out|exact aJ.out|exact aC.out|exact aA.out|exact⟨An aA.out.1 aN,An aA.out.2 aF⟩|go_keep))
         clear hK K;try simp only[Act.put,Zz,Zx,Zy]
         refine wpAnyH_take (i:=9) (oi:=_) (v:= ?v16) rfl (by kernel_rfl) (by kernel_rfl) (by kernel_rfl) (fun _ _ _ h=>h) (Or.inl ⟨by rfl,?hy16⟩) (by assumption) ?rs16
         case hy16=>(intro w aE;(try dsimp only at aE);go_simp;all_goals with_reducible rfl)
         try simp only[Act.put,Zz,Zx,Zy]
         refine wpAnyH_ready (rs:=[10]) (by kernel_rfl) (by simp) ?_;refine AllReadyH.cons (o:=_) rfl (fun K hK=> ?st17_0) ?mo17_0
         case st17_0=>
          go_simp;refine hK.out _ _ ?sh17_0 (fun aD=> ?re17_0)
          case sh17_0=>((try dsimp only);(first|exact aL.out|exact aJ.out|exact aC.out|exact aA.out|exact⟨An aA.out.1 aN,An aA.out.2 aF⟩|go_keep))
          clear hK K;try simp only[Act.put,Zz,Zx,Zy]
          refine wpAnyH_done (by kernel_rfl) ?_ _;refine NoPanic.normal ?_;go_wp2_with fail;go_roundw
          case rel=>simpa [uj,Nat.add_assoc] using aV.out
          case measure=>simp[intOf];omega
         exact AllReadyH.nil
        exact AllReadyH.nil
       exact AllReadyH.nil
      refine AllReadyH.cons (o:=_) rfl (fun K hK=> ?st13_1) ?mo13_1
      case st13_1=>
       go_simp;refine hK.out _ _ ?sh13_1 (fun aD=> ?re13_1)
       case sh13_1=>((try dsimp only);(first|exact aL.out|exact aJ.out|exact aC.out|exact aA.out|exact⟨An aA.out.1 aN,An aA.out.2 aF⟩|go_keep))
       clear hK K;try simp only[Act.put,Zz,Zx,Zy]
       refine wpAnyH_ready (rs:=[1]) (by kernel_rfl) (by simp) ?_;refine AllReadyH.cons (o:=_) rfl (fun K hK=> ?st19_0) ?mo19_0
       case st19_0=>
        go_simp;refine hK.out _ _ ?sh19_0 (fun aD=> ?re19_0)
        case sh19_0=>((try dsimp only);(first|exact aL.out|exact aJ.out|exact aC.out|exact aA.out|exact⟨An aA.out.1 aN,An aA.out.2 aF⟩|go_keep))
        clear hK K;try simp only[Act.put,Zz,Zx,Zy]
        refine wpAnyH_ready (rs:=[8]) (by kernel_rfl) (by simp) ?_;refine AllReadyH.cons (o:=_) rfl (fun K hK=> ?st20_0) ?mo20_0
        case st20_0=>
         (refine Ax _ (by rfl) (.tmp 63) _ 22 (by rfl) w4.heap.size 3 Tryz.underlying22 Bi cK (bJ++pw P x j) (by rfl) (by first|exact (aO.out.below aB.out).two.1|exact (aO.out.below aB.out.drew).two.1) s1 w5.heap.size (by rfl) (by exact Ba w5 [.int .i64 s1] 3 0 _ rfl) (by rw[List.length_append];have:=(show (pw P x j).length=j by simp[pw]);omega) (by have:=aB.out.size;have:=bY;first|omega|(simp at*;omega)) ?_;intro g9 aW w9 aG aH aI;obtain⟨o9,bP⟩:=Fz (aO.out.below (by first|exact aB.out|exact aB.out.drew)) aH;have aA:=Zk (And.intro (aH.cell (a:=⟨F,0,none⟩) aC.out.1 (fun e=>by have:=(aO.out.two.1.lt F e.symm).1;omega)) (aH.cell (a:=⟨X,0,none⟩) aC.out.2 (fun e=>aO.out.nc e.symm)));have aV:=Zk (Hw hjt (by rw[bE.out];exact Ic P x j) aO.out bA.out bZ.out aF (by first|exact aB.out|exact aB.out.drew) aH aG aI);clear aG aH aI)
         refine hK.out _ _ ?sh20_0 (fun aD=> ?re20_0)
         case sh20_0=>((try dsimp only);(first|exact aL.out|exact aJ.out|exact aC.out|exact aA.out|exact⟨An aA.out.1 aN,An aA.out.2 aF⟩|go_keep))
         clear hK K;try simp only[Act.put,Zz,Zx,Zy]
         refine wpAnyH_take (i:=9) (oi:=_) (v:= ?v21) rfl (by kernel_rfl) (by kernel_rfl) (by kernel_rfl) (fun _ _ _ h=>h) (Or.inl ⟨by rfl,?hy21⟩) (by assumption) ?rs21
         case hy21=>(intro w aE;(try dsimp only at aE);go_simp;all_goals with_reducible rfl)
         try simp only[Act.put,Zz,Zx,Zy]
         refine wpAnyH_ready (rs:=[10]) (by kernel_rfl) (by simp) ?_;refine AllReadyH.cons (o:=_) rfl (fun K hK=> ?st22_0) ?mo22_0
         case st22_0=>
          go_simp;refine hK.out _ _ ?sh22_0 (fun aD=> ?re22_0)
          case sh22_0=>((try dsimp only);(first|exact aL.out|exact aJ.out|exact aC.out|exact aA.out|exact⟨An aA.out.1 aN,An aA.out.2 aF⟩|go_keep))
          clear hK K;try simp only[Act.put,Zz,Zx,Zy]
          refine wpAnyH_done (by kernel_rfl) ?_ _;refine NoPanic.normal ?_;go_wp2_with fail;go_roundw
          case rel=>simpa [uj,Nat.add_assoc] using aV.out
          case measure=>simp[intOf];omega
         exact AllReadyH.nil
        exact AllReadyH.nil
       exact AllReadyH.nil
      exact AllReadyH.nil
     exact AllReadyH.nil
    ·have dj:decide ((j:Int)<(k:Int)+(e:Int))=false:=Zd (by omega);obtain rfl:j=k+e:=by omega
     obtain⟨bS,bM⟩:∃bS,bS=bJ++pw P x (k+e):=⟨_,rfl⟩;rw[←bM] at aO;have hCB1:bS.length≤2032:=by rw[bM,List.length_append];have:=(show (pw P x (k+e)).length=k+e by simp[pw]);omega
     have cZ:=Zk bM;clear bM;go_wp2_with fail;obtain⟨wv,rfl⟩:∃wv:World,wv=wr:=⟨_,rfl⟩;go_loopw [15] (fun tv wr=>Ky2 P C ((i:Int)+1) (fun t=>ngl P y (pw P x t)) e bS bL O X #[.int .i64 x,.int .i64 y] w4 tv wr) (fun tv _=>e- (intOf tv).toNat)
     case atStart=>exact⟨0,cK,fD,Nat.zero_le _,rfl,by simpa [pw,ngl] using aO.out,bA.out,bZ.out⟩
     case round=>
      obtain⟨t,cL,cM,ht,rfl,aR,bG,cH⟩:=hrel;have aK:=Zk aR;have aT:=Zk bG;have bO:=Zk cH;have bB:w4.heap.size≤wr.heap.size:=bG.size;have aS:Hid (∀W,Below wr.heap.size wr W→W.cell? ⟨F,0,none⟩=some (.int .i64 P)∧W.cell? ⟨X,0,none⟩=some (.int .i64 x)∧W.cell? ⟨X,1,none⟩=some (.int .i64 y)):=Zk (fun W hW=>
       ⟨(cE.out W ((cB.out wr aT.out).trans (hW.mono (cB.out wr aT.out).size))).1,(hW.cell (p:=⟨X,0,none⟩) (Ae bO.out)).trans (Zc wr X 0 _ _ _ bO.out),(hW.cell (p:=⟨X,1,none⟩) (Ae bO.out)).trans (Zc wr X 1 _ _ _ bO.out)⟩)
      clear aR bG cH;have ut:IntKind.i64.wrap ((t:Int)+1)=(t:Int)+1:=by exact Zi _ (by omega)
      have hP0:¬P=0:=by omega
      have aL:=Zk (aS.out wr (Zb _ _));by_cases hte:t<e
      ·have dt:decide ((t:Int)<(e:Int))=true:=Ze (by omega);have eR:decide (t<e)=true:=Ze hte;have aU:Hid (∀W,Below wr.heap.size wr W→W.cell? ⟨O,3,none⟩=some cL):=Zk (fun W hW=>(aK.out.below hW).cells.2.1)
       have o0:=aU.out wr (Zb _ _);obtain⟨s1,bC⟩:∃s1,s1=x^t%P:=⟨_,rfl⟩;have hs1:0≤s1∧s1<P:=by rw[bC];exact⟨Int.emod_nonneg _ (by omega),Int.emod_lt_of_pos _ (by omega)⟩
       have bE:=Zk bC;have fC:=Li (show 0≤P-y∧P-y≤P by omega) hs1 hP.2;have u1:IntKind.i64.wrap (P-y)=P-y:=by exact Zi _ (by omega)
       have u2:IntKind.i64.wrap ((P-y)*s1)=(P-y)*s1:=by exact Zi _ (by omega)
       obtain⟨s2,bN⟩:∃s2,s2=(P-y)*s1%P:=⟨_,rfl⟩;have u3:((P-y)*s1).tmod P=s2:=by rw[bN];exact Int.tmod_eq_emod_of_nonneg (by omega)
       have hs2:0≤s2∧s2<P:=by rw[bN];exact⟨Int.emod_nonneg _ (by omega),Int.emod_lt_of_pos _ (by omega)⟩
       have u4:IntKind.i64.wrap s2=s2:=by exact Zi _ (by omega)
       have bU:Hid (ngl P y (pw P x (t+1))=ngl P y (pw P x t)++[s2]):=Zk (by show _=_;rw[Ic,Qx,bN,zEe,bC]);clear bC bN;go_upto_region 18 with fail
       refine wp_region_noPanic ?_;refine wp_region_held_drew (S:=fun w'=>w'.cell? ⟨F,0,none⟩=some (.int .i64 P)∧w'.cell? ⟨X,0,none⟩=some (.int .i64 x)∧w'.cell? ⟨X,1,none⟩=some (.int .i64 y)) (by kernel_rfl) ?hs2 (fun aD=> ?_)
       case hs2=>((try dsimp only);(first|exact aL.out|exact aJ.out|exact aC.out|exact aA.out|exact⟨An aA.out.1 aN,An aA.out.2.1 aF,An aA.out.2.2 aF⟩|go_keep))
       try simp only[Act.put,Zz,Zx,Zy]
       refine wpAnyH_take (i:=0) (oi:=_) (v:= ?v24) rfl (by kernel_rfl) (by kernel_rfl) (by kernel_rfl) (fun _ _ _ h=>h) (Or.inl ⟨by rfl,?hy24⟩) (by assumption) ?rs24
       case hy24=>(intro w aE;(try dsimp only at aE);go_simp;all_goals with_reducible rfl)
       try simp only[Act.put,Zz,Zx,Zy]
       refine wpAnyH_take (i:=2) (oi:=_) (v:= ?v25) rfl (by kernel_rfl) (by kernel_rfl) (by kernel_rfl) (fun _ _ _ h=>h) (Or.inl ⟨by rfl,?hy25⟩) (by assumption) ?rs25
       case hy25=>(intro w aE;(try dsimp only at aE);go_simp;all_goals with_reducible rfl)
       try simp only[Act.put,Zz,Zx,Zy]
       refine wpAnyH_take (i:=3) (oi:=_) (v:= ?v26) rfl (by kernel_rfl) (by kernel_rfl) (by kernel_rfl) (fun _ _ _ h=>h) (Or.inl ⟨by rfl,?hy26⟩) (by assumption) ?rs26
       case hy26=>(intro w aE;(try dsimp only at aE);go_simp;all_goals with_reducible rfl)
       try simp only[Act.put,Zz,Zx,Zy]
       refine wpAnyH_take (i:=4) (oi:=_) (v:= ?v27) rfl (by kernel_rfl) (by kernel_rfl) (by kernel_rfl) (fun _ _ _ h=>h) (Or.inl ⟨by rfl,?hy27⟩) (by assumption) ?rs27
       case hy27=>(intro w aE;(try dsimp only at aE);go_simp;all_goals with_reducible rfl)
       try simp only[Act.put,Zz,Zx,Zy]
       refine wpAnyH_take (i:=5) (oi:=_) (v:= ?v28) rfl (by kernel_rfl) (by kernel_rfl) (by kernel_rfl) (fun _ _ _ h=>h) (Or.inl ⟨by rfl,?hy28⟩) (by assumption) ?rs28
       case hy28=>(intro w aE;(try dsimp only at aE);go_simp;all_goals with_reducible rfl)
       try simp only[Act.put,Zz,Zx,Zy]
       refine wpAnyH_take (i:=6) (oi:=_) (v:= ?v29) rfl (by kernel_rfl) (by kernel_rfl) (by kernel_rfl) (fun _ _ _ h=>h) (Or.inl ⟨by rfl,?hy29⟩) (by assumption) ?rs29
       case hy29=>(intro w aE;(try dsimp only at aE);go_simp;all_goals with_reducible rfl)
       try simp only[Act.put,Zz,Zx,Zy]
       refine wpAnyH_take (i:=7) (oi:=_) (v:= ?v30) rfl (by kernel_rfl) (by kernel_rfl) (by kernel_rfl) (fun _ _ _ h=>h) (Or.inl ⟨by rfl,?hy30⟩) (by assumption) ?rs30
       case hy30=>(intro w aE;(try dsimp only at aE);go_simp;all_goals with_reducible rfl)
       try simp only[Act.put,Zz,Zx,Zy]
       refine wpAnyH_take (i:=8) (oi:=_) (v:= ?v31) rfl (by kernel_rfl) (by kernel_rfl) (by kernel_rfl) (fun _ _ _ h=>h) (Or.inl ⟨by rfl,?hy31⟩) (by assumption) ?rs31
       case hy31=>(intro w aE;(try dsimp only at aE);go_simp;all_goals with_reducible rfl)
       try simp only[Act.put,Zz,Zx,Zy]
       refine wpAnyH_take (i:=9) (oi:=_) (v:= ?v32) rfl (by kernel_rfl) (by kernel_rfl) (by kernel_rfl) (fun _ _ _ h=>h) (Or.inl ⟨by rfl,?hy32⟩) (by assumption) ?rs32
       case hy32=>(intro w aE;(try dsimp only at aE);go_simp;all_goals with_reducible rfl)
       try simp only[Act.put,Zz,Zx,Zy]
       refine wpAnyH_take (i:=10) (oi:=_) (v:= ?v33) rfl (by kernel_rfl) (by kernel_rfl) (by kernel_rfl) (fun _ _ _ h=>h) (Or.inl ⟨by rfl,?hy33⟩) (by assumption) ?rs33
       case hy33=>(intro w aE;(try dsimp only at aE);go_simp;all_goals with_reducible rfl)
       try simp only[Act.put,Zz,Zx,Zy]
       refine wpAnyH_take (i:=13) (oi:=_) (v:= ?v34) rfl (by kernel_rfl) (by kernel_rfl) (by kernel_rfl) (fun _ _ _ h=>h) (Or.inl ⟨by rfl,?hy34⟩) (by assumption) ?rs34
       case hy34=>(intro w aE;(try dsimp only at aE);go_simp;all_goals with_reducible rfl)
       try simp only[Act.put,Zz,Zx,Zy]
       refine wpAnyH_take (i:=14) (oi:=_) (v:= ?v35) rfl (by kernel_rfl) (by kernel_rfl) (by kernel_rfl) (fun _ _ _ h=>h) (Or.inl ⟨by rfl,?hy35⟩) (by assumption) ?rs35
       case hy35=>(intro w aE;(try dsimp only at aE);go_simp;all_goals with_reducible rfl)
       try simp only[Act.put,Zz,Zx,Zy]
       refine wpAnyH_ready (rs:=[1,11]) (by kernel_rfl) (by simp) ?_;refine AllReadyH.cons (o:=_) rfl (fun K hK=> ?st36_0) ?mo36_0
       case st36_0=>
        go_simp;refine hK.out _ _ ?sh36_0 (fun aD=> ?re36_0)
        case sh36_0=>((try dsimp only);(first|exact aL.out|exact aJ.out|exact aC.out|exact aA.out|exact⟨An aA.out.1 aN,An aA.out.2.1 aF,An aA.out.2.2 aF⟩|go_keep))
        clear hK K;try simp only[Act.put,Zz,Zx,Zy]
        refine wpAnyH_ready (rs:=[11]) (by kernel_rfl) (by simp) ?_;refine AllReadyH.cons (o:=_) rfl (fun K hK=> ?st37_0) ?mo37_0
        case st37_0=>
         (go_simp;go_at_call 63;refine (En P x t _ hP hx (by omega)).mono ?_;rintro e9 w5 ⟨rfl,aP⟩;rw[←bE.out];have aQ:Hid (Below wr.heap.size wr w5):=Zk (⟨aP.os,aP.tape,aP.output,aP.size,aP.block⟩);have aJ:=Zk (aS.out w5 aQ.out);have aB:=Zk (aQ.out.alloc aQ.out.size (.cells #[.int .i64 s2] 3));have aC:=Zk (aS.out _ aB.out);have o5:=aU.out w5 aQ.out;have cJ:=aU.out _ aB.out;clear aP)
         go_wp2_with fail;refine hK.out _ _ ?sh37_0 (fun aD=> ?re37_0)
         case sh37_0=>((try dsimp only);(first|exact aL.out|exact aJ.out|exact aC.out|exact aA.out|exact⟨An aA.out.1 aN,An aA.out.2.1 aF,An aA.out.2.2 aF⟩|go_keep))
         clear hK K;try simp only[Act.put,Zz,Zx,Zy]
         refine wpAnyH_take (i:=12) (oi:=_) (v:= ?v38) rfl (by kernel_rfl) (by kernel_rfl) (by kernel_rfl) (fun _ _ _ h=>h) (Or.inl ⟨by rfl,?hy38⟩) (by assumption) ?rs38
         case hy38=>(intro w aE;(try dsimp only at aE);go_simp;all_goals with_reducible rfl)
         try simp only[Act.put,Zz,Zx,Zy]
         refine wpAnyH_take (i:=15) (oi:=_) (v:= ?v39) rfl (by kernel_rfl) (by kernel_rfl) (by kernel_rfl) (fun _ _ _ h=>h) (Or.inl ⟨by rfl,?hy39⟩) (by assumption) ?rs39
         case hy39=>(intro w aE;(try dsimp only at aE);go_simp;all_goals with_reducible rfl)
         try simp only[Act.put,Zz,Zx,Zy]
         refine wpAnyH_ready (rs:=[16]) (by kernel_rfl) (by simp) ?_;refine AllReadyH.cons (o:=_) rfl (fun K hK=> ?st40_0) ?mo40_0
         case st40_0=>
          go_simp;refine hK.out _ _ ?sh40_0 (fun aD=> ?re40_0)
          case sh40_0=>((try dsimp only);(first|exact aL.out|exact aJ.out|exact aC.out|exact aA.out|exact⟨An aA.out.1 aN,An aA.out.2.1 aF,An aA.out.2.2 aF⟩|go_keep))
          clear hK K;try simp only[Act.put,Zz,Zx,Zy]
          refine wpAnyH_ready (rs:=[17]) (by kernel_rfl) (by simp) ?_;refine AllReadyH.cons (o:=_) rfl (fun K hK=> ?st41_0) ?mo41_0
          case st41_0=>
           (refine Ax _ (by rfl) (.tmp 78) _ 22 (by rfl) w4.heap.size 3 Tryz.underlying22 Bi cL (bS++ngl P y (pw P x t)) (by rfl) (by first|exact (aK.out.below aB.out).two.1|exact (aK.out.below aB.out.drew).two.1) s2 w5.heap.size (by rfl) (by exact Ba w5 [.int .i64 s2] 3 0 _ rfl) (by rw[List.length_append];have:=(show (ngl P y (pw P x t)).length=t by simp[pw,ngl]);omega) (by have:=aB.out.size;have:=bB;first|omega|(simp at*;omega)) ?_;intro g9 aW w9 aG aH aI;obtain⟨o9,bP⟩:=Fz (aK.out.below (by first|exact aB.out|exact aB.out.drew)) aH;have aA:=Zk (And.intro (aH.cell (a:=⟨F,0,none⟩) aC.out.1 (fun e=>by have:=(aK.out.two.1.lt F e.symm).1;omega)) (And.intro (aH.cell (a:=⟨X,0,none⟩) aC.out.2.1 (fun e=>aK.out.nc e.symm)) (aH.cell (a:=⟨X,1,none⟩) aC.out.2.2 (fun e=>aK.out.nc e.symm))));have aV:=Zk (Hw (f:=fun t=>ngl P y (pw P x t)) hte bU.out aK.out aT.out bO.out aF (by first|exact aB.out|exact aB.out.drew) aH aG aI);clear aG aH aI)
           refine hK.out _ _ ?sh41_0 (fun aD=> ?re41_0)
           case sh41_0=>((try dsimp only);(first|exact aL.out|exact aJ.out|exact aC.out|exact aA.out|exact⟨An aA.out.1 aN,An aA.out.2.1 aF,An aA.out.2.2 aF⟩|go_keep))
           clear hK K;try simp only[Act.put,Zz,Zx,Zy]
           refine wpAnyH_take (i:=18) (oi:=_) (v:= ?v42) rfl (by kernel_rfl) (by kernel_rfl) (by kernel_rfl) (fun _ _ _ h=>h) (Or.inl ⟨by rfl,?hy42⟩) (by assumption) ?rs42
           case hy42=>(intro w aE;(try dsimp only at aE);go_simp;all_goals with_reducible rfl)
           try simp only[Act.put,Zz,Zx,Zy]
           refine wpAnyH_ready (rs:=[19]) (by kernel_rfl) (by simp) ?_;refine AllReadyH.cons (o:=_) rfl (fun K hK=> ?st43_0) ?mo43_0
           case st43_0=>
            go_simp;refine hK.out _ _ ?sh43_0 (fun aD=> ?re43_0)
            case sh43_0=>((try dsimp only);(first|exact aL.out|exact aJ.out|exact aC.out|exact aA.out|exact⟨An aA.out.1 aN,An aA.out.2.1 aF,An aA.out.2.2 aF⟩|go_keep))
            clear hK K;try simp only[Act.put,Zz,Zx,Zy]
            refine wpAnyH_done (by kernel_rfl) ?_ _;refine NoPanic.normal ?_;go_wp2_with fail;go_roundw
            case rel=>simpa [ut,Nat.add_assoc] using aV.out
            case measure=>simp[intOf];omega
           exact AllReadyH.nil
          exact AllReadyH.nil
         exact AllReadyH.nil
        exact AllReadyH.nil
       refine AllReadyH.cons (o:=_) rfl (fun K hK=> ?st36_1) ?mo36_1
       case st36_1=>
        (go_simp;go_at_call 63;refine (En P x t _ hP hx (by omega)).mono ?_;rintro e9 w5 ⟨rfl,aP⟩;rw[←bE.out];have aQ:Hid (Below wr.heap.size wr w5):=Zk (⟨aP.os,aP.tape,aP.output,aP.size,aP.block⟩);have aJ:=Zk (aS.out w5 aQ.out);have aB:=Zk (aQ.out.alloc aQ.out.size (.cells #[.int .i64 s2] 3));have aC:=Zk (aS.out _ aB.out);have o5:=aU.out w5 aQ.out;have cJ:=aU.out _ aB.out;clear aP)
        go_wp2_with fail;refine hK.out _ _ ?sh36_1 (fun aD=> ?re36_1)
        case sh36_1=>((try dsimp only);(first|exact aL.out|exact aJ.out|exact aC.out|exact aA.out|exact⟨An aA.out.1 aN,An aA.out.2.1 aF,An aA.out.2.2 aF⟩|go_keep))
        clear hK K;try simp only[Act.put,Zz,Zx,Zy]
        refine wpAnyH_take (i:=12) (oi:=_) (v:= ?v45) rfl (by kernel_rfl) (by kernel_rfl) (by kernel_rfl) (fun _ _ _ h=>h) (Or.inl ⟨by rfl,?hy45⟩) (by assumption) ?rs45
        case hy45=>(intro w aE;(try dsimp only at aE);go_simp;all_goals with_reducible rfl)
        try simp only[Act.put,Zz,Zx,Zy]
        refine wpAnyH_take (i:=15) (oi:=_) (v:= ?v46) rfl (by kernel_rfl) (by kernel_rfl) (by kernel_rfl) (fun _ _ _ h=>h) (Or.inl ⟨by rfl,?hy46⟩) (by assumption) ?rs46
        case hy46=>(intro w aE;(try dsimp only at aE);go_simp;all_goals with_reducible rfl)
        try simp only[Act.put,Zz,Zx,Zy]
        refine wpAnyH_ready (rs:=[1,16]) (by kernel_rfl) (by simp) ?_;refine AllReadyH.cons (o:=_) rfl (fun K hK=> ?st47_0) ?mo47_0
        case st47_0=>
         go_simp;refine hK.out _ _ ?sh47_0 (fun aD=> ?re47_0)
         case sh47_0=>((try dsimp only);(first|exact aL.out|exact aJ.out|exact aC.out|exact aA.out|exact⟨An aA.out.1 aN,An aA.out.2.1 aF,An aA.out.2.2 aF⟩|go_keep))
         clear hK K;try simp only[Act.put,Zz,Zx,Zy]
         refine wpAnyH_ready (rs:=[16]) (by kernel_rfl) (by simp) ?_;refine AllReadyH.cons (o:=_) rfl (fun K hK=> ?st48_0) ?mo48_0
         case st48_0=>
          go_simp;refine hK.out _ _ ?sh48_0 (fun aD=> ?re48_0)
          case sh48_0=>((try dsimp only);(first|exact aL.out|exact aJ.out|exact aC.out|exact aA.out|exact⟨An aA.out.1 aN,An aA.out.2.1 aF,An aA.out.2.2 aF⟩|go_keep))
          clear hK K;try simp only[Act.put,Zz,Zx,Zy]
          refine wpAnyH_ready (rs:=[17]) (by kernel_rfl) (by simp) ?_;refine AllReadyH.cons (o:=_) rfl (fun K hK=> ?st49_0) ?mo49_0
          case st49_0=>
           (refine Ax _ (by rfl) (.tmp 78) _ 22 (by rfl) w4.heap.size 3 Tryz.underlying22 Bi cL (bS++ngl P y (pw P x t)) (by rfl) (by first|exact (aK.out.below aB.out).two.1|exact (aK.out.below aB.out.drew).two.1) s2 w5.heap.size (by rfl) (by exact Ba w5 [.int .i64 s2] 3 0 _ rfl) (by rw[List.length_append];have:=(show (ngl P y (pw P x t)).length=t by simp[pw,ngl]);omega) (by have:=aB.out.size;have:=bB;first|omega|(simp at*;omega)) ?_;intro g9 aW w9 aG aH aI;obtain⟨o9,bP⟩:=Fz (aK.out.below (by first|exact aB.out|exact aB.out.drew)) aH;have aA:=Zk (And.intro (aH.cell (a:=⟨F,0,none⟩) aC.out.1 (fun e=>by have:=(aK.out.two.1.lt F e.symm).1;omega)) (And.intro (aH.cell (a:=⟨X,0,none⟩) aC.out.2.1 (fun e=>aK.out.nc e.symm)) (aH.cell (a:=⟨X,1,none⟩) aC.out.2.2 (fun e=>aK.out.nc e.symm))));have aV:=Zk (Hw (f:=fun t=>ngl P y (pw P x t)) hte bU.out aK.out aT.out bO.out aF (by first|exact aB.out|exact aB.out.drew) aH aG aI);clear aG aH aI)
           refine hK.out _ _ ?sh49_0 (fun aD=> ?re49_0)
           case sh49_0=>((try dsimp only);(first|exact aL.out|exact aJ.out|exact aC.out|exact aA.out|exact⟨An aA.out.1 aN,An aA.out.2.1 aF,An aA.out.2.2 aF⟩|go_keep))
           clear hK K;try simp only[Act.put,Zz,Zx,Zy]
           refine wpAnyH_take (i:=18) (oi:=_) (v:= ?v50) rfl (by kernel_rfl) (by kernel_rfl) (by kernel_rfl) (fun _ _ _ h=>h) (Or.inl ⟨by rfl,?hy50⟩) (by assumption) ?rs50
           case hy50=>(intro w aE;(try dsimp only at aE);go_simp;all_goals with_reducible rfl)
           try simp only[Act.put,Zz,Zx,Zy]
           refine wpAnyH_ready (rs:=[19]) (by kernel_rfl) (by simp) ?_;refine AllReadyH.cons (o:=_) rfl (fun K hK=> ?st51_0) ?mo51_0
           case st51_0=>
            go_simp;refine hK.out _ _ ?sh51_0 (fun aD=> ?re51_0)
            case sh51_0=>((try dsimp only);(first|exact aL.out|exact aJ.out|exact aC.out|exact aA.out|exact⟨An aA.out.1 aN,An aA.out.2.1 aF,An aA.out.2.2 aF⟩|go_keep))
            clear hK K;try simp only[Act.put,Zz,Zx,Zy]
            refine wpAnyH_done (by kernel_rfl) ?_ _;refine NoPanic.normal ?_;go_wp2_with fail;go_roundw
            case rel=>simpa [ut,Nat.add_assoc] using aV.out
            case measure=>simp[intOf];omega
           exact AllReadyH.nil
          exact AllReadyH.nil
         exact AllReadyH.nil
        refine AllReadyH.cons (o:=_) rfl (fun K hK=> ?st47_1) ?mo47_1
        case st47_1=>
         go_simp;refine hK.out _ _ ?sh47_1 (fun aD=> ?re47_1)
         case sh47_1=>((try dsimp only);(first|exact aL.out|exact aJ.out|exact aC.out|exact aA.out|exact⟨An aA.out.1 aN,An aA.out.2.1 aF,An aA.out.2.2 aF⟩|go_keep))
         clear hK K;try simp only[Act.put,Zz,Zx,Zy]
         refine wpAnyH_ready (rs:=[1]) (by kernel_rfl) (by simp) ?_;refine AllReadyH.cons (o:=_) rfl (fun K hK=> ?st53_0) ?mo53_0
         case st53_0=>
          go_simp;refine hK.out _ _ ?sh53_0 (fun aD=> ?re53_0)
          case sh53_0=>((try dsimp only);(first|exact aL.out|exact aJ.out|exact aC.out|exact aA.out|exact⟨An aA.out.1 aN,An aA.out.2.1 aF,An aA.out.2.2 aF⟩|go_keep))
          clear hK K;try simp only[Act.put,Zz,Zx,Zy]
          refine wpAnyH_ready (rs:=[17]) (by kernel_rfl) (by simp) ?_;refine AllReadyH.cons (o:=_) rfl (fun K hK=> ?st54_0) ?mo54_0
          case st54_0=>
           (refine Ax _ (by rfl) (.tmp 78) _ 22 (by rfl) w4.heap.size 3 Tryz.underlying22 Bi cL (bS++ngl P y (pw P x t)) (by rfl) (by first|exact (aK.out.below aB.out).two.1|exact (aK.out.below aB.out.drew).two.1) s2 w5.heap.size (by rfl) (by exact Ba w5 [.int .i64 s2] 3 0 _ rfl) (by rw[List.length_append];have:=(show (ngl P y (pw P x t)).length=t by simp[pw,ngl]);omega) (by have:=aB.out.size;have:=bB;first|omega|(simp at*;omega)) ?_;intro g9 aW w9 aG aH aI;obtain⟨o9,bP⟩:=Fz (aK.out.below (by first|exact aB.out|exact aB.out.drew)) aH;have aA:=Zk (And.intro (aH.cell (a:=⟨F,0,none⟩) aC.out.1 (fun e=>by have:=(aK.out.two.1.lt F e.symm).1;omega)) (And.intro (aH.cell (a:=⟨X,0,none⟩) aC.out.2.1 (fun e=>aK.out.nc e.symm)) (aH.cell (a:=⟨X,1,none⟩) aC.out.2.2 (fun e=>aK.out.nc e.symm))));have aV:=Zk (Hw (f:=fun t=>ngl P y (pw P x t)) hte bU.out aK.out aT.out bO.out aF (by first|exact aB.out|exact aB.out.drew) aH aG aI);clear aG aH aI)
           refine hK.out _ _ ?sh54_0 (fun aD=> ?re54_0)
           case sh54_0=>((try dsimp only);(first|exact aL.out|exact aJ.out|exact aC.out|exact aA.out|exact⟨An aA.out.1 aN,An aA.out.2.1 aF,An aA.out.2.2 aF⟩|go_keep))
           clear hK K;try simp only[Act.put,Zz,Zx,Zy]
           refine wpAnyH_take (i:=18) (oi:=_) (v:= ?v55) rfl (by kernel_rfl) (by kernel_rfl) (by kernel_rfl) (fun _ _ _ h=>h) (Or.inl ⟨by rfl,?hy55⟩) (by assumption) ?rs55
           case hy55=>(intro w aE;(try dsimp only at aE);go_simp;all_goals with_reducible rfl)
           try simp only[Act.put,Zz,Zx,Zy]
           refine wpAnyH_ready (rs:=[19]) (by kernel_rfl) (by simp) ?_;refine AllReadyH.cons (o:=_) rfl (fun K hK=> ?st56_0) ?mo56_0
           case st56_0=>
            go_simp;refine hK.out _ _ ?sh56_0 (fun aD=> ?re56_0)
            case sh56_0=>((try dsimp only);(first|exact aL.out|exact aJ.out|exact aC.out|exact aA.out|exact⟨An aA.out.1 aN,An aA.out.2.1 aF,An aA.out.2.2 aF⟩|go_keep))
            clear hK K;try simp only[Act.put,Zz,Zx,Zy]
            refine wpAnyH_done (by kernel_rfl) ?_ _;refine NoPanic.normal ?_;go_wp2_with fail;go_roundw
            case rel=>simpa [ut,Nat.add_assoc] using aV.out
            case measure=>simp[intOf];omega
           exact AllReadyH.nil
          exact AllReadyH.nil
         exact AllReadyH.nil
        exact AllReadyH.nil
       exact AllReadyH.nil
      ·have dt:decide ((t:Int)<(e:Int))=false:=Zd (by omega);have eR:decide (t<e)=false:=Zd hte;have dN:t=e:=by omega
       have aM:Hid (KQ O w4.heap.size X P ((i:Int)+1) C cL cM ((bJ++pw P x (k+e))++ngl P y (pw P x e)) bL wr):=Zk (by have h9:=aK.out;rw[dN,cZ.out] at h9;exact h9);have aU:Hid (∀W,Below wr.heap.size wr W→W.cell? ⟨O,4,none⟩=some cM):=Zk (fun W hW=>(aM.out.below hW).cells.2.2)
       have o0:=aU.out wr (Zb _ _);obtain⟨s1,bC⟩:∃s1,s1=x^e%P:=⟨_,rfl⟩;have hs1:0≤s1∧s1<P:=by rw[bC];exact⟨Int.emod_nonneg _ (by omega),Int.emod_lt_of_pos _ (by omega)⟩
       have bE:=Zk bC;have fC:=Li (show 0≤y∧y≤P by omega) hs1 hP.2;have v2:IntKind.i64.wrap (y*s1)=y*s1:=by exact Zi _ (by omega)
       obtain⟨s2,bN⟩:∃s2,s2=y*s1%P:=⟨_,rfl⟩;have v3:(y*s1).tmod P=s2:=by rw[bN];exact Int.tmod_eq_emod_of_nonneg (by omega)
       have hs2:0≤s2∧s2<P:=by rw[bN];exact⟨Int.emod_nonneg _ (by omega),Int.emod_lt_of_pos _ (by omega)⟩
       have v4:IntKind.i64.wrap s2=s2:=by exact Zi _ (by omega)
       have bU:Hid (s2=y*(x^e%P)%P):=Zk (by show _=_;rw[bN,bC]);have dK:X<wr.heap.size:=Ae bO.out;clear bC bN;go_upto_region 19 with fail
       refine wp_region_noPanic ?_;refine wp_region_held_drew (S:=fun w'=>w'.cell? ⟨F,0,none⟩=some (.int .i64 P)∧w'.cell? ⟨X,0,none⟩=some (.int .i64 x)∧w'.cell? ⟨X,1,none⟩=some (.int .i64 y)) (by kernel_rfl) ?hs3 (fun aD=> ?_)
       case hs3=>((try dsimp only);(first|exact aL.out|exact aJ.out|exact aC.out|exact aA.out|exact⟨An aA.out.1 aN,An aA.out.2.1 aF,An aA.out.2.2 aF⟩|go_keep))
       try simp only[Act.put,Zz,Zx,Zy]
       refine wpAnyH_take (i:=0) (oi:=_) (v:= ?v58) rfl (by kernel_rfl) (by kernel_rfl) (by kernel_rfl) (fun _ _ _ h=>h) (Or.inl ⟨by rfl,?hy58⟩) (by assumption) ?rs58
       case hy58=>(intro w aE;(try dsimp only at aE);go_simp;all_goals with_reducible rfl)
       try simp only[Act.put,Zz,Zx,Zy]
       refine wpAnyH_take (i:=2) (oi:=_) (v:= ?v59) rfl (by kernel_rfl) (by kernel_rfl) (by kernel_rfl) (fun _ _ _ h=>h) (Or.inl ⟨by rfl,?hy59⟩) (by assumption) ?rs59
       case hy59=>(intro w aE;(try dsimp only at aE);go_simp;all_goals with_reducible rfl)
       try simp only[Act.put,Zz,Zx,Zy]
       refine wpAnyH_take (i:=3) (oi:=_) (v:= ?v60) rfl (by kernel_rfl) (by kernel_rfl) (by kernel_rfl) (fun _ _ _ h=>h) (Or.inl ⟨by rfl,?hy60⟩) (by assumption) ?rs60
       case hy60=>(intro w aE;(try dsimp only at aE);go_simp;all_goals with_reducible rfl)
       try simp only[Act.put,Zz,Zx,Zy]
       refine wpAnyH_take (i:=4) (oi:=_) (v:= ?v61) rfl (by kernel_rfl) (by kernel_rfl) (by kernel_rfl) (fun _ _ _ h=>h) (Or.inl ⟨by rfl,?hy61⟩) (by assumption) ?rs61
       case hy61=>(intro w aE;(try dsimp only at aE);go_simp;all_goals with_reducible rfl)
       try simp only[Act.put,Zz,Zx,Zy]
       refine wpAnyH_take (i:=5) (oi:=_) (v:= ?v62) rfl (by kernel_rfl) (by kernel_rfl) (by kernel_rfl) (fun _ _ _ h=>h) (Or.inl ⟨by rfl,?hy62⟩) (by assumption) ?rs62
       case hy62=>(intro w aE;(try dsimp only at aE);go_simp;all_goals with_reducible rfl)
       try simp only[Act.put,Zz,Zx,Zy]
       refine wpAnyH_take (i:=6) (oi:=_) (v:= ?v63) rfl (by kernel_rfl) (by kernel_rfl) (by kernel_rfl) (fun _ _ _ h=>h) (Or.inl ⟨by rfl,?hy63⟩) (by assumption) ?rs63
       case hy63=>(intro w aE;(try dsimp only at aE);go_simp;all_goals with_reducible rfl)
       try simp only[Act.put,Zz,Zx,Zy]
       refine wpAnyH_take (i:=7) (oi:=_) (v:= ?v64) rfl (by kernel_rfl) (by kernel_rfl) (by kernel_rfl) (fun _ _ _ h=>h) (Or.inl ⟨by rfl,?hy64⟩) (by assumption) ?rs64
       case hy64=>(intro w aE;(try dsimp only at aE);go_simp;all_goals with_reducible rfl)
       try simp only[Act.put,Zz,Zx,Zy]
       refine wpAnyH_take (i:=10) (oi:=_) (v:= ?v65) rfl (by kernel_rfl) (by kernel_rfl) (by kernel_rfl) (fun _ _ _ h=>h) (Or.inl ⟨by rfl,?hy65⟩) (by assumption) ?rs65
       case hy65=>(intro w aE;(try dsimp only at aE);go_simp;all_goals with_reducible rfl)
       try simp only[Act.put,Zz,Zx,Zy]
       refine wpAnyH_take (i:=11) (oi:=_) (v:= ?v66) rfl (by kernel_rfl) (by kernel_rfl) (by kernel_rfl) (fun _ _ _ h=>h) (Or.inl ⟨by rfl,?hy66⟩) (by assumption) ?rs66
       case hy66=>(intro w aE;(try dsimp only at aE);go_simp;all_goals with_reducible rfl)
       try simp only[Act.put,Zz,Zx,Zy]
       refine wpAnyH_ready (rs:=[1,8]) (by kernel_rfl) (by simp) ?_;refine AllReadyH.cons (o:=_) rfl (fun K hK=> ?st67_0) ?mo67_0
       case st67_0=>
        go_simp;refine hK.out _ _ ?sh67_0 (fun aD=> ?re67_0)
        case sh67_0=>((try dsimp only);(first|exact aL.out|exact aJ.out|exact aC.out|exact aA.out|exact⟨An aA.out.1 aN,An aA.out.2.1 aF,An aA.out.2.2 aF⟩|go_keep))
        clear hK K;try simp only[Act.put,Zz,Zx,Zy]
        refine wpAnyH_ready (rs:=[8]) (by kernel_rfl) (by simp) ?_;refine AllReadyH.cons (o:=_) rfl (fun K hK=> ?st68_0) ?mo68_0
        case st68_0=>
         (go_simp;go_at_call 63;refine (En P x e _ hP hx (by omega)).mono ?_;rintro e9 w5 ⟨rfl,aP⟩;rw[←bE.out];have aQ:Hid (Below wr.heap.size wr w5):=Zk (⟨aP.os,aP.tape,aP.output,aP.size,aP.block⟩);have aJ:=Zk (aS.out w5 aQ.out);have aB:=Zk (aQ.out.alloc aQ.out.size (.cells #[.int .i64 s2] 3));have aC:=Zk (aS.out _ aB.out);have o5:=aU.out w5 aQ.out;have cJ:=aU.out _ aB.out;clear aP)
         go_wp2_with fail;refine hK.out _ _ ?sh68_0 (fun aD=> ?re68_0)
         case sh68_0=>((try dsimp only);(first|exact aL.out|exact aJ.out|exact aC.out|exact aA.out|exact⟨An aA.out.1 aN,An aA.out.2.1 aF,An aA.out.2.2 aF⟩|go_keep))
         clear hK K;try simp only[Act.put,Zz,Zx,Zy]
         refine wpAnyH_take (i:=9) (oi:=_) (v:= ?v69) rfl (by kernel_rfl) (by kernel_rfl) (by kernel_rfl) (fun _ _ _ h=>h) (Or.inl ⟨by rfl,?hy69⟩) (by assumption) ?rs69
         case hy69=>(intro w aE;(try dsimp only at aE);go_simp;all_goals with_reducible rfl)
         try simp only[Act.put,Zz,Zx,Zy]
         refine wpAnyH_take (i:=12) (oi:=_) (v:= ?v70) rfl (by kernel_rfl) (by kernel_rfl) (by kernel_rfl) (fun _ _ _ h=>h) (Or.inl ⟨by rfl,?hy70⟩) (by assumption) ?rs70
         case hy70=>(intro w aE;(try dsimp only at aE);go_simp;all_goals with_reducible rfl)
         try simp only[Act.put,Zz,Zx,Zy]
         refine wpAnyH_ready (rs:=[13]) (by kernel_rfl) (by simp) ?_;refine AllReadyH.cons (o:=_) rfl (fun K hK=> ?st71_0) ?mo71_0
         case st71_0=>
          go_simp;refine hK.out _ _ ?sh71_0 (fun aD=> ?re71_0)
          case sh71_0=>((try dsimp only);(first|exact aL.out|exact aJ.out|exact aC.out|exact aA.out|exact⟨An aA.out.1 aN,An aA.out.2.1 aF,An aA.out.2.2 aF⟩|go_keep))
          clear hK K;try simp only[Act.put,Zz,Zx,Zy]
          refine wpAnyH_ready (rs:=[14]) (by kernel_rfl) (by simp) ?_;refine AllReadyH.cons (o:=_) rfl (fun K hK=> ?st72_0) ?mo72_0
          case st72_0=>
           (refine Ax _ (by rfl) (.tmp 97) _ 22 (by rfl) w4.heap.size 3 Tryz.underlying22 Bi cM bL (by rfl) (by first|exact (aM.out.below aB.out).two.2.1|exact (aM.out.below aB.out.drew).two.2.1) s2 w5.heap.size (by rfl) (by exact Ba w5 [.int .i64 s2] 3 0 _ rfl) (by omega) (by have:=aB.out.size;have:=bB;first|omega|(simp at*;omega)) ?_;intro g9 aW w9 aG aH aI;obtain⟨o9,bP⟩:=Ke (aM.out.below (by first|exact aB.out|exact aB.out.drew)) aH;have aA:=Zk (And.intro (aH.cell (a:=⟨F,0,none⟩) aC.out.1 (fun e=>by have:=(aM.out.two.2.1.lt F e.symm).1;omega)) (And.intro (aH.cell (a:=⟨X,0,none⟩) aC.out.2.1 (fun e=>aM.out.nr e.symm)) (aH.cell (a:=⟨X,1,none⟩) aC.out.2.2 (fun e=>aM.out.nr e.symm))));have aV:=Zk (Mg bX bW.out cY.out dF.out bU.out aM.out aT.out dK (by first|exact aB.out|exact aB.out.drew) aH aG aI);clear aG aH aI)
           refine hK.out _ _ ?sh72_0 (fun aD=> ?re72_0)
           case sh72_0=>((try dsimp only);(first|exact aL.out|exact aJ.out|exact aC.out|exact aA.out|exact⟨An aA.out.1 aN,An aA.out.2.1 aF,An aA.out.2.2 aF⟩|go_keep))
           clear hK K;try simp only[Act.put,Zz,Zx,Zy]
           refine wpAnyH_take (i:=15) (oi:=_) (v:= ?v73) rfl (by kernel_rfl) (by kernel_rfl) (by kernel_rfl) (fun _ _ _ h=>h) (Or.inl ⟨by rfl,?hy73⟩) (by assumption) ?rs73
           case hy73=>(intro w aE;(try dsimp only at aE);go_simp;all_goals with_reducible rfl)
           try simp only[Act.put,Zz,Zx,Zy]
           refine wpAnyH_ready (rs:=[16]) (by kernel_rfl) (by simp) ?_;refine AllReadyH.cons (o:=_) rfl (fun K hK=> ?st74_0) ?mo74_0
           case st74_0=>
            go_simp;refine hK.out _ _ ?sh74_0 (fun aD=> ?re74_0)
            case sh74_0=>((try dsimp only);(first|exact aL.out|exact aJ.out|exact aC.out|exact aA.out|exact⟨An aA.out.1 aN,An aA.out.2.1 aF,An aA.out.2.2 aF⟩|go_keep))
            clear hK K;try simp only[Act.put,Zz,Zx,Zy]
            refine wpAnyH_done (by kernel_rfl) ?_ _;refine NoPanic.normal ?_;go_wp2_with fail;go_roundw
            case rel=>simpa [u1,Nat.add_assoc] using aV.out
            case measure=>simp[intOf];omega
           exact AllReadyH.nil
          exact AllReadyH.nil
         exact AllReadyH.nil
        exact AllReadyH.nil
       refine AllReadyH.cons (o:=_) rfl (fun K hK=> ?st67_1) ?mo67_1
       case st67_1=>
        (go_simp;go_at_call 63;refine (En P x e _ hP hx (by omega)).mono ?_;rintro e9 w5 ⟨rfl,aP⟩;rw[←bE.out];have aQ:Hid (Below wr.heap.size wr w5):=Zk (⟨aP.os,aP.tape,aP.output,aP.size,aP.block⟩);have aJ:=Zk (aS.out w5 aQ.out);have aB:=Zk (aQ.out.alloc aQ.out.size (.cells #[.int .i64 s2] 3));have aC:=Zk (aS.out _ aB.out);have o5:=aU.out w5 aQ.out;have cJ:=aU.out _ aB.out;clear aP)
        go_wp2_with fail;refine hK.out _ _ ?sh67_1 (fun aD=> ?re67_1)
        case sh67_1=>((try dsimp only);(first|exact aL.out|exact aJ.out|exact aC.out|exact aA.out|exact⟨An aA.out.1 aN,An aA.out.2.1 aF,An aA.out.2.2 aF⟩|go_keep))
        clear hK K;try simp only[Act.put,Zz,Zx,Zy]
        refine wpAnyH_take (i:=9) (oi:=_) (v:= ?v76) rfl (by kernel_rfl) (by kernel_rfl) (by kernel_rfl) (fun _ _ _ h=>h) (Or.inl ⟨by rfl,?hy76⟩) (by assumption) ?rs76
        case hy76=>(intro w aE;(try dsimp only at aE);go_simp;all_goals with_reducible rfl)
        try simp only[Act.put,Zz,Zx,Zy]
        refine wpAnyH_take (i:=12) (oi:=_) (v:= ?v77) rfl (by kernel_rfl) (by kernel_rfl) (by kernel_rfl) (fun _ _ _ h=>h) (Or.inl ⟨by rfl,?hy77⟩) (by assumption) ?rs77
        case hy77=>(intro w aE;(try dsimp only at aE);go_simp;all_goals with_reducible rfl)
        try simp only[Act.put,Zz,Zx,Zy]
        refine wpAnyH_ready (rs:=[1,13]) (by kernel_rfl) (by simp) ?_;refine AllReadyH.cons (o:=_) rfl (fun K hK=> ?st78_0) ?mo78_0
        case st78_0=>
         go_simp;refine hK.out _ _ ?sh78_0 (fun aD=> ?re78_0)
         case sh78_0=>((try dsimp only);(first|exact aL.out|exact aJ.out|exact aC.out|exact aA.out|exact⟨An aA.out.1 aN,An aA.out.2.1 aF,An aA.out.2.2 aF⟩|go_keep))
         clear hK K;try simp only[Act.put,Zz,Zx,Zy]
         refine wpAnyH_ready (rs:=[13]) (by kernel_rfl) (by simp) ?_;refine AllReadyH.cons (o:=_) rfl (fun K hK=> ?st79_0) ?mo79_0
         case st79_0=>
          go_simp;refine hK.out _ _ ?sh79_0 (fun aD=> ?re79_0)
          case sh79_0=>((try dsimp only);(first|exact aL.out|exact aJ.out|exact aC.out|exact aA.out|exact⟨An aA.out.1 aN,An aA.out.2.1 aF,An aA.out.2.2 aF⟩|go_keep))
          clear hK K;try simp only[Act.put,Zz,Zx,Zy]
          refine wpAnyH_ready (rs:=[14]) (by kernel_rfl) (by simp) ?_;refine AllReadyH.cons (o:=_) rfl (fun K hK=> ?st80_0) ?mo80_0
          case st80_0=>
           (refine Ax _ (by rfl) (.tmp 97) _ 22 (by rfl) w4.heap.size 3 Tryz.underlying22 Bi cM bL (by rfl) (by first|exact (aM.out.below aB.out).two.2.1|exact (aM.out.below aB.out.drew).two.2.1) s2 w5.heap.size (by rfl) (by exact Ba w5 [.int .i64 s2] 3 0 _ rfl) (by omega) (by have:=aB.out.size;have:=bB;first|omega|(simp at*;omega)) ?_;intro g9 aW w9 aG aH aI;obtain⟨o9,bP⟩:=Ke (aM.out.below (by first|exact aB.out|exact aB.out.drew)) aH;have aA:=Zk (And.intro (aH.cell (a:=⟨F,0,none⟩) aC.out.1 (fun e=>by have:=(aM.out.two.2.1.lt F e.symm).1;omega)) (And.intro (aH.cell (a:=⟨X,0,none⟩) aC.out.2.1 (fun e=>aM.out.nr e.symm)) (aH.cell (a:=⟨X,1,none⟩) aC.out.2.2 (fun e=>aM.out.nr e.symm))));have aV:=Zk (Mg bX bW.out cY.out dF.out bU.out aM.out aT.out dK (by first|exact aB.out|exact aB.out.drew) aH aG aI);clear aG aH aI)
           refine hK.out _ _ ?sh80_0 (fun aD=> ?re80_0)
           case sh80_0=>((try dsimp only);(first|exact aL.out|exact aJ.out|exact aC.out|exact aA.out|exact⟨An aA.out.1 aN,An aA.out.2.1 aF,An aA.out.2.2 aF⟩|go_keep))
           clear hK K;try simp only[Act.put,Zz,Zx,Zy]
           refine wpAnyH_take (i:=15) (oi:=_) (v:= ?v81) rfl (by kernel_rfl) (by kernel_rfl) (by kernel_rfl) (fun _ _ _ h=>h) (Or.inl ⟨by rfl,?hy81⟩) (by assumption) ?rs81
           case hy81=>(intro w aE;(try dsimp only at aE);go_simp;all_goals with_reducible rfl)
           try simp only[Act.put,Zz,Zx,Zy]
           refine wpAnyH_ready (rs:=[16]) (by kernel_rfl) (by simp) ?_;refine AllReadyH.cons (o:=_) rfl (fun K hK=> ?st82_0) ?mo82_0
           case st82_0=>
            go_simp;refine hK.out _ _ ?sh82_0 (fun aD=> ?re82_0)
            case sh82_0=>((try dsimp only);(first|exact aL.out|exact aJ.out|exact aC.out|exact aA.out|exact⟨An aA.out.1 aN,An aA.out.2.1 aF,An aA.out.2.2 aF⟩|go_keep))
            clear hK K;try simp only[Act.put,Zz,Zx,Zy]
            refine wpAnyH_done (by kernel_rfl) ?_ _;refine NoPanic.normal ?_;go_wp2_with fail;go_roundw
            case rel=>simpa [u1,Nat.add_assoc] using aV.out
            case measure=>simp[intOf];omega
           exact AllReadyH.nil
          exact AllReadyH.nil
         exact AllReadyH.nil
        refine AllReadyH.cons (o:=_) rfl (fun K hK=> ?st78_1) ?mo78_1
        case st78_1=>
         go_simp;refine hK.out _ _ ?sh78_1 (fun aD=> ?re78_1)
         case sh78_1=>((try dsimp only);(first|exact aL.out|exact aJ.out|exact aC.out|exact aA.out|exact⟨An aA.out.1 aN,An aA.out.2.1 aF,An aA.out.2.2 aF⟩|go_keep))
         clear hK K;try simp only[Act.put,Zz,Zx,Zy]
         refine wpAnyH_ready (rs:=[1]) (by kernel_rfl) (by simp) ?_;refine AllReadyH.cons (o:=_) rfl (fun K hK=> ?st84_0) ?mo84_0
         case st84_0=>
          go_simp;refine hK.out _ _ ?sh84_0 (fun aD=> ?re84_0)
          case sh84_0=>((try dsimp only);(first|exact aL.out|exact aJ.out|exact aC.out|exact aA.out|exact⟨An aA.out.1 aN,An aA.out.2.1 aF,An aA.out.2.2 aF⟩|go_keep))
          clear hK K;try simp only[Act.put,Zz,Zx,Zy]
          refine wpAnyH_ready (rs:=[14]) (by kernel_rfl) (by simp) ?_;refine AllReadyH.cons (o:=_) rfl (fun K hK=> ?st85_0) ?mo85_0
          case st85_0=>
           (refine Ax _ (by rfl) (.tmp 97) _ 22 (by rfl) w4.heap.size 3 Tryz.underlying22 Bi cM bL (by rfl) (by first|exact (aM.out.below aB.out).two.2.1|exact (aM.out.below aB.out.drew).two.2.1) s2 w5.heap.size (by rfl) (by exact Ba w5 [.int .i64 s2] 3 0 _ rfl) (by omega) (by have:=aB.out.size;have:=bB;first|omega|(simp at*;omega)) ?_;intro g9 aW w9 aG aH aI;obtain⟨o9,bP⟩:=Ke (aM.out.below (by first|exact aB.out|exact aB.out.drew)) aH;have aA:=Zk (And.intro (aH.cell (a:=⟨F,0,none⟩) aC.out.1 (fun e=>by have:=(aM.out.two.2.1.lt F e.symm).1;omega)) (And.intro (aH.cell (a:=⟨X,0,none⟩) aC.out.2.1 (fun e=>aM.out.nr e.symm)) (aH.cell (a:=⟨X,1,none⟩) aC.out.2.2 (fun e=>aM.out.nr e.symm))));have aV:=Zk (Mg bX bW.out cY.out dF.out bU.out aM.out aT.out dK (by first|exact aB.out|exact aB.out.drew) aH aG aI);clear aG aH aI)
           refine hK.out _ _ ?sh85_0 (fun aD=> ?re85_0)
           case sh85_0=>((try dsimp only);(first|exact aL.out|exact aJ.out|exact aC.out|exact aA.out|exact⟨An aA.out.1 aN,An aA.out.2.1 aF,An aA.out.2.2 aF⟩|go_keep))
           clear hK K;try simp only[Act.put,Zz,Zx,Zy]
           refine wpAnyH_take (i:=15) (oi:=_) (v:= ?v86) rfl (by kernel_rfl) (by kernel_rfl) (by kernel_rfl) (fun _ _ _ h=>h) (Or.inl ⟨by rfl,?hy86⟩) (by assumption) ?rs86
           case hy86=>(intro w aE;(try dsimp only at aE);go_simp;all_goals with_reducible rfl)
           try simp only[Act.put,Zz,Zx,Zy]
           refine wpAnyH_ready (rs:=[16]) (by kernel_rfl) (by simp) ?_;refine AllReadyH.cons (o:=_) rfl (fun K hK=> ?st87_0) ?mo87_0
           case st87_0=>
            go_simp;refine hK.out _ _ ?sh87_0 (fun aD=> ?re87_0)
            case sh87_0=>((try dsimp only);(first|exact aL.out|exact aJ.out|exact aC.out|exact aA.out|exact⟨An aA.out.1 aN,An aA.out.2.1 aF,An aA.out.2.2 aF⟩|go_keep))
            clear hK K;try simp only[Act.put,Zz,Zx,Zy]
            refine wpAnyH_done (by kernel_rfl) ?_ _;refine NoPanic.normal ?_;go_wp2_with fail;go_roundw
            case rel=>simpa [u1,Nat.add_assoc] using aV.out
            case measure=>simp[intOf];omega
           exact AllReadyH.nil
          exact AllReadyH.nil
         exact AllReadyH.nil
        exact AllReadyH.nil
       exact AllReadyH.nil
  ·have di:decide ((i:Int)<(K:Int))=false:=Zd (by omega);have eQ:decide (i<K)=false:=Zd hiK;obtain rfl:i=K:=by omega
   have aR:=dE.out;rw[List.take_of_length_le (by rw[←HK.out];exact Zl _)] at aR;obtain⟨Ac,cc,cR⟩:=Ch aR.two.1;obtain⟨Ar,cr,cS⟩:=Ch aR.two.2.1;obtain⟨Lc,dU⟩:∃L,L=(kcl P (k+e) e (kn l)).length:=⟨_,rfl⟩;obtain⟨Lr,dV⟩:∃L,L=(krl P e (kn l)).length:=⟨_,rfl⟩;rw[←dU] at cR;rw[←dV] at cS;have HQ:=Zk aR;have cV:Below w1.heap.size w1 wr:=cB.out wr cO.out;have eH:=Zk cV;obtain⟨f0,g0,g1,g2,g3,g4⟩:=cE.out wr cV;have bQ:F+1<w1.heap.size:=Ae aZ.out;have aX:=(cV.block (F+1) bQ).trans aZ.out;have ff0:=Zf wr (F+1) 0 _ _ aX;have ff1:=Zf wr (F+1) 1 _ _ aX;have ff2:=Zf wr (F+1) 2 _ _ aX;have ff3:=Zf wr (F+1) 3 _ _ aX;have ff4:=Zf wr (F+1) 4 _ _ aX;have p0:=Zc wr O 0 _ _ _ aR.box;have p1:=Zc wr O 1 _ _ _ aR.box;have p2:=Zc wr O 2 _ _ _ aR.box;have p3:=Zc wr O 3 _ _ _ aR.box;have p4:=Zc wr O 4 _ _ _ aR.box;have dA:=Zk cR;have dB:=Zk cS;rw[cR] at p3;rw[cS] at p4;have dG:=Zk aX;clear aR aX cV o1 cU cR cS dU dV;go_wp2_with fail;have hE:=zDq (a:= .int .i64 P) (b:= .int .i64 i) (c:= .int .i64 C) (d:= .slice Ac Lc cc) (e:= .slice Ar Lr cr) dG.out;have dW:=(((((bD.out.trans (eH.out.mono bD.out.size)).setCell (p:=⟨F+1,0,none⟩) (by show _≤F+1;omega) (.int .i64 P)).setCell (p:=⟨F+1,1,none⟩) (by show _≤F+1;omega) (.int .i64 i)).setCell (p:=⟨F+1,2,none⟩) (by show _≤F+1;omega) (.int .i64 C)).setCell (p:=⟨F+1,3,none⟩) (by show _≤F+1;omega) (.slice Ac Lc cc)).setCell (p:=⟨F+1,4,none⟩) (by show _≤F+1;omega) (.slice Ar Lr cr);have bI:F+1<w4.heap.size:=Nat.lt_of_lt_of_le bQ bK.out.size;have hs1:=Az (p:=⟨F+1,4,none⟩) (u:= .slice Ar Lr cr) (Az (p:=⟨F+1,3,none⟩) (u:= .slice Ac Lc cc) (Az (p:=⟨F+1,2,none⟩) (u:= .int .i64 C) (Az (p:=⟨F+1,1,none⟩) (u:= .int .i64 i) (Az (p:=⟨F+1,0,none⟩) (u:= .int .i64 P) HQ.out.two.1 bI) bI) bI) bI) bI;have hs2:=Az (p:=⟨F+1,4,none⟩) (u:= .slice Ar Lr cr) (Az (p:=⟨F+1,3,none⟩) (u:= .slice Ac Lc cc) (Az (p:=⟨F+1,2,none⟩) (u:= .int .i64 C) (Az (p:=⟨F+1,1,none⟩) (u:= .int .i64 i) (Az (p:=⟨F+1,0,none⟩) (u:= .int .i64 P) HQ.out.two.2.1 bI) bI) bI) bI) bI;rw[dA.out] at hs1;rw[dB.out] at hs2;generalize (((((wr.setCell ⟨F+1,0,none⟩ (.int .i64 P)).setCell ⟨F+1,1,none⟩ (.int .i64 i)).setCell ⟨F+1,2,none⟩ (.int .i64 C)).setCell ⟨F+1,3,none⟩ (.slice Ac Lc cc)).setCell ⟨F+1,4,none⟩ (.slice Ar Lr cr))=wE at hE dW hs1 hs2⊢;have q0:=Zc wE (F+1) 0 _ _ _ hE;have q1:=Zc wE (F+1) 1 _ _ _ hE;have q2:=Zc wE (F+1) 2 _ _ _ hE;have q3:=Zc wE (F+1) 3 _ _ _ hE;have q4:=Zc wE (F+1) 4 _ _ _ hE;simp at q0 q1 q2 q3 q4;refine bodyPost_ret (v:= .tuple #[.agg #[.int .i64 P,.int .i64 i,.int .i64 C,.slice Ac Lc cc,.slice Ar Lr cr],.int .i64 0]) (by simp[results,Tryz.results109,go_sem,q0,q1,q2,q3,q4]) rfl ?_;refine⟨_,_,?_,dW,SI.of_own hs1 (Ci hP.2 (Jk hP.1 _ _ _)),SI.of_own hs2 (Ci hP.2 (Jm hP.1 _ _))⟩;have eU:((k+e+e:Nat):Int)=C:=by rw[eI.out];omega
   rw[←HK.out,eU]
open Go.RowKit Go.Shelf
def RcP(P:Int)(l:List (Int×Bool))(k:Int)(w:World)(en:Ending)(w':World):Prop:=
 ∃(er:Int) (v1 v2:Value) (p q:List Int),en= .returned (.tuple #[.agg #[v1,v2],.int .i64 er])∧Below w.heap.size w w'∧UnR P l k p er∧
  w'.ownsRow w.heap.size 3 1 v1 p.length (p.map (Value.int .i64))∧w'.ownsRow w.heap.size 3 1 v2 q.length (q.map (Value.int .i64))∧(er=0→q=wrg P l p)
theorem Lz{w:World}{G:Nat}{T:TypeId}{c0 c1 a b:Value}(h:w.heap[G]? =some (.cells #[c0,c1] T (0,0))):
  ((w.setCell ⟨G,0,none⟩ a).setCell ⟨G,1,none⟩ b).heap[G]? =some (.cells #[a,b] T (0,0)):=by
 have h1:(w.setCell ⟨G,0,none⟩ a).heap[G]? =some (.cells #[a,c1] T (0,0)):=by rw[heap_setCell_same w G 0 _ _ _ h];simp
 rw[heap_setCell_same _ G 1 _ _ _ h1];simp
theorem Ww(l:List Int){y:Int}(h:y≠0):Bf (l++[y])=l++[y]:=by
 induction l with
 |nil=>simp[Bf,h]
 |cons c l ih=>
  show Bf (c::(l++[y]))=_;rw[Cp,ih,if_neg (by simp)];rfl
theorem zEh{P:Int}{p:List Int}(h:prB P=true)(he:els P p=true)(hl:p.length≤512):opE P [p]=0:=by
 unfold opE;rw[if_neg (by rw[h];simp),if_neg (by simp[he]),if_neg];simp[Dl];omega
theorem zCb{P:Int}{l:List (Int×Bool)}(p:List Int):(wrg P l p).length≤(kn l).length:=by
 unfold wrg wrk;rw[List.length_map];exact List.length_filter_le _ _
theorem zBh(P:Int)(l:List (Int×Bool))(k:Int)(v:Value)(w:World)(hPi:At P)(h:SCl w v l)(hz:l.length≤1000000):
  Calls Tryz.prog 90 #[.agg #[.int .i64 P],v,.int .i64 k] w (RcP P l k w):=by
 have HS:=Zk h;obtain⟨A,c,rfl⟩:=h.form;have HZ:=Zk hz;obtain⟨n,en⟩:∃n,n=l.length:=⟨_,rfl⟩;rw[←en] at HS⊢;have HN:=Zk en;clear h hz en;go_enter Tryz.func90,Tryz.ntmps90;obtain⟨F,eF⟩:∃F,F=w.heap.size:=⟨_,rfl⟩;obtain⟨w1,bY⟩:∃w1:World,w1=(w.alloc (.cells #[.int .i64 P] 31)).alloc (.cells #[.slice none 0 0,.slice none 0 0] 135):=⟨_,rfl⟩;have cY:Hid ((w.alloc (.cells #[.int .i64 P] 31)).alloc (.cells #[.slice none 0 0,.slice none 0 0] 135)=w1):=bY.symm;have aB:Hid (Below w.heap.size w w1):=Zk (by rw[bY];exact ((Zb _ w).alloc (Zl _) _).alloc (by simp) _);have aU:Hid (w1.heap[F]? =some (.cells #[.int .i64 P] 31 (0,0))):=Zk (by show _=_;rw[bY,eF,Below.heap_alloc _ _ _ (by simp)];exact Zh w _);have aC:Hid (w1.heap[F+1]? =some (.cells #[.slice none 0 0,.slice none 0 0] 135 (0,0))):=Zk (by show _=_;rw[bY,eF];have:=Zh (w.alloc (.cells #[.int .i64 P] 31)) (.cells #[.slice none 0 0,.slice none 0 0] 135);simpa using this);have hFw:w.heap.size≤F:=by omega
 have aO:Hid (∀W,Below w1.heap.size w1 W→W.cell? ⟨F,0,none⟩=some (.int .i64 P)∧W.cell? ⟨F+1,0,none⟩=some (.slice none 0 0)∧W.cell? ⟨F+1,1,none⟩=some (.slice none 0 0)):=Zk (fun W hg=>by
  have gA:=(hg.block F (Ae aU.out)).trans aU.out;have aV:=(hg.block (F+1) (Ae aC.out)).trans aC.out;exact⟨Zc W F 0 _ _ _ gA,Zc W (F+1) 0 _ _ _ aV,Zc W (F+1) 1 _ _ _ aV⟩)
 go_upto_region 1 with fail
 rw[cY.out,←eF];clear bY eF;obtain⟨f0,z0,z1⟩:=aO.out w1 (Zb _ _);go_wp2_with fail;(with_reducible refine (Wo P l k _ w1 hPi (HS.out.below aB.out) HZ.out).mono ?_)
 rintro e w2 ⟨v2,rfl,eI⟩;have bI:Hid (Below w1.heap.size w1 w2):=Zk (eI);clear eI f0 z0 z1;obtain⟨f0,z0,z1⟩:=aO.out w2 bI.out;obtain⟨fe,bX⟩:∃fe,fe=fiE P l k:=⟨_,rfl⟩;rw[←bX];have aV:F+1<w1.heap.size:=Ae aC.out;have aA:=(bI.out.block (F+1) aV).trans aC.out;have bZ:=Zf w2 (F+1) 0 _ _ aA;have cA:=Zf w2 (F+1) 1 _ _ aA;by_cases hf0:fe=0
 ·subst hf0;have bK:fiE P l k=0:=bX.symm;obtain⟨hp,hz32,gF,bF,gC,gE⟩:=Ld bK;have eM:ceE P l=0:=by
   unfold fiE at bK;by_cases hc:ceE P l=0
   ·exact hc
   ·rw[if_neg hc] at bK;exact bK
  obtain⟨kk,fR⟩:∃kk:Nat,k=(kk:Int):=⟨k.toNat,by omega⟩;subst fR;have dP:=Zk eM;have cL:=Zk bK;have bQ:=Zk aA;have gD:(kn l).length≤l.length:=Ft l 0;have cG:1≤kk:=by omega
  have cH:kk≤(kn l).length:=by omega
  clear aA bX bK eM gC gE;have fH:Hid (SCl w2 (.slice A n c) l):=Zk (HS.out.below (aB.out.trans (bI.out.mono aB.out.size)));go_wp2_with fail;(with_reducible refine (Gr l _ w2 fH.out HZ.out).mono ?_)
  rintro e w3 ⟨v3,rfl,aX,eJ⟩;obtain⟨K,eK⟩:∃K,K=(kn l).length:=⟨_,rfl⟩;obtain⟨A3,c3,fU⟩:=Ch aX;subst fU;rw[←eK] at cH gD⊢;have HK:=Zk eK;have cT:=Zk eJ;clear aX eJ eK;go_wp2_with fail;(with_reducible refine (Rj K kk w3 cG cH (by omega)).mono ?_)
  rintro e9 w9 ⟨rfl,rfl⟩;obtain⟨e,ee⟩:∃e,e=(K-kk)/2:=⟨_,rfl⟩;rw[←ee];have hke:kk+2*e≤K:=by omega
  have dS:=Zk ee;clear ee;have aP:Hid (Below w1.heap.size w1 w3):=Zk (bI.out.trans (cT.out.mono bI.out.size));have fI:Hid (SCl w3 (.slice A n c) l):=Zk (HS.out.below (aB.out.trans (aP.out.mono aB.out.size)));clear f0 z0 z1;obtain⟨f0,z0,z1⟩:=aO.out w3 aP.out;have cC:Calls Tryz.prog 109 #[.agg #[.int .i64 P],.slice A n c,.int .i64 kk,.int .i64 e] w3 (KeP P (kk+e) e (kn l) w3):=zBj P l kk e _ w3 fI.out dP.out cG (by omega) (by omega) (by rw[←HK.out];omega);have cV:=Zk cC;clear cC;go_wp2_with fail;(with_reducible refine cV.out.mono ?_)
  rintro e9 w4 ⟨vc,vr,rfl,dC,dK,dL⟩;have HB34:=Zk dC;have aQ:Hid (Below w1.heap.size w1 w4):=Zk (aP.out.trans (dC.mono aP.out.size));obtain⟨Ac,cc,fX⟩:=dK.form;obtain⟨Ar,cr,fY⟩:=dL.form;subst fX fY;have cD:∀W,Below w4.heap.size w4 W→Calls Tryz.prog 110 #[.agg #[.int .i64 P,.int .i64 K,.int .i64 ((kk+e+e:Nat):Int),.slice Ac (kcl P (kk+e) e (kn l)).length cc,.slice Ar (krl P e (kn l)).length cr]] W (SoP P K (kk+e+e) (kcl P (kk+e) e (kn l)) (krl P e (kn l)) W):=fun W hW=>
   Tk P K (kk+e+e) _ _ _ _ W hp (by omega) (by omega) (by omega) (by omega) (by rw[Lg,←HK.out]) (by rw[Jn,←HK.out]) (Jk (Bj hp).1 _ _ _) (Jm (Bj hp).1 _ _) (dK.below hW) (dL.below hW)
  have bS:=Zk cD;rw[←HK.out];obtain⟨nc,eD⟩:∃nc,nc=(kcl P (kk+e) e (kn l)).length:=⟨_,rfl⟩;obtain⟨nr,eE⟩:∃nr,nr=(krl P e (kn l)).length:=⟨_,rfl⟩;obtain⟨C,eC⟩:∃C,C=kk+e+e:=⟨_,rfl⟩;rw[←eD,←eE,←eC] at bS⊢;have HC:=Zk eC;clear dK dL cD eD eE eC dC f0 z0 z1;obtain⟨f0,z0,z1⟩:=aO.out w4 aQ.out;obtain⟨w5,dB⟩:∃w5:World,w5=w4.alloc (.cells #[.int .i64 P,.int .i64 K,.int .i64 C,.slice Ac nc cc,.slice Ar nr cr] 162):=⟨_,rfl⟩;have bA:Hid (Below w4.heap.size w4 w5):=Zk (by rw[dB];exact (Zb _ w4).alloc (Zl _) _);have fM:Hid (w4.alloc (.cells #[.int .i64 P,.int .i64 K,.int .i64 C,.slice Ac nc cc,.slice Ar nr cr] 162)=w5):=dB.symm;clear dB;go_wp2_with fail;rw[fM.out];(with_reducible refine (bS.out w5 bA.out).mono ?_)
  rintro e9 w6 ⟨er,v6,x,rfl,eL,aW⟩;have aJ:Hid (Below w1.heap.size w1 w6):=Zk ((aQ.out.trans (bA.out.mono aQ.out.size)).trans (eL.mono (Nat.le_trans aQ.out.size bA.out.size)));clear eL f0 z0 z1;obtain⟨f0,z0,z1⟩:=aO.out w6 aJ.out;have aA:=(aJ.out.block (F+1) aV).trans aC.out;have bZ:=Zf w6 (F+1) 0 _ _ aA;have cA:=Zf w6 (F+1) 1 _ _ aA;have bR:=Zk aA;clear aA;have aT:=Zk aW;clear aW;rcases aT.out with⟨dE,cR,dF,cK⟩|⟨dE,gG,eT⟩
  ·subst dE;have cE:Sol P (kn l) (kk+e) e x:=by rw[HK.out,HC.out] at cR;exact Mu.1 cR
   have cS:x.length=C:=cR.1;rw[cS] at cK;obtain⟨gx,cx,fV,dI,dJ⟩:=Dg cK (by have:=HC.out;omega);subst fV;obtain⟨a,ea⟩:∃a,a=kk+e:=⟨_,rfl⟩;have fZ:C=a+e:=by have:=HC.out;omega
   have hcx:a+e≤cx:=by
    rcases cK.2 with⟨q,_⟩|⟨_,_,_,q,_,_,q2,_⟩
    ·cases q
    ·injection q with _ _ q3;omega
   have cM:Hid (SI w6 (.slice (some ⟨gx,0,none⟩) C cx) x):=Zk (by
    have:=SI.of_own (l:=x) (by rw[cS];exact cK) (Ci (Bj hp).2 dF);exact this)
   have bV:=Zk cS;have bT:=Zk cE;have eA:=Zk dF;have dO:=Zk ea;have ha32:a+e≤32:=by omega
   have gB:(kk:Int)+(e:Int)=(a:Int):=by omega
   clear cR cE cS dF cK aT ea;subst fZ;have y0:(0:Int)≤(a:Int):=by omega
   have y1:(a:Int)≤(cx:Int):=by omega
   have y2:(a:Int)≤(a:Int)+(e:Int):=by omega
   have y3:IntKind.i64.wrap (a:Int)=(a:Int):=by exact Zi _ (by omega)
   have y4:IntKind.i64.wrap ((kk:Int)+(e:Int))=(a:Int):=by rw[gB];exact y3
   have y5:(0:Int)≤(a:Int)+(e:Int):=by omega
   have y6:((a:Int)).toNat=a:=by omega
   have eZ:(x.drop a).length=e:=by rw[List.length_drop,bV.out];omega
   have fA:(x.take a).length=a:=by rw[List.length_take,bV.out];omega
   have bU:=Zk eZ;have eB:=Zk fA;have fE:Hid (SI w6 (.slice (some ⟨gx,0,none⟩) a cx) (x.take a)):=Zk (cM.out.take (by rw[bV.out];omega));have dT:Hid (els P (x.drop a++[1])=true):=Zk (Ce fun y hy=>by
    rcases List.mem_append.1 hy with h|h
    ·exact Be eA.out y (List.mem_of_mem_drop h)
    ·simp at h;subst h;exact Ex (by have:=(Bj hp).1;omega))
   obtain⟨AQ,fQ⟩:∃AQ,(if cx=a then (some ⟨gx,0,none⟩:Option Addr) else some ⟨gx,a,none⟩)=AQ:=⟨_,rfl⟩;have dX:Hid (SB w6.heap.size w6 (.slice AQ e (cx-a)) (x.drop a)):=Zk (by
    by_cases hca:cx=a
    ·have eO:e=0:=by omega
     have h1:x.drop a=[]:=List.eq_nil_of_length_eq_zero (bU.out.trans eO);rw[h1,eO,hca];exact⟨_,_,rfl,by simp,by omega,fun y hy=>by simp at hy,fun h=>by simp at h⟩
    ·have h1:SI w6 (.slice (some ⟨gx,0,none⟩) x.length cx) x:=by rw[bV.out];exact cM.out
     have h2:=h1.part (lo:=a) (k:=e) (by rw[bV.out];omega);rw[List.take_of_length_le (by rw[bU.out];omega),Nat.zero_add] at h2;rw[←fQ,if_neg hca];exact h2)
   have hcm:cx≤9223372036854775807:=by
    obtain⟨_,_,e9,_,h9,_⟩:=cM.out;injection e9;omega
   clear eZ fA;go_upto_region 10 with (at_builtin;first
    |(refine Bv _ rfl _ _ 22 rfl w6.heap.size 3 Tryz.underlying22 Bi (.slice none 0 0) [] (by rfl) (World.ownsRow_nil _ _ _ _) w6.heap.size (.slice AQ e (cx-a)) (x.drop a) (by rfl) (by exact dX.out) (by rw[bU.out];simp;omega) (Zl _) ?_;intro v7 w7 aN eP;rw[List.nil_append] at aN;have dU:=Zk aN;have aR:Hid (Below w6.heap.size w6 w7):=Zk (zBf eP);clear aN eP)
    |(refine Bh w7 rfl _ _ 22 rfl w6.heap.size 3 Tryz.underlying22 Bi v7 (x.drop a) (by rfl) (by exact dU.out) 1 (by rfl) (by rw[bU.out];omega) (by exact aR.out.size) ?_;intro v8 w8 aY eQ;have dV:=Zk aY;have bM:Hid (Below w6.heap.size w6 w8):=Zk ((aR.out.alloc aR.out.size _).grown eQ (by have:=aR.out.size;simp;omega) (fun b hb=>(dU.out.lt b hb).1));clear aY eQ))
   have cJ:(x.drop a++[1]).length=e+1:=by rw[List.length_append,bU.out];rfl
   obtain⟨g8,bW,fW,dG,dH⟩:=Dg dV.out (by rw[cJ];omega);subst fW;rw[cJ];have cW:=Zk cJ;have fB:Hid (SI w8 (.slice (some ⟨g8,0,none⟩) (e+1) bW) (x.drop a++[1])):=Zk (by
    have h:=SI.of_own dV.out (Ci (Bj hp).2 dT.out);rw[cJ] at h;exact h)
   have fF:Hid (SI w8 (.slice (some ⟨gx,0,none⟩) a cx) (x.take a)):=Zk (fE.out.below bM.out);have aE:Hid (Below w1.heap.size w1 w8):=Zk (aJ.out.trans (bM.out.mono aJ.out.size));have bO:Hid (∀W,Below w8.heap.size w8 W→Calls Tryz.prog 111 #[.agg #[.int .i64 P],.slice (some ⟨gx,0,none⟩) a cx,.slice (some ⟨g8,0,none⟩) (e+1) bW] W (DiP P (x.take a) (x.drop a++[1]) W)):=Zk (fun W hW=>
    Rf P (x.take a) (x.drop a++[1]) _ _ W hp (fF.out.below hW) (fB.out.below hW) (Ce fun y hy=>Be eA.out y (List.mem_of_mem_take hy)) dT.out (by rw[eB.out];omega) (by rw[cW.out];omega) (Ww _ (by decide)) (by simp))
   clear cJ f0 z0 z1 bZ cA dG dH dI dJ dX cM;obtain⟨f0,z0,z1⟩:=aO.out w8 aE.out;have eG:=(aO.out w8.drew aE.out.drew).1;go_region_held3 (fun w'=>w'.cell? ⟨F,0,none⟩=some (.int .i64 P)) (first|exact f0|exact eG|exact eH|go_keep)
    (first|(go_at_call 111;refine (bO.out _ (by first|exact Zb _ _|exact (Zb _ w8).drew)).mono ?_;rintro e9 aG ⟨u1,u2,Q,R,rfl,aH,eU,eV,cQ,dD,dM,eY,eR,eS,eN⟩;have aZ:Hid (Below w8.heap.size w8 aG):=Zk (⟨aH.os,aH.tape,aH.output,aH.size,aH.block⟩);have cX:Hid (aG.ownsRow w8.heap.size 3 1 u1 Q.length (Q.map (Value.int .i64))):=Zk (eU);have fK:Hid (SI aG u2 R):=Zk (SI.of_own eV (Ci (Bj hp).2 dD));have eH:=(aO.out aG (aE.out.trans (aZ.out.mono aE.out.size))).1;clear aH eU eV))
   have bD:Q.length≤kk:=by rw[eB.out,cW.out] at eR;have:=dO.out;omega
   have cI:R.length≤e:=by rw[cW.out] at eS;omega
   have fD:Hid (Pts P (kn l)):=Zk (Sr gF bF);have bN:Hid (∀p,Fp P (kn l) kk e p→Q=p∧R=[]):=Zk (fun p hg=>Mv hp fD.out (by rw[←HK.out];omega) hg bT.out cQ dD dM eY bD cI (by rw[←dO.out];exact eN))
   have bB:Hid (Fv l kk=e):=Zk (by show _=_;rw[dS.out,HK.out];rfl);have dY:=Zk cQ;have fG:=Zk dM;have aD:Hid (Below w1.heap.size w1 aG):=Zk (aE.out.trans (aZ.out.mono aE.out.size));obtain⟨A1,c1,fS⟩:=Ch cX.out;obtain⟨A2,c2,fT⟩:=fK.out.form;subst fS fT;obtain⟨nQ,cO⟩:∃n,n=Q.length:=⟨_,rfl⟩;obtain⟨nR,cZ⟩:∃n,n=R.length:=⟨_,rfl⟩;rw[←cO] at bD⊢;rw[←cZ] at cI⊢;have cN:=Zk cO;have fN:=Zk cZ;have fJ:Hid (SI aG (.slice A1 nQ c1) Q):=Zk (by rw[cO];exact SI.of_own cX.out (Ci (Bj hp).2 cQ));have bC:F+1<w8.heap.size:=Nat.lt_of_lt_of_le aV aE.out.size;have HVAL:=Zk bF;clear cQ dD dM eY eR eS eN cO cZ f0 eG eH z0 z1 bO bT bF;obtain⟨f0,z0,z1⟩:=aO.out aG aD.out;have aA:=(aD.out.block (F+1) aV).trans aC.out;have bZ:=Zf aG (F+1) 0 _ _ aA;have cA:=Zf aG (F+1) 1 _ _ aA;have aL:=Zk aA;have cU:Hid (w.heap.size≤w8.heap.size):=Zk (Nat.le_trans aB.out.size aE.out.size);have aK:Hid (Below w.heap.size w aG):=Zk (aB.out.trans (aD.out.mono aB.out.size));clear aA;by_cases hR:nR=0
   ·subst hR;have dQ:decide ((kk:Int)<(nQ:Int))=false:=Zd (by omega);have dQn:decide (kk<nQ)=false:=Zd (by omega);have fL:Hid (SCl aG (.slice A n c) l):=Zk (HS.out.below aK.out);go_wp2_with fail;(with_reducible refine (Tn P l Q _ _ aG fL.out dP.out fJ.out (zEh hp dY.out (by rw[←cN.out];omega)) (by rw[←cN.out];omega)).mono ?_)
    rintro e9 bG ⟨v11,rfl,bE,cF⟩;obtain⟨bH,bJ,dA⟩:=Ch bE;subst dA;have fC:=Zk bE;have bL:=Zk cF;have dN:(wrg P l Q).length≤32:=Nat.le_trans (zCb Q) (by rw[←HK.out];omega);obtain⟨nW,cP⟩:∃n,n=(wrg P l Q).length:=⟨_,rfl⟩;rw[←cP] at dN⊢;have fO:=Zk cP;have dZ:Hid (nW=(wrk P (kn l) Q).length):=Zk (by show _=_;rw[cP];unfold wrg;rw[List.length_map]);have aI:Hid (Below w1.heap.size w1 bG):=Zk (aD.out.trans (bL.out.mono aD.out.size));have aS:Hid (Below w.heap.size w bG):=Zk (aB.out.trans (aI.out.mono aB.out.size));clear f0 z0 z1 bZ cA aL bE cF cP;obtain⟨f0,z0,z1⟩:=aO.out bG aI.out;have aA:=(aI.out.block (F+1) aV).trans aC.out;have bZ:=Zf bG (F+1) 0 _ _ aA;have cA:=Zf bG (F+1) 1 _ _ aA;have aM:=Zk aA;clear aA;by_cases hW:nW≤e
    ·have dW:decide ((e:Int)<(nW:Int))=false:=Zd (by omega);have fP:decide (e<nW)=false:=Zd (by omega);have HG:Hid (Fp P (kn l) ((kk:Int)).toNat (Fv l ((kk:Int)).toNat) Q):=Zk (by
      rw[Int.toNat_natCast,bB.out];exact⟨by rw[←cN.out];exact bD,dY.out,fG.out,by rw[←dZ.out];exact hW⟩)
     go_wp2_with fail;have hE:=Lz (a:= .slice A1 nQ c1) (b:= .slice bH nW bJ) aM.out;have aF:=((aS.out.setCell (p:=⟨F+1,0,none⟩) (by show _≤F+1;omega) (.slice A1 nQ c1)).setCell (p:=⟨F+1,1,none⟩) (by show _≤F+1;omega) (.slice bH nW bJ));have eW:=Az (p:=⟨F+1,1,none⟩) (u:= .slice bH nW bJ) (Az (p:=⟨F+1,0,none⟩) (u:= .slice A1 nQ c1) (Eo cX.out bL.out) bC) bC;have cB:F+1<aG.heap.size:=Nat.lt_of_lt_of_le bC aZ.out.size;have eX:=Az (p:=⟨F+1,1,none⟩) (u:= .slice bH nW bJ) (Az (p:=⟨F+1,0,none⟩) (u:= .slice A1 nQ c1) fC.out cB) cB;generalize ((bG.setCell ⟨F+1,0,none⟩ (.slice A1 nQ c1)).setCell ⟨F+1,1,none⟩ (.slice bH nW bJ))=wE at hE aF eW eX⊢;have q0:=Zc wE (F+1) 0 _ _ _ hE;have q1:=Zc wE (F+1) 1 _ _ _ hE;simp at q0 q1;refine bodyPost_ret (v:= .tuple #[.agg #[.slice A1 nQ c1,.slice bH nW bJ],.int .i64 0]) (by simp[results,Tryz.results90,go_sem,q0,q1]) rfl ?_;refine⟨0,_,_,Q,wrg P l Q,rfl,aF,.inr ⟨cL.out,.inl ⟨rfl,HG.out⟩⟩,?_,?_,fun _=>rfl⟩
     ·have h9:=Cf eW cU.out;rw[←cN.out] at h9⊢;exact h9
     ·have h9:=Cf eX aK.out.size;rw[←fO.out] at h9⊢;exact h9
    ·have dW:decide ((e:Int)<(nW:Int))=true:=Ze (by omega);have fP:decide (e<nW)=true:=Ze (by omega);have bP:Hid (∀p,¬Fp P (kn l) ((kk:Int)).toNat (Fv l ((kk:Int)).toNat) p):=Zk (fun p hg=>by
      rw[Int.toNat_natCast,bB.out] at hg;have h1:=(bN.out p hg).1;have h2:=hg.few;rw[←h1,←dZ.out] at h2;exact hW h2)
     clear hW;go_wp2_with fail;have hE:=Lz (a:= .slice none 0 0) (b:= .slice none 0 0) aM.out;have aF:=((aS.out.setCell (p:=⟨F+1,0,none⟩) (by show _≤F+1;omega) (.slice none 0 0)).setCell (p:=⟨F+1,1,none⟩) (by show _≤F+1;omega) (.slice none 0 0));generalize ((bG.setCell ⟨F+1,0,none⟩ (.slice none 0 0)).setCell ⟨F+1,1,none⟩ (.slice none 0 0))=wE at hE aF⊢;have q0:=Zc wE (F+1) 0 _ _ _ hE;have q1:=Zc wE (F+1) 1 _ _ _ hE;simp at q0 q1;refine bodyPost_ret (v:= .tuple #[.agg #[.slice none 0 0,.slice none 0 0],.int .i64 12]) (by simp[results,Tryz.results90,go_sem,q0,q1]) rfl ?_;exact⟨12,_,_,[],[],rfl,aF,.inr ⟨cL.out,.inr ⟨rfl,rfl,bP.out⟩⟩,World.ownsRow_nil _ _ _ _,World.ownsRow_nil _ _ _ _,fun h=>by simp at h⟩
   ·have dR:decide ((0:Int)<(nR:Int))=true:=Ze (by omega);have dRn:decide (0<nR)=true:=Ze (by omega);have bP:Hid (∀p,¬Fp P (kn l) ((kk:Int)).toNat (Fv l ((kk:Int)).toNat) p):=Zk (fun p hg=>by
     rw[Int.toNat_natCast,bB.out] at hg;have h1:=(bN.out p hg).2;exact hR (by rw[fN.out,h1];rfl))
    have dR2:(0:Int)<(nR:Int):=by omega
    have dR3:0<nR:=by omega
    clear hR;go_wp2_with fail;have hE:=Lz (a:= .slice none 0 0) (b:= .slice none 0 0) aL.out;have aF:=((aK.out.setCell (p:=⟨F+1,0,none⟩) (by show _≤F+1;omega) (.slice none 0 0)).setCell (p:=⟨F+1,1,none⟩) (by show _≤F+1;omega) (.slice none 0 0));generalize ((aG.setCell ⟨F+1,0,none⟩ (.slice none 0 0)).setCell ⟨F+1,1,none⟩ (.slice none 0 0))=wE at hE aF⊢;have q0:=Zc wE (F+1) 0 _ _ _ hE;have q1:=Zc wE (F+1) 1 _ _ _ hE;simp at q0 q1;refine bodyPost_ret (v:= .tuple #[.agg #[.slice none 0 0,.slice none 0 0],.int .i64 12]) (by simp[results,Tryz.results90,go_sem,q0,q1]) rfl ?_;exact⟨12,_,_,[],[],rfl,aF,.inr ⟨cL.out,.inr ⟨rfl,rfl,bP.out⟩⟩,World.ownsRow_nil _ _ _ _,World.ownsRow_nil _ _ _ _,fun h=>by simp at h⟩
  ·subst dE gG;have bP:Hid (∀p,¬Fp P (kn l) ((kk:Int)).toNat (Fv l ((kk:Int)).toNat) p):=Zk (fun p hg=>by
    rw[Int.toNat_natCast,show Fv l kk=e from by rw[dS.out,HK.out];rfl] at hg;obtain⟨s,hs,_⟩:=Qm (Bj hp).1 hg;exact eT ⟨s,by rw[HK.out,HC.out];exact Mu.2 hs⟩)
   clear eT;go_wp2_with fail;have hE:=Lz (a:= .slice none 0 0) (b:= .slice none 0 0) bR.out;have aF:=(((aB.out.trans (aJ.out.mono aB.out.size)).setCell (p:=⟨F+1,0,none⟩) (by show _≤F+1;omega) (.slice none 0 0)).setCell (p:=⟨F+1,1,none⟩) (by show _≤F+1;omega) (.slice none 0 0));generalize ((w6.setCell ⟨F+1,0,none⟩ (.slice none 0 0)).setCell ⟨F+1,1,none⟩ (.slice none 0 0))=wE at hE aF⊢;have q0:=Zc wE (F+1) 0 _ _ _ hE;have q1:=Zc wE (F+1) 1 _ _ _ hE;simp at q0 q1;refine bodyPost_ret (v:= .tuple #[.agg #[.slice none 0 0,.slice none 0 0],.int .i64 12]) (by simp[results,Tryz.results90,go_sem,q0,q1]) rfl ?_;exact⟨12,_,_,[],[],rfl,aF,.inr ⟨cL.out,.inr ⟨rfl,rfl,bP.out⟩⟩,World.ownsRow_nil _ _ _ _,World.ownsRow_nil _ _ _ _,fun h=>by simp at h⟩
 ·have d0:(fe==0)=false:=by simpa using hf0
  have HE:=Zk bX;have bQ:=Zk aA;clear aA bX;go_wp2_with fail;have hE:=Lz (a:= .slice none 0 0) (b:= .slice none 0 0) bQ.out;have aF:=(((aB.out.trans (bI.out.mono aB.out.size)).setCell (p:=⟨F+1,0,none⟩) (by show _≤F+1;omega) (.slice none 0 0)).setCell (p:=⟨F+1,1,none⟩) (by show _≤F+1;omega) (.slice none 0 0));generalize ((w2.setCell ⟨F+1,0,none⟩ (.slice none 0 0)).setCell ⟨F+1,1,none⟩ (.slice none 0 0))=wE at hE aF⊢;have q0:=Zc wE (F+1) 0 _ _ _ hE;have q1:=Zc wE (F+1) 1 _ _ _ hE;simp at q0 q1;refine bodyPost_ret (v:= .tuple #[.agg #[.slice none 0 0,.slice none 0 0],.int .i64 fe]) (by simp[results,Tryz.results90,go_sem,q0,q1]) rfl ?_;exact⟨fe,_,_,[],[],rfl,aF,.inl ⟨by rw[←HE.out];exact hf0,HE.out,rfl⟩,World.ownsRow_nil _ _ _ _,World.ownsRow_nil _ _ _ _,fun h=>absurd h hf0⟩
open Go.RowKit Go.Shelf
theorem zFd{W:Nat}{l:List (Bool×List Int)}(h:wdB (W:Int) l=true):∀a∈l,a.1=true→a.2.length=W:=fun a ha hk=>by
 unfold wdB at h;have:=List.all_eq_true.1 h a ha;rw[hk] at this;simp at this;omega
theorem zGh{P:Int}{l:List (Bool×List Int)}{k:Nat}(h:k<l.length)(h1:l[k].1=true)(h2:els P l[k].2=false):elB P l=false:=by
 cases e:elB P l with
 |false=>rfl
 |true=>
  unfold elB at e;have:=List.all_eq_true.1 e l[k] (List.getElem_mem h);rw[h1,h2] at this;simp at this
theorem un_r{P k:Int}{l:List (Int×Bool)}{p:List Int}{er:Int}(h:UnR P l k p er)(hP:2≤P∧P≤65521):∀x∈p,At x:=by
 rcases h with⟨_,_,h⟩|⟨_,⟨_,h⟩|⟨_,h,_⟩⟩
 ·subst h;simp
 ·exact Ci hP.2 h.els
 ·subst h;simp
def CoR(P width servers k:Int)(l:List (Bool×List Int))(ps:List (List Int))(ws:List Int)(er:Int):Prop:=
 (ckE P width servers k l≠0∧er=ckE P width servers k l∧ps=[]∧ws=[])∨(ckE P width servers k l=0∧((AlN P k l width.toNat∧er=12∧ps=[]∧ws=[])∨(AlR P k l width.toNat ps ws∧er=0)))
def CoP(P width servers k:Int)(l:List (Bool×List Int))(w:World)(e:Ending)(w':World):Prop:=
 ∃ps ws er pv wv,e= .returned (.tuple #[pv,wv,.int .i64 er])∧Below w.heap.size w w'∧CoR P width servers k l ps ws er∧SL w' pv ps∧w'.ownsRow w.heap.size 3 1 wv ws.length (ws.map (Value.int .i64))
theorem Jb(w:World):SL w (.slice none 0 0) []:=⟨none,0,rfl,Zl _,by omega,fun h=>by simp at h⟩
def CoA(width:Int)(l:List (Bool×List Int))(w1:World)(kv iv:Value)(wr:World):Prop:=
 ∃i c:Nat,i≤l.length∧iv= .int .i64 i∧kv= .int .i64 c∧c=knL (l.take i)∧wdB width (l.take i)=true∧Below w1.heap.size w1 wr
def CoB(P:Int)(l:List (Bool×List Int))(w1:World)(iv:Value)(wr:World):Prop:=
 ∃i:Nat,i≤l.length∧iv= .int .i64 i∧elB P (l.take i)=true∧Below w1.heap.size w1 wr
def CoC(P k:Int)(l:List (Bool×List Int))(n W Bb:Nat)(w0:World)(pv cv:Value)(wr:World):Prop:=
 ∃(i:Nat) (vs:List Value) (ps:List (List Int)) (BL:List Nat),i≤W∧cv= .int .i64 i∧PB Bb w0 wr pv vs ps∧ps.length=i∧(∀j (h:j<ps.length),UnR P (Cc l j) k ps[j] 0)∧BBk wr Bb n BL∧∀x:Nat,x∈BL↔(x:Int)∈wrA P l 0 ps
def CoW(l:List (Bool×List Int))(ci:Nat)(wa:World)(s i:Value)(wr:World):Prop:=
 ∃j:Nat,j≤l.length∧i= .int .i64 j∧wr.ownsRow wa.heap.size 140 2 s (Cc (l.take j) ci).length ((Cc (l.take j) ci).flatMap cpc)∧Below wa.heap.size wa wr
def CoF(q:List Int)(n Bb:Nat)(BL0:List Nat)(w9:World)(iv:Value)(wr:World):Prop:=
 ∃(j:Nat) (BL:List Nat),j≤q.length∧iv= .int .i64 j∧BBk wr Bb n BL∧(∀x:Nat,x∈BL↔x∈BL0∨(x:Int)∈q.take j)∧w9.grownBy wr (some Bb)
def CoG(BL:List Nat)(n:Nat)(w9:World)(wv iv:Value)(wr:World):Prop:=
 ∃j:Nat,j≤n∧iv= .int .i64 j∧wr.ownsRow w9.heap.size 3 1 wv (flg BL j).length ((flg BL j).map (Value.int .i64))∧Below w9.heap.size w9 wr
theorem Oy(P width:Int)(sv kk:Nat)(l:List (Bool×List Int))(v:Value)(w:World)(hp:prB P=true)(h:SAn w v l)(hsv:sv≤10)(hkk:1≤kk)(hks:kk≤sv):
  Calls Tryz.prog 68 #[.agg #[.int .i64 P],.int .i64 sv,.int .i64 kk,.int .i64 width,v] w (CoP P width sv kk l w):=by
 have hB:=Bj hp;have fI:At P:=by unfold At;omega
 have HP:=Zk hp;have HS:=Zk h;obtain⟨A,c,rfl⟩:=h.form;clear h hp;obtain⟨n,en⟩:∃n,n=l.length:=⟨_,rfl⟩;rw[←en];have HN:=Zk en;clear en;go_enter Tryz.func68,Tryz.ntmps68;obtain⟨F,eF⟩:∃F,F=w.heap.size:=⟨_,rfl⟩;obtain⟨w1,cZ⟩:∃w1:World,w1=w.alloc (.cells #[.int .i64 P] 31):=⟨_,rfl⟩;have eB:Hid (w.alloc (.cells #[.int .i64 P] 31)=w1):=cZ.symm;have aB:Hid (Below w.heap.size w w1):=Zk (by rw[cZ];exact (Zb _ w).alloc (Zl _) _);have bC:Hid (w1.heap[F]? =some (.cells #[.int .i64 P] 31 (0,0))):=Zk (by show _=_;rw[cZ,eF];exact Zh w _);have fD:Hid (∀W,Below w1.heap.size w1 W→W.cell? ⟨F,0,none⟩=some (.int .i64 P)):=Zk (fun W hg=>by
  have hA:=(hg.block F (Ae bC.out)).trans bC.out;exact (Zc W F 0 _ _ _ hA))
 go_upto_region 1 with fail
 rw[eB.out,←eF];clear cZ eF;by_cases h1:width<0
 ·have d1:decide (width<0)=true:=Ze h1;have HE:Hid (ckE P width sv kk l=4):=Zk (by show _=_;unfold ckE;rw[if_pos (.inl h1)]);go_wp2_with fail;refine bodyPost_ret (v:= .tuple #[.slice none 0 0,.slice none 0 0,.int .i64 4]) (by simp[results,Tryz.results68,go_sem]) rfl ?_;exact⟨[],[],4,_,_,rfl,aB.out,.inl ⟨by rw[HE.out];decide,HE.out.symm,rfl,rfl⟩,Jb _,World.ownsRow_nil _ _ _ _⟩
 have d1:decide (width<0)=false:=Zd h1;by_cases h2:64<width
 ·have d2:decide (64<width)=true:=Ze h2;have HE:Hid (ckE P width sv kk l=4):=Zk (by show _=_;unfold ckE;rw[if_pos (.inr h2)]);go_wp2_with fail;refine bodyPost_ret (v:= .tuple #[.slice none 0 0,.slice none 0 0,.int .i64 4]) (by simp[results,Tryz.results68,go_sem]) rfl ?_;exact⟨[],[],4,_,_,rfl,aB.out,.inl ⟨by rw[HE.out];decide,HE.out.symm,rfl,rfl⟩,Jb _,World.ownsRow_nil _ _ _ _⟩
 have d2:decide (64<width)=false:=Zd h2;obtain⟨W,rfl⟩:∃W:Nat,width=W:=⟨width.toNat,by omega⟩;have d1n:decide (64<W)=false:=Zd (by omega);have hW64:W≤64:=by omega
 have bY:Hid (¬((W:Int)<0∨64<(W:Int))):=Zk (by show¬_;omega);by_cases h3:n=sv
 case' neg=>
  have d3:((n:Int) !=(sv:Int))=true:=by rw[bne_iff_ne];omega
  have d3n:(n !=sv)=true:=by rw[bne_iff_ne];exact h3
  have HE:Hid (ckE P W sv kk l=2):=Zk (by show _=_;unfold ckE;rw[if_neg bY.out,if_pos (by rw[←HN.out];omega)]);clear h3;go_wp2_with fail;refine bodyPost_ret (v:= .tuple #[.slice none 0 0,.slice none 0 0,.int .i64 2]) (by simp[results,Tryz.results68,go_sem]) rfl ?_;exact⟨[],[],2,_,_,rfl,aB.out,.inl ⟨by rw[HE.out];decide,HE.out.symm,rfl,rfl⟩,Jb _,World.ownsRow_nil _ _ _ _⟩
 subst h3;have d3:((n:Int) !=(n:Int))=false:=by simp
 have HL:Hid (¬((l.length:Int)≠(n:Int))):=Zk (by show¬_;rw[←HN.out];simp);have dS:=Zk (HS.out.rng);obtain⟨ic,fN,fO,fP,fQ⟩:=info_parts Xq;clear h1 h2;go_wp2_with fail;go_loopw [13,44] (fun kv iv wr=>CoA W l w1 kv iv wr) (fun _ iv _=>n- (intOf iv).toNat)
 case atStart=>exact⟨0,0,Nat.zero_le _,rfl,rfl,by simp[knL],by simp[wdB],Zb _ _⟩
 case round=>
  obtain⟨i,cK,hi,rfl,rfl,eH,fZ,aE⟩:=hrel;rw[←HN.out] at hi;have cO:=Zk eH;have bZ:=Zk fZ;have bL:=Zk aE;have eV:Hid (Below w.heap.size w wr):=Zk (aB.out.trans (bL.out.mono aB.out.size));have eI:cK≤i:=by
   rw[eH];unfold knL;have h1:=List.length_filter_le (fun a:Bool×List Int=>a.1) (l.take i)
   rw[List.length_take] at h1;omega
  clear fZ aE eH;by_cases hlt:i<n
  ·have dl:decide ((i:Int)<(n:Int))=true:=Ze (by omega);have bA:decide (i<n)=true:=Ze hlt;have aG:i<l.length:=by rw[←HN.out];exact hlt
   obtain⟨A',c',e,_,_,ha⟩:=HS.out;injection e with e1 e2 e3;subst e1;obtain⟨b,bD,rfl,hb,aC⟩:=ha (by omega);obtain⟨c1,vr,c2,aU⟩:=aC i aG;have c1:=(eV.out.cell (p:=⟨b,bD+i*2,none⟩) hb).trans c1;have c2:=(eV.out.cell (p:=⟨b,bD+i*2+1,none⟩) hb).trans c2;have cW:=Zk (Jy (p:=fun a=> !a.1||decide ((a.2.length:Int)=(W:Int))) aG)
   have cV:=Zk (Vl aG);have bG:Hid (l[i].1=true→(l[i].2.length:Int)≠W→wdB W l=false):=Zk (fun x y=>zBy aG x y)
   obtain⟨row,er⟩:∃row,row=l[i].2:=⟨_,rfl⟩;obtain⟨kb,aW⟩:∃kb,kb=l[i].1:=⟨_,rfl⟩;obtain⟨Ar,cr,rfl⟩:=aU.form;rw[←er] at c2 cW bG;rw[←aW] at c1 cW cV bG;rw[←cO.out] at cV;have wk:IntKind.i64.wrap ((cK:Int)+1)=(cK:Int)+1:=by exact Zi _ (by omega)
   have wi:IntKind.i64.wrap ((i:Int)+1)=(i:Int)+1:=by exact Zi _ (by omega)
   obtain⟨nr,aR⟩:∃nr,nr=row.length:=⟨_,rfl⟩;rw[←aR] at c2;have fA:=Zk aR;clear ha aC e2 e3 er aW aU aR;obtain⟨X,eX⟩:∃X,X=wr.heap.size:=⟨_,rfl⟩;obtain⟨wx,aF⟩:∃wx:World,wx=wr.alloc (.cells #[.bool kb,.slice Ar nr cr] 61):=⟨_,rfl⟩;have aH:Hid (wr.alloc (.cells #[.bool kb,.slice Ar nr cr] 61)=wx):=aF.symm;have aD:Hid (Below wr.heap.size wr wx):=Zk (by rw[aF];exact (Zb _ wr).alloc (Zl _) _);have aA:Hid (wx.heap[X]? =some (.cells #[.bool kb,.slice Ar nr cr] 61 (0,0))):=Zk (by show _=_;rw[aF,eX];exact Zh wr _);have aZ:Hid (∀W,Below wx.heap.size wx W→W.cell? ⟨X,0,none⟩=some (.bool kb)∧W.cell? ⟨X,1,none⟩=some (.slice Ar nr cr)):=Zk (fun W hg=>by
    have aM:=(hg.block X (Ae aA.out)).trans aA.out;exact⟨Zc W X 0 _ _ _ aM,Zc W X 1 _ _ _ aM⟩)
   have aL:Hid (Below w1.heap.size w1 wx):=Zk (bL.out.trans (aD.out.mono bL.out.size));go_upto_region 9 with fail
   rw[aH.out,←eX];clear aF eX;obtain⟨y0,y1⟩:=aZ.out wx (Zb _ _);clear c1 c2
   cases kb with
   |false=>
    have dZ:Hid (wdB W (l.take (i+1))=true):=Zk (by show _=_;unfold wdB;rw[cW.out];have:=bZ.out;unfold wdB at this;rw[this];rfl);have dL:Hid (cK=knL (l.take (i+1))):=Zk (by show _=_;rw[cV.out];rfl);go_wp2_with fail;go_roundw
    case rel=>exact⟨i+1,cK,by rw[←HN.out];omega,by go_num,rfl,dL.out,dZ.out,aL.out⟩
    case measure=>simp[intOf];omega
   |true=>
    have dL:Hid (cK+1=knL (l.take (i+1))):=Zk (by show _=_;rw[cV.out];rfl);by_cases hw:nr=W
    ·have dw:((nr:Int) !=(W:Int))=false:=by rw[bne_eq_false_iff_eq];omega
     have gR:(nr !=W)=false:=by rw[bne_eq_false_iff_eq];exact hw
     have dZ:Hid (wdB W (l.take (i+1))=true):=Zk (by show _=_;unfold wdB;rw[cW.out];have:=bZ.out;unfold wdB at this;rw[this,←fA.out,hw];simp);clear hw;go_wp2_with fail;go_roundw
     case rel=>exact⟨i+1,cK+1,by rw[←HN.out];omega,by go_num,by go_num,dL.out,dZ.out,aL.out⟩
     case measure=>simp[intOf];omega
    ·have dw:((nr:Int) !=(W:Int))=true:=by rw[bne_iff_ne];omega
     have gR:(nr !=W)=true:=by rw[bne_iff_ne];exact hw
     have HE:Hid (ckE P W n kk l=2):=Zk (by show _=_;unfold ckE;rw[if_neg bY.out,if_neg HL.out,if_pos (bG.out rfl (by rw[←fA.out];omega))]);clear hw;go_wp2_with fail;refine bodyPost_ret (v:= .tuple #[.slice none 0 0,.slice none 0 0,.int .i64 2]) (by simp[results,Tryz.results68,go_sem]) rfl ?_;exact⟨[],[],2,_,_,rfl,aB.out.trans (aL.out.mono aB.out.size),.inl ⟨by rw[HE.out];decide,HE.out.symm,rfl,rfl⟩,Jb _,World.ownsRow_nil _ _ _ _⟩
  ·have dl:decide ((i:Int)<(n:Int))=false:=Zd (by omega);have bA:decide (i<n)=false:=Zd hlt;have cJ:l.take i=l:=List.take_of_length_le (by rw[←HN.out];omega);rw[cJ] at bZ cO;have HW:Hid (¬wdB W l=false):=Zk (by show¬_;rw[bZ.out];simp);obtain⟨wb,gX⟩:∃wb:World,wb=wr:=⟨_,rfl⟩;subst gX;have hcn:cK≤n:=by omega
   clear cJ hi eI hlt;go_wp2_with fail;clear dl bA;go_loopw [61] (fun iv wr=>CoB P l wb iv wr) (fun iv _=>n- (intOf iv).toNat)
   case atStart=>exact⟨0,Nat.zero_le _,rfl,by simp[elB],Zb _ _⟩
   case round=>
    obtain⟨i2,hi,rfl,bB,aE⟩:=hrel;rw[←HN.out] at hi;have cP:=Zk bB;have aO:Hid (Below w1.heap.size w1 wr):=Zk (bL.out.trans (aE.mono bL.out.size));have bM:=Zk aE;have aY:Hid (Below w.heap.size w wr):=Zk (aB.out.trans (aO.out.mono aB.out.size));clear aE bB;by_cases hlt:i2<n
    ·have dl:decide ((i2:Int)<(n:Int))=true:=Ze (by omega);have bA:decide (i2<n)=true:=Ze hlt;have aG:i2<l.length:=by rw[←HN.out];exact hlt
     obtain⟨A',c',e,_,_,ha⟩:=HS.out;injection e with e1 e2 e3;subst e1;obtain⟨b,bD,rfl,hb,aC⟩:=ha (by omega);obtain⟨c1,vr,c2,aU⟩:=aC i2 aG;have c1:=(aY.out.cell (p:=⟨b,bD+i2*2,none⟩) hb).trans c1;have c2:=(aY.out.cell (p:=⟨b,bD+i2*2+1,none⟩) hb).trans c2;have cU:=Zk (Jy (p:=fun a=> !a.1||els P a.2) aG)
     have bG:Hid (l[i2].1=true→els P l[i2].2=false→elB P l=false):=Zk (fun x y=>zGh aG x y)
     obtain⟨row,er⟩:∃row,row=l[i2].2:=⟨_,rfl⟩;obtain⟨kb,aW⟩:∃kb,kb=l[i2].1:=⟨_,rfl⟩;have bX:=Zk (aU.below aY.out);obtain⟨Ar,cr,rfl⟩:=aU.form;rw[←er] at c2 cU bG bX;rw[←aW] at c1 cU bG;have wi:IntKind.i64.wrap ((i2:Int)+1)=(i2:Int)+1:=by exact Zi _ (by omega)
     obtain⟨nr,aR⟩:∃nr,nr=row.length:=⟨_,rfl⟩;rw[←aR] at c2 bX;clear ha aC e2 e3 er aW aU aR;obtain⟨X,eX⟩:∃X,X=wr.heap.size:=⟨_,rfl⟩;obtain⟨wx,aF⟩:∃wx:World,wx=wr.alloc (.cells #[.bool kb,.slice Ar nr cr] 61):=⟨_,rfl⟩;have aH:Hid (wr.alloc (.cells #[.bool kb,.slice Ar nr cr] 61)=wx):=aF.symm;have aD:Hid (Below wr.heap.size wr wx):=Zk (by rw[aF];exact (Zb _ wr).alloc (Zl _) _);have aA:Hid (wx.heap[X]? =some (.cells #[.bool kb,.slice Ar nr cr] 61 (0,0))):=Zk (by show _=_;rw[aF,eX];exact Zh wr _);have aZ:Hid (∀W,Below wx.heap.size wx W→W.cell? ⟨X,0,none⟩=some (.bool kb)∧W.cell? ⟨X,1,none⟩=some (.slice Ar nr cr)):=Zk (fun W hg=>by
      have aM:=(hg.block X (Ae aA.out)).trans aA.out;exact⟨Zc W X 0 _ _ _ aM,Zc W X 1 _ _ _ aM⟩)
     have aL:Hid (Below w1.heap.size w1 wx):=Zk (aO.out.trans (aD.out.mono aO.out.size));have bE:Hid (Below wb.heap.size wb wx):=Zk (bM.out.trans (aD.out.mono bM.out.size));go_upto_region 17 with fail
     rw[aH.out,←eX];clear aF eX;obtain⟨y0,y1⟩:=aZ.out wx (Zb _ _);have f0:=fD.out wx aL.out;clear c1 c2
     cases kb with
     |false=>
      have dN:Hid (elB P (l.take (i2+1))=true):=Zk (by show _=_;unfold elB;rw[cU.out];have:=cP.out;unfold elB at this;rw[this];rfl);go_wp2_with fail;go_roundw
      case rel=>exact⟨i2+1,by rw[←HN.out];omega,by go_num,dN.out,bE.out⟩
      case measure=>simp[intOf];omega
     |true=>
      have cR:Hid (Calls Tryz.prog 62 #[.agg #[.int .i64 P],.slice Ar nr cr] wx fun e w'=>e= .returned (.bool (els P row))∧Below wx.heap.size wx w'):=Zk ((Ei P row _ wx fI (bX.out.below aD.out)).mono fun e w' ⟨h1,h2⟩=>⟨by rw[h1];unfold inB;rw[HP.out];rfl,h2⟩)
      cases bB:els P row with
      |true=>
       have dN:Hid (elB P (l.take (i2+1))=true):=Zk (by show _=_;unfold elB;rw[cU.out];have:=cP.out;unfold elB at this;rw[this];simp[bB]);rw[bB] at cR;clear bB;go_wp2_with fail;(with_reducible refine cR.out.mono ?_)
       rintro e w9 ⟨rfl,cD⟩;have dE:Hid (Below wb.heap.size wb w9):=Zk (bE.out.trans (cD.mono bE.out.size));clear cD;go_wp2_with fail;go_roundw
       case rel=>exact⟨i2+1,by rw[←HN.out];omega,by go_num,dN.out,dE.out⟩
       case measure=>simp[intOf];omega
      |false=>
       have HE:Hid (ckE P W n kk l=9):=Zk (by show _=_;unfold ckE;rw[if_neg bY.out,if_neg HL.out,if_neg HW.out,if_pos (bG.out rfl bB)]);rw[bB] at cR;clear bB;go_wp2_with fail;(with_reducible refine cR.out.mono ?_)
       rintro e w9 ⟨rfl,cD⟩;have dE:Hid (Below w.heap.size w w9):=Zk ((aB.out.trans (aL.out.mono aB.out.size)).trans (cD.mono (Nat.le_trans aB.out.size aL.out.size)));clear cD;go_wp2_with fail;refine bodyPost_ret (v:= .tuple #[.slice none 0 0,.slice none 0 0,.int .i64 9]) (by simp[results,Tryz.results68,go_sem]) rfl ?_;exact⟨[],[],9,_,_,rfl,dE.out,.inl ⟨by rw[HE.out];decide,HE.out.symm,rfl,rfl⟩,Jb _,World.ownsRow_nil _ _ _ _⟩
    ·have dl:decide ((i2:Int)<(n:Int))=false:=Zd (by omega);have bA:decide (i2<n)=false:=Zd hlt;have cJ:l.take i2=l:=List.take_of_length_le (by rw[←HN.out];omega);rw[cJ] at cP;have eY:Hid (¬elB P l=false):=Zk (by show¬_;rw[cP.out];simp);clear cJ hi hlt;by_cases hk:cK<kk
     ·have dk:decide ((cK:Int)<(kk:Int))=true:=Ze (by omega);have cA:decide (cK<kk)=true:=Ze hk;have HE:Hid (ckE P W n kk l=11):=Zk (by show _=_;unfold ckE;rw[if_neg bY.out,if_neg HL.out,if_neg HW.out,if_neg eY.out,if_pos (by rw[←cO.out];omega)]);clear hk;go_wp2_with fail;refine bodyPost_ret (v:= .tuple #[.slice none 0 0,.slice none 0 0,.int .i64 11]) (by simp[results,Tryz.results68,go_sem]) rfl ?_;exact⟨[],[],11,_,_,rfl,aY.out,.inl ⟨by rw[HE.out];decide,HE.out.symm,rfl,rfl⟩,Jb _,World.ownsRow_nil _ _ _ _⟩
     have dk:decide ((cK:Int)<(kk:Int))=false:=Zd (by omega);have cA:decide (cK<kk)=false:=Zd hk;have eW:Hid (ckE P W n kk l=0):=Zk (by show _=_;unfold ckE;rw[if_neg bY.out,if_neg HL.out,if_neg HW.out,if_neg eY.out,if_neg (by rw[←cO.out];omega)]);have w1':IntKind.i64.wrap ((n:Int)+1)=(n:Int)+1:=by exact Zi _ (by omega)
     have gN:Hid (∀a∈l,a.1=true→a.2.length=W):=Zk (zFd bZ.out);clear hk;obtain⟨wc,gY⟩:∃wc:World,wc=wr:=⟨_,rfl⟩;subst gY;go_wp2_with (at_make;refine Fo _ (by rfl) _ _ 97 (by rfl) 4 Tryz.underlying97 zFj _ (n+1) (by rfl) (by rfl) (by omega) (by omega) ?_);obtain⟨Bb,cX⟩:∃Bb,Bb=wc.heap.size:=⟨_,rfl⟩;obtain⟨w0,cY⟩:∃w0:World,w0=wc.alloc (.cells (List.map (fun (_:Nat)=>Value.bool false) (List.range n)++[Value.bool false]).toArray 4):=⟨_,rfl⟩
     have bK:Hid (BBk w0 Bb (n+1) []):=Zk (by
      show _=_;rw[cY,cX];have h:=Zh wc (.cells (List.map (fun (_:Nat)=>Value.bool false) (List.range n)++[Value.bool false]).toArray 4)
      rw[h];simp[List.range_succ])
     have eR:Hid (Below w1.heap.size w1 w0):=Zk (by rw[cY];exact aO.out.alloc aO.out.size _);have aT:Bb<w0.heap.size:=bK.out.lt;have hBb1:w1.heap.size≤Bb:=by rw[cX];exact aO.out.size
     have hww1:w.heap.size≤w1.heap.size:=aB.out.size;rw[←cY,←cX];clear cY cX dl bA dk cA;have gD:Hid (∀W',w0.grownBy W' (some Bb)→Below w1.heap.size w1 W'):=Zk (fun W' hg=>eR.out.grown hg eR.out.size (fun b hb=>by injection hb with e;omega))
     go_wp2_with fail;go_loopw [19,20] (fun pv cv wr=>CoC P kk l (n+1) W Bb w0 pv cv wr) (fun _ cv _=>W- (intOf cv).toNat)
     case atStart=>exact⟨0,[],[],[],Nat.zero_le _,rfl,PB.nil _ _,rfl,fun j h=>by simp at h,bK.out,by simp[wrA]⟩
     case round=>
      obtain⟨i,vs,ps,BL,hi,rfl,dC,fT,fY,fJ,fK⟩:=hrel;have bI:=Zk dC;have bU:=Zk fT;have fC:=Zk fY;have dH:=Zk fJ;have eU:=Zk fK;have aS:Hid (Below w1.heap.size w1 wr):=Zk (gD.out wr dC.bel);have hzr:=dC.bel.size;clear dC fT fY fJ fK;by_cases hiW:i<W
      ·have dk:decide ((i:Int)<(W:Int))=true:=Ze (by omega);have cA:decide (i<W)=true:=Ze hiW;have wi:IntKind.i64.wrap ((i:Int)+1)=(i:Int)+1:=by exact Zi _ (by omega)
       obtain⟨wa,gW⟩:∃wa:World,wa=wr:=⟨_,rfl⟩;subst gW;go_wp2_with fail;go_loopw [21,88] (fun s iv wr=>CoW l i wa s iv wr) (fun _ iv _=>n- (intOf iv).toNat)
       case atStart=>exact⟨0,Nat.zero_le _,rfl,World.ownsRow_nil _ _ _ _,Zb _ _⟩
       case round=>
        obtain⟨j,hj,rfl,aQ,aE⟩:=hrel;rw[←HN.out] at hj;obtain⟨As,cs,rfl⟩:=Ct aQ;have HO:=Zk aQ;have dI:=Zk aE;have eO:wa.heap.size≤wr.heap.size:=aE.size;have bJ:Hid (Below w1.heap.size w1 wr):=Zk (aS.out.trans (aE.mono aS.out.size));have aP:Hid (Below w.heap.size w wr):=Zk (aB.out.trans (bJ.out.mono aB.out.size));clear aQ aE;by_cases hlt:j<n
        ·have dl:decide ((j:Int)<(n:Int))=true:=Ze (by omega);have bA:decide (j<n)=true:=Ze hlt;have aG:j<l.length:=by rw[←HN.out];exact hlt
         obtain⟨A',c',e,_,_,ha⟩:=HS.out;injection e with e1 e2 e3;subst e1;obtain⟨b,bD,rfl,hb,aC⟩:=ha (by omega);obtain⟨c1,vr,c2,aU⟩:=aC j aG;have c1:=(aP.out.cell (p:=⟨b,bD+j*2,none⟩) hb).trans c1;have c2:=(aP.out.cell (p:=⟨b,bD+j*2+1,none⟩) hb).trans c2;have hbw:b<wr.heap.size:=by have:=aP.out.size;omega
         obtain⟨row,er⟩:∃row,row=l[j].2:=⟨_,rfl⟩;obtain⟨kb,aW⟩:∃kb,kb=l[j].1:=⟨_,rfl⟩;have gO:Hid (kb=true→i<row.length):=Zk (fun h=>by rw[er,gN.out _ (List.getElem_mem aG) (by rw[←aW];exact h)];exact hiW)
         have cT:Hid (Cc (l.take (j+1)) i=Cc (l.take j) i++[(if kb then gd row i else 0,kb)]):=Zk (by show _=_;rw[Nn l i j aG,er,aW]);rw[←er] at aU;rw[←aW] at c1;have bX:=Zk (aU.below aP.out);obtain⟨Ar,cr,rfl⟩:=aU.form;have fL:(Cc (l.take j) i).length=j:=by rw[Bp,List.length_take];omega
         have wj:IntKind.i64.wrap ((j:Int)+1)=(j:Int)+1:=by exact Zi _ (by omega)
         obtain⟨D,hD⟩:∃D,Cc (l.take j) i=D:=⟨_,rfl⟩;rw[hD] at HO cT fL⊢;have hDl:D.length≤1000000:=by omega
         clear ha aC e2 e3 er aW aU hD fL
         cases kb with
         |false=>
          obtain⟨nr,aR⟩:∃nr,nr=row.length:=⟨_,rfl⟩;rw[←aR] at c2;clear aR;obtain⟨X,eX⟩:∃X,X=wr.heap.size:=⟨_,rfl⟩;obtain⟨wx,aF⟩:∃wx:World,wx=(wr.alloc (.cells #[.bool false,.slice Ar nr cr] 61)).alloc (.cells #[.int .i64 0,.bool false] 140):=⟨_,rfl⟩;have aH:Hid ((wr.alloc (.cells #[.bool false,.slice Ar nr cr] 61)).alloc (.cells #[.int .i64 0,.bool false] 140)=wx):=aF.symm;have aD:Hid (Below wr.heap.size wr wx):=Zk (by rw[aF];exact ((Zb _ wr).alloc (Zl _) _).alloc (by simp) _);have aA:Hid (wx.heap[X]? =some (.cells #[.bool false,.slice Ar nr cr] 61 (0,0))):=Zk (by show _=_;rw[aF,eX,Below.heap_alloc _ _ _ (by simp)];exact Zh wr _);have aI:Hid (wx.heap[X+1]? =some (.cells #[.int .i64 0,.bool false] 140 (0,0))):=Zk (by show _=_;rw[aF,eX];have:=Zh (wr.alloc (.cells #[.bool false,.slice Ar nr cr] 61)) (.cells #[.int .i64 0,.bool false] 140);simpa using this);have aZ:Hid (∀W,Below wx.heap.size wx W→W.cell? ⟨X,0,none⟩=some (.bool false)∧W.cell? ⟨X,1,none⟩=some (.slice Ar nr cr)∧W.cell? ⟨X+1,0,none⟩=some (.int .i64 0)∧W.cell? ⟨X+1,1,none⟩=some (.bool false)):=Zk (fun W hg=>by
           have aM:=(hg.block X (Ae aA.out)).trans aA.out;have cB:=(hg.block (X+1) (Ae aI.out)).trans aI.out;exact⟨Zc W X 0 _ _ _ aM,Zc W X 1 _ _ _ aM,Zc W (X+1) 0 _ _ _ cB,Zc W (X+1) 1 _ _ _ cB⟩)
          have bT:Hid (wx.ownsRow wa.heap.size 140 2 (.slice As D.length cs) D.length (D.flatMap cpc)):=Zk (Bm HO.out aD.out);have bO:Hid (Below wa.heap.size wa wx):=Zk (dI.out.trans (aD.out.mono eO));have eP:wa.heap.size≤wx.heap.size:=bO.out.size;go_upto_region 34 with fail
          rw[aH.out,←eX];clear aF eX;obtain⟨y0,y1,y2,y3⟩:=aZ.out wx (Zb _ _);clear c1 c2;go_wp2_with (at_builtin;refine wpList_append_own _ (by rfl) _ _ 138 (by rfl) wa.heap.size 140 ic _ 2 16 Tryz.underlying138 fN fO fP fQ rfl (by omega) _ _ _ (by rfl) (bT.out.alloc _) ⟨wx.heap.size,0,none⟩ 1 1 [.int .i64 0,.bool false] (by rfl) rfl (Ba wx _ _) (by intro u hu;simp at hu;rcases hu with rfl|rfl<;>rfl) (by unfold maxLen;omega) (by omega) (by simp;omega) ?_;intro v8 w8 aJ cG _;have dD:Hid (Below wa.heap.size wa w8):=Zk ((bO.out.alloc eP _).grown cG (by simp;omega) (fun b hb=>(bT.out.lt b hb).1));have dO:=Zk aJ;clear aJ cG)
          go_roundw
          case rel=>
           refine⟨j+1,by rw[←HN.out];omega,by go_num,?_,dD.out⟩;rw[cT.out,List.length_append];exact Ia dO.out
          case measure=>simp[intOf];omega
         |true=>
          have dB:i<row.length:=gO.out rfl;obtain⟨b2,aV,gS,hb2,aC⟩:=bX.out.cells (by omega);subst gS;have c3:=aC i dB;have gF:Hid (gd row i=row[i]):=Zk (by show _=_;simp[gd,dB]);rw[←gF.out] at c3;obtain⟨y,ey⟩:∃y,y=gd row i:=⟨_,rfl⟩;rw[←ey] at c3 cT;obtain⟨nr,aR⟩:∃nr,nr=row.length:=⟨_,rfl⟩;rw[←aR] at c2 dB;have hd3:decide (i<nr)=true:=Ze dB;have z0:(0:Int)≤(i:Int):=by omega
          have z1:(i:Int)<(nr:Int):=by omega
          clear aC ey aR;obtain⟨X,eX⟩:∃X,X=wr.heap.size:=⟨_,rfl⟩;obtain⟨wx,aF⟩:∃wx:World,wx=(wr.alloc (.cells #[.bool true,.slice (some ⟨b2,aV,none⟩) nr cr] 61)).alloc (.cells #[.int .i64 y,.bool true] 140):=⟨_,rfl⟩;have aH:Hid ((wr.alloc (.cells #[.bool true,.slice (some ⟨b2,aV,none⟩) nr cr] 61)).alloc (.cells #[.int .i64 y,.bool true] 140)=wx):=aF.symm;have aD:Hid (Below wr.heap.size wr wx):=Zk (by rw[aF];exact ((Zb _ wr).alloc (Zl _) _).alloc (by simp) _);have aA:Hid (wx.heap[X]? =some (.cells #[.bool true,.slice (some ⟨b2,aV,none⟩) nr cr] 61 (0,0))):=Zk (by show _=_;rw[aF,eX,Below.heap_alloc _ _ _ (by simp)];exact Zh wr _);have aI:Hid (wx.heap[X+1]? =some (.cells #[.int .i64 y,.bool true] 140 (0,0))):=Zk (by show _=_;rw[aF,eX];have:=Zh (wr.alloc (.cells #[.bool true,.slice (some ⟨b2,aV,none⟩) nr cr] 61)) (.cells #[.int .i64 y,.bool true] 140);simpa using this);have aZ:Hid (∀W,Below wx.heap.size wx W→W.cell? ⟨X,0,none⟩=some (.bool true)∧W.cell? ⟨X,1,none⟩=some (.slice (some ⟨b2,aV,none⟩) nr cr)∧W.cell? ⟨X+1,0,none⟩=some (.int .i64 y)∧W.cell? ⟨X+1,1,none⟩=some (.bool true)):=Zk (fun W hg=>by
           have aM:=(hg.block X (Ae aA.out)).trans aA.out;have cB:=(hg.block (X+1) (Ae aI.out)).trans aI.out;exact⟨Zc W X 0 _ _ _ aM,Zc W X 1 _ _ _ aM,Zc W (X+1) 0 _ _ _ cB,Zc W (X+1) 1 _ _ _ cB⟩)
          have bT:Hid (wx.ownsRow wa.heap.size 140 2 (.slice As D.length cs) D.length (D.flatMap cpc)):=Zk (Bm HO.out aD.out);have bO:Hid (Below wa.heap.size wa wx):=Zk (dI.out.trans (aD.out.mono eO));have eP:wa.heap.size≤wx.heap.size:=bO.out.size;go_upto_region 34 with fail
          rw[aH.out,←eX];clear aF eX;obtain⟨y0,y1,y2,y3⟩:=aZ.out wx (Zb _ _);clear c1 c2 c3;go_wp2_with (at_builtin;refine wpList_append_own _ (by rfl) _ _ 138 (by rfl) wa.heap.size 140 ic _ 2 16 Tryz.underlying138 fN fO fP fQ rfl (by omega) _ _ _ (by rfl) (bT.out.alloc _) ⟨wx.heap.size,0,none⟩ 1 1 [.int .i64 y,.bool true] (by rfl) rfl (Ba wx _ _) (by intro u hu;simp at hu;rcases hu with rfl|rfl<;>rfl) (by unfold maxLen;omega) (by omega) (by simp;omega) ?_;intro v8 w8 aJ cG _;have dD:Hid (Below wa.heap.size wa w8):=Zk ((bO.out.alloc eP _).grown cG (by simp;omega) (fun b hb=>(bT.out.lt b hb).1));have dO:=Zk aJ;clear aJ cG)
          go_roundw
          case rel=>
           refine⟨j+1,by rw[←HN.out];omega,by go_num,?_,dD.out⟩;rw[cT.out,List.length_append];exact Ia dO.out
          case measure=>simp[intOf];omega
        ·have dl:decide ((j:Int)<(n:Int))=false:=Zd (by omega);have bA:decide (j<n)=false:=Zd hlt;have fW:SCl wr (.slice As n cs) (Cc l i):=by
          have h:=HO.out;have e1:l.take j=l:=List.take_of_length_le (by rw[←HN.out];omega);have e2:(Cc l i).length=n:=by rw[Bp,←HN.out]
          rw[e1,e2] at h;exact Vd (l:=Cc l i) (by rw[e2];exact h) (Pu l i dS.out)
         have gL:=Zk fW;clear fW;have fS:(Cc (l.take j) i).length=n:=by rw[Bp,List.length_take,←HN.out];omega
         have dM:Hid (Calls Tryz.prog 90 #[.agg #[.int .i64 P],.slice As n cs,.int .i64 kk] wr (RcP P (Cc l i) kk wr)):=Zk (zBh P (Cc l i) kk _ wr fI gL.out (by rw[Bp,←HN.out];omega));rw[fS];have f0:=fD.out wr bJ.out;clear fS hlt HO;go_wp2_with fail;(with_reducible refine dM.out.mono ?_)
         rintro e w5 ⟨er,v1,v2,p,q,rfl,dA,cL,eL,eM,hq⟩;obtain⟨A1,c1,gU⟩:=Ct eL;obtain⟨A2,c2,gV⟩:=Ct eM;subst gU gV;obtain⟨np,eD⟩:∃np,np=p.length:=⟨_,rfl⟩;obtain⟨nq,eE⟩:∃nq,nq=q.length:=⟨_,rfl⟩;rw[←eD,←eE];have eZ:=Zk eD;have bH:=Zk eE;have dW:=Zk cL;have gG:=Zk eL;have gH:=Zk eM;have HQ:=Zk hq;have eT:Hid (Below wa.heap.size wa w5):=Zk (dI.out.trans (dA.mono eO));have bQ:Hid (Below w.heap.size w w5):=Zk (aP.out.trans (dA.mono aP.out.size));have hz5:=dA.size;clear dA cL eL eM hq eD eE f0;obtain⟨X,eX⟩:∃X,X=w5.heap.size:=⟨_,rfl⟩;obtain⟨wx,aF⟩:∃wx:World,wx=w5.alloc (.cells #[.slice A1 np c1,.slice A2 nq c2] 135):=⟨_,rfl⟩;have aH:Hid (w5.alloc (.cells #[.slice A1 np c1,.slice A2 nq c2] 135)=wx):=aF.symm;have aD:Hid (Below w5.heap.size w5 wx):=Zk (by rw[aF];exact (Zb _ w5).alloc (Zl _) _);have aA:Hid (wx.heap[X]? =some (.cells #[.slice A1 np c1,.slice A2 nq c2] 135 (0,0))):=Zk (by show _=_;rw[aF,eX];exact Zh w5 _);have aZ:Hid (∀W,Below wx.heap.size wx W→W.cell? ⟨X,0,none⟩=some (.slice A1 np c1)∧W.cell? ⟨X,1,none⟩=some (.slice A2 nq c2)):=Zk (fun W hg=>by
          have aM:=(hg.block X (Ae aA.out)).trans aA.out;exact⟨Zc W X 0 _ _ _ aM,Zc W X 1 _ _ _ aM⟩)
         have hX5:w5.heap.size≤X:=by omega
         have bP:Hid (Below wa.heap.size wa wx):=Zk (eT.out.trans (aD.out.mono eT.out.size));have dK:Hid (Below w.heap.size w wx):=Zk (bQ.out.trans (aD.out.mono bQ.out.size));go_upto_region 37 with fail
         rw[aH.out,←eX];clear aF eX;by_cases he:er=0
         case' neg=>
          have de:(er !=0)=true:=by rw[bne_iff_ne];exact he
          have gC:Hid (AlN P kk l W):=Zk (⟨i,hiW,p,er,dW.out,he⟩);clear he;go_wp2_with fail;refine bodyPost_ret (v:= .tuple #[.slice none 0 0,.slice none 0 0,.int .i64 12]) (by simp[results,Tryz.results68,go_sem]) rfl ?_;exact⟨[],[],12,_,_,rfl,dK.out,.inr ⟨eW.out,.inl ⟨gC.out,rfl,rfl,rfl⟩⟩,Jb _,World.ownsRow_nil _ _ _ _⟩
         subst he;have cS:Hid (q=wrg P (Cc l i) p):=Zk (HQ.out rfl);obtain⟨y0,y1⟩:=aZ.out wx (Zb _ _);have dR:Hid (PB Bb w0 wx u19 vs ps):=Zk (bI.out.grown aT (Af bP.out _));have fU:∀x∈p,At x:=un_r dW.out hB;have gJ:=Zk fU;have gM:Hid (SX (wx.alloc (.cells #[.slice A1 np c1] 22)) u19.ownBlock (some Bb) (.slice A1 np c1) p):=Zk (by
          have h1:=Bm (Bm gG.out aD.out) ((Zb _ wx).alloc (Zl _) (.cells #[.slice A1 np c1] 22));rw[←eZ.out] at h1;have h2:=SX.of_own (X:=u19.ownBlock) (Y:=some Bb) (l:=p) (by rw[←eZ.out];exact h1) gJ.out (fun k hk=>by have:=(bI.out.hdr.lt k hk).2;omega) (fun k hk=>by injection hk with e;omega)
          exact h2)
         have eN:vs.length=i:=by rw[bI.out.len,bU.out]
         have bV:Hid (PB Bb w0 (wx.alloc (.cells #[.slice A1 np c1] 22)) u19 vs ps):=Zk (dR.out.grown aT (Af ((Zb _ wx).alloc (Zl _) _) _));have hz0x:w0.heap.size≤wx.heap.size:=dR.out.bel.size;clear fU;have fX:∀b,u19.ownBlock=some b→w0.heap.size≤b∧b<wa.heap.size:=fun b hb=>bI.out.hdr.lt b hb
         have dV:=Zk fX;have hXlt:wa.heap.size≤X:=by have:=Ae aA.out;omega
         have hiB:i≤64:=by omega
         clear fX;go_upto_region 40 with (at_builtin;refine Bt _ (by rfl) _ _ 33 (by rfl) w0.heap.size 22 (.slice none 0 0) 24 Tryz.underlying33 Ev u19 i vs (by rfl) (by rw[←eN];exact bV.out.hdr) (.slice A1 np c1) (by rfl) wx.heap.size (by rfl) (by exact Ba wx [.slice A1 np c1] 22 0 _ rfl) (by omega) (by omega) (by rfl) (by simp;omega) ?_;intro g9 eC w9 aK cH cC;have dP:=Zk aK;have bR:=Zk cH;have gA:=Zk cC;clear aK cH cC)
         have gI:Hid (PB Bb w0 w9 (.slice (some ⟨g9,0,none⟩) (i+1) eC) (vs++[.slice A1 np c1]) (ps++[p])):=Zk (bV.out.app aT gM.out (by rw[eN];exact dP.out) bR.out (fun g hg=>by
          have e:g9=g:=by simpa [Value.ownBlock] using hg
          rw[←e];exact gA.out))
         have hzx9:wx.heap.size<w9.heap.size:=by have:=bR.out.size;simp at this;omega
         have aN:∀b,b<wx.heap.size→(∀a,u19.ownBlock=some a→a≠b)→w9.heap[b]? =wx.heap[b]? :=fun b hb hn=>(bR.out.block b (by simp;omega) (fun e=>hn b e.symm rfl)).trans (Below.heap_alloc wx _ _ hb)
         have gP:Hid (w9.heap[X]? =some (.cells #[.slice A1 np c1,.slice A2 nq c2] 135 (0,0))):=Zk ((aN X (Ae aA.out) (fun a ha=>by have:=(dV.out a ha).2;omega)).trans aA.out)
         have dG:Hid (BBk w9 Bb (n+1) BL):=Zk ((aN Bb (by have:=dR.out.bel.size;omega) (fun a ha=>by have:=(dV.out a ha).1;omega)).trans ((bP.out.block Bb (by omega)).trans dH.out))
         have dT:Hid (SE Bb w9 (.slice A2 nq c2) q):=Zk (by
          have h1:=Bm gH.out aD.out;rw[←bH.out] at h1;have h2:w9.ownsRow wr.heap.size 3 1 (.slice A2 nq c2) nq (q.map (Value.int .i64)):=Bu h1 (fun b hb=>aN b (h1.lt b hb).2 (fun a ha=>by have:=(dV.out a ha).2;have:=(h1.lt b hb).1;omega))
          have hF:∀x∈q,At x:=fun x hx=>by
           rw[cS.out] at hx;have:=Pj P _ _ x hx;rw[Bp,←HN.out] at this;unfold At;omega
          have h3:=SE.of_own (g:=Bb) (l:=q) (by rw[←bH.out];exact h2) hF (by omega);exact h3)
         have hG:w9.cell? ⟨X,1,none⟩=some (.slice A2 nq c2):=Zc w9 X 1 _ _ _ gP.out;have gK:Hid (∀j (h:j<q.length),1≤q[j]∧q[j]≤(n:Int)):=Zk (fun j h=>by
          have h1:q[j]∈wrg P (Cc l i) p:=by rw[←cS.out];exact List.getElem_mem h
          have:=Pj P _ _ _ h1;rw[Bp,←HN.out] at this;exact this)
         have dY:Hid (∀x:Nat,(x∈BL∨(x:Int)∈q)↔(x:Int)∈wrA P l 0 (ps++[p])):=Zk (fun x=>by
          rw[Ng,List.mem_append,eU.out x,cS.out,Nat.zero_add,bU.out])
         have dX:Hid (∀j (h:j<(ps++[p]).length),UnR P (Cc l j) kk (ps++[p])[j] 0):=Zk (fun j h=>by
          by_cases hj:j<ps.length
          ·rw[List.getElem_append_left hj];exact fC.out j hj
          ·have e:j=ps.length:=by simp at h;omega
           subst e;rw[List.getElem_append_right (Zl _)];simp only[Nat.sub_self,List.getElem_cons_zero];rw[bU.out];exact dW.out)
         have dQ:Hid ((ps++[p]).length=i+1):=Zk (by show _=_;rw[List.length_append,bU.out];rfl);have hq64:nq≤1000000:=by rw[bH.out,cS.out];have:=zCb (P:=P) (l:=Cc l i) p;have h2:=Ft (Cc l i) 0;rw[Bp,←HN.out] at h2;unfold kn at this;omega
         clear y0 y1 eN aN;go_wp2_with fail;clear hG;go_loopw [125] (fun iv wr=>CoF q (n+1) Bb BL w9 iv wr) (fun iv _=>nq- (intOf iv).toNat)
         case atStart=>exact⟨0,BL,Nat.zero_le _,rfl,dG.out,fun x=>by simp,Ai _ _⟩
         case round=>
          obtain⟨j2,eQ,hE,rfl,cE,cF,cI⟩:=hrel;rw[←bH.out] at hE;have aX:=Zk cE;have bN:=Zk cF;have bF:=Zk cI;clear cE cF cI;have wj:IntKind.i64.wrap ((j2:Int)+1)=(j2:Int)+1:=by exact Zi _ (by omega)
          by_cases hlq:j2<nq
          ·have dq:decide ((j2:Int)<(nq:Int))=true:=Ze (by omega);have gQ:decide (j2<nq)=true:=Ze hlq;have eK:j2<q.length:=by rw[←bH.out];exact hlq
           obtain⟨bq,oq,eA,hbq,fM⟩:=((dT.out.grown bF.out).si).cells (by omega);subst eA;have cq:=fM j2 eK;have fV:=gK.out j2 eK;obtain⟨xn,eG⟩:∃xn:Nat,q[j2]=(xn:Int):=⟨q[j2].toNat,by omega⟩;rw[eG] at cq fV;have dU:Hid (q.take (j2+1)=q.take j2++[(xn:Int)]):=Zk (by show _=_;rw[List.take_succ_eq_append_getElem eK,eG]);have t0:(0:Int)≤(xn:Int):=by omega
           have t1:(xn:Int)<(n:Int)+1:=by omega
           have t2:xn<n+1:=by omega
           have t3:(0:Int)≤(j2:Int):=by omega
           have t4:(j2:Int)<(nq:Int):=by omega
           have cb:=aX.out.cell t2;have fb:=aX.out.frozen xn;clear fM eG fV;go_wp2_with fail;go_roundw
           case rel=>
            refine⟨j2+1,xn::eQ,by rw[←bH.out];omega,by go_num,aX.out.set xn,fun x=> ?_,Yq bF.out⟩
            rw[List.mem_cons,bN.out x,dU.out,List.mem_append];constructor
            ·rintro (h|h|h)
             ·exact .inr (.inr (by rw[h];simp))
             ·exact .inl h
             ·exact .inr (.inl h)
            ·rintro (h|h|h)
             ·exact .inr (.inl h)
             ·exact .inr (.inr h)
             ·exact .inl (by simp at h;omega)
           case measure=>simp[intOf];omega
          ·have dq:decide ((j2:Int)<(nq:Int))=false:=Zd (by omega);have gQ:decide (j2<nq)=false:=Zd hlq;have dU:Hid (q.take j2=q):=Zk (List.take_of_length_le (by rw[←bH.out];omega));clear hlq;go_wp2_with fail;go_roundw
           case rel=>
            refine⟨i+1,_,ps++[p],eQ,by omega,by go_num,gI.out.grown aT bF.out,dQ.out,dX.out,aX.out,fun x=> ?_⟩
            rw[bN.out x,dU.out];exact dY.out x
           case measure=>simp[intOf];omega
      ·have dk:decide ((i:Int)<(W:Int))=false:=Zd (by omega);have cA:decide (i<W)=false:=Zd hiW;have eJ:i=W:=by omega
       subst eJ;obtain⟨wz,gZ⟩:∃wz:World,wz=wr:=⟨_,rfl⟩;subst gZ;have gB:Hid (AlR P kk l i ps (flg BL (n+1))):=Zk (⟨bU.out,fC.out,(zDb eU.out (fun z hz=>by have:=Tt P l ps z hz;rw[←HN.out] at this;omega)).symm⟩)
       obtain⟨Ap,cp,gT⟩:=Ct bI.out.hdr;subst gT;clear hiW;go_wp2_with fail;clear dk cA;go_loopw [29,135] (fun wv iv wr=>CoG BL (n+1) wz wv iv wr) (fun _ iv _=>n+1- (intOf iv).toNat)
       case atStart=>exact⟨0,Nat.zero_le _,rfl,by simpa [flg] using World.ownsRow_nil wz wz.heap.size 3 1,Zb _ _⟩
       case round=>
        obtain⟨j3,hj3,rfl,aQ,aE⟩:=hrel;have bS:=Zk aQ;have cN:=Zk aE;have cM:=aE.size;have hC:=zDa BL j3;have cQ:=Zk (Yl BL j3);have dF:Hid (BBk wr Bb (n+1) BL):=Zk ((aE.block Bb dH.out.lt).trans dH.out);have wj:IntKind.i64.wrap ((j3:Int)+1)=(j3:Int)+1:=by exact Zi _ (by omega)
        obtain⟨S,eS⟩:∃S,S=flg BL j3:=⟨_,rfl⟩;rw[←eS] at bS cQ hC;have gE:=Zk eS;clear aQ aE eS;by_cases hlt:j3<n+1
        ·have dl:decide ((j3:Int)<(n:Int)+1)=true:=Ze (by omega);have bA:decide (j3<n+1)=true:=Ze hlt;have cb:=dF.out.cell hlt;have t0:(0:Int)≤(j3:Int):=by omega
         have t1:(j3:Int)<(n:Int)+1:=by omega
         obtain⟨fb,fE⟩:∃fb,fb=decide (j3∈BL):=⟨_,rfl⟩;rw[←fE] at cb cQ;clear fE
         cases fb with
         |false=>
          go_wp2_with fail;go_roundw
          case rel=>exact⟨j3+1,by omega,by go_num,by rw[cQ.out];simpa using bS.out,cN.out⟩
          case measure=>simp[intOf];omega
         |true=>
          go_wp2_with (at_builtin;refine Bh wr (by rfl) _ _ 22 (by rfl) wz.heap.size 3 Tryz.underlying22 Bi _ S (by rfl) (by exact bS.out) (j3:Int) (by rfl) (by omega) (by exact cM) ?_;intro v9 w9 aK cH;have dP:=Zk aK;have bR:=Zk cH;clear aK cH);go_roundw
          case rel=>exact⟨j3+1,by omega,by go_num,by rw[cQ.out];simpa using dP.out,(cN.out.alloc cM _).grown bR.out (by simp;omega) (fun b hb=>(bS.out.lt b hb).1)⟩
          case measure=>simp[intOf];omega
        ·have dl:decide ((j3:Int)<(n:Int)+1)=false:=Zd (by omega);have bA:decide (j3<n+1)=false:=Zd hlt;have fR:j3=n+1:=by omega
         have fB:Hid (wr.ownsRow w.heap.size 3 1 u29 (flg BL (n+1)).length ((flg BL (n+1)).map (Value.int .i64))):=Zk (by rw[←fR,←gE.out];exact Cf bS.out (Nat.le_trans aB.out.size aS.out.size));obtain⟨Aw,cw,fH⟩:=Ct fB.out;have dJ:Hid (Below w.heap.size w wr):=Zk (aB.out.trans ((aS.out.trans (cN.out.mono aS.out.size)).mono aB.out.size));have bW:Hid (SL wr (.slice Ap vs.length cp) ps):=Zk ((bI.out.grown aT (Af cN.out _)).sl);obtain⟨nw,fG⟩:∃nw,nw=(flg BL (n+1)).length:=⟨_,rfl⟩;rw[←fG] at fH;subst fH;obtain⟨nv,fF⟩:∃nv,nv=vs.length:=⟨_,rfl⟩;rw[←fF] at bW⊢;clear fG fR fF;go_wp2_with fail;refine bodyPost_ret (v:= .tuple #[.slice Ap nv cp,.slice Aw nw cw,.int .i64 0]) (by simp[results,Tryz.results68,go_sem]) rfl ?_;exact⟨ps,flg BL (n+1),0,_,_,rfl,dJ.out,.inr ⟨eW.out,.inr ⟨gB.out,rfl⟩⟩,bW.out,fB.out⟩
end Go.Proofs.YtoiabanpnkpbhaaGreatDoor
