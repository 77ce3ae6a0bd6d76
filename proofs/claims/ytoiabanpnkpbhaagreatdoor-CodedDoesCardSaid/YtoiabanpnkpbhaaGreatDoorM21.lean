/- Parts. -/
import Derived.Test.YtoiabanpnkpbhaaGreatDoorM18
import Derived.Test.YtoiabanpnkpbhaaGreatDoorM20
import Derived.Test.YtoiabanpnkpbhaaGreatDoorM15
set_option linter.unusedVariables false
set_option linter.unusedSimpArgs false
set_option maxRecDepth 100000
set_option maxHeartbeats 8000000
namespace Go.Proofs.YtoiabanpnkpbhaaGreatDoor
open Go.RowKit
theorem Dt{P:Program}(w:World){ops:Array Oper}{o:Oper}{a:Act}{K:Act→World→Prop}{Q:Exit→Act→World→Prop}{E:Prop}(hgd:o.guard=none)(s x:Operand)(t:TypeId)
  (ho:o.op= .call {callee:= .builtin .append,args:= #[s,x],argTypes:= #[t,t]})
  (base:Nat) (e:TypeId) (ht:P.underlying t=some (.slice e)) (hinfo:(P.info? e).map (fun i=>(i.zero,i.size,i.bytes))=some (some (.int .i64 0),1,8))
  (v:Value) (xs:List Int) (hs:a.eval s=v) (hown:w.ownsRow base e 1 v xs.length (xs.map (Value.int .i64)))
  (B:Nat) (src:Value) (l:List Int) (hx:a.eval x=src) (hr:SB B w src l) (hl:0<l.length)
  (hbytes:xs.length+l.length≤17592186044416) (hbase:base≤w.heap.size)
  (h:∀g aA w',w'.ownsRow base e 1 (.slice (some ⟨g,0,none⟩) (xs++l).length aA) (xs++l).length ((xs++l).map (Value.int .i64))→w.grownBy w' v.ownBlock→(v.ownBlock=some g∨g=w.heap.size)→K (a.put o.dst (.slice (some ⟨g,0,none⟩) (xs++l).length aA)) w'):
  if Region.wanted o (yielded ops a.tmps)=true then Oper.wp P o a w K Q else E:=by
 obtain⟨i0,aD,aF,aG,aH⟩:=info_parts hinfo;have hw:Region.wanted o (yielded ops a.tmps)=true:=by simp[Region.wanted,hgd]
 rw[if_pos hw];obtain⟨v',w',aB,h2,h3,h4⟩:=Cx (P:=P) w base t o.type e i0 _ 1 8 ht aD aF aG aH rfl (by omega) v _ _ hown B src _ _ hr.sc (Hk l) (by unfold maxLen;omega) (by omega) hbase;have aC:w'.ownsRow base e 1 v' (xs++l).length ((xs++l).map (Value.int .i64)):=by rw[List.length_append,List.map_append];exact h2
 rcases aC.2 with⟨_,aE⟩|⟨g,aA,cur,rfl,hb,hg,hnc,hcm,hcs,htake⟩
 ·rw[List.length_append] at aE;omega
 ·unfold Oper.wp execOp;simp only[ho,resolve,invoke,builtin,Sem.run_bind,Sem.run_pure,Result.andThen_ok,List.map_toArray,List.map_cons,List.map_nil,hs,hx,aB];refine h g aA w' aC h3 ?_;rcases h4 with e4|e4
  ·exact .inl (by rw[←e4];rfl)
  ·exact .inr (by simpa [Value.ownBlock] using e4)
def kcl(P:Int)(a e:Nat)(K:List (Int×Int)):List Int:=K.flatMap fun t=>pw P t.1 a++ngl P t.2 (pw P t.1 e)
def krl(P:Int)(e:Nat)(K:List (Int×Int)):List Int:=K.map fun t=>t.2*(t.1^e%P)%P
theorem Qp(P:Int)(a e:Nat)(K:List (Int×Int))(t:Int×Int):kcl P a e (K++[t])=kcl P a e K++pw P t.1 a++ngl P t.2 (pw P t.1 e):=by
 simp[kcl]
theorem Qs(P:Int)(e:Nat)(K:List (Int×Int))(t:Int×Int):krl P e (K++[t])=krl P e K++[t.2*(t.1^e%P)%P]:=by simp[krl]
theorem Ow(P y:Int)(l:List Int):(ngl P y l).length=l.length:=by simp[ngl]
theorem Lg(P:Int)(a e:Nat)(K:List (Int×Int)):(kcl P a e K).length=K.length*(a+e):=by
 induction K with
 |nil=>simp[kcl]
 |cons t K ih=>
  have:kcl P a e (t::K)=(pw P t.1 a++ngl P t.2 (pw P t.1 e))++kcl P a e K:=by simp[kcl]
  rw[this,List.length_append,ih];simp only[List.length_append,Eh,Ow,List.length_cons];rw[Nat.add_mul];omega
theorem Jn(P:Int)(e:Nat)(K:List (Int×Int)):(krl P e K).length=K.length:=by simp[krl]
theorem zEd{P:Int}(hP:2≤P)(y:Int)(l:List Int):els P (ngl P y l)=true:=Ce fun x hx=>by
 obtain⟨t,_,rfl⟩:=List.mem_map.1 hx;exact Fq hP _
theorem Jk{P:Int}(hP:2≤P)(a e:Nat)(K:List (Int×Int)):els P (kcl P a e K)=true:=Ce fun x hx=>by
 unfold kcl at hx;rw[List.mem_flatMap] at hx;obtain⟨t,_,hx⟩:=hx;rcases List.mem_append.1 hx with h|h
 ·exact Be (zBe hP _ _) x h
 ·exact Be (zEd hP _ _) x h
theorem Jm{P:Int}(hP:2≤P)(e:Nat)(K:List (Int×Int)):els P (krl P e K)=true:=Ce fun x hx=>by
 obtain⟨t,_,rfl⟩:=List.mem_map.1 hx;exact Fq hP _
theorem zDm(P:Int)(a e:Nat):∀(K:List (Int×Int)) (i:Nat) (hi:i<K.length),((kcl P a e K).drop (i*(a+e))).take (a+e)=pw P K[i].1 a++ngl P K[i].2 (pw P K[i].1 e):=by
 intro K;induction K with
 |nil=>intro i hi;simp at hi
 |cons t K ih=>
  intro i hi;have:kcl P a e (t::K)=(pw P t.1 a++ngl P t.2 (pw P t.1 e))++kcl P a e K:=by simp[kcl]
  have hl:(pw P t.1 a++ngl P t.2 (pw P t.1 e)).length=a+e:=by simp[Eh,Ow]
  rw[this]
  cases i with
  |zero=>rw[Nat.zero_mul,List.drop_zero,List.take_left' hl];rfl
  |succ i=>
   have h2:(i+1)*(a+e)=(a+e)+i*(a+e):=by rw[Nat.add_mul];omega
   rw[h2,←List.drop_drop,List.drop_left' hl];exact ih i (by simpa using hi)
theorem Uf(P:Int)(a e:Nat)(K:List (Int×Int))(i:Nat)(hi:i<K.length):Gx (kcl P a e K) (krl P e K) (a+e) i=Kx P a e K[i]:=by
 rw[Gx,zDm P a e K i hi,Bw (by rw[Jn];exact hi),Kx];simp[krl]
theorem Mu{P:Int}{a e:Nat}{K:List (Int×Int)}{x:List Int}:Ry P K.length (a+e) (kcl P a e K) (krl P e K) x↔Sol P K a e x:=by
 constructor
 ·rintro⟨h1,h2⟩;refine⟨h1,fun t ht=> ?_⟩
  obtain⟨i,hi,rfl⟩:=List.mem_iff_getElem.1 ht;have:=h2 i hi
  rwa [Uf P a e K i hi] at this
 ·rintro⟨h1,h2⟩;refine⟨h1,fun i hi=> ?_⟩
  rw[Uf P a e K i hi];exact h2 _ (List.getElem_mem hi)
theorem Ic(P x:Int)(n:Nat):pw P x (n+1)=pw P x n++[x^n%P]:=by
 unfold pw;rw[List.range_succ,List.map_append];rfl
theorem zEk(P x:Int){n m:Nat}(h:m≤n):(pw P x n).take m=pw P x m:=by
 unfold pw;rw[←List.map_take,List.take_range,Nat.min_eq_left h]
theorem Qx(P y:Int)(l:List Int)(t:Int):ngl P y (l++[t])=ngl P y l++[(0-y*t%P+P)%P]:=by simp[ngl]
open Go.RowKit
def KeP(P:Int)(a e:Nat)(K:List (Int×Int))(w:World)(en:Ending)(w':World):Prop:=
 ∃vc vr:Value,en= .returned (.tuple #[.agg #[.int .i64 P,.int .i64 K.length,.int .i64 ((a+e:Nat):Int),vc,vr],.int .i64 0])∧Below w.heap.size w w'∧SI w' vc (kcl P a e K)∧SI w' vr (krl P e K)
def KO(O:Nat)(P:Int)(n C:Int)(vc vr:Value)(cl rl:List Int)(w:World):Prop:=
 w.heap[O]? =some (.cells #[.int .i64 P,.int .i64 n,.int .i64 C,vc,vr] 162 (0,0))∧Dr (O+1) w vc cl vr rl
theorem KO.alloc{O:Nat}{P n C:Int}{vc vr:Value}{cl rl:List Int}{w:World}(h:KO O P n C vc vr cl rl w)(o:Obj):KO O P n C vc vr cl rl (w.alloc o):=
 ⟨(Below.heap_alloc w o O (Ae h.1)).trans h.1,h.2.alloc o⟩
theorem KO.below{O:Nat}{P n C:Int}{vc vr:Value}{cl rl:List Int}{w w':World}(h:KO O P n C vc vr cl rl w)(hb:Below w.heap.size w w'):KO O P n C vc vr cl rl w':=
 ⟨(hb.block O (Ae h.1)).trans h.1,Bm h.2.1 hb,Bm h.2.2.1 hb,h.2.2.2⟩
theorem KO.lt{O:Nat}{P n C:Int}{vc vr:Value}{cl rl:List Int}{w:World}(h:KO O P n C vc vr cl rl w):O<w.heap.size:=Ae h.1
theorem KO.cells{O:Nat}{P n C:Int}{vc vr:Value}{cl rl:List Int}{w:World}(h:KO O P n C vc vr cl rl w):
  w.cell? ⟨O,1,none⟩=some (.int .i64 n)∧w.cell? ⟨O,3,none⟩=some vc∧w.cell? ⟨O,4,none⟩=some vr:=
 ⟨Zc w O 1 _ _ _ h.1,Zc w O 3 _ _ _ h.1,Zc w O 4 _ _ _ h.1⟩
theorem KO.frozen{O:Nat}{P n C:Int}{vc vr:Value}{cl rl:List Int}{w:World}(h:KO O P n C vc vr cl rl w)(j:Nat):w.frozen? ⟨O,j,none⟩=false:=Zf w O j _ _ h.1
theorem Dr.set{B:Nat}{w:World}{v u:Value}{xs ys:List Int}(h:Dr B w v xs u ys){p:Addr}(hp:p.block<B)(x:Value):Dr B (w.setCell p x) v xs u ys:=⟨Bc h.1 hp x,Bc h.2.1 hp x,h.2.2⟩
theorem KO.app{O:Nat}{P n C:Int}{vc vr:Value}{cl rl more:List Int}{w w2:World}{g cap:Nat}(h:KO O P n C vc vr cl rl w)
  (hown:w2.ownsRow (O+1) 3 1 (.slice (some ⟨g,0,none⟩) (cl++more).length cap) (cl++more).length ((cl++more).map (Value.int .i64))) (hg:w.grownBy w2 vc.ownBlock) (hat:vc.ownBlock=some g∨g=w.heap.size):
  KO O P n C (.slice (some ⟨g,0,none⟩) (cl++more).length cap) vr (cl++more) rl (w2.setCell ⟨O,3,none⟩ (.slice (some ⟨g,0,none⟩) (cl++more).length cap)):=by
 have h1:w2.heap[O]? =w.heap[O]? :=hg.block O h.lt (fun e=>by have:=(h.2.1.lt O e.symm).1;omega)
 refine⟨?_,(h.2.app1 hown hg hat).set (Nat.lt_succ_self O) _⟩;rw[heap_setCell_same w2 O 3 _ _ _ (h1.trans h.1)];simp
theorem KO.appR{O:Nat}{P n C:Int}{vc vr:Value}{cl rl more:List Int}{w w2:World}{g cap:Nat}(h:KO O P n C vc vr cl rl w)
  (hown:w2.ownsRow (O+1) 3 1 (.slice (some ⟨g,0,none⟩) (rl++more).length cap) (rl++more).length ((rl++more).map (Value.int .i64))) (hg:w.grownBy w2 vr.ownBlock) (hat:vr.ownBlock=some g∨g=w.heap.size):
  KO O P n C vc (.slice (some ⟨g,0,none⟩) (rl++more).length cap) cl (rl++more) (w2.setCell ⟨O,4,none⟩ (.slice (some ⟨g,0,none⟩) (rl++more).length cap)):=by
 have h1:w2.heap[O]? =w.heap[O]? :=hg.block O h.lt (fun e=>by have:=(h.2.2.1.lt O e.symm).1;omega)
 refine⟨?_,((h.2.swap.app1 hown hg hat).swap).set (Nat.lt_succ_self O) _⟩;rw[heap_setCell_same w2 O 4 _ _ _ (h1.trans h.1)];simp
theorem KO.row{O:Nat}{P n C:Int}{vc vr:Value}{cl rl:List Int}{w:World}(h:KO O P n C vc vr cl rl w)(n':Int):KO O P n' C vc vr cl rl (w.setCell ⟨O,1,none⟩ (.int .i64 n')):=by
 refine⟨?_,h.2.set (Nat.lt_succ_self O) _⟩;rw[heap_setCell_same w O 1 _ _ _ h.1];simp
def KeR(P C:Int)(l:List (Int×Bool))(a e O:Nat)(w1:World)(i:Value)(wr:World):Prop:=
 ∃(k:Nat) (vc vr:Value),k≤l.length∧i= .int .i64 k∧KO O P (kn (l.take k)).length C vc vr (kcl P a e (kn (l.take k))) (krl P e (kn (l.take k))) wr∧Below O w1 wr
def Ke3(P C x y:Int)(e O bc bp:Nat)(n:Int)(vr:Value)(CB RL:List Int)(w2 wu:World)(jv:Value)(wr:World):Prop:=
 ∃(j:Nat) (vc':Value),j≤e∧jv= .int .i64 j∧KO O P n C vc' vr (CB++ngl P y (pw P x j)) RL wr∧Below O w2 wr∧wr.heap[bc]? =some (.cells #[.int .i64 y,.bool true] 140 (0,0))∧wr.heap[bp]? =wu.heap[bp]? ∧vc'.ownBlock≠some bp∧vc'.ownBlock≠some bc∧wu.heap.size≤wr.heap.size
theorem zAl{P C x y:Int}{e O bc bp j:Nat}{n:Int}{vr vc':Value}{CB CJ RL:List Int}{w2 wu wr w9:World}{g9 cap9:Nat}{s1:Int}{o:Obj}(hj:j<e)(hCJ:CJ=CB++ngl P y (pw P x j))(hs:ngl P y (pw P x (j+1))=ngl P y (pw P x j)++[s1])
  (h1:KO O P n C vc' vr CJ RL wr) (h2:Below O w2 wr) (h3:wr.heap[bc]? =some (.cells #[.int .i64 y,.bool true] 140 (0,0))) (h4:wr.heap[bp]? =wu.heap[bp]?) (h5:vc'.ownBlock≠some bp) (h6:vc'.ownBlock≠some bc) (h7:wu.heap.size≤wr.heap.size)
  (hbc:bc≠O) (hbp:bp≠O) (hbpu:bp<wu.heap.size)
  (hg:(wr.alloc o).grownBy w9 vc'.ownBlock) (ho:w9.ownsRow (O+1) 3 1 (.slice (some ⟨g9,0,none⟩) (CJ++[s1]).length cap9) (CJ++[s1]).length ((CJ++[s1]).map (Value.int .i64))) (ha:vc'.ownBlock=some g9∨g9=(wr.alloc o).heap.size):
  Ke3 P C x y e O bc bp n vr CB RL w2 wu (.int .i64 ((j:Int)+1)) (w9.setCell ⟨O,3,none⟩ (.slice (some ⟨g9,0,none⟩) (CJ.length+1) cap9)):=by
 have hO:=h1.lt;have aD:=(h1.alloc o).app ho hg ha;have aF:(CJ++[s1]).length=CJ.length+1:=by simp
 rw[aF] at aD;have aH:=h1.2.1.lt;have aB:bc<wr.heap.size:=Ae h3;have aE:Below O w2 w9:=(h2.alloc (by omega) o).trans (Cm hg (by simp;omega) (fun q hq=>by have:=(aH q hq).1;omega))
 have aC:w9.heap[bp]? =wr.heap[bp]? :=(hg.block bp (by simp;omega) (fun e1=>h5 e1.symm)).trans (Below.heap_alloc wr _ bp (by omega))
 have aA:w9.heap[bc]? =wr.heap[bc]? :=(hg.block bc (by simp;omega) (fun e1=>h6 e1.symm)).trans (Below.heap_alloc wr _ bc aB)
 have aG:=hg.size;simp at aG;refine⟨j+1,.slice (some ⟨g9,0,none⟩) (CJ.length+1) cap9,by omega,by simp,?_,aE.setCell (Zl _) _,?_,?_,fun e1=> ?_,fun e1=> ?_,?_⟩
 ·rw[hs,←List.append_assoc,←hCJ];exact aD
 ·exact (Zo w9 _ bc _ (by show bc≠O;exact hbc)).trans (aA.trans h3)
 ·exact (Zo w9 _ bp _ (by show bp≠O;exact hbp)).trans (aC.trans h4)
 ·have e2:g9=bp:=by injection e1
  rcases ha with h|h
  ·exact h5 (by rw[h,e2])
  ·simp at h;omega
 ·have e2:g9=bc:=by injection e1
  rcases ha with h|h
  ·exact h6 (by rw[h,e2])
  ·simp at h;omega
 ·have h3:(w9.setCell ⟨O,3,none⟩ (.slice (some ⟨g9,0,none⟩) (CJ.length+1) cap9)).heap.size=w9.heap.size:=by simp[World.setCell]
  rw[h3];omega
theorem zGs{P C x y:Int}{l:List (Int×Bool)}{a e O i:Nat}{K0:List (Int×Int)}{vr vc':Value}{CJ RL:List Int}{w2 wr w9:World}{g9 cap9:Nat}{s1:Int}{o:Obj}(hil:i<l.length)
  (hK:kn (l.take (i+1))=K0++[(x,y)]) (hCJ:CJ=kcl P a e K0++pw P x a++ngl P y (pw P x e)) (hRL:RL=krl P e K0) (hs:s1=y*(x^e%P)%P)
  (h1:KO O P K0.length C vc' vr CJ RL wr) (h2:Below O w2 wr)
  (hg:(wr.alloc o).grownBy w9 vr.ownBlock) (ho:w9.ownsRow (O+1) 3 1 (.slice (some ⟨g9,0,none⟩) (RL++[s1]).length cap9) (RL++[s1]).length ((RL++[s1]).map (Value.int .i64))) (ha:vr.ownBlock=some g9∨g9=(wr.alloc o).heap.size):
  (w9.setCell ⟨O,4,none⟩ (.slice (some ⟨g9,0,none⟩) (RL.length+1) cap9)).cell? ⟨O,1,none⟩=some (.int .i64 K0.length)∧(w9.setCell ⟨O,4,none⟩ (.slice (some ⟨g9,0,none⟩) (RL.length+1) cap9)).frozen? ⟨O,1,none⟩=false∧
  KeR P C l a e O w2 (.int .i64 ((i:Int)+1)) ((w9.setCell ⟨O,4,none⟩ (.slice (some ⟨g9,0,none⟩) (RL.length+1) cap9)).setCell ⟨O,1,none⟩ (.int .i64 ((K0.length:Int)+1))):=by
 have hO:=h1.lt;have aA:=(h1.alloc o).appR ho hg ha;have aC:(RL++[s1]).length=RL.length+1:=by simp
 rw[aC] at aA;have aD:=h1.2.2.1.lt;have aB:Below O w2 w9:=(h2.alloc (by omega) o).trans (Cm hg (by simp;omega) (fun q hq=>by have:=(aD q hq).1;omega))
 refine⟨aA.cells.1,aA.frozen 1,i+1,vc',.slice (some ⟨g9,0,none⟩) (RL.length+1) cap9,by omega,by simp,?_,(aB.setCell (Zl _) _).setCell (Zl _) _⟩;have h3:=aA.row ((K0.length:Int)+1);have h4:((K0++[(x,y)]).length:Int)=(K0.length:Int)+1:=by simp
 rw[hK,Qp,Qs,h4];simp only[];rw[←hCJ,←hRL,←hs];exact h3
theorem zDn(P:Int)(l:List (Int×Bool))(k e:Nat)(v:Value)(w:World)(hp:prB P=true)(h:SCl w v l)(hz:l.length≤32)(hlP:(l.length:Int)<P)(hv:∀j (h:j<l.length),l[j].2=true→0≤l[j].1∧l[j].1<P)(hf:fiE P l k=0)(hk:1≤k)(hke:k+2*e≤32):
    Calls Tryz.prog 129 #[.agg #[.int .i64 P],v,.int .i64 k,.int .i64 e] w (KeP P (k+e) e (kn l) w):=by
  have HP:=Zk hp;have hP:=Bj hp;have gJ:At P:=by unfold At;omega
  have HS:=Zk h;have HF:=Zk hf;have HV:=Zk hv;obtain⟨A,c,rfl⟩:=h.form;clear hp h hf hv;go_enter Tryz.func129,Tryz.ntmps129;go_wp2_with fail;obtain⟨wa,bH⟩:∃wa:World,wa=(w.alloc (.cells #[.int .i64 P] 31)).alloc (.cells #[.int .i64 0,.int .i64 0,.int .i64 0,.slice none 0 0,.slice none 0 0] 162):=⟨_,rfl⟩;have eK:Hid (Below w.heap.size w wa):=Zk (by rw[bH];exact ((Zb _ w).alloc (Zl _) _).alloc (by simp) _);have fH:Hid (wa.heap[w.heap.size]? =some (.cells #[.int .i64 P] 31 (0,0))):=Zk (by
    show _=_;rw[bH,Below.heap_alloc _ _ _ (by simp)];exact Zh w _)
  have fY:Hid (wa.heap[w.heap.size+1]? =some (.cells #[.int .i64 0,.int .i64 0,.int .i64 0,.slice none 0 0,.slice none 0 0] 162 (0,0))):=Zk (by
    show _=_;rw[bH];have:=Zh (w.alloc (.cells #[.int .i64 P] 31)) (.cells #[.int .i64 0,.int .i64 0,.int .i64 0,.slice none 0 0,.slice none 0 0] 162);simpa using this)
  have eY:wa.heap.size=w.heap.size+2:=by rw[bH];simp
  have eR:Hid (SCl wa (.slice A l.length c) l):=Zk (HS.out.below eK.out);have fV:Hid ((w.alloc (.cells #[.int .i64 P] 31)).alloc (.cells #[.int .i64 0,.int .i64 0,.int .i64 0,.slice none 0 0,.slice none 0 0] 162)=wa):=bH.symm;have eN:=Zk (Qe P l k (.slice A l.length c) wa gJ eR.out (by omega));clear bH;rw[fV.out];(with_reducible refine eN.out.mono ?_);rintro e' w1 ⟨v1,rfl,_,bK⟩
  rw[HF.out];have hs1:wa.heap.size≤w1.heap.size:=bK.size;have f0:w1.cell? ⟨w.heap.size,0,none⟩=some (.int .i64 P):=(bK.cell (by show w.heap.size<wa.heap.size;omega)).trans (Zc wa w.heap.size 0 _ _ _ fH.out);have fW:Hid (w1.heap[w.heap.size+1]? =some (.cells #[.int .i64 0,.int .i64 0,.int .i64 0,.slice none 0 0,.slice none 0 0] 162 (0,0))):=Zk ((bK.block _ (by omega)).trans fY.out);have cP:Hid (Below w.heap.size w w1):=Zk (eK.out.trans (bK.mono (by omega)));have fP:Hid (SCl w1 (.slice A l.length c) l):=Zk (eR.out.below bK);have fQ:=Zk eY;clear bK eN eY;have d1:decide ((e:Int)<0)=false:=Zd (by omega);have d2:decide ((32:Int)<(e:Int))=false:=Zd (by omega);have d3:decide ((32:Int)<(k:Int)+2*(e:Int))=false:=Zd (by omega);have gC:=f0;go_wp2_with fail;obtain⟨O,eO⟩:∃O,O=w1.heap.size:=⟨_,rfl⟩;obtain⟨C,eC⟩:∃C:Int,C=(k:Int)+2*(e:Int):=⟨_,rfl⟩;obtain⟨w2,cN⟩:∃w2:World,w2=w1.alloc (.cells #[.int .i64 P,.int .i64 0,.int .i64 C,.slice none 0 0,.slice none 0 0] 162):=⟨_,rfl⟩;have fI:Hid (KO O P 0 C (.slice none 0 0) (.slice none 0 0) [] [] w2):=Zk (by
    rw[cN,eO];exact⟨Zh w1 _,World.ownsRow_nil _ _ _ _,World.ownsRow_nil _ _ _ _,fun k hk=>by simp[Value.ownBlock] at hk⟩)
  have cQ:Hid (Below w1.heap.size w1 w2):=Zk (by rw[cN];exact (Zb _ w1).alloc (Zl _) _);have fT:Hid (w1.alloc (.cells #[.int .i64 P,.int .i64 0,.int .i64 ((k:Int)+2*(e:Int)),.slice none 0 0,.slice none 0 0] 162)=w2):=Zk (by show _=_;rw[cN,eC]);have cR:Hid (Below w.heap.size w w2):=Zk (cP.out.trans (cQ.out.mono cP.out.size));have gI:w.heap.size≤O:=by rw[eO];exact cP.out.size
  have HS2:Hid (SCl w2 (.slice A l.length c) l):=Zk (fP.out.below cQ.out);have eL:=Zk eO;have fF:=Zk eC;rw[fT.out,←eO];clear cN eO eC f0 gC;go_loopw [59] (fun i wr=>KeR P C l (k+e) e O w2 i wr) (fun i _=>l.length- (intOf i).toNat)
  case atStart=>exact⟨0,.slice none 0 0,.slice none 0 0,Nat.zero_le _,rfl,fI.out,Zb _ _⟩
  case round=>
    obtain⟨i,vc,vr,hi,rfl,eU,bC⟩:=hrel;have aE:=Zk eU;have aQ:=Zk bC;have cD:Hid (Below w.heap.size w wr):=Zk (cR.out.trans (bC.mono gI));have hzr:w.heap.size≤wr.heap.size:=cD.out.size;clear eU bC;by_cases hil:i<l.length
    · obtain⟨A',c',eA,_,_,_,ha⟩:=HS.out;injection eA with eA1 eA2 eA3;subst eA1;obtain⟨b,fC,rfl,hb,aV⟩:=ha (by omega);obtain⟨c1,c2⟩:=aV i hil;have c1:=(cD.out.cell (p:=⟨b,fC+i*2,none⟩) hb).trans c1;have c2:=(cD.out.cell (p:=⟨b,fC+i*2+1,none⟩) hb).trans c2;have hbw:b<wr.heap.size:=by omega
      have dE:=Zk (Hv l i hil);have cF:=HV.out i hil;obtain⟨y,ey⟩:∃y,y=l[i].1:=⟨_,rfl⟩;rw[←ey] at c1 cF;have fG:=Zk ey;clear ha aV eA2 eA3 ey
      cases hkb:l[i].2 with
      |false=>
        rw[hkb] at c2;have aX:Hid (kn (l.take (i+1))=kn (l.take i)):=Zk (by show _=_;rw[dE.out,hkb];simp);have dD:Hid (∀o:Obj,KO O P (kn (l.take i)).length C vc vr (kcl P (k+e) e (kn (l.take i))) (krl P e (kn (l.take i))) (wr.alloc o)):=Zk (fun o=>aE.out.alloc o)
        have cS:Hid (∀o:Obj,Below O w2 (wr.alloc o)):=Zk (fun o=>aQ.out.alloc (by have:=aE.out.lt;omega) o)
        clear hkb cF;go_wp2_with fail;go_roundw
        case rel=>exact⟨i+1,vc,vr,by omega,by go_num,by rw[aX.out];exact dD.out _,cS.out _⟩
        case measure=>simp[intOf];omega
      |true=>
        rw[hkb] at c2;obtain⟨K0,cG⟩:∃K0,K0=kn (l.take i):=⟨_,rfl⟩;have aX:Hid (kn (l.take (i+1))=K0++[((i:Int)+1,y)]):=Zk (by show _=_;rw[dE.out,hkb,fG.out,cG];simp);have hy:=cF hkb;have eV:K0.length≤32:=by
            rw[cG];have:=Sb (l.take i);have h2:=Oe (l.take i);have:(l.take i).length≤32:=by simp;omega
            omega
        rw[←cG] at aE;obtain⟨x,ex⟩:∃x:Int,x=(i:Int)+1:=⟨_,rfl⟩;have hx:0≤x∧x<P:=by omega
        have eM:=Zk ex;have hx1:x≤(i:Int)+1:=by omega
        clear hkb cF cG dE ex;obtain⟨wq,bJ⟩:∃wq:World,wq=wr.alloc (.cells #[.int .i64 y,.bool true] 140):=⟨_,rfl⟩;have aK:Hid (KO O P K0.length C vc vr (kcl P (k+e) e K0) (krl P e K0) wq):=Zk (by rw[bJ];exact aE.out.alloc _);have bM:Hid (Below O w2 wq):=Zk (by rw[bJ];exact aQ.out.alloc (by have:=aE.out.lt;omega) _);have dA:Hid (wq.heap[wr.heap.size]? =some (.cells #[.int .i64 y,.bool true] 140 (0,0))):=Zk (by show _=_;rw[bJ];exact Zh wr _);have eX:wq.heap.size=wr.heap.size+1:=by rw[bJ];simp
        have fU:Hid (wr.alloc (.cells #[.int .i64 y,.bool true] 140)=wq):=bJ.symm;obtain⟨bc,cH⟩:∃bc,bc=wr.heap.size:=⟨_,rfl⟩;have dU:bc<wq.heap.size:=by omega
        rw[←cH] at dA;have HQS:=Zk eX;have aW:=Zk cH;clear bJ eX;go_upto_region 14 with fail
        rw[fU.out,←cH];clear cH;have gN:Hid (x^0%P=1):=Zk (by show _=_;rw[Int.pow_zero];exact Int.emod_eq_of_lt (by omega) (by omega));go_wp2_with fail;go_loopw [16,17,71] (fun pv ps jv wr=>∃j:Nat,j≤k+e+1∧jv= .int .i64 j∧pv= .int .i64 (x^j%P)∧Hid (wr.ownsRow wq.heap.size 3 1 ps (pw P x j).length ((pw P x j).map (Value.int .i64)))∧Hid (Below wq.heap.size wq wr)) (fun _ _ jv _=>k+e+1- (intOf jv).toNat)
        case atStart=>exact⟨0,Nat.zero_le _,by go_num,by rw[gN.out],(show Hid _ from World.ownsRow_nil _ _ _ _),(show Hid _ from Zb _ _)⟩
        case round=>
          obtain⟨j,hj,rfl,rfl,cE,bF⟩:=hrel;by_cases hjl:j<k+e+1
          · obtain⟨pj,aO⟩:∃v,v=x^j%P:=⟨_,rfl⟩;have dZ:0≤pj∧pj<P:=by rw[aO];exact⟨Int.emod_nonneg _ (by omega),Int.emod_lt_of_pos _ (by omega)⟩
            have fN:Hid (pw P x (j+1)=pw P x j++[pj]):=Zk (by show _=_;rw[aO];exact Ic P x j);have fM:Hid (pj*x%P=x^(j+1)%P):=Zk (by show _=_;rw[aO,Int.pow_succ,Int.mul_emod,Int.emod_emod_of_dvd _ (Int.dvd_refl P),←Int.mul_emod]);have eB:(pw P x j).length=j:=Eh _ _ _;have hd:decide ((j:Int)<(k:Int)+(e:Int)+1)=true:=Ze (by omega);have fB:wq.heap.size≤wr.heap.size:=bF.out.size;have aL:∀W:World,Calls Tryz.prog 53 #[.int .i64 P,.int .i64 pj,.int .i64 ((i:Int)+1)] W fun e w'=>e= .returned (.int .i64 (pj*x%P))∧W=w':=fun W=>by rw[←eM.out];exact Ef P pj x W hP dZ hx
            rw[←aO];clear aO;go_wp2_with (first
              | (at_builtin;refine Bh _ rfl _ _ 22 rfl wq.heap.size 3 Tryz.underlying22 Bi _ (pw P x j) rfl cE.out pj rfl (by omega) fB ?_;intro v9 w9 aA aD;have aT:=Zk aA;have aH:=Zk aD;clear aA aD)
              | (go_at_call 53;refine (aL _).mono ?_;rintro e9 w8 ⟨rfl,rfl⟩))
            go_roundw
            case rel=>
              refine⟨j+1,by omega,by go_num,by rw[fM.out],(show Hid _ from by rw[fN.out];exact aT.out),(show Hid _ from ?_)⟩;exact (bF.out.alloc fB _).trans (Cm aH.out (by simp;omega) (fun q hq=>(cE.out.lt q hq).1))
            case measure=>simp[intOf];omega
          · obtain rfl:j=k+e+1:=by omega
            have eB:(pw P x (k+e+1)).length=k+e+1:=Eh _ _ _;have eD:(pw P x (k+e)).length=k+e:=Eh _ _ _;have cB:=cE.out;rw[eB] at cB;obtain⟨bp,cp,gB,hbp1,dV⟩:=Dg cB (by omega);subst gB;have dI:Hid (SI wr (.slice (some ⟨bp,0,none⟩) (k+e+1) cp) (pw P x (k+e+1))):=Zk (by
              have:=SI.of_own cE.out (Ci hP.2 (zBe hP.1 _ _));exact this)
            have bR:Hid (SI wr (.slice (some ⟨bp,0,none⟩) (k+e) cp) (pw P x (k+e))):=Zk (by
              have:=dI.out.take (m:=k+e) (by omega)
              rwa [zEk P x (by omega)] at this)
            have cX:Hid (∀j,j<e→wr.cell? ⟨bp,j,none⟩=some (.int .i64 (x^j%P))):=Zk (fun j hj=>by
              have h1:=cB.cellAt j (by omega);rw[h1,List.getElem?_map,List.getElem?_eq_getElem (by rw[Eh];omega)];simp[pw])
            have bN:Hid (wr.cell? ⟨bp,e,none⟩=some (.int .i64 (x^e%P))):=Zk (by
              have h1:=cB.cellAt e (by omega);show _=_;rw[h1,List.getElem?_map,List.getElem?_eq_getElem (by rw[Eh];omega)];simp[pw])
            have hcpl:k+e+1≤cp:=by obtain⟨_,_,e1,h1,_⟩:=dI.out;injection e1 with _ _ e3;omega
            obtain⟨wt,aU⟩:∃wt:World,wt=wr:=⟨_,rfl⟩;have aF:Hid (KO O P K0.length C vc vr (kcl P (k+e) e K0) (krl P e K0) wt):=Zk (by rw[aU];exact aK.out.below bF.out);have cT:Hid (Below O w2 wt):=Zk (by rw[aU];exact bM.out.trans (bF.out.mono (by have:=aK.out.lt;omega)));have fD:Hid (wt.heap[bc]? =some (.cells #[.int .i64 y,.bool true] 140 (0,0))):=Zk (by rw[aU];exact (bF.out.block bc dU).trans dA.out);have cY:Hid (∀j,j<e→wt.cell? ⟨bp,j,none⟩=some (.int .i64 (x^j%P))):=Zk (by rw[aU];exact cX.out);have cW:Hid (wt.cell? ⟨bp,e,none⟩=some (.int .i64 (x^e%P))):=Zk (by rw[aU];exact bN.out);rw[←aU] at dI bR dV⊢;have fA:∀q,vc.ownBlock=some q→O+1≤q∧q<wq.heap.size:=aK.out.2.1.lt;have cC:∀q,vr.ownBlock=some q→O+1≤q∧q<wq.heap.size:=aK.out.2.2.1.lt;have dK:=Zk fA;have dL:=Zk cC;have hzt:wq.heap.size≤wt.heap.size:=by rw[aU];exact bF.out.size
            have gH:O<wt.heap.size:=aF.out.lt;have bG:=aF.out.cells.2.1;have cO:=aF.out.frozen 3;have aR:Hid (wt.ownsRow (O+1) 3 1 vc (kcl P (k+e) e K0).length ((kcl P (k+e) e K0).map (Value.int .i64))):=Zk (aF.out.2.1);have dY:(kcl P (k+e) e K0).length≤10000:=by
              rw[Lg];exact Nat.le_trans (Nat.mul_le_mul eV (by omega:k+e+e≤32)) (by omega)
            obtain⟨CL,dN⟩:∃CL,CL=kcl P (k+e) e K0:=⟨_,rfl⟩;obtain⟨RL,dO⟩:∃RL,RL=krl P e K0:=⟨_,rfl⟩;rw[←dN] at aR dY aF;rw[←dO] at aF;have dB:=Zk dN;have bP:=Zk dO;have eP:Hid (∀q,q≤O→some q≠vc.ownBlock):=Zk (fun q hq e1=>by have:=(dK.out q e1.symm).1;omega)
            have fX:Hid (∀wb:World,wt.grownBy wb vc.ownBlock→wb.frozen? ⟨O,3,none⟩=false):=Zk (fun wb hg=>Zf wb O 3 _ _ ((hg.block O gH (eP.out O (Zl _))).trans aF.out.1))
            have eE:0<(pw P x (k+e)).length:=by omega
            have hple:(pw P x (k+e)).length≤32:=by omega
            have t1:(0:Int)≤(k:Int)+(e:Int):=by omega
            have t2:(k:Int)+(e:Int)≤(cp:Int):=by omega
            have t3:((k:Int)+(e:Int)).toNat=k+e:=by omega
            have t4:IntKind.i64.wrap ((k:Int)+(e:Int))=(k:Int)+(e:Int):=by exact Zi _ (by omega)
            have bD:vc.ownBlock≠some bc:=fun e1=>by have:=aE.out.2.1.lt bc e1;have:=aW.out;omega
            have cA:vr.ownBlock≠some bc:=fun e1=>by have:=aE.out.2.2.1.lt bc e1;have:=aW.out;omega
            have bE:vc.ownBlock≠some bp:=fun e1=>by have:=(dK.out bp e1).2;omega
            have hObc:O<bc:=by have:=aE.out.lt;have:=aW.out;omega
            clear aK bM dA aE aQ dN dO cB fA cC eB aU eD;go_wp2_with fail;go_region_law (refine Dt _ (by rfl) (.tmp 84) _ 22 (by rfl) (O+1) 3 Tryz.underlying22 Bi vc CL (by rfl) (by first|exact aR.out|exact aR.out.drew) wt.heap.size (.slice (some ⟨bp,0,none⟩) (k+e) cp) (pw P x (k+e)) (by rfl) (by exact bR.out) eE (by omega) (by show O+1≤wt.heap.size;omega) ?_;intro g9 aB w9 aA aD aG;have aH:Hid (wt.grownBy w9 vc.ownBlock):=Zk (⟨aD.os,aD.tape,aD.output,aD.size,aD.block⟩);have aT:=Zk aA;have aS:Hid (vc.ownBlock=some g9∨g9=wt.heap.size):=Zk (aG);have bG:w9.cell? ⟨O,3,none⟩=some vc:=aD.cell bG (eP.out O (Zl O));have cO:w9.frozen? ⟨O,3,none⟩=false:=fX.out w9 aH.out;clear aD aA aG)
            all_goals
              have HL:Hid ((CL++pw P x (k+e)).length=CL.length+(pw P x (k+e)).length):=Zk (List.length_append);obtain⟨vu,cM⟩:∃vu:Value,vu= .slice (some ⟨g9,0,none⟩) (CL.length+(pw P x (k+e)).length) aB:=⟨_,rfl⟩;obtain⟨wu,bB⟩:∃wu:World,wu=w9.setCell ⟨O,3,none⟩ (.slice (some ⟨g9,0,none⟩) (CL.length+(pw P x (k+e)).length) aB):=⟨_,rfl⟩;have bQ:Hid (KO O P K0.length C vu vr (CL++pw P x (k+e)) RL wu):=Zk (by rw[bB,cM,←HL.out];exact aF.out.app aT.out aH.out aS.out);have cU:Hid (Below O w2 wu):=Zk (by rw[bB];exact (cT.out.trans (Cm aH.out (by omega) (fun q hq=>by have:=(dK.out q hq).1;omega))).setCell (Zl _) _)
              have hzu:wt.heap.size≤wu.heap.size:=by rw[bB];have:=aH.out.size;simpa [World.setCell] using this
              have fE:Hid (wu.heap[bc]? =some (.cells #[.int .i64 y,.bool true] 140 (0,0))):=Zk (by
                show _=_;rw[bB,Zo _ _ bc _ (by show bc≠O;omega),aH.out.block bc (by omega) (fun e1=>bD e1.symm)]
                exact fD.out)
              have eQ:Hid (wu.heap[bp]? =wt.heap[bp]?):=Zk (by
                show _=_;rw[bB,Zo _ _ bp _ (by show bp≠O;omega),aH.out.block bp (by omega) (fun e1=>bE e1.symm)])
              have eI:vu.ownBlock≠some bp:=fun e1=>by
                rw[cM] at e1;have e2:g9=bp:=by injection e1
                rcases aS.out with h|h
                · exact bE (by rw[h,e2])
                · omega
              have eJ:vu.ownBlock≠some bc:=fun e1=>by
                rw[cM] at e1;have e2:g9=bc:=by injection e1
                rcases aS.out with h|h
                · exact bD (by rw[h,e2])
                · omega
              rw[←bB];have cZ:Hid (∀j,j<e→wu.cell? ⟨bp,j,none⟩=some (.int .i64 (x^j%P))):=Zk (fun j hj=>(World.cell?_of_block eQ.out).trans (cY.out j hj))
              have hvrO:∀q,vr.ownBlock=some q→O+1≤q∧q<wu.heap.size:=bQ.out.2.2.1.lt;clear bG cO bB cM aT aH aS bD bE;have u1:(0:Int)≤(e:Int):=by omega
              have u2:(e:Int)≤(cp:Int):=by omega
              go_wp2_with fail;go_loopw [96] (fun jv wr=>Ke3 P C x y e O bc bp K0.length vr (CL++pw P x (k+e)) RL w2 wu jv wr) (fun jv _=>e- (intOf jv).toNat)
              case atStart=>exact⟨0,vu,Nat.zero_le _,by go_num,by rw[show ngl P y (pw P x 0)=[] from rfl,List.append_nil];exact bQ.out,cU.out,fE.out,rfl,eI,eJ,Zl _⟩
              case round=>
                obtain⟨j,aJ,hj,rfl,bV,bU,eT,eW,bW,bX,bY⟩:=hrel;have aC:=Zk bV;have bL:=Zk bU;have bO:=Zk eT;have dG:=Zk eW;have dM:Hid (aJ.ownBlock≠some bp∧aJ.ownBlock≠some bc∧wu.heap.size≤wr.heap.size):=Zk (⟨bW,bX,bY⟩);clear bV bU eT eW bW bX;by_cases hje:j<e
                · have gA:=(World.cell?_of_block dG.out).trans (cZ.out j hje);obtain⟨pj,aO⟩:∃v,v=x^j%P:=⟨_,rfl⟩;have dZ:0≤pj∧pj<P:=by rw[aO];exact⟨Int.emod_nonneg _ (by omega),Int.emod_lt_of_pos _ (by omega)⟩
                  rw[←aO] at gA;have q1:(0:Int)≤(j:Int):=by omega
                  have q2:(j:Int)<(e:Int):=by omega
                  obtain⟨m1,cI⟩:∃v,v=y*pj%P:=⟨_,rfl⟩;have gL:0≤m1∧m1<P:=by rw[cI];exact⟨Int.emod_nonneg _ (by omega),Int.emod_lt_of_pos _ (by omega)⟩
                  obtain⟨s1,dQ⟩:∃v,v=(0-m1+P)%P:=⟨_,rfl⟩;have aL:∀W:World,Calls Tryz.prog 53 #[.int .i64 P,.int .i64 y,.int .i64 pj] W fun e w'=>e= .returned (.int .i64 m1)∧W=w':=fun W=>(Ef P y pj W hP hy dZ).mono fun e w' ⟨h1,h2⟩=>⟨by rw[h1,cI],h2⟩
                  have dJ:∀W:World,Calls Tryz.prog 92 #[.int .i64 P,.int .i64 0,.int .i64 m1] W fun e w'=>e= .returned (.int .i64 s1)∧W=w':=fun W=>(Jv P 0 m1 W hP ⟨by omega,by omega⟩ gL).mono fun e w' ⟨h1,h2⟩=>⟨by rw[h1,dQ],h2⟩
                  have fK:Hid (ngl P y (pw P x (j+1))=ngl P y (pw P x j)++[s1]):=Zk (by show _=_;rw[Ic,Qx,←aO,dQ,cI]);obtain⟨CJ,bT⟩:∃CJ,CJ=CL++pw P x (k+e)++ngl P y (pw P x j):=⟨_,rfl⟩;have HECJ:=Zk bT;rw[←bT] at aC;have hCJl:CJ.length≤20000:=by rw[bT];simp only[List.length_append,Ow,Eh];omega
                  have bG:=aC.out.cells.2.1;have cO:=aC.out.frozen 3;have dR:O<wr.heap.size:=aC.out.lt;have fZ:wr.cell? ⟨bc,0,none⟩=some (.int .i64 y):=Zc wr bc 0 _ _ _ bO.out;have aR:Hid (wr.ownsRow (O+1) 3 1 aJ CJ.length (CJ.map (Value.int .i64))):=Zk (aC.out.2.1);have aY:Hid (∀q,aJ.ownBlock=some q→O+1≤q∧q<wr.heap.size):=Zk (aC.out.2.1.lt);have aM:Hid (∀q,q≤O→some q≠aJ.ownBlock):=Zk (fun q hq e1=>by have:=(aY.out q e1.symm).1;omega)
                  have dF:Hid (some bc≠aJ.ownBlock):=Zk (fun e1=>dM.out.2.1 e1.symm)
                  have dT:bc<wr.heap.size:=Ae bO.out;have aZ:Hid (∀wb:World,(wr.alloc (.cells #[.int .i64 s1] 3)).grownBy wb aJ.ownBlock→wb.frozen? ⟨O,3,none⟩=false):=Zk (fun wb hg=>Zf wb O 3 _ _ ((hg.block O (by simp;omega) (aM.out O (Zl _))).trans ((Below.heap_alloc wr _ O dR).trans aC.out.1)))
                  have dS:bc≠O:=by omega
                  have dW:bp≠O:=by omega
                  have dX:bp<wu.heap.size:=by omega
                  have dH:Hid (∀(g9 aB:Nat) (w9:World),(wr.alloc (.cells #[.int .i64 s1] 3)).grownBy w9 aJ.ownBlock→w9.ownsRow (O+1) 3 1 (.slice (some ⟨g9,0,none⟩) (CJ++[s1]).length aB) (CJ++[s1]).length ((CJ++[s1]).map (Value.int .i64))→(aJ.ownBlock=some g9∨g9=(wr.alloc (.cells #[.int .i64 s1] 3)).heap.size)→Ke3 P C x y e O bc bp K0.length vr (CL++pw P x (k+e)) RL w2 wu (.int .i64 ((j:Int)+1)) (w9.setCell ⟨O,3,none⟩ (.slice (some ⟨g9,0,none⟩) (CJ.length+1) aB))):=Zk (fun g9 aB w9 hg ho ha=>zAl hje bT fK.out aC.out bL.out bO.out dG.out dM.out.1 dM.out.2.1 bY dS dW dX hg ho ha)
                  clear bT aO cI dQ;go_upto_region 23 with fail
                  go_region_law (first
                    | (refine Ax _ (by rfl) (.tmp 101) _ 22 (by rfl) (O+1) 3 Tryz.underlying22 Bi aJ CJ (by rfl) (by first|exact aR.out.alloc (.cells #[.int .i64 s1] 3)|exact (aR.out.alloc (.cells #[.int .i64 s1] 3)).drew) s1 wr.heap.size (by rfl) (by exact Ba wr [.int .i64 s1] 3 0 _ rfl) (by omega) (by simp;omega) ?_;intro g9 aB w9 aA aD aG;
                       have aH:Hid ((wr.alloc (.cells #[.int .i64 s1] 3)).grownBy w9 aJ.ownBlock):=Zk (⟨aD.os,aD.tape,aD.output,aD.size,aD.block⟩);have aT:=Zk aA;have aS:Hid (aJ.ownBlock=some g9∨g9=(wr.alloc (.cells #[.int .i64 s1] 3)).heap.size):=Zk (aG);have bG:w9.cell? ⟨O,3,none⟩=some aJ:=aD.cell (Bo (.cells #[.int .i64 s1] 3) bG) (aM.out O (Zl O));have cO:w9.frozen? ⟨O,3,none⟩=false:=aZ.out w9 aH.out;clear aD aA aG)
                    | (go_simp;go_at_call 53;refine (aL _).mono ?_;rintro e9 w8 ⟨rfl,rfl⟩)
                    | (go_simp;go_at_call 92;refine (dJ _).mono ?_;rintro e9 w8 ⟨rfl,rfl⟩))
                  all_goals
                    go_wp2_with fail;go_roundw
                    case rel=>exact dH.out g9 aB w9 aH.out aT.out aS.out
                    case measure=>simp[intOf];omega
                · obtain rfl:j=e:=by omega
                  obtain⟨aI,bA⟩:∃v,v=y*(x^j%P)%P:=⟨_,rfl⟩;obtain⟨pe,cL⟩:∃v,v=x^j%P:=⟨_,rfl⟩;have gM:0≤pe∧pe<P:=by rw[cL];exact⟨Int.emod_nonneg _ (by omega),Int.emod_lt_of_pos _ (by omega)⟩
                  have cpe:wr.cell? ⟨bp,j,none⟩=some (.int .i64 pe):=by rw[cL];exact (World.cell?_of_block dG.out).trans ((World.cell?_of_block eQ.out).trans cW.out)
                  have aL:∀W:World,Calls Tryz.prog 53 #[.int .i64 P,.int .i64 y,.int .i64 pe] W fun e w'=>e= .returned (.int .i64 aI)∧W=w':=fun W=>(Ef P y pe W hP hy gM).mono fun e w' ⟨h1,h2⟩=>⟨by rw[h1,bA,cL],h2⟩
                  have hRLl:RL.length≤32:=by rw[bP.out,Jn];exact eV
                  have eS:=aC.out.cells.2.2;have gD:=aC.out.frozen 4;have dR:O<wr.heap.size:=aC.out.lt;have fZ:wr.cell? ⟨bc,0,none⟩=some (.int .i64 y):=Zc wr bc 0 _ _ _ bO.out;have aR:Hid (wr.ownsRow (O+1) 3 1 vr RL.length (RL.map (Value.int .i64))):=Zk (aC.out.2.2.1);have aY:Hid (∀q,vr.ownBlock=some q→O+1≤q∧q<wr.heap.size):=Zk (aC.out.2.2.1.lt);have aM:Hid (∀q,q≤O→some q≠vr.ownBlock):=Zk (fun q hq e1=>by have:=(aY.out q e1.symm).1;omega)
                  have eH:∀q,vr.ownBlock=some q→q<wq.heap.size:=fun q hq=>(dL.out q hq).2
                  have dT:bc<wr.heap.size:=Ae bO.out;have dF:Hid (some bc≠vr.ownBlock):=Zk (fun e1=>cA e1.symm)
                  have HNBP:Hid (some bp≠vr.ownBlock):=Zk (fun e1=>by have:=eH bp e1.symm;omega)
                  have aZ:Hid (∀wb:World,(wr.alloc (.cells #[.int .i64 aI] 3)).grownBy wb vr.ownBlock→wb.frozen? ⟨O,4,none⟩=false):=Zk (fun wb hg=>Zf wb O 4 _ _ ((hg.block O (by simp;omega) (aM.out O (Zl _))).trans ((Below.heap_alloc wr _ O dR).trans aC.out.1)))
                  have t5:(0:Int)≤(j:Int):=by omega
                  have t6:(j:Int)<(k:Int)+(j:Int)+1:=by omega
                  have hnK:(K0.length:Int)≤32:=by omega
                  have fJ:Hid (kn (l.take (i+1))=K0++[(x,y)]):=Zk (by show _=_;rw[aX.out,eM.out]);have cV:Hid (CL++pw P x (k+j)++ngl P y (pw P x j)=kcl P (k+j) j K0++pw P x (k+j)++ngl P y (pw P x j)):=Zk (by show _=_;rw[dB.out]);have dC:Hid (∀(g9 aB:Nat) (w9:World),(wr.alloc (.cells #[.int .i64 aI] 3)).grownBy w9 vr.ownBlock→w9.ownsRow (O+1) 3 1 (.slice (some ⟨g9,0,none⟩) (RL++[aI]).length aB) (RL++[aI]).length ((RL++[aI]).map (Value.int .i64))→(vr.ownBlock=some g9∨g9=(wr.alloc (.cells #[.int .i64 aI] 3)).heap.size)→
                      (w9.setCell ⟨O,4,none⟩ (.slice (some ⟨g9,0,none⟩) (RL.length+1) aB)).cell? ⟨O,1,none⟩=some (.int .i64 K0.length)∧(w9.setCell ⟨O,4,none⟩ (.slice (some ⟨g9,0,none⟩) (RL.length+1) aB)).frozen? ⟨O,1,none⟩=false∧
                      KeR P C l (k+j) j O w2 (.int .i64 ((i:Int)+1)) ((w9.setCell ⟨O,4,none⟩ (.slice (some ⟨g9,0,none⟩) (RL.length+1) aB)).setCell ⟨O,1,none⟩ (.int .i64 ((K0.length:Int)+1)))):=Zk (fun g9 aB w9 hg ho ha=>zGs hil fJ.out cV.out bP.out bA aC.out bL.out hg ho ha)
                  clear bA cL;go_upto_region 25 with fail
                  go_region_law (first
                    | (refine Ax _ (by rfl) (.tmp 114) _ 22 (by rfl) (O+1) 3 Tryz.underlying22 Bi vr RL (by rfl) (by first|exact aR.out.alloc (.cells #[.int .i64 aI] 3)|exact (aR.out.alloc (.cells #[.int .i64 aI] 3)).drew) aI wr.heap.size (by rfl) (by exact Ba wr [.int .i64 aI] 3 0 _ rfl) (by omega) (by simp;omega) ?_;intro g9 aB w9 aA aD aG;
                       have aH:Hid ((wr.alloc (.cells #[.int .i64 aI] 3)).grownBy w9 vr.ownBlock):=Zk (⟨aD.os,aD.tape,aD.output,aD.size,aD.block⟩);have aT:=Zk aA;have aS:Hid (vr.ownBlock=some g9∨g9=(wr.alloc (.cells #[.int .i64 aI] 3)).heap.size):=Zk (aG);have eS:w9.cell? ⟨O,4,none⟩=some vr:=aD.cell (Bo (.cells #[.int .i64 aI] 3) eS) (aM.out O (Zl O));have gD:w9.frozen? ⟨O,4,none⟩=false:=aZ.out w9 aH.out;clear aD aA aG)
                    | (go_simp;go_at_call 53;refine (aL _).mono ?_;rintro e9 w8 ⟨rfl,rfl⟩))
                  all_goals
                    obtain⟨cO1,fO1,hrel⟩:=dC.out g9 aB w9 aH.out aT.out aS.out;have fO:=Zk hrel;clear hrel;go_wp2_with fail;go_roundw
                    case rel=>exact fO.out
                    case measure=>simp[intOf];omega
    · obtain rfl:l.length=i:=by omega
      have eZ:l.take l.length=l:=List.take_length;rw[eZ] at aE;have eF:SI wr vc (kcl P (k+e) e (kn l)):=SI.of_own aE.out.2.1 (Ci hP.2 (Jk hP.1 _ _ _));have eG:SI wr vr (krl P e (kn l)):=SI.of_own aE.out.2.2.1 (Ci hP.2 (Jm hP.1 _ _));have fR:=Zk eF;have fS:=Zk eG;obtain⟨A5,c5,e5⟩:=eF.form;obtain⟨A6,c6,e6⟩:=eG.form;subst e5 e6;obtain⟨n5,cJ⟩:∃n,n=(kcl P (k+e) e (kn l)).length:=⟨_,rfl⟩;obtain⟨n6,cK⟩:∃n,n=(krl P e (kn l)).length:=⟨_,rfl⟩;obtain⟨nK,dP⟩:∃n,n=(kn l).length:=⟨_,rfl⟩;rw[←cJ,←cK,←dP] at aE;rw[←cJ] at fR;rw[←cK] at fS;have c0:wr.cell? ⟨O,0,none⟩=some (.int .i64 P):=Zc wr O 0 _ _ _ aE.out.1;have c1:wr.cell? ⟨O,1,none⟩=some (.int .i64 nK):=Zc wr O 1 _ _ _ aE.out.1;have c2:wr.cell? ⟨O,2,none⟩=some (.int .i64 C):=Zc wr O 2 _ _ _ aE.out.1;have c3:wr.cell? ⟨O,3,none⟩=some (.slice A5 n5 c5):=Zc wr O 3 _ _ _ aE.out.1;have c4:wr.cell? ⟨O,4,none⟩=some (.slice A6 n6 c6):=Zc wr O 4 _ _ _ aE.out.1;have gK:w.heap.size+1<O:=by have h1:=eL.out;have h2:=fQ.out;omega
      have aN:Hid (wr.heap[w.heap.size+1]? =some (.cells #[.int .i64 0,.int .i64 0,.int .i64 0,.slice none 0 0,.slice none 0 0] 162 (0,0))):=Zk ((aQ.out.block _ gK).trans ((cQ.out.block _ (by have h1:=eL.out;omega)).trans fW.out));have z0:wr.cell? ⟨w.heap.size+1,0,none⟩=some (.int .i64 0):=Zc wr _ 0 _ _ _ aN.out;have z1:wr.cell? ⟨w.heap.size+1,1,none⟩=some (.int .i64 0):=Zc wr _ 1 _ _ _ aN.out;have z2:wr.cell? ⟨w.heap.size+1,2,none⟩=some (.int .i64 0):=Zc wr _ 2 _ _ _ aN.out;have z3:wr.cell? ⟨w.heap.size+1,3,none⟩=some (.slice none 0 0):=Zc wr _ 3 _ _ _ aN.out;have z4:wr.cell? ⟨w.heap.size+1,4,none⟩=some (.slice none 0 0):=Zc wr _ 4 _ _ _ aN.out;have g0:=Zf wr (w.heap.size+1) 0 _ _ aN.out;have g1:=Zf wr (w.heap.size+1) 1 _ _ aN.out;have g2:=Zf wr (w.heap.size+1) 2 _ _ aN.out;have g3:=Zf wr (w.heap.size+1) 3 _ _ aN.out;have g4:=Zf wr (w.heap.size+1) 4 _ _ aN.out;have HN5:=Zk cJ;have HN6:=Zk cK;have fL:=Zk dP;clear eF eG eZ cJ cK dP;go_wp2_with fail;obtain⟨wf,bI⟩:∃wf:World,wf=((((wr.setCell ⟨w.heap.size+1,0,none⟩ (.int .i64 P)).setCell ⟨w.heap.size+1,1,none⟩ (.int .i64 nK)).setCell ⟨w.heap.size+1,2,none⟩ (.int .i64 C)).setCell ⟨w.heap.size+1,3,none⟩ (.slice A5 n5 c5)).setCell ⟨w.heap.size+1,4,none⟩ (.slice A6 n6 c6):=⟨_,rfl⟩;rw[←bI];have bZ:w.heap.size≤w.heap.size+1:=by omega
      have gE:Below w.heap.size w wf:=by rw[bI];exact ((((cD.out.setCell bZ _).setCell bZ _).setCell bZ _).setCell bZ _).setCell bZ _
      have aP:w.heap.size+1<O+1:=by omega
      have gF:wf.ownsRow (O+1) 3 1 (.slice A5 n5 c5) (kcl P (k+e) e (kn l)).length ((kcl P (k+e) e (kn l)).map (Value.int .i64)):=by
        rw[bI];exact Bc (Bc (Bc (Bc (Bc aE.out.2.1 aP _) aP _) aP _) aP _) aP _
      have gG:wf.ownsRow (O+1) 3 1 (.slice A6 n6 c6) (krl P e (kn l)).length ((krl P e (kn l)).map (Value.int .i64)):=by
        rw[bI];exact Bc (Bc (Bc (Bc (Bc aE.out.2.2.1 aP _) aP _) aP _) aP _) aP _
      have bS:wf.heap[w.heap.size+1]? =some (.cells #[.int .i64 P,.int .i64 nK,.int .i64 C,.slice A5 n5 c5,.slice A6 n6 c6] 162 (0,0)):=by
        have a0:=heap_setCell_same wr (w.heap.size+1) 0 _ _ (.int .i64 P) aN.out;have a1:=heap_setCell_same _ (w.heap.size+1) 1 _ _ (.int .i64 nK) a0;have a2:=heap_setCell_same _ (w.heap.size+1) 2 _ _ (.int .i64 C) a1;have a3:=heap_setCell_same _ (w.heap.size+1) 3 _ _ (.slice A5 n5 c5) a2;have a4:=heap_setCell_same _ (w.heap.size+1) 4 _ _ (.slice A6 n6 c6) a3;rw[bI,a4];simp
      have r0:wf.cell? ⟨w.heap.size+1,0,none⟩=some (.int .i64 P):=Zc wf _ 0 _ _ _ bS;have r1:wf.cell? ⟨w.heap.size+1,1,none⟩=some (.int .i64 nK):=Zc wf _ 1 _ _ _ bS;have r2:wf.cell? ⟨w.heap.size+1,2,none⟩=some (.int .i64 C):=Zc wf _ 2 _ _ _ bS;have r3:wf.cell? ⟨w.heap.size+1,3,none⟩=some (.slice A5 n5 c5):=Zc wf _ 3 _ _ _ bS;have r4:wf.cell? ⟨w.heap.size+1,4,none⟩=some (.slice A6 n6 c6):=Zc wf _ 4 _ _ _ bS;clear bI;refine bodyPost_ret (v:= .tuple #[.agg #[.int .i64 P,.int .i64 nK,.int .i64 C,.slice A5 n5 c5,.slice A6 n6 c6],.int .i64 0]) (by simp[results,Tryz.results129,go_sem,r0,r1,r2,r3,r4]) rfl ⟨.slice A5 n5 c5,.slice A6 n6 c6,?_,gE,SI.of_own gF (Ci hP.2 (Jk hP.1 _ _ _)),SI.of_own gG (Ci hP.2 (Jm hP.1 _ _))⟩;have hC:C=((k+e+e:Nat):Int):=by rw[fF.out];omega
      rw[hC,fL.out]
open Go.RowKit
theorem Sq(l:List (Int×Bool)):∀i,(knF i l).Pairwise fun a b=>a.1<b.1:=by
 induction l with
 |nil=>intro i;simp[knF]
 |cons c l ih=>
  intro i;rw[knF,List.pairwise_append];refine⟨?_,ih (i+1),fun a ha b hb=> ?_⟩
  ·split<;>simp
  ·have aA:=Kd l (i+1) b hb;split at ha
   ·simp at ha;subst ha;simp at aA⊢;omega
   ·simp at ha
theorem Su(l:List (Int×Bool)):∀t∈kn l,∃j,∃h:j<l.length,l[j].2=true∧t=((j:Int)+1,l[j].1):=by
 have aA:∀(l:List (Int×Bool)) i,∀t∈knF i l,∃j,∃h:j<l.length,l[j].2=true∧t=(((i+j:Nat):Int)+1,l[j].1):=by
  intro l;induction l with
  |nil=>intro i t ht;simp[knF] at ht
  |cons c l ih=>
   intro i t ht;rw[knF,List.mem_append] at ht;rcases ht with ht|ht
   ·split at ht
    ·rename_i hc;simp at ht;subst ht;exact⟨0,by simp,hc,by simp⟩
    ·simp at ht
   ·obtain⟨j,hj,h1,h2⟩:=ih (i+1) t ht;refine⟨j+1,by simpa using hj,h1,?_⟩;rw[h2];have:i+1+j=i+(j+1):=by omega
    rw[this];rfl
 intro t ht;obtain⟨j,hj,h1,h2⟩:=aA l 0 t ht;exact⟨j,hj,h1,by rw[h2];simp⟩
theorem Sr{P:Int}{l:List (Int×Bool)}(hl:(l.length:Int)<P)(hv:∀j (h:j<l.length),l[j].2=true→0≤l[j].1∧l[j].1<P):Pts P (kn l) where
 dif:=by
  have h1:=Sq l 0;have h2:∀t∈kn l,1≤t.1∧t.1≤(l.length:Int):=fun t ht=>by have:=Kd l 0 t ht;simp at this;omega
  refine List.Pairwise.imp_of_mem (fun {a b} ha hb h=> ?_) h1
  have b1:=h2 a ha;have b2:=h2 b hb;rintro⟨q,hq⟩;have hq0:q<0:=by
   by_cases h:q<0
   ·exact h
   ·have:=Int.mul_nonneg (by omega:(0:Int)≤P) (by omega:0≤q);omega
  have:=Int.mul_le_mul_of_nonneg_left (by omega:q≤ -1) (by omega:(0:Int)≤P);omega
 val:=fun t ht=>by
  obtain⟨j,hj,h1,rfl⟩:=Su l t ht;exact hv j hj h1
def Fv(l:List (Int×Bool))(k:Nat):Nat:=((kn l).length-k)/2
def UnR(P:Int)(l:List (Int×Bool))(k:Int)(out:List Int)(er:Int):Prop:=
 (fiE P l k≠0∧er=fiE P l k∧out=[])∨(fiE P l k=0∧((er=0∧Fp P (kn l) k.toNat (Fv l k.toNat) out)∨(er=12∧out=[]∧∀p,¬Fp P (kn l) k.toNat (Fv l k.toNat) p)))
theorem Ld{P:Int}{l:List (Int×Bool)}{k:Int}(h:fiE P l k=0):prB P=true∧l.length≤32∧(l.length:Int)<P∧(∀j (h:j<l.length),l[j].2=true→0≤l[j].1∧l[j].1<P)∧1≤k∧k≤((kn l).length:Int):=by
 unfold fiE at h;by_cases hc:ceE P l=0
 ·rw[if_pos hc] at h;by_cases h1:k<1∨(l.length:Int)<k
  ·rw[if_pos h1] at h;cases h
  ·rw[if_neg h1] at h;by_cases h2:((kn l).length:Int)<k
   ·rw[if_pos h2] at h;cases h
   ·have hc':=hc;unfold ceE at hc;by_cases p0:prB P=false
    ·rw[if_pos p0] at hc;cases hc
    ·rw[if_neg p0] at hc;by_cases p1:32<l.length∨P≤l.length
     ·rw[if_pos p1] at hc;cases hc
     ·rw[if_neg p1] at hc;by_cases p2:((kn l).all fun p=>el P p.2)=true
      ·refine⟨by simpa using p0,by omega,by omega,fun j hj hb=> ?_,by omega,by omega⟩
       rw[List.all_eq_true] at p2;have hm:((j:Int)+1,l[j].1)∈kn l:=by
        have aA:∀(l:List (Int×Bool)) i j (hj:j<l.length),l[j].2=true→(((i+j:Nat):Int)+1,l[j].1)∈knF i l:=by
         intro l;induction l with
         |nil=>intro i j hj;simp at hj
         |cons c l ih=>
          intro i j hj hb;rw[knF,List.mem_append]
          cases j with
          |zero=>left;simp at hb;simp[hb]
          |succ j=>
           right;have:=ih (i+1) j (by simpa using hj) (by simpa using hb);have e:i+1+j=i+(j+1):=by omega
           rw[e] at this;simpa using this
        have:=aA l 0 j hj hb;show _∈knF 0 l;simpa using this
       exact Co (p2 _ hm)
      ·rw[if_neg p2] at hc;cases hc
 ·rw[if_neg hc] at h;exact absurd h hc
theorem UnR.uniq{P:Int}{l:List (Int×Bool)}{k:Int}{o1 o2:List Int}{e1 e2:Int}(h1:UnR P l k o1 e1)(h2:UnR P l k o2 e2):o1=o2∧e1=e2:=by
 rcases h1 with⟨a1,a2,a3⟩|⟨a1,ha⟩
 ·rcases h2 with⟨b1,b2,b3⟩|⟨b1,_⟩
  ·exact⟨a3.trans b3.symm,a2.trans b2.symm⟩
  ·exact absurd b1 a1
 ·rcases h2 with⟨b1,_,_⟩|⟨b1,hb⟩
  ·exact absurd a1 b1
  ·obtain⟨f1,f2,f3,f4,f5,f6⟩:=Ld a1;rcases ha with⟨a2,a3⟩|⟨a2,a3,a4⟩
   ·rcases hb with⟨b2,b3⟩|⟨b2,b3,b4⟩
    ·exact⟨Wd f1 (Sr f3 f4) (by unfold Fv;omega) a3 b3,a2.trans b2.symm⟩
    ·exact absurd a3 (b4 _)
   ·rcases hb with⟨b2,b3⟩|⟨b2,b3,b4⟩
    ·exact absurd b3 (a4 _)
    ·exact⟨a3.trans b3.symm,a2.trans b2.symm⟩
end Go.Proofs.YtoiabanpnkpbhaaGreatDoor
