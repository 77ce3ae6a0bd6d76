/- Parts. -/
import Derived.Test.YtoiabanpnkpbhaaGreatDoorM06
import Derived.Test.YtoiabanpnkpbhaaGreatDoorM07
set_option linter.unusedVariables false
set_option linter.unusedSimpArgs false
set_option maxRecDepth 100000
set_option maxHeartbeats 8000000
namespace Go.Proofs.YtoiabanpnkpbhaaGreatDoor
open Go.RowKit
set_option linter.unusedVariables false
structure SV (P n t G:Int):Prop where
 pr:prB P=true
 n2:2≤n
 n10:n≤10
 nP:n<P
 t1:1≤t
 G1:1≤G
 sum:2*G+t-1≤n
theorem SV.pb{P n t G:Int}(h:SV P n t G):2≤P∧P≤65521:=Bj h.pr
def ngr(len G:Nat):Nat:=(len+G-1)/G
theorem Ml{len G:Nat}(hG:1≤G):ngr len G*G<len+G∧len≤ngr len G*G:=by
 unfold ngr;have h1:=Nat.div_add_mod (len+G-1) G;have h2:=Nat.mod_lt (len+G-1) (show 0<G by omega);rw[Nat.mul_comm] at h1;omega
theorem Nx{len G:Nat}(hG:1≤G):ngr len G=len/G+if len%G=0 then 0 else 1:=by
 have h1:=Nat.div_add_mod len G;have h2:=Nat.mod_lt len (show 0<G by omega);unfold ngr;by_cases h:len%G=0
 ·rw[if_pos h];have e:len+G-1=(G-1)+G*(len/G):=by omega
  rw[e,Nat.add_mul_div_left _ _ (by omega),Nat.div_eq_of_lt (by omega)];omega
 ·rw[if_neg h];have e:len+G-1=(len%G-1)+G*(len/G+1):=by rw[Nat.mul_add];omega
  rw[e,Nat.add_mul_div_left _ _ (by omega),Nat.div_eq_of_lt (by omega)];omega
def gcE(P n t G:Int):Int:=if prB P=false then 9 else if 2≤n∧n≤10∧n<P∧1≤t∧1≤G∧t≤n∧G≤n∧2*G+t-1≤n then 0 else 1
theorem Ys{P n t G:Int}(h:prB P=false):gcE P n t G=9:=if_pos h
theorem Es{P n t G:Int}(h:prB P=true)(h2:¬(2≤n∧n≤10∧n<P∧1≤t∧1≤G∧t≤n∧G≤n∧2*G+t-1≤n)):gcE P n t G=1:=by
 unfold gcE;rw[if_neg (by rw[h];simp),if_neg h2]
theorem Yr{P n t G:Int}(h:prB P=true)(h2:2≤n∧n≤10∧n<P∧1≤t∧1≤G∧t≤n∧G≤n∧2*G+t-1≤n):gcE P n t G=0:=by
 unfold gcE;rw[if_neg (by rw[h];simp),if_pos h2]
theorem He{P n t G:Int}(h:gcE P n t G=0):SV P n t G:=by
 cases hp:prB P with
 |false=>rw[Ys hp] at h;cases h
 |true=>
  by_cases h2:2≤n∧n≤10∧n<P∧1≤t∧1≤G∧t≤n∧G≤n∧2*G+t-1≤n
  ·exact⟨hp,h2.1,h2.2.1,h2.2.2.1,h2.2.2.2.1,h2.2.2.2.2.1,h2.2.2.2.2.2.2.2⟩
  ·rw[Es hp h2] at h;cases h
theorem SV.gcE{P n t G:Int}(h:SV P n t G):gcE P n t G=0:=Yr h.pr (by have:=h.n2;have:=h.n10;have:=h.nP;have:=h.t1;have:=h.G1;have:=h.sum;omega)
def g2E(P n t G m:Int):Int:=if gcE P n t G=0∧(m<1∨1024<m) then 1 else gcE P n t G
theorem Om{P n t G m:Int}(h:g2E P n t G m=0):SV P n t G∧1≤m∧m≤1024:=by
 unfold g2E at h;split at h
 ·cases h
 ·rename_i h1;refine⟨He h,?_,?_⟩
  ·by_cases hm:m<1
   ·exact absurd ⟨h,.inl hm⟩ h1
   ·omega
  ·by_cases hm:1024<m
   ·exact absurd ⟨h,.inr hm⟩ h1
   ·omega
theorem zFo{P n t G m:Int}(h:gcE P n t G≠0):g2E P n t G m=gcE P n t G:=if_neg fun h1=>h h1.1
theorem Um{P n t G m:Int}(h:gcE P n t G=0)(h2:m<1∨1024<m):g2E P n t G m=1:=if_pos ⟨h,h2⟩
theorem Ul{P n t G m:Int}(h:gcE P n t G=0)(h2:1≤m∧m≤1024):g2E P n t G m=0:=by unfold g2E;rw[if_neg (by omega)];exact h
def gnE(G m:Int):Int:=if G<1∨m<0∨1024<m then 1 else 0
def gnV(G m:Int):Int:=if G<1∨m<0∨1024<m then 0 else (ngr m.toNat G.toNat:Nat)
theorem Fe(P n t G:Int)(w:World)(hP:At P):
  Calls Tryz.prog 37 #[.agg #[.int .i64 P],.agg #[.int .i64 n,.int .i64 t,.int .i64 G]] w fun e w'=>e= .returned (.int .i64 (gcE P n t G))∧Below w.heap.size w w':=by
 go_enter Tryz.func37,Tryz.ntmps37;obtain⟨F,eF⟩:∃F,F=w.heap.size:=⟨_,rfl⟩;obtain⟨w1,aE⟩:∃w1:World,w1=(w.alloc (.cells #[.int .i64 P] 31)).alloc (.cells #[.int .i64 n,.int .i64 t,.int .i64 G] 29):=⟨_,rfl⟩;have aF:Hid ((w.alloc (.cells #[.int .i64 P] 31)).alloc (.cells #[.int .i64 n,.int .i64 t,.int .i64 G] 29)=w1):=aE.symm;have aD:Hid (Below w.heap.size w w1):=Zk (by rw[aE];exact ((Zb _ w).alloc (Zl _) _).alloc (by simp) _);have aB:Hid (w1.heap[F]? =some (.cells #[.int .i64 P] 31 (0,0))):=Zk (by show _=_;rw[aE,eF,Below.heap_alloc _ _ _ (by simp)];exact Zh w _);have aC:Hid (w1.heap[F+1]? =some (.cells #[.int .i64 n,.int .i64 t,.int .i64 G] 29 (0,0))):=Zk (by show _=_;rw[aE,eF];have:=Zh (w.alloc (.cells #[.int .i64 P] 31)) (.cells #[.int .i64 n,.int .i64 t,.int .i64 G] 29);simpa using this);have aI:Hid (∀W,Below w1.heap.size w1 W→W.cell? ⟨F,0,none⟩=some (.int .i64 P)∧W.cell? ⟨F+1,0,none⟩=some (.int .i64 n)∧W.cell? ⟨F+1,1,none⟩=some (.int .i64 t)∧W.cell? ⟨F+1,2,none⟩=some (.int .i64 G)):=Zk (fun W hg=>by
  have aJ:=(hg.block F (Ae aB.out)).trans aB.out;have aG:=(hg.block (F+1) (Ae aC.out)).trans aC.out;exact⟨Zc W F 0 _ _ _ aJ,Zc W (F+1) 0 _ _ _ aG,Zc W (F+1) 1 _ _ _ aG,Zc W (F+1) 2 _ _ _ aG⟩)
 go_upto_region 1 with fail
 rw[aF.out,←eF];clear aE eF;obtain⟨x0,x1,x2,x3⟩:=aI.out w1 (Zb _ _);go_wp2_with fail;(with_reducible refine (Mn P _ hP).mono ?_)
 rintro e w2 ⟨rfl,aH⟩;have aA:Hid (Below w.heap.size w w2):=Zk (aD.out.trans (aH.mono aD.out.size));have HX:=aI.out w2 aH;clear x0 x1 x2 x3 aH;obtain⟨x0,x1,x2,x3⟩:=HX
 cases hp:prB P with
 |false=>
  have HE:Hid (gcE P n t G=9):=Zk (Ys hp);rw[Qz hp];clear hp;go_wp2_with fail;go_ret;exact⟨by rw[HE.out]<;>rfl,aA.out⟩
 |true=>
  have HP:=Zk hp;rw[Ku hp];clear hp;by_cases h0:n<2
  ·have d0:decide (n<2)=true:=Ze h0;have HE:Hid (gcE P n t G=1):=Zk (Es HP.out (by omega));go_wp2_with fail;go_ret;exact⟨by rw[HE.out]<;>rfl,aA.out⟩
  have d0:decide (n<2)=false:=Zd h0;by_cases h1:10<n
  ·have d1:decide (10<n)=true:=Ze h1;have HE:Hid (gcE P n t G=1):=Zk (Es HP.out (by omega));go_wp2_with fail;go_ret;exact⟨by rw[HE.out]<;>rfl,aA.out⟩
  have d1:decide (10<n)=false:=Zd h1;by_cases h2:P≤n
  ·have d2:decide (P≤n)=true:=Ze h2;have HE:Hid (gcE P n t G=1):=Zk (Es HP.out (by omega));go_wp2_with fail;go_ret;exact⟨by rw[HE.out]<;>rfl,aA.out⟩
  have d2:decide (P≤n)=false:=Zd h2;by_cases h3:t<1
  ·have d3:decide (t<1)=true:=Ze h3;have HE:Hid (gcE P n t G=1):=Zk (Es HP.out (by omega));go_wp2_with fail;go_ret;exact⟨by rw[HE.out]<;>rfl,aA.out⟩
  have d3:decide (t<1)=false:=Zd h3;by_cases h4:G<1
  ·have d4:decide (G<1)=true:=Ze h4;have HE:Hid (gcE P n t G=1):=Zk (Es HP.out (by omega));go_wp2_with fail;go_ret;exact⟨by rw[HE.out]<;>rfl,aA.out⟩
  have d4:decide (G<1)=false:=Zd h4;by_cases h5:n<t
  ·have d5:decide (n<t)=true:=Ze h5;have HE:Hid (gcE P n t G=1):=Zk (Es HP.out (by omega));go_wp2_with fail;go_ret;exact⟨by rw[HE.out]<;>rfl,aA.out⟩
  have d5:decide (n<t)=false:=Zd h5;by_cases h6:n<G
  ·have d6:decide (n<G)=true:=Ze h6;have HE:Hid (gcE P n t G=1):=Zk (Es HP.out (by omega));go_wp2_with fail;go_ret;exact⟨by rw[HE.out]<;>rfl,aA.out⟩
  have d6:decide (n<G)=false:=Zd h6;have m1:IntKind.i64.wrap (2*G)=2*G:=by exact Zi _ (by omega)
  have m2:IntKind.i64.wrap (2*G+t)=2*G+t:=by exact Zi _ (by omega)
  have m3:IntKind.i64.wrap (2*G+t-1)=2*G+t-1:=by exact Zi _ (by omega)
  by_cases h9:n<2*G+t-1
  ·have d9:decide (n<2*G+t-1)=true:=Ze h9;have HE:Hid (gcE P n t G=1):=Zk (Es HP.out (by omega));go_wp2_with fail;go_ret;exact⟨by rw[HE.out]<;>rfl,aA.out⟩
  have d9:decide (n<2*G+t-1)=false:=Zd h9;have HE:Hid (gcE P n t G=0):=Zk (Yr HP.out (by omega));go_wp2_with fail;go_ret;exact⟨by rw[HE.out]<;>rfl,aA.out⟩
theorem Iw(P n t G m:Int)(w:World)(hP:At P):
  Calls Tryz.prog 51 #[.agg #[.int .i64 P],.agg #[.int .i64 n,.int .i64 t,.int .i64 G],.int .i64 m] w fun e w'=>e= .returned (.int .i64 (g2E P n t G m))∧Below w.heap.size w w':=by
 go_enter Tryz.func51,Tryz.ntmps51;obtain⟨F,eF⟩:∃F,F=w.heap.size:=⟨_,rfl⟩;obtain⟨w1,aD⟩:∃w1:World,w1=(w.alloc (.cells #[.int .i64 P] 31)).alloc (.cells #[.int .i64 n,.int .i64 t,.int .i64 G] 29):=⟨_,rfl⟩;have aF:Hid ((w.alloc (.cells #[.int .i64 P] 31)).alloc (.cells #[.int .i64 n,.int .i64 t,.int .i64 G] 29)=w1):=aD.symm;have aC:Hid (Below w.heap.size w w1):=Zk (by rw[aD];exact ((Zb _ w).alloc (Zl _) _).alloc (by simp) _);have aA:Hid (w1.heap[F]? =some (.cells #[.int .i64 P] 31 (0,0))):=Zk (by show _=_;rw[aD,eF,Below.heap_alloc _ _ _ (by simp)];exact Zh w _);have aB:Hid (w1.heap[F+1]? =some (.cells #[.int .i64 n,.int .i64 t,.int .i64 G] 29 (0,0))):=Zk (by show _=_;rw[aD,eF];have:=Zh (w.alloc (.cells #[.int .i64 P] 31)) (.cells #[.int .i64 n,.int .i64 t,.int .i64 G] 29);simpa using this);have aI:Hid (∀W,Below w1.heap.size w1 W→W.cell? ⟨F,0,none⟩=some (.int .i64 P)∧W.cell? ⟨F+1,0,none⟩=some (.int .i64 n)∧W.cell? ⟨F+1,1,none⟩=some (.int .i64 t)∧W.cell? ⟨F+1,2,none⟩=some (.int .i64 G)):=Zk (fun W hg=>by
  have aJ:=(hg.block F (Ae aA.out)).trans aA.out;have aG:=(hg.block (F+1) (Ae aB.out)).trans aB.out;exact⟨Zc W F 0 _ _ _ aJ,Zc W (F+1) 0 _ _ _ aG,Zc W (F+1) 1 _ _ _ aG,Zc W (F+1) 2 _ _ _ aG⟩)
 go_upto_region 1 with fail
 rw[aF.out,←eF];clear aD eF;obtain⟨x0,x1,x2,x3⟩:=aI.out w1 (Zb _ _);go_wp2_with fail;(with_reducible refine (Fe P n t G _ hP).mono ?_)
 rintro e w2 ⟨rfl,aH⟩;have aE:Hid (Below w.heap.size w w2):=Zk (aC.out.trans (aH.mono aC.out.size));clear x0 x1 x2 x3 aH;obtain⟨z,ez⟩:∃z,z=gcE P n t G:=⟨_,rfl⟩;rw[←ez];have HZ:=Zk ez;clear ez;by_cases hc:z=0
 case' neg=>
  have HE:Hid (g2E P n t G m=z):=Zk (by show _=_;rw[HZ.out];exact zFo (by rw[←HZ.out];exact hc));have dz:(z==0)=false:=by rw[beq_eq_false_iff_ne];exact hc
  clear hc;go_wp2_with fail;go_ret;exact⟨by rw[HE.out]<;>rfl,aE.out⟩
 subst hc;by_cases h1:m<1
 ·have d1:decide (m<1)=true:=Ze h1;have HE:Hid (g2E P n t G m=1):=Zk (Um HZ.out.symm (.inl h1));go_wp2_with fail;go_ret;exact⟨by rw[HE.out]<;>rfl,aE.out⟩
 have d1:decide (m<1)=false:=Zd h1;by_cases h2:1024<m
 ·have d2:decide (1024<m)=true:=Ze h2;have HE:Hid (g2E P n t G m=1):=Zk (Um HZ.out.symm (.inr h2));go_wp2_with fail;go_ret;exact⟨by rw[HE.out]<;>rfl,aE.out⟩
 have d2:decide (1024<m)=false:=Zd h2;have HE:Hid (g2E P n t G m=0):=Zk (Ul HZ.out.symm (by omega));go_wp2_with fail;go_ret;exact⟨by rw[HE.out]<;>rfl,aE.out⟩
theorem Kr(n t G m:Int)(w:World):
  Calls Tryz.prog 25 #[.agg #[.int .i64 n,.int .i64 t,.int .i64 G],.int .i64 m] w fun e w'=>e= .returned (.tuple #[.int .i64 (gnV G m),.int .i64 (gnE G m)])∧Below w.heap.size w w':=by
 go_enter Tryz.func25,Tryz.ntmps25;obtain⟨F,eF⟩:∃F,F=w.heap.size:=⟨_,rfl⟩;obtain⟨w1,aD⟩:∃w1:World,w1=w.alloc (.cells #[.int .i64 n,.int .i64 t,.int .i64 G] 29):=⟨_,rfl⟩;have aE:Hid (w.alloc (.cells #[.int .i64 n,.int .i64 t,.int .i64 G] 29)=w1):=aD.symm;have aA:Hid (Below w.heap.size w w1):=Zk (by rw[aD];exact (Zb _ w).alloc (Zl _) _);have aB:Hid (w1.heap[F]? =some (.cells #[.int .i64 n,.int .i64 t,.int .i64 G] 29 (0,0))):=Zk (by show _=_;rw[aD,eF];exact Zh w _);have aG:Hid (∀W,Below w1.heap.size w1 W→W.cell? ⟨F,0,none⟩=some (.int .i64 n)∧W.cell? ⟨F,1,none⟩=some (.int .i64 t)∧W.cell? ⟨F,2,none⟩=some (.int .i64 G)):=Zk (fun W hg=>by
  have aF:=(hg.block F (Ae aB.out)).trans aB.out;exact⟨Zc W F 0 _ _ _ aF,Zc W F 1 _ _ _ aF,Zc W F 2 _ _ _ aF⟩)
 go_upto_region 1 with fail
 rw[aE.out,←eF];clear aD eF;obtain⟨x1,x2,x3⟩:=aG.out w1 (Zb _ _);clear x1 x2;by_cases h0:G<1
 ·have d0:decide (G<1)=true:=Ze h0;have HE:Hid (gnE G m=1∧gnV G m=0):=Zk (⟨if_pos (by omega),if_pos (by omega)⟩);go_wp2_with fail;refine bodyPost_ret (results_tmp2 rfl _ _ _) rfl ?_;exact⟨by rw[HE.out.1,HE.out.2];rfl,aA.out⟩
 have d0:decide (G<1)=false:=Zd h0;by_cases h1:m<0
 ·have d1:decide (m<0)=true:=Ze h1;have HE:Hid (gnE G m=1∧gnV G m=0):=Zk (⟨if_pos (by omega),if_pos (by omega)⟩);go_wp2_with fail;refine bodyPost_ret (results_tmp2 rfl _ _ _) rfl ?_;exact⟨by rw[HE.out.1,HE.out.2];rfl,aA.out⟩
 have d1:decide (m<0)=false:=Zd h1;by_cases h2:1024<m
 ·have d2:decide (1024<m)=true:=Ze h2;have HE:Hid (gnE G m=1∧gnV G m=0):=Zk (⟨if_pos (by omega),if_pos (by omega)⟩);go_wp2_with fail;refine bodyPost_ret (results_tmp2 rfl _ _ _) rfl ?_;exact⟨by rw[HE.out.1,HE.out.2];rfl,aA.out⟩
 have d2:decide (1024<m)=false:=Zd h2;obtain⟨mn,rfl⟩:∃mn:Nat,m=mn:=⟨m.toNat,by omega⟩;obtain⟨Gn,rfl⟩:∃Gn:Nat,G=Gn:=⟨G.toNat,by omega⟩;have HN:=Zk (Nx (len:=mn) (G:=Gn) (by omega));have aC:Hid (gnE (Gn:Int) mn=0∧gnV (Gn:Int) mn=(ngr mn Gn:Nat)):=Zk (⟨if_neg (by omega),if_neg (by omega)⟩);have e0:decide (Gn<1)=false:=Zd (by omega);have e2:decide (1024<mn)=false:=Zd (by omega);have hG0:¬Gn=0:=by omega
 have hG0':¬(Gn:Int)=0:=by omega
 obtain⟨q,eq⟩:∃q,q=mn/Gn:=⟨_,rfl⟩;obtain⟨r,er⟩:∃r,r=mn%Gn:=⟨_,rfl⟩;have hq:q≤1024:=by rw[eq];exact Nat.le_trans (Nat.div_le_self _ _) (by omega)
 have m1:(mn:Int).tdiv (Gn:Int)=(q:Int):=by rw[eq];exact (Int.ofNat_tdiv mn Gn).symm
 have m2:(mn:Int).tmod (Gn:Int)=(r:Int):=by rw[er];exact (Int.ofNat_tmod mn Gn).symm
 have m3:IntKind.i64.wrap (q:Int)=(q:Int):=by exact Zi _ (by omega)
 have m4:IntKind.i64.wrap ((q:Int)+1)=(q:Int)+1:=by exact Zi _ (by omega)
 have HQ:=Zk eq;have HR:=Zk er;clear eq er h0 h1 h2;by_cases hr:r=0
 ·have d6:decide ((0:Int)<(r:Int))=false:=Zd (by omega);have d7:decide (0<r)=false:=Zd (by omega);have HE:Hid (ngr mn Gn=q):=Zk (by show _=_;rw[HN.out,←HR.out,←HQ.out,if_pos hr];rfl);clear hr;go_wp2_with fail;refine bodyPost_ret (results_tmp2 rfl _ _ _) rfl ?_;exact⟨by rw[aC.out.1,aC.out.2,HE.out];rfl,aA.out⟩
 ·have d6:decide ((0:Int)<(r:Int))=true:=Ze (by omega);have d7:decide (0<r)=true:=Ze (by omega);have HE:Hid (ngr mn Gn=q+1):=Zk (by show _=_;rw[HN.out,←HR.out,←HQ.out,if_neg hr]);clear hr;go_wp2_with fail;refine bodyPost_ret (results_tmp2 rfl _ _ _) rfl ?_;exact⟨by rw[aC.out.1,aC.out.2,HE.out];rfl,aA.out⟩
open Go.RowKit
theorem SV.pi{P n t G:Int}(h:SV P n t G):At P:=by have:=h.pb;unfold At;omega
theorem Nr(P n t G:Int)(w:World)(h:SV P n t G):
  Calls Tryz.prog 37 #[.agg #[.int .i64 P],.agg #[.int .i64 n,.int .i64 t,.int .i64 G]] w fun e w'=>e= .returned (.int .i64 0)∧Below w.heap.size w w':=
 (Fe P n t G w h.pi).mono fun e w' ⟨h1,h2⟩=>⟨by rw[h1,h.gcE],h2⟩
theorem Nt(P n t G m:Int)(w:World)(h:SV P n t G)(hm:1≤m∧m≤1024):
  Calls Tryz.prog 51 #[.agg #[.int .i64 P],.agg #[.int .i64 n,.int .i64 t,.int .i64 G],.int .i64 m] w fun e w'=>e= .returned (.int .i64 0)∧Below w.heap.size w w':=
 (Iw P n t G m w h.pi).mono fun e w' ⟨h1,h2⟩=>⟨by rw[h1,Ul h.gcE hm],h2⟩
def LiR(P:Int)(K:Nat)(w:World)(i v:Value)(wr:World):Prop:=∃k:Nat,k≤K∧i= .int .i64 k∧wr.ownsRow w.heap.size 3 1 v (List.replicate k P).length ((List.replicate k P).map (Value.int .i64))∧Below w.heap.size w wr
theorem Sm(P n t G:Int)(m K tn:Nat)(w:World)(h:SV P n t G)(hm:1≤m∧m≤1024)(ht:t=(tn:Int))(hK:K=m*tn):
  Calls Tryz.prog 19 #[.agg #[.int .i64 P],.agg #[.int .i64 n,.int .i64 t,.int .i64 G],.int .i64 m] w fun e w'=>∃A c,e= .returned (.tuple #[.slice A K c,.int .i64 0])∧Below w.heap.size w w'∧w'.ownsRow w.heap.size 3 1 (.slice A K c) (List.replicate K P).length ((List.replicate K P).map (Value.int .i64)):=by
 have HV:=Zk h;have aJ:((m:Int)*t)=(K:Int):=by rw[hK,ht,Int.natCast_mul]
 have hKb:K≤10240:=by
  rw[hK];have:=h.sum;have:=h.n10;have:=h.G1;exact Nat.mul_le_mul hm.2 (show tn≤10 by omega)
 have hKw:IntKind.i64.wrap ((m:Int)*t)=(K:Int):=by rw[aJ];exact Zi _ (by omega)
 clear h hK aJ ht;go_enter Tryz.func19,Tryz.ntmps19;obtain⟨F,eF⟩:∃F,F=w.heap.size:=⟨_,rfl⟩;obtain⟨w1,ew⟩:∃w1:World,w1=(w.alloc (.cells #[.int .i64 P] 31)).alloc (.cells #[.int .i64 n,.int .i64 t,.int .i64 G] 29):=⟨_,rfl⟩;have aQ:Hid ((w.alloc (.cells #[.int .i64 P] 31)).alloc (.cells #[.int .i64 n,.int .i64 t,.int .i64 G] 29)=w1):=ew.symm;have aH:Hid (Below w.heap.size w w1):=Zk (by rw[ew];exact ((Zb _ w).alloc (Zl _) _).alloc (by simp) _);have aG:Hid (w1.heap[F]? =some (.cells #[.int .i64 P] 31 (0,0))):=Zk (by show _=_;rw[ew,eF,Below.heap_alloc _ _ _ (by simp)];exact Zh w _);have aD:Hid (w1.heap[F+1]? =some (.cells #[.int .i64 n,.int .i64 t,.int .i64 G] 29 (0,0))):=Zk (by show _=_;rw[ew,eF];have:=Zh (w.alloc (.cells #[.int .i64 P] 31)) (.cells #[.int .i64 n,.int .i64 t,.int .i64 G] 29);simpa using this);go_upto_region 1 with fail
 rw[aQ.out,←eF];clear ew eF;have f0:w1.cell? ⟨F,0,none⟩=some (.int .i64 P):=Zc w1 F 0 _ _ _ aG.out;have s0:w1.cell? ⟨F+1,0,none⟩=some (.int .i64 n):=Zc w1 (F+1) 0 _ _ _ aD.out;have s1:w1.cell? ⟨F+1,1,none⟩=some (.int .i64 t):=Zc w1 (F+1) 1 _ _ _ aD.out;have s2:w1.cell? ⟨F+1,2,none⟩=some (.int .i64 G):=Zc w1 (F+1) 2 _ _ _ aD.out;go_wp2_with fail;(with_reducible refine (Nt P n t G m _ HV.out (by omega)).mono ?_)
 rintro e w2 ⟨rfl,aE⟩;have aF:Hid (Below w.heap.size w w2):=aH.out.trans (aE.mono aH.out.size);have aI:Hid (w2.heap[F]? =some (.cells #[.int .i64 P] 31 (0,0))):=(aE.block F (Ae aG.out)).trans aG.out;have aP:Hid (w2.heap[F+1]? =some (.cells #[.int .i64 n,.int .i64 t,.int .i64 G] 29 (0,0))):=(aE.block (F+1) (Ae aD.out)).trans aD.out;clear aE f0 s0 s1 s2;have s1:w2.cell? ⟨F+1,1,none⟩=some (.int .i64 t):=Zc w2 (F+1) 1 _ _ _ aP.out;have aR:F<w2.heap.size:=Ae aI.out;go_wp2_with fail;go_loopw [21,9] (fun i v wr=>LiR P K w2 i v wr) (fun i _ _=>K- (intOf i).toNat)
 case atStart=>exact⟨0,Nat.zero_le _,rfl,by simpa using World.ownsRow_nil w2 w2.heap.size 3 1,Zb _ _⟩
 case round=>
  obtain⟨k,hk,rfl,aA,aB⟩:=hrel;have HO:=Zk aA;have HB:=Zk aB;have aL:=aB.size;have f0:wr.cell? ⟨F,0,none⟩=some (.int .i64 P):=(aB.cell (p:=⟨F,0,none⟩) aR).trans (Zc w2 F 0 _ _ _ aI.out);clear aA aB;by_cases hlt:k<K
  ·have aS:decide ((k:Int)<(K:Int))=true:=Ze (by omega);have aT:decide (k<K)=true:=Ze hlt;go_wp2_with (at_builtin;refine Bh _ rfl _ _ 22 rfl w2.heap.size 3 Tryz.underlying22 Bi _ (List.replicate k P) rfl HO.out P rfl (by simp;omega) aL ?_;intro v3 w3 aC aK;have aN:=Zk aC;have aM:=Zk aK;clear aC aK);go_roundw
   case rel=>
    refine⟨k+1,by omega,by go_num,?_,?_⟩
    ·rw[List.replicate_succ'];exact aN.out
    ·exact (HB.out.alloc aL _).grown aM.out (by simp;omega) (fun j hj=>(HO.out.lt j hj).1)
   case measure=>simp[intOf];omega
  ·have aU:K=k:=by omega
   subst aU;have aS:decide ((K:Int)<(K:Int))=false:=Zd (by omega);have aT:decide (K<K)=false:=Zd (by omega);have aA:=HO.out;rw[List.length_replicate] at aA;obtain⟨Av,cv,ev⟩:=Ct aA;subst ev;have aO:=Zk aA;clear hlt aA;go_wp2_with fail;refine bodyPost_ret (results_tmp2 rfl _ _ _) rfl ?_;exact⟨_,_,rfl,aF.out.trans (HB.out.mono aF.out.size),by rw[List.length_replicate];exact Cf aO.out aF.out.size⟩
theorem Uo{G m:Nat}(hG:1≤G)(hm:m≤1024):gnV (G:Int) (m:Int)=(ngr m G:Nat)∧gnE (G:Int) (m:Int)=0:=⟨if_neg (by omega),if_neg (by omega)⟩
theorem zIb(n t:Int)(G m:Nat)(w:World)(hG:1≤G∧G≤10)(hm:m≤1024):
  Calls Tryz.prog 25 #[.agg #[.int .i64 n,.int .i64 t,.int .i64 G],.int .i64 m] w fun e w'=>e= .returned (.tuple #[.int .i64 (ngr m G:Nat),.int .i64 0])∧Below w.heap.size w w':=
 (Kr n t G m w).mono fun e w' ⟨h1,h2⟩=>⟨by rw[h1,(Uo hG.1 hm).1,(Uo hG.1 hm).2],h2⟩
open Go.RowKit
def SE(g:Nat)(w:World)(v:Value)(l:List Int):Prop:=
 ∃A c,v= .slice A l.length c∧l.length≤c∧c≤9223372036854775807∧(∀x∈l,At x)∧
  (0<l.length→∃b off,A=some ⟨b,off,none⟩∧b<w.heap.size∧b≠g∧∀j (h:j<l.length),w.cell? ⟨b,off+j,none⟩=some (.int .i64 l[j]))
theorem SE.grown{g:Nat}{w w':World}{v:Value}{l:List Int}(h:SE g w v l)(hg:w.grownBy w' (some g)):SE g w' v l:=by
 obtain⟨A,c,rfl,hc,hm,hr,ha⟩:=h;refine⟨A,c,rfl,hc,hm,hr,fun h0=> ?_⟩
 obtain⟨b,aC,rfl,hb,aB,aA⟩:=ha h0;exact⟨b,aC,rfl,Nat.lt_of_lt_of_le hb hg.size,aB,fun j hj=>(World.cell?_of_block (hg.block b hb (by simpa using aB))).trans (aA j hj)⟩
theorem SE.below{g:Nat}{w w':World}{v:Value}{l:List Int}(h:SE g w v l)(hb:Below w.heap.size w w'):SE g w' v l:=h.grown (Af hb _)
theorem SE.si{g:Nat}{w:World}{v:Value}{l:List Int}(h:SE g w v l):SI w v l:=by
 obtain⟨A,c,rfl,hc,hm,hr,ha⟩:=h;refine⟨A,c,rfl,hc,hm,hr,fun h0=> ?_⟩
 obtain⟨b,aB,rfl,hb,_,aA⟩:=ha h0;exact⟨b,aB,rfl,hb,aA⟩
theorem SE.form{g:Nat}{w:World}{v:Value}{l:List Int}(h:SE g w v l):∃A c,v= .slice A l.length c:=by
 obtain⟨A,c,rfl,_⟩:=h;exact⟨A,c,rfl⟩
theorem SE.of_own{g:Nat}{w:World}{base:Nat}{e:TypeId}{v:Value}{l:List Int}(h:w.ownsRow base e 1 v l.length (l.map (Value.int .i64)))(hr:∀x∈l,At x)(hg:g<base):SE g w v l:=by
 rcases h.2 with⟨rfl,hn⟩|⟨b,aA,cur,rfl,hb,aC,aD,aB,hcs,htake⟩
 ·have:l=[]:=List.eq_nil_of_length_eq_zero hn;subst this;exact⟨none,0,rfl,Zl _,by omega,hr,fun h=>by simp at h⟩
 ·refine⟨_,aA,rfl,aD,by simpa [maxLen] using aB,hr,fun h0=>⟨b,0,rfl,(Array.getElem?_eq_some_iff.1 aC).1,by omega,fun j hj=> ?_⟩⟩
  have:=h.cellAt j (by omega);rw[Nat.zero_add,this];simp[hj]
def TAc(O:Nat)(v:Value)(ns:List Int)(w:World):Prop:=w.heap[O]? =some (.cells #[v,.int .i64 0] 45 (0,0))∧w.ownsRow (O+1) 3 1 v ns.length (ns.map (Value.int .i64))
theorem TAc.lt{O:Nat}{v:Value}{ns:List Int}{w:World}(h:TAc O v ns w):O<w.heap.size:=Ae h.1
theorem TAc.step{O g9 cap9:Nat}{v:Value}{ns:List Int}{y:Int}{w0 w w9:World}(h:TAc O v ns w)(hB:Below O w0 w)
  (hg:(w.alloc (.cells #[.int .i64 y] 3)).grownBy w9 v.ownBlock) (ho:w9.ownsRow (O+1) 3 1 (.slice (some ⟨g9,0,none⟩) (ns++[y]).length cap9) (ns++[y]).length ((ns++[y]).map (Value.int .i64))):
  TAc O (.slice (some ⟨g9,0,none⟩) (ns.length+1) cap9) (ns++[y]) (w9.setCell ⟨O,0,none⟩ (.slice (some ⟨g9,0,none⟩) (ns.length+1) cap9))∧Below O w0 (w9.setCell ⟨O,0,none⟩ (.slice (some ⟨g9,0,none⟩) (ns.length+1) cap9)):=by
 have aA:=h.lt;have hv:∀q,v.ownBlock=some q→O+1≤q:=fun q hq=>(h.2.lt q hq).1
 have hO:w9.heap[O]? =some (.cells #[v,.int .i64 0] 45 (0,0)):=(hg.block O (by simp;omega) (fun e=>by have:=hv O e.symm;omega)).trans ((Below.heap_alloc w _ O aA).trans h.1)
 have hl:(ns++[y]).length=ns.length+1:=by simp
 rw[hl] at ho;refine⟨⟨?_,?_⟩,?_⟩
 ·have:=heap_setCell_same w9 O 0 _ _ (.slice (some ⟨g9,0,none⟩) (ns.length+1) cap9) hO;simpa using this
 ·rw[hl];exact Bc ho (by show O<O+1;omega) _
 ·exact (((hB.alloc (Nat.le_of_lt aA) _)).grown hg (by simp;omega) (fun k hk=>by have:=hv k hk;omega)).setCell (Zl _) _
theorem TAc.frozen{O:Nat}{v:Value}{ns:List Int}{w w9:World}{y:Int}(h:TAc O v ns w)(hg:(w.alloc (.cells #[.int .i64 y] 3)).grownBy w9 v.ownBlock):w9.frozen? ⟨O,0,none⟩=false:=by
 have hv:∀q,v.ownBlock=some q→O+1≤q:=fun q hq=>(h.2.lt q hq).1
 exact Zf w9 O 0 _ _ ((hg.block O (by have:=h.lt;simp;omega) (fun e=>by have:=hv O e.symm;omega)).trans ((Below.heap_alloc w _ O h.lt).trans h.1))
theorem TAc.ne{O:Nat}{v:Value}{ns:List Int}{w:World}(h:TAc O v ns w):some O≠v.ownBlock:=fun e=>by have:=(h.2.lt O e.symm).1;omega
open Go.RowKit
def pms:List Int:=[2,3,5,7,11,13,17,257,65521]
theorem zHi:∀j (h:j<9),prB (pms[j]'h)=true
 |0,_=>by kernel_rfl|1,_=>by kernel_rfl|2,_=>by kernel_rfl|3,_=>by kernel_rfl|4,_=>by kernel_rfl|5,_=>by kernel_rfl|6,_=>by kernel_rfl|7,_=>by kernel_rfl|8,_=>by kernel_rfl
theorem Rc:∀j (hj:j<9),∀i (hi:i≤j),pms[i]'(Nat.lt_of_le_of_lt hi hj)≤pms[j]'hj:=by decide
def lnOf:Value→Nat| .slice _ n _=>n|_=>0
theorem zCh(g:Nat)(least:Int)(w:World)(hD:Dk w g)(h0:0≤least)(h1:least≤16):
  Calls Tryz.prog 14 #[.pointer (some ⟨g,0,none⟩),.int .i64 least] w fun e w'=>∃P,e= .returned (.agg #[.int .i64 P])∧Dk w' g∧w.grownBy w' (some g)∧prB P=true∧least<P:=by
 have HD:=Zk hD;have hgw:g<w.heap.size:=hD.lt;clear hD;go_enter Tryz.func14,Tryz.ntmps14;obtain⟨R,eR⟩:∃R,R=w.heap.size:=⟨_,rfl⟩;obtain⟨w1,aB⟩:∃w1:World,w1=w.alloc (.cells #[.int .i64 0] 31):=⟨_,rfl⟩;have aZ:Hid (w.alloc (.cells #[.int .i64 0] 31)=w1):=aB.symm;have aE:Hid (w1.heap[R]? =some (.cells #[.int .i64 0] 31 (0,0))):=Zk (by show _=_;rw[aB,eR];exact Zh w _);have aH:Hid (Below w.heap.size w w1):=Zk (by rw[aB];exact (Zb _ w).alloc (Zl _) _);have aT:w1.heap.size=R+1:=by rw[aB,eR];simp
 have aU:=Zk (HD.out.below aH.out);have hgR:g<R:=by omega
 have aX:=Zk eR;have HZ1:=Zk aT;clear aB aT;go_upto_region 1 with fail
 rw[aZ.out,←eR];clear eR;obtain⟨b,eb⟩:∃b,b=w1.heap.size:=⟨_,rfl⟩;obtain⟨w2,aC⟩:∃w2:World,w2=w1.alloc (.cells #[.int .i64 2,.int .i64 3,.int .i64 5,.int .i64 7,.int .i64 11,.int .i64 13,.int .i64 17,.int .i64 257,.int .i64 65521] 3):=⟨_,rfl⟩;have bA:Hid (w1.alloc (.cells #[.int .i64 2,.int .i64 3,.int .i64 5,.int .i64 7,.int .i64 11,.int .i64 13,.int .i64 17,.int .i64 257,.int .i64 65521] 3)=w2):=aC.symm;have aO:Hid (w2.heap[b]? =some (.cells (pms.map (Value.int .i64)).toArray 3 (0,0))):=Zk (by show _=_;rw[aC,eb];exact Zh w1 _);have aD:Hid (Below w1.heap.size w1 w2):=Zk (by rw[aC];exact (Zb _ w1).alloc (Zl _) _);have aN:Hid (w2.heap[R]? =some (.cells #[.int .i64 0] 31 (0,0))):=Zk ((aD.out.block R (Ae aE.out)).trans aE.out);have aV:=Zk (aU.out.below aD.out);have hbR:R<b:=by rw[eb];exact Ae aE.out
 have aY:Hid (w.grownBy w2 (some g)):=Ag (Af aH.out _) (Af aD.out _);have HC:Hid (∀j (h:j<9),w2.cell? ⟨b,j,none⟩=some (.int .i64 (pms[j]'h))):=Zk (fun j h=>by
  rw[Zc w2 b j _ _ _ aO.out];have hj:j<pms.length:=h;simp[hj];rfl)
 have bB:b<w2.heap.size:=Ae aO.out;have HEB:=Zk eb;go_upto_region 2 with fail
 rw[bA.out,←eb];clear aC eb;go_loopw [5] (fun v wr=>∃(k m:Nat),k+m=9∧1≤m∧v= .slice (some ⟨b,k,none⟩) m m∧w2=wr) (fun v _=>lnOf v)
 case atStart=>exact⟨0,9,rfl,by omega,rfl,rfl⟩
 case round=>
  obtain⟨k,m,aR,hm,rfl,rfl⟩:=hrel;obtain⟨m,rfl⟩:∃m',m=m'+1:=⟨m-1,by omega⟩;have c0:=HC.out k (by omega);have bC:k<9:=by omega
  have hm8:m≤8:=by omega
  have aK:Hid (least<pms[k]∨(pms[k]≤least∧1≤m)):=Zk (by
   by_cases h:pms[k]≤least
   ·refine .inr ⟨h,?_⟩;by_cases hk:k≤7
    ·omega
    ·have:pms[7]≤pms[k]:=Rc k bC 7 (by omega);have h7:pms[7]=257:=rfl;omega
   ·exact .inl (by omega))
  obtain⟨x,ex⟩:∃x,x=pms[k]:=⟨_,rfl⟩;rw[←ex] at c0 aK;have HX:=Zk ex;have aJ:=Zk aR;clear ex aR;rcases aK.out with aS|⟨aS,bD⟩
  ·have z0:decide (x≤least)=false:=Zd (by omega);have mi:At ((m:Int)+1):=by unfold At;omega
   have bG:(m:Int)+1≤4611686018427387904:=by omega
   go_wp2_with fail;(with_reducible refine (Cy ((m:Int)+1) g w2 aV.out mi bG).mono ?_)
   rintro e w3 ⟨y,rfl,_,hy,aQ,aG⟩;obtain⟨bE,bF⟩:=hy (by omega);obtain⟨yn,rfl⟩:∃yn:Nat,y=yn:=⟨y.toNat,by omega⟩;have hyn:yn<m+1:=by omega
   have hyn2:(yn:Int)<(m:Int)+1:=by omega
   have aA:k+yn<9:=by have:=aJ.out;omega
   have c1:w3.cell? ⟨b,k+yn,none⟩=some (.int .i64 (pms[k+yn]'aA)):=(World.cell?_of_block (aG.block b bB (by simp;omega))).trans (HC.out _ aA);have aM:Hid (prB (pms[k+yn]'aA)=true):=zHi _ _;have aL:Hid (least<pms[k+yn]'aA):=Zk (by
    have h5:=Rc (k+yn) aA k (by omega);have h6:=HX.out;show _<_;omega)
   obtain⟨P,eP⟩:∃P,P=pms[k+yn]'aA:=⟨_,rfl⟩;rw[←eP] at c1 aM aL;have aW:=Zk aQ;have aI:=Zk aG;have aF:Hid (w3.heap[R]? =some (.cells #[.int .i64 0] 31 (0,0))):=Zk ((aI.out.block R (Ae aN.out) (by simp;omega)).trans aN.out);have cR0:w3.cell? ⟨R,0,none⟩=some (.int .i64 0):=Zc w3 R 0 _ _ _ aF.out;have fR0:w3.frozen? ⟨R,0,none⟩=false:=Zf w3 R 0 _ _ aF.out;clear eP aQ aG hy bE bF;go_wp2_with fail;have HW:(w3.setCell ⟨R,0,none⟩ (.int .i64 P)).heap[R]? =some (.cells #[.int .i64 P] 31 (0,0)):=by
    have:=heap_setCell_same w3 R 0 _ _ (.int .i64 P) aF.out;simpa using this
   have q0:=Zc _ R 0 _ _ _ HW;simp only[List.getElem?_toArray,List.getElem?_cons_zero] at q0;have aP:w3.grownBy (w3.setCell ⟨R,0,none⟩ (.int .i64 P)) (some R):=Ak (g:=R) (p:=⟨R,0,none⟩) (Ai _ _) (.inl rfl) _;refine bodyPost_ret (v:= .agg #[.int .i64 P]) (by simp[results,Tryz.results14,go_sem,q0]) rfl ⟨P,rfl,aW.out.grown aP (fun k hk=>by injection hk with e;omega),?_,aM.out,aL.out⟩
   exact Cv (Ag aY.out aI.out) aP (fun k hk=>by injection hk with e;have:=aX.out;omega)
  ·have z0:decide (x≤least)=true:=Ze aS;go_wp2_with fail;go_roundw
   case rel=>exact⟨k+1,m,by have:=aJ.out;omega,bD,by simp,by simp⟩
   case measure=>simp[lnOf]
open Go.RowKit
theorem Yd{l:List Int}{P:Int}(hP:2≤P∧P≤65521)(hl:l.length≤16384)(h:els P l=true):dsE l ((0:Nat):Int) P (l.length:Int)=0:=by
 have hv:tvB l ((0:Nat):Int)=true:=Ze ⟨hl,by omega,by omega⟩;have hi:liB P=true:=Ze ⟨by omega,by omega⟩;unfold dsE;rw[if_neg (by rw[hv];simp),if_neg (by rw[hi];simp)];exact Xz fun j hj=>by
  have aA:j<l.length:=by simpa using hj
  have:=Be h l[j] (List.getElem_mem aA);have h2:0≤l[j]∧l[j]<P:=of_decide_eq_true this;have hg:gd l (0+j)=l[j]:=by simp[gd,aA]
  show 0+j<l.length∧0≤gd l (0+j)∧gd l (0+j)<P;rw[hg];exact⟨by simpa using aA,h2⟩
theorem Uc{l:List Int}{an:Nat}{P c:Int}(h:dsE l an P c=0):((l.drop an).take c.toNat).length=c.toNat∧els P ((l.drop an).take c.toNat)=true:=by
 have hv:tvB l an=true:=by
  cases hh:tvB l (an:Int) with
  |true=>rfl
  |false=>unfold dsE at h;rw[if_pos hh] at h;cases h
 have hd:drE l P an c.toNat=0:=by
  unfold dsE at h;rw[if_neg (by rw[hv];simp)] at h;split at h
  ·cases h
  ·exact h
 have:=Ya hd;refine⟨?_,?_⟩
 ·rw[List.length_take,List.length_drop];rcases Nat.eq_zero_or_pos c.toNat with h0|h0
  ·omega
  ·have:=(this (c.toNat-1) (by omega)).1;omega
 ·unfold els;rw[List.all_eq_true];intro x hx;obtain⟨j,hj,rfl⟩:=List.mem_iff_getElem.1 hx;have aA:j<c.toNat:=by simp at hj;omega
  obtain⟨q1,q2,q3⟩:=this j aA;have:gd l (an+j)=((l.drop an).take c.toNat)[j]:=by simp[gd,q1]
  rw[this] at q2 q3;exact Ze ⟨q2,q3⟩
open Go.RowKit
theorem Sd(l:List Int)(at_ n c:Int)(v:Value)(w:World)(h:SI w v l)(hc:At c):
  Calls Tryz.prog 52 #[.agg #[v,.int .i64 at_],.int .i64 n,.int .i64 c] w fun e w'=>∃v1 a1 v2,e= .returned (.tuple #[.agg #[v1,.int .i64 a1],v2,.int .i64 (dsE l at_ n c)])∧Below w.heap.size w w'∧
   (dsE l at_ n c=0→a1=at_+c∧(SI w' v1 l∧w'.ownsRow w.heap.size 3 1 v1 l.length (l.map (Value.int .i64)))∧w'.ownsRow w.heap.size 3 1 v2 ((l.drop at_.toNat).take c.toNat).length (((l.drop at_.toNat).take c.toNat).map (Value.int .i64)))∧(dsE l at_ n c≠0→v1= .slice none 0 0∧a1=0∧v2= .slice none 0 0):=by
 have HS:=Zk h;obtain⟨A,cc,rfl⟩:=h.form';clear h;go_enter Tryz.func52,Tryz.ntmps52;go_upto_region 1 with fail
 obtain⟨wa,ew⟩:∃wa:World,wa=(w.alloc (.cells #[.slice A l.length cc,.int .i64 at_] 45)).alloc (.cells #[.slice none 0 0,.int .i64 0] 45):=⟨_,rfl⟩;have aS:Hid (Below w.heap.size w wa):=by show Below _ _ _;rw[ew];exact ((Zb _ w).alloc (Zl _) _).alloc (by simp) _
 have bZ:wa.heap.size=w.heap.size+2:=by rw[ew];simp
 have HT:Hid (wa.heap[w.heap.size]? =some (.cells #[.slice A l.length cc,.int .i64 at_] 45 (0,0))):=by
  show _=_;rw[ew,Below.heap_alloc _ _ _ (by simp)];exact Zh w _
 have HR:Hid (wa.heap[w.heap.size+1]? =some (.cells #[.slice none 0 0,.int .i64 0] 45 (0,0))):=by
  show _=_;rw[ew];have:=Zh (w.alloc (.cells #[.slice A l.length cc,.int .i64 at_] 45)) (.cells #[.slice none 0 0,.int .i64 0] 45);simpa using this
 rw[←ew];clear ew;have bU:=Zk (HS.out.below aS.out);obtain⟨T,hT⟩:∃T,w.heap.size=T:=⟨_,rfl⟩;have aF:=Zk hT;rw[hT] at HT HR bZ⊢;clear hT;have aJ:wa.cell? ⟨T,0,none⟩=some (.slice A l.length cc):=Zc wa T 0 _ _ _ HT.out;have aY:wa.cell? ⟨T,1,none⟩=some (.int .i64 at_):=Zc wa T 1 _ _ _ HT.out;go_wp2_with fail;(with_reducible refine (Nc l at_ _ _ bU.out).mono ?_)
 rintro e w1 ⟨rfl,aK⟩;have HB1:=Zk aK;have aB:Hid (Below w.heap.size w w1):=aS.out.trans (aK.mono aS.out.size);have aV:Hid (w1.heap[T]? =some (.cells #[.slice A l.length cc,.int .i64 at_] 45 (0,0))):=(aK.block T (by omega)).trans HT.out;have aE:Hid (w1.heap[T+1]? =some (.cells #[.slice none 0 0,.int .i64 0] 45 (0,0))):=(aK.block (T+1) (by omega)).trans HR.out;have bY:=aK.size;have aW:w1.cell? ⟨T+1,0,none⟩=some (.slice none 0 0):=Zc w1 (T+1) 0 _ _ _ aE.out;have aX:w1.cell? ⟨T+1,1,none⟩=some (.int .i64 0):=Zc w1 (T+1) 1 _ _ _ aE.out;have aZ:w1.frozen? ⟨T+1,0,none⟩=false:=Zf w1 (T+1) 0 _ _ aE.out;have bA:w1.frozen? ⟨T+1,1,none⟩=false:=Zf w1 (T+1) 1 _ _ aE.out;clear aJ aY aK;by_cases hv:tvB l at_=false
 ·have HE:Hid (dsE l at_ n c=2):=by show _=_;unfold dsE;rw[if_pos hv]
  rw[hv];clear hv;go_wp2_with fail;have HW:=Ck (.slice none 0 0) (.int .i64 0) aE.out;have q0:=Zc _ (T+1) 0 _ _ _ HW;have q1:=Zc _ (T+1) 1 _ _ _ HW;simp only[List.getElem?_toArray,List.getElem?_cons_zero,List.getElem?_cons_succ] at q0 q1;refine bodyPost_ret (v:= .tuple #[.agg #[.slice none 0 0,.int .i64 0],.slice none 0 0,.int .i64 2]) (by simp[results,Tryz.results52,go_sem,q0,q1]) rfl ⟨_,_,_,by rw[HE.out],?_,fun h=>by rw[HE.out] at h;omega,fun _=>⟨rfl,rfl,rfl⟩⟩
  exact (aB.out.setCell (by show _≤T+1;have:=aF.out;omega) _).setCell (by show _≤T+1;have:=aF.out;omega) _
 ·have aQ:tvB l at_=true:=by simpa using hv
  have HV:=Zk aQ;have bF:=Zk hv;rw[aQ];have hvv:l.length≤16384∧0≤at_∧at_≤(l.length:Int):=of_decide_eq_true aQ;clear hv aQ;go_wp2_with fail;(with_reducible refine (My n _).mono ?_)
  rintro e w2 ⟨rfl,rfl⟩;by_cases hlm:liB n=false∨c<0
  ·have HE:Hid (dsE l at_ n c=1):=by show _=_;unfold dsE;rw[if_neg bF.out,if_pos hlm]
   have hg:liB n=false∨(liB n=true∧decide (c<0)=true):=by
    cases h:liB n with
    |false=>exact .inl rfl
    |true=>exact .inr ⟨rfl,by rcases hlm with h2|h2;(rw[h] at h2;cases h2);exact Ze h2⟩
   clear hlm;rcases hg with hg|⟨hg,hcz⟩;all_goals
    rw[hg];clear hg;go_wp2_with fail;have HW:=Ck (.slice none 0 0) (.int .i64 0) aE.out;have q0:=Zc _ (T+1) 0 _ _ _ HW;have q1:=Zc _ (T+1) 1 _ _ _ HW;simp only[List.getElem?_toArray,List.getElem?_cons_zero,List.getElem?_cons_succ] at q0 q1;refine bodyPost_ret (v:= .tuple #[.agg #[.slice none 0 0,.int .i64 0],.slice none 0 0,.int .i64 1]) (by simp[results,Tryz.results52,go_sem,q0,q1]) rfl ⟨_,_,_,by rw[HE.out],?_,fun h=>by rw[HE.out] at h;omega,fun _=>⟨rfl,rfl,rfl⟩⟩
    exact (aB.out.setCell (by show _≤T+1;have:=aF.out;omega) _).setCell (by show _≤T+1;have:=aF.out;omega) _
  ·have bK:liB n=true:=by
    cases h:liB n with
    |false=>exact absurd (.inl h) hlm
    |true=>rfl
   have bX:¬c<0:=fun h=>hlm (.inr h)
   obtain⟨cn,rfl⟩:∃cn:Nat,c=cn:=⟨c.toNat,by omega⟩;obtain⟨an,rfl⟩:∃an:Nat,at_=an:=⟨at_.toNat,by omega⟩;have hdc:decide ((cn:Int)<0)=false:=Zd bX;have aU:Hid (dsE l an n cn=drE l n an cn):=by show _=_;unfold dsE;rw[if_neg bF.out,if_neg hlm];rfl
   rw[bK];clear hlm bK;have aJ:w1.cell? ⟨T,0,none⟩=some (.slice A l.length cc):=Zc w1 T 0 _ _ _ aV.out;have aY:w1.cell? ⟨T,1,none⟩=some (.int .i64 an):=Zc w1 T 1 _ _ _ aV.out;go_upto_region 6 with fail
   obtain⟨b,hb⟩:∃b,w1.heap.size=b:=⟨_,rfl⟩;have aN:=Zk hb;obtain⟨w2,aO⟩:∃w2:World,w2=w1.alloc (.cells #[.slice A l.length cc,.int .i64 an,.slice none 0 0] 125):=⟨_,rfl⟩;have aH:Hid (Below w1.heap.size w1 w2):=by show Below _ _ _;rw[aO];exact (Zb _ _).alloc (Zl _) _
   have bN:Hid (w2.heap[b]? =some (.cells #[.slice A l.length cc,.int .i64 an,.slice none 0 0] 125 (0,0))):=by show _=_;rw[aO,←hb];exact Zh w1 _
   have hz2:w2.heap.size=b+1:=by rw[aO,←hb];simp
   rw[←aO,hb];rw[hb] at bY;clear aO hb;have bS:Hid (SB b w2 (.slice A l.length cc) l):=(SB.below HS.out (aB.out.trans (aH.out.mono aB.out.size))).more (by have:=aB.out.size;have:=aN.out;omega);clear aJ aY aW aX aZ bA;go_wp2_with fail;(with_reducible refine (Pz l an n cn b _ w2 bS.out (by omega) (by omega) (by have:=hc;unfold At at this;omega) bN.out).mono ?_)
   rintro e w3 ⟨rfl,aL,bL⟩;have HG3:=Zk aL;have bQ:=Zk bL;have hz3:=aL.size;have aI:Hid (w3.heap[T+1]? =some (.cells #[.slice none 0 0,.int .i64 0] 45 (0,0))):=(aL.block (T+1) (by omega) (by simp;omega)).trans ((aH.out.block (T+1) (by have:=aN.out;omega)).trans aE.out);have bV:Hid (w3.heap[T]? =some (.cells #[.slice A l.length cc,.int .i64 an] 45 (0,0))):=(aL.block T (by omega) (by simp;omega)).trans ((aH.out.block T (by have:=aN.out;omega)).trans aV.out);have aA:Hid (Below w.heap.size w w3):=(aB.out.trans (aH.out.mono aB.out.size)).grown aL (by have:=aB.out.size;have:=aH.out.size;omega) (fun k hk=>by injection hk with hk;have:=aB.out.size;have:=aN.out;omega)
   have aW:w3.cell? ⟨T+1,0,none⟩=some (.slice none 0 0):=Zc w3 (T+1) 0 _ _ _ aI.out;have aX:w3.cell? ⟨T+1,1,none⟩=some (.int .i64 0):=Zc w3 (T+1) 1 _ _ _ aI.out;have aZ:w3.frozen? ⟨T+1,0,none⟩=false:=Zf w3 (T+1) 0 _ _ aI.out;have bA:w3.frozen? ⟨T+1,1,none⟩=false:=Zf w3 (T+1) 1 _ _ aI.out;obtain⟨er,bC⟩:∃er,drE l n an cn=er:=⟨_,rfl⟩;have aP:=Zk bC;rw[bC];clear aL bL bC;by_cases h0:er=0
   ·subst h0;obtain⟨vd,bI,aG⟩:=bQ.out aP.out;have aR:=Zk bI;have HO:=Zk aG;obtain⟨Ad,cd,rfl⟩:=Ct aG;obtain⟨D,hD⟩:∃D,(l.drop an).take cn=D:=⟨_,rfl⟩;have bO:=Zk hD;rw[hD] at HO aR;have aJ:w3.cell? ⟨T,0,none⟩=some (.slice A l.length cc):=Zc w3 T 0 _ _ _ bV.out;have bG:w3.cell? ⟨b,1,none⟩=some (.int .i64 ((an:Int)+cn)):=Zc w3 b 1 _ _ _ aR.out;have bH:w3.cell? ⟨b,2,none⟩=some (.slice Ad D.length cd):=Zc w3 b 2 _ _ _ aR.out;have bJ:b<w3.heap.size:=by omega
    have bW:T<w3.heap.size:=by omega
    have aC:T+1<w3.heap.size:=by omega
    have bR:Hid (∀x∈l,At x):=by obtain⟨_,_,_,_,_,hr,_⟩:=HS.out;exact hr
    have bT:Hid (SI w3 (.slice A l.length cc) l):=(SB.below HS.out aA.out).si aA.out.size;clear bI aG hD;go_wp2_with fail;have hbT:¬(b=T+1):=by have:=aN.out;omega
    have hbT':¬(T+1=b):=by omega
    go_region_held3 (fun w'=>w'.cell? ⟨T,0,none⟩=some (.slice A l.length cc)∧w'.cell? ⟨b,1,none⟩=some (.int .i64 ((an:Int)+cn))∧w'.cell? ⟨b,2,none⟩=some (.slice Ad D.length cd)) (first|exact⟨aJ,bG,bH⟩|exact⟨x0,x1,x2⟩|go_keep)
     (first|(go_at_call 80;refine (Hs l _ _ (by exact bT.out) (by omega)).mono ?_;rintro e w4 ⟨v4,rfl,bB,aD⟩;obtain⟨A4,k4,rfl⟩:=Ct bB;have bE:=Zk bB;have aM:=Zk aD;have x0:=(aD.cell (p:=⟨T,0,none⟩) bW).trans aJ;have x1:=(aD.cell (p:=⟨b,1,none⟩) bJ).trans bG;have x2:=(aD.cell (p:=⟨b,2,none⟩) bJ).trans bH;have x3:=(aD.cell (p:=⟨T+1,0,none⟩) aC).trans aW;have x4:=(aD.cell (p:=⟨T+1,1,none⟩) aC).trans aX;have x5:=(aD.frozen (p:=⟨T+1,0,none⟩) aC).trans aZ;have x6:=(aD.frozen (p:=⟨T+1,1,none⟩) aC).trans bA;clear bB aD))
    all_goals
     have bD:Hid (w4.heap[T+1]? =some (.cells #[.slice none 0 0,.int .i64 0] 45 (0,0))):=(aM.out.block (T+1) aC).trans aI.out;have aT:Hid (Below w.heap.size w w4):=aA.out.trans ((by first|exact aM.out|exact aM.out.drew_left:Below w3.heap.size w3 w4).mono aA.out.size);go_wp2_with fail;have HW:=Ck (.slice A4 l.length k4) (.int .i64 ((an:Int)+cn)) bD.out;have q0:=Zc _ (T+1) 0 _ _ _ HW;have q1:=Zc _ (T+1) 1 _ _ _ HW;simp only[List.getElem?_toArray,List.getElem?_cons_zero,List.getElem?_cons_succ] at q0 q1;have hTw:w.heap.size≤T:=by have:=aF.out;omega
     have hTl2:T+1<w4.heap.size:=Ae bD.out;have bM:Hid (Below w.heap.size w ((w4.setCell ⟨T+1,0,none⟩ (.slice A4 l.length k4)).setCell ⟨T+1,1,none⟩ (.int .i64 ((an:Int)+cn)))):=(aT.out.setCell (by show _≤T+1;omega) _).setCell (by show _≤T+1;omega) _;refine bodyPost_ret (v:= .tuple #[.agg #[.slice A4 l.length k4,.int .i64 ((an:Int)+cn)],.slice Ad D.length cd,.int .i64 0]) (by simp[results,Tryz.results52,go_sem,q0,q1]) rfl ⟨_,_,_,by rw[aU.out,aP.out],bM.out,fun _=>⟨rfl,?_,?_⟩,fun h=>absurd (aU.out.trans aP.out) h⟩
     ·exact⟨SI.of_own (Bc (Bc bE.out aC _) aC _) bR.out,Cf (Bc (Bc bE.out aC _) aC _) aA.out.size⟩
     ·rw[show ((an:Int)).toNat=an from rfl,show ((cn:Int)).toNat=cn from rfl,bO.out];exact Cf (Bc (Bc (Bm HO.out (by first|exact aM.out|exact aM.out.drew_left)) (by show T+1<w2.heap.size;omega) _) (by show T+1<w2.heap.size;omega) _) (by have:=aH.out.size;have:=aB.out.size;omega)
   ·have HE:Hid (dsE l an n cn=er):=aU.out.trans aP.out;have hbn:(er !=0)=true:=by rw[bne_iff_ne];exact h0
    have bP:=Zk h0;clear h0;go_wp2_with fail;have HW:=Ck (.slice none 0 0) (.int .i64 0) aI.out;have q0:=Zc _ (T+1) 0 _ _ _ HW;have q1:=Zc _ (T+1) 1 _ _ _ HW;simp only[List.getElem?_toArray,List.getElem?_cons_zero,List.getElem?_cons_succ] at q0 q1;refine bodyPost_ret (v:= .tuple #[.agg #[.slice none 0 0,.int .i64 0],.slice none 0 0,.int .i64 er]) (by simp[results,Tryz.results52,go_sem,q0,q1]) rfl ⟨_,_,_,by rw[HE.out],?_,fun h=>by rw[HE.out] at h;exact absurd h bP.out,fun _=>⟨rfl,rfl,rfl⟩⟩
    exact (aA.out.setCell (by show _≤T+1;have:=aF.out;omega) _).setCell (by show _≤T+1;have:=aF.out;omega) _
open Go.RowKit
theorem Az{w:World}{base e size n:Nat}{v u:Value}{xs:List Value}{p:Addr}(h:w.ownsRow base e size v n xs)(hp:p.block<base):(w.setCell p u).ownsRow base e size v n xs:=Bc h hp u
theorem Tl(l:List Int)(at_:Int)(v:Value)(w:World)(h:SI w v l):
  Calls Tryz.prog 82 #[.agg #[v,.int .i64 at_]] w fun e w'=>e= .returned (.bool (tvB l at_))∧Below w.heap.size w w':=by
 obtain⟨A,c,rfl⟩:=h.form';clear h;have HB:Hid (∀o:Obj,Below w.heap.size w (w.alloc o)):=fun o=>(Zb _ w).alloc (Zl _) o
 go_enter Tryz.func82,Tryz.ntmps82;by_cases h1:l.length≤16384
 ·have d1:decide ((l.length:Int)≤16384)=true:=Ze (by omega);by_cases h2:0≤at_
  ·have d2:decide (0≤at_)=true:=Ze h2;by_cases h3:at_≤(l.length:Int)
   ·have d3:decide (at_≤(l.length:Int))=true:=Ze h3;have HE:Hid (tvB l at_=true):=Ze ⟨h1,h2,h3⟩;go_wp2_with fail;go_ret;exact⟨by rw[HE.out]<;>rfl,HB.out _⟩
   ·have d3:decide (at_≤(l.length:Int))=false:=Zd h3;have HE:Hid (tvB l at_=false):=Zd fun h=>h3 h.2.2
    go_wp2_with fail;go_ret;exact⟨by rw[HE.out]<;>rfl,HB.out _⟩
  ·have d2:decide (0≤at_)=false:=Zd h2;have HE:Hid (tvB l at_=false):=Zd fun h=>h2 h.2.1
   go_wp2_with fail;go_ret;exact⟨by rw[HE.out]<;>rfl,HB.out _⟩
 ·have d1:decide ((l.length:Int)≤16384)=false:=Zd (by omega);have HE:Hid (tvB l at_=false):=Zd fun h=>h1 h.1
  go_wp2_with fail;go_ret;exact⟨by rw[HE.out]<;>rfl,HB.out _⟩
theorem Sj{a w w':World}{F:Nat}{r:Option Nat}(h:a.grownBy w (some F))(hg:w.grownBy w' r)(hr:∀b,r=some b→a.heap.size≤b):a.grownBy w' (some F):=
 ⟨hg.os.trans h.os,hg.tape.trans h.tape,hg.output.trans h.output,Nat.le_trans h.size hg.size,fun i hi hn=>(hg.block i (Nat.lt_of_lt_of_le hi h.size) (fun e=>by have:=hr i e.symm;omega)).trans (h.block i hi hn)⟩
theorem Yq{a w:World}{F i:Nat}{u:Value}(h:a.grownBy w (some F)):a.grownBy (w.setCell ⟨F,i,none⟩ u) (some F):=
 ⟨h.os,h.tape,h.output,by simpa using h.size,fun j hj hn=>by
  have e:j≠F:=by simpa using hn
  have h1:=h.block j hj hn;rw[←h1];exact Zo w ⟨F,i,none⟩ j u e⟩
theorem Wn(l:List Int)(at_:Int)(v:Value)(w:World)(h:SI w v l)(hz:l.length≤1000000):
  Calls Tryz.prog 83 #[.agg #[v,.int .i64 at_]] w fun e w'=>∃v1,e= .returned (.agg #[v1,.int .i64 at_])∧w'.ownsRow w.heap.size 3 1 v1 l.length (l.map (Value.int .i64))∧Below w.heap.size w w':=by
 have HS:=Zk h;obtain⟨A,c,rfl⟩:=h.form';clear h;go_enter Tryz.func83,Tryz.ntmps83;obtain⟨F,eF⟩:∃F,F=w.heap.size:=⟨_,rfl⟩;obtain⟨w1,aH⟩:∃w1:World,w1=(w.alloc (.cells #[.slice A l.length c,.int .i64 at_] 45)).alloc (.cells #[.slice none 0 0,.int .i64 0] 45):=⟨_,rfl⟩;have aI:Hid ((w.alloc (.cells #[.slice A l.length c,.int .i64 at_] 45)).alloc (.cells #[.slice none 0 0,.int .i64 0] 45)=w1):=aH.symm;have aC:Hid (Below w.heap.size w w1):=Zk (by rw[aH];exact ((Zb _ w).alloc (Zl _) _).alloc (by simp) _);have aA:Hid (w1.heap[F]? =some (.cells #[.slice A l.length c,.int .i64 at_] 45 (0,0))):=Zk (by show _=_;rw[aH,eF,Below.heap_alloc _ _ _ (by simp)];exact Zh w _);have aD:Hid (w1.heap[F+1]? =some (.cells #[.slice none 0 0,.int .i64 0] 45 (0,0))):=Zk (by show _=_;rw[aH,eF];have:=Zh (w.alloc (.cells #[.slice A l.length c,.int .i64 at_] 45)) (.cells #[.slice none 0 0,.int .i64 0] 45);simpa using this);have hFw:w.heap.size≤F:=by omega
 go_upto_region 1 with fail
 rw[aI.out,←eF];clear aH eF;have x0:=Zc w1 F 0 _ _ _ aA.out;simp at x0;have aJ:F+1<w1.heap.size:=Ae aD.out;go_upto_region 2 with (at_builtin;refine Bv _ rfl _ _ 22 rfl w1.heap.size 3 Tryz.underlying22 Bi (.slice none 0 0) [] rfl (World.ownsRow_nil _ _ _ _) w1.heap.size (.slice A l.length c) l rfl (HS.out.below aC.out) (by simp;omega) (Zl _) ?_;intro v2 w2 aB aF;rw[List.nil_append] at aB;obtain⟨A2,c2,aU⟩:=Ct aB;subst aU;have aS:=Zk aB;have aG:Hid (Below w1.heap.size w1 w2):=Zk (⟨aF.os,aF.tape,aF.output,aF.size,fun i hi=>aF.block i hi (by simp[Value.ownBlock])⟩);have f0:=Zf w2 F 0 _ _ ((aG.out.block F (by omega)).trans aA.out);have e0:w2.cell? ⟨F,0,none⟩=some (.slice A l.length c):=Zc w2 F 0 _ _ _ ((aG.out.block F (by omega)).trans aA.out);clear aB aF)
 have aM:=(aG.out.block F (by omega)).trans aA.out;have aN:=(aG.out.block (F+1) aJ).trans aD.out;have h3:=heap_setCell_same w2 F 0 _ _ (.slice A2 l.length c2) aM;have aE:=(Zo w2 ⟨F,0,none⟩ (F+1) (.slice A2 l.length c2) (by show F+1≠F;omega)).trans aN;have aL:=Az (p:=⟨F,0,none⟩) (u:= .slice A2 l.length c2) aS.out (by show F<_;omega);have aK:=(aC.out.trans (aG.out.mono aC.out.size)).setCell (p:=⟨F,0,none⟩) (by show _≤F;omega) (.slice A2 l.length c2);generalize (w2.setCell ⟨F,0,none⟩ (.slice A2 l.length c2))=w3 at h3 aE aL aK⊢;have aT:=Zk aL;have aR:=Zk aK;have aQ:=Zk aE;have y0:=Zc w3 F 0 _ _ _ h3;have y1:=Zc w3 F 1 _ _ _ h3;have g0:=Zf w3 (F+1) 0 _ _ aE;have g1:=Zf w3 (F+1) 1 _ _ aE;have z0:w3.cell? ⟨F+1,0,none⟩=some (.slice none 0 0):=Zc w3 (F+1) 0 _ _ _ aE;have z1:w3.cell? ⟨F+1,1,none⟩=some (.int .i64 0):=Zc w3 (F+1) 1 _ _ _ aE;simp at y0 y1;clear aM aN h3 aE aL aK f0 e0 x0;go_wp2_with fail;have h4:=Ck (.slice A2 l.length c2) (.int .i64 at_) aQ.out;have aP:=Az (p:=⟨F+1,1,none⟩) (u:= .int .i64 at_) (Az (p:=⟨F+1,0,none⟩) (u:= .slice A2 l.length c2) aT.out aJ) aJ;have aO:=(aR.out.setCell (p:=⟨F+1,0,none⟩) (by show _≤F+1;omega) (.slice A2 l.length c2)).setCell (p:=⟨F+1,1,none⟩) (by show _≤F+1;omega) (.int .i64 at_);generalize ((w3.setCell ⟨F+1,0,none⟩ (.slice A2 l.length c2)).setCell ⟨F+1,1,none⟩ (.int .i64 at_))=w4 at h4 aP aO⊢;have q0:=Zc w4 (F+1) 0 _ _ _ h4;have q1:=Zc w4 (F+1) 1 _ _ _ h4;simp at q0 q1;exact bodyPost_ret (v:= .agg #[.slice A2 l.length c2,.int .i64 at_]) (by simp[results,Tryz.results83,go_sem,q0,q1]) rfl ⟨_,rfl,Cf aP aC.out.size,aO⟩
def DrP(l:List Int)(at_ n c:Int)(w:World)(e:Ending)(w':World):Prop:=
 ∃v1 a1 v2,e= .returned (.tuple #[.agg #[v1,.int .i64 a1],v2,.int .i64 (dsE l at_ n c)])∧Below w.heap.size w w'∧
  (dsE l at_ n c=0→a1=at_+c∧w'.ownsRow w.heap.size 3 1 v1 l.length (l.map (Value.int .i64))∧w'.ownsRow w.heap.size 3 1 v2 ((l.drop at_.toNat).take c.toNat).length (((l.drop at_.toNat).take c.toNat).map (Value.int .i64)))∧
  (dsE l at_ n c≠0→v1= .slice none 0 0∧a1=0∧v2= .slice none 0 0)
def DwR(l:List Int)(n:Int)(an cn F:Nat)(A1:Option Addr)(c1:Nat)(w4:World)(ov iv:Value)(wr:World):Prop:=
 ∃k q:Nat,k≤cn∧q=an+k∧iv= .int .i64 k∧q≤l.length∧wr.heap[F]? =some (.cells #[.slice A1 l.length c1,.int .i64 (q:Int)] 45 (0,0))∧
  wr.ownsRow w4.heap.size 3 1 ov ((l.drop an).take k).length (((l.drop an).take k).map (Value.int .i64))∧drE l n an cn=drE l n q (cn-k)∧w4.grownBy wr (some F)
theorem zHh{a w:World}{F base n e size:Nat}{v:Value}{xs:List Value}(h:a.ownsRow base e size v n xs)(hg:a.grownBy w (some F))(hF:F<base):w.ownsRow base e size v n xs:=by
 refine⟨h.1,?_⟩;rcases h.2 with h0|⟨g,aA,aB,h1,h2,h3,h4⟩
 ·exact .inl h0
 ·exact .inr ⟨g,aA,aB,h1,h2,(hg.block g (Ae h3) (by simp;omega)).trans h3,h4⟩
theorem Th(l:List Int)(at_ n c:Int)(v:Value)(w:World)(h:SI w v l)(hc:At c):
  Calls Tryz.prog 58 #[.agg #[v,.int .i64 at_],.int .i64 n,.int .i64 c] w (DrP l at_ n c w):=by
 have HS:=Zk h;obtain⟨A,cc,rfl⟩:=h.form';clear h;obtain⟨n0,bC⟩:∃n0,n0=l.length:=⟨_,rfl⟩;rw[←bC] at HS⊢;have HN:=Zk bC;clear bC;go_enter Tryz.func58,Tryz.ntmps58;obtain⟨F,eF⟩:∃F,F=w.heap.size:=⟨_,rfl⟩;obtain⟨w1,aN⟩:∃w1:World,w1=(w.alloc (.cells #[.slice A n0 cc,.int .i64 at_] 45)).alloc (.cells #[.slice none 0 0,.int .i64 0] 45):=⟨_,rfl⟩;have bB:Hid ((w.alloc (.cells #[.slice A n0 cc,.int .i64 at_] 45)).alloc (.cells #[.slice none 0 0,.int .i64 0] 45)=w1):=aN.symm;have aI:Hid (Below w.heap.size w w1):=Zk (by rw[aN];exact ((Zb _ w).alloc (Zl _) _).alloc (by simp) _);have aC:Hid (w1.heap[F]? =some (.cells #[.slice A n0 cc,.int .i64 at_] 45 (0,0))):=Zk (by show _=_;rw[aN,eF,Below.heap_alloc _ _ _ (by simp)];exact Zh w _);have aG:Hid (w1.heap[F+1]? =some (.cells #[.slice none 0 0,.int .i64 0] 45 (0,0))):=Zk (by show _=_;rw[aN,eF];have:=Zh (w.alloc (.cells #[.slice A n0 cc,.int .i64 at_] 45)) (.cells #[.slice none 0 0,.int .i64 0] 45);simpa using this);have hFw:w.heap.size≤F:=by omega
 have bM:F+1<w1.heap.size:=Ae aG.out;go_upto_region 1 with fail
 rw[bB.out,←eF];clear aN eF;have x0:=Zc w1 F 0 _ _ _ aC.out;have x1:=Zc w1 F 1 _ _ _ aC.out;simp at x0 x1;have bN:SI w1 (.slice A l.length cc) l:=by rw[←HN.out];exact HS.out.below aI.out
 have HV:Hid (Calls Tryz.prog 82 #[.agg #[.slice A n0 cc,.int .i64 at_]] w1 fun e w'=>e= .returned (.bool (tvB l at_))∧Below w1.heap.size w1 w'):=Zk (by rw[HN.out];exact Tl l at_ _ w1 bN)
 clear bN;go_wp2_with fail;(with_reducible refine HV.out.mono ?_)
 rintro e w2 ⟨rfl,aO⟩;have aF:Hid (Below w.heap.size w w2):=Zk (aI.out.trans (aO.mono aI.out.size));have aJ:Hid (w2.heap[F]? =some (.cells #[.slice A n0 cc,.int .i64 at_] 45 (0,0))):=Zk ((aO.block F (by omega)).trans aC.out);have aE:Hid (w2.heap[F+1]? =some (.cells #[.slice none 0 0,.int .i64 0] 45 (0,0))):=Zk ((aO.block (F+1) bM).trans aG.out);have cK:F+1<w2.heap.size:=Nat.lt_of_lt_of_le bM aO.size;have g0:=Zf w2 (F+1) 0 _ _ aE.out;have g1:=Zf w2 (F+1) 1 _ _ aE.out;have z0:w2.cell? ⟨F+1,0,none⟩=some (.slice none 0 0):=Zc w2 (F+1) 0 _ _ _ aE.out;have z1:w2.cell? ⟨F+1,1,none⟩=some (.int .i64 0):=Zc w2 (F+1) 1 _ _ _ aE.out;clear aO x0 x1 HV;by_cases hv:tvB l at_=false
 ·have HE:Hid (dsE l at_ n c=2):=Zk (by show _=_;unfold dsE;rw[if_pos hv]);rw[hv];clear hv;go_wp2_with fail;have h4:=Ck (.slice none 0 0) (.int .i64 0) aE.out;have aA:=(aF.out.setCell (p:=⟨F+1,0,none⟩) (by show _≤F+1;omega) (.slice none 0 0)).setCell (p:=⟨F+1,1,none⟩) (by show _≤F+1;omega) (.int .i64 0);generalize ((w2.setCell ⟨F+1,0,none⟩ (.slice none 0 0)).setCell ⟨F+1,1,none⟩ (.int .i64 0))=wE at h4 aA⊢;have q0:=Zc wE (F+1) 0 _ _ _ h4;have q1:=Zc wE (F+1) 1 _ _ _ h4;simp at q0 q1;refine bodyPost_ret (v:= .tuple #[.agg #[.slice none 0 0,.int .i64 0],.slice none 0 0,.int .i64 2]) (by simp[results,Tryz.results58,go_sem,q0,q1]) rfl ?_;exact⟨_,_,_,by rw[HE.out],aA,fun h=>by rw[HE.out] at h;omega,fun _=>⟨rfl,rfl,rfl⟩⟩
 have bJ:tvB l at_=true:=by simpa using hv
 have aS:=Zk hv;rw[bJ];have bR:l.length≤16384∧0≤at_∧at_≤(l.length:Int):=of_decide_eq_true bJ;clear hv bJ;by_cases h1:n<1
 ·have HE:Hid (dsE l at_ n c=1):=Zk (by show _=_;unfold dsE;rw[if_neg aS.out,if_pos (.inl (Zd fun h=>by omega))])
  have d1:decide (n<1)=true:=Ze h1;clear h1;go_wp2_with fail;have h4:=Ck (.slice none 0 0) (.int .i64 0) aE.out;have aA:=(aF.out.setCell (p:=⟨F+1,0,none⟩) (by show _≤F+1;omega) (.slice none 0 0)).setCell (p:=⟨F+1,1,none⟩) (by show _≤F+1;omega) (.int .i64 0);generalize ((w2.setCell ⟨F+1,0,none⟩ (.slice none 0 0)).setCell ⟨F+1,1,none⟩ (.int .i64 0))=wE at h4 aA⊢;have q0:=Zc wE (F+1) 0 _ _ _ h4;have q1:=Zc wE (F+1) 1 _ _ _ h4;simp at q0 q1;refine bodyPost_ret (v:= .tuple #[.agg #[.slice none 0 0,.int .i64 0],.slice none 0 0,.int .i64 1]) (by simp[results,Tryz.results58,go_sem,q0,q1]) rfl ?_;exact⟨_,_,_,by rw[HE.out],aA,fun h=>by rw[HE.out] at h;omega,fun _=>⟨rfl,rfl,rfl⟩⟩
 have d1:decide (n<1)=false:=Zd h1;by_cases h2:2147483647<n
 ·have HE:Hid (dsE l at_ n c=1):=Zk (by show _=_;unfold dsE;rw[if_neg aS.out,if_pos (.inl (Zd fun h=>by omega))])
  have d2:decide (2147483647<n)=true:=Ze h2;clear h1 h2;go_wp2_with fail;have h4:=Ck (.slice none 0 0) (.int .i64 0) aE.out;have aA:=(aF.out.setCell (p:=⟨F+1,0,none⟩) (by show _≤F+1;omega) (.slice none 0 0)).setCell (p:=⟨F+1,1,none⟩) (by show _≤F+1;omega) (.int .i64 0);generalize ((w2.setCell ⟨F+1,0,none⟩ (.slice none 0 0)).setCell ⟨F+1,1,none⟩ (.int .i64 0))=wE at h4 aA⊢;have q0:=Zc wE (F+1) 0 _ _ _ h4;have q1:=Zc wE (F+1) 1 _ _ _ h4;simp at q0 q1;refine bodyPost_ret (v:= .tuple #[.agg #[.slice none 0 0,.int .i64 0],.slice none 0 0,.int .i64 1]) (by simp[results,Tryz.results58,go_sem,q0,q1]) rfl ?_;exact⟨_,_,_,by rw[HE.out],aA,fun h=>by rw[HE.out] at h;omega,fun _=>⟨rfl,rfl,rfl⟩⟩
 have d2:decide (2147483647<n)=false:=Zd h2;by_cases h3:c<0
 ·have HE:Hid (dsE l at_ n c=1):=Zk (by show _=_;unfold dsE;rw[if_neg aS.out,if_pos (.inr h3)]);have d3:decide (c<0)=true:=Ze h3;clear h1 h2 h3;go_wp2_with fail;have h4:=Ck (.slice none 0 0) (.int .i64 0) aE.out;have aA:=(aF.out.setCell (p:=⟨F+1,0,none⟩) (by show _≤F+1;omega) (.slice none 0 0)).setCell (p:=⟨F+1,1,none⟩) (by show _≤F+1;omega) (.int .i64 0);generalize ((w2.setCell ⟨F+1,0,none⟩ (.slice none 0 0)).setCell ⟨F+1,1,none⟩ (.int .i64 0))=wE at h4 aA⊢;have q0:=Zc wE (F+1) 0 _ _ _ h4;have q1:=Zc wE (F+1) 1 _ _ _ h4;simp at q0 q1;refine bodyPost_ret (v:= .tuple #[.agg #[.slice none 0 0,.int .i64 0],.slice none 0 0,.int .i64 1]) (by simp[results,Tryz.results58,go_sem,q0,q1]) rfl ?_;exact⟨_,_,_,by rw[HE.out],aA,fun h=>by rw[HE.out] at h;omega,fun _=>⟨rfl,rfl,rfl⟩⟩
 have d3:decide (c<0)=false:=Zd h3;have bO:liB n=true:=Ze (by omega);obtain⟨cn,rfl⟩:∃cn:Nat,c=cn:=⟨c.toNat,by omega⟩;obtain⟨an,rfl⟩:∃an:Nat,at_=an:=⟨at_.toNat,by omega⟩;have aY:Hid (dsE l an n cn=drE l n an cn):=Zk (by show _=_;unfold dsE;rw[if_neg aS.out,if_neg (by rw[bO];simp)];rfl);have hn0:n0≤16384:=by rw[HN.out];exact bR.1
 have cE:an≤n0:=by rw[HN.out];omega
 have hcr:(cn:Int)≤9223372036854775807:=by unfold At at hc;omega
 have x0:=Zc w2 F 0 _ _ _ aJ.out;have x1:=Zc w2 F 1 _ _ _ aJ.out;simp at x0 x1;have bK:Hid (Calls Tryz.prog 83 #[.agg #[.slice A n0 cc,.int .i64 an]] w2 fun e w'=>∃v1,e= .returned (.agg #[v1,.int .i64 an])∧w'.ownsRow w2.heap.size 3 1 v1 n0 (l.map (Value.int .i64))∧Below w2.heap.size w2 w'):=Zk (by
  have h:=Wn l an (.slice A n0 cc) w2 (HS.out.below aF.out) (by rw[←HN.out];omega);rw[←HN.out] at h;exact h)
 have f0:=Zf w2 F 0 _ _ aJ.out;have f1:=Zf w2 F 1 _ _ aJ.out;clear bO h1 h2 h3 bR hc g0 g1 z0 z1;go_wp2_with fail;(with_reducible refine bK.out.mono ?_)
 rintro e w3 ⟨v1,rfl,bF,aU⟩;obtain⟨A1,c1,cD⟩:=Ct bF;subst cD;have bW:=Zk bF;have bS:=Zk aU;have aK:Hid (w3.heap[F]? =some (.cells #[.slice A n0 cc,.int .i64 an] 45 (0,0))):=Zk ((aU.block F (by omega)).trans aJ.out);have bY:Hid (w3.heap[F+1]? =some (.cells #[.slice none 0 0,.int .i64 0] 45 (0,0))):=Zk ((aU.block (F+1) cK).trans aE.out);clear bF aU x0 x1 bK f0 f1;have f0:=Zf w3 F 0 _ _ aK.out;have f1:=Zf w3 F 1 _ _ aK.out;have x0:w3.cell? ⟨F,0,none⟩=some (.slice A n0 cc):=Zc w3 F 0 _ _ _ aK.out;have x1:w3.cell? ⟨F,1,none⟩=some (.int .i64 an):=Zc w3 F 1 _ _ _ aK.out;go_upto_region 6 with fail
 have aR:=Ck (.slice A1 n0 c1) (.int .i64 an) aK.out;have aM:((w3.setCell ⟨F,0,none⟩ (.slice A1 n0 c1)).setCell ⟨F,1,none⟩ (.int .i64 an)).heap[F+1]? =some (.cells #[.slice none 0 0,.int .i64 0] 45 (0,0)):=(Zo _ _ (F+1) _ (by show F+1≠F;omega)).trans ((Zo _ _ (F+1) _ (by show F+1≠F;omega)).trans bY.out);have aA:=((aF.out.trans (bS.out.mono aF.out.size)).setCell (p:=⟨F,0,none⟩) (by show _≤F;omega) (.slice A1 n0 c1)).setCell (p:=⟨F,1,none⟩) (by show _≤F;omega) (.int .i64 an);have bG:=Az (p:=⟨F,1,none⟩) (u:= .int .i64 an) (Az (p:=⟨F,0,none⟩) (u:= .slice A1 n0 c1) bW.out (by show F<_;omega)) (by show F<_;omega);generalize ((w3.setCell ⟨F,0,none⟩ (.slice A1 n0 c1)).setCell ⟨F,1,none⟩ (.int .i64 an))=w4 at aR aM aA bG⊢;have aR:=Zk aR;have aM:=Zk aM;have aW:=Zk aA;have bL:=Zk bG;have cL:F+1<w4.heap.size:=Ae aM.out;have bZ:Hid (∀W,w4.grownBy W (some F)→SE F W (.slice A1 n0 c1) l):=Zk (fun W hW=>by
  have h:=bL.out;rw[HN.out] at h⊢;obtain⟨_,_,_,_,_,hr,_⟩:=HS.out;exact (SE.of_own h hr (by omega)).grown hW)
 clear aA bG f0 f1 x0 x1;go_wp2_with fail;go_loopw [9,10] (fun ov iv wr=>DwR l n an cn F A1 c1 w4 ov iv wr) (fun _ iv _=>cn- (intOf iv).toNat)
 case atStart=>exact⟨0,an,Nat.zero_le _,rfl,rfl,by rw[←HN.out];exact cE,by rw[←HN.out];exact aR.out,by simpa using World.ownsRow_nil w4 w4.heap.size 3 1,rfl,Ai _ _⟩
 case round=>
  obtain⟨k,q,hk,hq,rfl,cI,hF,aQ,hdr,hg⟩:=hrel;rw[←HN.out] at cI hF;have HF:=Zk hF;have HQ:=Zk hq;have HO:=Zk aQ;have HD:=Zk hdr;have HG:=Zk hg;have hzr:=hg.size;have aB:Hid (wr.heap[F+1]? =some (.cells #[.slice none 0 0,.int .i64 0] 45 (0,0))):=Zk ((hg.block (F+1) cL (by simp)).trans aM.out);have aX:Hid (Below w.heap.size w wr):=Zk (aW.out.grown hg aW.out.size (fun b hb=>by injection hb with e;omega))
  have x0:=Zc wr F 0 _ _ _ HF.out;have x1:=Zc wr F 1 _ _ _ HF.out;simp at x0 x1;clear hF hq aQ hdr hg;by_cases hlt:k<cn
  ·have dk:decide ((k:Int)<(cn:Int))=true:=Ze (by omega);have cA:decide (k<cn)=true:=Ze hlt;obtain⟨m,hm⟩:∃m,cn-k=m+1:=⟨cn-k-1,by omega⟩;by_cases hqn:q=n0
   ·have dq:((q:Int)==(n0:Int))=true:=by rw[beq_iff_eq];omega
    have cB:(q==n0)=true:=by rw[beq_iff_eq];exact hqn
    have HE:Hid (dsE l an n cn=3):=Zk (by
     show _=_;rw[aY.out,HD.out,hm];unfold drE;rw[if_neg (by rw[←HN.out];omega)])
    have g0:=Zf wr (F+1) 0 _ _ aB.out;have g1:=Zf wr (F+1) 1 _ _ aB.out;have z0:wr.cell? ⟨F+1,0,none⟩=some (.slice none 0 0):=Zc wr (F+1) 0 _ _ _ aB.out;have z1:wr.cell? ⟨F+1,1,none⟩=some (.int .i64 0):=Zc wr (F+1) 1 _ _ _ aB.out;clear hqn hm;go_wp2_with fail;have h4:=Ck (.slice none 0 0) (.int .i64 0) aB.out;have aA:=(aX.out.setCell (p:=⟨F+1,0,none⟩) (by show _≤F+1;omega) (.slice none 0 0)).setCell (p:=⟨F+1,1,none⟩) (by show _≤F+1;omega) (.int .i64 0);generalize ((wr.setCell ⟨F+1,0,none⟩ (.slice none 0 0)).setCell ⟨F+1,1,none⟩ (.int .i64 0))=wE at h4 aA⊢;have q0:=Zc wE (F+1) 0 _ _ _ h4;have q1:=Zc wE (F+1) 1 _ _ _ h4;simp at q0 q1;refine bodyPost_ret (v:= .tuple #[.agg #[.slice none 0 0,.int .i64 0],.slice none 0 0,.int .i64 3]) (by simp[results,Tryz.results58,go_sem,q0,q1]) rfl ?_;exact⟨_,_,_,by rw[HE.out],aA,fun h=>by rw[HE.out] at h;omega,fun _=>⟨rfl,rfl,rfl⟩⟩
   ·have dq:((q:Int)==(n0:Int))=false:=by rw[beq_eq_false_iff_ne];omega
    have cB:(q==n0)=false:=by rw[beq_eq_false_iff_ne];exact hqn
    have bH:q<n0:=by omega
    have aV:q<l.length:=by rw[←HN.out];exact bH
    have bI:=bZ.out wr HG.out;rw[HN.out] at bI;obtain⟨b,off,eA,hb,aH⟩:=bI.si.cells (by omega);have xx:=aH q aV;subst eA;obtain⟨y,ey⟩:∃y,y=l[q]:=⟨_,rfl⟩;rw[←ey] at xx;have HY:Hid (gd l q=y):=Zk (by show _=_;rw[Bw aV,ey]);have HT:Hid ((l.drop an).take (k+1)=(l.drop an).take k++[y]):=Zk (by
     show _=_;have cH:k<(l.drop an).length:=by rw[List.length_drop];have:=HQ.out;omega
     rw[List.take_succ_eq_append_getElem cH,List.getElem_drop,ey];simp only[HQ.out])
    have z0:(0:Int)≤(q:Int):=by omega
    have z1:(q:Int)<(n0:Int):=by omega
    have f0:=Zf wr F 0 _ _ HF.out;have f1:=Zf wr F 1 _ _ HF.out;have g0:=Zf wr (F+1) 0 _ _ aB.out;have g1:=Zf wr (F+1) 1 _ _ aB.out;have z0:wr.cell? ⟨F+1,0,none⟩=some (.slice none 0 0):=Zc wr (F+1) 0 _ _ _ aB.out;have z1:wr.cell? ⟨F+1,1,none⟩=some (.int .i64 0):=Zc wr (F+1) 1 _ _ _ aB.out;clear bI aH ey hqn;by_cases hy:y<0∨n≤y
    ·have HE:Hid (dsE l an n cn=8):=Zk (by
      show _=_;rw[aY.out,HD.out,hm];unfold drE;rw[if_pos aV,if_pos (by rw[HY.out];exact hy)])
     have cJ:decide (y<0)=true∨(decide (y<0)=false∧decide (n≤y)=true):=by
      by_cases h:y<0
      ·exact .inl (Ze h)
      ·exact .inr ⟨Zd h,Ze (by omega)⟩
     clear hy hm;rcases cJ with dy|⟨dy,cC⟩;all_goals
      go_wp2_with fail;have h4:=Ck (.slice none 0 0) (.int .i64 0) aB.out;have aA:=(aX.out.setCell (p:=⟨F+1,0,none⟩) (by show _≤F+1;omega) (.slice none 0 0)).setCell (p:=⟨F+1,1,none⟩) (by show _≤F+1;omega) (.int .i64 0);generalize ((wr.setCell ⟨F+1,0,none⟩ (.slice none 0 0)).setCell ⟨F+1,1,none⟩ (.int .i64 0))=wE at h4 aA⊢;have q0:=Zc wE (F+1) 0 _ _ _ h4;have q1:=Zc wE (F+1) 1 _ _ _ h4;simp at q0 q1;refine bodyPost_ret (v:= .tuple #[.agg #[.slice none 0 0,.int .i64 0],.slice none 0 0,.int .i64 8]) (by simp[results,Tryz.results58,go_sem,q0,q1]) rfl ?_;exact⟨_,_,_,by rw[HE.out],aA,fun h=>by rw[HE.out] at h;omega,fun _=>⟨rfl,rfl,rfl⟩⟩
    ·have dy:decide (y<0)=false:=Zd (by omega);have cC:decide (n≤y)=false:=Zd (by omega);have bT:Hid (drE l n an cn=drE l n (q+1) (cn- (k+1))):=Zk (by
      show _=_;rw[HD.out,hm,show cn- (k+1)=m by omega];conv=>lhs;unfold drE
      rw[if_pos aV,if_neg (by rw[HY.out];exact hy)])
     have w1':IntKind.i64.wrap ((q:Int)+1)=(q:Int)+1:=by exact Zi _ (by omega)
     have w2':IntKind.i64.wrap ((k:Int)+1)=(k:Int)+1:=by exact Zi _ (by omega)
     obtain⟨D,eD⟩:∃D,D=(l.drop an).take k:=⟨_,rfl⟩;rw[←eD] at HO HT;have hDl:D.length≤16384:=by rw[eD,List.length_take,List.length_drop,←HN.out];omega
     clear hy hm eD;go_upto_region 16 with fail
     have bD:=heap_setCell_same wr F 1 _ _ (.int .i64 ((q:Int)+1)) HF.out;have aT:=Yq (i:=1) (u:= .int .i64 ((q:Int)+1)) HG.out;have bE:=Az (p:=⟨F,1,none⟩) (u:= .int .i64 ((q:Int)+1)) HO.out (by show F<_;omega);generalize (wr.setCell ⟨F,1,none⟩ (.int .i64 ((q:Int)+1)))=w9 at bD aT bE⊢;have bU:=Zk bD;have bV:=Zk aT;have bA:=Zk bE;have cM:=aT.size;clear bD aT bE x0 x1 xx f0 f1 g0 g1 z0 z1;go_wp2_with (at_builtin;refine Bh w9 (by rfl) _ _ 22 (by rfl) w4.heap.size 3 Tryz.underlying22 Bi _ D (by rfl) (by exact bA.out) y (by rfl) (by omega) (by exact cM) ?_;intro v10 cO aD aP;have aZ:=Zk aD;have aL:=Zk aP;clear aD aP);go_roundw
     case rel=>
      have cF:w4.grownBy (w9.alloc (.cells #[.int .i64 y] 3)) (some F):=Sj bV.out (Af ((Zb _ w9).alloc (Zl _) _) none) (fun b hb=>by simp at hb)
      have cG:=Sj cF aL.out (fun b hb=>(bA.out.lt b hb).1)
      refine⟨k+1,q+1,by omega,by have:=HQ.out;omega,by go_num,by rw[←HN.out];omega,?_,by rw[HT.out];exact aZ.out,bT.out,cG⟩;have h1:cO.heap[F]? =w9.heap[F]? :=(aL.out.block F (by simp;omega) (fun e=>by have:=(bA.out.lt F e.symm).1;omega)).trans (Below.heap_alloc _ _ _ (by omega))
      rw[h1,bU.out,←HN.out];simp
     case measure=>simp[intOf];omega
  ·have dk:decide ((k:Int)<(cn:Int))=false:=Zd (by omega);have cA:decide (k<cn)=false:=Zd hlt;obtain rfl:cn=k:=by omega
   have HE:Hid (dsE l an n cn=0):=Zk (by show _=_;rw[aY.out,HD.out,Nat.sub_self];rfl);have g0:=Zf wr (F+1) 0 _ _ aB.out;have g1:=Zf wr (F+1) 1 _ _ aB.out;have z0:wr.cell? ⟨F+1,0,none⟩=some (.slice none 0 0):=Zc wr (F+1) 0 _ _ _ aB.out;have z1:wr.cell? ⟨F+1,1,none⟩=some (.int .i64 0):=Zc wr (F+1) 1 _ _ _ aB.out;obtain⟨Ao,co,eo⟩:=Ct HO.out;subst eo;have bX:Hid (wr.ownsRow w2.heap.size 3 1 (.slice A1 n0 c1) n0 (l.map (Value.int .i64))):=Zk (by
    exact zHh bL.out HG.out (by omega))
   go_wp2_with fail;have h4:=Ck (.slice A1 n0 c1) (.int .i64 (q:Int)) aB.out;have aA:=(aX.out.setCell (p:=⟨F+1,0,none⟩) (by show _≤F+1;omega) (.slice A1 n0 c1)).setCell (p:=⟨F+1,1,none⟩) (by show _≤F+1;omega) (.int .i64 (q:Int));have bP:=Az (p:=⟨F+1,1,none⟩) (u:= .int .i64 (q:Int)) (Az (p:=⟨F+1,0,none⟩) (u:= .slice A1 n0 c1) bX.out (by show F+1<_;omega)) (by show F+1<_;omega);have bQ:=Az (p:=⟨F+1,1,none⟩) (u:= .int .i64 (q:Int)) (Az (p:=⟨F+1,0,none⟩) (u:= .slice A1 n0 c1) HO.out (by show F+1<_;omega)) (by show F+1<_;omega);generalize ((wr.setCell ⟨F+1,0,none⟩ (.slice A1 n0 c1)).setCell ⟨F+1,1,none⟩ (.int .i64 (q:Int)))=wE at h4 aA bP bQ⊢;have q0:=Zc wE (F+1) 0 _ _ _ h4;have q1:=Zc wE (F+1) 1 _ _ _ h4;simp at q0 q1;have cN:w.heap.size≤w2.heap.size:=aF.out.size;refine bodyPost_ret (v:= .tuple #[.agg #[.slice A1 n0 c1,.int .i64 (q:Int)],.slice Ao ((l.drop an).take cn).length co,.int .i64 0]) (by simp[results,Tryz.results58,go_sem,q0,q1]) rfl ?_;refine⟨_,_,_,by rw[HE.out],aA,fun _=>⟨by have:=HQ.out;omega,?_,?_⟩,fun h=>absurd HE.out h⟩
   ·rw[←HN.out];exact Cf bP cN
   ·have:=Cf bQ (base':=w.heap.size) (by have:=aW.out.size;omega);simpa using this
open Go.RowKit
theorem zHx{w:World}{S:Nat}{a b c:Value}(x y z:Value)(h:w.heap[S]? =some (.cells #[a,b,c] 29 (0,0))):(((w.setCell ⟨S,0,none⟩ x).setCell ⟨S,1,none⟩ y).setCell ⟨S,2,none⟩ z).heap[S]? =some (.cells #[x,y,z] 29 (0,0)):=by
 have h1:=heap_setCell_same w S 0 _ _ x h;have h2:=heap_setCell_same _ S 1 _ _ y h1;have h3:=heap_setCell_same _ S 2 _ _ z h2;simpa using h3
theorem Rs(g:Nat)(w:World)(hD:Dk w g):
  Calls Tryz.prog 23 #[.pointer (some ⟨g,0,none⟩)] w fun e w'=>∃P n t G,e= .returned (.tuple #[.agg #[.int .i64 P],.agg #[.int .i64 n,.int .i64 t,.int .i64 G]])∧Dk w' g∧w.grownBy w' (some g)∧SV P n t G∧t≤2∧G≤3:=by
 have HD:=Zk hD;have hgw:g<w.heap.size:=hD.lt;clear hD;go_enter Tryz.func23,Tryz.ntmps23;obtain⟨R,eR⟩:∃R,R=w.heap.size:=⟨_,rfl⟩;obtain⟨S,eS⟩:∃S,S=w.heap.size+1:=⟨_,rfl⟩;obtain⟨w1,aD⟩:∃w1:World,w1=(w.alloc (.cells #[.int .i64 0] 31)).alloc (.cells #[.int .i64 0,.int .i64 0,.int .i64 0] 29):=⟨_,rfl⟩;have cG:Hid ((w.alloc (.cells #[.int .i64 0] 31)).alloc (.cells #[.int .i64 0,.int .i64 0,.int .i64 0] 29)=w1):=aD.symm;have aY:Hid (w1.heap[R]? =some (.cells #[.int .i64 0] 31 (0,0))):=Zk (by show _=_;rw[aD,eR,Below.heap_alloc _ _ _ (by simp)];exact Zh w _);have bB:Hid (w1.heap[S]? =some (.cells #[.int .i64 0,.int .i64 0,.int .i64 0] 29 (0,0))):=Zk (by show _=_;rw[aD,eS];have:=Zh (w.alloc (.cells #[.int .i64 0] 31)) (.cells #[.int .i64 0,.int .i64 0,.int .i64 0] 29);simpa using this);have aT:Hid (Below w.heap.size w w1):=Zk (by rw[aD];exact ((Zb _ w).alloc (Zl _) _).alloc (by simp) _);have bS:=Zk (HD.out.below aT.out);have hgR:g<R:=by omega
 have hRS:R<S:=by omega
 have aW:=Zk eR;go_upto_region 1 with fail
 rw[cG.out,←eS,←eR];clear eR eS aD;go_wp2_with fail;(with_reducible refine (Cy 3 g w1 bS.out (by unfold At;omega) (by omega)).mono ?_)
 rintro e w2 ⟨x,rfl,_,hx,bH,bL⟩;obtain⟨cL,cM⟩:=hx (by omega);obtain⟨G,eG⟩:∃G,G=1+x:=⟨_,rfl⟩;have hG:1≤G∧G≤3:=by omega
 have m1:IntKind.i64.wrap (1+x)=G:=by rw[eG];exact Zi _ (by omega)
 have bT:=Zk bH;have bZ:=Zk bL;clear hx bH bL cL cM eG;go_wp2_with fail;(with_reducible refine (Cy 2 g w2 bT.out (by unfold At;omega) (by omega)).mono ?_)
 rintro e w3 ⟨y,rfl,_,hy,bI,bM⟩;obtain⟨cN,cO⟩:=hy (by omega);obtain⟨t,et⟩:∃t,t=1+y:=⟨_,rfl⟩;have ht:1≤t∧t≤2:=by omega
 have m2:IntKind.i64.wrap (1+y)=t:=by rw[et];exact Zi _ (by omega)
 have bU:=Zk bI;have aL:=Zk (Ag bZ.out bM);have aZ:Hid (w3.heap[R]? =some (.cells #[.int .i64 0] 31 (0,0))):=Zk ((aL.out.block R (Ae aY.out) (by simp;omega)).trans aY.out);have aP:Hid (w3.heap[S]? =some (.cells #[.int .i64 0,.int .i64 0,.int .i64 0] 29 (0,0))):=Zk ((aL.out.block S (Ae bB.out) (by simp;omega)).trans bB.out);clear hy bI bM cN cO et;obtain⟨q,eq⟩:∃q,q=w3.heap.size:=⟨_,rfl⟩;obtain⟨w4,aG⟩:∃w4:World,w4=w3.alloc (.cells #[.int .i64 0,.int .i64 t,.int .i64 G] 29):=⟨_,rfl⟩;have aR:Hid (w3.alloc (.cells #[.int .i64 0,.int .i64 t,.int .i64 G] 29)=w4):=aG.symm;have bE:Hid (w4.heap[q]? =some (.cells #[.int .i64 0,.int .i64 t,.int .i64 G] 29 (0,0))):=Zk (by show _=_;rw[aG,eq];exact Zh w3 _);have aF:Hid (Below w3.heap.size w3 w4):=Zk (by rw[aG];exact (Zb _ w3).alloc (Zl _) _);have aU:=Zk (bU.out.below aF.out);have aO:Hid (w4.heap[R]? =some (.cells #[.int .i64 0] 31 (0,0))):=Zk ((aF.out.block R (Ae aZ.out)).trans aZ.out);have aQ:Hid (w4.heap[S]? =some (.cells #[.int .i64 0,.int .i64 0,.int .i64 0] 29 (0,0))):=Zk ((aF.out.block S (Ae aP.out)).trans aP.out);have hSq:S<q:=by rw[eq];exact Ae aP.out
 have aK:Hid (w1.grownBy w4 (some g)):=Zk (Ag aL.out (Af aF.out _));go_upto_region 2 with fail
 first|rw[aR.out,←eq]|(rw[m1,m2,aR.out,←eq])|(rw[m2,aR.out,←eq])
 clear eq aG m1 m2;have cB:Hid (∀W:World,Dk W g→Calls Tryz.prog 13 #[.pointer (some ⟨g,0,none⟩),.int .i64 4] W fun e w'=>∃x,e= .returned (.int .i64 x)∧(0≤x∧x≤3)∧Dk w' g∧W.grownBy w' (some g)):=Zk (fun W h=>(Cy 4 g W h (by unfold At;omega) (by omega)).mono fun e w' ⟨x,h1,_,h2,h3,h4⟩=>by
  obtain⟨h5,h6⟩:=h2 (by omega);exact⟨x,h1,⟨h5,by omega⟩,h3,h4⟩)
 have HX:Hid (∀W:World,w4.grownBy W (some g)→W.cell? ⟨q,2,none⟩=some (.int .i64 G)∧W.cell? ⟨q,1,none⟩=some (.int .i64 t)∧W.cell? ⟨q,0,none⟩=some (.int .i64 0)∧W.frozen? ⟨q,0,none⟩=false∧W.heap[q]? =some (.cells #[.int .i64 0,.int .i64 t,.int .i64 G] 29 (0,0))):=Zk (fun W hg=>by
  have h:=(hg.block q (Ae bE.out) (by simp;omega)).trans bE.out;exact⟨Zc W q 2 _ _ _ h,Zc W q 1 _ _ _ h,Zc W q 0 _ _ _ h,Zf W q 0 _ _ h,h⟩)
 obtain⟨a2,a1,a0,af,_⟩:=HX.out w4 (Ai _ _);have bX:Hid (Dk w4.drew g):=aU.out;have k1:IntKind.i64.wrap (2*G)=2*G:=by exact Zi _ (by omega)
 have k2:IntKind.i64.wrap (2*G+t)=2*G+t:=by exact Zi _ (by omega)
 have k3:IntKind.i64.wrap (2*G+t-1)=2*G+t-1:=by exact Zi _ (by omega)
 go_region_held3 (fun w'=>w'.cell? ⟨q,2,none⟩=some (.int .i64 G)∧w'.cell? ⟨q,1,none⟩=some (.int .i64 t)) (first|exact⟨a2,a1⟩|exact⟨(World.cell?_setCell_other _ _ _ _ (by simp)).trans a2,(World.cell?_setCell_other _ _ _ _ (by simp)).trans a1⟩|go_keep)
  (first|(go_at_call 13;refine (cB.out _ (by first|exact aU.out|exact bX.out)).mono ?_;rintro e9 w5 ⟨z,rfl,hz,bJ,aB⟩;have bV:Hid (Dk w5 g):=Zk (bJ);have aA:Hid (w4.grownBy w5 (some g)):=Zk (⟨aB.os,aB.tape,aB.output,aB.size,aB.block⟩);obtain⟨a2,a1,a0,af,bP⟩:=HX.out w5 aA.out;have cD:=Zk bP;have k4:IntKind.i64.wrap (2*G+t-1+z)=2*G+t-1+z:=(by exact Zi _ (by omega));clear bJ aB bP))
 all_goals
  obtain⟨n,en⟩:∃n,n=(if 2<2*G+t-1+z then 2*G+t-1+z else 2):=⟨_,rfl⟩;have hn:2≤n∧n≤10∧2*G+t-1≤n:=by
   rw[en];split<;>omega
  have bG:n=max 2 (2*G+t-1+z):=by
   rw[en];split<;>omega
  first|rw[←en]|rw[←bG]
  clear bG;obtain⟨w6,aH⟩:∃w6:World,w6=w5.setCell ⟨q,0,none⟩ (.int .i64 n):=⟨_,rfl⟩;have aE:w5.grownBy w6 (some q):=by rw[aH];exact Ak (g:=q) (p:=⟨q,0,none⟩) (Ai _ _) (.inl rfl) _
  have bF:Hid (w6.heap[q]? =some (.cells #[.int .i64 n,.int .i64 t,.int .i64 G] 29 (0,0))):=Zk (by
   show _=_;rw[aH];have:=heap_setCell_same w5 q 0 _ _ (.int .i64 n) cD.out;simpa using this)
  have aV:Hid (Dk w6 g):=bV.out.grown aE (fun k hk=>by injection hk with e;omega)
  have bA:Hid (w6.heap[R]? =some (.cells #[.int .i64 0] 31 (0,0))):=Zk ((aE.block R (by have:=aA.out.size;have:=Ae aO.out;omega) (by simp;omega)).trans ((aA.out.block R (Ae aO.out) (by simp;omega)).trans aO.out));have bC:Hid (w6.heap[S]? =some (.cells #[.int .i64 0,.int .i64 0,.int .i64 0] 29 (0,0))):=Zk ((aE.block S (by have:=aA.out.size;have:=Ae aQ.out;omega) (by simp;omega)).trans ((aA.out.block S (Ae aQ.out) (by simp;omega)).trans aQ.out));have aM:Hid (w.grownBy w6 (some g)):=Cv (Ag (Af aT.out _) (Ag aK.out aA.out)) aE (fun k hk=>by injection hk with e;have:=aW.out;omega)
  have cH:Hid (w5.setCell ⟨q,0,none⟩ (.int .i64 n)=w6):=aH.symm;go_upto_region 3 with fail
  rw[cH.out];clear aH aE en a0 a1 a2 af k1 k2 k3 k4 hz;have aJ:Hid (∀W:World,Dk W g→Calls Tryz.prog 14 #[.pointer (some ⟨g,0,none⟩),.int .i64 n] W fun e w'=>∃P,e= .returned (.agg #[.int .i64 P])∧Dk w' g∧W.grownBy w' (some g)∧prB P=true∧n<P):=Zk (fun W h=>zCh g n W h (by omega) (by omega))
  have bY:Hid (Dk w6.drew g):=aV.out;have cA:Hid (g<R∧g<S∧g<q):=⟨by omega,by omega,by omega⟩;have cP:¬R=S:=by omega
  have nRq:¬R=q:=by omega
  have nSq:¬S=q:=by omega
  have bD:Hid (∀W:World,w6.grownBy W (some g)→(W.cell? ⟨q,0,none⟩=some (.int .i64 n)∧W.cell? ⟨q,1,none⟩=some (.int .i64 t)∧W.cell? ⟨q,2,none⟩=some (.int .i64 G))∧(W.cell? ⟨R,0,none⟩=some (.int .i64 0)∧W.cell? ⟨S,0,none⟩=some (.int .i64 0)∧W.cell? ⟨S,1,none⟩=some (.int .i64 0)∧W.cell? ⟨S,2,none⟩=some (.int .i64 0))∧W.frozen? ⟨R,0,none⟩=false∧W.frozen? ⟨S,0,none⟩=false∧W.frozen? ⟨S,1,none⟩=false∧W.frozen? ⟨S,2,none⟩=false∧W.heap[R]? =some (.cells #[.int .i64 0] 31 (0,0))∧W.heap[S]? =some (.cells #[.int .i64 0,.int .i64 0,.int .i64 0] 29 (0,0))):=Zk (fun W hg=>by
   have a1:=(hg.block q (Ae bF.out) (by simp;omega)).trans bF.out;have a2:=(hg.block R (Ae bA.out) (by simp;omega)).trans bA.out;have a3:=(hg.block S (Ae bC.out) (by simp;omega)).trans bC.out;exact⟨⟨Zc W q 0 _ _ _ a1,Zc W q 1 _ _ _ a1,Zc W q 2 _ _ _ a1⟩,⟨Zc W R 0 _ _ _ a2,Zc W S 0 _ _ _ a3,Zc W S 1 _ _ _ a3,Zc W S 2 _ _ _ a3⟩,Zf W R 0 _ _ a2,Zf W S 0 _ _ a3,Zf W S 1 _ _ a3,Zf W S 2 _ _ a3,a2,a3⟩)
  obtain⟨⟨c0,c1,c2⟩,⟨r0,s0,s1,s2⟩,g0,g1,g2,g3,_,_⟩:=bD.out w6 (Ai _ _);go_region_held3 (fun w'=>w'.cell? ⟨q,0,none⟩=some (.int .i64 n)∧w'.cell? ⟨q,1,none⟩=some (.int .i64 t)∧w'.cell? ⟨q,2,none⟩=some (.int .i64 G)) (first|exact⟨c0,c1,c2⟩|exact k1|go_keep)
   (first|(go_at_call 14;refine (aJ.out _ (by first|exact aV.out|exact bY.out)).mono ?_;rintro e9 w7 ⟨P,rfl,bK,aC,bO,bN⟩;have bW:Hid (Dk w7 g):=Zk (bK);have aX:Hid (w6.grownBy w7 (some g)):=Zk (⟨aC.os,aC.tape,aC.output,aC.size,aC.block⟩);have cC:=Zk bO;have aN:=Zk bN;obtain⟨k1,⟨r0,s0,s1,s2⟩,g0,g1,g2,g3,bQ,bR⟩:=bD.out w7 aX.out;have cE:=Zk bQ;have cF:=Zk bR;clear bK aC bO bN bQ bR))
  all_goals
   go_wp2_with fail;have aI:R≠S:=cP;have x1:(w7.setCell ⟨R,0,none⟩ (.int .i64 P)).heap[R]? =some (.cells #[.int .i64 P] 31 (0,0)):=by
    have:=heap_setCell_same w7 R 0 _ _ (.int .i64 P) cE.out;simpa using this
   have x2:(w7.setCell ⟨R,0,none⟩ (.int .i64 P)).heap[S]? =some (.cells #[.int .i64 0,.int .i64 0,.int .i64 0] 29 (0,0)):=(Zo w7 _ S _ (Ne.symm aI)).trans cF.out;have x3:=zHx (.int .i64 n) (.int .i64 t) (.int .i64 G) x2;have x4:((((w7.setCell ⟨R,0,none⟩ (.int .i64 P)).setCell ⟨S,0,none⟩ (.int .i64 n)).setCell ⟨S,1,none⟩ (.int .i64 t)).setCell ⟨S,2,none⟩ (.int .i64 G)).heap[R]? =some (.cells #[.int .i64 P] 31 (0,0)):=(Zo _ _ R _ aI).trans ((Zo _ _ R _ aI).trans ((Zo _ _ R _ aI).trans x1));have q0:=Zc _ R 0 _ _ _ x4;have q1:=Zc _ S 0 _ _ _ x3;have q2:=Zc _ S 1 _ _ _ x3;have q3:=Zc _ S 2 _ _ _ x3;simp only[List.getElem?_toArray,List.getElem?_cons_zero,List.getElem?_cons_succ] at q0 q1 q2 q3;obtain⟨l1,l2,l3⟩:=cA.out;have cK:w.heap.size≤R:=by have:=aW.out;omega
   have aS:w.grownBy w7 (some g):=Ag aM.out aX.out;have cJ:w.grownBy ((((w7.setCell ⟨R,0,none⟩ (.int .i64 P)).setCell ⟨S,0,none⟩ (.int .i64 n)).setCell ⟨S,1,none⟩ (.int .i64 t)).setCell ⟨S,2,none⟩ (.int .i64 G)) (some g):=
    Ak (g:=g) (p:=⟨S,2,none⟩) (Ak (g:=g) (p:=⟨S,1,none⟩) (Ak (g:=g) (p:=⟨S,0,none⟩) (Ak (g:=g) (p:=⟨R,0,none⟩) aS (.inr cK) _) (.inr (by show _≤S;omega)) _) (.inr (by show _≤S;omega)) _) (.inr (by show _≤S;omega)) _
   have cI:Dk ((((w7.setCell ⟨R,0,none⟩ (.int .i64 P)).setCell ⟨S,0,none⟩ (.int .i64 n)).setCell ⟨S,1,none⟩ (.int .i64 t)).setCell ⟨S,2,none⟩ (.int .i64 G)) g:=
    bW.out.of fun i hi=>(Zo _ _ i _ (by show i≠S;omega)).trans ((Zo _ _ i _ (by show i≠S;omega)).trans ((Zo _ _ i _ (by show i≠S;omega)).trans (Zo _ _ i _ (by show i≠R;omega))))
   exact bodyPost_ret (v:= .tuple #[.agg #[.int .i64 P],.agg #[.int .i64 n,.int .i64 t,.int .i64 G]]) (by simp[results,Tryz.results23,go_sem,q0,q1,q2,q3]) rfl ⟨P,n,t,G,rfl,cI,cJ,⟨cC.out,hn.1,hn.2.1,aN.out,ht.1,hG.1,hn.2.2⟩,ht.2,hG.2⟩
end Go.Proofs.YtoiabanpnkpbhaaGreatDoor
