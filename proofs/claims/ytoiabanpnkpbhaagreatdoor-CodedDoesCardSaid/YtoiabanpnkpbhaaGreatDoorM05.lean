/- Parts. -/
import Derived.Test.YtoiabanpnkpbhaaGreatDoorM03
import Derived.Test.YtoiabanpnkpbhaaGreatDoorM04
set_option linter.unusedVariables false
set_option linter.unusedSimpArgs false
set_option maxRecDepth 100000
set_option maxHeartbeats 4000000
namespace Go.Proofs.YtoiabanpnkpbhaaGreatDoor
open Go.RowKit
theorem Ct{w:World}{base e size n:Nat}{v:Value}{xs:List Value}(h:w.ownsRow base e size v n xs):∃A c,v= .slice A n c:=by
 rcases h.2 with⟨rfl,rfl⟩|⟨g,cap,cur,rfl,_⟩
 ·exact⟨_,_,rfl⟩
 ·exact⟨_,_,rfl⟩
theorem SI.form'{w:World}{v:Value}{l:List Int}(h:SI w v l):∃A c,v= .slice A l.length c:=by
 obtain⟨A,c,rfl,_⟩:=h;exact⟨A,c,rfl⟩
def drE(l:List Int)(n:Int):Nat→Nat→Int
 |_,0=>0
 |i,c+1=>if i<l.length then (if gd l i<0∨n≤gd l i then 8 else drE l n (i+1) c) else 3
theorem Ya{l:List Int}{n:Int}:∀{c i:Nat},drE l n i c=0→∀j,j<c→i+j<l.length∧0≤gd l (i+j)∧gd l (i+j)<n:=by
 intro c;induction c with
 |zero=>intro i _ j hj;omega
 |succ c ih=>
  intro i h j hj;unfold drE at h;split at h
  ·rename_i h1;split at h
   ·omega
   ·rename_i h2
    cases j with
    |zero=>exact⟨h1,by simp;omega⟩
    |succ j=>
     have:=ih h j (by omega);rw[show i+(j+1)=i+1+j by omega];exact this
  ·omega
theorem Xz{l:List Int}{n:Int}:∀{c i:Nat},(∀j,j<c→i+j<l.length∧0≤gd l (i+j)∧gd l (i+j)<n)→drE l n i c=0:=by
 intro c;induction c with
 |zero=>intro i _;rfl
 |succ c ih=>
  intro i h;have h0:=h 0 (by omega);simp only[Nat.add_zero] at h0;unfold drE;rw[if_pos h0.1,if_neg (by omega)];exact ih fun j hj=>by have:=h (j+1) (by omega);rwa [show i+(j+1)=i+1+j by omega] at this
def nxE(l:List Int)(n:Int)(i:Nat):Int:=if i<l.length then (if gd l i<0∨n≤gd l i then 8 else 0) else 3
def nxV(l:List Int)(n:Int)(i:Nat):Int:=if nxE l n i=0 then gd l i else 0
def nxA(l:List Int)(n:Int)(i:Nat):Int:=if nxE l n i=0 then (i:Int)+1 else i
theorem zFq{l:List Int}{n:Int}{i:Nat}{e:Int}(h:nxE l n i=e)(he:e≠0):nxE l n i=e∧nxV l n i=0∧nxA l n i=i:=by
 refine⟨h,?_,?_⟩
 ·unfold nxV;rw[if_neg (by omega)]
 ·unfold nxA;rw[if_neg (by omega)]
theorem zFr{l:List Int}{n:Int}{i:Nat}(h:nxE l n i=0):nxE l n i=0∧nxV l n i=gd l i∧nxA l n i=(i:Int)+1:=by
 refine⟨h,?_,?_⟩
 ·unfold nxV;rw[if_pos h]
 ·unfold nxA;rw[if_pos h]
theorem Wv(l:List Int)(i:Nat)(n:Int)(b:Nat)(vn vd:Value)(w:World)(hl:SI w vn l)(hi:i≤l.length)(hlm:l.length≤1000000)(hb:w.heap[b]? =some (.cells #[vn,.int .i64 i,vd] 125 (0,0))):
  Calls Tryz.prog 99 #[.pointer (some ⟨b,0,none⟩),.int .i64 n] w fun e w'=>e= .returned (.tuple #[.int .i64 (nxV l n i),.int .i64 (nxE l n i)])∧w.grownBy w' (some b)∧w'.heap.size=w.heap.size∧
   w'.heap[b]? =some (.cells #[vn,.int .i64 (nxA l n i),vd] 125 (0,0)):=by
 have HL:=Zk hl;have HB:=Zk hb;obtain⟨A,c,rfl⟩:=hl.form';have c0:w.cell? ⟨b,0,none⟩=some (.slice A l.length c):=Zc w b 0 _ _ _ hb;have c1:w.cell? ⟨b,1,none⟩=some (.int .i64 i):=Zc w b 1 _ _ _ hb;have f1:w.frozen? ⟨b,1,none⟩=false:=Zf w b 1 _ _ hb;clear hl hb;go_enter Tryz.func99,Tryz.ntmps99;by_cases h3:i<l.length
 ·have hd:((i:Int)==(l.length:Int))=false:=by rw[beq_eq_false_iff_ne];omega
  have hd':decide ((i:Int)=(l.length:Int))=false:=Zd (by omega);obtain⟨a,aE,hA,_,aB⟩:=SB.cells HL.out (by omega);subst hA;have aF:=aB i h3;have HG:Hid (gd l i=l[i]):=Bw h3;have hi1:(i:Int)<(l.length:Int):=by omega
  clear aB;go_wp2_with fail;go_quiet (fail)
  obtain⟨q0,aG⟩:∃q0,nq=q0:=⟨_,rfl⟩;rw[aG];clear aG;obtain⟨w0,aD⟩:∃w0:World,w0=w.drewN q0:=⟨_,rfl⟩;have aH:Hid (w0=w.drewN q0):=aD;have b0:w0.cell? ⟨b,0,none⟩=some (.slice (some ⟨a,aE,none⟩) l.length c):=by rw[aD];exact c0
  have b1:w0.cell? ⟨b,1,none⟩=some (.int .i64 i):=by rw[aD];exact c1
  have bk:w0.cell? ⟨a,aE+i,none⟩=some (.int .i64 l[i]):=by rw[aD];exact aF
  rw[←aD];clear aD;go_wp2_with fail;go_quiet (fail)
  obtain⟨m,hm⟩:∃m,w0.drewN nq=w.drewN m:=⟨q0+nq,by rw[aH.out,World.drewN_drewN]⟩;rw[hm];clear hm b0 b1 bk;obtain⟨w1,aC⟩:∃w1:World,w1=w.drewN m:=⟨_,rfl⟩;have aA:Hid (w1=w.drewN m):=aC;have d0:w1.cell? ⟨b,0,none⟩=some (.slice (some ⟨a,aE,none⟩) l.length c):=by rw[aC];exact c0
  have d1:w1.cell? ⟨b,1,none⟩=some (.int .i64 i):=by rw[aC];exact c1
  have dk:w1.cell? ⟨a,aE+i,none⟩=some (.int .i64 l[i]):=by rw[aC];exact aF
  have df:w1.frozen? ⟨b,1,none⟩=false:=by rw[aC];exact f1
  rw[←aC];clear aC c0 c1 aF f1;have HX:Hid (nxE l n i=if l[i]<0∨n≤l[i] then 8 else 0):=by show _=_;unfold nxE;rw[if_pos h3,HG.out]
  by_cases hx:l[i]<0∨n≤l[i]
  ·have HE:Hid (nxE l n i=8∧nxV l n i=0∧nxA l n i=i):=zFq (by rw[HX.out,if_pos hx]) (by omega);by_cases h0:l[i]<0
   ·have hz:decide (l[i]<0)=true:=Ze h0;clear hx;go_wp2_with fail;refine bodyPost_ret (v:= .tuple #[.int .i64 0,.int .i64 8]) (by simp[results,Tryz.results99,go_sem]) rfl ⟨?_,?_,?_,?_⟩
    ·rw[HE.out.1,HE.out.2.1]
    ·rw[aA.out];exact Cu (Ai w _) m
    ·rw[aA.out];rfl
    ·rw[HE.out.2.2,aA.out];exact HB.out
   ·have hz:decide (l[i]<0)=false:=Zd h0;have aI:decide (n≤l[i])=true:=Ze (by omega);clear hx;go_wp2_with fail;refine bodyPost_ret (v:= .tuple #[.int .i64 0,.int .i64 8]) (by simp[results,Tryz.results99,go_sem]) rfl ⟨?_,?_,?_,?_⟩
    ·rw[HE.out.1,HE.out.2.1]
    ·rw[aA.out];exact Cu (Ai w _) m
    ·rw[aA.out];rfl
    ·rw[HE.out.2.2,aA.out];exact HB.out
  ·have HE:Hid (nxE l n i=0∧nxV l n i=gd l i∧nxA l n i=(i:Int)+1):=zFr (by rw[HX.out,if_neg hx]);have hz:decide (l[i]<0)=false:=Zd (by omega);have aI:decide (n≤l[i])=false:=Zd (by omega);clear hx;go_wp2_with fail;refine bodyPost_ret (v:= .tuple #[.int .i64 l[i],.int .i64 0]) (by simp[results,Tryz.results99,go_sem]) rfl ⟨?_,?_,?_,?_⟩
   ·rw[HE.out.1,HE.out.2.1,HG.out]
   ·rw[aA.out];exact Ak (Cu (Ai w _) m) (.inl rfl) _
   ·rw[aA.out];simp[World.setCell,World.drewN]
   ·rw[HE.out.2.2];have:=heap_setCell_same w1 b 1 _ _ (.int .i64 ((i:Int)+1)) (by rw[aA.out];exact HB.out);simpa using this
 ·obtain rfl:i=l.length:=by omega
  have HE:Hid (nxE l n l.length=3∧nxV l n l.length=0∧nxA l n l.length=l.length):=zFq (by unfold nxE;rw[if_neg (by omega)]) (by omega);go_wp2_with fail;go_quiet (fail)
  go_wp2_with fail;refine bodyPost_ret (v:= .tuple #[.int .i64 0,.int .i64 3]) (by simp[results,Tryz.results99,go_sem]) rfl ⟨?_,Cu (Ai w _) nq,rfl,?_⟩
  ·rw[HE.out.1,HE.out.2.1]
  ·rw[HE.out.2.2];exact HB.out
theorem Bc{w:World}{base e size n:Nat}{v:Value}{xs:List Value}{p:Addr}(h:w.ownsRow base e size v n xs)(hp:p.block<base)(u:Value):(w.setCell p u).ownsRow base e size v n xs:=by
 refine⟨h.1,?_⟩;rcases h.2 with hn|⟨g,aA,aB,rfl,hb,aC,rest⟩
 ·exact .inl hn
 ·exact .inr ⟨g,aA,aB,rfl,hb,(Zo w p g u (by omega)).trans aC,rest⟩
def DrR(l:List Int)(n:Int)(i0 c b:Nat)(vn:Value)(w:World)(i:Value)(wr:World):Prop:=
 ∃(k:Nat) (vd:Value),k≤c∧i0+k≤l.length∧i= .int .i64 k∧wr.heap[b]? =some (.cells #[vn,.int .i64 ((i0+k:Nat):Int),vd] 125 (0,0))∧wr.ownsRow w.heap.size 3 1 vd ((l.drop i0).take k).length (((l.drop i0).take k).map (Value.int .i64))∧w.grownBy wr (some b)∧drE l n i0 c=drE l n (i0+k) (c-k)
theorem Yb{l:List Int}{n:Int}{i0 c k:Nat}(hk:k<c):drE l n (i0+k) (c-k)=if nxE l n (i0+k)=0 then drE l n (i0+(k+1)) (c- (k+1)) else nxE l n (i0+k):=by
 obtain⟨m,hm⟩:∃m,c-k=m+1:=⟨c-k-1,by omega⟩;rw[hm,show c- (k+1)=m by omega];unfold nxE;conv=>lhs;unfold drE
 by_cases h:i0+k<l.length
 ·rw[if_pos h,if_pos h];by_cases h2:gd l (i0+k)<0∨n≤gd l (i0+k)
  ·rw[if_pos h2,if_pos h2,if_neg (by omega)]
  ·rw[if_neg h2,if_neg h2,if_pos rfl];rfl
 ·rw[if_neg h,if_neg h,if_neg (by omega)]
theorem nx_lt{l:List Int}{n:Int}{i:Nat}(h:nxE l n i=0):i<l.length:=by
 unfold nxE at h;split at h
 ·assumption
 ·omega
theorem Pz(l:List Int)(i0:Nat)(n:Int)(c:Nat)(b:Nat)(vn:Value)(w:World)(hl:SB b w vn l)(hi:i0≤l.length)(hlm:l.length≤1000000)(hc:(c:Int)≤9223372036854775807)(hb:w.heap[b]? =some (.cells #[vn,.int .i64 i0,.slice none 0 0] 125 (0,0))):
  Calls Tryz.prog 79 #[.pointer (some ⟨b,0,none⟩),.int .i64 n,.int .i64 c] w fun e w'=>e= .returned (.int .i64 (drE l n i0 c))∧w.grownBy w' (some b)∧
   (drE l n i0 c=0→∃vd,w'.heap[b]? =some (.cells #[vn,.int .i64 ((i0+c:Nat):Int),vd] 125 (0,0))∧w'.ownsRow w.heap.size 3 1 vd ((l.drop i0).take c).length (((l.drop i0).take c).map (Value.int .i64))):=by
 have HL:=Zk hl;have HB:=Zk hb;have aY:b<w.heap.size:=Ae hb;clear hl hb;go_enter Tryz.func79,Tryz.ntmps79;go_wp2_with fail;go_loopw [7] (fun i wr=>DrR l n i0 c b vn w i wr) (fun i _=>c- (intOf i).toNat)
 case atStart=>exact⟨0,.slice none 0 0,Nat.zero_le _,hi,rfl,HB.out,by simpa using World.ownsRow_nil w w.heap.size 3 1,Ai w _,rfl⟩
 case round=>
  obtain⟨k,vd,hk,bA,rfl,aS,aD,aN,hdr⟩:=hrel;have HG:=Zk aN;have aO:=Zk aS;have HO:=Zk aD;have HD:=Zk hdr;have hzr:=aN.size;clear aN aS aD hdr;by_cases hlt:k<c
  ·have aR:=Zk (HD.out.trans (Yb (l:=l) (n:=n) (i0:=i0) hlt));have aZ:decide ((k:Int)<(c:Int))=true:=Ze (by omega);have aU:Hid (SB b wr vn l):=HL.out.keep fun p hp=>World.cell?_of_block (HG.out.block p.block (by omega) (by simp;omega))
   go_wp2_with fail;(with_reducible refine (Wv l (i0+k) n b vn vd _ (aU.out.si (by omega)) bA hlm aO.out).mono ?_)
   rintro e w2 ⟨rfl,aM,bC,aK⟩;have aQ:Hid (w.grownBy w2 (some b)):=Ag HG.out aM;have aF:=Zk (HO.out.kept aM (.inr fun e=>by have:=(HO.out.lt b e).1;omega))
   have bD:w.heap.size≤w2.heap.size:=by omega
   by_cases hx:nxE l n (i0+k)=0
   ·have HX:=Zk (zFr hx);have bB:=nx_lt hx;rw[HX.out.1,HX.out.2.1];rw[HX.out.2.2] at aK;have aG:Hid (drE l n i0 c=drE l n (i0+(k+1)) (c- (k+1))):=by have h:=aR.out;rw[if_pos hx] at h;exact h
    have aC:=Zk aK;obtain⟨Ad,cd,rfl⟩:=Ct HO.out;have aJ:Hid ((l.drop i0).take (k+1)=(l.drop i0).take k++[gd l (i0+k)]):=by
     show _=_;rw[List.take_succ_eq_append_getElem (by simp;omega),Bw bB];simp
    have aB:((l.drop i0).take k).length=k:=by simp;omega
    obtain⟨D,hD⟩:∃D,(l.drop i0).take k=D:=⟨_,rfl⟩;rw[hD] at aF aC aJ aB;have HLE:=Zk aB;obtain⟨y,hy⟩:∃y,gd l (i0+k)=y:=⟨_,rfl⟩;rw[hy] at aJ⊢;have c2:w2.cell? ⟨b,2,none⟩=some (.slice Ad D.length cd):=Zc w2 b 2 _ _ _ aC.out;have aI:Hid (∀(o:Obj) (w3:World),(w2.alloc o).grownBy w3 (Value.slice Ad D.length cd).ownBlock→w3.heap[b]? =w2.heap[b]?):=fun o w3 hg=>(hg.block b (by have:=Ae aC.out;simp;omega) (fun e=>by have:=(aF.out.lt b e.symm).1;omega)).trans (Below.heap_alloc _ _ _ (Ae aC.out))
    have hDl:D.length≤1000000:=by omega
    have aX:Hid (∀k,(Value.slice Ad D.length cd).ownBlock=some k→w.heap.size≤k):=fun k hk=>(aF.out.lt k hk).1
    clear hx aK aM bC aB hD hy;go_wp2_with (at_builtin;refine Bh _ rfl (.tmp 30) (.tmp 32) 22 rfl w.heap.size 3 Tryz.underlying22 Bi _ D rfl aF.out y rfl (by omega) bD ?_;intro v3 w3 aA aT;obtain⟨A3,k3,rfl⟩:=Ct aA;have aW:=Zk aA;have aE:=Zk aT;have c3:=(World.cell?_of_block (a:=⟨b,2,none⟩) (aI.out _ _ aE.out)).trans c2;have f3:w3.frozen? ⟨b,2,none⟩=false:=Zf w3 b 2 _ _ ((aI.out _ _ aE.out).trans aC.out);clear aA aT);go_roundw
    case rel=>
     refine⟨k+1,.slice A3 (D++[y]).length k3,by omega,by omega,by go_num,?_,?_,?_,aG.out⟩
     ·have:=heap_setCell_same w3 b 2 _ _ (.slice A3 (D++[y]).length k3) ((aI.out _ _ aE.out).trans aC.out);simpa [Int.add_assoc] using this
     ·rw[aJ.out];exact Bc aW.out aY _
     ·exact Ak (Cv (Me aQ.out _) aE.out aX.out) (.inl rfl) _
    case measure=>simp[intOf];omega
   ·have aH:=hx;have aG:Hid (drE l n i0 c=nxE l n (i0+k)):=by have h:=aR.out;rw[if_neg hx] at h;exact h
    obtain⟨er,aL⟩:∃er,nxE l n (i0+k)=er:=⟨_,rfl⟩;have aP:=Zk aL;rw[aL] at aH⊢;have hbn:(er !=0)=true:=by rw[bne_iff_ne];exact aH
    have aV:=Zk aH;clear hx aL aH;go_wp2_with fail;go_ret;exact⟨by rw[aG.out,aP.out]<;>rfl,aQ.out,fun h=>absurd (aP.out.symm.trans (aG.out.symm.trans h)) aV.out⟩
  ·obtain rfl:k=c:=by omega
   have HZ:Hid (drE l n i0 k=0):=by show _=_;rw[HD.out,Nat.sub_self];rfl
   have aZ:decide ((k:Int)<(k:Int))=false:=Zd (by omega);go_wp2_with fail;go_ret;exact⟨by rw[HZ.out]<;>rfl,HG.out,fun _=>⟨vd,aO.out,HO.out⟩⟩
end Go.Proofs.YtoiabanpnkpbhaaGreatDoor
