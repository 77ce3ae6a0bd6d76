/- Parts. -/
import Derived.Deep.RegionWith
import Derived.Deep.RegionHeld3
import Derived.Test.YtoiabanpnkpbhaaGreatDoorM07
set_option linter.unusedVariables false
set_option linter.unusedSimpArgs false
set_option maxHeartbeats 2000000
namespace Go.Proofs.YtoiabanpnkpbhaaGreatDoor
open Go.RowKit
theorem Xg(P a:Int)(b:Nat)(w:World)(hc:w.cell? ⟨b,0,none⟩=some (.int .i64 P)):
  Calls Tryz.prog 74 #[.int .i64 a,.pointer (some ⟨b,0,none⟩)] w fun e w'=>e= .returned (.bool (!el P a))∧w=w':=by
 go_enter Tryz.func74,Tryz.ntmps74;go_wp2_with fail;(with_reducible refine (Uq _ _ _).mono ?_);rintro e w' ⟨rfl,rfl⟩
 go_wp2_with fail;go_ret;exact⟨rfl,rfl⟩
def IdxP(P:Int)(l:List Int)(w:World)(e:Ending)(w':World):Prop:=∃k:Int,e= .returned (.int .i64 k)∧(decide (0≤k)= !els P l)∧w=w'
def okTo(P:Int)(l:List Int)(k:Nat):Prop:=∀j (_:j<k) (h:j<l.length),el P l[j]=true
theorem zAx{P:Int}{l:List Int}{k:Nat}(h:okTo P l k)(hk:l.length≤k):els P l=true:=Ce fun x hx=>by
 obtain⟨j,hj,rfl⟩:=List.mem_iff_getElem.1 hx;exact h j (by omega) hj
theorem Sf{P:Int}{l:List Int}{k:Nat}(hk:k<l.length)(h:el P l[k]=false):els P l=false:=by
 cases e:els P l with
 |false=>rfl
 |true=>have:=Be e _ (List.getElem_mem hk);rw[h] at this;cases this
theorem zDi(P:Int)(l:List Int)(v:Value)(b:Nat)(w:World)(hc:w.cell? ⟨b,0,none⟩=some (.int .i64 P))(h:SI w v l):
  Calls Tryz.prog 98 #[v,.func (.func 74) #[] #[.pointer (some ⟨b,0,none⟩)]] w (IdxP P l w):=by
 obtain⟨A,c,rfl,hcc,hm,hr,ha⟩:=h;have HA:=Zk ha;clear hr ha;go_enter Tryz.func98,Tryz.ntmps98;go_wp2_with fail;go_loop [8] (fun i=>∃k:Nat,k≤l.length∧i= .int .i64 k∧okTo P l k) (fun i=>l.length- (intOf i).toNat)
 case atStart=>exact⟨0,Nat.zero_le _,rfl,fun j h=>absurd h (by omega)⟩
 case round=>
  obtain⟨k,hk,rfl,aB⟩:=hrel;have HO:=Zk aB;clear aB;by_cases hlt:k<l.length
  ·obtain⟨b2,off,rfl,hb2,aA⟩:=HA.out (by omega);have hck:=aA k hlt;clear aA;have aC:decide ((k:Int)<(l.length:Int))=true:=Ze (by omega);have aD:decide (k<l.length)=true:=Ze hlt;go_wp2_with fail;(with_reducible refine (Xg P l[k] b _ hc).mono ?_);rintro e w' ⟨rfl,rfl⟩
   cases he:el P l[k] with
   |true=>
    have HE:=Zk he;clear he;go_wp2_with fail;go_round
    case rel=>exact⟨k+1,by omega,by go_num,fun j h1 h2=>by
     by_cases e:j=k
     ·subst e;exact HE.out
     ·exact HO.out j (by omega) h2⟩
    case measure=>simp[intOf];omega
   |false=>
    have HE:=Zk (Sf hlt he);clear he;go_wp2_with fail;go_ret;exact⟨k,rfl,by rw[HE.out];simp,rfl⟩
  ·have HE:=Zk (zAx HO.out (by omega));have aC:decide ((k:Int)<(l.length:Int))=false:=Zd (by omega);have aD:decide (k<l.length)=false:=Zd hlt;go_wp2_with fail;go_ret;exact⟨-1,rfl,by rw[HE.out];rfl,rfl⟩
theorem Xu(P:Int)(l:List Int)(v:Value)(b:Nat)(w:World)(hc:w.cell? ⟨b,0,none⟩=some (.int .i64 P))(h:SI w v l):
  Calls Tryz.prog 73 #[v,.func (.func 74) #[] #[.pointer (some ⟨b,0,none⟩)]] w fun e w'=>e= .returned (.bool (!els P l))∧w=w':=by
 go_enter Tryz.func73,Tryz.ntmps73;go_wp2_with fail;(with_reducible refine (zDi P l _ b _ hc h).mono ?_);rintro e w' ⟨k,rfl,hk,rfl⟩
 have HK:=Zk hk;clear hk;go_wp2_with fail;go_ret;exact⟨Cs HK.out,rfl⟩
theorem Hp(P:Int)(l:List Int)(v:Value)(w:World)(h:SI w v l):
  Calls Tryz.prog 47 #[.int .i64 P,v] w fun e w'=>e= .returned (.bool (els P l))∧Below w.heap.size w w':=by
 have hb:Below w.heap.size w (w.alloc (.cells #[.int .i64 P] 85)):=(Zb _ _).alloc (Zl _) _;have h':=SI.below h hb;go_enter Tryz.func47,Tryz.ntmps47;go_wp2_with fail;(with_reducible refine (Xu P l _ _ _ (by simp[go_sem]) h').mono ?_);rintro e w' ⟨rfl,rfl⟩
 go_wp2_with fail;go_ret;exact⟨Cs (by simp),hb⟩
def BK(w:World)(b:Nat)(l:List Int):Prop:=w.heap[b]? =some (.cells (l.map (Value.int .i64)).toArray 3 (0,0))
theorem BK.lt{w:World}{b:Nat}{l:List Int}(h:BK w b l):b<w.heap.size:=Ae h
theorem BK.cell{w:World}{b:Nat}{l:List Int}(h:BK w b l){j:Nat}(hj:j<l.length):w.cell? ⟨b,j,none⟩=some (.int .i64 l[j]):=by
 rw[Zc w b j _ _ (0,0) h];simp[hj]
theorem BK.frozen{w:World}{b:Nat}{l:List Int}(h:BK w b l)(j:Nat):w.frozen? ⟨b,j,none⟩=false:=Zf w b j _ _ h
theorem BK.kept{w w':World}{b:Nat}{l:List Int}{r:Option Nat}(h:BK w b l)(hg:w.grownBy w' r)(hne:some b≠r):BK w' b l:=(hg.block b h.lt hne).trans h
theorem BK.below{w w':World}{b B:Nat}{l:List Int}(h:BK w b l)(hb:Below B w w')(hB:b<B):BK w' b l:=(hb.block b hB).trans h
theorem BK.set{w:World}{b:Nat}{l:List Int}(h:BK w b l)(j:Nat)(x:Int):BK (w.setCell ⟨b,j,none⟩ (.int .i64 x)) b (l.set j x):=by
 unfold BK;rw[heap_setCell_same w b j _ _ _ h];simp[List.map_set]
theorem BK.si{w:World}{b o:Nat}{l:List Int}(h:BK w b l)(hr:∀x∈l,At x)(hl:l.length≤1000000)(ho:o≤l.length):SI w (.slice (some ⟨b,o,none⟩) (l.length-o) (l.length-o)) (l.drop o):=by
 refine⟨some ⟨b,o,none⟩,l.length-o,by rw[List.length_drop],by rw[List.length_drop];omega,by omega,fun x hx=>hr x (List.mem_of_mem_drop hx),fun h0=>⟨b,o,rfl,h.lt,fun j hj=> ?_⟩⟩
 rw[List.length_drop] at hj;rw[h.cell (by omega)];simp
theorem el_r{P x:Int}(hP:P≤65521)(h:el P x=true):At x:=by have:=Co h;unfold At;omega
theorem Ci{P:Int}(hP:P≤65521){l:List Int}(h:els P l=true):∀x∈l,At x:=fun x hx=>el_r hP (Be h x hx)
def AtRel(P:Int)(w:World)(b o:Nat)(to:List Int)(x:Int)(l:List Int)(i:Value)(wr:World):Prop:=
 ∃k:Nat,k≤l.length∧i= .int .i64 k∧BK wr b (Bl P to o x (l.take k))∧w.grownBy wr (some b)
theorem Gf(P:Int)(b o n c:Nat)(to:List Int)(x:Int)(l:List Int)(v:Value)(w:World)(hP:2≤P∧P≤65521)(hx:0≤x∧x<P)(hto:els P to=true)(hl:els P l=true)
  (hb:BK w b to) (h:SI w v l) (hne:∀k,v.ownBlock=some k→k≠b) (hn:l.length≤n) (ho:o+l.length≤to.length):
  Calls Tryz.prog 49 #[.int .i64 P,.slice (some ⟨b,o,none⟩) n c,.int .i64 x,v] w fun e w'=>(∃v,e= .returned v)∧BK w' b (Bl P to o x l)∧w.grownBy w' (some b):=by
 obtain⟨A,c',rfl,hcc,hm,hr,ha⟩:=h;have HA:=Zk ha;have HB:=Zk hb;have HL:=Zk hl;have aK:=Zk hto;clear hr ha hb hl hto;go_enter Tryz.func49,Tryz.ntmps49;go_wp2_with fail;go_loopw [12] (fun i wr=>AtRel P w b o to x l i wr) (fun i _=>l.length- (intOf i).toNat)
 case atStart=>exact⟨0,Nat.zero_le _,rfl,by rw[List.take_zero,Eb];exact HB.out,Ai _ _⟩
 case round=>
  obtain⟨k,hk,rfl,aF,hg⟩:=hrel;have aD:=Zk aF;have HG:=Zk hg;have hz:=hg.size;clear aF hg;by_cases hlt:k<l.length
  ·obtain⟨b2,off,rfl,hb2,aA⟩:=HA.out (by omega);have aL:=HG.out.cell (aA k hlt) (fun e=>hne b2 rfl (by injection e))
   have aB:(Bl P to o x (l.take k)).length=to.length:=Bg _ _ _ _ _;have aI:=aD.out.cell (j:=o+k) (by rw[aB];omega);have hfk:=aD.out.frozen (o+k);have aG:=Co (Cd hP.1 (Cq hP.1 aK.out o x (l.take k)) (o+k));have aC:=Co (Be HL.out _ (List.getElem_mem hlt));rw[←Bw] at aI;obtain⟨t,ht⟩:∃t,t=gd (Bl P to o x (l.take k)) (o+k):=⟨_,rfl⟩;rw[←ht] at aI aG;obtain⟨a,ha⟩:∃a,a=l[k]:=⟨_,rfl⟩;rw[←ha] at aL aC;have aJ:Hid (Bl P to o x (l.take (k+1))=(Bl P to o x (l.take k)).set (o+k) ((t+x*a)%P)):=by
    show _=_;rw[ht,ha];exact Ea P to o x l k hlt ho
   have aO:0≤x*a%P:=Int.emod_nonneg _ (by omega);have aP:x*a%P<P:=Int.emod_lt_of_pos _ (by omega);have HE:Hid ((t+x*a%P)%P=(t+x*a)%P):=by show _=_;rw[Int.add_emod,Int.emod_emod_of_dvd _ (Int.dvd_refl P),←Int.add_emod]
   have aM:decide ((k:Int)<(l.length:Int))=true:=Ze (by omega);have aN:decide (k<l.length)=true:=Ze hlt;have z1:(0:Int)≤(k:Int):=by omega
   have z2:(k:Int)<(n:Int):=by omega
   clear aA ht ha aB;go_wp2_with fail;go_region_with (first|(go_at_call 53;refine (Ef _ _ _ _ hP hx aC).mono ?_;rintro e w' ⟨rfl,rfl⟩)|(go_at_call 55;refine (Kz _ _ _ _ hP aG ⟨aO,aP⟩).mono ?_;rintro e w' ⟨rfl,rfl⟩))
   all_goals
    go_wp2_with fail;go_roundw
    case rel=>
     have hs:=Ak (p:=⟨b,o+k,none⟩) HG.out (.inl rfl) (.int .i64 ((t+x*a)%P));exact⟨k+1,by omega,by go_num,by rw[aJ.out];exact aD.out.set _ _,⟨hs.os,hs.tape,hs.output,hs.size,hs.block⟩⟩
    case measure=>simp[intOf];omega
  ·have aH:k=l.length:=by omega
   have aM:decide ((k:Int)<(l.length:Int))=false:=Zd (by omega);have aN:decide (k<l.length)=false:=Zd hlt;have aE:Hid (BK wr b (Bl P to o x l)):=by show BK _ _ _;have:=aD.out;rwa [aH,List.take_length] at this
   clear aH;go_wp2_with fail;go_end0
   exact⟨⟨_,rfl⟩,aE.out,HG.out⟩
open Go.RowKit
def RB(w:World)(b:Nat)(l:List Int):Prop:=∃tl:List Value,w.heap[b]? =some (.cells (l.map (Value.int .i64)++tl).toArray 3 (0,0))
theorem RB.lt{w:World}{b:Nat}{l:List Int}(h:RB w b l):b<w.heap.size:=by obtain⟨tl,h⟩:=h;exact Ae h
theorem RB.cell{w:World}{b:Nat}{l:List Int}(h:RB w b l){j:Nat}(hj:j<l.length):w.cell? ⟨b,j,none⟩=some (.int .i64 l[j]):=by
 obtain⟨tl,h⟩:=h;rw[Zc w b j _ _ (0,0) h];rw[List.getElem?_toArray,List.getElem?_append_left (by simpa using hj)];simp[hj]
theorem RB.frozen{w:World}{b:Nat}{l:List Int}(h:RB w b l)(j:Nat):w.frozen? ⟨b,j,none⟩=false:=by obtain⟨tl,h⟩:=h;exact Zf w b j _ _ h
theorem RB.kept{w w':World}{b:Nat}{l:List Int}{r:Option Nat}(h:RB w b l)(hg:w.grownBy w' r)(hne:some b≠r):RB w' b l:=by
 have aA:=h.lt;obtain⟨tl,h⟩:=h;exact⟨tl,(hg.block b aA hne).trans h⟩
theorem RB.below{w w':World}{b B:Nat}{l:List Int}(h:RB w b l)(hb:Below B w w')(hB:b<B):RB w' b l:=by
 obtain⟨tl,h⟩:=h;exact⟨tl,(hb.block b hB).trans h⟩
theorem RB.set{w:World}{b:Nat}{l:List Int}(h:RB w b l){j:Nat}(hj:j<l.length)(x:Int):RB (w.setCell ⟨b,j,none⟩ (.int .i64 x)) b (l.set j x):=by
 obtain⟨tl,h⟩:=h;refine⟨tl,?_⟩;rw[heap_setCell_same w b j _ _ _ h];simp[List.map_set,hj]
theorem RB.setO{w:World}{b:Nat}{l:List Int}(h:RB w b l){p:Addr}(hp:p.block≠b)(u:Value):RB (w.setCell p u) b l:=by
 obtain⟨tl,h⟩:=h;exact⟨tl,(Zo w p b u (by omega)).trans h⟩
theorem RB.si{w:World}{b c:Nat}{l:List Int}(h:RB w b l)(hr:∀x∈l,At x)(hc:l.length≤c)(hm:c≤9223372036854775807):SI w (.slice (some ⟨b,0,none⟩) l.length c) l:=
 ⟨some ⟨b,0,none⟩,c,rfl,hc,hm,hr,fun _=>⟨b,0,rfl,h.lt,fun j hj=>by rw[Nat.zero_add];exact h.cell hj⟩⟩
theorem RB.of_own{w:World}{base g n cap:Nat}{l:List Int}{xs:List Value}(h:w.ownsRow base 3 1 (.slice (some ⟨g,0,none⟩) n cap) n xs)(hx:xs=l.map (Value.int .i64)):RB w g l∧base≤g∧n≤cap∧cap≤maxLen:=by
 rcases h.2 with⟨e,_⟩|⟨g',cap',aB,e,hb,hg,aD,aC,hcs,aA⟩
 ·cases e
 ·injection e with e1 e2 e3;injection e1 with e1;injection e1 with e1;subst e1 e3;refine⟨⟨aB.toList.drop (n*1),?_⟩,hb,aD,aC⟩;rw[hg,←hx,←aA,List.take_append_drop]
def zFx(P:Int)(w:World)(b o:Nat)(to:List Int)(x:Int)(l:List Int)(i:Value)(wr:World):Prop:=
 ∃k:Nat,k≤l.length∧i= .int .i64 k∧RB wr b (Bl P to o x (l.take k))∧w.grownBy wr (some b)
theorem Io(P:Int)(b o n c:Nat)(to:List Int)(x:Int)(l:List Int)(v:Value)(w:World)(hP:2≤P∧P≤65521)(hx:0≤x∧x<P)(hto:els P to=true)(hl:els P l=true)
  (hb:RB w b to) (h:SI w v l) (hne:∀k,v.ownBlock=some k→k≠b) (hn:l.length≤n) (ho:o+l.length≤to.length):
  Calls Tryz.prog 49 #[.int .i64 P,.slice (some ⟨b,o,none⟩) n c,.int .i64 x,v] w fun e w'=>(∃v,e= .returned v)∧RB w' b (Bl P to o x l)∧w.grownBy w' (some b):=by
 obtain⟨A,c',rfl,hcc,hm,hr,ha⟩:=h;have HA:=Zk ha;have HB:=Zk hb;have HL:=Zk hl;have aK:=Zk hto;clear hr ha hb hl hto;go_enter Tryz.func49,Tryz.ntmps49;go_wp2_with fail;go_loopw [12] (fun i wr=>zFx P w b o to x l i wr) (fun i _=>l.length- (intOf i).toNat)
 case atStart=>exact⟨0,Nat.zero_le _,rfl,by rw[List.take_zero,Eb];exact HB.out,Ai _ _⟩
 case round=>
  obtain⟨k,hk,rfl,aF,hg⟩:=hrel;have aD:=Zk aF;have HG:=Zk hg;have hz:=hg.size;clear aF hg;by_cases hlt:k<l.length
  ·obtain⟨b2,off,rfl,hb2,aA⟩:=HA.out (by omega);have aL:=HG.out.cell (aA k hlt) (fun e=>hne b2 rfl (by injection e))
   have aB:(Bl P to o x (l.take k)).length=to.length:=Bg _ _ _ _ _;have aI:=aD.out.cell (j:=o+k) (by rw[aB];omega);have hfk:=aD.out.frozen (o+k);have aG:=Co (Cd hP.1 (Cq hP.1 aK.out o x (l.take k)) (o+k));have aC:=Co (Be HL.out _ (List.getElem_mem hlt));rw[←Bw] at aI;obtain⟨t,ht⟩:∃t,t=gd (Bl P to o x (l.take k)) (o+k):=⟨_,rfl⟩;rw[←ht] at aI aG;obtain⟨a,ha⟩:∃a,a=l[k]:=⟨_,rfl⟩;rw[←ha] at aL aC;have aJ:Hid (Bl P to o x (l.take (k+1))=(Bl P to o x (l.take k)).set (o+k) ((t+x*a)%P)):=by
    show _=_;rw[ht,ha];exact Ea P to o x l k hlt ho
   have aO:0≤x*a%P:=Int.emod_nonneg _ (by omega);have aP:x*a%P<P:=Int.emod_lt_of_pos _ (by omega);have HE:Hid ((t+x*a%P)%P=(t+x*a)%P):=by show _=_;rw[Int.add_emod,Int.emod_emod_of_dvd _ (Int.dvd_refl P),←Int.add_emod]
   have aM:decide ((k:Int)<(l.length:Int))=true:=Ze (by omega);have aN:decide (k<l.length)=true:=Ze hlt;have z1:(0:Int)≤(k:Int):=by omega
   have z2:(k:Int)<(n:Int):=by omega
   clear aA ht ha aB;go_wp2_with fail;go_region_with (first|(go_at_call 53;refine (Ef _ _ _ _ hP hx aC).mono ?_;rintro e w' ⟨rfl,rfl⟩)|(go_at_call 55;refine (Kz _ _ _ _ hP aG ⟨aO,aP⟩).mono ?_;rintro e w' ⟨rfl,rfl⟩))
   all_goals
    go_wp2_with fail;go_roundw
    case rel=>
     have hs:=Ak (p:=⟨b,o+k,none⟩) HG.out (.inl rfl) (.int .i64 ((t+x*a)%P));exact⟨k+1,by omega,by go_num,by rw[aJ.out];exact aD.out.set (by rw[Bg];omega) _,⟨hs.os,hs.tape,hs.output,hs.size,hs.block⟩⟩
    case measure=>simp[intOf];omega
  ·have aH:k=l.length:=by omega
   have aM:decide ((k:Int)<(l.length:Int))=false:=Zd (by omega);have aN:decide (k<l.length)=false:=Zd hlt;have aE:Hid (RB wr b (Bl P to o x l)):=by show RB _ _ _;have:=aD.out;rwa [aH,List.take_length] at this
   clear aH;go_wp2_with fail;go_end0
   exact⟨⟨_,rfl⟩,aE.out,HG.out⟩
open Go.RowKit
def hd(n:Nat)(bs cs:Nat→Nat)(i:Nat):Value:= .slice (some ⟨bs i,0,none⟩) n (cs i)
structure RM (base:Nat) (w:World) (G n m:Nat) (bs cs:Nat→Nat) (M:List (List Int)):Prop where
 hdr:∃L:List Value,w.heap[G]? =some (.cells L.toArray 22 (0,0))∧∀i,i<m→L[i]? =some (hd n bs cs i)
 len:M.length=m
 gb:base≤G
 row:∀i,i<m→RB w (bs i) (gr M i)∧(gr M i).length=n∧n≤cs i∧cs i≤9223372036854775807∧base≤bs i∧bs i≠G
 apart:∀i j,i<m→j<m→bs i=bs j→i=j
theorem RM.lt{base:Nat}{w:World}{G n m:Nat}{bs cs:Nat→Nat}{M:List (List Int)}(h:RM base w G n m bs cs M):G<w.heap.size:=by
 obtain⟨L,h1,_⟩:=h.hdr;exact Ae h1
theorem RM.cell{base:Nat}{w:World}{G n m:Nat}{bs cs:Nat→Nat}{M:List (List Int)}(h:RM base w G n m bs cs M){i:Nat}(hi:i<m):w.cell? ⟨G,i,none⟩=some (.slice (some ⟨bs i,0,none⟩) n (cs i)):=by
 obtain⟨L,h1,h2⟩:=h.hdr;rw[Zc w G i _ _ (0,0) h1,List.getElem?_toArray];exact h2 i hi
theorem RM.frozen{base:Nat}{w:World}{G n m:Nat}{bs cs:Nat→Nat}{M:List (List Int)}(h:RM base w G n m bs cs M)(i:Nat):w.frozen? ⟨G,i,none⟩=false:=by
 obtain⟨L,h1,h2⟩:=h.hdr;exact Zf w G i _ _ h1
theorem RM.el{base:Nat}{w:World}{G n m:Nat}{bs cs:Nat→Nat}{M:List (List Int)}(h:RM base w G n m bs cs M){i j:Nat}(hi:i<m)(hj:j<n):w.cell? ⟨bs i,j,none⟩=some (.int .i64 (gd (gr M i) j)):=by
 obtain⟨h1,h2,_⟩:=h.row i hi;rw[h1.cell (by omega),Bw (by omega)]
theorem RM.keep{base:Nat}{w w':World}{G n m:Nat}{bs cs:Nat→Nat}{M:List (List Int)}(h:RM base w G n m bs cs M)(hk:∀b,base≤b→b<w.heap.size→w'.heap[b]? =w.heap[b]?):RM base w' G n m bs cs M:=by
 obtain⟨L,h1,h2⟩:=h.hdr;refine⟨⟨L,(hk G h.gb (Ae h1)).trans h1,h2⟩,h.len,h.gb,fun i hi=> ?_,h.apart⟩
 obtain⟨⟨tl,r1⟩,r2,r3,r4,r5,r6⟩:=h.row i hi;exact⟨⟨tl,(hk _ r5 (Ae r1)).trans r1⟩,r2,r3,r4,r5,r6⟩
theorem RM.below{base:Nat}{w w':World}{G n m:Nat}{bs cs:Nat→Nat}{M:List (List Int)}(h:RM base w G n m bs cs M)(hb:Below w.heap.size w w'):RM base w' G n m bs cs M:=h.keep fun b _ h2=>hb.block b h2
theorem RM.setB{base:Nat}{w:World}{G n m:Nat}{bs cs:Nat→Nat}{M:List (List Int)}(h:RM base w G n m bs cs M){p:Addr}(hp:p.block<base)(u:Value):RM base (w.setCell p u) G n m bs cs M:=h.keep fun b h1 _=>Zo w p b u (by omega)
theorem RM.drew{base:Nat}{w:World}{G n m:Nat}{bs cs:Nat→Nat}{M:List (List Int)}(h:RM base w G n m bs cs M):RM base w.drew G n m bs cs M:=h.below (Zb _ w).drew
def sw(f:Nat→Nat)(r i j:Nat):Nat:=if j=i then f r else if j=r then f i else f j
theorem RM.swap{base:Nat}{w w':World}{G n m:Nat}{bs cs:Nat→Nat}{M:List (List Int)}(h:RM base w G n m bs cs M){r i:Nat}(hr:r<m)(hi:i<m)
  (e:w'=(w.setCell ⟨G,r,none⟩ (hd n bs cs i)).setCell ⟨G,i,none⟩ (hd n bs cs r)):RM base w' G n m (sw bs r i) (sw cs r i) (swp M r i):=by
 subst e;obtain⟨L,h1,h2⟩:=h.hdr;have aD:=h.len;have aE:r<L.length:=by have:=h2 r hr;exact (List.getElem?_eq_some_iff.1 this).1
 have aC:i<L.length:=by have:=h2 i hi;exact (List.getElem?_eq_some_iff.1 this).1
 have e1:=heap_setCell_same w G r _ _ (hd n bs cs i) h1;have e2:=heap_setCell_same _ G i _ _ (hd n bs cs r) e1;refine⟨⟨(L.set r (hd n bs cs i)).set i (hd n bs cs r),by rw[e2];simp,fun j hj=> ?_⟩,by rw[Dx];exact aD,h.gb,fun j hj=> ?_,fun a b ha hb aA=> ?_⟩
 ·rw[List.getElem?_set];by_cases ji:i=j
  ·subst ji;rw[if_pos rfl,if_pos (by simpa using aC)];simp[hd,sw]
  ·rw[if_neg ji,List.getElem?_set];by_cases jr:r=j
   ·subst jr;rw[if_pos rfl,if_pos aE];simp[hd,sw,Ne.symm ji]
   ·rw[if_neg jr,h2 j hj];simp[hd,sw,Ne.symm ji,Ne.symm jr]
 ·have aB:∀k,k<m→gr (swp M r i) j=gr M k→sw bs r i j=bs k→sw cs r i j=cs k→RB ((w.setCell ⟨G,r,none⟩ (hd n bs cs i)).setCell ⟨G,i,none⟩ (hd n bs cs r)) (sw bs r i j) (gr (swp M r i) j)∧(gr (swp M r i) j).length=n∧n≤sw cs r i j∧sw cs r i j≤9223372036854775807∧base≤sw bs r i j∧sw bs r i j≠G:=by
   intro k hk g1 g2 g3;obtain⟨r1,r2,r3,r4,r5,r6⟩:=h.row k hk;rw[g1,g2,g3];exact⟨(r1.setO (p:=⟨G,r,none⟩) (fun e=>r6 e.symm) _).setO (p:=⟨G,i,none⟩) (fun e=>r6 e.symm) _,r2,r3,r4,r5,r6⟩
  have hg:=Hg (M:=M) (r:=r) (i:=i) (by omega) (by omega) j;by_cases ji:j=i
  ·refine aB r hr ?_ ?_ ?_
   ·rw[hg,if_pos ji]
   ·simp[sw,ji]
   ·simp[sw,ji]
  ·by_cases jr:j=r
   ·refine aB i hi ?_ ?_ ?_
    ·rw[hg,if_neg ji,if_pos jr]
    ·simp only[sw];rw[if_neg ji,if_pos jr]
    ·simp only[sw];rw[if_neg ji,if_pos jr]
   ·refine aB j hj ?_ ?_ ?_
    ·rw[hg,if_neg ji,if_neg jr]
    ·simp only[sw];rw[if_neg ji,if_neg jr]
    ·simp only[sw];rw[if_neg ji,if_neg jr]
 ·have inj:=h.apart;simp only[sw] at aA;by_cases ai:a=i
  ·by_cases bi:b=i
   ·omega
   ·by_cases br:b=r
    ·rw[if_pos ai,if_neg bi,if_pos br] at aA;have:=inj r i hr hi aA;omega
    ·rw[if_pos ai,if_neg bi,if_neg br] at aA;have:=inj r b hr hb aA;omega
  ·by_cases ar:a=r
   ·by_cases bi:b=i
    ·rw[if_neg ai,if_pos ar,if_pos bi] at aA;have:=inj i r hi hr aA;omega
    ·by_cases br:b=r
     ·omega
     ·rw[if_neg ai,if_pos ar,if_neg bi,if_neg br] at aA;have:=inj i b hi hb aA;omega
   ·by_cases bi:b=i
    ·rw[if_neg ai,if_neg ar,if_pos bi] at aA;have:=inj a r ha hr aA;omega
    ·by_cases br:b=r
     ·rw[if_neg ai,if_neg ar,if_neg bi,if_pos br] at aA;have:=inj a i ha hi aA;omega
     ·rw[if_neg ai,if_neg ar,if_neg bi,if_neg br] at aA;exact inj a b ha hb aA
theorem RM.upd{base:Nat}{w w':World}{G n m:Nat}{bs cs:Nat→Nat}{M:List (List Int)}(h:RM base w G n m bs cs M){i:Nat}(hi:i<m){l:List Int}(hl:l.length=n)(hg:w.grownBy w' (some (bs i)))(hb:RB w' (bs i) l):
  RM base w' G n m bs cs (M.set i l):=by
 obtain⟨L,h1,h2⟩:=h.hdr;have aA:=h.len;refine⟨⟨L,(hg.block G (Ae h1) (by have:=(h.row i hi).2.2.2.2.2;simp;omega)).trans h1,h2⟩,by rw[List.length_set];exact aA,h.gb,fun j hj=> ?_,h.apart⟩
 rw[Gi (by omega)];obtain⟨r1,r2,r3,r4,r5,r6⟩:=h.row j hj;by_cases ji:j=i
 ·subst ji;rw[if_pos rfl];exact⟨hb,hl,r3,r4,r5,r6⟩
 ·rw[if_neg ji];exact⟨r1.kept hg (fun e=>ji (h.apart j i hj hi (by injection e))),r2,r3,r4,r5,r6⟩
def rdc(P C:Int)(hv:Value)(r:Int)(ld:List Int):List Value:=[.int .i64 P,.int .i64 C,hv,.int .i64 r]++ld.map (.int .i64)
def RD(w:World)(B:Nat)(P C:Int)(hv:Value)(r:Int)(ld:List Int):Prop:=w.heap[B]? =some (.cells (rdc P C hv r ld).toArray 209 (0,0))
theorem RD.cells{w:World}{B:Nat}{P C r:Int}{hv:Value}{ld:List Int}(h:RD w B P C hv r ld):
  w.cell? ⟨B,0,none⟩=some (.int .i64 P)∧w.cell? ⟨B,1,none⟩=some (.int .i64 C)∧w.cell? ⟨B,2,none⟩=some hv∧w.cell? ⟨B,3,none⟩=some (.int .i64 r):=by
 refine⟨?_,?_,?_,?_⟩<;> ·rw[Zc w B _ _ _ (0,0) h];simp[rdc]
theorem RD.ld{w:World}{B:Nat}{P C r:Int}{hv:Value}{ld:List Int}(h:RD w B P C hv r ld){k:Nat}(hk:k<ld.length):w.cell? ⟨B,4+k,none⟩=some (.int .i64 (gd ld k)):=by
 rw[Zc w B _ _ _ (0,0) h,Bw hk];have:4+k=k+4:=by omega
 rw[this];simp[rdc,hk]
theorem RD.frozen{w:World}{B:Nat}{P C r:Int}{hv:Value}{ld:List Int}(h:RD w B P C hv r ld)(k:Nat):w.frozen? ⟨B,k,none⟩=false:=Zf w B k _ _ h
theorem RD.lt{w:World}{B:Nat}{P C r:Int}{hv:Value}{ld:List Int}(h:RD w B P C hv r ld):B<w.heap.size:=Ae h
theorem RD.rank{w:World}{B:Nat}{P C r:Int}{hv:Value}{ld:List Int}(h:RD w B P C hv r ld)(x:Int):RD (w.setCell ⟨B,3,none⟩ (.int .i64 x)) B P C hv x ld:=by
 unfold RD;rw[heap_setCell_same w B 3 _ _ _ h];simp[rdc]
theorem RD.lead{w:World}{B:Nat}{P C r:Int}{hv:Value}{ld:List Int}(h:RD w B P C hv r ld){k:Nat}(x:Int):RD (w.setCell ⟨B,4+k,none⟩ (.int .i64 x)) B P C hv r (ld.set k x):=by
 unfold RD;rw[heap_setCell_same w B _ _ _ _ h];have:4+k=k+4:=by omega
 rw[this];simp[rdc,List.map_set]
theorem RD.kept{w w':World}{B:Nat}{P C r:Int}{hv:Value}{ld:List Int}(h:RD w B P C hv r ld)(hk:w'.heap[B]? =w.heap[B]?):RD w' B P C hv r ld:=hk.trans h
def scp(P b:Int)(row:List Int)(q:Nat):List Int:=(List.range row.length).map fun t=>if t<q then gd row t*b%P else gd row t
theorem Ej(P b:Int)(row:List Int)(q:Nat):(scp P b row q).length=row.length:=by simp[scp]
theorem Ki(P b:Int)(row:List Int)(q t:Nat)(ht:t<row.length):gd (scp P b row q) t=if t<q then gd row t*b%P else gd row t:=by
 rw[Bw (by rw[Ej];exact ht)];simp[scp]
theorem Rm(P b:Int)(row:List Int):scp P b row 0=row:=Cb (Ej _ _ _ _) fun k hk=>by
 rw[Ej] at hk;rw[Ki _ _ _ _ _ hk,if_neg (by omega)]
theorem Vg(P b:Int)(row:List Int):scp P b row row.length=scl P b row:=Cb (by rw[Ej,Ls]) fun k hk=>by
 rw[Ej] at hk;rw[Ki _ _ _ _ _ hk,if_pos hk,Pb]
theorem Vh(P b:Int)(row:List Int)(q:Nat)(hq:q<row.length):(scp P b row q).set q (gd row q*b%P)=scp P b row (q+1):=Cb (by rw[List.length_set,Ej,Ej]) fun k hk=>by
 rw[List.length_set,Ej] at hk;rw[Dj _ _ _ _ (by rw[Ej];exact hq),Ki _ _ _ _ _ hk,Ki _ _ _ _ _ hk];by_cases e:k=q
 ·rw[if_pos e,if_pos (by omega),e]
 ·rw[if_neg e];by_cases h:k<q
  ·rw[if_pos h,if_pos (by omega)]
  ·rw[if_neg h,if_neg (by omega)]
theorem Qb(P:Int)(k r:Nat)(f:List Int)(M:List (List Int)):elN P k r f M 0=M:=by
 apply List.ext_getElem
 ·rw[Ez]
 ·intro i h1 h2;have:=Fs (P:=P) (k:=k) (r:=r) (f:=f) (j:=0) h2;rw[Hf h1,Hf h2,if_neg (by omega)] at this;exact this
theorem Sn{A B:List (List Int)}(hl:A.length=B.length)(h:∀i,i<A.length→gr A i=gr B i):A=B:=by
 apply List.ext_getElem hl;intro i h1 h2;have:=h i h1
 rwa [Hf h1,Hf h2] at this
theorem Jg(P:Int)(k r:Nat)(f:List Int)(M:List (List Int))(j:Nat)(h:j=r∨gd (gr M j) k=0):elN P k r f M (j+1)=elN P k r f M j:=Sn (by rw[Ez,Ez]) fun i hi=>by
 rw[Ez] at hi;rw[Fs hi,Fs hi];by_cases e:i=j
 ·subst e;rw[if_neg (by omega:¬(i<i∧i≠r))];rcases h with h|h
  ·rw[if_neg (by omega)]
  ·split
   ·unfold el1;rw[if_pos h]
   ·rfl
 ·by_cases h:i<j∧i≠r
  ·rw[if_pos h,if_pos (by omega)]
  ·rw[if_neg h,if_neg (by omega)]
theorem Qa(P:Int)(k r:Nat)(f:List Int)(M:List (List Int))(j:Nat)(hj:j<M.length)(h:j≠r):elN P k r f M (j+1)=(elN P k r f M j).set j (el1 P k f (gr M j)):=Sn (by rw[Ez,List.length_set,Ez]) fun i hi=>by
 rw[Ez] at hi;rw[Fs hi,Gi (by rw[Ez];exact hj),Fs hi];by_cases e:i=j
 ·subst e;rw[if_pos (by omega),if_pos rfl]
 ·rw[if_neg e];by_cases h:i<j∧i≠r
  ·rw[if_pos h,if_pos (by omega)]
  ·rw[if_neg h,if_neg (by omega)]
def LP(P:Int)(C B G n m c:Nat)(M0:List (List Int))(k:Nat)(w:World):Prop:=
 ∃(r:Nat) (bs cs:Nat→Nat) (M:List (List Int)) (ld:List Int),RM (B+1) w G n m bs cs M∧RD w B P C (.slice (some ⟨G,0,none⟩) m c) r ld∧GE P C M0 M r k ld
end Go.Proofs.YtoiabanpnkpbhaaGreatDoor
