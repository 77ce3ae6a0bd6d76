/- Parts. -/
import Derived.Test.YtoiabanpnkpbhaaGreatDoorProg
import Derived.WalkKit
import Derived.Lib.Hide
import Derived.Deep.Draws
import Derived.Deep.QuietTactic
import Derived.BigQuiet
set_option linter.unusedVariables false
set_option linter.unusedSimpArgs false
namespace Go.Proofs.YtoiabanpnkpbhaaGreatDoor
open Go.RowKit
theorem Zk{p:Prop}(h:p):Hid p:=h
theorem Zd{p:Prop}[Decidable p](h:¬p):decide p=false:=decide_eq_false h
theorem Ze{p:Prop}[Decidable p](h:p):decide p=true:=decide_eq_true h
theorem Zl(n:Nat):n≤n:=Nat.le_refl n
theorem Zb(B:Nat)(w:World):Below B w w:=Below.refl B w
theorem Zc(w:World)(g j:Nat)(cs:Array Value)(t:TypeId)(fr:Nat×Nat)(hg:w.heap[g]? =some (.cells cs t fr)):w.cell? ⟨g,j,none⟩=cs[j]? :=cell_of_row w g j cs t fr hg
theorem Zh(w:World)(o:Obj):(w.alloc o).heap[w.heap.size]? =some o:=heap_alloc_new w o
theorem Zf(w:World)(g j:Nat)(cs:Array Value)(t:TypeId)(hg:w.heap[g]? =some (.cells cs t (0,0))):w.frozen? ⟨g,j,none⟩=false:=frozen_of_row w g j cs t hg
theorem Zi(n:Int)(h: -9223372036854775808≤n∧n≤9223372036854775807):IntKind.i64.wrap n=n:=IntWalk.i64_in n h
theorem Zo(w:World)(a:Addr)(k:Nat)(v:Value)(h:k≠a.block):(w.setCell a v).heap[k]? =w.heap[k]? :=heap_setCell_other w a k v h
theorem Zx{α:Type _}{x:α}{xs:List α}{i:Nat}{a:α}:(x::xs).set (i+1) a=x::xs.set i a:=rfl
theorem Zy{α:Type _}{x:α}{xs:List α}{a:α}:(x::xs).set 0 a=a::xs:=rfl
theorem Zz{α:Type _}(l:List α)(i:Nat)(a:α):l.toArray.setIfInBounds i a=(l.set i a).toArray:=by simp
theorem Lp{k:IntKind}{a b:Int}(h:a=b):Ending.returned (.int k a)= .returned (.int k b):=by rw[h]
theorem Cs{a b:Bool}(h:a=b):Ending.returned (.bool a)= .returned (.bool b):=by rw[h]
def At(x:Int):Prop:= -9223372036854775808≤x∧x≤9223372036854775807
def SB(B:Nat)(w:World)(v:Value)(l:List Int):Prop:=
 ∃A c,v= .slice A l.length c∧l.length≤c∧c≤9223372036854775807∧(∀x∈l,At x)∧
  (0<l.length→∃b off,A=some ⟨b,off,none⟩∧b<B∧∀j (h:j<l.length),w.cell? ⟨b,off+j,none⟩=some (.int .i64 l[j]))
def SI(w:World)(v:Value)(l:List Int):Prop:=SB w.heap.size w v l
theorem SB.keep{B:Nat}{w w':World}{v:Value}{l:List Int}(h:SB B w v l)(hk:∀p:Addr,p.block<B→w'.cell? p=w.cell? p):SB B w' v l:=by
 obtain⟨A,c,rfl,hc,hm,hr,ha⟩:=h;refine⟨A,c,rfl,hc,hm,hr,fun h0=> ?_⟩
 obtain⟨b,aB,rfl,hb,aA⟩:=ha h0;exact⟨b,aB,rfl,hb,fun j hj=>(hk _ hb).trans (aA j hj)⟩
theorem SB.more{B B':Nat}{w:World}{v:Value}{l:List Int}(h:SB B w v l)(hB:B≤B'):SB B' w v l:=by
 obtain⟨A,c,rfl,hc,hm,hr,ha⟩:=h;refine⟨A,c,rfl,hc,hm,hr,fun h0=> ?_⟩
 obtain⟨b,aB,rfl,hb,aA⟩:=ha h0;exact⟨b,aB,rfl,by omega,aA⟩
theorem SB.below{B:Nat}{w w':World}{v:Value}{l:List Int}(h:SB B w v l)(hb:Below B w w'):SB B w' v l:=h.keep fun _ hp=>hb.cell hp
theorem SI.below{w w':World}{v:Value}{l:List Int}(h:SI w v l)(hb:Below w.heap.size w w'):SI w' v l:=(SB.below h hb).more hb.size
theorem SB.si{B:Nat}{w:World}{v:Value}{l:List Int}(h:SB B w v l)(hB:B≤w.heap.size):SI w v l:=SB.more h hB
theorem SB.grown{B:Nat}{w w':World}{v:Value}{l:List Int}{g:Nat}(h:SB B w v l)(hg:w.grownBy w' (some g))(hB:B≤g)(hw:B≤w.heap.size):SB B w' v l:=
 h.keep fun p hp=>World.cell?_of_block (hg.block p.block (by omega) (by simp;omega))
theorem Below.drewN{B:Nat}{a w:World}(h:Below B a w)(n:Nat):Below B a (w.drewN n):=⟨h.os,h.tape,h.output,h.size,h.block⟩
theorem _root_.Go.RowKit.Below.drew_left{B:Nat}{a w:World}(h:Below B a.drew w):Below B a w:=⟨h.os,h.tape,h.output,h.size,h.block⟩
theorem Ai(w:World)(r:Option Nat):w.grownBy w r:=⟨rfl,rfl,rfl,Zl _,fun _ _ _=>rfl⟩
theorem Ag{a b c:World}{r:Option Nat}(h:a.grownBy b r)(k:b.grownBy c r):a.grownBy c r:=
 ⟨k.os.trans h.os,k.tape.trans h.tape,k.output.trans h.output,Nat.le_trans h.size k.size,fun i hi hn=>(k.block i (Nat.lt_of_lt_of_le hi h.size) hn).trans (h.block i hi hn)⟩
theorem Cu{a w:World}{r:Option Nat}(h:a.grownBy w r)(n:Nat):a.grownBy (w.drewN n) r:=⟨h.os,h.tape,h.output,h.size,h.block⟩
theorem Ak{a w:World}{g:Nat}(h:a.grownBy w (some g)){p:Addr}(hp:p.block=g∨a.heap.size≤p.block)(u:Value):a.grownBy (w.setCell p u) (some g):=
 ⟨h.os,h.tape,h.output,by simpa [World.setCell] using h.size,fun i hi aA=>(Below.heap_setCell w p u i (by
  rintro rfl;rcases hp with hp|hp
  ·exact aA (by rw[hp])
  ·omega)).trans (h.block i hi aA)⟩
theorem Af{a w:World}(h:Below a.heap.size a w)(r:Option Nat):a.grownBy w r:=⟨h.os,h.tape,h.output,h.size,fun i hi _=>h.block i hi⟩
theorem Me{a w:World}{r:Option Nat}(h:a.grownBy w r)(o:Obj):a.grownBy (w.alloc o) r:=
 Ag h (World.grownBy_alloc w o r)
theorem Cv{a w w':World}{r r':Option Nat}(h:a.grownBy w r)(hg:w.grownBy w' r')(hr:∀k,r'=some k→a.heap.size≤k):a.grownBy w' r:=
 ⟨hg.os.trans h.os,hg.tape.trans h.tape,hg.output.trans h.output,Nat.le_trans h.size hg.size,fun i hi hn=>(hg.block i (Nat.lt_of_lt_of_le hi h.size) (fun e=>by have:=hr i e.symm;omega)).trans (h.block i hi hn)⟩
theorem Cw{a w:World}{g:Nat}(h:a.grownBy w (some g)){B:Nat}(hB:B≤g)(ha:B≤a.heap.size):Below B a w:=
 ⟨h.os,h.tape,h.output,h.size,fun i hi=>h.block i (by omega) (by simp;omega)⟩
theorem zFi{W w1:World}(hb:Below W.heap.size W w1):(∀b o,b<W.heap.size→w1.cell? ⟨b,o,none⟩=W.cell? ⟨b,o,none⟩)∧(∀b o,b<W.heap.size→w1.frozen? ⟨b,o,none⟩=W.frozen? ⟨b,o,none⟩):=
 ⟨fun b o h=>hb.cell (p:=⟨b,o,none⟩) h,fun b o h=>hb.frozen (p:=⟨b,o,none⟩) h⟩
theorem SI.of_own{w:World}{base:Nat}{e:TypeId}{v:Value}{l:List Int}(h:w.ownsRow base e 1 v l.length (l.map (Value.int .i64)))(hr:∀x∈l,At x):SI w v l:=by
 rcases h.2 with⟨rfl,hn⟩|⟨g,aA,cur,rfl,hb,hg,aC,aB,hcs,htake⟩
 ·have:l=[]:=List.eq_nil_of_length_eq_zero hn;subst this;exact⟨none,0,rfl,Zl _,by omega,hr,fun h=>by simp at h⟩
 ·refine⟨_,aA,rfl,aC,by simpa [maxLen] using aB,hr,fun h0=>⟨g,0,rfl,(Array.getElem?_eq_some_iff.1 hg).1,fun j hj=> ?_⟩⟩
  have:=h.cellAt j (by omega);rw[Nat.zero_add,this];simp[hj]
theorem Jd(g j:Nat):(⟨g,0,none⟩:Addr).add j=⟨g,j,none⟩:=by unfold Addr.add;split<;>simp_all
theorem Ba(w:World)(cs:List Value)(t:TypeId):∀j u,cs[j]? =some u→(w.alloc (.cells cs.toArray t)).cell? ((⟨w.heap.size,0,none⟩:Addr).add j)=some u:=by
 intro j u hu;rw[Jd,Zc _ w.heap.size j cs.toArray t (0,0) (Zh w _)];simpa using hu
theorem Ae{w:World}{g:Nat}{cs:Array Value}{t:TypeId}(h:w.heap[g]? =some (.cells cs t (0,0))):g<w.heap.size:=(Array.getElem?_eq_some_iff.1 h).1
theorem Jc(n m:Int)(hm:0<m):n.tmod m=n%m∨(n<0∧0<n%m∧n.tmod m=n%m-m):=by
 rw[Int.tmod_eq_emod];split
 ·left;omega
 ·rename_i h;right;have h1:0≤n%m:=Int.emod_nonneg n (by omega);have h2:n%m≠0:=fun e=>h (.inr (Int.dvd_of_emod_eq_zero e))
  refine⟨by omega,by omega,?_⟩;omega
theorem Vm(n m:Int)(hm:0<m): -m<n.tmod m∧n.tmod m<m:=by
 have h1:0≤n%m:=Int.emod_nonneg n (by omega);have h2:n%m<m:=Int.emod_lt_of_pos n hm;rcases Jc n m hm with h|⟨_,_,h⟩<;>omega
theorem zBv(n m:Int)(hm:0<m):(n.tmod m+m).tmod m=n%m:=by
 have h1:0≤n%m:=Int.emod_nonneg n (by omega);have h2:n%m<m:=Int.emod_lt_of_pos n hm;rcases Jc n m hm with h|⟨_,_,h⟩
 ·rw[h,Int.tmod_eq_emod_of_nonneg (by omega),Int.add_emod_right,Int.emod_emod_of_dvd _ (Int.dvd_refl m)]
 ·rw[h,show n%m-m+m=n%m by omega,Int.tmod_eq_emod_of_nonneg h1,Int.emod_emod_of_dvd _ (Int.dvd_refl m)]
open Go.RowKit
def SG{α:Type}(enc:α→List Int)(sz:Nat)(B:Nat)(w:World)(v:Value)(l:List α):Prop:=
 ∃A c,v= .slice A l.length c∧l.length≤c∧c≤9223372036854775807∧(∀x∈l,∀y∈enc x,At y)∧
  (0<l.length→∃b off,A=some ⟨b,off,none⟩∧b<B∧∀j (h:j<l.length) i,i<sz→w.cell? ⟨b,off+(j*sz+i),none⟩=(enc l[j])[i]?.map (Value.int .i64))
section
variable {α:Type} {enc:α→List Int} {sz:Nat}
theorem SG.keep{B:Nat}{w w':World}{v:Value}{l:List α}(h:SG enc sz B w v l)(hk:∀p:Addr,p.block<B→w'.cell? p=w.cell? p):SG enc sz B w' v l:=by
 obtain⟨A,c,rfl,hc,hm,hr,ha⟩:=h;refine⟨A,c,rfl,hc,hm,hr,fun h0=> ?_⟩
 obtain⟨b,aB,rfl,hb,aA⟩:=ha h0;exact⟨b,aB,rfl,hb,fun j hj i hi=>(hk _ hb).trans (aA j hj i hi)⟩
theorem SG.more{B B':Nat}{w:World}{v:Value}{l:List α}(h:SG enc sz B w v l)(hB:B≤B'):SG enc sz B' w v l:=by
 obtain⟨A,c,rfl,hc,hm,hr,ha⟩:=h;refine⟨A,c,rfl,hc,hm,hr,fun h0=> ?_⟩
 obtain⟨b,aB,rfl,hb,aA⟩:=ha h0;exact⟨b,aB,rfl,by omega,aA⟩
theorem SG.below{B:Nat}{w w':World}{v:Value}{l:List α}(h:SG enc sz B w v l)(hb:Below B w w'):SG enc sz B w' v l:=h.keep fun _ hp=>hb.cell hp
end
theorem Qg{α β:Type}(enc:α→List β)(sz:Nat)(l:List α)(hl:∀x∈l,(enc x).length=sz)(j:Nat)(hj:j<l.length)(i:Nat)(hi:i<sz):(l.flatMap enc)[j*sz+i]? =(enc l[j])[i]? :=by
 induction l generalizing j with
 |nil=>simp at hj
 |cons x l ih=>
  simp only[List.flatMap_cons];have hx:(enc x).length=sz:=hl x (by simp)
  cases j with
  |zero=>simp only[Nat.zero_mul,Nat.zero_add,List.getElem_cons_zero];rw[List.getElem?_append_left (by omega)]
  |succ j=>
   rw[List.getElem?_append_right (by rw[hx,Nat.add_mul];omega)];rw[show (j+1)*sz+i- (enc x).length=j*sz+i by rw[hx,Nat.add_mul];omega];rw[ih (fun y hy=>hl y (by simp[hy])) j (by simpa using hj)]
   simp
theorem SG.of_own{α:Type}{enc:α→List Int}{sz:Nat}{w:World}{base:Nat}{e:TypeId}{v:Value}{l:List α}(h:w.ownsRow base e sz v l.length ((l.flatMap enc).map (Value.int .i64)))
  (hr:∀x∈l,∀y∈enc x,At y) (hl:∀x∈l,(enc x).length=sz):SG enc sz w.heap.size w v l:=by
 rcases h.2 with⟨rfl,hn⟩|⟨g,aA,cur,rfl,hb,hg,aC,aB,hcs,htake⟩
 ·have:l=[]:=List.eq_nil_of_length_eq_zero hn;subst this;exact⟨none,0,rfl,Zl _,by omega,hr,fun h=>by simp at h⟩
 ·refine⟨_,aA,rfl,aC,by simpa [maxLen] using aB,hr,fun h0=>⟨g,0,rfl,Ae hg,fun j hj i hi=> ?_⟩⟩
  have:=h.cellAt (j*sz+i) (by
   have:j*sz+sz≤l.length*sz:=by rw[←Nat.succ_mul];exact Nat.mul_le_mul_right _ hj
   omega)
  rw[Nat.zero_add,this,List.getElem?_map,Qg enc sz l hl j hj i hi]
def pcs(p:Int×Int):List Int:=[p.1,p.2]
open Go.RowKit
theorem Lh(n k:Int)(w:World)(hk:0<k)(hk2:k≤4611686018427387904):
  Calls Tryz.prog 34 #[.int .i64 n,.int .i64 k] w fun e w'=>e= .returned (.int .i64 (n%k))∧w=w':=by
 have hb:=Vm n k hk;have hne:(k==0)=false:=by simp;omega
 go_enter Tryz.func34,Tryz.ntmps34;go_wp2
 go_ret;refine⟨Lp ?_,rfl⟩;have:=zBv n k hk;rw[Int.tmod_eq_emod_of_nonneg (by omega)] at this;exact this
theorem zCw(l:List Int)(v:Value)(w:World)(h:SI w v l):
  Calls Tryz.prog 11 #[v] w fun e w'=>e= .returned (.bool (decide (l.length≤500)))∧w=w':=by
 obtain⟨A,c,rfl,hc,hm,hr,ha⟩:=h;go_enter Tryz.func11,Tryz.ntmps11;go_wp2
 go_ret;exact⟨Cs (by simp;omega),rfl⟩
def Dk(w:World)(g:Nat):Prop:=
 ∃L lv,∃k:Nat,w.heap[g]? =some (.cells #[lv,.int .i64 k] 82 (0,0))∧k≤L.length∧SB g w lv L
theorem Dk.lt{w:World}{g:Nat}(h:Dk w g):g<w.heap.size:=by obtain⟨L,lv,k,hg,_⟩:=h;exact Ae hg
theorem Dk.of{w w':World}{g:Nat}(h:Dk w g)(hb:∀i,i≤g→w'.heap[i]? =w.heap[i]?):Dk w' g:=by
 obtain⟨L,lv,k,hg,hk,hl⟩:=h;exact⟨L,lv,k,(hb g (Zl _)).trans hg,hk,hl.keep fun p hp=>World.cell?_of_block (hb p.block (by omega))⟩
theorem Dk.below{w w':World}{g:Nat}(h:Dk w g)(hb:Below w.heap.size w w'):Dk w' g:=h.of fun i hi=>hb.block i (by have:=h.lt;omega)
theorem Dk.grown{w w':World}{g:Nat}{r:Option Nat}(h:Dk w g)(hb:w.grownBy w' r)(hr:∀k,r=some k→g<k):Dk w' g:=
 h.of fun i hi=>hb.block i (by have:=h.lt;omega) (fun e=>by have:=hr i e.symm;omega)
theorem Dk.alloc{w:World}{g:Nat}(h:Dk w g)(o:Obj):Dk (w.alloc o) g:=h.below ((Zb _ _).alloc (Zl _) o)
theorem zEc(l:List Int)(v:Value)(w:World)(h:SI w v l):
  Calls Tryz.prog 12 #[v] w fun e w'=>e= .returned (.pointer (some ⟨w.heap.size,0,none⟩))∧Dk w' w.heap.size∧Below w.heap.size w w'∧w'.heap.size=w.heap.size+1:=by
 have h':=h;obtain⟨A,c,rfl,hc,hm,hr,ha⟩:=h;go_enter Tryz.func12,Tryz.ntmps12;go_wp2
 go_ret;exact⟨rfl,⟨l,_,0,Zh w _,Nat.zero_le _,SB.below h' ((Zb _ _).alloc (Zl _) _)⟩,(Zb _ _).alloc (Zl _) _,by simp⟩
theorem Cy(n:Int)(g:Nat)(w:World)(h:Dk w g)(hn:At n)(hn2:n≤4611686018427387904):
  Calls Tryz.prog 13 #[.pointer (some ⟨g,0,none⟩),.int .i64 n] w fun e w'=>∃x:Int,e= .returned (.int .i64 x)∧(n<1→x=0)∧(1≤n→0≤x∧x<n)∧Dk w' g∧w.grownBy w' (some g):=by
 obtain⟨L,lv,k,hg,hk,hl⟩:=h;obtain⟨A,c,rfl,hc,hm,hr,ha⟩:=id hl;have h0:w.cell? ⟨g,0,none⟩=some (.slice A L.length c):=by rw[Zc w g 0 _ _ _ hg];rfl
 have h1:w.cell? ⟨g,1,none⟩=some (.int .i64 k):=by rw[Zc w g 1 _ _ _ hg];rfl
 have hf:w.frozen? ⟨g,1,none⟩=false:=Zf w g 1 _ _ hg;obtain⟨hn0,hn1⟩:=hn;by_cases hlo:n<1
 ·go_enter Tryz.func13,Tryz.ntmps13;go_wp2
  go_quiet (fail)
  go_wp2
  go_ret;exact⟨0,rfl,fun _=>rfl,fun h=>by omega,⟨L,_,k,hg,hk,hl⟩,Cu (Ai _ _) _⟩
 ·by_cases hlt:k<L.length
  ·obtain⟨b,off,rfl,hb,aA⟩:=ha (by omega);have hck:=aA k hlt;have hgw:=Ae hg;have hd:decide ((L.length:Int)≤(k:Int))=false:=by simp;omega
   have HL:=Zk hl;have HG:=Zk hg;clear aA ha hr hl hg;go_enter Tryz.func13,Tryz.ntmps13;go_wp2
   go_quiet (fail)
   go_wp2
   go_quiet (fail)
   go_wp2_with (refine (Lh _ _ _ (by omega) (by omega)).mono ?_;rintro e w' ⟨rfl,rfl⟩);go_ret;have aB:0≤L[k]%n:=Int.emod_nonneg _ (by omega);have aC:L[k]%n<n:=Int.emod_lt_of_pos _ (by omega);refine⟨L[k]%n,rfl,fun h=>by omega,fun _=>⟨aB,aC⟩,⟨L,_,k+1,heap_setCell_same (w.drewN _) g 1 _ _ _ HG.out,by omega,?_⟩,Ak (Cu (Ai _ _) _) (.inl rfl) _⟩
   exact SB.grown HL.out (Ak (Cu (Ai _ _) _) (.inl rfl) _) (Zl _) (by omega)
  ·have hd:decide ((L.length:Int)≤(k:Int))=true:=by simp;omega
   go_enter Tryz.func13,Tryz.ntmps13;go_wp2
   go_quiet (fail)
   go_wp2
   go_ret;exact⟨0,rfl,fun _=>rfl,fun h=>by omega,⟨L,_,k,hg,hk,hl⟩,Cu (Ai _ _) _⟩
end Go.Proofs.YtoiabanpnkpbhaaGreatDoor
