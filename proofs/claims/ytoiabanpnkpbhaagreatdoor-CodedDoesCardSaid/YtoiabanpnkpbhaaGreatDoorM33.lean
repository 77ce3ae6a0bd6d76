/- Parts. -/
import Derived.Test.YtoiabanpnkpbhaaGreatDoorM31
import Derived.Test.YtoiabanpnkpbhaaGreatDoorM32
import Derived.Test.YtoiabanpnkpbhaaGreatDoorM29
set_option linter.unusedVariables false
set_option linter.unusedSimpArgs false
set_option maxRecDepth 100000
set_option maxHeartbeats 16000000
namespace Go.Proofs.YtoiabanpnkpbhaaGreatDoor
open Go.RowKit
open Go.RowKit
theorem zAp{a b:List Int}(ha:a.length≤512)(hb:b.length≤512):Dl [a,b]=false:=by
 unfold Dl;simp;omega
theorem zCx{P:Int}{l:List (Int×Bool)}{k:Int}(hp:prB P=true)(hl:l.length≤32)(hlP:(l.length:Int)<P)(hv:∀j (h:j<l.length),l[j].2=true→0≤l[j].1∧l[j].1<P)(hk1:1≤k)(hk:k≤((kn l).length:Int)):fiE P l k=0:=by
 have hkl:(kn l).length≤l.length:=Ft l 0;have aB:∀t∈kn l,1≤t.1∧t.1≤(l.length:Int)∧0≤t.2∧t.2<P:=fun t ht=>by
  obtain⟨j,hj,h1,rfl⟩:=Su l t ht;have:=hv j hj h1;simp;omega
 have aC:ceE P l=0:=by
  unfold ceE;rw[hp,if_neg (by simp),if_neg (by omega),if_pos];rw[List.all_eq_true];intro t ht;have:=aB t ht;exact Ex (by omega)
 unfold fiE;rw[if_pos aC,if_neg (by omega),if_neg (by omega)];have aA:∀t∈(kn l).take k.toNat,t∈kn l:=fun t ht=>List.mem_of_mem_take ht
 have hX:els P (shX ((kn l).take k.toNat))=true:=Ce fun x hx=>by
  obtain⟨t,ht,rfl⟩:=List.mem_map.1 hx;have:=aB t (aA t ht);exact Ex (by omega)
 have hY:els P (shY ((kn l).take k.toNat))=true:=Ce fun x hx=>by
  obtain⟨t,ht,rfl⟩:=List.mem_map.1 hx;have:=aB t (aA t ht);exact Ex (by omega)
 have aD:opE P [shX ((kn l).take k.toNat),shY ((kn l).take k.toNat)]=0:=by
  refine ((Ll hp fun j hj=> ?_).2 (zAp ?_ ?_)).1
  ·match j,hj with
   |0,_=>exact hX
   |1,_=>exact hY
  ·unfold shX;rw[List.length_map,List.length_take];omega
  ·unfold shY;rw[List.length_map,List.length_take];omega
 refine (zAg aD ?_).1;have aE:=(Sq l 0);unfold shX;rw[List.Nodup,List.pairwise_map];refine List.Pairwise.imp (fun {a b} h=> ?_) (aE.sublist (List.take_sublist _ _))
 exact fun e=>by omega
theorem Uh(x:Int):∀l:List Int,ez (Bf l) x=ez l x
 |[]=>rfl
 |c::l=>by
  rw[Cp];have ih:=Uh x l;by_cases h:c=0∧Bf l=[]
  ·rw[if_pos h,Cg,←ih,h.2,h.1,Sg];simp
  ·rw[if_neg h,Cg,Cg,ih]
theorem Wx(l:List Int):Bf (Bf l)=Bf l:=by
 have h1:∀l:List Int,Bf (Bf l)=Bf l:=by
  intro l;induction l with
  |nil=>rfl
  |cons c l ih=>
   rw[Cp];by_cases h:c=0∧Bf l=[]
   ·rw[if_pos h];rfl
   ·rw[if_neg h,Cp,ih,if_neg h]
 exact h1 l
theorem Sk(P:Int)(l:List Int)(k:Nat):gd (l.map (· %P)) k=gd l k%P:=by
 unfold gd;rw[List.getElem?_map]
 cases l[k]? with
 |none=>simp
 |some y=>rfl
theorem Uu(l:List (Bool×List Int))(c:Nat):(kn (Cc l c)).length=knL l:=by
 have aA:∀(l:List (Bool×List Int)) i,(knF i (Cc l c)).length=knL l:=by
  intro l;induction l with
  |nil=>intro i;simp[Cc,knF,knL]
  |cons a l ih=>
   intro i;have e:Cc (a::l) c=(if a.1 then gd a.2 c else 0,a.1)::Cc l c:=rfl;rw[e,knF,List.length_append,ih];unfold knL
   cases h:a.1<;>simp[h];omega
 exact aA l 0
open Go.RowKit
theorem Hz{α:Type}[DecidableEq α]:∀(a b:List α),a.Nodup→(∀x∈a,x∈b)→a.length≤b.length
 |[],_,_,_=>by simp
 |x::a,b,hd,hs=>by
  have hx:x∈b:=hs x (by simp);have h1:=Hz a (b.erase x) (List.nodup_cons.1 hd).2 fun y hy=>by
   have h2:y≠x:=fun e=>(List.nodup_cons.1 hd).1 (e▸hy)
   exact (List.mem_erase_of_ne h2).2 (hs y (by simp[hy]))
  rw[List.length_erase_of_mem hx] at h1;have:0<b.length:=List.length_pos_of_mem hx;simp;omega
theorem zGv{l:List (Int×Bool)}{j:Nat}(hj:j<l.length)(hb:l[j].2=true):((j:Int)+1,l[j].1)∈kn l:=by
 have aA:∀(l:List (Int×Bool)) i j (hj:j<l.length),l[j].2=true→(((i+j:Nat):Int)+1,l[j].1)∈knF i l:=by
  intro l;induction l with
  |nil=>intro i j hj;simp at hj
  |cons c l ih=>
   intro i j hj hb;rw[knF,List.mem_append]
   cases j with
   |zero=>left;simp at hb;simp[hb]
   |succ j=>
    right;have:=ih (i+1) j (by simpa using hj) (by simpa using hb);have e:i+1+j=i+(j+1):=by omega
    rw[e] at this;simpa using this
 have:=aA l 0 j hj hb;show _∈knF 0 l;simpa using this
theorem Xb(P:Int)(l:List (Int×Bool))(p:List Int):(wrg P l p).Nodup:=by
 unfold wrg wrk;rw[List.Nodup,List.pairwise_map];exact List.Pairwise.imp (fun {a b} h e=>by omega) ((Sq l 0).sublist List.filter_sublist)
theorem Pm{P:Int}{L:List (Bool×List Int)}{c:Nat}{p:List Int}{x:Int}:x∈wrg P (Cc L c) p↔∃j,∃h:j<L.length,L[j].1=true∧x=(j:Int)+1∧val P p x≠gd L[j].2 c:=by
 constructor
 ·intro hx;obtain⟨t,ht,rfl⟩:=List.mem_map.1 hx;obtain⟨h1,h2⟩:=List.mem_filter.1 ht;obtain⟨j,hj,h3,rfl⟩:=Su _ t h1;have aA:j<L.length:=by rw[Bp] at hj;exact hj
  rw[Jf _ _ _ aA] at h3 h2;simp only at h3;refine⟨j,aA,h3,rfl,?_⟩;simp[h3] at h2;exact h2
 ·rintro⟨j,hj,h1,rfl,h2⟩;have aA:j<(Cc L c).length:=by rw[Bp];exact hj
  have h3:=zGv (l:=Cc L c) aA (by rw[Jf _ _ _ hj];exact h1);refine List.mem_map.2 ⟨_,List.mem_filter.2 ⟨h3,?_⟩,rfl⟩;rw[Jf _ _ _ hj];simp[h1];exact h2
open Go.RowKit
def hCo(rows:List (List Int))(o k c:Nat):List Int:=(List.range k).map fun i=>gd (gr rows (o+i)) c
theorem Lf(rows:List (List Int))(o k c:Nat):(hCo rows o k c).length=k:=by simp[hCo]
theorem zAa(rows:List (List Int))(o k c:Nat):hCo rows o (k+1) c=hCo rows o k c++[gd (gr rows (o+k)) c]:=by unfold hCo;rw[List.range_succ,List.map_append];rfl
theorem zGq(rows:List (List Int))(o k c i:Nat):gd (hCo rows o k c) i=if i<k then gd (gr rows (o+i)) c else 0:=by
 by_cases h:i<k
 ·rw[if_pos h,Bw (by rw[Lf];exact h)];simp[hCo]
 ·rw[if_neg h,Ee (by rw[Lf];omega)]
def hdT(P:Int)(rows:List (List Int))(j:Int)(w o k:Nat):List Int:=(List.range k).foldl (fun L i=>Bl P L 0 (j^i%P) (gr rows (o+i))) (Ay w)
theorem Fy(P:Int)(rows:List (List Int))(j:Int)(w o k:Nat):hdT P rows j w o (k+1)=Bl P (hdT P rows j w o k) 0 (j^k%P) (gr rows (o+k)):=by
 unfold hdT;rw[List.range_succ,List.foldl_append];rfl
theorem Dc(P:Int)(rows:List (List Int))(j:Int)(w o:Nat):∀k,(hdT P rows j w o k).length=w
 |0=>by simp[hdT,Ay]
 |k+1=>by rw[Fy,Bg];exact Dc ..
theorem Gj{P:Int}(hP:2≤P)(rows:List (List Int))(j:Int)(w o:Nat):∀k,els P (hdT P rows j w o k)=true
 |0=>Di hP _
 |k+1=>by rw[Fy];exact Cq hP (Gj hP rows j w o k) ..
theorem zCv(l:List Int)(y x:Int):ez (l++[y]) x=ez l x+x^l.length*y:=by rw[Iu];simp[ez]
theorem zAc{P:Int}{rows:List (List Int)}{j:Int}{w o c:Nat}(hw:∀r∈rows,r.length=w)(hc:c<w):∀k,o+k≤rows.length→P∣gd (hdT P rows j w o k) c-ez (hCo rows o k c) j
 |0,_=>by
  have:gd (Ay w) c=0:=by unfold gd Ay;rw[List.getElem?_replicate];split<;>rfl
  show P∣gd (Ay w) c-ez [] j;rw[this,Sg];exact⟨0,by simp⟩
 |k+1,h=>by
  have ih:=zAc (P:=P) (j:=j) (o:=o) hw hc k (by omega);have aA:(gr rows (o+k)).length=w:=by
   unfold gr;rw[List.getElem?_eq_getElem (show o+k<rows.length by omega)];exact hw _ (List.getElem_mem _)
  rw[Fy,zAa,Dw _ _ _ _ _ (by rw[Dc,aA];omega),if_pos (by rw[aA];omega),zCv,Lf,Nat.sub_zero];have h2:=Cl P (gd (hdT P rows j w o k) c+j^k%P*gd (gr rows (o+k)) c);have h3:=dvl (k:=gd (gr rows (o+k)) c) (Cl P (j^k));refine Bd (Int.dvd_add (Int.dvd_add h2 ih) h3) ?_;rw[Int.sub_mul];omega
def gSz(len G g:Nat):Nat:=min G (len-g*G)
def Ca(P:Int)(rows:List (List Int))(j:Int)(w G n:Nat):List (List Int):=(List.range n).map fun g=>hdT P rows j w (g*G) (gSz rows.length G g)
theorem Fx(P:Int)(rows:List (List Int))(j:Int)(w G n:Nat):(Ca P rows j w G n).length=n:=by simp[Ca]
theorem zAb(P:Int)(rows:List (List Int))(j:Int)(w G n g:Nat)(h:g<n):gr (Ca P rows j w G n) g=hdT P rows j w (g*G) (gSz rows.length G g):=by
 unfold gr Ca;rw[List.getElem?_map,List.getElem?_range h];rfl
theorem Kc{P:Int}(hP:2≤P){rows:List (List Int)}{j:Int}{w G n:Nat}:∀r∈Ca P rows j w G n,r.length=w∧els P r=true:=fun r hr=>by
 obtain⟨g,_,rfl⟩:=List.mem_map.1 hr;exact⟨Dc ..,Gj hP ..⟩
def gSl(D:List Int)(t g:Nat):List Int:=(D.drop (g*t)).take t
theorem zDf(D:List Int)(t g:Nat):(gSl D t g).length≤t:=by unfold gSl;simp;omega
def gPt(P want:Int)(D:List Int)(t G g:Nat)(j:Int):Int:=if (g:Int)=want then ((j^G%P)*val P (gSl D t g) j%P+1)%P else (j^G%P)*val P (gSl D t g) j%P
def Ds(P want:Int)(D:List Int)(t G k c:Nat):List Int:=(List.range c).map fun g=>gPt P want D t G g ((k:Int)+1)
def Db(P want:Int)(D:List Int)(t G n c:Nat):List (List Int):=(List.range n).map fun k=>Ds P want D t G k c
theorem Hd(P want:Int)(D:List Int)(t G k c:Nat):(Ds P want D t G k c).length=c:=by simp[Ds]
theorem Dn(P want:Int)(D:List Int)(t G n c:Nat):(Db P want D t G n c).length=n:=by simp[Db]
theorem Kb(P want:Int)(D:List Int)(t G k c:Nat):Ds P want D t G k (c+1)=Ds P want D t G k c++[gPt P want D t G c ((k:Int)+1)]:=by
 unfold Ds;rw[List.range_succ,List.map_append];rfl
theorem Sh(P want:Int)(D:List Int)(t G n c:Nat):Db P want D t G (n+1) c=Db P want D t G n c++[Ds P want D t G n c]:=by
 unfold Db;rw[List.range_succ,List.map_append];rfl
theorem zDe(P want:Int)(D:List Int)(t G k c m:Nat)(h:m<c):gd (Ds P want D t G k c) m=gPt P want D t G m ((k:Int)+1):=by
 unfold Ds gd;rw[List.getElem?_map,List.getElem?_range h];rfl
theorem zGl{P:Int}(hP:2≤P)(want:Int)(D:List Int)(t G g:Nat)(j:Int):0≤gPt P want D t G g j∧gPt P want D t G g j<P:=by
 unfold gPt;split
 ·exact⟨Int.emod_nonneg _ (by omega),Int.emod_lt_of_pos _ (by omega)⟩
 ·exact⟨Int.emod_nonneg _ (by omega),Int.emod_lt_of_pos _ (by omega)⟩
theorem Hc{P:Int}(hP:2≤P)(want:Int)(D:List Int)(t G k c:Nat):els P (Ds P want D t G k c)=true:=Ce fun x hx=>by
 obtain⟨g,_,rfl⟩:=List.mem_map.1 hx;exact Ex (zGl hP ..)
def dlt(want g:Nat):Int:=if g=want then 1 else 0
theorem zGm(P:Int)(want:Nat)(D:List Int)(t G g:Nat)(j:Int):P∣gPt P want D t G g j- (dlt want g+j^G*ez (gSl D t g) j):=by
 have h1:=Cl P ((j^G%P)*val P (gSl D t g) j);have h2:=dvl (k:=val P (gSl D t g) j) (Cl P (j^G));have h3:=dvr (k:=j^G) (Cl P (ez (gSl D t g) j));rw[←Kk] at h3;have h4:=Int.dvd_add (Int.dvd_add h1 h2) h3;rw[Int.sub_mul,Int.mul_sub] at h4;unfold gPt dlt;by_cases h:g=want
 ·subst h;rw[if_pos rfl,if_pos rfl];have h5:=Cl P ((j^G%P)*val P (gSl D t g) j%P+1);exact Bd (Int.dvd_add h5 h4) (by omega)
 ·rw[if_neg (by omega),if_neg h];exact Bd h4 (by omega)
def gPr(d:Int)(G:Nat)(h s:List Int):List Int:=Bk (Ew d h) (Ay G++Fu h s)
theorem zGk(d:Int)(G:Nat)(h s:List Int)(x:Int):ez (gPr d G h s) x=ez h x*(d+x^G*ez s x):=by
 unfold gPr;have e:(Ay G).length=G:=by simp[Ay]
 rw[It,Ka,Iu,Hb,e,Ov,Int.mul_add,Int.mul_left_comm,Int.mul_comm d,Int.mul_comm (x^G)];have e2:x^G*(ez h x*ez s x)=ez h x*(ez s x*x^G):=by rw[Int.mul_left_comm,Int.mul_comm (x^G)]
 omega
theorem zAs(h:List Int):(Fu h []).length≤h.length:=by
 induction h with
 |nil=>simp[Fu]
 |cons c l ih=>simp only[Fu,Ey,Fj,List.length_cons,List.length_nil];omega
theorem zDc(d:Int)(G t:Nat)(h s:List Int)(hh:h.length≤G)(hs:s.length≤t)(ht:1≤t)(hG:1≤G):(gPr d G h s).length≤2*G+t-1:=by
 unfold gPr;have e:(Ay G).length=G:=by simp[Ay]
 rw[Ey,Fj,List.length_append,e];by_cases hn:s=[]
 ·subst hn;have:=zAs h;omega
 ·rw[Mj _ _ hn];split
  ·omega
  ·omega
theorem zDd(d:Int)(G:Nat)(h s:List Int)(k:Nat)(hk:k<G):gd (gPr d G h s) k=d*gd h k:=by
 unfold gPr;have e:(Ay G).length=G:=by simp[Ay]
 rw[Lw,Lv,Fr,if_pos (by rw[e];exact hk)];have:gd (Ay G) k=0:=by unfold gd Ay;rw[List.getElem?_replicate];split<;>rfl
 rw[this];omega
def cgm(want:Nat)(D:List Int)(t G:Nat)(rows:List (List Int))(c m:Nat):List Int:=(List.range m).foldl (fun A g=>Bk A (gPr (dlt want g) G (hCo rows (g*G) (gSz rows.length G g) c) (gSl D t g))) []
theorem Ly(want:Nat)(D:List Int)(t G:Nat)(rows:List (List Int))(c m:Nat):cgm want D t G rows c (m+1)=Bk (cgm want D t G rows c m) (gPr (dlt want m) G (hCo rows (m*G) (gSz rows.length G m) c) (gSl D t m)):=by
 unfold cgm;rw[List.range_succ,List.foldl_append];rfl
theorem zGn(len G g:Nat):gSz len G g≤G:=by unfold gSz;omega
theorem Ty(want:Nat)(D:List Int){t G:Nat}(rows:List (List Int))(c:Nat)(ht:1≤t)(hG:1≤G):∀m,(cgm want D t G rows c m).length≤2*G+t-1
 |0=>by simp[cgm]
 |m+1=>by
  rw[Ly,Ey];have:=Ty want D rows c ht hG m;have h2:=zDc (dlt want m) G t (hCo rows (m*G) (gSz rows.length G m) c) (gSl D t m) (by rw[Lf];exact zGn ..) (zDf ..) ht hG;omega
theorem Tz(want:Nat)(D:List Int){t G:Nat}(rows:List (List Int))(c:Nat){k:Nat}(hk:k<G):∀m,gd (cgm want D t G rows c m) k=if want<m then gd (hCo rows (want*G) (gSz rows.length G want) c) k else 0
 |0=>by simp[cgm,gd]
 |m+1=>by
  rw[Ly,Lw,zDd _ _ _ _ _ hk,Tz want D rows c hk m];unfold dlt;by_cases e:m=want
  ·subst e;simp
  ·by_cases e2:want<m
   ·have e3:want<m+1:=by omega
    simp[e2,e,e3]
   ·have e3:¬want<m+1:=by omega
    simp[e2,e,e3]
def Gc(P:Int)(want:Nat)(D:List Int)(t G:Nat)(rows:List (List Int))(c n:Nat):List Int:=Bf ((cgm want D t G rows c n).map (· %P))
theorem zFy{P:Int}(hP:2≤P)(want:Nat)(D:List Int)(t G:Nat)(rows:List (List Int))(c n:Nat):els P (Gc P want D t G rows c n)=true:=Dv (Ce fun x hx=>by
 obtain⟨y,_,rfl⟩:=List.mem_map.1 hx;exact Fq hP y)
theorem zFz(P:Int)(want:Nat)(D:List Int){t G:Nat}(rows:List (List Int))(c n:Nat)(ht:1≤t)(hG:1≤G):(Gc P want D t G rows c n).length≤2*G+t-1:=by
 refine Nat.le_trans (Da _) ?_;rw[List.length_map];exact Ty _ _ _ _ ht hG _
theorem We{P:Int}(hP:2≤P){rows:List (List Int)}(he:∀r∈rows,els P r=true)(m c:Nat):0≤gd (gr rows m) c∧gd (gr rows m) c<P:=by
 unfold gr
 cases h:rows[m]? with
 |none=>simp[gd];omega
 |some r=>exact Co (Cd hP (he r (List.mem_of_getElem? h)) c)
theorem zGa{P:Int}(hP:2≤P){want:Nat}{D:List Int}{t G:Nat}{rows:List (List Int)}{c n k:Nat}(hk:k<G)(hn:want<n)(he:∀r∈rows,els P r=true):gd (Gc P want D t G rows c n) k=gd (gr rows (want*G+k)) c:=by
 unfold Gc;rw[Pf,Sk,Tz want D rows c hk,if_pos hn,zGq];by_cases h:k<gSz rows.length G want
 ·rw[if_pos h];have:=We hP he (want*G+k) c;exact Int.emod_eq_of_lt this.1 this.2
 ·rw[if_neg h];have h2:rows.length≤want*G+k:=by unfold gSz at h;omega
  unfold gr;rw[List.getElem?_eq_none h2];simp[gd]
theorem zFh{P:Int}{want:Nat}{D:List Int}{t w G c n:Nat}{rows:List (List Int)}{j:Nat}(hw:∀r∈rows,r.length=w)(hc:c<w)(hn:n*G<rows.length+G):
  ∀m,m≤n→P∣gd (Ha P (Ds P want D t G j n) (Ca P rows ((j:Int)+1) w G n) w m) c-ez (cgm want D t G rows c m) ((j:Int)+1)
 |0,_=>by
  have:gd (Ay w) c=0:=by unfold gd Ay;rw[List.getElem?_replicate];split<;>rfl
  show P∣gd (Ay w) c-ez [] _;rw[this,Sg];exact⟨0,by simp⟩
 |m+1,h1=>by
  have ih:=zFh (P:=P) (want:=want) (D:=D) (t:=t) (j:=j) hw hc hn m (by omega);have hg:m*G≤rows.length:=by
   have:(m+1)*G≤n*G:=Nat.mul_le_mul_right _ h1;rw[Nat.add_mul] at this;omega
  have aA:m*G+gSz rows.length G m≤rows.length:=by unfold gSz;omega
  rw[Ht,Ly,zAb _ _ _ _ _ _ _ (by omega),zDe _ _ _ _ _ _ _ _ (by omega),Dw _ _ _ _ _ (by rw[Ep,Dc];omega),if_pos (by rw[Dc];omega),Nat.sub_zero,It,zGk];have k2:=Cl P (gd (Ha P (Ds P want D t G j n) (Ca P rows ((j:Int)+1) w G n) w m) c+gPt P want D t G m ((j:Int)+1)*gd (hdT P rows ((j:Int)+1) w (m*G) (gSz rows.length G m)) c);have k3:=dvl (k:=gd (hdT P rows ((j:Int)+1) w (m*G) (gSz rows.length G m)) c) (zGm P want D t G m ((j:Int)+1));have k4:=dvr (k:=dlt want m+((j:Int)+1)^G*ez (gSl D t m) ((j:Int)+1)) (zAc (P:=P) (j:=(j:Int)+1) hw hc _ aA);generalize gPt P want D t G m ((j:Int)+1)=q at*;generalize gd (hdT P rows ((j:Int)+1) w (m*G) (gSz rows.length G m)) c=hh at*;generalize ez (hCo rows (m*G) (gSz rows.length G m) c) ((j:Int)+1)=hz at*;generalize dlt want m+((j:Int)+1)^G*ez (gSl D t m) ((j:Int)+1)=qz at*;generalize gd (Ha P (Ds P want D t G j n) (Ca P rows ((j:Int)+1) w G n) w m) c=A at*;refine Bd (Int.dvd_add (Int.dvd_add (Int.dvd_add k2 ih) k3) k4) ?_;rw[Int.sub_mul,Int.mul_sub,Int.mul_comm qz hh,Int.mul_comm qz hz];omega
theorem zGb{P:Int}{want:Nat}{D:List Int}{t w G c n:Nat}{rows:List (List Int)}{j:Nat}(hP:2≤P)(hw:∀r∈rows,r.length=w)(hc:c<w)(hn:n*G<rows.length+G):
  val P (Gc P want D t G rows c n) ((j:Int)+1)=gd (cmb P (Ds P want D t G j n) (Ca P rows ((j:Int)+1) w G n) w) c:=by
 have h1:=zFh (P:=P) (want:=want) (D:=D) (t:=t) (j:=j) hw hc hn n (Zl _);have h2:=Co (Cd hP (Fc hP (Ds P want D t G j n) (Ca P rows ((j:Int)+1) w G n) w n) c);unfold Gc cmb;rw[Fx,Kk,Uh];obtain⟨k1,hk1⟩:=h1;obtain⟨k2,hk2⟩:=Oj (P:=P) (cgm want D t G rows c n) ((j:Int)+1);have e:ez ((cgm want D t G rows c n).map (· %P)) ((j:Int)+1)=gd (Ha P (Ds P want D t G j n) (Ca P rows ((j:Int)+1) w G n) w n) c+P*(k2-k1):=by rw[Int.mul_sub];omega
 rw[e,Int.add_mul_emod_self_left];exact Int.emod_eq_of_lt h2.1 h2.2
open Go.RowKit
structure RO (C:Nat) (W:World) (v:Value) (vs:List Value) (ps:List (List Int)):Prop where
 hdr:W.ownsRow C 22 1 v vs.length vs
 len:vs.length=ps.length
 row:∀j (h:j<vs.length) (h':j<ps.length),W.ownsRow C 3 1 vs[j] ps[j].length (ps[j].map (Value.int .i64))
 apl:∀j (h:j<vs.length) b,vs[j].ownBlock=some b→v.ownBlock≠some b
theorem RO.keptR{C:Nat}{W W':World}{v:Value}{vs:List Value}{ps:List (List Int)}{row:Option Nat}(h:RO C W v vs ps)(hg:W.grownBy W' row)(hr:∀r,row=some r→∃o:Obj,W.heap[r]? =some o∧o.isCells=false):RO C W' v vs ps:=
 ⟨Ga h.hdr hg hr,h.len,fun j h1 h2=>Ga (h.row j h1 h2) hg hr,h.apl⟩
theorem RO.nil(C:Nat)(W:World):RO C W (.slice none 0 0) [] []:=⟨World.ownsRow_nil _ _ _ _,rfl,fun j h=>by simp at h,fun j h=>by simp at h⟩
theorem RO.keep{C:Nat}{W W':World}{v:Value}{vs:List Value}{ps:List (List Int)}(h:RO C W v vs ps)(hk:∀b,C≤b→b<W.heap.size→W'.heap[b]? =W.heap[b]?):RO C W' v vs ps:=
 ⟨Bu h.hdr fun b hb=>hk b (h.hdr.lt b hb).1 (h.hdr.lt b hb).2,h.len,fun j h1 h2=>Bu (h.row j h1 h2) fun b hb=>hk b ((h.row j h1 h2).lt b hb).1 ((h.row j h1 h2).lt b hb).2,h.apl⟩
theorem RO.below{C:Nat}{W W':World}{v:Value}{vs:List Value}{ps:List (List Int)}(h:RO C W v vs ps)(hb:Below W.heap.size W W'):RO C W' v vs ps:=h.keep fun b _ h2=>hb.block b h2
theorem RO.app{C g9 n cap:Nat}{W W':World}{v u:Value}{vs:List Value}{ps:List (List Int)}{l:List Int}{o:Obj}(h:RO C W v vs ps)(hu:W.ownsRow C 3 1 u l.length (l.map (Value.int .i64)))(hun:∀b,u.ownBlock=some b→v.ownBlock≠some b)
  (ho:W'.ownsRow C 22 1 (.slice (some ⟨g9,0,none⟩) n cap) (vs.length+1) (vs++[u])) (hg:(W.alloc o).grownBy W' v.ownBlock) (hat:v.ownBlock=some g9∨(W.alloc o).heap.size≤g9):RO C W' (.slice (some ⟨g9,0,none⟩) n cap) (vs++[u]) (ps++[l]):=by
 have hA:(W.alloc o).heap.size=W.heap.size+1:=by simp
 have hk:∀b,b<W.heap.size→v.ownBlock≠some b→W'.heap[b]? =W.heap[b]? ∧g9≠b:=fun b hb hn=>
  ⟨(hg.block b (by omega) fun e=>hn e.symm).trans (Below.heap_alloc _ _ _ hb),fun e=>by rcases hat with h|h;exact hn (by rw[h,e]);omega⟩
 refine⟨by simpa using ho,by simp[h.len],fun j h1 h2=> ?_,fun j h1 b hb e=> ?_⟩
 ·by_cases hj:j<vs.length
  ·have aA:j<ps.length:=by rw[←h.len];exact hj
   simp only[List.getElem_append_left hj,List.getElem_append_left aA];exact Bu (h.row j hj aA) fun b hb=>(hk b ((h.row j hj aA).lt b hb).2 (h.apl j hj b hb)).1
  ·have e1:j=vs.length:=by simp at h1;omega
   subst e1;have e2:(vs++[u])[vs.length]'h1=u:=by simp
   have e3:(ps++[l])[vs.length]'h2=l:=by simp[h.len]
   rw[e2,e3];exact Bu hu fun b hb=>(hk b (hu.lt b hb).2 (hun b hb)).1
 ·have e':g9=b:=by simpa [Value.ownBlock] using e
  by_cases hj:j<vs.length
  ·have aA:j<ps.length:=by rw[←h.len];exact hj
   rw[List.getElem_append_left hj] at hb;exact (hk b ((h.row j hj aA).lt b hb).2 (h.apl j hj b hb)).2 e'
  ·have e1:j=vs.length:=by simp at h1;omega
   subst e1;have e2:(vs++[u])[vs.length]'h1=u:=by simp
   rw[e2] at hb;exact (hk b (hu.lt b hb).2 (hun b hb)).2 e'
theorem RO.sle{C g:Nat}{W:World}{v:Value}{vs:List Value}{ps:List (List Int)}(h:RO C W v vs ps)(hg:g<C)(hr:∀p∈ps,∀x∈p,At x):SLE g W v ps:=by
 have hl:=h.len;rcases h.hdr.2 with⟨e,hn⟩|⟨b,aB,cur,e,hb,aD,hnc,aC,hcs,htake⟩
 ·have:ps=[]:=List.eq_nil_of_length_eq_zero (by omega);subst this;rw[e];exact⟨none,0,rfl,Zl _,by omega,fun h=>by simp at h⟩
 ·have ho:=h.hdr;rw[e] at ho⊢;rw[hl];refine⟨some ⟨b,0,none⟩,aB,rfl,by omega,by simpa [maxLen] using aC,fun h0=>⟨b,0,rfl,(Array.getElem?_eq_some_iff.1 aD).1,by omega,fun j hj=> ?_⟩⟩
  have aA:j<vs.length:=by omega
  have h1:=ho.cellAt j (by omega);have h3:SE g W vs[j] ps[j]:=SE.of_own (h.row j aA hj) (fun x hx=>hr _ (List.getElem_mem hj) x hx) hg
  obtain⟨B',d,e5⟩:=h3.form;rw[Nat.zero_add];rw[List.getElem?_eq_getElem aA,e5] at h1;rw[e5] at h3;exact⟨B',d,h1,h3⟩
open Go.RowKit
theorem al4g(w:World)(o1 o2 o3 o4:Obj):Hid (Below w.heap.size w ((((w.alloc o1).alloc o2).alloc o3).alloc o4))∧((((w.alloc o1).alloc o2).alloc o3).alloc o4).heap.size=w.heap.size+4∧Hid (((((w.alloc o1).alloc o2).alloc o3).alloc o4).heap[w.heap.size]? =some o1)∧Hid (((((w.alloc o1).alloc o2).alloc o3).alloc o4).heap[w.heap.size+1]? =some o2)∧Hid (((((w.alloc o1).alloc o2).alloc o3).alloc o4).heap[w.heap.size+2]? =some o3)∧Hid (((((w.alloc o1).alloc o2).alloc o3).alloc o4).heap[w.heap.size+3]? =some o4):=by
 have h1:=Zh w o1;have h2:=Zh (w.alloc o1) o2;have h3:=Zh ((w.alloc o1).alloc o2) o3;have h4:=Zh (((w.alloc o1).alloc o2).alloc o3) o4;have s1:(w.alloc o1).heap.size=w.heap.size+1:=by simp
 have s2:((w.alloc o1).alloc o2).heap.size=w.heap.size+2:=by simp
 have s3:(((w.alloc o1).alloc o2).alloc o3).heap.size=w.heap.size+3:=by simp
 rw[s1] at h2;rw[s2] at h3;rw[s3] at h4;have b4:=fun k (hk:k<w.heap.size+3)=>Below.heap_alloc (((w.alloc o1).alloc o2).alloc o3) o4 k (by omega)
 have b3:=fun k (hk:k<w.heap.size+2)=>Below.heap_alloc ((w.alloc o1).alloc o2) o3 k (by omega)
 have b2:=fun k (hk:k<w.heap.size+1)=>Below.heap_alloc (w.alloc o1) o2 k (by omega)
 refine⟨((((Zb _ w).alloc (Zl _) _).alloc (by simp) _).alloc (by simp;omega) _).alloc (by simp;omega) _,by simp,?_,?_,?_,h4⟩
 ·exact (b4 _ (by omega)).trans ((b3 _ (by omega)).trans ((b2 _ (by omega)).trans h1))
 ·exact (b4 _ (by omega)).trans ((b3 _ (by omega)).trans h2)
 ·exact (b4 _ (by omega)).trans h3
def Gq1(P:Int)(want:Nat)(D:List Int)(t G n m:Nat)(w3:World)(v iv:Value)(wr:World):Prop:=
 ∃(k:Nat) (pv:Value) (vs:List Value) (rows:List (List Int)),pv=v∧k≤n∧iv= .int .i64 ((k:Int)+1)∧rows=Db P want D t G k m∧RO w3.heap.size wr pv vs rows∧Below w3.heap.size w3 wr
def Gq2(P:Int)(want:Nat)(D:List Int)(t G k m:Nat)(wq:World)(v iv:Value)(wr:World):Prop:=
 ∃(q:Nat) (pv:Value) (ms:List Int),pv=v∧q≤m∧iv= .int .i64 q∧ms=Ds P want D t G k q∧wr.ownsRow wq.heap.size 3 1 pv ms.length (ms.map (Value.int .i64))∧Below wq.heap.size wq wr
theorem Ji(P:Int)(n t G m K want nl an:Nat)(l ns:List Int)(v:Value)(w:World)(hV:SV P n t G)(hm:1≤m∧m≤1024)(hwant:want<m)(hnl:l.length=nl)(hds:dsE l an P K=0)(bA:(l.drop an).take K=ns)(hns:ns.length=K)(hK:K=m*t)(hel:els P ns=true)(h:SI w v l):
  Calls Tryz.prog 22 #[.agg #[.int .i64 P],.agg #[.int .i64 n,.int .i64 t,.int .i64 G],.int .i64 m,.int .i64 want,.agg #[v,.int .i64 an]] w fun e w'=>∃Aq cq A2 c2,e= .returned (.tuple #[.slice Aq n cq,.agg #[.slice A2 nl c2,.int .i64 ((an:Int)+K)],.int .i64 0])∧Below w.heap.size w w'∧(∀g,g<w.heap.size→SLE g w' (.slice Aq n cq) (Db P want ns t G n m))∧SI w' (.slice A2 nl c2) l:=by
 have HV:=Zk hV;have aE:=hV.pb;have hn:=hV.n10;have hnP:=hV.nP;have ht1:=hV.t1;have hG1:=hV.G1;have hsum:=hV.sum;have HS:=Zk h;have cV:Hid (∀x∈l,At x):=Zk (by obtain⟨_,_,_,_,_,hr,_⟩:=h;exact hr);have cK:=Zk hel;have bQ:=Zk hns;have bD:=Zk hnl;have dS:=Zk bA;obtain⟨A,cc,ev⟩:=h.form';rw[hnl] at ev;subst ev;have dA:((m:Int)*(t:Int))=(K:Int):=by rw[hK,Int.natCast_mul]
 have hKb:K≤10240:=by rw[hK];exact Nat.mul_le_mul hm.2 (show t≤10 by omega)
 have hKw:IntKind.i64.wrap ((m:Int)*(t:Int))=(K:Int):=by rw[dA];exact Zi _ (by omega)
 have cO:Hid (∀q,q<m→q*t+t≤K):=Zk (fun q hq=>by
  rw[hK];have h1:=Nat.mul_le_mul_right t (show q+1≤m by omega);rw[Nat.add_mul] at h1;omega)
 have cJ:=Zk hds;clear hK dA hV h hel hns hnl hds bA;go_enter Tryz.func22,Tryz.ntmps22;go_upto_region 1 with fail
 obtain⟨wa,ew⟩:∃wa:World,wa=(((w.alloc (.cells #[.int .i64 P] 31)).alloc (.cells #[.int .i64 n,.int .i64 t,.int .i64 G] 29)).alloc (.cells #[.slice A nl cc,.int .i64 an] 45)).alloc (.cells #[.slice none 0 0,.int .i64 0] 45):=⟨_,rfl⟩;obtain⟨cH,eQ,HF,HN,HT,HR⟩:Hid (Below w.heap.size w wa)∧wa.heap.size=w.heap.size+4∧Hid (wa.heap[w.heap.size]? =some (.cells #[.int .i64 P] 31 (0,0)))∧Hid (wa.heap[w.heap.size+1]? =some (.cells #[.int .i64 n,.int .i64 t,.int .i64 G] 29 (0,0)))∧Hid (wa.heap[w.heap.size+2]? =some (.cells #[.slice A nl cc,.int .i64 an] 45 (0,0)))∧Hid (wa.heap[w.heap.size+3]? =some (.cells #[.slice none 0 0,.int .i64 0] 45 (0,0))):=by
  rw[ew];exact al4g w _ _ _ _
 rw[←ew];clear ew;obtain⟨F,hF⟩:∃F,w.heap.size=F:=⟨_,rfl⟩;have bC:=Zk hF;rw[hF] at HF HN HT HR eQ⊢;clear hF;have aU:wa.cell? ⟨F,0,none⟩=some (.int .i64 P):=Zc wa F 0 _ _ _ HF.out;have aN:wa.cell? ⟨F+1,0,none⟩=some (.int .i64 n):=Zc wa (F+1) 0 _ _ _ HN.out;have aD:wa.cell? ⟨F+1,1,none⟩=some (.int .i64 t):=Zc wa (F+1) 1 _ _ _ HN.out;have aJ:wa.cell? ⟨F+1,2,none⟩=some (.int .i64 G):=Zc wa (F+1) 2 _ _ _ HN.out;go_wp2_with fail;(with_reducible refine (Nt P n t G m _ HV.out (by omega)).mono ?_)
 rintro e w1 ⟨rfl,aM⟩;have bM:Hid (Below w.heap.size w w1):=cH.out.trans (aM.mono cH.out.size);have cM:Hid (w1.heap[F]? =some (.cells #[.int .i64 P] 31 (0,0))):=(aM.block F (by omega)).trans HF.out;have cQ:Hid (w1.heap[F+1]? =some (.cells #[.int .i64 n,.int .i64 t,.int .i64 G] 29 (0,0))):=(aM.block (F+1) (by omega)).trans HN.out;have bV:Hid (w1.heap[F+2]? =some (.cells #[.slice A nl cc,.int .i64 an] 45 (0,0))):=(aM.block (F+2) (by omega)).trans HT.out;have eD:Hid (w1.heap[F+3]? =some (.cells #[.slice none 0 0,.int .i64 0] 45 (0,0))):=(aM.block (F+3) (by omega)).trans HR.out;have hz1:=aM.size;clear aU aN aD aJ aM;have hw1:decide ((want:Int)<0)=false:=Zd (by omega);have hw2:decide ((m:Int)≤(want:Int))=false:=Zd (by omega);have hw3:decide (m≤want)=false:=Zd (by omega);have aU:w1.cell? ⟨F,0,none⟩=some (.int .i64 P):=Zc w1 F 0 _ _ _ cM.out;have aD:w1.cell? ⟨F+1,1,none⟩=some (.int .i64 t):=Zc w1 (F+1) 1 _ _ _ cQ.out;have aV:w1.cell? ⟨F+2,0,none⟩=some (.slice A nl cc):=Zc w1 (F+2) 0 _ _ _ bV.out;have aW:w1.cell? ⟨F+2,1,none⟩=some (.int .i64 an):=Zc w1 (F+2) 1 _ _ _ bV.out;have eF:Hid (SI w1 (.slice A nl cc) l):=HS.out.below bM.out;go_wp2_with fail;(with_reducible refine (Sd l an P K _ _ eF.out (by unfold At;omega)).mono ?_)
 rintro e w2 ⟨v1,a1,v2,rfl,aA,dG,_⟩;rw[cJ.out];obtain⟨rfl,⟨dJ,cA⟩,bK⟩:=dG cJ.out;have bN:Hid (Below w.heap.size w w2):=bM.out.trans (aA.mono (by have:=bM.out.size;omega));have dU:Hid (w2.heap[F]? =some (.cells #[.int .i64 P] 31 (0,0))):=(aA.block F (by omega)).trans cM.out;have dZ:Hid (w2.heap[F+1]? =some (.cells #[.int .i64 n,.int .i64 t,.int .i64 G] 29 (0,0))):=(aA.block (F+1) (by omega)).trans cQ.out;have aT:Hid (w2.heap[F+2]? =some (.cells #[.slice A nl cc,.int .i64 an] 45 (0,0))):=(aA.block (F+2) (by omega)).trans bV.out;have eE:Hid (w2.heap[F+3]? =some (.cells #[.slice none 0 0,.int .i64 0] 45 (0,0))):=(aA.block (F+3) (by omega)).trans eD.out;have hz2:=aA.size;have bA:(l.drop ((an:Int)).toNat).take ((K:Int)).toNat=ns:=by rw[Int.toNat_natCast,Int.toNat_natCast];exact dS.out
 rw[bA,bQ.out] at bK;obtain⟨A2,k2,e2⟩:=dJ.form';rw[bD.out] at e2;subst e2;obtain⟨Ad,kd,e3⟩:=Dd bK;subst e3;rw[bD.out] at cA;have bR:=Zk cA;have bS:=Zk bK;clear aU aD aV aW dG aA dJ cA bK bA;obtain⟨aK,bX⟩:∃aK:Int,aK=(an:Int)+(K:Int):=⟨_,rfl⟩;rw[←bX];have dN:=Zk bX;clear bX;have aV:w2.cell? ⟨F+2,0,none⟩=some (.slice A nl cc):=Zc w2 (F+2) 0 _ _ _ aT.out;have aW:w2.cell? ⟨F+2,1,none⟩=some (.int .i64 an):=Zc w2 (F+2) 1 _ _ _ aT.out;have eK:w2.frozen? ⟨F+2,0,none⟩=false:=Zf w2 (F+2) 0 _ _ aT.out;have eL:w2.frozen? ⟨F+2,1,none⟩=false:=Zf w2 (F+2) 1 _ _ aT.out;obtain⟨w3,aX⟩:∃w3:World,w3=(w2.setCell ⟨F+2,0,none⟩ (.slice A2 nl k2)).setCell ⟨F+2,1,none⟩ (.int .i64 aK):=⟨_,rfl⟩;have eH:Hid ((w2.setCell ⟨F+2,0,none⟩ (.slice A2 nl k2)).setCell ⟨F+2,1,none⟩ (.int .i64 aK)=w3):=aX.symm;go_upto_region 7 with fail
 rw[eH.out];have aL:w2.grownBy w3 (some (F+2)):=by rw[aX];exact Ak (g:=F+2) (p:=⟨F+2,1,none⟩) (Ak (g:=F+2) (p:=⟨F+2,0,none⟩) (Ai _ _) (.inl rfl) _) (.inl rfl) _
 have cG:Hid (Below w.heap.size w w3):=Zk (by rw[aX];exact (bN.out.setCell (by show _≤F+2;have:=bC.out;omega) _).setCell (by show _≤F+2;have:=bC.out;omega) _);have dV:Hid (w3.heap[F]? =some (.cells #[.int .i64 P] 31 (0,0))):=Zk ((aL.block F (by omega) (by simp)).trans dU.out);have cR:Hid (w3.heap[F+1]? =some (.cells #[.int .i64 n,.int .i64 t,.int .i64 G] 29 (0,0))):=Zk ((aL.block (F+1) (by omega) (by simp)).trans dZ.out);have cX:Hid (w3.heap[F+2]? =some (.cells #[.slice A2 nl k2,.int .i64 aK] 45 (0,0))):=Zk (by show _=_;rw[aX];exact Ck _ _ aT.out);have cU:Hid (w3.heap[F+3]? =some (.cells #[.slice none 0 0,.int .i64 0] 45 (0,0))):=Zk ((aL.block (F+3) (by omega) (by simp)).trans eE.out);have hz3:=aL.size;have aQ:Hid (w3.ownsRow w1.heap.size 3 1 (.slice A2 nl k2) nl (l.map (Value.int .i64))):=Zk (Bu bR.out fun b hb=>aL.block b (bR.out.lt b hb).2 (by have:=(bR.out.lt b hb).1;simp;omega))
 have HS3:Hid (SI w3 (.slice A2 nl k2) l):=Zk (by
  have h:=aQ.out;rw[←bD.out] at h⊢;exact SI.of_own h cV.out)
 have bE:Hid (w3.ownsRow w1.heap.size 3 1 (.slice Ad K kd) K (ns.map (Value.int .i64))):=Zk (Bu bS.out fun b hb=>aL.block b (bS.out.lt b hb).2 (by have:=(bS.out.lt b hb).1;simp;omega))
 have dY:Hid (1≤K):=Zk (by have:=cO.out 0 (by omega);show 1≤K;omega);obtain⟨bd,kd',e4,hbd1,aZ⟩:=Dg bE.out dY.out;injection e4 with e4 e5 e6;subst e4 e6;have dR:Hid (∀W,Below w3.heap.size w3 W→∀lo,lo+t≤K→SI W (.slice (some ⟨bd,lo,none⟩) t (kd-lo)) ((ns.drop lo).take t)):=Zk (fun W hb lo dE=>by
  have hl:((ns.drop lo).take t).length=t:=by have:=bQ.out;simp;omega
  have eN:K≤kd∧kd≤9223372036854775807:=by
   rcases bE.out.2 with⟨e,_⟩|⟨b',eI,eJ,e,_,_,h1,h2,_⟩
   ·cases e
   ·injection e with _ _ e';subst e';exact⟨h1,by simpa [maxLen] using h2⟩
  refine⟨some ⟨bd,lo,none⟩,kd-lo,by rw[hl],by rw[hl];omega,by omega,fun x hx=>el_r aE.2 (Be cK.out x (List.mem_of_mem_drop (List.mem_of_mem_take hx))),fun _=>⟨bd,lo,rfl,Nat.lt_of_lt_of_le aZ hb.size,fun j hj=> ?_⟩⟩
  have h1:=bE.out.cellAt (lo+j) (by omega);rw[hb.cell (p:=⟨bd,lo+j,none⟩) aZ,h1];have eM:lo+j<ns.length:=by have:=bQ.out;omega
  simp[eM])
 have eN:K≤kd∧kd≤9223372036854775807:=by
  rcases bE.out.2 with⟨e,_⟩|⟨b',eI,eJ,e,_,_,h1,h2,_⟩
  ·cases e
  ·injection e with _ _ e';subst e';exact⟨h1,by simpa [maxLen] using h2⟩
 clear aX aL aV aW eK eL e5;have dW:Hid (∀g,g<w.heap.size→g<w3.heap.size):=Zk (fun g hg=>by have:=bC.out;omega)
 have aU:w3.cell? ⟨F,0,none⟩=some (.int .i64 P):=Zc w3 F 0 _ _ _ dV.out;go_wp2_with fail;have bO:Hid (∀W,Below w3.heap.size w3 W→W.cell? ⟨F+1,0,none⟩=some (.int .i64 n)∧W.cell? ⟨F+1,1,none⟩=some (.int .i64 t)∧W.cell? ⟨F+1,2,none⟩=some (.int .i64 G)):=Zk (fun W hb=>by
  have h:=(hb.block (F+1) (Ae cR.out)).trans cR.out;exact⟨Zc W (F+1) 0 _ _ _ h,Zc W (F+1) 1 _ _ _ h,Zc W (F+1) 2 _ _ _ h⟩)
 clear aU;go_loopw [17,18] (fun v iv wr=>Gq1 P want ns t G n m w3 v iv wr) (fun _ iv _=>(n+1)- (intOf iv).toNat)
 case atStart=>exact⟨0,_,[],[],rfl,Nat.zero_le _,rfl,rfl,RO.nil _ _,Zb _ _⟩
 case round=>
  obtain⟨k,pv,vs,rows,rfl,hk,rfl,aB,cC,hb⟩:=hrel;have aR:=Zk cC;have HB:=Zk hb;have bT:=Zk aB;have hvn:vs.length≤100:=by have h1:=cC.len;rw[aB,Dn] at h1;omega
  obtain⟨aN,aD,aJ⟩:=bO.out wr hb;have HZ:Hid (w3.heap.size≤wr.heap.size):=hb.size;clear cC hb aB;by_cases hlk:k<n
  ·have dk:decide ((k:Int)+1≤(n:Int))=true:=Ze (by omega);obtain⟨wq,rfl⟩:∃wq:World,wq=wr:=⟨_,rfl⟩;go_wp2_with fail;clear aN aD aJ;go_loopw [19,63] (fun v iv wr=>Gq2 P want ns t G k m wq v iv wr) (fun _ iv _=>m- (intOf iv).toNat)
   case atStart=>exact⟨0,_,[],rfl,Nat.zero_le _,rfl,rfl,World.ownsRow_nil _ _ _ _,Zb _ _⟩
   case round=>
    obtain⟨q,qv,ms,rfl,hq,rfl,bZ,bB,aA⟩:=hrel;have HO:=Zk bB;have cF:=Zk aA;have bP:=Zk bZ;have dF:ms.length=q:=by rw[bZ,Hd]
    have HML:=Zk dF;have hml':ms.length≤1024:=by omega
    have dL:wq.heap.size≤wr.heap.size:=aA.size;have aH:Hid (Below w3.heap.size w3 wr):=HB.out.trans (aA.mono HZ.out);obtain⟨aN,aD,aJ⟩:=bO.out wr aH.out;clear bB aA bZ dF;by_cases hlq:q<m
    ·have dq:decide (q<m)=true:=Ze hlq;obtain⟨lo,bG⟩:∃lo,lo=q*t:=⟨_,rfl⟩;have dE:lo+t≤K:=by rw[bG];exact cO.out q hlq
     have l1:(q:Int)*(t:Int)=(lo:Int):=by rw[bG,Int.natCast_mul]
     have l2:((q:Int)+1)*(t:Int)=((lo+t:Nat):Int):=by rw[Int.add_mul,l1];omega
     have m1:IntKind.i64.wrap ((q:Int)*(t:Int))=(lo:Int):=by rw[l1];exact Zi _ (by omega)
     obtain⟨hi,cZ⟩:∃hi,hi=lo+t:=⟨_,rfl⟩;have m2:IntKind.i64.wrap (((q:Int)+1)*(t:Int))=(hi:Int):=by rw[l2,←cZ];exact Zi _ (by omega)
     have m3:IntKind.i64.wrap ((q:Int)+1)=(q:Int)+1:=by exact Zi _ (by omega)
     have dD:0≤(k:Int)+1∧(k:Int)+1<P:=by omega
     obtain⟨aC,bH⟩:∃x,x=((k:Int)+1)^G%P:=⟨_,rfl⟩;obtain⟨vl,bI⟩:∃x,x=val P ((ns.drop lo).take t) ((k:Int)+1):=⟨_,rfl⟩;have cB:0≤aC∧aC<P:=by rw[bH];exact⟨Int.emod_nonneg _ (by omega),Int.emod_lt_of_pos _ (by omega)⟩
     have cD:0≤vl∧vl<P:=by rw[bI,Kk];exact⟨Int.emod_nonneg _ (by omega),Int.emod_lt_of_pos _ (by omega)⟩
     have cS:Hid (gPt P want ns t G q ((k:Int)+1)=if (q:Int)=(want:Int) then (aC*vl%P+1)%P else aC*vl%P):=Zk (by
      show _=_;unfold gPt gSl;rw[bH,bI,bG])
     have eC:Hid (∀W,Calls Tryz.prog 50 #[.int .i64 P,.int .i64 ((k:Int)+1),.int .i64 G] W fun e w'=>e= .returned (.int .i64 aC)∧W=w'):=Zk (fun W=>(Ny P ((k:Int)+1) G W aE dD (by omega)).mono fun e w' ⟨h1,h2⟩=>⟨by rw[h1,bH],h2⟩)
     have eG:Hid (∀W,Below w3.heap.size w3 W→Calls Tryz.prog 54 #[.int .i64 P,.slice (some ⟨bd,lo,none⟩) (hi-lo) (kd-lo),.int .i64 ((k:Int)+1)] W fun e w'=>e= .returned (.int .i64 vl)∧Below W.heap.size W w'):=Zk (fun W hb=>by
      have e7:hi-lo=t:=by omega
      rw[e7];exact (Ik P ((k:Int)+1) ((ns.drop lo).take t) _ W aE dD (Ce fun x hx=>Be cK.out x (List.mem_of_mem_drop (List.mem_of_mem_take hx))) (by simp;omega) (dR.out W hb lo dE)).mono fun e w' ⟨h1,h2⟩=>⟨by rw[h1,bI],h2⟩)
     have dP:Hid (Below w3.heap.size w3 wr.drew):=Zk (aH.out.drew);have z1:(0:Int)≤(lo:Int):=by omega
     have z2:(lo:Int)≤(hi:Int):=by omega
     have z3:(hi:Int)≤(kd:Int):=by omega
     have z4:(0:Int)≤(hi:Int):=by omega
     clear l1 l2 bG bH bI cZ;go_upto_region 18 with fail
     go_region_held3 (fun w'=>w'.cell? ⟨F+1,1,none⟩=some (.int .i64 t)∧w'.cell? ⟨F+1,2,none⟩=some (.int .i64 G)) (first|exact⟨aD,aJ⟩|go_keep)
      (first
       |(go_at_call 50;refine (eC.out _).mono ?_;rintro e9 w9 ⟨rfl,rfl⟩)
       |(go_at_call 54;refine (eG.out _ (by first|exact aH.out|exact dP.out)).mono ?_;rintro e9 w9 ⟨rfl,aO⟩;have bL:Hid (Below wr.heap.size wr w9):=Zk (⟨aO.os,aO.tape,aO.output,aO.size,aO.block⟩);obtain⟨aN,aD,aJ⟩:=bO.out w9 (aH.out.trans (bL.out.mono aH.out.size));clear aO)
       |(go_at_call 53;refine (Ef P _ _ _ aE cB cD).mono ?_;rintro e9 w9' ⟨rfl,rfl⟩))
     all_goals
      by_cases hqw:q=want
      case' pos=>
       have b1:((q:Int)==(want:Int))=true:=by rw[beq_iff_eq];omega
       have b2:(q==want)=true:=by rw[beq_iff_eq];exact hqw
       have hx:0≤aC*vl%P∧aC*vl%P<P:=⟨Int.emod_nonneg _ (by omega),Int.emod_lt_of_pos _ (by omega)⟩;obtain⟨y,ey⟩:∃y,y=(aC*vl%P+1)%P:=⟨_,rfl⟩;have HY:Hid (Ds P want ns t G k (q+1)=ms++[y]):=Zk (by
        show _=_;rw[Kb,←bP.out,cS.out,if_pos (by omega),ey])
       have eP:At y:=by
        have:0≤y∧y<P:=by rw[ey];exact⟨Int.emod_nonneg _ (by omega),Int.emod_lt_of_pos _ (by omega)⟩
        unfold At;omega
       obtain⟨x,ex⟩:∃x,x=aC*vl%P:=⟨_,rfl⟩;rw[←ex] at hx ey;first|rw[←ex]|skip
       have dT:Hid ((x+1)%P=y):=ey.symm;clear ex ey hqw;go_wp2_with fail;(with_reducible refine (Kz P x 1 _ aE hx ⟨by omega,by omega⟩).mono ?_)
       rintro e wz ⟨rfl,cE⟩;subst cE;rw[dT.out]
      case' neg=>
       have b1:((q:Int)==(want:Int))=false:=by rw[beq_eq_false_iff_ne];omega
       have b2:(q==want)=false:=by rw[beq_eq_false_iff_ne];exact hqw
       obtain⟨y,ey⟩:∃y,y=aC*vl%P:=⟨_,rfl⟩;have HY:Hid (Ds P want ns t G k (q+1)=ms++[y]):=Zk (by
        show _=_;rw[Kb,←bP.out,cS.out,if_neg (by omega),ey])
       have eP:At y:=by
        have:0≤y∧y<P:=by rw[ey];exact⟨Int.emod_nonneg _ (by omega),Int.emod_lt_of_pos _ (by omega)⟩
        unfold At;omega
       first|rw[←ey]|skip
       clear ey hqw
     all_goals
      have bF:Hid (w9.ownsRow wq.heap.size 3 1 qv ms.length (ms.map (Value.int .i64))):=Zk (Bm HO.out bL.out);have aP:Hid (Below wq.heap.size wq w9):=Zk (cF.out.trans (bL.out.mono dL));have dK:wq.heap.size≤w9.heap.size:=aP.out.size;go_wp2_with (at_builtin;refine Bh _ rfl _ _ 22 rfl wq.heap.size 3 Tryz.underlying22 Bi _ ms rfl bF.out y rfl (by omega) dK ?_;intro v3 w3z aF dB;have eB:=Zk aF;have dX:=Zk dB;clear aF dB);go_roundw
      case rel=>exact⟨q+1,_,ms++[y],rfl,by omega,by go_num,HY.out.symm,eB.out,(aP.out.alloc dK _).grown dX.out (by simp;omega) (fun b' bJ=>(bF.out.lt b' bJ).1)⟩
      case measure=>simp[intOf];omega
    ·have dq:decide (q<m)=false:=Zd hlq;have dH:q=m:=by omega
     have cP:Hid (ms=Ds P want ns t G k m):=Zk (by show _=_;rw[bP.out,dH]);have HMEL:Hid (els P ms=true):=Zk (by rw[cP.out];exact Hc aE.1 ..);obtain⟨A1,c1,e1⟩:=Dd HO.out;subst e1;have aI:Hid (RO w3.heap.size wr pv vs rows):=Zk (aR.out.below cF.out);have eA:Hid (wr.ownsRow w3.heap.size 3 1 (.slice A1 ms.length c1) ms.length (ms.map (Value.int .i64))):=Zk (Cf HO.out HZ.out);have dO:Hid (∀b',(Value.slice A1 ms.length c1).ownBlock=some b'→pv.ownBlock≠some b'):=Zk (fun b' h1 h2=>by
      have h3:=(HO.out.lt b' h1).1;have h4:=(aR.out.hdr.lt b' h2).2;omega)
     have cE:w3.heap.size≤wr.heap.size:=aH.out.size;obtain⟨n1,bY⟩:∃n1,n1=ms.length:=⟨_,rfl⟩;have cL:=Zk bY;rw[←bY] at⊢;clear bY dH hlq aN aD aJ;go_wp2_with (at_builtin;refine Bt _ rfl _ _ 33 rfl w3.heap.size 22 (.slice none 0 0) 24 Tryz.underlying33 Ev pv vs.length vs rfl (aI.out.hdr.alloc _) (.slice A1 n1 c1) rfl wr.heap.size rfl (Ba wr [.slice A1 n1 c1] 22 0 _ rfl) (by omega) (by omega) rfl (by simp;omega) ?_;intro g9 bW w9 aG dC aY;have bF:=Zk aG;have cN:=Zk dC;have dM:=Zk aY;clear aG dC aY);have bU:Hid (RO w3.heap.size w9 (.slice (some ⟨g9,0,none⟩) (vs.length+1) bW) (vs++[.slice A1 n1 c1]) (rows++[ms])):=(show Hid _ from
      aI.out.app (by rw[cL.out];exact eA.out) (by rw[cL.out];exact dO.out) bF.out cN.out (dM.out.imp id fun e=>Nat.le_of_eq e.symm))
     go_roundw
     case rel=>
      refine⟨k+1,_,_,rows++[ms],rfl,by omega,by go_num,?_,bU.out,?_⟩
      ·rw[bT.out,cP.out,Sh]
      ·exact (aH.out.alloc cE _).grown cN.out (by simp;omega) (fun b' bJ=>(aI.out.hdr.lt b' bJ).1)
     case measure=>simp[intOf];omega
  ·have dk:decide ((k:Int)+1≤(n:Int))=false:=Zd (by omega);have eO:n=k:=by omega
   have dI:vs.length=k:=by rw[aR.out.len,bT.out,Dn]
   obtain⟨A5,c5,e5⟩:=Ch aR.out.hdr;rw[dI] at e5;subst e5;have cY:Hid (wr.heap[F+2]? =some (.cells #[.slice A2 nl k2,.int .i64 aK] 45 (0,0))):=Zk ((HB.out.block (F+2) (Ae cX.out)).trans cX.out);have aS:Hid (wr.heap[F+3]? =some (.cells #[.slice none 0 0,.int .i64 0] 45 (0,0))):=Zk ((HB.out.block (F+3) (Ae cU.out)).trans cU.out);have aV:wr.cell? ⟨F+2,0,none⟩=some (.slice A2 nl k2):=Zc wr (F+2) 0 _ _ _ cY.out;have aW:wr.cell? ⟨F+2,1,none⟩=some (.int .i64 aK):=Zc wr (F+2) 1 _ _ _ cY.out;have cR0:wr.cell? ⟨F+3,0,none⟩=some (.slice none 0 0):=Zc wr (F+3) 0 _ _ _ aS.out;have cR1:wr.cell? ⟨F+3,1,none⟩=some (.int .i64 0):=Zc wr (F+3) 1 _ _ _ aS.out;have fR0:wr.frozen? ⟨F+3,0,none⟩=false:=Zf wr (F+3) 0 _ _ aS.out;have fR1:wr.frozen? ⟨F+3,1,none⟩=false:=Zf wr (F+3) 1 _ _ aS.out;have dQ:Hid (Below w.heap.size w wr):=Zk (cG.out.trans (HB.out.mono cG.out.size));clear dI hlk;subst eO;go_upto_region 24 with fail
   go_region_held3 (fun w'=>w'.cell? ⟨F+2,0,none⟩=some (.slice A2 nl k2)∧w'.cell? ⟨F+2,1,none⟩=some (.int .i64 aK)) (first|exact⟨aV,aW⟩|go_keep) (fail)
   all_goals
    go_wp2_with fail;have HW:=Ck (.slice A2 nl k2) (.int .i64 aK) aS.out;have q0:=Zc _ (F+3) 0 _ _ _ HW;have q1:=Zc _ (F+3) 1 _ _ _ HW;simp only[List.getElem?_toArray,List.getElem?_cons_zero,List.getElem?_cons_succ] at q0 q1;have hFw:w.heap.size≤F:=by have:=bC.out;omega
    have dL:=HB.out.size;have cI:Hid (Below w.heap.size w ((wr.setCell ⟨F+3,0,none⟩ (.slice A2 nl k2)).setCell ⟨F+3,1,none⟩ (.int .i64 aK))):=Zk ((dQ.out.setCell (by show _≤F+3;omega) _).setCell (by show _≤F+3;omega) _);have cW:Hid (SI ((wr.setCell ⟨F+3,0,none⟩ (.slice A2 nl k2)).setCell ⟨F+3,1,none⟩ (.int .i64 aK)) (.slice A2 nl k2) l):=Zk (by
     have h:=Bc (Bc (Bm aQ.out HB.out) (p:=⟨F+3,0,none⟩) (by show F+3<_;omega) (.slice A2 nl k2)) (p:=⟨F+3,1,none⟩) (by show F+3<_;omega) (.int .i64 aK);rw[←bD.out] at h⊢;exact SI.of_own h cV.out)
    have cT:Hid (∀g,g<w.heap.size→SLE g ((wr.setCell ⟨F+3,0,none⟩ (.slice A2 nl k2)).setCell ⟨F+3,1,none⟩ (.int .i64 aK)) (.slice A5 n c5) (Db P want ns t G n m)):=Zk (fun g hg=>by
     have h1:RO w3.heap.size ((wr.setCell ⟨F+3,0,none⟩ (.slice A2 nl k2)).setCell ⟨F+3,1,none⟩ (.int .i64 aK)) (.slice A5 n c5) vs rows:=aR.out.keep fun b' bJ _=>(Zo _ ⟨F+3,1,none⟩ b' _ (by show b'≠F+3;omega)).trans (Zo _ ⟨F+3,0,none⟩ b' _ (by show b'≠F+3;omega))
     rw[bT.out] at h1;exact h1.sle (dW.out g hg) fun p hp x hx=>by
      obtain⟨q',_,rfl⟩:=List.mem_map.1 hp;exact Ci aE.2 (Hc aE.1 ..) x hx)
    refine bodyPost_ret (v:= .tuple #[.slice A5 n c5,.agg #[.slice A2 nl k2,.int .i64 aK],.int .i64 0]) (by simp[results,Tryz.results22,go_sem,q0,q1]) rfl ⟨_,_,_,_,by rw[dN.out],?_,?_,?_⟩
    ·first|exact cI.out|exact cI.out.drew
    ·first|exact cT.out|exact fun g hg=>(cT.out g hg).below (Zb _ _).drew
    ·first|exact cW.out|exact cW.out.below (Zb _ _).drew
theorem Oq(P:Int)(n t G m K want:Nat)(ns:List Int)(v:Value)(w:World)(hV:SV P n t G)(hm:1≤m∧m≤1000)(hwant:want<m)(hns:ns.length=K)(hK:K=m*t)(hel:els P ns=true)(h:SI w v ns):
  Calls Tryz.prog 22 #[.agg #[.int .i64 P],.agg #[.int .i64 n,.int .i64 t,.int .i64 G],.int .i64 m,.int .i64 want,.agg #[v,.int .i64 0]] w fun e w'=>∃Aq cq A2 c2,e= .returned (.tuple #[.slice Aq n cq,.agg #[.slice A2 K c2,.int .i64 K],.int .i64 0])∧Below w.heap.size w w'∧(∀g,g<w.heap.size→SLE g w' (.slice Aq n cq) (Db P want ns t G n m))∧SI w' (.slice A2 K c2) ns:=by
 have hKb:K≤10240:=by have:=hV.sum;have:=hV.n10;have:=hV.G1;have:=hm.2;rw[hK];exact Nat.mul_le_mul (show m≤1024 by omega) (show t≤10 by omega)
 have h1:=Ji P n t G m K want K 0 ns ns v w hV ⟨hm.1,by omega⟩ hwant hns (by rw[←hns];exact Yd hV.pb (by omega) hel) (by rw[←hns];simp) hns hK hel h;refine h1.mono fun e w' ⟨Aq,cq,A2,c2,h2,h3⟩=>⟨Aq,cq,A2,c2,by rw[h2];simp,h3⟩
theorem Qn(P:Int)(n t G m K want g:Nat)(ns:List Int)(v:Value)(w:World)(hV:SV P n t G)(hm:1≤m∧m≤1000)(hwant:want<m)(hns:ns.length=K)(hK:K=m*t)(hel:els P ns=true)(h:SI w v ns)(hg:g<w.heap.size):
  Calls Tryz.prog 22 #[.agg #[.int .i64 P],.agg #[.int .i64 n,.int .i64 t,.int .i64 G],.int .i64 m,.int .i64 want,.agg #[v,.int .i64 0]] w fun e w'=>∃Aq cq A2 c2,e= .returned (.tuple #[.slice Aq n cq,.agg #[.slice A2 K c2,.int .i64 K],.int .i64 0])∧Below w.heap.size w w'∧SLE g w' (.slice Aq n cq) (Db P want ns t G n m)∧SI w' (.slice A2 K c2) ns:=
 (Oq P n t G m K want ns v w hV hm hwant hns hK hel h).mono fun _ _ ⟨Aq,cq,A2,c2,h1,h2,h3,h4⟩=>⟨Aq,cq,A2,c2,h1,h2,h3 g hg,h4⟩
open Go.RowKit Go.Shelf
def gqI(P n t G m want:Int)(l:List Int)(an:Int):Int:=if g2E P n t G m≠0 then g2E P n t G m else if want<0∨m≤want then 6 else dsE l an P (m*t)
def Rx(P n t G m want:Int)(l:List Int)(an:Int)(w:World)(e:Ending)(w':World):Prop:=
 ∃vq v1 a1,e= .returned (.tuple #[vq,.agg #[v1,.int .i64 a1],.int .i64 (gqI P n t G m want l an)])∧Below w.heap.size w w'∧
  (gqI P n t G m want l an=0→a1=an+m*t∧SI w' v1 l∧(∀g,g<w.heap.size→SLE g w' vq (Db P want ((l.drop an.toNat).take (m*t).toNat) t.toNat G.toNat n.toNat m.toNat)))∧
  (gqI P n t G m want l an≠0→vq= .slice none 0 0∧v1= .slice none 0 0∧a1=0)
theorem Yy{P n t G m want:Int}{l:List Int}{an:Int}(h:g2E P n t G m≠0):gqI P n t G m want l an=g2E P n t G m:=if_pos h
theorem Yx{P n t G m want:Int}{l:List Int}{an:Int}(h:g2E P n t G m=0)(hw:want<0∨m≤want):gqI P n t G m want l an=6:=by
 unfold gqI;rw[if_neg (by rw[h];simp),if_pos hw]
theorem Up{P n t G m want:Int}{l:List Int}{an:Int}(h:g2E P n t G m=0)(hw:0≤want∧want<m):gqI P n t G m want l an=dsE l an P (m*t):=by
 unfold gqI;rw[if_neg (by rw[h];simp),if_neg (by omega)]
theorem zGo{P n t G m want:Int}{l:List Int}{an:Int}(h:gqI P n t G m want l an=0):g2E P n t G m=0∧0≤want∧want<m∧dsE l an P (m*t)=0:=by
 by_cases h2:g2E P n t G m=0
 ·by_cases hw:want<0∨m≤want
  ·rw[Yx h2 hw] at h;cases h
  ·exact⟨h2,by omega,by omega,by rw[Up h2 (by omega)] at h;exact h⟩
 ·rw[Yy h2] at h;exact absurd h h2
theorem Se{l:List Int}{an n c:Int}(h:dsE l an n c=0):0≤an:=by
 unfold dsE at h;split at h
 ·cases h
 ·rename_i h1;have:tvB l an=true:=by simpa using h1
  exact (of_decide_eq_true this).2.1
theorem Ot(P n t G m want:Int)(l:List Int)(an:Int)(v:Value)(w:World)(h:SI w v l)(h0:gqI P n t G m want l an=0):
  Calls Tryz.prog 22 #[.agg #[.int .i64 P],.agg #[.int .i64 n,.int .i64 t,.int .i64 G],.int .i64 m,.int .i64 want,.agg #[v,.int .i64 an]] w (Rx P n t G m want l an w):=by
 obtain⟨h2,hw1,hw2,hd⟩:=zGo h0;obtain⟨hV,hm1,hm2⟩:=Om h2;have ha:=Se hd;have b1:=hV.t1;have b2:=hV.n2;have b3:=hV.G1;obtain⟨mn,rfl⟩:∃mn:Nat,m=mn:=⟨m.toNat,by omega⟩;obtain⟨tn,rfl⟩:∃tn:Nat,t=tn:=⟨t.toNat,by omega⟩;obtain⟨nn,rfl⟩:∃nn:Nat,n=nn:=⟨n.toNat,by omega⟩;obtain⟨Gn,rfl⟩:∃Gn:Nat,G=Gn:=⟨G.toNat,by omega⟩;obtain⟨wn,rfl⟩:∃wn:Nat,want=wn:=⟨want.toNat,by omega⟩;obtain⟨a,rfl⟩:∃a:Nat,an=a:=⟨an.toNat,by omega⟩;have hk:(mn:Int)*(tn:Int)=((mn*tn:Nat):Int):=(Int.natCast_mul mn tn).symm;have aA:=hd;rw[hk] at aA;obtain⟨e1,e2⟩:=Uc aA;rw[Int.toNat_natCast] at e1 e2;refine (Ji P nn tn Gn mn (mn*tn) wn l.length a l _ v w hV ⟨by omega,by omega⟩ (by omega) rfl aA rfl e1 rfl e2 h).mono fun e w' ⟨Aq,cq,A2,c2,h3,h4,h5,h6⟩=>⟨_,_,_,by rw[h0];exact h3,h4,fun _=>⟨by rw[hk],h6,?_⟩,fun hn=>absurd h0 hn⟩
 rw[hk,Int.toNat_natCast,Int.toNat_natCast,Int.toNat_natCast,Int.toNat_natCast,Int.toNat_natCast,Int.toNat_natCast];exact h5
theorem Ou(P n t G m want:Int)(l:List Int)(an:Int)(v:Value)(w:World)(hP:At P)(hm:At m)(h:SI w v l):
  Calls Tryz.prog 22 #[.agg #[.int .i64 P],.agg #[.int .i64 n,.int .i64 t,.int .i64 G],.int .i64 m,.int .i64 want,.agg #[v,.int .i64 an]] w (Rx P n t G m want l an w):=by
 by_cases hq:gqI P n t G m want l an=0
 ·exact Ot P n t G m want l an v w h hq
 have aM:=Zk hq;have HS:=Zk h;obtain⟨A,cc,rfl⟩:=h.form';clear h hq;obtain⟨n0,aX⟩:∃n0,n0=l.length:=⟨_,rfl⟩;rw[←aX] at HS⊢;clear aX;go_enter Tryz.func22,Tryz.ntmps22;obtain⟨F,eF⟩:∃F,F=w.heap.size:=⟨_,rfl⟩;obtain⟨w1,aF⟩:∃w1:World,w1=(((w.alloc (.cells #[.int .i64 P] 31)).alloc (.cells #[.int .i64 n,.int .i64 t,.int .i64 G] 29)).alloc (.cells #[.slice A n0 cc,.int .i64 an] 45)).alloc (.cells #[.slice none 0 0,.int .i64 0] 45):=⟨_,rfl⟩;have aS:Hid ((((w.alloc (.cells #[.int .i64 P] 31)).alloc (.cells #[.int .i64 n,.int .i64 t,.int .i64 G] 29)).alloc (.cells #[.slice A n0 cc,.int .i64 an] 45)).alloc (.cells #[.slice none 0 0,.int .i64 0] 45)=w1):=aF.symm;have aG:Hid (Below w.heap.size w w1):=Zk (by rw[aF];exact ((((Zb _ w).alloc (Zl _) _).alloc (by simp) _).alloc (by simp;omega) _).alloc (by simp;omega) _);have aC:Hid (w1.heap[F]? =some (.cells #[.int .i64 P] 31 (0,0))):=Zk (by show _=_;rw[aF,eF,Below.heap_alloc _ _ _ (by simp;try omega),Below.heap_alloc _ _ _ (by simp;try omega),Below.heap_alloc _ _ _ (by simp)];exact Zh w _);have aD:Hid (w1.heap[F+1]? =some (.cells #[.int .i64 n,.int .i64 t,.int .i64 G] 29 (0,0))):=Zk (by show _=_;rw[aF,eF,Below.heap_alloc _ _ _ (by simp;try omega),Below.heap_alloc _ _ _ (by simp;try omega)];have:=Zh (w.alloc (.cells #[.int .i64 P] 31)) (.cells #[.int .i64 n,.int .i64 t,.int .i64 G] 29);simpa using this);have aB:Hid (w1.heap[F+2]? =some (.cells #[.slice A n0 cc,.int .i64 an] 45 (0,0))):=Zk (by show _=_;rw[aF,eF,Below.heap_alloc _ _ _ (by simp;try omega)];have:=Zh ((w.alloc (.cells #[.int .i64 P] 31)).alloc (.cells #[.int .i64 n,.int .i64 t,.int .i64 G] 29)) (.cells #[.slice A n0 cc,.int .i64 an] 45);simpa using this);have aA:Hid (w1.heap[F+3]? =some (.cells #[.slice none 0 0,.int .i64 0] 45 (0,0))):=Zk (by show _=_;rw[aF,eF];have:=Zh (((w.alloc (.cells #[.int .i64 P] 31)).alloc (.cells #[.int .i64 n,.int .i64 t,.int .i64 G] 29)).alloc (.cells #[.slice A n0 cc,.int .i64 an] 45)) (.cells #[.slice none 0 0,.int .i64 0] 45);simpa using this);have aW:Hid (∀W,Below w1.heap.size w1 W→W.cell? ⟨F,0,none⟩=some (.int .i64 P)∧W.cell? ⟨F+1,0,none⟩=some (.int .i64 n)∧W.cell? ⟨F+1,1,none⟩=some (.int .i64 t)∧W.cell? ⟨F+1,2,none⟩=some (.int .i64 G)∧W.cell? ⟨F+2,0,none⟩=some (.slice A n0 cc)∧W.cell? ⟨F+2,1,none⟩=some (.int .i64 an)∧W.cell? ⟨F+3,0,none⟩=some (.slice none 0 0)∧W.cell? ⟨F+3,1,none⟩=some (.int .i64 0)):=Zk (fun W hg=>by
  have bJ:=(hg.block F (Ae aC.out)).trans aC.out;have aT:=(hg.block (F+1) (Ae aD.out)).trans aD.out;have aY:=(hg.block (F+2) (Ae aB.out)).trans aB.out;have aP:=(hg.block (F+3) (Ae aA.out)).trans aA.out;exact⟨Zc W F 0 _ _ _ bJ,Zc W (F+1) 0 _ _ _ aT,Zc W (F+1) 1 _ _ _ aT,Zc W (F+1) 2 _ _ _ aT,Zc W (F+2) 0 _ _ _ aY,Zc W (F+2) 1 _ _ _ aY,Zc W (F+3) 0 _ _ _ aP,Zc W (F+3) 1 _ _ _ aP⟩)
 have hFw:w.heap.size≤F:=by omega
 have aP:F+3<w1.heap.size:=Ae aA.out;go_upto_region 1 with fail
 rw[aS.out,←eF];clear aF eF;obtain⟨x0,x1,x2,x3,x4,x5,x6,x7⟩:=aW.out w1 (Zb _ _);go_wp2_with fail;(with_reducible refine (Iw P n t G m _ hP).mono ?_)
 rintro e w2 ⟨rfl,aL⟩;have aH:=Zk aL;have aI:Hid (Below w.heap.size w w2):=Zk (aG.out.trans (aL.mono aG.out.size));have aJ:Hid (w2.heap[F+3]? =some (.cells #[.slice none 0 0,.int .i64 0] 45 (0,0))):=Zk ((aL.block (F+3) aP).trans aA.out);have bD:Hid (w2.heap[F+2]? =some (.cells #[.slice A n0 cc,.int .i64 an] 45 (0,0))):=Zk ((aL.block (F+2) (by omega)).trans aB.out);clear aL x0 x1 x2 x3 x4 x5 x6 x7;obtain⟨x0,x1,x2,x3,x4,x5,x6,x7⟩:=aW.out w2 aH.out;have g0:=Zf w2 (F+3) 0 _ _ aJ.out;have g1:=Zf w2 (F+3) 1 _ _ aJ.out;obtain⟨z,ez⟩:∃z,z=g2E P n t G m:=⟨_,rfl⟩;rw[←ez];have HZ:=Zk ez;clear ez;by_cases h0:z=0
 case' neg=>
  have HE:Hid (gqI P n t G m want l an=z):=Zk (by show _=_;rw[HZ.out];exact Yy (by rw[←HZ.out];exact h0));have d0:(z !=0)=true:=by rw[bne_iff_ne];exact h0
  clear h0;go_wp2_with fail;have h4:=Ck (.slice none 0 0) (.int .i64 0) aJ.out;have aE:=(aI.out.setCell (p:=⟨F+3,0,none⟩) (by show _≤F+3;omega) (.slice none 0 0)).setCell (p:=⟨F+3,1,none⟩) (by show _≤F+3;omega) (.int .i64 0);generalize ((w2.setCell ⟨F+3,0,none⟩ (.slice none 0 0)).setCell ⟨F+3,1,none⟩ (.int .i64 0))=wE at h4 aE⊢;have q0:=Zc wE (F+3) 0 _ _ _ h4;have q1:=Zc wE (F+3) 1 _ _ _ h4;simp at q0 q1;refine bodyPost_ret (v:= .tuple #[.slice none 0 0,.agg #[.slice none 0 0,.int .i64 0],.int .i64 z]) (by simp[results,Tryz.results22,go_sem,q0,q1]) rfl ?_;exact⟨_,_,_,by rw[HE.out],aE,fun h=>absurd h aM.out,fun _=>⟨rfl,rfl,rfl⟩⟩
 subst h0;by_cases hw:want<0∨m≤want
 ·have HE:Hid (gqI P n t G m want l an=6):=Zk (Yx HZ.out.symm hw);have hg:decide (want<0)=true∨(decide (want<0)=false∧decide (m≤want)=true):=by
   by_cases h:want<0
   ·exact .inl (Ze h)
   ·exact .inr ⟨Zd h,Ze (by omega)⟩
  clear hw;rcases hg with hg|⟨hg,hg2⟩;all_goals
   go_wp2_with fail;have h4:=Ck (.slice none 0 0) (.int .i64 0) aJ.out;have aE:=(aI.out.setCell (p:=⟨F+3,0,none⟩) (by show _≤F+3;omega) (.slice none 0 0)).setCell (p:=⟨F+3,1,none⟩) (by show _≤F+3;omega) (.int .i64 0);generalize ((w2.setCell ⟨F+3,0,none⟩ (.slice none 0 0)).setCell ⟨F+3,1,none⟩ (.int .i64 0))=wE at h4 aE⊢;have q0:=Zc wE (F+3) 0 _ _ _ h4;have q1:=Zc wE (F+3) 1 _ _ _ h4;simp at q0 q1;refine bodyPost_ret (v:= .tuple #[.slice none 0 0,.agg #[.slice none 0 0,.int .i64 0],.int .i64 6]) (by simp[results,Tryz.results22,go_sem,q0,q1]) rfl ?_;exact⟨_,_,_,by rw[HE.out],aE,fun h=>absurd h aM.out,fun _=>⟨rfl,rfl,rfl⟩⟩
 obtain⟨hV,hm1,hm2⟩:=Om HZ.out.symm;have b1:=hV.t1;have b2:=hV.n10;have b3:=hV.sum;have b4:=hV.G1;clear hV;obtain⟨mn,rfl⟩:∃mn:Nat,m=mn:=⟨m.toNat,by omega⟩;obtain⟨tn,rfl⟩:∃tn:Nat,t=tn:=⟨t.toNat,by omega⟩;obtain⟨wn,rfl⟩:∃wn:Nat,want=wn:=⟨want.toNat,by omega⟩;have bK:mn*tn≤1024*10:=Nat.mul_le_mul (by omega) (by omega);have aQ:((mn:Int)*(tn:Int))=((mn*tn:Nat):Int):=(Int.natCast_mul mn tn).symm;obtain⟨K,hK⟩:∃K,mn*tn=K:=⟨_,rfl⟩;rw[hK] at bK aQ;have hKw:IntKind.i64.wrap ((mn:Int)*(tn:Int))=(K:Int):=by rw[aQ];exact Zi _ (by omega)
 obtain⟨y,ey⟩:∃y,y=dsE l an P (K:Int):=⟨_,rfl⟩;have HY:=Zk ey;have HE:Hid (gqI P n tn G mn wn l an=y):=Zk (by show _=_;rw[Up HZ.out.symm (by omega),aQ];exact HY.out.symm);have hw1:decide ((wn:Int)<0)=false:=Zd (by omega);have hw2:decide ((mn:Int)≤(wn:Int))=false:=Zd (by omega);have hw3:decide (mn≤wn)=false:=Zd (by omega);have aU:¬y=0:=by rw[←HE.out];exact aM.out
 have dy:(y !=0)=true:=by rw[bne_iff_ne];exact aU
 have bC:Hid (Calls Tryz.prog 52 #[.agg #[.slice A n0 cc,.int .i64 an],.int .i64 P,.int .i64 (K:Int)] w2 fun e w'=>e= .returned (.tuple #[.agg #[.slice none 0 0,.int .i64 0],.slice none 0 0,.int .i64 y])∧Below w2.heap.size w2 w'):=Zk ((Vu l an P (K:Int) _ w2 (HS.out.below aI.out) (by unfold At;omega)).mono fun e w' ⟨v1,a1,v2,h1,h2,_,h4⟩=>by
  obtain⟨e1,e2,e3⟩:=h4 (by rw[←HY.out];exact aU);subst e1 e2 e3;exact⟨by rw[h1,←HY.out],h2⟩)
 clear hw hK aQ ey aU;go_wp2_with fail;(with_reducible refine bC.out.mono ?_)
 rintro e w3 ⟨rfl,aR⟩;have bA:Hid (Below w.heap.size w w3):=Zk (aI.out.trans (aR.mono aI.out.size));have hz2:=aH.out.size;have aV:Hid (w3.heap[F+3]? =some (.cells #[.slice none 0 0,.int .i64 0] 45 (0,0))):=Zk ((aR.block (F+3) (by omega)).trans aJ.out);have aN:Hid (w3.heap[F+2]? =some (.cells #[.slice A n0 cc,.int .i64 an] 45 (0,0))):=Zk ((aR.block (F+2) (by omega)).trans bD.out);clear aR x0 x1 x2 x3 x4 x5 x6 x7 g0 g1;have bH:w3.frozen? ⟨F+2,0,none⟩=false:=Zf w3 (F+2) 0 _ _ aN.out;have bI:w3.frozen? ⟨F+2,1,none⟩=false:=Zf w3 (F+2) 1 _ _ aN.out;have bF:w3.cell? ⟨F+2,0,none⟩=some (.slice A n0 cc):=Zc w3 (F+2) 0 _ _ _ aN.out;have bG:w3.cell? ⟨F+2,1,none⟩=some (.int .i64 an):=Zc w3 (F+2) 1 _ _ _ aN.out;obtain⟨w4,aO⟩:∃w4:World,w4=(w3.setCell ⟨F+2,0,none⟩ (.slice none 0 0)).setCell ⟨F+2,1,none⟩ (.int .i64 0):=⟨_,rfl⟩;have bE:Hid ((w3.setCell ⟨F+2,0,none⟩ (.slice none 0 0)).setCell ⟨F+2,1,none⟩ (.int .i64 0)=w4):=aO.symm;have aZ:w3.grownBy w4 (some (F+2)):=by rw[aO];exact Ak (g:=F+2) (p:=⟨F+2,1,none⟩) (Ak (g:=F+2) (p:=⟨F+2,0,none⟩) (Ai _ _) (.inl rfl) _) (.inl rfl) _
 have bB:Hid (Below w.heap.size w w4):=Zk (by rw[aO];exact (bA.out.setCell (by show _≤F+2;omega) _).setCell (by show _≤F+2;omega) _);have aK:Hid (w4.heap[F+3]? =some (.cells #[.slice none 0 0,.int .i64 0] 45 (0,0))):=Zk ((aZ.block (F+3) (Ae aV.out) (by simp)).trans aV.out);go_upto_region 7 with fail
 rw[bE.out];clear aO aZ bF bG bH bI;have z0:w4.cell? ⟨F+3,0,none⟩=some (.slice none 0 0):=Zc w4 (F+3) 0 _ _ _ aK.out;have z1:w4.cell? ⟨F+3,1,none⟩=some (.int .i64 0):=Zc w4 (F+3) 1 _ _ _ aK.out;have g0:=Zf w4 (F+3) 0 _ _ aK.out;have g1:=Zf w4 (F+3) 1 _ _ aK.out;go_wp2_with fail;have h4:=Ck (.slice none 0 0) (.int .i64 0) aK.out;have aE:=(bB.out.setCell (p:=⟨F+3,0,none⟩) (by show _≤F+3;omega) (.slice none 0 0)).setCell (p:=⟨F+3,1,none⟩) (by show _≤F+3;omega) (.int .i64 0);generalize ((w4.setCell ⟨F+3,0,none⟩ (.slice none 0 0)).setCell ⟨F+3,1,none⟩ (.int .i64 0))=wE at h4 aE⊢;have q0:=Zc wE (F+3) 0 _ _ _ h4;have q1:=Zc wE (F+3) 1 _ _ _ h4;simp at q0 q1;refine bodyPost_ret (v:= .tuple #[.slice none 0 0,.agg #[.slice none 0 0,.int .i64 0],.int .i64 y]) (by simp[results,Tryz.results22,go_sem,q0,q1]) rfl ?_;exact⟨_,_,_,by rw[HE.out],aE,fun h=>absurd h aM.out,fun _=>⟨rfl,rfl,rfl⟩⟩
open Go.RowKit
def Gh(P want:Int)(D:List Int)(t G n i j:Nat):List (List Int):=(List.range n).map fun k=>Ds P want D t G k (if k<j then i+1 else i)
theorem Md(P want:Int)(D:List Int)(t G n i j:Nat):(Gh P want D t G n i j).length=n:=by unfold Gh;simp
theorem Vy(P want:Int)(D:List Int)(t G n i:Nat):Gh P want D t G n i 0=Db P want D t G n i:=by
 unfold Gh Db;apply List.map_congr_left;intro k _;rw[if_neg (by omega)]
theorem Yo(P want:Int)(D:List Int)(t G n i:Nat):Gh P want D t G n i n=Db P want D t G n (i+1):=by
 unfold Gh Db;apply List.map_congr_left;intro k hk;rw[if_pos (List.mem_range.1 hk)]
theorem Si(P want:Int)(D:List Int)(t G n:Nat):Db P want D t G n 0=List.replicate n []:=by
 apply List.ext_getElem
 ·simp[Dn]
 ·intro k h1 h2;simp[Db,Ds]
theorem Yp(P want:Int)(D:List Int)(t G n i j:Nat)(h:j<(Gh P want D t G n i j).length):(Gh P want D t G n i j)[j]=Ds P want D t G j i:=by
 simp[Gh]
theorem Vx(P want:Int)(D:List Int)(t G n i j:Nat)(hj:j<n):(Gh P want D t G n i j).set j (Ds P want D t G j i++[gPt P want D t G i ((j:Int)+1)])=Gh P want D t G n i (j+1):=by
 apply List.ext_getElem
 ·simp[Md]
 ·intro k h1 h2;by_cases hk:k=j
  ·subst hk;rw[List.getElem_set_self,←Kb];simp[Gh]
  ·rw[List.getElem_set_ne (Ne.symm hk)];simp only[Gh,List.getElem_map,List.getElem_range];congr 1;by_cases h:k<j
   ·rw[if_pos h,if_pos (by omega)]
   ·rw[if_neg h,if_neg (by omega)]
def Im(want:Int)(D:List Int)(t G g:Nat):List Int:=(Ay G++gSl D t g).set 0 (if (g:Int)=want then 1 else 0)
theorem Ns(want:Int)(D:List Int)(t G g:Nat)(hG:1≤G):Im want D t G g=(if (g:Int)=want then 1 else 0)::(Ay (G-1)++gSl D t g):=by
 unfold Im;obtain⟨k,rfl⟩:∃k,G=k+1:=⟨G-1,by omega⟩;rw[show Ay (k+1)=0::Ay k from rfl,Nat.add_sub_cancel];rfl
theorem Yn{P:Int}(want:Int)(D:List Int)(t G g:Nat)(x:Int)(hG:1≤G):val P (Im want D t G g) x=gPt P want D t G g x:=by
 have hz:(Ay (G-1)).length=G-1:=by simp[Ay]
 have hx:x*x^(G-1)=x^G:=by
  rw[Int.mul_comm,←Int.pow_succ];congr 1;omega
 rw[Ns _ _ _ _ _ hG,Kk,Cg,Iu,Hb,hz,Int.zero_add,←Int.mul_assoc,hx];unfold gPt;rw[Kk,←Int.mul_emod];split
 ·rw[Int.emod_add_emod,Int.add_comm]
 ·rw[Int.zero_add]
theorem Qi(want:Int)(D:List Int)(t G g:Nat):(Im want D t G g).length=G+(gSl D t g).length:=by simp[Im,Ay]
theorem Qh{P:Int}(hP:2≤P){want:Int}{D:List Int}{t G g:Nat}(hG:1≤G)(h:els P (gSl D t g)=true):els P (Im want D t G g)=true:=by
 rw[Ns _ _ _ _ _ hG];refine Ce fun x hx=> ?_
 rcases List.mem_cons.1 hx with e|hx
 ·subst e;exact Ze (by split<;>omega)
 ·rcases List.mem_append.1 hx with e|e
  ·exact Be (Di hP _) x e
  ·exact Be h x e
theorem zEi{P:Int}{p:List Int}(h:prB P=true)(he:els P p=true)(hl:p.length≤512):opE P [p]=0:=by
 unfold opE;rw[if_neg (by rw[h];simp),if_neg (by simp[he]),if_neg];simp[Dl];omega
end Go.Proofs.YtoiabanpnkpbhaaGreatDoor
