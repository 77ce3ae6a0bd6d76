/- Parts. -/
set_option linter.unusedVariables false
set_option linter.unusedSimpArgs false
namespace Go.Proofs.YtoiabanpnkpbhaaGreatDoor
def prB(P:Int):Bool:=decide (2≤P∧P≤65521)&&(List.range 256).all fun d=> !(decide (2≤d)&&decide ((d:Int)*d≤P)&&decide (P%d=0))
theorem Bj{P:Int}(h:prB P=true):2≤P∧P≤65521:=by
 simp only[prB,Bool.and_eq_true,decide_eq_true_eq] at h;exact h.1
theorem Tc{P:Int}(h:prB P=true)(d:Nat)(h2:2≤d)(hd:(d:Int)*d≤P):P%d≠0:=by
 have hb:=Bj h;have aA:d<256:=by
  rcases Nat.lt_or_ge d 256 with h|h
  ·exact h
  ·have h3:(256:Int)*256≤(d:Int)*d:=Int.mul_le_mul (by omega) (by omega) (by omega) (by omega);omega
 simp only[prB,Bool.and_eq_true,List.all_eq_true,List.mem_range,Bool.not_eq_true',Bool.and_eq_false_iff,decide_eq_false_iff_not] at h;rcases h.2 d aA with (h3|h3)|h3
 ·omega
 ·omega
 ·exact h3
theorem zAz{P:Int}(h1:2≤P)(h2:P≤65521)(h:∀d:Nat,2≤d→(d:Int)*d≤P→P%d≠0):prB P=true:=by
 simp only[prB,Bool.and_eq_true,decide_eq_true_eq,List.all_eq_true,List.mem_range,Bool.not_eq_true',Bool.and_eq_false_iff,decide_eq_false_iff_not];refine⟨⟨h1,h2⟩,fun d _=> ?_⟩
 by_cases a:2≤d
 ·by_cases b:(d:Int)*d≤P
  ·exact .inr (h d a b)
  ·exact .inl (.inr b)
 ·exact .inl (.inl a)
theorem Vf{P:Int}(h:P<2∨65521<P):prB P=false:=by
 cases e:prB P with
 |false=>rfl
 |true=>have:=Bj e;omega
theorem Ve{P:Int}{d:Nat}(h2:2≤d)(hd:(d:Int)*d≤P)(h:P%d=0):prB P=false:=by
 cases e:prB P with
 |false=>rfl
 |true=>exact absurd h (Tc e d h2 hd)
theorem zBa{P:Int}(h:prB P=true)(n:Nat)(hn:(n:Int)∣P):n=1∨(n:Int)=P:=by
 have hb:=Bj h;obtain⟨m,hm⟩:=hn;by_cases h1:n=1
 ·exact .inl h1
 right;have hn0:n≠0:=fun e=>by subst e;simp at hm;omega
 have hm0:0<m:=by
  rcases Int.lt_or_le 0 m with a|a
  ·exact a
  ·have:(n:Int)*m≤0:=Int.mul_nonpos_of_nonneg_of_nonpos (by omega) a;omega
 obtain⟨k,rfl⟩:∃k:Nat,m=k:=⟨m.toNat,by omega⟩;by_cases hk:k=1
 ·subst hk;rw[hm];simp
 exfalso;by_cases hc:n≤k
 ·have h3:(n:Int)*n≤P:=by rw[hm];exact Int.mul_le_mul_of_nonneg_left (by omega) (by omega)
  exact Tc h n (by omega) h3 (by rw[hm];exact Int.mul_emod_right _ _)
 ·have h3:(k:Int)*k≤P:=by rw[hm];exact Int.mul_le_mul_of_nonneg_right (by omega) (by omega)
  exact Tc h k (by omega) h3 (by rw[hm];exact Int.mul_emod_left _ _)
theorem Kh{P:Int}(h:prB P=true)(a b:Int)(hd:P∣a*b):P∣a∨P∣b:=by
 have hb:=Bj h;have hg:((Int.gcd P a:Nat):Int)∣P:=Int.gcd_dvd_left P a;rcases zBa h _ hg with e|e
 ·right;have e':Nat.Coprime P.natAbs a.natAbs:=e;have aA:P.natAbs∣a.natAbs*b.natAbs:=by rw[←Int.natAbs_mul];exact Int.natAbs_dvd_natAbs.2 hd
  exact Int.natAbs_dvd_natAbs.1 (e'.dvd_of_dvd_mul_left aA)
 ·left;rw[←e];exact Int.gcd_dvd_right P a
theorem Td{P:Int}(h:prB P=true){a b:Int}(hd:a*b%P=0):a%P=0∨b%P=0:=by
 rcases Kh h a b (Int.dvd_of_emod_eq_zero hd) with e|e
 ·exact .inl (Int.emod_eq_zero_of_dvd e)
 ·exact .inr (Int.emod_eq_zero_of_dvd e)
theorem Kg{P:Int}(h:prB P=true){a b c:Int}(hc:c%P≠0)(e:a*c%P=b*c%P):a%P=b%P:=by
 have h1:=Int.emod_eq_emod_iff_emod_sub_eq_zero.1 e;rw[←Int.sub_mul] at h1;rcases Td h h1 with h2|h2
 ·exact Int.emod_eq_emod_iff_emod_sub_eq_zero.2 h2
 ·exact absurd h2 hc
def prd(l:List Int):Int:=l.foldr (· * ·) 1
theorem zBc{l m:List Int}(h:l.Perm m):prd l=prd m:=by
 induction h with
 |nil=>rfl
 |cons x _ ih=>simp only[prd,List.foldr_cons] at*;rw[ih]
 |swap x y l=>simp only[prd,List.foldr_cons];rw[←Int.mul_assoc,←Int.mul_assoc,Int.mul_comm y x]
 |trans _ _ h1 h2=>exact h1.trans h2
theorem zBd(l:List Int):∀S:List Int,l.Nodup→(∀x∈l,x∈S)→l.length=S.length→prd l=prd S:=by
 induction l with
 |nil=>intro S _ _ hl;have:S=[]:=List.eq_nil_of_length_eq_zero (by simpa using hl.symm);rw[this]
 |cons x l ih=>
  intro S hn hs hl;have hx:x∈S:=hs x (by simp);have hp:=List.perm_cons_erase hx;rw[zBc hp];have aA:=List.nodup_cons.1 hn;have:=ih (S.erase x) aA.2 (fun y hy=>(List.mem_erase_of_ne (fun e=>by subst e;exact aA.1 hy)).2 (hs y (by simp[hy]))) (by rw[List.length_erase_of_mem hx];simp at hl;omega)
  simp only[prd,List.foldr_cons] at*;rw[this]
def Ky(n:Nat):List Int:=(List.range n).map fun i:Nat=>(i:Int)+1
theorem Rd(a P:Int)(l:List Int):prd (l.map fun x=>a*x%P)%P=a^l.length*prd l%P:=by
 induction l with
 |nil=>simp[prd]
 |cons x l ih=>
  simp only[List.map_cons,List.length_cons,Int.pow_succ];show (a*x%P)*prd (l.map fun x=>a*x%P)%P=a^l.length*a*(x*prd l)%P
  rw[Int.mul_emod,ih,Int.emod_emod_of_dvd _ (Int.dvd_refl P),←Int.mul_emod];congr 1;simp only[Int.mul_assoc,Int.mul_left_comm,Int.mul_comm]
theorem zBb{P:Int}(h:prB P=true)(n:Nat)(hn:(n:Int)<P):prd (Ky n)%P≠0:=by
 have hb:=Bj h;have aA:∀l:List Int,(∀x∈l,0<x∧x<P)→prd l%P≠0:=by
  intro l;induction l with
  |nil=>intro _;simp only[prd,List.foldr_nil];rw[Int.emod_eq_of_lt (by omega) (by omega)];omega
  |cons x l ih=>
   intro hl e;rcases Td h (a:=x) (b:=prd l) e with e|e
   ·have:=hl x (by simp);rw[Int.emod_eq_of_lt (by omega) (by omega)] at e;omega
   ·exact ih (fun y hy=>hl y (by simp[hy])) e
 apply aA;intro x hx;simp only[Ky,List.mem_map,List.mem_range] at hx;obtain⟨i,hi,rfl⟩:=hx;omega
theorem zGi{P:Int}(h:prB P=true)(a:Int)(ha:a%P≠0):a^(P.toNat-1)%P=1:=by
 have hb:=Bj h;have aA:(Ky (P.toNat-1)).length=P.toNat-1:=by simp[Ky]
 have aB:prd ((Ky (P.toNat-1)).map fun x=>a*x%P)=prd (Ky (P.toNat-1)):=by
  refine zBd _ _ ?_ ?_ (by simp)
  ·simp only[Ky,List.map_map];rw[List.nodup_iff_pairwise_ne,List.pairwise_iff_getElem];intro i j hi hj hij e;simp only[List.length_map,List.length_range] at hi hj;simp only[List.getElem_map,List.getElem_range,Function.comp] at e;rw[Int.mul_comm a,Int.mul_comm a] at e;have:=Kg h ha e;rw[Int.emod_eq_of_lt (by omega) (by omega),Int.emod_eq_of_lt (by omega) (by omega)] at this;omega
  ·intro y hy;simp only[Ky,List.map_map,List.mem_map,List.mem_range,Function.comp] at hy;obtain⟨i,hi,rfl⟩:=hy;have h1:0≤a*((i:Int)+1)%P:=Int.emod_nonneg _ (by omega);have h2:a*((i:Int)+1)%P<P:=Int.emod_lt_of_pos _ (by omega);have h3:a*((i:Int)+1)%P≠0:=fun e=>by
    rcases Td h e with e|e
    ·exact ha e
    ·rw[Int.emod_eq_of_lt (by omega) (by omega)] at e;omega
   simp only[Ky,List.mem_map,List.mem_range];exact⟨(a*((i:Int)+1)%P-1).toNat,by omega,by omega⟩
 have h1:=Rd a P (Ky (P.toNat-1));rw[aB,aA] at h1;have h2:1*prd (Ky (P.toNat-1))%P=a^(P.toNat-1)*prd (Ky (P.toNat-1))%P:=by rw[Int.one_mul];exact h1
 have h3:=Kg h (zBb h (P.toNat-1) (by omega)) h2;rw[←h3];exact Int.emod_eq_of_lt (by omega) (by omega)
def inv(P a:Int):Int:=if a%P=0 then 0 else a^(P.toNat-2)%P
theorem inv_z{P a:Int}(h:a%P=0):inv P a=0:=by unfold inv;rw[if_pos h]
theorem Ix{P:Int}(h:2≤P)(a:Int):0≤inv P a∧inv P a<P:=by
 unfold inv;split
 ·omega
 ·exact⟨Int.emod_nonneg _ (by omega),Int.emod_lt_of_pos _ (by omega)⟩
theorem Jj{P:Int}(h:prB P=true)(a:Int)(ha:a%P≠0):inv P a*a%P=1:=by
 have hb:=Bj h;have hf:=zGi h a ha;unfold inv;rw[if_neg ha,Int.mul_emod,Int.emod_emod_of_dvd _ (Int.dvd_refl P),←Int.mul_emod,←Int.pow_succ,show (P.toNat-2).succ=P.toNat-1 by omega];exact hf
theorem zAj{P:Int}(h:prB P=true){a v:Int}(ha:a%P≠0)(hv:0≤v∧v<P)(e:v*a%P=1):v=inv P a:=by
 have hb:=Bj h;have hi:=Ix hb.1 a;have:=Kg h ha (e.trans (Jj h a ha).symm);rw[Int.emod_eq_of_lt hv.1 hv.2,Int.emod_eq_of_lt hi.1 hi.2] at this;exact this
def gd(l:List Int)(k:Nat):Int:=l[k]?.getD 0
theorem Bw{l:List Int}{k:Nat}(h:k<l.length):gd l k=l[k]:=by unfold gd;rw[List.getElem?_eq_getElem h];rfl
theorem Ee{l:List Int}{k:Nat}(h:l.length≤k):gd l k=0:=by unfold gd;rw[List.getElem?_eq_none h];rfl
def el(P x:Int):Bool:=decide (0≤x∧x<P)
theorem Co{P x:Int}(h:el P x=true):0≤x∧x<P:=of_decide_eq_true h
theorem Ex{P x:Int}(h:0≤x∧x<P):el P x=true:=decide_eq_true h
theorem Fq{P:Int}(h:2≤P)(x:Int):el P (x%P)=true:=Ex ⟨Int.emod_nonneg _ (by omega),Int.emod_lt_of_pos _ (by omega)⟩
def els(P:Int)(l:List Int):Bool:=l.all (el P)
theorem Be{P:Int}{l:List Int}(h:els P l=true):∀x∈l,el P x=true:=by simpa [els] using h
theorem Ce{P:Int}{l:List Int}(h:∀x∈l,el P x=true):els P l=true:=by simpa [els] using h
theorem Cd{P:Int}(hP:2≤P){l:List Int}(h:els P l=true)(k:Nat):el P (gd l k)=true:=by
 by_cases hk:k<l.length
 ·rw[Bw hk];exact Be h _ (List.getElem_mem hk)
 ·rw[Ee (by omega)];exact Ex (by omega)
def val(P:Int)(l:List Int)(x:Int):Int:=l.foldr (fun c s=>(s*x+c)%P) 0
theorem Nf{P:Int}(h:2≤P)(l:List Int)(x:Int):0≤val P l x∧val P l x<P:=by
 cases l with
 |nil=>simp only[val,List.foldr_nil];omega
 |cons c l=>exact⟨Int.emod_nonneg _ (by omega),Int.emod_lt_of_pos _ (by omega)⟩
theorem Ru{P:Int}{l:List Int}{k:Nat}(h:k<l.length)(x:Int):val P (l.drop k) x=(val P (l.drop (k+1)) x*x+l[k])%P:=by
 rw[List.drop_eq_getElem_cons h];rfl
def Bf(l:List Int):List Int:=l.foldr (fun c t=>if c=0∧t=[] then [] else c::t) []
theorem Cp(c:Int)(l:List Int):Bf (c::l)=if c=0∧Bf l=[] then [] else c::Bf l:=rfl
theorem Gv{l:List Int}(h:∀k,gd l k=0):Bf l=[]:=by
 induction l with
 |nil=>rfl
 |cons c l ih=>
  have h0:c=0:=h 0;have h1:Bf l=[]:=ih fun k=>h (k+1)
  rw[Cp,if_pos ⟨h0,h1⟩]
theorem Ij{n:Nat}:∀{l:List Int},n≤l.length→(∀k,n≤k→gd l k=0)→(n=0∨gd l (n-1)≠0)→Bf l=l.take n:=by
 induction n with
 |zero=>intro l _ h _;rw[List.take_zero];exact Gv fun k=>h k (Nat.zero_le _)
 |succ n ih=>
  intro l hl h h1
  cases l with
  |nil=>simp at hl
  |cons c l=>
   have h2:gd (c::l) n≠0:=by
    rcases h1 with h1|h1
    ·omega
    ·exact h1
   have hr:Bf l=l.take n:=by
    cases n with
    |zero=>exact ih (by simp) (fun k hk=>h (k+1) (by omega)) (.inl rfl)
    |succ n=>exact ih (by simpa using hl) (fun k hk=>h (k+1) (by omega)) (.inr (by simpa [gd] using h2))
   rw[Cp,if_neg,hr,List.take_succ_cons];rintro⟨hc,ht⟩;rw[hr] at ht
   cases n with
   |zero=>exact h2 hc
   |succ n=>
    have:l=[]∨n+1=0:=by
     have:=congrArg List.length ht;simp at this
     cases l with
     |nil=>exact .inl rfl
     |cons=>simp at this
    rcases this with e|e
    ·subst e;simp at hl
    ·omega
theorem Da(l:List Int):(Bf l).length≤l.length:=by
 induction l with
 |nil=>simp[Bf]
 |cons c l ih=>rw[Cp];split<;>simp<;>omega
theorem Dv{P:Int}{l:List Int}(h:els P l=true):els P (Bf l)=true:=by
 induction l with
 |nil=>exact h
 |cons c l ih=>
  rw[Cp];have h':=Be h;split
  ·rfl
  ·refine Ce fun x hx=> ?_
   rcases List.mem_cons.1 hx with e|e
   ·subst e;exact h' x (by simp)
   ·exact Be (ih (Ce fun y hy=>h' y (by simp[hy]))) x e
theorem Pf(l:List Int):∀k,gd (Bf l) k=gd l k:=by
 induction l with
 |nil=>intro k;rfl
 |cons c l ih=>
  intro k;rw[Cp];split
  ·rename_i h
   cases k with
   |zero=>simp[gd,h.1]
   |succ k=>
    have:=ih k;rw[h.2] at this;simpa [gd] using this
  ·cases k with
   |zero=>rfl
   |succ k=>simpa [gd] using ih k
def Bl(P:Int)(to:List Int)(o:Nat)(x:Int)(l:List Int):List Int:=
 (List.range to.length).map fun k=>if o≤k∧k<o+l.length then (gd to k+x*gd l (k-o))%P else gd to k
theorem Bg(P:Int)(to:List Int)(o:Nat)(x:Int)(l:List Int):(Bl P to o x l).length=to.length:=by simp[Bl]
theorem Dw(P:Int)(to:List Int)(o:Nat)(x:Int)(l:List Int)(h:o+l.length≤to.length)(k:Nat):gd (Bl P to o x l) k=if o≤k∧k<o+l.length then (gd to k+x*gd l (k-o))%P else gd to k:=by
 by_cases hk:k<to.length
 ·rw[Bw (by rw[Bg];exact hk)];simp[Bl]
 ·rw[Ee (by rw[Bg];omega),if_neg (by omega),Ee (by omega)]
theorem Cb{a b:List Int}(hl:a.length=b.length)(h:∀k,k<a.length→gd a k=gd b k):a=b:=by
 apply List.ext_getElem hl;intro k h1 h2;have:=h k h1
 rwa [Bw h1,Bw h2] at this
theorem Dj(l:List Int)(i:Nat)(v:Int)(k:Nat)(hi:i<l.length):gd (l.set i v) k=if k=i then v else gd l k:=by
 unfold gd;rw[List.getElem?_set];by_cases e:i=k
 ·subst e;simp[hi]
 ·rw[if_neg e,if_neg (fun h=>e h.symm)]
theorem Fl(l:List Int)(n k:Nat):gd (l.take n) k=if k<n then gd l k else 0:=by
 unfold gd;rw[List.getElem?_take];split<;>rfl
theorem Eb(P:Int)(to:List Int)(o:Nat)(x:Int):Bl P to o x []=to:=by
 refine Cb (Bg _ _ _ _ _) fun k hk=> ?_
 rw[Bg] at hk;rw[Bw (by rw[Bg];exact hk)];simp[Bl];omega
theorem Ea(P:Int)(to:List Int)(o:Nat)(x:Int)(l:List Int)(k:Nat)(hk:k<l.length)(ho:o+l.length≤to.length):
  Bl P to o x (l.take (k+1))=(Bl P to o x (l.take k)).set (o+k) ((gd (Bl P to o x (l.take k)) (o+k)+x*l[k])%P):=by
 refine Cb (by rw[List.length_set,Bg,Bg]) fun j hj=> ?_
 rw[Bg] at hj;rw[Dj _ _ _ _ (by rw[Bg];omega),Dw _ _ _ _ _ (by rw[List.length_take];omega),Dw _ _ _ _ _ (by rw[List.length_take];omega),Dw _ _ _ _ _ (by rw[List.length_take];omega)];simp only[List.length_take];by_cases e:j=o+k
 ·subst e;rw[if_pos (by omega),if_pos rfl,if_neg (by omega),show o+k-o=k by omega,Fl,if_pos (by omega),Bw hk]
 ·rw[if_neg e];by_cases h1:o≤j∧j<o+k
  ·rw[if_pos (by omega),if_pos (by omega),Fl,Fl,if_pos (by omega),if_pos (by omega)]
  ·rw[if_neg (by omega),if_neg (by omega)]
theorem Cq{P:Int}(hP:2≤P){to:List Int}(h:els P to=true)(o:Nat)(x:Int)(l:List Int):els P (Bl P to o x l)=true:=by
 refine Ce fun y hy=> ?_
 simp only[Bl,List.mem_map,List.mem_range] at hy;obtain⟨k,hk,rfl⟩:=hy;split
 ·exact Fq hP _
 ·exact Cd hP h k
def Ay(n:Nat):List Int:=List.replicate n 0
theorem Di{P:Int}(hP:2≤P)(n:Nat):els P (Ay n)=true:=Ce fun x hx=>by
 rw[Ay,List.mem_replicate] at hx;exact Ex (by omega)
def Du(P:Int)(a b:List Int):List Int:=(List.range a.length).foldl (fun t i=>Bl P t i (gd a i) b) (Ay (a.length+b.length-1))
def Cz(P:Int)(a b:List Int)(k:Nat):List Int:=(List.range k).foldl (fun t i=>Bl P t i (gd a i) b) (Ay (a.length+b.length-1))
theorem Fh(P:Int)(a b:List Int)(k:Nat):(Cz P a b k).length=a.length+b.length-1:=by
 induction k with
 |zero=>simp[Cz,Ay]
 |succ k ih=>unfold Cz at*;rw[List.range_succ,List.foldl_append];simp only[List.foldl_cons,List.foldl_nil];rw[Bg];exact ih
theorem Hn(P:Int)(a b:List Int)(k:Nat):Cz P a b (k+1)=Bl P (Cz P a b k) k (gd a k) b:=by
 unfold Cz;rw[List.range_succ,List.foldl_append];rfl
theorem Gu{P:Int}(hP:2≤P)(a b:List Int)(k:Nat):els P (Cz P a b k)=true:=by
 induction k with
 |zero=>exact Di hP _
 |succ k ih=>rw[Hn];exact Cq hP ih _ _ _
def byN(P:Int)(s:List Int×List Int)(t:Int×Int):Int:=(t.2-val P s.1 t.1+P)%P*inv P (val P s.2 t.1)%P
def Fk(a:List Int)(n:Nat):List Int:=a++Ay (n-a.length)
def Ir(P:Int)(s:List Int×List Int)(t:Int×Int):List Int×List Int:=
 (Bl P (Fk s.1 s.2.length) 0 (byN P s t) s.2,Du P s.2 [(0-t.1+P)%P,1])
def Df(P:Int)(l:List (Int×Int)):List Int×List Int:=l.foldl (Ir P) ([],[1])
def zAi(P:Int)(l:List (Int×Int)):List Int:=Bf (Df P l).1
theorem Nw(P:Int)(l:List (Int×Int))(k:Nat)(h:k<l.length):Df P (l.take (k+1))=Ir P (Df P (l.take k)) l[k]:=by
 unfold Df;rw[List.take_succ_eq_append_getElem h,List.foldl_append];rfl
theorem Mk(P:Int)(l:List (Int×Int)):(Df P l).1.length=(if l.length=0 then 0 else l.length)∧(Df P l).2.length=l.length+1:=by
 have aA:∀(l:List (Int×Int)) (s:List Int×List Int) (n:Nat),s.1.length=n→s.2.length=n+1→(l.foldl (Ir P) s).1.length=n+l.length∧(l.foldl (Ir P) s).2.length=n+l.length+1:=by
  intro l;induction l with
  |nil=>intro s n h1 h2;exact⟨h1,h2⟩
  |cons t l ih=>
   intro s n h1 h2;simp only[List.foldl_cons,List.length_cons];have:=ih (Ir P s t) (n+1) (by simp only[Ir];rw[Bg];simp[Fk,Ay];omega) (by simp only[Ir];have:=Fh P s.2 [(0-t.1+P)%P,1] s.2.length;unfold Cz at this;unfold Du;rw[this];simp;omega);omega
 have:=aA l ([],[1]) 0 rfl rfl;unfold Df;split<;>omega
theorem Jo{P:Int}(hP:2≤P)(l:List (Int×Int)):els P (Df P l).1=true∧els P (Df P l).2=true:=by
 have aA:∀(l:List (Int×Int)) (s:List Int×List Int),els P s.1=true→els P s.2=true→els P (l.foldl (Ir P) s).1=true∧els P (l.foldl (Ir P) s).2=true:=by
  intro l;induction l with
  |nil=>intro s h1 h2;exact⟨h1,h2⟩
  |cons t l ih=>
   intro s h1 h2;refine ih _ (Cq hP ?_ _ _ _) (Gu hP _ _ _);refine Ce fun x hx=> ?_
   simp only[Fk,List.mem_append] at hx;rcases hx with hx|hx
   ·exact Be h1 x hx
   ·exact Be (Di hP _) x hx
 refine aA l _ rfl (Ce fun x hx=> ?_)
 simp at hx;subst hx;exact Ex (by omega)
def ez(l:List Int)(x:Int):Int:=l.foldr (fun c s=>c+x*s) 0
theorem Sg(x:Int):ez [] x=0:=rfl
theorem Cg(c:Int)(l:List Int)(x:Int):ez (c::l) x=c+x*ez l x:=rfl
theorem Kk{P:Int}(l:List Int)(x:Int):val P l x=ez l x%P:=by
 induction l with
 |nil=>simp[val,ez]
 |cons c l ih=>
  show (val P l x*x+c)%P=_;rw[ih,Cg,Int.add_emod,Int.mul_emod,Int.emod_emod,←Int.mul_emod,←Int.add_emod,Int.mul_comm,Int.add_comm]
def az(P:Int)(l:List Int):Prop:=∀c∈l,P∣c
theorem Ec{P c:Int}{l:List Int}:az P (c::l)↔P∣c∧az P l:=by simp[az]
def sd:List Int→Int→List Int
 |[],_=>[]
 |_::l,a=>if l=[] then [] else ez l a::sd l a
theorem zHt(l:List Int)(a:Int):(sd l a).length=l.length-1:=by
 induction l with
 |nil=>rfl
 |cons c l ih=>
  unfold sd;split
  ·rename_i h;subst h;rfl
  ·rename_i h;have:l.length≠0:=fun e=>h (List.eq_nil_of_length_eq_zero e)
   simp only[List.length_cons,ih];omega
theorem sd_ez(l:List Int)(a x:Int):ez l x=(x-a)*ez (sd l a) x+ez l a:=by
 induction l with
 |nil=>simp[ez,sd]
 |cons c l ih=>
  unfold sd;split
  ·rename_i h;subst h;simp[ez]
  ·rw[Cg,Cg,Cg,ih];rw[Int.mul_add,Int.mul_add,Int.mul_left_comm (x-a) x];have:x*ez l a=(x-a)*ez l a+a*ez l a:=by rw[←Int.add_mul];congr 1;omega
   rw[this];omega
theorem sd_az{P a:Int}{l:List Int}(h:az P (sd l a))(h0:P∣ez l a):az P l:=by
 induction l with
 |nil=>intro c hc;simp at hc
 |cons c l ih=>
  unfold sd at h;split at h
  ·rename_i e;subst e;rw[Ec];refine⟨?_,fun c hc=>by simp at hc⟩
   simpa [ez] using h0
  ·obtain⟨h1,h2⟩:=Ec.1 h;rw[Ec];refine⟨?_,ih h2 h1⟩;rw[Cg] at h0;have:=Int.dvd_sub h0 (Int.dvd_mul_of_dvd_right h1:P∣a*ez l a);have e:c+a*ez l a-a*ez l a=c:=by omega
   rwa [e] at this
theorem roots{P:Int}(hp:prB P=true):∀(X:List Int) (l:List Int),l.length≤X.length→X.Pairwise (fun a b=>¬P∣a-b)→(∀x∈X,P∣ez l x)→az P l:=by
 intro X;induction X with
 |nil=>
  intro l hl _ _;have:l=[]:=List.eq_nil_of_length_eq_zero (by simpa using hl);subst this;intro c hc;simp at hc
 |cons a X ih=>
  intro l hl hX h;rw[List.pairwise_cons] at hX;have ha:=h a (by simp);refine sd_az (a:=a) (ih (sd l a) ?_ hX.2 ?_) ha
  ·rw[zHt];simp at hl;omega
  ·intro x hx;have aA:=h x (by simp[hx]);rw[sd_ez l a x] at aA;have h1:=Int.dvd_sub aA ha;have e:(x-a)*ez (sd l a) x+ez l a-ez l a=(x-a)*ez (sd l a) x:=by omega
   rw[e] at h1;rcases Kh hp _ _ h1 with h2|h2
   ·exfalso;apply hX.1 x hx;have:=Int.dvd_neg.2 h2;have e2: -(x-a)=a-x:=by omega
    rwa [e2] at this
   ·exact h2
def Bk:List Int→List Int→List Int
 |[],m=>m
 |l,[]=>l
 |c::l,d::m=>(c+d)::Bk l m
theorem Ey(l m:List Int):(Bk l m).length=max l.length m.length:=by
 induction l generalizing m with
 |nil=>cases m<;>simp[Bk]
 |cons c l ih=>cases m with
  |nil=>simp[Bk]
  |cons d m=>simp[Bk,ih]
theorem It(l m:List Int)(x:Int):ez (Bk l m) x=ez l x+ez m x:=by
 induction l generalizing m with
 |nil=>cases m<;>simp[Bk,ez]
 |cons c l ih=>cases m with
  |nil=>simp[Bk,ez]
  |cons d m=>
   simp only[Bk,Cg,ih,Int.mul_add];omega
def Ew(a:Int)(l:List Int):List Int:=l.map (a* ·)
theorem Fj(a:Int)(l:List Int):(Ew a l).length=l.length:=by simp[Ew]
theorem Ka(a:Int)(l:List Int)(x:Int):ez (Ew a l) x=a*ez l x:=by
 induction l with
 |nil=>simp[Ew,ez]
 |cons c l ih=>
  have:Ew a (c::l)=(a*c)::Ew a l:=rfl;rw[this,Cg,Cg,ih,Int.mul_add,Int.mul_left_comm]
def Fu:List Int→List Int→List Int
 |[],_=>[]
 |c::l,m=>Bk (Ew c m) (0::Fu l m)
theorem Mj(l m:List Int)(hm:m≠[]):(Fu l m).length=if l=[] then 0 else l.length+m.length-1:=by
 have h1:m.length≠0:=fun e=>hm (List.eq_nil_of_length_eq_zero e)
 induction l with
 |nil=>rfl
 |cons c l ih=>
  simp only[Fu,Ey,Fj,List.length_cons,ih];by_cases hl:l=[]
  ·subst hl;simp;omega
  ·have h2:l.length≠0:=fun e=>hl (List.eq_nil_of_length_eq_zero e)
   simp[hl];omega
theorem Ov(l m:List Int)(x:Int):ez (Fu l m) x=ez l x*ez m x:=by
 induction l with
 |nil=>simp[Fu,ez]
 |cons c l ih=>
  simp only[Fu,It,Ka,Cg,ih,Int.add_mul,Int.zero_add,Int.mul_assoc]
theorem monic{P:Int}(L:List Int):∀(a R:List Int),R.length≤L.length→az P (Bk (Fu a (L++[1])) R)→az P a∧az P R:=by
 intro a;induction a with
 |nil=>intro R _ h;refine⟨fun c hc=>by simp at hc,?_⟩;cases R<;>simpa [Fu,Bk] using h
 |cons c a ih=>
  intro R hR h;have aC:∀(u v R:List Int),az P (Bk (Bk u v) R)→az P (Bk (Bk u R) v):=by
   intro u;induction u with
   |nil=>
    intro v R h;have c1:Bk [] R=R:=by cases R<;>rfl
    have c2:Bk [] v=v:=by cases v<;>rfl
    rw[c2] at h;rw[c1];clear c1 c2;induction v generalizing R with
    |nil=>cases R<;>simpa [Bk] using h
    |cons d v ihv=>cases R with
     |nil=>simpa [Bk] using h
     |cons r R=>
      simp only[Bk] at h⊢;rw[Ec] at h⊢;exact⟨by rw[Int.add_comm];exact h.1,ihv R h.2⟩
   |cons p u ihu=>
    intro v R h
    cases v with
    |nil=>cases R<;>simpa [Bk] using h
    |cons d v=>cases R with
     |nil=>simpa [Bk] using h
     |cons r R=>
      simp only[Bk] at h⊢;rw[Ec] at h⊢;exact⟨by have:=h.1;rwa [Int.add_right_comm] at this,ihu v R h.2⟩
  have h1:=aC _ _ _ h;generalize hu:Bk (Ew c (L++[1])) R=u at h1;have aA:u.length=L.length+1:=by rw[←hu,Ey,Fj];simp;omega
  cases u with
  |nil=>simp at aA
  |cons r u=>
   simp only[Bk] at h1;rw[Ec] at h1;have aB:∀(p q:List Int),az P (Bk p q)→az P (Bk q p):=by
    intro p;induction p with
    |nil=>intro q h;cases q<;>simpa [Bk] using h
    |cons p1 p ihp=>intro q h;cases q with
     |nil=>simpa [Bk] using h
     |cons q1 q=>
      simp only[Bk] at h⊢;rw[Ec] at h⊢;exact⟨by rw[Int.add_comm];exact h.1,ihp q h.2⟩
   have h2:=aB _ _ h1.2;obtain⟨i1,i2⟩:=ih u (by simp at aA;omega) h2;have hr:P∣r:=by have:=h1.1;simpa using this
   have aD:az P (Bk (Ew c (L++[1])) R):=by rw[hu,Ec];exact⟨hr,i2⟩
   clear h h1 h2 hu aA i2 hr aB aC ih u r;have fin:∀(L R:List Int),R.length≤L.length→az P (Bk (Ew c (L++[1])) R)→P∣c∧az P R:=by
    intro L;induction L with
    |nil=>
     intro R hR h;have:R=[]:=List.eq_nil_of_length_eq_zero (by simpa using hR);subst this;exact⟨by have:=h c (by simp[Ew,Bk]);exact this,fun c hc=>by simp at hc⟩
    |cons d L ihL=>
     intro R hR h
     cases R with
     |nil=>
      refine⟨?_,fun c hc=>by simp at hc⟩
      have:az P (Bk (Ew c (L++[1])) []):=by
       have h':az P (Ew c (d::(L++[1]))):=by simpa [Ew,Bk] using h
       intro y hy;have aE:y∈Ew c (L++[1]):=by revert hy;cases (Ew c (L++[1]))<;>simp[Bk]
       exact h' y (by simp only[Ew,List.map_cons];exact List.mem_cons_of_mem _ aE)
      exact (ihL [] (by simp) this).1
     |cons r R=>
      have h':az P ((c*d+r)::Bk (Ew c (L++[1])) R):=by simpa [Ew,Bk] using h
      rw[Ec] at h';obtain⟨a1,a2⟩:=ihL R (by simpa using hR) h'.2;refine⟨a1,?_⟩;rw[Ec];refine⟨?_,a2⟩;have:=Int.dvd_sub h'.1 (Int.dvd_mul_of_dvd_left a1:P∣c*d);have e:c*d+r-c*d=r:=by omega
      rwa [e] at this
   obtain⟨f1,f2⟩:=fin L R hR aD;exact⟨Ec.2 ⟨f1,i1⟩,f2⟩
theorem dvl{P a k:Int}(h:P∣a):P∣a*k:=by obtain⟨q,rfl⟩:=h;exact⟨q*k,by rw[Int.mul_assoc]⟩
theorem dvr{P a k:Int}(h:P∣a):P∣k*a:=by rw[Int.mul_comm];exact dvl h
theorem Mi(P a:Int):P∣a-a%P:=⟨a/P,by have:=Int.mul_ediv_add_emod a P;omega⟩
def sm:Nat→(Nat→Int)→Int
 |0,_=>0
 |n+1,f=>sm n f+f n
theorem Gt{n:Nat}{f g:Nat→Int}(h:∀k<n,f k=g k):sm n f=sm n g:=by
 induction n with
 |zero=>rfl
 |succ n ih=>simp only[sm];rw[ih fun k hk=>h k (by omega),h n (by omega)]
theorem Jt(n:Nat):sm n (fun _=>0)=0:=by induction n with
 |zero=>rfl
 |succ n ih=>simp[sm,ih]
theorem zHw{n:Nat}{f:Nat→Int}(c:Nat)(hc:c<n)(h:∀k<n,k≠c→f k=0):sm n f=f c:=by
 induction n with
 |zero=>omega
 |succ n ih=>
  simp only[sm];by_cases e:n=c
  ·subst e;rw[Gt (g:=fun _=>0) fun k hk=>h k (by omega) (by omega),Jt];omega
  ·rw[ih (by omega) fun k hk hn=>h k (by omega) hn,h n (by omega) e];omega
theorem Mt{P a:Int}{n:Nat}{f g h:Nat→Int}(e:∀k<n,P∣f k- (g k+a*h k)):P∣sm n f- (sm n g+a*sm n h):=by
 induction n with
 |zero=>exact⟨0,by simp[sm]⟩
 |succ n ih=>
  have h1:=ih fun k hk=>e k (by omega)
  have h2:=e n (by omega);have h3:=Int.dvd_add h1 h2;simp only[sm];have e3:sm n f- (sm n g+a*sm n h)+(f n- (g n+a*h n))=sm n f+f n- (sm n g+g n+a*(sm n h+h n)):=by rw[Int.mul_add];omega
  rwa [e3] at h3
theorem zHv{P a:Int}{n:Nat}{f g:Nat→Int}(e:∀k<n,P∣f k-a*g k):P∣sm n f-a*sm n g:=by
 have:=Mt (P:=P) (a:=a) (n:=n) (f:=f) (g:=fun _=>0) (h:=g) fun k hk=>by have:=e k hk;simpa using this
 rw[Jt] at this;simpa using this
def dh(n:Nat)(r y:List Int):Int:=sm n fun k=>gd r k*gd y k
def gr(M:List (List Int))(i:Nat):List Int:=M[i]?.getD []
theorem Hf{M:List (List Int)}{i:Nat}(h:i<M.length):gr M i=M[i]:=by unfold gr;rw[List.getElem?_eq_getElem h];rfl
theorem Gi{M:List (List Int)}{i j:Nat}{r:List Int}(h:i<M.length):gr (M.set i r) j=if j=i then r else gr M j:=by
 unfold gr;rw[List.getElem?_set];by_cases e:i=j
 ·subst e;simp[h]
 ·rw[if_neg e,if_neg (fun x=>e x.symm)]
def swp(M:List (List Int))(r i:Nat):List (List Int):=(M.set r (gr M i)).set i (gr M r)
theorem Dx(M:List (List Int))(r i:Nat):(swp M r i).length=M.length:=by simp[swp]
theorem Hg{M:List (List Int)}{r i:Nat}(hr:r<M.length)(hi:i<M.length)(j:Nat):gr (swp M r i) j=if j=i then gr M r else if j=r then gr M i else gr M j:=by
 unfold swp;rw[Gi (by simpa using hi),Gi hr]
def scl(P b:Int)(l:List Int):List Int:=l.map fun x=>x*b%P
theorem Ls(P b:Int)(l:List Int):(scl P b l).length=l.length:=by simp[scl]
theorem Pb{P:Int}(b:Int)(l:List Int)(k:Nat):gd (scl P b l) k=gd l k*b%P:=by
 unfold gd scl;rw[List.getElem?_map]
 cases l[k]? <;>simp
theorem Pa{P:Int}(hP:2≤P)(b:Int)(l:List Int):els P (scl P b l)=true:=Ce fun x hx=>by
 obtain⟨y,_,rfl⟩:=List.mem_map.1 hx;exact Fq hP _
def el1(P:Int)(k:Nat)(f row:List Int):List Int:=if gd row k=0 then row else Bl P row 0 ((0-gd row k+P)%P) f
def elN(P:Int)(k r:Nat)(f:List Int)(M:List (List Int))(j:Nat):List (List Int):=
 (List.range M.length).map fun n=>if n<j∧n≠r then el1 P k f (gr M n) else gr M n
theorem Ez(P:Int)(k r:Nat)(f:List Int)(M:List (List Int))(j:Nat):(elN P k r f M j).length=M.length:=by simp[elN]
theorem Fs{P:Int}{k r:Nat}{f:List Int}{M:List (List Int)}{j n:Nat}(h:n<M.length):gr (elN P k r f M j) n=if n<j∧n≠r then el1 P k f (gr M n) else gr M n:=by
 unfold elN;rw[Hf (by simpa using h)];simp
def El(P:Int)(k i:Nat)(M:List (List Int)):List Int:=scl P (inv P (gd (gr M i) k)) (gr M i)
def Kt(P:Int)(k r i:Nat)(M:List (List Int)):List (List Int):=elN P k r (El P k i M) ((swp M r i).set r (El P k i M)) M.length
structure GE (P:Int) (C:Nat) (M0 M:List (List Int)) (r k:Nat) (ld:List Int):Prop where
 len:M.length=M0.length
 row:∀i,i<M.length→(gr M i).length=C+1∧els P (gr M i)=true
 rk:r≤M.length
 ldl:ld.length=32
 free:∀c,c<k→gd ld c=0→∀m,r≤m→m<M.length→gd (gr M m) c=0
 led:∀c,c<k→gd ld c≠0→∃n:Nat,gd ld c=(n:Int)+1∧n<r∧gd (gr M n) c=1∧∀m,m<M.length→m≠n→gd (gr M m) c=0
 inj:∀c d,c<k→d<k→gd ld c=gd ld d→gd ld c≠0→c=d
 rest:∀c,k≤c→gd ld c=0
 all:∀n:Nat,n<r→∃c,c<k∧gd ld c=(n:Int)+1
 sol:∀y,(∀i,i<M.length→P∣dh (C+1) (gr M i) y)↔(∀i,i<M0.length→P∣dh (C+1) (gr M0 i) y)
theorem GE.none{P:Int}{C r k:Nat}{M0 M:List (List Int)}{ld:List Int}(h:GE P C M0 M r k ld)(h0:∀m,r≤m→m<M.length→gd (gr M m) k=0):GE P C M0 M r (k+1) ld where
 len:=h.len
 row:=h.row
 rk:=h.rk
 ldl:=h.ldl
 free:=fun c hc h1=>by
  by_cases e:c=k
  ·subst e;exact h0
  ·exact h.free c (by omega) h1
 led:=fun c hc h1=>by
  by_cases e:c=k
  ·subst e;exact absurd (h.rest c (Nat.le_refl _)) h1
  ·exact h.led c (by omega) h1
 inj:=fun c d hc hd e1 e2=>by
  by_cases e:c=k
  ·subst e;exact absurd (h.rest c (Nat.le_refl _)) e2
  ·by_cases e':d=k
   ·subst e';rw[e1] at e2;exact absurd (h.rest d (Nat.le_refl _)) e2
   ·exact h.inj c d (by omega) (by omega) e1 e2
 rest:=fun c hc=>h.rest c (by omega)
 all:=fun n hn=>by obtain⟨c,h1,h2⟩:=h.all n hn;exact⟨c,by omega,h2⟩
 sol:=h.sol
theorem zGf{P:Int}(n:Nat)(b:Int)(l y:List Int):P∣dh n (scl P b l) y-b*dh n l y:=by
 refine zHv fun k _=> ?_
 rw[Pb];have h1:P∣gd l k*b-gd l k*b%P:=Mi _ _;have h2:=dvl (k:=gd y k) h1;have h3:=Int.dvd_neg.2 h2;have e: -((gd l k*b-gd l k*b%P)*gd y k)=gd l k*b%P*gd y k-b*(gd l k*gd y k):=by
  rw[Int.sub_mul,←Int.mul_assoc,Int.mul_comm b];omega
 rwa [e] at h3
theorem On{P:Int}{to f:List Int}(x:Int)(h:f.length=to.length)(k:Nat)(hk:k<to.length):gd (Bl P to 0 x f) k=(gd to k+x*gd f k)%P:=by
 rw[Dw P to 0 x f (by omega),if_pos (by omega)];simp
theorem zGe{P x:Int}{to f:List Int}(y:List Int)(h:f.length=to.length):P∣dh to.length (Bl P to 0 x f) y- (dh to.length to y+x*dh to.length f y):=by
 refine Mt fun k hk=> ?_
 rw[On x h k hk];have h1:P∣(gd to k+x*gd f k)- (gd to k+x*gd f k)%P:=Mi _ _;have h3:=Int.dvd_neg.2 (dvl (k:=gd y k) h1);have e: -((gd to k+x*gd f k- (gd to k+x*gd f k)%P)*gd y k)=(gd to k+x*gd f k)%P*gd y k- (gd to k*gd y k+x*(gd f k*gd y k)):=by
  rw[Int.sub_mul,Int.add_mul,Int.mul_assoc];omega
 rwa [e] at h3
theorem Lj{P a:Int}:∃q,(0-a+P)%P= -a+P*q:=by
 refine⟨1- (0-a+P)/P,?_⟩;have:=Int.mul_ediv_add_emod (0-a+P) P;rw[Int.mul_sub];omega
theorem zCt(P:Int)(k:Nat)(f row:List Int):(el1 P k f row).length=row.length:=by
 unfold el1;split
 ·rfl
 ·rw[Bg]
theorem zCr{P:Int}(hP:2≤P)(k:Nat)(f:List Int){row:List Int}(h:els P row=true):els P (el1 P k f row)=true:=by
 unfold el1;split
 ·exact h
 ·exact Cq hP h _ _ _
theorem zGg{P:Int}(k:Nat){f row:List Int}(y:List Int)(h:f.length=row.length)(hf:P∣dh row.length f y):P∣dh row.length (el1 P k f row) y↔P∣dh row.length row y:=by
 unfold el1;split
 ·exact Iff.rfl
 ·have h1:=zGe (P:=P) (x:=(0-gd row k+P)%P) y h;have h2:P∣(0-gd row k+P)%P*dh row.length f y:=Int.dvd_mul_of_dvd_right hf;constructor
  ·intro h3;have:=Int.dvd_sub (Int.dvd_sub h3 h1) h2;refine (Int.dvd_congr' ?_).1 this;omega
  ·intro h3;have:=Int.dvd_add (Int.dvd_add h1 h3) h2;refine (Int.dvd_congr' ?_).1 this;omega
where Int.dvd_congr' {P a b:Int} (h:a=b):P∣a↔P∣b:=by rw[h]
theorem Og{P:Int}(hP:2≤P)(k:Nat){f row:List Int}(h:f.length=row.length)(hr:els P row=true)(c:Nat)(hf:gd f c=0):gd (el1 P k f row) c=gd row c:=by
 unfold el1;split
 ·rfl
 ·by_cases hc:c<row.length
  ·rw[On _ h c hc,hf,Int.mul_zero,Int.add_zero];have:=Co (Cd hP hr c);exact Int.emod_eq_of_lt this.1 this.2
  ·rw[Ee (by rw[Bg];omega),Ee (by omega)]
theorem zCs{P:Int}(k:Nat){f row:List Int}(h:f.length=row.length)(hf:gd f k=1):gd (el1 P k f row) k=0:=by
 unfold el1;split
 ·assumption
 ·by_cases hc:k<row.length
  ·rw[On _ h k hc,hf,Int.mul_one];obtain⟨q,hq⟩:=Lj (P:=P) (a:=gd row k);rw[hq];have:gd row k+(-gd row k+P*q)=P*q:=by omega
   rw[this];simp
  ·rw[Ee (by rw[Bg];omega)]
theorem GE.lead{P:Int}{C r k i:Nat}{M0 M:List (List Int)}{ld:List Int}(hp:prB P=true)(h:GE P C M0 M r k ld)(hk:k<C)(hC:C≤32)(hi:r≤i)(hil:i<M.length)(hne:gd (gr M i) k≠0):
  GE P C M0 (Kt P k r i M) (r+1) (k+1) (ld.set k ((r:Int)+1)):=by
 have hP:=(Bj hp).1;have aE:r<M.length:=by omega
 have aA:(Kt P k r i M).length=M.length:=by rw[Kt,Ez,List.length_set,Dx]
 have aD:(El P k i M).length=C+1:=by rw[El,Ls];exact (h.row i hil).1
 have aJ:els P (El P k i M)=true:=Pa hP _ _;have aI:gd (gr M i) k%P≠0:=by
  have:=Co (Cd hP (h.row i hil).2 k);rw[Int.emod_eq_of_lt this.1 this.2];exact hne
 have aH:gd (El P k i M) k=1:=by
  rw[El,Pb,Int.mul_comm];exact Jj hp _ aI
 have hS:∀n,n<M.length→gr (Kt P k r i M) n=if n=r then El P k i M else el1 P k (El P k i M) (gr M (if n=i then r else n)):=by
  intro n hn;rw[Kt,Fs (by rw[List.length_set,Dx];exact hn),Gi (by rw[Dx];exact aE),Hg aE hil];by_cases e:n=r
  ·subst e;rw[if_neg (by omega),if_pos rfl,if_pos rfl]
  ·rw[if_pos ⟨hn,e⟩,if_neg e,if_neg e];by_cases e2:n=i
   ·rw[if_pos e2,if_pos e2,if_neg e]
   ·rw[if_neg e2,if_neg e2,if_neg e]
 have hT:∀n,n<M.length→(if n=i then r else n)<M.length:=fun n hn=>by split<;>omega
 have aF:∀c,c<k→gd (El P k i M) c=0:=by
  intro c hc;have:gd (gr M i) c=0:=by
   by_cases e:gd ld c=0
   ·exact h.free c hc e i hi hil
   ·obtain⟨n,h1,h2,h3,h4⟩:=h.led c hc e;exact h4 i hil (by omega)
  rw[El,Pb,this];simp
 refine⟨aA.trans h.len,?_,by rw[aA];omega,by rw[List.length_set];exact h.ldl,?_,?_,?_,?_,?_,?_⟩
 ·intro n hn;rw[aA] at hn;rw[hS n hn];split
  ·exact⟨aD,aJ⟩
  ·have:=h.row _ (hT n hn);exact⟨by rw[zCt];exact this.1,zCr hP _ _ this.2⟩
 ·intro c hc h0 m hm1 aG;rw[aA] at aG;rw[Dj _ _ _ _ (by rw[h.ldl];omega)] at h0;by_cases e:c=k
  ·rw[if_pos e] at h0;omega
  ·rw[if_neg e] at h0;rw[hS m aG,if_neg (by omega)];have hr:=h.row _ (hT m aG);rw[Og hP k (by rw[aD];exact hr.1.symm) hr.2 c (aF c (by omega))];refine h.free c (by omega) h0 _ ?_ (hT m aG);split<;>omega
 ·intro c hc h0;rw[Dj _ _ _ _ (by rw[h.ldl];omega)] at h0⊢;by_cases e:c=k
  ·subst e;rw[if_pos rfl];refine⟨r,rfl,by omega,?_,fun m hm aK=> ?_⟩
   ·rw[hS r aE,if_pos rfl];exact aH
   ·rw[aA] at hm;rw[hS m hm,if_neg aK];exact zCs c (by rw[aD];exact (h.row _ (hT m hm)).1.symm) aH
  ·rw[if_neg e] at h0⊢;obtain⟨n,h1,h2,h3,h4⟩:=h.led c (by omega) h0;refine⟨n,h1,by omega,?_,fun m hm hmn=> ?_⟩
   ·rw[hS n (by omega),if_neg (by omega),if_neg (by omega)];have hr:=h.row n (by omega);rw[Og hP k (by rw[aD];exact hr.1.symm) hr.2 c (aF c (by omega))];exact h3
   ·rw[aA] at hm;rw[hS m hm];split
    ·exact aF c (by omega)
    ·have hr:=h.row _ (hT m hm);rw[Og hP k (by rw[aD];exact hr.1.symm) hr.2 c (aF c (by omega))];refine h4 _ (hT m hm) ?_;split<;>omega
 ·intro c d hc hd e1 e2;rw[Dj _ _ _ _ (by rw[h.ldl];omega)] at e1 e2;rw[Dj _ _ _ _ (by rw[h.ldl];omega)] at e1;by_cases ec:c=k
  ·by_cases ed:d=k
   ·omega
   ·rw[if_pos ec,if_neg ed] at e1;obtain⟨n,h1,h2,_⟩:=h.led d (by omega) (by omega);omega
  ·by_cases ed:d=k
   ·rw[if_neg ec,if_pos ed] at e1;obtain⟨n,h1,h2,_⟩:=h.led c (by omega) (by omega);omega
   ·rw[if_neg ec,if_neg ed] at e1;rw[if_neg ec] at e2;exact h.inj c d (by omega) (by omega) e1 e2
 ·intro c hc;rw[Dj _ _ _ _ (by rw[h.ldl];omega),if_neg (by omega)];exact h.rest c (by omega)
 ·intro n hn;by_cases e:n=r
  ·refine⟨k,by omega,?_⟩;rw[Dj _ _ _ _ (by rw[h.ldl];omega),if_pos rfl,e]
  ·obtain⟨c,h1,h2⟩:=h.all n (by omega);refine⟨c,by omega,?_⟩;rw[Dj _ _ _ _ (by rw[h.ldl];omega),if_neg (by omega)];exact h2
 ·intro y;rw[←h.sol y,aA];have aB:P∣dh (C+1) (El P k i M) y↔P∣dh (C+1) (gr M i) y:=by
   have h1:=zGf (P:=P) (C+1) (inv P (gd (gr M i) k)) (gr M i) y;constructor
   ·intro h2;have h3:=Int.dvd_sub h2 h1;have e:dh (C+1) (El P k i M) y- (dh (C+1) (scl P (inv P (gd (gr M i) k)) (gr M i)) y-inv P (gd (gr M i) k)*dh (C+1) (gr M i) y)=inv P (gd (gr M i) k)*dh (C+1) (gr M i) y:=by
     unfold El;omega
    rw[e] at h3;rcases Kh hp _ _ h3 with h4|h4
    ·exfalso;have h5:=Jj hp _ aI;rw[Int.mul_emod,Int.emod_eq_zero_of_dvd h4] at h5;simp at h5
    ·exact h4
   ·intro h2;have h3:=Int.dvd_add h1 (Int.dvd_mul_of_dvd_right h2:P∣inv P (gd (gr M i) k)*dh (C+1) (gr M i) y);have e:dh (C+1) (scl P (inv P (gd (gr M i) k)) (gr M i)) y-inv P (gd (gr M i) k)*dh (C+1) (gr M i) y+inv P (gd (gr M i) k)*dh (C+1) (gr M i) y=dh (C+1) (El P k i M) y:=by
     unfold El;omega
    rwa [e] at h3
  have aC:P∣dh (C+1) (El P k i M) y→∀n,n<M.length→n≠r→(P∣dh (C+1) (gr (Kt P k r i M) n) y↔P∣dh (C+1) (gr M (if n=i then r else n)) y):=by
   intro hf n hn aL;rw[hS n hn,if_neg aL];have hr:=h.row _ (hT n hn);have:=zGg (P:=P) k (f:=El P k i M) (row:=gr M (if n=i then r else n)) y (by rw[aD];exact hr.1.symm) (by rw[hr.1];exact hf)
   rwa [hr.1] at this
  constructor
  ·intro h1;have hf:=h1 r aE;rw[hS r aE,if_pos rfl] at hf;intro n hn;by_cases e:n=i
   ·subst e;exact aB.1 hf
   ·by_cases e2:n=r
    ·subst e2;have:=(aC hf i hil (by omega)).1 (h1 i hil)
     rwa [if_pos rfl] at this
    ·have:=(aC hf n hn e2).1 (h1 n hn)
     rwa [if_neg e] at this
  ·intro h1 n hn;have hf:=aB.2 (h1 i hil);by_cases e2:n=r
   ·subst e2;rw[hS n hn,if_pos rfl];exact hf
   ·exact (aC hf n hn e2).2 (h1 _ (hT n hn))
theorem GE.start{P:Int}{C:Nat}{M:List (List Int)}(h:∀i,i<M.length→(gr M i).length=C+1∧els P (gr M i)=true):GE P C M M 0 0 (Ay 32) where
 len:=rfl
 row:=h
 rk:=Nat.zero_le _
 ldl:=by simp[Ay]
 free:=fun c hc=>by omega
 led:=fun c hc=>by omega
 inj:=fun c d hc=>by omega
 rest:=fun c _=>by
  by_cases e:c<32
  ·rw[Bw (by simpa [Ay] using e)];simp only[Ay,List.getElem_replicate]
  ·exact Ee (by simp[Ay];omega)
 all:=fun n hn=>by omega
 sol:=fun y=>Iff.rfl
def Kj(C:Nat)(M:List (List Int))(ld:List Int):List Int:=(List.range C).map fun c=>if gd ld c=0 then 0 else gd (gr M (gd ld c-1).toNat) C
theorem Un(x:List Int)(v:Int)(k:Nat):gd (x++[v]) k=if k<x.length then gd x k else if k=x.length then v else 0:=by
 unfold gd;rw[List.getElem?_append];split
 ·rfl
 ·split
  ·rename_i h;subst h;simp
  ·rename_i h1 h2;have:k-x.length≠0:=by omega
   cases e:k-x.length with
   |zero=>omega
   |succ j=>simp
theorem GE.zero{P:Int}{C r:Nat}{M0 M:List (List Int)}{ld:List Int}(h:GE P C M0 M r C ld){m:Nat}(hm:r≤m)(hm2:m<M.length):∀c,c<C→gd (gr M m) c=0:=by
 intro c hc;by_cases e:gd ld c=0
 ·exact h.free c hc e m hm hm2
 ·obtain⟨n,h1,h2,h3,h4⟩:=h.led c hc e;exact h4 m hm2 (by omega)
theorem Of{C:Nat}{row x:List Int}(v:Int)(hx:x.length=C):dh (C+1) row (x++[v])=sm C (fun k=>gd row k*gd x k)+gd row C*v:=by
 unfold dh;simp only[sm];rw[Un,if_neg (by omega),if_pos hx.symm];congr 1;exact Gt fun k hk=>by rw[Un,if_pos (by omega)]
theorem GE.no{P:Int}{C r:Nat}{M0 M:List (List Int)}{ld:List Int}(hP:2≤P)(h:GE P C M0 M r C ld){m:Nat}(hm:r≤m)(hm2:m<M.length)(hne:gd (gr M m) C≠0):
  ¬∃x:List Int,x.length=C∧∀i,i<M0.length→P∣dh (C+1) (gr M0 i) (x++[-1]):=by
 rintro⟨x,hx,hs⟩;have h1:=(h.sol _).2 hs m hm2;rw[Of _ hx,Gt (g:=fun _=>0) fun k hk=>by rw[h.zero hm hm2 k hk];simp,Jt] at h1
 have h2:=Co (Cd hP (h.row m hm2).2 C);have h3:P∣gd (gr M m) C:=by
  have:=Int.dvd_neg.2 h1;have e: -(0+gd (gr M m) C* -1)=gd (gr M m) C:=by omega
  rwa [e] at this
 have h4:=Int.emod_eq_zero_of_dvd h3;rw[Int.emod_eq_of_lt h2.1 h2.2] at h4;exact hne h4
theorem Eu(C:Nat)(M:List (List Int))(ld:List Int):(Kj C M ld).length=C:=by simp[Kj]
theorem Ju{C:Nat}{M:List (List Int)}{ld:List Int}{c:Nat}(h:c<C):gd (Kj C M ld) c=if gd ld c=0 then 0 else gd (gr M (gd ld c-1).toNat) C:=by
 rw[Bw (by rw[Eu];exact h)];simp[Kj]
theorem GE.yes{P:Int}{C r:Nat}{M0 M:List (List Int)}{ld:List Int}(hP:2≤P)(h:GE P C M0 M r C ld)(h0:∀m,r≤m→m<M.length→gd (gr M m) C=0):
  els P (Kj C M ld)=true∧∀i,i<M0.length→P∣dh (C+1) (gr M0 i) (Kj C M ld++[-1]):=by
 constructor
 ·refine Ce fun v hv=> ?_
  obtain⟨c,hc,rfl⟩:=List.mem_map.1 hv;rw[List.mem_range] at hc;split
  ·exact Ex (by omega)
  ·rename_i e;obtain⟨n,h1,h2,_⟩:=h.led c hc e;have:(gd ld c-1).toNat=n:=by omega
   rw[this];exact Cd hP (h.row n (by have:=h.rk;omega)).2 C
 ·refine (h.sol _).1 fun m hm=> ?_
  rw[Of _ (Eu _ _ _)];by_cases hmr:r≤m
  ·rw[Gt (g:=fun _=>0) fun k hk=>by rw[h.zero hmr hm k hk];simp,Jt,h0 m hmr hm]
   exact⟨0,by simp⟩
  ·obtain⟨c,hc,hl⟩:=h.all m (by omega);have aA:gd (Kj C M ld) c=gd (gr M m) C:=by
    rw[Ju hc,if_neg (by omega)];congr 2;omega
   obtain⟨n,h1,h2,h3,h4⟩:=h.led c hc (by omega);have hn:n=m:=by omega
   subst hn;rw[zHw c hc,h3,aA]
   ·exact⟨0,by omega⟩
   ·intro k hk aC;rw[Ju hk];by_cases e:gd ld k=0
    ·rw[if_pos e];simp
    ·obtain⟨n',h1',h2',h3',aB⟩:=h.led k hk e;have:n≠n':=fun e'=>by
      subst e';exact aC (h.inj k c hk hc (by omega) e)
     rw[aB n hm this];simp
def IS(P a r s x y:Int):Prop:=1≤r∧r≤P∧0≤s∧s≤P∧(∃X Y:Int,-X≤x∧x≤X∧ -Y≤y∧y≤Y∧X*s+Y*r=P∧X≤P)∧P∣r-x*a∧P∣s-y*a∧∀d:Int,d∣r→d∣s→d∣P∧d∣a
theorem IS.start{P a:Int}(hP:2≤P)(ha:0≤a∧a<P):IS P a P a 0 1:=
 ⟨by omega,by omega,by omega,by omega,⟨0,1,by omega,by omega,by omega,by omega,by omega,by omega⟩,⟨1,by omega⟩,⟨0,by omega⟩,fun d h1 h2=>⟨h1,h2⟩⟩
theorem IS.bx{P a r s x y:Int}(h:IS P a r s x y):(-P≤x∧x≤P)∧ -P≤y∧y≤P:=by
 obtain⟨h1,h2,h3,h4,⟨X,Y,x1,x2,y1,y2,e,hX⟩,_⟩:=h;have aA:0≤X:=by omega
 have aB:0≤Y:=by omega
 have a1:0≤X*s:=Int.mul_nonneg aA h3;have a2:Y*1≤Y*r:=Int.mul_le_mul_of_nonneg_left h1 aB;rw[Int.mul_one] at a2;omega
theorem IS.step{P a r s x y:Int}(h:IS P a r s x y)(hs:0<s):
  IS P a s (r-r/s*s) y (x-r/s*y)∧(0≤r/s∧r/s≤P)∧(0≤r/s*s∧r/s*s≤P)∧(-P≤r/s*y∧r/s*y≤P)∧r-r/s*s<s:=by
 have hbx:=h.bx;obtain⟨h1,h2,h3,h4,⟨X,Y,x1,x2,y1,y2,e,hX⟩,d1,d2,hd⟩:=h;have aE:0≤X:=by omega
 have aB:0≤Y:=by omega
 have m1:0≤r%s:=Int.emod_nonneg _ (by omega);have m2:r%s<s:=Int.emod_lt_of_pos _ hs;have m3:r/s*s+r%s=r:=by have:=Int.mul_ediv_add_emod r s;rw[Int.mul_comm] at this;exact this
 have a3:0≤X*s:=Int.mul_nonneg aE h3;have a4:Y*1≤Y*r:=Int.mul_le_mul_of_nonneg_left h1 aB;rw[Int.mul_one] at a4;have hYP:Y≤P:=by omega
 clear a3 a4;generalize hq:r/s=q at*;generalize hm:r%s=m at*;have aA:0≤q:=by rw[←hq];exact Int.ediv_nonneg (by omega) (by omega)
 have aD:0≤q*s:=Int.mul_nonneg aA (by omega);have aC:q*1≤q*s:=Int.mul_le_mul_of_nonneg_left (by omega) aA;rw[Int.mul_one] at aC;have hqY:0≤q*Y:=Int.mul_nonneg aA aB;have hy3:q*y≤q*Y:=Int.mul_le_mul_of_nonneg_left y2 aA;have aF:q*(-Y)≤q*y:=Int.mul_le_mul_of_nonneg_left y1 aA;rw[Int.mul_neg] at aF;have e':Y*(r-q*s)+(X+q*Y)*s=P:=by
  rw[Int.mul_sub,Int.add_mul,←e,Int.mul_assoc,Int.mul_left_comm Y q s];omega
 have a1:0≤Y*(r-q*s):=Int.mul_nonneg aB (by omega);have a2:(X+q*Y)*1≤(X+q*Y)*s:=Int.mul_le_mul_of_nonneg_left (by omega) (by omega);rw[Int.mul_one] at a2;refine⟨⟨by omega,h4,by omega,by omega,⟨Y,X+q*Y,y1,y2,by omega,by omega,e',by omega⟩,d2,?_,fun d g1 g2=> ?_⟩,⟨aA,by omega⟩,⟨aD,by omega⟩,⟨by omega,by omega⟩,by omega⟩
 ·have:r-q*s- (x-q*y)*a=(r-x*a)-q*(s-y*a):=by
   rw[Int.sub_mul,Int.mul_sub,Int.mul_assoc];omega
  rw[this];exact Int.dvd_sub d1 (Int.dvd_mul_of_dvd_right d2)
 ·refine hd d ?_ g1;have:r=(r-q*s)+q*s:=by omega
  rw[this];exact Int.dvd_add g2 (Int.dvd_mul_of_dvd_right g1)
theorem IS.fin{P a r s x y:Int}(hp:prB P=true)(ha:0<a∧a<P)(h:IS P a r s x y)(hs:s=0):x%P=inv P a:=by
 have hb:=Bj hp;obtain⟨h1,h2,h3,h4,_,d1,d2,hd⟩:=h;subst hs;obtain⟨g1,g2⟩:=hd r (Int.dvd_refl r) (Int.dvd_zero r);obtain⟨n,rfl⟩:∃n:Nat,r=n:=⟨r.toNat,by omega⟩;have hn:(n:Int)=1:=by
  rcases zBa hp n g1 with e|e
  ·rw[e];rfl
  ·rw[e] at g2;have:=Int.le_of_dvd ha.1 g2;omega
 rw[hn] at d1;have aA:a%P≠0:=by rw[Int.emod_eq_of_lt (by omega) (by omega)];omega
 refine zAj hp aA ⟨Int.emod_nonneg _ (by omega),Int.emod_lt_of_pos _ (by omega)⟩ ?_;rw[Int.mul_emod,Int.emod_emod_of_dvd _ (Int.dvd_refl P),←Int.mul_emod];have:=Int.emod_eq_emod_iff_emod_sub_eq_zero.2 (Int.emod_eq_zero_of_dvd d1);rw[←this];exact Int.emod_eq_of_lt (by omega) (by omega)
end Go.Proofs.YtoiabanpnkpbhaaGreatDoor
