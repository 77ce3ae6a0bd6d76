/- Parts. -/
import Derived.Deep.CutBlock
import Derived.Deep.LoopGhost
import Derived.Test.YtoiabanpnkpbhaaGreatDoorM37
import Derived.Test.YtoiabanpnkpbhaaGreatDoorM38
set_option linter.unusedVariables false
set_option linter.unusedSimpArgs false
set_option maxRecDepth 100000
set_option maxHeartbeats 16000000
namespace Go.Proofs.YtoiabanpnkpbhaaGreatDoor
theorem zCk{P:Int}{l:List (Int×Bool)}(h:ceE P l=0):prB P=true∧l.length≤32∧(l.length:Int)<P∧∀t∈kn l,el P t.2=true:=by
 unfold ceE at h;split at h
 ·omega
 ·rename_i h1;split at h
  ·omega
  ·rename_i h2;split at h
   ·rename_i h3;exact⟨by simpa using h1,by omega,by omega,List.all_eq_true.1 h3⟩
   ·omega
theorem Yj{P:Int}{l:List (Int×Bool)}{k:Int}(h:fiE P l k=0∨fiE P l k=11):ceE P l=0:=by
 apply Classical.byContradiction;intro hc;rw[(Ui hc).1] at h;unfold ceE at h hc;split at h
 ·omega
 ·split at h
  ·omega
  ·split at h
   ·rename_i h3;simp_all
   ·omega
def bgE(P:Int)(l:List (Int×Bool))(k:Int):Int:=if ceE P l=0 then (if k<1∨(l.length:Int)<k then 1 else 0) else ceE P l
theorem zCg{P:Int}{l:List (Int×Bool)}{k:Int}(h:bgE P l k=0):ceE P l=0∧1≤k∧k≤l.length:=by
 unfold bgE at h;split at h
 ·rename_i h1;split at h
  ·omega
  ·exact⟨h1,by omega,by omega⟩
 ·contradiction
theorem fi_bg{P:Int}{l:List (Int×Bool)}{k:Int}(h:bgE P l k≠0):fiE P l k=bgE P l k∧fiE P l k≠0∧fiE P l k≠11:=by
 unfold bgE at h⊢;by_cases hc:ceE P l=0
 ·rw[if_pos hc] at h⊢;split at h
  ·rename_i h1;rw[if_pos h1,(Yi hc h1).1];omega
  ·contradiction
 ·rw[if_neg hc,(Ui hc).1];refine⟨rfl,hc,fun aA=>hc (Yj (k:=k) (.inr ?_))⟩
  rw[(Ui hc).1,aA]
open Go.RowKit Go.Shelf
theorem Mq(P:Int)(l:List (Int×Bool))(k:Int)(v:Value)(w:World)(hP:At P)(h:SCl w v l)(hz:l.length≤1000000):
  Calls Tryz.prog 135 #[.agg #[.int .i64 P],v,.int .i64 k] w fun e w'=>e= .returned (.int .i64 (bgE P l k))∧Below w.heap.size w w':=by
 obtain⟨A,c,rfl⟩:=h.form;have HS:=Zk h;clear h;obtain⟨n,en⟩:∃n,n=l.length:=⟨_,rfl⟩;have HN:=Zk en;rw[←en] at HS hz⊢;clear en;go_enter Tryz.func135,Tryz.ntmps135;obtain⟨F,eF⟩:∃F,F=w.heap.size:=⟨_,rfl⟩;obtain⟨w1,aD⟩:∃w1:World,w1=w.alloc (.cells #[.int .i64 P] 31):=⟨_,rfl⟩;have aF:Hid (w.alloc (.cells #[.int .i64 P] 31)=w1):=aD.symm;have aB:Hid (Below w.heap.size w w1):=Zk (by rw[aD];exact (Zb _ w).alloc (Zl _) _);have aA:Hid (w1.heap[F]? =some (.cells #[.int .i64 P] 31 (0,0))):=Zk (by show _=_;rw[aD,eF];exact Zh w _);have aH:Hid (∀W,Below w1.heap.size w1 W→W.cell? ⟨F,0,none⟩=some (.int .i64 P)):=Zk (fun W hg=>by
  have aI:=(hg.block F (Ae aA.out)).trans aA.out;exact (Zc W F 0 _ _ _ aI))
 go_upto_region 1 with fail
 rw[aF.out,←eF];clear aD eF;have x0:=aH.out w1 (Zb _ _);go_wp2_with fail;(with_reducible refine (Tg P l _ w1 hP (HS.out.below aB.out) (by rw[←HN.out];exact hz)).mono ?_)
 rintro e w2 ⟨rfl,aG⟩;have aC:Hid (Below w.heap.size w w2):=Zk (aB.out.trans (aG.mono aB.out.size));clear aG x0;by_cases hc:ceE P l=0
 case' neg=>
  have aE:(ceE P l !=0)=true:=by rw[bne_iff_ne];exact hc
  have HR:Hid (bgE P l k=ceE P l):=Zk (if_neg hc);clear hc;go_wp2_with fail;go_ret;exact⟨by rw[HR.out]<;>rfl,aC.out⟩
 have aE:(ceE P l !=0)=false:=by rw[bne_eq_false_iff_eq];exact hc
 by_cases h1:k<1
 ·have d1:decide (k<1)=true:=Ze h1;have HR:Hid (bgE P l k=1):=Zk (by show _=_;unfold bgE;rw[if_pos hc,if_pos (.inl h1)]);rw[hc];clear hc aE h1;go_wp2_with fail;go_ret;exact⟨by rw[HR.out]<;>rfl,aC.out⟩
 ·have d1:decide (k<1)=false:=Zd h1;by_cases h2:(n:Int)<k
  ·have d2:decide ((n:Int)<k)=true:=Ze h2;have HR:Hid (bgE P l k=1):=Zk (by show _=_;unfold bgE;rw[if_pos hc,if_pos (.inr (by rw[←HN.out];exact h2))]);rw[hc];clear hc aE h1 h2;go_wp2_with fail;go_ret;exact⟨by rw[HR.out]<;>rfl,aC.out⟩
  ·have d2:decide ((n:Int)<k)=false:=Zd h2;have HR:Hid (bgE P l k=0):=Zk (by show _=_;unfold bgE;rw[if_pos hc,if_neg (by rw[←HN.out];omega)]);rw[hc];clear hc aE h1 h2;go_wp2_with fail;go_ret;exact⟨by rw[HR.out]<;>rfl,aC.out⟩
theorem Qf{α:Type}(f:α→Bool)(qs:List α){i:Nat}(h:i<qs.length):(qs.take (i+1)).filter f=(qs.take i).filter f++if f qs[i]=true then [qs[i]] else []:=by
 rw[List.take_succ_eq_append_getElem h,List.filter_append];congr 1;by_cases hf:f qs[i]=true
 ·simp[hf]
 ·simp[hf]
open Go.RowKit Go.Shelf
theorem zFv{P x:Int}{p:List Int}(h:opE P [p]=0)(hx:0≤x∧x<P):rvV P x p=val P p x:=by
 have hp:=(zFs h).1;have h1:inB P [x]=true:=by
  unfold inB;rw[hp];simp[els,Ex hx]
 have h2:rvE P x p=0:=by unfold rvE;rw[h1];simpa using h
 exact if_pos h2
open Go.RowKit Go.Shelf
theorem Py(l:List Int)(n:Int)(i c:Nat):drE l n i (c+1)=if i<l.length then (if gd l i<0∨n≤gd l i then 8 else drE l n (i+1) c) else 3:=rfl
theorem zCp{l:List Int}{n:Int}{c2:Nat}:∀{c1 i:Nat},drE l n i (c1+c2)=if drE l n i c1=0 then drE l n (i+c1) c2 else drE l n i c1:=by
 intro c1;induction c1 with
 |zero=>intro i;simp[drE]
 |succ c ih=>
  intro i;rw[show c+1+c2=(c+c2)+1 by omega,Py,Py];by_cases h1:i<l.length
  ·rw[if_pos h1,if_pos h1];by_cases h2:gd l i<0∨n≤gd l i
   ·rw[if_pos h2,if_pos h2,if_neg (by decide)]
   ·rw[if_neg h2,if_neg h2,ih,show i+1+c=i+(c+1) by omega]
  ·rw[if_neg h1,if_neg h1,if_neg (by decide)]
theorem zFl{l:List Int}{a n c:Int}(h:tvB l a=false):dsE l a n c=2:=if_pos h
theorem zFk{l:List Int}{a n c:Int}(h:tvB l a=true)(h1:liB n=false):dsE l a n c=1:=by
 unfold dsE;rw[if_neg (by rw[h];simp),if_pos (.inl h1)]
theorem Yc{l:List Int}{a n:Int}{c:Nat}(h:tvB l a=true)(h1:liB n=true):dsE l a n (c:Int)=drE l n a.toNat c:=by
 unfold dsE;rw[if_neg (by rw[h];simp),if_neg (by rw[h1];simp)];rfl
theorem La{l:List Int}{a n:Int}{c1 c2:Nat}:dsE l a n ((c1+c2:Nat):Int)=if dsE l a n (c1:Int)=0 then dsE l (a+(c1:Int)) n (c2:Int) else dsE l a n (c1:Int):=by
 cases hv:tvB l a with
 |false=>rw[zFl hv,zFl hv,if_neg (by decide)]
 |true=>
  cases hl:liB n with
  |false=>rw[zFk hv hl,zFk hv hl,if_neg (by decide)]
  |true=>
   have hb:l.length≤16384∧0≤a∧a≤(l.length:Int):=of_decide_eq_true hv;rw[Yc hv hl,Yc hv hl,zCp];by_cases h3:drE l n a.toNat c1=0
   ·have aA:a+(c1:Int)≤(l.length:Int):=by
     rcases Nat.eq_zero_or_pos c1 with h0|h0
     ·omega
     ·have:=(Ya h3 (c1-1) (by omega)).1;omega
    have aB:tvB l (a+(c1:Int))=true:=Ze ⟨hb.1,by omega,aA⟩;rw[if_pos h3,if_pos h3,Yc aB hl,show (a+(c1:Int)).toNat=a.toNat+c1 by omega]
   ·rw[if_neg h3,if_neg h3]
theorem chunk{l:List Int}{a K x t:Nat}(h:x+t≤K):(((l.drop a).take K).drop x).take t=(l.drop (a+x)).take t:=by
 rw[List.drop_take,List.take_take,List.drop_drop,Nat.min_eq_left (by omega)]
theorem Ye{l:List Int}{an P q:Int}{i t K R:Nat}(hK:K=i*t+(t+R))(hq:q=an+((i*t:Nat):Int))(hpre:0<i→dsE l an P ((i*t:Nat):Int)=0):
  dsE l an P (K:Int)=if dsE l q P (t:Int)=0 then dsE l (q+(t:Int)) P (R:Int) else dsE l q P (t:Int):=by
 rcases Nat.eq_zero_or_pos i with h|h
 ·subst h;simp at hq hK;subst hq hK;exact La
 ·rw[hK,La,if_pos (hpre h),←hq];exact La
theorem zCq{l:List Int}{an P q:Int}{i t:Nat}(hq:q=an+((i*t:Nat):Int))(hpre:0<i→dsE l an P ((i*t:Nat):Int)=0)(h:dsE l q P (t:Int)=0):dsE l an P (((i+1)*t:Nat):Int)=0:=by
 rcases Nat.eq_zero_or_pos i with h0|h0
 ·subst h0;simp at hq;subst hq;rw[show (0+1)*t=t by omega];exact h
 ·rw[Nat.succ_mul,La,if_pos (hpre h0),←hq];exact h
theorem SI.se{w:World}{v:Value}{l:List Int}{g:Nat}(h:SI w v l)(hg:w.heap.size≤g):SE g w v l:=by
 obtain⟨A,c,rfl,hc,hm,hr,ha⟩:=h;refine⟨A,c,rfl,hc,hm,hr,fun h0=> ?_⟩
 obtain⟨b,aB,rfl,hb,aA⟩:=ha h0;exact⟨b,aB,rfl,hb,by omega,aA⟩
theorem Le{a w:World}{F i:Nat}{u:Value}(h:a.grownBy w (some F)):a.grownBy (w.setCell ⟨F,i,none⟩ u) (some F):=
 Ak (g:=F) (p:=⟨F,i,none⟩) h (.inl rfl) _
theorem QR.roundL{G bs:Nat}{wd wx wy:World}{vs:List Value}{rows:List (List Int)}(h:QR G wx vs rows){j:Nat}(hjv:j<vs.length)(hjr:j<rows.length){u:Value}(hvj:vs[j]=u){R:List Int}(hR:rows[j]=R){y:Int}{gg cap2:Nat}{o:Obj}
  (hown:wy.ownsRow (G+1) 3 1 (.slice (some ⟨gg,0,none⟩) (R++[y]).length cap2) (R++[y]).length ((R++[y]).map (Value.int .i64)))
  (hg:(wx.alloc o).grownBy wy u.ownBlock) (hat:u.ownBlock=some gg∨gg=(wx.alloc o).heap.size)
  (hB:Below G wd wx) (hbs:bs<wx.heap.size) (hbG:bs≠G) (hnb:∀k (h:k<vs.length),vs[k].ownBlock≠some bs):
  Hid (QR G (wy.setCell ⟨G,j,none⟩ (.slice (some ⟨gg,0,none⟩) (R++[y]).length cap2)) (vs.set j (.slice (some ⟨gg,0,none⟩) (R++[y]).length cap2)) (rows.set j (R++[y])))∧
  Hid (Below G wd (wy.setCell ⟨G,j,none⟩ (.slice (some ⟨gg,0,none⟩) (R++[y]).length cap2)))∧
  Hid ((wy.setCell ⟨G,j,none⟩ (.slice (some ⟨gg,0,none⟩) (R++[y]).length cap2)).heap[bs]? =wx.heap[bs]?)∧
  Hid (∀k (h:k<(vs.set j (.slice (some ⟨gg,0,none⟩) (R++[y]).length cap2)).length),(vs.set j (.slice (some ⟨gg,0,none⟩) (R++[y]).length cap2))[k].ownBlock≠some bs):=by
 subst hvj hR;have hsz:(wx.alloc o).heap.size=wx.heap.size+1:=by simp
 refine⟨?_,?_,?_,?_⟩
 ·show QR _ _ _ _;refine QR.push (h.alloc o) hjv hjr hown hg (fun b hb=> ?_)
  have aA:gg=b:=by injection hb
  subst aA;rcases hat with h|h
  ·exact .inl h
  ·right;rw[h];exact Zl _
 ·show Below _ _ _;exact ((hB.alloc (by have:=h.lt;omega) o).grown hg (by have:=h.lt;omega) (fun k hk=>by have:=((h.own j hjv hjr).lt k hk).1;omega)).setCell (Zl _) _
 ·show _=_;rw[Zo _ _ bs _ hbG];refine (hg.block bs (by omega) (fun e=>hnb j hjv e.symm)).trans ?_
  exact Below.heap_alloc wx _ _ hbs
 ·intro k hk e;have aB:k<vs.length:=by simpa using hk
  by_cases hkj:k=j
  ·subst hkj;rw[List.getElem_set_self] at e;have e':gg=bs:=by injection e
   rcases hat with h|h
   ·exact hnb k hjv (by rw[h,e'])
   ·omega
  ·rw[List.getElem_set_ne (Ne.symm hkj)] at e;exact hnb k aB e
theorem QR.sleG{G g:Nat}{w:World}{vs:List Value}{rows:List (List Int)}(h:QR G w vs rows)(hg:g<G)(hr:∀r∈rows,∀x∈r,At x)(hm:rows.length≤1000):SLE g w (.slice (some ⟨G,0,none⟩) rows.length rows.length) rows:=by
 refine⟨_,rows.length,rfl,Zl _,by omega,fun h0=>⟨G,0,rfl,h.lt,by omega,fun j hj=> ?_⟩⟩
 have aA:j<vs.length:=by rw[h.len];exact hj
 have h1:=h.cell aA;have h2:=h.own j aA hj;have h3:=SE.of_own (g:=g) h2 (hr _ (List.getElem_mem hj)) (by omega);obtain⟨B',d,e⟩:=h3.form;rw[e] at h1 h3;exact⟨B',d,by rw[Nat.zero_add];exact h1,h3⟩
def QgR(P want:Int)(l:List Int)(an:Int)(D:List Int)(t Gp n m n0 F:Nat)(wp:World)(iv:Value)(wr:World):Prop:=
 ∃(k:Nat) (vs:List Value) (A1:Option Addr) (c1:Nat) (q:Int),k≤m∧iv= .int .i64 k∧q=an+((k*t:Nat):Int)∧QR wp.heap.size wr vs (Db P want D t Gp n k)∧wp.grownBy wr (some (F+2))∧
  wr.heap[F+2]? =some (.cells #[.slice A1 n0 c1,.int .i64 q] 45 (0,0))∧SE (F+3) wr (.slice A1 n0 c1) l∧(0<k→dsE l an P ((k*t:Nat):Int)=0)
def QgS(P want:Int)(D:List Int)(t Gp n i:Nat)(G:Nat)(w6:World)(bs b1:Nat)(v:Value)(wr:World):Prop:=
 ∃(j:Nat) (vs:List Value),j≤n∧v= .int .i64 ((j:Int)+1)∧QR G wr vs (Gh P want D t Gp n i j)∧Below G w6 wr∧wr.heap[bs]? =w6.heap[bs]? ∧(∀k (h:k<vs.length),vs[k].ownBlock≠some bs)∧wr.heap[b1]? =w6.heap[b1]? ∧(∀k (h:k<vs.length),vs[k].ownBlock≠some b1)
theorem Iq(P n t Gp m want:Int)(l:List Int)(an:Int)(v:Value)(w:World)(hP:At P)(hm:At m)(h:SI w v l):
  Calls Tryz.prog 33 #[.agg #[.int .i64 P],.agg #[.int .i64 n,.int .i64 t,.int .i64 Gp],.int .i64 m,.int .i64 want,.agg #[v,.int .i64 an]] w (Rx P n t Gp m want l an w):=by
 have HS:=Zk h;obtain⟨A,cc,rfl⟩:=h.form';clear h;obtain⟨n0,dY⟩:∃n0,n0=l.length:=⟨_,rfl⟩;rw[←dY] at HS⊢;have dG:=Zk dY;clear dY;go_enter Tryz.func33,Tryz.ntmps33;obtain⟨F,eF⟩:∃F,F=w.heap.size:=⟨_,rfl⟩;obtain⟨w1,aX⟩:∃w1:World,w1=(((w.alloc (.cells #[.int .i64 P] 31)).alloc (.cells #[.int .i64 n,.int .i64 t,.int .i64 Gp] 29)).alloc (.cells #[.slice A n0 cc,.int .i64 an] 45)).alloc (.cells #[.slice none 0 0,.int .i64 0] 45):=⟨_,rfl⟩;have dS:Hid ((((w.alloc (.cells #[.int .i64 P] 31)).alloc (.cells #[.int .i64 n,.int .i64 t,.int .i64 Gp] 29)).alloc (.cells #[.slice A n0 cc,.int .i64 an] 45)).alloc (.cells #[.slice none 0 0,.int .i64 0] 45)=w1):=aX.symm;have bI:Hid (Below w.heap.size w w1):=Zk (by rw[aX];exact ((((Zb _ w).alloc (Zl _) _).alloc (by simp) _).alloc (by simp;omega) _).alloc (by simp;omega) _);have aH:Hid (w1.heap[F]? =some (.cells #[.int .i64 P] 31 (0,0))):=Zk (by show _=_;rw[aX,eF,Below.heap_alloc _ _ _ (by simp;try omega),Below.heap_alloc _ _ _ (by simp;try omega),Below.heap_alloc _ _ _ (by simp)];exact Zh w _);have aI:Hid (w1.heap[F+1]? =some (.cells #[.int .i64 n,.int .i64 t,.int .i64 Gp] 29 (0,0))):=Zk (by show _=_;rw[aX,eF,Below.heap_alloc _ _ _ (by simp;try omega),Below.heap_alloc _ _ _ (by simp;try omega)];have:=Zh (w.alloc (.cells #[.int .i64 P] 31)) (.cells #[.int .i64 n,.int .i64 t,.int .i64 Gp] 29);simpa using this);have aJ:Hid (w1.heap[F+2]? =some (.cells #[.slice A n0 cc,.int .i64 an] 45 (0,0))):=Zk (by show _=_;rw[aX,eF,Below.heap_alloc _ _ _ (by simp;try omega)];have:=Zh ((w.alloc (.cells #[.int .i64 P] 31)).alloc (.cells #[.int .i64 n,.int .i64 t,.int .i64 Gp] 29)) (.cells #[.slice A n0 cc,.int .i64 an] 45);simpa using this);have aD:Hid (w1.heap[F+3]? =some (.cells #[.slice none 0 0,.int .i64 0] 45 (0,0))):=Zk (by show _=_;rw[aX,eF];have:=Zh (((w.alloc (.cells #[.int .i64 P] 31)).alloc (.cells #[.int .i64 n,.int .i64 t,.int .i64 Gp] 29)).alloc (.cells #[.slice A n0 cc,.int .i64 an] 45)) (.cells #[.slice none 0 0,.int .i64 0] 45);simpa using this);have fL:Hid (∀W,Below w1.heap.size w1 W→W.cell? ⟨F,0,none⟩=some (.int .i64 P)∧W.cell? ⟨F+1,0,none⟩=some (.int .i64 n)∧W.cell? ⟨F+1,1,none⟩=some (.int .i64 t)∧W.cell? ⟨F+1,2,none⟩=some (.int .i64 Gp)∧W.cell? ⟨F+2,0,none⟩=some (.slice A n0 cc)∧W.cell? ⟨F+2,1,none⟩=some (.int .i64 an)∧W.cell? ⟨F+3,0,none⟩=some (.slice none 0 0)∧W.cell? ⟨F+3,1,none⟩=some (.int .i64 0)):=Zk (fun W hg=>by
  have hH:=(hg.block F (Ae aH.out)).trans aH.out;have eC:=(hg.block (F+1) (Ae aI.out)).trans aI.out;have fM:=(hg.block (F+2) (Ae aJ.out)).trans aJ.out;have cL:=(hg.block (F+3) (Ae aD.out)).trans aD.out;exact⟨Zc W F 0 _ _ _ hH,Zc W (F+1) 0 _ _ _ eC,Zc W (F+1) 1 _ _ _ eC,Zc W (F+1) 2 _ _ _ eC,Zc W (F+2) 0 _ _ _ fM,Zc W (F+2) 1 _ _ _ fM,Zc W (F+3) 0 _ _ _ cL,Zc W (F+3) 1 _ _ _ cL⟩)
 have hFw:w.heap.size≤F:=by omega
 have cL:F+3<w1.heap.size:=Ae aD.out;go_upto_region 1 with fail
 rw[dS.out,←eF];clear aX eF;obtain⟨x0,x1,x2,x3,x4,x5,x6,x7⟩:=fL.out w1 (Zb _ _);go_wp2_with fail;(with_reducible refine (Gq P n t Gp m _ hP).mono ?_)
 rintro e w2 ⟨v2,rfl,cM,_,_⟩;have aN:=Zk cM;have bK:Hid (Below w.heap.size w w2):=Zk (bI.out.trans (cM.mono bI.out.size));have bB:Hid (w2.heap[F+3]? =some (.cells #[.slice none 0 0,.int .i64 0] 45 (0,0))):=Zk ((cM.block (F+3) cL).trans aD.out);clear cM x0 x1 x2 x3 x4 x5 x6 x7;obtain⟨x0,x1,x2,x3,x4,x5,x6,x7⟩:=fL.out w2 aN.out;have g0:=Zf w2 (F+3) 0 _ _ bB.out;have g1:=Zf w2 (F+3) 1 _ _ bB.out;obtain⟨z,ez⟩:∃z,z=g2E P n t Gp m:=⟨_,rfl⟩;rw[←ez];have HZ:=Zk ez;clear ez;by_cases h0:z=0
 case' neg=>
  have HE:Hid (gqI P n t Gp m want l an=z):=Zk (by show _=_;rw[HZ.out];exact Yy (by rw[←HZ.out];exact h0));have d0:(z !=0)=true:=by rw[bne_iff_ne];exact h0
  have bS:Hid (gqI P n t Gp m want l an≠0):=Zk (by rw[HE.out];exact h0);clear h0;go_wp2_with fail;have h4:=Ck (.slice none 0 0) (.int .i64 0) bB.out;have aR:=(bK.out.setCell (p:=⟨F+3,0,none⟩) (by show _≤F+3;omega) (.slice none 0 0)).setCell (p:=⟨F+3,1,none⟩) (by show _≤F+3;omega) (.int .i64 0);generalize ((w2.setCell ⟨F+3,0,none⟩ (.slice none 0 0)).setCell ⟨F+3,1,none⟩ (.int .i64 0))=wE at h4 aR⊢;have q0:=Zc wE (F+3) 0 _ _ _ h4;have q1:=Zc wE (F+3) 1 _ _ _ h4;simp at q0 q1;refine bodyPost_ret (v:= .tuple #[.slice none 0 0,.agg #[.slice none 0 0,.int .i64 0],.int .i64 z]) (by simp[results,Tryz.results33,go_sem,q0,q1]) rfl ?_;exact⟨_,_,_,by rw[HE.out],aR,fun h=>absurd h bS.out,fun _=>⟨rfl,rfl,rfl⟩⟩
 subst h0;by_cases hw:want<0∨m≤want
 ·have HE:Hid (gqI P n t Gp m want l an=6):=Zk (Yx HZ.out.symm hw);have bS:Hid (gqI P n t Gp m want l an≠0):=Zk (by show _≠_;rw[HE.out];decide);have hg:decide (want<0)=true∨(decide (want<0)=false∧decide (m≤want)=true):=by
   by_cases h:want<0
   ·exact .inl (Ze h)
   ·exact .inr ⟨Zd h,Ze (by omega)⟩
  clear hw;rcases hg with hg|⟨hg,cP⟩;all_goals
   go_wp2_with fail;have h4:=Ck (.slice none 0 0) (.int .i64 0) bB.out;have aR:=(bK.out.setCell (p:=⟨F+3,0,none⟩) (by show _≤F+3;omega) (.slice none 0 0)).setCell (p:=⟨F+3,1,none⟩) (by show _≤F+3;omega) (.int .i64 0);generalize ((w2.setCell ⟨F+3,0,none⟩ (.slice none 0 0)).setCell ⟨F+3,1,none⟩ (.int .i64 0))=wE at h4 aR⊢;have q0:=Zc wE (F+3) 0 _ _ _ h4;have q1:=Zc wE (F+3) 1 _ _ _ h4;simp at q0 q1;refine bodyPost_ret (v:= .tuple #[.slice none 0 0,.agg #[.slice none 0 0,.int .i64 0],.int .i64 6]) (by simp[results,Tryz.results33,go_sem,q0,q1]) rfl ?_;exact⟨_,_,_,by rw[HE.out],aR,fun h=>absurd h bS.out,fun _=>⟨rfl,rfl,rfl⟩⟩
 obtain⟨hV,hm1,hm2⟩:=Om HZ.out.symm;have pb1:=hV.t1;have pb2:=hV.n10;have pb3:=hV.sum;have pb4:=hV.G1;have pb5:=hV.n2;have hnP:=hV.nP;have gT:=Zk hV.pr;have bD:=hV.pb;clear hV;obtain⟨mn,rfl⟩:∃mn:Nat,m=mn:=⟨m.toNat,by omega⟩;obtain⟨tn,rfl⟩:∃tn:Nat,t=tn:=⟨t.toNat,by omega⟩;obtain⟨nn,rfl⟩:∃nn:Nat,n=nn:=⟨n.toNat,by omega⟩;obtain⟨Gn,rfl⟩:∃Gn:Nat,Gp=Gn:=⟨Gp.toNat,by omega⟩;have eH:((mn:Int)*(tn:Int))=((mn*tn:Nat):Int):=(Int.natCast_mul mn tn).symm;obtain⟨K,hK⟩:∃K,K=mn*tn:=⟨_,rfl⟩;have HK:=Zk hK;rw[←hK] at eH;have dF:=Zk eH;have fG:Hid (gqI P nn tn Gn mn want l an=dsE l an P (K:Int)):=Zk (by show _=_;rw[Up HZ.out.symm (by omega),dF.out]);have hw1:decide (want<0)=false:=Zd (by omega);have hw2:decide ((mn:Int)≤want)=false:=Zd (by omega);obtain⟨wn,rfl⟩:∃wn:Nat,want=wn:=⟨want.toNat,by omega⟩;have hwn:wn<mn:=by omega
 have hw3:decide (mn≤wn)=false:=Zd (by omega);obtain⟨D,hD⟩:∃D,D=(l.drop an.toNat).take K:=⟨_,rfl⟩;have HD:=Zk hD;clear hw hK eH hD;go_wp2_with (at_make;refine Kn _ (by rfl) _ _ 33 (by rfl) 22 Tryz.underlying33 zDj _ nn (by rfl) (by rfl) (by rfl) (by omega) ?_);obtain⟨G,eG⟩:∃G,G=w2.heap.size:=⟨_,rfl⟩;have HG:=Zk eG;have hFG:F+3<G:=by rw[eG];exact Ae bB.out
 rw[←eG];clear eG x0 x1 x2 x3 x4 x5 x6 x7 g0 g1;go_loopw [16] (fun iv wr=>QgR P wn l an D tn Gn nn mn n0 F w2 iv wr) (fun iv _=>mn- (intOf iv).toNat)
 case atStart=>
  have hB:Below w2.heap.size w2 (w2.alloc (.cells (List.replicate nn (Value.slice none 0 0)).toArray 22)):=(Zb _ _).alloc (Zl _) _;refine⟨0,_,A,cc,an,Nat.zero_le _,rfl,by simp,by rw[Si];exact QR.made w2 nn,Af hB _,?_,?_,fun h=>absurd h (by omega)⟩
  ·exact (hB.block (F+2) (by rw[←HG.out];omega)).trans ((aN.out.block (F+2) (by omega)).trans aJ.out)
  ·exact ((SI.se HS.out (by omega)).below bK.out).below hB
 case round=>
  obtain⟨i,vs,A1,c1,q,hi,rfl,hq,cT,aZ,fQ,fX,cC⟩:=hrel;rw[←HG.out] at cT;have HQ:=Zk cT;have gG:=Zk aZ;have bQ:=Zk fQ;have fJ:=Zk fX;have aO:=Zk cC;have bU:=Zk hq;have hzr:=aZ.size;have hGr:G<wr.heap.size:=cT.lt;have fB:Hid (wr.heap[F]? =some (.cells #[.int .i64 P] 31 (0,0))):=Zk ((aZ.block F (by rw[←HG.out];omega) (by simp)).trans ((aN.out.block F (by omega)).trans aH.out));have dC:Hid (wr.heap[F+1]? =some (.cells #[.int .i64 nn,.int .i64 tn,.int .i64 Gn] 29 (0,0))):=Zk ((aZ.block (F+1) (by rw[←HG.out];omega) (by simp)).trans ((aN.out.block (F+1) (by omega)).trans aI.out));have bC:Hid (wr.heap[F+3]? =some (.cells #[.slice none 0 0,.int .i64 0] 45 (0,0))):=Zk ((aZ.block (F+3) (by rw[←HG.out];omega) (by simp)).trans bB.out);have cY:Hid (Below w.heap.size w wr):=Zk (bK.out.grown aZ bK.out.size (fun b hb=>by injection hb with e;omega))
  clear cT aZ fQ fX cC hq;by_cases hlt:i<mn
  ·have dk:decide ((i:Int)<(mn:Int))=true:=Ze (by omega);have hC:decide (i<mn)=true:=Ze hlt;have y0:wr.cell? ⟨F,0,none⟩=some (.int .i64 P):=Zc wr F 0 _ _ _ fB.out;have y1:wr.cell? ⟨F+1,0,none⟩=some (.int .i64 nn):=Zc wr (F+1) 0 _ _ _ dC.out;have y2:wr.cell? ⟨F+1,1,none⟩=some (.int .i64 tn):=Zc wr (F+1) 1 _ _ _ dC.out;have y3:wr.cell? ⟨F+2,0,none⟩=some (.slice A1 n0 c1):=Zc wr (F+2) 0 _ _ _ bQ.out;have y4:wr.cell? ⟨F+2,1,none⟩=some (.int .i64 q):=Zc wr (F+2) 1 _ _ _ bQ.out;go_wp2_with fail;(with_reducible refine (Th l q P tn _ wr fJ.out.si (by unfold At;omega)).mono ?_)
   rintro e w5 ⟨v6,a6,v5,rfl,bE,eT,eS⟩;clear y0 y1 y2 y3 y4;obtain⟨er,eP⟩:∃er,er=dsE l q P tn:=⟨_,rfl⟩;rw[←eP] at eT eS⊢;have dB:=Zk eP;have dL:=Zk eT;have dJ:=Zk eS;have cG:=Zk bE;have fZ:=bE.size;have dD:Hid (w5.heap[F+2]? =some (.cells #[.slice A1 n0 c1,.int .i64 q] 45 (0,0))):=Zk ((bE.block (F+2) (by omega)).trans bQ.out);have gW:Hid (w5.heap[F+3]? =some (.cells #[.slice none 0 0,.int .i64 0] 45 (0,0))):=Zk ((bE.block (F+3) (by omega)).trans bC.out);have bL:Hid (Below w.heap.size w w5):=Zk (cY.out.trans (bE.mono cY.out.size));clear eP eT eS bE;obtain⟨R,hR⟩:∃R,K=i*tn+(tn+R):=by
    have h1:(i+1)*tn≤mn*tn:=Nat.mul_le_mul_right tn hlt;rw[Nat.succ_mul] at h1;exact⟨K- (i*tn+tn),by have:=HK.out;omega⟩
   have cZ:=Zk (Ye (an:=an) (P:=P) (l:=l) hR bU.out aO.out);have gJ:Hid (i*tn+tn≤K):=Zk (by show _≤_;omega);clear hR;by_cases he:er=0
   case' neg=>
    obtain⟨rfl,rfl,rfl⟩:=dJ.out he;have dz:(er !=0)=true:=by rw[bne_iff_ne];exact he
    have HE:Hid (gqI P nn tn Gn mn wn l an=er):=Zk (by
     show _=_;rw[fG.out,cZ.out,if_neg (by rw[←dB.out];exact he)];exact dB.out.symm)
    have bS:Hid (gqI P nn tn Gn mn wn l an≠0):=Zk (by rw[HE.out];exact he);clear he dL dJ cZ;obtain⟨X,eX⟩:∃X,X=w5.heap.size:=⟨_,rfl⟩;obtain⟨w6,cI⟩:∃w6:World,w6=w5.alloc (.cells #[.slice none 0 0,.int .i64 0] 45):=⟨_,rfl⟩;have dT:Hid (w5.alloc (.cells #[.slice none 0 0,.int .i64 0] 45)=w6):=cI.symm;have bJ:Hid (Below w5.heap.size w5 w6):=Zk (by rw[cI];exact (Zb _ w5).alloc (Zl _) _);have HX0w6:Hid (w6.heap[X]? =some (.cells #[.slice none 0 0,.int .i64 0] 45 (0,0))):=Zk (by show _=_;rw[cI,eX];exact Zh w5 _);have bV:Hid (w6.heap[F+3]? =some (.cells #[.slice none 0 0,.int .i64 0] 45 (0,0))):=Zk ((bJ.out.block (F+3) (by omega)).trans gW.out);have cX:Hid (Below w.heap.size w w6):=Zk (bL.out.trans (bJ.out.mono bL.out.size));go_upto_region 11 with fail
    rw[dT.out,←eX];clear cI eX;have z0:w6.cell? ⟨F+3,0,none⟩=some (.slice none 0 0):=Zc w6 (F+3) 0 _ _ _ bV.out;have z1:w6.cell? ⟨F+3,1,none⟩=some (.int .i64 0):=Zc w6 (F+3) 1 _ _ _ bV.out;have g0:=Zf w6 (F+3) 0 _ _ bV.out;have g1:=Zf w6 (F+3) 1 _ _ bV.out;go_wp2_with fail;have h4:=Ck (.slice none 0 0) (.int .i64 0) bV.out;have aR:=(cX.out.setCell (p:=⟨F+3,0,none⟩) (by show _≤F+3;omega) (.slice none 0 0)).setCell (p:=⟨F+3,1,none⟩) (by show _≤F+3;omega) (.int .i64 0);generalize ((w6.setCell ⟨F+3,0,none⟩ (.slice none 0 0)).setCell ⟨F+3,1,none⟩ (.int .i64 0))=wE at h4 aR⊢;have q0:=Zc wE (F+3) 0 _ _ _ h4;have q1:=Zc wE (F+3) 1 _ _ _ h4;simp at q0 q1;refine bodyPost_ret (v:= .tuple #[.slice none 0 0,.agg #[.slice none 0 0,.int .i64 0],.int .i64 er]) (by simp[results,Tryz.results33,go_sem,q0,q1]) rfl ?_;exact⟨_,_,_,by rw[HE.out],aR,fun h=>absurd h bS.out,fun _=>⟨rfl,rfl,rfl⟩⟩
   subst he;obtain⟨rfl,cQ,bG⟩:=dL.out rfl;have cO:=dB.out.symm;have gL:=Zk (zCq bU.out aO.out cO);have cS:=Se cO;have aL:((l.drop q.toNat).take tn).length=tn∧els P ((l.drop q.toNat).take tn)=true:=by
    obtain⟨h1,h2⟩:=Uc (an:=q.toNat) (by rw[Int.toNat_of_nonneg cS];exact cO);rw[Int.toNat_natCast] at h1 h2;exact⟨h1,h2⟩
   have hU:0<n0:=by
    have h1:=aL.1;rw[List.length_take,List.length_drop] at h1;rw[dG.out];omega
   have hM:q.toNat=an.toNat+i*tn∧0≤an:=by
    have h1:=bU.out;have h2:0≤an:=by
     rcases Nat.eq_zero_or_pos i with h|h
     ·subst h;rw[h1] at cS;simpa using cS
     ·exact Se (aO.out h)
    refine⟨?_,h2⟩;rw[h1];omega
   rw[←dG.out] at cQ;obtain⟨b1,aF,hF,hb1,eK⟩:=Dg cQ hU;subst hF;have gN:=Zk cQ;rw[Int.toNat_natCast] at bG;obtain⟨dl,dX⟩:∃dl,dl=(l.drop q.toNat).take tn:=⟨_,rfl⟩;rw[←dX] at bG aL;have bO:Hid (gSl D tn i=dl):=Zk (by
    show _=_;unfold gSl;rw[HD.out,chunk (by have:=gJ.out;omega),←hM.1,dX])
   have dA:=Zk aL.2;have cN:=aL.1;have aG:=Zk cN;rw[cN] at bG;obtain⟨bd,cd,hE,hbd,eL⟩:=Dg bG (by omega);subst hE;have gM:=Zk bG;clear cQ bG cO cS dL dJ cZ dX aL cN;obtain⟨X,eX⟩:∃X,X=w5.heap.size:=⟨_,rfl⟩;obtain⟨wx,cK⟩:∃wx:World,wx=w5.alloc (.cells #[.slice (some ⟨b1,0,none⟩) n0 aF,.int .i64 (q+(tn:Int))] 45):=⟨_,rfl⟩;have dU:Hid (w5.alloc (.cells #[.slice (some ⟨b1,0,none⟩) n0 aF,.int .i64 (q+(tn:Int))] 45)=wx):=cK.symm;have aA:Hid (Below w5.heap.size w5 wx):=Zk (by rw[cK];exact (Zb _ w5).alloc (Zl _) _);have aQ:Hid (wx.heap[X]? =some (.cells #[.slice (some ⟨b1,0,none⟩) n0 aF,.int .i64 (q+(tn:Int))] 45 (0,0))):=Zk (by show _=_;rw[cK,eX];exact Zh w5 _);have hA:Hid (∀W,Below wx.heap.size wx W→W.cell? ⟨X,0,none⟩=some (.slice (some ⟨b1,0,none⟩) n0 aF)∧W.cell? ⟨X,1,none⟩=some (.int .i64 (q+(tn:Int)))):=Zk (fun W hg=>by
    have fN:=(hg.block X (Ae aQ.out)).trans aQ.out;exact⟨Zc W X 0 _ _ _ fN,Zc W X 1 _ _ _ fN⟩)
   have bR:Hid (wx.heap[F+2]? =some (.cells #[.slice A1 n0 c1,.int .i64 q] 45 (0,0))):=Zk ((aA.out.block (F+2) (by omega)).trans dD.out);have hzx:w5.heap.size≤wx.heap.size:=aA.out.size;go_upto_region 11 with fail
   rw[dU.out,←eX];clear cK eX;obtain⟨y0,y1⟩:=hA.out wx (Zb _ _);have z0:wx.cell? ⟨F+2,0,none⟩=some (.slice A1 n0 c1):=Zc wx (F+2) 0 _ _ _ bR.out;have z1:wx.cell? ⟨F+2,1,none⟩=some (.int .i64 q):=Zc wx (F+2) 1 _ _ _ bR.out;have g0:=Zf wx (F+2) 0 _ _ bR.out;have g1:=Zf wx (F+2) 1 _ _ bR.out;go_upto_region 14 with fail
   have eQ:=Ck (.slice (some ⟨b1,0,none⟩) n0 aF) (.int .i64 (q+(tn:Int))) bR.out;have bH:∀b,b≠F+2→((wx.setCell ⟨F+2,0,none⟩ (.slice (some ⟨b1,0,none⟩) n0 aF)).setCell ⟨F+2,1,none⟩ (.int .i64 (q+(tn:Int)))).heap[b]? =wx.heap[b]? :=fun b hb=>(Zo _ _ b _ (by show b≠F+2;exact hb)).trans (Zo _ _ b _ (by show b≠F+2;exact hb))
   have eI:=((HQ.out.below (cG.out.trans (aA.out.mono fZ))).set3 (p:=⟨F+2,0,none⟩) (by show F+2<_;omega) (.slice (some ⟨b1,0,none⟩) n0 aF)).set3 (p:=⟨F+2,1,none⟩) (by show F+2<_;omega) (.int .i64 (q+(tn:Int)));have eE:=Le (i:=1) (u:= .int .i64 (q+(tn:Int))) (Le (i:=0) (u:= .slice (some ⟨b1,0,none⟩) n0 aF) (Ag gG.out (Af (cG.out.trans (aA.out.mono fZ)) (some (F+2)))));have gA:((wx.setCell ⟨F+2,0,none⟩ (.slice (some ⟨b1,0,none⟩) n0 aF)).setCell ⟨F+2,1,none⟩ (.int .i64 (q+(tn:Int)))).heap.size=wx.heap.size:=by simp
   generalize ((wx.setCell ⟨F+2,0,none⟩ (.slice (some ⟨b1,0,none⟩) n0 aF)).setCell ⟨F+2,1,none⟩ (.int .i64 (q+(tn:Int))))=w6 at eQ bH eI eE gA⊢;have gE:=Zk eQ;have fF:=Zk eI;have bA:=Zk eE;have gB:Hid (w6.heap[b1]? =w5.heap[b1]?):=Zk ((bH b1 (by omega)).trans (aA.out.block b1 eK));have gC:Hid (w6.heap[bd]? =w5.heap[bd]?):=Zk ((bH bd (by omega)).trans (aA.out.block bd eL));have aU:Hid (w6.heap[F+1]? =some (.cells #[.int .i64 nn,.int .i64 tn,.int .i64 Gn] 29 (0,0))):=Zk ((bH (F+1) (by omega)).trans ((aA.out.block (F+1) (by omega)).trans ((cG.out.block (F+1) (by omega)).trans dC.out)));have bP:Hid (w6.heap[F]? =some (.cells #[.int .i64 P] 31 (0,0))):=Zk ((bH F (by omega)).trans ((aA.out.block F (by omega)).trans ((cG.out.block F (by omega)).trans fB.out)));have fC:Hid (∀k (h:k<vs.length),∀b,vs[k].ownBlock=some b→b<wr.heap.size):=Zk (fun k h b e=>((HQ.out.own k h (by rw[←HQ.out.len];exact h)).lt b e).2)
   have gV:=Zk (show q+(tn:Int)=an+(((i+1)*tn:Nat):Int) from by rw[bU.out,Nat.succ_mul];omega);have dP:Hid (SI w6 (.slice (some ⟨bd,0,none⟩) tn cd) dl):=Zk (by
    have h1:w6.ownsRow wr.heap.size 3 1 (.slice (some ⟨bd,0,none⟩) tn cd) tn (dl.map (Value.int .i64)):=Bu gM.out (fun b hb=>by
     have e:bd=b:=by simpa [Value.ownBlock] using hb
     rw[←e];exact gC.out)
    have h2:=SI.of_own (l:=dl) (by rw[aG.out];exact h1) (Ci bD.2 dA.out);exact h2)
   clear eQ bH eI eE y0 y1 z0 z1 g0 g1;obtain⟨wq,rfl⟩:∃wq:World,wq=wr:=⟨_,rfl⟩;have s2:w6.cell? ⟨F+1,2,none⟩=some (.int .i64 Gn):=Zc w6 (F+1) 2 _ _ _ aU.out;obtain⟨M,eM⟩:∃M,M=w6.heap.size:=⟨_,rfl⟩;obtain⟨w7,cJ⟩:∃w7:World,w7=w6.alloc (.cells ((Ay Gn).map (Value.int .i64)).toArray 3):=⟨_,rfl⟩;have cH:Hid (Below w6.heap.size w6 w7):=Zk (by rw[cJ];exact (Zb _ _).alloc (Zl _) _);have gI:Hid (BK w7 M (Ay Gn)):=Zk (by rw[cJ,eM];exact Zh w6 _);have gO:Hid (w7.ownsRow w6.heap.size 3 1 (.slice (some ⟨M,0,none⟩) Gn Gn) (Ay Gn).length ((Ay Gn).map (Value.int .i64))):=Zk (by
    have h:=BK.own gI.out (base:=w6.heap.size) (by omega) (by simp[Ay];omega);rw[show (Ay Gn).length=Gn by simp[Ay]] at h⊢;exact h)
   have dQ:Hid (SI w7 (.slice (some ⟨bd,0,none⟩) tn cd) dl):=Zk (dP.out.below cH.out);have HM:=Zk eM;have cN:=aG.out;go_upto_region 15 with (first
    |(at_make;refine Bn _ rfl _ _ 22 rfl 3 Tryz.underlying22 Bi _ Gn rfl rfl rfl (by omega) ?_;rw[←cJ,←eM];clear cJ eM s2)
    |(at_builtin;refine Bv _ rfl _ _ 22 rfl w6.heap.size 3 Tryz.underlying22 Bi (.slice (some ⟨M,0,none⟩) Gn Gn) (Ay Gn) rfl gO.out w7.heap.size _ dl rfl dQ.out (by simp[Ay];omega) cH.out.size ?_;intro v8 w8 aT fR;have dK:=Zk aT;have gF:=Zk fR;clear aT fR))
   have dW:Hid ((Ay Gn++dl).length=Gn+tn):=Zk (by show _=_;rw[List.length_append,aG.out];simp[Ay]);obtain⟨bp,cp,hG,hN,eN⟩:=Dg dK.out (by rw[dW.out];omega);subst hG;rw[dW.out];have aK:Hid (w8.ownsRow w6.heap.size 3 1 (.slice (some ⟨bp,0,none⟩) (Gn+tn) cp) (Gn+tn) ((Ay Gn++dl).map (Value.int .i64))):=Zk (by
    have h:=dK.out;rw[dW.out] at h;exact h)
   have bM:Hid (Below w6.heap.size w6 w8):=Zk (cH.out.grown gF.out cH.out.size (fun b hb=>by have e:M=b:=(by simpa [Value.ownBlock] using hb);have:=HM.out;omega))
   have dM:Hid (∃w9:World,Below w6.heap.size w6 w9∧w9.ownsRow w6.heap.size 3 1 (.slice (some ⟨bp,0,none⟩) (Gn+tn) cp) (Gn+tn) ((Im wn D tn Gn i).map (Value.int .i64))∧((i=wn∧w9=w8.setCell ⟨bp,0,none⟩ (.int .i64 1))∨(i≠wn∧w9=w8))):=Zk (by
    have fP:∀u:Int,(if (i:Int)=(wn:Int) then (1:Int) else 0)=u→Im wn D tn Gn i=(Ay Gn++dl).set 0 u:=fun u hu=>by unfold Im;rw[bO.out,hu]
    by_cases he:i=wn
    ·refine⟨_,bM.out.setCell (by show _≤bp;exact hN) (.int .i64 1),?_,.inl ⟨he,rfl⟩⟩;have h:=Ln aK.out 0 (.int .i64 1);rw[fP 1 (if_pos (by omega)),List.map_set];exact h
    ·refine⟨w8,bM.out,?_,.inr ⟨he,rfl⟩⟩;have h0:(Ay Gn++dl).set 0 0=Ay Gn++dl:=by
      obtain⟨q,rfl⟩:∃q,Gn=q+1:=⟨Gn-1,by omega⟩;rfl
     rw[fP 0 (if_neg (by omega)),h0];exact aK.out)
   have c0:w8.cell? ⟨bp,0,none⟩=some (.int .i64 0):=by
    have h:=aK.out.cellAt 0 (by omega);obtain⟨q,rfl⟩:∃q,Gn=q+1:=⟨Gn-1,by omega⟩;exact h
   have f0:=Gl aK.out 0;have hZ:(0:Int)<((Gn+tn:Nat):Int):=by omega
   obtain⟨np,dZ⟩:∃np,np=Gn+tn:=⟨_,rfl⟩;rw[←dZ] at dM hZ⊢;have gK:=Zk dZ;clear dZ;obtain⟨w9,fO,fW,fY⟩:=dM.out;have aC:=Zk fO;have fD:=Zk fW;clear dM fO fW dK aK eN;have bY:(i=wn∧w9=w8.setCell ⟨bp,0,none⟩ (.int .i64 1))∨(i≠wn∧w9=w8):=fY;clear fY;have hz6':w6.heap.size=wx.heap.size:=gA;have HXA:Hid (∀W,Below w9.heap.size w9 W→W.cell? ⟨F,0,none⟩=some (.int .i64 P)∧W.cell? ⟨F+1,0,none⟩=some (.int .i64 nn)):=Zk (fun W hb=>by
    have h0:=((aC.out.trans (hb.mono aC.out.size)).block F (by omega)).trans bP.out;have h1:=((aC.out.trans (hb.mono aC.out.size)).block (F+1) (by omega)).trans aU.out;exact⟨Zc W F 0 _ _ _ h0,Zc W (F+1) 0 _ _ _ h1⟩)
   have hGx6:G<w6.heap.size:=fF.out.lt;have gU:Hid (QR G w9 vs (Db P wn D tn Gn nn i)):=Zk (fF.out.below aC.out);have hz9:=aC.out.size;have hbp9:bp<w9.heap.size:=(fD.out.lt bp rfl).2;have cW:Hid (w9.heap[b1]? =w5.heap[b1]?):=Zk ((aC.out.block b1 (by omega)).trans gB.out);have dE:Hid (w9.heap[F+2]? =some (.cells #[.slice (some ⟨b1,0,none⟩) n0 aF,.int .i64 (q+(tn:Int))] 45 (0,0))):=Zk ((aC.out.block (F+2) (by omega)).trans gE.out);have gX:Hid (∀W:World,w9.heap.size≤W.heap.size→W.heap[bp]? =w9.heap[bp]? →SI W (.slice (some ⟨bp,0,none⟩) np cp) (Im wn D tn Gn i)):=Zk (fun W hs hW=>by
    have h1:W.ownsRow w6.heap.size 3 1 (.slice (some ⟨bp,0,none⟩) np cp) np ((Im wn D tn Gn i).map (Value.int .i64)):=Bu fD.out (fun b hb=>by
     have e:bp=b:=by simpa [Value.ownBlock] using hb
     rw[←e];exact hW)
    have hl:(Im wn D tn Gn i).length=np:=by rw[Qi,bO.out,aG.out,gK.out]
    have h2:=SI.of_own (l:=Im wn D tn Gn i) (by rw[hl];exact h1) (Ci bD.2 (Qh bD.1 (by omega) (by rw[bO.out];exact dA.out)));exact h2)
   have gY:Hid (∀(W:World) (j:Nat),j<nn→w9.heap.size≤W.heap.size→W.heap[bp]? =w9.heap[bp]? →Calls Tryz.prog 59 #[.agg #[.int .i64 P],.slice (some ⟨bp,0,none⟩) np cp,.int .i64 ((j:Int)+1)] W fun e w'=>∃er,e= .returned (.tuple #[.int .i64 (gPt P wn D tn Gn i ((j:Int)+1)),.int .i64 er])∧Below W.heap.size W w'):=Zk (fun W j hj hs hW=>by
    have hQ:(Im wn D tn Gn i).length≤512:=by rw[Qi,bO.out,aG.out];omega
    have hO:els P (Im wn D tn Gn i)=true:=Qh bD.1 (by omega) (by rw[bO.out];exact dA.out);have hv:=zFv (x:=(j:Int)+1) (zEi gT.out hO hQ) ⟨by omega,by omega⟩;refine (Mp P ((j:Int)+1) (Im wn D tn Gn i) _ W hP (by unfold At;omega) (gX.out W hs hW) (by omega)).mono fun e w' h=> ?_
    obtain⟨h1,h2⟩:=h;rw[hv,Yn wn D tn Gn i _ (by omega)] at h1;exact⟨_,h1,h2⟩)
   rcases bY with⟨he,eB⟩|⟨he,eB⟩
   case' inl=>
    have k1:((i:Int)==(wn:Int))=true:=by rw[beq_iff_eq];omega
    have k2:(i==wn)=true:=by rw[beq_iff_eq];exact he
   case' inr=>
    have k1:((i:Int)==(wn:Int))=false:=by rw[beq_eq_false_iff_ne];omega
    have k2:(i==wn)=false:=by rw[beq_eq_false_iff_ne];exact he
   all_goals
    have gZ:=Zk eB;clear eB he;go_upto_region 17 with fail
    rw[←gZ.out];clear c0 f0 k1 k2;go_wp2_with fail;go_loopw [21] (fun v wr=>QgS P wn D tn Gn nn i G w9 bp b1 v wr) (fun v _=>(nn+1)- (intOf v).toNat)
    case atStart=>
     refine⟨0,vs,Nat.zero_le _,rfl,by rw[Vy];exact gU.out,Zb _ _,rfl,fun k hk e=> ?_,rfl,fun k hk e=> ?_⟩
     ·have:=fC.out k hk bp e;omega
     ·have:=fC.out k hk b1 e;omega
    case round=>
     obtain⟨j,cU,hj,rfl,cD,aE,fU,fT,cB,cA⟩:=hrel;have dN:=Zk cD;have aB:=Zk aE;have fE:=Zk fU;have dI:=Zk fT;have bT:=Zk cB;have dH:=Zk cA;have eZ:=aE.size;have dV:Hid (∀b,b<G→wr.heap[b]? =w9.heap[b]?):=Zk (fun b hb=>aE.block b hb)
     clear cD aE fU fT cB cA;have y1:wr.cell? ⟨F+1,0,none⟩=some (.int .i64 nn):=Zc wr (F+1) 0 _ _ _ ((dV.out (F+1) (by omega)).trans ((aC.out.block (F+1) (by omega)).trans aU.out));have y0:wr.cell? ⟨F,0,none⟩=some (.int .i64 P):=Zc wr F 0 _ _ _ ((dV.out F (by omega)).trans ((aC.out.block F (by omega)).trans bP.out));by_cases hlt2:j<nn
     ·have e1:decide ((j:Int)+1≤(nn:Int))=true:=Ze (by omega);go_wp2_with fail;(with_reducible refine (gY.out wr j hlt2 eZ fE.out).mono ?_)
      rintro e wv ⟨er2,rfl,eO⟩;have bN:=Zk eO;have hzv:=eO.size;clear eO y0 y1;have hvl:cU.length=nn:=by rw[dN.out.len,Md]
      have bF:j<cU.length:=by omega
      have bZ:j<(Gh P wn D tn Gn nn i j).length:=by rw[Md];exact hlt2
      obtain⟨y,hy⟩:∃y,gPt P wn D tn Gn i ((j:Int)+1)=y:=⟨_,rfl⟩;rw[hy];have HY:=Zk hy;have aV:Hid (QR G wv cU (Gh P wn D tn Gn nn i j)):=Zk (dN.out.below bN.out);have hI:G<wv.heap.size:=aV.out.lt;obtain⟨Aj,cj,cF⟩:=Ct (aV.out.own j bF bZ);obtain⟨R',hR⟩:∃R',(Gh P wn D tn Gn nn i j)[j]=R':=⟨_,rfl⟩;have eJ:Ds P wn D tn Gn j i=R':=by rw[←Yp P wn D tn Gn nn i j bZ];exact hR
      have hL:R'.length=i:=by rw[←eJ,Hd]
      rw[hR] at cF;have cR:=aV.out.own j bF bZ;rw[cF,hR] at cR;have gQ:=Zk cR;have eY:=aV.out.cell bF;rw[cF] at eY;have dR:=Zk cF;have fI:=Zk hR;have dO:=Zk eJ;have hJ:R'.length≤2000:=by omega
      have fS:∀b,(Value.slice Aj R'.length cj).ownBlock=some b→G+1≤b∧b<wv.heap.size:=fun b hb=>cR.lt b hb
      have gH:=Zk fS;have m1:IntKind.i64.wrap (j:Int)=(j:Int):=by exact Zi _ (by omega)
      have m2:IntKind.i64.wrap ((j:Int)+1-1)=(j:Int):=by rw[Int.add_sub_cancel];exact Zi _ (by omega)
      have m3:IntKind.i64.wrap ((j:Int)+1+1)=(j:Int)+1+1:=by exact Zi _ (by omega)
      have e3:(0:Int)≤(j:Int):=by omega
      have e4:(j:Int)<(nn:Int):=by omega
      clear cF hR eJ hL cR fS hy;obtain⟨rl,eA⟩:∃rl,rl=R'.length:=⟨_,rfl⟩;have aW:=Zk eA;rw[←eA] at eY hJ;have gP:Hid (wv.ownsRow (G+1) 3 1 (.slice Aj rl cj) rl (R'.map (Value.int .i64))):=Zk (by rw[aW.out];exact gQ.out);clear eA;go_wp2_with (at_builtin;refine Dm _ (by rfl) _ _ 22 (by rfl) (G+1) 3 (.int .i64 0) 1 8 Tryz.underlying22 Bi _ rl (R'.map (Value.int .i64)) (by rfl) (gP.out.alloc (.cells #[.int .i64 y] 3)) [.int .i64 y] (by rfl) (by intro u hu;simp at hu;subst hu;rfl) wv.heap.size (by rfl) (fun k u hu=>by have h:=Ba wv [.int .i64 y] 3 k u hu;rw[Jd] at h;exact h) (by omega) (by omega) (by rfl) (by omega) (by simp;omega) ?_;intro gg bW wy aS cP bX;have eD:wy.heap[G]? =_:=(cP.block G (by simp;omega) (fun e=>by have:=(gH.out G (by rw[←aW.out];exact e.symm)).1;omega)).trans ((Below.heap_alloc wv _ _ hI).trans aV.out.cells);have iA:wy.cell? ⟨G,j,none⟩=some (.slice Aj rl cj):=(Zc wy G j _ _ _ eD).trans (by rw[List.getElem?_toArray,List.getElem?_eq_getElem bF,dR.out,←aW.out]);have iB:wy.frozen? ⟨G,j,none⟩=false:=Zf wy G j _ _ eD)
      have aM:wy.ownsRow (G+1) 3 1 (.slice (some ⟨gg,0,none⟩) (R'++[y]).length bW) (R'++[y]).length ((R'++[y]).map (Value.int .i64)):=by
       rw[List.length_append,List.map_append,←aW.out];exact aS
      have eR:(wv.alloc (.cells #[.int .i64 y] 3)).grownBy wy (Value.slice Aj R'.length cj).ownBlock:=by rw[←aW.out];exact cP
      have aY:(Value.slice Aj R'.length cj).ownBlock=some gg∨gg=(wv.alloc (.cells #[.int .i64 y] 3)).heap.size:=by rw[←aW.out];exact bX
      have cE:(Gh P wn D tn Gn nn i j).set j (R'++[y])=Gh P wn D tn Gn nn i (j+1):=by
       rw[←dO.out,←HY.out];exact Vx P wn D tn Gn nn i j hlt2
      obtain⟨eU,fV,eV,hX⟩:=QR.roundL aV.out bF bZ dR.out fI.out aM eR aY (aB.out.trans (bN.out.mono (by omega))) (show bp<wv.heap.size by omega) (show bp≠G by omega) dI.out;obtain⟨_,_,eW,hY⟩:=QR.roundL aV.out bF bZ dR.out fI.out aM eR aY (aB.out.trans (bN.out.mono (by omega))) (show b1<wv.heap.size by omega) (show b1≠G by omega) dH.out;rw[cE] at eU;obtain⟨cV,aP⟩:∃cV:World,cV=wy.setCell ⟨G,j,none⟩ (.slice (some ⟨gg,0,none⟩) (R'++[y]).length bW):=⟨_,rfl⟩;rw[←aP] at eU fV eV eW;rw[List.length_append,show [y].length=1 from rfl,←aW.out] at aP;have gR:Hid (cV.heap[bp]? =w9.heap[bp]?):=Zk (eV.out.trans ((bN.out.block bp (by omega)).trans fE.out));have gS:Hid (cV.heap[b1]? =w9.heap[b1]?):=Zk (eW.out.trans ((bN.out.block b1 (by omega)).trans bT.out));clear eV eW aS aM cP eR bX aY eD iA iB cE eY;rw[←aP];clear aP;go_wp2_with fail;go_roundw
      case rel=>exact⟨j+1,_,by omega,by go_num,eU.out,fV.out,gR.out,hX.out,gS.out,hY.out⟩
      case measure=>simp[intOf];omega
     ·have hT:j=nn:=by omega
      subst hT;have e1:decide ((j:Int)+1≤(j:Int))=false:=Zd (by omega);have w2':IntKind.i64.wrap ((i:Int)+1)=(i:Int)+1:=by exact Zi _ (by omega)
      clear hlt2;go_wp2_with fail;go_roundw
      case rel=>
       refine⟨i+1,cU,some ⟨b1,0,none⟩,aF,q+(tn:Int),by omega,by go_num,gV.out,by rw[←Yo,←HG.out];exact dN.out,?_,?_,?_,fun _=>gL.out⟩
       ·exact⟨aB.out.os.trans (aC.out.os.trans bA.out.os),aB.out.tape.trans (aC.out.tape.trans bA.out.tape),aB.out.output.trans (aC.out.output.trans bA.out.output),Nat.le_trans bA.out.size (Nat.le_trans aC.out.size aB.out.size),fun k hk hn=>(aB.out.block k (by rw[HG.out];exact hk)).trans ((aC.out.block k (by have:=bA.out.size;omega)).trans (bA.out.block k hk hn))⟩
       ·exact (dV.out (F+2) (by omega)).trans dE.out
       ·have h1:wr.heap[b1]? =w5.heap[b1]? :=bT.out.trans cW.out;have h2:wr.ownsRow wq.heap.size 3 1 (.slice (some ⟨b1,0,none⟩) n0 aF) n0 (l.map (Value.int .i64)):=Bu gN.out (fun b hb=>by
         have e:b1=b:=by simpa [Value.ownBlock] using hb
         rw[←e];exact h1)
        rw[dG.out] at h2⊢;obtain⟨_,_,_,_,_,hr,_⟩:=HS.out;exact SE.of_own h2 hr (by omega)
      case measure=>simp[intOf];omega
  ·have hS:i=mn:=by omega
   subst hS;have dk:decide ((i:Int)<(i:Int))=false:=Zd (by omega);have hC:decide (i<i)=false:=Zd (by omega);have HE:Hid (gqI P nn tn Gn i wn l an=0):=Zk (by
    show _=_;rw[fG.out,HK.out];exact aO.out (by omega))
   have y3:wr.cell? ⟨F+2,0,none⟩=some (.slice A1 n0 c1):=Zc wr (F+2) 0 _ _ _ bQ.out;have y4:wr.cell? ⟨F+2,1,none⟩=some (.int .i64 q):=Zc wr (F+2) 1 _ _ _ bQ.out;have z0:wr.cell? ⟨F+3,0,none⟩=some (.slice none 0 0):=Zc wr (F+3) 0 _ _ _ bC.out;have z1:wr.cell? ⟨F+3,1,none⟩=some (.int .i64 0):=Zc wr (F+3) 1 _ _ _ bC.out;have g0:=Zf wr (F+3) 0 _ _ bC.out;have g1:=Zf wr (F+3) 1 _ _ bC.out;clear hlt;go_wp2_with fail;go_region_held3 (fun w'=>w'.cell? ⟨F+2,0,none⟩=some (.slice A1 n0 c1)∧w'.cell? ⟨F+2,1,none⟩=some (.int .i64 q)) (first|exact⟨y3,y4⟩|go_keep) (fail)
   all_goals
    go_wp2_with fail;have HW:=Ck (.slice A1 n0 c1) (.int .i64 q) bC.out;have q0:=Zc _ (F+3) 0 _ _ _ HW;have q1:=Zc _ (F+3) 1 _ _ _ HW;simp only[List.getElem?_toArray,List.getElem?_cons_zero,List.getElem?_cons_succ] at q0 q1;have fA:Hid (Below w.heap.size w ((wr.setCell ⟨F+3,0,none⟩ (.slice A1 n0 c1)).setCell ⟨F+3,1,none⟩ (.int .i64 q))):=Zk ((cY.out.setCell (by show _≤F+3;omega) _).setCell (by show _≤F+3;omega) _);have fK:Hid (SI ((wr.setCell ⟨F+3,0,none⟩ (.slice A1 n0 c1)).setCell ⟨F+3,1,none⟩ (.int .i64 q)) (.slice A1 n0 c1) l):=Zk ((fJ.out.grown (Le (Le (Ai _ _)))).si);have fH:Hid (∀g,g<w.heap.size→SLE g ((wr.setCell ⟨F+3,0,none⟩ (.slice A1 n0 c1)).setCell ⟨F+3,1,none⟩ (.int .i64 q)) (.slice (some ⟨G,0,none⟩) nn nn) (Db P wn D tn Gn nn i)):=Zk (fun g hg=>by
     have h:=((HQ.out.set3 (p:=⟨F+3,0,none⟩) (by show F+3<_;omega) (.slice A1 n0 c1)).set3 (p:=⟨F+3,1,none⟩) (by show F+3<_;omega) (.int .i64 q)).sleG (g:=g) (by omega) (fun r hr x hx=>by
      obtain⟨k,_,rfl⟩:=List.mem_map.1 hr;exact Ci bD.2 (Hc bD.1 ..) x hx) (by rw[Dn];omega)
     rw[Dn] at h;exact h)
    have gD:Hid ((l.drop an.toNat).take (((i:Int)*(tn:Int)).toNat)=D):=Zk (by show _=_;rw[dF.out,HD.out];rfl);refine bodyPost_ret (v:= .tuple #[.slice (some ⟨G,0,none⟩) nn nn,.agg #[.slice A1 n0 c1,.int .i64 q],.int .i64 0]) (by simp[results,Tryz.results33,go_sem,q0,q1]) rfl ?_;refine⟨_,_,_,by rw[HE.out],?_,fun _=>⟨by rw[dF.out,bU.out,HK.out],?_,?_⟩,fun h=>absurd HE.out h⟩
    ·first|exact fA.out|exact fA.out.drew
    ·first|exact fK.out|exact fK.out.below (Zb _ _).drew
    ·rw[gD.out];first|exact fH.out|exact fun g hg=>(fH.out g hg).below (Zb _ _).drew
open Go.RowKit Go.Shelf
theorem SG.take{α:Type}{enc:α→List Int}{sz B n c:Nat}{A:Option Addr}{w:World}{l:List α}(h:SG enc sz B w (.slice A n c) l){m:Nat}(hm:m≤l.length):SG enc sz B w (.slice A m c) (l.take m):=by
 obtain⟨A',c',e,h1,h2,h3,h4⟩:=h;injection e with e1 e2 e3;subst e1 e3;have hl:(l.take m).length=m:=by rw[List.length_take];omega
 refine⟨A,c,by rw[hl],by omega,h2,fun x hx=>h3 x (List.mem_of_mem_take hx),fun h0=> ?_⟩
 obtain⟨b,aA,e,hb,hc⟩:=h4 (by omega);refine⟨b,aA,e,hb,fun j hj i hi=> ?_⟩
 rw[List.getElem_take];exact hc j (by omega) i hi
theorem SG.capB{α:Type}{enc:α→List Int}{sz B n c:Nat}{A:Option Addr}{w:World}{l:List α}(h:SG enc sz B w (.slice A n c) l):l.length≤c:=by
 obtain⟨A',c',e,h1,h2,h3,h4⟩:=h;injection e with e1 e2 e3;omega
theorem Wo(P:Int)(l:List (Int×Bool))(k:Int)(v:Value)(w:World)(hP:At P)(h:SCl w v l)(hz:l.length≤1000000):
  Calls Tryz.prog 106 #[.agg #[.int .i64 P],v,.int .i64 k] w fun e w'=>∃v',e= .returned (.tuple #[v',.int .i64 (fiE P l k)])∧Below w.heap.size w w':=by
 obtain⟨A,c,rfl⟩:=h.form;have HS:=Zk h;clear h;obtain⟨n,en⟩:∃n,n=l.length:=⟨_,rfl⟩;have HN:=Zk en;have HZ:=Zk hz;rw[←en] at HS hz⊢;clear en;go_enter Tryz.func106,Tryz.ntmps106;obtain⟨F,eF⟩:∃F,F=w.heap.size:=⟨_,rfl⟩;obtain⟨w1,aH⟩:∃w1:World,w1=w.alloc (.cells #[.int .i64 P] 31):=⟨_,rfl⟩;have aK:Hid (w.alloc (.cells #[.int .i64 P] 31)=w1):=aH.symm;have aC:Hid (Below w.heap.size w w1):=Zk (by rw[aH];exact (Zb _ w).alloc (Zl _) _);have aD:Hid (w1.heap[F]? =some (.cells #[.int .i64 P] 31 (0,0))):=Zk (by show _=_;rw[aH,eF];exact Zh w _);have aL:Hid (∀W,Below w1.heap.size w1 W→W.cell? ⟨F,0,none⟩=some (.int .i64 P)):=Zk (fun W hg=>by
  have bA:=(hg.block F (Ae aD.out)).trans aD.out;exact (Zc W F 0 _ _ _ bA))
 go_upto_region 1 with fail
 rw[aK.out,←eF];clear aH eF;have x0:=aL.out w1 (Zb _ _);go_wp2_with fail;(with_reducible refine (Mq P l k _ w1 hP (HS.out.below aC.out) HZ.out).mono ?_)
 rintro e w2 ⟨rfl,aS⟩;have aG:Hid (Below w1.heap.size w1 w2):=Zk (aS);have aI:Hid (∀W,Below w1.heap.size w1 W→Below w.heap.size w W):=Zk (fun W hW=>aC.out.trans (hW.mono aC.out.size))
 clear aS x0;by_cases hc:bgE P l k=0
 case' neg=>
  have aU:(bgE P l k !=0)=true:=by rw[bne_iff_ne];exact hc
  have HR:Hid (fiE P l k=bgE P l k):=Zk ((fi_bg hc).1);clear hc;go_wp2_with fail;refine bodyPost_ret (v:= .tuple #[.slice none 0 0,.int .i64 (bgE P l k)]) (by simp[results,Tryz.results106,go_sem]) rfl ?_;rw[HR.out];exact⟨_,rfl,aI.out _ aG.out⟩
 have aU:(bgE P l k !=0)=false:=by rw[bne_eq_false_iff_eq];exact hc
 have aM:=zCg hc;have HC:Hid (bgE P l k=0):=hc;have hk1:1≤k∧k≤(n:Int):=by rw[HN.out];exact aM.2
 have aO:Hid (ceE P l=0):=aM.1;rw[hc];clear hc aU aM;have aY:Hid (SCl w2 (.slice A n c) l):=Zk ((HS.out.below aC.out).below aG.out);have aP:Hid ((kn l).length≤n):=Zk (by have h1:=Ft l 0;have h2:=HN.out;show (knF 0 l).length≤n;omega);have aV:∀t∈kn l,At t.1∧At t.2:=by
  obtain⟨A',c',e',hc',hm',bC,ha'⟩:=HS.out;exact Ss HZ.out bC
 have aR:=Zk aV;clear aV;go_wp2_with fail;(with_reducible refine (Gr l _ w2 aY.out HZ.out).mono ?_)
 rintro e w3 ⟨v3,rfl,aB,aT⟩;have aW:=Zk aT;have aJ:Hid (SG pcs 2 w3.heap.size w3 v3 (kn l)):=Zk (SG.of_own aB (fun t ht y hy=>by simp[pcs] at hy;rcases hy with rfl|rfl;exact (aR.out t ht).1;exact (aR.out t ht).2) (fun _ _=>rfl))
 obtain⟨A3,c3,aZ⟩:=Ch aB;subst aZ;obtain⟨K,eK⟩:∃K,K=(kn l).length:=⟨_,rfl⟩;have HK:=Zk eK;rw[←eK] at aP aJ⊢;have hKn:=aP.out;have aA:Hid (Below w1.heap.size w1 w3):=Zk (aG.out.trans (aW.out.mono aG.out.size));clear aB aT eK;by_cases hfew:(K:Int)<k
 ·have d0:decide ((K:Int)<k)=true:=Ze hfew;have HR:Hid (fiE P l k=11):=Zk ((Yh aO.out (by have:=HN.out;omega) (by rw[←HK.out];exact hfew)).1);clear hfew;go_wp2_with fail;refine bodyPost_ret (v:= .tuple #[.slice none 0 0,.int .i64 11]) (by simp[results,Tryz.results106,go_sem]) rfl ?_;rw[HR.out];exact⟨_,rfl,aI.out _ aA.out⟩
 ·have d0:decide ((K:Int)<k)=false:=Zd hfew;obtain⟨kk,rfl⟩:∃kk:Nat,k=kk:=⟨k.toNat,by omega⟩;have bB:kk≤K:=by omega
  have d0n:decide (K<kk)=false:=Zd (by omega);have HR:Hid (fiE P l kk=inE P ((kn l).take kk)):=Zk ((zFn aO.out (by have:=HN.out;omega) (by rw[←HK.out];exact hfew)).1);have aQ:Hid (SG pcs 2 w3.heap.size w3 (.slice A3 kk c3) ((kn l).take kk)):=Zk (aJ.out.take (by rw[←HK.out];exact bB));have hc3:K≤c3:=by rw[HK.out];exact aJ.out.capB
  have x3:=aL.out w3 aA.out;have aX:Hid (((kn l).take kk).length≤1000000):=Zk (by show ((kn l).take kk).length≤_;rw[List.length_take];omega);have y1:(0:Int)≤(kk:Int):=by omega
  have y2:(kk:Int)≤(c3:Int):=by omega
  clear hfew;go_upto_region 7 with fail
  go_region_held3 (fun w'=>w'.cell? ⟨F,0,none⟩=some (.int .i64 P)) (first|exact x3|exact x4|go_keep)
   ((go_at_call 71;refine (Rh P ((kn l).take kk) _ _ hP (by first|exact aQ.out|exact aQ.out.below (Zb _ w3).drew) aX.out).mono ?_;rintro e w4 ⟨v4,rfl,aF,aE⟩;have aN:Hid (Below w3.heap.size w3 w4):=Zk (⟨aE.os,aE.tape,aE.output,aE.size,aE.block⟩);have x4:w4.cell? ⟨F,0,none⟩=some (.int .i64 P):=aL.out w4 (aA.out.trans (aN.out.mono aA.out.size));clear aF aE))
  go_wp2_with fail;refine bodyPost_ret (v:= .tuple #[v4,.int .i64 (inE P ((kn l).take kk))]) (by simp[results,Tryz.results106,go_sem]) rfl ?_;rw[HR.out];exact⟨_,rfl,aI.out _ (aA.out.trans (aN.out.mono aA.out.size))⟩
theorem Rj(n k:Nat)(w:World)(hk:1≤k)(hkn:k≤n)(hn:n≤32):
  Calls Tryz.prog 107 #[.int .i64 n,.int .i64 k] w fun e w'=>e= .returned (.tuple #[.int .i64 (((n-k)/2:Nat):Int),.int .i64 0])∧w=w':=by
 have d1:decide ((k:Int)<1)=false:=Zd (by omega);have d1n:decide (k<1)=false:=Zd (by omega);have d2:decide ((n:Int)<0)=false:=Zd (by omega);have d3:decide ((32:Int)<(n:Int))=false:=Zd (by omega);have d3n:decide (32<n)=false:=Zd (by omega);have d4:decide ((n:Int)<(k:Int))=false:=Zd (by omega);have d4n:decide (n<k)=false:=Zd (by omega);have u1:IntKind.i64.wrap ((n:Int)- (k:Int))=(n:Int)- (k:Int):=by exact Zi _ (by omega)
 have u2:((n:Int)- (k:Int)).tdiv 2=(((n-k)/2:Nat):Int):=by
  rw[Int.tdiv_eq_ediv_of_nonneg (by omega)];omega
 have u3:IntKind.i64.wrap ((((n-k)/2:Nat):Int))=(((n-k)/2:Nat):Int):=by exact Zi _ (by omega)
 obtain⟨e,ee⟩:∃e,e=(n-k)/2:=⟨_,rfl⟩;rw[←ee] at u2 u3⊢;clear ee;go_enter Tryz.func107,Tryz.ntmps107;go_wp2_with fail;refine bodyPost_ret (v:= .tuple #[.int .i64 e,.int .i64 0]) (by simp[results,Tryz.results107,go_sem]) rfl ?_;exact⟨rfl,rfl⟩
open Go.RowKit Go.Shelf
def wrK(P:Int)(l:List (Int×Bool))(p:List Int)(i:Nat):List Int:=(((kn l).take i).filter fun t=> !(val P p t.1==t.2)).map Prod.fst
theorem zCa(P:Int)(l:List (Int×Bool))(p:List Int){i:Nat}(h:i<(kn l).length):wrK P l p (i+1)=wrK P l p i++if (!(val P p (kn l)[i].1==(kn l)[i].2))=true then [(kn l)[i].1] else []:=by
 unfold wrK;rw[Qf (fun t=> !(val P p t.1==t.2)) (kn l) h,List.map_append]
 congr 1;split<;>rfl
theorem zFe(P:Int)(l:List (Int×Bool))(p:List Int)(i:Nat):(wrK P l p i).length≤i:=by
 unfold wrK;rw[List.length_map];refine Nat.le_trans (List.length_filter_le _ _) ?_;rw[List.length_take];omega
def RwrR(P:Int)(l:List (Int×Bool))(p:List Int)(w3:World)(iv pv:Value)(wr:World):Prop:=
 ∃i:Nat,i≤(kn l).length∧iv= .int .i64 i∧wr.ownsRow w3.heap.size 3 1 pv (wrK P l p i).length ((wrK P l p i).map (Value.int .i64))∧Below w3.heap.size w3 wr
theorem Tn(P:Int)(l:List (Int×Bool))(p:List Int)(v vp:Value)(w:World)(h:SCl w v l)(hc:ceE P l=0)(hp:SI w vp p)(hop:opE P [p]=0)(hpl:p.length≤1000000):
  Calls Tryz.prog 112 #[.agg #[.int .i64 P],v,vp] w fun e w'=>∃v',e= .returned v'∧w'.ownsRow w.heap.size 3 1 v' (wrg P l p).length ((wrg P l p).map (Value.int .i64))∧Below w.heap.size w w':=by
 obtain⟨i0,cG,cH,cI,cJ⟩:=info_parts Bi;have aQ:=Tx hc;have hP2:=Bj aQ.1;have cE:At P:=by unfold At;omega
 obtain⟨A,c,rfl⟩:=h.form;obtain⟨Ap,cp,rfl⟩:=hp.form;have HS:=Zk h;have bG:=Zk hp;have bU:=Zk hop;obtain⟨n,en⟩:∃n,n=l.length:=⟨_,rfl⟩;obtain⟨np,bK⟩:∃n,n=p.length:=⟨_,rfl⟩;have hl32:n≤32:=by rw[en];exact aQ.2.1
 have hlP:(n:Int)<P:=by rw[en];exact aQ.2.2.1
 have HZ:Hid (l.length≤1000000):=Zk (by show l.length≤1000000;omega);have bW:=Zk hpl;rw[←en] at HS⊢;rw[←bK] at bG⊢;have HN:=Zk en;have bP:∀t∈kn l,At t.1∧At t.2:=by
  obtain⟨A',c',e',hc',hm',cL,bB⟩:=h;exact Ss HZ.out cL
 have bH:=Zk bP;clear h hp hc hop hpl aQ en bK bP;go_enter Tryz.func112,Tryz.ntmps112;obtain⟨F,eF⟩:∃F,F=w.heap.size:=⟨_,rfl⟩;obtain⟨w1,aN⟩:∃w1:World,w1=w.alloc (.cells #[.int .i64 P] 31):=⟨_,rfl⟩;have aX:Hid (w.alloc (.cells #[.int .i64 P] 31)=w1):=aN.symm;have aH:Hid (Below w.heap.size w w1):=Zk (by rw[aN];exact (Zb _ w).alloc (Zl _) _);have aD:Hid (w1.heap[F]? =some (.cells #[.int .i64 P] 31 (0,0))):=Zk (by show _=_;rw[aN,eF];exact Zh w _);have bY:Hid (∀W,Below w1.heap.size w1 W→W.cell? ⟨F,0,none⟩=some (.int .i64 P)):=Zk (fun W hg=>by
  have cD:=(hg.block F (Ae aD.out)).trans aD.out;exact (Zc W F 0 _ _ _ cD))
 have aT:Hid (∀W,Below w1.heap.size w1 W→Below w.heap.size w W):=Zk (fun W hW=>aH.out.trans (hW.mono aH.out.size))
 go_upto_region 1 with fail
 rw[aX.out,←eF];clear aN eF;go_wp2_with fail;(with_reducible refine (Gr l _ w1 (HS.out.below aH.out) HZ.out).mono ?_)
 rintro e w3 ⟨v3,rfl,aB,bN⟩;have bE:Hid (SG pcs 2 w3.heap.size w3 v3 (kn l)):=Zk (SG.of_own aB (fun t ht y hy=>by simp[pcs] at hy;rcases hy with rfl|rfl;exact (bH.out t ht).1;exact (bH.out t ht).2) (fun _ _=>rfl))
 obtain⟨A3,c3,cB⟩:=Ch aB;subst cB;have cK:=Ft l 0;obtain⟨K,eK⟩:∃K,K=(kn l).length:=⟨_,rfl⟩;have hK32:K≤32:=by rw[eK];have:=HN.out;unfold kn;omega
 have HK:=Zk eK;rw[←eK] at bE⊢;have aA:Hid (Below w1.heap.size w1 w3):=Zk (bN);clear aB bN cK eK;go_wp2_with fail;go_loopw [15,7] (fun iv pv wr=>RwrR P l p w3 iv pv wr) (fun iv _ _=>K- (intOf iv).toNat)
 case atStart=>exact⟨0,Nat.zero_le _,rfl,by simpa [wrK] using World.ownsRow_nil w3 w3.heap.size 3 1,Zb _ _⟩
 case round=>
  obtain⟨i,hi,rfl,aM,bC⟩:=hrel;have HO:=Zk aM;have aV:=Zk bC;have bQ:=bC.size;rw[←HK.out] at hi;clear aM bC;have cC:(wrK P l p i).length≤i:=zFe P l p i;by_cases hli:i<K
  ·have di:decide ((i:Int)<(K:Int))=true:=Ze (by omega);have bZ:decide (i<K)=true:=Ze hli;have bD:i<(kn l).length:=by rw[←HK.out];exact hli
   obtain⟨A',c',bJ,_,_,_,bB⟩:=Ib ((bE.out.below aV.out).more bQ);rw[←HK.out] at bJ;injection bJ with eA1 eA2 eA3;obtain⟨b,off,eA,cF,aF⟩:=bB (by omega);obtain⟨c0,c1⟩:=aF i bD;rw[←eA1] at eA;subst eA;have aL:=Uw (List.getElem_mem bD);have bF:=Zk (zCa P l p bD);obtain⟨xv,aZ⟩:∃xv,xv=(kn l)[i].1:=⟨_,rfl⟩;obtain⟨yv,bA⟩:∃yv,yv=(kn l)[i].2:=⟨_,rfl⟩;have aC:Hid (wrK P l p (i+1)=wrK P l p i++if (!(val P p xv==yv))=true then [xv] else []):=Zk (by show _=_;rw[bF.out,aZ,bA]);rw[←aZ] at c0 aL;rw[←bA] at c1;have hx1:1≤xv∧xv<P:=by have:=HN.out;omega
   have cM:At xv:=by unfold At;omega
   have bX:Hid (rvV P xv p=val P p xv):=Zk (zFv bU.out (by omega));obtain⟨D,hD⟩:∃D,wrK P l p i=D:=⟨_,rfl⟩;rw[hD] at HO aC cC;clear aF aZ bA hD bB eA1 eA2 eA3 cF bF aL;obtain⟨X,eX⟩:∃X,X=wr.heap.size:=⟨_,rfl⟩;obtain⟨wx,aO⟩:∃wx:World,wx=wr.alloc (.cells #[.int .i64 xv,.int .i64 yv] 114):=⟨_,rfl⟩;have aY:Hid (wr.alloc (.cells #[.int .i64 xv,.int .i64 yv] 114)=wx):=aO.symm;have aJ:Hid (Below wr.heap.size wr wx):=Zk (by rw[aO];exact (Zb _ wr).alloc (Zl _) _);have aE:Hid (wx.heap[X]? =some (.cells #[.int .i64 xv,.int .i64 yv] 114 (0,0))):=Zk (by show _=_;rw[aO,eX];exact Zh wr _);have bI:Hid (∀W,Below wx.heap.size wx W→W.cell? ⟨X,0,none⟩=some (.int .i64 xv)∧W.cell? ⟨X,1,none⟩=some (.int .i64 yv)):=Zk (fun W hg=>by
    have bM:=(hg.block X (Ae aE.out)).trans aE.out;exact⟨Zc W X 0 _ _ _ bM,Zc W X 1 _ _ _ bM⟩)
   have aU:Hid (Below w3.heap.size w3 wx):=Zk (aV.out.trans (aJ.out.mono bQ));have bV:Hid (wx.ownsRow w3.heap.size 3 1 u7 D.length (D.map (Value.int .i64))):=Zk (Eo HO.out aJ.out);have cO:w3.heap.size≤wx.heap.size:=aU.out.size;have aK:Hid (Below w1.heap.size w1 wx):=Zk (aA.out.trans (aU.out.mono aA.out.size));go_upto_region 5 with fail
   rw[aY.out,←eX];clear aO eX;obtain⟨y0,y1⟩:=bI.out wx (Zb _ _);have f0:=bY.out wx aK.out;clear c0 c1;go_wp2_with fail;(with_reducible refine (Mp P xv p _ wx cE cM (bG.out.below (aT.out _ aK.out)) bW.out).mono ?_)
   rintro e w6 ⟨rfl,aP⟩;rw[bX.out];have aS:Hid (Below wx.heap.size wx w6):=Zk (aP);have aR:Hid (Below w3.heap.size w3 w6):=Zk (aU.out.trans (aP.mono cO));have cN:w3.heap.size≤w6.heap.size:=aR.out.size;have aW:Hid (w6.ownsRow w3.heap.size 3 1 u7 D.length (D.map (Value.int .i64))):=Zk (Eo bV.out aP);clear y0 y1 f0 aP;obtain⟨y0,y1⟩:=bI.out w6 aS.out;obtain⟨yy,bL⟩:∃yy,yy=val P p xv:=⟨_,rfl⟩;rw[←bL] at aC⊢;clear bL;by_cases hyy:yy=yv
   ·have cA:(yy !=yv)=false:=by rw[bne_eq_false_iff_eq];exact hyy
    have aI:Hid (wrK P l p (i+1)=D):=Zk (by show _=_;have h:=aC.out;simpa [hyy] using h);clear hyy;go_wp2_with fail;go_roundw
    case rel=>exact⟨i+1,by rw[←HK.out];omega,by go_num,by rw[aI.out];exact aW.out,aR.out⟩
    case measure=>simp[intOf];omega
   ·have cA:(yy !=yv)=true:=by rw[bne_iff_ne];exact hyy
    have aI:Hid (wrK P l p (i+1)=D++[xv]):=Zk (by show _=_;have h:=aC.out;simpa [hyy] using h);clear hyy;go_wp2_with (at_builtin;refine wpList_append_own _ rfl _ _ 22 rfl w3.heap.size 3 i0 (.int .i64 0) 1 8 Tryz.underlying22 cG cH cI cJ rfl (by omega) _ _ _ rfl (aW.out.alloc _) ⟨w6.heap.size,0,none⟩ 1 1 [.int .i64 xv] rfl rfl (Ba w6 _ _) (by intro u hu;simp at hu;subst hu;rfl) (by unfold maxLen;omega) (by omega) (by simp;omega) ?_;intro v9 w9 aG bO _;have bT:=Zk aG;have bS:=Zk bO;clear aG bO);go_roundw
    case rel=>
     refine⟨i+1,by rw[←HK.out];omega,by go_num,?_,?_⟩
     ·rw[aI.out];simpa using bT.out
     ·exact (aR.out.alloc cN _).grown bS.out (by simp;omega) (fun k hk=>(aW.out.lt k hk).1)
    case measure=>simp[intOf];omega
  ·have di:decide ((i:Int)<(K:Int))=false:=Zd (by omega);have bZ:decide (i<K)=false:=Zd hli;have bR:Hid (wrg P l p=wrK P l p i):=Zk (by show _=_;unfold wrK;rw[show i=(kn l).length by rw[←HK.out];omega,List.take_length];rfl);go_wp2_with fail;go_ret;rw[bR.out];exact⟨_,rfl,Mo HO.out (aT.out _ aA.out).size,aT.out _ (aA.out.trans (aV.out.mono aA.out.size))⟩
end Go.Proofs.YtoiabanpnkpbhaaGreatDoor
