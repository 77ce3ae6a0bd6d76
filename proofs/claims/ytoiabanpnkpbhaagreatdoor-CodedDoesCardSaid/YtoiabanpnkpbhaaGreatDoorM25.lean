/- Parts. -/
import Derived.Lib.SlicesCompact
set_option linter.unusedVariables false
set_option linter.unusedSimpArgs false
namespace Go.Proofs.YtoiabanpnkpbhaaGreatDoor
open Go.Lib
def srt(zs:List Int):List Int:=compact (zs.mergeSort fun x y=>decide (x≤y))
def inc(l:List Int):Prop:=l.Pairwise (· < ·)
theorem Ut:∀{a b:List Int},inc a→inc b→(∀x,x∈a↔x∈b)→a=b
 |[],b,_,_,h=>by
  cases b with
  |nil=>rfl
  |cons y b=>exact absurd ((h y).2 (by simp)) (by simp)
 |x::a,[],_,_,h=>absurd ((h x).1 (by simp)) (by simp)
 |x::a,y::b,ha,hb,h=>by
  obtain⟨aA,aC⟩:=List.pairwise_cons.1 ha;obtain⟨aB,aD⟩:=List.pairwise_cons.1 hb;have aE:x=y:=by
   have h1:=(h x).1 (by simp);have h2:=(h y).2 (by simp);simp only[List.mem_cons] at h1 h2;rcases h1 with h1|h1
   ·exact h1
   ·rcases h2 with h2|h2
    ·exact h2.symm
    ·have:=aB x h1;have:=aA y h2;omega
  subst aE;rw[Ut (a:=a) (b:=b) aC aD fun z=> ?_]
  have h3:=h z;simp only[List.mem_cons] at h3;constructor
  ·intro hz;have:=aA z hz;rcases h3.1 (.inr hz) with h4|h4
   ·omega
   ·exact h4
  ·intro hz;have:=aB z hz;rcases h3.2 (.inr hz) with h4|h4
   ·omega
   ·exact h4
theorem zCm(d:Array Int)(hs:∀i j,i≤j→j<d.size→d[i]! ≤d[j]!):∀m,m≤d.size→inc (compactUpTo d m)∧∀x,x∈compactUpTo d m↔∃j,j<m∧d[j]! =x:=by
 intro m;induction m with
 |zero=>intro _;exact⟨by simp[compactUpTo,inc],by simp[compactUpTo]⟩
 |succ m ih=>
  intro hm;obtain⟨h1,h2⟩:=ih (by omega);rw[compactUpTo_succ];by_cases hk:keeps d m=true
  ·rw[if_pos hk];refine⟨?_,fun x=> ?_⟩
   ·refine List.pairwise_append.2 ⟨h1,by simp,fun a ha b hb=> ?_⟩
    simp only[List.mem_singleton] at hb;subst hb;obtain⟨j,hj,rfl⟩:=(h2 a).1 ha;have hne:d[m]! ≠d[m-1]! :=by
     simp only[keeps,decide_eq_true_eq] at hk;rcases hk with hk|hk
     ·omega
     ·exact hk
    have a1:=hs j (m-1) (by omega) (by omega);have a2:=hs (m-1) m (by omega) (by omega);omega
   ·rw[List.mem_append,h2 x,List.mem_singleton];constructor
    ·rintro (⟨j,hj,e⟩|e)
     ·exact⟨j,by omega,e⟩
     ·exact⟨m,by omega,e.symm⟩
    ·rintro⟨j,hj,e⟩;by_cases hjm:j=m
     ·subst hjm;exact .inr e.symm
     ·exact .inl ⟨j,by omega,e⟩
  ·rw[if_neg hk,List.append_nil];refine⟨h1,fun x=> ?_⟩
   rw[h2 x];have aA:m≠0∧d[m]! =d[m-1]! :=by
    simp only[keeps,decide_eq_true_eq] at hk;by_cases h0:m=0
    ·exact absurd (.inl h0) hk
    ·refine⟨h0,?_⟩;by_cases h3:d[m]! =d[m-1]!
     ·exact h3
     ·exact absurd (.inr h3) hk
   constructor
   ·rintro⟨j,hj,e⟩;exact⟨j,by omega,e⟩
   ·rintro⟨j,hj,e⟩;by_cases hjm:j=m
    ·subst hjm;exact⟨j-1,by omega,by rw[←aA.2];exact e⟩
    ·exact⟨j,by omega,e⟩
theorem Mx(zs:List Int):inc (srt zs)∧∀x,x∈srt zs↔x∈zs:=by
 have hp:=List.mergeSort_perm zs (fun x y:Int=>decide (x≤y))
 have hs:=List.pairwise_mergeSort (le:=fun x y:Int=>decide (x≤y)) (fun a b c h1 h2=>by simp at*;omega) (fun a b=>by simp;omega) zs
 unfold srt compact;generalize zs.mergeSort (fun x y=>decide (x≤y))=l at hp hs
 have hg:∀i (h:i<l.length),l.toArray[i]! =l[i]:=fun i h=>by simp[h]
 obtain⟨h1,h2⟩:=zCm l.toArray (fun i j hij hj=>by
  have aA:j<l.length:=by simpa using hj
  rw[hg i (by omega),hg j aA];by_cases e:i=j
  ·subst e;omega
  ·have:=List.pairwise_iff_getElem.1 hs i j (by omega) aA (by omega);simpa using this) l.length (by simp)
 refine⟨h1,fun x=> ?_⟩
 rw[h2 x,←hp.mem_iff,List.mem_iff_getElem];constructor
 ·rintro⟨j,hj,e⟩;rw[hg j hj] at e;exact⟨j,hj,e⟩
 ·rintro⟨j,hj,e⟩;exact⟨j,hj,by rw[hg j hj];exact e⟩
theorem Vj{l:List Int}(h:inc l){zs:List Int}(hm:∀x,x∈zs↔x∈l):srt zs=l:=Ut (Mx zs).1 h fun x=>((Mx zs).2 x).trans (hm x)
end Go.Proofs.YtoiabanpnkpbhaaGreatDoor
