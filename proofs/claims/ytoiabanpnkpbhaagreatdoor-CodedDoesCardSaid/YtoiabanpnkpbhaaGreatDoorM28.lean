/- Parts. -/
import Derived.Test.YtoiabanpnkpbhaaGreatDoorM06
import Derived.Test.YtoiabanpnkpbhaaGreatDoorM20
set_option linter.unusedVariables false
set_option linter.unusedSimpArgs false
namespace Go.Proofs.YtoiabanpnkpbhaaGreatDoor
open Go.RowKit Go.Shelf
structure QR (G:Nat) (w:World) (vs:List Value) (rows:List (List Int)):Prop where
 cells:w.heap[G]? =some (.cells vs.toArray 22 (0,0))
 len:vs.length=rows.length
 own:∀k (h:k<vs.length) (h':k<rows.length),w.ownsRow (G+1) 3 1 vs[k] rows[k].length (rows[k].map (Value.int .i64))
 apart:∀i j (hi:i<vs.length) (hj:j<vs.length),i≠j→∀b,vs[i].ownBlock=some b→vs[j].ownBlock≠some b
theorem QR.lt{G:Nat}{w:World}{vs:List Value}{rows:List (List Int)}(h:QR G w vs rows):G<w.heap.size:=Ae h.cells
theorem QR.below{G:Nat}{w w':World}{vs:List Value}{rows:List (List Int)}(h:QR G w vs rows)(hb:Below w.heap.size w w'):QR G w' vs rows:=
 ⟨(hb.block G h.lt).trans h.cells,h.len,fun k h1 h2=>Bm (h.own k h1 h2) hb,h.apart⟩
theorem QR.set3{G:Nat}{w:World}{vs:List Value}{rows:List (List Int)}(h:QR G w vs rows){p:Addr}(hp:p.block<G)(u:Value):QR G (w.setCell p u) vs rows:=
 ⟨(Zo w p G u (by omega)).trans h.cells,h.len,fun k h1 h2=>Bc (h.own k h1 h2) (by omega) u,h.apart⟩
theorem QR.alloc{G:Nat}{w:World}{vs:List Value}{rows:List (List Int)}(h:QR G w vs rows)(o:Obj):QR G (w.alloc o) vs rows:=h.below ((Zb _ w).alloc (Zl _) o)
theorem QR.cell{G:Nat}{w:World}{vs:List Value}{rows:List (List Int)}(h:QR G w vs rows){k:Nat}(hk:k<vs.length):w.cell? ⟨G,k,none⟩=some vs[k]:=
 Zc w G k _ _ _ (by rw[h.cells])|>.trans (by simp)
theorem QR.push{G:Nat}{w w2:World}{vs:List Value}{rows:List (List Int)}(h:QR G w vs rows){k:Nat}(hk:k<vs.length)(hk':k<rows.length){v':Value}{y:Int}
  (hown:w2.ownsRow (G+1) 3 1 v' (rows[k]++[y]).length ((rows[k]++[y]).map (Value.int .i64)))
  (hg:w.grownBy w2 vs[k].ownBlock) (hat:∀b,v'.ownBlock=some b→vs[k].ownBlock=some b∨w.heap.size≤b):
  QR G (w2.setCell ⟨G,k,none⟩ v') (vs.set k v') (rows.set k (rows[k]++[y])):=by
 have aM:∀b,vs[k].ownBlock=some b→G+1≤b:=fun b hb=>((h.own k hk hk').lt b hb).1
 have aL:w2.heap[G]? =some (.cells vs.toArray 22 (0,0)):=(hg.block G h.lt (fun e=>by have:=aM G e.symm;omega)).trans h.cells
 refine⟨?_,by simp[h.len],?_,?_⟩
 ·have:=heap_setCell_same w2 G k _ _ v' aL;simpa using this
 ·intro j h1 h2;by_cases hj:j=k
  ·subst hj;simp only[List.getElem_set_self];exact Bc hown (by show G<G+1;omega) v'
  ·simp only[List.getElem_set_ne (Ne.symm hj)];have aH:j<vs.length:=by simpa using h1
   have aN:j<rows.length:=by simpa using h2
   refine Bc ?_ (by show G<G+1;omega) v';have ho:=h.own j aH aN;refine⟨ho.1,?_⟩;rcases ho.2 with hn|⟨g,aJ,aK,he,hb,aE,rest⟩
   ·exact .inl hn
   ·refine .inr ⟨g,aJ,aK,he,hb,(hg.block g (Ae aE) (fun e=> ?_)).trans aE,rest⟩
    exact h.apart k j hk aH (Ne.symm hj) g e.symm (by rw[he];rfl)
 ·intro i j hi hj aD b aB aA;have aF:i<vs.length:=by simpa using hi
  have aG:j<vs.length:=by simpa using hj
  have aI:∀j (hj:j<vs.length),j≠k→∀b,v'.ownBlock=some b→vs[j].ownBlock≠some b:=by
   intro j hj aC b h1 h2;rcases hat b h1 with h3|h3
   ·exact h.apart k j hk hj (Ne.symm aC) b h3 h2
   ·have:=((h.own j hj (by rw[←h.len];exact hj)).lt b h2).2;omega
  by_cases hik:i=k
  ·subst hik;simp only[List.getElem_set_self] at aB;rw[List.getElem_set_ne aD] at aA;exact aI j aG (Ne.symm aD) b aB aA
  ·rw[List.getElem_set_ne (Ne.symm hik)] at aB;by_cases aC:j=k
   ·subst aC;simp only[List.getElem_set_self] at aA;exact aI i aF hik b aA aB
   ·rw[List.getElem_set_ne (Ne.symm aC)] at aA;exact h.apart i j aF aG aD b aB aA
theorem QR.made(w:World)(n:Nat):QR w.heap.size (w.alloc (.cells (List.replicate n (.slice none 0 0)).toArray 22)) (List.replicate n (.slice none 0 0)) (List.replicate n []):=by
 refine⟨Zh w _,by simp,fun k h1 h2=> ?_,fun i j hi hj _ b hb=> ?_⟩
 ·simp only[List.getElem_replicate];exact World.ownsRow_nil _ _ _ _
 ·simp[Value.ownBlock] at hb
theorem zAr(n:Nat):madeCells #[Value.slice none 0 0] n=(List.replicate n (Value.slice none 0 0)).toArray:=by
 apply Array.toList_inj.1;rw[toList_madeCells_one]
theorem zDj:(Tryz.prog.info? 22).map (fun i=>(i.zero,i.size,i.bytes))=some (some (.slice none 0 0),1,24):=by kernel_rfl
theorem Kn{P:Program}(w:World){ops:Array Oper}{rest:List Oper}{o:Oper}{a:Act}{Q:Exit→Act→World→Prop}
  (hg:o.guard=none) (l c:Operand) (t:TypeId) (hop:o.op=Op.makeSlice t l c) (e:TypeId) (ht:P.underlying t=some (.slice e)) (hinfo:(P.info? e).map (fun i=>(i.zero,i.size,i.bytes))=some (some (.slice none 0 0),1,24))
  (L:Int) (n:Nat) (hl:a.eval l= .int .i64 L) (hc:a.eval c= .int .i64 L) (hL:L=(n:Int)) (hn:n≤10000000)
  (hK:wpList P ops Q rest (a.put o.dst (.slice (some ⟨w.heap.size,0,none⟩) n n)) (w.alloc (.cells (List.replicate n (.slice none 0 0)).toArray e))):
  wpList P ops Q (o::rest) a w:=by
 obtain⟨i0,aD,aE,aB,aF⟩:=info_parts hinfo;subst hL;have aA:=run_makeSlice (P:=P) w t e i0 _ ht aD aE .i64 .i64 n n (by omega) (Int.le_refl _) (by rw[aB];simp;omega) (by rw[aF];omega) (by omega);simp only[Int.toNat_natCast] at aA;rw[aB,Nat.mul_one] at aA;have hm:madeCells (Value.slice none 0 0).cells n=(List.replicate n (.slice none 0 0)).toArray:=zAr n;rw[hm] at aA;refine wpList_plain hg fun K aC=> ?_
 unfold Oper.wp;simp[execOp,hop,hl,hc,aA,Result.andThen];exact aC _ _ hK
end Go.Proofs.YtoiabanpnkpbhaaGreatDoor
