/- Parts. -/
import Derived.Maps.OwnOps
import Derived.Maps.Views
import Derived.Test.YtoiabanpnkpbhaaGreatDoorM01
set_option linter.unusedVariables false
set_option linter.unusedSimpArgs false
namespace Go.Proofs.YtoiabanpnkpbhaaGreatDoor
open Go.RowKit Go.Maps
theorem Iy{H:Type}{P:Program}{e:TypeId}(he:P.underlying e=some .bool){v:Value}{z:DataW H×List MemPlace}(h:plainElem P e v=some z):∃a,v= .bool a∧z=(.lit (.bool a),[]):=by
 unfold plainElem at h;rw[he] at h
 cases v<;>simp at h
 subst h;exact⟨_,rfl,rfl⟩
theorem Gw{H:Type}{P:Program}(w:World){ops:Array Oper}{rest:List Oper}{o:Oper}{a:Act}{Q:Exit→Act→World→Prop}
  (hg:o.guard=none) (m x:Operand) (t:TypeId) (hop:o.op=Op.lookup t m x false)
  (k e:TypeId) (K:Keyed P k) (ht:P.underlying t=some (.map k e)) (he:P.underlying e=some .bool) (hz:(zeroValue e).run P w= .ok (.bool false) w) (b n:Nat) (D:DataW H)
  (hm:a.eval m= .map (some b)) (hown:w.ownsMap P k (plainElem P e) b n D) (key:Value) (kl:Lit) (hx:a.eval x=key) (hkey:keyOf P k key=some kl)
  (hK:∀c:Bool,D.atKey kl (.lit (.bool false))= .lit (.bool c)→wpList P ops Q rest (a.put o.dst (.bool c)) w):
  wpList P ops Q (o::rest) a w:=by
 refine wpList_plain hg fun K' aB=> ?_
 obtain⟨v,ps,aA,hv⟩:=hown.lookup K ht hz (plainElem_bool he false) hkey;obtain⟨c,rfl,hc⟩:=Iy he hv;simp only[Prod.mk.injEq] at hc;unfold Oper.wp;simp[execOp,hop,hm,hx,aA,Result.andThen];exact aB _ _ (hK c hc.1)
def has(S:List Int)(x:Int):Bool:=S.contains x
def BM(P:Program)(k e:TypeId)(w:World)(b n:Nat)(S:List Int):Prop:=
 ∃D:DataW Unit,w.ownsMap P k (plainElem P e) b n D∧IsMap D∧∀x,D.atKey (.int .i64 x) (.lit (.bool false))= .lit (.bool (has S x))
theorem Vn{x:Int}(h:At x):(Lit.int .i64 x).wf=true:=by
 unfold At at h;simp[Lit.wf,IntKind.min,IntKind.max,IntKind.signed,IntKind.bits];omega
theorem BM.made(P:Program)(k e:TypeId)(w:World):BM P k e (w.alloc (.map #[] 0)) w.heap.size 0 []:=
 ⟨.map [],World.ownsMap_made w P k _,⟨_,rfl⟩,fun x=>by simp[DataW.atKey,has]⟩
theorem Ge{P:Program}(w:World){ops:Array Oper}{rest:List Oper}{o:Oper}{a:Act}{Q:Exit→Act→World→Prop}
  (hg:o.guard=none) (m x:Operand) (t:TypeId) (hop:o.op=Op.lookup t m x false)
  (k e:TypeId) (ht:P.underlying t=some (.map k e)) (hk:P.underlying k=some (.int .i64)) (he:P.underlying e=some .bool) (hz:(zeroValue e).run P w= .ok (.bool false) w) (b n:Nat) (S:List Int)
  (hm:a.eval m= .map (some b)) (h:BM P k e w b n S) (key:Int) (hx:a.eval x= .int .i64 key) (hkey:At key)
  (hK:wpList P ops Q rest (a.put o.dst (.bool (has S key))) w):
  wpList P ops Q (o::rest) a w:=by
 obtain⟨D,h1,h2,h3⟩:=h;refine Gw w hg m x t hop k e (int_keyed hk) ht he hz b n D hm h1 _ _ hx (keyOf_int_mk hk (Vn hkey)) fun c hc=> ?_
 rw[h3] at hc;injection hc with hc;injection hc with hc;rw[←hc];exact hK
theorem Ko{P:Program}(w:World){ops:Array Oper}{rest:List Oper}{o:Oper}{a:Act}{Q:Exit→Act→World→Prop}
  (hg:o.guard=none) (m x v:Operand) (t:TypeId) (hop:o.op=Op.mapUpdate t m x v)
  (k e:TypeId) (ht:P.underlying t=some (.map k e)) (hk:P.underlying k=some (.int .i64)) (he:P.underlying e=some .bool) (b n:Nat) (S:List Int)
  (hm:a.eval m= .map (some b)) (h:BM P k e w b n S) (hn:n<maxLen) (key:Int) (hx:a.eval x= .int .i64 key) (hkey:At key) (hv:a.eval v= .bool true)
  (hK:∀w',BM P k e w' b (n+1) (key::S)→w.grownBy w' (some b)→wpList P ops Q rest (a.put o.dst undef) w'):
  wpList P ops Q (o::rest) a w:=by
 obtain⟨D,h1,h2,h3⟩:=h;refine wpList_mapUpdate_own w hg m x v t hop k e (int_keyed hk) ht _ b n D hm h1 hn _ _ _ hx hv (keyOf_int_mk hk (Vn hkey)) _ [] (plainElem_bool he true) fun w' o1 o2=> ?_
 refine hK w' ⟨_,o1,?_,fun y=> ?_⟩ o2
 ·obtain⟨es,rfl⟩:=h2;exact⟨_,rfl⟩
 ·by_cases hy:y=key
  ·subst hy;rw[atKey_put_same h2 (by simp[WideAt.IsKeyLit])];simp[has]
  ·rw[atKey_put_other (by simpa using hy),h3];simp[has,hy]
end Go.Proofs.YtoiabanpnkpbhaaGreatDoor
