/- Parts. -/
import Derived.Test.YtoiabanpnkpbhaaGreatDoorM10
import Derived.Test.YtoiabanpnkpbhaaGreatDoorM05
set_option linter.unusedVariables false
set_option linter.unusedSimpArgs false
set_option maxRecDepth 100000
set_option maxHeartbeats 1000000
namespace Go.Proofs.YtoiabanpnkpbhaaGreatDoor
open Go.RowKit
def nA4(x y:List Int)(k:Nat):Prop:=∀j (_:j<k) (hx:j<x.length) (hy:j<y.length),x[j]=y[j]
theorem Qw{x y:List Int}{k:Nat}(h:nA4 x y k)(hx:k<x.length)(hy:k<y.length)(e:x[k]=y[k]):nA4 x y (k+1):=fun j h1 h2 h3=>by
 by_cases ej:j=k
 ·subst ej;exact e
 ·exact h j (by omega) h2 h3
theorem zAt{x y:List Int}(hl:x.length=y.length)(h:nA4 x y x.length):x=y:=List.ext_getElem hl fun j h1 h2=>h j h1 h1 h2
theorem Ie(x y:List Int)(vx vy:Value)(w:World)(hx:SI w vx x)(hy:SI w vy y):
  Calls Tryz.prog 26 #[vx,vy] w fun e w'=>e= .returned (.bool (decide (x=y)))∧Below w.heap.size w w':=by
 obtain⟨A1,c1,rfl,hc1,hm1,aM,aB⟩:=hx;obtain⟨A2,c2,rfl,hc2,hm2,aN,aC⟩:=hy;have aG:=Zk aB;have aH:=Zk aC;clear aB aC aM aN;by_cases h3:x.length=y.length
 ·have aJ:((x.length:Int) !=(y.length:Int))=false:=by rw[bne_eq_false_iff_eq];omega
  have H3:=Zk h3;clear h3;go_enter Tryz.func26,Tryz.ntmps26;go_wp2_with fail;go_loopw [13] (fun i wr=>∃k n:Nat,k≤x.length∧i= .int .i64 k∧nA4 x y k∧wr=w.drewN n) (fun i _=>x.length- (intOf i).toNat)
  case atStart=>exact⟨0,0,Nat.zero_le _,rfl,fun j h=>absurd h (by omega),rfl⟩
  case round=>
   obtain⟨k,n,hk,rfl,aF,rfl⟩:=hrel;have HN:=Zk aF;clear aF;by_cases hlt:k<x.length
   ·have aA:k<y.length:=by have:=H3.out;omega
    obtain⟨bx,ox,rfl,hbx,aD⟩:=aG.out (by omega);obtain⟨by_,oy,rfl,hby,aE⟩:=aH.out (by omega);have cx:=aD k hlt;have cy:=aE k aA;have z1:(0:Int)≤(k:Int):=by omega
    have z2:(k:Int)<(x.length:Int):=by omega
    have z3:(k:Int)<(y.length:Int):=by omega
    clear aD aE;by_cases he:x[k]=y[k]
    ·have aK:(x[k] !=y[k])=false:=by simpa using he
     have aI:Hid (nA4 x y (k+1)):=Qw HN.out hlt aA he;clear he;go_wp2_with fail;go_quiet (fail)
     go_wp2_with fail;go_goals;go_roundw
     case rel=>exact⟨k+1,n+nq,by omega,by go_num,aI.out,rfl⟩
     case measure=>simp[intOf];omega
    ·have aK:(x[k] !=y[k])=true:=by simpa using he
     have HF:Hid (decide (x=y)=false):=Zd (fun e=>he (by subst e;rfl))
     clear he;go_wp2_with fail;go_quiet (fail)
     go_wp2_with fail;go_ret;exact⟨Cs HF.out.symm,Below.drewN (Below.drewN (Zb _ w) _) _⟩
   ·have HF:Hid (decide (x=y)=true):=by
     have aL:k=x.length:=by omega
     subst aL;exact Ze (zAt H3.out HN.out)
    go_wp2_with fail;go_ret;exact⟨Cs HF.out.symm,Below.drewN (Zb _ w) _⟩
 ·have aJ:((x.length:Int) !=(y.length:Int))=true:=by rw[bne_iff_ne];omega
  have HF:Hid (decide (x=y)=false):=Zd (fun e=>h3 (by rw[e]))
  clear h3;go_enter Tryz.func26,Tryz.ntmps26;go_wp2_with fail;go_ret;exact⟨Cs HF.out.symm,Zb _ _⟩
def nA5(x y:List (List Int))(k:Nat):Prop:=∀j (_:j<k) (hx:j<x.length) (hy:j<y.length),x[j]=y[j]
theorem zAu{x y:List (List Int)}{k:Nat}(h:nA5 x y k)(hx:k<x.length)(hy:k<y.length)(e:x[k]=y[k]):nA5 x y (k+1):=fun j h1 h2 h3=>by
 by_cases ej:j=k
 ·subst ej;exact e
 ·exact h j (by omega) h2 h3
theorem zHg{x y:List (List Int)}(hl:x.length=y.length)(h:nA5 x y x.length):x=y:=List.ext_getElem hl fun j h1 h2=>h j h1 h1 h2
theorem Fa(x y:List (List Int))(vx vy:Value)(w:World)(hx:SL w vx x)(hy:SL w vy y):
  Calls Tryz.prog 18 #[vx,vy] w fun e w'=>e= .returned (.bool (decide (x=y)))∧Below w.heap.size w w':=by
 obtain⟨A1,c1,rfl,hc1,hm1,aM⟩:=hx;obtain⟨A2,c2,rfl,hc2,hm2,aN⟩:=hy;have aS:=Zk aM;have aT:=Zk aN;clear aM aN;by_cases h3:x.length=y.length
 ·have aX:((x.length:Int) !=(y.length:Int))=false:=by rw[bne_eq_false_iff_eq];omega
  have H3:=Zk h3;clear h3;go_enter Tryz.func18,Tryz.ntmps18;go_wp2_with fail;go_loopw [13] (fun i wr=>∃k:Nat,k≤x.length∧i= .int .i64 k∧nA5 x y k∧Below w.heap.size w wr) (fun i _=>x.length- (intOf i).toNat)
  case atStart=>exact⟨0,Nat.zero_le _,rfl,fun j h=>absurd h (by omega),Zb _ _⟩
  case round=>
   obtain⟨k,hk,rfl,aR,aO⟩:=hrel;have HN:=Zk aR;have HB:=Zk aO;clear aR aO;by_cases hlt:k<x.length
   ·have aG:k<y.length:=by have:=H3.out;omega
    obtain⟨bx,ox,rfl,aV,aP⟩:=aS.out (by omega);obtain⟨aC,oy,rfl,aW,aQ⟩:=aT.out (by omega);obtain⟨Bx,dx,cx,sx⟩:=aP k hlt;obtain⟨By,dy,cy,sy⟩:=aQ k aG;have cx:=(HB.out.cell (p:=⟨bx,ox+k,none⟩) aV).trans cx;have cy:=(HB.out.cell (p:=⟨aC,oy+k,none⟩) aW).trans cy;have aI:=Zk (sx.below HB.out);have aJ:=Zk (sy.below HB.out);have aD:bx<wr.heap.size:=by have:=HB.out.size;omega
    have aE:aC<wr.heap.size:=by have:=HB.out.size;omega
    have z1:(0:Int)≤(k:Int):=by omega
    have z2:(k:Int)<(x.length:Int):=by omega
    have z3:(k:Int)<(y.length:Int):=by omega
    obtain⟨xr,aK⟩:∃xr,xr=x[k]:=⟨_,rfl⟩;obtain⟨yr,aL⟩:∃yr,yr=y[k]:=⟨_,rfl⟩;rw[←aK] at cx aI;rw[←aL] at cy aJ;have HX:=Zk aK;have HY:=Zk aL;clear aP aQ sx sy aK aL;by_cases he:xr=yr
    ·have aF:decide (xr=yr)=true:=Ze he;have aU:Hid (nA5 x y (k+1)):=zAu HN.out hlt aG (by rw[←HX.out,←HY.out];exact he);have aH:=Zk aF;clear he aF;go_wp2_with fail;go_region_held3 (fun w'=>w'.cell? ⟨bx,ox+k,none⟩=some (.slice Bx xr.length dx)∧w'.cell? ⟨aC,oy+k,none⟩=some (.slice By yr.length dy)) (first|exact⟨cx,cy⟩|exact⟨t0,t1⟩|go_keep)
      (first|(go_at_call 26;refine (Ie xr yr _ _ _ (by exact aI.out) (by exact aJ.out)).mono ?_;rintro e w2 ⟨rfl,aA⟩;rw[aH.out];have aB:Hid (Below wr.heap.size wr w2):=Zk (⟨aA.os,aA.tape,aA.output,aA.size,aA.block⟩);have t0:=(aB.out.cell (p:=⟨bx,ox+k,none⟩) (by exact aD)).trans cx;have t1:=(aB.out.cell (p:=⟨aC,oy+k,none⟩) (by exact aE)).trans cy;clear aA))
     all_goals
      go_wp2_with fail;go_goals;go_roundw
      case rel=>exact⟨k+1,by omega,by go_num,aU.out,by first|exact HB.out.trans (aB.out.mono HB.out.size)|exact (HB.out.trans (aB.out.mono HB.out.size)).drewN _⟩
      case measure=>simp[intOf];omega
    ·have aF:decide (xr=yr)=false:=Zd he;have HF:Hid (decide (x=y)=false):=Zd (fun e=>he (by rw[HX.out,HY.out];subst e;rfl))
     have aH:=Zk aF;clear he aF;go_wp2_with fail;go_region_held3 (fun w'=>w'.cell? ⟨bx,ox+k,none⟩=some (.slice Bx xr.length dx)∧w'.cell? ⟨aC,oy+k,none⟩=some (.slice By yr.length dy)) (first|exact⟨cx,cy⟩|exact⟨t0,t1⟩|go_keep)
      (first|(go_at_call 26;refine (Ie xr yr _ _ _ (by exact aI.out) (by exact aJ.out)).mono ?_;rintro e w2 ⟨rfl,aA⟩;rw[aH.out];have aB:Hid (Below wr.heap.size wr w2):=Zk (⟨aA.os,aA.tape,aA.output,aA.size,aA.block⟩);have t0:=(aB.out.cell (p:=⟨bx,ox+k,none⟩) (by exact aD)).trans cx;have t1:=(aB.out.cell (p:=⟨aC,oy+k,none⟩) (by exact aE)).trans cy;clear aA))
     all_goals
      go_wp2_with fail;go_ret;first
       |exact⟨Cs HF.out.symm,HB.out.trans (aB.out.mono HB.out.size)⟩
       |exact⟨Cs HF.out.symm,(HB.out.trans (aB.out.mono HB.out.size)).drewN _⟩
   ·have HF:Hid (decide (x=y)=true):=by
     have aY:k=x.length:=by omega
     subst aY;exact Ze (zHg H3.out HN.out)
    go_wp2_with fail;go_ret;exact⟨Cs HF.out.symm,HB.out⟩
 ·have aX:((x.length:Int) !=(y.length:Int))=true:=by rw[bne_iff_ne];omega
  have HF:Hid (decide (x=y)=false):=Zd (fun e=>h3 (by rw[e]))
  clear h3;go_enter Tryz.func18,Tryz.ntmps18;go_wp2_with fail;go_ret;exact⟨Cs HF.out.symm,Zb _ _⟩
open Go.RowKit
def tsB(a b:Int)(x y:List Int):Bool:=decide (a=b∧x=y)
theorem Wy(a b:Int)(x y:List Int)(vx vy:Value)(w:World)(hx:SI w vx x)(hy:SI w vy y):
  Calls Tryz.prog 28 #[.agg #[vx,.int .i64 a],.agg #[vy,.int .i64 b]] w fun e w'=>e= .returned (.bool (tsB a b x y))∧Below w.heap.size w w':=by
 obtain⟨A1,c1,rfl,hc1,hm1,aS,aD⟩:=hx;obtain⟨A2,c2,rfl,hc2,hm2,aT,aE⟩:=hy;have aI:=Zk aD;have aJ:=Zk aE;have aA:Below w.heap.size w ((w.alloc (.cells #[.slice A1 x.length c1,.int .i64 a] 45)).alloc (.cells #[.slice A2 y.length c2,.int .i64 b] 45)):=((Zb _ _).alloc (Zl _) _).alloc (by simp) _;clear aD aE aS aT;by_cases h1:a=b
 ·have aO:(a !=b)=false:=by simpa using h1
  by_cases h3:x.length=y.length
  ·have aP:((x.length:Int) !=(y.length:Int))=false:=by rw[bne_eq_false_iff_eq];omega
   have HS:Hid (tsB a b x y=decide (x=y)):=by show _=_;unfold tsB;simp[h1]
   have H3:=Zk h3;clear h1 h3;go_enter Tryz.func28,Tryz.ntmps28;go_wp2_with fail;have q0:((w.alloc (.cells #[.slice A1 x.length c1,.int .i64 a] 45)).alloc (.cells #[.slice A2 y.length c2,.int .i64 b] 45)).cell? ⟨w.heap.size,0,none⟩=some (.slice A1 x.length c1):=by simp[go_sem]
   have q1:((w.alloc (.cells #[.slice A1 x.length c1,.int .i64 a] 45)).alloc (.cells #[.slice A2 y.length c2,.int .i64 b] 45)).cell? ⟨w.heap.size+1,0,none⟩=some (.slice A2 y.length c2):=by simp[go_sem]
   obtain⟨wx,aC⟩:∃wx:World,wx=(w.alloc (.cells #[.slice A1 x.length c1,.int .i64 a] 45)).alloc (.cells #[.slice A2 y.length c2,.int .i64 b] 45):=⟨_,rfl⟩;have hzx:w.heap.size+2=wx.heap.size:=by rw[aC];simp
   rw[←aC] at aA q0 q1⊢;clear aC;go_loopw [23] (fun i wr=>∃k n:Nat,k≤x.length∧i= .int .i64 k∧nA4 x y k∧wr=wx.drewN n) (fun i _=>x.length- (intOf i).toNat)
   case atStart=>exact⟨0,0,Nat.zero_le _,rfl,fun j h=>absurd h (by omega),rfl⟩
   case round=>
    obtain⟨k,n,hk,rfl,aH,rfl⟩:=hrel;have HN:=Zk aH;clear aH;by_cases hlt:k<x.length
    ·have aB:k<y.length:=by have:=H3.out;omega
     obtain⟨bx,ox,rfl,aM,aF⟩:=aI.out (by omega);obtain⟨aL,oy,rfl,aN,aG⟩:=aJ.out (by omega);have cx:=(aA.cell (p:=⟨bx,ox+k,none⟩) aM).trans (aF k hlt);have cy:=(aA.cell (p:=⟨aL,oy+k,none⟩) aN).trans (aG k aB);have z1:(0:Int)≤(k:Int):=by omega
     have z2:(k:Int)<(x.length:Int):=by omega
     have z3:(k:Int)<(y.length:Int):=by omega
     clear aF aG;by_cases he:x[k]=y[k]
     ·have aQ:(x[k] !=y[k])=false:=by simpa using he
      have aK:Hid (nA4 x y (k+1)):=Qw HN.out hlt aB he;clear he;go_wp2_with fail;go_quiet (fail)
      go_wp2_with fail;go_goals;go_roundw
      case rel=>exact⟨k+1,n+nq,by omega,by go_num,aK.out,rfl⟩
      case measure=>simp[intOf];omega
     ·have aQ:(x[k] !=y[k])=true:=by simpa using he
      have HF:Hid (tsB a b x y=false):=by show _=_;rw[HS.out];exact Zd (fun e=>he (by subst e;rfl))
      clear he;go_wp2_with fail;go_quiet (fail)
      go_wp2_with fail;go_ret;exact⟨Cs HF.out.symm,Below.drewN (Below.drewN aA _) _⟩
    ·have HF:Hid (tsB a b x y=true):=by
      have aR:k=x.length:=by omega
      subst aR;show _=_;rw[HS.out];exact Ze (zAt H3.out HN.out)
     go_wp2_with fail;go_ret;exact⟨Cs HF.out.symm,Below.drewN aA _⟩
  ·have aP:((x.length:Int) !=(y.length:Int))=true:=by rw[bne_iff_ne];omega
   have HF:Hid (tsB a b x y=false):=Zd (fun e=>h3 (by rw[e.2]))
   clear h1 h3;go_enter Tryz.func28,Tryz.ntmps28;go_wp2_with fail;go_ret;exact⟨Cs HF.out.symm,aA⟩
 ·have aO:(a !=b)=true:=by simpa using h1
  have HF:Hid (tsB a b x y=false):=Zd (fun e=>h1 e.1)
  clear h1;go_enter Tryz.func28,Tryz.ntmps28;go_wp2_with fail;go_ret;exact⟨Cs HF.out.symm,aA⟩
end Go.Proofs.YtoiabanpnkpbhaaGreatDoor
