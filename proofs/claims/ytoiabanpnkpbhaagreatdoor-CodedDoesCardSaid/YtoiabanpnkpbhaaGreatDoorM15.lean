/- Parts. -/
import Derived.Test.YtoiabanpnkpbhaaGreatDoorM14
import Derived.Test.YtoiabanpnkpbhaaGreatDoorM06
set_option linter.unusedVariables false
set_option linter.unusedSimpArgs false
set_option maxRecDepth 100000
set_option maxHeartbeats 4000000
namespace Go.Proofs.YtoiabanpnkpbhaaGreatDoor
open Go.RowKit
theorem zCc(P:Int)(l:List (Int×Bool))(p:List Int)(k:Nat)(h:k<l.length):wrg P (l.take (k+1)) p=wrg P (l.take k) p++if l[k].2=true∧val P p ((k:Int)+1)≠l[k].1 then [(k:Int)+1] else []:=by
 unfold wrg wrk;rw[Hv l k h,List.filter_append,List.map_append];congr 1
 cases hb:l[k].2
 ·simp
 ·by_cases hv:val P p ((k:Int)+1)=l[k].1<;>simp[hv]
theorem Jz(P:Int)(l:List (Int×Bool))(p:List Int):(wrg P l p).length≤l.length:=by
 unfold wrg wrk;rw[List.length_map];exact Nat.le_trans (List.length_filter_le _ _) (by rw[←Sb];exact Oe l)
def WrR(P:Int)(l:List (Int×Bool))(p:List Int)(w:World)(s i:Value)(wr:World):Prop:=
 ∃k:Nat,k≤l.length∧i= .int .i64 k∧wr.ownsRow w.heap.size 3 1 s (wrg P (l.take k) p).length ((wrg P (l.take k) p).map (Value.int .i64))∧Below w.heap.size w wr
theorem Nh(P:Int)(l:List (Int×Bool))(p:List Int)(v vp:Value)(w:World)(hP:2≤P∧P≤65521)(h:SCl w v l)(hz:l.length≤1000)(hlP:(l.length:Int)<P)(hs:SI w vp p)(hel:els P p=true)(hpl:p.length≤1000000):
  Calls Tryz.prog 132 #[.int .i64 P,v,vp] w fun e w'=>∃v',e= .returned v'∧w'.ownsRow w.heap.size 3 1 v' (wrg P l p).length ((wrg P l p).map (Value.int .i64))∧Below w.heap.size w w':=by
 have HS:=Zk h;have bA:=Zk hs;have aY:=Zk hel;obtain⟨A,c,rfl⟩:=h.form;obtain⟨Ap,cp,rfl⟩:=hs.form;clear h hs hel;go_enter Tryz.func132,Tryz.ntmps132;go_wp2_with fail;go_loopw [7,12] (fun s i wr=>WrR P l p w s i wr) (fun _ i _=>l.length- (intOf i).toNat)
 case atStart=>exact⟨0,Nat.zero_le _,rfl,World.ownsRow_nil _ _ _ _,Zb _ _⟩
 case round=>
  obtain⟨k,hk,rfl,aO,aG⟩:=hrel;have HO:=Zk aO;have HB:=Zk aG;have bE:w.heap.size≤wr.heap.size:=aG.size;clear aO aG;by_cases hlt:k<l.length
  ·obtain⟨A',c',e,_,_,_,ha⟩:=HS.out;injection e with e1 e2 e3;subst e1;obtain⟨b,aX,rfl,hb,aD⟩:=ha (by omega);obtain⟨c1,c2⟩:=aD k hlt;have c1:=(HB.out.cell (p:=⟨b,aX+k*2,none⟩) hb).trans c1;have c2:=(HB.out.cell (p:=⟨b,aX+k*2+1,none⟩) hb).trans c2;have hbw:b<wr.heap.size:=by omega
   have aF:=Zk (zCc P l p k hlt);have hwl:(wrg P (l.take k) p).length≤1000:=by
     have:=Jz P (l.take k) p;have h2:(l.take k).length≤k:=by simp;omega
     omega
   obtain⟨y,ey⟩:∃y,y=l[k].1:=⟨_,rfl⟩;rw[←ey] at c1 aF;obtain⟨kb,aV⟩:∃kb,kb=l[k].2:=⟨_,rfl⟩;rw[←aV] at c2 aF;obtain⟨W,eW⟩:∃W:World,W=wr.alloc (.cells #[.int .i64 y,.bool kb] 140):=⟨_,rfl⟩;have aT:Hid (wr.alloc (.cells #[.int .i64 y,.bool kb] 140)=W):=eW.symm;have aP:Hid (∀s,wr.ownsRow w.heap.size 3 1 s (wrg P (l.take k) p).length ((wrg P (l.take k) p).map (Value.int .i64))→W.ownsRow w.heap.size 3 1 s (wrg P (l.take k) p).length ((wrg P (l.take k) p).map (Value.int .i64))):=Zk (fun s h=>by rw[eW];exact h.alloc _)
   have aJ:Hid (Below w.heap.size w W):=Zk (by rw[eW];exact HB.out.alloc bE _);have aU:Hid (W.heap[wr.heap.size]? =some (.cells #[.int .i64 y,.bool kb] 140 (0,0))):=Zk (by show _=_;rw[eW];exact Zh wr _);have aR:wr.heap.size<W.heap.size:=by rw[eW];simp
   have aM:Hid (SI W (.slice Ap p.length cp) p):=Zk (bA.out.below aJ.out);have x0:W.cell? ⟨wr.heap.size,0,none⟩=some (.int .i64 y):=Zc W wr.heap.size 0 _ _ _ aU.out;have x1:W.cell? ⟨wr.heap.size,1,none⟩=some (.bool kb):=Zc W wr.heap.size 1 _ _ _ aU.out;have hx:0≤(k:Int)+1∧(k:Int)+1<P:=by omega
   have hwK:IntKind.i64.wrap ((k:Int)+1)=(k:Int)+1:=by exact Zi _ (by omega)
   have hkn:(k:Int)+1≤1000:=by omega
   obtain⟨vv,aQ⟩:∃vv,vv=val P p ((k:Int)+1):=⟨_,rfl⟩;rw[←aQ] at aF;have HVV:=Zk aQ;have aN:Hid (∀W':World,SI W' (.slice Ap p.length cp) p→Calls Tryz.prog 54 #[.int .i64 P,.slice Ap p.length cp,.int .i64 ((k:Int)+1)] W' fun e w'=>e= .returned (.int .i64 vv)∧Below W'.heap.size W' w'):=Zk (fun W' h=>by rw[aQ];exact Ik P ((k:Int)+1) p _ W' hP hx aY.out hpl h)
   clear ha aD e2 e3 ey aV eW aQ;have hd:decide (k<l.length)=true:=Ze hlt;by_cases hh:kb=true∧vv≠y
   ·obtain⟨bB,aH⟩:=hh;subst bB;have aC:Hid (wrg P (l.take (k+1)) p=wrg P (l.take k) p++[(k:Int)+1]):=Zk (by show _=_;rw[aF.out,if_pos ⟨rfl,aH⟩]);have bC:(vv !=y)=true:=by simp[aH]
    clear aF aH;go_upto_region 5 with fail
    rw[aT.out];go_region_held3 (fun w'=>w'.cell? ⟨wr.heap.size,0,none⟩=some (.int .i64 y)∧w'.cell? ⟨wr.heap.size,1,none⟩=some (.bool true)) (first|exact⟨x0,x1⟩|exact⟨z0,z1⟩|go_keep)
     ((go_at_call 54;refine (aN.out _ (by exact aM.out)).mono ?_;rintro e w9 ⟨rfl,aA⟩;have z0:w9.cell? ⟨wr.heap.size,0,none⟩=some (.int .i64 y):=(aA.cell (by exact aR)).trans x0;have z1:w9.cell? ⟨wr.heap.size,1,none⟩=some (.bool true):=(aA.cell (by exact aR)).trans x1;have aI:Hid (Below W.heap.size W w9):=Zk (⟨aA.os,aA.tape,aA.output,aA.size,aA.block⟩);clear aA))
    all_goals
     have aS:Hid (w9.ownsRow w.heap.size 3 1 _ (wrg P (l.take k) p).length ((wrg P (l.take k) p).map (Value.int .i64))):=Zk (Bm (aP.out _ HO.out) aI.out);have aB:Hid (Below w.heap.size w w9):=Zk (aJ.out.trans (aI.out.mono aJ.out.size));have aW:w.heap.size≤w9.heap.size:=aB.out.size;go_wp2_with (at_builtin;refine Bh _ rfl _ _ 22 rfl w.heap.size 3 Tryz.underlying22 Bi _ (wrg P (l.take k) p) rfl (by first|exact aS.out|exact aS.out.drew) ((k:Int)+1) rfl (by omega) (by exact aW) ?_;intro v8 w8 aE aK;have aZ:=Zk aE;have aL:Hid ((w9.alloc (.cells #[.int .i64 ((k:Int)+1)] 3)).grownBy w8 _):=Zk (⟨aK.os,aK.tape,aK.output,aK.size,aK.block⟩);clear aE aK);go_roundw
     case rel=>
      refine⟨k+1,by omega,by go_num,by rw[aC.out];exact aZ.out,?_⟩;exact (aB.out.alloc aW _).trans (⟨aL.out.os,aL.out.tape,aL.out.output,aL.out.size,fun i hi=>aL.out.block i (by simp;omega) (fun e1=>by have:=(aS.out.lt i e1.symm).1;omega)⟩)
     case measure=>simp[intOf];omega
   ·have aC:Hid (wrg P (l.take (k+1)) p=wrg P (l.take k) p):=Zk (by show _=_;rw[aF.out,if_neg hh,List.append_nil]);clear aF
    cases kb with
    |false=>
     clear hh;go_upto_region 5 with fail
     rw[aT.out];go_quiet (fail)
     all_goals
      go_wp2_with fail;go_roundw
      case rel=>exact⟨k+1,by omega,by go_num,by rw[aC.out];exact Bm (aP.out _ HO.out) (Below.drewN (Zb _ W) _),Below.drewN aJ.out _⟩
      case measure=>simp[intOf];omega
    |true=>
     have aH:vv=y:=by
      by_cases e1:vv=y
      ·exact e1
      ·exact absurd ⟨rfl,e1⟩ hh
     clear hh;have HV1:=Zk aH;have bC:(vv !=y)=false:=by rw[aH];simp
     clear aH;go_upto_region 5 with fail
     rw[aT.out];go_region_held3 (fun w'=>w'.cell? ⟨wr.heap.size,0,none⟩=some (.int .i64 y)∧w'.cell? ⟨wr.heap.size,1,none⟩=some (.bool true)) (first|exact⟨x0,x1⟩|exact⟨z0,z1⟩|go_keep)
      ((go_at_call 54;refine (aN.out _ (by exact aM.out)).mono ?_;rintro e w9 ⟨rfl,aA⟩;have z0:w9.cell? ⟨wr.heap.size,0,none⟩=some (.int .i64 y):=(aA.cell (by exact aR)).trans x0;have z1:w9.cell? ⟨wr.heap.size,1,none⟩=some (.bool true):=(aA.cell (by exact aR)).trans x1;have aI:Hid (Below W.heap.size W w9):=Zk (⟨aA.os,aA.tape,aA.output,aA.size,aA.block⟩);clear aA))
     all_goals
      have aB:Hid (Below w.heap.size w w9):=Zk (aJ.out.trans (aI.out.mono aJ.out.size));go_wp2_with fail;go_roundw
      case rel=>exact⟨k+1,by omega,by go_num,by rw[aC.out];first|exact Bm (aP.out _ HO.out) aI.out|exact (Bm (aP.out _ HO.out) aI.out).drew,by first|exact aB.out|exact aB.out.drew⟩
      case measure=>simp[intOf];omega
  ·obtain rfl:l.length=k:=by omega
   have bD:Hid (l.take l.length=l):=Zk (List.take_length);rw[bD.out] at HO;go_wp2_with fail;go_ret;exact⟨_,rfl,HO.out,HB.out⟩
end Go.Proofs.YtoiabanpnkpbhaaGreatDoor
