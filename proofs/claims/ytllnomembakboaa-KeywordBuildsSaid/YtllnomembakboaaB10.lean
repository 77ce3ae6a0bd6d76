/- Joined: Kr Ko Kt Nf Ny Nd Ks Ku. -/
import Derived.Test.YtllnomembakboaaB08
import Derived.Test.YtllnomembakboaaB09
import Derived.Test.YtllnomembakboaaB07
import Derived.Test.YtllnomembakboaaB06
namespace Go.Proofs.Ytllnomembakboaa
open Go.RowKit

def regionOf (n : Nat) : Code → Option Code
  | .region k ops d => if k = n then some (.region k ops d) else none
  | .seq a b => (regionOf n a).or (regionOf n b)
  | .block _ c => regionOf n c
  | .loop c => regionOf n c
  | .scope c => regionOf n c
  | .cond _ a b => (regionOf n a).or (regionOf n b)
  | _ => none
/-- a list of n values -/
def frn : Nat → List Value → Prop
  | 0, L => L = []
  | n + 1, L => ∃ a T, L = a :: T ∧ frn n T
theorem frn_len : ∀ L : List Value, frn L.length L
  | [] => rfl
  | a :: L => ⟨a, L, rfl, frn_len L⟩
def seg : List Value → Nat → List Value → List Value
  | L, 0, [] => L
  | _ :: L, 0, t :: T => t :: seg L 0 T
  | a :: L, n + 1, T => a :: seg L n T
  | [], _, _ => []
theorem seg_z (L : List Value) : seg L 0 [] = L := by unfold seg; rfl
theorem seg_t (a t : Value) (L T : List Value) : seg (a :: L) 0 (t :: T) = t :: seg L 0 T := by rw [seg]
theorem seg_s (a : Value) (L T : List Value) (n : Nat) : seg (a :: L) (n + 1) T = a :: seg L n T := by rw [seg]
theorem frn_of {n : Nat} {L : List Value} (h : L.length = n) : frn n L := by subst h; exact frn_len L
/-- what a drawn statement must answer when it ends as it should; nothing else comes out of it -/
def nq (Q : Act → World → Prop) : Exit → Act → World → Prop
  | .normal, a, w => Q a w
  | _, _, _ => False
theorem nq_imp {Q : Exit → Act → World → Prop} : ∀ e a w, nq (fun a w => Q .normal a w) e a w → Q e a w := fun e a w h => by
  cases e <;> first | exact h | exact h.elim
set_option maxRecDepth 100000 in
theorem frn_all {p : List Value → Prop} {L : List Value} (hL : frn 163 L) (hp : ∀ s0 s1 s2 s3 s4 s5 s6 s7 s8 s9 s10 s11 s12 s13 s14 s15 s16 s17 s18 s19 s20 s21 s22 s23 s24 s25 s26 s27 s28 s29 s30 s31 s32 s33 s34 s35 s36 s37 s38 s39 s40 s41 s42 s43 s44 s45 s46 s47 s48 s49 s50 s51 s52 s53 s54 s55 s56 s57 s58 s59 s60 s61 s62 s63 s64 s65 s66 s67 s68 s69 s70 s71 s72 s73 s74 s75 s76 s77 s78 s79 s80 s81 s82 s83 s84 s85 s86 s87 s88 s89 s90 s91 s92 s93 s94 s95 s96 s97 s98 s99 s100 s101 s102 s103 s104 s105 s106 s107 s108 s109 s110 s111 s112 s113 s114 s115 s116 s117 s118 s119 s120 s121 s122 s123 s124 s125 s126 s127 s128 s129 s130 s131 s132 s133 s134 s135 s136 s137 s138 s139 s140 s141 s142 s143 s144 s145 s146 s147 s148 s149 s150 s151 s152 s153 s154 s155 s156 s157 s158 s159 s160 s161 s162 : Value, p (s0::s1::s2::s3::s4::s5::s6::s7::s8::s9::s10::s11::s12::s13::s14::s15::s16::s17::s18::s19::s20::s21::s22::s23::s24::s25::s26::s27::s28::s29::s30::s31::s32::s33::s34::s35::s36::s37::s38::s39::s40::s41::s42::s43::s44::s45::s46::s47::s48::s49::s50::s51::s52::s53::s54::s55::s56::s57::s58::s59::s60::s61::s62::s63::s64::s65::s66::s67::s68::s69::s70::s71::s72::s73::s74::s75::s76::s77::s78::s79::s80::s81::s82::s83::s84::s85::s86::s87::s88::s89::s90::s91::s92::s93::s94::s95::s96::s97::s98::s99::s100::s101::s102::s103::s104::s105::s106::s107::s108::s109::s110::s111::s112::s113::s114::s115::s116::s117::s118::s119::s120::s121::s122::s123::s124::s125::s126::s127::s128::s129::s130::s131::s132::s133::s134::s135::s136::s137::s138::s139::s140::s141::s142::s143::s144::s145::s146::s147::s148::s149::s150::s151::s152::s153::s154::s155::s156::s157::s158::s159::s160::s161::s162::[])) : p L := by
  iterate 163 obtain ⟨_, L, rfl, hL⟩ := hL
  subst hL
  exact hp _ _ _ _ _ _ _ _ _ _ _ _ _ _ _ _ _ _ _ _ _ _ _ _ _ _ _ _ _ _ _ _ _ _ _ _ _ _ _ _ _ _ _ _ _ _ _ _ _ _ _ _ _ _ _ _ _ _ _ _ _ _ _ _ _ _ _ _ _ _ _ _ _ _ _ _ _ _ _ _ _ _ _ _ _ _ _ _ _ _ _ _ _ _ _ _ _ _ _ _ _ _ _ _ _ _ _ _ _ _ _ _ _ _ _ _ _ _ _ _ _ _ _ _ _ _ _ _ _ _ _ _ _ _ _ _ _ _ _ _ _ _ _ _ _ _ _ _ _ _ _ _ _ _ _ _ _ _ _ _ _ _ _
theorem esize : (Try.prog.info? 41).map (·.size) = some 2 := by kernel_rfl
noncomputable def regB23C : Code := ((Try.f27.body.bind (regionOf 23)).getD .skip)
set_option maxRecDepth 1000000 in
set_option maxHeartbeats 4000000 in
theorem regB23 (g m n cap : Nat) (cur : Array Value) (cs : List Value) (w : World) (hm : m ≤ n) (hn : n + 1 ≤ cap) (hn2 : n ≤ 256) (hc : w.heap[g]? = some (.cells cur 41 (0, 0))) (hs : cur.size = cap * 2) (hl : cs.length = (n - m) * 2) (hsrc : ∀ j v, cs[j]? = some v → w.cell? ⟨g, m * 2 + j, none⟩ = some v) (h1 : ∀ v ∈ cs, v.oneCell' = true) {lfr : List Value} {Q : Exit → Act → World → Prop}
    (hK : ∀ (u86 u87 u88 u89 u90 u91 u92 u93 : Value) (w' : World), w'.heap[g]? = some (.cells (cur.toList.take ((m + 1) * 2) ++ cs ++ cur.toList.drop ((m + 1) * 2 + cs.length)).toArray 41 (0, 0)) ∧ w.grownBy w' (some g) → Q .normal ⟨(seg lfr 86 [u86,u87,u88,u89,u90,u91,u92,u93]).toArray, []⟩ w') (hL : frn 163 lfr) (e8 : lfr[8]? = some (Value.slice (some ⟨g, 0, none⟩) (n + 1) cap)) (e13 : lfr[13]? = some (Value.int .i64 m)) :
    Code.wp Try.prog regB23C Q ⟨lfr.toArray, []⟩ w := by
  revert hK e8 e13
  apply frn_all hL
  iterate 163 intro _
  intro hK e8 e13
  simp only [List.getElem?_cons_succ, List.getElem?_cons_zero, Option.some.injEq] at e8 e13
  simp only [seg_s, seg_t, seg_z] at hK
  subst e8 e13
  have HK := Lib.hid hK
  have HCU := Lib.hid hc
  have HSZ := Lib.hid hs
  have HSRC := Lib.hid hsrc
  have m0 : 0 ≤ (m : Int) := by omega
  have m2 : 0 ≤ (m : Int) + 1 := by omega
  have m3 : (m : Int) + 1 ≤ ((n + 1 : Nat) : Int) := by omega
  have m1 : (m : Int) ≤ ((n + 1 : Nat) : Int) := by omega
  have m6 : (m : Int) ≤ (n : Int) + 1 := by omega
  have m4 : ((m : Int) + 1).toNat = m + 1 := by omega
  have m5 : IntKind.i64.wrap ((m : Int) + 1) = (m : Int) + 1 := by exact IntWalk.i64_in _ (by omega)
  obtain ⟨A1, q1⟩ : ∃ A, (if cap = m + 1 then some (⟨g, 0, none⟩ : Addr) else some ⟨g, (m + 1) * 2, none⟩) = A := ⟨_, rfl⟩
  obtain ⟨A2, q2⟩ : ∃ A, (if cap = m then some (⟨g, 0, none⟩ : Addr) else some ⟨g, m * 2, none⟩) = A := ⟨_, rfl⟩
  have z1 : cs.length = Nat.min (n + 1 - m) (n - m) * 2 := by
    show cs.length = min (n + 1 - m) (n - m) * 2
    rw [Nat.min_eq_right (by omega)]; exact hl
  have z2 : 0 < Nat.min (n + 1 - m) (n - m) → A1 = some (⟨g, (m + 1) * 2, none⟩ : Addr) ∧ ∃ ad, A2 = some ad ∧ ∀ j v, cs[j]? = some v → w.cell? (ad.add j) = some v := by
    intro h0
    have h0 : 0 < min (n + 1 - m) (n - m) := h0
    rw [Nat.min_eq_right (by omega)] at h0
    rw [if_neg (by omega)] at q1 q2
    exact ⟨q1.symm, _, q2.symm, fun j v hj => by rw [show (⟨g, m * 2, none⟩ : Addr).add j = ⟨g, m * 2 + j, none⟩ from by unfold Addr.add; split <;> simp_all]; exact hsrc j v hj⟩
  have z3 : (m + 1) * 2 + cs.length ≤ cur.size := by omega
  have Z1 := Lib.hid z1
  have Z2 := Lib.hid z2
  have Z3 := Lib.hid z3
  have Z4 := Lib.hid h1
  clear hK hc hs hsrc z1 z2 z3 h1
  refine Code.wp_mono (Q := nq (fun a w => Q .normal a w)) nq_imp ?_
  conv => arg 2; whnf
  go_region_law (first | (refine step_copy_el (by rfl) (.tmp 89) (.tmp 92) _ _ (by rfl) 41 2 Try.underlying29 esize A1 A2 (n - m) (cap - (m + 1)) (n + 1 - m) (cap - m) (by simp [Act.eval, Act.put]) (by simp [Act.eval, Act.put]) g ((m + 1) * 2) cur 41 (by exact HCU.out) cs (by exact Z1.out) (by exact Z2.out) (by exact Z3.out) (by exact Z4.out) ?_; intro w8 h8 hg8; have H8 := Lib.hid h8; have HG8 := Lib.hid hg8; clear h8 hg8))
  exact HK.out _ _ _ _ _ _ _ _ w8 ⟨H8.out, ⟨HG8.out.os, HG8.out.tape, HG8.out.output, HG8.out.size, HG8.out.block⟩⟩

end Go.Proofs.Ytllnomembakboaa

namespace Go.Proofs.Ytllnomembakboaa
open Go.RowKit

theorem own_bel {w w' : World} {base e size n : Nat} {v : Value} {xs : List Value} (h : w.ownsRow base e size v n xs) (hb : Below w.heap.size w w') : w'.ownsRow base e size v n xs :=
  h.kept (grownBy_of_below hb none) (by cases hq : v.ownBlock with
    | none => exact .inl rfl
    | some q => exact .inr (by simp))
def HD (base : Nat) (w : World) (hv : Value) (vs : List Value) (hs : List (List Int)) : Prop :=
  w.ownsRow base 22 1 hv vs.length (vs.flatMap one) ∧ vs.length = hs.length ∧ ∀ j (h1 : j < vs.length) (h2 : j < hs.length), w.ownsRow base 3 1 vs[j] hs[j].length (hs[j].map (Value.int .i64)) ∧ ∀ k, vs[j].ownBlock = some k → hv.ownBlock ≠ some k
theorem HD.nil (base : Nat) (w : World) : HD base w (.slice none 0 0) [] [] := ⟨World.ownsRow_nil _ _ _ _, rfl, fun j h => by simp at h⟩
theorem HD.on {base : Nat} {w w' : World} {hv : Value} {vs : List Value} {hs : List (List Int)} (h : HD base w hv vs hs) (hb : Below w.heap.size w w') : HD base w' hv vs hs :=
  ⟨own_bel h.1 hb, h.2.1, fun j h1 h2 => ⟨own_bel (h.2.2 j h1 h2).1 hb, (h.2.2 j h1 h2).2⟩⟩
theorem HD.app {base B1 g cap : Nat} {w1 w2 : World} {hv v : Value} {vs : List Value} {hs : List (List Int)} {l : List Int} {o : Obj} (h : HD base w1 hv vs hs)
    (hn : w1.ownsRow B1 3 1 v l.length (l.map (Value.int .i64))) (hlt : ∀ k, hv.ownBlock = some k → k < B1) (hB : base ≤ B1) (hg : (w1.alloc o).grownBy w2 hv.ownBlock) (hat : hv.ownBlock = some g ∨ g = w1.heap.size + 1)
    (hnew : w2.ownsRow base 22 1 (.slice (some ⟨g, 0, none⟩) (vs ++ [v]).length cap) (vs ++ [v]).length ((vs ++ [v]).flatMap one)) :
    HD base w2 (.slice (some ⟨g, 0, none⟩) (vs ++ [v]).length cap) (vs ++ [v]) (hs ++ [l]) := by
  have key : ∀ {b' : Nat} {u : Value} {r : List Int}, w1.ownsRow b' 3 1 u r.length (r.map (Value.int .i64)) → base ≤ b' → (∀ k, u.ownBlock = some k → hv.ownBlock ≠ some k) →
      w2.ownsRow base 3 1 u r.length (r.map (Value.int .i64)) ∧ ∀ k, u.ownBlock = some k → (Value.slice (some ⟨g, 0, none⟩) (vs ++ [v]).length cap).ownBlock ≠ some k := by
    intro b' u r hu hb hne
    refine ⟨own_lo ((hu.alloc o).kept hg ?_) hb, fun k hk e => ?_⟩
    · cases hq : u.ownBlock with
      | none => exact .inl rfl
      | some q => exact .inr (fun e => hne q hq e.symm)
    · injection e with e
      have e : g = k := e
      subst e
      rcases hat with h1 | h1
      · exact hne _ hk h1
      · have := (hu.lt _ hk).2
        omega
  refine ⟨hnew, by simp [h.2.1], fun j h1 h2 => ?_⟩
  rcases Nat.lt_or_ge j vs.length with hj | hj
  · have hj2 : j < hs.length := by rw [← h.2.1]; exact hj
    rw [List.getElem_append_left hj, List.getElem_append_left hj2]
    exact key (h.2.2 j hj hj2).1 (Nat.le_refl _) (h.2.2 j hj hj2).2
  · have hjv : j = vs.length := by simp at h1; omega
    subst hjv
    have e1 : (vs ++ [v])[vs.length] = v := by simp
    have e2 : (hs ++ [l])[vs.length] = l := by simp [h.2.1]
    rw [e1, e2]
    exact key hn hB fun k hk e => by have := hlt k e; have := (hn.lt k hk).1; omega
theorem HD.slb {base : Nat} {w : World} {hv : Value} {vs : List Value} {hs : List (List Int)} (h : HD base w hv vs hs) (hr : ∀ l ∈ hs, ∀ x ∈ l, i64r x) : SLb w.heap.size w hv hs := by
  refine ⟨vs, h.2.1, SV.of_own h.1 (fun _ _ => rfl), fun j h1 h2 => ?_⟩
  exact SI.of_own (h.2.2 j h1 h2).1 (hr _ (List.getElem_mem h2))
end Go.Proofs.Ytllnomembakboaa

namespace Go.Proofs.Ytllnomembakboaa
open Go.RowKit

/-- lists of lists of entries -/
def SLe (B : Nat) (w : World) (v : Value) (bs : List (List (ByteArray × Int))) : Prop :=
  ∃ vs : List Value, vs.length = bs.length ∧ SV one 1 B w v vs ∧ ∀ j (h1 : j < vs.length) (h2 : j < bs.length), SV ecs 2 B w vs[j] bs[j]
structure EN (base G : Nat) (bs : List (List (ByteArray × Int))) (vs : List Value) (w : World) : Prop where
  hdr : w.heap[G]? = some (.cells vs.toArray 29 (0, 0))
  lv : vs.length = bs.length
  row : ∀ b (h1 : b < vs.length) (h2 : b < bs.length), w.ownsRow base 41 2 vs[b] bs[b].length (bs[b].flatMap ecs)
  apart : ∀ b c (h1 : b < vs.length) (h2 : c < vs.length), b ≠ c → ∀ q, vs[b].ownBlock = some q → vs[c].ownBlock ≠ some q
  gb : G < base
theorem EN.made {G n base : Nat} {w : World} (h : w.heap[G]? = some (.cells (Array.replicate n (Value.slice none 0 0)) 29 (0, 0))) (hG : G < base) : EN base G (List.replicate n []) (List.replicate n (.slice none 0 0)) w :=
  ⟨by rw [h]; simp, by simp, fun b h1 h2 => by simp; exact World.ownsRow_nil _ _ _ _, fun b c h1 h2 _ q hq => by simp [Value.ownBlock] at hq, hG⟩
theorem EN.cells {base G : Nat} {bs : List (List (ByteArray × Int))} {vs : List Value} {w : World} (h : EN base G bs vs w) {b : Nat} (hb : b < vs.length) : w.cell? ⟨G, b, none⟩ = some vs[b] ∧ w.frozen? ⟨G, b, none⟩ = false :=
  ⟨(cell_of_row w G b _ _ _ h.hdr).trans (by simp [hb]), frozen_of_row w G b _ _ h.hdr⟩
theorem EN.on {base G : Nat} {bs : List (List (ByteArray × Int))} {vs : List Value} {w w' : World} (h : EN base G bs vs w) (hb : Below w.heap.size w w') : EN base G bs vs w' :=
  ⟨(hb.block G (heap_of_cells h.hdr)).trans h.hdr, h.lv, fun b h1 h2 => own_bel (h.row b h1 h2) hb, h.apart, h.gb⟩
theorem EN.app {base G g cap b : Nat} {bs : List (List (ByteArray × Int))} {vs : List Value} {w1 w2 : World} {e : ByteArray × Int} {o : Obj} (h : EN base G bs vs w1) (hb : b < vs.length) (hb2 : b < bs.length)
    (hbase : base ≤ w1.heap.size) (hg : (w1.alloc o).grownBy w2 vs[b].ownBlock) (hat : vs[b].ownBlock = some g ∨ g = w1.heap.size + 1)
    (hnew : w2.ownsRow base 41 2 (.slice (some ⟨g, 0, none⟩) (bs[b].length + 1) cap) (bs[b].length + 1) ((bs[b] ++ [e]).flatMap ecs)) :
    EN base G (bs.set b (bs[b] ++ [e])) (vs.set b (.slice (some ⟨g, 0, none⟩) (bs[b].length + 1) cap)) (w2.setCell ⟨G, b, none⟩ (.slice (some ⟨g, 0, none⟩) (bs[b].length + 1) cap)) := by
  have hG1 : G < w1.heap.size := heap_of_cells h.hdr
  have hgb := h.gb
  have hGh : w2.heap[G]? = some (.cells vs.toArray 29 (0, 0)) := by
    rw [hg.block G (by simp; omega) (fun e => by have := ((h.row b hb hb2).lt G e.symm).1; omega), Below.heap_alloc w1 o G hG1]
    exact h.hdr
  have hS := heap_setCell_same w2 G b _ _ (.slice (some ⟨g, 0, none⟩) (bs[b].length + 1) cap) hGh
  have hkeep : w2.grownBy (w2.setCell ⟨G, b, none⟩ (.slice (some ⟨g, 0, none⟩) (bs[b].length + 1) cap)) (some G) := grownBy_setCell (g := G) (p := ⟨G, b, none⟩) (grownBy_refl _ _) (.inl rfl) _
  have hgB : base ≤ g := by
    rcases hat with h1 | h1
    · exact ((h.row b hb hb2).lt g h1).1
    · omega
  have old : ∀ c (h1 : c < vs.length) (h2 : c < bs.length), c ≠ b → (w2.setCell ⟨G, b, none⟩ (.slice (some ⟨g, 0, none⟩) (bs[b].length + 1) cap)).ownsRow base 41 2 vs[c] bs[c].length (bs[c].flatMap ecs) := fun c h1 h2 hne => by
    have k1 := ((h.row c h1 h2).alloc o).kept hg (by
      cases hq : vs[c].ownBlock with
      | none => exact .inl rfl
      | some q => exact .inr (fun e => h.apart c b h1 hb hne q hq e.symm))
    refine k1.kept hkeep ?_
    cases hq : vs[c].ownBlock with
    | none => exact .inl rfl
    | some q => exact .inr (fun e => by injection e with e; have := ((h.row c h1 h2).lt q hq).1; omega)
  have fresh : ∀ c (h1 : c < vs.length), c ≠ b → vs[c].ownBlock ≠ some g := fun c h1 hne e => by
    rcases hat with k | k
    · exact h.apart c b h1 hb hne g e k
    · have := ((h.row c h1 (by rw [← h.lv]; exact h1)).lt g e).2
      omega
  refine ⟨by rw [hS]; simp, by simp [h.lv], fun c h1 h2 => ?_, fun c d h1 h2 hne q hq => ?_, hgb⟩
  · by_cases hcb : c = b
    · subst hcb
      simp only [List.getElem_set_self]
      rw [List.length_append, List.length_singleton]
      refine hnew.kept hkeep (.inr (fun e => ?_))
      injection e with e
      have e : g = G := e
      omega
    · simp only [List.getElem_set_ne (Ne.symm hcb)]
      exact old c (by simpa using h1) (by simpa using h2) hcb
  · have h1' : c < vs.length := by simpa using h1
    have h2' : d < vs.length := by simpa using h2
    by_cases hcb : c = b
    · subst hcb
      rw [List.getElem_set_self] at hq
      injection hq with hq
      have hq : g = q := hq
      subst hq
      rw [List.getElem_set_ne hne]
      exact fresh d h2' (Ne.symm hne)
    · rw [List.getElem_set_ne (Ne.symm hcb)] at hq
      by_cases hdb : d = b
      · subst hdb
        rw [List.getElem_set_self]
        intro e
        injection e with e
        have e : g = q := e
        subst e
        exact fresh c h1' hcb hq
      · rw [List.getElem_set_ne (Ne.symm hdb)]
        exact h.apart c d h1' h2' hne q hq
theorem EN.sle {base G : Nat} {bs : List (List (ByteArray × Int))} {vs : List Value} {w : World} (h : EN base G bs vs w) (hn : bs.length ≤ 1000000) : SLe w.heap.size w (.slice (some ⟨G, 0, none⟩) bs.length bs.length) bs := by
  refine ⟨vs, h.lv, ⟨_, bs.length, by rw [h.lv], by rw [h.lv]; omega, by omega, fun _ => ⟨G, 0, rfl, heap_of_cells h.hdr, fun j hj i hi => ?_⟩⟩, fun j h1 h2 => SV.of_own (h.row j h1 h2) (fun x _ => ecs_len x)⟩
  have hi0 : i = 0 := by omega
  subst hi0
  rw [show 0 + (j * 1 + 0) = j by omega, (h.cells hj).1]
  rfl
end Go.Proofs.Ytllnomembakboaa

namespace Go.Proofs.Ytllnomembakboaa
open Go.RowKit

def SVo {α : Type} (enc : α → List Value) (sz lo : Nat) (w : World) (v : Value) (l : List α) : Prop :=
  ∃ A c, v = .slice A l.length c ∧ l.length ≤ c ∧ c ≤ 9223372036854775807 ∧
    (0 < l.length → ∃ b off, A = some ⟨b, off, none⟩ ∧ lo ≤ b ∧ b < w.heap.size ∧ ∀ j (h : j < l.length) i, i < sz → w.cell? ⟨b, off + (j * sz + i), none⟩ = (enc l[j])[i]?)
section
variable {α : Type} {enc : α → List Value} {sz lo : Nat} {w w' : World} {v : Value} {l : List α}
theorem SVo.sv (h : SVo enc sz lo w v l) : SV enc sz w.heap.size w v l := by
  obtain ⟨A, c, e, h1, h2, h3⟩ := h
  refine ⟨A, c, e, h1, h2, fun h0 => ?_⟩
  obtain ⟨b, off, e, _, hb, hc⟩ := h3 h0
  exact ⟨b, off, e, hb, hc⟩
theorem SVo.form (h : SVo enc sz lo w v l) : ∃ A c, v = .slice A l.length c := h.sv.form
theorem SVo.lower {lo' : Nat} (h : SVo enc sz lo w v l) (hl : lo' ≤ lo) : SVo enc sz lo' w v l := by
  obtain ⟨A, c, e, h1, h2, h3⟩ := h
  refine ⟨A, c, e, h1, h2, fun h0 => ?_⟩
  obtain ⟨b, off, e, hb0, hb, hc⟩ := h3 h0
  exact ⟨b, off, e, by omega, hb, hc⟩
theorem SVo.keep (h : SVo enc sz lo w v l) (hs : w.heap.size ≤ w'.heap.size) (hk : ∀ p : Addr, lo ≤ p.block → p.block < w.heap.size → w'.cell? p = w.cell? p) : SVo enc sz lo w' v l := by
  obtain ⟨A, c, e, h1, h2, h3⟩ := h
  refine ⟨A, c, e, h1, h2, fun h0 => ?_⟩
  obtain ⟨b, off, e, hb0, hb, hc⟩ := h3 h0
  exact ⟨b, off, e, hb0, by omega, fun j hj i hi => (hk _ hb0 hb).trans (hc j hj i hi)⟩
theorem SVo.below (h : SVo enc sz lo w v l) (hb : Below w.heap.size w w') : SVo enc sz lo w' v l := h.keep hb.size fun _ _ hp => hb.cell hp
theorem SVo.grown {g : Nat} (h : SVo enc sz lo w v l) (hg : w.grownBy w' (some g)) (hl : g < lo) : SVo enc sz lo w' v l :=
  h.keep hg.size fun p h1 h2 => World.cell?_of_block (hg.block p.block h2 (by simp; omega))
theorem SVo.of_own {base : Nat} {e : TypeId} (h : w.ownsRow base e sz v l.length (l.flatMap enc)) (hl : ∀ x ∈ l, (enc x).length = sz) : SVo enc sz base w v l := by
  obtain ⟨A, c, e1, h1, h2, h3⟩ := SV.of_own h hl
  refine ⟨A, c, e1, h1, h2, fun h0 => ?_⟩
  obtain ⟨b, off, e2, hb, hc⟩ := h3 h0
  subst e1 e2
  exact ⟨b, off, rfl, (h.lt b rfl).1, hb, hc⟩
end
/-- lists of lists of entries that lie so -/
def SLo (lo : Nat) (w : World) (v : Value) (bs : List (List (ByteArray × Int))) : Prop :=
  ∃ vs : List Value, vs.length = bs.length ∧ SVo one 1 lo w v vs ∧ ∀ j (h1 : j < vs.length) (h2 : j < bs.length), SVo ecs 2 lo w vs[j] bs[j]
section
variable {lo : Nat} {w w' : World} {v : Value} {bs : List (List (ByteArray × Int))}
theorem SLo.below (h : SLo lo w v bs) (hb : Below w.heap.size w w') : SLo lo w' v bs := by
  obtain ⟨vs, h1, h2, h3⟩ := h
  exact ⟨vs, h1, h2.below hb, fun j a b => (h3 j a b).below hb⟩
theorem SLo.grown {g : Nat} (h : SLo lo w v bs) (hg : w.grownBy w' (some g)) (hl : g < lo) : SLo lo w' v bs := by
  obtain ⟨vs, h1, h2, h3⟩ := h
  exact ⟨vs, h1, h2.grown hg hl, fun j a b => (h3 j a b).grown hg hl⟩
theorem SLo.lower {lo' : Nat} (h : SLo lo w v bs) (hl : lo' ≤ lo) : SLo lo' w v bs := by
  obtain ⟨vs, h1, h2, h3⟩ := h
  exact ⟨vs, h1, h2.lower hl, fun j a b => (h3 j a b).lower hl⟩
theorem SLo.form (h : SLo lo w v bs) : ∃ A c, v = .slice A bs.length c := by
  obtain ⟨vs, h1, h2, _⟩ := h
  obtain ⟨A, c, e⟩ := h2.form
  exact ⟨A, c, by rw [e, h1]⟩
theorem SLo.row {n c : Nat} {A : Option Addr} (h : SLo lo w (.slice A n c) bs) (j : Nat) (hj : j < bs.length) :
    n = bs.length ∧ ∃ b off A' c', A = some ⟨b, off, none⟩ ∧ lo ≤ b ∧ b < w.heap.size ∧ w.cell? ⟨b, off + j, none⟩ = some (.slice A' bs[j].length c') ∧ SVo ecs 2 lo w (.slice A' bs[j].length c') bs[j] := by
  obtain ⟨vs, h1, ⟨A0, c0, e, _, _, ha⟩, h3⟩ := h
  injection e with e1 e2 e3
  subst e1
  obtain ⟨b, off, rfl, hb0, hb, hcell⟩ := ha (by omega)
  have hs := h3 j (by omega) hj
  obtain ⟨A', c', e⟩ := hs.form
  have := hcell j (by omega) 0 (by omega)
  rw [e] at hs
  refine ⟨by omega, b, off, A', c', rfl, hb0, hb, ?_, hs⟩
  rw [← e]
  simpa [one] using this
end
theorem EN.slo {base lo G : Nat} {bs : List (List (ByteArray × Int))} {vs : List Value} {w : World} (h : EN base G bs vs w) (hn : bs.length ≤ 1000000) (hG : lo ≤ G) : SLo lo w (.slice (some ⟨G, 0, none⟩) bs.length bs.length) bs := by
  have hgb := h.gb
  refine ⟨vs, h.lv, ⟨_, bs.length, by rw [h.lv], by rw [h.lv]; omega, by omega, fun _ => ⟨G, 0, rfl, hG, heap_of_cells h.hdr, fun j hj i hi => ?_⟩⟩, fun j h1 h2 => (SVo.of_own (h.row j h1 h2) (fun x _ => ecs_len x)).lower (by omega)⟩
  have hi0 : i = 0 := by omega
  subst hi0
  rw [show 0 + (j * 1 + 0) = j by omega, (h.cells hj).1]
  rfl
end Go.Proofs.Ytllnomembakboaa

namespace Go.Proofs.Ytllnomembakboaa
open Go.RowKit

theorem take_up {a b : List Int} {k : Nat} (h : a.take k = b.take k) (h1 : k < a.length) (h2 : k < b.length) (e : a[k] = b[k]) : a.take (k + 1) = b.take (k + 1) := by
  rw [List.take_succ_eq_append_getElem h1, List.take_succ_eq_append_getElem h2, h, e]
theorem SBD.cellAt {D : Nat → Prop} {w : World} {A : Option Addr} {n c : Nat} {l : List Int} (h : SBD D w (.slice A n c) l) {k : Nat} (hk : k < l.length) : ∃ b off, A = some ⟨b, off, none⟩ ∧ D b ∧ w.cell? ⟨b, off + k, none⟩ = some (.int .i64 l[k]) := by
  obtain ⟨A', c', e, _, _, ha⟩ := h
  injection e with e1 e2 e3
  subst e1
  obtain ⟨b, off, rfl, hb, hc⟩ := ha (by omega)
  exact ⟨b, off, rfl, hb, hc k hk⟩
set_option maxRecDepth 100000 in
theorem same_any (a b : List Int) (va vb : Value) (w : World) (ha : SBD (fun k => k < w.heap.size) w va a) (hb : SBD (fun k => k < w.heap.size) w vb b) (hl : a.length ≤ 1000000) (hl2 : b.length ≤ 1000000) :
    Calls Try.prog 24 #[va, vb] w fun e w' => e = .returned (.bool (decide (a = b))) ∧ Below w.heap.size w w' := by
  obtain ⟨Aa, ca, rfl⟩ := ha.form
  obtain ⟨Ab, cb, rfl⟩ := hb.form
  have HA := Lib.hid ha
  have HB := Lib.hid hb
  clear ha hb
  go_enter Try.func24, Try.ntmps24
  by_cases hlen : a.length = b.length
  · have HL := Lib.hid hlen
    rw [← hlen]
    clear hlen
    go_wp2_with fail
    go_loopw [13] (fun iv wr => ∃ k : Nat, k ≤ a.length ∧ iv = .int .i64 k ∧ a.take k = b.take k ∧ Below w.heap.size w wr) (fun iv _ => a.length - (intOf iv).toNat)
    case atStart => exact ⟨0, Nat.zero_le _, rfl, by simp, Below.refl _ _⟩
    case round =>
      obtain ⟨k, hk, rfl, htk, hbw⟩ := hrel
      have HTK := Lib.hid htk
      have HBW := Lib.hid hbw
      have hzw := hbw.size
      clear htk hbw
      by_cases hkt : k < a.length
      · have hkb : k < b.length := by rw [← HL.out]; exact hkt
        obtain ⟨p, o, rfl, hp, c0⟩ := HA.out.cellAt hkt
        obtain ⟨q, r, rfl, hq, c1⟩ := HB.out.cellAt hkb
        have k0 := (HBW.out.cell (p := ⟨p, o + k, none⟩) hp).trans c0
        have k1 := (HBW.out.cell (p := ⟨q, r + k, none⟩) hq).trans c1
        obtain ⟨x, ex⟩ : ∃ x, x = a[k] := ⟨_, rfl⟩
        obtain ⟨y, ey⟩ : ∃ y, y = b[k] := ⟨_, rfl⟩
        rw [← ex] at k0
        rw [← ey] at k1
        have z0 : 0 ≤ (k : Int) := by omega
        have z1 : (k : Int) < (a.length : Int) := by omega
        have wk : IntKind.i64.wrap ((k : Int) + 1) = (k : Int) + 1 := by exact IntWalk.i64_in _ (by omega)
        have HEX := Lib.hid ex
        have HEY := Lib.hid ey
        clear c0 c1 ex ey
        by_cases hxy : x = y
        · subst hxy
          go_upto_region 6 with fail
          go_quiet (fail)
          go_wp2_with fail
          go_roundw
          case rel => exact ⟨k + 1, hkt, by go_num, take_up HTK.out hkt hkb (by rw [← HEX.out, ← HEY.out]), ⟨HBW.out.os, HBW.out.tape, HBW.out.output, HBW.out.size, HBW.out.block⟩⟩
          case measure => simp [intOf]; omega
        · have HNE := Lib.hid hxy
          go_upto_region 6 with fail
          go_quiet (fail)
          go_wp2_with fail
          go_ret
          have e1 : decide (a = b) = false := decide_eq_false (fun e => by subst e; exact HNE.out (HEX.out.trans HEY.out.symm))
          exact ⟨by rw [e1]; rfl, ⟨HBW.out.os, HBW.out.tape, HBW.out.output, HBW.out.size, HBW.out.block⟩⟩
      · have hke : k = a.length := by omega
        go_wp2_with fail
        go_ret
        have e1 : decide (a = b) = true := decide_eq_true (by have h := HTK.out; rw [hke, List.take_length, HL.out, List.take_length] at h; exact h)
        exact ⟨by rw [e1]; rfl, HBW.out⟩
  · have HL := Lib.hid hlen
    have h1 : ¬ ((a.length : Int) = (b.length : Int)) := by omega
    go_wp2_with fail
    go_ret
    have e1 : decide (a = b) = false := decide_eq_false (fun e => HL.out (by rw [e]))
    exact ⟨by rw [e1]; rfl, Below.refl _ _⟩
/-- what is found in buckets -/
def pickE (key : ByteArray) (l : List (ByteArray × Int)) : Option Int := (l.find? fun e => decide (e.1 = key)).map (·.2)
def pickF (key : ByteArray) (bs : List (List (ByteArray × Int))) : Option Int := bs.findSome? (pickE key)
def pickV (o : Option Int) : Value := match o with
  | some n => .tuple #[.int .i64 n, .bool true, .int .i64 0]
  | none => .tuple #[.int .i64 0, .bool false, .int .i64 0]
theorem pickF_none {key : ByteArray} {bs : List (List (ByteArray × Int))} : pickF key bs = none ↔ ∀ l ∈ bs, ∀ e ∈ l, e.1 ≠ key := by
  unfold pickF pickE
  simp [List.findSome?_eq_none_iff]
theorem pickF_split {key : ByteArray} {A C : List (List (ByteArray × Int))} {P Q : List (ByteArray × Int)} {x : Int} (h1 : ∀ l ∈ A, ∀ e ∈ l, e.1 ≠ key) (h2 : ∀ e ∈ P, e.1 ≠ key) : pickF key (A ++ (P ++ (key, x) :: Q) :: C) = some x := by
  unfold pickF
  rw [List.findSome?_append]
  have h3 : A.findSome? (pickE key) = none := pickF_none.2 h1
  have h4 : P.find? (fun e => decide (e.1 = key)) = none := by
    rw [List.find?_eq_none]
    intro e he
    simpa using h2 e he
  rw [h3]
  simp [pickE, List.find?_append, h4]
theorem pickF_hit {key : ByteArray} {bs : List (List (ByteArray × Int))} {i j : Nat} {row : List (ByteArray × Int)} {x : Int} (hi : i < bs.length) (hr : row = bs[i]) (hj : j < row.length) (h : row[j] = (key, x)) (h1 : ∀ l ∈ bs.take i, ∀ e ∈ l, e.1 ≠ key) (h2 : ∀ e ∈ row.take j, e.1 ≠ key) : pickF key bs = some x := by
  have e2 : bs = bs.take i ++ row :: bs.drop (i + 1) := by rw [hr]; simp
  have e3 : row = row.take j ++ (key, x) :: row.drop (j + 1) := by rw [← h]; simp
  rw [e2, e3]
  exact pickF_split h1 h2
set_option maxRecDepth 100000 in
theorem pick_any (key : ByteArray) (bs : List (List (ByteArray × Int))) (v : Value) (w : World) (hks : key.size ≤ 9223372036854775807) (h : SLe w.heap.size w v bs) :
    Calls Try.prog 20 #[.string key, v] w fun e w' => e = .returned (if ky key = true then pickV (pickF key bs) else .tuple #[.int .i64 0, .bool false, .int .i64 1]) ∧ Below w.heap.size w w' := by
  obtain ⟨vs, hvl, hsv, hrows⟩ := h
  obtain ⟨A, c, rfl⟩ := hsv.form
  have hbl : bs.length ≤ 9223372036854775807 := by obtain ⟨_, _, _, h1, h2, _⟩ := hsv; omega
  have HSV := Lib.hid hsv
  have HROWS := Lib.hid hrows
  have HVL := Lib.hid hvl
  rw [hvl]
  clear hsv hrows hvl
  go_enter Try.func20, Try.ntmps20
  go_wp2_with fail
  (with_reducible refine (proper_any key w hks).mono ?_)
  rintro e w2 ⟨rfl, hw2⟩
  subst hw2
  cases hky : ky key
  · go_wp2_with fail
    all_goals refine bodyPost_ret (v := .tuple #[.int .i64 0, .bool false, .int .i64 1]) (by simp [results, Try.results20, go_sem]) rfl ?_
    all_goals exact ⟨by simp, Below.refl _ _⟩
  · go_wp2_with fail
    go_loopw [16] (fun iv wr => ∃ i : Nat, i ≤ bs.length ∧ iv = .int .i64 i ∧ (∀ l ∈ bs.take i, ∀ e ∈ l, e.1 ≠ key) ∧ Below w.heap.size w wr) (fun iv _ => bs.length - (intOf iv).toNat)
    case atStart => exact ⟨0, Nat.zero_le _, rfl, fun l hl => by simp at hl, Below.refl _ _⟩
    case round =>
      obtain ⟨i, hi, rfl, hno, hbw⟩ := hrel
      have HNO := Lib.hid hno
      have HBW := Lib.hid hbw
      have hzw := hbw.size
      clear hno hbw
      by_cases hit : i < bs.length
      · obtain ⟨_, hat⟩ := HSV.out.at
        have hiv : i < vs.length := by rw [HVL.out]; exact hit
        obtain ⟨b, off, rfl, hb, hc⟩ := hat i hiv
        have c0 : wr.cell? ⟨b, off + i, none⟩ = some vs[i] := by simpa [one] using hc wr HBW.out 0 (by omega)
        have hrow := HROWS.out i hiv hit
        obtain ⟨Ar, cr, er⟩ := hrow.form
        obtain ⟨row, erow⟩ : ∃ r, r = bs[i] := ⟨_, rfl⟩
        rw [er, ← erow] at c0
        rw [er, ← erow] at hrow
        have HROW := Lib.hid hrow
        have HER := Lib.hid erow
        have hrl : row.length ≤ 9223372036854775807 := by obtain ⟨_, _, e, h1, h2, _⟩ := hrow; omega
        have z0 : 0 ≤ (i : Int) := by omega
        have z1 : (i : Int) < (bs.length : Int) := by omega
        have wi : IntKind.i64.wrap ((i : Int) + 1) = (i : Int) + 1 := by exact IntWalk.i64_in _ (by omega)
        clear hat hc hrow er erow
        go_wp2_with fail
        clear c0
        go_loopw [22] (fun iv wq => ∃ j : Nat, j ≤ row.length ∧ iv = .int .i64 j ∧ (∀ e ∈ row.take j, e.1 ≠ key) ∧ Below w.heap.size w wq) (fun iv _ => row.length - (intOf iv).toNat)
        case atStart => exact ⟨0, Nat.zero_le _, rfl, fun l hl => by simp at hl, HBW.out⟩
        case round =>
          obtain ⟨j, hj, rfl, hno2, hbw2⟩ := hrel
          have HNO2 := Lib.hid hno2
          have HBW2 := Lib.hid hbw2
          have hzw2 := hbw2.size
          clear hno2 hbw2
          by_cases hjt : j < row.length
          · obtain ⟨_, hat⟩ := HROW.out.at
            obtain ⟨p, o, rfl, hp, hcell⟩ := hat j hjt
            obtain ⟨k, ek⟩ : ∃ k, k = row[j].1 := ⟨_, rfl⟩
            obtain ⟨x, ex⟩ : ∃ x, x = row[j].2 := ⟨_, rfl⟩
            have c0 : wr.cell? ⟨p, o + j * 2, none⟩ = some (.string k) := by rw [ek]; exact hcell wr HBW2.out 0 (by omega)
            have c1 : wr.cell? ⟨p, o + j * 2 + 1, none⟩ = some (.int .i64 x) := by rw [ex]; exact hcell wr HBW2.out 1 (by omega)
            have HEJ : Hid (row[j] = (k, x)) := (show Hid _ from by rw [ek, ex]; exact rfl)
            have y0 : 0 ≤ (j : Int) := by omega
            have y1 : (j : Int) < (row.length : Int) := by omega
            have wj : IntKind.i64.wrap ((j : Int) + 1) = (j : Int) + 1 := by exact IntWalk.i64_in _ (by omega)
            clear hat hcell ek ex
            obtain ⟨X, eX⟩ : ∃ X, X = wr.heap.size := ⟨_, rfl⟩
            obtain ⟨wx, ewx⟩ : ∃ wx : World, wx = wr.alloc (.cells #[.string k, .int .i64 x] 41) := ⟨_, rfl⟩
            have HWwx : Hid (wr.alloc (.cells #[.string k, .int .i64 x] 41) = wx) := ewx.symm
            have HAwx : Hid (Below wr.heap.size wr wx) := (show Hid _ from by rw [ewx]; exact (Below.refl _ wr).alloc (Nat.le_refl _) _)
            have HX0wx : Hid (wx.heap[X]? = some (.cells #[.string k, .int .i64 x] 41 (0, 0))) := (show Hid _ from by show _ = _; rw [ewx, eX]; exact heap_alloc_new wr _)
            have HXX : Hid (∀ W, Below wx.heap.size wx W → W.cell? ⟨X, 0, none⟩ = some (.string k) ∧ W.cell? ⟨X, 1, none⟩ = some (.int .i64 x)) := (show Hid _ from fun W hg => by
              have hX0 := (hg.block X (heap_of_cells HX0wx.out)).trans HX0wx.out
              exact ⟨cell_of_row W X 0 _ _ _ hX0, cell_of_row W X 1 _ _ _ hX0⟩)
            go_upto_region 9 with fail
            rw [HWwx.out, ← eX]
            clear ewx eX
            obtain ⟨k0, k1⟩ := HXX.out wx (Below.refl _ _)
            have HBX : Hid (Below w.heap.size w wx) := (show Hid _ from HBW2.out.trans (HAwx.out.mono (by omega)))
            clear c0 c1
            by_cases hkk : k = key
            · subst hkk
              have HPK : Hid (pickF k bs = some x) := (show Hid _ from pickF_hit hit HER.out hjt HEJ.out HNO.out HNO2.out)
              go_wp2_with fail
              refine bodyPost_ret (v := .tuple #[.int .i64 x, .bool true, .int .i64 0]) (by simp [results, Try.results20, go_sem]) rfl ?_
              exact ⟨by rw [HPK.out]; rfl, HBX.out⟩
            · have hkl : (k.toList == key.toList) = false := by
                rw [beq_eq_false_iff_ne]
                exact fun e => hkk (tl_inj e)
              have HNX : Hid (∀ e ∈ row.take (j + 1), e.1 ≠ key) := (show Hid _ from fun e he => by
                rw [List.take_succ_eq_append_getElem hjt, List.mem_append, List.mem_singleton] at he
                rcases he with he | he
                · exact HNO2.out e he
                · rw [he, HEJ.out]; exact hkk)
              go_wp2_with fail
              go_roundw
              case rel => exact ⟨j + 1, hjt, by go_num, HNX.out, HBX.out⟩
              case measure => simp [intOf]; omega
          · have HNX : Hid (∀ l ∈ bs.take (i + 1), ∀ e ∈ l, e.1 ≠ key) := (show Hid _ from fun l hl => by
              rw [List.take_succ_eq_append_getElem hit, List.mem_append, List.mem_singleton] at hl
              rcases hl with hl | hl
              · exact HNO.out l hl
              · intro e he
                have hje : j = row.length := by omega
                have h := HNO2.out e
                rw [hje, List.take_length, HER.out] at h
                exact h (hl ▸ he))
            go_wp2_with fail
            go_roundw
            case rel => exact ⟨i + 1, hit, by go_num, HNX.out, HBW2.out⟩
            case measure => simp [intOf]; omega
      · have hie : i = bs.length := by omega
        have HPK : Hid (pickF key bs = none) := (show Hid _ from pickF_none.2 (by have h := HNO.out; rw [hie, List.take_length] at h; exact h))
        go_wp2_with fail
        refine bodyPost_ret (v := .tuple #[.int .i64 0, .bool false, .int .i64 0]) (by simp [results, Try.results20, go_sem]) rfl ?_
        exact ⟨by rw [HPK.out]; rfl, HBW.out⟩
end Go.Proofs.Ytllnomembakboaa

namespace Go.Proofs.Ytllnomembakboaa

/-- entries are valid, with different keys -/
def EnV (es : List (ByteArray × Int)) : Prop := (∀ e ∈ es, ven e = true) ∧ (es.map (·.1)).Nodup
/-- the first error among entries -/
def ecode (seen : List (ByteArray × Int)) : List (ByteArray × Int) → Int
  | [] => 0
  | e :: t => if ven e = false then 1 else if (seen.any fun x => x.1.toList == e.1.toList) = true then 7 else ecode (seen ++ [e]) t
theorem EnV.nil : EnV [] := ⟨fun e h => by simp at h, by simp⟩
theorem EnV.ne {es : List (ByteArray × Int)} (h : EnV es) {j k : Nat} (hj : j < es.length) (hk : k < es.length) (hne : j ≠ k) : es[j].1 ≠ es[k].1 := by
  have := h.2
  rw [List.nodup_iff_pairwise_ne, List.pairwise_iff_getElem] at this
  rcases Nat.lt_or_ge j k with h1 | h1
  · have := this j k (by simpa using hj) (by simpa using hk) h1
    simpa using this
  · have := this k j (by simpa using hk) (by simpa using hj) (by omega)
    intro e
    exact this (by simpa using e.symm)
theorem EnV.snoc {es : List (ByteArray × Int)} {i : Nat} (h : EnV (es.take i)) (hi : i < es.length) (hv : ven es[i] = true) (hn : ∀ j (_ : j < i), es[j].1 ≠ es[i].1) : EnV (es.take (i + 1)) := by
  rw [List.take_succ_eq_append_getElem hi]
  refine ⟨fun e he => ?_, ?_⟩
  · rcases List.mem_append.1 he with h1 | h1
    · exact h.1 e h1
    · obtain rfl := List.mem_singleton.1 h1; exact hv
  · rw [List.map_append, List.nodup_append]
    refine ⟨h.2, by simp, fun a ha b hb => ?_⟩
    obtain ⟨e, he, rfl⟩ := List.mem_map.1 ha
    obtain ⟨j, hj, rfl⟩ := List.mem_take_iff_getElem.1 he
    simp only [List.map_cons, List.map_nil, List.mem_singleton] at hb
    subst hb
    exact hn j (by omega)
theorem ecode_range {es : List (ByteArray × Int)} {i : Nat} (hi : i < es.length) (hv : ven es[i] = false) : ecode (es.take i) (es.drop i) = 1 := by
  rw [List.drop_eq_getElem_cons hi, ecode, if_pos hv]
theorem ecode_twice {es : List (ByteArray × Int)} {i j : Nat} (hi : i < es.length) (hv : ven es[i] = true) (hj : j < i) (he : es[j].1 = es[i].1) : ecode (es.take i) (es.drop i) = 7 := by
  rw [List.drop_eq_getElem_cons hi, ecode, if_neg (by simp [hv]), if_pos]
  rw [List.any_eq_true]
  exact ⟨es[j], List.mem_take_iff_getElem.2 ⟨j, by omega, rfl⟩, by rw [he]; exact beq_self_eq_true _⟩
theorem ecode_next {es : List (ByteArray × Int)} {i : Nat} (hi : i < es.length) (hv : ven es[i] = true) (hn : ∀ j (_ : j < i), es[j].1 ≠ es[i].1) : ecode (es.take i) (es.drop i) = ecode (es.take (i + 1)) (es.drop (i + 1)) := by
  rw [List.drop_eq_getElem_cons hi, ecode, if_neg (by simp [hv]), if_neg, List.take_succ_eq_append_getElem hi]
  rw [List.any_eq_true]
  rintro ⟨e, he, h⟩
  obtain ⟨j, hj, rfl⟩ := List.mem_take_iff_getElem.1 he
  exact hn j (by omega) (tl_inj (by simpa using h))
theorem ecode_end (es : List (ByteArray × Int)) : ecode (es.take es.length) (es.drop es.length) = 0 := by simp [ecode]
theorem ecode_ok {es : List (ByteArray × Int)} (h : EnV es) : ecode [] es = 0 := by
  have key : ∀ i, i ≤ es.length → ecode [] es = ecode (es.take i) (es.drop i) := by
    intro i
    induction i with
    | zero => intro _; simp
    | succ i ih =>
      intro hi
      rw [ih (by omega)]
      exact ecode_next (by omega) (h.1 _ (List.getElem_mem _)) (fun j hj => h.ne (by omega) (by omega) (by omega))
  rw [key es.length (Nat.le_refl _), ecode_end]
theorem ecode_env {es : List (ByteArray × Int)} (h : ecode [] es = 0) : EnV es := by
  have key : ∀ i, i ≤ es.length → EnV (es.take i) ∧ ecode [] es = ecode (es.take i) (es.drop i) := by
    intro i
    induction i with
    | zero => intro _; simp [EnV.nil]
    | succ i ih =>
      intro hi
      obtain ⟨h1, h2⟩ := ih (by omega)
      rw [h] at h2
      rw [h]
      cases hv : ven (es[i]'(by omega)) with
      | false => rw [ecode_range (by omega) hv] at h2; exact absurd h2 (by decide)
      | true =>
        have hn : ∀ j (_ : j < i), (es[j]'(by omega)).1 ≠ (es[i]'(by omega)).1 := by
          intro j hj e
          rw [ecode_twice (by omega) hv hj e] at h2
          exact absurd h2 (by decide)
        exact ⟨h1.snoc (by omega) hv hn, by rw [h2]; exact ecode_next (by omega) hv hn⟩
  have := (key es.length (Nat.le_refl _)).1
  rwa [List.take_length] at this
theorem ecode_in (es : List (ByteArray × Int)) : ecode [] es = 0 ∨ ecode [] es = 1 ∨ ecode [] es = 7 := by
  have key : ∀ (t s : List (ByteArray × Int)), ecode s t = 0 ∨ ecode s t = 1 ∨ ecode s t = 7 := by
    intro t
    induction t with
    | nil => intro s; exact .inl rfl
    | cons e t ih =>
      intro s
      rw [ecode]
      split
      · simp
      · split
        · simp
        · exact ih _
  exact key _ _
/-- the homes of entries -/
def hss (B : Int) (ps : List (Int × Int)) (S : List (ByteArray × Int)) : List (List Int) := S.map fun e => hms B ps (dg e.1)
theorem hss_len (B : Int) (ps : List (Int × Int)) (S : List (ByteArray × Int)) : (hss B ps S).length = S.length := by simp [hss]
theorem hss_bd {B : Int} {ps : List (Int × Int)} {S : List (ByteArray × Int)} (hB : 1 ≤ B) : ∀ l ∈ hss B ps S, ∀ y ∈ l, 0 ≤ y ∧ y < B := by
  intro l hl y hy
  obtain ⟨e, _, rfl⟩ := List.mem_map.1 hl
  exact hms_bd hB hy
/-- entries in their buckets -/
def dist (S : List (ByteArray × Int)) (out : List Int) (B : Nat) : List (List (ByteArray × Int)) := (List.range B).map fun b : Nat => ((S.zip out).filter fun p => p.2 == (b : Int)).map (·.1)
theorem dist_len (S : List (ByteArray × Int)) (out : List Int) (B : Nat) : (dist S out B).length = B := by simp [dist]
theorem dist_at {S : List (ByteArray × Int)} {out : List Int} {B b : Nat} (h : b < (dist S out B).length) : (dist S out B)[b] = ((S.zip out).filter fun p => p.2 == (b : Int)).map (·.1) := by
  have _ := h
  simp [dist]
theorem dist_nil (B : Nat) : dist [] [] B = List.replicate B [] := by
  apply List.ext_getElem
  · simp [dist]
  · intro i h1 h2; simp [dist]
theorem dist_step {S : List (ByteArray × Int)} {out : List Int} {B i bn : Nat} (hS : i < S.length) (ho : i < out.length) (hb : out[i] = (bn : Int)) (h : bn < (dist (S.take i) (out.take i) B).length) :
    (dist (S.take i) (out.take i) B).set bn ((dist (S.take i) (out.take i) B)[bn] ++ [S[i]]) = dist (S.take (i + 1)) (out.take (i + 1)) B := by
  have hz : (S.take (i + 1)).zip (out.take (i + 1)) = (S.take i).zip (out.take i) ++ [(S[i], (bn : Int))] := by
    rw [List.take_succ_eq_append_getElem hS, List.take_succ_eq_append_getElem ho, List.zip_append (by simp; omega), hb]
    rfl
  apply List.ext_getElem
  · simp [dist]
  · intro b h1 h2
    rw [dist_at h2, hz, List.filter_append, List.map_append]
    by_cases e : bn = b
    · subst e
      rw [List.getElem_set_self, dist_at h]
      simp
    · rw [List.getElem_set_ne e, dist_at]
      rw [List.filter_cons_of_neg (by simp; omega)]
      simp
theorem dist_sub {S : List (ByteArray × Int)} {out : List Int} {B b : Nat} (h : b < (dist S out B).length) : (dist S out B)[b].Sublist S := by
  rw [dist_at h]
  refine (List.Sublist.map _ (List.filter_sublist (l := S.zip out))).trans ?_
  clear h
  induction S generalizing out with
  | nil => simp
  | cons x S ih =>
    cases out with
    | nil => simp
    | cons o out => rw [List.zip_cons_cons, List.map_cons]; exact (ih (out := out)).cons_cons _
theorem dist_asc {S : List (ByteArray × Int)} {out : List Int} {B b : Nat} (hS : Asc S) (h : b < (dist S out B).length) : Asc (dist S out B)[b] := List.Pairwise.sublist (dist_sub h) hS
theorem dist_cnt {S : List (ByteArray × Int)} {out : List Int} {B b : Nat} (hl : S.length = out.length) (h : b < (dist S out B).length) : (dist S out B)[b].length = out.count (b : Int) := by
  rw [dist_at h, List.length_map, ← List.countP_eq_length_filter]
  clear h
  induction S generalizing out with
  | nil =>
    cases out with
    | nil => rfl
    | cons o out => simp at hl
  | cons x S ih =>
    cases out with
    | nil => simp at hl
    | cons o out => rw [List.zip_cons_cons, List.countP_cons, List.count_cons, ih (by simpa using hl)]
theorem dist_mem {S : List (ByteArray × Int)} {out : List Int} {B b i : Nat} (hS : i < S.length) (ho : i < out.length) (hb : out[i] = (b : Int)) (h : b < (dist S out B).length) : S[i] ∈ (dist S out B)[b] := by
  rw [dist_at h]
  refine List.mem_map.2 ⟨(S[i], out[i]), List.mem_filter.2 ⟨?_, by simp [hb]⟩, rfl⟩
  have : i < (S.zip out).length := by simp; omega
  have e : (S.zip out)[i] = (S[i], out[i]) := by simp
  rw [← e]
  exact List.getElem_mem _
theorem dist_of {S : List (ByteArray × Int)} {out : List Int} {B b : Nat} (h : b < (dist S out B).length) {x : ByteArray × Int} (hx : x ∈ (dist S out B)[b]) : ∃ i, ∃ h1 : i < S.length, ∃ h2 : i < out.length, S[i] = x ∧ out[i] = (b : Int) := by
  rw [dist_at h] at hx
  obtain ⟨p, hp, rfl⟩ := List.mem_map.1 hx
  rw [List.mem_filter] at hp
  obtain ⟨i, hi, e⟩ := List.getElem_of_mem hp.1
  rw [List.length_zip] at hi
  refine ⟨i, by omega, by omega, ?_, ?_⟩
  · rw [← e]; simp
  · have := hp.2
    rw [← e] at this
    simpa using this
/-- a sorted list of entries is one -/
theorem Asc.uniq {a b : List (ByteArray × Int)} (ha : Asc a) (hb : Asc b) (h : a.Perm b) : a = b := by
  induction a generalizing b with
  | nil => exact h.nil_eq
  | cons x a ih =>
    cases b with
    | nil => exact absurd h.length_eq (by simp)
    | cons y b =>
      have e : x = y := by
        have h1 : x ∈ y :: b := h.mem_iff.1 List.mem_cons_self
        have h2 : y ∈ x :: a := h.mem_iff.2 List.mem_cons_self
        rcases List.mem_cons.1 h1 with h1 | h1
        · exact h1
        · rcases List.mem_cons.1 h2 with h2 | h2
          · exact h2.symm
          · have k1 := (List.pairwise_cons.1 hb).1 x h1
            have k2 := (List.pairwise_cons.1 ha).1 y h2
            have := klt_asymm k1
            rw [this] at k2
            cases k2
      subst e
      rw [ih (List.pairwise_cons.1 ha).2 (List.pairwise_cons.1 hb).2 h.cons_inv]
end Go.Proofs.Ytllnomembakboaa

namespace Go.Proofs.Ytllnomembakboaa
open Go.RowKit

/-- append(nil, elements) as a step of a drawn region -/
theorem step_append_all {α : Type} {P : Program} (enc : α → List Value) (w : World) {ops : Array Oper} {o : Oper} {a : Act} {K : Act → World → Prop} {Q : Exit → Act → World → Prop} {E : Prop} (hgd : o.guard = none) (s x : Operand) (t : TypeId)
    (ho : o.op = .call { callee := .builtin .append, args := #[s, x], argTypes := #[t, t] })
    (base : Nat) (e : TypeId) (z : Value) (sz bytes : Nat) (ht : P.underlying t = some (.slice e)) (hinfo : (P.info? e).map (fun i => (i.zero, i.size, i.bytes)) = some (some z, sz, bytes)) (hzs : z.cells.size = sz) (hsz : 0 < sz) (hby : bytes ≤ 64)
    (hs : a.eval s = .slice none 0 0) (l : List α) (B : Nat) (v : Value) (hx : a.eval x = v) (hc : SC B w v l.length sz (l.flatMap enc)) (h1 : ∀ u ∈ l.flatMap enc, u.oneCell' = true)
    (hlen : l.length ≤ 1000000) (hbase : base ≤ w.heap.size)
    (h : ∀ A c w', w'.ownsRow base e sz (.slice A l.length c) l.length (l.flatMap enc) → w.grownBy w' none → ((Value.slice A l.length c).ownBlock = none ∨ (Value.slice A l.length c).ownBlock = some w.heap.size) → K (a.put o.dst (.slice A l.length c)) w') :
    if Region.wanted o (yielded ops a.tmps) = true then Oper.wp P o a w K Q else E := by
  obtain ⟨i0, hi0, hz0, hz1, hz2⟩ := info_parts hinfo
  have hw : Region.wanted o (yielded ops a.tmps) = true := by simp [Region.wanted, hgd]
  rw [if_pos hw]
  have hbb : l.length * bytes ≤ 1000000 * 64 := Nat.mul_le_mul hlen hby
  obtain ⟨v', w', hrun, h2, h3, h4⟩ := run_append_sc_at (P := P) w base t o.type e i0 z sz bytes ht hi0 hz0 hz1 hz2 hzs hsz (.slice none 0 0) 0 [] (World.ownsRow_nil _ _ _ _) B v l.length (l.flatMap enc) hc h1 (by unfold maxLen; omega) (by rw [Nat.zero_add]; omega) hbase
  rw [Nat.zero_add, List.nil_append] at h2
  obtain ⟨A, c, rfl⟩ := own_sl h2
  unfold Oper.wp execOp
  simp only [ho, resolve, invoke, builtin, Sem.run_bind, Sem.run_pure, Result.andThen_ok, List.map_toArray, List.map_cons, List.map_nil, hs, hx, hrun]
  exact h A c w' h2 h3 h4
theorem SG.sc2 {B : Nat} {w : World} {v : Value} {ps : List (Int × Int)} (h : SG pcs 2 B w v ps) : SC B w v ps.length 2 (ps.flatMap hcs) := by
  obtain ⟨A, c, rfl, _, _, _, ha⟩ := h
  have hl : ∀ l : List (Int × Int), (l.flatMap hcs).length = l.length * 2 := by
    intro l
    induction l with
    | nil => rfl
    | cons p l ih => rw [List.flatMap_cons, List.length_append, ih, hcs_len]; simp; omega
  refine ⟨A, c, rfl, hl ps, fun h0 => ?_⟩
  obtain ⟨b, off, rfl, hb, hcell⟩ := ha h0
  refine ⟨b, off, rfl, hb, fun j u hj => ?_⟩
  obtain ⟨hlt, _⟩ := List.getElem?_eq_some_iff.1 hj
  rw [hl] at hlt
  have h1 := hcell (j / 2) (by omega) (j % 2) (by omega)
  have h2 := flatMap_get hcs 2 ps (fun x _ => hcs_len x) (j / 2) (by omega) (j % 2) (by omega)
  have hd : j / 2 * 2 + j % 2 = j := by omega
  rw [hd] at h1 h2
  rw [h2] at hj
  rw [h1, ← hj]
  rcases Nat.mod_two_eq_zero_or_one j with h | h <;> rw [h] <;> rfl
theorem hcs_one_all (l : List (Int × Int)) : ∀ u ∈ l.flatMap hcs, u.oneCell' = true := by
  intro u hu
  obtain ⟨e, _, h⟩ := List.mem_flatMap.1 hu
  exact hcs_one e u h
theorem elinfo : (Try.prog.info? 29).map (fun i => (i.zero, i.size, i.bytes)) = some (some (.slice none 0 0), 1, 24) := by kernel_rfl
theorem made_heads (n : Nat) (hn : n ≤ 1000000) (w : World) : (Instr.makeSlice 26 (.int .i64 n) (.int .i64 n)).run Try.prog w = .ok (.slice (some ⟨w.heap.size, 0, none⟩) n n) (w.alloc (.cells (Array.replicate n (Value.slice none 0 0)) 29)) := by
  obtain ⟨i0, hi0, hz0, hz1, hz2⟩ := info_parts elinfo
  have hrun := run_makeSlice (P := Try.prog) w 26 29 i0 _ Try.underlying26 hi0 hz0 .i64 .i64 n n (by omega) (Int.le_refl _) (by rw [hz1]; simp; omega) (by rw [hz2]; omega) (by omega)
  have hm : madeCells (Value.slice none 0 0).cells n = Array.replicate n (Value.slice none 0 0) := by
    apply Array.toList_inj.1
    rw [show (Value.slice none 0 0).cells = #[Value.slice none 0 0] from rfl, toList_madeCells_one]
    simp
  simp only [Int.toNat_natCast] at hrun
  rw [hz1, Nat.mul_one, hm] at hrun
  exact hrun
theorem dir_cells {W : World} {D : Nat} (h : W.heap[D]? = some (.cells #[.int .i64 0, .slice none 0 0, .int .i64 0, .slice none 0 0] 28 (0, 0))) :
    W.cell? ⟨D, 0, none⟩ = some (.int .i64 0) ∧ W.cell? ⟨D, 1, none⟩ = some (.slice none 0 0) ∧ W.cell? ⟨D, 2, none⟩ = some (.int .i64 0) ∧ W.cell? ⟨D, 3, none⟩ = some (.slice none 0 0) ∧
      W.frozen? ⟨D, 0, none⟩ = false ∧ W.frozen? ⟨D, 1, none⟩ = false ∧ W.frozen? ⟨D, 2, none⟩ = false ∧ W.frozen? ⟨D, 3, none⟩ = false :=
  ⟨cell_of_row W D 0 _ _ _ h, cell_of_row W D 1 _ _ _ h, cell_of_row W D 2 _ _ _ h, cell_of_row W D 3 _ _ _ h, frozen_of_row W D 0 _ _ h, frozen_of_row W D 1 _ _ h, frozen_of_row W D 2 _ _ h, frozen_of_row W D 3 _ _ h⟩
theorem dir_put {W : World} {D : Nat} {a b c d : Value} (h : W.heap[D]? = some (.cells #[.int .i64 0, .slice none 0 0, .int .i64 0, .slice none 0 0] 28 (0, 0))) :
    ((((W.setCell ⟨D, 0, none⟩ a).setCell ⟨D, 1, none⟩ b).setCell ⟨D, 2, none⟩ c).setCell ⟨D, 3, none⟩ d).heap[D]? = some (.cells #[a, b, c, d] 28 (0, 0)) := by
  have h1 := heap_setCell_same W D 0 _ _ a h
  have h2 := heap_setCell_same _ D 1 _ _ b h1
  have h3 := heap_setCell_same _ D 2 _ _ c h2
  have h4 := heap_setCell_same _ D 3 _ _ d h3
  simpa using h4
theorem put_other (W : World) (D k : Nat) (a b c d : Value) (h : k ≠ D) : ((((W.setCell ⟨D, 0, none⟩ a).setCell ⟨D, 1, none⟩ b).setCell ⟨D, 2, none⟩ c).setCell ⟨D, 3, none⟩ d).heap[k]? = W.heap[k]? := by
  rw [Below.heap_setCell _ ⟨D, 3, none⟩ d k h, Below.heap_setCell _ ⟨D, 2, none⟩ c k h, Below.heap_setCell _ ⟨D, 1, none⟩ b k h, Below.heap_setCell _ ⟨D, 0, none⟩ a k h]
/-- what the drawn statement leaves -/
abbrev DirP (w : World) (Bn slots : Nat) (ps : List (Int × Int)) (D M : Nat) (pv : Value) (w' : World) : Prop :=
  w'.heap[D]? = some (.cells #[.int .i64 Bn, pv, .int .i64 slots, .slice (some ⟨M, 0, none⟩) Bn Bn] 28 (0, 0)) ∧ w'.heap[M]? = some (.cells (Array.replicate Bn (Value.slice none 0 0)) 29 (0, 0)) ∧ w'.ownsRow w.heap.size 69 2 pv ps.length (ps.flatMap hcs) ∧ D ≠ M ∧ pv.ownBlock ≠ some D ∧ pv.ownBlock ≠ some M ∧ w.heap.size ≤ D ∧ w.heap.size ≤ M ∧ Below w.heap.size w w'
theorem dir_fin {w W : World} {D M Bn slots : Nat} {pv : Value} {ps : List (Int × Int)} (hb : Below w.heap.size w W) (hD : W.heap[D]? = some (.cells #[.int .i64 0, .slice none 0 0, .int .i64 0, .slice none 0 0] 28 (0, 0)))
    (hM : W.heap[M]? = some (.cells (Array.replicate Bn (Value.slice none 0 0)) 29 (0, 0))) (ho : W.ownsRow w.heap.size 69 2 pv ps.length (ps.flatMap hcs)) (hDM : D ≠ M) (hpD : pv.ownBlock ≠ some D) (hpM : pv.ownBlock ≠ some M) (hDl : w.heap.size ≤ D) (hMl : w.heap.size ≤ M) :
    DirP w Bn slots ps D M pv ((((W.setCell ⟨D, 0, none⟩ (.int .i64 Bn)).setCell ⟨D, 1, none⟩ pv).setCell ⟨D, 2, none⟩ (.int .i64 slots)).setCell ⟨D, 3, none⟩ (.slice (some ⟨M, 0, none⟩) Bn Bn)) :=
  ⟨dir_put hD, (put_other W D M _ _ _ _ (Ne.symm hDM)).trans hM,
    (((ho.kept (grownBy_setCell (g := D) (p := ⟨D, 0, none⟩) (grownBy_refl _ _) (.inl rfl) _) (.inr hpD)).kept (grownBy_setCell (g := D) (p := ⟨D, 1, none⟩) (grownBy_refl _ _) (.inl rfl) _) (.inr hpD)).kept (grownBy_setCell (g := D) (p := ⟨D, 2, none⟩) (grownBy_refl _ _) (.inl rfl) _) (.inr hpD)).kept (grownBy_setCell (g := D) (p := ⟨D, 3, none⟩) (grownBy_refl _ _) (.inl rfl) _) (.inr hpD),
    hDM, hpD, hpM, hDl, hMl, (((hb.setCell hDl _).setCell hDl _).setCell hDl _).setCell hDl _⟩
abbrev dirO : Obj := .cells #[.int .i64 0, .slice none 0 0, .int .i64 0, .slice none 0 0] 28
abbrev mkO (n : Nat) : Obj := .cells (Array.replicate n (Value.slice none 0 0)) 29
abbrev dirF (n : Nat) (pv : Value) (slots M : Nat) : Obj := .cells #[.int .i64 n, pv, .int .i64 slots, .slice (some ⟨M, 0, none⟩) n n] 28
section
variable {w w9 : World} {Bn slots : Nat} {pv : Value} {ps : List (Int × Int)} (hb : Below w.heap.size w w9) (ho : w9.ownsRow w.heap.size 69 2 pv ps.length (ps.flatMap hcs))
include hb ho
theorem leaf1 : DirP w Bn slots ps (w9.heap.size + 1) w9.heap.size pv ((w9.alloc (mkO Bn)).alloc (dirF Bn pv slots w9.heap.size)) := by
  have hz := hb.size
  refine ⟨?_, ?_, (ho.alloc _).alloc _, by omega, (fun e => by have := (ho.lt _ e).2; omega), (fun e => by have := (ho.lt _ e).2; omega), by omega, hz, (hb.alloc hz _).alloc (by simp; omega) _⟩
  · have h := heap_alloc_new (w9.alloc (mkO Bn)) (dirF Bn pv slots w9.heap.size)
    simpa using h
  · exact (Below.heap_alloc _ _ _ (by simp)).trans (heap_alloc_new w9 _)
theorem leaf2 : DirP w Bn slots ps w9.heap.size (w9.heap.size + 1) pv ((w9.alloc (dirF Bn pv slots (w9.heap.size + 1))).alloc (mkO Bn)) := by
  have hz := hb.size
  refine ⟨(Below.heap_alloc _ _ _ (by simp)).trans (heap_alloc_new w9 _), ?_, (ho.alloc _).alloc _, by omega, (fun e => by have := (ho.lt _ e).2; omega), (fun e => by have := (ho.lt _ e).2; omega), hz, by omega, (hb.alloc hz _).alloc (by simp; omega) _⟩
  have h := heap_alloc_new (w9.alloc (dirF Bn pv slots (w9.heap.size + 1))) (mkO Bn)
  simpa using h
theorem leaf3 (hM : w9.heap[w.heap.size]? = some (.cells (Array.replicate Bn (Value.slice none 0 0)) 29 (0, 0))) (hpM : pv.ownBlock ≠ some w.heap.size) :
    DirP w Bn slots ps w9.heap.size w.heap.size pv (w9.alloc (dirF Bn pv slots w.heap.size)) := by
  have hz := hb.size
  have hl := heap_of_cells hM
  exact ⟨heap_alloc_new w9 _, (Below.heap_alloc _ _ _ hl).trans hM, ho.alloc _, by omega, (fun e => by have := (ho.lt _ e).2; omega), hpM, hz, Nat.le_refl _, hb.alloc hz _⟩
theorem leaf5 (hD : w9.heap[w.heap.size]? = some (.cells #[.int .i64 0, .slice none 0 0, .int .i64 0, .slice none 0 0] 28 (0, 0))) (hpD : pv.ownBlock ≠ some w.heap.size) :
    DirP w Bn slots ps w.heap.size w9.heap.size pv (((((w9.setCell ⟨w.heap.size, 0, none⟩ (.int .i64 Bn)).setCell ⟨w.heap.size, 1, none⟩ pv).setCell ⟨w.heap.size, 2, none⟩ (.int .i64 slots)).setCell ⟨w.heap.size, 3, none⟩ (.slice (some ⟨w9.heap.size, 0, none⟩) Bn Bn)).alloc (mkO Bn)) := by
  have hz := hb.size
  have hl := heap_of_cells hD
  have hs : ∀ (W : World) (p : Addr) (u : Value), (W.setCell p u).heap.size = W.heap.size := fun W p u => by simp
  refine ⟨(Below.heap_alloc _ _ _ (by simp; exact hl)).trans (dir_put hD), ?_, ?_, by omega, hpD, fun e => by have := (ho.lt _ e).2; omega, Nat.le_refl _, hz, ?_⟩
  · have h := heap_alloc_new ((((w9.setCell ⟨w.heap.size, 0, none⟩ (.int .i64 Bn)).setCell ⟨w.heap.size, 1, none⟩ pv).setCell ⟨w.heap.size, 2, none⟩ (.int .i64 slots)).setCell ⟨w.heap.size, 3, none⟩ (.slice (some ⟨w9.heap.size, 0, none⟩) Bn Bn)) (mkO Bn)
    simp only [hs] at h
    exact h
  · exact ((((ho.kept (grownBy_setCell (g := w.heap.size) (p := ⟨w.heap.size, 0, none⟩) (grownBy_refl _ _) (.inl rfl) _) (.inr hpD)).kept (grownBy_setCell (g := w.heap.size) (p := ⟨w.heap.size, 1, none⟩) (grownBy_refl _ _) (.inl rfl) _) (.inr hpD)).kept (grownBy_setCell (g := w.heap.size) (p := ⟨w.heap.size, 2, none⟩) (grownBy_refl _ _) (.inl rfl) _) (.inr hpD)).kept (grownBy_setCell (g := w.heap.size) (p := ⟨w.heap.size, 3, none⟩) (grownBy_refl _ _) (.inl rfl) _) (.inr hpD)).alloc _
  · exact ((((hb.setCell (Nat.le_refl _) _).setCell (Nat.le_refl _) _).setCell (Nat.le_refl _) _).setCell (Nat.le_refl _) _).alloc (by simp; exact hz) _
end
theorem made2 (w : World) (n : Nat) : ((w.alloc dirO).alloc (mkO n)).heap[w.heap.size + 1]? = some (.cells (Array.replicate n (Value.slice none 0 0)) 29 (0, 0)) := by
  have h := heap_alloc_new (w.alloc dirO) (mkO n)
  rw [show (w.alloc dirO).heap.size = w.heap.size + 1 from by simp] at h
  exact h
noncomputable def regB36C : Code := ((Try.f27.body.bind (regionOf 36)).getD .skip)
set_option maxRecDepth 1000000 in
set_option maxHeartbeats 100000000 in
theorem regB36 (F Bn slots cp : Nat) (Ap : Option Addr) (ps : List (Int × Int)) (w : World) (hb : Bn ≤ 1000000) (hps : ps.length ≤ 1000) (hh : w.heap[F]? = some (.cells #[.int .i64 Bn, .slice Ap ps.length cp] 25 (0, 0))) (hp : SG pcs 2 w.heap.size w (.slice Ap ps.length cp) ps) {lfr : List Value} {Q : Exit → Act → World → Prop}
    (hK : ∀ (u128 u129 u130 u131 u132 u133 u134 u135 u136 u137 u138 : Value) (D M : Nat) (pv : Value) (w' : World), w'.heap[D]? = some (.cells #[.int .i64 Bn, pv, .int .i64 slots, .slice (some ⟨M, 0, none⟩) Bn Bn] 28 (0, 0)) ∧ w'.heap[M]? = some (.cells (Array.replicate Bn (Value.slice none 0 0)) 29 (0, 0)) ∧ w'.ownsRow w.heap.size 69 2 pv ps.length (ps.flatMap hcs) ∧ D ≠ M ∧ pv.ownBlock ≠ some D ∧ pv.ownBlock ≠ some M ∧ w.heap.size ≤ D ∧ w.heap.size ≤ M ∧ Below w.heap.size w w' → Q .normal ⟨(seg (seg lfr 21 [(.pointer (some ⟨D, 0, none⟩))]) 128 [u128,u129,u130,u131,u132,u133,u134,u135,u136,u137,u138]).toArray, []⟩ w') (hL : frn 163 lfr) (e1 : lfr[1]? = some (Value.int .i64 slots)) (e3 : lfr[3]? = some (Value.pointer (some ⟨F, 0, none⟩))) :
    Code.wp Try.prog regB36C Q ⟨lfr.toArray, []⟩ w := by
  revert hK e1 e3
  apply frn_all hL
  iterate 163 intro _
  intro hK e1 e3
  simp only [List.getElem?_cons_succ, List.getElem?_cons_zero, Option.some.injEq] at e1 e3
  simp only [seg_s, seg_t, seg_z] at hK
  subst e1 e3
  have HK := Lib.hid hK
  have HH := Lib.hid hh
  have HP := Lib.hid hp
  have HF := Lib.hid (heap_of_cells hh)
  clear hK hp
  have x0 : w.cell? ⟨F, 0, none⟩ = some (.int .i64 Bn) := cell_of_row w F 0 _ _ _ hh
  have x1 : w.cell? ⟨F, 1, none⟩ = some (.slice Ap ps.length cp) := cell_of_row w F 1 _ _ _ hh
  have HXF : Hid (∀ W, Below w.heap.size w W → W.cell? ⟨F, 0, none⟩ = some (.int .i64 Bn) ∧ W.cell? ⟨F, 1, none⟩ = some (.slice Ap ps.length cp)) := (show Hid _ from fun W hW => by
    have h := (hW.block F (heap_of_cells hh)).trans hh
    exact ⟨cell_of_row W F 0 _ _ _ h, cell_of_row W F 1 _ _ _ h⟩)
  clear hh
  refine Code.wp_mono (Q := nq (fun a w => Q .normal a w)) nq_imp ?_
  conv => arg 2; whnf
  have hmk := made_heads Bn hb
  have HPw : Hid (∀ W, Below w.heap.size w W → SC w.heap.size W (.slice Ap ps.length cp) ps.length 2 (ps.flatMap hcs)) := (show Hid _ from fun W hW => SG.sc2 (HP.out.below hW))
  go_region_held3 (fun w' => w'.cell? ⟨F, 0, none⟩ = some (.int .i64 Bn) ∧ w'.cell? ⟨F, 1, none⟩ = some (.slice Ap ps.length cp)) (first | exact ⟨x0, x1⟩ | exact ⟨c0, c1⟩ | exact HXF.out _ ((((HB9.out.setCell (by simp) _).setCell (by simp) _).setCell (by simp) _).setCell (by simp) _) | exact HXF.out _ (((((HB9.out.setCell (by simp) _).setCell (by simp) _).setCell (by simp) _).setCell (by simp) _).alloc (by have := HB9.out.size; simp; omega) _) | go_keep)
    (first
      | (refine step_append_all hcs _ (by rfl) _ _ 23 (by rfl) w.heap.size 69 _ 2 16 Try.underlying23 hinfo rfl (by omega) (by omega) (by simp [Act.eval]) ps w.heap.size (.slice Ap ps.length cp) (by simp [Act.eval]) (by exact HPw.out _ (by first | exact (Below.refl _ w).drew | exact ((Below.refl _ w).alloc (Nat.le_refl _) _).drew | exact (((Below.refl _ w).alloc (Nat.le_refl _) _).alloc (by simp) _).drew | exact (((Below.refl _ w).drew.alloc (Nat.le_refl _) _)) | exact ((((Below.refl _ w).drew.alloc (Nat.le_refl _) _)).alloc (by simp) _))) (hcs_one_all _) (by omega) (by simp <;> omega) ?_; intro A9 c9 w9 ho9 hg9 ha9; have hD9 : w9.heap[w.heap.size]? = some (.cells #[.int .i64 0, .slice none 0 0, .int .i64 0, .slice none 0 0] 28 (0, 0)) := (hg9.block _ (by simp <;> omega) (by simp)).trans (by first | exact heap_alloc_new w _ | exact (Below.heap_alloc (w.alloc _) _ _ (by simp)).trans (heap_alloc_new w _)); obtain ⟨e0, e1, e2, e3, f0, f1, f2, f3⟩ := dir_cells hD9; have q9 : w.heap.size < w9.heap.size := heap_of_cells hD9; have q8 : w.heap.size ≠ w9.heap.size := Nat.ne_of_lt q9; have HD9 := Lib.hid hD9; clear hD9; have HB9 : Hid (Below w.heap.size w w9) := (show Hid _ from Below.grown (by first | exact (Below.refl _ w).drew | exact ((Below.refl _ w).alloc (Nat.le_refl _) _).drew | exact (((Below.refl _ w).alloc (Nat.le_refl _) _).alloc (by simp) _).drew | exact (((Below.refl _ w).drew.alloc (Nat.le_refl _) _)) | exact ((((Below.refl _ w).drew.alloc (Nat.le_refl _) _)).alloc (by simp) _)) hg9 (by simp <;> omega) (fun k hk => by simp at hk)); obtain ⟨c0, c1⟩ := HXF.out w9 HB9.out; have HO9 := Lib.hid ho9; have HG9 := Lib.hid hg9; have HA9 := Lib.hid ha9; clear ho9 hg9 ha9)
      | (refine step_append_all hcs _ (by rfl) _ _ 23 (by rfl) w.heap.size 69 _ 2 16 Try.underlying23 hinfo rfl (by omega) (by omega) (by simp [Act.eval]) ps w.heap.size (.slice Ap ps.length cp) (by simp [Act.eval]) (by exact HPw.out _ (by first | exact (Below.refl _ w).drew | exact ((Below.refl _ w).alloc (Nat.le_refl _) _).drew | exact (((Below.refl _ w).alloc (Nat.le_refl _) _).alloc (by simp) _).drew | exact (((Below.refl _ w).drew.alloc (Nat.le_refl _) _)) | exact ((((Below.refl _ w).drew.alloc (Nat.le_refl _) _)).alloc (by simp) _))) (hcs_one_all _) (by omega) (by simp <;> omega) ?_; intro A9 c9 w9 ho9 hg9 ha9; have hD9 : w9.heap[w.heap.size + 1]? = some (.cells #[.int .i64 0, .slice none 0 0, .int .i64 0, .slice none 0 0] 28 (0, 0)) := (hg9.block _ (by simp <;> omega) (by simp)).trans (by show ((w.alloc _).alloc _).heap[w.heap.size + 1]? = _; have h9 := heap_alloc_new (w.alloc (.cells (Array.replicate Bn (Value.slice none 0 0)) 29)) (.cells #[.int .i64 0, .slice none 0 0, .int .i64 0, .slice none 0 0] 28); simpa using h9); obtain ⟨e0, e1, e2, e3, f0, f1, f2, f3⟩ := dir_cells hD9; have HD9 := Lib.hid hD9; clear hD9; have HB9 : Hid (Below w.heap.size w w9) := (show Hid _ from Below.grown (by first | exact (Below.refl _ w).drew | exact ((Below.refl _ w).alloc (Nat.le_refl _) _).drew | exact (((Below.refl _ w).alloc (Nat.le_refl _) _).alloc (by simp) _).drew | exact (((Below.refl _ w).drew.alloc (Nat.le_refl _) _)) | exact ((((Below.refl _ w).drew.alloc (Nat.le_refl _) _)).alloc (by simp) _)) hg9 (by simp <;> omega) (fun k hk => by simp at hk)); obtain ⟨c0, c1⟩ := HXF.out w9 HB9.out; have HO9 := Lib.hid ho9; have HG9 := Lib.hid hg9; have HA9 := Lib.hid ha9; clear ho9 hg9 ha9)
      | (refine step_append_all hcs _ (by rfl) _ _ 23 (by rfl) w.heap.size 69 _ 2 16 Try.underlying23 hinfo rfl (by omega) (by omega) (by simp [Act.eval]) ps w.heap.size (.slice Ap ps.length cp) (by simp [Act.eval]) (by exact HPw.out _ (by first | exact (Below.refl _ w).drew | exact ((Below.refl _ w).alloc (Nat.le_refl _) _).drew | exact (((Below.refl _ w).alloc (Nat.le_refl _) _).alloc (by simp) _).drew | exact (((Below.refl _ w).drew.alloc (Nat.le_refl _) _)) | exact ((((Below.refl _ w).drew.alloc (Nat.le_refl _) _)).alloc (by simp) _))) (hcs_one_all _) (by omega) (by simp <;> omega) ?_; intro A9 c9 w9 ho9 hg9 ha9; have HB9 : Hid (Below w.heap.size w w9) := (show Hid _ from Below.grown (by first | exact (Below.refl _ w).drew | exact ((Below.refl _ w).alloc (Nat.le_refl _) _).drew | exact (((Below.refl _ w).alloc (Nat.le_refl _) _).alloc (by simp) _).drew | exact (((Below.refl _ w).drew.alloc (Nat.le_refl _) _)) | exact ((((Below.refl _ w).drew.alloc (Nat.le_refl _) _)).alloc (by simp) _)) hg9 (by simp <;> omega) (fun k hk => by simp at hk)); obtain ⟨c0, c1⟩ := HXF.out w9 HB9.out; have HO9 := Lib.hid ho9; have HG9 := Lib.hid hg9; have HA9 := Lib.hid ha9; clear ho9 hg9 ha9))
  all_goals show Q Exit.normal _ _
  all_goals first
    | with_reducible exact HK.out _ _ _ _ _ _ _ _ _ _ _ _ _ _ _ (leaf1 HB9.out HO9.out)
    | with_reducible exact HK.out _ _ _ _ _ _ _ _ _ _ _ _ _ _ _ (leaf2 HB9.out HO9.out)
    | with_reducible exact HK.out _ _ _ _ _ _ _ _ _ _ _ _ _ _ _ (leaf5 HB9.out HO9.out HD9.out (by rcases HA9.out with e | e <;> rw [e] <;> simp <;> omega))
    | (have k1 : w9.heap[w.heap.size]? = some (.cells (Array.replicate Bn (Value.slice none 0 0)) 29 (0, 0)) := (HG9.out.block w.heap.size (by simp <;> omega) (by simp)).trans (heap_alloc_new w (mkO Bn))
       have k2 : (Value.slice A9 ps.length c9).ownBlock ≠ some w.heap.size := (by rcases HA9.out with e | e <;> rw [e] <;> simp <;> omega)
       with_reducible exact HK.out _ _ _ _ _ _ _ _ _ _ _ _ _ _ _ (leaf3 HB9.out HO9.out k1 k2))
    | (have k1 : w9.heap[w.heap.size]? = some (.cells (Array.replicate Bn (Value.slice none 0 0)) 29 (0, 0)) := (HG9.out.block w.heap.size (by simp <;> omega) (by simp)).trans ((Below.heap_alloc (w.alloc (mkO Bn)) dirO w.heap.size (by simp)).trans (heap_alloc_new w (mkO Bn)))
       have k2 : (Value.slice A9 ps.length c9).ownBlock ≠ some w.heap.size := (by rcases HA9.out with e | e <;> rw [e] <;> simp <;> omega)
       have k3 : (Value.slice A9 ps.length c9).ownBlock ≠ some (w.heap.size + 1) := (by rcases HA9.out with e | e <;> rw [e] <;> simp <;> omega)
       have k4 : w.heap.size + 1 ≠ w.heap.size := by omega
       have k5 : w.heap.size ≤ w.heap.size + 1 := by omega
       have k6 := HD9.out
       with_reducible exact HK.out _ _ _ _ _ _ _ _ _ _ _ _ _ _ _ (dir_fin (D := w.heap.size + 1) (M := w.heap.size) HB9.out k6 k1 HO9.out k4 k3 k2 k5 (Nat.le_refl _)))
    | (have k1 : w9.heap[w.heap.size + 1]? = some (.cells (Array.replicate Bn (Value.slice none 0 0)) 29 (0, 0)) := (HG9.out.block (w.heap.size + 1) (by simp <;> omega) (by simp)).trans (made2 w Bn)
       have k2 : (Value.slice A9 ps.length c9).ownBlock ≠ some w.heap.size := (by rcases HA9.out with e | e <;> rw [e] <;> simp <;> omega)
       have k3 : (Value.slice A9 ps.length c9).ownBlock ≠ some (w.heap.size + 1) := (by rcases HA9.out with e | e <;> rw [e] <;> simp <;> omega)
       have k4 : w.heap.size ≠ w.heap.size + 1 := by omega
       have k5 : w.heap.size ≤ w.heap.size + 1 := by omega
       have k6 := HD9.out
       with_reducible exact HK.out _ _ _ _ _ _ _ _ _ _ _ _ _ _ _ (dir_fin (D := w.heap.size) (M := w.heap.size + 1) HB9.out k6 k1 HO9.out k4 k2 k3 (Nat.le_refl _) k5))
    | skip

end Go.Proofs.Ytllnomembakboaa

namespace Go.Proofs.Ytllnomembakboaa
open Go.RowKit

noncomputable def regB40C : Code := ((Try.f27.body.bind (regionOf 40)).getD .skip)
set_option maxRecDepth 1000000 in
set_option maxHeartbeats 4000000 in
theorem regB40 (D G Bn b i gS nS cS base cb : Nat) (Ab : Option Addr) (l : List (ByteArray × Int)) (key : ByteArray) (x : Int) (w : World) (hb : b < Bn) (_ : Bn ≤ 1000000) (hi : i < nS) (hll : l.length ≤ 256) (hbase : base ≤ w.heap.size) (hD : w.cell? ⟨D, 3, none⟩ = some (.slice (some ⟨G, 0, none⟩) Bn Bn)) (hG : w.cell? ⟨G, b, none⟩ = some (.slice Ab l.length cb)) (hGf : w.frozen? ⟨G, b, none⟩ = false) (hS0 : w.cell? ⟨gS, i * 2, none⟩ = some (.string key)) (hS1 : w.cell? ⟨gS, i * 2 + 1, none⟩ = some (.int .i64 x)) (hown : w.ownsRow base 41 2 (.slice Ab l.length cb) l.length (l.flatMap ecs)) (hDG : D ≠ G) (hSG : gS ≠ G) (hoG : ∀ k, (Value.slice Ab l.length cb).ownBlock = some k → k ≠ G ∧ k ≠ D ∧ k ≠ gS) {lfr : List Value} {Q : Exit → Act → World → Prop}
    (hK : ∀ (u146 u147 u148 u149 u150 u151 u152 u153 u154 u155 u156 u157 u158 u159 u160 : Value) (g cap : Nat) (w2 : World) (w' : World), (w.alloc (.cells (ecs (key, x)).toArray 41)).grownBy w2 (Value.slice Ab l.length cb).ownBlock ∧ ((Value.slice Ab l.length cb).ownBlock = some g ∨ g = w.heap.size + 1) ∧ w2.ownsRow base 41 2 (.slice (some ⟨g, 0, none⟩) (l.length + 1) cap) (l.length + 1) ((l ++ [(key, x)]).flatMap ecs) ∧ w' = w2.setCell ⟨G, b, none⟩ (.slice (some ⟨g, 0, none⟩) (l.length + 1) cap) → Q .normal ⟨(seg lfr 146 [u146,u147,u148,u149,u150,u151,u152,u153,u154,u155,u156,u157,u158,u159,u160]).toArray, []⟩ w') (hL : frn 163 lfr) (e8 : lfr[8]? = some (Value.slice (some ⟨gS, 0, none⟩) nS cS)) (e21 : lfr[21]? = some (Value.pointer (some ⟨D, 0, none⟩))) (e22 : lfr[22]? = some (Value.int .i64 i)) (e23 : lfr[23]? = some (Value.int .i64 b)) :
    Code.wp Try.prog regB40C Q ⟨lfr.toArray, []⟩ w := by
  revert hK e8 e21 e22 e23
  apply frn_all hL
  iterate 163 intro _
  intro hK e8 e21 e22 e23
  simp only [List.getElem?_cons_succ, List.getElem?_cons_zero, Option.some.injEq] at e8 e21 e22 e23
  simp only [seg_s, seg_t, seg_z] at hK
  subst e8 e21 e22 e23
  have HK := Lib.hid hK
  have HOW := Lib.hid hown
  have HOB := Lib.hid hoG
  have i0 : 0 ≤ (i : Int) := by omega
  have i1 : (i : Int) < (nS : Int) := by omega
  have b0 : 0 ≤ (b : Int) := by omega
  have b1 : (b : Int) < (Bn : Int) := by omega
  have hGl : G < w.heap.size := World.block_lt_of_cell? w _ hG
  have hDl : D < w.heap.size := World.block_lt_of_cell? w _ hD
  have hSl : gS < w.heap.size := World.block_lt_of_cell? w _ hS0
  have n1 : G ≠ w.heap.size := Nat.ne_of_lt hGl
  have n2 : D ≠ w.heap.size := Nat.ne_of_lt hDl
  have n3 : gS ≠ w.heap.size := Nat.ne_of_lt hSl
  clear hK hown hoG
  refine Code.wp_mono (Q := nq (fun a w => Q .normal a w)) nq_imp ?_
  conv => arg 2; whnf
  refine wp_region_held_drew (S := fun w' => w'.cell? ⟨D, 3, none⟩ = some (.slice (some ⟨G, 0, none⟩) Bn Bn) ∧ w'.cell? ⟨gS, i * 2, none⟩ = some (.string key) ∧ w'.cell? ⟨gS, i * 2 + 1, none⟩ = some (.int .i64 x)) (by kernel_rfl) ?hs1 (fun hHeld => ?_)
  case hs1 => ((try dsimp only); (first | exact ⟨hD, hS0, hS1⟩ | exact ⟨c0, c1, c2⟩ | exact ⟨(World.cell?_of_block (Below.heap_setCell w5 _ _ D hDG)).trans c0, (World.cell?_of_block (Below.heap_setCell w5 _ _ gS hSG)).trans c1, (World.cell?_of_block (Below.heap_setCell w5 _ _ gS hSG)).trans c2⟩ | go_keep))
  (try simp only [Act.put]); (try simp only [List.setIfInBounds_toArray]); (try simp only [List.set_cons_succ]); (try simp only [List.set_cons_zero])
  refine wpAnyH_take (i := 0) (oi := _) (v := ?v1) rfl (by kernel_rfl) (by kernel_rfl) (by kernel_rfl) (fun _ _ _ h => h) (Or.inl ⟨by rfl, ?hy1⟩) (by assumption) ?rs1
  case hy1 => (intro w hSw; (try dsimp only at hSw); go_simp; all_goals with_reducible rfl)
  (try simp only [Act.put]); (try simp only [List.setIfInBounds_toArray]); (try simp only [List.set_cons_succ]); (try simp only [List.set_cons_zero])
  refine wpAnyH_take (i := 1) (oi := _) (v := ?v2) rfl (by kernel_rfl) (by kernel_rfl) (by kernel_rfl) (fun _ _ _ h => h) (Or.inl ⟨by rfl, ?hy2⟩) (by assumption) ?rs2
  case hy2 => (intro w hSw; (try dsimp only at hSw); go_simp; all_goals with_reducible rfl)
  (try simp only [Act.put]); (try simp only [List.setIfInBounds_toArray]); (try simp only [List.set_cons_succ]); (try simp only [List.set_cons_zero])
  refine wpAnyH_take (i := 2) (oi := _) (v := ?v3) rfl (by kernel_rfl) (by kernel_rfl) (by kernel_rfl) (fun _ _ _ h => h) (Or.inl ⟨by rfl, ?hy3⟩) (by assumption) ?rs3
  case hy3 => (intro w hSw; (try dsimp only at hSw); go_simp; all_goals with_reducible rfl)
  (try simp only [Act.put]); (try simp only [List.setIfInBounds_toArray]); (try simp only [List.set_cons_succ]); (try simp only [List.set_cons_zero])
  refine wpAnyH_take (i := 3) (oi := _) (v := ?v4) rfl (by kernel_rfl) (by kernel_rfl) (by kernel_rfl) (fun _ _ _ h => h) (Or.inl ⟨by rfl, ?hy4⟩) (by assumption) ?rs4
  case hy4 => (intro w hSw; (try dsimp only at hSw); go_simp; all_goals with_reducible rfl)
  (try simp only [Act.put]); (try simp only [List.setIfInBounds_toArray]); (try simp only [List.set_cons_succ]); (try simp only [List.set_cons_zero])
  refine wpAnyH_take (i := 4) (oi := _) (v := ?v5) rfl (by kernel_rfl) (by kernel_rfl) (by kernel_rfl) (fun _ _ _ h => h) (Or.inl ⟨by rfl, ?hy5⟩) (by assumption) ?rs5
  case hy5 => (intro w hSw; (try dsimp only at hSw); go_simp; all_goals with_reducible rfl)
  (try simp only [Act.put]); (try simp only [List.setIfInBounds_toArray]); (try simp only [List.set_cons_succ]); (try simp only [List.set_cons_zero])
  refine wpAnyH_take (i := 5) (oi := _) (v := ?v6) rfl (by kernel_rfl) (by kernel_rfl) (by kernel_rfl) (fun _ _ _ h => h) (Or.inl ⟨by rfl, ?hy6⟩) (by assumption) ?rs6
  case hy6 => (intro w hSw; (try dsimp only at hSw); go_simp; all_goals with_reducible rfl)
  (try simp only [Act.put]); (try simp only [List.setIfInBounds_toArray]); (try simp only [List.set_cons_succ]); (try simp only [List.set_cons_zero])
  refine wpAnyH_take (i := 6) (oi := _) (v := ?v7) rfl (by kernel_rfl) (by kernel_rfl) (by kernel_rfl) (fun _ _ _ h => h) (Or.inl ⟨by rfl, ?hy7⟩) (by assumption) ?rs7
  case hy7 => (intro w hSw; (try dsimp only at hSw); go_simp; all_goals with_reducible rfl)
  (try simp only [Act.put]); (try simp only [List.setIfInBounds_toArray]); (try simp only [List.set_cons_succ]); (try simp only [List.set_cons_zero])
  refine wpAnyH_take (i := 8) (oi := _) (v := ?v8) rfl (by kernel_rfl) (by kernel_rfl) (by kernel_rfl) (fun _ _ _ h => h) (Or.inl ⟨by rfl, ?hy8⟩) (by assumption) ?rs8
  case hy8 => (intro w hSw; (try dsimp only at hSw); go_simp; all_goals with_reducible rfl)
  (try simp only [Act.put]); (try simp only [List.setIfInBounds_toArray]); (try simp only [List.set_cons_succ]); (try simp only [List.set_cons_zero])
  refine wpAnyH_take (i := 9) (oi := _) (v := ?v9) rfl (by kernel_rfl) (by kernel_rfl) (by kernel_rfl) (fun _ _ _ h => h) (Or.inl ⟨by rfl, ?hy9⟩) (by assumption) ?rs9
  case hy9 => (intro w hSw; (try dsimp only at hSw); go_simp; all_goals with_reducible rfl)
  (try simp only [Act.put]); (try simp only [List.setIfInBounds_toArray]); (try simp only [List.set_cons_succ]); (try simp only [List.set_cons_zero])
  refine wpAnyH_take (i := 10) (oi := _) (v := ?v10) rfl (by kernel_rfl) (by kernel_rfl) (by kernel_rfl) (fun _ _ _ h => h) (Or.inl ⟨by rfl, ?hy10⟩) (by assumption) ?rs10
  case hy10 => (intro w hSw; (try dsimp only at hSw); go_simp; all_goals with_reducible rfl)
  (try simp only [Act.put]); (try simp only [List.setIfInBounds_toArray]); (try simp only [List.set_cons_succ]); (try simp only [List.set_cons_zero])
  refine wpAnyH_take (i := 11) (oi := _) (v := ?v11) rfl (by kernel_rfl) (by kernel_rfl) (by kernel_rfl) (fun _ _ _ h => h) (Or.inl ⟨by rfl, ?hy11⟩) (by assumption) ?rs11
  case hy11 => (intro w hSw; (try dsimp only at hSw); go_simp; all_goals with_reducible rfl)
  (try simp only [Act.put]); (try simp only [List.setIfInBounds_toArray]); (try simp only [List.set_cons_succ]); (try simp only [List.set_cons_zero])
  refine wpAnyH_ready (rs := [7, 12]) (by kernel_rfl) (by simp) ?_
  refine AllReadyH.cons (o := _) rfl (fun K hK => ?st12_0) ?mo12_0
  case st12_0 =>
    go_simp
    refine hK.out _ _ ?sh12_0 (fun hHeld => ?re12_0)
    case sh12_0 => ((try dsimp only); (first | exact ⟨hD, hS0, hS1⟩ | exact ⟨c0, c1, c2⟩ | exact ⟨(World.cell?_of_block (Below.heap_setCell w5 _ _ D hDG)).trans c0, (World.cell?_of_block (Below.heap_setCell w5 _ _ gS hSG)).trans c1, (World.cell?_of_block (Below.heap_setCell w5 _ _ gS hSG)).trans c2⟩ | go_keep))
    clear hK K
    (try simp only [Act.put]); (try simp only [List.setIfInBounds_toArray]); (try simp only [List.set_cons_succ]); (try simp only [List.set_cons_zero])
    refine wpAnyH_ready (rs := [12]) (by kernel_rfl) (by simp) ?_
    refine AllReadyH.cons (o := _) rfl (fun K hK => ?st13_0) ?mo13_0
    case st13_0 =>
      go_simp
      refine hK.out _ _ ?sh13_0 (fun hHeld => ?re13_0)
      case sh13_0 => ((try dsimp only); (first | exact ⟨hD, hS0, hS1⟩ | exact ⟨c0, c1, c2⟩ | exact ⟨(World.cell?_of_block (Below.heap_setCell w5 _ _ D hDG)).trans c0, (World.cell?_of_block (Below.heap_setCell w5 _ _ gS hSG)).trans c1, (World.cell?_of_block (Below.heap_setCell w5 _ _ gS hSG)).trans c2⟩ | go_keep))
      clear hK K
      (try simp only [Act.put]); (try simp only [List.setIfInBounds_toArray]); (try simp only [List.set_cons_succ]); (try simp only [List.set_cons_zero])
      refine wpAnyH_ready (rs := [13]) (by kernel_rfl) (by simp) ?_
      refine AllReadyH.cons (o := _) rfl (fun K hK => ?st14_0) ?mo14_0
      case st14_0 =>
        (refine step_append_el_at ecs _ (by rfl) (.tmp 153) (.tmp 158) 29 (by rfl) base 41 _ 2 24 Try.underlying29 einfo rfl (by omega) (by omega) (.slice Ab l.length cb) l (by rfl) (by first | exact HOW.out.alloc _ | exact (HOW.out.alloc _).drew) (key, x) rfl (ecs_one _) w.heap.size (by rfl) (by exact cells_at w (ecs (key, x)) _) (by omega) (by simp; omega) ?_; intro g5 cap5 w5 ho5 hg5 ha5; have HG5 : Hid ((w.alloc (.cells (ecs (key, x)).toArray 41)).grownBy w5 (Value.slice Ab l.length cb).ownBlock) := (show Hid _ from ⟨hg5.os, hg5.tape, hg5.output, hg5.size, hg5.block⟩); have ha6 : (Value.slice Ab l.length cb).ownBlock = some g5 ∨ g5 = w.heap.size + 1 := ha5.imp id (fun h9 => h9.trans (by simp)); have HA5 := Lib.hid ha6; have HO5 := Lib.hid ho5; have c0 : w5.cell? ⟨D, 3, none⟩ = some (.slice (some ⟨G, 0, none⟩) Bn Bn) := HG5.out.cell ((World.cell?_of_block (Below.heap_alloc w _ D hDl)).trans hD) (fun e => (HOB.out D e.symm).2.1 rfl); have c1 : w5.cell? ⟨gS, i * 2, none⟩ = some (.string key) := HG5.out.cell ((World.cell?_of_block (Below.heap_alloc w _ gS hSl)).trans hS0) (fun e => (HOB.out gS e.symm).2.2 rfl); have c2 : w5.cell? ⟨gS, i * 2 + 1, none⟩ = some (.int .i64 x) := HG5.out.cell ((World.cell?_of_block (Below.heap_alloc w _ gS hSl)).trans hS1) (fun e => (HOB.out gS e.symm).2.2 rfl); have c3 : w5.cell? ⟨G, b, none⟩ = some (.slice Ab l.length cb) := HG5.out.cell ((World.cell?_of_block (Below.heap_alloc w _ G hGl)).trans hG) (fun e => (HOB.out G e.symm).1 rfl); have c4 : w5.frozen? ⟨G, b, none⟩ = false := (World.frozen?_of_block (HG5.out.block G (by simp; omega) (fun e => (HOB.out G e.symm).1 rfl))).trans ((World.frozen?_of_block (Below.heap_alloc w _ G hGl)).trans hGf); clear ho5 hg5 ha5 ha6)
        refine hK.out _ _ ?sh14_0 (fun hHeld => ?re14_0)
        case sh14_0 => ((try dsimp only); (first | exact ⟨hD, hS0, hS1⟩ | exact ⟨c0, c1, c2⟩ | exact ⟨(World.cell?_of_block (Below.heap_setCell w5 _ _ D hDG)).trans c0, (World.cell?_of_block (Below.heap_setCell w5 _ _ gS hSG)).trans c1, (World.cell?_of_block (Below.heap_setCell w5 _ _ gS hSG)).trans c2⟩ | go_keep))
        clear hK K
        (try simp only [Act.put]); (try simp only [List.setIfInBounds_toArray]); (try simp only [List.set_cons_succ]); (try simp only [List.set_cons_zero])
        refine wpAnyH_take (i := 14) (oi := _) (v := ?v15) rfl (by kernel_rfl) (by kernel_rfl) (by kernel_rfl) (fun _ _ _ h => h) (Or.inl ⟨by rfl, ?hy15⟩) (by assumption) ?rs15
        case hy15 => (intro w hSw; (try dsimp only at hSw); go_simp; all_goals with_reducible rfl)
        (try simp only [Act.put]); (try simp only [List.setIfInBounds_toArray]); (try simp only [List.set_cons_succ]); (try simp only [List.set_cons_zero])
        refine wpAnyH_ready (rs := [15]) (by kernel_rfl) (by simp) ?_
        refine AllReadyH.cons (o := _) rfl (fun K hK => ?st16_0) ?mo16_0
        case st16_0 =>
          go_simp
          refine hK.out _ _ ?sh16_0 (fun hHeld => ?re16_0)
          case sh16_0 => ((try dsimp only); (first | exact ⟨hD, hS0, hS1⟩ | exact ⟨c0, c1, c2⟩ | exact ⟨(World.cell?_of_block (Below.heap_setCell w5 _ _ D hDG)).trans c0, (World.cell?_of_block (Below.heap_setCell w5 _ _ gS hSG)).trans c1, (World.cell?_of_block (Below.heap_setCell w5 _ _ gS hSG)).trans c2⟩ | go_keep))
          clear hK K
          (try simp only [Act.put]); (try simp only [List.setIfInBounds_toArray]); (try simp only [List.set_cons_succ]); (try simp only [List.set_cons_zero])
          refine wpAnyH_done (by kernel_rfl) ?_ _
          exact HK.out _ _ _ _ _ _ _ _ _ _ _ _ _ _ _ g5 cap5 w5 _ ⟨HG5.out, HA5.out, by have h := HO5.out; simpa using h, rfl⟩
        exact AllReadyH.nil
      exact AllReadyH.nil
    exact AllReadyH.nil
  refine AllReadyH.cons (o := _) rfl (fun K hK => ?st12_1) ?mo12_1
  case st12_1 =>
    go_simp
    refine hK.out _ _ ?sh12_1 (fun hHeld => ?re12_1)
    case sh12_1 => ((try dsimp only); (first | exact ⟨hD, hS0, hS1⟩ | exact ⟨c0, c1, c2⟩ | exact ⟨(World.cell?_of_block (Below.heap_setCell w5 _ _ D hDG)).trans c0, (World.cell?_of_block (Below.heap_setCell w5 _ _ gS hSG)).trans c1, (World.cell?_of_block (Below.heap_setCell w5 _ _ gS hSG)).trans c2⟩ | go_keep))
    clear hK K
    (try simp only [Act.put]); (try simp only [List.setIfInBounds_toArray]); (try simp only [List.set_cons_succ]); (try simp only [List.set_cons_zero])
    refine wpAnyH_ready (rs := [7]) (by kernel_rfl) (by simp) ?_
    refine AllReadyH.cons (o := _) rfl (fun K hK => ?st18_0) ?mo18_0
    case st18_0 =>
      go_simp
      refine hK.out _ _ ?sh18_0 (fun hHeld => ?re18_0)
      case sh18_0 => ((try dsimp only); (first | exact ⟨hD, hS0, hS1⟩ | exact ⟨c0, c1, c2⟩ | exact ⟨(World.cell?_of_block (Below.heap_setCell w5 _ _ D hDG)).trans c0, (World.cell?_of_block (Below.heap_setCell w5 _ _ gS hSG)).trans c1, (World.cell?_of_block (Below.heap_setCell w5 _ _ gS hSG)).trans c2⟩ | go_keep))
      clear hK K
      (try simp only [Act.put]); (try simp only [List.setIfInBounds_toArray]); (try simp only [List.set_cons_succ]); (try simp only [List.set_cons_zero])
      refine wpAnyH_ready (rs := [13]) (by kernel_rfl) (by simp) ?_
      refine AllReadyH.cons (o := _) rfl (fun K hK => ?st19_0) ?mo19_0
      case st19_0 =>
        (refine step_append_el_at ecs _ (by rfl) (.tmp 153) (.tmp 158) 29 (by rfl) base 41 _ 2 24 Try.underlying29 einfo rfl (by omega) (by omega) (.slice Ab l.length cb) l (by rfl) (by first | exact HOW.out.alloc _ | exact (HOW.out.alloc _).drew) (key, x) rfl (ecs_one _) w.heap.size (by rfl) (by exact cells_at w (ecs (key, x)) _) (by omega) (by simp; omega) ?_; intro g5 cap5 w5 ho5 hg5 ha5; have HG5 : Hid ((w.alloc (.cells (ecs (key, x)).toArray 41)).grownBy w5 (Value.slice Ab l.length cb).ownBlock) := (show Hid _ from ⟨hg5.os, hg5.tape, hg5.output, hg5.size, hg5.block⟩); have ha6 : (Value.slice Ab l.length cb).ownBlock = some g5 ∨ g5 = w.heap.size + 1 := ha5.imp id (fun h9 => h9.trans (by simp)); have HA5 := Lib.hid ha6; have HO5 := Lib.hid ho5; have c0 : w5.cell? ⟨D, 3, none⟩ = some (.slice (some ⟨G, 0, none⟩) Bn Bn) := HG5.out.cell ((World.cell?_of_block (Below.heap_alloc w _ D hDl)).trans hD) (fun e => (HOB.out D e.symm).2.1 rfl); have c1 : w5.cell? ⟨gS, i * 2, none⟩ = some (.string key) := HG5.out.cell ((World.cell?_of_block (Below.heap_alloc w _ gS hSl)).trans hS0) (fun e => (HOB.out gS e.symm).2.2 rfl); have c2 : w5.cell? ⟨gS, i * 2 + 1, none⟩ = some (.int .i64 x) := HG5.out.cell ((World.cell?_of_block (Below.heap_alloc w _ gS hSl)).trans hS1) (fun e => (HOB.out gS e.symm).2.2 rfl); have c3 : w5.cell? ⟨G, b, none⟩ = some (.slice Ab l.length cb) := HG5.out.cell ((World.cell?_of_block (Below.heap_alloc w _ G hGl)).trans hG) (fun e => (HOB.out G e.symm).1 rfl); have c4 : w5.frozen? ⟨G, b, none⟩ = false := (World.frozen?_of_block (HG5.out.block G (by simp; omega) (fun e => (HOB.out G e.symm).1 rfl))).trans ((World.frozen?_of_block (Below.heap_alloc w _ G hGl)).trans hGf); clear ho5 hg5 ha5 ha6)
        refine hK.out _ _ ?sh19_0 (fun hHeld => ?re19_0)
        case sh19_0 => ((try dsimp only); (first | exact ⟨hD, hS0, hS1⟩ | exact ⟨c0, c1, c2⟩ | exact ⟨(World.cell?_of_block (Below.heap_setCell w5 _ _ D hDG)).trans c0, (World.cell?_of_block (Below.heap_setCell w5 _ _ gS hSG)).trans c1, (World.cell?_of_block (Below.heap_setCell w5 _ _ gS hSG)).trans c2⟩ | go_keep))
        clear hK K
        (try simp only [Act.put]); (try simp only [List.setIfInBounds_toArray]); (try simp only [List.set_cons_succ]); (try simp only [List.set_cons_zero])
        refine wpAnyH_take (i := 14) (oi := _) (v := ?v20) rfl (by kernel_rfl) (by kernel_rfl) (by kernel_rfl) (fun _ _ _ h => h) (Or.inl ⟨by rfl, ?hy20⟩) (by assumption) ?rs20
        case hy20 => (intro w hSw; (try dsimp only at hSw); go_simp; all_goals with_reducible rfl)
        (try simp only [Act.put]); (try simp only [List.setIfInBounds_toArray]); (try simp only [List.set_cons_succ]); (try simp only [List.set_cons_zero])
        refine wpAnyH_ready (rs := [15]) (by kernel_rfl) (by simp) ?_
        refine AllReadyH.cons (o := _) rfl (fun K hK => ?st21_0) ?mo21_0
        case st21_0 =>
          go_simp
          refine hK.out _ _ ?sh21_0 (fun hHeld => ?re21_0)
          case sh21_0 => ((try dsimp only); (first | exact ⟨hD, hS0, hS1⟩ | exact ⟨c0, c1, c2⟩ | exact ⟨(World.cell?_of_block (Below.heap_setCell w5 _ _ D hDG)).trans c0, (World.cell?_of_block (Below.heap_setCell w5 _ _ gS hSG)).trans c1, (World.cell?_of_block (Below.heap_setCell w5 _ _ gS hSG)).trans c2⟩ | go_keep))
          clear hK K
          (try simp only [Act.put]); (try simp only [List.setIfInBounds_toArray]); (try simp only [List.set_cons_succ]); (try simp only [List.set_cons_zero])
          refine wpAnyH_done (by kernel_rfl) ?_ _
          exact HK.out _ _ _ _ _ _ _ _ _ _ _ _ _ _ _ g5 cap5 w5 _ ⟨HG5.out, HA5.out, by have h := HO5.out; simpa using h, rfl⟩
        exact AllReadyH.nil
      exact AllReadyH.nil
    exact AllReadyH.nil
  exact AllReadyH.nil

end Go.Proofs.Ytllnomembakboaa
