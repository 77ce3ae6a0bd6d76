/- Joined: Rq. -/
import Derived.Test.YtllnomembakboaaB32
import Derived.Test.YtllnomembakboaaB10
namespace Go.Proofs.Ytllnomembakboaa
open Go.RowKit

section
variable {α : Type} {enc : α → List Value} {sz : Nat}
theorem SV.sc {B : Nat} {w : World} {v : Value} {l : List α} (h : SV enc sz B w v l) (hsz : 0 < sz) (henc : ∀ x, (enc x).length = sz) : SC B w v l.length sz (l.flatMap enc) := by
  obtain ⟨A, c, rfl, hc, hm, ha⟩ := h
  have hfl : (l.flatMap enc).length = l.length * sz := by
    clear ha hc hm
    induction l with
    | nil => simp
    | cons x l ih => rw [List.flatMap_cons, List.length_append, henc, ih, List.length_cons, Nat.add_mul]; omega
  refine ⟨A, c, rfl, hfl, fun h0 => ?_⟩
  obtain ⟨b, off, rfl, hb, hcell⟩ := ha h0
  refine ⟨b, off, rfl, hb, fun j u hu => ?_⟩
  have := fm_cells hsz henc hcell j u hu
  have ha : (⟨b, off, none⟩ : Addr).add j = ⟨b, off + j, none⟩ := by unfold Addr.add; split <;> simp_all
  rwa [ha] at this
theorem step_append_src {P : Program} (enc : α → List Value) (w : World) {ops : Array Oper} {o : Oper} {a : Act} {K : Act → World → Prop} {Q : Exit → Act → World → Prop} {E : Prop} (hgd : o.guard = none) (s x : Operand) (t : TypeId)
    (ho : o.op = .call { callee := .builtin .append, args := #[s, x], argTypes := #[t, t] })
    (base : Nat) (e : TypeId) (z : Value) (bytes : Nat) (ht : P.underlying t = some (.slice e)) (hinfo : (P.info? e).map (fun i => (i.zero, i.size, i.bytes)) = some (some z, sz, bytes)) (hzs : z.cells.size = sz) (hsz : 0 < sz) (hby : bytes ≤ 64)
    (v : Value) (l1 : List α) (hs : a.eval s = v) (hown : w.ownsRow base e sz v l1.length (l1.flatMap enc))
    (l2 : List α) (B : Nat) (src : Value) (hx : a.eval x = src) (hc : SC B w src l2.length sz (l2.flatMap enc)) (h1 : ∀ u ∈ l2.flatMap enc, u.oneCell' = true)
    (hlen : l1.length + l2.length ≤ 1000000) (hbase : base ≤ w.heap.size)
    (h : ∀ A c w', w'.ownsRow base e sz (.slice A (l1 ++ l2).length c) (l1 ++ l2).length ((l1 ++ l2).flatMap enc) → w.grownBy w' v.ownBlock → K (a.put o.dst (.slice A (l1 ++ l2).length c)) w') :
    if Region.wanted o (yielded ops a.tmps) = true then Oper.wp P o a w K Q else E := by
  obtain ⟨i0, hi0, hz0, hz1, hz2⟩ := info_parts hinfo
  have hw : Region.wanted o (yielded ops a.tmps) = true := by simp [Region.wanted, hgd]
  rw [if_pos hw]
  have hbb : (l1.length + l2.length) * bytes ≤ 1000000 * 64 := Nat.mul_le_mul hlen hby
  obtain ⟨v', w', hrun, h2, h3, _⟩ := run_append_sc_at (P := P) w base t o.type e i0 z sz bytes ht hi0 hz0 hz1 hz2 hzs hsz v l1.length _ hown B src l2.length (l2.flatMap enc) hc h1 (by unfold maxLen; omega) (by omega) hbase
  rw [← List.length_append, ← List.flatMap_append] at h2
  obtain ⟨A, c, rfl⟩ := own_sl h2
  unfold Oper.wp execOp
  simp only [ho, resolve, invoke, builtin, Sem.run_bind, Sem.run_pure, Result.andThen_ok, List.map_toArray, List.map_cons, List.map_nil, hs, hx, hrun]
  exact h A c w' h2 h3
end
end Go.Proofs.Ytllnomembakboaa
