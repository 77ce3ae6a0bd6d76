/- Joined: Oe Of Oh. -/
import Derived.Test.YtllnomembakboaaB17
import Derived.Test.YtllnomembakboaaB21
import Derived.Test.YtllnomembakboaaB26
namespace Go.Proofs.Ytllnomembakboaa
open Go.RowKit

theorem keys_ne {S : List (ByteArray × Int)} (h : (S.map (·.1)).Nodup) {i j : Nat} (hi : i < S.length) (hj : j < S.length) (hne : i ≠ j) : S[i].1 ≠ S[j].1 := by
  rw [List.nodup_iff_pairwise_ne, List.pairwise_map, List.pairwise_iff_getElem] at h
  rcases Nat.lt_or_ge i j with h1 | h1
  · exact h i j hi hj h1
  · exact fun e => h j i hj hi (by omega) e.symm
theorem dist_nd {S : List (ByteArray × Int)} {out : List Int} {B : Nat} (h : (S.map (·.1)).Nodup) : ((dist S out B).flatten.map (·.1)).Nodup := by
  rw [List.nodup_iff_pairwise_ne, List.pairwise_map, List.pairwise_flatten]
  refine ⟨fun l hl => ?_, ?_⟩
  · obtain ⟨b, hb, rfl⟩ := List.getElem_of_mem hl
    have h2 := h
    rw [List.nodup_iff_pairwise_ne, List.pairwise_map] at h2
    exact List.Pairwise.sublist (dist_sub hb) h2
  · rw [List.pairwise_iff_getElem]
    intro b c hb hc hbc x hx y hy
    obtain ⟨i, h1, h2, rfl, e1⟩ := dist_of hb hx
    obtain ⟨j, h3, h4, rfl, e2⟩ := dist_of hc hy
    refine keys_ne h h1 h3 (fun e => ?_)
    subst e
    rw [e1] at e2
    omega
theorem dist_ok {B slots : Nat} {ps : List (Int × Int)} {S : List (ByteArray × Int)} {out : List Int} (hs1 : 1 ≤ slots) (hs2 : slots ≤ 8) (hA : Asc S) (hV : ∀ e ∈ S, ven e = true) (hn : (S.map (·.1)).Nodup) (ha : Asg (hss B ps S) (fun _ => slots) out) : DirOK B ps slots (dist S out B) := by
  have hl : S.length = out.length := by rw [ha.len, hss_len]
  refine ⟨by omega, by omega, dist_len _ _ _, fun b h => ⟨?_, ascB_iff.2 ⟨fun e he => hV e ((dist_sub h).subset he), dist_asc hA h⟩⟩, fun b h e he => ?_, dist_nd hn⟩
  · rw [dist_cnt hl h]
    have := ha.cnt b
    omega
  · obtain ⟨i, h1, h2, rfl, e1⟩ := dist_of h he
    have h3 := ha.mem i h2 (by rw [hss_len]; exact h1)
    rw [e1] at h3
    rw [List.contains_iff_mem]
    simpa [hss] using h3
theorem getD_in {α : Type} {l : List α} {i : Nat} {d : α} (h : i < l.length) : l.getD i d = l[i] := by simp [h]
theorem pickE_some {key : ByteArray} {l : List (ByteArray × Int)} {n : Int} (h : pickE key l = some n) : (key, n) ∈ l := by
  unfold pickE at h
  rw [Option.map_eq_some_iff] at h
  obtain ⟨e, he, rfl⟩ := h
  have h1 := List.mem_of_find?_eq_some he
  have h2 := List.find?_some he
  have h3 : e.1 = key := by simpa using h2
  rw [← h3]
  exact h1
theorem pickF_some {key : ByteArray} {bs : List (List (ByteArray × Int))} {n : Int} (h : pickF key bs = some n) : ∃ l ∈ bs, (key, n) ∈ l := by
  unfold pickF at h
  obtain ⟨l, hl, h1⟩ := List.exists_of_findSome?_eq_some h
  exact ⟨l, hl, pickE_some h1⟩
theorem pickF_mem {key : ByteArray} {bs : List (List (ByteArray × Int))} {n : Int} {l : List (ByteArray × Int)} (hl : l ∈ bs) (hn : (key, n) ∈ l) : ∃ m, pickF key bs = some m := by
  cases h : pickF key bs with
  | some m => exact ⟨m, rfl⟩
  | none => exact absurd rfl (pickF_none.1 h l hl _ hn)
theorem keys_uniq {S : List (ByteArray × Int)} (h : (S.map (·.1)).Nodup) {k : ByteArray} {a b : Int} (ha : (k, a) ∈ S) (hb : (k, b) ∈ S) : a = b := by
  obtain ⟨i, hi, e1⟩ := List.getElem_of_mem ha
  obtain ⟨j, hj, e2⟩ := List.getElem_of_mem hb
  rcases Nat.decEq i j with hne | rfl
  · exact absurd (by rw [e1, e2]) (keys_ne h hi hj hne)
  · rw [e1] at e2
    injection e2
/-- in the homes of a key lies what lies in the directory under it -/
theorem pick_dist {B slots : Nat} {ps : List (Int × Int)} {S : List (ByteArray × Int)} {out : List Int} {key : ByteArray} (hB : 1 ≤ (B : Int)) (hn : (S.map (·.1)).Nodup) (ha : Asg (hss B ps S) (fun _ => slots) out) (n : Int) :
    pickF key ((hms B ps (dg key)).map fun x => (dist S out B).getD x.toNat []) = some n ↔ (key, n) ∈ S := by
  have hl : S.length = out.length := by rw [ha.len, hss_len]
  have hsub : ∀ {m : Int}, pickF key ((hms B ps (dg key)).map fun x => (dist S out B).getD x.toNat []) = some m → (key, m) ∈ S := by
    intro m h
    obtain ⟨l, hl, hm⟩ := pickF_some h
    obtain ⟨x, hx, rfl⟩ := List.mem_map.1 hl
    have hxb := hms_bd hB hx
    have hlt : x.toNat < (dist S out B).length := by rw [dist_len]; omega
    rw [getD_in hlt] at hm
    exact (dist_sub hlt).subset hm
  refine ⟨hsub, fun h => ?_⟩
  obtain ⟨i, hi, e1⟩ := List.getElem_of_mem h
  have h3 := ha.mem i (by omega) (by rw [hss_len]; exact hi)
  have h4 : (hss B ps S)[i]'(by rw [hss_len]; exact hi) = hms B ps (dg key) := by simp [hss, e1]
  rw [h4] at h3
  have hxb := hms_bd hB h3
  have hlt : (out[i]'(by omega)).toNat < (dist S out B).length := by rw [dist_len]; omega
  have hm := dist_mem (b := (out[i]'(by omega)).toNat) hi (by omega) (by omega) hlt
  rw [e1] at hm
  obtain ⟨m, hp⟩ := pickF_mem (key := key) (bs := (hms B ps (dg key)).map fun x => (dist S out B).getD x.toNat []) (List.mem_map.2 ⟨_, h3, getD_in hlt⟩) hm
  rw [hp, keys_uniq hn h (hsub hp)]
end Go.Proofs.Ytllnomembakboaa

namespace Go.Proofs.Ytllnomembakboaa
open Go.RowKit

theorem nd_of_keys {S : List (ByteArray × Int)} (h : (S.map (·.1)).Nodup) : S.Nodup := by
  rw [List.nodup_iff_pairwise_ne, List.pairwise_map] at h
  rw [List.nodup_iff_pairwise_ne]
  exact h.imp (fun h e => h (by rw [e]))
/-- all entries lie in the buckets, and nothing else -/
theorem dist_perm {B slots : Nat} {ps : List (Int × Int)} {S : List (ByteArray × Int)} {out : List Int} (hB : 1 ≤ (B : Int)) (hn : (S.map (·.1)).Nodup) (ha : Asg (hss B ps S) (fun _ => slots) out) : (dist S out B).flatten.Perm S := by
  rw [List.perm_ext_iff_of_nodup (nd_of_keys (dist_nd hn)) (nd_of_keys hn)]
  intro x
  rw [List.mem_flatten]
  constructor
  · rintro ⟨l, hl, hx⟩
    obtain ⟨b, hb, rfl⟩ := List.getElem_of_mem hl
    exact (dist_sub hb).subset hx
  · intro hx
    obtain ⟨i, hi, rfl⟩ := List.getElem_of_mem hx
    have hio : i < out.length := by rw [ha.len, hss_len]; exact hi
    have h3 := ha.mem i hio (by rw [hss_len]; exact hi)
    have h4 : (hss B ps S)[i]'(by rw [hss_len]; exact hi) = hms B ps (dg S[i].1) := by simp [hss]
    rw [h4] at h3
    have hxb := hms_bd hB h3
    have hlt : out[i].toNat < (dist S out B).length := by rw [dist_len]; omega
    exact ⟨_, List.getElem_mem hlt, dist_mem (b := out[i].toNat) hi hio (by omega) hlt⟩
/-- the last entry of a key is its only one -/
theorem pickE_step {es : List (ByteArray × Int)} (h : (es.map (·.1)).Nodup) {k : Nat} (hk : k < es.length) (key : ByteArray) : pickE key (es.take (k + 1)) = if es[k].1 = key then some es[k].2 else pickE key (es.take k) := by
  rw [List.take_succ_eq_append_getElem hk]
  unfold pickE
  rw [List.find?_append]
  by_cases e : es[k].1 = key
  · have h1 : (es.take k).find? (fun e => decide (e.1 = key)) = none := by
      rw [List.find?_eq_none]
      intro x hx
      obtain ⟨j, hj, rfl⟩ := List.getElem_of_mem hx
      rw [List.length_take] at hj
      rw [List.getElem_take]
      have := keys_ne h (i := j) (j := k) (by omega) hk (by omega)
      simp
      exact fun e2 => this (e2.trans e.symm)
    rw [h1, if_pos e]
    simp [e]
  · rw [if_neg e]
    simp [e]
theorem pickE_iff {S : List (ByteArray × Int)} (h : (S.map (·.1)).Nodup) (key : ByteArray) (n : Int) : pickE key S = some n ↔ (key, n) ∈ S := by
  refine ⟨pickE_some, fun hm => ?_⟩
  cases hp : pickE key S with
  | none =>
    have : pickF key [S] = none := by unfold pickF; simp [hp]
    exact absurd rfl (pickF_none.1 this S (by simp) _ hm)
  | some m => rw [keys_uniq h hm (pickE_some hp)]
theorem find_es {B slots : Nat} {ps : List (Int × Int)} {S es : List (ByteArray × Int)} {out : List Int} {key : ByteArray} (hB : 1 ≤ (B : Int)) (hn : (S.map (·.1)).Nodup) (hp : S.Perm es) (ha : Asg (hss B ps S) (fun _ => slots) out) :
    pickF key ((hms B ps (dg key)).map fun x => (dist S out B).getD x.toNat []) = pickE key es := by
  have hn2 : (es.map (·.1)).Nodup := (hp.map _).nodup_iff.1 hn
  apply Option.ext
  intro n
  rw [pick_dist hB hn ha, pickE_iff hn2, hp.mem_iff]
end Go.Proofs.Ytllnomembakboaa

namespace Go.Proofs.Ytllnomembakboaa
open Go.RowKit

theorem Asg.less {hs : List (List Int)} {cap : Nat → Nat} {out : List Int} (h : Asg hs cap out) (k : Nat) : Asg (hs.eraseIdx k) cap (out.eraseIdx k) := by
  have hl := h.len
  refine ⟨?_, fun i h1 h2 => ?_, fun b => ?_⟩
  · rw [List.length_eraseIdx, List.length_eraseIdx, hl]
  · rw [List.getElem_eraseIdx, List.getElem_eraseIdx]
    by_cases e : i < k
    · rw [dif_pos e, dif_pos e]
      exact h.mem _ _ _
    · rw [dif_neg e, dif_neg e]
      exact h.mem _ _ _
  · exact Nat.le_trans ((List.eraseIdx_sublist (l := out) (k := k)).count_le (b : Int)) (h.cnt b)
theorem Asc.sub {a b : List (ByteArray × Int)} (h : Asc b) (k : a.Sublist b) : Asc a := List.Pairwise.sublist k h
theorem EnV.sub {a b : List (ByteArray × Int)} (h : EnV b) (k : a.Sublist b) : EnV a := ⟨fun e he => h.1 e (k.subset he), List.Pairwise.sublist (k.map _) h.2⟩
theorem order_less {B : Int} {ps : List (Int × Int)} {cap : Nat → Nat} {es S S' : List (ByteArray × Int)} {k : Nat} (hk : k < es.length) (hp : S.Perm es) (ha : Asc S) (hp2 : S'.Perm (es.eraseIdx k)) (ha2 : Asc S') (h : ∃ out, Asg (hss B ps S) cap out) : ∃ out, Asg (hss B ps S') cap out := by
  obtain ⟨out, h⟩ := h
  have h1 : es[k] ∈ S := hp.mem_iff.2 (List.getElem_mem hk)
  obtain ⟨i, hi, e⟩ := List.getElem_of_mem h1
  have e1 : S.Perm (S[i] :: S.eraseIdx i) := by
    have := List.perm_middle (a := S[i]) (l₁ := S.take i) (l₂ := S.drop (i + 1))
    rw [List.eraseIdx_eq_take_drop_succ]
    refine (List.Perm.of_eq ?_).trans this
    simp
  have e2 : es.Perm (es[k] :: es.eraseIdx k) := by
    have := List.perm_middle (a := es[k]) (l₁ := es.take k) (l₂ := es.drop (k + 1))
    rw [List.eraseIdx_eq_take_drop_succ]
    refine (List.Perm.of_eq ?_).trans this
    simp
  have e3 : (S.eraseIdx i).Perm (es.eraseIdx k) := by
    have := (e1.symm.trans hp).trans e2
    rw [e] at this
    exact this.cons_inv
  have e4 : S' = S.eraseIdx i := Asc.uniq ha2 (ha.sub (List.eraseIdx_sublist ..)) (hp2.trans e3.symm)
  refine ⟨out.eraseIdx i, ?_⟩
  have e5 : hss B ps S' = (hss B ps S).eraseIdx i := by
    rw [e4]
    unfold hss
    rw [List.eraseIdx_eq_take_drop_succ, List.eraseIdx_eq_take_drop_succ, List.map_append, List.map_take, List.map_drop]
  rw [e5]
  exact h.less i
end Go.Proofs.Ytllnomembakboaa
