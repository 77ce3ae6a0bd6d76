/- Joined: Na Nb Nc Np. -/
import Derived.Lib.Hide
namespace Go.Proofs.Ytllnomembakboaa

/-- the bucket of a number -/
def bk (ls : List (List Int)) (b : Nat) : List Int := ls.getD b []
theorem bk_eq {ls : List (List Int)} {b : Nat} (h : b < ls.length) : bk ls b = ls[b] := by simp [bk, h]
theorem bk_out {ls : List (List Int)} {b : Nat} (h : ls.length ≤ b) : bk ls b = [] := by simp [bk, h]
theorem bk_set_self {ls : List (List Int)} {b : Nat} (h : b < ls.length) (l : List Int) : bk (ls.set b l) b = l := by simp [bk, h]
theorem bk_set_ne {ls : List (List Int)} {b c : Nat} (h : b ≠ c) (l : List Int) : bk (ls.set b l) c = bk ls c := by
  simp [bk, List.getElem?_set_ne h]
theorem flat_set (ls : List (List Int)) (b : Nat) (hb : b < ls.length) (l : List Int) : (ls.set b l).flatten = (ls.take b).flatten ++ l ++ (ls.drop (b + 1)).flatten := by
  rw [List.set_eq_take_append_cons_drop, if_pos hb, List.flatten_append, List.flatten_cons, List.append_assoc]
theorem flat_get (ls : List (List Int)) (b : Nat) (hb : b < ls.length) : ls.flatten = (ls.take b).flatten ++ ls[b] ++ (ls.drop (b + 1)).flatten := by
  have := flat_set ls b hb ls[b]
  rwa [List.set_getElem_self] at this
theorem set_split (l : List Int) (m : Nat) (hm : m < l.length) (x : Int) : l.set m x = l.take m ++ x :: l.drop (m + 1) := by
  rw [List.set_eq_take_append_cons_drop, if_pos hm]
theorem get_split (l : List Int) (m : Nat) (hm : m < l.length) : l = l.take m ++ l[m] :: l.drop (m + 1) := by
  have := set_split l m hm l[m]
  rwa [List.set_getElem_self] at this
theorem perm_app (ls : List (List Int)) (b : Nat) (hb : b < ls.length) (x : Int) : (ls.set b (ls[b] ++ [x])).flatten.Perm (x :: ls.flatten) := by
  rw [flat_set ls b hb, flat_get ls b hb, List.perm_iff_count]
  intro a
  simp only [List.count_append, List.count_cons, List.count_nil]
  omega
theorem perm_put (ls : List (List Int)) (b : Nat) (hb : b < ls.length) (m : Nat) (hm : m < ls[b].length) (x : Int) : (ls[b][m] :: (ls.set b (ls[b].set m x)).flatten).Perm (x :: ls.flatten) := by
  rw [flat_set ls b hb, flat_get ls b hb, List.perm_iff_count]
  intro a
  have h := get_split ls[b] m hm
  have h2 : List.count a ls[b] = List.count a (ls[b].take m ++ ls[b][m] :: ls[b].drop (m + 1)) := congrArg _ h
  rw [set_split _ m hm]
  simp only [List.count_append, List.count_cons] at h2 ⊢
  omega
/-- what a move that succeeds leaves -/
structure PutT (cap : Nat → Nat) (mv : Int → Prop) (hf : Int → List Int) (ls ls' : List (List Int)) (item : Int) (homes : List Int) : Prop where
  perm : ls'.flatten.Perm (item :: ls.flatten)
  len : ∀ b, (bk ls' b).length ≤ cap b ∨ (bk ls' b).length = (bk ls b).length
  home : ∀ b x, x ∈ bk ls' b → x ∈ bk ls b ∨ (x = item ∧ (b : Int) ∈ homes) ∨ (mv x ∧ (b : Int) ∈ hf x)
  fix : ∀ b x, x ∈ bk ls b → ¬ mv x → x ∈ bk ls' b
theorem PutT.app {cap : Nat → Nat} {mv : Int → Prop} {hf : Int → List Int} {ls : List (List Int)} {item : Int} {homes : List Int} {b : Nat} (hb : b < ls.length) (hl : ls[b].length < cap b) (hm : (b : Int) ∈ homes) :
    PutT cap mv hf ls (ls.set b (ls[b] ++ [item])) item homes := by
  refine ⟨perm_app ls b hb item, fun c => ?_, fun c x hx => ?_, fun c x hx _ => ?_⟩
  · by_cases h : b = c
    · subst h; rw [bk_set_self hb]; left; simp; omega
    · rw [bk_set_ne h]; exact .inr rfl
  · by_cases h : b = c
    · subst h
      rw [bk_set_self hb] at hx
      rcases List.mem_append.1 hx with h | h
      · left; rw [bk_eq hb]; exact h
      · exact .inr (.inl ⟨by simpa using h, hm⟩)
    · rw [bk_set_ne h] at hx; exact .inl hx
  · by_cases h : b = c
    · subst h; rw [bk_set_self hb]; rw [bk_eq hb] at hx; exact List.mem_append_left _ hx
    · rw [bk_set_ne h]; exact hx
theorem PutT.put {cap : Nat → Nat} {mv : Int → Prop} {hf : Int → List Int} {ls ls' : List (List Int)} {item other : Int} {homes : List Int} {b m : Nat} (h : PutT cap mv hf ls ls' other (hf other)) (hb : b < ls'.length) (he : bk ls b = ls'[b]) (hm : m < ls'[b].length) (ho : ls'[b][m] = other) (hmv : mv other) (hbh : (b : Int) ∈ homes) :
    PutT cap mv hf ls (ls'.set b (ls'[b].set m item)) item homes := by
  have hp := perm_put ls' b hb m hm item
  rw [ho] at hp
  refine ⟨?_, fun c => ?_, fun c x hx => ?_, fun c x hx hn => ?_⟩
  · have h2 := hp.trans (h.perm.cons item)
    exact (h2.trans (List.Perm.swap _ _ _)).cons_inv
  · by_cases e : b = c
    · subst e; rw [bk_set_self hb, he]; right; simp
    · rw [bk_set_ne e]; exact h.len c
  · by_cases e : b = c
    · subst e
      rw [bk_set_self hb] at hx
      rcases List.mem_or_eq_of_mem_set hx with h' | h'
      · left; rw [he]; exact h'
      · exact .inr (.inl ⟨h', hbh⟩)
    · rw [bk_set_ne e] at hx
      rcases h.home c x hx with h' | ⟨h1, h2⟩ | h'
      · exact .inl h'
      · subst h1; exact .inr (.inr ⟨hmv, h2⟩)
      · exact .inr (.inr h')
  · by_cases e : b = c
    · subst e
      rw [bk_set_self hb]
      rw [he] at hx
      obtain ⟨j, hj, rfl⟩ := List.getElem_of_mem hx
      have hne : m ≠ j := by rintro rfl; exact hn (ho ▸ hmv)
      have : (ls'[b].set m item)[j]'(by simpa using hj) = ls'[b][j] := List.getElem_set_ne hne _
      rw [← this]
      exact List.getElem_mem _
    · rw [bk_set_ne e]; exact h.fix c x hx hn
/-- what has been tried in vain: full buckets, out of which nothing that may move has a way -/
structure PutF (cap : Nat → Nat) (mv : Int → Prop) (hf : Int → List Int) (ls : List (List Int)) (sn sn' : List Bool) : Prop where
  up : ∀ b : Nat, sn[b]? = some true → sn'[b]? = some true
  clo : ∀ b : Nat, sn'[b]? = some true → sn[b]? = some true ∨ (cap b ≤ (bk ls b).length ∧ ∀ o ∈ bk ls b, mv o → ∀ h ∈ hf o, sn'[h.toNat]? = some true)
theorem PutF.refl (cap : Nat → Nat) (mv : Int → Prop) (hf : Int → List Int) (ls : List (List Int)) (sn : List Bool) : PutF cap mv hf ls sn sn := ⟨fun _ h => h, fun _ h => .inl h⟩
theorem PutF.trans {cap : Nat → Nat} {mv : Int → Prop} {hf : Int → List Int} {ls : List (List Int)} {s1 s2 s3 : List Bool} (h : PutF cap mv hf ls s1 s2) (k : PutF cap mv hf ls s2 s3) : PutF cap mv hf ls s1 s3 :=
  ⟨fun b hb => k.up b (h.up b hb), fun b hb => by
    rcases k.clo b hb with h1 | h1
    · rcases h.clo b h1 with h2 | ⟨h2, h3⟩
      · exact .inl h2
      · exact .inr ⟨h2, fun o ho hm x hx => k.up _ (h3 o ho hm x hx)⟩
    · exact .inr h1⟩
/-- a bucket marked, and all that may move out of it tried in vain -/
theorem PutF.mark {cap : Nat → Nat} {mv : Int → Prop} {hf : Int → List Int} {ls : List (List Int)} {sn sn' : List Bool} {b : Nat} (hb : b < sn.length) (h : PutF cap mv hf ls (sn.set b true) sn') (hf2 : cap b ≤ (bk ls b).length) (hall : ∀ o ∈ bk ls b, mv o → ∀ x ∈ hf o, sn'[x.toNat]? = some true) : PutF cap mv hf ls sn sn' := by
  refine ⟨fun c hc => h.up c ?_, fun c hc => ?_⟩
  · by_cases e : b = c
    · subst e; simp [hb]
    · rw [List.getElem?_set_ne e]; exact hc
  · rcases h.clo c hc with h1 | h1
    · by_cases e : b = c
      · subst e; exact .inr ⟨hf2, hall⟩
      · rw [List.getElem?_set_ne e] at h1; exact .inl h1
    · exact .inr h1
theorem sum_zero (f : Nat → Nat) (T : List Nat) (h : ∀ b ∈ T, f b = 0) : (T.map f).sum = 0 := by
  induction T with
  | nil => rfl
  | cons y T ih => rw [List.map_cons, List.sum_cons, h y List.mem_cons_self, ih (fun b hb => h b (List.mem_cons_of_mem _ hb))]
theorem sum_one (S : List Nat) (hS : S.Nodup) (a : Nat) (ha : a ∈ S) : (S.map fun b => if a == b then 1 else 0).sum = 1 := by
  induction S with
  | nil => simp at ha
  | cons x S ih =>
    rw [List.nodup_cons] at hS
    rw [List.map_cons, List.sum_cons]
    by_cases h : a = x
    · subst h
      rw [sum_zero _ S (fun b hb => if_neg (by rw [beq_iff_eq]; rintro rfl; exact hS.1 hb)), if_pos (by simp)]
    · rw [ih hS.2 (by simpa [h] using ha), if_neg (by simpa using h)]
theorem sum_add (S : List Nat) (f g : Nat → Nat) : (S.map fun b => f b + g b).sum = (S.map f).sum + (S.map g).sum := by
  induction S with
  | nil => rfl
  | cons x S ih => simp only [List.map_cons, List.sum_cons, ih]; omega
theorem sum_le (S : List Nat) (f g : Nat → Nat) (h : ∀ b ∈ S, f b ≤ g b) : (S.map f).sum ≤ (S.map g).sum := by
  induction S with
  | nil => exact Nat.le_refl _
  | cons x S ih =>
    simp only [List.map_cons, List.sum_cons]
    have h1 := h x (List.mem_cons_self)
    have h2 := ih (fun b hb => h b (List.mem_cons_of_mem _ hb))
    omega
theorem count_by (S : List Nat) (hS : S.Nodup) (g : Int → Nat) (J : List Int) (hJ : ∀ x ∈ J, g x ∈ S) : (S.map fun b => J.countP fun x => g x == b).sum = J.length := by
  induction J with
  | nil => exact sum_zero _ S (fun b _ => rfl)
  | cons x J ih =>
    have h1 : (S.map fun b => (x :: J).countP fun x => g x == b) = S.map fun b => (J.countP fun x => g x == b) + (if g x == b then 1 else 0) := by
      apply List.map_congr_left
      intro b _
      rw [List.countP_cons]
    rw [h1, sum_add S (fun b => J.countP fun x => g x == b) (fun b => if g x == b then 1 else 0), ih (fun y hy => hJ y (List.mem_cons_of_mem _ hy)), sum_one S hS _ (hJ x List.mem_cons_self)]
    simp
theorem flat_range (ls : List (List Int)) : ls.flatten = (List.range ls.length).flatMap (bk ls) := by
  rw [List.flatMap_def]
  congr 1
  apply List.ext_getElem
  · simp
  · intro i h1 h2
    simp [bk_eq h1]
theorem mem_flat {ls : List (List Int)} {x : Int} : x ∈ ls.flatten ↔ ∃ b, x ∈ bk ls b := by
  constructor
  · intro h
    rw [flat_range, List.mem_flatMap] at h
    obtain ⟨b, _, h⟩ := h
    exact ⟨b, h⟩
  · rintro ⟨b, h⟩
    rw [flat_range, List.mem_flatMap]
    refine ⟨b, ?_, h⟩
    rw [List.mem_range]
    refine Nat.lt_of_not_le fun hle => ?_
    rw [bk_out hle] at h
    simp at h
theorem sub_fm (f : Nat → List Int) {S T : List Nat} (h : S.Sublist T) : (S.flatMap f).Sublist (T.flatMap f) := by
  induction h with
  | slnil => exact List.Sublist.refl _
  | cons a _ ih => rw [List.flatMap_cons]; exact ih.trans (List.sublist_append_right _ _)
  | cons_cons a _ ih => rw [List.flatMap_cons, List.flatMap_cons]; exact List.Sublist.append (List.Sublist.refl _) ih
/-- when all tries were in vain, there is no way -/
theorem stuck {cap : Nat → Nat} {mv : Int → Prop} {hf : Int → List Int} {ls : List (List Int)} {sn : List Bool} {item : Int} {homes : List Int} (hsl : sn.length ≤ ls.length)
    (hfull : ∀ b : Nat, sn[b]? = some true → cap b ≤ (bk ls b).length)
    (hcl : ∀ b : Nat, sn[b]? = some true → ∀ o ∈ bk ls b, mv o → ∀ h ∈ hf o, sn[h.toNat]? = some true)
    (hit : ∀ h ∈ homes, sn[h.toNat]? = some true)
    (g : Int → Nat) (g1 : ∃ h ∈ homes, g item = h.toNat) (g2 : ∀ o ∈ ls.flatten, mv o → ∃ h ∈ hf o, g o = h.toNat) (g3 : ∀ b : Nat, ∀ o ∈ bk ls b, ¬ mv o → g o = b)
    (g4 : ∀ b : Nat, (item :: ls.flatten).countP (fun x => g x == b) ≤ cap b) : False := by
  let S := (List.range ls.length).filter fun b => sn[b]? == some true
  have hS : S.Nodup := (List.nodup_range).filter _
  have mS : ∀ b : Nat, b ∈ S ↔ sn[b]? = some true := by
    intro b
    show b ∈ (List.range ls.length).filter _ ↔ _
    rw [List.mem_filter, List.mem_range]
    simp only [beq_iff_eq]
    refine ⟨fun h => h.2, fun h => ⟨?_, h⟩⟩
    obtain ⟨h1, _⟩ := List.getElem?_eq_some_iff.1 h
    omega
  have hsub : (S.flatMap (bk ls)).Sublist ls.flatten := by
    rw [flat_range ls]
    exact sub_fm _ (show S.Sublist (List.range ls.length) from List.filter_sublist)
  have hJ : ∀ x ∈ item :: S.flatMap (bk ls), g x ∈ S := by
    intro x hx
    rw [mS]
    rcases List.mem_cons.1 hx with rfl | hx
    · obtain ⟨h, h1, h2⟩ := g1
      rw [h2]; exact hit h h1
    · obtain ⟨b, hb, hxb⟩ := List.mem_flatMap.1 hx
      by_cases hm : mv x
      · obtain ⟨h, h1, h2⟩ := g2 x (hsub.subset hx) hm
        rw [h2]
        exact hcl b ((mS b).1 hb) x hxb hm h h1
      · rw [g3 b x hxb hm]
        exact (mS b).1 hb
  have h1 := count_by S hS g _ hJ
  have h2 : (S.map fun b => (item :: S.flatMap (bk ls)).countP fun x => g x == b).sum ≤ (S.map fun b => (bk ls b).length).sum := by
    apply sum_le
    intro b hb
    refine Nat.le_trans ((hsub.cons_cons item).countP_le) (Nat.le_trans (g4 b) (hfull b ((mS b).1 hb)))
  rw [h1, List.length_cons, List.length_flatMap] at h2
  omega
end Go.Proofs.Ytllnomembakboaa

namespace Go.Proofs.Ytllnomembakboaa

theorem nodup_len {L M : List Int} (h : L.Nodup) (hm : ∀ x ∈ L, x ∈ M) : L.length ≤ M.length := by
  induction L generalizing M with
  | nil => simp
  | cons x L ih =>
    rw [List.nodup_cons] at h
    have hx : x ∈ M := hm x List.mem_cons_self
    have := ih (M := M.erase x) h.2 (fun y hy => (List.mem_erase_of_ne (by rintro rfl; exact h.1 hy)).2 (hm y (List.mem_cons_of_mem _ hy)))
    rw [List.length_erase_of_mem hx] at this
    have : 0 < M.length := List.length_pos_of_mem hx
    simp only [List.length_cons]
    omega
/-- the homes of an item -/
def hf (hs : List (List Int)) (x : Int) : List Int := hs.getD x.toNat []
theorem hf_at {hs : List (List Int)} {i : Nat} (h : i < hs.length) : hf hs (i : Int) = hs[i] := by simp [hf, h]
/-- the numbers below n -/
def upto (n : Nat) : List Int := (List.range n).map fun i : Nat => (i : Int)
theorem upto_mem {n : Nat} {x : Int} : x ∈ upto n ↔ 0 ≤ x ∧ x < (n : Int) := by
  unfold upto
  rw [List.mem_map]
  constructor
  · rintro ⟨i, hi, rfl⟩
    rw [List.mem_range] at hi
    omega
  · rintro ⟨h1, h2⟩
    exact ⟨x.toNat, List.mem_range.2 (by omega), by omega⟩
theorem nodup_map {α β : Type} (f : α → β) (hf : ∀ a b, f a = f b → a = b) {l : List α} (h : l.Nodup) : (l.map f).Nodup := by
  induction l with
  | nil => simp
  | cons x l ih =>
    rw [List.nodup_cons] at h
    rw [List.map_cons, List.nodup_cons]
    refine ⟨fun hm => ?_, ih h.2⟩
    obtain ⟨y, hy, e⟩ := List.mem_map.1 hm
    exact h.1 (hf _ _ e ▸ hy)
theorem upto_nodup (n : Nat) : (upto n).Nodup := nodup_map _ (fun a b h => by omega) List.nodup_range
theorem upto_succ (n : Nat) : (upto (n + 1)).Perm ((n : Int) :: upto n) := by
  unfold upto
  rw [List.range_succ, List.map_append]
  exact List.perm_append_comm
theorem upto_zero : upto 0 = [] := rfl
/-- each item in one of its homes, and no bucket with more than there is room for -/
structure Asg (hs : List (List Int)) (cap : Nat → Nat) (out : List Int) : Prop where
  len : out.length = hs.length
  mem : ∀ i (h1 : i < out.length) (h2 : i < hs.length), out[i] ∈ hs[i]
  cnt : ∀ b : Nat, out.count (b : Int) ≤ cap b
/-- buckets that hold some items -/
structure Stt (hs : List (List Int)) (cap : Nat → Nat) (L : List Int) (ls : List (List Int)) : Prop where
  perm : ls.flatten.Perm L
  len : ∀ b, (bk ls b).length ≤ cap b
  home : ∀ b x, x ∈ bk ls b → (b : Int) ∈ hf hs x
theorem Stt.put {hs : List (List Int)} {cap : Nat → Nat} {L : List Int} {ls ls' : List (List Int)} {mv : Int → Prop} {item : Int} {homes : List Int} (h : Stt hs cap L ls) (k : PutT cap mv (hf hs) ls ls' item homes) (hh : ∀ x ∈ homes, x ∈ hf hs item) : Stt hs cap (item :: L) ls' :=
  ⟨k.perm.trans (h.perm.cons _), fun b => by rcases k.len b with h1 | h1 <;> have := h.len b <;> omega, fun b x hx => by
    rcases k.home b x hx with h1 | ⟨rfl, h1⟩ | ⟨_, h1⟩
    · exact h.home b x h1
    · exact hh _ h1
    · exact h1⟩
theorem Stt.nil (hs : List (List Int)) (cap : Nat → Nat) (B : Nat) : Stt hs cap (upto 0) (List.replicate B []) := by
  have hb : ∀ b, bk (List.replicate B []) b = [] := fun b => by
    by_cases h : b < B
    · rw [bk_eq (by simpa using h)]; simp
    · exact bk_out (by simp; omega)
  refine ⟨?_, fun b => by rw [hb]; simp, fun b x hx => by rw [hb] at hx; simp at hx⟩
  rw [upto_zero, List.flatten_replicate_nil]
theorem Stt.re {hs : List (List Int)} {cap : Nat → Nat} {L M : List Int} {ls : List (List Int)} (h : Stt hs cap L ls) (k : L.Perm M) : Stt hs cap M ls := ⟨h.perm.trans k, h.len, h.home⟩
theorem asg_count {out : List Int} {L : List Int} (hn : L.Nodup) (hr : ∀ x ∈ L, 0 ≤ x ∧ x < (out.length : Int)) (b : Nat) (hp : ∀ x ∈ out, 0 ≤ x) : L.countP (fun x => (out.getD x.toNat 0).toNat == b) ≤ out.count (b : Int) := by
  have h1 : out.count (b : Int) = ((upto out.length).filter fun x => (out.getD x.toNat 0).toNat == b).length := by
    rw [← List.countP_eq_length_filter]
    unfold upto
    rw [List.countP_map]
    have h2 : out = (List.range out.length).map fun i => out.getD i 0 := by
      apply List.ext_getElem
      · simp
      · intro i h1 h2; simp [h1]
    have h3 : List.count (b : Int) out = List.count (b : Int) ((List.range out.length).map fun i => out.getD i 0) := congrArg _ h2
    rw [h3, List.count_eq_countP, List.countP_map]
    apply List.countP_congr
    intro i hi
    rw [List.mem_range] at hi
    have := hp (out.getD i 0) (by simp [hi])
    simp only [Function.comp_apply, beq_iff_eq, Int.toNat_natCast]
    omega
  rw [h1, List.countP_eq_length_filter]
  refine nodup_len (hn.filter _) (fun x hx => ?_)
  rw [List.mem_filter] at hx ⊢
  exact ⟨upto_mem.2 (hr x hx.1), hx.2⟩
/-- an item that found no way in vain: no assignment in which what may not move lies as it lies -/
theorem no_asg {hs : List (List Int)} {cap : Nat → Nat} {L : List Int} {ls : List (List Int)} {mv : Int → Prop} {sn' : List Bool} {item : Nat} {homes : List Int} {B : Nat} (h : Stt hs cap L ls) (hL : L.Nodup) (hr : ∀ x ∈ L, 0 ≤ x ∧ x < (hs.length : Int)) (hi : item < hs.length) (hni : (item : Int) ∉ L) (hB : ls.length = B)
    (k : PutF cap mv (hf hs) ls (List.replicate B false) sn') (hsl : sn'.length = B) (hh : ∀ x ∈ homes, sn'[x.toNat]? = some true) (hpos : ∀ l ∈ hs, ∀ x ∈ l, 0 ≤ x)
    (out : List Int) (ha : Asg hs cap out) (hit : ∃ x ∈ homes, out[item]? = some x) (hfx : ∀ b x, x ∈ bk ls b → ¬ mv x → out[x.toNat]? = some (b : Int)) : False := by
  have hclo : ∀ b : Nat, sn'[b]? = some true → cap b ≤ (bk ls b).length ∧ ∀ o ∈ bk ls b, mv o → ∀ x ∈ hf hs o, sn'[x.toNat]? = some true := by
    intro b hb
    rcases k.clo b hb with h1 | h1
    · exfalso
      obtain ⟨h2, h3⟩ := List.getElem?_eq_some_iff.1 h1
      simp at h3
    · exact h1
  have hmem : ∀ x ∈ ls.flatten, 0 ≤ x ∧ x < (hs.length : Int) := fun x hx => hr x (h.perm.mem_iff.1 hx)
  have hop : ∀ x ∈ out, 0 ≤ x := by
    intro x hx
    obtain ⟨i, hi, rfl⟩ := List.getElem_of_mem hx
    exact hpos _ (List.getElem_mem (by have := ha.len; omega)) _ (ha.mem i hi (by have := ha.len; omega))
  refine stuck (item := (item : Int)) (g := fun x => (out.getD x.toNat 0).toNat) (by omega) (fun b hb => (hclo b hb).1) (fun b hb => (hclo b hb).2) hh ?_ ?_ ?_ ?_
  · obtain ⟨x, hx, e⟩ := hit
    refine ⟨x, hx, ?_⟩
    simp [e]
  · intro o ho _
    have h1 := hmem o ho
    have h2 : o.toNat < out.length := by have := ha.len; omega
    refine ⟨out[o.toNat], ?_, by simp [h2]⟩
    have h3 : o.toNat < hs.length := by omega
    have h4 := ha.mem o.toNat h2 h3
    unfold hf
    simpa [h3] using h4
  · intro b o ho hm
    have := hfx b o ho hm
    simp [this]
  · intro b
    refine Nat.le_trans (asg_count ?_ ?_ b hop) (ha.cnt b)
    · rw [List.nodup_cons]
      exact ⟨fun hm => hni (h.perm.mem_iff.1 hm), h.perm.nodup_iff.2 hL⟩
    · intro x hx
      have h1 := ha.len
      rcases List.mem_cons.1 hx with rfl | hx
      · omega
      · have := hmem x hx; omega
/-- full buckets are an assignment -/
theorem Stt.asg {hs : List (List Int)} {cap : Nat → Nat} {ls : List (List Int)} (h : Stt hs cap (upto hs.length) ls) : ∃ out, Asg hs cap out ∧ ∀ b x, x ∈ bk ls b → out[x.toNat]? = some (b : Int) := by
  have hn : ls.flatten.Nodup := h.perm.nodup_iff.2 (upto_nodup _)
  have huniq : ∀ b c x, x ∈ bk ls b → x ∈ bk ls c → b = c := by
    intro b c x hb hc
    refine Decidable.byContradiction fun hne => ?_
    have key : ∀ b c, b < c → x ∈ bk ls b → x ∈ bk ls c → False := by
      intro b c hlt hb hc
      have hcl : c < ls.length := Nat.lt_of_not_le fun hle => by rw [bk_out hle] at hc; simp at hc
      have e := flat_get ls c hcl
      rw [e] at hn
      rw [List.append_assoc] at hn
      have hd := (List.nodup_append.1 hn).2.2
      refine hd x ?_ x (List.mem_append_left _ (by rw [bk_eq hcl] at hc; exact hc)) rfl
      have hbl : b < ls.length := by omega
      rw [bk_eq hbl] at hb
      exact List.mem_flatten.2 ⟨ls[b], List.mem_take_iff_getElem.2 ⟨b, by omega, rfl⟩, hb⟩
    rcases Nat.lt_or_ge b c with h1 | h1
    · exact key b c h1 hb hc
    · exact key c b (by omega) hc hb
  have hex : ∀ i : Nat, i < hs.length → ∃ b : Nat, (i : Int) ∈ bk ls b := fun i hi => mem_flat.1 (h.perm.mem_iff.2 (upto_mem.2 (by omega)))
  let f : Nat → Nat := fun i => ((List.range ls.length).find? fun b => (bk ls b).contains (i : Int)).getD 0
  have hfs : ∀ i b : Nat, (i : Int) ∈ bk ls b → f i = b := by
    intro i b hb
    have hbl : b < ls.length := Nat.lt_of_not_le fun hle => by rw [bk_out hle] at hb; simp at hb
    show ((List.range ls.length).find? fun b => (bk ls b).contains (i : Int)).getD 0 = b
    cases hq : (List.range ls.length).find? fun b => (bk ls b).contains (i : Int) with
    | none =>
      rw [List.find?_eq_none] at hq
      have := hq b (List.mem_range.2 hbl)
      simp at this
      exact absurd hb this
    | some c =>
      have := List.find?_some hq
      simp only [List.contains_iff_mem] at this
      exact huniq c b _ this hb
  have hout : ∀ (b : Nat) (x : Int), x ∈ bk ls b → ((List.range hs.length).map fun i : Nat => (f i : Int))[x.toNat]? = some (b : Int) := by
    intro b x hx
    have hx0 := upto_mem.1 (h.perm.mem_iff.1 (mem_flat.2 ⟨b, hx⟩))
    have e : f x.toNat = b := hfs x.toNat b (by rw [show ((x.toNat : Nat) : Int) = x by omega]; exact hx)
    rw [List.getElem?_map, List.getElem?_range (by omega)]
    simp [e]
  refine ⟨(List.range hs.length).map fun i : Nat => (f i : Int), ⟨by simp, ?_, ?_⟩, hout⟩
  · intro i h1 h2
    obtain ⟨b, hb⟩ := hex i h2
    have h3 := hout b i hb
    rw [List.getElem?_eq_getElem (by simpa using h2)] at h3
    injection h3 with h3
    have h4 := h.home b i hb
    rw [hf_at h2] at h4
    rw [← h3] at h4
    exact h4
  · intro b
    refine Nat.le_trans ?_ (h.len b)
    rw [List.count_eq_countP, List.countP_map, List.countP_eq_length_filter]
    rw [← List.length_map (f := fun i : Nat => (i : Int))]
    refine nodup_len (nodup_map _ (fun a b h => by omega) (List.nodup_range.filter _)) ?_
    intro x hx
    obtain ⟨i, hi, rfl⟩ := List.mem_map.1 hx
    rw [List.mem_filter, List.mem_range] at hi
    obtain ⟨c, hc⟩ := hex i hi.1
    have h5 := hi.2
    simp only [Function.comp_apply, beq_iff_eq] at h5
    have h6 := hfs i c hc
    have : b = c := by omega
    subst this
    exact hc
/-- a beginning that can be gone on with -/
def Ext (hs : List (List Int)) (cap : Nat → Nat) (pre : List Int) : Prop := ∃ out, Asg hs cap out ∧ pre <+: out
/-- the first assignment: each item in the first of its homes with which the rest can still be placed -/
structure LexF (hs : List (List Int)) (cap : Nat → Nat) (out : List Int) : Prop where
  asg : Asg hs cap out
  first : ∀ i (h1 : i < out.length) (h2 : i < hs.length), ∃ k, ∃ hk : k < hs[i].length, hs[i][k] = out[i] ∧ ∀ k' (hk' : k' < k), ¬ Ext hs cap (out.take i ++ [hs[i][k']])
theorem LexF.uniq {hs : List (List Int)} {cap : Nat → Nat} {o1 o2 : List Int} (h : LexF hs cap o1) (k : LexF hs cap o2) : o1 = o2 := by
  have l1 := h.asg.len
  have l2 := k.asg.len
  have key : ∀ i, i ≤ hs.length → o1.take i = o2.take i := by
    intro i
    induction i with
    | zero => intro _; simp
    | succ i ih =>
      intro hi
      have e := ih (by omega)
      obtain ⟨k1, hk1, e1, f1⟩ := h.first i (by omega) (by omega)
      obtain ⟨k2, hk2, e2, f2⟩ := k.first i (by omega) (by omega)
      have t1 : o1.take (i + 1) = o1.take i ++ [hs[i][k1]] := by rw [List.take_succ_eq_append_getElem (by omega), e1]
      have t2 : o2.take (i + 1) = o2.take i ++ [hs[i][k2]] := by rw [List.take_succ_eq_append_getElem (by omega), e2]
      have : k1 = k2 := by
        rcases Nat.lt_trichotomy k1 k2 with h1 | h1 | h1
        · exact absurd ⟨o1, h.asg, by rw [← e, ← t1]; exact List.take_prefix _ _⟩ (f2 k1 h1)
        · exact h1
        · exact absurd ⟨o2, k.asg, by rw [e, ← t2]; exact List.take_prefix _ _⟩ (f1 k2 h1)
      subst this
      rw [t1, t2, e]
  have := key hs.length (Nat.le_refl _)
  rwa [List.take_of_length_le (by omega), List.take_of_length_le (by omega)] at this
end Go.Proofs.Ytllnomembakboaa

namespace Go.Proofs.Ytllnomembakboaa

/-- what is used of each bucket -/
def cnts (B : Nat) (out : List Int) : List Int := (List.range B).map fun b : Nat => (out.count (b : Int) : Int)
theorem cnts_len (B : Nat) (out : List Int) : (cnts B out).length = B := by simp [cnts]
theorem cnts_at {B : Nat} {out : List Int} {b : Nat} (_h : b < (cnts B out).length) : (cnts B out)[b] = (out.count (b : Int) : Int) := by simp [cnts]
theorem cnts_nil (B : Nat) : cnts B [] = List.replicate B 0 := by
  apply List.ext_getElem
  · simp [cnts]
  · intro i h1 h2; simp [cnts]
theorem cnts_up {B : Nat} {out : List Int} {b : Nat} (_h : b < B) : (cnts B out).set b ((out.count (b : Int) : Int) + 1) = cnts B (out ++ [(b : Int)]) := by
  apply List.ext_getElem
  · simp [cnts]
  · intro i h1 h2
    by_cases e : b = i
    · subst e; simp [cnts]
    · rw [List.getElem_set_ne e]
      simp only [cnts, List.getElem_map, List.getElem_range, List.count_append, List.count_singleton]
      rw [if_neg (by simp; omega)]
      simp
theorem cnts_cap (room B : Nat) (out : List Int) (h : ∀ x ∈ out, x < (B : Int)) : (fun b => room - ((cnts B out).getD b 0).toNat) = fun b : Nat => room - out.count (b : Int) := by
  funext b
  by_cases hb : b < B
  · rw [show (cnts B out).getD b 0 = (out.count (b : Int) : Int) by simp [cnts, hb]]
    simp
  · have : out.count (b : Int) = 0 := List.count_eq_zero.2 (fun hm => by have := h _ hm; omega)
    simp [cnts, hb, this]
theorem pre_get {pre out : List Int} (h : pre <+: out) {j : Nat} (hj : j < pre.length) : ∃ h2 : j < out.length, out[j] = pre[j] := by
  obtain ⟨t, rfl⟩ := h
  exact ⟨by simp; omega, by rw [List.getElem_append_left hj]⟩
/-- the rest of a beginning -/
theorem ext_iff {hs : List (List Int)} {room : Nat} {pre : List Int} (hl : pre.length ≤ hs.length) (hm : ∀ j (h1 : j < pre.length) (h2 : j < hs.length), pre[j] ∈ hs[j]) (hc : ∀ b : Nat, pre.count (b : Int) ≤ room) :
    Ext hs (fun _ => room) pre ↔ ∃ out, Asg (hs.drop pre.length) (fun b : Nat => room - pre.count (b : Int)) out := by
  constructor
  · rintro ⟨out, ha, t, rfl⟩
    have hlen := ha.len
    rw [List.length_append] at hlen
    refine ⟨t, by rw [List.length_drop]; omega, fun i h1 h2 => ?_, fun b => ?_⟩
    · rw [List.length_drop] at h2
      have := ha.mem (pre.length + i) (by rw [List.length_append]; omega) (by omega)
      rw [List.getElem_append_right (by omega)] at this
      rw [List.getElem_drop]
      simpa using this
    · have := ha.cnt b
      rw [List.count_append] at this
      omega
  · rintro ⟨t, ha⟩
    have hlen := ha.len
    rw [List.length_drop] at hlen
    refine ⟨pre ++ t, ⟨by rw [List.length_append]; omega, fun i h1 h2 => ?_, fun b => ?_⟩, t, rfl⟩
    · rcases Nat.lt_or_ge i pre.length with h | h
      · rw [List.getElem_append_left h]; exact hm i h h2
      · rw [List.getElem_append_right h]
        have := ha.mem (i - pre.length) (by rw [List.length_append] at h1; omega) (by rw [List.length_drop]; omega)
        rw [List.getElem_drop] at this
        simpa [show pre.length + (i - pre.length) = i by omega] using this
    · have h1 := ha.cnt b
      have h2 := hc b
      rw [List.count_append]
      omega
theorem Ext.cnt {hs : List (List Int)} {cap : Nat → Nat} {pre : List Int} (h : Ext hs cap pre) (b : Nat) : pre.count (b : Int) ≤ cap b := by
  obtain ⟨out, ha, hp⟩ := h
  exact Nat.le_trans (hp.sublist.count_le _) (ha.cnt b)
theorem Ext.mem {hs : List (List Int)} {cap : Nat → Nat} {pre : List Int} (h : Ext hs cap pre) : ∀ j (h1 : j < pre.length) (h2 : j < hs.length), pre[j] ∈ hs[j] := by
  intro j h1 h2
  obtain ⟨out, ha, hp⟩ := h
  obtain ⟨h3, h4⟩ := pre_get hp h1
  rw [← h4]
  exact ha.mem j h3 h2
theorem Ext.some {hs : List (List Int)} {cap : Nat → Nat} {pre : List Int} (h : Ext hs cap pre) (hi : pre.length < hs.length) : ∃ x ∈ hs[pre.length], Ext hs cap (pre ++ [x]) := by
  obtain ⟨out, ha, t, rfl⟩ := h
  have hlen := ha.len
  rw [List.length_append] at hlen
  cases t with
  | nil => simp at hlen; omega
  | cons x t =>
    refine ⟨x, ?_, pre ++ x :: t, ha, t, by simp⟩
    have := ha.mem pre.length (by rw [List.length_append]; simp) hi
    simpa using this
theorem Ext.nil {hs : List (List Int)} {cap : Nat → Nat} : Ext hs cap [] ↔ ∃ out, Asg hs cap out := ⟨fun ⟨out, ha, _⟩ => ⟨out, ha⟩, fun ⟨out, ha⟩ => ⟨out, ha, List.nil_prefix⟩⟩
/-- a beginning that is the first so far -/
structure Lex (hs : List (List Int)) (cap : Nat → Nat) (out : List Int) : Prop where
  ext : Ext hs cap out
  le : out.length ≤ hs.length
  first : ∀ i (h1 : i < out.length) (h2 : i < hs.length), ∃ k, ∃ hk : k < hs[i].length, hs[i][k] = out[i] ∧ ∀ k' (hk' : k' < k), ¬ Ext hs cap (out.take i ++ [hs[i][k']])
theorem Lex.nil {hs : List (List Int)} {cap : Nat → Nat} (h : ∃ out, Asg hs cap out) : Lex hs cap [] := ⟨Ext.nil.2 h, Nat.zero_le _, fun i h1 => by simp at h1⟩
theorem Lex.snoc {hs : List (List Int)} {cap : Nat → Nat} {out : List Int} (h : Lex hs cap out) (hi : out.length < hs.length) {k : Nat} (hk : k < hs[out.length].length) (he : Ext hs cap (out ++ [hs[out.length][k]])) (hf : ∀ x ∈ hs[out.length].take k, ¬ Ext hs cap (out ++ [x])) : Lex hs cap (out ++ [hs[out.length][k]]) := by
  refine ⟨he, by simp; omega, fun i h1 h2 => ?_⟩
  rcases Nat.lt_or_ge i out.length with h3 | h3
  · obtain ⟨k1, hk1, e1, f1⟩ := h.first i h3 h2
    refine ⟨k1, hk1, by rw [List.getElem_append_left h3]; exact e1, fun k' hk' => ?_⟩
    rw [List.take_append_of_le_length (by omega)]
    exact f1 k' hk'
  · have : i = out.length := by simp at h1; omega
    subst this
    refine ⟨k, hk, by simp, fun k' hk' => ?_⟩
    rw [List.take_left']
    · exact hf _ (List.mem_take_iff_getElem.2 ⟨k', by omega, rfl⟩)
    · rfl
theorem Lex.full {hs : List (List Int)} {cap : Nat → Nat} {out : List Int} (h : Lex hs cap out) (hl : out.length = hs.length) : LexF hs cap out := by
  obtain ⟨o2, ha, hp⟩ := h.ext
  have : out = o2 := hp.eq_of_length (by rw [hl, ha.len])
  subst this
  exact ⟨ha, h.first⟩
theorem Lex.all {hs : List (List Int)} {cap : Nat → Nat} {out : List Int} (h : Lex hs cap out) (hi : out.length < hs.length) (hf : ∀ x ∈ hs[out.length], ¬ Ext hs cap (out ++ [x])) : False := by
  obtain ⟨x, hx, he⟩ := h.ext.some hi
  exact hf x hx he
end Go.Proofs.Ytllnomembakboaa

namespace Go.Proofs.Ytllnomembakboaa

theorem flat_erase (x : Int) (ls : List (List Int)) (h : ls.flatten.Nodup) : (ls.map (·.erase x)).flatten = ls.flatten.erase x := by
  induction ls with
  | nil => rfl
  | cons l ls ih =>
    rw [List.flatten_cons, List.nodup_append] at h
    rw [List.map_cons, List.flatten_cons, List.flatten_cons, ih h.2.1]
    by_cases hx : x ∈ l
    · rw [List.erase_append_left _ hx, List.erase_of_not_mem (fun hm => h.2.2 x hx x hm rfl)]
    · rw [List.erase_append_right _ hx, List.erase_of_not_mem hx]
theorem bk_erase (x : Int) (ls : List (List Int)) (b : Nat) : bk (ls.map (·.erase x)) b = (bk ls b).erase x := by
  unfold bk
  rw [List.getD_eq_getElem?_getD, List.getD_eq_getElem?_getD, List.getElem?_map]
  cases ls[b]? <;> rfl
theorem Stt.erase {hs : List (List Int)} {cap : Nat → Nat} {L : List Int} {ls : List (List Int)} (h : Stt hs cap L ls) (hL : L.Nodup) (x : Int) : Stt hs cap (L.erase x) (ls.map (·.erase x)) := by
  refine ⟨?_, fun b => ?_, fun b y hy => ?_⟩
  · rw [flat_erase x ls (h.perm.nodup_iff.2 hL)]
    exact h.perm.erase x
  · rw [bk_erase]
    exact Nat.le_trans List.length_erase_le (h.len b)
  · rw [bk_erase] at hy
    exact h.home b y (List.mem_of_mem_erase hy)
theorem Stt.uniq {hs : List (List Int)} {cap : Nat → Nat} {L : List Int} {ls : List (List Int)} (h : Stt hs cap L ls) (hL : L.Nodup) {b c : Nat} {x : Int} (hb : x ∈ bk ls b) (hc : x ∈ bk ls c) : b = c := by
  have hn : ls.flatten.Nodup := h.perm.nodup_iff.2 hL
  have key : ∀ b c, b < c → x ∈ bk ls b → x ∈ bk ls c → False := by
    intro b c hlt hb hc
    have hcl : c < ls.length := Nat.lt_of_not_le fun hle => by rw [bk_out hle] at hc; simp at hc
    have e := flat_get ls c hcl
    rw [e, List.append_assoc] at hn
    have hd := (List.nodup_append.1 hn).2.2
    have hbl : b < ls.length := by omega
    rw [bk_eq hbl] at hb
    exact hd x (List.mem_flatten.2 ⟨ls[b], List.mem_take_iff_getElem.2 ⟨b, by omega, rfl⟩, hb⟩) x (List.mem_append_left _ (by rw [bk_eq hcl] at hc; exact hc)) rfl
  rcases Nat.lt_trichotomy b c with h1 | h1 | h1
  · exact (key b c h1 hb hc).elim
  · exact h1
  · exact (key c b h1 hc hb).elim
theorem Stt.nodup {hs : List (List Int)} {cap : Nat → Nat} {L : List Int} {ls : List (List Int)} (h : Stt hs cap L ls) (hL : L.Nodup) (b : Nat) : (bk ls b).Nodup := by
  by_cases hb : b < ls.length
  · have hn : ls.flatten.Nodup := h.perm.nodup_iff.2 hL
    rw [flat_get ls b hb, List.append_assoc] at hn
    rw [bk_eq hb]
    exact (List.nodup_append.1 (List.nodup_append.1 hn).2.1).1
  · rw [bk_out (by omega)]; simp
/-- an item settled -/
structure SetT (hs : List (List Int)) (cap : Nat → Nat) (i bn : Nat) (ls ls' : List (List Int)) : Prop where
  st : Stt hs cap (upto hs.length) ls'
  here : (i : Int) ∈ bk ls' bn
  keep : ∀ (c : Nat) (x : Int), x < (i : Int) → x ∈ bk ls c → x ∈ bk ls' c
theorem settle_true {hs : List (List Int)} {cap : Nat → Nat} {ls ls' : List (List Int)} {i bn : Nat} (h : Stt hs cap (upto hs.length) ls) (hi : i < hs.length) (hb : (bn : Int) ∈ hf hs (i : Int))
    (k : PutT cap (fun x => ((i + 1 : Nat) : Int) ≤ x) (hf hs) (ls.map (·.erase (i : Int))) ls' (i : Int) [(bn : Int)]) : SetT hs cap i bn ls ls' := by
  have hn := upto_nodup hs.length
  have hm : (i : Int) ∈ upto hs.length := upto_mem.2 (by omega)
  have h1 := h.erase hn (i : Int)
  have h2 := h1.put k (fun x hx => by simp at hx; subst hx; exact hb)
  have h3 : Stt hs cap (upto hs.length) ls' := h2.re (List.perm_cons_erase hm).symm
  refine ⟨h3, ?_, fun c x hx hxc => ?_⟩
  · obtain ⟨c, hc⟩ := mem_flat.1 (h3.perm.mem_iff.2 hm)
    rcases k.home c _ hc with e | ⟨_, e⟩ | ⟨e, _⟩
    · rw [bk_erase] at e
      exact absurd e (fun e => (List.Nodup.not_mem_erase (h.nodup hn c)) e)
    · simp at e
      have e : c = bn := by omega
      rw [← e]; exact hc
    · omega
  · refine k.fix c x ?_ (by omega)
    rw [bk_erase]
    exact (List.mem_erase_of_ne (by omega)).2 hxc
theorem settle_false {hs : List (List Int)} {cap : Nat → Nat} {ls : List (List Int)} {i bn B : Nat} {sn' : List Bool} (h : Stt hs cap (upto hs.length) ls) (hi : i < hs.length) (hB : ls.length = B) (hpos : ∀ l ∈ hs, ∀ x ∈ l, 0 ≤ x)
    (k : PutF cap (fun x => ((i + 1 : Nat) : Int) ≤ x) (hf hs) (ls.map (·.erase (i : Int))) (List.replicate B false) sn') (hsl : sn'.length = B) (hh : sn'[bn]? = some true)
    (out : List Int) (ha : Asg hs cap out) (hit : out[i]? = some (bn : Int)) (hfx : ∀ (c : Nat) (x : Int), x < (i : Int) → x ∈ bk ls c → out[x.toNat]? = some (c : Int)) : False := by
  have hn := upto_nodup hs.length
  refine no_asg (homes := [(bn : Int)]) (h.erase hn (i : Int)) (hn.erase _) (fun x hx => by have := upto_mem.1 (List.mem_of_mem_erase hx); omega) hi (List.Nodup.not_mem_erase hn) (by simpa using hB) k hsl (fun x hx => by simp at hx; subst hx; simpa using hh) hpos out ha ⟨_, List.mem_singleton.2 rfl, hit⟩ (fun b x hx hnm => ?_)
  rw [bk_erase] at hx
  have hne : x ≠ (i : Int) := fun e => by subst e; exact List.Nodup.not_mem_erase (h.nodup hn b) hx
  exact hfx b x (by omega) (List.mem_of_mem_erase hx)
/-- the first items are settled so -/
def Set (ls : List (List Int)) (out : List Int) : Prop := ∀ (j : Nat) (h : j < out.length), ∃ b : Nat, out[j] = (b : Int) ∧ (j : Int) ∈ bk ls b
theorem Set.snoc {hs : List (List Int)} {cap : Nat → Nat} {ls ls' : List (List Int)} {out : List Int} {bn : Nat} (h : Set ls out) (k : SetT hs cap out.length bn ls ls') : Set ls' (out ++ [(bn : Int)]) := by
  intro j hj
  rcases Nat.lt_or_ge j out.length with h1 | h1
  · obtain ⟨b, e, hb⟩ := h j h1
    exact ⟨b, by rw [List.getElem_append_left h1]; exact e, k.keep b j (by omega) hb⟩
  · have e : j = out.length := by simp at hj; omega
    subst e
    exact ⟨bn, by simp, k.here⟩
theorem Set.ext {hs : List (List Int)} {cap : Nat → Nat} {ls : List (List Int)} {out : List Int} (h : Stt hs cap (upto hs.length) ls) (hl : out.length ≤ hs.length) (k : Set ls out) : Ext hs cap out := by
  obtain ⟨o, ha, hb⟩ := h.asg
  refine ⟨o, ha, ?_⟩
  rw [List.prefix_iff_eq_take]
  apply List.ext_getElem
  · have := ha.len; simp; omega
  · intro j h1 h2
    obtain ⟨b, e, hj⟩ := k j h1
    have h3 := hb b j hj
    have h4 : j < o.length := by have := ha.len; omega
    rw [Int.toNat_natCast, List.getElem?_eq_getElem h4] at h3
    injection h3 with h3
    rw [List.getElem_take, h3, e]
theorem Set.not_ext {hs : List (List Int)} {cap : Nat → Nat} {ls : List (List Int)} {out : List Int} {bn : Nat} (h : Stt hs cap (upto hs.length) ls) (k : Set ls out)
    (hno : ∀ o, Asg hs cap o → o[out.length]? = some (bn : Int) → (∀ (c : Nat) (x : Int), x < (out.length : Int) → x ∈ bk ls c → o[x.toNat]? = some (c : Int)) → False) : ¬ Ext hs cap (out ++ [(bn : Int)]) := by
  rintro ⟨o, ha, hp⟩
  refine hno o ha ?_ (fun c x hx hxc => ?_)
  · obtain ⟨h2, h3⟩ := pre_get hp (j := out.length) (by simp)
    rw [List.getElem?_eq_getElem h2, h3]
    simp
  · have hxr := upto_mem.1 (h.perm.mem_iff.1 (mem_flat.2 ⟨c, hxc⟩))
    have hjl : x.toNat < out.length := by omega
    obtain ⟨b, e, hj⟩ := k x.toNat hjl
    obtain ⟨h2, h3⟩ := pre_get hp (j := x.toNat) (by simp; omega)
    rw [List.getElem_append_left hjl, e] at h3
    have hx' : ((x.toNat : Nat) : Int) = x := by omega
    rw [hx'] at hj
    have := h.uniq (upto_nodup _) hj hxc
    rw [List.getElem?_eq_getElem h2, h3, this]
end Go.Proofs.Ytllnomembakboaa
