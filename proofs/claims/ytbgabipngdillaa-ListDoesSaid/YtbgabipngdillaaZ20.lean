/- Joined: Az Dr Ds Rt Ga Up Kp Ss Dv Un St. -/
import Derived.Lib.AppendZerosOnto
import Derived.Lib.SliceRun
import Derived.Deep.RegionHeld3
import Derived.Deep.RegionWith
import Derived.Deep.Cut
import Derived.Deep.DeepCutAuto
import Derived.Deep.RegionLaw
import Derived.Lib.Hide
import Derived.BigRegion
import Derived.Deep.QuietTactic
import Derived.BigQuiet
import Derived.Stop.Asserts
import Derived.LaidEql
import Derived.RowKitTokens
import Derived.Laws.EntriesVeiled
import Derived.Sort.OwnSortedInts
import Derived.Lib.SlicesCompact
import Derived.Test.YtbgabipngdillaaZ02
import Derived.Test.YtbgabipngdillaaZ01
import Derived.Test.YtbgabipngdillaaZ05
import Derived.Test.YtbgabipngdillaaZ04
import Derived.Test.YtbgabipngdillaaZ03
import Derived.Test.YtbgabipngdillaaZ07
import Derived.Test.YtbgabipngdillaaZ06
namespace Go.Proofs.Ytbgabipngdillaa
open Go.RowKit

theorem zero_cells (k : Nat) : (Builtin.zeroCells (Value.int .i64 0).cells k).toList = List.replicate k (Value.int .i64 0) := by
  have hz : (Value.int .i64 0).cells = #[Value.int .i64 0] := rfl
  rw [hz]
  simp only [Builtin.zeroCells, Array.toList_map, Array.toList_range]
  apply List.ext_getElem
  · simp
  · intro i h1 h2
    simp [Nat.mod_one]
theorem zero_cells' (k : Nat) : Builtin.zeroCells (Value.int .i64 0).cells k = (List.replicate k (Value.int .i64 0)).toArray := by
  rw [← zero_cells]
theorem run_append_zeros {P : Program} (w : World) (base : Nat) (t tn ty e : TypeId) (ht : P.underlying t = some (.slice e)) (htn : P.underlying tn = some (.int .i64)) (hinfo : (P.info? e).map (fun i => (i.zero, i.size, i.bytes)) = some (some (.int .i64 0), 1, 8))
    (v : Value) (n : Nat) (xs : List Value) (hown : w.ownsRow base e 1 v n xs) (k : Nat) (hb : n + k ≤ 1000000000) (hbase : base ≤ w.heap.size) :
    ∃ v' w', (Builtin.append_ #[t, tn] ty #[v, .int .i64 k]).run P w = .ok v' w' ∧ w'.ownsRow base e 1 v' (n + k) (xs ++ List.replicate k (.int .i64 0)) ∧ w.grownBy w' v.ownBlock := by
  obtain ⟨i, hi, hz, hs, hby⟩ := info_parts hinfo
  have hlen : (xs ++ List.replicate k (Value.int .i64 0)).length = (n + k) * 1 := by rw [List.length_append, hown.1]; simp
  have grown : ∀ (old : Nat) (row : Option Nat), (w.drew.alloc (.cells (xs.toArray ++ (List.replicate k (Value.int .i64 0)).toArray ++ (List.replicate (grownCap w (n + k) old e - (n + k)) (Value.int .i64 0)).toArray) e)).ownsRow base e 1
        (.slice (some ⟨w.heap.size, 0, none⟩) (n + k) (grownCap w (n + k) old e)) (n + k) (xs ++ List.replicate k (.int .i64 0)) ∧
      w.grownBy (w.drew.alloc (.cells (xs.toArray ++ (List.replicate k (Value.int .i64 0)).toArray ++ (List.replicate (grownCap w (n + k) old e - (n + k)) (Value.int .i64 0)).toArray) e)) row := by
    intro old row
    have hge := grownCap_ge w (n + k) old e
    have hcm : grownCap w (n + k) old e ≤ maxLen := grownCap_le_maxLen w (n + k) old e (by unfold maxLen; omega)
    refine ⟨⟨hlen, .inr ⟨w.heap.size, _, _, rfl, hbase, heap_alloc_new w.drew _, hge, hcm, ?_, ?_⟩⟩, ⟨rfl, rfl, rfl, by simp, fun j hj _ => Below.heap_alloc w.drew _ j hj⟩⟩
    · have := hown.1
      simp only [Array.size_append, List.size_toArray, List.length_replicate]
      omega
    · simp only [Array.toList_append, List.append_assoc]
      rw [← List.append_assoc, ← hlen]
      exact List.take_left
  have hwk : IntKind.i64.wrap (k : Int) = k := by rw [IntKind.wrap_i64]; omega
  have hw0 : IntKind.i64.wrap 0 = 0 := by rw [IntKind.wrap_i64]; omega
  rcases hown.2 with ⟨rfl, rfl⟩ | ⟨g, cap, cur, rfl, hbg, hg, hnc, hcm, hcs, htake⟩
  · have hx : xs = [] := List.eq_nil_of_length_eq_zero (by simpa using hown.1)
    subst hx
    rcases Nat.eq_zero_or_pos k with h0 | h0
    · subst h0
      refine ⟨.slice none 0 0, w, ?_, by simpa using World.ownsRow_nil w base e 1, ⟨rfl, rfl, rfl, Nat.le_refl _, fun _ _ _ => rfl⟩⟩
      simp [Builtin.append_, run_underlying ht, run_underlying htn, sizeOf, typeInfo, zeroValue, hi, hz, asInt, asIntOf, hw0]
    · have hr := Lib.run_append_nil_zeros (P := P) w t tn ty e i (.int .i64 0) .i64 .i64 ht htn hi hz k h0 (by omega) (by omega) (by rw [hby]; omega)
      have hgr := grown 0 (Value.ownBlock (.slice none 0 0))
      rw [zero_cells', zero_cells'] at hr
      simp only [Nat.zero_add, List.nil_append, Array.empty_append] at hgr ⊢
      exact ⟨_, _, hr, hgr.1, hgr.2⟩
  · by_cases hroom : n + k ≤ cap
    · have hfit : n * i.size + (List.replicate k (Value.int .i64 0)).length ≤ cur.size := by rw [hs, hcs]; simp; omega
      have hst := run_storeCells_at P g (n * i.size) e (List.replicate k (Value.int .i64 0)) 0 cur w hg (by simpa using hfit) (by intro u hu; rw [(List.mem_replicate.1 hu).2]; rfl)
      simp only [Nat.add_zero] at hst
      have hneg : ¬ ((k : Int) < 0) := by omega
      have h48i : ¬ (281474976710656 < (k : Int) * (i.bytes : Int)) := by rw [hby]; omega
      have hr : (Builtin.append_ #[t, tn] ty #[.slice (some ⟨g, 0, none⟩) n cap, .int .i64 k]).run P w = .ok (.slice (some ⟨g, 0, none⟩) (n + k) cap) (w.setRow g (cur.toList.take (n * i.size) ++ List.replicate k (Value.int .i64 0) ++ cur.toList.drop (n * i.size + (List.replicate k (Value.int .i64 0)).length)).toArray) := by
        by_cases hk0 : k = 0
        · subst hk0
          simp only [List.replicate_zero] at hst
          simp [Builtin.append_, run_underlying ht, run_underlying htn, sizeOf, typeInfo, zeroValue, hi, hz, asInt, asIntOf, hw0, hnc, Addr.add_lit]
          have hst' : Sem.run P (storeCells ⟨g, n * i.size, none⟩ []) w = Result.ok () (w.setRow g cur) := by simpa using hst
          simp [hst']
        · have hks : ¬ (k * i.size = 0) := Nat.mul_ne_zero hk0 (by omega)
          simp [Builtin.append_, run_underlying ht, run_underlying htn, sizeOf, typeInfo, zeroValue, hi, hz, asInt, asIntOf, hwk, hneg, h48i, hks, hroom, Addr.add_lit, zero_cells', hst]
      refine ⟨_, _, hr, ⟨hlen, .inr ⟨g, cap, _, rfl, hbg, setRow_heap w g cur _ e _ hg, hroom, hcm, ?_, ?_⟩⟩, ⟨rfl, rfl, rfl, by simp, fun k _ hk => setRow_other w g k _ (fun e => hk (by simp [Value.ownBlock, e]))⟩⟩
      · simp only [List.size_toArray, List.length_append, List.length_take, List.length_drop, Array.length_toList]
        rw [hs] at hfit ⊢
        omega
      · rw [hs, htake, ← hlen]
        exact List.take_left
    · have holds : ∀ j u, xs[j]? = some u → w.cell? ((⟨g, 0, none⟩ : Addr).add j) = some u := hown.cells (g := g) rfl
      have hf := run_firstCells_some (P := P) w.drew i.size n ⟨g, 0, none⟩ n cap xs (by rw [hs]; exact hown.1) (by simpa using holds)
      have hr := Lib.run_append_grow_zeros (P := P) w t tn ty e i (.int .i64 0) .i64 .i64 ht htn hi hz (some ⟨g, 0, none⟩) n cap xs hf k (by omega) (by omega) (by omega) (by omega) (by rw [hby]; omega) (growslice_fits (by omega) (by rw [hby]; omega))
      rw [zero_cells', zero_cells'] at hr
      have hgr := grown cap (Value.ownBlock (.slice (some ⟨g, 0, none⟩) n cap))
      exact ⟨_, _, hr, hgr.1, hgr.2⟩
theorem wpList_append_zeros {P : Program} (w : World) {ops : Array Oper} {rest : List Oper} {o : Oper} {a : Act} {Q : Exit → Act → World → Prop} (hgd : o.guard = none) (s x : Operand) (t tn : TypeId)
    (ho : o.op = .call { callee := .builtin .append, args := #[s, x], argTypes := #[t, tn] })
    (base : Nat) (e : TypeId) (ht : P.underlying t = some (.slice e)) (htn : P.underlying tn = some (.int .i64)) (hinfo : (P.info? e).map (fun i => (i.zero, i.size, i.bytes)) = some (some (.int .i64 0), 1, 8))
    (v : Value) (xs : List Int) (hs : a.eval s = v) (hown : w.ownsRow base e 1 v xs.length (xs.map (Value.int .i64))) (k : Nat) (hx : a.eval x = .int .i64 k) (hb : xs.length + k ≤ 1000000000) (hbase : base ≤ w.heap.size)
    (h : ∀ v' w', w'.ownsRow base e 1 v' (xs ++ List.replicate k 0).length ((xs ++ List.replicate k 0).map (Value.int .i64)) → w.grownBy w' v.ownBlock → wpList P ops Q rest (a.put o.dst v') w') : wpList P ops Q (o :: rest) a w := by
  obtain ⟨v', w', hr, h1, h2⟩ := run_append_zeros (P := P) w base t tn o.type e ht htn hinfo v _ _ hown k hb hbase
  exact Lib.wpList_append_run w hgd s x t tn ho _ _ hs hx v' w' hr (h v' w' (by simpa using h1) h2)
end Go.Proofs.Ytbgabipngdillaa

namespace Go.Proofs.Ytbgabipngdillaa
open Go.RowKit

theorem own_sl {w : World} {base e size n : Nat} {v : Value} {xs : List Value} (h : w.ownsRow base e size v n xs) : ∃ A c, v = .slice A n c := by
  rcases h.2 with ⟨rfl, rfl⟩ | ⟨g, cap, cur, rfl, _⟩
  · exact ⟨_, _, rfl⟩
  · exact ⟨_, _, rfl⟩
end Go.Proofs.Ytbgabipngdillaa

namespace Go.Proofs.Ytbgabipngdillaa
open Go.RowKit

theorem own_lo {w : World} {base base' e size n : Nat} {v : Value} {xs : List Value} (h : w.ownsRow base e size v n xs) (hb : base' ≤ base) : w.ownsRow base' e size v n xs := by
  refine ⟨h.1, ?_⟩
  rcases h.2 with hn | ⟨g, cap, cur, rfl, hbg, rest⟩
  · exact .inl hn
  · exact .inr ⟨g, cap, cur, rfl, by omega, rest⟩
end Go.Proofs.Ytbgabipngdillaa

namespace Go.Proofs.Ytbgabipngdillaa

/-- the value, in the integers -/
def ez (l : List Int) (x : Int) : Int := l.foldr (fun c s => c + x * s) 0
theorem ez_nil (x : Int) : ez [] x = 0 := rfl
theorem ez_cons (c : Int) (l : List Int) (x : Int) : ez (c :: l) x = c + x * ez l x := rfl
theorem val_ez {P : Int} (l : List Int) (x : Int) : val P l x = ez l x % P := by
  induction l with
  | nil => simp [val, ez]
  | cons c l ih =>
    show (val P l x * x + c) % P = _
    rw [ih, ez_cons, Int.add_emod, Int.mul_emod, Int.emod_emod, ← Int.mul_emod, ← Int.add_emod, Int.mul_comm, Int.add_comm]
/-- all coefficients are 0 modulo P -/
def az (P : Int) (l : List Int) : Prop := ∀ c ∈ l, P ∣ c
theorem az_cons {P c : Int} {l : List Int} : az P (c :: l) ↔ P ∣ c ∧ az P l := by simp [az]
/-- synthetic division by x - a -/
def sd : List Int → Int → List Int
  | [], _ => []
  | _ :: l, a => if l = [] then [] else ez l a :: sd l a
theorem sd_len (l : List Int) (a : Int) : (sd l a).length = l.length - 1 := by
  induction l with
  | nil => rfl
  | cons c l ih =>
    unfold sd
    split
    · rename_i h; subst h; rfl
    · rename_i h
      have : l.length ≠ 0 := fun e => h (List.eq_nil_of_length_eq_zero e)
      simp only [List.length_cons, ih]; omega
theorem sd_ez (l : List Int) (a x : Int) : ez l x = (x - a) * ez (sd l a) x + ez l a := by
  induction l with
  | nil => simp [ez, sd]
  | cons c l ih =>
    unfold sd
    split
    · rename_i h; subst h; simp [ez]
    · rw [ez_cons, ez_cons, ez_cons, ih]
      rw [Int.mul_add, Int.mul_add, Int.mul_left_comm (x - a) x]
      have : x * ez l a = (x - a) * ez l a + a * ez l a := by rw [← Int.add_mul]; congr 1; omega
      rw [this]
      omega
theorem sd_az {P a : Int} {l : List Int} (h : az P (sd l a)) (h0 : P ∣ ez l a) : az P l := by
  induction l with
  | nil => intro c hc; simp at hc
  | cons c l ih =>
    unfold sd at h
    split at h
    · rename_i e; subst e
      rw [az_cons]
      refine ⟨?_, fun c hc => by simp at hc⟩
      simpa [ez] using h0
    · obtain ⟨h1, h2⟩ := az_cons.1 h
      rw [az_cons]
      refine ⟨?_, ih h2 h1⟩
      rw [ez_cons] at h0
      have := Int.dvd_sub h0 (Int.dvd_mul_of_dvd_right h1 : P ∣ a * ez l a)
      have e : c + a * ez l a - a * ez l a = c := by omega
      rwa [e] at this
/-- a polynomial with as many different roots as its length is 0 -/
theorem roots {P : Int} (hp : prB P = true) : ∀ (X : List Int) (l : List Int), l.length ≤ X.length → X.Pairwise (fun a b => ¬ P ∣ a - b) → (∀ x ∈ X, P ∣ ez l x) → az P l := by
  intro X
  induction X with
  | nil =>
    intro l hl _ _
    have : l = [] := List.eq_nil_of_length_eq_zero (by simpa using hl)
    subst this
    intro c hc; simp at hc
  | cons a X ih =>
    intro l hl hX h
    rw [List.pairwise_cons] at hX
    have ha := h a (by simp)
    refine sd_az (a := a) (ih (sd l a) ?_ hX.2 ?_) ha
    · rw [sd_len]; simp at hl; omega
    · intro x hx
      have hx0 := h x (by simp [hx])
      rw [sd_ez l a x] at hx0
      have h1 := Int.dvd_sub hx0 ha
      have e : (x - a) * ez (sd l a) x + ez l a - ez l a = (x - a) * ez (sd l a) x := by omega
      rw [e] at h1
      rcases pr_euclid hp _ _ h1 with h2 | h2
      · exfalso
        apply hX.1 x hx
        have := Int.dvd_neg.2 h2
        have e2 : -(x - a) = a - x := by omega
        rwa [e2] at this
      · exact h2

/-- sums, multiples, products -/
def az_add : List Int → List Int → List Int
  | [], m => m
  | l, [] => l
  | c :: l, d :: m => (c + d) :: az_add l m
theorem add_len (l m : List Int) : (az_add l m).length = max l.length m.length := by
  induction l generalizing m with
  | nil => cases m <;> simp [az_add]
  | cons c l ih => cases m with
    | nil => simp [az_add]
    | cons d m => simp [az_add, ih]
theorem add_ez (l m : List Int) (x : Int) : ez (az_add l m) x = ez l x + ez m x := by
  induction l generalizing m with
  | nil => cases m <;> simp [az_add, ez]
  | cons c l ih => cases m with
    | nil => simp [az_add, ez]
    | cons d m =>
      simp only [az_add, ez_cons, ih, Int.mul_add]; omega
def zmul (a : Int) (l : List Int) : List Int := l.map (a * ·)
theorem zmul_len (a : Int) (l : List Int) : (zmul a l).length = l.length := by simp [zmul]
theorem zmul_ez (a : Int) (l : List Int) (x : Int) : ez (zmul a l) x = a * ez l x := by
  induction l with
  | nil => simp [zmul, ez]
  | cons c l ih =>
    have : zmul a (c :: l) = (a * c) :: zmul a l := rfl
    rw [this, ez_cons, ez_cons, ih, Int.mul_add, Int.mul_left_comm]
end Go.Proofs.Ytbgabipngdillaa

namespace Go.Proofs.Ytbgabipngdillaa

theorem dvl {P a k : Int} (h : P ∣ a) : P ∣ a * k := by obtain ⟨q, rfl⟩ := h; exact ⟨q * k, by rw [Int.mul_assoc]⟩
theorem dvr {P a k : Int} (h : P ∣ a) : P ∣ k * a := by rw [Int.mul_comm]; exact dvl h
theorem mod_dvd' (P a : Int) : P ∣ a - a % P := ⟨a / P, by have := Int.mul_ediv_add_emod a P; omega⟩
def sm : Nat → (Nat → Int) → Int
  | 0, _ => 0
  | n + 1, f => sm n f + f n
theorem sm_ext {n : Nat} {f g : Nat → Int} (h : ∀ k < n, f k = g k) : sm n f = sm n g := by
  induction n with
  | zero => rfl
  | succ n ih => simp only [sm]; rw [ih fun k hk => h k (by omega), h n (by omega)]
theorem sm_lin {P a : Int} {n : Nat} {f g h : Nat → Int} (e : ∀ k < n, P ∣ f k - (g k + a * h k)) : P ∣ sm n f - (sm n g + a * sm n h) := by
  induction n with
  | zero => exact ⟨0, by simp [sm]⟩
  | succ n ih =>
    have h1 := ih fun k hk => e k (by omega)
    have h2 := e n (by omega)
    have h3 := Int.dvd_add h1 h2
    simp only [sm]
    have e3 : sm n f - (sm n g + a * sm n h) + (f n - (g n + a * h n)) = sm n f + f n - (sm n g + g n + a * (sm n h + h n)) := by rw [Int.mul_add]; omega
    rwa [e3] at h3
end Go.Proofs.Ytbgabipngdillaa

namespace Go.Proofs.Ytbgabipngdillaa

theorem sm_split (n m : Nat) (f : Nat → Int) : sm (n + m) f = sm n f + sm m (fun j => f (n + j)) := by
  induction m with
  | zero => simp [sm]
  | succ m ih => rw [← Nat.add_assoc]; simp only [sm]; rw [ih]; omega
theorem sm_shift (n : Nat) (f : Nat → Int) : sm (n + 1) f = f 0 + sm n (fun j => f (j + 1)) := by
  rw [Nat.add_comm, sm_split]
  simp only [sm]
  have : (fun j => f (1 + j)) = fun j => f (j + 1) := by funext j; rw [Nat.add_comm]
  rw [this]; omega
theorem sm_scale (a : Int) (n : Nat) (f : Nat → Int) : sm n (fun j => a * f j) = a * sm n f := by
  induction n with
  | zero => simp [sm]
  | succ n ih => simp only [sm, ih, Int.mul_add]
theorem ez_sm (l : List Int) (x : Int) : ez l x = sm l.length fun j => gd l j * x ^ j := by
  induction l with
  | nil => rfl
  | cons c l ih =>
    rw [ez_cons, List.length_cons, sm_shift, ih]
    have h0 : gd (c :: l) 0 * x ^ 0 = c := by simp [gd]
    rw [h0]
    congr 1
    rw [← sm_scale]
    refine sm_ext fun k _ => ?_
    have : gd (c :: l) (k + 1) = gd l k := by simp [gd]
    rw [this, Int.pow_succ, Int.mul_left_comm, Int.mul_comm x]
theorem mod_dvd (P a : Int) : P ∣ a % P - a := by
  have : P ∣ a - a % P := mod_dvd' _ _
  have h := Int.dvd_neg.2 this
  have e : -(a - a % P) = a % P - a := by omega
  rwa [e] at h
theorem dvd_of_eq' {P a b : Int} (h : P ∣ a) (e : a = b) : P ∣ b := e ▸ h
theorem val_dvd {P y : Int} {p : List Int} {x : Int} (h : val P p x = y) : P ∣ ez p x - y := by
  rw [val_ez] at h
  rw [← h]
  have := Int.dvd_neg.2 (mod_dvd P (ez p x))
  exact dvd_of_eq' this (by omega)
theorem add_gd (l m : List Int) (k : Nat) : gd (az_add l m) k = gd l k + gd m k := by
  induction l generalizing m k with
  | nil => cases m <;> simp [az_add, gd]
  | cons c l ih => cases m with
    | nil => simp [az_add, gd]
    | cons d m => cases k with
      | zero => simp [az_add, gd]
      | succ k => have := ih m k; simpa [az_add, gd] using this
theorem zmul_gd (a : Int) (l : List Int) (k : Nat) : gd (zmul a l) k = a * gd l k := by
  unfold gd zmul
  rw [List.getElem?_map]
  cases l[k]? <;> simp
theorem ez_app (l m : List Int) (x : Int) : ez (l ++ m) x = ez l x + x ^ l.length * ez m x := by
  induction l with
  | nil => simp [ez]
  | cons c l ih =>
    rw [List.cons_append, ez_cons, ez_cons, ih, List.length_cons, Int.pow_succ, Int.mul_add, Int.mul_comm (x ^ l.length) x, Int.mul_assoc]; omega
theorem ez_zeros (n : Nat) (x : Int) : ez (zeros n) x = 0 := by
  unfold zeros
  induction n with
  | zero => rfl
  | succ n ih => rw [List.replicate_succ, ez_cons, ih]; simp
theorem pts_roots {P : Int} (hp : prB P = true) {K : List (Int × Int)} (hK : K.Pairwise fun a b => ¬ P ∣ a.1 - b.1) (l : List Int) (hl : l.length ≤ K.length) (h : ∀ t ∈ K, P ∣ ez l t.1) : az P l := by
  refine roots hp (K.map Prod.fst) l (by simpa using hl) ?_ ?_
  · rw [List.pairwise_map]; exact hK
  · intro x hx
    obtain ⟨t, ht, rfl⟩ := List.mem_map.1 hx
    exact h t ht
theorem az_gd {P : Int} {l : List Int} (h : az P l) (k : Nat) : P ∣ gd l k := by
  by_cases hk : k < l.length
  · rw [gd_lt hk]; exact h _ (List.getElem_mem hk)
  · rw [gd_ge (by omega)]; exact ⟨0, by simp⟩
theorem trim_same {p q : List Int} (hp : trim p = p) (hq : trim q = q) (h : ∀ k, gd p k = gd q k) : p = q := by
  have key : ∀ (p q : List Int), (∀ k, gd p k = gd q k) → trim p = trim q := by
    intro p
    induction p with
    | nil =>
      intro q h
      exact (trim_zeros fun k => by rw [← h k]; simp [gd]).symm
    | cons c p ih =>
      intro q h
      cases q with
      | nil => exact trim_zeros fun k => by rw [h k]; simp [gd]
      | cons d q =>
        have h0 : c = d := by have := h 0; simpa [gd] using this
        have h1 := ih q fun k => by have := h (k + 1); simpa [gd] using this
        rw [trim_cons, trim_cons, h0, h1]
  rw [← hp, ← hq]
  exact key p q h
theorem els_cong {P : Int} {p q : List Int} (hP : 2 ≤ P) (hp : els P p = true) (hq : els P q = true) (h : ∀ k, P ∣ gd p k - gd q k) : ∀ k, gd p k = gd q k := by
  intro k
  have h1 := el_t (els_gd hP hp k)
  have h2 := el_t (els_gd hP hq k)
  have h3 := Int.emod_emod_of_dvd (gd p k) (Int.dvd_refl P)
  have h4 := Int.emod_eq_emod_iff_emod_sub_eq_zero.2 (Int.emod_eq_zero_of_dvd (h k))
  rw [Int.emod_eq_of_lt h1.1 h1.2, Int.emod_eq_of_lt h2.1 h2.2] at h4
  exact h4
end Go.Proofs.Ytbgabipngdillaa

namespace Go.Proofs.Ytbgabipngdillaa
open Go.RowKit

theorem dvd_pow (P b : Int) : ∀ m : Nat, P ∣ (b % P) ^ m - b ^ m
  | 0 => ⟨0, by simp⟩
  | m + 1 => by
    rw [Int.pow_succ, Int.pow_succ]
    have h1 := dvl (k := b % P) (dvd_pow P b m)
    have h2 := dvr (k := b ^ m) (mod_dvd P b)
    refine dvd_of_eq' (Int.dvd_add h1 h2) ?_
    rw [Int.sub_mul, Int.mul_sub]; omega
theorem pw_even (P x a : Int) (m : Nat) : P ∣ x * (a * a % P) ^ m - x * a ^ (2 * m) := by
  have h := dvr (k := x) (dvd_pow P (a * a) m)
  have e : (a * a) ^ m = a ^ (2 * m) := by rw [Int.pow_mul]; congr 1; rw [Int.pow_succ, Int.pow_succ, Int.pow_zero, Int.one_mul]
  rw [e] at h
  refine dvd_of_eq' h ?_
  rw [Int.mul_sub]
theorem pw_odd (P x a : Int) (m : Nat) : P ∣ (x * a % P) * (a * a % P) ^ m - x * a ^ (2 * m + 1) := by
  have h1 := pw_even P (x * a % P) a m
  have h2 := dvl (k := a ^ (2 * m)) (mod_dvd P (x * a))
  refine dvd_of_eq' (Int.dvd_add h1 h2) ?_
  rw [Int.sub_mul, Int.pow_succ, Int.mul_assoc x a, Int.mul_comm a (a ^ (2 * m))]; omega
end Go.Proofs.Ytbgabipngdillaa

namespace Go.Proofs.Ytbgabipngdillaa
open Go.RowKit

theorem BK.own {w : World} {b base : Nat} {l : List Int} (h : BK w b l) (hb : base ≤ b) (hl : l.length ≤ 1000000) : w.ownsRow base 3 1 (.slice (some ⟨b, 0, none⟩) l.length l.length) l.length (l.map (Value.int .i64)) :=
  ⟨by simp, .inr ⟨b, l.length, _, rfl, hb, h, Nat.le_refl _, by unfold maxLen; omega, by simp, by rw [List.take_of_length_le (by simp)]⟩⟩

end Go.Proofs.Ytbgabipngdillaa

namespace Go.Proofs.Ytbgabipngdillaa

theorem take_ez (T : List Int) (m : Nat) (h : m ≤ T.length) (x : Int) : ez (T.take m) x = sm m fun j => gd T j * x ^ j := by
  rw [ez_sm, List.length_take, Nat.min_eq_left h]
  exact sm_ext fun k hk => by rw [gd_take, if_pos hk]
theorem addT_ez {P y : Int} {T b : List Int} {o : Nat} (h : o + b.length ≤ T.length) (x : Int) :
    P ∣ ez ((addT P T o y b).take (o + b.length)) x - (ez (T.take (o + b.length)) x + y * (x ^ o * ez b x)) := by
  rw [take_ez _ _ (by rw [addT_len]; exact h), take_ez _ _ h, sm_split, sm_split]
  have e1 : (sm o fun j => gd (addT P T o y b) j * x ^ j) = sm o fun j => gd T j * x ^ j := sm_ext fun k hk => by
    rw [addT_gd P T o y b h, if_neg (by omega)]
  have e2 : P ∣ (sm b.length fun j => gd (addT P T o y b) (o + j) * x ^ (o + j)) - ((sm b.length fun j => gd T (o + j) * x ^ (o + j)) + y * sm b.length fun j => x ^ o * (gd b j * x ^ j)) := by
    refine sm_lin fun k hk => ?_
    rw [addT_gd P T o y b h, if_pos (by omega)]
    have e3 : o + k - o = k := by omega
    rw [e3]
    refine dvd_of_eq' (dvl (k := x ^ (o + k)) (mod_dvd P (gd T (o + k) + y * gd b k))) ?_
    have e4 : y * (x ^ o * (gd b k * x ^ k)) = y * gd b k * x ^ (o + k) := by
      rw [Int.pow_add, Int.mul_assoc y, Int.mul_left_comm (x ^ o)]
    rw [e4, Int.sub_mul, Int.add_mul]
  rw [e1, ez_sm b]
  rw [sm_scale] at e2
  refine dvd_of_eq' e2 ?_
  omega
end Go.Proofs.Ytbgabipngdillaa

namespace Go.Proofs.Ytbgabipngdillaa
open Go.RowKit

theorem knF_pw (l : List (Int × Bool)) : ∀ i, (knF i l).Pairwise fun a b => a.1 < b.1 := by
  induction l with
  | nil => intro i; simp [knF]
  | cons c l ih =>
    intro i
    rw [knF, List.pairwise_append]
    refine ⟨?_, ih (i + 1), fun a ha b hb => ?_⟩
    · split <;> simp
    · have hb' := knF_at l (i + 1) b hb
      split at ha
      · simp at ha; subst ha; simp at hb' ⊢; omega
      · simp at ha
theorem kn_val (l : List (Int × Bool)) : ∀ t ∈ kn l, ∃ j, ∃ h : j < l.length, l[j].2 = true ∧ t = ((j : Int) + 1, l[j].1) := by
  have key : ∀ (l : List (Int × Bool)) i, ∀ t ∈ knF i l, ∃ j, ∃ h : j < l.length, l[j].2 = true ∧ t = (((i + j : Nat) : Int) + 1, l[j].1) := by
    intro l
    induction l with
    | nil => intro i t ht; simp [knF] at ht
    | cons c l ih =>
      intro i t ht
      rw [knF, List.mem_append] at ht
      rcases ht with ht | ht
      · split at ht
        · rename_i hc
          simp at ht; subst ht
          exact ⟨0, by simp, hc, by simp⟩
        · simp at ht
      · obtain ⟨j, hj, h1, h2⟩ := ih (i + 1) t ht
        refine ⟨j + 1, by simpa using hj, h1, ?_⟩
        rw [h2]
        have : i + 1 + j = i + (j + 1) := by omega
        rw [this]; rfl
  intro t ht
  obtain ⟨j, hj, h1, h2⟩ := key l 0 t ht
  exact ⟨j, hj, h1, by rw [h2]; simp⟩
/-- where Fill finds no fault -/
theorem fi_zero {P : Int} {l : List (Int × Bool)} {k : Int} (h : fiE P l k = 0) : prB P = true ∧ l.length ≤ 32 ∧ (l.length : Int) < P ∧ (∀ j (h : j < l.length), l[j].2 = true → 0 ≤ l[j].1 ∧ l[j].1 < P) ∧ 1 ≤ k ∧ k ≤ ((kn l).length : Int) := by
  unfold fiE at h
  by_cases hc : ceE P l = 0
  · rw [if_pos hc] at h
    by_cases h1 : k < 1 ∨ (l.length : Int) < k
    · rw [if_pos h1] at h; cases h
    · rw [if_neg h1] at h
      by_cases h2 : ((kn l).length : Int) < k
      · rw [if_pos h2] at h; cases h
      · have hc' := hc
        unfold ceE at hc
        by_cases p0 : prB P = false
        · rw [if_pos p0] at hc; cases hc
        · rw [if_neg p0] at hc
          by_cases p1 : 32 < l.length ∨ P ≤ l.length
          · rw [if_pos p1] at hc; cases hc
          · rw [if_neg p1] at hc
            by_cases p2 : ((kn l).all fun p => el P p.2) = true
            · refine ⟨by simpa using p0, by omega, by omega, fun j hj hb => ?_, by omega, by omega⟩
              rw [List.all_eq_true] at p2
              have hm : ((j : Int) + 1, l[j].1) ∈ kn l := by
                have key : ∀ (l : List (Int × Bool)) i j (hj : j < l.length), l[j].2 = true → (((i + j : Nat) : Int) + 1, l[j].1) ∈ knF i l := by
                  intro l
                  induction l with
                  | nil => intro i j hj; simp at hj
                  | cons c l ih =>
                    intro i j hj hb
                    rw [knF, List.mem_append]
                    cases j with
                    | zero => left; simp at hb; simp [hb]
                    | succ j =>
                      right
                      have := ih (i + 1) j (by simpa using hj) (by simpa using hb)
                      have e : i + 1 + j = i + (j + 1) := by omega
                      rw [e] at this
                      simpa using this
                have := key l 0 j hj hb
                show _ ∈ knF 0 l
                simpa using this
              exact el_t (p2 _ hm)
            · rw [if_neg p2] at hc; cases hc
  · rw [if_neg hc] at h; exact absurd h hc
end Go.Proofs.Ytbgabipngdillaa

namespace Go.Proofs.Ytbgabipngdillaa
open Go.RowKit

/-- a slice of ints outside the blocks X and Y -/
def SX (W : World) (X Y : Option Nat) (v : Value) (l : List Int) : Prop :=
  ∃ A c, v = .slice A l.length c ∧ l.length ≤ c ∧ c ≤ 9223372036854775807 ∧ (∀ x ∈ l, i64r x) ∧
    (0 < l.length → ∃ b off, A = some ⟨b, off, none⟩ ∧ b < W.heap.size ∧ some b ≠ X ∧ some b ≠ Y ∧ ∀ j (h : j < l.length), W.cell? ⟨b, off + j, none⟩ = some (.int .i64 l[j]))
theorem SX.keep {W W' : World} {X Y X' Y' : Option Nat} {v : Value} {l : List Int} (h : SX W X Y v l) (hs : W.heap.size ≤ W'.heap.size)
    (hb : ∀ b, b < W.heap.size → some b ≠ X → some b ≠ Y → W'.heap[b]? = W.heap[b]? ∧ some b ≠ X' ∧ some b ≠ Y') : SX W' X' Y' v l := by
  obtain ⟨A, c, rfl, hc, hm, hr, ha⟩ := h
  refine ⟨A, c, rfl, hc, hm, hr, fun h0 => ?_⟩
  obtain ⟨b, off, rfl, hbl, hx, hy, hcell⟩ := ha h0
  obtain ⟨e, hx', hy'⟩ := hb b hbl hx hy
  exact ⟨b, off, rfl, by omega, hx', hy', fun j hj => (World.cell?_of_block e).trans (hcell j hj)⟩
theorem own_blk {w w' : World} {base e size n : Nat} {v : Value} {xs : List Value} (h : w.ownsRow base e size v n xs) (hk : ∀ b, v.ownBlock = some b → w'.heap[b]? = w.heap[b]?) : w'.ownsRow base e size v n xs := by
  refine ⟨h.1, ?_⟩
  rcases h.2 with hn | ⟨b, cap, cur, rfl, hb, hg, rest⟩
  · exact .inl hn
  · exact .inr ⟨b, cap, cur, rfl, hb, (hk b rfl).trans hg, rest⟩
end Go.Proofs.Ytbgabipngdillaa
