/- Plain: levels, roots, paths and where they lead. -/
import Derived.Test.YtmglcjdigpgjlaaDig
namespace Go.Proofs.Ytmglcjdigpgjlaa

theorem int_eq {k : IntKind} {a b : Int} (h : a = b) : Value.int k a = Value.int k b := by rw [h]

/-- a digest -/
def dg (n : Int) : Bool := decide (0 ≤ n ∧ n < 2147483647)
theorem dg_t {n : Int} (h : dg n = true) : 0 ≤ n ∧ n < 2147483647 := of_decide_eq_true h
theorem dg_f {n : Int} (h : dg n = false) : ¬ (0 ≤ n ∧ n < 2147483647) := of_decide_eq_false h
def dgs (l : List Int) : Bool := l.all dg
/-- what is wrong with a list of digests -/
def lsE (l : List Int) : Int := if 1024 < l.length then 4 else if dgs l = true then 0 else 1

/-- the j-th element of the next level -/
def nd (l : List Int) (j : Nat) : Int := if 2 * j + 1 < l.length then node (l[2 * j]?.getD 0) (l[2 * j + 1]?.getD 0) else l[2 * j]?.getD 0
def up (l : List Int) : List Int := (List.range ((l.length + 1) / 2)).map (nd l)
theorem up_len (l : List Int) : (up l).length = (l.length + 1) / 2 := by simp [up]
theorem nd_pair {l : List Int} {i : Nat} (h : i + 1 < l.length) (he : i % 2 = 0) : nd l (i / 2) = node (l[i]'(by omega)) l[i + 1] := by
  unfold nd
  rw [show 2 * (i / 2) = i by omega, if_pos h, List.getElem?_eq_getElem (by omega), List.getElem?_eq_getElem h]
  rfl
theorem nd_last {l : List Int} {i : Nat} (h : i + 1 = l.length) (he : i % 2 = 0) : nd l (i / 2) = l[i]'(by omega) := by
  unfold nd
  rw [show 2 * (i / 2) = i by omega, if_neg (by omega), List.getElem?_eq_getElem (by omega)]
  rfl
theorem up_snoc (l : List Int) (i : Nat) (he : i % 2 = 0) : (List.range ((i + 2) / 2)).map (nd l) = (List.range (i / 2)).map (nd l) ++ [nd l (i / 2)] := by
  rw [show (i + 2) / 2 = i / 2 + 1 by omega, List.range_succ, List.map_append]
  rfl
theorem nd_rng {l : List Int} (h : ∀ x ∈ l, dg x = true) {j : Nat} (hj : 2 * j < l.length) : dg (nd l j) = true := by
  unfold nd
  split
  · have := node_bd (l[2 * j]?.getD 0) (l[2 * j + 1]?.getD 0)
    exact decide_eq_true (by omega)
  · rw [List.getElem?_eq_getElem hj]
    exact h _ (List.getElem_mem hj)
theorem dgs_all {l : List Int} (h : dgs l = true) : ∀ x ∈ l, dg x = true := by simpa [dgs] using h
theorem up_dgs {l : List Int} (h : dgs l = true) : dgs (up l) = true := by
  have h' := dgs_all h
  simp only [dgs, List.all_eq_true, up, List.mem_map, List.mem_range]
  rintro x ⟨j, hj, rfl⟩
  exact nd_rng h' (by omega)

/-- the root; f: enough levels -/
def rootF : Nat → List Int → Int
  | 0, l => l[0]?.getD 0
  | f + 1, l => if l.length ≤ 1 then l[0]?.getD 0 else rootF f (up l)
def root (l : List Int) : Int := rootF l.length l
theorem rootF_more (f : Nat) : ∀ (l : List Int) (g : Nat), l.length ≤ f + 1 → f ≤ g → rootF g l = rootF f l := by
  induction f with
  | zero =>
    intro l g h _
    cases g with
    | zero => rfl
    | succ g => simp only [rootF]; rw [if_pos (by omega)]
  | succ f ih =>
    intro l g h hg
    cases g with
    | zero => omega
    | succ g =>
      simp only [rootF]
      split
      · rfl
      · exact ih (up l) g (by rw [up_len]; omega) (by omega)
theorem root_small {l : List Int} (h : l.length ≤ 1) : root l = l[0]?.getD 0 := by
  unfold root
  cases hl : l.length with
  | zero => rfl
  | succ n => simp only [rootF]; rw [if_pos h]
theorem root_up {l : List Int} (h : 1 < l.length) : root l = root (up l) := by
  unfold root
  cases hl : l.length with
  | zero => omega
  | succ n =>
    simp only [rootF]
    rw [if_neg (by omega), up_len]
    exact rootF_more _ _ _ (by rw [up_len]; omega) (by omega)

/-- the digests of a path -/
def pathF : Nat → List Int → Nat → List Int
  | 0, _, _ => []
  | f + 1, l, i => if l.length ≤ 1 then [] else (if i ^^^ 1 < l.length then [l[i ^^^ 1]?.getD 0] else []) ++ pathF f (up l) (i / 2)
def path (l : List Int) (i : Nat) : List Int := pathF l.length l i
theorem pathF_more (f : Nat) : ∀ (l : List Int) (g i : Nat), l.length ≤ f + 1 → f ≤ g → pathF g l i = pathF f l i := by
  induction f with
  | zero =>
    intro l g i h _
    cases g with
    | zero => rfl
    | succ g => simp only [pathF]; rw [if_pos (by omega)]
  | succ f ih =>
    intro l g i h hg
    cases g with
    | zero => omega
    | succ g =>
      simp only [pathF]
      split
      · rfl
      · rw [ih (up l) g _ (by rw [up_len]; omega) (by omega)]
theorem path_small {l : List Int} (h : l.length ≤ 1) (i : Nat) : path l i = [] := by
  unfold path
  cases hl : l.length with
  | zero => rfl
  | succ n => simp only [pathF]; rw [if_pos h]
theorem path_up {l : List Int} (h : 1 < l.length) (i : Nat) : path l i = (if i ^^^ 1 < l.length then [l[i ^^^ 1]?.getD 0] else []) ++ path (up l) (i / 2) := by
  unfold path
  cases hl : l.length with
  | zero => omega
  | succ n =>
    simp only [pathF]
    rw [if_neg (by omega), up_len, hl]
    congr 1
    exact pathF_more _ _ _ _ (by rw [up_len]; omega) (by omega)

/-- how many digests -/
def lenF : Nat → Nat → Nat → Nat
  | 0, _, _ => 0
  | f + 1, c, i => if c ≤ 1 then 0 else (if i ^^^ 1 < c then 1 else 0) + lenF f ((c + 1) / 2) (i / 2)
def plen (c i : Nat) : Nat := lenF c c i
theorem lenF_more (f : Nat) : ∀ (c g i : Nat), c ≤ f + 1 → f ≤ g → lenF g c i = lenF f c i := by
  induction f with
  | zero =>
    intro c g i h _
    cases g with
    | zero => rfl
    | succ g => simp only [lenF]; rw [if_pos (by omega)]
  | succ f ih =>
    intro c g i h hg
    cases g with
    | zero => omega
    | succ g =>
      simp only [lenF]
      split
      · rfl
      · rw [ih _ g _ (by omega) (by omega)]
theorem plen_small {c : Nat} (h : c ≤ 1) (i : Nat) : plen c i = 0 := by
  unfold plen
  cases c with
  | zero => rfl
  | succ n => simp only [lenF]; rw [if_pos h]
theorem plen_up {c : Nat} (h : 1 < c) (i : Nat) : plen c i = (if i ^^^ 1 < c then 1 else 0) + plen ((c + 1) / 2) (i / 2) := by
  unfold plen
  cases c with
  | zero => omega
  | succ n =>
    simp only [lenF]
    rw [if_neg (by omega)]
    congr 1
    exact lenF_more _ _ _ _ (by omega) (by omega)
theorem plen_le (c : Nat) : ∀ i, plen c i ≤ c := by
  induction c using Nat.strongRecOn with
  | ind c ih =>
    intro i
    by_cases h : c ≤ 1
    · rw [plen_small h]; omega
    · rw [plen_up (by omega)]
      have := ih ((c + 1) / 2) (by omega) (i / 2)
      split <;> omega

/-- where a path leads -/
def leadF : Nat → Nat → Nat → List Int → Int → Int
  | 0, _, _, _, d => d
  | f + 1, c, i, r, d => if c ≤ 1 then d else if i ^^^ 1 < c then leadF f ((c + 1) / 2) (i / 2) (r.drop 1) (if i % 2 = 0 then node d (r[0]?.getD 0) else node (r[0]?.getD 0) d) else leadF f ((c + 1) / 2) (i / 2) r d
def lead (c i : Nat) (r : List Int) (d : Int) : Int := leadF c c i r d
theorem leadF_more (f : Nat) : ∀ (c g i : Nat) (r : List Int) (d : Int), c ≤ f + 1 → f ≤ g → leadF g c i r d = leadF f c i r d := by
  induction f with
  | zero =>
    intro c g i r d h _
    cases g with
    | zero => rfl
    | succ g => simp only [leadF]; rw [if_pos (by omega)]
  | succ f ih =>
    intro c g i r d h hg
    cases g with
    | zero => omega
    | succ g =>
      simp only [leadF]
      split
      · rfl
      · split
        · exact ih _ g _ _ _ (by omega) (by omega)
        · exact ih _ g _ _ _ (by omega) (by omega)
theorem lead_small {c : Nat} (h : c ≤ 1) (i : Nat) (r : List Int) (d : Int) : lead c i r d = d := by
  unfold lead
  cases c with
  | zero => rfl
  | succ n => simp only [leadF]; rw [if_pos h]
theorem lead_skip {c : Nat} (h : 1 < c) {i : Nat} (hi : ¬ i ^^^ 1 < c) (r : List Int) (d : Int) : lead c i r d = lead ((c + 1) / 2) (i / 2) r d := by
  unfold lead
  cases c with
  | zero => omega
  | succ n =>
    simp only [leadF]
    rw [if_neg (by omega), if_neg hi]
    exact leadF_more _ _ _ _ _ _ (by omega) (by omega)
theorem lead_up {c : Nat} (h : 1 < c) {i : Nat} (hi : i ^^^ 1 < c) (r : List Int) (d : Int) : lead c i r d = lead ((c + 1) / 2) (i / 2) (r.drop 1) (if i % 2 = 0 then node d (r[0]?.getD 0) else node (r[0]?.getD 0) d) := by
  unfold lead
  cases c with
  | zero => omega
  | succ n =>
    simp only [leadF]
    rw [if_neg (by omega), if_pos hi]
    exact leadF_more _ _ _ _ _ _ (by omega) (by omega)
end Go.Proofs.Ytmglcjdigpgjlaa
