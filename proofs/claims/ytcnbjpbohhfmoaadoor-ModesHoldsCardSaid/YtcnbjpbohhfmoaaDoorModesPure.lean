/-
  What package modes computes: plain functions on numbers and lists, and their laws.
-/
import Derived.Handy
namespace Go.Proofs.YtcnbjpbohhfmoaaDoor

def vB (m : Int) : Bool := decide (1 ≤ m) && decide (m ≤ 3)
def fB (a b : Int) : Bool := (a == 1 && b == 1) || (a == 1 && b == 2) || (a == 2 && b == 1)
def wB (m : Int) (xs : List Int) : Bool := xs.all (fB m)
/-- the first i of some modes are modes, and go together -/
def aBto (xs : List Int) : Nat → Bool
  | 0 => true
  | i + 1 => aBto xs i && (vB (xs.getD i 0) && wB (xs.getD i 0) (xs.take i))
def aB (xs : List Int) : Bool := aBto xs xs.length
def gB (m : Int) (xs : List Int) (g : Int) (behind : Bool) : Bool := vB m && wB m xs && (m != 1 || !behind || decide (g < 4))
def gNext (m g : Int) : Int := if m = 1 then (if (if g = 9223372036854775807 then -9223372036854775808 else g + 1) ≤ 4 then (if g = 9223372036854775807 then -9223372036854775808 else g + 1) else 4) else g
def grants : List Int → List Int → Int → Nat
  | _, [], _ => 0
  | held, m :: r, g => if gB m held g (!r.isEmpty) then 1 + grants (held ++ [m]) r (gNext m g) else 0

theorem fB_comm (a b : Int) : fB a b = fB b a := by
  unfold fB
  rw [Bool.eq_iff_iff]
  simp
  omega
theorem wB_snoc (m : Int) (xs : List Int) (x : Int) : wB m (xs ++ [x]) = (wB m xs && fB m x) := by simp [wB]
theorem take_snoc (xs : List Int) (k : Nat) (h : k < xs.length) : xs.take (k + 1) = xs.take k ++ [xs.getD k 0] := by
  rw [List.take_succ_eq_append_getElem h]
  simp [List.getD, List.getElem?_eq_getElem h]
theorem aBto_append (xs ys : List Int) : ∀ i, i ≤ xs.length → aBto (xs ++ ys) i = aBto xs i
  | 0, _ => rfl
  | i + 1, h => by
    unfold aBto
    have e : (xs ++ ys).getD i 0 = xs.getD i 0 := by
      simp [List.getD, List.getElem?_append_left (show i < xs.length from h)]
    rw [aBto_append xs ys i (by omega), e, List.take_append_of_le_length (by omega)]
theorem aBto_false (xs : List Int) (k : Nat) (h : aBto xs k = false) : ∀ i, k ≤ i → aBto xs i = false
  | 0, hi => by have : k = 0 := by omega
                subst this; exact h
  | i + 1, hi => by
    by_cases e : k = i + 1
    · rw [← e]; exact h
    · unfold aBto
      rw [aBto_false xs k h i (by omega)]
      rfl
theorem aB_false (xs : List Int) (k : Nat) (hk : k < xs.length) (h : (vB (xs.getD k 0) && wB (xs.getD k 0) (xs.take k)) = false) : aB xs = false :=
  aBto_false xs (k + 1) (by unfold aBto; rw [h]; simp) _ hk
theorem aB_snoc (xs : List Int) (x : Int) : aB (xs ++ [x]) = (aB xs && (vB x && wB x xs)) := by
  unfold aB
  rw [List.length_append, List.length_singleton]
  show (aBto (xs ++ [x]) xs.length && _) = _
  have e : (xs ++ [x]).getD xs.length 0 = x := by simp [List.getD]
  rw [aBto_append _ _ _ (Nat.le_refl _), e, List.take_left]

/-- the index of the first one that meets p, -1 if none does -/
def idxOf (p : Int → Bool) (xs : List Int) : Int := match xs.findIdx? p with | some i => i | none => -1
theorem idx_hit (p : Int → Bool) (xs : List Int) (k : Nat) (hk : k < xs.length) (h0 : ∀ j, j < k → p (xs.getD j 0) = false) (h : p (xs.getD k 0) = true) : idxOf p xs = k := by
  have : xs.findIdx? p = some k := by
    rw [List.findIdx?_eq_some_iff_getElem]
    refine ⟨hk, by simpa [List.getD, List.getElem?_eq_getElem hk] using h, fun j hj => ?_⟩
    have := h0 j hj
    simpa [List.getD, List.getElem?_eq_getElem (show j < xs.length by omega)] using this
  simp [idxOf, this]
theorem idx_none (p : Int → Bool) (xs : List Int) (h0 : ∀ j, j < xs.length → p (xs.getD j 0) = false) : idxOf p xs = -1 := by
  have : xs.findIdx? p = none := by
    rw [List.findIdx?_eq_none_iff]
    intro x hx
    obtain ⟨j, hj, rfl⟩ := List.getElem_of_mem hx
    have := h0 j hj
    simpa [List.getD, List.getElem?_eq_getElem hj] using this
  simp [idxOf, this]
theorem idx_any (p : Int → Bool) (xs : List Int) : decide (0 ≤ idxOf p xs) = xs.any p := by
  unfold idxOf
  cases h : xs.findIdx? p with
  | none =>
    rw [List.findIdx?_eq_none_iff] at h
    have : xs.any p = false := by
      rw [Bool.eq_false_iff]
      intro e
      obtain ⟨x, hx, hp⟩ := List.any_eq_true.1 e
      rw [h x hx] at hp
      cases hp
    rw [this]
    rfl
  | some k =>
    rw [List.findIdx?_eq_some_iff_getElem] at h
    obtain ⟨hk, hp, _⟩ := h
    have : xs.any p = true := List.any_eq_true.2 ⟨_, List.getElem_mem hk, hp⟩
    rw [this]
    simp
theorem not_any_not (m : Int) (xs : List Int) : (!xs.any fun o => !fB m o) = wB m xs := by
  unfold wB
  induction xs with
  | nil => rfl
  | cons x xs ih => simp only [List.any_cons, List.all_cons, Bool.not_or, Bool.not_not, ih]

/-- how many S are among the first n -/
def shared (q : List Int) (n : Nat) : Nat := (q.take n).countP (· == 1)

theorem grants_le : ∀ (q held : List Int) (g : Int), grants held q g ≤ q.length
  | [], _, _ => by simp [grants]
  | m :: r, held, g => by
    unfold grants
    split
    · have := grants_le r (held ++ [m]) (gNext m g)
      simp; omega
    · simp
theorem grants_all : ∀ (q held : List Int) (g : Int), aB held = true → aB (held ++ q.take (grants held q g)) = true
  | [], held, g, h => by simpa [grants] using h
  | m :: r, held, g, h => by
    unfold grants
    split
    · rename_i hg
      have h1 : aB (held ++ [m]) = true := by
        rw [aB_snoc, h]
        simp [gB] at hg
        simp [hg.1.1, hg.1.2]
      have := grants_all r (held ++ [m]) (gNext m g) h1
      rw [Nat.add_comm, List.take_succ_cons]
      simpa using this
    · simpa using h
/-- where not all get it: the next one does not go, and the number of the group is that of the S that got it -/
theorem grants_stop : ∀ (q held : List Int) (g : Int), 0 ≤ g → g ≤ 4 → grants held q g < q.length →
    (shared q (grants held q g) = 0 ∨ g + shared q (grants held q g) ≤ 4) ∧
    gB (q.getD (grants held q g) 0) (held ++ q.take (grants held q g)) (g + shared q (grants held q g)) (decide (grants held q g + 1 < q.length)) = false
  | [], _, _, _, _, h => by simp [grants] at h
  | m :: r, held, g, h0, h4, h => by
    unfold grants at h ⊢
    split
    · rename_i hg
      rw [if_pos hg] at h
      have hr : r ≠ [] := by
        rintro rfl
        simp [grants] at h
      have hb : (!r.isEmpty) = true := by cases r; exact absurd rfl hr; rfl
      rw [hb] at hg
      have hlen : grants (held ++ [m]) r (gNext m g) < r.length := by simp at h; omega
      have e1 : shared (m :: r) (1 + grants (held ++ [m]) r (gNext m g)) = shared r (grants (held ++ [m]) r (gNext m g)) + if m = 1 then 1 else 0 := by
        unfold shared
        rw [Nat.add_comm, List.take_succ_cons, List.countP_cons]
        simp
      have e2 : gNext m g = g + if m = 1 then 1 else 0 := by
        unfold gNext
        by_cases hm : m = 1
        · subst hm
          have : g < 4 := by simp [gB] at hg; exact hg.2
          simp
          omega
        · simp [hm]
      obtain ⟨i1, i2⟩ := grants_stop r (held ++ [m]) (gNext m g) (by rw [e2]; split <;> omega) (by
        rw [e2]
        split
        · rename_i hm
          subst hm
          have : g < 4 := by simp [gB] at hg; exact hg.2
          omega
        · omega) hlen
      have e3 : (m :: r).getD (1 + grants (held ++ [m]) r (gNext m g)) 0 = r.getD (grants (held ++ [m]) r (gNext m g)) 0 := by
        rw [Nat.add_comm]; rfl
      have e4 : held ++ (m :: r).take (1 + grants (held ++ [m]) r (gNext m g)) = (held ++ [m]) ++ r.take (grants (held ++ [m]) r (gNext m g)) := by
        rw [Nat.add_comm, List.take_succ_cons]; simp
      have e5 : decide (1 + grants (held ++ [m]) r (gNext m g) + 1 < (m :: r).length) = decide (grants (held ++ [m]) r (gNext m g) + 1 < r.length) := by
        rw [decide_eq_decide]; simp; omega
      rw [e1, e3, e4, e5]
      have e6 : g + ((shared r (grants (held ++ [m]) r (gNext m g)) + if m = 1 then 1 else 0 : Nat) : Int) = gNext m g + (shared r (grants (held ++ [m]) r (gNext m g)) : Nat) := by
        rw [e2]; split <;> simp <;> omega
      rw [e6]
      refine ⟨?_, i2⟩
      rcases i1 with i1 | i1
      · rw [i1, e2]
        by_cases hm : m = 1
        · right
          subst hm
          have : g < 4 := by simp [gB] at hg; exact hg.2
          simp
          omega
        · left; simp [hm]
      · exact .inr i1
    · rename_i hg
      refine ⟨.inl (by simp [shared]), ?_⟩
      have e5 : decide (0 + 1 < (m :: r).length) = !r.isEmpty := by cases r <;> simp
      rw [e5]
      simpa [shared] using hg
theorem grants_first (m : Int) (r : List Int) (h : vB m = true) : grants [] (m :: r) 0 ≠ 0 := by
  unfold grants
  rw [if_pos (by simp [gB, h, wB])]
  omega
/-- one more: the step of the loop -/
theorem grants_step (q held : List Int) (g : Int) (k : Nat) (hk : k < q.length) :
    grants held (q.drop k) g = if gB (q.getD k 0) held g (decide (k + 1 < q.length)) then 1 + grants (held ++ [q.getD k 0]) (q.drop (k + 1)) (gNext (q.getD k 0) g) else 0 := by
  have e : q.drop k = q.getD k 0 :: q.drop (k + 1) := by
    rw [List.drop_eq_getElem_cons hk]
    simp [List.getD, List.getElem?_eq_getElem hk]
  rw [e]
  conv => lhs; unfold grants
  have e2 : (!(q.drop (k + 1)).isEmpty) = decide (k + 1 < q.length) := by
    rw [Bool.eq_iff_iff]; simp
  rw [e2]
end Go.Proofs.YtcnbjpbohhfmoaaDoor
