/-
  Events, and what is counted of them: plain functions and their laws.
-/
import Derived.Test.YthikpceckiapjaaBase
namespace Go.Proofs.Ythikpceckiapjaa

structure Ev where
  t : Int
  a : Int
  w : Int
  m1 : Value
  m2 : Value
  m3 : Value
  m4 : Value
  m5 : Value
  m6 : Value
  m7 : Value
  m8 : Value
  m9 : Value
  m10 : Value
def okEv (e : Ev) : Bool := decide (0 ≤ e.t ∧ e.t ≤ 63 ∧ 0 ≤ e.a ∧ e.a ≤ 1099511627776 ∧ (e.w = -1 ∨ (e.a ≤ e.w ∧ e.w ≤ 1099511627776)))
theorem okEv_iff {e : Ev} : okEv e = true ↔ 0 ≤ e.t ∧ e.t ≤ 63 ∧ 0 ≤ e.a ∧ e.a ≤ 1099511627776 ∧ (e.w = -1 ∨ (e.a ≤ e.w ∧ e.w ≤ 1099511627776)) := by simp [okEv]
/-- y has passed x -/
def psB (y x : Ev) : Bool := decide (x.a < y.a ∧ 0 ≤ y.w ∧ (x.w < 0 ∨ y.w < x.w))
theorem psB_iff {y x : Ev} : psB y x = true ↔ x.a < y.a ∧ 0 ≤ y.w ∧ (x.w < 0 ∨ y.w < x.w) := by simp [psB]
def pas (l : List Ev) (x : Ev) : Nat := l.countP (psB · x)
theorem pas_le (l : List Ev) (x : Ev) : pas l x ≤ l.length := List.countP_le_length
def isA (t : Nat) (e : Ev) : Bool := decide (e.t = t ∧ 0 ≤ e.w)
def isO (t : Nat) (e : Ev) : Bool := decide (e.t = t ∧ e.w < 0)
def isT (t : Nat) (e : Ev) : Bool := decide (e.t = t)
def ans (l : List Ev) (t : Nat) : Nat := l.countP (isA t)
def opn (l : List Ev) (t : Nat) : Nat := l.countP (isO t)
def tkOf (t : Nat) (e : Ev) : Int := if isA t e = true then e.w - e.a else 0
def tok (l : List Ev) (t : Nat) : Int := (l.map (tkOf t)).sum
def lng (l : List Ev) (t : Nat) : Int := (l.map (tkOf t)).foldl max 0
def psOf (l0 : List Ev) (t : Nat) (e : Ev) : Nat := if isT t e = true then pas l0 e else 0
def psd (l0 l : List Ev) (t : Nat) : Nat := (l.map (psOf l0 t)).sum
def has (l : List Ev) (t : Nat) : Bool := l.any (isT t)
section
variable {l l0 : List Ev} {x : Ev} {t : Nat}
theorem ans_snoc : ans (l ++ [x]) t = ans l t + if isA t x = true then 1 else 0 := by simp [ans, List.countP_append, List.countP_cons]
theorem opn_snoc : opn (l ++ [x]) t = opn l t + if isO t x = true then 1 else 0 := by simp [opn, List.countP_append, List.countP_cons]
theorem tok_snoc : tok (l ++ [x]) t = tok l t + tkOf t x := by simp [tok]
theorem lng_snoc : lng (l ++ [x]) t = max (lng l t) (tkOf t x) := by simp [lng]
theorem psd_snoc : psd l0 (l ++ [x]) t = psd l0 l t + psOf l0 t x := by simp [psd]
theorem has_snoc : has (l ++ [x]) t = (has l t || isT t x) := by simp [has]
theorem ans_le : ans l t ≤ l.length := List.countP_le_length
theorem opn_le : opn l t ≤ l.length := List.countP_le_length
theorem tk_bd (h : okEv x = true) : 0 ≤ tkOf t x ∧ tkOf t x ≤ 1099511627776 := by
  have := okEv_iff.1 h
  unfold tkOf isA
  split
  · rename_i hh
    simp at hh
    omega
  · omega
theorem tok_bd (t : Nat) : ∀ (l : List Ev), (∀ e ∈ l, okEv e = true) → 0 ≤ tok l t ∧ tok l t ≤ (l.length : Int) * 1099511627776
  | [], _ => by simp [tok]
  | x :: l, h => by
    have h1 := tok_bd t l (fun e he => h e (by simp [he]))
    have h2 := tk_bd (t := t) (h x (by simp))
    simp only [tok, List.map_cons, List.sum_cons, List.length_cons] at h1 ⊢
    omega
theorem fold_max : ∀ (xs : List Int) (a : Int), a ≤ xs.foldl max a ∧ (∀ x ∈ xs, x ≤ xs.foldl max a) ∧ (xs.foldl max a = a ∨ xs.foldl max a ∈ xs)
  | [], a => ⟨Int.le_refl _, (fun _ h => by cases h), .inl rfl⟩
  | y :: xs, a => by
    obtain ⟨h1, h2, h3⟩ := fold_max xs (max a y)
    refine ⟨by simp only [List.foldl_cons]; omega, fun x hx => ?_, ?_⟩
    · simp only [List.foldl_cons]
      rcases List.mem_cons.1 hx with rfl | hx
      · omega
      · exact h2 x hx
    · simp only [List.foldl_cons]
      rcases h3 with h3 | h3
      · rw [h3]
        by_cases e : a ≤ y
        · exact .inr (by rw [show max a y = y by omega]; exact List.mem_cons_self)
        · exact .inl (by omega)
      · exact .inr (List.mem_cons_of_mem _ h3)
theorem lng_bd (h : ∀ e ∈ l, okEv e = true) : 0 ≤ lng l t ∧ lng l t ≤ 1099511627776 := by
  obtain ⟨h1, _, h3⟩ := fold_max (l.map (tkOf t)) 0
  refine ⟨h1, ?_⟩
  unfold lng
  rcases h3 with h3 | h3
  · omega
  · obtain ⟨e, he, h4⟩ := List.mem_map.1 h3
    rw [← h4]
    exact (tk_bd (h e he)).2
theorem psd_le (t : Nat) (l0 : List Ev) : ∀ (l : List Ev), psd l0 l t ≤ l.length * l0.length
  | [] => by simp [psd]
  | x :: l => by
    have h1 := psd_le t l0 l
    have h2 := pas_le l0 x
    have h3 : psOf l0 t x ≤ l0.length := by unfold psOf; split <;> omega
    simp only [psd, List.map_cons, List.sum_cons, List.length_cons, Nat.add_mul] at h1 ⊢
    omega
theorem has_iff : has l t = true ↔ 0 < ans l t + opn l t := by
  unfold has ans opn
  induction l with
  | nil => simp
  | cons x l ih =>
    simp only [List.any_cons, Bool.or_eq_true, ih, List.countP_cons]
    have : isT t x = true ↔ (isA t x = true ∨ isO t x = true) := by
      unfold isT isA isO
      simp
      omega
    rw [this]
    split <;> split <;> simp_all <;> omega
end
/-- a thread's row -/
def rowT (l0 l : List Ev) (t : Nat) : List Int := [(t : Int), (ans l t : Int), (opn l t : Int), tok l t, lng l t, (psd l0 l t : Int)]
def rowsT (l : List Ev) (n : Nat) : List (List Int) := ((List.range n).filter fun t => decide (0 < ans l t + opn l t)).map (rowT l l)
theorem rowsT_succ (l : List Ev) (n : Nat) : rowsT l (n + 1) = if 0 < ans l n + opn l n then rowsT l n ++ [rowT l l n] else rowsT l n := by
  unfold rowsT
  rw [List.range_succ, List.filter_append, List.map_append]
  by_cases h : 0 < ans l n + opn l n
  · simp [h]
  · simp [h]
def sumA (rows : List (List Int)) : Int := (rows.map fun r => r.getD 1 0).sum
def sumQ (rows : List (List Int)) : Int := (rows.map fun r => r.getD 1 0 * r.getD 1 0).sum
def evenN (rows : List (List Int)) : Int := if sumA rows = 0 then 1000 else 1000 * sumA rows * sumA rows / (rows.length * sumQ rows)
/-- the index of the first one that took longest, and how long; -1, -1 for none -/
def wst (l : List Ev) : Int × Int := (l.zipIdx).foldl (fun s p => if 0 ≤ p.1.w ∧ s.2 < p.1.w - p.1.a then ((p.2 : Int), p.1.w - p.1.a) else s) (-1, -1)
theorem wst_nil : wst [] = (-1, -1) := rfl
theorem wst_snoc (l : List Ev) (x : Ev) : wst (l ++ [x]) = if 0 ≤ x.w ∧ (wst l).2 < x.w - x.a then ((l.length : Int), x.w - x.a) else wst l := by
  unfold wst
  rw [List.zipIdx_append, List.foldl_append]
  simp
/-- how long the answered ones took, in order -/
def tks (l : List Ev) : List Int := (l.filter fun e => decide (0 ≤ e.w)).map fun e => e.w - e.a
theorem tks_snoc (l : List Ev) (x : Ev) : tks (l ++ [x]) = if 0 ≤ x.w then tks l ++ [x.w - x.a] else tks l := by
  unfold tks
  rw [List.filter_append, List.map_append]
  by_cases h : 0 ≤ x.w
  · simp [h]
  · simp [h]
theorem tks_len (l : List Ev) : (tks l).length ≤ l.length := by unfold tks; simp; exact List.length_filter_le _ _
end Go.Proofs.Ythikpceckiapjaa
