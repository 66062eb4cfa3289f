/-
  Insertion into a sorted list, ages that grow, picks that were made: plain laws.
-/
import Derived.Test.YtbpkedghnjiehaaQueuePure
namespace Go.Proofs.Ytbpkedghnjiehaa

/-- x put in front of number j -/
def insL (P : List Int) (j : Nat) (x : Int) : List Int := P.take j ++ x :: P.drop j
theorem insL_length (P : List Int) (j : Nat) (x : Int) (h : j ≤ P.length) : (insL P j x).length = P.length + 1 := by simp [insL]; omega
theorem insL_at (P : List Int) (j : Nat) (x : Int) (h : j ≤ P.length) (R : List Int) : (insL P j x ++ R)[j]? = some x := by
  rw [List.getElem?_append_left (by rw [insL_length _ _ _ h]; omega)]
  unfold insL
  rw [List.getElem?_append_right (by rw [List.length_take]; omega)]
  rw [List.length_take, Nat.min_eq_left h]
  simp
theorem insL_before (P : List Int) (q : Nat) (x : Int) (h : q + 1 ≤ P.length) (R : List Int) : (insL P (q + 1) x ++ R)[q]? = some (P.getD q 0) := by
  rw [List.getElem?_append_left (by rw [insL_length _ _ _ h]; omega)]
  unfold insL
  rw [List.getElem?_append_left (by rw [List.length_take]; omega), List.getElem?_take, if_pos (by omega)]
  simp [List.getD, List.getElem?_eq_getElem (show q < P.length by omega)]
theorem insL_swap (P : List Int) (q : Nat) (x : Int) (h : q + 1 ≤ P.length) (R : List Int) : ((insL P (q + 1) x ++ R).set (q + 1) (P.getD q 0)).set q x = insL P q x ++ R := by
  have hq : q < P.length := by omega
  have e0 : P = P.take q ++ P[q] :: P.drop (q + 1) := by
    rw [← List.drop_eq_getElem_cons hq, List.take_append_drop]
  have eg : P.getD q 0 = P[q] := by simp [List.getD, List.getElem?_eq_getElem hq]
  have e1 : P.take (q + 1) = P.take q ++ [P[q]] := List.take_succ_eq_append_getElem hq
  have e2 : P.drop q = P[q] :: P.drop (q + 1) := List.drop_eq_getElem_cons hq
  have hl : (P.take q).length = q := by rw [List.length_take]; omega
  unfold insL
  rw [eg, e1, e2]
  generalize P.take q = T at hl
  generalize P.drop (q + 1) = D
  generalize P[q] = y
  subst hl
  rw [show T ++ [y] ++ x :: D ++ R = T ++ (y :: x :: (D ++ R)) by simp]
  rw [List.set_append_right _ _ (by omega), List.set_append_right _ _ (by omega)]
  simp
theorem insL_swap2 (P : List Int) (q : Nat) (x : Int) (h : q + 1 ≤ P.length) (R : List Int) : ((insL P (q + 1) x ++ R).set q x).set (q + 1) (P.getD q 0) = insL P q x ++ R := by
  rw [List.set_comm _ _ (by omega)]
  exact insL_swap P q x h R
theorem insL_end (P : List Int) (x : Int) : insL P P.length x = P ++ [x] := by simp [insL]
/-- what is not sorted yet -/
def restL (i n : Nat) : List Int := (rng n).drop i
theorem restL_cons (i n : Nat) (h : i < n) : restL i n = (i : Int) :: restL (i + 1) n := by
  unfold restL
  rw [List.drop_eq_getElem_cons (by rw [rng_length]; exact h)]
  congr 1
  have := rng_get n i h
  rw [List.getElem?_eq_getElem (by rw [rng_length]; exact h)] at this
  injection this
theorem restL_end (n : Nat) : restL n n = [] := by unfold restL; rw [List.drop_eq_nil_iff, rng_length]; exact Nat.le_refl _
theorem ord_one (ag : List Int) : Ord ag 1 [0] := by
  have := (ord_zero ag).insert (j := 0) (Nat.le_refl _) (fun q _ h => by omega) (fun h => by omega)
  simpa using this
theorem ord_ins {ag : List Int} {n j : Nat} {d : List Int} (h : Ord ag n d) (hj : j ≤ n) (h1 : ∀ q, j ≤ q → q < n → agA ag (d.getD q 0) < agA ag n) (h2 : 0 < j → agA ag n ≤ agA ag (d.getD (j - 1) 0)) :
    Ord ag (n + 1) (insL d j n) := h.insert hj h1 h2
theorem place_ex (ag d : List Int) (n : Nat) : ∀ j, j ≤ n → (∀ q, j ≤ q → q < n → agA ag (d.getD q 0) < agA ag n) → ∃ j, j ≤ n ∧ (∀ q, j ≤ q → q < n → agA ag (d.getD q 0) < agA ag n) ∧ (0 < j → agA ag n ≤ agA ag (d.getD (j - 1) 0))
  | 0, h0, h => ⟨0, h0, h, fun e => by omega⟩
  | j + 1, h0, h => by
    by_cases e : agA ag n ≤ agA ag (d.getD j 0)
    · exact ⟨j + 1, h0, h, fun _ => e⟩
    · refine place_ex ag d n j (by omega) fun q q1 q2 => ?_
      by_cases e2 : q = j
      · subst e2; omega
      · exact h q (by omega) q2
theorem ord_ex (ag : List Int) : ∀ n, ∃ d, Ord ag n d
  | 0 => ⟨[], ord_zero ag⟩
  | n + 1 => by
    obtain ⟨d, h⟩ := ord_ex ag n
    obtain ⟨j, h1, h2, h3⟩ := place_ex ag d n n (Nat.le_refl _) (fun q _ _ => by omega)
    exact ⟨_, h.insert h1 h2 h3⟩
/-- who comes first in the order of ages -/
structure First (ag : List Int) (n d0 : Nat) : Prop where
  lt : d0 < n
  zero : rank ag n d0 = 0
  only : ∀ s : Nat, s < n → rank ag n s = 0 → s = d0
theorem Ord.first {ag : List Int} {n : Nat} {d : List Int} (h : Ord ag n d) (hn : 1 ≤ n) : ∃ d0 : Nat, d.getD 0 0 = d0 ∧ First ag n d0 := by
  obtain ⟨g1, g2⟩ := h.get 0 (by omega)
  refine ⟨(d.getD 0 0).toNat, by omega, by omega, by rw [Int.toNat_of_nonneg g1]; exact h.rank 0 (by omega), fun s hs e => ?_⟩
  obtain ⟨i, hi, ei⟩ := h.at s hs
  have := h.rank i hi
  rw [ei, e] at this
  subst this
  omega
theorem first_ex (ag : List Int) (n : Nat) (hn : 1 ≤ n) : ∃ d0, First ag n d0 := by
  obtain ⟨d, h⟩ := ord_ex ag n
  obtain ⟨d0, _, h0⟩ := h.first hn
  exact ⟨d0, h0⟩
theorem First.eq {ag : List Int} {n a b : Nat} (h : First ag n a) (k : First ag n b) : a = b := k.only a h.lt h.zero

/-! ### lists that a loop fills or raises -/
def fillL (k n : Nat) : List Int := (List.range n).map fun t => if t < k then ((t : Nat) : Int) else 0
theorem fillL_length (k n : Nat) : (fillL k n).length = n := by simp [fillL]
theorem fillL_zero (n : Nat) : fillL 0 n = List.replicate n 0 := by
  apply List.ext_getElem?
  intro i
  simp [fillL, List.getElem?_replicate]
  by_cases h : i < n <;> simp [h]
theorem fillL_full (n : Nat) : fillL n n = rng n := by
  unfold fillL rng
  apply List.map_congr_left
  intro t ht
  rw [if_pos (List.mem_range.1 ht)]
theorem fillL_succ (k n : Nat) : fillL (k + 1) n = (fillL k n).set k k := by
  apply List.ext_getElem?
  intro i
  rw [List.getElem?_set, fillL_length]
  by_cases hi : i < n
  · by_cases e : k = i
    · subst e; simp [fillL, hi]
    · have : (i < k + 1) = (i < k) := by rw [eq_iff_iff]; omega
      simp [fillL, hi, e, this]
  · rw [List.getElem?_eq_none (by rw [fillL_length]; omega), List.getElem?_eq_none (by rw [fillL_length]; omega)]
    split
    · rw [if_neg (by omega)]
    · rfl
theorem fillL_get (k n i : Nat) (h : i < n) : (fillL k n)[i]? = some (if i < k then (i : Int) else 0) := by simp [fillL, h]
def incL (ag : List Int) (k : Nat) : List Int := (List.range ag.length).map fun t => if t < k then ag.getD t 0 + 1 else ag.getD t 0
theorem incL_length (ag : List Int) (k : Nat) : (incL ag k).length = ag.length := by simp [incL]
theorem incL_zero (ag : List Int) : incL ag 0 = ag := by
  apply List.ext_getElem?
  intro i
  by_cases h : i < ag.length <;> simp [incL, h, List.getD]
theorem incL_full (ag : List Int) : incL ag ag.length = ag.map (· + 1) := by
  apply List.ext_getElem?
  intro i
  by_cases h : i < ag.length <;> simp [incL, h, List.getD]
theorem incL_get (ag : List Int) (k : Nat) (h : k < ag.length) : (incL ag k)[k]? = some (ag.getD k 0) := by simp [incL, h]
theorem incL_succ (ag : List Int) (k : Nat) : incL ag (k + 1) = (incL ag k).set k (ag.getD k 0 + 1) := by
  apply List.ext_getElem?
  intro i
  rw [List.getElem?_set, incL_length]
  by_cases hi : i < ag.length
  · by_cases e : k = i
    · subst e; simp [incL, hi]
    · have : (i < k + 1) = (i < k) := by rw [eq_iff_iff]; omega
      simp [incL, hi, e, this]
  · rw [List.getElem?_eq_none (by rw [incL_length]; omega), List.getElem?_eq_none (by rw [incL_length]; omega)]
    split
    · rw [if_neg (by omega)]
    · rfl

/-! ### ages out of what was picked -/
theorem age_at (made : List Int) (t : Int) (q : Nat) (hq : q ≤ made.length) (h : ∀ j, made.length - q ≤ j → j < made.length → made.getD j 0 ≠ t) (he : q = made.length ∨ made.getD (made.length - 1 - q) 0 = t) : ageI made t = q := by
  unfold ageI
  have hf : ∀ j, j < q → ∀ (hj : j < made.reverse.length), (made.reverse[j] == t) = false := fun j hj hl => by
    rw [List.getElem_reverse, beq_eq_false_iff_ne]
    have h1 : made.length - 1 - j < made.length := by rw [List.length_reverse] at hl; omega
    have := h (made.length - 1 - j) (by omega) h1
    simpa [List.getD, List.getElem?_eq_getElem h1] using this
  by_cases e : q = made.length
  · rw [List.findIdx_eq_length_of_false]
    · rw [List.length_reverse, e]
    · intro x hx
      obtain ⟨j, hj, rfl⟩ := List.getElem_of_mem hx
      rw [hf j (by rw [List.length_reverse] at hj; omega) hj]
  · have hlt : q < made.reverse.length := by rw [List.length_reverse]; omega
    rw [List.findIdx_eq hlt]
    refine ⟨?_, fun j hj => hf j hj _⟩
    rw [List.getElem_reverse, beq_iff_eq]
    have h1 : made.length - 1 - q < made.length := by omega
    rcases he with he | he
    · exact absurd he e
    · simpa [List.getD, List.getElem?_eq_getElem h1] using he
theorem agA_ageL (made : List Int) (n t : Nat) (h : t < n) : agA (ageL made n) t = ageI made t := by
  unfold agA
  rw [Int.toNat_natCast]
  simp [List.getD, ageL_get made n t h]
theorem countP_rng (ag : List Int) (t : Int) (k : Nat) : (rng (k + 1)).countP (fun o => ltB ag o t) = (rng k).countP (fun o => ltB ag o t) + if ltB ag k t then 1 else 0 := by
  rw [rng_succ, List.countP_append, List.countP_singleton]
theorem countP_rng_le (ag : List Int) (t : Int) (k : Nat) : (rng k).countP (fun o => ltB ag o t) ≤ k := by
  have := List.countP_le_length (p := fun o => ltB ag o t) (l := rng k)
  rwa [rng_length] at this
/-- whether one of the first k is urgent -/
def urgTo (ag : List Int) (n : Nat) (size : Int) (k : Nat) : Bool := (List.range k).any fun t => decide (size - 1 ≤ agA ag (t : Nat) + (rank ag n (t : Nat) : Int))
theorem urgTo_succ (ag : List Int) (n : Nat) (size : Int) (k : Nat) : urgTo ag n size (k + 1) = (urgTo ag n size k || decide (size - 1 ≤ agA ag (k : Nat) + (rank ag n (k : Nat) : Int))) := by
  unfold urgTo
  rw [List.range_succ, List.any_append]
  simp
theorem urgTo_full (ag : List Int) (n : Nat) (size : Int) : urgTo ag n size n = urgB ag n size := rfl
end Go.Proofs.Ytbpkedghnjiehaa
