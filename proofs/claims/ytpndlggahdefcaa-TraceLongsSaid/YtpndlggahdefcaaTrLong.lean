/-
  The longest trace: plain facts of the list whose things all wait, two threads by turns.
-/
import Derived.Test.YtpndlggahdefcaaLTr
namespace Go.Proofs.Ytpndlggahdefcaa

/-- thing i -/
def pt (i : Nat) : Dd := ⟨((i % 2 : Nat) : Int), 1, ((i % 2 : Nat) : Int), 0, 0, true, false⟩
def ptL (n : Nat) : List Dd := (List.range n).map pt
theorem ptL_len (n : Nat) : (ptL n).length = n := by simp [ptL]
theorem ptL_at {n i : Nat} (h : i < n) : (ptL n)[i]? = some (pt i) := by
  unfold ptL
  rw [List.getElem?_map, List.getElem?_range h]
  rfl
theorem pt_right (i : Nat) : rightB (pt i) = true := by
  have : i % 2 < 2 := Nat.mod_lt _ (by omega)
  rw [rightB_iff]
  unfold pt
  simp only
  refine ⟨by omega, by omega, by omega, by omega, .inr ⟨by omega, by trivial⟩, .inl (by omega), .inr ⟨by omega, by omega⟩, .inr ?_⟩
  trivial
theorem ptL_right (n : Nat) : ∀ d ∈ ptL n, rightB d = true := by
  intro d hd
  obtain ⟨i, _, rfl⟩ := List.mem_map.1 hd
  exact pt_right i
theorem ptL_good (n : Nat) : ∀ k, k ≤ n → goodB (ptL n) k = true
  | 0, _ => rfl
  | k + 1, hk => by
    rw [goodB_succ (ptL n) k (ptL_at (by omega)), ptL_good n k (by omega), pt_right]
    have : enB ((ptL n).take k) (pt k).t = false := by
      unfold enB
      rw [List.any_eq_false]
      intro x hx
      obtain ⟨i, _, rfl⟩ := List.mem_map.1 (List.mem_of_mem_take hx)
      simp [pt]
    rw [this]
    rfl
theorem ptL_wrong (n : Nat) : wrongF (ptL n) = if 100000 < n then 5 else 0 := by
  unfold wrongF validB
  rw [ptL_len, ptL_good n n (Nat.le_refl _)]
  split
  · rfl
  · rw [decide_eq_true (by omega)]
    rfl
theorem atB_pt (i : Nat) : atB (pt i) = ((i % 2 : Nat) : Int) := by
  unfold atB pt
  simp
theorem lastAt_pt (n : Nat) (p : Nat) (hp : p < 2) : ∀ k, k ≤ n → lastAt (ptL n) (p : Int) k = if p < k then (p : Int) else -1
  | 0, _ => by rw [if_neg (by omega)]; rfl
  | k + 1, hk => by
    rw [lastAt_succ _ _ _ (ptL_at (by omega)), atB_pt, lastAt_pt n p hp k (by omega)]
    have ht : (pt k).t = ((k % 2 : Nat) : Int) := rfl
    rw [ht]
    by_cases e : k % 2 = p
    · rw [if_pos (by omega), e]
      have : p ≤ k := by rw [← e]; exact Nat.mod_le _ _
      rw [if_pos (by omega)]
    · rw [if_neg (by omega)]
      by_cases h : p < k
      · rw [if_pos h, if_pos (by omega)]
      · rw [if_neg h, if_neg]
        intro h2
        have : p = k := by omega
        subst this
        exact e (Nat.mod_eq_of_lt hp)
theorem start_pt (n i : Nat) (hi : i < n) : startB (ptL n) i = decide (i < 2) := by
  have hm : i % 2 < 2 := Nat.mod_lt _ (by omega)
  have h := startB_iff (ptL_at hi)
  rw [atB_pt, show (pt i).t = ((i % 2 : Nat) : Int) from rfl, lastAt_pt n (i % 2) hm i (by omega)] at h
  rw [Bool.eq_iff_iff, h, decide_eq_true_iff]
  by_cases e : i < 2
  · rw [Nat.mod_eq_of_lt e, if_neg (by omega)]
    constructor
    · intro _; exact e
    · intro _; exact ⟨by omega, by omega⟩
  · have : i % 2 < i := by omega
    rw [if_pos this]
    constructor
    · rintro ⟨_, h⟩; exact absurd rfl h
    · intro h; exact absurd h e
theorem itR_pt (n i : Nat) (hi : i < 2) : ∀ m, (itR (ptL n) (i : Int) (i : Int) i m) = (⟨i, i, i, -1, -1⟩, true)
  | 0 => rfl
  | m + 1 => by
    have ih := itR_pt n i hi m
    show (match (ptL n)[i + 1 + m]? with | some d => itS (i : Int) (i : Int) (i + 1 + m) d (itR (ptL n) i i i m) | none => itR (ptL n) i i i m) = _
    by_cases h : i + 1 + m < n
    · rw [ptL_at h, ih]
      show itS (i : Int) (i : Int) (i + 1 + m) (pt (i + 1 + m)) (⟨i, i, i, -1, -1⟩, true) = _
      unfold itS
      rw [if_neg (by simp)]
      by_cases e : (pt (i + 1 + m)).t = (i : Int)
      · rw [if_pos e, atB_pt]
        have : (((i + 1 + m) % 2 : Nat) : Int) = i := e
        rw [this]
        simp
      · rw [if_neg e]
        have : chB (pt (i + 1 + m)) (i : Int) = false := by
          unfold chB pt
          simp
        rw [this]
        simp
    · rw [List.getElem?_eq_none (by rw [ptL_len]; omega)]
      exact ih
theorem refW_pt (n : Nat) (h2 : 2 ≤ n) : ∀ k, 2 ≤ k → k ≤ n → refW (ptL n) k = [⟨0, 0, 0, -1, -1⟩, ⟨1, 1, 1, -1, -1⟩]
  | 0, h, _ => by omega
  | 1, h, _ => by omega
  | 2, _, _ => by
    have e0 : refAt (ptL n) 0 = [⟨0, 0, 0, -1, -1⟩] := by
      unfold refAt
      rw [ptL_at (by omega), start_pt n 0 (by omega)]
      have := itR_pt n 0 (by omega) ((ptL n).length - 1 - 0)
      simp only [atB_pt]
      show (if decide (0 < 2) = true then [(itR (ptL n) ((0 : Nat) : Int) ((0 : Nat) : Int) 0 _).1] else []) = _
      rw [this]
      rfl
    have e1 : refAt (ptL n) 1 = [⟨1, 1, 1, -1, -1⟩] := by
      unfold refAt
      rw [ptL_at (by omega), start_pt n 1 (by omega)]
      have := itR_pt n 1 (by omega) ((ptL n).length - 1 - 1)
      simp only [atB_pt]
      show (if decide (1 < 2) = true then [(itR (ptL n) ((1 : Nat) : Int) ((1 : Nat) : Int) 1 _).1] else []) = _
      rw [this]
      rfl
    show ([] ++ refAt (ptL n) 0) ++ refAt (ptL n) 1 = _
    rw [e0, e1]
    rfl
  | k + 3, _, hk => by
    have ih := refW_pt n h2 (k + 2) (by omega) (by omega)
    show refW (ptL n) (k + 2) ++ refAt (ptL n) (k + 2) = _
    have : refAt (ptL n) (k + 2) = [] := by
      unfold refAt
      rw [ptL_at (by omega), start_pt n (k + 2) (by omega)]
      simp
    rw [ih, this, List.append_nil]
theorem st_zero (m i : Nat) : stW (List.replicate m 0) (pt i) = List.replicate m 0 := by
  unfold stW pt
  simp only
  rw [if_neg (by omega)]
  apply List.ext_getElem?
  intro j
  rw [List.getElem?_set]
  split
  · rename_i h
    split
    · rename_i h2
      rw [List.length_replicate] at h2
      rw [← h, List.getElem?_replicate, if_pos h2]
    · rename_i h2
      rw [List.length_replicate] at h2
      rw [← h, List.getElem?_replicate, if_neg h2]
  · rfl
theorem rp_zero (m n : Nat) : ∀ k, k ≤ n → rpW (List.replicate m 0) ((ptL n).take k) = List.replicate m 0
  | 0, _ => rfl
  | k + 1, hk => by rw [take_snoc _ k _ (ptL_at (by omega)), rpW_snoc, rp_zero m n k (by omega), st_zero]
theorem fit_zero (m n : Nat) (hm : 2 ≤ m) : ∀ k, k ≤ n → fitB (List.replicate m 0) (ptL n) k = true
  | 0, _ => rfl
  | k + 1, hk => by
    rw [fitB_succ _ _ k (ptL_at (by omega)), fit_zero m n hm k (by omega), rp_zero m n k (by omega), Bool.true_and]
    have : k % 2 < 2 := Nat.mod_lt _ (by omega)
    unfold stF pt
    rw [decide_eq_true_iff]
    refine .inr ⟨by simp only; omega, by simp only [List.length_replicate]; omega, ?_⟩
    simp only [Int.toNat_natCast]
    rw [List.getD, List.getElem?_replicate, if_pos (by omega)]
    rfl
/-- what the helpers are asked -/
theorem long_ck (n m : Nat) (hn : 100000 < n) : ckV (List.replicate m 0) (ptL n) = (0, 5) ∧ ryV (List.replicate m 0) (ptL n) = ([], 5) ∧ wtV (ptL n) = ([], 5) ∧ chV (ptL n) 0 = ([], 5) ∧ ofV (ptL n) 0 = ([], 5) ∧ validB (ptL n) = false := by
  have h := ptL_wrong n
  rw [if_pos hn] at h
  unfold ckV ryV wtV chV ofV
  rw [h]
  refine ⟨rfl, rfl, rfl, rfl, rfl, ?_⟩
  unfold validB
  rw [ptL_len, decide_eq_false (by omega), Bool.and_false]
theorem long_arg (n m : Nat) (hn : ¬ 100000 < n) (hm : 65536 < m) : ckV (List.replicate m 0) (ptL n) = (0, 2) ∧ ryV (List.replicate m 0) (ptL n) = ([], 2) := by
  have h := ptL_wrong n
  rw [if_neg hn] at h
  unfold ckV ryV
  rw [h, List.length_replicate, if_neg (by omega), if_pos (by omega), if_neg (by omega), if_pos (by omega)]
  exact ⟨rfl, rfl⟩
theorem long_ok (n m : Nat) (hn : ¬ 100000 < n) (h2 : 2 ≤ n) (hm : ¬ 65536 < m) (hm2 : 2 ≤ m) : ckV (List.replicate m 0) (ptL n) = (-1, 0) ∧ wtV (ptL n) = ([⟨0, 0, 0, -1, -1⟩, ⟨1, 1, 1, -1, -1⟩], 0) ∧ validB (ptL n) = true := by
  have h := ptL_wrong n
  rw [if_neg hn] at h
  unfold ckV wtV
  have hf := fit_zero m n hm2 n (Nat.le_refl _)
  rw [h, List.length_replicate, ptL_len, if_neg (by omega), if_neg (by omega), if_pos hf, if_neg (by omega), refW_pt n h2 n h2 (Nat.le_refl _)]
  refine ⟨rfl, rfl, ?_⟩
  unfold validB
  rw [ptL_len, ptL_good n n (Nat.le_refl _), decide_eq_true (by omega)]
  rfl
theorem pt_wf (i : Nat) : (pt i).wf := by
  have : i % 2 < 2 := Nat.mod_lt _ (by omega)
  unfold Dd.wf pt i64B u64B
  simp only
  omega
theorem ptL_wf (n : Nat) : ∀ d ∈ ptL n, d.wf := by
  intro d hd
  obtain ⟨i, _, rfl⟩ := List.mem_map.1 hd
  exact pt_wf i
end Go.Proofs.Ytpndlggahdefcaa
