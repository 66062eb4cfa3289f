/-
  A writer and a reader of many words, run to their ends: plain laws.
-/
import Derived.Test.YtbhcgmiglkocbaaVer5
namespace Go.Proofs.Ytbhcgmiglkocbaa

/-- the arena: c at word 299, the first j of xs from word 3 on -/
def WL (xs : List Int) (j : Nat) (c : Int) : List Int := (List.range 300).map fun i => if i = 299 then c else if 3 ≤ i ∧ i < 3 + j then xs.getD (i - 3) 0 else 0
theorem WL_length (xs : List Int) (j : Nat) (c : Int) : (WL xs j c).length = 300 := by simp [WL]
theorem WL_get (xs : List Int) (j : Nat) (c : Int) (i : Nat) (h : i < 300) : (WL xs j c)[i]? = some (if i = 299 then c else if 3 ≤ i ∧ i < 3 + j then xs.getD (i - 3) 0 else 0) := by simp [WL, h]
theorem WL_getD (xs : List Int) (j : Nat) (c : Int) (i : Nat) (h : i < 300) : (WL xs j c).getD i 0 = (if i = 299 then c else if 3 ≤ i ∧ i < 3 + j then xs.getD (i - 3) 0 else 0) := by
  simp only [List.getD, WL_get xs j c i h, Option.getD_some]
theorem WL_zero (xs : List Int) : WL xs 0 0 = List.replicate 300 0 := by
  apply List.ext_getElem?
  intro i
  by_cases h : i < 300
  · rw [WL_get _ _ _ _ h, List.getElem?_replicate, if_pos h]
    congr 1
    split
    · rfl
    · rw [if_neg (by omega)]
  · rw [List.getElem?_eq_none (by rw [WL_length]; omega), List.getElem?_eq_none (by rw [List.length_replicate]; omega)]
theorem WL_end (xs : List Int) (j : Nat) (c d : Int) : (WL xs j c).set 299 d = WL xs j d := by
  apply List.ext_getElem?
  intro i
  rw [List.getElem?_set, WL_length]
  by_cases h : i < 300
  · rw [WL_get _ _ _ _ h, WL_get _ _ _ _ h]
    by_cases e : 299 = i
    · subst e; simp
    · have e2 : ¬ i = 299 := by omega
      rw [if_neg e]
      simp only [if_neg e2]
  · rw [List.getElem?_eq_none (by rw [WL_length]; omega), List.getElem?_eq_none (by rw [WL_length]; omega)]
    split
    · omega
    · rfl
theorem WL_mid (xs : List Int) (j : Nat) (c : Int) (hj : j ≤ 255) : (WL xs j c).set (3 + j) (xs.getD j 0) = WL xs (j + 1) c := by
  apply List.ext_getElem?
  intro i
  rw [List.getElem?_set, WL_length]
  by_cases h : i < 300
  · rw [WL_get _ _ _ _ h, WL_get _ _ _ _ h]
    by_cases e : 3 + j = i
    · subst e
      rw [if_pos rfl, if_pos (by omega), if_neg (by omega), if_pos (by omega), show 3 + j - 3 = j by omega]
    · rw [if_neg e]
      congr 1
      by_cases e2 : i = 299
      · rw [if_pos e2, if_pos e2]
      · rw [if_neg e2, if_neg e2]
        by_cases e3 : 3 ≤ i ∧ i < 3 + j
        · rw [if_pos e3, if_pos (by omega)]
        · rw [if_neg e3, if_neg (by omega)]
  · rw [List.getElem?_eq_none (by rw [WL_length]; omega), List.getElem?_eq_none (by rw [WL_length]; omega)]
    split
    · omega
    · rfl
theorem doB_in (ws : List Int) (k : Nat) (h : k < ws.length) : doB ws 1 (k : Int) = ws.getD k 0 := by
  unfold doB
  rw [if_pos (doE_in ws 1 k (by omega) h)]
  rfl
theorem E299 (xs : List Int) (j : Nat) (c k : Int) (hk : 1 ≤ k ∧ k ≤ 4) : doE (WL xs j c) k 299 = 0 := doE_in (WL xs j c) k 299 hk (by rw [WL_length]; omega)
theorem B299 (xs : List Int) (j : Nat) (c : Int) : doB (WL xs j c) 1 299 = c := by
  have := doB_in (WL xs j c) 299 (by rw [WL_length]; omega)
  rw [WL_getD _ _ _ _ (by omega), if_pos rfl] at this
  exact this
theorem S299 (xs : List Int) (j : Nat) (c x : Int) : doWs (WL xs j c) 2 299 0 x = WL xs j x := by
  have := doWs_store (WL xs j c) 299 x (by rw [WL_length]; omega)
  rw [WL_end] at this
  exact this
theorem wstp0 (xs : List Int) (fst c : Int) (j : Nat) (hc : c % 2 = 0) : wstp 299 3 xs ⟨fst, 0, false⟩ (WL xs j c) = ⟨⟨c, 1, false⟩, WL xs j c, 0⟩ := by
  unfold wstp
  rw [if_neg (by simp), if_pos rfl, if_pos (E299 _ _ _ _ (by omega)), B299, if_neg (by omega)]
theorem wstp1 (xs : List Int) (fst c : Int) (j : Nat) : wstp 299 3 xs ⟨fst, 1, false⟩ (WL xs j c) = ⟨⟨fst, 2, false⟩, WL xs j (IntKind.u64.wrap (fst + 1)), 0⟩ := by
  unfold wstp
  rw [if_neg (by simp), if_neg (by simp), if_pos rfl, if_pos (E299 _ _ _ _ (by omega)), S299]
theorem wstp2 (xs : List Int) (fst c : Int) (j : Nat) (hN : xs.length ≤ 256) (hj : j < xs.length) : wstp 299 3 xs ⟨fst, 2 + j, false⟩ (WL xs j c) = ⟨⟨fst, 2 + j + 1, false⟩, WL xs (j + 1) c, 0⟩ := by
  have e1 : (3 : Int) + ((2 + j - 2 : Nat) : Int) = ((3 + j : Nat) : Int) := by omega
  have e2 : 2 + j - 2 = j := by omega
  unfold wstp
  rw [if_neg (by simp), if_neg (by show ¬ (2 + j = 0); omega), if_neg (by show ¬ (2 + j = 1); omega), if_pos (by show 2 + j - 2 < _; omega)]
  dsimp only
  rw [e1, if_pos (doE_in _ _ _ (by omega) (by rw [WL_length]; omega)), doWs_store _ _ _ (by rw [WL_length]; omega), e2, WL_mid _ _ _ (by omega)]
theorem wstp3 (xs : List Int) (fst c : Int) (j : Nat) (hj : j = xs.length) : wstp 299 3 xs ⟨fst, 2 + j, false⟩ (WL xs j c) = ⟨⟨fst, 2 + j + 1, true⟩, WL xs j (IntKind.u64.wrap (fst + 2)), 0⟩ := by
  unfold wstp
  rw [if_neg (by simp), if_neg (by show ¬ (2 + j = 0); omega), if_neg (by show ¬ (2 + j = 1); omega), if_neg (by show ¬ (2 + j - 2 < _); omega), if_pos (E299 _ _ _ _ (by omega)), S299]
theorem wit2 (xs : List Int) (hN : xs.length ≤ 256) : ∀ j, j ≤ xs.length → wit 299 3 xs ⟨0, 0, false⟩ (WL xs 0 0) (2 + j) = (⟨0, 2 + j, false⟩, WL xs j 1)
  | 0, _ => by
    show ((wstp 299 3 xs (wit 299 3 xs ⟨0, 0, false⟩ (WL xs 0 0) 1).1 (wit 299 3 xs ⟨0, 0, false⟩ (WL xs 0 0) 1).2).s, (wstp 299 3 xs (wit 299 3 xs ⟨0, 0, false⟩ (WL xs 0 0) 1).1 (wit 299 3 xs ⟨0, 0, false⟩ (WL xs 0 0) 1).2).ws) = _
    have h1 : wit 299 3 xs ⟨0, 0, false⟩ (WL xs 0 0) 1 = (⟨0, 1, false⟩, WL xs 0 0) := by
      show ((wstp 299 3 xs ⟨0, 0, false⟩ (WL xs 0 0)).s, (wstp 299 3 xs ⟨0, 0, false⟩ (WL xs 0 0)).ws) = _
      rw [wstp0 _ _ _ _ (by omega)]
    rw [h1, wstp1]
    rfl
  | j + 1, hj => by
    have ih := wit2 xs hN j (by omega)
    show ((wstp 299 3 xs (wit 299 3 xs ⟨0, 0, false⟩ (WL xs 0 0) (2 + j)).1 (wit 299 3 xs ⟨0, 0, false⟩ (WL xs 0 0) (2 + j)).2).s, (wstp 299 3 xs (wit 299 3 xs ⟨0, 0, false⟩ (WL xs 0 0) (2 + j)).1 (wit 299 3 xs ⟨0, 0, false⟩ (WL xs 0 0) (2 + j)).2).ws) = _
    rw [ih, wstp2 _ _ _ _ hN (by omega)]
    rfl
theorem wit3 (xs : List Int) (hN : xs.length ≤ 256) : wit 299 3 xs ⟨0, 0, false⟩ (WL xs 0 0) (xs.length + 3) = (⟨0, xs.length + 3, true⟩, WL xs xs.length 2) := by
  have ih := wit2 xs hN xs.length (Nat.le_refl _)
  rw [show xs.length + 3 = 2 + xs.length + 1 by omega]
  show ((wstp 299 3 xs (wit 299 3 xs ⟨0, 0, false⟩ (WL xs 0 0) (2 + xs.length)).1 (wit 299 3 xs ⟨0, 0, false⟩ (WL xs 0 0) (2 + xs.length)).2).s, (wstp 299 3 xs (wit 299 3 xs ⟨0, 0, false⟩ (WL xs 0 0) (2 + xs.length)).1 (wit 299 3 xs ⟨0, 0, false⟩ (WL xs 0 0) (2 + xs.length)).2).ws) = _
  rw [ih, wstp3 _ _ _ _ rfl]
  rfl
theorem wgo (xs : List Int) (hN : xs.length ≤ 256) : ∀ i, i < xs.length + 3 → wOk 299 3 xs ⟨0, 0, false⟩ (WL xs 0 0) i = true ∧ wEnd 299 3 xs ⟨0, 0, false⟩ (WL xs 0 0) i = false := fun i hi => by
  unfold wOk wEnd
  match i with
  | 0 => exact ⟨by show ((wstp 299 3 xs ⟨0, 0, false⟩ (WL xs 0 0)).e == 0) = true; rw [wstp0 _ _ _ _ (by omega)]; rfl, rfl⟩
  | 1 =>
    have h1 : wit 299 3 xs ⟨0, 0, false⟩ (WL xs 0 0) 1 = (⟨0, 1, false⟩, WL xs 0 0) := by
      show ((wstp 299 3 xs ⟨0, 0, false⟩ (WL xs 0 0)).s, (wstp 299 3 xs ⟨0, 0, false⟩ (WL xs 0 0)).ws) = _
      rw [wstp0 _ _ _ _ (by omega)]
    rw [h1]
    exact ⟨by dsimp only; rw [wstp1]; rfl, rfl⟩
  | j + 2 =>
    have h2 := wit2 xs hN j (by omega)
    rw [show j + 2 = 2 + j by omega, h2]
    refine ⟨?_, rfl⟩
    dsimp only
    by_cases e : j = xs.length
    · rw [wstp3 _ _ _ _ e]; rfl
    · rw [wstp2 _ _ _ _ hN (by omega)]; rfl
/-! ### the reader -/
theorem rstp0 (xs : List Int) : rstp 299 3 xs.length (rs0 1) (WL xs xs.length 2) = ⟨⟨true, 2, [], 1, 0, false⟩, false, 0⟩ := by
  have ha : rAt 299 3 xs.length (rs0 1) = 299 := by unfold rAt rs0; rw [if_neg (by simp)]
  unfold rstp
  rw [if_neg (by simp [rs0]), ha, if_neg (by rw [E299 _ _ _ _ (by omega)]; simp), B299]
  unfold rGo
  rw [if_pos (show (rs0 1).lk = false from rfl), if_neg (by omega)]
  rfl
theorem take_snoc (xs : List Int) (k : Nat) (h : k < xs.length) : xs.take (k + 1) = xs.take k ++ [xs.getD k 0] := by
  rw [List.take_succ_eq_append_getElem h]
  simp [List.getD, List.getElem?_eq_getElem h]
theorem rstp1 (xs : List Int) (hN : xs.length ≤ 256) (j : Nat) (hj : j < xs.length) : rstp 299 3 xs.length ⟨true, 2, xs.take j, 1, 0, false⟩ (WL xs xs.length 2) = ⟨⟨true, 2, xs.take (j + 1), 1, 0, false⟩, false, 0⟩ := by
  have hl : (xs.take j).length = j := by simp; omega
  have ha : rAt 299 3 xs.length ⟨true, 2, xs.take j, 1, 0, false⟩ = ((3 + j : Nat) : Int) := by
    unfold rAt
    dsimp only
    rw [hl, if_pos ⟨rfl, by omega⟩]
    omega
  unfold rstp
  rw [if_neg (by simp), ha, if_neg (by rw [doE_in _ _ _ (by omega) (by rw [WL_length]; omega)]; simp), doB_in _ _ (by rw [WL_length]; omega), WL_getD _ _ _ _ (by omega), if_neg (by omega), if_pos (by omega)]
  unfold rGo
  dsimp only
  rw [if_neg (by simp), hl, if_pos (by omega), take_snoc xs j hj, show 3 + j - 3 = j by omega]
theorem rstp2 (xs : List Int) : rstp 299 3 xs.length ⟨true, 2, xs, 1, 0, false⟩ (WL xs xs.length 2) = ⟨⟨true, 2, xs, 1, 1, true⟩, false, 0⟩ := by
  have ha : rAt 299 3 xs.length ⟨true, 2, xs, 1, 0, false⟩ = 299 := by
    unfold rAt
    rw [if_neg (by dsimp only; omega)]
  unfold rstp
  rw [if_neg (by simp), ha, if_neg (by rw [E299 _ _ _ _ (by omega)]; simp), B299]
  unfold rGo
  dsimp only
  rw [if_neg (by simp), if_neg (by omega), if_pos rfl]
theorem rit1 (xs : List Int) (hN : xs.length ≤ 256) : ∀ j, j ≤ xs.length → rit 299 3 xs.length (rs0 1) (WL xs xs.length 2) (j + 1) = ⟨true, 2, xs.take j, 1, 0, false⟩
  | 0, _ => by
    show (rstp 299 3 xs.length (rs0 1) (WL xs xs.length 2)).s = _
    rw [rstp0]
    rfl
  | j + 1, hj => by
    have ih := rit1 xs hN j (by omega)
    show (rstp 299 3 xs.length (rit 299 3 xs.length (rs0 1) (WL xs xs.length 2) (j + 1)) (WL xs xs.length 2)).s = _
    rw [ih, rstp1 xs hN j (by omega)]
theorem rit2 (xs : List Int) (hN : xs.length ≤ 256) : rit 299 3 xs.length (rs0 1) (WL xs xs.length 2) (xs.length + 2) = ⟨true, 2, xs, 1, 1, true⟩ := by
  have ih := rit1 xs hN xs.length (Nat.le_refl _)
  rw [List.take_length] at ih
  show (rstp 299 3 xs.length (rit 299 3 xs.length (rs0 1) (WL xs xs.length 2) (xs.length + 1)) (WL xs xs.length 2)).s = _
  rw [ih, rstp2]
theorem rgo (xs : List Int) (hN : xs.length ≤ 256) : ∀ i, i < xs.length + 2 → rOk 299 3 xs.length (rs0 1) (WL xs xs.length 2) i = true ∧ rEnd 299 3 xs.length (rs0 1) (WL xs xs.length 2) i = false := fun i hi => by
  unfold rOk rEnd
  match i with
  | 0 => exact ⟨by show (((rstp 299 3 xs.length (rs0 1) (WL xs xs.length 2)).e == 0) && !(rstp 299 3 xs.length (rs0 1) (WL xs xs.length 2)).wt) = true; rw [rstp0]; rfl, rfl⟩
  | j + 1 =>
    have h1 := rit1 xs hN j (by omega)
    rw [h1]
    refine ⟨?_, rfl⟩
    by_cases e : j = xs.length
    · subst e
      rw [List.take_length, rstp2]; rfl
    · rw [rstp1 xs hN j (by omega)]; rfl
end Go.Proofs.Ytbhcgmiglkocbaa
