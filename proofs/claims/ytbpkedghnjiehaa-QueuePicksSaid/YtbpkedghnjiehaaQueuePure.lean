/-
  What package queue computes: plain functions on numbers and lists, and their laws.
-/
import Derived.Handy
namespace Go.Proofs.Ytbpkedghnjiehaa

def thrB (n : Int) : Bool := decide (1 ≤ n) && decide (n ≤ 64)
def inB (n t : Int) : Bool := decide (0 ≤ t) && decide (t < n)
def validB (l : List Int) (n : Int) : Bool := thrB n && decide (l.length ≤ 100000) && l.all (inB n)
def wrongE (l : List Int) (n : Int) : Int := if thrB n = false then 2 else if 100000 < l.length then 5 else if l.all (inB n) then 0 else 2
theorem qtake_snoc (xs : List Int) (k : Nat) (h : k < xs.length) : xs.take (k + 1) = xs.take k ++ [xs.getD k 0] := by
  rw [List.take_succ_eq_append_getElem h]
  simp [List.getD, List.getElem?_eq_getElem h]

/-- the index of the first one that meets p, -1 if none does -/
def idxOf (p : Int → Bool) (xs : List Int) : Int := match xs.findIdx? p with | some i => i | none => -1
theorem idx_hit (p : Int → Bool) (xs : List Int) (k : Nat) (hk : k < xs.length) (h0 : ∀ j, j < k → p (xs.getD j 0) = false) (h : p (xs.getD k 0) = true) : idxOf p xs = k := by
  have : xs.findIdx? p = some k := by
    rw [List.findIdx?_eq_some_iff_getElem]
    refine ⟨hk, by simpa [List.getD, List.getElem?_eq_getElem hk] using h, fun j hj => ?_⟩
    have := h0 j hj
    simpa [List.getD, List.getElem?_eq_getElem (show j < xs.length by omega)] using this
  simp [idxOf, this]
theorem idx_none (p : Int → Bool) (xs : List Int) (h0 : ∀ j, j < xs.length → p (xs.getD j 0) = false) : idxOf p xs = -1 := by
  have : xs.findIdx? p = none := by
    rw [List.findIdx?_eq_none_iff]
    intro x hx
    obtain ⟨j, hj, rfl⟩ := List.getElem_of_mem hx
    have := h0 j hj
    simpa [List.getD, List.getElem?_eq_getElem hj] using this
  simp [idxOf, this]
theorem idx_any (p : Int → Bool) (xs : List Int) : decide (0 ≤ idxOf p xs) = xs.any p := by
  unfold idxOf
  cases h : xs.findIdx? p with
  | none =>
    rw [List.findIdx?_eq_none_iff] at h
    have : xs.any p = false := by
      rw [Bool.eq_false_iff]
      intro e
      obtain ⟨x, hx, hp⟩ := List.any_eq_true.1 e
      rw [h x hx] at hp
      cases hp
    rw [this]
    rfl
  | some k =>
    rw [List.findIdx?_eq_some_iff_getElem] at h
    obtain ⟨hk, hp, _⟩ := h
    have : xs.any p = true := List.any_eq_true.2 ⟨_, List.getElem_mem hk, hp⟩
    rw [this]
    simp

/-! ### how often -/
def cnt (l : List Int) (t : Int) : Nat := l.countP (fun x => x == t)
theorem cnt_snoc (l : List Int) (k : Nat) (h : k < l.length) (t : Int) : cnt (l.take (k + 1)) t = cnt (l.take k) t + if l.getD k 0 = t then 1 else 0 := by
  unfold cnt
  rw [qtake_snoc l k h, List.countP_append, List.countP_singleton]
  simp only [beq_iff_eq]
theorem cnt_le (l : List Int) (t : Int) : cnt l t ≤ l.length := List.countP_le_length
def cntL (l : List Int) (n : Nat) : List Int := (List.range n).map fun t => (cnt l (t : Nat) : Int)
theorem cntL_length (l : List Int) (n : Nat) : (cntL l n).length = n := by simp [cntL]
theorem cntL_get (l : List Int) (n t : Nat) (h : t < n) : (cntL l n)[t]? = some (cnt l t : Int) := by simp [cntL, h]
theorem cntL_snoc (l : List Int) (k n t : Nat) (h : k < l.length) (ht : t < n) (e : l.getD k 0 = t) : cntL (l.take (k + 1)) n = (cntL (l.take k) n).set t ((cnt (l.take k) t : Int) + 1) := by
  apply List.ext_getElem?
  intro i
  rw [List.getElem?_set]
  by_cases hi : i < n
  · rw [cntL_get _ _ _ hi, cnt_snoc l k h, e]
    by_cases hti : t = i
    · subst hti
      rw [if_pos rfl, if_pos rfl, if_pos (by rw [cntL_length]; exact ht)]
      simp
    · rw [if_neg hti, cntL_get _ _ _ hi, if_neg (by omega)]
      rfl
  · rw [List.getElem?_eq_none (by rw [cntL_length]; omega)]
    split
    · omega
    · rw [List.getElem?_eq_none (by rw [cntL_length]; omega)]
theorem cntL_zero (n : Nat) : cntL [] n = List.replicate n 0 := by
  apply List.ext_getElem?
  intro i
  simp [cntL, cnt, List.getElem?_replicate]
  by_cases h : i < n <;> simp [h]

/-! ### windows -/
def lastI (l : List Int) : Nat → Int → Nat
  | 0, _ => 0
  | k + 1, t => if l.getD k 0 = t then k + 1 else lastI l k t
def lgI (l : List Int) : Nat → Nat
  | 0 => 0
  | k + 1 => max (lgI l k) (k - lastI l k (l.getD k 0))
def lfI (l : List Int) : Nat → Nat
  | 0 => lgI l l.length
  | t + 1 => max (lfI l t) (l.length - lastI l l.length (t : Nat))
def windowI (l : List Int) (n : Nat) : Nat := lfI l n + 1
def lastL (l : List Int) (k n : Nat) : List Int := (List.range n).map fun t => (lastI l k (t : Nat) : Int)
theorem lastL_length (l : List Int) (k n : Nat) : (lastL l k n).length = n := by simp [lastL]
theorem lastL_get (l : List Int) (k n t : Nat) (h : t < n) : (lastL l k n)[t]? = some (lastI l k t : Int) := by simp [lastL, h]
theorem lastL_succ (l : List Int) (k n t : Nat) (ht : t < n) (e : l.getD k 0 = t) : lastL l (k + 1) n = (lastL l k n).set t ((k : Int) + 1) := by
  apply List.ext_getElem?
  intro i
  rw [List.getElem?_set]
  by_cases hi : i < n
  · rw [lastL_get _ _ _ _ hi]
    unfold lastI
    rw [e]
    by_cases hti : t = i
    · subst hti
      rw [if_pos rfl, if_pos rfl, if_pos (by rw [lastL_length]; exact ht)]
      simp
    · rw [if_neg hti, lastL_get _ _ _ _ hi, if_neg (by omega)]
  · rw [List.getElem?_eq_none (by rw [lastL_length]; omega)]
    split
    · omega
    · rw [List.getElem?_eq_none (by rw [lastL_length]; omega)]
theorem lastL_zero (l : List Int) (n : Nat) : lastL l 0 n = List.replicate n 0 := by
  apply List.ext_getElem?
  intro i
  simp [lastL, lastI, List.getElem?_replicate]
  by_cases h : i < n <;> simp [h]
theorem lastI_succ (l : List Int) (k : Nat) (t : Int) : lastI l (k + 1) t = if l.getD k 0 = t then k + 1 else lastI l k t := rfl
theorem lastI_le (l : List Int) (t : Int) : ∀ k, lastI l k t ≤ k
  | 0 => Nat.le_refl _
  | k + 1 => by unfold lastI; split; exact Nat.le_refl _; exact Nat.le_trans (lastI_le l t k) (Nat.le_succ k)
theorem lastI_none (l : List Int) (t : Int) : ∀ k j, lastI l k t ≤ j → j < k → l.getD j 0 ≠ t
  | 0, _, _, h => by omega
  | k + 1, j, h1, h2 => by
    unfold lastI at h1
    split at h1
    · omega
    · rename_i hne
      by_cases e : j = k
      · rw [e]; exact hne
      · exact lastI_none l t k j h1 (by omega)
theorem lastI_some (l : List Int) (t : Int) : ∀ k, 0 < lastI l k t → l.getD (lastI l k t - 1) 0 = t
  | 0, h => by unfold lastI at h; omega
  | k + 1, h => by
    unfold lastI at h ⊢
    split
    · rename_i e; exact e
    · rename_i hne
      rw [if_neg hne] at h
      exact lastI_some l t k h
theorem lgI_le (l : List Int) : ∀ k, lgI l k ≤ k
  | 0 => Nat.le_refl _
  | k + 1 => by unfold lgI; have := lgI_le l k; omega
theorem lfI_le (l : List Int) : ∀ n, lfI l n ≤ l.length
  | 0 => lgI_le l _
  | n + 1 => by unfold lfI; have := lfI_le l n; omega
/-- a window of size m from a on has t -/
def hasW (l : List Int) (a m : Nat) (t : Int) : Prop := ∃ j, a ≤ j ∧ j < a + m ∧ l.getD j 0 = t
def FairP (l : List Int) (n m : Nat) : Prop := ∀ a, a + m ≤ l.length → ∀ t : Nat, t < n → hasW l a m t
theorem lgI_iff (l : List Int) (n : Nat) (hl : ∀ j, j < l.length → ∃ t : Nat, l.getD j 0 = t ∧ t < n) (m : Nat) (hm : 1 ≤ m) :
    ∀ k, k ≤ l.length → (lgI l k < m ↔ ∀ t : Nat, t < n → ∀ a, a + m ≤ lastI l k t → hasW l a m t)
  | 0, _ => by
    constructor
    · intro _ t _ a h
      unfold lastI at h
      omega
    · intro _
      unfold lgI
      omega
  | k + 1, hk => by
    have ih := lgI_iff l n hl m hm k (by omega)
    obtain ⟨t0, e0, ht0⟩ := hl k (by omega)
    have hle := lastI_le l (t0 : Int) k
    constructor
    · intro h t ht a ha
      unfold lgI at h
      rw [e0] at h
      have h1 := ih.1 (by omega)
      by_cases e : t = t0
      · subst e
        by_cases e1 : a + m = k + 1
        · exact ⟨k, by omega, by omega, e0⟩
        · unfold lastI at ha
          rw [if_pos e0] at ha
          by_cases e2 : a < lastI l k t
          · by_cases e3 : a + m ≤ lastI l k t
            · exact h1 t ht a e3
            · exact ⟨lastI l k t - 1, by omega, by omega, lastI_some l t k (by omega)⟩
          · omega
      · unfold lastI at ha
        rw [e0, if_neg (by omega)] at ha
        exact h1 t ht a ha
    · intro h
      unfold lgI
      rw [e0]
      have h1 : lgI l k < m := ih.2 fun t ht a ha => by
        by_cases e : t = t0
        · refine h t ht a ?_
          have := lastI_le l (t : Int) k
          unfold lastI
          rw [e0, if_pos (by omega)]
          omega
        · refine h t ht a ?_
          unfold lastI
          rw [e0, if_neg (by omega)]
          exact ha
      have h2 : k - lastI l k t0 < m := by
        apply Nat.lt_of_not_le
        intro hc
        have := h t0 ht0 (lastI l k t0) (by
          rw [lastI_succ, if_pos e0]
          omega)
        obtain ⟨j, j1, j2, j3⟩ := this
        exact lastI_none l t0 k j j1 (by omega) j3
      omega
theorem lfI_iff (l : List Int) (m : Nat) : ∀ n, (lfI l n < m ↔ lgI l l.length < m ∧ ∀ t : Nat, t < n → l.length - lastI l l.length t < m)
  | 0 => by
    constructor
    · intro h; exact ⟨h, fun t ht => by omega⟩
    · intro h; exact h.1
  | n + 1 => by
    have ih := lfI_iff l m n
    constructor
    · intro h
      unfold lfI at h
      have h1 := ih.1 (by omega)
      refine ⟨h1.1, fun t ht => ?_⟩
      by_cases e : t = n
      · subst e; omega
      · exact h1.2 t (by omega)
    · intro h
      have h1 := ih.2 ⟨h.1, fun t ht => h.2 t (by omega)⟩
      have h2 := h.2 n (by omega)
      unfold lfI
      omega
theorem window_iff (l : List Int) (n : Nat) (hl : ∀ j, j < l.length → ∃ t : Nat, l.getD j 0 = t ∧ t < n) (m : Nat) (hm : 1 ≤ m) : windowI l n ≤ m ↔ FairP l n m := by
  have h1 := lgI_iff l n hl m hm l.length (Nat.le_refl _)
  have h2 := lfI_iff l m n
  unfold windowI
  rw [Nat.add_one_le_iff, h2, h1]
  constructor
  · intro ⟨g1, g2⟩ a ha t ht
    have hle := lastI_le l (t : Int) l.length
    by_cases e2 : a < lastI l l.length t
    · by_cases e3 : a + m ≤ lastI l l.length t
      · exact g1 t ht a e3
      · exact ⟨lastI l l.length t - 1, by omega, by omega, lastI_some l t _ (by omega)⟩
    · have := g2 t ht
      omega
  · intro h
    refine ⟨fun t ht a ha => h a (by have := lastI_le l (t : Int) l.length; omega) t ht, fun t ht => ?_⟩
    apply Nat.lt_of_not_le
    intro hc
    obtain ⟨j, j1, j2, j3⟩ := h (lastI l l.length t) (by omega) t ht
    exact lastI_none l t l.length j j1 (by omega) j3
theorem window_pos (l : List Int) (n : Nat) : 1 ≤ windowI l n := by unfold windowI; omega
theorem window_le (l : List Int) (n : Nat) : windowI l n ≤ l.length + 1 := by have := lfI_le l n; unfold windowI; omega
theorem all_in {l : List Int} {n : Nat} (h : l.all (inB n) = true) : ∀ j, j < l.length → ∃ t : Nat, l.getD j 0 = t ∧ t < n := fun j hj => by
  rw [List.all_eq_true] at h
  have := h l[j] (List.getElem_mem hj)
  unfold inB at this
  simp at this
  refine ⟨l[j].toNat, ?_, ?_⟩
  · simp [List.getD, List.getElem?_eq_getElem hj]; omega
  · omega

/-! ### the order of ages -/
def agA (ag : List Int) (t : Int) : Int := ag.getD t.toNat 0
def ltA (ag : List Int) (s t : Int) : Prop := agA ag t < agA ag s ∨ (agA ag s = agA ag t ∧ s < t)
def ltB (ag : List Int) (s t : Int) : Bool := decide (agA ag t < agA ag s) || (decide (agA ag s = agA ag t) && decide (s < t))
theorem ltB_iff (ag : List Int) (s t : Int) : ltB ag s t = true ↔ ltA ag s t := by unfold ltB ltA; simp
theorem ltA_trans {ag : List Int} {a b c : Int} (h : ltA ag a b) (k : ltA ag b c) : ltA ag a c := by unfold ltA at *; omega
theorem ltA_irrefl {ag : List Int} {a : Int} : ¬ ltA ag a a := by unfold ltA; omega
def rng (n : Nat) : List Int := (List.range n).map fun t => ((t : Nat) : Int)
theorem rng_length (n : Nat) : (rng n).length = n := by simp [rng]
theorem rng_get (n t : Nat) (h : t < n) : (rng n)[t]? = some (t : Int) := by simp [rng, h]
theorem rng_succ (n : Nat) : rng (n + 1) = rng n ++ [(n : Int)] := by simp [rng, List.range_succ]
theorem mem_rng {n : Nat} {x : Int} : x ∈ rng n ↔ 0 ≤ x ∧ x < n := by
  unfold rng
  simp only [List.mem_map, List.mem_range]
  constructor
  · rintro ⟨t, ht, rfl⟩; omega
  · intro h; exact ⟨x.toNat, by omega, by omega⟩
/-- sorted by age, and by number where ages are equal; all of the first n -/
structure Ord (ag : List Int) (n : Nat) (d : List Int) : Prop where
  perm : d.Perm (rng n)
  sort : d.Pairwise (ltA ag)
theorem Ord.length {ag : List Int} {n : Nat} {d : List Int} (h : Ord ag n d) : d.length = n := by rw [h.perm.length_eq, rng_length]
def rank (ag : List Int) (n : Nat) (t : Int) : Nat := (rng n).countP (fun o => ltB ag o t)
theorem countP_sorted (ag : List Int) : ∀ (d : List Int), d.Pairwise (ltA ag) → ∀ i (hi : i < d.length), d.countP (fun o => ltB ag o (d[i])) = i
  | [], _, i, hi => absurd hi (by simp)
  | x :: d, h, 0, _ => by
    rw [List.pairwise_cons] at h
    rw [List.countP_eq_zero]
    intro y hy
    simp only [List.getElem_cons_zero, Bool.not_eq_true]
    rw [Bool.eq_false_iff]
    intro e
    rw [ltB_iff] at e
    rcases List.mem_cons.1 hy with rfl | hy
    · exact ltA_irrefl e
    · exact ltA_irrefl (ltA_trans e (h.1 y hy))
  | x :: d, h, i + 1, hi => by
    rw [List.pairwise_cons] at h
    have ih := countP_sorted ag d h.2 i (by simpa using hi)
    simp only [List.getElem_cons_succ]
    rw [List.countP_cons, ih, if_pos]
    rw [ltB_iff]
    exact h.1 _ (List.getElem_mem _)
theorem Ord.rank {ag : List Int} {n : Nat} {d : List Int} (h : Ord ag n d) (i : Nat) (hi : i < n) : rank ag n (d.getD i 0) = i := by
  have hl : i < d.length := by rw [h.length]; exact hi
  have e : d.getD i 0 = d[i] := by simp [List.getD, List.getElem?_eq_getElem hl]
  unfold Proofs.Ytbpkedghnjiehaa.rank
  rw [e, ← h.perm.countP_eq]
  exact countP_sorted ag d h.sort i hl
theorem Ord.get {ag : List Int} {n : Nat} {d : List Int} (h : Ord ag n d) (i : Nat) (hi : i < n) : 0 ≤ d.getD i 0 ∧ d.getD i 0 < n := by
  have hl : i < d.length := by rw [h.length]; exact hi
  have e : d.getD i 0 = d[i] := by simp [List.getD, List.getElem?_eq_getElem hl]
  rw [e, ← mem_rng]
  exact h.perm.mem_iff.1 (List.getElem_mem hl)
/-- every thread has a place -/
theorem Ord.at {ag : List Int} {n : Nat} {d : List Int} (h : Ord ag n d) (t : Nat) (ht : t < n) : ∃ i, i < n ∧ d.getD i 0 = t := by
  have : (t : Int) ∈ d := h.perm.mem_iff.2 (mem_rng.2 (by omega))
  obtain ⟨i, hi, e⟩ := List.getElem_of_mem this
  exact ⟨i, by rw [← h.length]; exact hi, by simp [List.getD, List.getElem?_eq_getElem hi, e]⟩
def urgB (ag : List Int) (n : Nat) (size : Int) : Bool := (List.range n).any fun t => decide (size - 1 ≤ agA ag (t : Nat) + (rank ag n (t : Nat) : Int))
theorem Ord.urg {ag : List Int} {n : Nat} {d : List Int} (h : Ord ag n d) (size : Int) : urgB ag n size = true ↔ ∃ i, i < n ∧ size - 1 ≤ agA ag (d.getD i 0) + (i : Int) := by
  unfold urgB
  rw [List.any_eq_true]
  constructor
  · rintro ⟨t, ht, hu⟩
    rw [List.mem_range] at ht
    obtain ⟨i, hi, e⟩ := h.at t ht
    refine ⟨i, hi, ?_⟩
    have hr := h.rank i hi
    rw [e] at hr ⊢
    simpa [hr] using hu
  · rintro ⟨i, hi, hu⟩
    obtain ⟨g1, g2⟩ := h.get i hi
    refine ⟨(d.getD i 0).toNat, List.mem_range.2 (by omega), ?_⟩
    rw [Int.toNat_of_nonneg g1, h.rank i hi]
    simpa using hu
/-- one more, put where it belongs -/
theorem Ord.insert {ag : List Int} {n j : Nat} {d : List Int} (h : Ord ag n d) (hj : j ≤ n) (h1 : ∀ q, j ≤ q → q < n → agA ag (d.getD q 0) < agA ag n) (h2 : 0 < j → agA ag n ≤ agA ag (d.getD (j - 1) 0)) :
    Ord ag (n + 1) (d.take j ++ (n : Int) :: d.drop j) := by
  have hl := h.length
  refine ⟨?_, ?_⟩
  · rw [rng_succ]
    have e1 : (d.take j ++ (n : Int) :: d.drop j).Perm ((n : Int) :: (d.take j ++ d.drop j)) := List.perm_middle
    rw [List.take_append_drop] at e1
    exact e1.trans ((h.perm.cons _).trans (List.perm_append_comm (l₁ := [(n : Int)])))
  · have hd := h.sort
    rw [← List.take_append_drop j d, List.pairwise_append] at hd
    obtain ⟨d1, d2, d3⟩ := hd
    have hmem : ∀ a ∈ d.take j, ltA ag a n := fun a ha => by
      obtain ⟨i, hi, e⟩ := List.getElem_of_mem ha
      have hij : i < j := by rw [List.length_take] at hi; omega
      have hid : i < d.length := by omega
      rw [List.getElem_take] at e
      have g := h.get i (by omega)
      have ea : d.getD i 0 = a := by simp [List.getD, List.getElem?_eq_getElem hid, e]
      rw [ea] at g
      have hlast := h2 (by omega)
      have hage : agA ag (d.getD (j - 1) 0) ≤ agA ag a := by
        by_cases e2 : i = j - 1
        · rw [← e2, ea]; exact Int.le_refl _
        · have hs := List.pairwise_iff_getElem.1 h.sort i (j - 1) hid (by omega) (by omega)
          rw [e] at hs
          have : d.getD (j - 1) 0 = d[j - 1] := by simp [List.getD, List.getElem?_eq_getElem (show j - 1 < d.length by omega)]
          rw [this]
          unfold ltA at hs
          omega
      unfold ltA
      omega
    have hmem2 : ∀ b ∈ d.drop j, ltA ag n b := fun b hb => by
      obtain ⟨i, hi, e⟩ := List.getElem_of_mem hb
      rw [List.getElem_drop] at e
      have hid : j + i < d.length := by rw [List.length_drop] at hi; omega
      have ea : d.getD (j + i) 0 = b := by simp [List.getD, List.getElem?_eq_getElem hid, e]
      have := h1 (j + i) (by omega) (by omega)
      rw [ea] at this
      unfold ltA
      omega
    rw [List.pairwise_append]
    refine ⟨d1, List.pairwise_cons.2 ⟨hmem2, d2⟩, fun a ha b hb => ?_⟩
    rcases List.mem_cons.1 hb with rfl | hb
    · exact hmem a ha
    · exact d3 a ha b hb
theorem ord_zero (ag : List Int) : Ord ag 0 [] := ⟨by simp [rng], List.Pairwise.nil⟩

/-! ### ages -/
/-- how many picks were made since a thread was picked last -/
def ageI (made : List Int) (t : Int) : Nat := made.reverse.findIdx (fun x => x == t)
theorem ageI_nil (t : Int) : ageI [] t = 0 := rfl
theorem ageI_snoc (made : List Int) (p t : Int) : ageI (made ++ [p]) t = if p = t then 0 else ageI made t + 1 := by
  unfold ageI
  rw [List.reverse_append]
  by_cases e : p = t
  · simp [List.findIdx_cons, e]
  · have e1 : (p == t) = false := by simpa using e
    simp [List.findIdx_cons, e, e1]
theorem ageI_le (made : List Int) (t : Int) : ageI made t ≤ made.length := by
  unfold ageI
  have := @List.findIdx_le_length _ (fun x => x == t) made.reverse
  simpa using this
def ageL (made : List Int) (n : Nat) : List Int := (List.range n).map fun t => (ageI made (t : Nat) : Int)
theorem ageL_length (made : List Int) (n : Nat) : (ageL made n).length = n := by simp [ageL]
theorem ageL_get (made : List Int) (n t : Nat) (h : t < n) : (ageL made n)[t]? = some (ageI made t : Int) := by simp [ageL, h]
theorem ageL_nil (n : Nat) : ageL [] n = List.replicate n 0 := by
  apply List.ext_getElem?
  intro i
  simp [ageL, ageI, List.getElem?_replicate]
  by_cases h : i < n <;> simp [h]
/-- the pick in the place of a wanted one -/
def pickI (ag : List Int) (n : Nat) (d : List Int) (size want : Int) : Int := if urgB ag n size then d.getD 0 0 else want
theorem ageL_pick (made : List Int) (n p : Nat) : ageL (made ++ [(p : Int)]) n = ((ageL made n).map (· + 1)).set p 0 := by
  apply List.ext_getElem?
  intro i
  rw [List.getElem?_set]
  by_cases hi : i < n
  · rw [ageL_get _ _ _ hi, ageI_snoc]
    by_cases e : p = i
    · subst e
      rw [if_pos rfl, if_pos rfl, if_pos (by rw [List.length_map, ageL_length]; exact hi)]
      rfl
    · rw [if_neg (by omega), if_neg e, List.getElem?_map, ageL_get _ _ _ hi]
      simp
  · rw [List.getElem?_eq_none (by rw [ageL_length]; omega)]
    split
    · rename_i e
      subst e
      rw [if_neg (by rw [List.length_map, ageL_length]; omega)]
    · rw [List.getElem?_eq_none (by rw [List.length_map, ageL_length]; omega)]
end Go.Proofs.Ytbpkedghnjiehaa
