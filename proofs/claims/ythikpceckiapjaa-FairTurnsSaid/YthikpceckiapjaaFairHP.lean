/-
  Plain laws for FairHolds: lists in another order; sums over all threads; evenness; events answered in the order in which they were asked.
-/
import Derived.Test.YthikpceckiapjaaLFair2
namespace Go.Proofs.Ythikpceckiapjaa

theorem fold_eq {xs ys : List Int} (h : xs.Perm ys) : xs.foldl max 0 = ys.foldl max 0 := by
  obtain ⟨a1, a2, a3⟩ := fold_max xs 0
  obtain ⟨b1, b2, b3⟩ := fold_max ys 0
  have h1 : xs.foldl max 0 ≤ ys.foldl max 0 := by
    rcases a3 with e | e
    · rw [e]; exact b1
    · exact b2 _ (h.mem_iff.1 e)
  have h2 : ys.foldl max 0 ≤ xs.foldl max 0 := by
    rcases b3 with e | e
    · rw [e]; exact a1
    · exact a2 _ (h.mem_iff.2 e)
  omega
theorem perm_sumI {xs ys : List Int} (h : xs.Perm ys) : xs.sum = ys.sum := by
  induction h with
  | nil => rfl
  | cons x _ ih => simp [ih]
  | swap x y l => simp; omega
  | trans _ _ h1 h2 => rw [h1, h2]
theorem perm_sumN {xs ys : List Nat} (h : xs.Perm ys) : xs.sum = ys.sum := by
  induction h with
  | nil => rfl
  | cons x _ ih => simp [ih]
  | swap x y l => simp; omega
  | trans _ _ h1 h2 => rw [h1, h2]
section
variable {l m : List Ev} (h : m.Perm l)
include h
theorem perm_pas (x : Ev) : pas m x = pas l x := h.countP_eq _
theorem perm_row (t : Nat) : rowT m m t = rowT l l t := by
  have h1 : ans m t = ans l t := h.countP_eq _
  have h2 : opn m t = opn l t := h.countP_eq _
  have h3 : tok m t = tok l t := perm_sumI (h.map _)
  have h4 : lng m t = lng l t := fold_eq (h.map _)
  have h5 : psd m m t = psd l l t := by
    unfold psd
    have : psOf m t = psOf l t := by
      funext e
      unfold psOf
      rw [perm_pas h]
    rw [this]
    exact perm_sumN (h.map _)
  unfold rowT
  rw [h1, h2, h3, h4, h5]
theorem perm_rows (n : Nat) : rowsT m n = rowsT l n := by
  unfold rowsT
  have h1 : (fun t => decide (0 < ans m t + opn m t)) = fun t => decide (0 < ans l t + opn l t) := by
    funext t
    rw [show ans m t = ans l t from h.countP_eq _, show opn m t = opn l t from h.countP_eq _]
  rw [h1]
  exact List.map_congr_left fun t _ => perm_row h t
theorem perm_err : errF m = errF l := by
  unfold errF
  rw [h.length_eq]
  have : m.all okEv = l.all okEv := by
    rw [Bool.eq_iff_iff, List.all_eq_true, List.all_eq_true]
    exact ⟨fun k e he => k e (h.mem_iff.2 he), fun k e he => k e (h.mem_iff.1 he)⟩
  rw [this]
theorem perm_turns : turnsR m = turnsR l := by unfold turnsR; rw [perm_err h, perm_rows h]
theorem perm_even : evenR m = evenR l := by unfold evenR; rw [perm_err h, perm_rows h]
end
/-- l turned by so many places, the first k of them -/
def turnL (l : List Ev) (s k : Nat) : List Ev := (List.range k).filterMap fun i => l[(i + s) % l.length]?
theorem turnL_succ (l : List Ev) (s k : Nat) {e : Ev} (h : l[(k + s) % l.length]? = some e) : turnL l s (k + 1) = turnL l s k ++ [e] := by
  unfold turnL
  rw [List.range_succ, List.filterMap_append]
  simp [h]
theorem filterMap_some {α : Type} (f : Nat → Option α) (g : Nat → α) : ∀ xs : List Nat, (∀ i ∈ xs, f i = some (g i)) → xs.filterMap f = xs.map g
  | [], _ => rfl
  | x :: xs, h => by
    rw [List.filterMap_cons, h x (by simp), List.map_cons]
    exact congrArg _ (filterMap_some f g xs fun i hi => h i (by simp [hi]))
theorem turnL_get (l : List Ev) (s k : Nat) (hk : k ≤ l.length) (i : Nat) (hi : i < k) : (turnL l s k)[i]? = l[(i + s) % l.length]? := by
  have hl : ∀ j, (j + s) % l.length < l.length := fun j => Nat.mod_lt _ (by omega)
  have hne : 0 < l.length := by omega
  have e : turnL l s k = (List.range k).map fun j => l[(j + s) % l.length]'(hl j) := filterMap_some _ _ _ fun j _ => List.getElem?_eq_getElem (hl j)
  rw [e, List.getElem?_map, List.getElem?_range hi, Option.map_some, List.getElem?_eq_getElem (hl i)]
theorem turnL_len (l : List Ev) (s k : Nat) (hk : k ≤ l.length) : (turnL l s k).length = k := by
  rcases Nat.eq_zero_or_pos k with rfl | hp
  · rfl
  have hl : ∀ j, (j + s) % l.length < l.length := fun j => Nat.mod_lt _ (by omega)
  have e : turnL l s k = (List.range k).map fun j => l[(j + s) % l.length]'(hl j) := filterMap_some _ _ _ fun j _ => List.getElem?_eq_getElem (hl j)
  rw [e]; simp
theorem turnL_mem (l : List Ev) (s k : Nat) : ∀ e ∈ turnL l s k, e ∈ l := by
  intro e he
  obtain ⟨i, _, hi⟩ := List.mem_filterMap.1 he
  exact List.mem_of_getElem? hi
theorem turnL_perm (l : List Ev) (s : Nat) : (turnL l s l.length).Perm l := by
  rcases Nat.eq_zero_or_pos l.length with h0 | hp
  · obtain rfl : l = [] := List.eq_nil_of_length_eq_zero h0
    exact List.Perm.refl _
  obtain ⟨q, hq⟩ : ∃ q, s % l.length = q := ⟨_, rfl⟩
  have hql : q < l.length := by rw [← hq]; exact Nat.mod_lt _ hp
  have : turnL l s l.length = l.drop q ++ l.take q := by
    apply List.ext_getElem?
    intro i
    by_cases hi : i < l.length
    · rw [turnL_get l s _ (Nat.le_refl _) i hi]
      have hm : (i + s) % l.length = (i + q) % l.length := by rw [Nat.add_mod, hq, Nat.mod_eq_of_lt hi]
      rw [hm]
      by_cases h2 : i + q < l.length
      · rw [Nat.mod_eq_of_lt h2, List.getElem?_append_left (by rw [List.length_drop]; omega), List.getElem?_drop]
        congr 1; omega
      · have e2 : (i + q) % l.length = i + q - l.length := by rw [Nat.mod_eq_sub_mod (by omega), Nat.mod_eq_of_lt (by omega)]
        rw [e2, List.getElem?_append_right (by rw [List.length_drop]; omega), List.length_drop, List.getElem?_take, if_pos (by omega)]
        congr 1; omega
    · rw [List.getElem?_eq_none (by rw [turnL_len l s _ (Nat.le_refl _)]; omega), List.getElem?_eq_none (by rw [List.length_append, List.length_drop, List.length_take]; omega)]
  rw [this]
  have h2 : (l.drop q ++ l.take q).Perm (l.take q ++ l.drop q) := List.perm_append_comm
  rwa [List.take_append_drop] at h2
/-! ### all events -/
def sAO (rows : List (List Int)) : Int := (rows.map fun r => r.getD 1 0 + r.getD 2 0).sum
theorem sAO_snoc (rows : List (List Int)) (r : List Int) : sAO (rows ++ [r]) = sAO rows + (r.getD 1 0 + r.getD 2 0) := by simp [sAO]
def cT (l : List Ev) (n : Nat) : Nat := l.countP fun e => decide (e.t < (n : Int))
theorem cT_succ (l : List Ev) (n : Nat) : cT l (n + 1) = cT l n + (ans l n + opn l n) := by
  unfold cT ans opn
  induction l with
  | nil => rfl
  | cons x l ih =>
    simp only [List.countP_cons, ih]
    have a : (isA n x = true) ↔ (x.t = n ∧ 0 ≤ x.w) := by simp [isA]
    have b : (isO n x = true) ↔ (x.t = n ∧ x.w < 0) := by simp [isO]
    simp only [a, b, decide_eq_true_eq]
    (repeat' split) <;> omega
theorem sAO_rows (l : List Ev) : ∀ n : Nat, (∀ e ∈ l, okEv e = true) → sAO (rowsT l n) = cT l n
  | 0, h => by
    have : cT l 0 = 0 := by
      unfold cT
      rw [List.countP_eq_zero]
      intro e he
      have := okEv_iff.1 (h e he)
      simp; omega
    simp [rowsT, sAO, this]
  | n + 1, h => by
    rw [rowsT_succ, cT_succ]
    split
    · rw [sAO_snoc, sAO_rows l n h]
      simp [rowT]
    · rw [sAO_rows l n h]; omega
theorem sAO_all (l : List Ev) (h : ∀ e ∈ l, okEv e = true) : sAO (rowsT l 64) = l.length := by
  rw [sAO_rows l 64 h]
  have : cT l 64 = l.length := by
    unfold cT
    rw [List.countP_eq_length]
    intro e he
    have := okEv_iff.1 (h e he)
    simp; omega
  rw [this]
/-! ### evenness -/
theorem sq_nonneg (a : Int) : 0 ≤ a * a := by
  rcases Int.le_total 0 a with h | h
  · exact Int.mul_nonneg h h
  · exact Int.mul_nonneg_of_nonpos_of_nonpos h h
theorem cs1 (a : Int) : ∀ rows : List (List Int), 0 ≤ (rows.length : Int) * (a * a) - 2 * (a * sumA rows) + sumQ rows
  | [] => by simp [sumA, sumQ]
  | r :: rows => by
    have h1 := cs1 a rows
    have h2 := sq_nonneg (a - r.getD 1 0)
    have e1 : sumA (r :: rows) = r.getD 1 0 + sumA rows := by simp [sumA]
    have e2 : sumQ (r :: rows) = r.getD 1 0 * r.getD 1 0 + sumQ rows := by simp [sumQ]
    rw [e1, e2, List.length_cons]
    generalize r.getD 1 0 = x at *
    rw [Int.sub_mul, Int.mul_sub, Int.mul_sub] at h2
    rw [Int.natCast_add, Int.add_mul, Int.mul_add a x]
    have e3 : x * a = a * x := Int.mul_comm _ _
    simp only [Int.natCast_one, Int.one_mul] at *
    omega
theorem cs2 : ∀ rows : List (List Int), sumA rows * sumA rows ≤ (rows.length : Int) * sumQ rows
  | [] => by simp [sumA]
  | r :: rows => by
    have h1 := cs2 rows
    have h2 := cs1 (r.getD 1 0) rows
    have e1 : sumA (r :: rows) = r.getD 1 0 + sumA rows := by simp [sumA]
    have e2 : sumQ (r :: rows) = r.getD 1 0 * r.getD 1 0 + sumQ rows := by simp [sumQ]
    rw [e1, e2, List.length_cons]
    generalize r.getD 1 0 = x at *
    generalize sumA rows = S at *
    generalize sumQ rows = Q at *
    have e3 : S * x = x * S := Int.mul_comm _ _
    simp only [Int.natCast_add, Int.add_mul, Int.mul_add, Int.natCast_one, Int.one_mul] at *
    omega
theorem even_bd {rows : List (List Int)} (h : ∀ r ∈ rows, rowOk r) : 0 ≤ evenN rows ∧ evenN rows ≤ 1000 := by
  obtain ⟨⟨h1, h2⟩, ⟨h3, h4⟩, h5⟩ := sum_bd rows h
  have hc := cs2 rows
  unfold evenN
  split
  · omega
  · rename_i hz
    have hq := h5 hz
    have hlen : 0 < rows.length := by
      rcases Nat.eq_zero_or_pos rows.length with h0 | h0
      · obtain rfl : rows = [] := List.eq_nil_of_length_eq_zero h0
        simp [sumQ] at hq
      · exact h0
    have hp : (0 : Int) < (rows.length : Int) * sumQ rows := Int.mul_pos (by omega) hq
    have h6 : 0 ≤ 1000 * sumA rows * sumA rows := Int.mul_nonneg (by omega) h1
    refine ⟨Int.ediv_nonneg h6 (by omega), ?_⟩
    refine Int.ediv_le_of_le_mul hp ?_
    rw [Int.mul_assoc]
    omega
theorem even_all {rows : List (List Int)} (c : Int) (h : ∀ r ∈ rows, r.getD 1 0 = c) : evenN rows = 1000 := by
  have h1 : ∀ rows : List (List Int), (∀ r ∈ rows, r.getD 1 0 = c) → sumA rows = rows.length * c ∧ sumQ rows = rows.length * (c * c) := by
    intro rows
    induction rows with
    | nil => intro _; simp [sumA, sumQ]
    | cons r rows ih =>
      intro h
      obtain ⟨i1, i2⟩ := ih (fun r hr => h r (by simp [hr]))
      have e1 : sumA (r :: rows) = r.getD 1 0 + sumA rows := by simp [sumA]
      have e2 : sumQ (r :: rows) = r.getD 1 0 * r.getD 1 0 + sumQ rows := by simp [sumQ]
      rw [e1, e2, h r (by simp), i1, i2, List.length_cons, Int.natCast_add, Int.add_mul, Int.add_mul]
      simp only [Int.natCast_one, Int.one_mul]
      omega
  obtain ⟨e1, e2⟩ := h1 rows h
  unfold evenN
  split
  · rfl
  · rename_i hz
    have : (rows.length : Int) * sumQ rows = sumA rows * sumA rows := by
      rw [e1, e2]
      have : (rows.length : Int) * c * ((rows.length : Int) * c) = (rows.length : Int) * ((rows.length : Int) * (c * c)) := by
        rw [Int.mul_assoc, Int.mul_left_comm c]
      rw [this]
    rw [this, Int.mul_assoc]
    have hne : sumA rows * sumA rows ≠ 0 := by
      intro e
      rcases Int.mul_eq_zero.1 e with e | e <;> exact hz e
    exact Int.mul_ediv_cancel _ hne
/-! ### events answered in the order in which they were asked -/
def inE (e : Ev) : Ev := { e with w := 2 * e.a }
def inL (l : List Ev) : List Ev := (l.filter fun e => decide (e.a < 549755813888)).map inE
theorem inL_snoc (l : List Ev) (e : Ev) : inL (l ++ [e]) = if e.a < 549755813888 then inL l ++ [inE e] else inL l := by
  unfold inL
  rw [List.filter_append, List.map_append]
  by_cases h : e.a < 549755813888
  · simp [h]
  · simp [h]
theorem inL_len (l : List Ev) : (inL l).length ≤ l.length := by unfold inL; rw [List.length_map]; exact List.length_filter_le _ _
theorem inL_ok {l : List Ev} (h : ∀ e ∈ l, okEv e = true) : ∀ e ∈ inL l, okEv e = true := by
  intro e he
  obtain ⟨x, hx, rfl⟩ := List.mem_map.1 he
  obtain ⟨h1, h2⟩ := List.mem_filter.1 hx
  have := okEv_iff.1 (h x h1)
  simp at h2
  refine okEv_iff.2 ⟨?_, ?_, ?_, ?_, .inr ⟨?_, ?_⟩⟩ <;> (simp only [inE]; omega)
theorem inL_one {l : List Ev} (h : ∀ e ∈ l, e.one) : ∀ e ∈ inL l, e.one := by
  intro e he
  obtain ⟨x, hx, rfl⟩ := List.mem_map.1 he
  exact h x (List.mem_filter.1 hx).1
theorem inL_pas {l : List Ev} (hl : ∀ e ∈ l, okEv e = true) : ∀ x ∈ inL l, pas (inL l) x = 0 := by
  intro x hx
  obtain ⟨x, hx2, rfl⟩ := List.mem_map.1 hx
  have hxo := okEv_iff.1 (hl x (List.mem_filter.1 hx2).1)
  unfold pas
  rw [List.countP_eq_zero]
  intro y hy
  obtain ⟨y, hy, rfl⟩ := List.mem_map.1 hy
  intro h
  have := psB_iff.1 h
  simp only [inE] at this
  omega
end Go.Proofs.Ythikpceckiapjaa
