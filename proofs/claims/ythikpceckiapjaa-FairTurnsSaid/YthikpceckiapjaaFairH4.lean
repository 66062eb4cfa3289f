/-
  Contracts of package stats as layer 51 uses it: Add; and fair.Times.
-/
import Derived.Test.YthikpceckiapjaaFairH3
namespace Go.Proofs.Ythikpceckiapjaa
open Go.RowKit

/-- one number, counted once -/
def oneF (n : Int) (i : Nat) : Int := if i < 42 then (if (i : Int) = bl n then 1 else 0) else if i = 42 then 1 else n
def addF (h : Nat → Int) (n : Int) : Nat → Int := joinF h (oneF n)
theorem oneF_bd {n : Int} (h0 : 0 ≤ n) (h1 : n ≤ 1099511627776) (i : Nat) : 0 ≤ oneF n i ∧ oneF n i ≤ 2199023255552 := by
  unfold oneF; (repeat' split) <;> omega
theorem oneF_not {n : Int} (h0 : 0 ≤ n) (h1 : n ≤ 1099511627776) : emptyB (oneF n) = false := by
  obtain ⟨b0, b1⟩ := bl_bd h0 h1
  unfold emptyB
  rw [List.all_eq_false]
  refine ⟨(bl n).toNat, List.mem_range.2 (by omega), ?_⟩
  unfold oneF
  rw [if_pos (by omega), if_pos (by omega)]
  decide
theorem wl_build {P : Program} {ops : Array Oper} {rest : List Oper} {Q : Exit → Act → World → Prop} {a : Act} {w : World} {dst : Option Tmp} {type : TypeId} {pos : String} {after : Array Edge} (t : TypeId) (parts : Array (Nat × Operand)) (cells : Array Value)
    (hb : P.built t (parts.map fun (i, x) => (i, a.eval x)).toList = some cells) (h : wpList P ops Q rest (a.put dst (.agg cells)) w) : wpList P ops Q ({ dst := dst, op := .build t parts, type := type, pos := pos, after := after, guard := none } :: rest) a w :=
  wpList_build rfl t parts rfl (by rw [hb]; rfl) (by rw [hb]; exact h)
theorem zeroH : (Try.prog.info? 53).map (fun i => (i.zero, i.size)) = some (some (.agg (tab 46 (fun _ => 0)).toArray), 46) := by kernel_rfl
def numF (n : Int) (i : Nat) : Int := if i < 42 then 0 else if i = 42 then 1 else n
set_option maxRecDepth 100000 in
set_option maxHeartbeats 4000000 in
theorem add_ok (b : Nat) (h : Nat → Int) (n : Int) (w : World) (hh : HAt w b h) (hb : ∀ i, i < 46 → 0 ≤ h i ∧ h i ≤ 1152921504606846976) (h42 : h 42 + 1 ≤ 1099511627776) (h43 : h 43 + n ≤ 4611686018427387904) (h0 : 0 ≤ n) (h1 : n ≤ 1099511627776) :
    Calls Try.prog 17 #[.pointer (some ⟨b, 0, none⟩), .int .i64 n, .int .i64 1] w fun e w' => e = .returned (.int .i64 0) ∧ HAt w' b (addF h n) ∧ Ch (fun j => j = b) w w' := by
  have hbk := fun W => bucket_ok n W h0 h1
  have hjo := fun W hW => join_ok b h (oneF n) W hW hb (fun i _ => oneF_bd h0 h1 i) h42 h43 (oneF_not h0 h1)
  have HJ := Lib.hid hjo
  obtain ⟨b0, b1⟩ := bl_bd h0 h1
  have HONE := Lib.hid (show ∀ i, oneF n i = if i < 42 then (if (i : Int) = bl n then 1 else 0) else if i = 42 then 1 else n from fun _ => rfl)
  have HADD := Lib.hid (show addF h n = joinF h (oneF n) from rfl)
  generalize addF h n = AF at *
  generalize oneF n = o at *
  obtain ⟨k, hk⟩ : ∃ k : Nat, bl n = k := ⟨(bl n).toNat, by omega⟩
  rw [hk] at hbk b1
  have HK := Lib.hid hk
  clear hk hjo hb
  have hz := (zero_of_info zeroH).1
  have HONEC := Lib.hid (all_oneCell_toArray (tab_one (n := 46) (numF n)))
  have hlt := Blk.lt hh
  have i1 : (0 : Int) ≤ k := Int.natCast_nonneg _
  have i2 : (k : Int) < 42 := by omega
  have hdv : ¬ (4611686018427387904 / n < 1 ∧ 0 < n) := by
    rintro ⟨a, b⟩
    have := Int.ediv_lt_iff_lt_mul b |>.1 a
    omega
  go_enter Try.func17, Try.ntmps17
  go_upto_region 4 with (go_at_call 26; refine (hbk _).mono ?_; rintro e w' ⟨rfl, rfl⟩)
  by_cases hn : 0 < n
  · have d1 : decide (4611686018427387904 / n < 1) = false := decide_eq_false (fun e => hdv ⟨e, hn⟩)
    go_upto_region 11 with (first | (refine wl_build 53 _ (tab 46 (numF n)).toArray ?_ ?_; (focus kernel_rfl)) | (refine wl_fresh 53 _ _ _ (tab 46 (numF n)).toArray ?_ ?_ ?_ ?_ ?_ ?_; (focus rfl); (focus rfl); (focus kernel_rfl); (focus (simp [tab_len])); (focus (exact HONEC.out))))
    have hA : HAt (w.alloc (.cells (tab 46 (numF n)).toArray 53)) w.heap.size (numF n) := Blk.new w _ _
    have hH : HAt (w.alloc (.cells (tab 46 (numF n)).toArray 53)) b h := hh.keep ((Ch.refl (fun _ => False) _).alloc _) (fun e => e)
    have hC : Ch (fun j => j = b) w (w.alloc (.cells (tab 46 (numF n)).toArray 53)) := (Ch.refl _ w).alloc _
    have hsz : (w.alloc (.cells (tab 46 (numF n)).toArray 53)).heap.size = w.heap.size + 1 := World.size_alloc _ _
    generalize w.alloc (.cells (tab 46 (numF n)).toArray 53) = w1 at hA hH hC hsz ⊢
    have hA2 : HAt (w1.setCell ⟨w.heap.size, k, none⟩ (.int .i64 1)) w.heap.size o := (hA.put k 1).eq (fun i hi => by
      rw [HONE.out i, HK.out]
      unfold numF
      by_cases e : i = k
      · subst e; rw [if_pos rfl, if_pos (by omega), if_pos rfl]
      · rw [if_neg e]
        by_cases e2 : i < 42
        · rw [if_pos e2, if_pos e2, if_neg (by omega)]
        · rw [if_neg e2, if_neg e2])
    have hpc := (Ch.refl (fun j => j = w.heap.size) w1).setCell (p := ⟨w.heap.size, k, none⟩) (.inl rfl) (.int .i64 1)
    have hH2 := hH.keep hpc (by omega)
    have hrow := range_blk hA2
    have hC2 : Ch (fun j => j = b) w (w1.setCell ⟨w.heap.size, k, none⟩ (.int .i64 1)) := hC.trans hpc (fun j hj e => by omega)
    have c0 := hA.at (i := k) (by omega)
    have f0 := Blk.frozen hA k
    go_wp2_with (first | (refine wl_load 53 _ (w.heap.size) (0) (tab 46 o) _ ?_ ?_ Try.underlying53 ?_ ?_ ?_; (focus rfl); (focus (exact hrow)); (focus rfl); (focus kernel_rfl)) | (go_at_call 27; refine (HJ.out _ hH2).mono ?_; rintro e w5 ⟨rfl, hF, hC5⟩))
    go_ret
    exact ⟨rfl, by rw [HADD.out]; exact hF, hC2.trans hC5 (fun _ _ e => e)⟩
  · have d0 : decide (0 < n) = false := decide_eq_false hn
    have d2 : n ≤ 0 := by omega
    go_upto_region 11 with (first | (refine wl_build 53 _ (tab 46 (numF n)).toArray ?_ ?_; (focus kernel_rfl)) | (refine wl_fresh 53 _ _ _ (tab 46 (numF n)).toArray ?_ ?_ ?_ ?_ ?_ ?_; (focus rfl); (focus rfl); (focus kernel_rfl); (focus (simp [tab_len])); (focus (exact HONEC.out))))
    have hA : HAt (w.alloc (.cells (tab 46 (numF n)).toArray 53)) w.heap.size (numF n) := Blk.new w _ _
    have hH : HAt (w.alloc (.cells (tab 46 (numF n)).toArray 53)) b h := hh.keep ((Ch.refl (fun _ => False) _).alloc _) (fun e => e)
    have hC : Ch (fun j => j = b) w (w.alloc (.cells (tab 46 (numF n)).toArray 53)) := (Ch.refl _ w).alloc _
    have hsz : (w.alloc (.cells (tab 46 (numF n)).toArray 53)).heap.size = w.heap.size + 1 := World.size_alloc _ _
    generalize w.alloc (.cells (tab 46 (numF n)).toArray 53) = w1 at hA hH hC hsz ⊢
    have hA2 : HAt (w1.setCell ⟨w.heap.size, k, none⟩ (.int .i64 1)) w.heap.size o := (hA.put k 1).eq (fun i hi => by
      rw [HONE.out i, HK.out]
      unfold numF
      by_cases e : i = k
      · subst e; rw [if_pos rfl, if_pos (by omega), if_pos rfl]
      · rw [if_neg e]
        by_cases e2 : i < 42
        · rw [if_pos e2, if_pos e2, if_neg (by omega)]
        · rw [if_neg e2, if_neg e2])
    have hpc := (Ch.refl (fun j => j = w.heap.size) w1).setCell (p := ⟨w.heap.size, k, none⟩) (.inl rfl) (.int .i64 1)
    have hH2 := hH.keep hpc (by omega)
    have hrow := range_blk hA2
    have hC2 : Ch (fun j => j = b) w (w1.setCell ⟨w.heap.size, k, none⟩ (.int .i64 1)) := hC.trans hpc (fun j hj e => by omega)
    have c0 := hA.at (i := k) (by omega)
    have f0 := Blk.frozen hA k
    go_wp2_with (first | (refine wl_load 53 _ (w.heap.size) (0) (tab 46 o) _ ?_ ?_ Try.underlying53 ?_ ?_ ?_; (focus rfl); (focus (exact hrow)); (focus rfl); (focus kernel_rfl)) | (go_at_call 27; refine (HJ.out _ hH2).mono ?_; rintro e w5 ⟨rfl, hF, hC5⟩))
    go_ret
    exact ⟨rfl, by rw [HADD.out]; exact hF, hC2.trans hC5 (fun _ _ e => e)⟩
/-- what a histogram holds that has counted some numbers, one after the other -/
def histF (xs : List Int) : Nat → Int := xs.foldl addF (fun _ => 0)
theorem histF_snoc (xs : List Int) (n : Int) : histF (xs ++ [n]) = addF (histF xs) n := by simp [histF]
theorem histF_bd : ∀ (k : Nat) (xs : List Int), xs.length = k → (∀ n ∈ xs, 0 ≤ n ∧ n ≤ 1099511627776) → (∀ i, i < 46 → 0 ≤ histF xs i) ∧ (∀ i, i < 42 → histF xs i ≤ k) ∧ histF xs 42 = k ∧ histF xs 43 ≤ k * 1099511627776 ∧ histF xs 44 ≤ 1099511627776 ∧ histF xs 45 ≤ 1099511627776
  | 0, xs, h, _ => by
    obtain rfl : xs = [] := List.eq_nil_of_length_eq_zero h
    simp [histF]
  | k + 1, xs, h, hb => by
    have hne : xs ≠ [] := by rintro rfl; simp at h
    obtain ⟨p, n, rfl⟩ : ∃ p x, xs = p ++ [x] := ⟨xs.dropLast, xs.getLast hne, (List.dropLast_concat_getLast hne).symm⟩
    obtain ⟨i1, i2, i3, i4, i5, i6⟩ := histF_bd k p (by simpa using h) (fun x hx => hb x (by simp [hx]))
    obtain ⟨n0, n1⟩ := hb n (by simp)
    rw [histF_snoc]
    generalize histF p = g at *
    have ho := oneF_bd n0 n1
    have e42 : oneF n 42 = 1 := rfl
    have e43 : oneF n 43 = n := rfl
    have e44 : oneF n 44 = n := rfl
    have e45 : oneF n 45 = n := rfl
    have hlow : 0 ≤ lowF g (oneF n) ∧ lowF g (oneF n) ≤ 1099511627776 := by
      have := i1 44 (by omega)
      unfold lowF
      split <;> omega
    have hhi := i1 45 (by omega)
    refine ⟨fun i hi => ?_, fun i hi => ?_, ?_, ?_, ?_, ?_⟩
    · have := i1 i hi
      have := ho i
      unfold addF joinF
      (repeat' split) <;> omega
    · have := i2 i hi
      have : oneF n i ≤ 1 := by unfold oneF; rw [if_pos hi]; split <;> omega
      unfold addF joinF
      rw [if_pos (by omega)]
      omega
    · show g 42 + oneF n 42 = _
      omega
    · show g 43 + oneF n 43 ≤ _
      rw [e43, Int.natCast_add, Int.add_mul]
      omega
    · show (if oneF n 44 < lowF g (oneF n) then oneF n 44 else lowF g (oneF n)) ≤ _
      split <;> omega
    · show (if g 45 < oneF n 45 then oneF n 45 else g 45) ≤ _
      split <;> omega
theorem hadd_ok (b : Nat) (xs : List Int) (n : Int) (w : World) (hh : HAt w b (histF xs)) (hl : xs.length ≤ 1000) (hx : ∀ n ∈ xs, 0 ≤ n ∧ n ≤ 1099511627776) (h0 : 0 ≤ n) (h1 : n ≤ 1099511627776) :
    Calls Try.prog 17 #[.pointer (some ⟨b, 0, none⟩), .int .i64 n, .int .i64 1] w fun e w' => e = .returned (.int .i64 0) ∧ HAt w' b (histF (xs ++ [n])) ∧ Ch (fun j => j = b) w w' := by
  obtain ⟨i1, i2, i3, i4, i5, i6⟩ := histF_bd xs.length xs rfl hx
  rw [histF_snoc]
  refine add_ok b _ n w hh (fun i hi => ⟨i1 i hi, ?_⟩) (by omega) (by omega) h0 h1
  by_cases e : i < 42
  · have := i2 i e; omega
  · obtain rfl | rfl | rfl | rfl : i = 42 ∨ i = 43 ∨ i = 44 ∨ i = 45 := by omega
    all_goals omega
end Go.Proofs.Ythikpceckiapjaa
