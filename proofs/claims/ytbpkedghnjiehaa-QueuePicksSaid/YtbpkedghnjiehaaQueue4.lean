/-
  Contracts of package queue, fourth part: the order of ages, by a stable sort of at most nineteen.
-/
import Derived.Test.YtbpkedghnjiehaaQueue3
import Derived.Test.YtbpkedghnjiehaaQueueSort
import Derived.BigRegion
namespace Go.Proofs.Ytbpkedghnjiehaa
open Go.RowKit

/-- a picker: its cells lie in block b, its ages in block g -/
structure PkAt (w : World) (b g c : Nat) (size : Int) (picks : Nat) (ag : List Int) : Prop where
  hd : Blk w b 54 [.int .i64 size, .int .i64 picks, .slice (some ⟨g, 0, none⟩) ag.length c]
  row : ∃ sp, Blk w g 3 (ints ag ++ sp)
  lo : 1 ≤ ag.length
  hi : ag.length ≤ 64
  cap : ag.length ≤ c
  capm : c ≤ 9223372036854775807
  sz : (ag.length : Int) ≤ size ∧ size ≤ 100000
  agb : ∀ x ∈ ag, 0 ≤ x ∧ x ≤ picks
section
variable {w w' : World} {b g c : Nat} {size : Int} {picks : Nat} {ag : List Int}
theorem PkAt.ne (h : PkAt w b g c size picks ag) : b ≠ g := by
  obtain ⟨sp, hr⟩ := h.row
  exact Blk.ne h.hd hr (by decide)
theorem PkAt.lt (h : PkAt w b g c size picks ag) : b < w.heap.size ∧ g < w.heap.size := by
  obtain ⟨sp, hr⟩ := h.row
  exact ⟨h.hd.lt, hr.lt⟩
theorem PkAt.c0 (h : PkAt w b g c size picks ag) : w.cell? ⟨b, 0, none⟩ = some (.int .i64 size) := h.hd.cell 0
theorem PkAt.c1 (h : PkAt w b g c size picks ag) : w.cell? ⟨b, 1, none⟩ = some (.int .i64 picks) := h.hd.cell 1
theorem PkAt.c2 (h : PkAt w b g c size picks ag) : w.cell? ⟨b, 2, none⟩ = some (.slice (some ⟨g, 0, none⟩) ag.length c) := h.hd.cell 2
theorem PkAt.age (h : PkAt w b g c size picks ag) {i : Nat} (hi : i < ag.length) : w.cell? ⟨g, i, none⟩ = some (.int .i64 (ag.getD i 0)) := by
  obtain ⟨sp, hr⟩ := h.row
  rw [hr.cell, List.getElem?_append_left (by rw [ints_length]; exact hi)]
  exact ints_at ag i hi
theorem PkAt.free (h : PkAt w b g c size picks ag) (i : Nat) : w.frozen? ⟨g, i, none⟩ = false := by
  obtain ⟨sp, hr⟩ := h.row
  exact hr.frozen i
theorem PkAt.bd (h : PkAt w b g c size picks ag) {i : Nat} (hi : i < ag.length) : 0 ≤ ag.getD i 0 ∧ ag.getD i 0 ≤ picks := h.agb _ (getD_mem hi)
theorem PkAt.keep {F : Nat → Prop} (h : PkAt w b g c size picks ag) (hc : Ch F w w') (hb : ¬ F b) (hg : ¬ F g) : PkAt w' b g c size picks ag := by
  obtain ⟨sp, hr⟩ := h.row
  exact ⟨h.hd.keep hc hb, ⟨sp, hr.keep hc hg⟩, h.lo, h.hi, h.cap, h.capm, h.sz, h.agb⟩
theorem PkAt.below (h : PkAt w b g c size picks ag) (hc : Below w.heap.size w w') : PkAt w' b g c size picks ag := h.keep (Ch.of_below hc (fun _ => False)) (fun e => e) (fun e => e)
theorem PkAt.drewN (h : PkAt w b g c size picks ag) (n : Nat) : PkAt (w.drewN n) b g c size picks ag := h.below (below_drewN (Below.refl _ _) n)
end
theorem pzero_ok (b g c : Nat) (size : Int) (picks : Nat) (ag : List Int) (w : World) (h : PkAt w b g c size picks ag) :
    Calls Try.prog 42 #[.pointer (some ⟨b, 0, none⟩)] w fun e w' => e = .returned (.bool false) ∧ w = w' := by
  have hs := h.c2
  have hz : ((ag.length : Int) == 0) = false := by have := h.lo; simp only [beq_eq_false_iff_ne]; omega
  go_enter Try.func42, Try.ntmps42
  go_wp2
  go_ret
  exact ⟨rfl, rfl⟩
theorem pzero_nil (w : World) : Calls Try.prog 42 #[.pointer none] w fun e w' => e = .returned (.bool true) ∧ w = w' := by
  go_enter Try.func42, Try.ntmps42
  go_wp2
  go_ret
  exact ⟨rfl, rfl⟩
theorem ppicks_ok (b g c : Nat) (size : Int) (picks : Nat) (ag : List Int) (w : World) (h : PkAt w b g c size picks ag) :
    Calls Try.prog 25 #[.pointer (some ⟨b, 0, none⟩)] w fun e w' => e = .returned (.int .i64 picks) ∧ w = w' := by
  have hs := h.c1
  go_enter Try.func25, Try.ntmps25
  go_wp2_with (go_at_call 42; refine (pzero_ok b g c size picks ag _ h).mono ?_; rintro e w' ⟨rfl, rfl⟩)
  go_ret
  exact ⟨rfl, rfl⟩
theorem page_ok (b g c : Nat) (size : Int) (picks : Nat) (ag : List Int) (t : Nat) (w : World) (h : PkAt w b g c size picks ag) (ht : t < ag.length) :
    Calls Try.prog 26 #[.pointer (some ⟨b, 0, none⟩), .int .i64 t] w fun e w' => e = .returned (.int .i64 (ag.getD t 0)) ∧ w = w' := by
  have hs := h.c2
  have ha := h.age ht
  have hcap := h.cap
  have d1 : decide ((t : Int) < 0) = false := decide_eq_false (by omega)
  have d2 : decide ((ag.length : Int) ≤ t) = false := decide_eq_false (by omega)
  have i1 : (0 : Int) ≤ t := Int.natCast_nonneg _
  have i2 : (t : Int) < ag.length := by omega
  generalize ag.getD t 0 = x at *
  go_enter Try.func26, Try.ntmps26
  go_wp2_with (go_at_call 42; refine (pzero_ok b g c size picks ag _ h).mono ?_; rintro e w' ⟨rfl, rfl⟩)
  go_ret
  exact ⟨rfl, rfl⟩
theorem page_bad (b g c : Nat) (size : Int) (picks : Nat) (ag : List Int) (t : Int) (w : World) (h : PkAt w b g c size picks ag) (ht : t < 0 ∨ (ag.length : Int) ≤ t) :
    Calls Try.prog 26 #[.pointer (some ⟨b, 0, none⟩), .int .i64 t] w fun e w' => e = .returned (.int .i64 0) ∧ w = w' := by
  have hs := h.c2
  by_cases h1 : t < 0
  · have d1 : decide (t < 0) = true := decide_eq_true h1
    clear ht
    go_enter Try.func26, Try.ntmps26
    go_wp2_with (go_at_call 42; refine (pzero_ok b g c size picks ag _ h).mono ?_; rintro e w' ⟨rfl, rfl⟩)
    go_ret
    exact ⟨rfl, rfl⟩
  · have d1 : decide (t < 0) = false := decide_eq_false h1
    have d2 : decide ((ag.length : Int) ≤ t) = true := decide_eq_true (by omega)
    clear ht
    go_enter Try.func26, Try.ntmps26
    go_wp2_with (go_at_call 42; refine (pzero_ok b g c size picks ag _ h).mono ?_; rintro e w' ⟨rfl, rfl⟩)
    go_ret
    exact ⟨rfl, rfl⟩

/-! ### the comparison -/
theorem cmp_lt (x y : Int) (w : World) (h : x < y) : Calls Try.prog 50 #[.int .i64 x, .int .i64 y] w fun e w' => e = .returned (.int .i64 (-1)) ∧ w = w' := by
  have n1 : (x != x) = false := by simp
  have n2 : (y != y) = false := by simp
  go_enter Try.func50, Try.ntmps50
  go_wp2_with (go_at_call 52; go_in)
  go_ret
  exact ⟨rfl, rfl⟩
theorem cmp_ge (x y : Int) (w : World) (h : y ≤ x) : Calls Try.prog 50 #[.int .i64 x, .int .i64 y] w fun e w' => e = .returned (.int .i64 (if y < x then 1 else 0)) ∧ w = w' := by
  have n1 : (x != x) = false := by simp
  have n2 : (y != y) = false := by simp
  by_cases h2 : y < x
  · rw [if_pos h2]
    go_enter Try.func50, Try.ntmps50
    go_wp2_with (go_at_call 52; go_in)
    go_ret
    exact ⟨rfl, rfl⟩
  · obtain rfl : y = x := by omega
    rw [if_neg h2]
    go_enter Try.func50, Try.ntmps50
    go_wp2_with (go_at_call 52; go_in)
    go_ret
    exact ⟨rfl, rfl⟩
/-- who of two comes first: the closure of 'urgent' -/
theorem ulit_any (r b g c : Nat) (size : Int) (picks : Nat) (ag : List Int) (s t : Nat) (v : Int) (w : World) (h : PkAt w b g c size picks ag) (hb : w.cell? ⟨r, 0, none⟩ = some (.pointer (some ⟨b, 0, none⟩))) (hs : s < ag.length) (ht : t < ag.length)
    (hv : ∀ W, Calls Try.prog 50 #[.int .i64 (ag.getD t 0), .int .i64 (ag.getD s 0)] W fun e w' => e = .returned (.int .i64 v) ∧ W = w') :
    Calls Try.prog 49 #[.int .i64 s, .int .i64 t, .pointer (some ⟨r, 0, none⟩)] w fun e w' => e = .returned (.int .i64 v) ∧ ∃ q, w' = w.drewN q := by
  have h2 := h.c2
  have ha := h.age hs
  have hb' := h.age ht
  have hcap := h.cap
  have i1 : (0 : Int) ≤ s := Int.natCast_nonneg _
  have i2 : (s : Int) < ag.length := by omega
  have i3 : (0 : Int) ≤ t := Int.natCast_nonneg _
  have i4 : (t : Int) < ag.length := by omega
  generalize ag.getD t 0 = y at *
  generalize ag.getD s 0 = x at *
  have HV := Lib.hid hv
  clear hv
  go_enter Try.func49, Try.ntmps49
  go_wp2_with (go_quiet ((go_at_call 50; exact quiet_left (HV.out _))))
  go_ret
  exact ⟨rfl, _, rfl⟩
abbrev ulit (r : Nat) : Value := .func (.func 49) #[] #[.pointer (some ⟨r, 0, none⟩)]
end Go.Proofs.Ytbpkedghnjiehaa
