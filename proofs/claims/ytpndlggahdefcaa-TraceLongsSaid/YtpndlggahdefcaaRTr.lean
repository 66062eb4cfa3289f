/-
  Contracts of the reference of layer 13, first part: Changes, right.
-/
import Derived.Test.YtpndlggahdefcaaTr2
namespace Go.Proofs.Ytpndlggahdefcaa
open Go.RowKit
set_option linter.unusedSimpArgs false
set_option linter.unusedVariables false

theorem rchanges_ok (d : Dd) (x : Int) (w : World) : Calls Try.prog 22 #[d.val, .int .i64 x] w fun e w' => e = .returned (.bool (chB d x)) ∧ Below w.heap.size w w' := by
  have HP := Lib.hid (show chB d x = true ↔ (d.k ≠ 0 ∧ d.w = x ∧ d.b ≠ d.a) from by unfold chB; exact decide_eq_true_iff)
  generalize chB d x = B at *
  obtain ⟨t, k, y, b, a, wt, en⟩ := d
  simp only [Dd.val, Dd.cells]
  have hP := HP.out
  simp only at hP
  have HP2 := Lib.hid hP
  clear hP HP
  go_enter Try.func22, Try.ntmps22
  go_wp2_with fail
  all_goals
    go_ret
    refine ⟨ret_bool ?_, by (repeat' (first | (with_reducible exact Below.refl _ _) | (with_reducible assumption) | (with_reducible refine Below.alloc ?_ ?_ _) | (with_reducible refine Below.drew ?_) | (with_reducible refine below_drewN ?_ _) | (with_reducible refine Below.setCell ?_ ?_ _) | (with_reducible refine Below.trans ?_ (Below.mono (by assumption) ?_)) | (first | go_size | (with_reducible exact Below.size (by assumption)) | (with_reducible exact Nat.le_trans (Below.size (by assumption)) (Below.size (by assumption))) | (refine Nat.le_trans (Below.size (by assumption)) ?_; go_size))))⟩
    have hP := HP2.out
    cases B
    all_goals
      simp only [Bool.false_eq_true, true_iff, false_iff] at hP
      first | rfl | (exfalso; omega) | (simp; omega) | (exfalso; simp only [beq_iff_eq, bne_iff_ne, beq_eq_false_iff_ne, bne_eq_false_iff_eq, ne_eq, Decidable.not_not] at *; omega) | (simp only [beq_iff_eq, bne_iff_ne, beq_eq_false_iff_ne, bne_eq_false_iff_eq, ne_eq, Decidable.not_not] at *; simp; omega)
theorem rkind_any (k : Int) (w : World) : Calls Try.prog 64 #[.int .i64 k] w fun e w' => e = .returned (.bool (decide (1 ≤ k ∧ k ≤ 4))) ∧ w = w' := by
  by_cases h1 : 1 ≤ k
  · have d1 : decide (k ≥ 1) = true := decide_eq_true h1
    have hv : decide (1 ≤ k ∧ k ≤ 4) = decide (k ≤ 4) := by rw [decide_eq_decide]; omega
    rw [hv]
    go_enter Try.func64, Try.ntmps64
    go_wp2
    go_ret
    exact ⟨rfl, rfl⟩
  · have d1 : decide (k ≥ 1) = false := decide_eq_false h1
    have hv : decide (1 ≤ k ∧ k ≤ 4) = false := decide_eq_false (by omega)
    rw [hv]
    go_enter Try.func64, Try.ntmps64
    go_wp2
    go_ret
    exact ⟨rfl, rfl⟩
set_option maxHeartbeats 2000000 in
theorem rright_ok (d : Dd) (w : World) : Calls Try.prog 54 #[d.val] w fun e w' => e = .returned (.bool (rightB d)) ∧ Below w.heap.size w w' := by
  have HP := Lib.hid (rightB_iff (d := d))
  generalize rightB d = B at *
  obtain ⟨t, k, x, b, a, wt, en⟩ := d
  simp only [Dd.val, Dd.cells]
  have hP := HP.out
  simp only at hP
  have HP2 := Lib.hid hP
  have he := acc_zero k x b a
  obtain ⟨E, hE⟩ : ∃ E : Bool, ((k == 0) && (x == 0) && (b == 0) && (a == 0)) = E := ⟨_, rfl⟩
  rw [hE] at he
  have hE2 : E = true ↔ (k = 0 ∧ x = 0 ∧ b = 0 ∧ a = 0) := by rw [← hE]; simp [and_assoc]
  have HE := Lib.hid hE2
  clear hP HP hE hE2
  cases wt <;> cases en
  all_goals
    have hP := HP2.out
    simp only [Bool.false_eq_true, Bool.true_eq_false, true_or, false_or, and_true, and_false, true_and, reduceCtorEq] at hP
    have HP3 := Lib.hid hP
    clear HP2 hP
    go_enter Try.func54, Try.ntmps54
    go_wp2_with (go_at_call 64; refine (rkind_any _ _).mono ?_; rintro e w' ⟨rfl, rfl⟩)
    all_goals
      go_ret
      refine ⟨ret_bool ?_, by (repeat' (first | (with_reducible exact Below.refl _ _) | (with_reducible assumption) | (with_reducible refine Below.alloc ?_ ?_ _) | (with_reducible refine Below.drew ?_) | (with_reducible refine below_drewN ?_ _) | (with_reducible refine Below.setCell ?_ ?_ _) | (with_reducible refine Below.trans ?_ (Below.mono (by assumption) ?_)) | (first | go_size | (with_reducible exact Below.size (by assumption)) | (with_reducible exact Nat.le_trans (Below.size (by assumption)) (Below.size (by assumption))) | (refine Nat.le_trans (Below.size (by assumption)) ?_; go_size))))⟩
      have hP := HP3.out
      have hE := HE.out
      cases E <;> cases B
      all_goals
        simp only [Bool.false_eq_true, true_iff, false_iff] at hP hE
        first | rfl | (exfalso; simp at hP; done) | (exfalso; omega) | (simp; omega) | (exfalso; simp only [beq_iff_eq, bne_iff_ne, beq_eq_false_iff_ne, bne_eq_false_iff_eq, ne_eq, Decidable.not_not] at *; omega) | (simp only [beq_iff_eq, bne_iff_ne, beq_eq_false_iff_ne, bne_eq_false_iff_eq, ne_eq, Decidable.not_not] at *; simp; omega) | (simp only [beq_iff_eq, bne_iff_ne, beq_eq_false_iff_ne, bne_eq_false_iff_eq, ne_eq, Decidable.not_not] at *; omega)
end Go.Proofs.Ytpndlggahdefcaa
