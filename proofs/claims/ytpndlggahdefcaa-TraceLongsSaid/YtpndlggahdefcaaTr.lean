/-
  Contracts of package trace, first part: right, changes.
-/
import Derived.Test.YtpndlggahdefcaaTrPure
import Derived.Deep.DeepCutAuto
import Derived.IntWalk
namespace Go.Proofs.Ytpndlggahdefcaa
open Go.RowKit
set_option linter.unusedSimpArgs false
set_option linter.unusedVariables false

theorem acc_zero (k w b a : Int) (W : World) :
    (binOp .eql 45 (.agg #[.int .i64 k, .int .i64 w, .int .u64 b, .int .u64 a]) (.agg #[.int .i64 0, .int .i64 0, .int .u64 0, .int .u64 0])).run Try.prog W = .ok (.bool ((k == 0) && (w == 0) && (b == 0) && (a == 0))) W := by
  by_cases h1 : k = 0 <;> by_cases h2 : w = 0 <;> by_cases h3 : b = 0 <;> by_cases h4 : a = 0 <;> (go_simp; try simp [*])
set_option maxHeartbeats 2000000 in
theorem right_ok (d : Dd) (w : World) : Calls Try.prog 47 #[d.val] w fun e w' => e = .returned (.bool (rightB d)) ∧ Below w.heap.size w w' := by
  have HP := Lib.hid (rightB_iff (d := d))
  generalize rightB d = B at *
  obtain ⟨t, k, x, b, a, wt, en⟩ := d
  simp only [Dd.val, Dd.cells]
  have hP := HP.out
  simp only at hP
  have HP2 := Lib.hid hP
  have he := acc_zero k x b a
  obtain ⟨E, hE⟩ : ∃ E : Bool, ((k == 0) && (x == 0) && (b == 0) && (a == 0)) = E := ⟨_, rfl⟩
  rw [hE] at he
  have hE2 : E = true ↔ (k = 0 ∧ x = 0 ∧ b = 0 ∧ a = 0) := by rw [← hE]; simp [and_assoc]
  have HE := Lib.hid hE2
  clear hP HP hE hE2
  cases wt <;> cases en
  all_goals
    have hP := HP2.out
    simp only [Bool.false_eq_true, Bool.true_eq_false, true_or, false_or, and_true, and_false, true_and, reduceCtorEq] at hP
    have HP3 := Lib.hid hP
    clear HP2 hP
    go_enter Try.func47, Try.ntmps47
    go_wp2_with fail
    all_goals
      go_ret
      refine ⟨ret_bool ?_, by (repeat' (first | (with_reducible exact Below.refl _ _) | (with_reducible assumption) | (with_reducible refine Below.alloc ?_ ?_ _) | (with_reducible refine Below.drew ?_) | (with_reducible refine below_drewN ?_ _) | (with_reducible refine Below.setCell ?_ ?_ _) | (with_reducible refine Below.trans ?_ (Below.mono (by assumption) ?_)) | (first | go_size | (with_reducible exact Below.size (by assumption)) | (with_reducible exact Nat.le_trans (Below.size (by assumption)) (Below.size (by assumption))) | (refine Nat.le_trans (Below.size (by assumption)) ?_; go_size))))⟩
      have hP := HP3.out
      have hE := HE.out
      cases E <;> cases B
      all_goals
        simp only [Bool.false_eq_true, true_iff, false_iff] at hP hE
        first | rfl | (exfalso; simp at hP; done) | (exfalso; omega) | (simp; omega) | (exfalso; simp only [beq_iff_eq, bne_iff_ne, beq_eq_false_iff_ne, bne_eq_false_iff_eq, ne_eq, Decidable.not_not] at *; omega) | (simp only [beq_iff_eq, bne_iff_ne, beq_eq_false_iff_ne, bne_eq_false_iff_eq, ne_eq, Decidable.not_not] at *; simp; omega)
end Go.Proofs.Ytpndlggahdefcaa
