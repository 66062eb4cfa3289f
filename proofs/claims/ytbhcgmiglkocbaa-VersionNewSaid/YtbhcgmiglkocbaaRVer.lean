/-
  Contract of the reference's Right: which words may be read or written.
-/
import Derived.Test.YtbhcgmiglkocbaaVMade
import Derived.Test.YtbhcgmiglkocbaaVerPure
namespace Go.Proofs.Ytbhcgmiglkocbaa
open Go.RowKit

theorem right_ok (v f n : Int) (w : World) (h : OkV v f n) : Calls Try.prog 11 #[.int .i64 v, .int .i64 f, .int .i64 n] w fun e w' => e = .returned (.bool true) ∧ w = w' := by
  obtain ⟨v0, v1, n0, n1, fr⟩ := h
  have d1 : decide (v < 0) = false := decide_eq_false (by omega)
  have d2 : decide (65536 ≤ v) = false := decide_eq_false (by omega)
  have d3 : decide (n < 0) = false := decide_eq_false (by omega)
  have d4 : decide (256 < n) = false := decide_eq_false (by omega)
  by_cases hn : n = 0
  · have e1 : (n == 0) = true := by rw [beq_iff_eq]; exact hn
    clear fr hn
    go_enter Try.func11, Try.ntmps11
    go_wp2
    go_ret
    exact ⟨rfl, rfl⟩
  · have e1 : (n == 0) = false := by rw [beq_eq_false_iff_ne]; exact hn
    obtain ⟨f0, f1, f2, f3⟩ := fr (by omega)
    have d5 : decide (f < 0) = false := decide_eq_false (by omega)
    have d6 : decide (65536 ≤ f) = false := decide_eq_false (by omega)
    have d7 : decide (65536 < f + n) = false := decide_eq_false (by omega)
    by_cases hv : v < f
    · have d8 : decide (v < f) = true := decide_eq_true hv
      clear fr f3 hn
      go_enter Try.func11, Try.ntmps11
      go_wp2
      go_ret
      exact ⟨rfl, rfl⟩
    · have d8 : decide (v < f) = false := decide_eq_false hv
      have d9 : decide (f + n ≤ v) = true := decide_eq_true (by omega)
      clear fr f3 hn
      go_enter Try.func11, Try.ntmps11
      go_wp2
      go_ret
      exact ⟨rfl, rfl⟩
set_option maxHeartbeats 400000 in
theorem right_bad (v f n : Int) (w : World) (h : ¬ OkV v f n) : Calls Try.prog 11 #[.int .i64 v, .int .i64 f, .int .i64 n] w fun e w' => e = .returned (.bool false) ∧ w = w' := by
  have hh := Lib.hid h
  clear h
  by_cases h1 : v < 0
  · have d1 : decide (v < 0) = true := decide_eq_true h1
    go_enter Try.func11, Try.ntmps11
    go_wp2
    go_ret
    exact ⟨rfl, rfl⟩
  have d1 : decide (v < 0) = false := decide_eq_false h1
  by_cases h2 : 65536 ≤ v
  · have d2 : decide (65536 ≤ v) = true := decide_eq_true h2
    go_enter Try.func11, Try.ntmps11
    go_wp2
    go_ret
    exact ⟨rfl, rfl⟩
  have d2 : decide (65536 ≤ v) = false := decide_eq_false h2
  by_cases h3 : n < 0
  · have d3 : decide (n < 0) = true := decide_eq_true h3
    go_enter Try.func11, Try.ntmps11
    go_wp2
    go_ret
    exact ⟨rfl, rfl⟩
  have d3 : decide (n < 0) = false := decide_eq_false h3
  by_cases h4 : 256 < n
  · have d4 : decide (256 < n) = true := decide_eq_true h4
    go_enter Try.func11, Try.ntmps11
    go_wp2
    go_ret
    exact ⟨rfl, rfl⟩
  have d4 : decide (256 < n) = false := decide_eq_false h4
  have hn : 0 < n := by
    apply Classical.byContradiction
    intro hc
    exact hh.out ⟨by omega, by omega, by omega, by omega, fun h => absurd h hc⟩
  have e1 : (n == 0) = false := by rw [beq_eq_false_iff_ne]; omega
  by_cases h5 : f < 0
  · have d5 : decide (f < 0) = true := decide_eq_true h5
    go_enter Try.func11, Try.ntmps11
    go_wp2
    go_ret
    exact ⟨rfl, rfl⟩
  have d5 : decide (f < 0) = false := decide_eq_false h5
  by_cases h6 : 65536 ≤ f
  · have d6 : decide (65536 ≤ f) = true := decide_eq_true h6
    go_enter Try.func11, Try.ntmps11
    go_wp2
    go_ret
    exact ⟨rfl, rfl⟩
  have d6 : decide (65536 ≤ f) = false := decide_eq_false h6
  by_cases h7 : 65536 < f + n
  · have d7 : decide (65536 < f + n) = true := decide_eq_true h7
    go_enter Try.func11, Try.ntmps11
    go_wp2
    go_ret
    exact ⟨rfl, rfl⟩
  have d7 : decide (65536 < f + n) = false := decide_eq_false h7
  have h8 : f ≤ v ∧ v < f + n := by
    apply Classical.byContradiction
    intro hc
    exact hh.out ⟨by omega, by omega, by omega, by omega, fun _ => ⟨by omega, by omega, by omega, by omega⟩⟩
  have d8 : decide (v < f) = false := decide_eq_false (by omega)
  have d9 : decide (f + n ≤ v) = false := decide_eq_false (by omega)
  have h9 : 0 ≤ f := by omega
  have h10 : f + n ≤ 65536 := by omega
  clear h1 h2 h3 h4 h5 h6 h7 h8
  go_enter Try.func11, Try.ntmps11
  go_wp2
  go_ret
  exact ⟨rfl, rfl⟩
end Go.Proofs.Ytbhcgmiglkocbaa
