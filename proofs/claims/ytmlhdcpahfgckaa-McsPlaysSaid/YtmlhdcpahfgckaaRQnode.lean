/-
  Contracts of the reference of layer 7: what the words of a node are, by a base and a number of threads.
-/
import Derived.Test.YtmlhdcpahfgckaaBase
namespace Go.Proofs.Ytmlhdcpahfgckaa
open Go.RowKit

section
variable (B t k : Int) (w : World)
abbrev rq (B t : Int) : Obj := .cells #[.int .i64 B, .int .i64 t] 41
theorem rhas_ok (ht2 : t ≤ 64) (ht : 1 ≤ t) (b1 : 0 ≤ k) (b2 : k < 2 * t) :
    Calls Try.prog 27 #[.agg #[.int .i64 B, .int .i64 t], .int .i64 k] w fun e w' => e = .returned (.bool true) ∧ w.alloc (rq B t) = w' := by
  have hd2 : decide (k < 2 * t) = true := by simpa using b2
  go_enter Try.func27, Try.ntmps27
  go_wp2
  go_ret
  exact ⟨rfl, rfl⟩
theorem rhas_bad (ht2 : t ≤ 64) (ht : 1 ≤ t) (hk : k < 0 ∨ 2 * t ≤ k) :
    Calls Try.prog 27 #[.agg #[.int .i64 B, .int .i64 t], .int .i64 k] w fun e w' => e = .returned (.bool false) ∧ w.alloc (rq B t) = w' := by
  by_cases b1 : k < 0
  · go_enter Try.func27, Try.ntmps27
    go_wp2
    go_ret
    exact ⟨rfl, rfl⟩
  · have hd2 : decide (k < 2 * t) = false := by simp; omega
    clear hk
    go_enter Try.func27, Try.ntmps27
    go_wp2
    go_ret
    exact ⟨rfl, rfl⟩
theorem rword_ok (x : Int) (ht2 : t ≤ 64) (ht : 1 ≤ t) (hB : 0 ≤ B) (hB2 : B ≤ 65536) (b1 : 0 ≤ k) (b2 : k < 2 * t) (hx : 0 ≤ x) (hx2 : x ≤ 2) :
    Calls Try.prog 51 #[.agg #[.int .i64 B, .int .i64 t], .int .i64 k, .int .i64 x] w fun e w' => e = .returned (.int .i64 (B + 3 * k + x)) ∧ (w.alloc (rq B t)).alloc (rq B t) = w' := by
  go_enter Try.func51, Try.ntmps51
  go_wp2_with (go_at_call 27; refine (rhas_ok _ _ _ _ (by omega) (by omega) (by omega) (by omega)).mono ?_; rintro e w' ⟨rfl, rfl⟩)
  go_ret
  exact ⟨rfl, rfl⟩
theorem rword_bad (x : Int) (ht2 : t ≤ 64) (ht : 1 ≤ t) (hk : k < 0 ∨ 2 * t ≤ k) :
    Calls Try.prog 51 #[.agg #[.int .i64 B, .int .i64 t], .int .i64 k, .int .i64 x] w fun e w' => e = .returned (.int .i64 (-1)) ∧ (w.alloc (rq B t)).alloc (rq B t) = w' := by
  go_enter Try.func51, Try.ntmps51
  go_wp2_with (go_at_call 27; refine (rhas_bad _ _ _ _ (by omega) (by omega) (by omega)).mono ?_; rintro e w' ⟨rfl, rfl⟩)
  go_ret
  exact ⟨rfl, rfl⟩
theorem rnext_ok (ht2 : t ≤ 64) (ht : 1 ≤ t) (hB : 0 ≤ B) (hB2 : B ≤ 65536) (b1 : 0 ≤ k) (b2 : k < 2 * t) :
    Calls Try.prog 46 #[.agg #[.int .i64 B, .int .i64 t], .int .i64 k] w fun e w' => e = .returned (.int .i64 (B + 3 * k)) ∧ ((w.alloc (rq B t)).alloc (rq B t)).alloc (rq B t) = w' := by
  go_enter Try.func46, Try.ntmps46
  go_wp2_with (go_at_call 51; refine (rword_ok _ _ _ _ _ (by omega) (by omega) (by omega) (by omega) (by omega) (by omega) (by omega) (by omega)).mono ?_; rintro e w' ⟨rfl, rfl⟩)
  go_ret
  exact ⟨ret_int (by omega), rfl⟩
theorem rnext_bad (ht2 : t ≤ 64) (ht : 1 ≤ t) (hk : k < 0 ∨ 2 * t ≤ k) :
    Calls Try.prog 46 #[.agg #[.int .i64 B, .int .i64 t], .int .i64 k] w fun e w' => e = .returned (.int .i64 (-1)) ∧ ((w.alloc (rq B t)).alloc (rq B t)).alloc (rq B t) = w' := by
  go_enter Try.func46, Try.ntmps46
  go_wp2_with (go_at_call 51; refine (rword_bad _ _ _ _ _ (by omega) (by omega) (by omega)).mono ?_; rintro e w' ⟨rfl, rfl⟩)
  go_ret
  exact ⟨rfl, rfl⟩
theorem rwait_ok (ht2 : t ≤ 64) (ht : 1 ≤ t) (hB : 0 ≤ B) (hB2 : B ≤ 65536) (b1 : 0 ≤ k) (b2 : k < 2 * t) :
    Calls Try.prog 47 #[.agg #[.int .i64 B, .int .i64 t], .int .i64 k] w fun e w' => e = .returned (.int .i64 (B + 3 * k + 1)) ∧ ((w.alloc (rq B t)).alloc (rq B t)).alloc (rq B t) = w' := by
  go_enter Try.func47, Try.ntmps47
  go_wp2_with (go_at_call 51; refine (rword_ok _ _ _ _ _ (by omega) (by omega) (by omega) (by omega) (by omega) (by omega) (by omega) (by omega)).mono ?_; rintro e w' ⟨rfl, rfl⟩)
  go_ret
  exact ⟨rfl, rfl⟩
theorem rwait_bad (ht2 : t ≤ 64) (ht : 1 ≤ t) (hk : k < 0 ∨ 2 * t ≤ k) :
    Calls Try.prog 47 #[.agg #[.int .i64 B, .int .i64 t], .int .i64 k] w fun e w' => e = .returned (.int .i64 (-1)) ∧ ((w.alloc (rq B t)).alloc (rq B t)).alloc (rq B t) = w' := by
  go_enter Try.func47, Try.ntmps47
  go_wp2_with (go_at_call 51; refine (rword_bad _ _ _ _ _ (by omega) (by omega) (by omega)).mono ?_; rintro e w' ⟨rfl, rfl⟩)
  go_ret
  exact ⟨rfl, rfl⟩
end
end Go.Proofs.Ytmlhdcpahfgckaa
