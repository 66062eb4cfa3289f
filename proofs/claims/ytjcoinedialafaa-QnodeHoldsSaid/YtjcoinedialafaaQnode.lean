/-
  Contracts of package qnode: what each method of Nodes returns, at a pointer whose two cells hold a base and a number of threads from 1 to 64.
-/
import Derived.Test.YtjcoinedialafaaBase
namespace Go.Proofs.Ytjcoinedialafaa
open Go.RowKit

section
variable (b : Nat) (B t : Int) (w : World)
set_option maxHeartbeats 400000 in
theorem qnew_ok (hB : 0 ≤ B) (ht : 1 ≤ t) (ht2 : t ≤ 64) (hB2 : B ≤ 65536 - t * 2 * 3) :
    Calls Try.prog 11 #[.int .i64 B, .int .i64 t] w fun e w' => e = .returned (.tuple #[.pointer (some ⟨w.heap.size, 0, none⟩), .int .i64 0]) ∧ w.alloc (.cells #[.int .i64 B, .int .i64 t] 49) = w' := by
  go_enter Try.func11, Try.ntmps11
  go_wp2
  go_ret2
  exact ⟨rfl, rfl⟩
set_option maxHeartbeats 400000 in
theorem qnew_bad (h : B < 0 ∨ t < 1 ∨ 64 < t ∨ 65536 - t * 2 * 3 < B) :
    Calls Try.prog 11 #[.int .i64 B, .int .i64 t] w fun e w' => e = .returned (.tuple #[.pointer none, .int .i64 2]) ∧ w = w' := by
  by_cases h1 : B < 0
  · go_enter Try.func11, Try.ntmps11
    go_wp2
    go_ret2
    exact ⟨rfl, rfl⟩
  by_cases h2 : t < 1
  · go_enter Try.func11, Try.ntmps11
    go_wp2
    go_ret2
    exact ⟨rfl, rfl⟩
  by_cases h3 : 64 < t
  · go_enter Try.func11, Try.ntmps11
    go_wp2
    go_ret2
    exact ⟨rfl, rfl⟩
  have h4 : 65536 - t * 2 * 3 < B := by omega
  clear h
  go_enter Try.func11, Try.ntmps11
  go_wp2
  go_ret2
  exact ⟨rfl, rfl⟩
theorem zero_nil : Calls Try.prog 34 #[.pointer none] w fun e w' => e = .returned (.bool true) ∧ w = w' := by
  go_enter Try.func34, Try.ntmps34
  go_wp2
  go_ret
  exact ⟨rfl, rfl⟩
theorem zero_ok (h1 : w.cell? ⟨b, 1, none⟩ = some (.int .i64 t)) (ht : 1 ≤ t) :
    Calls Try.prog 34 #[.pointer (some ⟨b, 0, none⟩)] w fun e w' => e = .returned (.bool false) ∧ w = w' := by
  have hz : (t == 0) = false := by simp; omega
  go_enter Try.func34, Try.ntmps34
  go_wp2
  go_ret
  exact ⟨rfl, rfl⟩
theorem many_ok (h1 : w.cell? ⟨b, 1, none⟩ = some (.int .i64 t)) (ht : 1 ≤ t) (ht2 : t ≤ 64) :
    Calls Try.prog 33 #[.pointer (some ⟨b, 0, none⟩)] w fun e w' => e = .returned (.int .i64 (t * 2)) ∧ w = w' := by
  go_enter Try.func33, Try.ntmps33
  go_wp2_with (go_at_call 34; refine (zero_ok _ t _ (by assumption) (by omega)).mono ?_; rintro e w' ⟨rfl, rfl⟩)
  go_ret
  exact ⟨rfl, rfl⟩
theorem has_ok (k : Int) (h1 : w.cell? ⟨b, 1, none⟩ = some (.int .i64 t)) (ht : 1 ≤ t) (ht2 : t ≤ 64) (hk : 0 ≤ k) (hk2 : k < t * 2) :
    Calls Try.prog 35 #[.pointer (some ⟨b, 0, none⟩), .int .i64 k] w fun e w' => e = .returned (.bool true) ∧ w = w' := by
  have hd : decide (k < t * 2) = true := by simpa using hk2
  go_enter Try.func35, Try.ntmps35
  go_wp2_with (go_at_call 33; refine (many_ok _ t _ (by assumption) (by omega) (by omega)).mono ?_; rintro e w' ⟨rfl, rfl⟩)
  go_ret
  exact ⟨rfl, rfl⟩
theorem has_bad (k : Int) (h1 : w.cell? ⟨b, 1, none⟩ = some (.int .i64 t)) (ht : 1 ≤ t) (ht2 : t ≤ 64) (hk : k < 0 ∨ t * 2 ≤ k) :
    Calls Try.prog 35 #[.pointer (some ⟨b, 0, none⟩), .int .i64 k] w fun e w' => e = .returned (.bool false) ∧ w = w' := by
  by_cases hk' : k < 0
  · go_enter Try.func35, Try.ntmps35
    go_wp2_with (go_at_call 33; refine (many_ok _ t _ (by assumption) (by omega) (by omega)).mono ?_; rintro e w' ⟨rfl, rfl⟩)
    go_ret
    exact ⟨rfl, rfl⟩
  · have hd : decide (k < t * 2) = false := by simp; omega
    clear hk
    go_enter Try.func35, Try.ntmps35
    go_wp2_with (go_at_call 33; refine (many_ok _ t _ (by assumption) (by omega) (by omega)).mono ?_; rintro e w' ⟨rfl, rfl⟩)
    go_ret
    exact ⟨rfl, rfl⟩
theorem base_ok (h0 : w.cell? ⟨b, 0, none⟩ = some (.int .i64 B)) (h1 : w.cell? ⟨b, 1, none⟩ = some (.int .i64 t)) (ht : 1 ≤ t) :
    Calls Try.prog 26 #[.pointer (some ⟨b, 0, none⟩)] w fun e w' => e = .returned (.int .i64 B) ∧ w = w' := by
  go_enter Try.func26, Try.ntmps26
  go_wp2_with (go_at_call 34; refine (zero_ok _ t _ (by assumption) (by omega)).mono ?_; rintro e w' ⟨rfl, rfl⟩)
  go_ret
  exact ⟨rfl, rfl⟩
theorem threads_ok (h1 : w.cell? ⟨b, 1, none⟩ = some (.int .i64 t)) (ht : 1 ≤ t) (ht2 : t ≤ 64) :
    Calls Try.prog 23 #[.pointer (some ⟨b, 0, none⟩)] w fun e w' => e = .returned (.int .i64 t) ∧ w = w' := by
  go_enter Try.func23, Try.ntmps23
  go_wp2_with (go_at_call 33; refine (many_ok _ t _ (by assumption) (by omega) (by omega)).mono ?_; rintro e w' ⟨rfl, rfl⟩)
  go_ret
  exact ⟨ret_int (by omega), rfl⟩
theorem len_ok (h1 : w.cell? ⟨b, 1, none⟩ = some (.int .i64 t)) (ht : 1 ≤ t) (ht2 : t ≤ 64) :
    Calls Try.prog 27 #[.pointer (some ⟨b, 0, none⟩)] w fun e w' => e = .returned (.int .i64 (6 * t)) ∧ w = w' := by
  go_enter Try.func27, Try.ntmps27
  go_wp2_with (go_at_call 33; refine (many_ok _ t _ (by assumption) (by omega) (by omega)).mono ?_; rintro e w' ⟨rfl, rfl⟩)
  go_ret
  exact ⟨ret_int (by omega), rfl⟩
theorem of_ok (h k : Int) (h1 : w.cell? ⟨b, 1, none⟩ = some (.int .i64 t)) (ht : 1 ≤ t) (ht2 : t ≤ 64) (hh : 0 ≤ h) (hh2 : h < t) (hk : 0 ≤ k) (hk2 : k ≤ 1) :
    Calls Try.prog 24 #[.pointer (some ⟨b, 0, none⟩), .int .i64 h, .int .i64 k] w fun e w' => e = .returned (.tuple #[.int .i64 (2 * h + k), .int .i64 0]) ∧ w = w' := by
  have hc : k = 0 ∨ k = 1 := by omega
  rcases hc with rfl | rfl
  all_goals
    go_enter Try.func24, Try.ntmps24
    go_wp2_with (go_at_call 34; refine (zero_ok _ t _ (by assumption) (by omega)).mono ?_; rintro e w' ⟨rfl, rfl⟩)
    go_ret2
    exact ⟨by simp; omega, rfl⟩
theorem of_bad (h k : Int) (h1 : w.cell? ⟨b, 1, none⟩ = some (.int .i64 t)) (ht : 1 ≤ t) (hh : h < 0 ∨ t ≤ h ∨ k < 0 ∨ 1 < k) :
    Calls Try.prog 24 #[.pointer (some ⟨b, 0, none⟩), .int .i64 h, .int .i64 k] w fun e w' => e = .returned (.tuple #[.int .i64 0, .int .i64 2]) ∧ w = w' := by
  by_cases a1 : h < 0
  · go_enter Try.func24, Try.ntmps24
    go_wp2_with (go_at_call 34; refine (zero_ok _ t _ (by assumption) (by omega)).mono ?_; rintro e w' ⟨rfl, rfl⟩)
    go_ret2
    exact ⟨rfl, rfl⟩
  by_cases a2 : t ≤ h
  · go_enter Try.func24, Try.ntmps24
    go_wp2_with (go_at_call 34; refine (zero_ok _ t _ (by assumption) (by omega)).mono ?_; rintro e w' ⟨rfl, rfl⟩)
    go_ret2
    exact ⟨rfl, rfl⟩
  have a3 : (k == 0) = false := by simp; omega
  have a4 : (k == 1) = false := by simp; omega
  have a5 : (k != 0) = true := by simp; omega
  have a6 : (k != 1) = true := by simp; omega
  clear hh
  go_enter Try.func24, Try.ntmps24
  go_wp2_with (go_at_call 34; refine (zero_ok _ t _ (by assumption) (by omega)).mono ?_; rintro e w' ⟨rfl, rfl⟩)
  go_ret2
  exact ⟨rfl, rfl⟩
theorem owner_ok (k : Int) (h1 : w.cell? ⟨b, 1, none⟩ = some (.int .i64 t)) (ht : 1 ≤ t) (ht2 : t ≤ 64) (hk : 0 ≤ k) (hk2 : k < t * 2) :
    Calls Try.prog 29 #[.pointer (some ⟨b, 0, none⟩), .int .i64 k] w fun e w' => e = .returned (.tuple #[.int .i64 (k / 2), .int .i64 0]) ∧ w = w' := by
  go_enter Try.func29, Try.ntmps29
  go_wp2_with (first | (go_at_call 34; refine (zero_ok _ t _ (by assumption) (by omega)).mono ?_; rintro e w' ⟨rfl, rfl⟩) | (go_at_call 35; refine (has_ok _ t _ _ (by assumption) (by omega) (by omega) (by omega) (by omega)).mono ?_; rintro e w' ⟨rfl, rfl⟩))
  go_ret2
  exact ⟨rfl, rfl⟩
theorem owner_bad (k : Int) (h1 : w.cell? ⟨b, 1, none⟩ = some (.int .i64 t)) (ht : 1 ≤ t) (ht2 : t ≤ 64) (hk : k < 0 ∨ t * 2 ≤ k) :
    Calls Try.prog 29 #[.pointer (some ⟨b, 0, none⟩), .int .i64 k] w fun e w' => e = .returned (.tuple #[.int .i64 0, .int .i64 9]) ∧ w = w' := by
  go_enter Try.func29, Try.ntmps29
  go_wp2_with (first | (go_at_call 34; refine (zero_ok _ t _ (by assumption) (by omega)).mono ?_; rintro e w' ⟨rfl, rfl⟩) | (go_at_call 35; refine (has_bad _ t _ _ (by assumption) (by omega) (by omega) (by omega)).mono ?_; rintro e w' ⟨rfl, rfl⟩))
  go_ret2
  exact ⟨rfl, rfl⟩
theorem word_ok (k x : Int) (h0 : w.cell? ⟨b, 0, none⟩ = some (.int .i64 B)) (h1 : w.cell? ⟨b, 1, none⟩ = some (.int .i64 t)) (ht : 1 ≤ t) (ht2 : t ≤ 64) (hB : 0 ≤ B) (hB2 : B ≤ 65536) (hk : 0 ≤ k) (hk2 : k < t * 2) (hx : 0 ≤ x) (hx2 : x ≤ 2) :
    Calls Try.prog 30 #[.pointer (some ⟨b, 0, none⟩), .int .i64 k, .int .i64 x] w fun e w' => e = .returned (.int .i64 (B + 3 * k + x)) ∧ w = w' := by
  go_enter Try.func30, Try.ntmps30
  go_wp2_with (go_at_call 35; refine (has_ok _ t _ _ (by assumption) (by omega) (by omega) (by omega) (by omega)).mono ?_; rintro e w' ⟨rfl, rfl⟩)
  go_ret
  exact ⟨ret_int (by omega), rfl⟩
theorem word_bad (k x : Int) (h1 : w.cell? ⟨b, 1, none⟩ = some (.int .i64 t)) (ht : 1 ≤ t) (ht2 : t ≤ 64) (hk : k < 0 ∨ t * 2 ≤ k) :
    Calls Try.prog 30 #[.pointer (some ⟨b, 0, none⟩), .int .i64 k, .int .i64 x] w fun e w' => e = .returned (.int .i64 (-1)) ∧ w = w' := by
  go_enter Try.func30, Try.ntmps30
  go_wp2_with (go_at_call 35; refine (has_bad _ t _ _ (by assumption) (by omega) (by omega) (by omega)).mono ?_; rintro e w' ⟨rfl, rfl⟩)
  go_ret
  exact ⟨rfl, rfl⟩
theorem next_ok (k : Int) (h0 : w.cell? ⟨b, 0, none⟩ = some (.int .i64 B)) (h1 : w.cell? ⟨b, 1, none⟩ = some (.int .i64 t)) (ht : 1 ≤ t) (ht2 : t ≤ 64) (hB : 0 ≤ B) (hB2 : B ≤ 65536) (hk : 0 ≤ k) (hk2 : k < t * 2) :
    Calls Try.prog 15 #[.pointer (some ⟨b, 0, none⟩), .int .i64 k] w fun e w' => e = .returned (.int .i64 (B + 3 * k)) ∧ w = w' := by
  go_enter Try.func15, Try.ntmps15
  go_wp2_with (go_at_call 30; refine (word_ok _ B t _ _ _ (by assumption) (by assumption) (by omega) (by omega) (by omega) (by omega) (by omega) (by omega) (by omega) (by omega)).mono ?_; rintro e w' ⟨rfl, rfl⟩)
  go_ret
  exact ⟨ret_int (by omega), rfl⟩
theorem next_bad (k : Int) (h1 : w.cell? ⟨b, 1, none⟩ = some (.int .i64 t)) (ht : 1 ≤ t) (ht2 : t ≤ 64) (hk : k < 0 ∨ t * 2 ≤ k) :
    Calls Try.prog 15 #[.pointer (some ⟨b, 0, none⟩), .int .i64 k] w fun e w' => e = .returned (.int .i64 (-1)) ∧ w = w' := by
  go_enter Try.func15, Try.ntmps15
  go_wp2_with (go_at_call 30; refine (word_bad _ t _ _ _ (by assumption) (by omega) (by omega) (by omega)).mono ?_; rintro e w' ⟨rfl, rfl⟩)
  go_ret
  exact ⟨rfl, rfl⟩
theorem wait_ok (k : Int) (h0 : w.cell? ⟨b, 0, none⟩ = some (.int .i64 B)) (h1 : w.cell? ⟨b, 1, none⟩ = some (.int .i64 t)) (ht : 1 ≤ t) (ht2 : t ≤ 64) (hB : 0 ≤ B) (hB2 : B ≤ 65536) (hk : 0 ≤ k) (hk2 : k < t * 2) :
    Calls Try.prog 17 #[.pointer (some ⟨b, 0, none⟩), .int .i64 k] w fun e w' => e = .returned (.int .i64 (B + 3 * k + 1)) ∧ w = w' := by
  go_enter Try.func17, Try.ntmps17
  go_wp2_with (go_at_call 30; refine (word_ok _ B t _ _ _ (by assumption) (by assumption) (by omega) (by omega) (by omega) (by omega) (by omega) (by omega) (by omega) (by omega)).mono ?_; rintro e w' ⟨rfl, rfl⟩)
  go_ret
  exact ⟨ret_int (by omega), rfl⟩
theorem wait_bad (k : Int) (h1 : w.cell? ⟨b, 1, none⟩ = some (.int .i64 t)) (ht : 1 ≤ t) (ht2 : t ≤ 64) (hk : k < 0 ∨ t * 2 ≤ k) :
    Calls Try.prog 17 #[.pointer (some ⟨b, 0, none⟩), .int .i64 k] w fun e w' => e = .returned (.int .i64 (-1)) ∧ w = w' := by
  go_enter Try.func17, Try.ntmps17
  go_wp2_with (go_at_call 30; refine (word_bad _ t _ _ _ (by assumption) (by omega) (by omega) (by omega)).mono ?_; rintro e w' ⟨rfl, rfl⟩)
  go_ret
  exact ⟨rfl, rfl⟩
theorem mode_ok (k : Int) (h0 : w.cell? ⟨b, 0, none⟩ = some (.int .i64 B)) (h1 : w.cell? ⟨b, 1, none⟩ = some (.int .i64 t)) (ht : 1 ≤ t) (ht2 : t ≤ 64) (hB : 0 ≤ B) (hB2 : B ≤ 65536) (hk : 0 ≤ k) (hk2 : k < t * 2) :
    Calls Try.prog 19 #[.pointer (some ⟨b, 0, none⟩), .int .i64 k] w fun e w' => e = .returned (.int .i64 (B + 3 * k + 2)) ∧ w = w' := by
  go_enter Try.func19, Try.ntmps19
  go_wp2_with (go_at_call 30; refine (word_ok _ B t _ _ _ (by assumption) (by assumption) (by omega) (by omega) (by omega) (by omega) (by omega) (by omega) (by omega) (by omega)).mono ?_; rintro e w' ⟨rfl, rfl⟩)
  go_ret
  exact ⟨ret_int (by omega), rfl⟩
theorem mode_bad (k : Int) (h1 : w.cell? ⟨b, 1, none⟩ = some (.int .i64 t)) (ht : 1 ≤ t) (ht2 : t ≤ 64) (hk : k < 0 ∨ t * 2 ≤ k) :
    Calls Try.prog 19 #[.pointer (some ⟨b, 0, none⟩), .int .i64 k] w fun e w' => e = .returned (.int .i64 (-1)) ∧ w = w' := by
  go_enter Try.func19, Try.ntmps19
  go_wp2_with (go_at_call 30; refine (word_bad _ t _ _ _ (by assumption) (by omega) (by omega) (by omega)).mono ?_; rintro e w' ⟨rfl, rfl⟩)
  go_ret
  exact ⟨rfl, rfl⟩
theorem ref_ok (k : Int) (h1 : w.cell? ⟨b, 1, none⟩ = some (.int .i64 t)) (ht : 1 ≤ t) (ht2 : t ≤ 64) (hk : 0 ≤ k) (hk2 : k < t * 2) :
    Calls Try.prog 25 #[.pointer (some ⟨b, 0, none⟩), .int .i64 k] w fun e w' => e = .returned (.tuple #[.int .u64 (k + 1), .int .i64 0]) ∧ w = w' := by
  go_enter Try.func25, Try.ntmps25
  go_wp2_with (first | (go_at_call 34; refine (zero_ok _ t _ (by assumption) (by omega)).mono ?_; rintro e w' ⟨rfl, rfl⟩) | (go_at_call 35; refine (has_ok _ t _ _ (by assumption) (by omega) (by omega) (by omega) (by omega)).mono ?_; rintro e w' ⟨rfl, rfl⟩))
  go_ret2
  exact ⟨rfl, rfl⟩
theorem ref_bad (k : Int) (h1 : w.cell? ⟨b, 1, none⟩ = some (.int .i64 t)) (ht : 1 ≤ t) (ht2 : t ≤ 64) (hk : k < 0 ∨ t * 2 ≤ k) :
    Calls Try.prog 25 #[.pointer (some ⟨b, 0, none⟩), .int .i64 k] w fun e w' => e = .returned (.tuple #[.int .u64 0, .int .i64 9]) ∧ w = w' := by
  go_enter Try.func25, Try.ntmps25
  go_wp2_with (first | (go_at_call 34; refine (zero_ok _ t _ (by assumption) (by omega)).mono ?_; rintro e w' ⟨rfl, rfl⟩) | (go_at_call 35; refine (has_bad _ t _ _ (by assumption) (by omega) (by omega) (by omega)).mono ?_; rintro e w' ⟨rfl, rfl⟩))
  go_ret2
  exact ⟨rfl, rfl⟩
theorem node_ok (k : Int) (h1 : w.cell? ⟨b, 1, none⟩ = some (.int .i64 t)) (ht : 1 ≤ t) (ht2 : t ≤ 64) (hk : 0 ≤ k) (hk2 : k ≤ t * 2) :
    Calls Try.prog 32 #[.pointer (some ⟨b, 0, none⟩), .int .u64 k] w fun e w' => e = .returned (.tuple #[.int .i64 (k - 1), .int .i64 0]) ∧ w = w' := by
  go_enter Try.func32, Try.ntmps32
  go_wp2_with (first | (go_at_call 34; refine (zero_ok _ t _ (by assumption) (by omega)).mono ?_; rintro e w' ⟨rfl, rfl⟩) | (go_at_call 33; refine (many_ok _ t _ (by assumption) (by omega) (by omega)).mono ?_; rintro e w' ⟨rfl, rfl⟩))
  go_ret2
  exact ⟨rfl, rfl⟩
theorem node_bad (k : Int) (h1 : w.cell? ⟨b, 1, none⟩ = some (.int .i64 t)) (ht : 1 ≤ t) (ht2 : t ≤ 64) (hk : t * 2 < k) :
    Calls Try.prog 32 #[.pointer (some ⟨b, 0, none⟩), .int .u64 k] w fun e w' => e = .returned (.tuple #[.int .i64 0, .int .i64 12]) ∧ w = w' := by
  go_enter Try.func32, Try.ntmps32
  go_wp2_with (first | (go_at_call 34; refine (zero_ok _ t _ (by assumption) (by omega)).mono ?_; rintro e w' ⟨rfl, rfl⟩) | (go_at_call 33; refine (many_ok _ t _ (by assumption) (by omega) (by omega)).mono ?_; rintro e w' ⟨rfl, rfl⟩))
  go_ret2
  exact ⟨rfl, rfl⟩
theorem same_yes (b' : Nat) (h0 : w.cell? ⟨b, 0, none⟩ = some (.int .i64 B)) (h1 : w.cell? ⟨b, 1, none⟩ = some (.int .i64 t)) (h0' : w.cell? ⟨b', 0, none⟩ = some (.int .i64 B)) (h1' : w.cell? ⟨b', 1, none⟩ = some (.int .i64 t)) (ht : 1 ≤ t) :
    Calls Try.prog 28 #[.pointer (some ⟨b, 0, none⟩), .pointer (some ⟨b', 0, none⟩)] w fun e w' => e = .returned (.bool true) ∧ ∃ n, w.drewN n = w' := by
  go_enter Try.func28, Try.ntmps28
  go_wp2_with fail
  go_quiet ((go_at_call 34; refine quiet_left (zero_ok _ t _ (by go_cell) (by omega))))
  go_wp2
  go_ret
  exact ⟨rfl, _, rfl⟩
theorem same_z1 (v u : Value) (hz : ∀ n, Calls Try.prog 34 #[v] (w.drewN n) fun e w' => e = .returned (.bool true) ∧ w.drewN n = w') :
    Calls Try.prog 28 #[v, u] w fun e w' => e = .returned (.bool false) ∧ ∃ n, w.drewN n = w' := by
  have H := Lib.hid hz
  clear hz
  go_enter Try.func28, Try.ntmps28
  go_wp2_with fail
  go_quiet ((go_at_call 34; refine quiet_left (H.out _)))
  go_wp2
  go_ret
  exact ⟨rfl, _, rfl⟩
theorem same_z2 (v u : Value) (hz : ∀ n, Calls Try.prog 34 #[v] (w.drewN n) fun e w' => e = .returned (.bool false) ∧ w.drewN n = w')
    (hu : ∀ n, Calls Try.prog 34 #[u] (w.drewN n) fun e w' => e = .returned (.bool true) ∧ w.drewN n = w') :
    Calls Try.prog 28 #[v, u] w fun e w' => e = .returned (.bool false) ∧ ∃ n, w.drewN n = w' := by
  have H := Lib.hid hz
  have H2 := Lib.hid hu
  clear hz hu
  go_enter Try.func28, Try.ntmps28
  go_wp2_with fail
  go_quiet ((go_at_call 34; first | (with_reducible refine quiet_left (H.out _)) | (with_reducible refine quiet_left (H2.out _))))
  go_wp2
  go_ret
  exact ⟨rfl, _, rfl⟩
theorem zero_zero (h1 : w.cell? ⟨b, 1, none⟩ = some (.int .i64 0)) :
    Calls Try.prog 34 #[.pointer (some ⟨b, 0, none⟩)] w fun e w' => e = .returned (.bool true) ∧ w = w' := by
  go_enter Try.func34, Try.ntmps34
  go_wp2
  go_ret
  exact ⟨rfl, rfl⟩
theorem same_no (b' : Nat) (B' t' : Int) (h0 : w.cell? ⟨b, 0, none⟩ = some (.int .i64 B)) (h1 : w.cell? ⟨b, 1, none⟩ = some (.int .i64 t)) (h0' : w.cell? ⟨b', 0, none⟩ = some (.int .i64 B')) (h1' : w.cell? ⟨b', 1, none⟩ = some (.int .i64 t')) (ht : 1 ≤ t) (ht' : 1 ≤ t')
    (hne : B ≠ B' ∨ t ≠ t') :
    Calls Try.prog 28 #[.pointer (some ⟨b, 0, none⟩), .pointer (some ⟨b', 0, none⟩)] w fun e w' => e = .returned (.bool false) ∧ ∃ n, w.drewN n = w' := by
  by_cases c : B = B'
  · have c2 : t ≠ t' := by
      rcases hne with h | h
      · exact absurd c h
      · exact h
    have c3 : (t == t') = false := by simpa using c2
    subst c
    clear hne c2
    go_enter Try.func28, Try.ntmps28
    go_wp2_with fail
    go_quiet ((go_at_call 34; first | (with_reducible refine quiet_left (zero_ok b t _ ?_ ?_)) | (with_reducible refine quiet_left (zero_ok b' t' _ ?_ ?_))) <;> first | omega | go_cell)
    go_wp2
    go_ret
    exact ⟨rfl, _, rfl⟩
  · have c3 : (B == B') = false := by simpa using c
    clear hne c
    go_enter Try.func28, Try.ntmps28
    go_wp2_with fail
    go_quiet ((go_at_call 34; first | (with_reducible refine quiet_left (zero_ok b t _ ?_ ?_)) | (with_reducible refine quiet_left (zero_ok b' t' _ ?_ ?_))) <;> first | omega | go_cell)
    go_wp2
    go_ret
    exact ⟨rfl, _, rfl⟩
end
end Go.Proofs.Ytjcoinedialafaa
