/-
  Contracts of package qnode: what each method of Nodes returns, at a pointer whose two cells hold a base and a number of threads from 1 to 64.
-/
import Derived.Test.YtmlhdcpahfgckaaBase
namespace Go.Proofs.Ytmlhdcpahfgckaa
open Go.RowKit

section
variable (b : Nat) (B t : Int) (w : World)
set_option maxHeartbeats 400000 in
theorem qnew_ok (hB : 0 ≤ B) (ht : 1 ≤ t) (ht2 : t ≤ 64) (hB2 : B ≤ 65536 - t * 2 * 3) :
    Calls Try.prog 9 #[.int .i64 B, .int .i64 t] w fun e w' => e = .returned (.tuple #[.pointer (some ⟨w.heap.size, 0, none⟩), .int .i64 0]) ∧ w.alloc (.cells #[.int .i64 B, .int .i64 t] 62) = w' := by
  go_enter Try.func9, Try.ntmps9
  go_wp2
  go_ret2
  exact ⟨rfl, rfl⟩
set_option maxHeartbeats 400000 in
theorem qnew_bad (h : B < 0 ∨ t < 1 ∨ 64 < t ∨ 65536 - t * 2 * 3 < B) :
    Calls Try.prog 9 #[.int .i64 B, .int .i64 t] w fun e w' => e = .returned (.tuple #[.pointer none, .int .i64 2]) ∧ w = w' := by
  by_cases h1 : B < 0
  · go_enter Try.func9, Try.ntmps9
    go_wp2
    go_ret2
    exact ⟨rfl, rfl⟩
  by_cases h2 : t < 1
  · go_enter Try.func9, Try.ntmps9
    go_wp2
    go_ret2
    exact ⟨rfl, rfl⟩
  by_cases h3 : 64 < t
  · go_enter Try.func9, Try.ntmps9
    go_wp2
    go_ret2
    exact ⟨rfl, rfl⟩
  have h4 : 65536 - t * 2 * 3 < B := by omega
  clear h
  go_enter Try.func9, Try.ntmps9
  go_wp2
  go_ret2
  exact ⟨rfl, rfl⟩
theorem zero_nil : Calls Try.prog 50 #[.pointer none] w fun e w' => e = .returned (.bool true) ∧ w = w' := by
  go_enter Try.func50, Try.ntmps50
  go_wp2
  go_ret
  exact ⟨rfl, rfl⟩
theorem zero_ok (h1 : w.cell? ⟨b, 1, none⟩ = some (.int .i64 t)) (ht : 1 ≤ t) :
    Calls Try.prog 50 #[.pointer (some ⟨b, 0, none⟩)] w fun e w' => e = .returned (.bool false) ∧ w = w' := by
  have hz : (t == 0) = false := by simp; omega
  go_enter Try.func50, Try.ntmps50
  go_wp2
  go_ret
  exact ⟨rfl, rfl⟩
theorem many_ok (h1 : w.cell? ⟨b, 1, none⟩ = some (.int .i64 t)) (ht : 1 ≤ t) (ht2 : t ≤ 64) :
    Calls Try.prog 41 #[.pointer (some ⟨b, 0, none⟩)] w fun e w' => e = .returned (.int .i64 (t * 2)) ∧ w = w' := by
  go_enter Try.func41, Try.ntmps41
  go_wp2_with (go_at_call 50; refine (zero_ok _ t _ (by assumption) (by omega)).mono ?_; rintro e w' ⟨rfl, rfl⟩)
  go_ret
  exact ⟨rfl, rfl⟩
theorem has_ok (k : Int) (h1 : w.cell? ⟨b, 1, none⟩ = some (.int .i64 t)) (ht : 1 ≤ t) (ht2 : t ≤ 64) (hk : 0 ≤ k) (hk2 : k < t * 2) :
    Calls Try.prog 32 #[.pointer (some ⟨b, 0, none⟩), .int .i64 k] w fun e w' => e = .returned (.bool true) ∧ w = w' := by
  have hd : decide (k < t * 2) = true := by simpa using hk2
  go_enter Try.func32, Try.ntmps32
  go_wp2_with (go_at_call 41; refine (many_ok _ t _ (by assumption) (by omega) (by omega)).mono ?_; rintro e w' ⟨rfl, rfl⟩)
  go_ret
  exact ⟨rfl, rfl⟩
theorem has_bad (k : Int) (h1 : w.cell? ⟨b, 1, none⟩ = some (.int .i64 t)) (ht : 1 ≤ t) (ht2 : t ≤ 64) (hk : k < 0 ∨ t * 2 ≤ k) :
    Calls Try.prog 32 #[.pointer (some ⟨b, 0, none⟩), .int .i64 k] w fun e w' => e = .returned (.bool false) ∧ w = w' := by
  by_cases hk' : k < 0
  · go_enter Try.func32, Try.ntmps32
    go_wp2_with (go_at_call 41; refine (many_ok _ t _ (by assumption) (by omega) (by omega)).mono ?_; rintro e w' ⟨rfl, rfl⟩)
    go_ret
    exact ⟨rfl, rfl⟩
  · have hd : decide (k < t * 2) = false := by simp; omega
    clear hk
    go_enter Try.func32, Try.ntmps32
    go_wp2_with (go_at_call 41; refine (many_ok _ t _ (by assumption) (by omega) (by omega)).mono ?_; rintro e w' ⟨rfl, rfl⟩)
    go_ret
    exact ⟨rfl, rfl⟩
theorem base_ok (h0 : w.cell? ⟨b, 0, none⟩ = some (.int .i64 B)) (h1 : w.cell? ⟨b, 1, none⟩ = some (.int .i64 t)) (ht : 1 ≤ t) :
    Calls Try.prog 43 #[.pointer (some ⟨b, 0, none⟩)] w fun e w' => e = .returned (.int .i64 B) ∧ w = w' := by
  go_enter Try.func43, Try.ntmps43
  go_wp2_with (go_at_call 50; refine (zero_ok _ t _ (by assumption) (by omega)).mono ?_; rintro e w' ⟨rfl, rfl⟩)
  go_ret
  exact ⟨rfl, rfl⟩
theorem threads_ok (h1 : w.cell? ⟨b, 1, none⟩ = some (.int .i64 t)) (ht : 1 ≤ t) (ht2 : t ≤ 64) :
    Calls Try.prog 42 #[.pointer (some ⟨b, 0, none⟩)] w fun e w' => e = .returned (.int .i64 t) ∧ w = w' := by
  go_enter Try.func42, Try.ntmps42
  go_wp2_with (go_at_call 41; refine (many_ok _ t _ (by assumption) (by omega) (by omega)).mono ?_; rintro e w' ⟨rfl, rfl⟩)
  go_ret
  exact ⟨ret_int (by omega), rfl⟩
theorem len_ok (h1 : w.cell? ⟨b, 1, none⟩ = some (.int .i64 t)) (ht : 1 ≤ t) (ht2 : t ≤ 64) :
    Calls Try.prog 44 #[.pointer (some ⟨b, 0, none⟩)] w fun e w' => e = .returned (.int .i64 (6 * t)) ∧ w = w' := by
  go_enter Try.func44, Try.ntmps44
  go_wp2_with (go_at_call 41; refine (many_ok _ t _ (by assumption) (by omega) (by omega)).mono ?_; rintro e w' ⟨rfl, rfl⟩)
  go_ret
  exact ⟨ret_int (by omega), rfl⟩
theorem owner_ok (k : Int) (h1 : w.cell? ⟨b, 1, none⟩ = some (.int .i64 t)) (ht : 1 ≤ t) (ht2 : t ≤ 64) (hk : 0 ≤ k) (hk2 : k < t * 2) :
    Calls Try.prog 45 #[.pointer (some ⟨b, 0, none⟩), .int .i64 k] w fun e w' => e = .returned (.tuple #[.int .i64 (k / 2), .int .i64 0]) ∧ w = w' := by
  go_enter Try.func45, Try.ntmps45
  go_wp2_with (first | (go_at_call 50; refine (zero_ok _ t _ (by assumption) (by omega)).mono ?_; rintro e w' ⟨rfl, rfl⟩) | (go_at_call 32; refine (has_ok _ t _ _ (by assumption) (by omega) (by omega) (by omega) (by omega)).mono ?_; rintro e w' ⟨rfl, rfl⟩))
  go_ret2
  exact ⟨rfl, rfl⟩
theorem owner_bad (k : Int) (h1 : w.cell? ⟨b, 1, none⟩ = some (.int .i64 t)) (ht : 1 ≤ t) (ht2 : t ≤ 64) (hk : k < 0 ∨ t * 2 ≤ k) :
    Calls Try.prog 45 #[.pointer (some ⟨b, 0, none⟩), .int .i64 k] w fun e w' => e = .returned (.tuple #[.int .i64 0, .int .i64 9]) ∧ w = w' := by
  go_enter Try.func45, Try.ntmps45
  go_wp2_with (first | (go_at_call 50; refine (zero_ok _ t _ (by assumption) (by omega)).mono ?_; rintro e w' ⟨rfl, rfl⟩) | (go_at_call 32; refine (has_bad _ t _ _ (by assumption) (by omega) (by omega) (by omega)).mono ?_; rintro e w' ⟨rfl, rfl⟩))
  go_ret2
  exact ⟨rfl, rfl⟩
theorem word_ok (k x : Int) (h0 : w.cell? ⟨b, 0, none⟩ = some (.int .i64 B)) (h1 : w.cell? ⟨b, 1, none⟩ = some (.int .i64 t)) (ht : 1 ≤ t) (ht2 : t ≤ 64) (hB : 0 ≤ B) (hB2 : B ≤ 65536) (hk : 0 ≤ k) (hk2 : k < t * 2) (hx : 0 ≤ x) (hx2 : x ≤ 2) :
    Calls Try.prog 22 #[.pointer (some ⟨b, 0, none⟩), .int .i64 k, .int .i64 x] w fun e w' => e = .returned (.int .i64 (B + 3 * k + x)) ∧ w = w' := by
  go_enter Try.func22, Try.ntmps22
  go_wp2_with (go_at_call 32; refine (has_ok _ t _ _ (by assumption) (by omega) (by omega) (by omega) (by omega)).mono ?_; rintro e w' ⟨rfl, rfl⟩)
  go_ret
  exact ⟨ret_int (by omega), rfl⟩
theorem word_bad (k x : Int) (h1 : w.cell? ⟨b, 1, none⟩ = some (.int .i64 t)) (ht : 1 ≤ t) (ht2 : t ≤ 64) (hk : k < 0 ∨ t * 2 ≤ k) :
    Calls Try.prog 22 #[.pointer (some ⟨b, 0, none⟩), .int .i64 k, .int .i64 x] w fun e w' => e = .returned (.int .i64 (-1)) ∧ w = w' := by
  go_enter Try.func22, Try.ntmps22
  go_wp2_with (go_at_call 32; refine (has_bad _ t _ _ (by assumption) (by omega) (by omega) (by omega)).mono ?_; rintro e w' ⟨rfl, rfl⟩)
  go_ret
  exact ⟨rfl, rfl⟩
theorem next_ok (k : Int) (h0 : w.cell? ⟨b, 0, none⟩ = some (.int .i64 B)) (h1 : w.cell? ⟨b, 1, none⟩ = some (.int .i64 t)) (ht : 1 ≤ t) (ht2 : t ≤ 64) (hB : 0 ≤ B) (hB2 : B ≤ 65536) (hk : 0 ≤ k) (hk2 : k < t * 2) :
    Calls Try.prog 10 #[.pointer (some ⟨b, 0, none⟩), .int .i64 k] w fun e w' => e = .returned (.int .i64 (B + 3 * k)) ∧ w = w' := by
  go_enter Try.func10, Try.ntmps10
  go_wp2_with (go_at_call 22; refine (word_ok _ B t _ _ _ (by assumption) (by assumption) (by omega) (by omega) (by omega) (by omega) (by omega) (by omega) (by omega) (by omega)).mono ?_; rintro e w' ⟨rfl, rfl⟩)
  go_ret
  exact ⟨ret_int (by omega), rfl⟩
theorem next_bad (k : Int) (h1 : w.cell? ⟨b, 1, none⟩ = some (.int .i64 t)) (ht : 1 ≤ t) (ht2 : t ≤ 64) (hk : k < 0 ∨ t * 2 ≤ k) :
    Calls Try.prog 10 #[.pointer (some ⟨b, 0, none⟩), .int .i64 k] w fun e w' => e = .returned (.int .i64 (-1)) ∧ w = w' := by
  go_enter Try.func10, Try.ntmps10
  go_wp2_with (go_at_call 22; refine (word_bad _ t _ _ _ (by assumption) (by omega) (by omega) (by omega)).mono ?_; rintro e w' ⟨rfl, rfl⟩)
  go_ret
  exact ⟨rfl, rfl⟩
theorem wait_ok (k : Int) (h0 : w.cell? ⟨b, 0, none⟩ = some (.int .i64 B)) (h1 : w.cell? ⟨b, 1, none⟩ = some (.int .i64 t)) (ht : 1 ≤ t) (ht2 : t ≤ 64) (hB : 0 ≤ B) (hB2 : B ≤ 65536) (hk : 0 ≤ k) (hk2 : k < t * 2) :
    Calls Try.prog 11 #[.pointer (some ⟨b, 0, none⟩), .int .i64 k] w fun e w' => e = .returned (.int .i64 (B + 3 * k + 1)) ∧ w = w' := by
  go_enter Try.func11, Try.ntmps11
  go_wp2_with (go_at_call 22; refine (word_ok _ B t _ _ _ (by assumption) (by assumption) (by omega) (by omega) (by omega) (by omega) (by omega) (by omega) (by omega) (by omega)).mono ?_; rintro e w' ⟨rfl, rfl⟩)
  go_ret
  exact ⟨ret_int (by omega), rfl⟩
theorem wait_bad (k : Int) (h1 : w.cell? ⟨b, 1, none⟩ = some (.int .i64 t)) (ht : 1 ≤ t) (ht2 : t ≤ 64) (hk : k < 0 ∨ t * 2 ≤ k) :
    Calls Try.prog 11 #[.pointer (some ⟨b, 0, none⟩), .int .i64 k] w fun e w' => e = .returned (.int .i64 (-1)) ∧ w = w' := by
  go_enter Try.func11, Try.ntmps11
  go_wp2_with (go_at_call 22; refine (word_bad _ t _ _ _ (by assumption) (by omega) (by omega) (by omega)).mono ?_; rintro e w' ⟨rfl, rfl⟩)
  go_ret
  exact ⟨rfl, rfl⟩
theorem ref_ok (k : Int) (h1 : w.cell? ⟨b, 1, none⟩ = some (.int .i64 t)) (ht : 1 ≤ t) (ht2 : t ≤ 64) (hk : 0 ≤ k) (hk2 : k < t * 2) :
    Calls Try.prog 80 #[.pointer (some ⟨b, 0, none⟩), .int .i64 k] w fun e w' => e = .returned (.tuple #[.int .u64 (k + 1), .int .i64 0]) ∧ w = w' := by
  go_enter Try.func80, Try.ntmps80
  go_wp2_with (first | (go_at_call 50; refine (zero_ok _ t _ (by assumption) (by omega)).mono ?_; rintro e w' ⟨rfl, rfl⟩) | (go_at_call 32; refine (has_ok _ t _ _ (by assumption) (by omega) (by omega) (by omega) (by omega)).mono ?_; rintro e w' ⟨rfl, rfl⟩))
  go_ret2
  exact ⟨rfl, rfl⟩
theorem ref_bad (k : Int) (h1 : w.cell? ⟨b, 1, none⟩ = some (.int .i64 t)) (ht : 1 ≤ t) (ht2 : t ≤ 64) (hk : k < 0 ∨ t * 2 ≤ k) :
    Calls Try.prog 80 #[.pointer (some ⟨b, 0, none⟩), .int .i64 k] w fun e w' => e = .returned (.tuple #[.int .u64 0, .int .i64 9]) ∧ w = w' := by
  go_enter Try.func80, Try.ntmps80
  go_wp2_with (first | (go_at_call 50; refine (zero_ok _ t _ (by assumption) (by omega)).mono ?_; rintro e w' ⟨rfl, rfl⟩) | (go_at_call 32; refine (has_bad _ t _ _ (by assumption) (by omega) (by omega) (by omega)).mono ?_; rintro e w' ⟨rfl, rfl⟩))
  go_ret2
  exact ⟨rfl, rfl⟩
theorem node_ok (k : Int) (h1 : w.cell? ⟨b, 1, none⟩ = some (.int .i64 t)) (ht : 1 ≤ t) (ht2 : t ≤ 64) (hk : 0 ≤ k) (hk2 : k ≤ t * 2) :
    Calls Try.prog 81 #[.pointer (some ⟨b, 0, none⟩), .int .u64 k] w fun e w' => e = .returned (.tuple #[.int .i64 (k - 1), .int .i64 0]) ∧ w = w' := by
  go_enter Try.func81, Try.ntmps81
  go_wp2_with (first | (go_at_call 50; refine (zero_ok _ t _ (by assumption) (by omega)).mono ?_; rintro e w' ⟨rfl, rfl⟩) | (go_at_call 41; refine (many_ok _ t _ (by assumption) (by omega) (by omega)).mono ?_; rintro e w' ⟨rfl, rfl⟩))
  go_ret2
  exact ⟨rfl, rfl⟩
theorem node_bad (k : Int) (h1 : w.cell? ⟨b, 1, none⟩ = some (.int .i64 t)) (ht : 1 ≤ t) (ht2 : t ≤ 64) (hk : t * 2 < k) :
    Calls Try.prog 81 #[.pointer (some ⟨b, 0, none⟩), .int .u64 k] w fun e w' => e = .returned (.tuple #[.int .i64 0, .int .i64 12]) ∧ w = w' := by
  go_enter Try.func81, Try.ntmps81
  go_wp2_with (first | (go_at_call 50; refine (zero_ok _ t _ (by assumption) (by omega)).mono ?_; rintro e w' ⟨rfl, rfl⟩) | (go_at_call 41; refine (many_ok _ t _ (by assumption) (by omega) (by omega)).mono ?_; rintro e w' ⟨rfl, rfl⟩))
  go_ret2
  exact ⟨rfl, rfl⟩
end
end Go.Proofs.Ytmlhdcpahfgckaa
