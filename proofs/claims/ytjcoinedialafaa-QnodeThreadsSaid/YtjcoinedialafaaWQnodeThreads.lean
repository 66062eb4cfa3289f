/-
  The walk of QnodeThreads: it returns true for all numbers.
-/
import Derived.Test.YtjcoinedialafaaQnode
import Derived.Test.YtjcoinedialafaaK07
namespace Go.Proofs.Ytjcoinedialafaa
open Go.RowKit
namespace QnodeThreads

set_option maxRecDepth 100000 in
set_option maxHeartbeats 1000000 in
theorem bad (B t h d k : Int) (hh : B < 0 ∨ t < 1 ∨ 64 < t ∨ 65536 - t * 6 < B) (w : World) :
    Calls Try.prog 3 #[.int .i64 B, .int .i64 t, .int .i64 h, .int .i64 d, .int .i64 k] w fun e w' => e = .returned (.bool true) ∧ Below w.heap.size w w' := by
  by_cases h1 : B < 0
  · go_enter Try.func3, Try.ntmps3
    go_wp2_with (first | (go_at_call 10; refine (known_ok _).mono ?_; rintro e w' ⟨rfl, hg⟩) | go_in)
    go_ret
    exact ⟨rfl, by (repeat' (first | (with_reducible exact Below.refl _ _) | (with_reducible assumption) | (with_reducible refine Below.alloc ?_ ?_ _) | (with_reducible refine Below.drew ?_) | (with_reducible refine Below.setCell ?_ ?_ _) | (with_reducible refine Below.trans ?_ (Below.mono (by assumption) ?_)) | go_size))⟩
  by_cases h2 : t < 1
  · go_enter Try.func3, Try.ntmps3
    go_wp2_with (first | (go_at_call 10; refine (known_ok _).mono ?_; rintro e w' ⟨rfl, hg⟩) | go_in)
    go_ret
    exact ⟨rfl, by (repeat' (first | (with_reducible exact Below.refl _ _) | (with_reducible assumption) | (with_reducible refine Below.alloc ?_ ?_ _) | (with_reducible refine Below.drew ?_) | (with_reducible refine Below.setCell ?_ ?_ _) | (with_reducible refine Below.trans ?_ (Below.mono (by assumption) ?_)) | go_size))⟩
  by_cases h3 : 64 < t
  · go_enter Try.func3, Try.ntmps3
    go_wp2_with (first | (go_at_call 10; refine (known_ok _).mono ?_; rintro e w' ⟨rfl, hg⟩) | go_in)
    go_ret
    exact ⟨rfl, by (repeat' (first | (with_reducible exact Below.refl _ _) | (with_reducible assumption) | (with_reducible refine Below.alloc ?_ ?_ _) | (with_reducible refine Below.drew ?_) | (with_reducible refine Below.setCell ?_ ?_ _) | (with_reducible refine Below.trans ?_ (Below.mono (by assumption) ?_)) | go_size))⟩
  by_cases h4 : 65536 < B
  · go_enter Try.func3, Try.ntmps3
    go_wp2_with (first | (go_at_call 10; refine (known_ok _).mono ?_; rintro e w' ⟨rfl, hg⟩) | go_in)
    go_ret
    exact ⟨rfl, by (repeat' (first | (with_reducible exact Below.refl _ _) | (with_reducible assumption) | (with_reducible refine Below.alloc ?_ ?_ _) | (with_reducible refine Below.drew ?_) | (with_reducible refine Below.setCell ?_ ?_ _) | (with_reducible refine Below.trans ?_ (Below.mono (by assumption) ?_)) | go_size))⟩
  have h5 : 65536 < B + 6 * t := by omega
  have h6 : decide (B + 6 * t ≤ 65536) = false := by simp; omega
  clear hh
  go_enter Try.func3, Try.ntmps3
  go_wp2_with (first | (go_at_call 10; refine (known_ok _).mono ?_; rintro e w' ⟨rfl, hg⟩) | go_in)
  go_ret
  exact ⟨rfl, by (repeat' (first | (with_reducible exact Below.refl _ _) | (with_reducible assumption) | (with_reducible refine Below.alloc ?_ ?_ _) | (with_reducible refine Below.drew ?_) | (with_reducible refine Below.setCell ?_ ?_ _) | (with_reducible refine Below.trans ?_ (Below.mono (by assumption) ?_)) | go_size))⟩

set_option maxRecDepth 100000 in
set_option maxHeartbeats 1000000 in
theorem good (B t h d k : Int) (hB : 0 ≤ B) (ht : 1 ≤ t) (ht2 : t ≤ 64) (hB2 : B + 6 * t ≤ 65536) (w : World) :
    Calls Try.prog 3 #[.int .i64 B, .int .i64 t, .int .i64 h, .int .i64 d, .int .i64 k] w fun e w' => e = .returned (.bool true) ∧ Below w.heap.size w w' := by
  have hd : decide (B + 6 * t ≤ 65536) = true := by simpa using hB2
  have hc : ((w.alloc (.cells #[.int .i64 B, .int .i64 t] 23)).alloc (.cells #[.int .i64 B, .int .i64 t] 23)).heap.size = w.heap.size + 2 := by simp
  by_cases a1 : 0 ≤ h ∧ h < t ∧ 0 ≤ d ∧ d ≤ 1
  · obtain ⟨a1, a2, a3, a4⟩ := a1
    by_cases b1 : 0 ≤ k ∧ k < 2 * t
    · obtain ⟨b1, b2⟩ := b1
      go_enter Try.func3, Try.ntmps3
      go_wp2_with (first | (go_at_call 10; refine (known_ok _).mono ?_; rintro e w' ⟨rfl, hg⟩) | (go_at_call 11; refine (qnew_ok B t _ (by omega) (by omega) (by omega) (by omega)).mono ?_; rintro e w' ⟨rfl, rfl⟩) | (go_at_call 24; refine (of_ok _ t _ _ _ (by go_cell) (by omega) (by omega) (by omega) (by omega) (by omega) (by omega)).mono ?_; rintro e w' ⟨rfl, rfl⟩) | (go_at_call 29; refine (owner_ok _ t _ _ (by go_cell) (by omega) (by omega) (by omega) (by omega)).mono ?_; rintro e w' ⟨rfl, rfl⟩) | go_in)
      go_ret
      exact ⟨rfl, by (repeat' (first | (with_reducible exact Below.refl _ _) | (with_reducible assumption) | (with_reducible refine Below.alloc ?_ ?_ _) | (with_reducible refine Below.drew ?_) | (with_reducible refine Below.setCell ?_ ?_ _) | (with_reducible refine Below.trans ?_ (Below.mono (by assumption) ?_)) | go_size))⟩
    · have b2 : k < 0 ∨ 2 * t ≤ k := by omega
      clear b1
      rcases b2 with b2 | b2
      rotate_left
      have hd2 : decide (k < 2 * t) = false := by simp; omega
      all_goals
       go_enter Try.func3, Try.ntmps3
       go_wp2_with (first | (go_at_call 10; refine (known_ok _).mono ?_; rintro e w' ⟨rfl, hg⟩) | (go_at_call 11; refine (qnew_ok B t _ (by omega) (by omega) (by omega) (by omega)).mono ?_; rintro e w' ⟨rfl, rfl⟩) | (go_at_call 24; refine (of_ok _ t _ _ _ (by go_cell) (by omega) (by omega) (by omega) (by omega) (by omega) (by omega)).mono ?_; rintro e w' ⟨rfl, rfl⟩) | (go_at_call 29; refine (owner_bad _ t _ _ (by go_cell) (by omega) (by omega) (by omega)).mono ?_; rintro e w' ⟨rfl, rfl⟩) | go_in)
       all_goals
        go_ret
        exact ⟨rfl, by (repeat' (first | (with_reducible exact Below.refl _ _) | (with_reducible assumption) | (with_reducible refine Below.alloc ?_ ?_ _) | (with_reducible refine Below.drew ?_) | (with_reducible refine Below.setCell ?_ ?_ _) | (with_reducible refine Below.trans ?_ (Below.mono (by assumption) ?_)) | go_size))⟩
  · have a2 : h < 0 ∨ t ≤ h ∨ d < 0 ∨ 1 < d := by omega
    clear a1
    by_cases b1 : 0 ≤ k ∧ k < 2 * t
    · obtain ⟨b1, b2⟩ := b1
      go_enter Try.func3, Try.ntmps3
      go_wp2_with (first | (go_at_call 10; refine (known_ok _).mono ?_; rintro e w' ⟨rfl, hg⟩) | (go_at_call 11; refine (qnew_ok B t _ (by omega) (by omega) (by omega) (by omega)).mono ?_; rintro e w' ⟨rfl, rfl⟩) | (go_at_call 24; refine (of_bad _ t _ _ _ (by go_cell) (by omega) (by omega)).mono ?_; rintro e w' ⟨rfl, rfl⟩) | (go_at_call 29; refine (owner_ok _ t _ _ (by go_cell) (by omega) (by omega) (by omega) (by omega)).mono ?_; rintro e w' ⟨rfl, rfl⟩) | go_in)
      all_goals
        go_ret
        exact ⟨rfl, by (repeat' (first | (with_reducible exact Below.refl _ _) | (with_reducible assumption) | (with_reducible refine Below.alloc ?_ ?_ _) | (with_reducible refine Below.drew ?_) | (with_reducible refine Below.setCell ?_ ?_ _) | (with_reducible refine Below.trans ?_ (Below.mono (by assumption) ?_)) | go_size))⟩
    · have b2 : k < 0 ∨ 2 * t ≤ k := by omega
      clear b1
      rcases b2 with b2 | b2
      rotate_left
      have hd2 : decide (k < 2 * t) = false := by simp; omega
      all_goals
       go_enter Try.func3, Try.ntmps3
       go_wp2_with (first | (go_at_call 10; refine (known_ok _).mono ?_; rintro e w' ⟨rfl, hg⟩) | (go_at_call 11; refine (qnew_ok B t _ (by omega) (by omega) (by omega) (by omega)).mono ?_; rintro e w' ⟨rfl, rfl⟩) | (go_at_call 24; refine (of_bad _ t _ _ _ (by go_cell) (by omega) (by omega)).mono ?_; rintro e w' ⟨rfl, rfl⟩) | (go_at_call 29; refine (owner_bad _ t _ _ (by go_cell) (by omega) (by omega) (by omega)).mono ?_; rintro e w' ⟨rfl, rfl⟩) | go_in)
       all_goals
        go_ret
        exact ⟨rfl, by (repeat' (first | (with_reducible exact Below.refl _ _) | (with_reducible assumption) | (with_reducible refine Below.alloc ?_ ?_ _) | (with_reducible refine Below.drew ?_) | (with_reducible refine Below.setCell ?_ ?_ _) | (with_reducible refine Below.trans ?_ (Below.mono (by assumption) ?_)) | go_size))⟩

theorem walk (B t h d k : Int) (w : World) :
    Calls Try.prog 3 #[.int .i64 B, .int .i64 t, .int .i64 h, .int .i64 d, .int .i64 k] w fun e w' => e = .returned (.bool true) ∧ Below w.heap.size w w' := by
  by_cases c : B < 0 ∨ t < 1 ∨ 64 < t ∨ 65536 - t * 6 < B
  · exact bad B t h d k c w
  · exact good B t h d k (by omega) (by omega) (by omega) (by omega) w
end QnodeThreads
end Go.Proofs.Ytjcoinedialafaa
