/-
  The walk of QnodeNew: it returns true for all numbers.
-/
import Derived.Test.YtjcoinedialafaaQnode
import Derived.Test.YtjcoinedialafaaK07
namespace Go.Proofs.Ytjcoinedialafaa
open Go.RowKit
namespace QnodeNew

set_option maxRecDepth 100000 in
set_option maxHeartbeats 1000000 in
theorem bad (B t O m : Int) (hh : B < 0 ∨ t < 1 ∨ 64 < t ∨ 65536 - t * 6 < B) (w : World) :
    Calls Try.prog 6 #[.int .i64 B, .int .i64 t, .int .i64 O, .int .i64 m] w fun e w' => e = .returned (.bool true) ∧ Below w.heap.size w w' := by
  by_cases h1 : B < 0
  · go_enter Try.func6, Try.ntmps6
    go_wp2_with (first | (go_at_call 10; refine (known_ok _).mono ?_; rintro e w' ⟨rfl, hg⟩) | go_in)
    go_ret
    exact ⟨rfl, by (repeat' (first | (with_reducible exact Below.refl _ _) | (with_reducible assumption) | (with_reducible refine Below.alloc ?_ ?_ _) | (with_reducible refine Below.drew ?_) | (with_reducible refine below_drewN ?_ _) | (with_reducible refine Below.setCell ?_ ?_ _) | (with_reducible refine Below.trans ?_ (Below.mono (by assumption) ?_)) | go_size))⟩
  by_cases h2 : t < 1
  · go_enter Try.func6, Try.ntmps6
    go_wp2_with (first | (go_at_call 10; refine (known_ok _).mono ?_; rintro e w' ⟨rfl, hg⟩) | go_in)
    go_ret
    exact ⟨rfl, by (repeat' (first | (with_reducible exact Below.refl _ _) | (with_reducible assumption) | (with_reducible refine Below.alloc ?_ ?_ _) | (with_reducible refine Below.drew ?_) | (with_reducible refine below_drewN ?_ _) | (with_reducible refine Below.setCell ?_ ?_ _) | (with_reducible refine Below.trans ?_ (Below.mono (by assumption) ?_)) | go_size))⟩
  by_cases h3 : 64 < t
  · go_enter Try.func6, Try.ntmps6
    go_wp2_with (first | (go_at_call 10; refine (known_ok _).mono ?_; rintro e w' ⟨rfl, hg⟩) | go_in)
    go_ret
    exact ⟨rfl, by (repeat' (first | (with_reducible exact Below.refl _ _) | (with_reducible assumption) | (with_reducible refine Below.alloc ?_ ?_ _) | (with_reducible refine Below.drew ?_) | (with_reducible refine below_drewN ?_ _) | (with_reducible refine Below.setCell ?_ ?_ _) | (with_reducible refine Below.trans ?_ (Below.mono (by assumption) ?_)) | go_size))⟩
  by_cases h4 : 65536 < B
  · go_enter Try.func6, Try.ntmps6
    go_wp2_with (first | (go_at_call 10; refine (known_ok _).mono ?_; rintro e w' ⟨rfl, hg⟩) | go_in)
    go_ret
    exact ⟨rfl, by (repeat' (first | (with_reducible exact Below.refl _ _) | (with_reducible assumption) | (with_reducible refine Below.alloc ?_ ?_ _) | (with_reducible refine Below.drew ?_) | (with_reducible refine below_drewN ?_ _) | (with_reducible refine Below.setCell ?_ ?_ _) | (with_reducible refine Below.trans ?_ (Below.mono (by assumption) ?_)) | go_size))⟩
  have h5 : 65536 < B + 6 * t := by omega
  have h6 : decide (B + 6 * t ≤ 65536) = false := by simp; omega
  clear hh
  go_enter Try.func6, Try.ntmps6
  go_wp2_with (first | (go_at_call 10; refine (known_ok _).mono ?_; rintro e w' ⟨rfl, hg⟩) | go_in)
  go_ret
  exact ⟨rfl, by (repeat' (first | (with_reducible exact Below.refl _ _) | (with_reducible assumption) | (with_reducible refine Below.alloc ?_ ?_ _) | (with_reducible refine Below.drew ?_) | (with_reducible refine below_drewN ?_ _) | (with_reducible refine Below.setCell ?_ ?_ _) | (with_reducible refine Below.trans ?_ (Below.mono (by assumption) ?_)) | go_size))⟩

set_option maxRecDepth 100000 in
set_option maxHeartbeats 2000000 in
theorem bad2 (B t O m : Int) (hB : 0 ≤ B) (ht : 1 ≤ t) (ht2 : t ≤ 64) (hB2 : B + 6 * t ≤ 65536) (hh : O < 0 ∨ m < 1 ∨ 64 < m ∨ 65536 - m * 6 < O) (w : World) :
    Calls Try.prog 6 #[.int .i64 B, .int .i64 t, .int .i64 O, .int .i64 m] w fun e w' => e = .returned (.bool true) ∧ Below w.heap.size w w' := by
  have hd : decide (B + 6 * t ≤ 65536) = true := by simpa using hB2
  by_cases h1 : O < 0
  · go_enter Try.func6, Try.ntmps6
    go_wp2_with (first | (go_at_call 10; refine (known_ok _).mono ?_; rintro e w' ⟨rfl, hg⟩) | (go_at_call 11; (first | (with_reducible refine (qnew_ok B t _ (by omega) (by omega) (by omega) (by omega)).mono ?_) | (with_reducible refine (qnew_bad O m _ (by omega)).mono ?_)); rintro e w' ⟨rfl, rfl⟩) | (go_at_call 8; go_in) | (go_at_call 26; refine (base_ok _ B t _ (by go_cell) (by go_cell) (by omega)).mono ?_; rintro e w' ⟨rfl, rfl⟩) | (go_at_call 23; refine (threads_ok _ t _ (by go_cell) (by omega) (by omega)).mono ?_; rintro e w' ⟨rfl, rfl⟩) | (go_at_call 27; refine (len_ok _ t _ (by go_cell) (by omega) (by omega)).mono ?_; rintro e w' ⟨rfl, rfl⟩) | (go_at_call 28; refine (same_yes _ B t _ _ (by go_cell) (by go_cell) (by go_cell) (by go_cell) (by omega)).mono ?_; rintro e w' ⟨rfl, nn, rfl⟩) | go_in)
    go_ret
    exact ⟨rfl, by (repeat' (first | (with_reducible exact Below.refl _ _) | (with_reducible assumption) | (with_reducible refine Below.alloc ?_ ?_ _) | (with_reducible refine Below.drew ?_) | (with_reducible refine below_drewN ?_ _) | (with_reducible refine Below.setCell ?_ ?_ _) | (with_reducible refine Below.trans ?_ (Below.mono (by assumption) ?_)) | go_size))⟩
  by_cases h2 : m < 1
  · go_enter Try.func6, Try.ntmps6
    go_wp2_with (first | (go_at_call 10; refine (known_ok _).mono ?_; rintro e w' ⟨rfl, hg⟩) | (go_at_call 11; (first | (with_reducible refine (qnew_ok B t _ (by omega) (by omega) (by omega) (by omega)).mono ?_) | (with_reducible refine (qnew_bad O m _ (by omega)).mono ?_)); rintro e w' ⟨rfl, rfl⟩) | (go_at_call 8; go_in) | (go_at_call 26; refine (base_ok _ B t _ (by go_cell) (by go_cell) (by omega)).mono ?_; rintro e w' ⟨rfl, rfl⟩) | (go_at_call 23; refine (threads_ok _ t _ (by go_cell) (by omega) (by omega)).mono ?_; rintro e w' ⟨rfl, rfl⟩) | (go_at_call 27; refine (len_ok _ t _ (by go_cell) (by omega) (by omega)).mono ?_; rintro e w' ⟨rfl, rfl⟩) | (go_at_call 28; refine (same_yes _ B t _ _ (by go_cell) (by go_cell) (by go_cell) (by go_cell) (by omega)).mono ?_; rintro e w' ⟨rfl, nn, rfl⟩) | go_in)
    go_ret
    exact ⟨rfl, by (repeat' (first | (with_reducible exact Below.refl _ _) | (with_reducible assumption) | (with_reducible refine Below.alloc ?_ ?_ _) | (with_reducible refine Below.drew ?_) | (with_reducible refine below_drewN ?_ _) | (with_reducible refine Below.setCell ?_ ?_ _) | (with_reducible refine Below.trans ?_ (Below.mono (by assumption) ?_)) | go_size))⟩
  by_cases h3 : 64 < m
  · go_enter Try.func6, Try.ntmps6
    go_wp2_with (first | (go_at_call 10; refine (known_ok _).mono ?_; rintro e w' ⟨rfl, hg⟩) | (go_at_call 11; (first | (with_reducible refine (qnew_ok B t _ (by omega) (by omega) (by omega) (by omega)).mono ?_) | (with_reducible refine (qnew_bad O m _ (by omega)).mono ?_)); rintro e w' ⟨rfl, rfl⟩) | (go_at_call 8; go_in) | (go_at_call 26; refine (base_ok _ B t _ (by go_cell) (by go_cell) (by omega)).mono ?_; rintro e w' ⟨rfl, rfl⟩) | (go_at_call 23; refine (threads_ok _ t _ (by go_cell) (by omega) (by omega)).mono ?_; rintro e w' ⟨rfl, rfl⟩) | (go_at_call 27; refine (len_ok _ t _ (by go_cell) (by omega) (by omega)).mono ?_; rintro e w' ⟨rfl, rfl⟩) | (go_at_call 28; refine (same_yes _ B t _ _ (by go_cell) (by go_cell) (by go_cell) (by go_cell) (by omega)).mono ?_; rintro e w' ⟨rfl, nn, rfl⟩) | go_in)
    go_ret
    exact ⟨rfl, by (repeat' (first | (with_reducible exact Below.refl _ _) | (with_reducible assumption) | (with_reducible refine Below.alloc ?_ ?_ _) | (with_reducible refine Below.drew ?_) | (with_reducible refine below_drewN ?_ _) | (with_reducible refine Below.setCell ?_ ?_ _) | (with_reducible refine Below.trans ?_ (Below.mono (by assumption) ?_)) | go_size))⟩
  by_cases h4 : 65536 < O
  · go_enter Try.func6, Try.ntmps6
    go_wp2_with (first | (go_at_call 10; refine (known_ok _).mono ?_; rintro e w' ⟨rfl, hg⟩) | (go_at_call 11; (first | (with_reducible refine (qnew_ok B t _ (by omega) (by omega) (by omega) (by omega)).mono ?_) | (with_reducible refine (qnew_bad O m _ (by omega)).mono ?_)); rintro e w' ⟨rfl, rfl⟩) | (go_at_call 8; go_in) | (go_at_call 26; refine (base_ok _ B t _ (by go_cell) (by go_cell) (by omega)).mono ?_; rintro e w' ⟨rfl, rfl⟩) | (go_at_call 23; refine (threads_ok _ t _ (by go_cell) (by omega) (by omega)).mono ?_; rintro e w' ⟨rfl, rfl⟩) | (go_at_call 27; refine (len_ok _ t _ (by go_cell) (by omega) (by omega)).mono ?_; rintro e w' ⟨rfl, rfl⟩) | (go_at_call 28; refine (same_yes _ B t _ _ (by go_cell) (by go_cell) (by go_cell) (by go_cell) (by omega)).mono ?_; rintro e w' ⟨rfl, nn, rfl⟩) | go_in)
    go_ret
    exact ⟨rfl, by (repeat' (first | (with_reducible exact Below.refl _ _) | (with_reducible assumption) | (with_reducible refine Below.alloc ?_ ?_ _) | (with_reducible refine Below.drew ?_) | (with_reducible refine below_drewN ?_ _) | (with_reducible refine Below.setCell ?_ ?_ _) | (with_reducible refine Below.trans ?_ (Below.mono (by assumption) ?_)) | go_size))⟩
  have h5 : 65536 < O + 6 * m := by omega
  have h6 : decide (O + 6 * m ≤ 65536) = false := by simp; omega
  have hh' : 65536 - m * 2 * 3 < O := by omega
  clear hh
  go_enter Try.func6, Try.ntmps6
  go_wp2_with (first | (go_at_call 10; refine (known_ok _).mono ?_; rintro e w' ⟨rfl, hg⟩) | (go_at_call 11; (first | (with_reducible refine (qnew_ok B t _ (by omega) (by omega) (by omega) (by omega)).mono ?_) | (with_reducible refine (qnew_bad O m _ (by omega)).mono ?_)); rintro e w' ⟨rfl, rfl⟩) | (go_at_call 8; go_in) | (go_at_call 26; refine (base_ok _ B t _ (by go_cell) (by go_cell) (by omega)).mono ?_; rintro e w' ⟨rfl, rfl⟩) | (go_at_call 23; refine (threads_ok _ t _ (by go_cell) (by omega) (by omega)).mono ?_; rintro e w' ⟨rfl, rfl⟩) | (go_at_call 27; refine (len_ok _ t _ (by go_cell) (by omega) (by omega)).mono ?_; rintro e w' ⟨rfl, rfl⟩) | (go_at_call 28; refine (same_yes _ B t _ _ (by go_cell) (by go_cell) (by go_cell) (by go_cell) (by omega)).mono ?_; rintro e w' ⟨rfl, nn, rfl⟩) | go_in)
  go_ret
  exact ⟨rfl, by (repeat' (first | (with_reducible exact Below.refl _ _) | (with_reducible assumption) | (with_reducible refine Below.alloc ?_ ?_ _) | (with_reducible refine Below.drew ?_) | (with_reducible refine below_drewN ?_ _) | (with_reducible refine Below.setCell ?_ ?_ _) | (with_reducible refine Below.trans ?_ (Below.mono (by assumption) ?_)) | go_size))⟩

set_option maxRecDepth 100000 in
set_option maxHeartbeats 2000000 in
theorem same (B t : Int) (hB : 0 ≤ B) (ht : 1 ≤ t) (ht2 : t ≤ 64) (hB2 : B + 6 * t ≤ 65536) (w : World) :
    Calls Try.prog 6 #[.int .i64 B, .int .i64 t, .int .i64 B, .int .i64 t] w fun e w' => e = .returned (.bool true) ∧ Below w.heap.size w w' := by
  have hd : decide (B + 6 * t ≤ 65536) = true := by simpa using hB2
  go_enter Try.func6, Try.ntmps6
  go_wp2_with (first | (go_at_call 10; refine (known_ok _).mono ?_; rintro e w' ⟨rfl, hg⟩) | (go_at_call 11; refine (qnew_ok B t _ (by omega) (by omega) (by omega) (by omega)).mono ?_; rintro e w' ⟨rfl, rfl⟩) | (go_at_call 8; go_in) | (go_at_call 26; refine (base_ok _ B t _ (by go_cell) (by go_cell) (by omega)).mono ?_; rintro e w' ⟨rfl, rfl⟩) | (go_at_call 23; refine (threads_ok _ t _ (by go_cell) (by omega) (by omega)).mono ?_; rintro e w' ⟨rfl, rfl⟩) | (go_at_call 27; refine (len_ok _ t _ (by go_cell) (by omega) (by omega)).mono ?_; rintro e w' ⟨rfl, rfl⟩) | (go_at_call 28; refine (same_yes _ B t _ _ (by go_cell) (by go_cell) (by go_cell) (by go_cell) (by omega)).mono ?_; rintro e w' ⟨rfl, nn, rfl⟩))
  go_region_held3 (fun w' => w'.cell? ⟨w.heap.size, 0, none⟩ = some (.int .i64 B) ∧ w'.cell? ⟨w.heap.size, 1, none⟩ = some (.int .i64 t) ∧ w'.cell? ⟨w.heap.size + 1, 0, none⟩ = some (.int .i64 B) ∧ w'.cell? ⟨w.heap.size + 1, 1, none⟩ = some (.int .i64 t) ∧ w'.cell? ⟨w.heap.size + 1 + 1 + 1, 0, none⟩ = some (.int .i64 B) ∧ w'.cell? ⟨w.heap.size + 1 + 1 + 1, 1, none⟩ = some (.int .i64 t) ∧ w'.cell? ⟨w.heap.size + 1 + 1 + 1 + 1 + 1, 0, none⟩ = some (.int .i64 B) ∧ w'.cell? ⟨w.heap.size + 1 + 1 + 1 + 1 + 1, 1, none⟩ = some (.int .i64 t) ∧ w.heap.size + 6 ≤ w'.heap.size) (((try go_split_ands); (repeat' (apply And.intro)); all_goals (first | go_cell | (with_reducible assumption) | (rw [hg.cell (by dsimp only; omega)]; assumption) | (have := hg.size; omega) | go_size))) (first | (go_at_call 10; refine (known_ok _).mono ?_; rintro e w' ⟨rfl, hg⟩) | (go_at_call 28; go_split_ands; refine (same_yes _ B t _ _ (by assumption) (by assumption) (by assumption) (by assumption) (by omega)).mono ?_; rintro e w' ⟨rfl, nn, rfl⟩))
  go_wp2
  go_ret
  exact ⟨rfl, by (repeat' (first | (with_reducible exact Below.refl _ _) | (with_reducible assumption) | (with_reducible refine Below.alloc ?_ ?_ _) | (with_reducible refine Below.drew ?_) | (with_reducible refine below_drewN ?_ _) | (with_reducible refine Below.setCell ?_ ?_ _) | (with_reducible refine Below.trans ?_ (Below.mono (by assumption) ?_)) | go_size))⟩

set_option maxRecDepth 100000 in
set_option maxHeartbeats 2000000 in
theorem other_base (B t O m : Int) (hB : 0 ≤ B) (ht : 1 ≤ t) (ht2 : t ≤ 64) (hB2 : B + 6 * t ≤ 65536) (hO : 0 ≤ O) (hm : 1 ≤ m) (hm2 : m ≤ 64) (hO2 : O + 6 * m ≤ 65536) (hne : B ≠ O) (w : World) :
    Calls Try.prog 6 #[.int .i64 B, .int .i64 t, .int .i64 O, .int .i64 m] w fun e w' => e = .returned (.bool true) ∧ Below w.heap.size w w' := by
  have hd : decide (B + 6 * t ≤ 65536) = true := by simpa using hB2
  have hd' : decide (O + 6 * m ≤ 65536) = true := by simpa using hO2
  have c1 : (B == O) = false := by simpa using hne
  go_enter Try.func6, Try.ntmps6
  go_wp2_with (first | (go_at_call 10; refine (known_ok _).mono ?_; rintro e w' ⟨rfl, hg⟩) | (go_at_call 11; (first | (with_reducible refine (qnew_ok B t _ (by omega) (by omega) (by omega) (by omega)).mono ?_) | (with_reducible refine (qnew_ok O m _ (by omega) (by omega) (by omega) (by omega)).mono ?_)); rintro e w' ⟨rfl, rfl⟩) | (go_at_call 8; go_in) | (go_at_call 26; refine (base_ok _ B t _ (by go_cell) (by go_cell) (by omega)).mono ?_; rintro e w' ⟨rfl, rfl⟩) | (go_at_call 23; refine (threads_ok _ t _ (by go_cell) (by omega) (by omega)).mono ?_; rintro e w' ⟨rfl, rfl⟩) | (go_at_call 27; refine (len_ok _ t _ (by go_cell) (by omega) (by omega)).mono ?_; rintro e w' ⟨rfl, rfl⟩) | (go_at_call 28; refine (same_yes _ B t _ _ (by go_cell) (by go_cell) (by go_cell) (by go_cell) (by omega)).mono ?_; rintro e w' ⟨rfl, nn, rfl⟩))
  go_region_held3 (fun w' => w'.cell? ⟨w.heap.size, 0, none⟩ = some (.int .i64 B) ∧ w'.cell? ⟨w.heap.size, 1, none⟩ = some (.int .i64 t) ∧ w'.cell? ⟨w.heap.size + 1, 0, none⟩ = some (.int .i64 O) ∧ w'.cell? ⟨w.heap.size + 1, 1, none⟩ = some (.int .i64 m) ∧ w'.cell? ⟨w.heap.size + 1 + 1 + 1, 0, none⟩ = some (.int .i64 B) ∧ w'.cell? ⟨w.heap.size + 1 + 1 + 1, 1, none⟩ = some (.int .i64 t) ∧ w'.cell? ⟨w.heap.size + 1 + 1 + 1 + 1 + 1, 0, none⟩ = some (.int .i64 O) ∧ w'.cell? ⟨w.heap.size + 1 + 1 + 1 + 1 + 1, 1, none⟩ = some (.int .i64 m) ∧ w.heap.size + 6 ≤ w'.heap.size) (((try go_split_ands); (repeat' (apply And.intro)); all_goals (first | go_cell | (with_reducible assumption) | (rw [hg.cell (by dsimp only; omega)]; assumption) | (have := hg.size; omega) | go_size))) (first | (go_at_call 10; refine (known_ok _).mono ?_; rintro e w' ⟨rfl, hg⟩) | (go_at_call 28; go_split_ands; (first | (with_reducible refine (same_no _ B t _ _ O m (by assumption) (by assumption) (by assumption) (by assumption) (by omega) (by omega) (by omega)).mono ?_) | (with_reducible refine (same_no _ O m _ _ B t (by assumption) (by assumption) (by assumption) (by assumption) (by omega) (by omega) (by omega)).mono ?_)); rintro e w' ⟨rfl, nn, rfl⟩))
  go_wp2
  go_ret
  exact ⟨rfl, by (repeat' (first | (with_reducible exact Below.refl _ _) | (with_reducible assumption) | (with_reducible refine Below.alloc ?_ ?_ _) | (with_reducible refine Below.drew ?_) | (with_reducible refine below_drewN ?_ _) | (with_reducible refine Below.setCell ?_ ?_ _) | (with_reducible refine Below.trans ?_ (Below.mono (by assumption) ?_)) | go_size))⟩

set_option maxRecDepth 100000 in
set_option maxHeartbeats 2000000 in
theorem other_many (B t m : Int) (hB : 0 ≤ B) (ht : 1 ≤ t) (ht2 : t ≤ 64) (hB2 : B + 6 * t ≤ 65536) (hO : 0 ≤ B) (hm : 1 ≤ m) (hm2 : m ≤ 64) (hO2 : B + 6 * m ≤ 65536) (hne : t ≠ m) (w : World) :
    Calls Try.prog 6 #[.int .i64 B, .int .i64 t, .int .i64 B, .int .i64 m] w fun e w' => e = .returned (.bool true) ∧ Below w.heap.size w w' := by
  have hd : decide (B + 6 * t ≤ 65536) = true := by simpa using hB2
  have hd' : decide (B + 6 * m ≤ 65536) = true := by simpa using hO2
  have c1 : (t == m) = false := by simpa using hne
  go_enter Try.func6, Try.ntmps6
  go_wp2_with (first | (go_at_call 10; refine (known_ok _).mono ?_; rintro e w' ⟨rfl, hg⟩) | (go_at_call 11; (first | (with_reducible refine (qnew_ok B t _ (by omega) (by omega) (by omega) (by omega)).mono ?_) | (with_reducible refine (qnew_ok B m _ (by omega) (by omega) (by omega) (by omega)).mono ?_)); rintro e w' ⟨rfl, rfl⟩) | (go_at_call 8; go_in) | (go_at_call 26; refine (base_ok _ B t _ (by go_cell) (by go_cell) (by omega)).mono ?_; rintro e w' ⟨rfl, rfl⟩) | (go_at_call 23; refine (threads_ok _ t _ (by go_cell) (by omega) (by omega)).mono ?_; rintro e w' ⟨rfl, rfl⟩) | (go_at_call 27; refine (len_ok _ t _ (by go_cell) (by omega) (by omega)).mono ?_; rintro e w' ⟨rfl, rfl⟩) | (go_at_call 28; refine (same_yes _ B t _ _ (by go_cell) (by go_cell) (by go_cell) (by go_cell) (by omega)).mono ?_; rintro e w' ⟨rfl, nn, rfl⟩))
  go_region_held3 (fun w' => w'.cell? ⟨w.heap.size, 0, none⟩ = some (.int .i64 B) ∧ w'.cell? ⟨w.heap.size, 1, none⟩ = some (.int .i64 t) ∧ w'.cell? ⟨w.heap.size + 1, 0, none⟩ = some (.int .i64 B) ∧ w'.cell? ⟨w.heap.size + 1, 1, none⟩ = some (.int .i64 m) ∧ w'.cell? ⟨w.heap.size + 1 + 1 + 1, 0, none⟩ = some (.int .i64 B) ∧ w'.cell? ⟨w.heap.size + 1 + 1 + 1, 1, none⟩ = some (.int .i64 t) ∧ w'.cell? ⟨w.heap.size + 1 + 1 + 1 + 1 + 1, 0, none⟩ = some (.int .i64 B) ∧ w'.cell? ⟨w.heap.size + 1 + 1 + 1 + 1 + 1, 1, none⟩ = some (.int .i64 m) ∧ w.heap.size + 6 ≤ w'.heap.size) (((try go_split_ands); (repeat' (apply And.intro)); all_goals (first | go_cell | (with_reducible assumption) | (rw [hg.cell (by dsimp only; omega)]; assumption) | (have := hg.size; omega) | go_size))) (first | (go_at_call 10; refine (known_ok _).mono ?_; rintro e w' ⟨rfl, hg⟩) | (go_at_call 28; go_split_ands; (first | (with_reducible refine (same_no _ B t _ _ B m (by assumption) (by assumption) (by assumption) (by assumption) (by omega) (by omega) (by omega)).mono ?_) | (with_reducible refine (same_no _ B m _ _ B t (by assumption) (by assumption) (by assumption) (by assumption) (by omega) (by omega) (by omega)).mono ?_)); rintro e w' ⟨rfl, nn, rfl⟩))
  go_wp2
  go_ret
  exact ⟨rfl, by (repeat' (first | (with_reducible exact Below.refl _ _) | (with_reducible assumption) | (with_reducible refine Below.alloc ?_ ?_ _) | (with_reducible refine Below.drew ?_) | (with_reducible refine below_drewN ?_ _) | (with_reducible refine Below.setCell ?_ ?_ _) | (with_reducible refine Below.trans ?_ (Below.mono (by assumption) ?_)) | go_size))⟩

theorem walk (B t O m : Int) (w : World) :
    Calls Try.prog 6 #[.int .i64 B, .int .i64 t, .int .i64 O, .int .i64 m] w fun e w' => e = .returned (.bool true) ∧ Below w.heap.size w w' := by
  by_cases c : B < 0 ∨ t < 1 ∨ 64 < t ∨ 65536 - t * 6 < B
  · exact bad B t O m c w
  by_cases c' : O < 0 ∨ m < 1 ∨ 64 < m ∨ 65536 - m * 6 < O
  · exact bad2 B t O m (by omega) (by omega) (by omega) (by omega) c' w
  by_cases d : B = O
  · subst d
    by_cases d' : t = m
    · subst d'
      exact same B t (by omega) (by omega) (by omega) (by omega) w
    · exact other_many B t m (by omega) (by omega) (by omega) (by omega) (by omega) (by omega) (by omega) (by omega) d' w
  · exact other_base B t O m (by omega) (by omega) (by omega) (by omega) (by omega) (by omega) (by omega) (by omega) d w
end QnodeNew
end Go.Proofs.Ytjcoinedialafaa
