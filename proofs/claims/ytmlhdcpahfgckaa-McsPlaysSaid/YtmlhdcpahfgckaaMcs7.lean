/-
  Contracts of package mcs: new programs.
-/
import Derived.Test.YtmlhdcpahfgckaaMcs6
namespace Go.Proofs.Ytmlhdcpahfgckaa
open Go.RowKit

abbrev run6 (p : Value) (lock node pc other : Int) (ended : Bool) : Value := .agg #[p, .int .i64 lock, .int .i64 node, .int .i64 pc, .int .u64 other, .bool ended]
/-- a lock's word and a node for which there is a program -/
def okRun (B t lock node : Int) : Prop := 0 ≤ lock ∧ lock < 65536 ∧ ¬ (B ≤ lock ∧ lock < B + 6 * t) ∧ 0 ≤ node ∧ node < t * 2
set_option maxRecDepth 100000 in
set_option maxHeartbeats 1000000 in
theorem mmade_ok (nb : Nat) (B t lock node : Int) (w : World) (hn : NdAt w nb B t) (hk : okRun B t lock node) :
    Calls Try.prog 33 #[.pointer (some ⟨nb, 0, none⟩), .int .i64 lock, .int .i64 node] w fun e w' => e = .returned (.tuple #[run6 (.pointer (some ⟨nb, 0, none⟩)) lock node 1 0 false, .int .i64 0]) ∧ Below w.heap.size w w' := by
  obtain ⟨k1, k2, k3, k4, k5⟩ := hk
  have n1 := hn.t1
  have n2 := hn.t64
  have n3 := hn.B0
  have n4 := hn.top
  have tz : (t == 0) = false := by simp; omega
  have d1 : decide (lock < 0) = false := decide_eq_false (by omega)
  have d2 : decide (65536 ≤ lock) = false := decide_eq_false (by omega)
  by_cases hi : B ≤ lock
  all_goals
    go_enter Try.func33, Try.ntmps33
    go_wp2_with (first | (go_at_call 42; refine (threads_ok nb t _ (hn.below (by (repeat' (first | (with_reducible exact Below.refl _ _) | (with_reducible assumption) | (with_reducible refine Below.alloc ?_ ?_ _) | (with_reducible refine Below.drew ?_) | (with_reducible refine below_drewN ?_ _) | (with_reducible refine Below.setCell ?_ ?_ _) | (with_reducible refine Below.trans ?_ (Below.mono (by assumption) ?_)) | (first | go_size | (with_reducible exact Below.size (by assumption)) | (with_reducible exact Nat.le_trans (Below.size (by assumption)) (Below.size (by assumption))) | (refine Nat.le_trans (Below.size (by assumption)) ?_; go_size)))))).c1 n1 n2).mono ?_; rintro e w' ⟨rfl, rfl⟩) | (go_at_call 43; refine (base_ok nb B t _ (hn.below (by (repeat' (first | (with_reducible exact Below.refl _ _) | (with_reducible assumption) | (with_reducible refine Below.alloc ?_ ?_ _) | (with_reducible refine Below.drew ?_) | (with_reducible refine below_drewN ?_ _) | (with_reducible refine Below.setCell ?_ ?_ _) | (with_reducible refine Below.trans ?_ (Below.mono (by assumption) ?_)) | (first | go_size | (with_reducible exact Below.size (by assumption)) | (with_reducible exact Nat.le_trans (Below.size (by assumption)) (Below.size (by assumption))) | (refine Nat.le_trans (Below.size (by assumption)) ?_; go_size)))))).c0 (hn.below (by (repeat' (first | (with_reducible exact Below.refl _ _) | (with_reducible assumption) | (with_reducible refine Below.alloc ?_ ?_ _) | (with_reducible refine Below.drew ?_) | (with_reducible refine below_drewN ?_ _) | (with_reducible refine Below.setCell ?_ ?_ _) | (with_reducible refine Below.trans ?_ (Below.mono (by assumption) ?_)) | (first | go_size | (with_reducible exact Below.size (by assumption)) | (with_reducible exact Nat.le_trans (Below.size (by assumption)) (Below.size (by assumption))) | (refine Nat.le_trans (Below.size (by assumption)) ?_; go_size)))))).c1 n1).mono ?_; rintro e w' ⟨rfl, rfl⟩) | (go_at_call 44; refine (len_ok nb t _ (hn.below (by (repeat' (first | (with_reducible exact Below.refl _ _) | (with_reducible assumption) | (with_reducible refine Below.alloc ?_ ?_ _) | (with_reducible refine Below.drew ?_) | (with_reducible refine below_drewN ?_ _) | (with_reducible refine Below.setCell ?_ ?_ _) | (with_reducible refine Below.trans ?_ (Below.mono (by assumption) ?_)) | (first | go_size | (with_reducible exact Below.size (by assumption)) | (with_reducible exact Nat.le_trans (Below.size (by assumption)) (Below.size (by assumption))) | (refine Nat.le_trans (Below.size (by assumption)) ?_; go_size)))))).c1 n1 n2).mono ?_; rintro e w' ⟨rfl, rfl⟩) | (go_at_call 45; refine (owner_ok nb t _ node (hn.below (by (repeat' (first | (with_reducible exact Below.refl _ _) | (with_reducible assumption) | (with_reducible refine Below.alloc ?_ ?_ _) | (with_reducible refine Below.drew ?_) | (with_reducible refine below_drewN ?_ _) | (with_reducible refine Below.setCell ?_ ?_ _) | (with_reducible refine Below.trans ?_ (Below.mono (by assumption) ?_)) | (first | go_size | (with_reducible exact Below.size (by assumption)) | (with_reducible exact Nat.le_trans (Below.size (by assumption)) (Below.size (by assumption))) | (refine Nat.le_trans (Below.size (by assumption)) ?_; go_size)))))).c1 n1 n2 k4 k5).mono ?_; rintro e w' ⟨rfl, rfl⟩))
    all_goals first
      | (exfalso; omega)
      | (refine bodyPost_ret (v := .tuple #[run6 (.pointer (some ⟨nb, 0, none⟩)) lock node 1 0 false, .int .i64 0]) (by simp [results, go_sem]) rfl ?_; exact ⟨rfl, by (repeat' (first | (with_reducible exact Below.refl _ _) | (with_reducible assumption) | (with_reducible refine Below.alloc ?_ ?_ _) | (with_reducible refine Below.drew ?_) | (with_reducible refine below_drewN ?_ _) | (with_reducible refine Below.setCell ?_ ?_ _) | (with_reducible refine Below.trans ?_ (Below.mono (by assumption) ?_)) | (first | go_size | (with_reducible exact Below.size (by assumption)) | (with_reducible exact Nat.le_trans (Below.size (by assumption)) (Below.size (by assumption))) | (refine Nat.le_trans (Below.size (by assumption)) ?_; go_size))))⟩)
set_option maxRecDepth 100000 in
theorem new_Acquire_ok (nb : Nat) (B t lock node : Int) (w : World) (hn : NdAt w nb B t) (hk : okRun B t lock node) :
    Calls Try.prog 26 #[.pointer (some ⟨nb, 0, none⟩), .int .i64 lock, .int .i64 node] w fun e w' => ∃ r, e = .returned (.tuple #[.pointer (some ⟨r, 0, none⟩), .int .i64 0]) ∧ w.heap.size ≤ r ∧ RnAt w' r nb 67 ⟨lock, node, 1, 0, false⟩ ∧ Below w.heap.size w w' := by
  go_enter Try.func26, Try.ntmps26
  go_wp2_with (go_at_call 33; refine (mmade_ok nb B t lock node _ (hn.below (by (repeat' (first | (with_reducible exact Below.refl _ _) | (with_reducible assumption) | (with_reducible refine Below.alloc ?_ ?_ _) | (with_reducible refine Below.drew ?_) | (with_reducible refine below_drewN ?_ _) | (with_reducible refine Below.setCell ?_ ?_ _) | (with_reducible refine Below.trans ?_ (Below.mono (by assumption) ?_)) | (first | go_size | (with_reducible exact Below.size (by assumption)) | (with_reducible exact Nat.le_trans (Below.size (by assumption)) (Below.size (by assumption))) | (refine Nat.le_trans (Below.size (by assumption)) ?_; go_size)))))) hk).mono ?_; rintro e w1 ⟨rfl, hb⟩)
  go_ret2
  refine ⟨_, rfl, by have := hb.size; simp at this ⊢; omega, ?_, by (repeat' (first | (with_reducible exact Below.refl _ _) | (with_reducible assumption) | (with_reducible refine Below.alloc ?_ ?_ _) | (with_reducible refine Below.drew ?_) | (with_reducible refine below_drewN ?_ _) | (with_reducible refine Below.setCell ?_ ?_ _) | (with_reducible refine Below.trans ?_ (Below.mono (by assumption) ?_)) | (first | go_size | (with_reducible exact Below.size (by assumption)) | (with_reducible exact Nat.le_trans (Below.size (by assumption)) (Below.size (by assumption))) | (refine Nat.le_trans (Below.size (by assumption)) ?_; go_size))))⟩
  have h := Blk.new (w1.alloc (.cells (runV nb ⟨lock, node, 1, 0, false⟩).toArray 65)) 67 (runV nb ⟨lock, node, 1, 0, false⟩)
  rw [World.size_alloc] at h
  exact h
set_option maxRecDepth 100000 in
theorem new_Release_ok (nb : Nat) (B t lock node : Int) (w : World) (hn : NdAt w nb B t) (hk : okRun B t lock node) :
    Calls Try.prog 25 #[.pointer (some ⟨nb, 0, none⟩), .int .i64 lock, .int .i64 node] w fun e w' => ∃ r, e = .returned (.tuple #[.pointer (some ⟨r, 0, none⟩), .int .i64 0]) ∧ w.heap.size ≤ r ∧ RnAt w' r nb 68 ⟨lock, node, 1, 0, false⟩ ∧ Below w.heap.size w w' := by
  go_enter Try.func25, Try.ntmps25
  go_wp2_with (go_at_call 33; refine (mmade_ok nb B t lock node _ (hn.below (by (repeat' (first | (with_reducible exact Below.refl _ _) | (with_reducible assumption) | (with_reducible refine Below.alloc ?_ ?_ _) | (with_reducible refine Below.drew ?_) | (with_reducible refine below_drewN ?_ _) | (with_reducible refine Below.setCell ?_ ?_ _) | (with_reducible refine Below.trans ?_ (Below.mono (by assumption) ?_)) | (first | go_size | (with_reducible exact Below.size (by assumption)) | (with_reducible exact Nat.le_trans (Below.size (by assumption)) (Below.size (by assumption))) | (refine Nat.le_trans (Below.size (by assumption)) ?_; go_size)))))) hk).mono ?_; rintro e w1 ⟨rfl, hb⟩)
  go_ret2
  refine ⟨_, rfl, by have := hb.size; simp at this ⊢; omega, ?_, by (repeat' (first | (with_reducible exact Below.refl _ _) | (with_reducible assumption) | (with_reducible refine Below.alloc ?_ ?_ _) | (with_reducible refine Below.drew ?_) | (with_reducible refine below_drewN ?_ _) | (with_reducible refine Below.setCell ?_ ?_ _) | (with_reducible refine Below.trans ?_ (Below.mono (by assumption) ?_)) | (first | go_size | (with_reducible exact Below.size (by assumption)) | (with_reducible exact Nat.le_trans (Below.size (by assumption)) (Below.size (by assumption))) | (refine Nat.le_trans (Below.size (by assumption)) ?_; go_size))))⟩
  have h := Blk.new (w1.alloc (.cells (runV nb ⟨lock, node, 1, 0, false⟩).toArray 65)) 68 (runV nb ⟨lock, node, 1, 0, false⟩)
  rw [World.size_alloc] at h
  exact h
end Go.Proofs.Ytmlhdcpahfgckaa
