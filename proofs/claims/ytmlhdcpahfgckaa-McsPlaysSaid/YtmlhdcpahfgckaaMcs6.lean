/-
  Contracts of package mcs: an ended program, what it says of itself, a copy.
-/
import Derived.Test.YtmlhdcpahfgckaaMcs5
namespace Go.Proofs.Ytmlhdcpahfgckaa
open Go.RowKit

section
variable (r nb b : Nat) (x : Rn) (w : World) (hr : RnAt w r nb 67 x)
include hr
set_option maxRecDepth 100000 in
theorem aend (he : x.ended = true) : Calls Try.prog 72 #[.pointer (some ⟨r, 0, none⟩), memI b] w fun e w' => e = .returned (.tuple #[.bool false, .int .i64 17]) ∧ w = w' := by
  have hrd := ready_any r nb _ x w hr (memI b) ⟨b, rfl⟩
  rw [he] at hrd
  go_enter Try.func72, Try.ntmps72
  go_wp2_with (go_at_call 75; refine hrd.mono ?_; rintro e w' ⟨rfl, rfl⟩)
  go_ret2
  exact ⟨rfl, rfl⟩
theorem adone : Calls Try.prog 70 #[.pointer (some ⟨r, 0, none⟩)] w fun e w' => e = .returned (.bool x.ended) ∧ w = w' := by
  go_enter Try.func70, Try.ntmps70
  go_wp2_with (go_at_call 73; refine (over_any r nb _ x w hr).mono ?_; rintro e w' ⟨rfl, rfl⟩)
  go_ret
  exact ⟨rfl, rfl⟩
theorem aresult : Calls Try.prog 71 #[.pointer (some ⟨r, 0, none⟩)] w fun e w' => e = .returned (.int .u64 (if x.ended then 1 else 0)) ∧ w = w' := by
  have hx := result_any r nb _ x w hr
  generalize (if x.ended = true then (1 : Int) else 0) = y at hx ⊢
  go_enter Try.func71, Try.ntmps71
  go_wp2_with (go_at_call 74; refine hx.mono ?_; rintro e w' ⟨rfl, rfl⟩)
  go_ret
  exact ⟨rfl, rfl⟩
theorem acopy : Calls Try.prog 69 #[.pointer (some ⟨r, 0, none⟩)] w fun e w' => e = .returned (.iface 59 (.pointer (some ⟨w.heap.size, 0, none⟩))) ∧ RnAt w' w.heap.size nb 67 x ∧ Below w.heap.size w w' := by
  have c0 : w.cell? ⟨r, 0, none⟩ = some (.pointer (some ⟨nb, 0, none⟩)) := hr.cell 0
  have c1 : w.cell? ⟨r, 1, none⟩ = some (.int .i64 x.lock) := hr.cell 1
  have c2 : w.cell? ⟨r, 2, none⟩ = some (.int .i64 x.node) := hr.cell 2
  have c3 : w.cell? ⟨r, 3, none⟩ = some (.int .i64 x.pc) := hr.cell 3
  have c4 : w.cell? ⟨r, 4, none⟩ = some (.int .u64 x.other) := hr.cell 4
  have c5 : w.cell? ⟨r, 5, none⟩ = some (.bool x.ended) := hr.cell 5
  go_enter Try.func69, Try.ntmps69
  go_wp2
  go_ret
  exact ⟨rfl, Blk.new w _ (runV nb x), by (repeat' (first | (with_reducible exact Below.refl _ _) | (with_reducible assumption) | (with_reducible refine Below.alloc ?_ ?_ _) | (with_reducible refine Below.drew ?_) | (with_reducible refine below_drewN ?_ _) | (with_reducible refine Below.setCell ?_ ?_ _) | (with_reducible refine Below.trans ?_ (Below.mono (by assumption) ?_)) | (first | go_size | (with_reducible exact Below.size (by assumption)) | (with_reducible exact Nat.le_trans (Below.size (by assumption)) (Below.size (by assumption))) | (refine Nat.le_trans (Below.size (by assumption)) ?_; go_size))))⟩
end
section
variable (r nb b : Nat) (x : Rn) (w : World) (hr : RnAt w r nb 68 x)
include hr
set_option maxRecDepth 100000 in
theorem rend (he : x.ended = true) : Calls Try.prog 85 #[.pointer (some ⟨r, 0, none⟩), memI b] w fun e w' => e = .returned (.tuple #[.bool false, .int .i64 17]) ∧ w = w' := by
  have hrd := ready_any r nb _ x w hr (memI b) ⟨b, rfl⟩
  rw [he] at hrd
  go_enter Try.func85, Try.ntmps85
  go_wp2_with (go_at_call 75; refine hrd.mono ?_; rintro e w' ⟨rfl, rfl⟩)
  go_ret2
  exact ⟨rfl, rfl⟩
theorem rdone : Calls Try.prog 83 #[.pointer (some ⟨r, 0, none⟩)] w fun e w' => e = .returned (.bool x.ended) ∧ w = w' := by
  go_enter Try.func83, Try.ntmps83
  go_wp2_with (go_at_call 73; refine (over_any r nb _ x w hr).mono ?_; rintro e w' ⟨rfl, rfl⟩)
  go_ret
  exact ⟨rfl, rfl⟩
theorem rresult : Calls Try.prog 84 #[.pointer (some ⟨r, 0, none⟩)] w fun e w' => e = .returned (.int .u64 (if x.ended then 1 else 0)) ∧ w = w' := by
  have hx := result_any r nb _ x w hr
  generalize (if x.ended = true then (1 : Int) else 0) = y at hx ⊢
  go_enter Try.func84, Try.ntmps84
  go_wp2_with (go_at_call 74; refine hx.mono ?_; rintro e w' ⟨rfl, rfl⟩)
  go_ret
  exact ⟨rfl, rfl⟩
theorem rcopy : Calls Try.prog 82 #[.pointer (some ⟨r, 0, none⟩)] w fun e w' => e = .returned (.iface 63 (.pointer (some ⟨w.heap.size, 0, none⟩))) ∧ RnAt w' w.heap.size nb 68 x ∧ Below w.heap.size w w' := by
  have c0 : w.cell? ⟨r, 0, none⟩ = some (.pointer (some ⟨nb, 0, none⟩)) := hr.cell 0
  have c1 : w.cell? ⟨r, 1, none⟩ = some (.int .i64 x.lock) := hr.cell 1
  have c2 : w.cell? ⟨r, 2, none⟩ = some (.int .i64 x.node) := hr.cell 2
  have c3 : w.cell? ⟨r, 3, none⟩ = some (.int .i64 x.pc) := hr.cell 3
  have c4 : w.cell? ⟨r, 4, none⟩ = some (.int .u64 x.other) := hr.cell 4
  have c5 : w.cell? ⟨r, 5, none⟩ = some (.bool x.ended) := hr.cell 5
  go_enter Try.func82, Try.ntmps82
  go_wp2
  go_ret
  exact ⟨rfl, Blk.new w _ (runV nb x), by (repeat' (first | (with_reducible exact Below.refl _ _) | (with_reducible assumption) | (with_reducible refine Below.alloc ?_ ?_ _) | (with_reducible refine Below.drew ?_) | (with_reducible refine below_drewN ?_ _) | (with_reducible refine Below.setCell ?_ ?_ _) | (with_reducible refine Below.trans ?_ (Below.mono (by assumption) ?_)) | (first | go_size | (with_reducible exact Below.size (by assumption)) | (with_reducible exact Nat.le_trans (Below.size (by assumption)) (Below.size (by assumption))) | (refine Nat.le_trans (Below.size (by assumption)) ?_; go_size))))⟩
end
end Go.Proofs.Ytmlhdcpahfgckaa
