/-
  Contracts of the reference of mcs: a program as a struct by value.
-/
import Derived.Test.YtmlhdcpahfgckaaRQnode
import Derived.Test.YtmlhdcpahfgckaaRMem
import Derived.Test.YtmlhdcpahfgckaaMcs9
namespace Go.Proofs.Ytmlhdcpahfgckaa
open Go.RowKit

abbrev rnd (B t : Int) : Value := .agg #[.int .i64 B, .int .i64 t]
/-- the reference's program -/
abbrev rrun (B t : Int) (bk : Bool) (y : Rn) : Value := .agg #[.int .i64 B, .int .i64 t, .int .i64 y.lock, .int .i64 y.node, .bool bk, .int .i64 y.pc, .int .u64 y.other, .bool y.ended]
abbrev rrun7 (B t lock node : Int) (bk : Bool) (pc other : Int) (ended : Bool) : Value := .agg #[.int .i64 B, .int .i64 t, .int .i64 lock, .int .i64 node, .bool bk, .int .i64 pc, .int .u64 other, .bool ended]
abbrev rcel (B t lock node : Int) (bk : Bool) (pc other : Int) (ended : Bool) : Obj := .cells #[.int .i64 B, .int .i64 t, .int .i64 lock, .int .i64 node, .bool bk, .int .i64 pc, .int .u64 other, .bool ended] 46

set_option maxRecDepth 100000 in
theorem rref_ok (B t lock node : Int) (bk : Bool) (pc other : Int) (ended : Bool) (w : World) (h0 : 0 ≤ node) (h1 : node ≤ 1000) :
    Calls Try.prog 48 #[rrun7 B t lock node bk pc other ended] w fun e w' => e = .returned (.int .u64 (node + 1)) ∧ w.alloc (rcel B t lock node bk pc other ended) = w' := by
  go_enter Try.func48, Try.ntmps48
  go_wp2
  go_ret
  exact ⟨rfl, rfl⟩

structure Ac where
  k : Int
  i : Int
  bf : Int
  af : Int
  e : Int
def accOf (B t : Int) (bk : Bool) (y : Rn) : Ac :=
  if y.ended = true then ⟨0, 0, 0, 0, 17⟩
  else if y.pc = 4 ∧ ¬ (1 ≤ y.other ∧ y.other ≤ t * 2) then ⟨0, 0, 0, 0, 12⟩
  else if bk = true then
    if y.pc = 1 ∨ y.pc = 3 then ⟨1, B + 3 * y.node, 0, 0, 0⟩
    else if y.pc = 2 then ⟨3, y.lock, y.node + 1, 0, 0⟩
    else ⟨2, B + 3 * (y.other - 1) + 1, 0, 0, 0⟩
  else if y.pc = 1 then ⟨2, B + 3 * y.node, 0, 0, 0⟩
  else if y.pc = 2 then ⟨2, B + 3 * y.node + 1, 0, 1, 0⟩
  else if y.pc = 3 then ⟨4, y.lock, 0, y.node + 1, 0⟩
  else if y.pc = 4 then ⟨2, B + 3 * (y.other - 1), 0, y.node + 1, 0⟩
  else ⟨1, B + 3 * y.node + 1, 0, 0, 0⟩
def AccP (w : World) (a : Ac) (e : Ending) (w' : World) : Prop := e = .returned (.tuple #[acc4 a.k a.i a.bf a.af, .int .i64 a.e]) ∧ Below w.heap.size w w'
section
variable (B t lock node other : Int) (w : World) (hB : 0 ≤ B) (hB2 : B ≤ 65536) (t1 : 1 ≤ t) (t2 : t ≤ 64) (n0 : 0 ≤ node) (n1 : node < t * 2)
include hB hB2 t1 t2 n0 n1
set_option maxRecDepth 100000 in
set_option maxHeartbeats 1000000 in
theorem racc_end_b (bk : Bool) (pc : Int)  : Calls Try.prog 34 #[rrun7 B t lock node bk (pc) other true] w (AccP w ⟨0, 0, 0, 0, 17⟩) := by
  by_cases hp : pc = 4
  · subst hp
    have b4 : ((4 : Int) == 4) = true := rfl
    go_enter Try.func34, Try.ntmps34
    go_wp2_with (first | (go_at_call 46; refine (rnext_ok B t _ _ (by omega) (by omega) (by omega) (by omega) (by omega) (by omega)).mono ?_; rintro e w' ⟨rfl, rfl⟩) | (go_at_call 47; refine (rwait_ok B t _ _ (by omega) (by omega) (by omega) (by omega) (by omega) (by omega)).mono ?_; rintro e w' ⟨rfl, rfl⟩))
    all_goals
      refine bodyPost_ret (v := .tuple #[acc4 0 0 0 0, .int .i64 17]) (by simp [results, go_sem]) rfl ?_
      exact ⟨rfl, by (repeat' (first | (with_reducible exact Below.refl _ _) | (with_reducible assumption) | (with_reducible refine Below.alloc ?_ ?_ _) | (with_reducible refine Below.drew ?_) | (with_reducible refine below_drewN ?_ _) | (with_reducible refine Below.setCell ?_ ?_ _) | (with_reducible refine Below.trans ?_ (Below.mono (by assumption) ?_)) | (first | go_size | (with_reducible exact Below.size (by assumption)) | (with_reducible exact Nat.le_trans (Below.size (by assumption)) (Below.size (by assumption))) | (refine Nat.le_trans (Below.size (by assumption)) ?_; go_size))))⟩
  · have b4 : (pc == 4) = false := by simpa using hp
    clear hp
    go_enter Try.func34, Try.ntmps34
    go_wp2_with (first | (go_at_call 46; refine (rnext_ok B t _ _ (by omega) (by omega) (by omega) (by omega) (by omega) (by omega)).mono ?_; rintro e w' ⟨rfl, rfl⟩) | (go_at_call 47; refine (rwait_ok B t _ _ (by omega) (by omega) (by omega) (by omega) (by omega) (by omega)).mono ?_; rintro e w' ⟨rfl, rfl⟩))
    all_goals
      refine bodyPost_ret (v := .tuple #[acc4 0 0 0 0, .int .i64 17]) (by simp [results, go_sem]) rfl ?_
      exact ⟨rfl, by (repeat' (first | (with_reducible exact Below.refl _ _) | (with_reducible assumption) | (with_reducible refine Below.alloc ?_ ?_ _) | (with_reducible refine Below.drew ?_) | (with_reducible refine below_drewN ?_ _) | (with_reducible refine Below.setCell ?_ ?_ _) | (with_reducible refine Below.trans ?_ (Below.mono (by assumption) ?_)) | (first | go_size | (with_reducible exact Below.size (by assumption)) | (with_reducible exact Nat.le_trans (Below.size (by assumption)) (Below.size (by assumption))) | (refine Nat.le_trans (Below.size (by assumption)) ?_; go_size))))⟩
set_option maxRecDepth 100000 in
set_option maxHeartbeats 1000000 in
theorem racc_bad_hi (bk : Bool) (hb : t * 2 < other) : Calls Try.prog 34 #[rrun7 B t lock node bk (4) other false] w (AccP w ⟨0, 0, 0, 0, 12⟩) := by
  go_enter Try.func34, Try.ntmps34
  go_wp2_with (first | (go_at_call 46; refine (rnext_ok B t _ _ (by omega) (by omega) (by omega) (by omega) (by omega) (by omega)).mono ?_; rintro e w' ⟨rfl, rfl⟩) | (go_at_call 47; refine (rwait_ok B t _ _ (by omega) (by omega) (by omega) (by omega) (by omega) (by omega)).mono ?_; rintro e w' ⟨rfl, rfl⟩))
  all_goals
    refine bodyPost_ret (v := .tuple #[acc4 (0) (0) (0) (0), .int .i64 12]) (by simp [results, go_sem]) rfl ?_
    exact ⟨rfl, by (repeat' (first | (with_reducible exact Below.refl _ _) | (with_reducible assumption) | (with_reducible refine Below.alloc ?_ ?_ _) | (with_reducible refine Below.drew ?_) | (with_reducible refine below_drewN ?_ _) | (with_reducible refine Below.setCell ?_ ?_ _) | (with_reducible refine Below.trans ?_ (Below.mono (by assumption) ?_)) | (first | go_size | (with_reducible exact Below.size (by assumption)) | (with_reducible exact Nat.le_trans (Below.size (by assumption)) (Below.size (by assumption))) | (refine Nat.le_trans (Below.size (by assumption)) ?_; go_size))))⟩
set_option maxRecDepth 100000 in
set_option maxHeartbeats 1000000 in
theorem racc_bad_lo (bk : Bool) (hb : other = 0) : Calls Try.prog 34 #[rrun7 B t lock node bk (4) other false] w (AccP w ⟨0, 0, 0, 0, 12⟩) := by
  subst hb
  go_enter Try.func34, Try.ntmps34
  go_wp2_with (first | (go_at_call 46; refine (rnext_ok B t _ _ (by omega) (by omega) (by omega) (by omega) (by omega) (by omega)).mono ?_; rintro e w' ⟨rfl, rfl⟩) | (go_at_call 47; refine (rwait_ok B t _ _ (by omega) (by omega) (by omega) (by omega) (by omega) (by omega)).mono ?_; rintro e w' ⟨rfl, rfl⟩))
  all_goals
    refine bodyPost_ret (v := .tuple #[acc4 (0) (0) (0) (0), .int .i64 12]) (by simp [results, go_sem]) rfl ?_
    exact ⟨rfl, by (repeat' (first | (with_reducible exact Below.refl _ _) | (with_reducible assumption) | (with_reducible refine Below.alloc ?_ ?_ _) | (with_reducible refine Below.drew ?_) | (with_reducible refine below_drewN ?_ _) | (with_reducible refine Below.setCell ?_ ?_ _) | (with_reducible refine Below.trans ?_ (Below.mono (by assumption) ?_)) | (first | go_size | (with_reducible exact Below.size (by assumption)) | (with_reducible exact Nat.le_trans (Below.size (by assumption)) (Below.size (by assumption))) | (refine Nat.le_trans (Below.size (by assumption)) ?_; go_size))))⟩
set_option maxRecDepth 100000 in
set_option maxHeartbeats 1000000 in
theorem racc_r1 : Calls Try.prog 34 #[rrun7 B t lock node true 1 other false] w (AccP w ⟨1, B + 3 * node, 0, 0, 0⟩) := by
  go_enter Try.func34, Try.ntmps34
  go_wp2_with (first | (go_at_call 46; refine (rnext_ok B t _ _ (by omega) (by omega) (by omega) (by omega) (by omega) (by omega)).mono ?_; rintro e w' ⟨rfl, rfl⟩) | (go_at_call 47; refine (rwait_ok B t _ _ (by omega) (by omega) (by omega) (by omega) (by omega) (by omega)).mono ?_; rintro e w' ⟨rfl, rfl⟩))
  all_goals
    go_wp2_with fail
    refine bodyPost_ret (v := .tuple #[acc4 (1) (B + 3 * node) (0) (0), .int .i64 0]) (by simp [results, go_sem]) rfl ?_
    exact ⟨rfl, by (repeat' (first | (with_reducible exact Below.refl _ _) | (with_reducible assumption) | (with_reducible refine Below.alloc ?_ ?_ _) | (with_reducible refine Below.drew ?_) | (with_reducible refine below_drewN ?_ _) | (with_reducible refine Below.setCell ?_ ?_ _) | (with_reducible refine Below.trans ?_ (Below.mono (by assumption) ?_)) | (first | go_size | (with_reducible exact Below.size (by assumption)) | (with_reducible exact Nat.le_trans (Below.size (by assumption)) (Below.size (by assumption))) | (refine Nat.le_trans (Below.size (by assumption)) ?_; go_size))))⟩
set_option maxRecDepth 100000 in
set_option maxHeartbeats 1000000 in
theorem racc_r3 : Calls Try.prog 34 #[rrun7 B t lock node true 3 other false] w (AccP w ⟨1, B + 3 * node, 0, 0, 0⟩) := by
  go_enter Try.func34, Try.ntmps34
  go_wp2_with (first | (go_at_call 46; refine (rnext_ok B t _ _ (by omega) (by omega) (by omega) (by omega) (by omega) (by omega)).mono ?_; rintro e w' ⟨rfl, rfl⟩) | (go_at_call 47; refine (rwait_ok B t _ _ (by omega) (by omega) (by omega) (by omega) (by omega) (by omega)).mono ?_; rintro e w' ⟨rfl, rfl⟩))
  all_goals
    go_wp2_with fail
    refine bodyPost_ret (v := .tuple #[acc4 (1) (B + 3 * node) (0) (0), .int .i64 0]) (by simp [results, go_sem]) rfl ?_
    exact ⟨rfl, by (repeat' (first | (with_reducible exact Below.refl _ _) | (with_reducible assumption) | (with_reducible refine Below.alloc ?_ ?_ _) | (with_reducible refine Below.drew ?_) | (with_reducible refine below_drewN ?_ _) | (with_reducible refine Below.setCell ?_ ?_ _) | (with_reducible refine Below.trans ?_ (Below.mono (by assumption) ?_)) | (first | go_size | (with_reducible exact Below.size (by assumption)) | (with_reducible exact Nat.le_trans (Below.size (by assumption)) (Below.size (by assumption))) | (refine Nat.le_trans (Below.size (by assumption)) ?_; go_size))))⟩
set_option maxRecDepth 100000 in
set_option maxHeartbeats 1000000 in
theorem racc_r2 : Calls Try.prog 34 #[rrun7 B t lock node true 2 other false] w (AccP w ⟨3, lock, node + 1, 0, 0⟩) := by
  go_enter Try.func34, Try.ntmps34
  go_wp2_with (first | (go_at_call 46; refine (rnext_ok B t _ _ (by omega) (by omega) (by omega) (by omega) (by omega) (by omega)).mono ?_; rintro e w' ⟨rfl, rfl⟩) | (go_at_call 47; refine (rwait_ok B t _ _ (by omega) (by omega) (by omega) (by omega) (by omega) (by omega)).mono ?_; rintro e w' ⟨rfl, rfl⟩))
  go_region_held3 (fun w' => w'.cell? ⟨w.heap.size, 0, none⟩ = some (.int .i64 B) ∧ w'.cell? ⟨w.heap.size, 1, none⟩ = some (.int .i64 t) ∧ w'.cell? ⟨w.heap.size, 2, none⟩ = some (.int .i64 lock) ∧ w'.cell? ⟨w.heap.size, 3, none⟩ = some (.int .i64 node) ∧ w'.cell? ⟨w.heap.size, 4, none⟩ = some (.bool true) ∧ w'.cell? ⟨w.heap.size, 5, none⟩ = some (.int .i64 2) ∧ w'.cell? ⟨w.heap.size, 6, none⟩ = some (.int .u64 other) ∧ w'.cell? ⟨w.heap.size, 7, none⟩ = some (.bool false)) ((refine ⟨?_, ?_, ?_, ?_, ?_, ?_, ?_, ?_⟩ <;> first | assumption | go_cell)) (first | (go_at_call 46; refine (rnext_ok B t _ _ (by omega) (by omega) (by omega) (by omega) (by omega) (by omega)).mono ?_; rintro e w' ⟨rfl, rfl⟩) | (go_at_call 47; refine (rwait_ok B t _ _ (by omega) (by omega) (by omega) (by omega) (by omega) (by omega)).mono ?_; rintro e w' ⟨rfl, rfl⟩) | (go_at_call 48; ((with_reducible refine (rref_ok B t lock node true 2 other false _ ?_ ?_).mono ?_); (focus (omega)); (focus (omega)); rintro e w' ⟨rfl, rfl⟩)))
  all_goals
    go_wp2_with fail
    refine bodyPost_ret (v := .tuple #[acc4 (3) (lock) (node + 1) (0), .int .i64 0]) (by simp [results, go_sem]) rfl ?_
    exact ⟨rfl, by (repeat' (first | (with_reducible exact Below.refl _ _) | (with_reducible assumption) | (with_reducible refine Below.alloc ?_ ?_ _) | (with_reducible refine Below.drew ?_) | (with_reducible refine below_drewN ?_ _) | (with_reducible refine Below.setCell ?_ ?_ _) | (with_reducible refine Below.trans ?_ (Below.mono (by assumption) ?_)) | (first | go_size | (with_reducible exact Below.size (by assumption)) | (with_reducible exact Nat.le_trans (Below.size (by assumption)) (Below.size (by assumption))) | (refine Nat.le_trans (Below.size (by assumption)) ?_; go_size))))⟩
set_option maxRecDepth 100000 in
set_option maxHeartbeats 1000000 in
theorem racc_r4 (hb : 1 ≤ other ∧ other ≤ t * 2) : Calls Try.prog 34 #[rrun7 B t lock node true 4 other false] w (AccP w ⟨2, B + 3 * (other - 1) + 1, 0, 0, 0⟩) := by
  have o3 : (other == 0) = false := by simp; omega
  have o4 : decide (2 * t < other) = false := decide_eq_false (by omega)
  go_enter Try.func34, Try.ntmps34
  go_wp2_with (first | (go_at_call 46; refine (rnext_ok B t _ _ (by omega) (by omega) (by omega) (by omega) (by omega) (by omega)).mono ?_; rintro e w' ⟨rfl, rfl⟩) | (go_at_call 47; refine (rwait_ok B t _ _ (by omega) (by omega) (by omega) (by omega) (by omega) (by omega)).mono ?_; rintro e w' ⟨rfl, rfl⟩))
  all_goals
    go_wp2_with fail
    refine bodyPost_ret (v := .tuple #[acc4 (2) (B + 3 * (other - 1) + 1) (0) (0), .int .i64 0]) (by simp [results, go_sem]) rfl ?_
    exact ⟨rfl, by (repeat' (first | (with_reducible exact Below.refl _ _) | (with_reducible assumption) | (with_reducible refine Below.alloc ?_ ?_ _) | (with_reducible refine Below.drew ?_) | (with_reducible refine below_drewN ?_ _) | (with_reducible refine Below.setCell ?_ ?_ _) | (with_reducible refine Below.trans ?_ (Below.mono (by assumption) ?_)) | (first | go_size | (with_reducible exact Below.size (by assumption)) | (with_reducible exact Nat.le_trans (Below.size (by assumption)) (Below.size (by assumption))) | (refine Nat.le_trans (Below.size (by assumption)) ?_; go_size))))⟩
set_option maxRecDepth 100000 in
set_option maxHeartbeats 1000000 in
theorem racc_a1 : Calls Try.prog 34 #[rrun7 B t lock node false 1 other false] w (AccP w ⟨2, B + 3 * node, 0, 0, 0⟩) := by
  go_enter Try.func34, Try.ntmps34
  go_wp2_with (first | (go_at_call 46; refine (rnext_ok B t _ _ (by omega) (by omega) (by omega) (by omega) (by omega) (by omega)).mono ?_; rintro e w' ⟨rfl, rfl⟩) | (go_at_call 47; refine (rwait_ok B t _ _ (by omega) (by omega) (by omega) (by omega) (by omega) (by omega)).mono ?_; rintro e w' ⟨rfl, rfl⟩))
  all_goals
    go_wp2_with fail
    refine bodyPost_ret (v := .tuple #[acc4 (2) (B + 3 * node) (0) (0), .int .i64 0]) (by simp [results, go_sem]) rfl ?_
    exact ⟨rfl, by (repeat' (first | (with_reducible exact Below.refl _ _) | (with_reducible assumption) | (with_reducible refine Below.alloc ?_ ?_ _) | (with_reducible refine Below.drew ?_) | (with_reducible refine below_drewN ?_ _) | (with_reducible refine Below.setCell ?_ ?_ _) | (with_reducible refine Below.trans ?_ (Below.mono (by assumption) ?_)) | (first | go_size | (with_reducible exact Below.size (by assumption)) | (with_reducible exact Nat.le_trans (Below.size (by assumption)) (Below.size (by assumption))) | (refine Nat.le_trans (Below.size (by assumption)) ?_; go_size))))⟩
set_option maxRecDepth 100000 in
set_option maxHeartbeats 1000000 in
theorem racc_a2 : Calls Try.prog 34 #[rrun7 B t lock node false 2 other false] w (AccP w ⟨2, B + 3 * node + 1, 0, 1, 0⟩) := by
  go_enter Try.func34, Try.ntmps34
  go_wp2_with (first | (go_at_call 46; refine (rnext_ok B t _ _ (by omega) (by omega) (by omega) (by omega) (by omega) (by omega)).mono ?_; rintro e w' ⟨rfl, rfl⟩) | (go_at_call 47; refine (rwait_ok B t _ _ (by omega) (by omega) (by omega) (by omega) (by omega) (by omega)).mono ?_; rintro e w' ⟨rfl, rfl⟩))
  all_goals
    go_wp2_with fail
    refine bodyPost_ret (v := .tuple #[acc4 (2) (B + 3 * node + 1) (0) (1), .int .i64 0]) (by simp [results, go_sem]) rfl ?_
    exact ⟨rfl, by (repeat' (first | (with_reducible exact Below.refl _ _) | (with_reducible assumption) | (with_reducible refine Below.alloc ?_ ?_ _) | (with_reducible refine Below.drew ?_) | (with_reducible refine below_drewN ?_ _) | (with_reducible refine Below.setCell ?_ ?_ _) | (with_reducible refine Below.trans ?_ (Below.mono (by assumption) ?_)) | (first | go_size | (with_reducible exact Below.size (by assumption)) | (with_reducible exact Nat.le_trans (Below.size (by assumption)) (Below.size (by assumption))) | (refine Nat.le_trans (Below.size (by assumption)) ?_; go_size))))⟩
set_option maxRecDepth 100000 in
set_option maxHeartbeats 1000000 in
theorem racc_a3 : Calls Try.prog 34 #[rrun7 B t lock node false 3 other false] w (AccP w ⟨4, lock, 0, node + 1, 0⟩) := by
  go_enter Try.func34, Try.ntmps34
  go_wp2_with (first | (go_at_call 46; refine (rnext_ok B t _ _ (by omega) (by omega) (by omega) (by omega) (by omega) (by omega)).mono ?_; rintro e w' ⟨rfl, rfl⟩) | (go_at_call 47; refine (rwait_ok B t _ _ (by omega) (by omega) (by omega) (by omega) (by omega) (by omega)).mono ?_; rintro e w' ⟨rfl, rfl⟩))
  go_region_held3 (fun w' => w'.cell? ⟨w.heap.size, 0, none⟩ = some (.int .i64 B) ∧ w'.cell? ⟨w.heap.size, 1, none⟩ = some (.int .i64 t) ∧ w'.cell? ⟨w.heap.size, 2, none⟩ = some (.int .i64 lock) ∧ w'.cell? ⟨w.heap.size, 3, none⟩ = some (.int .i64 node) ∧ w'.cell? ⟨w.heap.size, 4, none⟩ = some (.bool false) ∧ w'.cell? ⟨w.heap.size, 5, none⟩ = some (.int .i64 3) ∧ w'.cell? ⟨w.heap.size, 6, none⟩ = some (.int .u64 other) ∧ w'.cell? ⟨w.heap.size, 7, none⟩ = some (.bool false)) ((refine ⟨?_, ?_, ?_, ?_, ?_, ?_, ?_, ?_⟩ <;> first | assumption | go_cell)) (first | (go_at_call 46; refine (rnext_ok B t _ _ (by omega) (by omega) (by omega) (by omega) (by omega) (by omega)).mono ?_; rintro e w' ⟨rfl, rfl⟩) | (go_at_call 47; refine (rwait_ok B t _ _ (by omega) (by omega) (by omega) (by omega) (by omega) (by omega)).mono ?_; rintro e w' ⟨rfl, rfl⟩) | (go_at_call 48; ((with_reducible refine (rref_ok B t lock node false 3 other false _ ?_ ?_).mono ?_); (focus (omega)); (focus (omega)); rintro e w' ⟨rfl, rfl⟩)))
  all_goals
    go_wp2_with fail
    refine bodyPost_ret (v := .tuple #[acc4 (4) (lock) (0) (node + 1), .int .i64 0]) (by simp [results, go_sem]) rfl ?_
    exact ⟨rfl, by (repeat' (first | (with_reducible exact Below.refl _ _) | (with_reducible assumption) | (with_reducible refine Below.alloc ?_ ?_ _) | (with_reducible refine Below.drew ?_) | (with_reducible refine below_drewN ?_ _) | (with_reducible refine Below.setCell ?_ ?_ _) | (with_reducible refine Below.trans ?_ (Below.mono (by assumption) ?_)) | (first | go_size | (with_reducible exact Below.size (by assumption)) | (with_reducible exact Nat.le_trans (Below.size (by assumption)) (Below.size (by assumption))) | (refine Nat.le_trans (Below.size (by assumption)) ?_; go_size))))⟩
set_option maxRecDepth 100000 in
set_option maxHeartbeats 1000000 in
theorem racc_a4 (hb : 1 ≤ other ∧ other ≤ t * 2) : Calls Try.prog 34 #[rrun7 B t lock node false 4 other false] w (AccP w ⟨2, B + 3 * (other - 1), 0, node + 1, 0⟩) := by
  have o3 : (other == 0) = false := by simp; omega
  have o4 : decide (2 * t < other) = false := decide_eq_false (by omega)
  go_enter Try.func34, Try.ntmps34
  go_wp2_with (first | (go_at_call 46; refine (rnext_ok B t _ _ (by omega) (by omega) (by omega) (by omega) (by omega) (by omega)).mono ?_; rintro e w' ⟨rfl, rfl⟩) | (go_at_call 47; refine (rwait_ok B t _ _ (by omega) (by omega) (by omega) (by omega) (by omega) (by omega)).mono ?_; rintro e w' ⟨rfl, rfl⟩))
  go_region_held3 (fun w' => w'.cell? ⟨w.heap.size, 0, none⟩ = some (.int .i64 B) ∧ w'.cell? ⟨w.heap.size, 1, none⟩ = some (.int .i64 t) ∧ w'.cell? ⟨w.heap.size, 2, none⟩ = some (.int .i64 lock) ∧ w'.cell? ⟨w.heap.size, 3, none⟩ = some (.int .i64 node) ∧ w'.cell? ⟨w.heap.size, 4, none⟩ = some (.bool false) ∧ w'.cell? ⟨w.heap.size, 5, none⟩ = some (.int .i64 4) ∧ w'.cell? ⟨w.heap.size, 6, none⟩ = some (.int .u64 other) ∧ w'.cell? ⟨w.heap.size, 7, none⟩ = some (.bool false)) ((refine ⟨?_, ?_, ?_, ?_, ?_, ?_, ?_, ?_⟩ <;> first | assumption | go_cell)) (first | (go_at_call 46; refine (rnext_ok B t _ _ (by omega) (by omega) (by omega) (by omega) (by omega) (by omega)).mono ?_; rintro e w' ⟨rfl, rfl⟩) | (go_at_call 47; refine (rwait_ok B t _ _ (by omega) (by omega) (by omega) (by omega) (by omega) (by omega)).mono ?_; rintro e w' ⟨rfl, rfl⟩) | (go_at_call 48; ((with_reducible refine (rref_ok B t lock node false 4 other false _ ?_ ?_).mono ?_); (focus (omega)); (focus (omega)); rintro e w' ⟨rfl, rfl⟩)))
  all_goals
    go_wp2_with fail
    refine bodyPost_ret (v := .tuple #[acc4 (2) (B + 3 * (other - 1)) (0) (node + 1), .int .i64 0]) (by simp [results, go_sem]) rfl ?_
    exact ⟨rfl, by (repeat' (first | (with_reducible exact Below.refl _ _) | (with_reducible assumption) | (with_reducible refine Below.alloc ?_ ?_ _) | (with_reducible refine Below.drew ?_) | (with_reducible refine below_drewN ?_ _) | (with_reducible refine Below.setCell ?_ ?_ _) | (with_reducible refine Below.trans ?_ (Below.mono (by assumption) ?_)) | (first | go_size | (with_reducible exact Below.size (by assumption)) | (with_reducible exact Nat.le_trans (Below.size (by assumption)) (Below.size (by assumption))) | (refine Nat.le_trans (Below.size (by assumption)) ?_; go_size))))⟩
set_option maxRecDepth 100000 in
set_option maxHeartbeats 1000000 in
theorem racc_a5 : Calls Try.prog 34 #[rrun7 B t lock node false 5 other false] w (AccP w ⟨1, B + 3 * node + 1, 0, 0, 0⟩) := by
  go_enter Try.func34, Try.ntmps34
  go_wp2_with (first | (go_at_call 46; refine (rnext_ok B t _ _ (by omega) (by omega) (by omega) (by omega) (by omega) (by omega)).mono ?_; rintro e w' ⟨rfl, rfl⟩) | (go_at_call 47; refine (rwait_ok B t _ _ (by omega) (by omega) (by omega) (by omega) (by omega) (by omega)).mono ?_; rintro e w' ⟨rfl, rfl⟩))
  all_goals
    go_wp2_with fail
    refine bodyPost_ret (v := .tuple #[acc4 (1) (B + 3 * node + 1) (0) (0), .int .i64 0]) (by simp [results, go_sem]) rfl ?_
    exact ⟨rfl, by (repeat' (first | (with_reducible exact Below.refl _ _) | (with_reducible assumption) | (with_reducible refine Below.alloc ?_ ?_ _) | (with_reducible refine Below.drew ?_) | (with_reducible refine below_drewN ?_ _) | (with_reducible refine Below.setCell ?_ ?_ _) | (with_reducible refine Below.trans ?_ (Below.mono (by assumption) ?_)) | (first | go_size | (with_reducible exact Below.size (by assumption)) | (with_reducible exact Nat.le_trans (Below.size (by assumption)) (Below.size (by assumption))) | (refine Nat.le_trans (Below.size (by assumption)) ?_; go_size))))⟩
end
end Go.Proofs.Ytmlhdcpahfgckaa
