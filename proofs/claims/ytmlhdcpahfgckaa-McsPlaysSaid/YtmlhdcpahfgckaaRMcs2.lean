/-
  Contracts of the reference of mcs: a program after an access.
-/
import Derived.Test.YtmlhdcpahfgckaaRMcs
namespace Go.Proofs.Ytmlhdcpahfgckaa
open Go.RowKit

def aft (bk : Bool) (y : Rn) (bef : Int) : Rn × Bool :=
  if bk = true then
    if y.pc = 1 ∨ y.pc = 3 then if bef ≠ 0 then ({ y with other := bef, pc := 4 }, false) else if y.pc = 3 then (y, true) else ({ y with pc := 2 }, false)
    else if y.pc = 2 then ({ y with ended := bef == y.node + 1, pc := 3 }, false)
    else ({ y with ended := true }, false)
  else if y.pc = 3 then ({ y with ended := bef == 0, other := bef, pc := 4 }, false)
  else if y.pc = 5 then ({ y with ended := bef == 0 }, !(bef == 0))
  else ({ y with pc := y.pc + 1 }, false)
def AftP (w : World) (v : Value) (wt : Bool) (e : Ending) (w' : World) : Prop := e = .returned (.tuple #[v, .bool wt]) ∧ Below w.heap.size w w'
section
variable (B t lock node other k i bef af : Int) (w : World)
set_option maxRecDepth 100000 in
set_option maxHeartbeats 1000000 in
theorem raft_r1n (hb : bef ≠ 0) : Calls Try.prog 36 #[rrun7 B t lock node true 1 other false, acc4 k i bef af] w (AftP w (rrun7 B t lock node true 4 bef false) false) := by
  have b1 : (bef != 0) = true := by simpa using hb
  clear hb
  go_enter Try.func36, Try.ntmps36
  go_wp2_with fail
  all_goals
    go_wp2_with fail
    refine bodyPost_ret (v := .tuple #[rrun7 B t lock node true 4 bef false, .bool false]) (by simp [results, go_sem]) rfl ?_
    exact ⟨rfl, by (repeat' (first | (with_reducible exact Below.refl _ _) | (with_reducible assumption) | (with_reducible refine Below.alloc ?_ ?_ _) | (with_reducible refine Below.drew ?_) | (with_reducible refine below_drewN ?_ _) | (with_reducible refine Below.setCell ?_ ?_ _) | (with_reducible refine Below.trans ?_ (Below.mono (by assumption) ?_)) | (first | go_size | (with_reducible exact Below.size (by assumption)) | (with_reducible exact Nat.le_trans (Below.size (by assumption)) (Below.size (by assumption))) | (refine Nat.le_trans (Below.size (by assumption)) ?_; go_size))))⟩
set_option maxRecDepth 100000 in
set_option maxHeartbeats 1000000 in
theorem raft_r3n (hb : bef ≠ 0) : Calls Try.prog 36 #[rrun7 B t lock node true 3 other false, acc4 k i bef af] w (AftP w (rrun7 B t lock node true 4 bef false) false) := by
  have b1 : (bef != 0) = true := by simpa using hb
  clear hb
  go_enter Try.func36, Try.ntmps36
  go_wp2_with fail
  all_goals
    go_wp2_with fail
    refine bodyPost_ret (v := .tuple #[rrun7 B t lock node true 4 bef false, .bool false]) (by simp [results, go_sem]) rfl ?_
    exact ⟨rfl, by (repeat' (first | (with_reducible exact Below.refl _ _) | (with_reducible assumption) | (with_reducible refine Below.alloc ?_ ?_ _) | (with_reducible refine Below.drew ?_) | (with_reducible refine below_drewN ?_ _) | (with_reducible refine Below.setCell ?_ ?_ _) | (with_reducible refine Below.trans ?_ (Below.mono (by assumption) ?_)) | (first | go_size | (with_reducible exact Below.size (by assumption)) | (with_reducible exact Nat.le_trans (Below.size (by assumption)) (Below.size (by assumption))) | (refine Nat.le_trans (Below.size (by assumption)) ?_; go_size))))⟩
set_option maxRecDepth 100000 in
set_option maxHeartbeats 1000000 in
theorem raft_r1z (hb : bef = 0) : Calls Try.prog 36 #[rrun7 B t lock node true 1 other false, acc4 k i bef af] w (AftP w (rrun7 B t lock node true 2 other false) false) := by
  subst hb
  go_enter Try.func36, Try.ntmps36
  go_wp2_with fail
  all_goals
    go_wp2_with fail
    refine bodyPost_ret (v := .tuple #[rrun7 B t lock node true 2 other false, .bool false]) (by simp [results, go_sem]) rfl ?_
    exact ⟨rfl, by (repeat' (first | (with_reducible exact Below.refl _ _) | (with_reducible assumption) | (with_reducible refine Below.alloc ?_ ?_ _) | (with_reducible refine Below.drew ?_) | (with_reducible refine below_drewN ?_ _) | (with_reducible refine Below.setCell ?_ ?_ _) | (with_reducible refine Below.trans ?_ (Below.mono (by assumption) ?_)) | (first | go_size | (with_reducible exact Below.size (by assumption)) | (with_reducible exact Nat.le_trans (Below.size (by assumption)) (Below.size (by assumption))) | (refine Nat.le_trans (Below.size (by assumption)) ?_; go_size))))⟩
set_option maxRecDepth 100000 in
set_option maxHeartbeats 1000000 in
theorem raft_r3z (hb : bef = 0) : Calls Try.prog 36 #[rrun7 B t lock node true 3 other false, acc4 k i bef af] w (AftP w (rrun7 B t lock node true 3 other false) true) := by
  subst hb
  go_enter Try.func36, Try.ntmps36
  go_wp2_with fail
  all_goals
    go_wp2_with fail
    refine bodyPost_ret (v := .tuple #[rrun7 B t lock node true 3 other false, .bool true]) (by simp [results, go_sem]) rfl ?_
    exact ⟨rfl, by (repeat' (first | (with_reducible exact Below.refl _ _) | (with_reducible assumption) | (with_reducible refine Below.alloc ?_ ?_ _) | (with_reducible refine Below.drew ?_) | (with_reducible refine below_drewN ?_ _) | (with_reducible refine Below.setCell ?_ ?_ _) | (with_reducible refine Below.trans ?_ (Below.mono (by assumption) ?_)) | (first | go_size | (with_reducible exact Below.size (by assumption)) | (with_reducible exact Nat.le_trans (Below.size (by assumption)) (Below.size (by assumption))) | (refine Nat.le_trans (Below.size (by assumption)) ?_; go_size))))⟩
set_option maxRecDepth 100000 in
set_option maxHeartbeats 1000000 in
theorem raft_r2 (n0 : 0 ≤ node) (n1 : node ≤ 1000) : Calls Try.prog 36 #[rrun7 B t lock node true 2 other false, acc4 k i bef af] w (AftP w (rrun7 B t lock node true 3 other (bef == node + 1)) false) := by
  go_enter Try.func36, Try.ntmps36
  go_wp2_with fail
  go_region_with ((go_at_call 48; ((with_reducible refine (rref_ok B t lock node true 2 other false _ ?_ ?_).mono ?_); (focus (omega)); (focus (omega)); rintro e w' ⟨rfl, rfl⟩)))
  all_goals
    go_wp2_with fail
    refine bodyPost_ret (v := .tuple #[rrun7 B t lock node true 3 other (bef == node + 1), .bool false]) (by simp [results, go_sem]) rfl ?_
    exact ⟨rfl, by (repeat' (first | (with_reducible exact Below.refl _ _) | (with_reducible assumption) | (with_reducible refine Below.alloc ?_ ?_ _) | (with_reducible refine Below.drew ?_) | (with_reducible refine below_drewN ?_ _) | (with_reducible refine Below.setCell ?_ ?_ _) | (with_reducible refine Below.trans ?_ (Below.mono (by assumption) ?_)) | (first | go_size | (with_reducible exact Below.size (by assumption)) | (with_reducible exact Nat.le_trans (Below.size (by assumption)) (Below.size (by assumption))) | (refine Nat.le_trans (Below.size (by assumption)) ?_; go_size))))⟩
set_option maxRecDepth 100000 in
set_option maxHeartbeats 1000000 in
theorem raft_r4  : Calls Try.prog 36 #[rrun7 B t lock node true 4 other false, acc4 k i bef af] w (AftP w (rrun7 B t lock node true 4 other true) false) := by
  go_enter Try.func36, Try.ntmps36
  go_wp2_with fail
  all_goals
    go_wp2_with fail
    refine bodyPost_ret (v := .tuple #[rrun7 B t lock node true 4 other true, .bool false]) (by simp [results, go_sem]) rfl ?_
    exact ⟨rfl, by (repeat' (first | (with_reducible exact Below.refl _ _) | (with_reducible assumption) | (with_reducible refine Below.alloc ?_ ?_ _) | (with_reducible refine Below.drew ?_) | (with_reducible refine below_drewN ?_ _) | (with_reducible refine Below.setCell ?_ ?_ _) | (with_reducible refine Below.trans ?_ (Below.mono (by assumption) ?_)) | (first | go_size | (with_reducible exact Below.size (by assumption)) | (with_reducible exact Nat.le_trans (Below.size (by assumption)) (Below.size (by assumption))) | (refine Nat.le_trans (Below.size (by assumption)) ?_; go_size))))⟩
set_option maxRecDepth 100000 in
set_option maxHeartbeats 1000000 in
theorem raft_a3  : Calls Try.prog 36 #[rrun7 B t lock node false 3 other false, acc4 k i bef af] w (AftP w (rrun7 B t lock node false 4 bef (bef == 0)) false) := by
  go_enter Try.func36, Try.ntmps36
  go_wp2_with fail
  all_goals
    go_wp2_with fail
    refine bodyPost_ret (v := .tuple #[rrun7 B t lock node false 4 bef (bef == 0), .bool false]) (by simp [results, go_sem]) rfl ?_
    exact ⟨rfl, by (repeat' (first | (with_reducible exact Below.refl _ _) | (with_reducible assumption) | (with_reducible refine Below.alloc ?_ ?_ _) | (with_reducible refine Below.drew ?_) | (with_reducible refine below_drewN ?_ _) | (with_reducible refine Below.setCell ?_ ?_ _) | (with_reducible refine Below.trans ?_ (Below.mono (by assumption) ?_)) | (first | go_size | (with_reducible exact Below.size (by assumption)) | (with_reducible exact Nat.le_trans (Below.size (by assumption)) (Below.size (by assumption))) | (refine Nat.le_trans (Below.size (by assumption)) ?_; go_size))))⟩
set_option maxRecDepth 100000 in
set_option maxHeartbeats 1000000 in
theorem raft_a5  : Calls Try.prog 36 #[rrun7 B t lock node false 5 other false, acc4 k i bef af] w (AftP w (rrun7 B t lock node false 5 other (bef == 0)) (!(bef == 0))) := by
  go_enter Try.func36, Try.ntmps36
  cases hz : (bef == 0)
  all_goals
    go_wp2_with fail
    go_region
    all_goals
      go_wp2_with fail
      refine bodyPost_ret (v := .tuple #[rrun7 B t lock node false 5 other _, .bool _]) (by simp [results, go_sem]; first | done | exact ⟨rfl, rfl⟩) rfl ?_
      exact ⟨rfl, by (repeat' (first | (with_reducible exact Below.refl _ _) | (with_reducible assumption) | (with_reducible refine Below.alloc ?_ ?_ _) | (with_reducible refine Below.drew ?_) | (with_reducible refine below_drewN ?_ _) | (with_reducible refine Below.setCell ?_ ?_ _) | (with_reducible refine Below.trans ?_ (Below.mono (by assumption) ?_)) | (first | go_size | (with_reducible exact Below.size (by assumption)) | (with_reducible exact Nat.le_trans (Below.size (by assumption)) (Below.size (by assumption))) | (refine Nat.le_trans (Below.size (by assumption)) ?_; go_size))))⟩
set_option maxRecDepth 100000 in
set_option maxHeartbeats 1000000 in
theorem raft_a1  : Calls Try.prog 36 #[rrun7 B t lock node false 1 other false, acc4 k i bef af] w (AftP w (rrun7 B t lock node false 2 other false) false) := by
  go_enter Try.func36, Try.ntmps36
  go_wp2_with fail
  all_goals
    go_wp2_with fail
    refine bodyPost_ret (v := .tuple #[rrun7 B t lock node false 2 other false, .bool false]) (by simp [results, go_sem]) rfl ?_
    exact ⟨rfl, by (repeat' (first | (with_reducible exact Below.refl _ _) | (with_reducible assumption) | (with_reducible refine Below.alloc ?_ ?_ _) | (with_reducible refine Below.drew ?_) | (with_reducible refine below_drewN ?_ _) | (with_reducible refine Below.setCell ?_ ?_ _) | (with_reducible refine Below.trans ?_ (Below.mono (by assumption) ?_)) | (first | go_size | (with_reducible exact Below.size (by assumption)) | (with_reducible exact Nat.le_trans (Below.size (by assumption)) (Below.size (by assumption))) | (refine Nat.le_trans (Below.size (by assumption)) ?_; go_size))))⟩
set_option maxRecDepth 100000 in
set_option maxHeartbeats 1000000 in
theorem raft_a2  : Calls Try.prog 36 #[rrun7 B t lock node false 2 other false, acc4 k i bef af] w (AftP w (rrun7 B t lock node false 3 other false) false) := by
  go_enter Try.func36, Try.ntmps36
  go_wp2_with fail
  all_goals
    go_wp2_with fail
    refine bodyPost_ret (v := .tuple #[rrun7 B t lock node false 3 other false, .bool false]) (by simp [results, go_sem]) rfl ?_
    exact ⟨rfl, by (repeat' (first | (with_reducible exact Below.refl _ _) | (with_reducible assumption) | (with_reducible refine Below.alloc ?_ ?_ _) | (with_reducible refine Below.drew ?_) | (with_reducible refine below_drewN ?_ _) | (with_reducible refine Below.setCell ?_ ?_ _) | (with_reducible refine Below.trans ?_ (Below.mono (by assumption) ?_)) | (first | go_size | (with_reducible exact Below.size (by assumption)) | (with_reducible exact Nat.le_trans (Below.size (by assumption)) (Below.size (by assumption))) | (refine Nat.le_trans (Below.size (by assumption)) ?_; go_size))))⟩
set_option maxRecDepth 100000 in
set_option maxHeartbeats 1000000 in
theorem raft_a4  : Calls Try.prog 36 #[rrun7 B t lock node false 4 other false, acc4 k i bef af] w (AftP w (rrun7 B t lock node false 5 other false) false) := by
  go_enter Try.func36, Try.ntmps36
  go_wp2_with fail
  all_goals
    go_wp2_with fail
    refine bodyPost_ret (v := .tuple #[rrun7 B t lock node false 5 other false, .bool false]) (by simp [results, go_sem]) rfl ?_
    exact ⟨rfl, by (repeat' (first | (with_reducible exact Below.refl _ _) | (with_reducible assumption) | (with_reducible refine Below.alloc ?_ ?_ _) | (with_reducible refine Below.drew ?_) | (with_reducible refine below_drewN ?_ _) | (with_reducible refine Below.setCell ?_ ?_ _) | (with_reducible refine Below.trans ?_ (Below.mono (by assumption) ?_)) | (first | go_size | (with_reducible exact Below.size (by assumption)) | (with_reducible exact Nat.le_trans (Below.size (by assumption)) (Below.size (by assumption))) | (refine Nat.le_trans (Below.size (by assumption)) ?_; go_size))))⟩
end
end Go.Proofs.Ytmlhdcpahfgckaa
