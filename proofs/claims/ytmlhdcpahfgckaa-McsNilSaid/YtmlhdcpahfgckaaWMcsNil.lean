/-
  The walk of McsNil: it returns true for any numbers.
-/
import Derived.Test.YtmlhdcpahfgckaaK08
import Derived.Test.YtmlhdcpahfgckaaMcsP
namespace Go.Proofs.Ytmlhdcpahfgckaa
open Go.RowKit
namespace McsNil

theorem thr_nil (w : World) : Calls Try.prog 42 #[.pointer none] w fun e w' => e = .returned (.int .i64 0) ∧ w = w' := by
  go_enter Try.func42, Try.ntmps42
  go_wp2_with go_in
  go_ret
  exact ⟨rfl, rfl⟩
theorem thr_zero (b : Nat) (w : World) (h : Blk w b 62 [.int .i64 0, .int .i64 0]) : Calls Try.prog 42 #[.pointer (some ⟨b, 0, none⟩)] w fun e w' => e = .returned (.int .i64 0) ∧ w = w' := by
  have c0 : w.cell? ⟨b, 0, none⟩ = some (.int .i64 0) := h.cell 0
  have c1 : w.cell? ⟨b, 1, none⟩ = some (.int .i64 0) := h.cell 1
  go_enter Try.func42, Try.ntmps42
  go_wp2_with go_in
  go_ret
  exact ⟨rfl, rfl⟩
def Zr (w : World) (p : Option Addr) : Prop := p = none ∨ ∃ b, p = some ⟨b, 0, none⟩ ∧ Blk w b 62 [.int .i64 0, .int .i64 0]
theorem Zr.below {w w' : World} {p : Option Addr} (h : Zr w p) (hb : Below w.heap.size w w') : Zr w' p := by
  rcases h with h | ⟨b, h, hc⟩
  · exact .inl h
  · exact .inr ⟨b, h, hc.keep (Ch.of_below hb (fun _ => False)) (fun e => e)⟩
theorem thr_z (p : Option Addr) (w : World) (h : Zr w p) : Calls Try.prog 42 #[.pointer p] w fun e w' => e = .returned (.int .i64 0) ∧ w = w' := by
  rcases h with rfl | ⟨b, rfl, h⟩
  · exact thr_nil w
  · exact thr_zero b w h
set_option maxRecDepth 100000 in
theorem mmade_z (p : Option Addr) (lock node : Int) (w : World) (h : Zr w p) :
    Calls Try.prog 33 #[.pointer p, .int .i64 lock, .int .i64 node] w fun e w' => e = .returned (.tuple #[run6 (.pointer none) 0 0 0 0 false, .int .i64 1]) ∧ Below w.heap.size w w' := by
  go_enter Try.func33, Try.ntmps33
  go_wp2_with (go_at_call 42; refine (thr_z p _ (h.below (by (repeat' (first | (with_reducible exact Below.refl _ _) | (with_reducible assumption) | (with_reducible refine Below.alloc ?_ ?_ _) | (with_reducible refine Below.drew ?_) | (with_reducible refine below_drewN ?_ _) | (with_reducible refine Below.setCell ?_ ?_ _) | (with_reducible refine Below.trans ?_ (Below.mono (by assumption) ?_)) | (first | go_size | (with_reducible exact Below.size (by assumption)) | (with_reducible exact Nat.le_trans (Below.size (by assumption)) (Below.size (by assumption))) | (refine Nat.le_trans (Below.size (by assumption)) ?_; go_size))))))).mono ?_; rintro e w' ⟨rfl, rfl⟩)
  refine bodyPost_ret (v := .tuple #[run6 (.pointer none) 0 0 0 0 false, .int .i64 1]) (by simp [results, go_sem]) rfl ?_
  exact ⟨rfl, by (repeat' (first | (with_reducible exact Below.refl _ _) | (with_reducible assumption) | (with_reducible refine Below.alloc ?_ ?_ _) | (with_reducible refine Below.drew ?_) | (with_reducible refine below_drewN ?_ _) | (with_reducible refine Below.setCell ?_ ?_ _) | (with_reducible refine Below.trans ?_ (Below.mono (by assumption) ?_)) | (first | go_size | (with_reducible exact Below.size (by assumption)) | (with_reducible exact Nat.le_trans (Below.size (by assumption)) (Below.size (by assumption))) | (refine Nat.le_trans (Below.size (by assumption)) ?_; go_size))))⟩
set_option maxRecDepth 100000 in
theorem begin_z (p : Option Addr) (lock node : Int) (bk : Bool) (w : World) (h : Zr w p) :
    Calls Try.prog 13 #[.pointer p, .int .i64 lock, .int .i64 node, .bool bk] w fun e w' => e = .returned (.tuple #[.nilIface, .int .i64 1]) ∧ Below w.heap.size w w' := by
  have ha : ∀ W, Zr W p → Calls Try.prog 26 #[.pointer p, .int .i64 lock, .int .i64 node] W fun e w' => e = .returned (.tuple #[.pointer none, .int .i64 1]) ∧ Below W.heap.size W w' := fun W hW => by
    go_enter Try.func26, Try.ntmps26
    go_wp2_with (go_at_call 33; refine (mmade_z p lock node _ (hW.below (by (repeat' (first | (with_reducible exact Below.refl _ _) | (with_reducible assumption) | (with_reducible refine Below.alloc ?_ ?_ _) | (with_reducible refine Below.drew ?_) | (with_reducible refine below_drewN ?_ _) | (with_reducible refine Below.setCell ?_ ?_ _) | (with_reducible refine Below.trans ?_ (Below.mono (by assumption) ?_)) | (first | go_size | (with_reducible exact Below.size (by assumption)) | (with_reducible exact Nat.le_trans (Below.size (by assumption)) (Below.size (by assumption))) | (refine Nat.le_trans (Below.size (by assumption)) ?_; go_size))))))).mono ?_; rintro e w1 ⟨rfl, hb⟩)
    go_ret2
    exact ⟨rfl, by (repeat' (first | (with_reducible exact Below.refl _ _) | (with_reducible assumption) | (with_reducible refine Below.alloc ?_ ?_ _) | (with_reducible refine Below.drew ?_) | (with_reducible refine below_drewN ?_ _) | (with_reducible refine Below.setCell ?_ ?_ _) | (with_reducible refine Below.trans ?_ (Below.mono (by assumption) ?_)) | (first | go_size | (with_reducible exact Below.size (by assumption)) | (with_reducible exact Nat.le_trans (Below.size (by assumption)) (Below.size (by assumption))) | (refine Nat.le_trans (Below.size (by assumption)) ?_; go_size))))⟩
  have hr : ∀ W, Zr W p → Calls Try.prog 25 #[.pointer p, .int .i64 lock, .int .i64 node] W fun e w' => e = .returned (.tuple #[.pointer none, .int .i64 1]) ∧ Below W.heap.size W w' := fun W hW => by
    go_enter Try.func25, Try.ntmps25
    go_wp2_with (go_at_call 33; refine (mmade_z p lock node _ (hW.below (by (repeat' (first | (with_reducible exact Below.refl _ _) | (with_reducible assumption) | (with_reducible refine Below.alloc ?_ ?_ _) | (with_reducible refine Below.drew ?_) | (with_reducible refine below_drewN ?_ _) | (with_reducible refine Below.setCell ?_ ?_ _) | (with_reducible refine Below.trans ?_ (Below.mono (by assumption) ?_)) | (first | go_size | (with_reducible exact Below.size (by assumption)) | (with_reducible exact Nat.le_trans (Below.size (by assumption)) (Below.size (by assumption))) | (refine Nat.le_trans (Below.size (by assumption)) ?_; go_size))))))).mono ?_; rintro e w1 ⟨rfl, hb⟩)
    go_ret2
    exact ⟨rfl, by (repeat' (first | (with_reducible exact Below.refl _ _) | (with_reducible assumption) | (with_reducible refine Below.alloc ?_ ?_ _) | (with_reducible refine Below.drew ?_) | (with_reducible refine below_drewN ?_ _) | (with_reducible refine Below.setCell ?_ ?_ _) | (with_reducible refine Below.trans ?_ (Below.mono (by assumption) ?_)) | (first | go_size | (with_reducible exact Below.size (by assumption)) | (with_reducible exact Nat.le_trans (Below.size (by assumption)) (Below.size (by assumption))) | (refine Nat.le_trans (Below.size (by assumption)) ?_; go_size))))⟩
  cases bk
  · go_enter Try.func13, Try.ntmps13
    go_wp2_with (go_at_call 26; refine (ha _ (h.below (by (repeat' (first | (with_reducible exact Below.refl _ _) | (with_reducible assumption) | (with_reducible refine Below.alloc ?_ ?_ _) | (with_reducible refine Below.drew ?_) | (with_reducible refine below_drewN ?_ _) | (with_reducible refine Below.setCell ?_ ?_ _) | (with_reducible refine Below.trans ?_ (Below.mono (by assumption) ?_)) | (first | go_size | (with_reducible exact Below.size (by assumption)) | (with_reducible exact Nat.le_trans (Below.size (by assumption)) (Below.size (by assumption))) | (refine Nat.le_trans (Below.size (by assumption)) ?_; go_size))))))).mono ?_; rintro e w2 ⟨rfl, hB⟩)
    go_ret2
    exact ⟨rfl, by (repeat' (first | (with_reducible exact Below.refl _ _) | (with_reducible assumption) | (with_reducible refine Below.alloc ?_ ?_ _) | (with_reducible refine Below.drew ?_) | (with_reducible refine below_drewN ?_ _) | (with_reducible refine Below.setCell ?_ ?_ _) | (with_reducible refine Below.trans ?_ (Below.mono (by assumption) ?_)) | (first | go_size | (with_reducible exact Below.size (by assumption)) | (with_reducible exact Nat.le_trans (Below.size (by assumption)) (Below.size (by assumption))) | (refine Nat.le_trans (Below.size (by assumption)) ?_; go_size))))⟩
  · go_enter Try.func13, Try.ntmps13
    go_wp2_with (go_at_call 25; refine (hr _ (h.below (by (repeat' (first | (with_reducible exact Below.refl _ _) | (with_reducible assumption) | (with_reducible refine Below.alloc ?_ ?_ _) | (with_reducible refine Below.drew ?_) | (with_reducible refine below_drewN ?_ _) | (with_reducible refine Below.setCell ?_ ?_ _) | (with_reducible refine Below.trans ?_ (Below.mono (by assumption) ?_)) | (first | go_size | (with_reducible exact Below.size (by assumption)) | (with_reducible exact Nat.le_trans (Below.size (by assumption)) (Below.size (by assumption))) | (refine Nat.le_trans (Below.size (by assumption)) ?_; go_size))))))).mono ?_; rintro e w2 ⟨rfl, hB⟩)
    go_ret2
    exact ⟨rfl, by (repeat' (first | (with_reducible exact Below.refl _ _) | (with_reducible assumption) | (with_reducible refine Below.alloc ?_ ?_ _) | (with_reducible refine Below.drew ?_) | (with_reducible refine below_drewN ?_ _) | (with_reducible refine Below.setCell ?_ ?_ _) | (with_reducible refine Below.trans ?_ (Below.mono (by assumption) ?_)) | (first | go_size | (with_reducible exact Below.size (by assumption)) | (with_reducible exact Nat.le_trans (Below.size (by assumption)) (Below.size (by assumption))) | (refine Nat.le_trans (Below.size (by assumption)) ?_; go_size))))⟩
def Zp (T : TypeId) (w : World) (p : Option Addr) : Prop := p = none ∨ ∃ b, p = some ⟨b, 0, none⟩ ∧ Blk w b T [.pointer none, .int .i64 0, .int .i64 0, .int .i64 0, .int .u64 0, .bool false]
theorem Zp.below {T : TypeId} {w w' : World} {p : Option Addr} (h : Zp T w p) (hb : Below w.heap.size w w') : Zp T w' p := by
  rcases h with h | ⟨b, h, hc⟩
  · exact .inl h
  · exact .inr ⟨b, h, hc.keep (Ch.of_below hb (fun _ => False)) (fun e => e)⟩

set_option maxRecDepth 100000 in
theorem astep_nil (r nb : Nat) (x : Rn) (w : World) (hr : RnAt w r nb 67 x) : Calls Try.prog 72 #[.pointer (some ⟨r, 0, none⟩), .nilIface] w fun e w' => e = .returned (.tuple #[.bool false, .int .i64 1]) ∧ w = w' := by
  have c0 : w.cell? ⟨r, 0, none⟩ = some (.pointer (some ⟨nb, 0, none⟩)) := hr.cell 0
  go_enter Try.func72, Try.ntmps72
  go_wp2_with go_in
  go_ret2
  exact ⟨rfl, rfl⟩
set_option maxRecDepth 100000 in
theorem aStep_z (p : Option Addr) (v : Value) (w : World) (h : Zp 67 w p) : Calls Try.prog 72 #[.pointer p, v] w fun e w' => e = .returned (.tuple #[.bool false, .int .i64 1]) ∧ w = w' := by
  rcases h with rfl | ⟨b, rfl, h⟩
  · go_enter Try.func72, Try.ntmps72
    go_wp2_with go_in
    go_ret2
    exact ⟨rfl, rfl⟩
  · have c0 : w.cell? ⟨b, 0, none⟩ = some (.pointer none) := h.cell 0
    have c5 : w.cell? ⟨b, 5, none⟩ = some (.bool false) := h.cell 5
    go_enter Try.func72, Try.ntmps72
    go_wp2_with go_in
    go_ret2
    exact ⟨rfl, rfl⟩
theorem nilz_Step_Acquire (p : Option Addr) (w : World) : (nilAhead 242 59 (.pointer p) "Step").run Try.prog w = .ok (some false) w := by cases p <;> kernel_rfl
theorem methodz_Step_Acquire (p : Option Addr) (w : World) : (method 242 59 (.pointer p) "Step").run Try.prog w = .ok (72, .pointer p) w := by cases p <;> kernel_rfl
set_option maxRecDepth 100000 in
theorem aDone_z (p : Option Addr) (w : World) (h : Zp 67 w p) : Calls Try.prog 70 #[.pointer p] w fun e w' => e = .returned (.bool true) ∧ w = w' := by
  rcases h with rfl | ⟨b, rfl, h⟩
  · go_enter Try.func70, Try.ntmps70
    go_wp2_with go_in
    go_ret
    exact ⟨rfl, rfl⟩
  · have c0 : w.cell? ⟨b, 0, none⟩ = some (.pointer none) := h.cell 0
    have c5 : w.cell? ⟨b, 5, none⟩ = some (.bool false) := h.cell 5
    go_enter Try.func70, Try.ntmps70
    go_wp2_with go_in
    go_ret
    exact ⟨rfl, rfl⟩
theorem nilz_Done_Acquire (p : Option Addr) (w : World) : (nilAhead 242 59 (.pointer p) "Done").run Try.prog w = .ok (some false) w := by cases p <;> kernel_rfl
theorem methodz_Done_Acquire (p : Option Addr) (w : World) : (method 242 59 (.pointer p) "Done").run Try.prog w = .ok (70, .pointer p) w := by cases p <;> kernel_rfl
set_option maxRecDepth 100000 in
theorem aResult_z (p : Option Addr) (w : World) (h : Zp 67 w p) : Calls Try.prog 71 #[.pointer p] w fun e w' => e = .returned (.int .u64 0) ∧ w = w' := by
  rcases h with rfl | ⟨b, rfl, h⟩
  · go_enter Try.func71, Try.ntmps71
    go_wp2_with go_in
    go_ret
    exact ⟨rfl, rfl⟩
  · have c0 : w.cell? ⟨b, 0, none⟩ = some (.pointer none) := h.cell 0
    have c5 : w.cell? ⟨b, 5, none⟩ = some (.bool false) := h.cell 5
    go_enter Try.func71, Try.ntmps71
    go_wp2_with go_in
    go_ret
    exact ⟨rfl, rfl⟩
theorem nilz_Result_Acquire (p : Option Addr) (w : World) : (nilAhead 242 59 (.pointer p) "Result").run Try.prog w = .ok (some false) w := by cases p <;> kernel_rfl
theorem methodz_Result_Acquire (p : Option Addr) (w : World) : (method 242 59 (.pointer p) "Result").run Try.prog w = .ok (71, .pointer p) w := by cases p <;> kernel_rfl
set_option maxRecDepth 100000 in
theorem aCopy_z (p : Option Addr) (w : World) (h : Zp 67 w p) : Calls Try.prog 69 #[.pointer p] w fun e w' => e = .returned (.nilIface) ∧ w = w' := by
  rcases h with rfl | ⟨b, rfl, h⟩
  · go_enter Try.func69, Try.ntmps69
    go_wp2_with go_in
    go_ret
    exact ⟨rfl, rfl⟩
  · have c0 : w.cell? ⟨b, 0, none⟩ = some (.pointer none) := h.cell 0
    have c5 : w.cell? ⟨b, 5, none⟩ = some (.bool false) := h.cell 5
    go_enter Try.func69, Try.ntmps69
    go_wp2_with go_in
    go_ret
    exact ⟨rfl, rfl⟩
theorem nilz_Copy_Acquire (p : Option Addr) (w : World) : (nilAhead 242 59 (.pointer p) "Copy").run Try.prog w = .ok (some false) w := by cases p <;> kernel_rfl
theorem methodz_Copy_Acquire (p : Option Addr) (w : World) : (method 242 59 (.pointer p) "Copy").run Try.prog w = .ok (69, .pointer p) w := by cases p <;> kernel_rfl

set_option maxRecDepth 100000 in
theorem rstep_nil (r nb : Nat) (x : Rn) (w : World) (hr : RnAt w r nb 68 x) : Calls Try.prog 85 #[.pointer (some ⟨r, 0, none⟩), .nilIface] w fun e w' => e = .returned (.tuple #[.bool false, .int .i64 1]) ∧ w = w' := by
  have c0 : w.cell? ⟨r, 0, none⟩ = some (.pointer (some ⟨nb, 0, none⟩)) := hr.cell 0
  go_enter Try.func85, Try.ntmps85
  go_wp2_with go_in
  go_ret2
  exact ⟨rfl, rfl⟩
set_option maxRecDepth 100000 in
theorem rStep_z (p : Option Addr) (v : Value) (w : World) (h : Zp 68 w p) : Calls Try.prog 85 #[.pointer p, v] w fun e w' => e = .returned (.tuple #[.bool false, .int .i64 1]) ∧ w = w' := by
  rcases h with rfl | ⟨b, rfl, h⟩
  · go_enter Try.func85, Try.ntmps85
    go_wp2_with go_in
    go_ret2
    exact ⟨rfl, rfl⟩
  · have c0 : w.cell? ⟨b, 0, none⟩ = some (.pointer none) := h.cell 0
    have c5 : w.cell? ⟨b, 5, none⟩ = some (.bool false) := h.cell 5
    go_enter Try.func85, Try.ntmps85
    go_wp2_with go_in
    go_ret2
    exact ⟨rfl, rfl⟩
theorem nilz_Step_Release (p : Option Addr) (w : World) : (nilAhead 242 63 (.pointer p) "Step").run Try.prog w = .ok (some false) w := by cases p <;> kernel_rfl
theorem methodz_Step_Release (p : Option Addr) (w : World) : (method 242 63 (.pointer p) "Step").run Try.prog w = .ok (85, .pointer p) w := by cases p <;> kernel_rfl
set_option maxRecDepth 100000 in
theorem rDone_z (p : Option Addr) (w : World) (h : Zp 68 w p) : Calls Try.prog 83 #[.pointer p] w fun e w' => e = .returned (.bool true) ∧ w = w' := by
  rcases h with rfl | ⟨b, rfl, h⟩
  · go_enter Try.func83, Try.ntmps83
    go_wp2_with go_in
    go_ret
    exact ⟨rfl, rfl⟩
  · have c0 : w.cell? ⟨b, 0, none⟩ = some (.pointer none) := h.cell 0
    have c5 : w.cell? ⟨b, 5, none⟩ = some (.bool false) := h.cell 5
    go_enter Try.func83, Try.ntmps83
    go_wp2_with go_in
    go_ret
    exact ⟨rfl, rfl⟩
theorem nilz_Done_Release (p : Option Addr) (w : World) : (nilAhead 242 63 (.pointer p) "Done").run Try.prog w = .ok (some false) w := by cases p <;> kernel_rfl
theorem methodz_Done_Release (p : Option Addr) (w : World) : (method 242 63 (.pointer p) "Done").run Try.prog w = .ok (83, .pointer p) w := by cases p <;> kernel_rfl
set_option maxRecDepth 100000 in
theorem rResult_z (p : Option Addr) (w : World) (h : Zp 68 w p) : Calls Try.prog 84 #[.pointer p] w fun e w' => e = .returned (.int .u64 0) ∧ w = w' := by
  rcases h with rfl | ⟨b, rfl, h⟩
  · go_enter Try.func84, Try.ntmps84
    go_wp2_with go_in
    go_ret
    exact ⟨rfl, rfl⟩
  · have c0 : w.cell? ⟨b, 0, none⟩ = some (.pointer none) := h.cell 0
    have c5 : w.cell? ⟨b, 5, none⟩ = some (.bool false) := h.cell 5
    go_enter Try.func84, Try.ntmps84
    go_wp2_with go_in
    go_ret
    exact ⟨rfl, rfl⟩
theorem nilz_Result_Release (p : Option Addr) (w : World) : (nilAhead 242 63 (.pointer p) "Result").run Try.prog w = .ok (some false) w := by cases p <;> kernel_rfl
theorem methodz_Result_Release (p : Option Addr) (w : World) : (method 242 63 (.pointer p) "Result").run Try.prog w = .ok (84, .pointer p) w := by cases p <;> kernel_rfl
set_option maxRecDepth 100000 in
theorem rCopy_z (p : Option Addr) (w : World) (h : Zp 68 w p) : Calls Try.prog 82 #[.pointer p] w fun e w' => e = .returned (.nilIface) ∧ w = w' := by
  rcases h with rfl | ⟨b, rfl, h⟩
  · go_enter Try.func82, Try.ntmps82
    go_wp2_with go_in
    go_ret
    exact ⟨rfl, rfl⟩
  · have c0 : w.cell? ⟨b, 0, none⟩ = some (.pointer none) := h.cell 0
    have c5 : w.cell? ⟨b, 5, none⟩ = some (.bool false) := h.cell 5
    go_enter Try.func82, Try.ntmps82
    go_wp2_with go_in
    go_ret
    exact ⟨rfl, rfl⟩
theorem nilz_Copy_Release (p : Option Addr) (w : World) : (nilAhead 242 63 (.pointer p) "Copy").run Try.prog w = .ok (some false) w := by cases p <;> kernel_rfl
theorem methodz_Copy_Release (p : Option Addr) (w : World) : (method 242 63 (.pointer p) "Copy").run Try.prog w = .ok (82, .pointer p) w := by cases p <;> kernel_rfl

set_option maxRecDepth 100000 in
set_option maxHeartbeats 4000000 in
theorem walk (lock : Int) (_wl : (Lit.int .i64 lock).wf = true) (node : Int) (_wn : (Lit.int .i64 node).wf = true) (W : World) :
    Calls Try.prog 6 #[.int .i64 lock, .int .i64 node] W fun e w' => e = .returned (.bool true) ∧ Below W.heap.size W w' := by
  have hmk : ∀ w, (Instr.makeSlice 28 (.int .i64 13) (.int .i64 13)).run Try.prog w = .ok (.slice (some ⟨w.heap.size, 0, none⟩) 13 13) (w.alloc (.cells #[.int .u64 0, .int .u64 0, .int .u64 0, .int .u64 0, .int .u64 0, .int .u64 0, .int .u64 0, .int .u64 0, .int .u64 0, .int .u64 0, .int .u64 0, .int .u64 0, .int .u64 0] 22)) := fun w => by rw [← z13]; exact make_u64 13 (by omega) w
  go_enter Try.func6, Try.ntmps6
  go_wp2_with fail
  refine (made_ok (some ⟨W.heap.size, 0, none⟩) z13l 13 13 _ (Rd.of_blk (Blk.new W 22 (u64s z13l)) (List.prefix_refl _) (by simp)) rfl (by omega) (by omega) (by omega) z13_wf).mono ?_
  rintro e w1 ⟨b, g, rfl, hm, hb, hg, hB1⟩
  have hB : Below W.heap.size W w1 := Below.trans (by (repeat' (first | (with_reducible exact Below.refl _ _) | (with_reducible assumption) | (with_reducible refine Below.alloc ?_ ?_ _) | (with_reducible refine Below.drew ?_) | (with_reducible refine below_drewN ?_ _) | (with_reducible refine Below.setCell ?_ ?_ _) | (with_reducible refine Below.trans ?_ (Below.mono (by assumption) ?_)) | (first | go_size | (with_reducible exact Below.size (by assumption)) | (with_reducible exact Nat.le_trans (Below.size (by assumption)) (Below.size (by assumption))) | (refine Nat.le_trans (Below.size (by assumption)) ?_; go_size))))) (hB1.mono (by simp))
  simp at hb hg
  clear hB1
  go_wp2_with fail
  refine (qnew_ok 1 2 _ (by omega) (by omega) (by omega) (by omega)).mono ?_
  rintro e w2 ⟨rfl, hw2⟩
  have hS : KS W w2 w1.heap.size 1 2 b g 13 z13l [] := by
    subst hw2
    exact ⟨⟨Blk.new w1 _ _, by omega, by omega, by omega, by omega⟩, hm.below (by (repeat' (first | (with_reducible exact Below.refl _ _) | (with_reducible assumption) | (with_reducible refine Below.alloc ?_ ?_ _) | (with_reducible refine Below.drew ?_) | (with_reducible refine below_drewN ?_ _) | (with_reducible refine Below.setCell ?_ ?_ _) | (with_reducible refine Below.trans ?_ (Below.mono (by assumption) ?_)) | (first | go_size | (with_reducible exact Below.size (by assumption)) | (with_reducible exact Nat.le_trans (Below.size (by assumption)) (Below.size (by assumption))) | (refine Nat.le_trans (Below.size (by assumption)) ?_; go_size))))), fun p hp => (by cases hp), fun i j p q hp => (by simp at hp), by (repeat' (first | (with_reducible exact Below.refl _ _) | (with_reducible assumption) | (with_reducible refine Below.alloc ?_ ?_ _) | (with_reducible refine Below.drew ?_) | (with_reducible refine below_drewN ?_ _) | (with_reducible refine Below.setCell ?_ ?_ _) | (with_reducible refine Below.trans ?_ (Below.mono (by assumption) ?_)) | (first | go_size | (with_reducible exact Below.size (by assumption)) | (with_reducible exact Nat.le_trans (Below.size (by assumption)) (Below.size (by assumption))) | (refine Nat.le_trans (Below.size (by assumption)) ?_; go_size)))), by omega, by omega, hB.size⟩
  have hz := hB.size
  clear hw2 hm hB hb hg
  go_wp2_with fail
  refine wp_loop_rounds 3 ?_
  change Code.wp _ _ _ _ _
  go_wp2_with fail
  refine (begin_z none lock node false _ (.inl rfl)).mono ?_
  rintro e u01 ⟨rfl, hU⟩
  have hK : Blk u01 w2.heap.size 4 [.bool false, .bool true] := Blk.keep (Blk.new w2 _ _) (Ch.of_below (show Below _ (w2.alloc _) u01 from Below.trans (by (repeat' (first | (with_reducible exact Below.refl _ _) | (with_reducible assumption) | (with_reducible refine Below.alloc ?_ ?_ _) | (with_reducible refine Below.drew ?_) | (with_reducible refine below_drewN ?_ _) | (with_reducible refine Below.setCell ?_ ?_ _) | (with_reducible refine Below.trans ?_ (Below.mono (by assumption) ?_)) | (first | go_size | (with_reducible exact Below.size (by assumption)) | (with_reducible exact Nat.le_trans (Below.size (by assumption)) (Below.size (by assumption))) | (refine Nat.le_trans (Below.size (by assumption)) ?_; go_size))))) (hU.mono (by simp))) (fun _ => False)) (fun e => e)
  have hzz : w2.heap.size + 1 ≤ u01.heap.size := by have := hU.size; (try simp at this); omega
  replace hS := hS.step (show Below w2.heap.size w2 u01 from Below.trans (by (repeat' (first | (with_reducible exact Below.refl _ _) | (with_reducible assumption) | (with_reducible refine Below.alloc ?_ ?_ _) | (with_reducible refine Below.drew ?_) | (with_reducible refine below_drewN ?_ _) | (with_reducible refine Below.setCell ?_ ?_ _) | (with_reducible refine Below.trans ?_ (Below.mono (by assumption) ?_)) | (first | go_size | (with_reducible exact Below.size (by assumption)) | (with_reducible exact Nat.le_trans (Below.size (by assumption)) (Below.size (by assumption))) | (refine Nat.le_trans (Below.size (by assumption)) ?_; go_size))))) (hU.mono (by simp)))
  clear hU
  go_wp2_with fail
  refine (begin_z (some ⟨u01.heap.size, 0, none⟩) lock node false _ (.inr ⟨_, rfl, Blk.new u01 _ [.int .i64 0, .int .i64 0]⟩)).mono ?_
  rintro e u02 ⟨rfl, hU⟩
  replace hK := Blk.keep hK (Ch.of_below (show Below u01.heap.size u01 u02 from Below.trans (by (repeat' (first | (with_reducible exact Below.refl _ _) | (with_reducible assumption) | (with_reducible refine Below.alloc ?_ ?_ _) | (with_reducible refine Below.drew ?_) | (with_reducible refine below_drewN ?_ _) | (with_reducible refine Below.setCell ?_ ?_ _) | (with_reducible refine Below.trans ?_ (Below.mono (by assumption) ?_)) | (first | go_size | (with_reducible exact Below.size (by assumption)) | (with_reducible exact Nat.le_trans (Below.size (by assumption)) (Below.size (by assumption))) | (refine Nat.le_trans (Below.size (by assumption)) ?_; go_size))))) (hU.mono (by simp))) (fun _ => False)) (fun e => e)
  replace hS := hS.step (show Below u01.heap.size u01 u02 from Below.trans (by (repeat' (first | (with_reducible exact Below.refl _ _) | (with_reducible assumption) | (with_reducible refine Below.alloc ?_ ?_ _) | (with_reducible refine Below.drew ?_) | (with_reducible refine below_drewN ?_ _) | (with_reducible refine Below.setCell ?_ ?_ _) | (with_reducible refine Below.trans ?_ (Below.mono (by assumption) ?_)) | (first | go_size | (with_reducible exact Below.size (by assumption)) | (with_reducible exact Nat.le_trans (Below.size (by assumption)) (Below.size (by assumption))) | (refine Nat.le_trans (Below.size (by assumption)) ?_; go_size))))) (hU.mono (by simp)))
  have hzy : u01.heap.size ≤ u02.heap.size := by have := hU.size; (try simp at this); omega
  clear hU
  go_wp2_with fail
  refine (begin_ok w1.heap.size 1 2 0 0 false _ hS.nd (by unfold okRun; omega)).mono ?_
  rintro e u03 ⟨x0, rfl, hr, hR, hU⟩
  replace hK := Blk.keep hK (Ch.of_below hU (fun _ => False)) (fun e => e)
  replace hS := (hS.more hU hR hr (pcOk_new false 0 0) ⟨by decide, by decide⟩ ⟨by decide, by decide⟩).drop
  have hzx : u02.heap.size ≤ u03.heap.size := hU.size
  clear hU hr
  rw [progI_A]
  have z1 := nil_Step_Acquire x0
  have z2 := method_Step_Acquire x0
  have z3 := nil_Done_Acquire x0
  have z4 := method_Done_Acquire x0
  have k0 : u03.cell? ⟨w2.heap.size, 1, none⟩ = some (.bool true) := hK.cell 1
  go_wp2_with (first | (go_at_call 72; refine (astep_nil x0 w1.heap.size _ _ hR).mono ?_; rintro e w' ⟨rfl, rfl⟩) | (go_at_call 70; refine (adone x0 w1.heap.size _ _ hR).mono ?_; rintro e w' ⟨rfl, rfl⟩))
  clear z1 z2 z3 z4 hR
  change Code.wp _ _ _ _ _
  go_wp2_with fail
  refine (begin_z none lock node true _ (.inl rfl)).mono ?_
  rintro e u11 ⟨rfl, hU⟩
  replace hK := Blk.keep hK (Ch.of_below (show Below u03.heap.size u03 u11 from Below.trans (by (repeat' (first | (with_reducible exact Below.refl _ _) | (with_reducible assumption) | (with_reducible refine Below.alloc ?_ ?_ _) | (with_reducible refine Below.drew ?_) | (with_reducible refine below_drewN ?_ _) | (with_reducible refine Below.setCell ?_ ?_ _) | (with_reducible refine Below.trans ?_ (Below.mono (by assumption) ?_)) | (first | go_size | (with_reducible exact Below.size (by assumption)) | (with_reducible exact Nat.le_trans (Below.size (by assumption)) (Below.size (by assumption))) | (refine Nat.le_trans (Below.size (by assumption)) ?_; go_size))))) (hU.mono (by simp))) (fun _ => False)) (fun e => e)
  have hzz : u03.heap.size ≤ u11.heap.size := by have := hU.size; (try simp at this); omega
  replace hS := hS.step (show Below u03.heap.size u03 u11 from Below.trans (by (repeat' (first | (with_reducible exact Below.refl _ _) | (with_reducible assumption) | (with_reducible refine Below.alloc ?_ ?_ _) | (with_reducible refine Below.drew ?_) | (with_reducible refine below_drewN ?_ _) | (with_reducible refine Below.setCell ?_ ?_ _) | (with_reducible refine Below.trans ?_ (Below.mono (by assumption) ?_)) | (first | go_size | (with_reducible exact Below.size (by assumption)) | (with_reducible exact Nat.le_trans (Below.size (by assumption)) (Below.size (by assumption))) | (refine Nat.le_trans (Below.size (by assumption)) ?_; go_size))))) (hU.mono (by simp)))
  clear hU
  go_wp2_with fail
  refine (begin_z (some ⟨u11.heap.size, 0, none⟩) lock node true _ (.inr ⟨_, rfl, Blk.new u11 _ [.int .i64 0, .int .i64 0]⟩)).mono ?_
  rintro e u12 ⟨rfl, hU⟩
  replace hK := Blk.keep hK (Ch.of_below (show Below u11.heap.size u11 u12 from Below.trans (by (repeat' (first | (with_reducible exact Below.refl _ _) | (with_reducible assumption) | (with_reducible refine Below.alloc ?_ ?_ _) | (with_reducible refine Below.drew ?_) | (with_reducible refine below_drewN ?_ _) | (with_reducible refine Below.setCell ?_ ?_ _) | (with_reducible refine Below.trans ?_ (Below.mono (by assumption) ?_)) | (first | go_size | (with_reducible exact Below.size (by assumption)) | (with_reducible exact Nat.le_trans (Below.size (by assumption)) (Below.size (by assumption))) | (refine Nat.le_trans (Below.size (by assumption)) ?_; go_size))))) (hU.mono (by simp))) (fun _ => False)) (fun e => e)
  replace hS := hS.step (show Below u11.heap.size u11 u12 from Below.trans (by (repeat' (first | (with_reducible exact Below.refl _ _) | (with_reducible assumption) | (with_reducible refine Below.alloc ?_ ?_ _) | (with_reducible refine Below.drew ?_) | (with_reducible refine below_drewN ?_ _) | (with_reducible refine Below.setCell ?_ ?_ _) | (with_reducible refine Below.trans ?_ (Below.mono (by assumption) ?_)) | (first | go_size | (with_reducible exact Below.size (by assumption)) | (with_reducible exact Nat.le_trans (Below.size (by assumption)) (Below.size (by assumption))) | (refine Nat.le_trans (Below.size (by assumption)) ?_; go_size))))) (hU.mono (by simp)))
  have hzy : u11.heap.size ≤ u12.heap.size := by have := hU.size; (try simp at this); omega
  clear hU
  go_wp2_with fail
  refine (begin_ok w1.heap.size 1 2 0 0 true _ hS.nd (by unfold okRun; omega)).mono ?_
  rintro e u13 ⟨x1, rfl, hr, hR, hU⟩
  replace hK := Blk.keep hK (Ch.of_below hU (fun _ => False)) (fun e => e)
  replace hS := (hS.more hU hR hr (pcOk_new true 0 0) ⟨by decide, by decide⟩ ⟨by decide, by decide⟩).drop
  have hzx : u12.heap.size ≤ u13.heap.size := hU.size
  clear hU hr
  rw [progI_R]
  have z1 := nil_Step_Release x1
  have z2 := method_Step_Release x1
  have z3 := nil_Done_Release x1
  have z4 := method_Done_Release x1
  have k1 : u13.cell? ⟨w2.heap.size, 1, none⟩ = some (.bool true) := hK.cell 1
  go_wp2_with (first | (go_at_call 85; refine (rstep_nil x1 w1.heap.size _ _ hR).mono ?_; rintro e w' ⟨rfl, rfl⟩) | (go_at_call 83; refine (rdone x1 w1.heap.size _ _ hR).mono ?_; rintro e w' ⟨rfl, rfl⟩))
  clear z1 z2 z3 z4 hR
  change Code.wp _ _ _ _ _
  have hX : ∀ X, X = (((u13.alloc (.cells #[.pointer none, .int .i64 0, .int .i64 0, .int .i64 0, .int .u64 0, .bool false] 67)).alloc (.cells #[.pointer none, .int .i64 0, .int .i64 0, .int .i64 0, .int .u64 0, .bool false] 68)).alloc (.cells #[.iface 59 (.pointer none), .iface 59 (.pointer (some ⟨u13.heap.size, 0, none⟩)), .iface 63 (.pointer none), .iface 63 (.pointer (some ⟨u13.heap.size + 1, 0, none⟩))] 33)) → Zp 67 X (some ⟨u13.heap.size, 0, none⟩) ∧ Zp 68 X (some ⟨u13.heap.size + 1, 0, none⟩) := fun X hX => by
    subst hX
    have h1 := Blk.new u13 67 [.pointer none, .int .i64 0, .int .i64 0, .int .i64 0, .int .u64 0, .bool false]
    have h2 := Blk.new (u13.alloc (.cells #[.pointer none, .int .i64 0, .int .i64 0, .int .i64 0, .int .u64 0, .bool false] 67)) 68 [.pointer none, .int .i64 0, .int .i64 0, .int .i64 0, .int .u64 0, .bool false]
    rw [World.size_alloc] at h2
    exact ⟨.inr ⟨_, rfl, Blk.keep h1 (Ch.of_below (by (repeat' (first | (with_reducible exact Below.refl _ _) | (with_reducible assumption) | (with_reducible refine Below.alloc ?_ ?_ _) | (with_reducible refine Below.drew ?_) | (with_reducible refine below_drewN ?_ _) | (with_reducible refine Below.setCell ?_ ?_ _) | (with_reducible refine Below.trans ?_ (Below.mono (by assumption) ?_)) | (first | go_size | (with_reducible exact Below.size (by assumption)) | (with_reducible exact Nat.le_trans (Below.size (by assumption)) (Below.size (by assumption))) | (refine Nat.le_trans (Below.size (by assumption)) ?_; go_size))))) (fun _ => False)) (fun e => e)⟩, .inr ⟨_, rfl, Blk.keep h2 (Ch.of_below (by (repeat' (first | (with_reducible exact Below.refl _ _) | (with_reducible assumption) | (with_reducible refine Below.alloc ?_ ?_ _) | (with_reducible refine Below.drew ?_) | (with_reducible refine below_drewN ?_ _) | (with_reducible refine Below.setCell ?_ ?_ _) | (with_reducible refine Below.trans ?_ (Below.mono (by assumption) ?_)) | (first | go_size | (with_reducible exact Below.size (by assumption)) | (with_reducible exact Nat.le_trans (Below.size (by assumption)) (Below.size (by assumption))) | (refine Nat.le_trans (Below.size (by assumption)) ?_; go_size))))) (fun _ => False)) (fun e => e)⟩⟩
  obtain ⟨hZA, hZR⟩ := hX _ rfl
  clear hX hK
  have hend := hS.below
  clear hS
  go_wp2_with fail
  refine wp_loop_rounds 5 ?_
  change Code.wp _ _ _ _ _
  have nStep := nilz_Step_Acquire none
  have mStep := methodz_Step_Acquire none
  have nDone := nilz_Done_Acquire none
  have mDone := methodz_Done_Acquire none
  have nResult := nilz_Result_Acquire none
  have mResult := methodz_Result_Acquire none
  have nCopy := nilz_Copy_Acquire none
  have mCopy := methodz_Copy_Acquire none
  go_wp2_with (first | (go_at_call 72; refine (aStep_z none _ _ (.inl rfl)).mono ?_; rintro e w' ⟨rfl, rfl⟩) | (go_at_call 70; refine (aDone_z none _ (.inl rfl)).mono ?_; rintro e w' ⟨rfl, rfl⟩) | (go_at_call 71; refine (aResult_z none _ (.inl rfl)).mono ?_; rintro e w' ⟨rfl, rfl⟩) | (go_at_call 69; refine (aCopy_z none _ (.inl rfl)).mono ?_; rintro e w' ⟨rfl, rfl⟩))
  clear nStep mStep nDone mDone nResult mResult nCopy mCopy
  change Code.wp _ _ _ _ _
  have nStep := nilz_Step_Acquire (some ⟨u13.heap.size, 0, none⟩)
  have mStep := methodz_Step_Acquire (some ⟨u13.heap.size, 0, none⟩)
  have nDone := nilz_Done_Acquire (some ⟨u13.heap.size, 0, none⟩)
  have mDone := methodz_Done_Acquire (some ⟨u13.heap.size, 0, none⟩)
  have nResult := nilz_Result_Acquire (some ⟨u13.heap.size, 0, none⟩)
  have mResult := methodz_Result_Acquire (some ⟨u13.heap.size, 0, none⟩)
  have nCopy := nilz_Copy_Acquire (some ⟨u13.heap.size, 0, none⟩)
  have mCopy := methodz_Copy_Acquire (some ⟨u13.heap.size, 0, none⟩)
  go_wp2_with (first | (go_at_call 72; refine (aStep_z (some ⟨u13.heap.size, 0, none⟩) _ _ hZA).mono ?_; rintro e w' ⟨rfl, rfl⟩) | (go_at_call 70; refine (aDone_z (some ⟨u13.heap.size, 0, none⟩) _ hZA).mono ?_; rintro e w' ⟨rfl, rfl⟩) | (go_at_call 71; refine (aResult_z (some ⟨u13.heap.size, 0, none⟩) _ hZA).mono ?_; rintro e w' ⟨rfl, rfl⟩) | (go_at_call 69; refine (aCopy_z (some ⟨u13.heap.size, 0, none⟩) _ hZA).mono ?_; rintro e w' ⟨rfl, rfl⟩))
  clear nStep mStep nDone mDone nResult mResult nCopy mCopy
  change Code.wp _ _ _ _ _
  have nStep := nilz_Step_Release none
  have mStep := methodz_Step_Release none
  have nDone := nilz_Done_Release none
  have mDone := methodz_Done_Release none
  have nResult := nilz_Result_Release none
  have mResult := methodz_Result_Release none
  have nCopy := nilz_Copy_Release none
  have mCopy := methodz_Copy_Release none
  go_wp2_with (first | (go_at_call 85; refine (rStep_z none _ _ (.inl rfl)).mono ?_; rintro e w' ⟨rfl, rfl⟩) | (go_at_call 83; refine (rDone_z none _ (.inl rfl)).mono ?_; rintro e w' ⟨rfl, rfl⟩) | (go_at_call 84; refine (rResult_z none _ (.inl rfl)).mono ?_; rintro e w' ⟨rfl, rfl⟩) | (go_at_call 82; refine (rCopy_z none _ (.inl rfl)).mono ?_; rintro e w' ⟨rfl, rfl⟩))
  clear nStep mStep nDone mDone nResult mResult nCopy mCopy
  change Code.wp _ _ _ _ _
  have nStep := nilz_Step_Release (some ⟨u13.heap.size + 1, 0, none⟩)
  have mStep := methodz_Step_Release (some ⟨u13.heap.size + 1, 0, none⟩)
  have nDone := nilz_Done_Release (some ⟨u13.heap.size + 1, 0, none⟩)
  have mDone := methodz_Done_Release (some ⟨u13.heap.size + 1, 0, none⟩)
  have nResult := nilz_Result_Release (some ⟨u13.heap.size + 1, 0, none⟩)
  have mResult := methodz_Result_Release (some ⟨u13.heap.size + 1, 0, none⟩)
  have nCopy := nilz_Copy_Release (some ⟨u13.heap.size + 1, 0, none⟩)
  have mCopy := methodz_Copy_Release (some ⟨u13.heap.size + 1, 0, none⟩)
  go_wp2_with (first | (go_at_call 85; refine (rStep_z (some ⟨u13.heap.size + 1, 0, none⟩) _ _ hZR).mono ?_; rintro e w' ⟨rfl, rfl⟩) | (go_at_call 83; refine (rDone_z (some ⟨u13.heap.size + 1, 0, none⟩) _ hZR).mono ?_; rintro e w' ⟨rfl, rfl⟩) | (go_at_call 84; refine (rResult_z (some ⟨u13.heap.size + 1, 0, none⟩) _ hZR).mono ?_; rintro e w' ⟨rfl, rfl⟩) | (go_at_call 82; refine (rCopy_z (some ⟨u13.heap.size + 1, 0, none⟩) _ hZR).mono ?_; rintro e w' ⟨rfl, rfl⟩))
  clear nStep mStep nDone mDone nResult mResult nCopy mCopy
  change Code.wp _ _ _ _ _
  go_wp2_with (go_at_call 8; refine (known_ok _).mono ?_; rintro e w' ⟨rfl, hkb⟩)
  go_ret
  exact ⟨rfl, by (repeat' (first | (with_reducible exact Below.refl _ _) | (with_reducible assumption) | (with_reducible refine Below.alloc ?_ ?_ _) | (with_reducible refine Below.drew ?_) | (with_reducible refine below_drewN ?_ _) | (with_reducible refine Below.setCell ?_ ?_ _) | (with_reducible refine Below.trans ?_ (Below.mono (by assumption) ?_)) | (first | go_size | (with_reducible exact Below.size (by assumption)) | (with_reducible exact Nat.le_trans (Below.size (by assumption)) (Below.size (by assumption))) | (refine Nat.le_trans (Below.size (by assumption)) ?_; go_size))))⟩
end McsNil
end Go.Proofs.Ytmlhdcpahfgckaa
