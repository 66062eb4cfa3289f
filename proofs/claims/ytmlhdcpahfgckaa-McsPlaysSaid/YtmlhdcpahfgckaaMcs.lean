/-
  Contracts of package mcs: what both programs have in common. A program lies at block r (six cells); its nodes at block nb (base B, t threads).
-/
import Derived.Test.YtmlhdcpahfgckaaMem5
import Derived.Test.YtmlhdcpahfgckaaQnode
namespace Go.Proofs.Ytmlhdcpahfgckaa
open Go.RowKit

abbrev memI (b : Nat) : Value := .iface 30 (.pointer (some ⟨b, 0, none⟩))
theorem nil_Load (b : Nat) (w : World) : (nilAhead 242 30 (.pointer (some ⟨b, 0, none⟩)) "Load").run Try.prog w = .ok (some false) w := by kernel_rfl
theorem method_Load (b : Nat) (w : World) : (method 242 30 (.pointer (some ⟨b, 0, none⟩)) "Load").run Try.prog w = .ok (20, .pointer (some ⟨b, 0, none⟩)) w := by kernel_rfl
theorem nil_Store (b : Nat) (w : World) : (nilAhead 242 30 (.pointer (some ⟨b, 0, none⟩)) "Store").run Try.prog w = .ok (some false) w := by kernel_rfl
theorem method_Store (b : Nat) (w : World) : (method 242 30 (.pointer (some ⟨b, 0, none⟩)) "Store").run Try.prog w = .ok (24, .pointer (some ⟨b, 0, none⟩)) w := by kernel_rfl
theorem nil_Swap (b : Nat) (w : World) : (nilAhead 242 30 (.pointer (some ⟨b, 0, none⟩)) "Swap").run Try.prog w = .ok (some false) w := by kernel_rfl
theorem method_Swap (b : Nat) (w : World) : (method 242 30 (.pointer (some ⟨b, 0, none⟩)) "Swap").run Try.prog w = .ok (89, .pointer (some ⟨b, 0, none⟩)) w := by kernel_rfl
theorem nil_CAS (b : Nat) (w : World) : (nilAhead 242 30 (.pointer (some ⟨b, 0, none⟩)) "CAS").run Try.prog w = .ok (some false) w := by kernel_rfl
theorem method_CAS (b : Nat) (w : World) : (method 242 30 (.pointer (some ⟨b, 0, none⟩)) "CAS").run Try.prog w = .ok (88, .pointer (some ⟨b, 0, none⟩)) w := by kernel_rfl
/-- what a program holds -/
structure Rn where
  lock : Int
  node : Int
  pc : Int
  other : Int
  ended : Bool
def runV (nb : Nat) (x : Rn) : List Value := [.pointer (some ⟨nb, 0, none⟩), .int .i64 x.lock, .int .i64 x.node, .int .i64 x.pc, .int .u64 x.other, .bool x.ended]
/-- where the nodes are -/
structure NdAt (w : World) (nb : Nat) (B t : Int) : Prop where
  c : Blk w nb 62 [.int .i64 B, .int .i64 t]
  B0 : 0 ≤ B
  t1 : 1 ≤ t
  t64 : t ≤ 64
  top : B ≤ 65536 - t * 2 * 3
section
variable {w w' : World} {nb : Nat} {B t : Int}
theorem NdAt.keep {F : Nat → Prop} (h : NdAt w nb B t) (hc : Ch F w w') (hf : ¬ F nb) : NdAt w' nb B t := ⟨h.c.keep hc hf, h.B0, h.t1, h.t64, h.top⟩
theorem NdAt.below (h : NdAt w nb B t) (hb : Below w.heap.size w w') : NdAt w' nb B t := h.keep (Ch.of_below hb (fun _ => False)) (fun e => e)
theorem NdAt.c0 (h : NdAt w nb B t) : w.cell? ⟨nb, 0, none⟩ = some (.int .i64 B) := h.c.cell 0
theorem NdAt.c1 (h : NdAt w nb B t) : w.cell? ⟨nb, 1, none⟩ = some (.int .i64 t) := h.c.cell 1
end
/-- the six cells of a program, in a block of any struct that holds just these -/
def RnAt (w : World) (r nb : Nat) (T : TypeId) (x : Rn) : Prop := Blk w r T (runV nb x)

section
variable (r nb : Nat) (T : TypeId) (B t : Int) (x : Rn) (w : World) (hr : RnAt w r nb T x)
include hr
theorem ready_any (v : Value) (hm : ∃ b, v = memI b) :
    Calls Try.prog 75 #[.pointer (some ⟨r, 0, none⟩), v] w fun e w' => e = .returned (.int .i64 (if x.ended then 17 else 0)) ∧ w = w' := by
  have c0 : w.cell? ⟨r, 0, none⟩ = some (.pointer (some ⟨nb, 0, none⟩)) := hr.cell 0
  have c5 : w.cell? ⟨r, 5, none⟩ = some (.bool x.ended) := hr.cell 5
  obtain ⟨b, rfl⟩ := hm
  cases he : x.ended
  all_goals
    rw [he] at c5
    go_enter Try.func75, Try.ntmps75
    go_wp2
    go_ret
    exact ⟨rfl, rfl⟩
theorem over_any : Calls Try.prog 73 #[.pointer (some ⟨r, 0, none⟩)] w fun e w' => e = .returned (.bool x.ended) ∧ w = w' := by
  have c0 : w.cell? ⟨r, 0, none⟩ = some (.pointer (some ⟨nb, 0, none⟩)) := hr.cell 0
  have c5 : w.cell? ⟨r, 5, none⟩ = some (.bool x.ended) := hr.cell 5
  cases he : x.ended
  all_goals
    rw [he] at c5
    go_enter Try.func73, Try.ntmps73
    go_wp2
    go_ret
    exact ⟨rfl, rfl⟩
theorem result_any : Calls Try.prog 74 #[.pointer (some ⟨r, 0, none⟩)] w fun e w' => e = .returned (.int .u64 (if x.ended then 1 else 0)) ∧ w = w' := by
  have c5 : w.cell? ⟨r, 5, none⟩ = some (.bool x.ended) := hr.cell 5
  cases he : x.ended
  all_goals
    rw [he] at c5
    go_enter Try.func74, Try.ntmps74
    go_wp2
    go_ret
    exact ⟨rfl, rfl⟩
theorem mref_any (hn : NdAt w nb B t) (h0 : 0 ≤ x.node) (h1 : x.node < t * 2) :
    Calls Try.prog 77 #[.pointer (some ⟨r, 0, none⟩)] w fun e w' => e = .returned (.int .u64 (x.node + 1)) ∧ ∃ q, w' = w.drewN q := by
  have c0 : w.cell? ⟨r, 0, none⟩ = some (.pointer (some ⟨nb, 0, none⟩)) := hr.cell 0
  have c2 : w.cell? ⟨r, 2, none⟩ = some (.int .i64 x.node) := hr.cell 2
  have n1 := hn.c1
  have t1 := hn.t1
  have t2 := hn.t64
  go_enter Try.func77, Try.ntmps77
  go_wp2_with (go_quiet ((go_at_call 80; exact quiet_left (ref_ok nb t _ x.node (by rw [World.cell?_drewN]; exact n1) t1 t2 h0 h1))))
  go_ret
  exact ⟨rfl, _, rfl⟩
theorem goes_any (e : Int) (pc : Int) :
    Calls Try.prog 76 #[.pointer (some ⟨r, 0, none⟩), .int .i64 e, .int .i64 pc] w fun en w' => en = .returned (.tuple #[.bool false, .int .i64 e]) ∧ RnAt w' r nb T (if e = 0 then { x with pc := pc } else x) ∧ Ch (fun j => j = r) w w' := by
  have c3 : w.cell? ⟨r, 3, none⟩ = some (.int .i64 x.pc) := hr.cell 3
  have hz := hr.frozen 3
  by_cases he : e = 0
  · subst he
    have hs := hr.set 3 (.int .i64 pc)
    have hC := (Ch.refl (fun j => j = r) w).setCell (p := ⟨r, 3, none⟩) (.inl rfl) (.int .i64 pc)
    go_enter Try.func76, Try.ntmps76
    go_wp2
    go_ret2
    exact ⟨rfl, hs, hC⟩
  · have e1 : (e == 0) = false := by simpa using he
    have HE := Lib.hid he
    clear he
    go_enter Try.func76, Try.ntmps76
    go_wp2
    go_ret2
    exact ⟨rfl, by first | exact hr | (rw [if_neg HE.out]; exact hr), Ch.refl _ _⟩
theorem ends_any (e : Int) :
    Calls Try.prog 78 #[.pointer (some ⟨r, 0, none⟩), .int .i64 e] w fun en w' => en = .returned (.tuple #[.bool false, .int .i64 e]) ∧ RnAt w' r nb T { x with ended := e == 0 } ∧ Ch (fun j => j = r) w w' := by
  have c5 : w.cell? ⟨r, 5, none⟩ = some (.bool x.ended) := hr.cell 5
  have hz := hr.frozen 5
  have hs := hr.set 5 (.bool (e == 0))
  have hC := (Ch.refl (fun j => j = r) w).setCell (p := ⟨r, 5, none⟩) (.inl rfl) (.bool (e == 0))
  go_enter Try.func78, Try.ntmps78
  go_wp2
  go_ret2
  exact ⟨rfl, hs, hC⟩
theorem target_any (hn : NdAt w nb B t) (h0 : 0 ≤ x.other) (h1 : x.other ≤ 18446744073709551615) :
    Calls Try.prog 79 #[.pointer (some ⟨r, 0, none⟩)] w fun e w' => e = .returned (if 1 ≤ x.other ∧ x.other ≤ t * 2 then .tuple #[.int .i64 (x.other - 1), .int .i64 0] else .tuple #[.int .i64 0, .int .i64 12]) ∧ ∃ q, w' = w.drewN q := by
  have c0 : w.cell? ⟨r, 0, none⟩ = some (.pointer (some ⟨nb, 0, none⟩)) := hr.cell 0
  have c4 : w.cell? ⟨r, 4, none⟩ = some (.int .u64 x.other) := hr.cell 4
  have n1 := hn.c1
  have t1 := hn.t1
  have t2 := hn.t64
  generalize x.other = y at *
  by_cases hy : y ≤ t * 2
  · by_cases hy1 : 1 ≤ y
    · rw [if_pos ⟨hy1, hy⟩]
      go_enter Try.func79, Try.ntmps79
      go_wp2_with (go_quiet ((go_at_call 81; exact quiet_left (node_ok nb t _ y (by rw [World.cell?_drewN]; exact n1) t1 t2 h0 hy))))
      go_ret2
      exact ⟨rfl, _, rfl⟩
    · rw [if_neg (by omega)]
      obtain rfl : y = 0 := by omega
      go_enter Try.func79, Try.ntmps79
      go_wp2_with (go_quiet ((go_at_call 81; exact quiet_left (node_ok nb t _ 0 (by rw [World.cell?_drewN]; exact n1) t1 t2 h0 hy))))
      go_ret2
      exact ⟨rfl, _, rfl⟩
  · rw [if_neg (by omega)]
    go_enter Try.func79, Try.ntmps79
    go_wp2_with (go_quiet ((go_at_call 81; exact quiet_left (node_bad nb t _ y (by rw [World.cell?_drewN]; exact n1) t1 t2 (by omega)))))
    go_ret2
    exact ⟨rfl, _, rfl⟩
end
end Go.Proofs.Ytmlhdcpahfgckaa
