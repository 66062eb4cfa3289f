/-
  Contracts of package mcs: further steps of the program that gets a lock.
-/
import Derived.Test.YtmlhdcpahfgckaaMcs2
namespace Go.Proofs.Ytmlhdcpahfgckaa
open Go.RowKit

theorem doB_bd {w : World} {b g c : Nat} {ws : List Int} (h : MemAt w b g c ws) (k i : Int) : 0 ≤ doB ws k i ∧ doB ws k i ≤ 18446744073709551615 := by
  unfold doB
  split
  · rename_i he
    have hi : i.toNat < ws.length := by
      unfold doE at he
      split at he
      · omega
      · split at he <;> omega
    exact h.wfAt hi
  · omega
set_option maxRecDepth 100000 in
set_option maxHeartbeats 1000000 in
theorem acq_3b (r nb b g c : Nat) (B t : Int) (x : Rn) (ws : List Int) (w : World) (h : Sit w r nb b g c 67 B t x ws) (he : x.ended = false) (hp : x.pc = 3) (hz : doB ws 4 x.lock ≠ 0) :
    Calls Try.prog 72 #[.pointer (some ⟨r, 0, none⟩), memI b] w
      (SPost w r nb b g c 67 B t { x with other := doB ws 4 x.lock, pc := 4 } (doWs ws 4 x.lock 0 (x.node + 1)) (.tuple #[.bool false, .int .i64 0])) := by
  have c0 : w.cell? ⟨r, 0, none⟩ = some (.pointer (some ⟨nb, 0, none⟩)) := h.run.cell 0
  have c1 : w.cell? ⟨r, 1, none⟩ = some (.int .i64 x.lock) := h.run.cell 1
  have c2 : w.cell? ⟨r, 2, none⟩ = some (.int .i64 x.node) := h.run.cell 2
  have c3 : w.cell? ⟨r, 3, none⟩ = some (.int .i64 3) := by rw [← hp]; exact h.run.cell 3
  have hrd := ready_any r nb _ x w h.run (memI b) ⟨b, rfl⟩
  rw [he] at hrd
  have z1 := nil_Swap b
  have z2 := method_Swap b
  have hE0 : doE ws 4 x.lock = 0 := by
    apply Classical.byContradiction
    intro h0
    exact hz (by unfold doB; rw [if_neg h0])
  have HBD := Lib.hid (show 0 ≤ doB ws 4 x.lock ∧ doB ws 4 x.lock ≤ 18446744073709551615 from doB_bd h.mem 4 x.lock)
  have e1 : (doB ws 4 x.lock == 0) = false := by simpa using hz
  clear hz
  go_enter Try.func72, Try.ntmps72
  go_wp2_with (first | (go_at_call 75; refine hrd.mono ?_; rintro e w' ⟨rfl, rfl⟩))
  go_region_held3 (fun w' => w'.cell? ⟨r, 0, none⟩ = some (.pointer (some ⟨nb, 0, none⟩)) ∧ w'.cell? ⟨r, 1, none⟩ = some (.int .i64 x.lock) ∧ w'.cell? ⟨r, 2, none⟩ = some (.int .i64 x.node)) ((refine ⟨?_, ?_, ?_⟩ <;> first | assumption | go_cell)) (first | (go_at_call 89; ((with_reducible refine (mswap_any b g c ws (x.lock) ((x.node + 1)) _ ?_ ?_).mono ?_); (focus (exact h.mem.below (by (repeat' (first | (with_reducible exact Below.refl _ _) | (with_reducible assumption) | (with_reducible refine Below.alloc ?_ ?_ _) | (with_reducible refine Below.drew ?_) | (with_reducible refine below_drewN ?_ _) | (with_reducible refine Below.setCell ?_ ?_ _) | (with_reducible refine Below.trans ?_ (Below.mono (by assumption) ?_)) | (first | go_size | (with_reducible exact Below.size (by assumption)) | (with_reducible exact Nat.le_trans (Below.size (by assumption)) (Below.size (by assumption))) | (refine Nat.le_trans (Below.size (by assumption)) ?_; go_size))))))); (focus (have q1 := h.n0; have q2 := h.n1; have q3 := h.nd.t64; omega)); rintro e w1 ⟨rfl, hm, hc⟩; have hS1 := (h.below (by (repeat' (first | (with_reducible exact Below.refl _ _) | (with_reducible assumption) | (with_reducible refine Below.alloc ?_ ?_ _) | (with_reducible refine Below.drew ?_) | (with_reducible refine below_drewN ?_ _) | (with_reducible refine Below.setCell ?_ ?_ _) | (with_reducible refine Below.trans ?_ (Below.mono (by assumption) ?_)) | (first | go_size | (with_reducible exact Below.size (by assumption)) | (with_reducible exact Nat.le_trans (Below.size (by assumption)) (Below.size (by assumption))) | (refine Nat.le_trans (Below.size (by assumption)) ?_; go_size)))))).words hm hc; have hC1 : Ch (fun j => j = r ∨ j = g) w w1 := (Ch.of_below (show Below w.heap.size w _ by (repeat' (first | (with_reducible exact Below.refl _ _) | (with_reducible assumption) | (with_reducible refine Below.alloc ?_ ?_ _) | (with_reducible refine Below.drew ?_) | (with_reducible refine below_drewN ?_ _) | (with_reducible refine Below.setCell ?_ ?_ _) | (with_reducible refine Below.trans ?_ (Below.mono (by assumption) ?_)) | (first | go_size | (with_reducible exact Below.size (by assumption)) | (with_reducible exact Nat.le_trans (Below.size (by assumption)) (Below.size (by assumption))) | (refine Nat.le_trans (Below.size (by assumption)) ?_; go_size))))) _).trans (hc.mono (fun _ _ e => .inr e)) (fun _ _ e => e); have k0 : w1.cell? ⟨r, 0, none⟩ = some (.pointer (some ⟨nb, 0, none⟩)) := hS1.run.cell 0; have k1 : w1.cell? ⟨r, 1, none⟩ = some (.int .i64 x.lock) := hS1.run.cell 1; have k2 : w1.cell? ⟨r, 2, none⟩ = some (.int .i64 x.node) := hS1.run.cell 2; have k3 : w1.cell? ⟨r, 3, none⟩ = some (.int .i64 x.pc) := hS1.run.cell 3; have k4 : w1.cell? ⟨r, 4, none⟩ = some (.int .u64 x.other) := hS1.run.cell 4; have kf := hS1.run.frozen)) | (go_at_call 77; ((with_reducible refine (mref_any r nb 67 B t x _ ?_ ?_ h.n0 h.n1).mono ?_); (focus (exact (h.below (by (repeat' (first | (with_reducible exact Below.refl _ _) | (with_reducible assumption) | (with_reducible refine Below.alloc ?_ ?_ _) | (with_reducible refine Below.drew ?_) | (with_reducible refine below_drewN ?_ _) | (with_reducible refine Below.setCell ?_ ?_ _) | (with_reducible refine Below.trans ?_ (Below.mono (by assumption) ?_)) | (first | go_size | (with_reducible exact Below.size (by assumption)) | (with_reducible exact Nat.le_trans (Below.size (by assumption)) (Below.size (by assumption))) | (refine Nat.le_trans (Below.size (by assumption)) ?_; go_size)))))).run)); (focus (exact h.nd.below (by (repeat' (first | (with_reducible exact Below.refl _ _) | (with_reducible assumption) | (with_reducible refine Below.alloc ?_ ?_ _) | (with_reducible refine Below.drew ?_) | (with_reducible refine below_drewN ?_ _) | (with_reducible refine Below.setCell ?_ ?_ _) | (with_reducible refine Below.trans ?_ (Below.mono (by assumption) ?_)) | (first | go_size | (with_reducible exact Below.size (by assumption)) | (with_reducible exact Nat.le_trans (Below.size (by assumption)) (Below.size (by assumption))) | (refine Nat.le_trans (Below.size (by assumption)) ?_; go_size))))))); rintro e w' ⟨rfl, q, rfl⟩)))
  all_goals
    have hr2 : RnAt (w1.setCell ⟨r, 4, none⟩ (.int .u64 (doB ws 4 x.lock))) r nb 67 { x with other := doB ws 4 x.lock } := hS1.run.set 4 _
    have hc2 : Ch (fun j => j = r) w1 (w1.setCell ⟨r, 4, none⟩ (.int .u64 (doB ws 4 x.lock))) := (Ch.refl (fun j => j = r) w1).setCell (p := ⟨r, 4, none⟩) (.inl rfl) _
    have hS2 := hS1.turn hr2 hc2 rfl HBD.out.1 HBD.out.2
    have hC2 : Ch (fun j => j = r ∨ j = g) w _ := hC1.trans (hc2.mono (fun _ _ e => .inl e)) (fun _ _ e => e)
    clear hr2 hc2
    go_wp2_with fail
    refine (goes_any r nb _ _ _ hS2.run 0 4).mono ?_
    rintro e w2 ⟨rfl, hr3, hc3⟩
    rw [if_pos rfl] at hr3
    have hS3 := hS2.turn hr3 hc3 rfl hS2.o0 hS2.o1
    have hC3 : Ch (fun j => j = r ∨ j = g) w w2 := hC2.trans (hc3.mono (fun _ _ e => .inl e)) (fun _ _ e => e)
    go_wp2
    go_ret2
    exact ⟨rfl, hS3, hC3⟩
set_option maxRecDepth 100000 in
set_option maxHeartbeats 1000000 in
theorem acq_4a (r nb b g c : Nat) (B t : Int) (x : Rn) (ws : List Int) (w : World) (h : Sit w r nb b g c 67 B t x ws) (he : x.ended = false) (hp : x.pc = 4) (hb : ¬ (1 ≤ x.other ∧ x.other ≤ t * 2)) :
    Calls Try.prog 72 #[.pointer (some ⟨r, 0, none⟩), memI b] w
      (SPost w r nb b g c 67 B t x ws (.tuple #[.bool false, .int .i64 12])) := by
  have c0 : w.cell? ⟨r, 0, none⟩ = some (.pointer (some ⟨nb, 0, none⟩)) := h.run.cell 0
  have c2 : w.cell? ⟨r, 2, none⟩ = some (.int .i64 x.node) := h.run.cell 2
  have c4 : w.cell? ⟨r, 4, none⟩ = some (.int .u64 x.other) := h.run.cell 4
  have c3 : w.cell? ⟨r, 3, none⟩ = some (.int .i64 4) := by rw [← hp]; exact h.run.cell 3
  have hrd := ready_any r nb _ x w h.run (memI b) ⟨b, rfl⟩
  rw [he] at hrd
  have htg := target_any r nb _ B t x w h.run h.nd h.o0 h.o1
  rw [if_neg hb] at htg
  clear hb
  go_enter Try.func72, Try.ntmps72
  go_wp2_with (first | (go_at_call 75; refine hrd.mono ?_; rintro e w' ⟨rfl, rfl⟩) | (go_at_call 79; refine htg.mono ?_; rintro e w' ⟨rfl, q, rfl⟩))
  go_ret2
  exact ⟨rfl, h.below (by (repeat' (first | (with_reducible exact Below.refl _ _) | (with_reducible assumption) | (with_reducible refine Below.alloc ?_ ?_ _) | (with_reducible refine Below.drew ?_) | (with_reducible refine below_drewN ?_ _) | (with_reducible refine Below.setCell ?_ ?_ _) | (with_reducible refine Below.trans ?_ (Below.mono (by assumption) ?_)) | (first | go_size | (with_reducible exact Below.size (by assumption)) | (with_reducible exact Nat.le_trans (Below.size (by assumption)) (Below.size (by assumption))) | (refine Nat.le_trans (Below.size (by assumption)) ?_; go_size))))), Ch.of_below (by (repeat' (first | (with_reducible exact Below.refl _ _) | (with_reducible assumption) | (with_reducible refine Below.alloc ?_ ?_ _) | (with_reducible refine Below.drew ?_) | (with_reducible refine below_drewN ?_ _) | (with_reducible refine Below.setCell ?_ ?_ _) | (with_reducible refine Below.trans ?_ (Below.mono (by assumption) ?_)) | (first | go_size | (with_reducible exact Below.size (by assumption)) | (with_reducible exact Nat.le_trans (Below.size (by assumption)) (Below.size (by assumption))) | (refine Nat.le_trans (Below.size (by assumption)) ?_; go_size))))) _⟩
set_option maxRecDepth 100000 in
set_option maxHeartbeats 1000000 in
theorem acq_4b (r nb b g c : Nat) (B t : Int) (x : Rn) (ws : List Int) (w : World) (h : Sit w r nb b g c 67 B t x ws) (he : x.ended = false) (hp : x.pc = 4) (hb : 1 ≤ x.other ∧ x.other ≤ t * 2) :
    Calls Try.prog 72 #[.pointer (some ⟨r, 0, none⟩), memI b] w
      (SPost w r nb b g c 67 B t (adv (doE ws 2 (B + 3 * (x.other - 1))) x 5) (doWs ws 2 (B + 3 * (x.other - 1)) 0 (x.node + 1)) (.tuple #[.bool false, .int .i64 (doE ws 2 (B + 3 * (x.other - 1)))])) := by
  have c0 : w.cell? ⟨r, 0, none⟩ = some (.pointer (some ⟨nb, 0, none⟩)) := h.run.cell 0
  have c2 : w.cell? ⟨r, 2, none⟩ = some (.int .i64 x.node) := h.run.cell 2
  have c4 : w.cell? ⟨r, 4, none⟩ = some (.int .u64 x.other) := h.run.cell 4
  have c3 : w.cell? ⟨r, 3, none⟩ = some (.int .i64 4) := by rw [← hp]; exact h.run.cell 3
  have hrd := ready_any r nb _ x w h.run (memI b) ⟨b, rfl⟩
  rw [he] at hrd
  have z1 := nil_Store b
  have z2 := method_Store b
  have htg := target_any r nb _ B t x w h.run h.nd h.o0 h.o1
  rw [if_pos hb] at htg
  go_enter Try.func72, Try.ntmps72
  go_wp2_with (first | (go_at_call 75; refine hrd.mono ?_; rintro e w' ⟨rfl, rfl⟩) | (go_at_call 79; refine htg.mono ?_; rintro e w' ⟨rfl, q, rfl⟩))
  go_region_held3 (fun w' => w'.cell? ⟨r, 0, none⟩ = some (.pointer (some ⟨nb, 0, none⟩)) ∧ w'.cell? ⟨r, 2, none⟩ = some (.int .i64 x.node)) ((refine ⟨?_, ?_⟩ <;> first | assumption | go_cell)) (first | (go_at_call 10; ((with_reducible refine (next_ok nb B t _ ((x.other - 1)) ?_ ?_ ?_ ?_ ?_ ?_ ?_ ?_).mono ?_); (focus (exact (h.nd.below (by (repeat' (first | (with_reducible exact Below.refl _ _) | (with_reducible assumption) | (with_reducible refine Below.alloc ?_ ?_ _) | (with_reducible refine Below.drew ?_) | (with_reducible refine below_drewN ?_ _) | (with_reducible refine Below.setCell ?_ ?_ _) | (with_reducible refine Below.trans ?_ (Below.mono (by assumption) ?_)) | (first | go_size | (with_reducible exact Below.size (by assumption)) | (with_reducible exact Nat.le_trans (Below.size (by assumption)) (Below.size (by assumption))) | (refine Nat.le_trans (Below.size (by assumption)) ?_; go_size)))))).c0)); (focus (exact (h.nd.below (by (repeat' (first | (with_reducible exact Below.refl _ _) | (with_reducible assumption) | (with_reducible refine Below.alloc ?_ ?_ _) | (with_reducible refine Below.drew ?_) | (with_reducible refine below_drewN ?_ _) | (with_reducible refine Below.setCell ?_ ?_ _) | (with_reducible refine Below.trans ?_ (Below.mono (by assumption) ?_)) | (first | go_size | (with_reducible exact Below.size (by assumption)) | (with_reducible exact Nat.le_trans (Below.size (by assumption)) (Below.size (by assumption))) | (refine Nat.le_trans (Below.size (by assumption)) ?_; go_size)))))).c1)); (focus (exact h.nd.t1)); (focus (exact h.nd.t64)); (focus (exact h.nd.B0)); (focus (have q1 := h.nd.top; have q2 := h.nd.t1; omega)); (focus (first | exact h.n0 | omega)); (focus (first | exact h.n1 | omega)); rintro e w' ⟨rfl, rfl⟩)) | (go_at_call 77; ((with_reducible refine (mref_any r nb 67 B t x _ ?_ ?_ h.n0 h.n1).mono ?_); (focus (exact (h.below (by (repeat' (first | (with_reducible exact Below.refl _ _) | (with_reducible assumption) | (with_reducible refine Below.alloc ?_ ?_ _) | (with_reducible refine Below.drew ?_) | (with_reducible refine below_drewN ?_ _) | (with_reducible refine Below.setCell ?_ ?_ _) | (with_reducible refine Below.trans ?_ (Below.mono (by assumption) ?_)) | (first | go_size | (with_reducible exact Below.size (by assumption)) | (with_reducible exact Nat.le_trans (Below.size (by assumption)) (Below.size (by assumption))) | (refine Nat.le_trans (Below.size (by assumption)) ?_; go_size)))))).run)); (focus (exact h.nd.below (by (repeat' (first | (with_reducible exact Below.refl _ _) | (with_reducible assumption) | (with_reducible refine Below.alloc ?_ ?_ _) | (with_reducible refine Below.drew ?_) | (with_reducible refine below_drewN ?_ _) | (with_reducible refine Below.setCell ?_ ?_ _) | (with_reducible refine Below.trans ?_ (Below.mono (by assumption) ?_)) | (first | go_size | (with_reducible exact Below.size (by assumption)) | (with_reducible exact Nat.le_trans (Below.size (by assumption)) (Below.size (by assumption))) | (refine Nat.le_trans (Below.size (by assumption)) ?_; go_size))))))); rintro e w' ⟨rfl, q, rfl⟩)) | (go_at_call 76; ((with_reducible refine (goes_any r nb _ x w1 hS1.run _ (5)).mono ?_); rintro e w2 ⟨rfl, hr2, hc2⟩; have hS2 := hS1.turn (x' := adv _ x (5)) hr2 hc2 (adv_node _ _ _) (by rw [adv_other]; exact h.o0) (by rw [adv_other]; exact h.o1); have hC2 : Ch (fun j => j = r ∨ j = g) w w2 := hC1.trans (hc2.mono (fun _ _ e => .inl e)) (fun _ _ e => e); have m0 : w2.cell? ⟨r, 0, none⟩ = some (.pointer (some ⟨nb, 0, none⟩)) := hr2.cell 0; have m2 : w2.cell? ⟨r, 2, none⟩ = some (.int .i64 x.node) := (by have := hS2.run.cell 2; rw [show (runV nb (adv _ x (5)))[2]? = some (.int .i64 (adv _ x (5)).node) from rfl, adv_node] at this; exact this))) | (go_at_call 24; ((with_reducible refine (mstore_any b g c ws ((B + 3 * (x.other - 1))) ((x.node + 1)) _ ?_ ?_).mono ?_); (focus (exact h.mem.below (by (repeat' (first | (with_reducible exact Below.refl _ _) | (with_reducible assumption) | (with_reducible refine Below.alloc ?_ ?_ _) | (with_reducible refine Below.drew ?_) | (with_reducible refine below_drewN ?_ _) | (with_reducible refine Below.setCell ?_ ?_ _) | (with_reducible refine Below.trans ?_ (Below.mono (by assumption) ?_)) | (first | go_size | (with_reducible exact Below.size (by assumption)) | (with_reducible exact Nat.le_trans (Below.size (by assumption)) (Below.size (by assumption))) | (refine Nat.le_trans (Below.size (by assumption)) ?_; go_size))))))); (focus (first | omega | (have q1 := h.n0; have q2 := h.n1; have q3 := h.nd.t64; omega))); rintro e w1 ⟨rfl, hm, hc⟩; have hS1 := (h.below (by (repeat' (first | (with_reducible exact Below.refl _ _) | (with_reducible assumption) | (with_reducible refine Below.alloc ?_ ?_ _) | (with_reducible refine Below.drew ?_) | (with_reducible refine below_drewN ?_ _) | (with_reducible refine Below.setCell ?_ ?_ _) | (with_reducible refine Below.trans ?_ (Below.mono (by assumption) ?_)) | (first | go_size | (with_reducible exact Below.size (by assumption)) | (with_reducible exact Nat.le_trans (Below.size (by assumption)) (Below.size (by assumption))) | (refine Nat.le_trans (Below.size (by assumption)) ?_; go_size)))))).words hm hc; have hC1 : Ch (fun j => j = r ∨ j = g) w w1 := (Ch.of_below (show Below w.heap.size w _ by (repeat' (first | (with_reducible exact Below.refl _ _) | (with_reducible assumption) | (with_reducible refine Below.alloc ?_ ?_ _) | (with_reducible refine Below.drew ?_) | (with_reducible refine below_drewN ?_ _) | (with_reducible refine Below.setCell ?_ ?_ _) | (with_reducible refine Below.trans ?_ (Below.mono (by assumption) ?_)) | (first | go_size | (with_reducible exact Below.size (by assumption)) | (with_reducible exact Nat.le_trans (Below.size (by assumption)) (Below.size (by assumption))) | (refine Nat.le_trans (Below.size (by assumption)) ?_; go_size))))) _).trans (hc.mono (fun _ _ e => .inr e)) (fun _ _ e => e); have k0 : w1.cell? ⟨r, 0, none⟩ = some (.pointer (some ⟨nb, 0, none⟩)) := hS1.run.cell 0; have k2 : w1.cell? ⟨r, 2, none⟩ = some (.int .i64 x.node) := hS1.run.cell 2)))
  all_goals
    go_wp2
    go_ret2
    exact ⟨rfl, hS2, hC2⟩
end Go.Proofs.Ytmlhdcpahfgckaa
