/-
  Contracts of package mem: an arena that allows one access (as Mem9, MemA, MemB, without the helpers of layer 1).
-/
import Derived.Test.YtmbofohdjdipdaaMem5
import Derived.Deep.DeepCutAuto
import Derived.Deep.CutRange
import Derived.Deep.Cut
namespace Go.Proofs.Ytmbofohdjdipdaa
open Go.RowKit

def OnceAt (w : World) (o b : Nat) (k i bf af : Int) : Prop := Blk w o 163 [.pointer (some ⟨b, 0, none⟩), .int .i64 k, .int .i64 i, .int .u64 bf, .int .u64 af]

theorem ozero_ok (o b : Nat) (k i bf af : Int) (w : World) (h : OnceAt w o b k i bf af) :
    Calls Try.prog 81 #[.pointer (some ⟨o, 0, none⟩)] w fun e w' => e = .returned (.bool false) ∧ w = w' := by
  have h0 := h.cell 0
  go_enter Try.func81, Try.ntmps81
  go_wp2
  go_ret
  exact ⟨rfl, rfl⟩

theorem new_once_ok (b g c : Nat) (ws : List Int) (w : World) (h : MemAt w b g c ws) :
    Calls Try.prog 62 #[.pointer (some ⟨b, 0, none⟩)] w fun e w' => e = .returned (.tuple #[.pointer (some ⟨w.heap.size, 0, none⟩), .int .i64 0]) ∧ OnceAt w' w.heap.size b 0 0 0 0 ∧ Below w.heap.size w w' := by
  have hm0 := h
  go_enter Try.func62, Try.ntmps62
  go_wp2_with (go_at_call 76; refine (mzero_ok b g c ws _ (hm0.below (by (repeat' (first | (with_reducible exact Below.refl _ _) | (with_reducible assumption) | (with_reducible refine Below.alloc ?_ ?_ _) | (with_reducible refine Below.drew ?_) | (with_reducible refine below_drewN ?_ _) | (with_reducible refine Below.setCell ?_ ?_ _) | (with_reducible refine Below.trans ?_ (Below.mono (by assumption) ?_)) | (first | go_size | (with_reducible exact Below.size (by assumption)) | (with_reducible exact Nat.le_trans (Below.size (by assumption)) (Below.size (by assumption))) | (refine Nat.le_trans (Below.size (by assumption)) ?_; go_size))))))).mono ?_; rintro e w' ⟨rfl, rfl⟩)
  go_ret2
  exact ⟨rfl, Blk.new w _ _, by (repeat' (first | (with_reducible exact Below.refl _ _) | (with_reducible assumption) | (with_reducible refine Below.alloc ?_ ?_ _) | (with_reducible refine Below.drew ?_) | (with_reducible refine below_drewN ?_ _) | (with_reducible refine Below.setCell ?_ ?_ _) | (with_reducible refine Below.trans ?_ (Below.mono (by assumption) ?_)) | (first | go_size | (with_reducible exact Below.size (by assumption)) | (with_reducible exact Nat.le_trans (Below.size (by assumption)) (Below.size (by assumption))) | (refine Nat.le_trans (Below.size (by assumption)) ?_; go_size))))⟩

theorem oaccess_ok (o b : Nat) (k i bf af : Int) (w : World) (h : OnceAt w o b k i bf af) :
    Calls Try.prog 63 #[.pointer (some ⟨o, 0, none⟩)] w fun e w' => e = .returned (acc4 k i bf af) ∧ Below w.heap.size w w' := by
  have h1 := h.cell 1
  have h2 := h.cell 2
  have h3 := h.cell 3
  have h4 := h.cell 4
  have hl := h.lt
  have ho := h
  go_enter Try.func63, Try.ntmps63
  go_wp2_with (go_at_call 81; refine (ozero_ok o b k i bf af _ (ho.keep ((Ch.refl (fun _ => False) _).alloc _) (fun e => e))).mono ?_; rintro e w' ⟨rfl, rfl⟩)
  refine bodyPost_ret (v := acc4 k i bf af) (by simp [results, go_sem]) rfl ?_
  exact ⟨rfl, by (repeat' (first | (with_reducible exact Below.refl _ _) | (with_reducible assumption) | (with_reducible refine Below.alloc ?_ ?_ _) | (with_reducible refine Below.drew ?_) | (with_reducible refine below_drewN ?_ _) | (with_reducible refine Below.setCell ?_ ?_ _) | (with_reducible refine Below.trans ?_ (Below.mono (by assumption) ?_)) | (first | go_size | (with_reducible exact Below.size (by assumption)) | (with_reducible exact Nat.le_trans (Below.size (by assumption)) (Below.size (by assumption))) | (refine Nat.le_trans (Below.size (by assumption)) ?_; go_size))))⟩

theorem odo_busy (o b : Nat) (k i bf af k' i' bf' af' : Int) (w : World) (h : OnceAt w o b k i bf af) (hk : k ≠ 0) :
    Calls Try.prog 111 #[.pointer (some ⟨o, 0, none⟩), acc4 k' i' bf' af'] w fun e w' => e = .returned (.tuple #[acc4 0 0 0 0, .int .i64 11]) ∧ Below w.heap.size w w' := by
  have h1 := h.cell 1
  have hl := h.lt
  have ho := h
  have hk0 : (k == 0) = false := by rw [beq_eq_false_iff_ne]; exact hk
  go_enter Try.func111, Try.ntmps111
  go_wp2_with (go_at_call 81; refine (ozero_ok o b k i bf af _ (ho.keep ((Ch.of_below (by (repeat' (first | (with_reducible exact Below.refl _ _) | (with_reducible assumption) | (with_reducible refine Below.alloc ?_ ?_ _) | (with_reducible refine Below.drew ?_) | (with_reducible refine below_drewN ?_ _) | (with_reducible refine Below.setCell ?_ ?_ _) | (with_reducible refine Below.trans ?_ (Below.mono (by assumption) ?_)) | (first | go_size | (with_reducible exact Below.size (by assumption)) | (with_reducible exact Nat.le_trans (Below.size (by assumption)) (Below.size (by assumption))) | (refine Nat.le_trans (Below.size (by assumption)) ?_; go_size)))) : Below w.heap.size w _) (fun _ => False))) (fun e => e))).mono ?_; rintro e w' ⟨rfl, rfl⟩)
  refine bodyPost_ret (v := .tuple #[acc4 0 0 0 0, .int .i64 11]) (by simp [results, go_sem]) rfl ?_
  exact ⟨rfl, by (repeat' (first | (with_reducible exact Below.refl _ _) | (with_reducible assumption) | (with_reducible refine Below.alloc ?_ ?_ _) | (with_reducible refine Below.drew ?_) | (with_reducible refine below_drewN ?_ _) | (with_reducible refine Below.setCell ?_ ?_ _) | (with_reducible refine Below.trans ?_ (Below.mono (by assumption) ?_)) | (first | go_size | (with_reducible exact Below.size (by assumption)) | (with_reducible exact Nat.le_trans (Below.size (by assumption)) (Below.size (by assumption))) | (refine Nat.le_trans (Below.size (by assumption)) ?_; go_size))))⟩

theorem keepA {F : Nat → Prop} {W w1 : World} {q : Nat} {v0 v1 v2 v3 : Value} {R : Prop} (hc : Ch F W w1) (c0 : W.cell? ⟨q, 0, none⟩ = some v0) (c1 : W.cell? ⟨q, 1, none⟩ = some v1) (c2 : W.cell? ⟨q, 2, none⟩ = some v2) (c3 : W.cell? ⟨q, 3, none⟩ = some v3)
    (hz : ∀ i, W.frozen? ⟨q, i, none⟩ = false) (hf : ¬ F q)
    (K : w1.cell? ⟨q, 0, none⟩ = some v0 → w1.cell? ⟨q, 1, none⟩ = some v1 → w1.cell? ⟨q, 2, none⟩ = some v2 → w1.cell? ⟨q, 3, none⟩ = some v3 → (∀ i, w1.frozen? ⟨q, i, none⟩ = false) → q < w1.heap.size → R) : R := by
  have hl := World.block_lt_of_cell? _ _ c0
  exact K (hc.keeps c0 hf) (hc.keeps c1 hf) (hc.keeps c2 hf) (hc.keeps c3 hf) (fun i => (hc.frozen (p := ⟨q, i, none⟩) hl hf).trans (hz i)) (Nat.lt_of_lt_of_le hl hc.size)
def ODoPost (w : World) (o b g c : Nat) (ws : List Int) (k i bf af : Int) (e : Ending) (w' : World) : Prop :=
  e = .returned (.tuple #[acc4 (doK ws k i) (doI ws k i) (doB ws k i) (doA ws k i bf af), .int .i64 (doE ws k i)]) ∧ MemAt w' b g c (doWs ws k i bf af) ∧
    OnceAt w' o b (doK ws k i) (doI ws k i) (doB ws k i) (doA ws k i bf af) ∧ Ch (fun j => j = g ∨ j = o) w w'
/-- what is known behind the access, wherever its result's variable was laid -/
structure Mid (w wx : World) (o b g c q : Nat) (ws : List Int) (k i bf af : Int) : Prop where
  lo : w.heap.size + 2 ≤ q
  x0 : wx.cell? ⟨q, 0, none⟩ = some (.int .i64 (doK ws k i))
  x1 : wx.cell? ⟨q, 1, none⟩ = some (.int .i64 (doI ws k i))
  x2 : wx.cell? ⟨q, 2, none⟩ = some (.int .u64 (doB ws k i))
  x3 : wx.cell? ⟨q, 3, none⟩ = some (.int .u64 (doA ws k i bf af))
  r0 : wx.cell? ⟨w.heap.size + 1, 0, none⟩ = some (.int .i64 0)
  r1 : wx.cell? ⟨w.heap.size + 1, 1, none⟩ = some (.int .i64 0)
  r2 : wx.cell? ⟨w.heap.size + 1, 2, none⟩ = some (.int .u64 0)
  r3 : wx.cell? ⟨w.heap.size + 1, 3, none⟩ = some (.int .u64 0)
  rf : ∀ j, wx.frozen? ⟨w.heap.size + 1, j, none⟩ = false
  once : OnceAt wx o b 0 0 0 0
  mem : MemAt wx b g c (doWs ws k i bf af)
  ch : Ch (fun j => j = g) w wx
section
variable {w W w1 : World} {o b g c : Nat} {ws : List Int} {k i bf af : Int}
theorem mid_alloc (hB : Below w.heap.size w W) (hc1 : Ch (fun j => j = g) W w1) (hm1 : MemAt w1 b g c (doWs ws k i bf af)) (ho : OnceAt w o b 0 0 0 0) (hgo : g ≠ o)
    (y0 : w1.cell? ⟨w.heap.size + 1, 0, none⟩ = some (.int .i64 0)) (y1 : w1.cell? ⟨w.heap.size + 1, 1, none⟩ = some (.int .i64 0)) (y2 : w1.cell? ⟨w.heap.size + 1, 2, none⟩ = some (.int .u64 0)) (y3 : w1.cell? ⟨w.heap.size + 1, 3, none⟩ = some (.int .u64 0))
    (yr : ∀ j, w1.frozen? ⟨w.heap.size + 1, j, none⟩ = false) (yl : w.heap.size + 1 < w1.heap.size) (t : TypeId) :
    Mid w (w1.alloc (.cells #[.int .i64 (doK ws k i), .int .i64 (doI ws k i), .int .u64 (doB ws k i), .int .u64 (doA ws k i bf af)] t)) o b g c w1.heap.size ws k i bf af := by
  have hC : Ch (fun j => j = g) w w1 := (Ch.of_below hB _).trans hc1 (fun _ _ e => e)
  have hN := (Ch.refl (fun _ => False) w1).alloc (.cells #[.int .i64 (doK ws k i), .int .i64 (doI ws k i), .int .u64 (doB ws k i), .int .u64 (doA ws k i bf af)] t)
  refine ⟨yl, ?_, ?_, ?_, ?_, hN.keeps y0 (fun e => e), hN.keeps y1 (fun e => e), hN.keeps y2 (fun e => e), hN.keeps y3 (fun e => e), fun j => (hN.frozen (p := ⟨w.heap.size + 1, j, none⟩) yl (fun e => e)).trans (yr j),
    (Blk.keep ho hC (fun e => hgo e.symm)).keep hN (fun e => e), hm1.keep hN (fun e => e) (fun e => e), hC.alloc _⟩ <;> go_cell
theorem mid_set (hB : Below w.heap.size w W) (hc1 : Ch (fun j => j = g) W w1) (hm1 : MemAt w1 b g c (doWs ws k i bf af)) (ho : OnceAt w o b 0 0 0 0) (hgo : g ≠ o) (hb : b < w.heap.size) (hg : g < w.heap.size)
    (y0 : w1.cell? ⟨w.heap.size + 1, 0, none⟩ = some (.int .i64 0)) (y1 : w1.cell? ⟨w.heap.size + 1, 1, none⟩ = some (.int .i64 0)) (y2 : w1.cell? ⟨w.heap.size + 1, 2, none⟩ = some (.int .u64 0)) (y3 : w1.cell? ⟨w.heap.size + 1, 3, none⟩ = some (.int .u64 0))
    (yr : ∀ j, w1.frozen? ⟨w.heap.size + 1, j, none⟩ = false) (yl : w.heap.size + 1 < w1.heap.size)
    (z0 : w1.cell? ⟨w.heap.size + 1 + 1, 0, none⟩ = some (.int .i64 0)) (z1 : w1.cell? ⟨w.heap.size + 1 + 1, 1, none⟩ = some (.int .i64 0)) (z2 : w1.cell? ⟨w.heap.size + 1 + 1, 2, none⟩ = some (.int .u64 0)) (z3 : w1.cell? ⟨w.heap.size + 1 + 1, 3, none⟩ = some (.int .u64 0)) :
    Mid w ((((w1.setCell ⟨w.heap.size + 1 + 1, 0, none⟩ (.int .i64 (doK ws k i))).setCell ⟨w.heap.size + 1 + 1, 1, none⟩ (.int .i64 (doI ws k i))).setCell ⟨w.heap.size + 1 + 1, 2, none⟩ (.int .u64 (doB ws k i))).setCell ⟨w.heap.size + 1 + 1, 3, none⟩ (.int .u64 (doA ws k i bf af))) o b g c (w.heap.size + 1 + 1) ws k i bf af := by
  have hC : Ch (fun j => j = g) w w1 := (Ch.of_below hB _).trans hc1 (fun _ _ e => e)
  have hN : Ch (fun j => j = w.heap.size + 1 + 1) w1 ((((w1.setCell ⟨w.heap.size + 1 + 1, 0, none⟩ (.int .i64 (doK ws k i))).setCell ⟨w.heap.size + 1 + 1, 1, none⟩ (.int .i64 (doI ws k i))).setCell ⟨w.heap.size + 1 + 1, 2, none⟩ (.int .u64 (doB ws k i))).setCell ⟨w.heap.size + 1 + 1, 3, none⟩ (.int .u64 (doA ws k i bf af))) :=
    ((((Ch.refl (fun j => j = w.heap.size + 1 + 1) w1).setCell (p := ⟨w.heap.size + 1 + 1, 0, none⟩) (.inl rfl) _).setCell (p := ⟨w.heap.size + 1 + 1, 1, none⟩) (.inl rfl) _).setCell (p := ⟨w.heap.size + 1 + 1, 2, none⟩) (.inl rfl) _).setCell (p := ⟨w.heap.size + 1 + 1, 3, none⟩) (.inl rfl) _
  have n1 : ¬ (w.heap.size + 1 = w.heap.size + 1 + 1) := by omega
  have hol := ho.lt
  refine ⟨by omega, ?_, ?_, ?_, ?_, hN.keeps y0 n1, hN.keeps y1 n1, hN.keeps y2 n1, hN.keeps y3 n1, fun j => (hN.frozen (p := ⟨w.heap.size + 1, j, none⟩) yl n1).trans (yr j),
    (Blk.keep ho hC (fun e => hgo e.symm)).keep hN (by omega), hm1.keep hN (by omega) (by omega), hC.trans hN (fun j hj e => absurd e (by omega))⟩ <;> go_cell
end
set_option maxHeartbeats 4000000 in
theorem odo_ok (o b g c : Nat) (ws : List Int) (k i bf af : Int) (w : World) (h : OnceAt w o b 0 0 0 0) (hm : MemAt w b g c ws) (hbo : b ≠ o) (hgo : g ≠ o) (haf : 0 ≤ af ∧ af ≤ 18446744073709551615) :
    Calls Try.prog 111 #[.pointer (some ⟨o, 0, none⟩), acc4 k i bf af] w (ODoPost w o b g c ws k i bf af) := by
  have h0 : w.cell? ⟨o, 0, none⟩ = some (.pointer (some ⟨b, 0, none⟩)) := h.cell 0
  have h1 : w.cell? ⟨o, 1, none⟩ = some (.int .i64 0) := h.cell 1
  have hl := h.lt
  have ho := h
  have hm0 := hm
  have hlt := hm.lt.2
  have hbl := hm.lt.1
  have u0 : ∀ n, o < w.heap.size + n := fun n => by omega
  have u1 : ∀ n, o ≠ w.heap.size + n := fun n => by omega
  have u2 : ∀ n, w.heap.size + n ≠ o := fun n => by omega
  have u3 : o < w.heap.size + 1 + 1 := by omega
  have hc0 : ∀ O1 O2 O3, (((w.alloc O1).alloc O2).drew.alloc O3).cell? ⟨o, 0, none⟩ = some (.pointer (some ⟨b, 0, none⟩)) := fun O1 O2 O3 => (((((Ch.refl (fun _ => False) w).alloc O1).alloc O2).drew.alloc O3).keeps h0 (fun e => e))
  go_enter Try.func111, Try.ntmps111
  go_upto_region 5 with (go_at_call 81; refine (ozero_ok o b 0 0 0 0 _ (ho.keep ((Ch.of_below (by (repeat' (first | (with_reducible exact Below.refl _ _) | (with_reducible assumption) | (with_reducible refine Below.alloc ?_ ?_ _) | (with_reducible refine Below.drew ?_) | (with_reducible refine below_drewN ?_ _) | (with_reducible refine Below.setCell ?_ ?_ _) | (with_reducible refine Below.trans ?_ (Below.mono (by assumption) ?_)) | (first | go_size | (with_reducible exact Below.size (by assumption)) | (with_reducible exact Nat.le_trans (Below.size (by assumption)) (Below.size (by assumption))) | (refine Nat.le_trans (Below.size (by assumption)) ?_; go_size)))) : Below w.heap.size w _) (fun _ => False))) (fun e => e))).mono ?_; rintro e w' ⟨rfl, rfl⟩)
  go_cut [6, 7] (fun v6 v7 wx => ∃ q, v6 = .pointer (some ⟨q, 0, none⟩) ∧ v7 = .int .i64 (doE ws k i) ∧ Mid w wx o b g c q ws k i bf af)
  case first =>
    go_region_with ((go_at_call 58; refine (do_any b g c ws _ _ _ _ _ (hm0.below (by (repeat' (first | (with_reducible exact Below.refl _ _) | (with_reducible assumption) | (with_reducible refine Below.alloc ?_ ?_ _) | (with_reducible refine Below.drew ?_) | (with_reducible refine below_drewN ?_ _) | (with_reducible refine Below.setCell ?_ ?_ _) | (with_reducible refine Below.trans ?_ (Below.mono (by assumption) ?_)) | (first | go_size | (with_reducible exact Below.size (by assumption)) | (with_reducible exact Nat.le_trans (Below.size (by assumption)) (Below.size (by assumption))) | (refine Nat.le_trans (Below.size (by assumption)) ?_; go_size)))))) haf).mono ?_; rintro e w1 ⟨rfl, hm1, hc1⟩; (refine keepA hc1 (q := w.heap.size + 1) (v0 := .int .i64 0) (v1 := .int .i64 0) (v2 := .int .u64 0) (v3 := .int .u64 0) ?_ ?_ ?_ ?_ ?_ ?_ (fun y0 y1 y2 y3 yr yl => ?_); (focus (go_cell)); (focus (go_cell)); (focus (go_cell)); (focus (go_cell)); (focus (intro ii; go_simp)); (focus (show ¬ (w.heap.size + 1 = g); omega))); (try (refine keepA hc1 (q := w.heap.size + 2) (v0 := .int .i64 0) (v1 := .int .i64 0) (v2 := .int .u64 0) (v3 := .int .u64 0) ?_ ?_ ?_ ?_ ?_ ?_ (fun z0 z1 z2 z3 fr zl => ?_); (focus (go_cell)); (focus (go_cell)); (focus (go_cell)); (focus (go_cell)); (focus (intro ii; go_simp)); (focus (show ¬ (w.heap.size + 2 = g); omega))))))
    all_goals go_wp2_with fail
    all_goals go_meet
    all_goals (refine ⟨_, rfl, rfl, ?_⟩; first | (refine mid_alloc ?_ hc1 hm1 ho hgo y0 y1 y2 y3 yr yl _; (repeat' (first | (with_reducible exact Below.refl _ _) | (with_reducible assumption) | (with_reducible refine Below.alloc ?_ ?_ _) | (with_reducible refine Below.drew ?_) | (with_reducible refine below_drewN ?_ _) | (with_reducible refine Below.setCell ?_ ?_ _) | (with_reducible refine Below.trans ?_ (Below.mono (by assumption) ?_)) | (first | go_size | (with_reducible exact Below.size (by assumption)) | (with_reducible exact Nat.le_trans (Below.size (by assumption)) (Below.size (by assumption))) | (refine Nat.le_trans (Below.size (by assumption)) ?_; go_size))))) | (refine mid_set ?_ hc1 hm1 ho hgo hbl hlt y0 y1 y2 y3 yr yl z0 z1 z2 z3; (repeat' (first | (with_reducible exact Below.refl _ _) | (with_reducible assumption) | (with_reducible refine Below.alloc ?_ ?_ _) | (with_reducible refine Below.drew ?_) | (with_reducible refine below_drewN ?_ _) | (with_reducible refine Below.setCell ?_ ?_ _) | (with_reducible refine Below.trans ?_ (Below.mono (by assumption) ?_)) | (first | go_size | (with_reducible exact Below.size (by assumption)) | (with_reducible exact Nat.le_trans (Below.size (by assumption)) (Below.size (by assumption))) | (refine Nat.le_trans (Below.size (by assumption)) ?_; go_size))))))
  case rest =>
    obtain ⟨q, rfl, rfl, hmid⟩ := hcut
    have x0 := hmid.x0
    have x1 := hmid.x1
    have x2 := hmid.x2
    have x3 := hmid.x3
    have r0 := hmid.r0
    have r1 := hmid.r1
    have r2 := hmid.r2
    have r3 := hmid.r3
    have rf := hmid.rf
    have n1 : w.heap.size + 1 ≠ q := by have := hmid.lo; omega
    have n2 : q ≠ w.heap.size + 1 := n1.symm
    have n3 : q ≠ o := by have := hmid.lo; omega
    have n4 : o ≠ q := n3.symm
    by_cases he : doE ws k i = 0
    · have HE := Lib.hid he
      have e0 : (doE ws k i == 0) = true := by rw [he]; rfl
      clear he
      have o1 : wc.cell? ⟨o, 1, none⟩ = some (.int .i64 0) := hmid.once.cell 1
      have o2 : wc.cell? ⟨o, 2, none⟩ = some (.int .i64 0) := hmid.once.cell 2
      have o3 : wc.cell? ⟨o, 3, none⟩ = some (.int .u64 0) := hmid.once.cell 3
      have o4 : wc.cell? ⟨o, 4, none⟩ = some (.int .u64 0) := hmid.once.cell 4
      have of := hmid.once.frozen
      go_wp2
      refine bodyPost_ret (v := .tuple #[acc4 (doK ws k i) (doI ws k i) (doB ws k i) (doA ws k i bf af), .int .i64 (doE ws k i)]) (by simp [results, go_sem, r0, r1, r2, r3]) rfl ?_
      have hO : OnceAt ((((wc.setCell ⟨o, 1, none⟩ (.int .i64 (doK ws k i))).setCell ⟨o, 2, none⟩ (.int .i64 (doI ws k i))).setCell ⟨o, 3, none⟩ (.int .u64 (doB ws k i))).setCell ⟨o, 4, none⟩ (.int .u64 (doA ws k i bf af))) o b (doK ws k i) (doI ws k i) (doB ws k i) (doA ws k i bf af) :=
        (((hmid.once.set 1 _).set 2 _).set 3 _).set 4 _
      have hC := ((((Ch.refl (fun j => j = o) wc).setCell (p := ⟨o, 1, none⟩) (.inl rfl) (.int .i64 (doK ws k i))).setCell (p := ⟨o, 2, none⟩) (.inl rfl) (.int .i64 (doI ws k i))).setCell (p := ⟨o, 3, none⟩) (.inl rfl) (.int .u64 (doB ws k i))).setCell (p := ⟨o, 4, none⟩) (.inl rfl) (.int .u64 (doA ws k i bf af))
      have hM := hmid.mem.keep hC hbo hgo
      have hK : ∀ (W : World) (v0 v1 v2 v3 : Value), Ch (fun j => j = w.heap.size + 1) W ((((W.setCell ⟨w.heap.size + 1, 0, none⟩ v0).setCell ⟨w.heap.size + 1, 1, none⟩ v1).setCell ⟨w.heap.size + 1, 2, none⟩ v2).setCell ⟨w.heap.size + 1, 3, none⟩ v3) := fun W v0 v1 v2 v3 =>
        ((((Ch.refl (fun j => j = w.heap.size + 1) W).setCell (p := ⟨w.heap.size + 1, 0, none⟩) (.inl rfl) v0).setCell (p := ⟨w.heap.size + 1, 1, none⟩) (.inl rfl) v1).setCell (p := ⟨w.heap.size + 1, 2, none⟩) (.inl rfl) v2).setCell (p := ⟨w.heap.size + 1, 3, none⟩) (.inl rfl) v3
      refine ⟨rfl, MemAt.keep hM (hK _ _ _ _ _) (by omega) (by omega), Blk.keep hO (hK _ _ _ _ _) (by omega), ?_⟩
      exact ((hmid.ch.mono (fun j _ e => .inl e)).trans (hC.mono (fun j _ e => .inr e)) (fun _ _ e => e)).trans (hK _ _ _ _ _) (fun j hj e => absurd e (by omega))
    · have HE := Lib.hid he
      have e0 : (doE ws k i == 0) = false := by rw [beq_eq_false_iff_ne]; exact he
      clear he
      go_wp2
      refine bodyPost_ret (v := .tuple #[acc4 (doK ws k i) (doI ws k i) (doB ws k i) (doA ws k i bf af), .int .i64 (doE ws k i)]) (by simp [results, go_sem, r0, r1, r2, r3]) rfl ?_
      have hK : ∀ (W : World) (v0 v1 v2 v3 : Value), Ch (fun j => j = w.heap.size + 1) W ((((W.setCell ⟨w.heap.size + 1, 0, none⟩ v0).setCell ⟨w.heap.size + 1, 1, none⟩ v1).setCell ⟨w.heap.size + 1, 2, none⟩ v2).setCell ⟨w.heap.size + 1, 3, none⟩ v3) := fun W v0 v1 v2 v3 =>
        ((((Ch.refl (fun j => j = w.heap.size + 1) W).setCell (p := ⟨w.heap.size + 1, 0, none⟩) (.inl rfl) v0).setCell (p := ⟨w.heap.size + 1, 1, none⟩) (.inl rfl) v1).setCell (p := ⟨w.heap.size + 1, 2, none⟩) (.inl rfl) v2).setCell (p := ⟨w.heap.size + 1, 3, none⟩) (.inl rfl) v3
      have z1 : doK ws k i = 0 := by unfold doK; rw [if_neg HE.out]
      have z2 : doI ws k i = 0 := by unfold doI; rw [if_neg HE.out]
      have z3 : doB ws k i = 0 := by unfold doB; rw [if_neg HE.out]
      have z4 : doA ws k i bf af = 0 := by unfold doA; rw [if_neg HE.out]
      refine ⟨rfl, MemAt.keep hmid.mem (hK _ _ _ _ _) (by omega) (by omega), ?_, ?_⟩
      · have := Blk.keep hmid.once (hK wc (.int .i64 (doK ws k i)) (.int .i64 (doI ws k i)) (.int .u64 (doB ws k i)) (.int .u64 (doA ws k i bf af))) (by omega)
        unfold OnceAt
        rw [z1, z2, z3, z4] at this ⊢
        exact this
      · exact (hmid.ch.mono (fun j _ e => .inl e)).trans (hK _ _ _ _ _) (fun j hj e => absurd e (by omega))

structure Note where
  k : Int
  i : Int
  b : Int
  a : Int
def oWs (ws : List Int) (n : Note) (k i bf af : Int) : List Int := if n.k = 0 then doWs ws k i bf af else ws
def oE (ws : List Int) (n : Note) (k i : Int) : Int := if n.k = 0 then doE ws k i else 11
def oB (ws : List Int) (n : Note) (k i : Int) : Int := if n.k = 0 then doB ws k i else 0
def oA (ws : List Int) (n : Note) (k i bf af : Int) : Int := if n.k = 0 then doA ws k i bf af else 0
def oK (ws : List Int) (n : Note) (k i : Int) : Int := if n.k = 0 then doK ws k i else 0
def oI (ws : List Int) (n : Note) (k i : Int) : Int := if n.k = 0 then doI ws k i else 0
def oN (ws : List Int) (n : Note) (k i bf af : Int) : Note := if n.k = 0 then ⟨doK ws k i, doI ws k i, doB ws k i, doA ws k i bf af⟩ else n
/-- an arena that allows one access: the arena, and what it has noted -/
structure OnAt (w : World) (o b g c : Nat) (ws : List Int) (n : Note) : Prop where
  mem : MemAt w b g c ws
  once : OnceAt w o b n.k n.i n.b n.a
  zero : n.k = 0 → n = ⟨0, 0, 0, 0⟩
  nb : b ≠ o
  ng : g ≠ o
section
variable {w w' : World} {o b g c : Nat} {ws : List Int} {n : Note}
theorem OnAt.keep {F : Nat → Prop} (h : OnAt w o b g c ws n) (hc : Ch F w w') (hb : ¬ F b) (hg : ¬ F g) (ho : ¬ F o) : OnAt w' o b g c ws n :=
  ⟨h.mem.keep hc hb hg, h.once.keep hc ho, h.zero, h.nb, h.ng⟩
theorem OnAt.below (h : OnAt w o b g c ws n) (hc : Below w.heap.size w w') : OnAt w' o b g c ws n := h.keep (Ch.of_below hc (fun _ => False)) (fun e => e) (fun e => e) (fun e => e)
end
def OPost (w : World) (o b g c : Nat) (ws : List Int) (n : Note) (v : Value) (e : Ending) (w' : World) : Prop := e = .returned v ∧ OnAt w' o b g c ws n ∧ Ch (fun j => j = g ∨ j = o) w w'
theorem opost {w W w1 w' : World} {o b g c : Nat} {ws ws' : List Int} {n n' : Note} {v : Value} (hw : ws' = ws) (hn : n' = n) (hm : OnAt w1 o b g c ws' n') (hc : Ch (fun j => j = g ∨ j = o) W w1) (h0 : Below w.heap.size w W) (hb : Below w1.heap.size w1 w') :
    OPost w o b g c ws n v (.returned v) w' := by
  subst hw hn
  exact ⟨rfl, hm.below hb, ((Ch.of_below h0 _).trans hc (fun _ _ e => e)).trans (Ch.of_below hb (fun j => j = g ∨ j = o)) (fun _ _ e => e)⟩
theorem oN_zero {ws : List Int} {n : Note} {k i bf af : Int} (hz : n.k = 0 → n = ⟨0, 0, 0, 0⟩) : (oN ws n k i bf af).k = 0 → oN ws n k i bf af = ⟨0, 0, 0, 0⟩ := by
  unfold oN
  split
  · intro h
    have h1 : doK ws k i = 0 := h
    have h2 : doE ws k i ≠ 0 := by
      intro he
      have h3 := he
      unfold doE at he
      unfold doK at h1
      rw [if_pos h3] at h1
      subst h1
      rw [if_pos (by omega)] at he
      omega
    unfold doK doI doB doA
    simp [h2]
  · exact hz
theorem odo_any (o b g c : Nat) (ws : List Int) (n : Note) (k i bf af : Int) (w : World) (h : OnAt w o b g c ws n) (haf : 0 ≤ af ∧ af ≤ 18446744073709551615) :
    Calls Try.prog 111 #[.pointer (some ⟨o, 0, none⟩), acc4 k i bf af] w (OPost w o b g c (oWs ws n k i bf af) (oN ws n k i bf af) (.tuple #[acc4 (oK ws n k i) (oI ws n k i) (oB ws n k i) (oA ws n k i bf af), .int .i64 (oE ws n k i)])) := by
  have hz := oN_zero (ws := ws) (k := k) (i := i) (bf := bf) (af := af) h.zero
  by_cases hk : n.k = 0
  · have hn := h.zero hk
    subst hn
    refine (odo_ok o b g c ws k i bf af w h.once h.mem h.nb h.ng haf).mono ?_
    rintro e w' ⟨rfl, hm, ho, hc⟩
    exact ⟨rfl, ⟨hm, ho, hz, h.nb, h.ng⟩, hc⟩
  · refine (odo_busy o b n.k n.i n.b n.a k i bf af w h.once hk).mono ?_
    rintro e w' ⟨rfl, hb⟩
    refine ⟨by simp [oK, oI, oB, oA, oE, hk], ?_, Ch.of_below hb _⟩
    have := h.below hb
    unfold oWs oN
    rw [if_neg hk, if_neg hk]
    exact this

theorem oload_any (o b g c : Nat) (ws : List Int) (n : Note) (i : Int) (w : World) (h : OnAt w o b g c ws n) :
    Calls Try.prog 108 #[.pointer (some ⟨o, 0, none⟩), .int .i64 i] w (OPost w o b g c (oWs ws n 1 i 0 0) (oN ws n 1 i 0 0) (.tuple #[.int .u64 (oB ws n 1 i), .int .i64 (oE ws n 1 i)])) := by
  go_enter Try.func108, Try.ntmps108
  go_wp2_with ((go_at_call 111; refine (odo_any o b g c ws n _ _ _ _ _ (h.below (by (repeat' (first | (with_reducible exact Below.refl _ _) | (with_reducible assumption) | (with_reducible refine Below.alloc ?_ ?_ _) | (with_reducible refine Below.drew ?_) | (with_reducible refine below_drewN ?_ _) | (with_reducible refine Below.setCell ?_ ?_ _) | (with_reducible refine Below.trans ?_ (Below.mono (by assumption) ?_)) | (first | go_size | (with_reducible exact Below.size (by assumption)) | (with_reducible exact Nat.le_trans (Below.size (by assumption)) (Below.size (by assumption))) | (refine Nat.le_trans (Below.size (by assumption)) ?_; go_size)))))) (by omega)).mono ?_; rintro e w1 ⟨rfl, hm, hc⟩))
  go_ret2
  exact opost rfl rfl hm hc (by (repeat' (first | (with_reducible exact Below.refl _ _) | (with_reducible assumption) | (with_reducible refine Below.alloc ?_ ?_ _) | (with_reducible refine Below.drew ?_) | (with_reducible refine below_drewN ?_ _) | (with_reducible refine Below.setCell ?_ ?_ _) | (with_reducible refine Below.trans ?_ (Below.mono (by assumption) ?_)) | (first | go_size | (with_reducible exact Below.size (by assumption)) | (with_reducible exact Nat.le_trans (Below.size (by assumption)) (Below.size (by assumption))) | (refine Nat.le_trans (Below.size (by assumption)) ?_; go_size))))) (by (repeat' (first | (with_reducible exact Below.refl _ _) | (with_reducible assumption) | (with_reducible refine Below.alloc ?_ ?_ _) | (with_reducible refine Below.drew ?_) | (with_reducible refine below_drewN ?_ _) | (with_reducible refine Below.setCell ?_ ?_ _) | (with_reducible refine Below.trans ?_ (Below.mono (by assumption) ?_)) | (first | go_size | (with_reducible exact Below.size (by assumption)) | (with_reducible exact Nat.le_trans (Below.size (by assumption)) (Below.size (by assumption))) | (refine Nat.le_trans (Below.size (by assumption)) ?_; go_size)))))

theorem ostore_any (o b g c : Nat) (ws : List Int) (n : Note) (i x : Int) (w : World) (h : OnAt w o b g c ws n) (hx : 0 ≤ x ∧ x ≤ 18446744073709551615) :
    Calls Try.prog 109 #[.pointer (some ⟨o, 0, none⟩), .int .i64 i, .int .u64 x] w (OPost w o b g c (oWs ws n 2 i 0 x) (oN ws n 2 i 0 x) (.int .i64 (oE ws n 2 i))) := by
  go_enter Try.func109, Try.ntmps109
  go_wp2_with ((go_at_call 111; refine (odo_any o b g c ws n _ _ _ _ _ (h.below (by (repeat' (first | (with_reducible exact Below.refl _ _) | (with_reducible assumption) | (with_reducible refine Below.alloc ?_ ?_ _) | (with_reducible refine Below.drew ?_) | (with_reducible refine below_drewN ?_ _) | (with_reducible refine Below.setCell ?_ ?_ _) | (with_reducible refine Below.trans ?_ (Below.mono (by assumption) ?_)) | (first | go_size | (with_reducible exact Below.size (by assumption)) | (with_reducible exact Nat.le_trans (Below.size (by assumption)) (Below.size (by assumption))) | (refine Nat.le_trans (Below.size (by assumption)) ?_; go_size)))))) (by omega)).mono ?_; rintro e w1 ⟨rfl, hm, hc⟩))
  go_ret
  exact opost rfl rfl hm hc (by (repeat' (first | (with_reducible exact Below.refl _ _) | (with_reducible assumption) | (with_reducible refine Below.alloc ?_ ?_ _) | (with_reducible refine Below.drew ?_) | (with_reducible refine below_drewN ?_ _) | (with_reducible refine Below.setCell ?_ ?_ _) | (with_reducible refine Below.trans ?_ (Below.mono (by assumption) ?_)) | (first | go_size | (with_reducible exact Below.size (by assumption)) | (with_reducible exact Nat.le_trans (Below.size (by assumption)) (Below.size (by assumption))) | (refine Nat.le_trans (Below.size (by assumption)) ?_; go_size))))) (by (repeat' (first | (with_reducible exact Below.refl _ _) | (with_reducible assumption) | (with_reducible refine Below.alloc ?_ ?_ _) | (with_reducible refine Below.drew ?_) | (with_reducible refine below_drewN ?_ _) | (with_reducible refine Below.setCell ?_ ?_ _) | (with_reducible refine Below.trans ?_ (Below.mono (by assumption) ?_)) | (first | go_size | (with_reducible exact Below.size (by assumption)) | (with_reducible exact Nat.le_trans (Below.size (by assumption)) (Below.size (by assumption))) | (refine Nat.le_trans (Below.size (by assumption)) ?_; go_size)))))

theorem oswap_any (o b g c : Nat) (ws : List Int) (n : Note) (i x : Int) (w : World) (h : OnAt w o b g c ws n) (hx : 0 ≤ x ∧ x ≤ 18446744073709551615) :
    Calls Try.prog 110 #[.pointer (some ⟨o, 0, none⟩), .int .i64 i, .int .u64 x] w (OPost w o b g c (oWs ws n 4 i 0 x) (oN ws n 4 i 0 x) (.tuple #[.int .u64 (oB ws n 4 i), .int .i64 (oE ws n 4 i)])) := by
  go_enter Try.func110, Try.ntmps110
  go_wp2_with ((go_at_call 111; refine (odo_any o b g c ws n _ _ _ _ _ (h.below (by (repeat' (first | (with_reducible exact Below.refl _ _) | (with_reducible assumption) | (with_reducible refine Below.alloc ?_ ?_ _) | (with_reducible refine Below.drew ?_) | (with_reducible refine below_drewN ?_ _) | (with_reducible refine Below.setCell ?_ ?_ _) | (with_reducible refine Below.trans ?_ (Below.mono (by assumption) ?_)) | (first | go_size | (with_reducible exact Below.size (by assumption)) | (with_reducible exact Nat.le_trans (Below.size (by assumption)) (Below.size (by assumption))) | (refine Nat.le_trans (Below.size (by assumption)) ?_; go_size)))))) (by omega)).mono ?_; rintro e w1 ⟨rfl, hm, hc⟩))
  go_ret2
  exact opost rfl rfl hm hc (by (repeat' (first | (with_reducible exact Below.refl _ _) | (with_reducible assumption) | (with_reducible refine Below.alloc ?_ ?_ _) | (with_reducible refine Below.drew ?_) | (with_reducible refine below_drewN ?_ _) | (with_reducible refine Below.setCell ?_ ?_ _) | (with_reducible refine Below.trans ?_ (Below.mono (by assumption) ?_)) | (first | go_size | (with_reducible exact Below.size (by assumption)) | (with_reducible exact Nat.le_trans (Below.size (by assumption)) (Below.size (by assumption))) | (refine Nat.le_trans (Below.size (by assumption)) ?_; go_size))))) (by (repeat' (first | (with_reducible exact Below.refl _ _) | (with_reducible assumption) | (with_reducible refine Below.alloc ?_ ?_ _) | (with_reducible refine Below.drew ?_) | (with_reducible refine below_drewN ?_ _) | (with_reducible refine Below.setCell ?_ ?_ _) | (with_reducible refine Below.trans ?_ (Below.mono (by assumption) ?_)) | (first | go_size | (with_reducible exact Below.size (by assumption)) | (with_reducible exact Nat.le_trans (Below.size (by assumption)) (Below.size (by assumption))) | (refine Nat.le_trans (Below.size (by assumption)) ?_; go_size)))))

theorem ocas_any (o b g c : Nat) (ws : List Int) (n : Note) (i u x : Int) (w : World) (h : OnAt w o b g c ws n) (hx : 0 ≤ x ∧ x ≤ 18446744073709551615) :
    Calls Try.prog 106 #[.pointer (some ⟨o, 0, none⟩), .int .i64 i, .int .u64 u, .int .u64 x] w (OPost w o b g c (oWs ws n 3 i u x) (oN ws n 3 i u x) (.tuple #[.bool (oE ws n 3 i == 0 && oB ws n 3 i == u), .int .i64 (oE ws n 3 i)])) := by
  by_cases he : oE ws n 3 i = 0
  · have H := Lib.hid he
    have hb : (oE ws n 3 i == 0) = true := by rw [he]; rfl
    clear he
    go_enter Try.func106, Try.ntmps106
    go_wp2_with ((go_at_call 111; refine (odo_any o b g c ws n _ _ _ _ _ (h.below (by (repeat' (first | (with_reducible exact Below.refl _ _) | (with_reducible assumption) | (with_reducible refine Below.alloc ?_ ?_ _) | (with_reducible refine Below.drew ?_) | (with_reducible refine below_drewN ?_ _) | (with_reducible refine Below.setCell ?_ ?_ _) | (with_reducible refine Below.trans ?_ (Below.mono (by assumption) ?_)) | (first | go_size | (with_reducible exact Below.size (by assumption)) | (with_reducible exact Nat.le_trans (Below.size (by assumption)) (Below.size (by assumption))) | (refine Nat.le_trans (Below.size (by assumption)) ?_; go_size)))))) (by omega)).mono ?_; rintro e w1 ⟨rfl, hm, hc⟩))
    go_ret2
    have this : ∀ w', Below w1.heap.size w1 w' → OPost w o b g c (oWs ws n 3 i u x) (oN ws n 3 i u x) (Value.tuple #[Value.bool (oE ws n 3 i == 0 && oB ws n 3 i == u), Value.int IntKind.i64 (oE ws n 3 i)]) (.returned (Value.tuple #[Value.bool (oE ws n 3 i == 0 && oB ws n 3 i == u), Value.int IntKind.i64 (oE ws n 3 i)])) w' := fun w' hw => opost rfl rfl hm hc (by (repeat' (first | (with_reducible exact Below.refl _ _) | (with_reducible assumption) | (with_reducible refine Below.alloc ?_ ?_ _) | (with_reducible refine Below.drew ?_) | (with_reducible refine below_drewN ?_ _) | (with_reducible refine Below.setCell ?_ ?_ _) | (with_reducible refine Below.trans ?_ (Below.mono (by assumption) ?_)) | (first | go_size | (with_reducible exact Below.size (by assumption)) | (with_reducible exact Nat.le_trans (Below.size (by assumption)) (Below.size (by assumption))) | (refine Nat.le_trans (Below.size (by assumption)) ?_; go_size))))) hw
    rw [hb] at this ⊢
    rw [H.out] at this ⊢
    exact this _ (by (repeat' (first | (with_reducible exact Below.refl _ _) | (with_reducible assumption) | (with_reducible refine Below.alloc ?_ ?_ _) | (with_reducible refine Below.drew ?_) | (with_reducible refine below_drewN ?_ _) | (with_reducible refine Below.setCell ?_ ?_ _) | (with_reducible refine Below.trans ?_ (Below.mono (by assumption) ?_)) | (first | go_size | (with_reducible exact Below.size (by assumption)) | (with_reducible exact Nat.le_trans (Below.size (by assumption)) (Below.size (by assumption))) | (refine Nat.le_trans (Below.size (by assumption)) ?_; go_size)))))
  · have hb : (oE ws n 3 i == 0) = false := by rw [beq_eq_false_iff_ne]; exact he
    clear he
    go_enter Try.func106, Try.ntmps106
    go_wp2_with ((go_at_call 111; refine (odo_any o b g c ws n _ _ _ _ _ (h.below (by (repeat' (first | (with_reducible exact Below.refl _ _) | (with_reducible assumption) | (with_reducible refine Below.alloc ?_ ?_ _) | (with_reducible refine Below.drew ?_) | (with_reducible refine below_drewN ?_ _) | (with_reducible refine Below.setCell ?_ ?_ _) | (with_reducible refine Below.trans ?_ (Below.mono (by assumption) ?_)) | (first | go_size | (with_reducible exact Below.size (by assumption)) | (with_reducible exact Nat.le_trans (Below.size (by assumption)) (Below.size (by assumption))) | (refine Nat.le_trans (Below.size (by assumption)) ?_; go_size)))))) (by omega)).mono ?_; rintro e w1 ⟨rfl, hm, hc⟩))
    go_ret2
    have this : ∀ w', Below w1.heap.size w1 w' → OPost w o b g c (oWs ws n 3 i u x) (oN ws n 3 i u x) (Value.tuple #[Value.bool (oE ws n 3 i == 0 && oB ws n 3 i == u), Value.int IntKind.i64 (oE ws n 3 i)]) (.returned (Value.tuple #[Value.bool (oE ws n 3 i == 0 && oB ws n 3 i == u), Value.int IntKind.i64 (oE ws n 3 i)])) w' := fun w' hw => opost rfl rfl hm hc (by (repeat' (first | (with_reducible exact Below.refl _ _) | (with_reducible assumption) | (with_reducible refine Below.alloc ?_ ?_ _) | (with_reducible refine Below.drew ?_) | (with_reducible refine below_drewN ?_ _) | (with_reducible refine Below.setCell ?_ ?_ _) | (with_reducible refine Below.trans ?_ (Below.mono (by assumption) ?_)) | (first | go_size | (with_reducible exact Below.size (by assumption)) | (with_reducible exact Nat.le_trans (Below.size (by assumption)) (Below.size (by assumption))) | (refine Nat.le_trans (Below.size (by assumption)) ?_; go_size))))) hw
    rw [hb] at this ⊢
    exact this _ (by (repeat' (first | (with_reducible exact Below.refl _ _) | (with_reducible assumption) | (with_reducible refine Below.alloc ?_ ?_ _) | (with_reducible refine Below.drew ?_) | (with_reducible refine below_drewN ?_ _) | (with_reducible refine Below.setCell ?_ ?_ _) | (with_reducible refine Below.trans ?_ (Below.mono (by assumption) ?_)) | (first | go_size | (with_reducible exact Below.size (by assumption)) | (with_reducible exact Nat.le_trans (Below.size (by assumption)) (Below.size (by assumption))) | (refine Nat.le_trans (Below.size (by assumption)) ?_; go_size)))))

abbrev onceI (o : Nat) : Value := .iface 133 (.pointer (some ⟨o, 0, none⟩))
end Go.Proofs.Ytmbofohdjdipdaa
