/-
  Contracts of package thread: codes; what an instruction does (Code.do).
-/
import Derived.Test.YtmbofohdjdipdaaThMem
import Derived.StillTailTactics
import Derived.Deep.CutBlock
namespace Go.Proofs.Ytmbofohdjdipdaa
open Go.RowKit

def codeV (i cap : Nat) (c : Cd) : List Value := .slice (some ⟨i, 0, none⟩) c.l.length cap :: .int .i64 c.pc :: (u64s c.r ++ [.int .u64 c.res, .bool c.ended])
abbrev CodeB (w : World) (r i cap : Nat) (c : Cd) : Prop := Blk w r 85 (codeV i cap c)
section
variable {w w' : World} {r i cap : Nat} {c : Cd}
theorem CodeB.c0 (h : CodeB w r i cap c) : w.cell? ⟨r, 0, none⟩ = some (.slice (some ⟨i, 0, none⟩) c.l.length cap) := h.cell 0
theorem CodeB.c1 (h : CodeB w r i cap c) : w.cell? ⟨r, 1, none⟩ = some (.int .i64 c.pc) := h.cell 1
theorem CodeB.reg (h : CodeB w r i cap c) (j : Nat) (hj : j < c.r.length) : w.cell? ⟨r, 2 + j, none⟩ = some (.int .u64 (c.r.getD j 0)) := by
  rw [h.cell, show 2 + j = j + 1 + 1 by omega]
  show (u64s c.r ++ _)[j]? = _
  rw [List.getElem?_append_left (by simpa [u64s] using hj)]
  exact u64s_at c.r j hj
theorem CodeB.c6 (h : CodeB w r i cap c) (h4 : c.r.length = 4) : w.cell? ⟨r, 6, none⟩ = some (.int .u64 c.res) := by
  rw [h.cell, codeV]
  show (u64s c.r ++ _)[4]? = _
  rw [List.getElem?_append_right (by simp [u64s, h4])]
  simp [u64s, h4]
theorem CodeB.c7 (h : CodeB w r i cap c) (h4 : c.r.length = 4) : w.cell? ⟨r, 7, none⟩ = some (.bool c.ended) := by
  rw [h.cell, codeV]
  show (u64s c.r ++ _)[5]? = _
  rw [List.getElem?_append_right (by simp [u64s, h4])]
  simp [u64s, h4]
theorem CodeB.setReg (h : CodeB w r i cap c) (j : Nat) (hj : j < c.r.length) (v : Int) : CodeB (w.setCell ⟨r, 2 + j, none⟩ (.int .u64 v)) r i cap { c with r := c.r.set j v } := by
  have hs := Blk.set h (2 + j) (.int .u64 v)
  have e : (codeV i cap c).set (2 + j) (.int .u64 v) = codeV i cap { c with r := c.r.set j v } := by
    unfold codeV
    rw [show 2 + j = j + 1 + 1 by omega, List.set_cons_succ, List.set_cons_succ, List.set_append_left _ _ (by simpa [u64s] using hj)]
    simp [u64s, List.map_set]
  rw [e] at hs
  exact hs
theorem CodeB.setPc (h : CodeB w r i cap c) (v : Nat) : CodeB (w.setCell ⟨r, 1, none⟩ (.int .i64 v)) r i cap { c with pc := v } := Blk.set h 1 (.int .i64 v)
theorem CodeB.setEnd (h : CodeB w r i cap c) (h4 : c.r.length = 4) (v : Int) : CodeB ((w.setCell ⟨r, 6, none⟩ (.int .u64 v)).setCell ⟨r, 7, none⟩ (.bool true)) r i cap { c with res := v, ended := true } := by
  have hs := Blk.set (Blk.set h 6 (.int .u64 v)) 7 (.bool true)
  have e : ((codeV i cap c).set 6 (.int .u64 v)).set 7 (.bool true) = codeV i cap { c with res := v, ended := true } := by
    unfold codeV
    obtain ⟨l, pc, rr, res, en⟩ := c
    simp only at h4
    obtain ⟨r0, r1, r2, r3, rfl⟩ : ∃ r0 r1 r2 r3, rr = [r0, r1, r2, r3] := by
      match rr, h4 with
      | [r0, r1, r2, r3], _ => exact ⟨r0, r1, r2, r3, rfl⟩
    rfl
  rw [e] at hs
  exact hs
end
/-- what stands when a code makes an instruction -/
structure CMAt {σ : Type} (m : Mif σ) (w : World) (r i cap : Nat) (c : Cd) (s : σ) : Prop where
  b : CodeB w r i cap c
  r4 : c.r.length = 4
  at_ : m.At w s
  no : ¬ m.own r
def DoP {σ : Type} (m : Mif σ) (w : World) (r i cap : Nat) (c : Cd) (s : σ) (v : Value) (e : Ending) (w' : World) : Prop :=
  e = .returned v ∧ CMAt m w' r i cap c s ∧ Ch (fun k => k = r ∨ m.own k) w w'
section
variable {σ : Type} {m : Mif σ} {w w' : World} {r i cap : Nat} {c : Cd} {s : σ}
theorem CMAt.step (h : CMAt m w r i cap c s) (_hm : m.Ok) {w1 w2 : World} {s' : σ} (h1 : Below w.heap.size w w1) (ha : m.At w2 s') (hc : Ch m.own w1 w2) : CMAt m w2 r i cap c s' ∧ Ch (fun k => k = r ∨ m.own k) w w2 := by
  have hb1 := h.b.keep (Ch.of_below h1 (fun _ => False)) (fun e => e)
  refine ⟨⟨hb1.keep hc h.no, h.r4, ha, h.no⟩, ?_⟩
  exact (Ch.of_below h1 _).trans hc (fun _ _ e => .inr e)
theorem CMAt.belowB (h : CMAt m w r i cap c s) (hm : m.Ok) (h1 : Below w.heap.size w w') : CMAt m w' r i cap c s :=
  ⟨h.b.keep (Ch.of_below h1 (fun _ => False)) (fun e => e), h.r4, hm.below h.at_ h1, h.no⟩
/-- a new code behind a store into its block -/
theorem CMAt.store (h : CMAt m w r i cap c s) (hm : m.Ok) {o : Nat} {u : Value} {c' : Cd} (hb : CodeB (w.setCell ⟨r, o, none⟩ u) r i cap c') (h4 : c'.r.length = 4) : CMAt m (w.setCell ⟨r, o, none⟩ u) r i cap c' s :=
  ⟨hb, h4, hm.keep _ _ _ _ h.at_ ((Ch.refl (fun k => k = r) w).setCell (p := ⟨r, o, none⟩) (.inl rfl) u) (fun k hk e => by cases e; exact h.no hk), h.no⟩
end
theorem endP {σ : Type} {m : Mif σ} {w w' : World} {r i cap : Nat} {c : Cd} {s : σ} (h : CMAt m w r i cap c s) (hm : m.Ok) (h4 : c.r.length = 4) (x : Int) (v : Value)
    (hb : Below ((w.setCell ⟨r, 6, none⟩ (.int .u64 x)).setCell ⟨r, 7, none⟩ (.bool true)).heap.size ((w.setCell ⟨r, 6, none⟩ (.int .u64 x)).setCell ⟨r, 7, none⟩ (.bool true)) w') :
    DoP m w r i cap { c with res := x, ended := true } s v (.returned v) w' := by
  have hC : Ch (fun k => k = r) w ((w.setCell ⟨r, 6, none⟩ (.int .u64 x)).setCell ⟨r, 7, none⟩ (.bool true)) := ((Ch.refl (fun k => k = r) w).setCell (p := ⟨r, 6, none⟩) (.inl rfl) _).setCell (p := ⟨r, 7, none⟩) (.inl rfl) _
  have h1 : CMAt m ((w.setCell ⟨r, 6, none⟩ (.int .u64 x)).setCell ⟨r, 7, none⟩ (.bool true)) r i cap { c with res := x, ended := true } s :=
    ⟨h.b.setEnd h4 x, h4, hm.keep _ _ _ _ h.at_ hC (fun k hk e => by cases e; exact h.no hk), h.no⟩
  exact ⟨rfl, h1.belowB hm hb, (hC.mono (fun _ _ e => .inl e)).trans (Ch.of_below hb _) (fun _ _ e => e)⟩
set_option maxRecDepth 100000 in
set_option maxHeartbeats 1000000 in
theorem do_1 {σ : Type} (m : Mif σ) (hm : m.Ok) (r i cap : Nat) (c : Cd) (j : Nat) (W V : Int) (w : World) (s : σ) (h : CMAt m w r i cap c s) (hpc : c.pc ≤ 256) (hj : j < 4) (ρ : Int) (hρ : ρ = c.r.getD j 0) (he : (m.E s 1 W) = 0) :
    Calls Try.prog 74 #[.pointer (some ⟨r, 0, none⟩), insA ⟨1, j, W, V⟩, m.v] w (DoP m w r i cap { c with r := c.r.set j (m.B s 1 W) } (m.nx s 1 W 0 0) (.tuple #[.int .i64 ((c.pc + 1 : Nat) : Int), .bool false, .int .i64 0])) := by
  have c1 := h.b.c1
  have hlt := h.b.lt
  have n1 := hm.nl
  have n2 := hm.ml
  have n3 := hm.kl
  have hcl := fun w s => hm.cl w s W
  have no2 : ∀ k, w.heap.size ≤ k → ¬ m.own k := fun k hk ho => by have := hm.lt _ _ _ h.at_ ho; omega
  have HNO := Lib.hid no2
  clear no2
  have HE := Lib.hid he
  clear he
  have HR4 := Lib.hid h.r4
  have hjr : j < c.r.length := by rw [HR4.out]; exact hj
  have y2 := h.b.reg j hjr
  rw [← hρ] at y2
  have HRO := Lib.hid hρ
  clear hρ
  have hjI : (j : Int) < 4 := by omega
  have hfz := h.b.frozen
  go_enter Try.func74, Try.ntmps74
  go_upto_region 8 with (refine (hcl _ s (hm.below h.at_ (by (repeat' (first | (with_reducible exact Below.refl _ _) | (with_reducible assumption) | (with_reducible refine Below.alloc ?_ ?_ _) | (with_reducible refine Below.drew ?_) | (with_reducible refine below_drewN ?_ _) | (with_reducible refine Below.setCell ?_ ?_ _) | (with_reducible refine Below.trans ?_ (Below.mono (by assumption) ?_)) | (first | go_size | (with_reducible exact Below.size (by assumption)) | (with_reducible exact Nat.le_trans (Below.size (by assumption)) (Below.size (by assumption))) | (refine Nat.le_trans (Below.size (by assumption)) ?_; go_size))))))).mono ?_; rw [HE.out]; rintro e w1 ⟨rfl, hA, hC⟩)
  obtain ⟨hS, hX⟩ := h.step hm (by (repeat' (first | (with_reducible exact Below.refl _ _) | (with_reducible assumption) | (with_reducible refine Below.alloc ?_ ?_ _) | (with_reducible refine Below.drew ?_) | (with_reducible refine below_drewN ?_ _) | (with_reducible refine Below.setCell ?_ ?_ _) | (with_reducible refine Below.trans ?_ (Below.mono (by assumption) ?_)) | (first | go_size | (with_reducible exact Below.size (by assumption)) | (with_reducible exact Nat.le_trans (Below.size (by assumption)) (Below.size (by assumption))) | (refine Nat.le_trans (Below.size (by assumption)) ?_; go_size))))) hA hC
  have x1 : w1.cell? ⟨w.heap.size, 1, none⟩ = some (.int .i64 (j : Int)) := hC.keeps (p := ⟨w.heap.size, 1, none⟩) (v := .int .i64 (j : Int)) (by go_cell) (HNO.out _ (Nat.le_refl _))
  have x2 := hS.b.reg j hjr
  rw [← HRO.out] at x2
  have xf := hS.b.frozen (2 + j)
  have xl := hS.b.lt
  have HP : ∀ v W', W' = ((w1).drewN 1).setCell ⟨r, 2 + j, none⟩ (.int .u64 (m.B s 1 W)) → DoP m w r i cap { c with r := c.r.set j (m.B s 1 W) } (m.nx s 1 W 0 0) v (.returned v) W' := fun v W' e => by
    subst e
    have hb0 : Below (w1).heap.size (w1) ((w1).drewN 1) := by (repeat' (first | (with_reducible exact Below.refl _ _) | (with_reducible assumption) | (with_reducible refine Below.alloc ?_ ?_ _) | (with_reducible refine Below.drew ?_) | (with_reducible refine below_drewN ?_ _) | (with_reducible refine Below.setCell ?_ ?_ _) | (with_reducible refine Below.trans ?_ (Below.mono (by assumption) ?_)) | (first | go_size | (with_reducible exact Below.size (by assumption)) | (with_reducible exact Nat.le_trans (Below.size (by assumption)) (Below.size (by assumption))) | (refine Nat.le_trans (Below.size (by assumption)) ?_; go_size))))
    have hS0 := hS.belowB hm hb0
    have hT0 := hS0.store hm (hS0.b.setReg j (by first | exact hjr | (simp; exact hjr)) (m.B s 1 W)) (by simpa using hS0.r4)
    have hY0 := (hX.trans (Ch.of_below hb0 (fun k => k = r ∨ m.own k)) (fun _ _ e => e)).setCell (p := ⟨r, 2 + j, none⟩) (.inl (.inl rfl)) (.int .u64 (m.B s 1 W))
    exact ⟨rfl, hT0, hY0⟩
  clear hS hX
  go_wp2_with ((with_reducible refine still_tail (id := 8) 7 (by kernel_rfl) (by kernel_rfl) ?_); simp only [List.take_succ_cons, List.take_zero, List.drop_succ_cons, List.drop_zero]; (repeat still_step); refine wpStill_nil ?_)
  go_ret3
  exact HP _ _ rfl
set_option maxRecDepth 100000 in
set_option maxHeartbeats 1000000 in
theorem do_1n {σ : Type} (m : Mif σ) (hm : m.Ok) (r i cap : Nat) (c : Cd) (j : Int) (W V : Int) (w : World) (s : σ) (h : CMAt m w r i cap c s) (hpc : c.pc ≤ 256) (he : (m.E s 1 W) ≠ 0) :
    Calls Try.prog 74 #[.pointer (some ⟨r, 0, none⟩), insA ⟨1, j, W, V⟩, m.v] w (DoP m w r i cap c (m.nx s 1 W 0 0) (.tuple #[.int .i64 ((c.pc + 1 : Nat) : Int), .bool false, .int .i64 (m.E s 1 W)])) := by
  have c1 := h.b.c1
  have hlt := h.b.lt
  have n1 := hm.nl
  have n2 := hm.ml
  have n3 := hm.kl
  have hcl := fun w s => hm.cl w s W
  have no2 : ∀ k, w.heap.size ≤ k → ¬ m.own k := fun k hk ho => by have := hm.lt _ _ _ h.at_ ho; omega
  have HNO := Lib.hid no2
  clear no2
  have he0 : ((m.E s 1 W) == 0) = false := by simpa using he
  have HE := Lib.hid he
  clear he
  have HR4 := Lib.hid h.r4
  have hfz := h.b.frozen
  go_enter Try.func74, Try.ntmps74
  go_wp2_with (refine (hcl _ s (hm.below h.at_ (by (repeat' (first | (with_reducible exact Below.refl _ _) | (with_reducible assumption) | (with_reducible refine Below.alloc ?_ ?_ _) | (with_reducible refine Below.drew ?_) | (with_reducible refine below_drewN ?_ _) | (with_reducible refine Below.setCell ?_ ?_ _) | (with_reducible refine Below.trans ?_ (Below.mono (by assumption) ?_)) | (first | go_size | (with_reducible exact Below.size (by assumption)) | (with_reducible exact Nat.le_trans (Below.size (by assumption)) (Below.size (by assumption))) | (refine Nat.le_trans (Below.size (by assumption)) ?_; go_size))))))).mono ?_; rintro e w1 ⟨rfl, hA, hC⟩)
  obtain ⟨hS, hX⟩ := h.step hm (by (repeat' (first | (with_reducible exact Below.refl _ _) | (with_reducible assumption) | (with_reducible refine Below.alloc ?_ ?_ _) | (with_reducible refine Below.drew ?_) | (with_reducible refine below_drewN ?_ _) | (with_reducible refine Below.setCell ?_ ?_ _) | (with_reducible refine Below.trans ?_ (Below.mono (by assumption) ?_)) | (first | go_size | (with_reducible exact Below.size (by assumption)) | (with_reducible exact Nat.le_trans (Below.size (by assumption)) (Below.size (by assumption))) | (refine Nat.le_trans (Below.size (by assumption)) ?_; go_size))))) hA hC
  go_ret3
  exact ⟨rfl, hS, hX⟩
set_option maxRecDepth 100000 in
set_option maxHeartbeats 1000000 in
theorem do_2 {σ : Type} (m : Mif σ) (hm : m.Ok) (r i cap : Nat) (c : Cd) (j : Nat) (W V : Int) (w : World) (s : σ) (h : CMAt m w r i cap c s) (hpc : c.pc ≤ 256) (hj : j < 4) (ρ : Int) (hρ : ρ = c.r.getD j 0) (hu : U64 ρ) :
    Calls Try.prog 74 #[.pointer (some ⟨r, 0, none⟩), insA ⟨2, j, W, V⟩, m.v] w (DoP m w r i cap c (m.nx s 2 W 0 ρ) (.tuple #[.int .i64 ((c.pc + 1 : Nat) : Int), .bool false, .int .i64 (m.E s 2 W)])) := by
  have c1 := h.b.c1
  have hlt := h.b.lt
  have n1 := hm.ns
  have n2 := hm.ms
  have n3 := hm.ks
  have hcl := fun w s h => hm.cs w s W ρ h hu
  have no2 : ∀ k, w.heap.size ≤ k → ¬ m.own k := fun k hk ho => by have := hm.lt _ _ _ h.at_ ho; omega
  have HNO := Lib.hid no2
  clear no2
  have HR4 := Lib.hid h.r4
  have hjr : j < c.r.length := by rw [HR4.out]; exact hj
  have y2 := h.b.reg j hjr
  rw [← hρ] at y2
  have HRO := Lib.hid hρ
  clear hρ
  have hjI : (j : Int) < 4 := by omega
  have hfz := h.b.frozen
  go_enter Try.func74, Try.ntmps74
  go_wp2_with (first | ((with_reducible refine still_tail (id := 10) 13 (by kernel_rfl) (by kernel_rfl) ?_); simp only [List.take_succ_cons, List.take_zero, List.drop_succ_cons, List.drop_zero]; (repeat still_step); refine wpStill_nil ?_) | (refine (hcl _ s (hm.below h.at_ (by (repeat' (first | (with_reducible exact Below.refl _ _) | (with_reducible assumption) | (with_reducible refine Below.alloc ?_ ?_ _) | (with_reducible refine Below.drew ?_) | (with_reducible refine below_drewN ?_ _) | (with_reducible refine Below.setCell ?_ ?_ _) | (with_reducible refine Below.trans ?_ (Below.mono (by assumption) ?_)) | (first | go_size | (with_reducible exact Below.size (by assumption)) | (with_reducible exact Nat.le_trans (Below.size (by assumption)) (Below.size (by assumption))) | (refine Nat.le_trans (Below.size (by assumption)) ?_; go_size))))))).mono ?_; rintro e w1 ⟨rfl, hA, hC⟩))
  obtain ⟨hS, hX⟩ := h.step hm (by (repeat' (first | (with_reducible exact Below.refl _ _) | (with_reducible assumption) | (with_reducible refine Below.alloc ?_ ?_ _) | (with_reducible refine Below.drew ?_) | (with_reducible refine below_drewN ?_ _) | (with_reducible refine Below.setCell ?_ ?_ _) | (with_reducible refine Below.trans ?_ (Below.mono (by assumption) ?_)) | (first | go_size | (with_reducible exact Below.size (by assumption)) | (with_reducible exact Nat.le_trans (Below.size (by assumption)) (Below.size (by assumption))) | (refine Nat.le_trans (Below.size (by assumption)) ?_; go_size))))) hA hC
  go_ret3
  exact ⟨rfl, hS, hX⟩
set_option maxRecDepth 100000 in
set_option maxHeartbeats 1000000 in
theorem do_3 {σ : Type} (m : Mif σ) (hm : m.Ok) (r i cap : Nat) (c : Cd) (j : Nat) (W V : Int) (w : World) (s : σ) (h : CMAt m w r i cap c s) (hpc : c.pc ≤ 256) (hj : j < 4) (ρ : Int) (hρ : ρ = c.r.getD j 0) (hu : U64 ρ) (he : (m.E s 4 W) = 0) :
    Calls Try.prog 74 #[.pointer (some ⟨r, 0, none⟩), insA ⟨3, j, W, V⟩, m.v] w (DoP m w r i cap { c with r := c.r.set j (m.B s 4 W) } (m.nx s 4 W 0 ρ) (.tuple #[.int .i64 ((c.pc + 1 : Nat) : Int), .bool false, .int .i64 0])) := by
  have c1 := h.b.c1
  have hlt := h.b.lt
  have n1 := hm.nw
  have n2 := hm.mw
  have n3 := hm.kw
  have hcl := fun w s h => hm.cw w s W ρ h hu
  have no2 : ∀ k, w.heap.size ≤ k → ¬ m.own k := fun k hk ho => by have := hm.lt _ _ _ h.at_ ho; omega
  have HNO := Lib.hid no2
  clear no2
  have HE := Lib.hid he
  clear he
  have HR4 := Lib.hid h.r4
  have hjr : j < c.r.length := by rw [HR4.out]; exact hj
  have y2 := h.b.reg j hjr
  rw [← hρ] at y2
  have HRO := Lib.hid hρ
  clear hρ
  have hjI : (j : Int) < 4 := by omega
  have hfz := h.b.frozen
  go_enter Try.func74, Try.ntmps74
  go_upto_region 13 with (fail)
  go_region_held3 (fun w' => w'.cell? ⟨w.heap.size, 1, none⟩ = some (.int .i64 (j : Int)) ∧ w'.cell? ⟨w.heap.size, 2, none⟩ = some (.int .i64 W) ∧ w'.cell? ⟨r, 2 + j, none⟩ = some (.int .u64 ρ)) ((refine ⟨?_, ?_, ?_⟩ <;> first | assumption | go_cell)) (first | ((refine (hcl _ s (hm.below h.at_ (by (repeat' (first | (with_reducible exact Below.refl _ _) | (with_reducible assumption) | (with_reducible refine Below.alloc ?_ ?_ _) | (with_reducible refine Below.drew ?_) | (with_reducible refine below_drewN ?_ _) | (with_reducible refine Below.setCell ?_ ?_ _) | (with_reducible refine Below.trans ?_ (Below.mono (by assumption) ?_)) | (first | go_size | (with_reducible exact Below.size (by assumption)) | (with_reducible exact Nat.le_trans (Below.size (by assumption)) (Below.size (by assumption))) | (refine Nat.le_trans (Below.size (by assumption)) ?_; go_size))))))).mono ?_); ((rw [HE.out]); rintro e w1 ⟨rfl, hA, hC⟩); (obtain ⟨hS, hX⟩ := h.step hm (by (repeat' (first | (with_reducible exact Below.refl _ _) | (with_reducible assumption) | (with_reducible refine Below.alloc ?_ ?_ _) | (with_reducible refine Below.drew ?_) | (with_reducible refine below_drewN ?_ _) | (with_reducible refine Below.setCell ?_ ?_ _) | (with_reducible refine Below.trans ?_ (Below.mono (by assumption) ?_)) | (first | go_size | (with_reducible exact Below.size (by assumption)) | (with_reducible exact Nat.le_trans (Below.size (by assumption)) (Below.size (by assumption))) | (refine Nat.le_trans (Below.size (by assumption)) ?_; go_size))))) hA hC); (have x2 := hS.b.reg j hjr); (rw [← HRO.out] at x2); (have x1 : w1.cell? ⟨w.heap.size, 1, none⟩ = some (.int .i64 (j : Int)) := hC.keeps (p := ⟨w.heap.size, 1, none⟩) (v := .int .i64 (j : Int)) (by go_cell) (HNO.out _ (Nat.le_refl _))); (have xw : w1.cell? ⟨w.heap.size, 2, none⟩ = some (.int .i64 W) := hC.keeps (p := ⟨w.heap.size, 2, none⟩) (v := .int .i64 W) (by go_cell) (HNO.out _ (Nat.le_refl _))); (have xf := hS.b.frozen (2 + j)); (have xl := hS.b.lt)))
  go_upto_region 15 with (fail)
  have HP : ∀ v W', W' = ((w1).drewN 1).setCell ⟨r, 2 + j, none⟩ (.int .u64 (m.B s 4 W)) → DoP m w r i cap { c with r := c.r.set j (m.B s 4 W) } (m.nx s 4 W 0 ρ) v (.returned v) W' := fun v W' e => by
    subst e
    have hb0 : Below (w1).heap.size (w1) ((w1).drewN 1) := by (repeat' (first | (with_reducible exact Below.refl _ _) | (with_reducible assumption) | (with_reducible refine Below.alloc ?_ ?_ _) | (with_reducible refine Below.drew ?_) | (with_reducible refine below_drewN ?_ _) | (with_reducible refine Below.setCell ?_ ?_ _) | (with_reducible refine Below.trans ?_ (Below.mono (by assumption) ?_)) | (first | go_size | (with_reducible exact Below.size (by assumption)) | (with_reducible exact Nat.le_trans (Below.size (by assumption)) (Below.size (by assumption))) | (refine Nat.le_trans (Below.size (by assumption)) ?_; go_size))))
    have hS0 := hS.belowB hm hb0
    have hT0 := hS0.store hm (hS0.b.setReg j (by first | exact hjr | (simp; exact hjr)) (m.B s 4 W)) (by simpa using hS0.r4)
    have hY0 := (hX.trans (Ch.of_below hb0 (fun k => k = r ∨ m.own k)) (fun _ _ e => e)).setCell (p := ⟨r, 2 + j, none⟩) (.inl (.inl rfl)) (.int .u64 (m.B s 4 W))
    exact ⟨rfl, hT0, hY0⟩
  clear hS hX
  go_wp2_with ((with_reducible refine still_tail (id := 15) 7 (by kernel_rfl) (by kernel_rfl) ?_); simp only [List.take_succ_cons, List.take_zero, List.drop_succ_cons, List.drop_zero]; (repeat still_step); refine wpStill_nil ?_)
  go_ret3
  exact HP _ _ rfl
set_option maxRecDepth 100000 in
set_option maxHeartbeats 1000000 in
theorem do_3n {σ : Type} (m : Mif σ) (hm : m.Ok) (r i cap : Nat) (c : Cd) (j : Nat) (W V : Int) (w : World) (s : σ) (h : CMAt m w r i cap c s) (hpc : c.pc ≤ 256) (hj : j < 4) (ρ : Int) (hρ : ρ = c.r.getD j 0) (hu : U64 ρ) (he : (m.E s 4 W) ≠ 0) :
    Calls Try.prog 74 #[.pointer (some ⟨r, 0, none⟩), insA ⟨3, j, W, V⟩, m.v] w (DoP m w r i cap c (m.nx s 4 W 0 ρ) (.tuple #[.int .i64 ((c.pc + 1 : Nat) : Int), .bool false, .int .i64 (m.E s 4 W)])) := by
  have c1 := h.b.c1
  have hlt := h.b.lt
  have n1 := hm.nw
  have n2 := hm.mw
  have n3 := hm.kw
  have hcl := fun w s h => hm.cw w s W ρ h hu
  have no2 : ∀ k, w.heap.size ≤ k → ¬ m.own k := fun k hk ho => by have := hm.lt _ _ _ h.at_ ho; omega
  have HNO := Lib.hid no2
  clear no2
  have he0 : ((m.E s 4 W) == 0) = false := by simpa using he
  have HE := Lib.hid he
  clear he
  have HR4 := Lib.hid h.r4
  have hjr : j < c.r.length := by rw [HR4.out]; exact hj
  have y2 := h.b.reg j hjr
  rw [← hρ] at y2
  have HRO := Lib.hid hρ
  clear hρ
  have hjI : (j : Int) < 4 := by omega
  have hfz := h.b.frozen
  go_enter Try.func74, Try.ntmps74
  go_upto_region 13 with (fail)
  go_region_held3 (fun w' => w'.cell? ⟨w.heap.size, 1, none⟩ = some (.int .i64 (j : Int)) ∧ w'.cell? ⟨w.heap.size, 2, none⟩ = some (.int .i64 W) ∧ w'.cell? ⟨r, 2 + j, none⟩ = some (.int .u64 ρ)) ((refine ⟨?_, ?_, ?_⟩ <;> first | assumption | go_cell)) (first | ((refine (hcl _ s (hm.below h.at_ (by (repeat' (first | (with_reducible exact Below.refl _ _) | (with_reducible assumption) | (with_reducible refine Below.alloc ?_ ?_ _) | (with_reducible refine Below.drew ?_) | (with_reducible refine below_drewN ?_ _) | (with_reducible refine Below.setCell ?_ ?_ _) | (with_reducible refine Below.trans ?_ (Below.mono (by assumption) ?_)) | (first | go_size | (with_reducible exact Below.size (by assumption)) | (with_reducible exact Nat.le_trans (Below.size (by assumption)) (Below.size (by assumption))) | (refine Nat.le_trans (Below.size (by assumption)) ?_; go_size))))))).mono ?_); (rintro e w1 ⟨rfl, hA, hC⟩); (obtain ⟨hS, hX⟩ := h.step hm (by (repeat' (first | (with_reducible exact Below.refl _ _) | (with_reducible assumption) | (with_reducible refine Below.alloc ?_ ?_ _) | (with_reducible refine Below.drew ?_) | (with_reducible refine below_drewN ?_ _) | (with_reducible refine Below.setCell ?_ ?_ _) | (with_reducible refine Below.trans ?_ (Below.mono (by assumption) ?_)) | (first | go_size | (with_reducible exact Below.size (by assumption)) | (with_reducible exact Nat.le_trans (Below.size (by assumption)) (Below.size (by assumption))) | (refine Nat.le_trans (Below.size (by assumption)) ?_; go_size))))) hA hC); (have x2 := hS.b.reg j hjr); (rw [← HRO.out] at x2); (have x1 : w1.cell? ⟨w.heap.size, 1, none⟩ = some (.int .i64 (j : Int)) := hC.keeps (p := ⟨w.heap.size, 1, none⟩) (v := .int .i64 (j : Int)) (by go_cell) (HNO.out _ (Nat.le_refl _))); (have xw : w1.cell? ⟨w.heap.size, 2, none⟩ = some (.int .i64 W) := hC.keeps (p := ⟨w.heap.size, 2, none⟩) (v := .int .i64 W) (by go_cell) (HNO.out _ (Nat.le_refl _))); (have xf := hS.b.frozen (2 + j)); (have xl := hS.b.lt)))
  go_wp2
  go_ret3
  exact ⟨rfl, hS, hX⟩
set_option maxRecDepth 100000 in
set_option maxHeartbeats 1000000 in
theorem do_4y {σ : Type} (m : Mif σ) (hm : m.Ok) (r i cap : Nat) (c : Cd) (j : Nat) (W V : Int) (w : World) (s : σ) (h : CMAt m w r i cap c s) (hpc : c.pc ≤ 256) (hj : j < 4) (ρ : Int) (hρ : ρ = c.r.getD j 0) (hu : U64 ρ) (he : (m.E s 3 W) = 0) (hb : (m.B s 3 W) = V) :
    Calls Try.prog 74 #[.pointer (some ⟨r, 0, none⟩), insA ⟨4, j, W, V⟩, m.v] w (DoP m w r i cap { c with r := c.r.set j 1 } (m.nx s 3 W V ρ) (.tuple #[.int .i64 ((c.pc + 1 : Nat) : Int), .bool false, .int .i64 0])) := by
  have c1 := h.b.c1
  have hlt := h.b.lt
  have n1 := hm.nc
  have n2 := hm.mc
  have n3 := hm.kc
  have hcl := fun w s h => hm.cc w s W V ρ h hu
  have no2 : ∀ k, w.heap.size ≤ k → ¬ m.own k := fun k hk ho => by have := hm.lt _ _ _ h.at_ ho; omega
  have HNO := Lib.hid no2
  clear no2
  have HE := Lib.hid he
  clear he
  have HR4 := Lib.hid h.r4
  have hjr : j < c.r.length := by rw [HR4.out]; exact hj
  have y2 := h.b.reg j hjr
  rw [← hρ] at y2
  have HRO := Lib.hid hρ
  clear hρ
  have hjI : (j : Int) < 4 := by omega
  have hfz := h.b.frozen
  have hb0 : ((m.B s 3 W) == V) = true := by simpa using hb
  have HB := Lib.hid hb
  clear hb
  go_enter Try.func74, Try.ntmps74
  go_upto_region 18 with (fail)
  go_region_held3 (fun w' => w'.cell? ⟨w.heap.size, 1, none⟩ = some (.int .i64 (j : Int)) ∧ w'.cell? ⟨w.heap.size, 2, none⟩ = some (.int .i64 W) ∧ w'.cell? ⟨r, 2 + j, none⟩ = some (.int .u64 ρ) ∧ w'.cell? ⟨w.heap.size, 3, none⟩ = some (.int .u64 V)) ((refine ⟨?_, ?_, ?_, ?_⟩ <;> first | assumption | go_cell)) (first | ((refine (hcl _ s (hm.below h.at_ (by (repeat' (first | (with_reducible exact Below.refl _ _) | (with_reducible assumption) | (with_reducible refine Below.alloc ?_ ?_ _) | (with_reducible refine Below.drew ?_) | (with_reducible refine below_drewN ?_ _) | (with_reducible refine Below.setCell ?_ ?_ _) | (with_reducible refine Below.trans ?_ (Below.mono (by assumption) ?_)) | (first | go_size | (with_reducible exact Below.size (by assumption)) | (with_reducible exact Nat.le_trans (Below.size (by assumption)) (Below.size (by assumption))) | (refine Nat.le_trans (Below.size (by assumption)) ?_; go_size))))))).mono ?_); ((rw [HE.out]); rintro e w1 ⟨rfl, hA, hC⟩); (obtain ⟨hS, hX⟩ := h.step hm (by (repeat' (first | (with_reducible exact Below.refl _ _) | (with_reducible assumption) | (with_reducible refine Below.alloc ?_ ?_ _) | (with_reducible refine Below.drew ?_) | (with_reducible refine below_drewN ?_ _) | (with_reducible refine Below.setCell ?_ ?_ _) | (with_reducible refine Below.trans ?_ (Below.mono (by assumption) ?_)) | (first | go_size | (with_reducible exact Below.size (by assumption)) | (with_reducible exact Nat.le_trans (Below.size (by assumption)) (Below.size (by assumption))) | (refine Nat.le_trans (Below.size (by assumption)) ?_; go_size))))) hA hC); (have x2 := hS.b.reg j hjr); (rw [← HRO.out] at x2); (have x1 : w1.cell? ⟨w.heap.size, 1, none⟩ = some (.int .i64 (j : Int)) := hC.keeps (p := ⟨w.heap.size, 1, none⟩) (v := .int .i64 (j : Int)) (by go_cell) (HNO.out _ (Nat.le_refl _))); (have xw : w1.cell? ⟨w.heap.size, 2, none⟩ = some (.int .i64 W) := hC.keeps (p := ⟨w.heap.size, 2, none⟩) (v := .int .i64 W) (by go_cell) (HNO.out _ (Nat.le_refl _))); (have x3 : w1.cell? ⟨w.heap.size, 3, none⟩ = some (.int .u64 V) := hC.keeps (p := ⟨w.heap.size, 3, none⟩) (v := .int .u64 V) (by go_cell) (HNO.out _ (Nat.le_refl _))); (have xf := hS.b.frozen (2 + j)); (have xl := hS.b.lt)))
  go_upto_region 20 with (fail)
  have HP : ∀ v W', W' = ((((w1).drewN 1).setCell ⟨r, 2 + j, none⟩ (.int .u64 0)).drewN 1).setCell ⟨r, 2 + j, none⟩ (.int .u64 1) → DoP m w r i cap { c with r := c.r.set j 1 } (m.nx s 3 W V ρ) v (.returned v) W' := fun v W' e => by
    subst e
    have hb0 : Below (w1).heap.size (w1) ((w1).drewN 1) := by (repeat' (first | (with_reducible exact Below.refl _ _) | (with_reducible assumption) | (with_reducible refine Below.alloc ?_ ?_ _) | (with_reducible refine Below.drew ?_) | (with_reducible refine below_drewN ?_ _) | (with_reducible refine Below.setCell ?_ ?_ _) | (with_reducible refine Below.trans ?_ (Below.mono (by assumption) ?_)) | (first | go_size | (with_reducible exact Below.size (by assumption)) | (with_reducible exact Nat.le_trans (Below.size (by assumption)) (Below.size (by assumption))) | (refine Nat.le_trans (Below.size (by assumption)) ?_; go_size))))
    have hS0 := hS.belowB hm hb0
    have hT0 := hS0.store hm (hS0.b.setReg j (by first | exact hjr | (simp; exact hjr)) 0) (by simpa using hS0.r4)
    have hY0 := (hX.trans (Ch.of_below hb0 (fun k => k = r ∨ m.own k)) (fun _ _ e => e)).setCell (p := ⟨r, 2 + j, none⟩) (.inl (.inl rfl)) (.int .u64 0)
    have hb1 : Below (((w1).drewN 1).setCell ⟨r, 2 + j, none⟩ (.int .u64 0)).heap.size (((w1).drewN 1).setCell ⟨r, 2 + j, none⟩ (.int .u64 0)) ((((w1).drewN 1).setCell ⟨r, 2 + j, none⟩ (.int .u64 0)).drewN 1) := by (repeat' (first | (with_reducible exact Below.refl _ _) | (with_reducible assumption) | (with_reducible refine Below.alloc ?_ ?_ _) | (with_reducible refine Below.drew ?_) | (with_reducible refine below_drewN ?_ _) | (with_reducible refine Below.setCell ?_ ?_ _) | (with_reducible refine Below.trans ?_ (Below.mono (by assumption) ?_)) | (first | go_size | (with_reducible exact Below.size (by assumption)) | (with_reducible exact Nat.le_trans (Below.size (by assumption)) (Below.size (by assumption))) | (refine Nat.le_trans (Below.size (by assumption)) ?_; go_size))))
    have hS1 := hT0.belowB hm hb1
    have hT1 := hS1.store hm (hS1.b.setReg j (by first | exact hjr | (simp; exact hjr)) 1) (by simpa using hS1.r4)
    have hY1 := (hY0.trans (Ch.of_below hb1 (fun k => k = r ∨ m.own k)) (fun _ _ e => e)).setCell (p := ⟨r, 2 + j, none⟩) (.inl (.inl rfl)) (.int .u64 1)
    exact ⟨rfl, by simpa using hT1, hY1⟩
  clear hS hX
  go_wp2_with (first | ((with_reducible refine still_tail (id := 20) 6 (by kernel_rfl) (by kernel_rfl) ?_); simp only [List.take_succ_cons, List.take_zero, List.drop_succ_cons, List.drop_zero]; (repeat still_step); refine wpStill_nil ?_) | ((with_reducible refine still_tail (id := 22) 6 (by kernel_rfl) (by kernel_rfl) ?_); simp only [List.take_succ_cons, List.take_zero, List.drop_succ_cons, List.drop_zero]; (repeat still_step); refine wpStill_nil ?_))
  go_ret3
  exact HP _ _ rfl
set_option maxRecDepth 100000 in
set_option maxHeartbeats 1000000 in
theorem do_4f {σ : Type} (m : Mif σ) (hm : m.Ok) (r i cap : Nat) (c : Cd) (j : Nat) (W V : Int) (w : World) (s : σ) (h : CMAt m w r i cap c s) (hpc : c.pc ≤ 256) (hj : j < 4) (ρ : Int) (hρ : ρ = c.r.getD j 0) (hu : U64 ρ) (he : (m.E s 3 W) = 0) (hb : (m.B s 3 W) ≠ V) :
    Calls Try.prog 74 #[.pointer (some ⟨r, 0, none⟩), insA ⟨4, j, W, V⟩, m.v] w (DoP m w r i cap { c with r := c.r.set j 0 } (m.nx s 3 W V ρ) (.tuple #[.int .i64 ((c.pc + 1 : Nat) : Int), .bool false, .int .i64 0])) := by
  have c1 := h.b.c1
  have hlt := h.b.lt
  have n1 := hm.nc
  have n2 := hm.mc
  have n3 := hm.kc
  have hcl := fun w s h => hm.cc w s W V ρ h hu
  have no2 : ∀ k, w.heap.size ≤ k → ¬ m.own k := fun k hk ho => by have := hm.lt _ _ _ h.at_ ho; omega
  have HNO := Lib.hid no2
  clear no2
  have HE := Lib.hid he
  clear he
  have HR4 := Lib.hid h.r4
  have hjr : j < c.r.length := by rw [HR4.out]; exact hj
  have y2 := h.b.reg j hjr
  rw [← hρ] at y2
  have HRO := Lib.hid hρ
  clear hρ
  have hjI : (j : Int) < 4 := by omega
  have hfz := h.b.frozen
  have hb0 : ((m.B s 3 W) == V) = false := by simpa using hb
  have HB := Lib.hid hb
  clear hb
  go_enter Try.func74, Try.ntmps74
  go_upto_region 18 with (fail)
  go_region_held3 (fun w' => w'.cell? ⟨w.heap.size, 1, none⟩ = some (.int .i64 (j : Int)) ∧ w'.cell? ⟨w.heap.size, 2, none⟩ = some (.int .i64 W) ∧ w'.cell? ⟨r, 2 + j, none⟩ = some (.int .u64 ρ) ∧ w'.cell? ⟨w.heap.size, 3, none⟩ = some (.int .u64 V)) ((refine ⟨?_, ?_, ?_, ?_⟩ <;> first | assumption | go_cell)) (first | ((refine (hcl _ s (hm.below h.at_ (by (repeat' (first | (with_reducible exact Below.refl _ _) | (with_reducible assumption) | (with_reducible refine Below.alloc ?_ ?_ _) | (with_reducible refine Below.drew ?_) | (with_reducible refine below_drewN ?_ _) | (with_reducible refine Below.setCell ?_ ?_ _) | (with_reducible refine Below.trans ?_ (Below.mono (by assumption) ?_)) | (first | go_size | (with_reducible exact Below.size (by assumption)) | (with_reducible exact Nat.le_trans (Below.size (by assumption)) (Below.size (by assumption))) | (refine Nat.le_trans (Below.size (by assumption)) ?_; go_size))))))).mono ?_); ((rw [HE.out]); rintro e w1 ⟨rfl, hA, hC⟩); (obtain ⟨hS, hX⟩ := h.step hm (by (repeat' (first | (with_reducible exact Below.refl _ _) | (with_reducible assumption) | (with_reducible refine Below.alloc ?_ ?_ _) | (with_reducible refine Below.drew ?_) | (with_reducible refine below_drewN ?_ _) | (with_reducible refine Below.setCell ?_ ?_ _) | (with_reducible refine Below.trans ?_ (Below.mono (by assumption) ?_)) | (first | go_size | (with_reducible exact Below.size (by assumption)) | (with_reducible exact Nat.le_trans (Below.size (by assumption)) (Below.size (by assumption))) | (refine Nat.le_trans (Below.size (by assumption)) ?_; go_size))))) hA hC); (have x2 := hS.b.reg j hjr); (rw [← HRO.out] at x2); (have x1 : w1.cell? ⟨w.heap.size, 1, none⟩ = some (.int .i64 (j : Int)) := hC.keeps (p := ⟨w.heap.size, 1, none⟩) (v := .int .i64 (j : Int)) (by go_cell) (HNO.out _ (Nat.le_refl _))); (have xw : w1.cell? ⟨w.heap.size, 2, none⟩ = some (.int .i64 W) := hC.keeps (p := ⟨w.heap.size, 2, none⟩) (v := .int .i64 W) (by go_cell) (HNO.out _ (Nat.le_refl _))); (have x3 : w1.cell? ⟨w.heap.size, 3, none⟩ = some (.int .u64 V) := hC.keeps (p := ⟨w.heap.size, 3, none⟩) (v := .int .u64 V) (by go_cell) (HNO.out _ (Nat.le_refl _))); (have xf := hS.b.frozen (2 + j)); (have xl := hS.b.lt)))
  go_upto_region 20 with (fail)
  have HP : ∀ v W', W' = ((w1).drewN 1).setCell ⟨r, 2 + j, none⟩ (.int .u64 0) → DoP m w r i cap { c with r := c.r.set j 0 } (m.nx s 3 W V ρ) v (.returned v) W' := fun v W' e => by
    subst e
    have hb0 : Below (w1).heap.size (w1) ((w1).drewN 1) := by (repeat' (first | (with_reducible exact Below.refl _ _) | (with_reducible assumption) | (with_reducible refine Below.alloc ?_ ?_ _) | (with_reducible refine Below.drew ?_) | (with_reducible refine below_drewN ?_ _) | (with_reducible refine Below.setCell ?_ ?_ _) | (with_reducible refine Below.trans ?_ (Below.mono (by assumption) ?_)) | (first | go_size | (with_reducible exact Below.size (by assumption)) | (with_reducible exact Nat.le_trans (Below.size (by assumption)) (Below.size (by assumption))) | (refine Nat.le_trans (Below.size (by assumption)) ?_; go_size))))
    have hS0 := hS.belowB hm hb0
    have hT0 := hS0.store hm (hS0.b.setReg j (by first | exact hjr | (simp; exact hjr)) 0) (by simpa using hS0.r4)
    have hY0 := (hX.trans (Ch.of_below hb0 (fun k => k = r ∨ m.own k)) (fun _ _ e => e)).setCell (p := ⟨r, 2 + j, none⟩) (.inl (.inl rfl)) (.int .u64 0)
    exact ⟨rfl, hT0, hY0⟩
  clear hS hX
  go_wp2_with (first | ((with_reducible refine still_tail (id := 20) 6 (by kernel_rfl) (by kernel_rfl) ?_); simp only [List.take_succ_cons, List.take_zero, List.drop_succ_cons, List.drop_zero]; (repeat still_step); refine wpStill_nil ?_) | ((with_reducible refine still_tail (id := 22) 6 (by kernel_rfl) (by kernel_rfl) ?_); simp only [List.take_succ_cons, List.take_zero, List.drop_succ_cons, List.drop_zero]; (repeat still_step); refine wpStill_nil ?_))
  go_ret3
  exact HP _ _ rfl
set_option maxRecDepth 100000 in
set_option maxHeartbeats 1000000 in
theorem do_4n {σ : Type} (m : Mif σ) (hm : m.Ok) (r i cap : Nat) (c : Cd) (j : Nat) (W V : Int) (w : World) (s : σ) (h : CMAt m w r i cap c s) (hpc : c.pc ≤ 256) (hj : j < 4) (ρ : Int) (hρ : ρ = c.r.getD j 0) (hu : U64 ρ) (he : (m.E s 3 W) ≠ 0) :
    Calls Try.prog 74 #[.pointer (some ⟨r, 0, none⟩), insA ⟨4, j, W, V⟩, m.v] w (DoP m w r i cap c (m.nx s 3 W V ρ) (.tuple #[.int .i64 ((c.pc + 1 : Nat) : Int), .bool false, .int .i64 (m.E s 3 W)])) := by
  have c1 := h.b.c1
  have hlt := h.b.lt
  have n1 := hm.nc
  have n2 := hm.mc
  have n3 := hm.kc
  have hcl := fun w s h => hm.cc w s W V ρ h hu
  have no2 : ∀ k, w.heap.size ≤ k → ¬ m.own k := fun k hk ho => by have := hm.lt _ _ _ h.at_ ho; omega
  have HNO := Lib.hid no2
  clear no2
  have he0 : ((m.E s 3 W) == 0) = false := by simpa using he
  have HE := Lib.hid he
  clear he
  have HR4 := Lib.hid h.r4
  have hjr : j < c.r.length := by rw [HR4.out]; exact hj
  have y2 := h.b.reg j hjr
  rw [← hρ] at y2
  have HRO := Lib.hid hρ
  clear hρ
  have hjI : (j : Int) < 4 := by omega
  have hfz := h.b.frozen
  go_enter Try.func74, Try.ntmps74
  go_upto_region 18 with (fail)
  go_region_held3 (fun w' => w'.cell? ⟨w.heap.size, 1, none⟩ = some (.int .i64 (j : Int)) ∧ w'.cell? ⟨w.heap.size, 2, none⟩ = some (.int .i64 W) ∧ w'.cell? ⟨r, 2 + j, none⟩ = some (.int .u64 ρ) ∧ w'.cell? ⟨w.heap.size, 3, none⟩ = some (.int .u64 V)) ((refine ⟨?_, ?_, ?_, ?_⟩ <;> first | assumption | go_cell)) (first | ((refine (hcl _ s (hm.below h.at_ (by (repeat' (first | (with_reducible exact Below.refl _ _) | (with_reducible assumption) | (with_reducible refine Below.alloc ?_ ?_ _) | (with_reducible refine Below.drew ?_) | (with_reducible refine below_drewN ?_ _) | (with_reducible refine Below.setCell ?_ ?_ _) | (with_reducible refine Below.trans ?_ (Below.mono (by assumption) ?_)) | (first | go_size | (with_reducible exact Below.size (by assumption)) | (with_reducible exact Nat.le_trans (Below.size (by assumption)) (Below.size (by assumption))) | (refine Nat.le_trans (Below.size (by assumption)) ?_; go_size))))))).mono ?_); (rintro e w1 ⟨rfl, hA, hC⟩); (obtain ⟨hS, hX⟩ := h.step hm (by (repeat' (first | (with_reducible exact Below.refl _ _) | (with_reducible assumption) | (with_reducible refine Below.alloc ?_ ?_ _) | (with_reducible refine Below.drew ?_) | (with_reducible refine below_drewN ?_ _) | (with_reducible refine Below.setCell ?_ ?_ _) | (with_reducible refine Below.trans ?_ (Below.mono (by assumption) ?_)) | (first | go_size | (with_reducible exact Below.size (by assumption)) | (with_reducible exact Nat.le_trans (Below.size (by assumption)) (Below.size (by assumption))) | (refine Nat.le_trans (Below.size (by assumption)) ?_; go_size))))) hA hC); (have x2 := hS.b.reg j hjr); (rw [← HRO.out] at x2); (have x1 : w1.cell? ⟨w.heap.size, 1, none⟩ = some (.int .i64 (j : Int)) := hC.keeps (p := ⟨w.heap.size, 1, none⟩) (v := .int .i64 (j : Int)) (by go_cell) (HNO.out _ (Nat.le_refl _))); (have xw : w1.cell? ⟨w.heap.size, 2, none⟩ = some (.int .i64 W) := hC.keeps (p := ⟨w.heap.size, 2, none⟩) (v := .int .i64 W) (by go_cell) (HNO.out _ (Nat.le_refl _))); (have x3 : w1.cell? ⟨w.heap.size, 3, none⟩ = some (.int .u64 V) := hC.keeps (p := ⟨w.heap.size, 3, none⟩) (v := .int .u64 V) (by go_cell) (HNO.out _ (Nat.le_refl _))); (have xf := hS.b.frozen (2 + j)); (have xl := hS.b.lt)))
  go_wp2
  go_ret3
  exact ⟨rfl, hS, hX⟩
set_option maxRecDepth 100000 in
set_option maxHeartbeats 1000000 in
theorem do_5y {σ : Type} (m : Mif σ) (hm : m.Ok) (r i cap : Nat) (c : Cd) (j : Int) (W V : Int) (w : World) (s : σ) (h : CMAt m w r i cap c s) (hpc : c.pc ≤ 256) (he : (m.E s 1 W) = 0) (hb : (m.B s 1 W) = V) :
    Calls Try.prog 74 #[.pointer (some ⟨r, 0, none⟩), insA ⟨5, j, W, V⟩, m.v] w (DoP m w r i cap c (m.nx s 1 W 0 0) (.tuple #[.int .i64 ((c.pc + 1 : Nat) : Int), .bool false, .int .i64 0])) := by
  have c1 := h.b.c1
  have hlt := h.b.lt
  have n1 := hm.nl
  have n2 := hm.ml
  have n3 := hm.kl
  have hcl := fun w s => hm.cl w s W
  have no2 : ∀ k, w.heap.size ≤ k → ¬ m.own k := fun k hk ho => by have := hm.lt _ _ _ h.at_ ho; omega
  have HNO := Lib.hid no2
  clear no2
  have HE := Lib.hid he
  clear he
  have HR4 := Lib.hid h.r4
  have hfz := h.b.frozen
  have hb0 : ((m.B s 1 W) == V) = true := by simpa using hb
  have hb1 : ((m.B s 1 W) != V) = false := by simpa using hb
  have HB := Lib.hid hb
  clear hb
  go_enter Try.func74, Try.ntmps74
  go_upto_region 26 with (refine (hcl _ s (hm.below h.at_ (by (repeat' (first | (with_reducible exact Below.refl _ _) | (with_reducible assumption) | (with_reducible refine Below.alloc ?_ ?_ _) | (with_reducible refine Below.drew ?_) | (with_reducible refine below_drewN ?_ _) | (with_reducible refine Below.setCell ?_ ?_ _) | (with_reducible refine Below.trans ?_ (Below.mono (by assumption) ?_)) | (first | go_size | (with_reducible exact Below.size (by assumption)) | (with_reducible exact Nat.le_trans (Below.size (by assumption)) (Below.size (by assumption))) | (refine Nat.le_trans (Below.size (by assumption)) ?_; go_size))))))).mono ?_; rw [HE.out]; rintro e w1 ⟨rfl, hA, hC⟩)
  obtain ⟨hS, hX⟩ := h.step hm (by (repeat' (first | (with_reducible exact Below.refl _ _) | (with_reducible assumption) | (with_reducible refine Below.alloc ?_ ?_ _) | (with_reducible refine Below.drew ?_) | (with_reducible refine below_drewN ?_ _) | (with_reducible refine Below.setCell ?_ ?_ _) | (with_reducible refine Below.trans ?_ (Below.mono (by assumption) ?_)) | (first | go_size | (with_reducible exact Below.size (by assumption)) | (with_reducible exact Nat.le_trans (Below.size (by assumption)) (Below.size (by assumption))) | (refine Nat.le_trans (Below.size (by assumption)) ?_; go_size))))) hA hC
  have x3 : w1.cell? ⟨w.heap.size, 3, none⟩ = some (.int .u64 V) := hC.keeps (p := ⟨w.heap.size, 3, none⟩) (v := .int .u64 V) (by go_cell) (HNO.out _ (Nat.le_refl _))
  go_wp2
  go_ret3
  exact ⟨rfl, hS, hX⟩
set_option maxRecDepth 100000 in
set_option maxHeartbeats 1000000 in
theorem do_5w {σ : Type} (m : Mif σ) (hm : m.Ok) (r i cap : Nat) (c : Cd) (j : Int) (W V : Int) (w : World) (s : σ) (h : CMAt m w r i cap c s) (hpc : c.pc ≤ 256) (he : (m.E s 1 W) = 0) (hb : (m.B s 1 W) ≠ V) :
    Calls Try.prog 74 #[.pointer (some ⟨r, 0, none⟩), insA ⟨5, j, W, V⟩, m.v] w (DoP m w r i cap c (m.nx s 1 W 0 0) (.tuple #[.int .i64 ((c.pc + 1 : Nat) : Int), .bool true, .int .i64 0])) := by
  have c1 := h.b.c1
  have hlt := h.b.lt
  have n1 := hm.nl
  have n2 := hm.ml
  have n3 := hm.kl
  have hcl := fun w s => hm.cl w s W
  have no2 : ∀ k, w.heap.size ≤ k → ¬ m.own k := fun k hk ho => by have := hm.lt _ _ _ h.at_ ho; omega
  have HNO := Lib.hid no2
  clear no2
  have HE := Lib.hid he
  clear he
  have HR4 := Lib.hid h.r4
  have hfz := h.b.frozen
  have hb0 : ((m.B s 1 W) == V) = false := by simpa using hb
  have hb1 : ((m.B s 1 W) != V) = true := by simpa using hb
  have HB := Lib.hid hb
  clear hb
  go_enter Try.func74, Try.ntmps74
  go_upto_region 26 with (refine (hcl _ s (hm.below h.at_ (by (repeat' (first | (with_reducible exact Below.refl _ _) | (with_reducible assumption) | (with_reducible refine Below.alloc ?_ ?_ _) | (with_reducible refine Below.drew ?_) | (with_reducible refine below_drewN ?_ _) | (with_reducible refine Below.setCell ?_ ?_ _) | (with_reducible refine Below.trans ?_ (Below.mono (by assumption) ?_)) | (first | go_size | (with_reducible exact Below.size (by assumption)) | (with_reducible exact Nat.le_trans (Below.size (by assumption)) (Below.size (by assumption))) | (refine Nat.le_trans (Below.size (by assumption)) ?_; go_size))))))).mono ?_; rw [HE.out]; rintro e w1 ⟨rfl, hA, hC⟩)
  obtain ⟨hS, hX⟩ := h.step hm (by (repeat' (first | (with_reducible exact Below.refl _ _) | (with_reducible assumption) | (with_reducible refine Below.alloc ?_ ?_ _) | (with_reducible refine Below.drew ?_) | (with_reducible refine below_drewN ?_ _) | (with_reducible refine Below.setCell ?_ ?_ _) | (with_reducible refine Below.trans ?_ (Below.mono (by assumption) ?_)) | (first | go_size | (with_reducible exact Below.size (by assumption)) | (with_reducible exact Nat.le_trans (Below.size (by assumption)) (Below.size (by assumption))) | (refine Nat.le_trans (Below.size (by assumption)) ?_; go_size))))) hA hC
  have x3 : w1.cell? ⟨w.heap.size, 3, none⟩ = some (.int .u64 V) := hC.keeps (p := ⟨w.heap.size, 3, none⟩) (v := .int .u64 V) (by go_cell) (HNO.out _ (Nat.le_refl _))
  go_wp2
  go_ret3
  exact ⟨rfl, hS, hX⟩
set_option maxRecDepth 100000 in
set_option maxHeartbeats 1000000 in
theorem do_5n {σ : Type} (m : Mif σ) (hm : m.Ok) (r i cap : Nat) (c : Cd) (j : Int) (W V : Int) (w : World) (s : σ) (h : CMAt m w r i cap c s) (hpc : c.pc ≤ 256) (he : (m.E s 1 W) ≠ 0) :
    Calls Try.prog 74 #[.pointer (some ⟨r, 0, none⟩), insA ⟨5, j, W, V⟩, m.v] w (DoP m w r i cap c (m.nx s 1 W 0 0) (.tuple #[.int .i64 ((c.pc + 1 : Nat) : Int), .bool false, .int .i64 (m.E s 1 W)])) := by
  have c1 := h.b.c1
  have hlt := h.b.lt
  have n1 := hm.nl
  have n2 := hm.ml
  have n3 := hm.kl
  have hcl := fun w s => hm.cl w s W
  have no2 : ∀ k, w.heap.size ≤ k → ¬ m.own k := fun k hk ho => by have := hm.lt _ _ _ h.at_ ho; omega
  have HNO := Lib.hid no2
  clear no2
  have he0 : ((m.E s 1 W) == 0) = false := by simpa using he
  have HE := Lib.hid he
  clear he
  have HR4 := Lib.hid h.r4
  have hfz := h.b.frozen
  go_enter Try.func74, Try.ntmps74
  go_wp2_with (refine (hcl _ s (hm.below h.at_ (by (repeat' (first | (with_reducible exact Below.refl _ _) | (with_reducible assumption) | (with_reducible refine Below.alloc ?_ ?_ _) | (with_reducible refine Below.drew ?_) | (with_reducible refine below_drewN ?_ _) | (with_reducible refine Below.setCell ?_ ?_ _) | (with_reducible refine Below.trans ?_ (Below.mono (by assumption) ?_)) | (first | go_size | (with_reducible exact Below.size (by assumption)) | (with_reducible exact Nat.le_trans (Below.size (by assumption)) (Below.size (by assumption))) | (refine Nat.le_trans (Below.size (by assumption)) ?_; go_size))))))).mono ?_; rintro e w1 ⟨rfl, hA, hC⟩)
  obtain ⟨hS, hX⟩ := h.step hm (by (repeat' (first | (with_reducible exact Below.refl _ _) | (with_reducible assumption) | (with_reducible refine Below.alloc ?_ ?_ _) | (with_reducible refine Below.drew ?_) | (with_reducible refine below_drewN ?_ _) | (with_reducible refine Below.setCell ?_ ?_ _) | (with_reducible refine Below.trans ?_ (Below.mono (by assumption) ?_)) | (first | go_size | (with_reducible exact Below.size (by assumption)) | (with_reducible exact Nat.le_trans (Below.size (by assumption)) (Below.size (by assumption))) | (refine Nat.le_trans (Below.size (by assumption)) ?_; go_size))))) hA hC
  go_ret3
  exact ⟨rfl, hS, hX⟩
set_option maxRecDepth 100000 in
set_option maxHeartbeats 1000000 in
theorem do_6 {σ : Type} (m : Mif σ) (hm : m.Ok) (r i cap : Nat) (c : Cd) (j : Nat) (W V : Int) (w : World) (s : σ) (h : CMAt m w r i cap c s) (hpc : c.pc ≤ 256) (hj : j < 4) (ρ : Int) (hρ : ρ = c.r.getD j 0) :
    Calls Try.prog 74 #[.pointer (some ⟨r, 0, none⟩), insA ⟨6, j, W, V⟩, m.v] w (DoP m w r i cap { c with r := c.r.set j V } s (.tuple #[.int .i64 ((c.pc + 1 : Nat) : Int), .bool false, .int .i64 0])) := by
  have c1 := h.b.c1
  have hlt := h.b.lt
  have HR4 := Lib.hid h.r4
  have hjr : j < c.r.length := by rw [HR4.out]; exact hj
  have y2 := h.b.reg j hjr
  rw [← hρ] at y2
  have HRO := Lib.hid hρ
  clear hρ
  have hjI : (j : Int) < 4 := by omega
  have hfz := h.b.frozen
  go_enter Try.func74, Try.ntmps74
  have hb : Below w.heap.size w (w.alloc (.cells #[.int .i64 6, .int .i64 j, .int .i64 W, .int .u64 V] 70)) := by (repeat' (first | (with_reducible exact Below.refl _ _) | (with_reducible assumption) | (with_reducible refine Below.alloc ?_ ?_ _) | (with_reducible refine Below.drew ?_) | (with_reducible refine below_drewN ?_ _) | (with_reducible refine Below.setCell ?_ ?_ _) | (with_reducible refine Below.trans ?_ (Below.mono (by assumption) ?_)) | (first | go_size | (with_reducible exact Below.size (by assumption)) | (with_reducible exact Nat.le_trans (Below.size (by assumption)) (Below.size (by assumption))) | (refine Nat.le_trans (Below.size (by assumption)) ?_; go_size))))
  have h0 := h.belowB hm hb
  have hX0 := Ch.of_below hb (fun k => k = r ∨ m.own k)
  have HP : ∀ v W', W' = (((w.alloc (.cells #[.int .i64 6, .int .i64 j, .int .i64 W, .int .u64 V] 70))).drewN 1).setCell ⟨r, 2 + j, none⟩ (.int .u64 V) → DoP m w r i cap { c with r := c.r.set j V } s v (.returned v) W' := fun v W' e => by
    subst e
    have hb0 : Below ((w.alloc (.cells #[.int .i64 6, .int .i64 j, .int .i64 W, .int .u64 V] 70))).heap.size ((w.alloc (.cells #[.int .i64 6, .int .i64 j, .int .i64 W, .int .u64 V] 70))) (((w.alloc (.cells #[.int .i64 6, .int .i64 j, .int .i64 W, .int .u64 V] 70))).drewN 1) := by (repeat' (first | (with_reducible exact Below.refl _ _) | (with_reducible assumption) | (with_reducible refine Below.alloc ?_ ?_ _) | (with_reducible refine Below.drew ?_) | (with_reducible refine below_drewN ?_ _) | (with_reducible refine Below.setCell ?_ ?_ _) | (with_reducible refine Below.trans ?_ (Below.mono (by assumption) ?_)) | (first | go_size | (with_reducible exact Below.size (by assumption)) | (with_reducible exact Nat.le_trans (Below.size (by assumption)) (Below.size (by assumption))) | (refine Nat.le_trans (Below.size (by assumption)) ?_; go_size))))
    have hS0 := h0.belowB hm hb0
    have hT0 := hS0.store hm (hS0.b.setReg j (by first | exact hjr | (simp; exact hjr)) V) (by simpa using hS0.r4)
    have hY0 := (hX0.trans (Ch.of_below hb0 (fun k => k = r ∨ m.own k)) (fun _ _ e => e)).setCell (p := ⟨r, 2 + j, none⟩) (.inl (.inl rfl)) (.int .u64 V)
    exact ⟨rfl, hT0, hY0⟩
  clear h0 hX0 hb
  go_wp2_with ((with_reducible refine still_tail (id := 28) 8 (by kernel_rfl) (by kernel_rfl) ?_); simp only [List.take_succ_cons, List.take_zero, List.drop_succ_cons, List.drop_zero]; (repeat still_step); refine wpStill_nil ?_)
  go_ret3
  exact HP _ _ rfl
set_option maxRecDepth 100000 in
set_option maxHeartbeats 1000000 in
theorem do_7 {σ : Type} (m : Mif σ) (hm : m.Ok) (r i cap : Nat) (c : Cd) (j : Nat) (W V : Int) (w : World) (s : σ) (h : CMAt m w r i cap c s) (hpc : c.pc ≤ 256) (hj : j < 4) (ρ : Int) (hρ : ρ = c.r.getD j 0) :
    Calls Try.prog 74 #[.pointer (some ⟨r, 0, none⟩), insA ⟨7, j, W, V⟩, m.v] w (DoP m w r i cap { c with r := c.r.set j ((ρ + V) % 18446744073709551616) } s (.tuple #[.int .i64 ((c.pc + 1 : Nat) : Int), .bool false, .int .i64 0])) := by
  have c1 := h.b.c1
  have hlt := h.b.lt
  have HR4 := Lib.hid h.r4
  have hjr : j < c.r.length := by rw [HR4.out]; exact hj
  have y2 := h.b.reg j hjr
  rw [← hρ] at y2
  have HRO := Lib.hid hρ
  clear hρ
  have hjI : (j : Int) < 4 := by omega
  have hfz := h.b.frozen
  go_enter Try.func74, Try.ntmps74
  have hb : Below w.heap.size w (w.alloc (.cells #[.int .i64 7, .int .i64 j, .int .i64 W, .int .u64 V] 70)) := by (repeat' (first | (with_reducible exact Below.refl _ _) | (with_reducible assumption) | (with_reducible refine Below.alloc ?_ ?_ _) | (with_reducible refine Below.drew ?_) | (with_reducible refine below_drewN ?_ _) | (with_reducible refine Below.setCell ?_ ?_ _) | (with_reducible refine Below.trans ?_ (Below.mono (by assumption) ?_)) | (first | go_size | (with_reducible exact Below.size (by assumption)) | (with_reducible exact Nat.le_trans (Below.size (by assumption)) (Below.size (by assumption))) | (refine Nat.le_trans (Below.size (by assumption)) ?_; go_size))))
  have h0 := h.belowB hm hb
  have hX0 := Ch.of_below hb (fun k => k = r ∨ m.own k)
  have HP : ∀ v W', W' = (((w.alloc (.cells #[.int .i64 7, .int .i64 j, .int .i64 W, .int .u64 V] 70))).drewN 1).setCell ⟨r, 2 + j, none⟩ (.int .u64 ((ρ + V) % 18446744073709551616)) → DoP m w r i cap { c with r := c.r.set j ((ρ + V) % 18446744073709551616) } s v (.returned v) W' := fun v W' e => by
    subst e
    have hb0 : Below ((w.alloc (.cells #[.int .i64 7, .int .i64 j, .int .i64 W, .int .u64 V] 70))).heap.size ((w.alloc (.cells #[.int .i64 7, .int .i64 j, .int .i64 W, .int .u64 V] 70))) (((w.alloc (.cells #[.int .i64 7, .int .i64 j, .int .i64 W, .int .u64 V] 70))).drewN 1) := by (repeat' (first | (with_reducible exact Below.refl _ _) | (with_reducible assumption) | (with_reducible refine Below.alloc ?_ ?_ _) | (with_reducible refine Below.drew ?_) | (with_reducible refine below_drewN ?_ _) | (with_reducible refine Below.setCell ?_ ?_ _) | (with_reducible refine Below.trans ?_ (Below.mono (by assumption) ?_)) | (first | go_size | (with_reducible exact Below.size (by assumption)) | (with_reducible exact Nat.le_trans (Below.size (by assumption)) (Below.size (by assumption))) | (refine Nat.le_trans (Below.size (by assumption)) ?_; go_size))))
    have hS0 := h0.belowB hm hb0
    have hT0 := hS0.store hm (hS0.b.setReg j (by first | exact hjr | (simp; exact hjr)) ((ρ + V) % 18446744073709551616)) (by simpa using hS0.r4)
    have hY0 := (hX0.trans (Ch.of_below hb0 (fun k => k = r ∨ m.own k)) (fun _ _ e => e)).setCell (p := ⟨r, 2 + j, none⟩) (.inl (.inl rfl)) (.int .u64 ((ρ + V) % 18446744073709551616))
    exact ⟨rfl, hT0, hY0⟩
  clear h0 hX0 hb
  go_wp2_with ((with_reducible refine still_tail (id := 30) 13 (by kernel_rfl) (by kernel_rfl) ?_); simp only [List.take_succ_cons, List.take_zero, List.drop_succ_cons, List.drop_zero]; (repeat still_step); refine wpStill_nil ?_)
  go_ret3
  exact HP _ _ rfl
set_option maxRecDepth 100000 in
set_option maxHeartbeats 1000000 in
theorem do_8y {σ : Type} (m : Mif σ) (hm : m.Ok) (r i cap : Nat) (c : Cd) (j : Nat) (W V : Int) (w : World) (s : σ) (h : CMAt m w r i cap c s) (hpc : c.pc ≤ 256) (hj : j < 4) (ρ : Int) (hρ : ρ = c.r.getD j 0) (hb : ρ = V) :
    Calls Try.prog 74 #[.pointer (some ⟨r, 0, none⟩), insA ⟨8, j, W, V⟩, m.v] w (DoP m w r i cap c s (.tuple #[.int .i64 W, .bool false, .int .i64 0])) := by
  have c1 := h.b.c1
  have hlt := h.b.lt
  have HR4 := Lib.hid h.r4
  have hjr : j < c.r.length := by rw [HR4.out]; exact hj
  have y2 := h.b.reg j hjr
  rw [← hρ] at y2
  have HRO := Lib.hid hρ
  clear hρ
  have hjI : (j : Int) < 4 := by omega
  have hfz := h.b.frozen
  have hb0 : (ρ == V) = true := by simpa using hb
  have HB := Lib.hid hb
  clear hb
  go_enter Try.func74, Try.ntmps74
  go_wp2_with (go_quiet (fail))
  go_ret3
  exact ⟨rfl, h.belowB hm (by (repeat' (first | (with_reducible exact Below.refl _ _) | (with_reducible assumption) | (with_reducible refine Below.alloc ?_ ?_ _) | (with_reducible refine Below.drew ?_) | (with_reducible refine below_drewN ?_ _) | (with_reducible refine Below.setCell ?_ ?_ _) | (with_reducible refine Below.trans ?_ (Below.mono (by assumption) ?_)) | (first | go_size | (with_reducible exact Below.size (by assumption)) | (with_reducible exact Nat.le_trans (Below.size (by assumption)) (Below.size (by assumption))) | (refine Nat.le_trans (Below.size (by assumption)) ?_; go_size))))), Ch.of_below (by (repeat' (first | (with_reducible exact Below.refl _ _) | (with_reducible assumption) | (with_reducible refine Below.alloc ?_ ?_ _) | (with_reducible refine Below.drew ?_) | (with_reducible refine below_drewN ?_ _) | (with_reducible refine Below.setCell ?_ ?_ _) | (with_reducible refine Below.trans ?_ (Below.mono (by assumption) ?_)) | (first | go_size | (with_reducible exact Below.size (by assumption)) | (with_reducible exact Nat.le_trans (Below.size (by assumption)) (Below.size (by assumption))) | (refine Nat.le_trans (Below.size (by assumption)) ?_; go_size))))) _⟩
set_option maxRecDepth 100000 in
set_option maxHeartbeats 1000000 in
theorem do_8n {σ : Type} (m : Mif σ) (hm : m.Ok) (r i cap : Nat) (c : Cd) (j : Nat) (W V : Int) (w : World) (s : σ) (h : CMAt m w r i cap c s) (hpc : c.pc ≤ 256) (hj : j < 4) (ρ : Int) (hρ : ρ = c.r.getD j 0) (hb : ρ ≠ V) :
    Calls Try.prog 74 #[.pointer (some ⟨r, 0, none⟩), insA ⟨8, j, W, V⟩, m.v] w (DoP m w r i cap c s (.tuple #[.int .i64 ((c.pc + 1 : Nat) : Int), .bool false, .int .i64 0])) := by
  have c1 := h.b.c1
  have hlt := h.b.lt
  have HR4 := Lib.hid h.r4
  have hjr : j < c.r.length := by rw [HR4.out]; exact hj
  have y2 := h.b.reg j hjr
  rw [← hρ] at y2
  have HRO := Lib.hid hρ
  clear hρ
  have hjI : (j : Int) < 4 := by omega
  have hfz := h.b.frozen
  have hb0 : (ρ == V) = false := by simpa using hb
  have HB := Lib.hid hb
  clear hb
  go_enter Try.func74, Try.ntmps74
  go_wp2_with (go_quiet (fail))
  go_ret3
  exact ⟨rfl, h.belowB hm (by (repeat' (first | (with_reducible exact Below.refl _ _) | (with_reducible assumption) | (with_reducible refine Below.alloc ?_ ?_ _) | (with_reducible refine Below.drew ?_) | (with_reducible refine below_drewN ?_ _) | (with_reducible refine Below.setCell ?_ ?_ _) | (with_reducible refine Below.trans ?_ (Below.mono (by assumption) ?_)) | (first | go_size | (with_reducible exact Below.size (by assumption)) | (with_reducible exact Nat.le_trans (Below.size (by assumption)) (Below.size (by assumption))) | (refine Nat.le_trans (Below.size (by assumption)) ?_; go_size))))), Ch.of_below (by (repeat' (first | (with_reducible exact Below.refl _ _) | (with_reducible assumption) | (with_reducible refine Below.alloc ?_ ?_ _) | (with_reducible refine Below.drew ?_) | (with_reducible refine below_drewN ?_ _) | (with_reducible refine Below.setCell ?_ ?_ _) | (with_reducible refine Below.trans ?_ (Below.mono (by assumption) ?_)) | (first | go_size | (with_reducible exact Below.size (by assumption)) | (with_reducible exact Nat.le_trans (Below.size (by assumption)) (Below.size (by assumption))) | (refine Nat.le_trans (Below.size (by assumption)) ?_; go_size))))) _⟩
set_option maxRecDepth 100000 in
set_option maxHeartbeats 1000000 in
theorem do_9 {σ : Type} (m : Mif σ) (hm : m.Ok) (r i cap : Nat) (c : Cd) (j : Nat) (W V : Int) (w : World) (s : σ) (h : CMAt m w r i cap c s) (hpc : c.pc ≤ 256) (hj : j < 4) (ρ : Int) (hρ : ρ = c.r.getD j 0) :
    Calls Try.prog 74 #[.pointer (some ⟨r, 0, none⟩), insA ⟨9, j, W, V⟩, m.v] w (DoP m w r i cap { c with res := ρ, ended := true } s (.tuple #[.int .i64 ((c.pc + 1 : Nat) : Int), .bool false, .int .i64 0])) := by
  have c1 := h.b.c1
  have hlt := h.b.lt
  have HR4 := Lib.hid h.r4
  have hjr : j < c.r.length := by rw [HR4.out]; exact hj
  have y2 := h.b.reg j hjr
  rw [← hρ] at y2
  have HRO := Lib.hid hρ
  clear hρ
  have hjI : (j : Int) < 4 := by omega
  have hfz := h.b.frozen
  have z6 := h.b.c6 h.r4
  have z7 := h.b.c7 h.r4
  have HP := fun W' => endP (w' := W') h hm h.r4 ρ (.tuple #[.int .i64 ((c.pc + 1 : Nat) : Int), .bool false, .int .i64 0])
  go_enter Try.func74, Try.ntmps74
  go_upto_region 3 with (fail)
  go_region_with (fail)
  all_goals go_wp2
  all_goals go_ret3
  all_goals exact HP _ (by (repeat' (first | (with_reducible exact Below.refl _ _) | (with_reducible assumption) | (with_reducible refine Below.alloc ?_ ?_ _) | (with_reducible refine Below.drew ?_) | (with_reducible refine below_drewN ?_ _) | (with_reducible refine Below.setCell ?_ ?_ _) | (with_reducible refine Below.trans ?_ (Below.mono (by assumption) ?_)) | (first | go_size | (with_reducible exact Below.size (by assumption)) | (with_reducible exact Nat.le_trans (Below.size (by assumption)) (Below.size (by assumption))) | (refine Nat.le_trans (Below.size (by assumption)) ?_; go_size)))))
end Go.Proofs.Ytmbofohdjdipdaa
