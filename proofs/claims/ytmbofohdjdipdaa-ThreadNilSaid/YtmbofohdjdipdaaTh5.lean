/-
  Contracts of package thread: new codes; what else a code answers.
-/
import Derived.Test.YtmbofohdjdipdaaTh4
namespace Go.Proofs.Ytmbofohdjdipdaa
open Go.RowKit

theorem own_gen {w : World} {base n size : Nat} {e : TypeId} {v : Value} {xs : List Value} (h : w.ownsRow base e size v n xs) (hn : 1 ≤ n) :
    ∃ g c sp, v = .slice (some ⟨g, 0, none⟩) n c ∧ base ≤ g ∧ n ≤ c ∧ c ≤ 9223372036854775807 ∧ Blk w g e (xs ++ sp) := by
  rcases h.2 with ⟨_, h0⟩ | ⟨g, cap, cur, rfl, hg, hc, h1, h2, h3, h4⟩
  · omega
  · have hB : Blk w g e cur.toList := by unfold Blk; simpa using hc
    refine ⟨g, cap, cur.toList.drop (n * size), rfl, hg, h1, by unfold maxLen at h2; omega, ?_⟩
    rw [← h4, List.take_append_drop]
    exact hB
def codeOkB (l : List Ins) : Bool := decide (1 ≤ l.length) && decide (l.length ≤ 256) && okAll l
theorem contains_ins (l : List Ins) (A : Option Addr) (g n c : Nat) (w : World) (hr : Rd (fun b => b < w.heap.size) w A (insVs l)) (hl : l.length = n) (hn : n ≤ 1000000) (hg : w.cell? ⟨g, 0, none⟩ = some (.slice A n c)) :
    Calls Try.prog 69 #[.slice A n c, codeLit g] w fun e w' => e = .returned (.bool (!okAll l)) ∧ Below w.heap.size w w' := by
  have hi := index_ins l A g n c w hr hl hn hg
  generalize okAll l = q at hi ⊢
  go_enter Try.func69, Try.ntmps69
  go_wp2_with fail
  refine hi.mono ?_
  rintro e w1 ⟨hb, i, rfl, hq⟩
  have HQ := Lib.hid hq
  clear hq
  go_wp2_with fail
  go_ret
  exact ⟨ret_bool HQ.out, hb⟩
def NewP (w : World) (c : Cd) (e : Ending) (w' : World) : Prop :=
  ∃ r i cap, e = .returned (.tuple #[.pointer (some ⟨r, 0, none⟩), .int .i64 0]) ∧ CdAt w' r i cap c ∧ w.heap.size ≤ r ∧ w.heap.size ≤ i ∧ Below w.heap.size w w'
set_option maxHeartbeats 1000000 in
theorem newcode_ok (A : Option Addr) (l : List Ins) (n c : Nat) (w : World) (hr : Rd (fun b => b < w.heap.size) w A (insVs l)) (hl : l.length = n) (hc : n ≤ c) (hwf : ∀ x ∈ l, insWf x) (h : codeOkB l = true) :
    Calls Try.prog 26 #[.slice A n c] w (NewP w (newCd l)) := by
  subst hl
  unfold codeOkB at h
  simp only [Bool.and_eq_true, decide_eq_true_eq] at h
  obtain ⟨⟨h1, h2⟩, h3⟩ := h
  have hN : (newCd l).Wf := newCd_wf h1 h2 fun x hx => ⟨(okAll_iff l).1 h3 x hx, hwf x hx⟩
  have H3 := Lib.hid h3
  have d1 : decide ((l.length : Int) < 1) = false := decide_eq_false (by omega)
  have d2 : decide ((256 : Int) < l.length) = false := decide_eq_false (by omega)
  obtain ⟨a, rfl⟩ : ∃ a, A = some a := by
    cases A with
    | none =>
      obtain ⟨_, _, e, _⟩ := hr (by intro e; have := insVs_len l; rw [e] at this; simp at this; omega)
      cases e
    | some a => exact ⟨a, rfl⟩
  clear h3 hwf
  go_enter Try.func26, Try.ntmps26
  go_wp2_with (first | (go_at_call 69; ((with_reducible refine (contains_ins l _ _ _ _ _ ((hr.keep (Ch.of_below (by (repeat' (first | (with_reducible exact Below.refl _ _) | (with_reducible assumption) | (with_reducible refine Below.alloc ?_ ?_ _) | (with_reducible refine Below.drew ?_) | (with_reducible refine below_drewN ?_ _) | (with_reducible refine Below.setCell ?_ ?_ _) | (with_reducible refine Below.trans ?_ (Below.mono (by assumption) ?_)) | (first | go_size | (with_reducible exact Below.size (by assumption)) | (with_reducible exact Nat.le_trans (Below.size (by assumption)) (Below.size (by assumption))) | (refine Nat.le_trans (Below.size (by assumption)) ?_; go_size)))) : Below w.heap.size w _) (fun _ => False)) (fun _ _ _ e => e)).mono (fun b _ hb => Nat.lt_of_lt_of_le hb (by go_size))) rfl (by omega) (by go_cell)).mono ?_); rw [H3.out]; rintro e w1 ⟨rfl, hb1⟩; have hbx := (Ch.of_below hb1 (fun _ => False)).keeps (p := ⟨w.heap.size, 0, none⟩) (v := .slice (some a) l.length c) (by go_cell) (fun e => e); have hsz1 := hb1.size; simp only [World.size_alloc] at hsz1)) | (go_at_call 72; (refine (clone_ins _ l _ _ _ ((hr.keep (Ch.of_below (by (repeat' (first | (with_reducible exact Below.refl _ _) | (with_reducible assumption) | (with_reducible refine Below.alloc ?_ ?_ _) | (with_reducible refine Below.drew ?_) | (with_reducible refine below_drewN ?_ _) | (with_reducible refine Below.setCell ?_ ?_ _) | (with_reducible refine Below.trans ?_ (Below.mono (by assumption) ?_)) | (first | go_size | (with_reducible exact Below.size (by assumption)) | (with_reducible exact Nat.le_trans (Below.size (by assumption)) (Below.size (by assumption))) | (refine Nat.le_trans (Below.size (by assumption)) ?_; go_size)))) : Below w.heap.size w _) (fun _ => False)) (fun _ _ _ e => e)).mono (fun b _ hb => Nat.lt_of_lt_of_le hb (by omega))) rfl (by omega)).mono ?_); rintro e w2 ⟨hb2, v, rfl, hown⟩; obtain ⟨i, cap, sp, rfl, hi1, hi2, hi3, hi4⟩ := own_gen hown h1))
  have hsz2 := hb2.size
  go_ret2
  refine ⟨w2.heap.size, i, cap, rfl, ⟨Blk.new _ _ _, ⟨sp, hi4.keep ((Ch.refl (fun _ => False) _).alloc _) (fun e => e)⟩, hi2, hi3, hN⟩, by omega, by omega, by (repeat' (first | (with_reducible exact Below.refl _ _) | (with_reducible assumption) | (with_reducible refine Below.alloc ?_ ?_ _) | (with_reducible refine Below.drew ?_) | (with_reducible refine below_drewN ?_ _) | (with_reducible refine Below.setCell ?_ ?_ _) | (with_reducible refine Below.trans ?_ (Below.mono (by assumption) ?_)) | (first | go_size | (with_reducible exact Below.size (by assumption)) | (with_reducible exact Nat.le_trans (Below.size (by assumption)) (Below.size (by assumption))) | (refine Nat.le_trans (Below.size (by assumption)) ?_; go_size))))⟩
theorem newcode_bad (A : Option Addr) (l : List Ins) (n c : Nat) (w : World) (hr : Rd (fun b => b < w.heap.size) w A (insVs l)) (hl : l.length = n) (hn : n ≤ 1000000) (h : codeOkB l = false) :
    Calls Try.prog 26 #[.slice A n c] w fun e w' => e = .returned (.tuple #[.pointer none, .int .i64 2]) ∧ Below w.heap.size w w' := by
  subst hl
  unfold codeOkB at h
  by_cases d1 : l.length < 1
  · have d2 : decide ((l.length : Int) < 1) = true := decide_eq_true (by omega)
    go_enter Try.func26, Try.ntmps26
    go_wp2_with fail
    go_ret2
    exact ⟨rfl, by (repeat' (first | (with_reducible exact Below.refl _ _) | (with_reducible assumption) | (with_reducible refine Below.alloc ?_ ?_ _) | (with_reducible refine Below.drew ?_) | (with_reducible refine below_drewN ?_ _) | (with_reducible refine Below.setCell ?_ ?_ _) | (with_reducible refine Below.trans ?_ (Below.mono (by assumption) ?_)) | (first | go_size | (with_reducible exact Below.size (by assumption)) | (with_reducible exact Nat.le_trans (Below.size (by assumption)) (Below.size (by assumption))) | (refine Nat.le_trans (Below.size (by assumption)) ?_; go_size))))⟩
  · have d2 : decide ((l.length : Int) < 1) = false := decide_eq_false (by omega)
    by_cases d3 : 256 < l.length
    · have d4 : decide ((256 : Int) < l.length) = true := decide_eq_true (by omega)
      clear h
      go_enter Try.func26, Try.ntmps26
      go_wp2_with fail
      go_ret2
      exact ⟨rfl, by (repeat' (first | (with_reducible exact Below.refl _ _) | (with_reducible assumption) | (with_reducible refine Below.alloc ?_ ?_ _) | (with_reducible refine Below.drew ?_) | (with_reducible refine below_drewN ?_ _) | (with_reducible refine Below.setCell ?_ ?_ _) | (with_reducible refine Below.trans ?_ (Below.mono (by assumption) ?_)) | (first | go_size | (with_reducible exact Below.size (by assumption)) | (with_reducible exact Nat.le_trans (Below.size (by assumption)) (Below.size (by assumption))) | (refine Nat.le_trans (Below.size (by assumption)) ?_; go_size))))⟩
    · have d4 : decide ((256 : Int) < l.length) = false := decide_eq_false (by omega)
      rw [decide_eq_true (by omega), decide_eq_true (by omega)] at h
      have h3 : okAll l = false := by simpa using h
      have H3 := Lib.hid h3
      clear h h3
      go_enter Try.func26, Try.ntmps26
      go_wp2_with (go_at_call 69; ((with_reducible refine (contains_ins l _ _ _ _ _ ((hr.keep (Ch.of_below (by (repeat' (first | (with_reducible exact Below.refl _ _) | (with_reducible assumption) | (with_reducible refine Below.alloc ?_ ?_ _) | (with_reducible refine Below.drew ?_) | (with_reducible refine below_drewN ?_ _) | (with_reducible refine Below.setCell ?_ ?_ _) | (with_reducible refine Below.trans ?_ (Below.mono (by assumption) ?_)) | (first | go_size | (with_reducible exact Below.size (by assumption)) | (with_reducible exact Nat.le_trans (Below.size (by assumption)) (Below.size (by assumption))) | (refine Nat.le_trans (Below.size (by assumption)) ?_; go_size)))) : Below w.heap.size w _) (fun _ => False)) (fun _ _ _ e => e)).mono (fun b _ hb => Nat.lt_of_lt_of_le hb (by go_size))) rfl (by omega) (by go_cell)).mono ?_); rw [H3.out]; rintro e w1 ⟨rfl, hb1⟩))
      go_ret2
      exact ⟨rfl, by (repeat' (first | (with_reducible exact Below.refl _ _) | (with_reducible assumption) | (with_reducible refine Below.alloc ?_ ?_ _) | (with_reducible refine Below.drew ?_) | (with_reducible refine below_drewN ?_ _) | (with_reducible refine Below.setCell ?_ ?_ _) | (with_reducible refine Below.trans ?_ (Below.mono (by assumption) ?_)) | (first | go_size | (with_reducible exact Below.size (by assumption)) | (with_reducible exact Nat.le_trans (Below.size (by assumption)) (Below.size (by assumption))) | (refine Nat.le_trans (Below.size (by assumption)) ?_; go_size))))⟩

/-! ### what else a code answers -/
section
variable (r i cap : Nat) (c : Cd) (w : World) (h : CdAt w r i cap c)
include h
theorem CdAt.len0 : ((c.l.length : Int) == 0) = false := by have := h.wf.lo; rw [beq_eq_false_iff_ne]; omega
theorem cdone_any : Calls Try.prog 32 #[.pointer (some ⟨r, 0, none⟩)] w fun e w' => e = .returned (.bool c.ended) ∧ w = w' := by
  have c0 := h.b.c0
  have c7 := h.b.c7 h.wf.r4
  have l0 := CdAt.len0 r i cap c w h
  go_enter Try.func32, Try.ntmps32
  go_wp2
  go_ret
  exact ⟨rfl, rfl⟩
theorem cresult_any : Calls Try.prog 33 #[.pointer (some ⟨r, 0, none⟩)] w fun e w' => e = .returned (.int .u64 c.res) ∧ w = w' := by
  have c6 := h.b.c6 h.wf.r4
  go_enter Try.func33, Try.ntmps33
  go_wp2
  go_ret
  exact ⟨rfl, rfl⟩
theorem cstep_end {σ : Type} (m : Mif σ) (he : c.ended = true) : Calls Try.prog 31 #[.pointer (some ⟨r, 0, none⟩), m.v] w fun e w' => e = .returned (.tuple #[.bool false, .int .i64 17]) ∧ w = w' := by
  have c0 := h.b.c0
  have c7 := h.b.c7 h.wf.r4
  rw [he] at c7
  have l0 := CdAt.len0 r i cap c w h
  clear he
  go_enter Try.func31, Try.ntmps31
  go_wp2
  go_ret2
  exact ⟨rfl, rfl⟩
theorem cstep_nil : Calls Try.prog 31 #[.pointer (some ⟨r, 0, none⟩), .nilIface] w fun e w' => e = .returned (.tuple #[.bool false, .int .i64 1]) ∧ w = w' := by
  have c0 := h.b.c0
  have l0 := CdAt.len0 r i cap c w h
  go_enter Try.func31, Try.ntmps31
  go_wp2
  go_ret2
  exact ⟨rfl, rfl⟩
set_option maxHeartbeats 1000000 in
theorem ccopy_any : Calls Try.prog 34 #[.pointer (some ⟨r, 0, none⟩)] w fun e w' => e = .returned (.iface 72 (.pointer (some ⟨w.heap.size, 0, none⟩))) ∧ CdAt w' w.heap.size i cap c ∧ Below w.heap.size w w' := by
  have l0 := CdAt.len0 r i cap c w h
  have hB : Blk w r 85 (codeV i cap c) := h.b
  have r4 := h.wf.r4
  have hP : ∀ W', W' = w.alloc (.cells (codeV i cap c).toArray 85) → CdAt W' w.heap.size i cap c ∧ Below w.heap.size w W' := fun W' e => by
    subst e
    obtain ⟨sp, hs⟩ := h.il
    exact ⟨⟨Blk.new _ _ _, ⟨sp, hs.keep ((Ch.refl (fun _ => False) _).alloc _) (fun e => e)⟩, h.capl, h.capm, h.wf⟩, by (repeat' (first | (with_reducible exact Below.refl _ _) | (with_reducible assumption) | (with_reducible refine Below.alloc ?_ ?_ _) | (with_reducible refine Below.drew ?_) | (with_reducible refine below_drewN ?_ _) | (with_reducible refine Below.setCell ?_ ?_ _) | (with_reducible refine Below.trans ?_ (Below.mono (by assumption) ?_)) | (first | go_size | (with_reducible exact Below.size (by assumption)) | (with_reducible exact Nat.le_trans (Below.size (by assumption)) (Below.size (by assumption))) | (refine Nat.le_trans (Below.size (by assumption)) ?_; go_size))))⟩
  unfold codeV at hB hP
  obtain ⟨l, pc, rr, res, en⟩ := c
  simp only at r4
  obtain ⟨r0, r1, r2, r3, rfl⟩ : ∃ r0 r1 r2 r3, rr = [r0, r1, r2, r3] := by
    match rr, r4 with
    | [r0, r1, r2, r3], _ => exact ⟨r0, r1, r2, r3, rfl⟩
  have c0 := hB.cell 0
  have c1 := hB.cell 1
  have c2 := hB.cell 2
  have c3 := hB.cell 3
  have c4 := hB.cell 4
  have c5 := hB.cell 5
  have c6 := hB.cell 6
  have c7 := hB.cell 7
  simp only [u64s, List.map_cons, List.map_nil, List.cons_append, List.nil_append, List.getElem?_cons_zero, List.getElem?_cons_succ] at c0 c1 c2 c3 c4 c5 c6 c7
  have hlt := hB.lt
  go_enter Try.func34, Try.ntmps34
  go_wp2
  go_ret
  exact ⟨rfl, hP _ rfl⟩
end
end Go.Proofs.Ytmbofohdjdipdaa
