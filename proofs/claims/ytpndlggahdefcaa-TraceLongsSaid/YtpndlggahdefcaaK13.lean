/-
  The examples of the chapter on traces: known returns true.
-/
import Derived.Test.YtpndlggahdefcaaLTr
import Derived.Deep.CutRange
namespace Go.Proofs.Ytpndlggahdefcaa
open Go.RowKit
set_option linter.unusedSimpArgs false
set_option linter.unusedVariables false

def ll_bbac : List Dd := [⟨1, 1, 5, 0, 0, true, false⟩, ⟨1, 1, 5, 0, 0, true, false⟩, ⟨0, 2, 5, 0, 1, false, false⟩, ⟨1, 1, 5, 1, 1, false, false⟩]
theorem ll_bbac_wf : ∀ x ∈ ll_bbac, x.wf := by
  intro x hx
  simp only [ll_bbac, List.mem_cons, List.not_mem_nil, or_false] at hx
  rcases hx with rfl | rfl | rfl | rfl <;> (unfold Dd.wf i64B u64B; decide)
def ll_bb : List Dd := [⟨1, 1, 5, 0, 0, true, false⟩, ⟨1, 1, 5, 0, 0, true, false⟩]
theorem ll_bb_wf : ∀ x ∈ ll_bb, x.wf := by
  intro x hx
  simp only [ll_bb, List.mem_cons, List.not_mem_nil, or_false] at hx
  rcases hx with rfl | rfl <;> (unfold Dd.wf i64B u64B; decide)
def ll_ac : List Dd := [⟨0, 2, 5, 0, 1, false, false⟩, ⟨1, 1, 5, 1, 1, false, false⟩]
theorem ll_ac_wf : ∀ x ∈ ll_ac, x.wf := by
  intro x hx
  simp only [ll_ac, List.mem_cons, List.not_mem_nil, or_false] at hx
  rcases hx with rfl | rfl <;> (unfold Dd.wf i64B u64B; decide)
def ll_bc : List Dd := [⟨1, 1, 5, 0, 0, true, false⟩, ⟨1, 1, 5, 1, 1, false, false⟩]
theorem ll_bc_wf : ∀ x ∈ ll_bc, x.wf := by
  intro x hx
  simp only [ll_bc, List.mem_cons, List.not_mem_nil, or_false] at hx
  rcases hx with rfl | rfl <;> (unfold Dd.wf i64B u64B; decide)
def ll_bac : List Dd := [⟨1, 1, 5, 0, 0, true, false⟩, ⟨0, 2, 5, 0, 1, false, false⟩, ⟨1, 1, 5, 1, 1, false, false⟩]
theorem ll_bac_wf : ∀ x ∈ ll_bac, x.wf := by
  intro x hx
  simp only [ll_bac, List.mem_cons, List.not_mem_nil, or_false] at hx
  rcases hx with rfl | rfl | rfl <;> (unfold Dd.wf i64B u64B; decide)
def ll_c : List Dd := [⟨1, 1, 5, 1, 1, false, false⟩]
theorem ll_c_wf : ∀ x ∈ ll_c, x.wf := by
  intro x hx
  simp only [ll_c, List.mem_cons, List.not_mem_nil, or_false] at hx
  rcases hx with rfl <;> (unfold Dd.wf i64B u64B; decide)
def ll_a : List Dd := [⟨0, 2, 5, 0, 1, false, false⟩]
theorem ll_a_wf : ∀ x ∈ ll_a, x.wf := by
  intro x hx
  simp only [ll_a, List.mem_cons, List.not_mem_nil, or_false] at hx
  rcases hx with rfl <;> (unfold Dd.wf i64B u64B; decide)
def ll_baca : List Dd := [⟨1, 1, 5, 0, 0, true, false⟩, ⟨0, 2, 5, 0, 1, false, false⟩, ⟨1, 1, 5, 1, 1, false, false⟩, ⟨0, 2, 5, 0, 1, false, false⟩]
theorem ll_baca_wf : ∀ x ∈ ll_baca, x.wf := by
  intro x hx
  simp only [ll_baca, List.mem_cons, List.not_mem_nil, or_false] at hx
  rcases hx with rfl | rfl | rfl | rfl <;> (unfold Dd.wf i64B u64B; decide)
def ll_wr : List Dd := [⟨1, 1, 5, 1, 2, false, false⟩]
theorem ll_wr_wf : ∀ x ∈ ll_wr, x.wf := by
  intro x hx
  simp only [ll_wr, List.mem_cons, List.not_mem_nil, or_false] at hx
  rcases hx with rfl <;> (unfold Dd.wf i64B u64B; decide)
def ll_enb : List Dd := [⟨1, 0, 0, 0, 0, false, true⟩, ⟨1, 1, 5, 0, 0, true, false⟩]
theorem ll_enb_wf : ∀ x ∈ ll_enb, x.wf := by
  intro x hx
  simp only [ll_enb, List.mem_cons, List.not_mem_nil, or_false] at hx
  rcases hx with rfl | rfl <;> (unfold Dd.wf i64B u64B; decide)
def wl_1 : List Wt := [⟨1, 5, 0, 2, 0⟩]
def wl_o : List Wt := [⟨1, 5, 0, (-1), (-1)⟩]
def z6 : List Int := [0, 0, 0, 0, 0, 0]
def z5 : List Int := [0, 0, 0, 0, 0]
/-- the call's own variables -/
structure KS (W : World) (p : Nat) (E : World → Prop) (wr : World) : Prop where
  below : Below W.heap.size W wr
  ra : wr.rangeAt p 0 [.int .i64 0, .int .i64 2, .int .i64 5, .int .u64 0, .int .u64 1, .bool false, .bool false]
  rb : wr.rangeAt (p + 1) 0 [.int .i64 1, .int .i64 1, .int .i64 5, .int .u64 0, .int .u64 0, .bool true, .bool false]
  rc : wr.rangeAt (p + 2) 0 [.int .i64 1, .int .i64 1, .int .i64 5, .int .u64 1, .int .u64 1, .bool false, .bool false]
  ro : wr.rangeAt (p + 3) 0 [.int .i64 1, .int .i64 5, .int .i64 0, .int .i64 (-1), .int .i64 (-1)]
  ex : E wr
  cl : ∀ w w', Below w.heap.size w w' → E w → E w'
theorem KS.next {W wr w' : World} {p : Nat} {E : World → Prop} (h : KS W p E wr) (hb : Below wr.heap.size wr w') : KS W p E w' :=
  ⟨h.below.trans (hb.mono h.below.size), range_keep h.ra (Ch.of_below hb (fun _ => False)) (fun e => e), range_keep h.rb (Ch.of_below hb (fun _ => False)) (fun e => e), range_keep h.rc (Ch.of_below hb (fun _ => False)) (fun e => e), range_keep h.ro (Ch.of_below hb (fun _ => False)) (fun e => e), h.cl _ _ hb h.ex, h.cl⟩
theorem KS.with {W wr : World} {p : Nat} {E E2 : World → Prop} (h : KS W p E wr) (h1 : E2 wr) (h2 : ∀ w w', Below w.heap.size w w' → E2 w → E2 w') : KS W p E2 wr := ⟨h.below, h.ra, h.rb, h.rc, h.ro, h1, h2⟩
theorem ks_start (W : World) : KS W W.heap.size (fun _ => True) ((((W.alloc (.cells [.int .i64 0, .int .i64 2, .int .i64 5, .int .u64 0, .int .u64 1, .bool false, .bool false].toArray 47)).alloc (.cells [.int .i64 1, .int .i64 1, .int .i64 5, .int .u64 0, .int .u64 0, .bool true, .bool false].toArray 47)).alloc (.cells [.int .i64 1, .int .i64 1, .int .i64 5, .int .u64 1, .int .u64 1, .bool false, .bool false].toArray 47)).alloc (.cells [.int .i64 1, .int .i64 5, .int .i64 0, .int .i64 (-1), .int .i64 (-1)].toArray 60)) := by
  have h1 := Blk.new W 47 [.int .i64 0, .int .i64 2, .int .i64 5, .int .u64 0, .int .u64 1, .bool false, .bool false]
  have h2 := Blk.new (W.alloc (.cells [.int .i64 0, .int .i64 2, .int .i64 5, .int .u64 0, .int .u64 1, .bool false, .bool false].toArray 47)) 47 [.int .i64 1, .int .i64 1, .int .i64 5, .int .u64 0, .int .u64 0, .bool true, .bool false]
  have h3 := Blk.new ((W.alloc (.cells [.int .i64 0, .int .i64 2, .int .i64 5, .int .u64 0, .int .u64 1, .bool false, .bool false].toArray 47)).alloc (.cells [.int .i64 1, .int .i64 1, .int .i64 5, .int .u64 0, .int .u64 0, .bool true, .bool false].toArray 47)) 47 [.int .i64 1, .int .i64 1, .int .i64 5, .int .u64 1, .int .u64 1, .bool false, .bool false]
  have h4 := Blk.new (((W.alloc (.cells [.int .i64 0, .int .i64 2, .int .i64 5, .int .u64 0, .int .u64 1, .bool false, .bool false].toArray 47)).alloc (.cells [.int .i64 1, .int .i64 1, .int .i64 5, .int .u64 0, .int .u64 0, .bool true, .bool false].toArray 47)).alloc (.cells [.int .i64 1, .int .i64 1, .int .i64 5, .int .u64 1, .int .u64 1, .bool false, .bool false].toArray 47)) 60 [.int .i64 1, .int .i64 5, .int .i64 0, .int .i64 (-1), .int .i64 (-1)]
  simp only [World.size_alloc] at h2 h3 h4
  have k1 := fun w o => (Ch.refl (fun _ => False) w).alloc o
  exact ⟨by (repeat' (first | (with_reducible exact Below.refl _ _) | (with_reducible assumption) | (with_reducible refine Below.alloc ?_ ?_ _) | (with_reducible refine Below.drew ?_) | (with_reducible refine below_drewN ?_ _) | (with_reducible refine Below.setCell ?_ ?_ _) | (with_reducible refine Below.trans ?_ (Below.mono (by assumption) ?_)) | (first | go_size | (with_reducible exact Below.size (by assumption)) | (with_reducible exact Nat.le_trans (Below.size (by assumption)) (Below.size (by assumption))) | (refine Nat.le_trans (Below.size (by assumption)) ?_; go_size)))), range_blk (((h1.keep (k1 _ _) (fun e => e)).keep (k1 _ _) (fun e => e)).keep (k1 _ _) (fun e => e)), range_blk ((h2.keep (k1 _ _) (fun e => e)).keep (k1 _ _) (fun e => e)), range_blk (h3.keep (k1 _ _) (fun e => e)), range_blk h4, trivial, fun _ _ _ _ => trivial⟩
theorem any_join {P : Program} {md : Region.Mode} {ops : Array Oper} {Q : Exit → Act → World → Prop} {S : World → Prop} {fuel : Nat} {listed : Array Bool} {a : Act} {w : World} (R : Act → World → Prop) (L' : Array Bool) (n : Nat)
    (h2 : (∀ L a w, L = L' → R a w → wpAnyH P md ops Q S n L a w) → wpAnyH P md ops Q S fuel listed a w) (h1 : ∀ a w, R a w → wpAnyH P md ops Q S n L' a w) : wpAnyH P md ops Q S fuel listed a w := h2 (fun _ a w e h => e ▸ h1 a w h)
theorem kp {w w' : World} (hb : Below w.heap.size w w') (A : Option Addr) (xs : List Value) (h : Rd (fun _ => True) w A xs) : Rd (fun _ => True) w' A xs := h.keep (Ch.of_below hb (fun _ => False)) (fun _ _ _ e => e)
theorem bAny {W : World} {p : Nat} {E : World → Prop} {w : World} {K : Act → World → Prop} {a : Act} (T : TypeId) (cs : List Value) (hS : KS W p E w) (h : ∀ w1, KS W p E w1 → Rd (fun _ => True) w1 (some ⟨w.heap.size, 0, none⟩) cs → (∀ A xs, Rd (fun _ => True) w A xs → Rd (fun _ => True) w1 A xs) → K a w1) : K a (w.alloc (.cells cs.toArray T)) :=
  h _ (hS.next ((Below.refl _ _).alloc (Nat.le_refl _) _)) (Rd.of_blk (Blk.new w T cs) (List.prefix_refl _) trivial) (kp ((Below.refl _ _).alloc (Nat.le_refl _) _))
theorem bD {W : World} {p : Nat} {E : World → Prop} {w : World} {K : Act → World → Prop} {a : Act} (l : List Dd) (hS : KS W p E w) (h : ∀ w1, KS W p E w1 → Rd (fun _ => True) w1 (some ⟨w.heap.size, 0, none⟩) (dds l) → (∀ A xs, Rd (fun _ => True) w A xs → Rd (fun _ => True) w1 A xs) → K a w1) : K a (w.alloc (.cells (dds l).toArray 47)) := bAny _ _ hS h
theorem bW {W : World} {p : Nat} {E : World → Prop} {w : World} {K : Act → World → Prop} {a : Act} (l : List Wt) (hS : KS W p E w) (h : ∀ w1, KS W p E w1 → Rd (fun _ => True) w1 (some ⟨w.heap.size, 0, none⟩) (wts l) → (∀ A xs, Rd (fun _ => True) w A xs → Rd (fun _ => True) w1 A xs) → K a w1) : K a (w.alloc (.cells (wts l).toArray 60)) := bAny _ _ hS h
theorem bI {W : World} {p : Nat} {E : World → Prop} {w : World} {K : Act → World → Prop} {a : Act} (l : List Int) (hS : KS W p E w) (h : ∀ w1, KS W p E w1 → Rd (fun _ => True) w1 (some ⟨w.heap.size, 0, none⟩) (ints l) → (∀ A xs, Rd (fun _ => True) w A xs → Rd (fun _ => True) w1 A xs) → K a w1) : K a (w.alloc (.cells (ints l).toArray 3)) := bAny _ _ hS h
theorem bU {W : World} {p : Nat} {E : World → Prop} {w : World} {K : Act → World → Prop} {a : Act} (l : List Int) (hS : KS W p E w) (h : ∀ w1, KS W p E w1 → Rd (fun _ => True) w1 (some ⟨w.heap.size, 0, none⟩) (u64s l) → (∀ A xs, Rd (fun _ => True) w A xs → Rd (fun _ => True) w1 A xs) → K a w1) : K a (w.alloc (.cells (u64s l).toArray 30)) := bAny _ _ hS h
/-- what every call leaves -/
def KPost (W : World) (p : Nat) (E : World → Prop) (w : World) (b : Bool) (e : Ending) (w' : World) : Prop := e = .returned (.bool b) ∧ KS W p E w' ∧ ∀ A xs, Rd (fun _ => True) w A xs → Rd (fun _ => True) w' A xs
theorem kpost {W w : World} {p : Nat} {E : World → Prop} {f : FuncId} {args : Array Value} {X b : Bool} (hS : KS W p E w) (hx : X = b) (h : Calls Try.prog f args w fun e w' => e = .returned (.bool X) ∧ Below w.heap.size w w') : Calls Try.prog f args w (KPost W p E w b) :=
  h.mono fun _ _ ⟨h1, h2⟩ => ⟨by rw [← hx]; exact h1, hS.next h2, kp h2⟩

def o6 : List Int := [1, 1, 1, 1, 1, 1]
theorem cw1 {W w : World} {p : Nat} {E : World → Prop} (hS : KS W p E w) {A : Addr} (h1 : Rd (fun _ => True) w (some A) (dds ll_bbac)) {B : Addr} (h2 : Rd (fun _ => True) w (some B) (wts wl_1)) :
    Calls Try.prog 25 #[.slice (some A) 4 4, .int .i64 0, .slice (some B) 1 1] w (KPost W p E w true) := by
  exact kpost hS (by decide +kernel) (lwaits_ok (some A) (some B) wl_1 ll_bbac 4 4 1 1 0 _ (h1.mono (fun b hb _ => hb)) rfl (by omega) h2 rfl (by omega) (by omega))
theorem cw2 {W w : World} {p : Nat} {E : World → Prop} (hS : KS W p E w) {A : Addr} (h1 : Rd (fun _ => True) w (some A) (dds ll_bb)) {B : Addr} (h2 : Rd (fun _ => True) w (some B) (wts wl_o)) :
    Calls Try.prog 25 #[.slice (some A) 2 2, .int .i64 0, .slice (some B) 1 1] w (KPost W p E w true) := by
  exact kpost hS (by decide +kernel) (lwaits_ok (some A) (some B) wl_o ll_bb 2 2 1 1 0 _ (h1.mono (fun b hb _ => hb)) rfl (by omega) h2 rfl (by omega) (by omega))
theorem cw3 {W w : World} {p : Nat} {E : World → Prop} (hS : KS W p E w) {A : Addr} (h1 : Rd (fun _ => True) w (some A) (dds ll_ac)) :
    Calls Try.prog 25 #[.slice (some A) 2 2, .int .i64 0, .slice none 0 0] w (KPost W p E w true) := by
  exact kpost hS (by decide +kernel) (lwaits_ok (some A) none [] ll_ac 2 2 0 0 0 _ (h1.mono (fun b hb _ => hb)) rfl (by omega) rd_none rfl (by omega) (by omega))
theorem cw4 {W w : World} {p : Nat} {E : World → Prop} (hS : KS W p E w) {A : Addr} (h1 : Rd (fun _ => True) w (some A) (dds ll_bc)) {B : Addr} (h2 : Rd (fun _ => True) w (some B) (wts wl_o)) :
    Calls Try.prog 25 #[.slice (some A) 2 2, .int .i64 0, .slice (some B) 1 1] w (KPost W p E w true) := by
  exact kpost hS (by decide +kernel) (lwaits_ok (some A) (some B) wl_o ll_bc 2 2 1 1 0 _ (h1.mono (fun b hb _ => hb)) rfl (by omega) h2 rfl (by omega) (by omega))
theorem cc1 {W w : World} {p : Nat} {E : World → Prop} (hS : KS W p E w) {N : Addr} (hN : Rd (fun _ => True) w (some N) (u64s z6)) {A : Addr} (h1 : Rd (fun _ => True) w (some A) (dds ll_bac)) :
    Calls Try.prog 19 #[.slice (some N) 6 6, .slice (some A) 3 3, .int .i64 (-1), .int .i64 0] w (KPost W p E w true) := by
  exact kpost hS (by decide +kernel) (lchecks_ok (some N) (some A) z6 ll_bac 6 6 3 3 (-1) 0 _ (hN.mono (fun b hb _ => hb)) rfl (by omega) (by omega) (by decide) (h1.mono (fun b hb _ => hb)) rfl (by omega) ll_bac_wf)
theorem cc2 {W w : World} {p : Nat} {E : World → Prop} (hS : KS W p E w) {N : Addr} (hN : Rd (fun _ => True) w (some N) (u64s z6)) {A : Addr} (h1 : Rd (fun _ => True) w (some A) (dds ll_c)) :
    Calls Try.prog 19 #[.slice (some N) 6 6, .slice (some A) 1 1, .int .i64 (0), .int .i64 0] w (KPost W p E w true) := by
  exact kpost hS (by decide +kernel) (lchecks_ok (some N) (some A) z6 ll_c 6 6 1 1 (0) 0 _ (hN.mono (fun b hb _ => hb)) rfl (by omega) (by omega) (by decide) (h1.mono (fun b hb _ => hb)) rfl (by omega) ll_c_wf)
theorem cc3 {W w : World} {p : Nat} {E : World → Prop} (hS : KS W p E w) {N : Addr} (hN : Rd (fun _ => True) w (some N) (u64s z5)) {A : Addr} (h1 : Rd (fun _ => True) w (some A) (dds ll_a)) :
    Calls Try.prog 19 #[.slice (some N) 5 6, .slice (some A) 1 1, .int .i64 (0), .int .i64 0] w (KPost W p E w true) := by
  exact kpost hS (by decide +kernel) (lchecks_ok (some N) (some A) z5 ll_a 5 6 1 1 (0) 0 _ (hN.mono (fun b hb _ => hb)) rfl (by omega) (by omega) (by decide) (h1.mono (fun b hb _ => hb)) rfl (by omega) ll_a_wf)
theorem cr1 {W w : World} {p : Nat} {E : World → Prop} (hS : KS W p E w) {N : Addr} (hN : Rd (fun _ => True) w (some N) (u64s z6)) {A : Addr} (h1 : Rd (fun _ => True) w (some A) (dds ll_a)) {B : Addr} (h2 : Rd (fun _ => True) w (some B) (u64s [0, 0, 0, 0, 0, 1])) :
    Calls Try.prog 20 #[.slice (some N) 6 6, .slice (some A) 1 1, .slice (some B) 6 6, .int .i64 0] w (KPost W p E w true) := by
  exact kpost hS (by decide +kernel) (lreplays_ok (some N) (some A) (some B) z6 [0, 0, 0, 0, 0, 1] ll_a 6 6 1 1 6 6 0 _ (hN.mono (fun b hb _ => hb)) rfl (by omega) (by omega) (by decide) (h1.mono (fun b hb _ => hb)) rfl (by omega) ll_a_wf h2 rfl (by omega) (by omega))
theorem ch1 {W w : World} {p : Nat} {E : World → Prop} (hS : KS W p E w) {A : Addr} (h1 : Rd (fun _ => True) w (some A) (dds ll_baca)) {B : Addr} (h2 : Rd (fun _ => True) w (some B) (ints [1, 3])) :
    Calls Try.prog 26 #[.slice (some A) 4 4, .int .i64 (5), .int .i64 0, .slice (some B) 2 2] w (KPost W p E w true) := by
  exact kpost hS (by decide +kernel) (lchanges_ok (some A) (some B) [1, 3] ll_baca (5) 4 4 2 2 0 _ (h1.mono (fun b hb _ => hb)) rfl (by omega) h2 rfl (by omega) (by omega))
theorem ch2 {W w : World} {p : Nat} {E : World → Prop} (hS : KS W p E w) {A : Addr} (h1 : Rd (fun _ => True) w (some A) (dds ll_a)) :
    Calls Try.prog 26 #[.slice (some A) 1 1, .int .i64 (6), .int .i64 0, .slice none 0 0] w (KPost W p E w true) := by
  exact kpost hS (by decide +kernel) (lchanges_ok (some A) none [] ll_a (6) 1 1 0 0 0 _ (h1.mono (fun b hb _ => hb)) rfl (by omega) rd_none rfl (by omega) (by omega))
theorem co1 {W w : World} {p : Nat} {E : World → Prop} (hS : KS W p E w) {A : Addr} (h1 : Rd (fun _ => True) w (some A) (dds ll_bac)) {B : Addr} (h2 : Rd (fun _ => True) w (some B) (dds ll_bc)) :
    Calls Try.prog 27 #[.slice (some A) 3 3, .int .i64 1, .int .i64 0, .slice (some B) 2 2] w (KPost W p E w true) := by
  exact kpost hS (by decide +kernel) (lof_ok (some A) (some B) ll_bc ll_bac 1 3 3 2 2 0 _ (h1.mono (fun b hb _ => hb)) rfl (by omega) (fun h => by cases h) h2 rfl (by omega) (by omega))
theorem cvF1 {W w : World} {p : Nat} {E : World → Prop} (hS : KS W p E w) {A : Addr} (h1 : Rd (fun _ => True) w (some A) (dds ll_wr)) :
    Calls Try.prog 18 #[.slice (some A) 1 1] w (KPost W p E w false) := by
  exact kpost hS (by decide +kernel) (valid_ok (some A) ll_wr 1 1 _ h1 rfl (by omega))
theorem cvF2 {W w : World} {p : Nat} {E : World → Prop} (hS : KS W p E w) {A : Addr} (h1 : Rd (fun _ => True) w (some A) (dds ll_enb)) :
    Calls Try.prog 18 #[.slice (some A) 2 2] w (KPost W p E w false) := by
  exact kpost hS (by decide +kernel) (valid_ok (some A) ll_enb 2 2 _ h1 rfl (by omega))
theorem cc4 {W w : World} {p : Nat} {E : World → Prop} (hS : KS W p E w) {A : Addr} (h1 : Rd (fun _ => True) w (some A) (dds ll_a)) :
    Calls Try.prog 19 #[.slice none 0 0, .slice (some A) 1 1, .int .i64 (0), .int .i64 2] w (KPost W p E w true) := by
  exact kpost hS (by decide +kernel) (lchecks_ok none (some A) [] ll_a 0 0 1 1 (0) 2 _ rd_none rfl (by omega) (by omega) (by decide) (h1.mono (fun b hb _ => hb)) rfl (by omega) ll_a_wf)
theorem ch3 {W w : World} {p : Nat} {E : World → Prop} (hS : KS W p E w) {A : Addr} (h1 : Rd (fun _ => True) w (some A) (dds ll_a)) :
    Calls Try.prog 26 #[.slice (some A) 1 1, .int .i64 (-1), .int .i64 2, .slice none 0 0] w (KPost W p E w true) := by
  exact kpost hS (by decide +kernel) (lchanges_ok (some A) none [] ll_a (-1) 1 1 0 0 2 _ (h1.mono (fun b hb _ => hb)) rfl (by omega) rd_none rfl (by omega) (by omega))
theorem co2 {W w : World} {p : Nat} {E : World → Prop} (hS : KS W p E w) {A : Addr} (h1 : Rd (fun _ => True) w (some A) (dds ll_a)) :
    Calls Try.prog 27 #[.slice (some A) 1 1, .int .i64 64, .int .i64 2, .slice none 0 0] w (KPost W p E w true) := by
  exact kpost hS (by decide +kernel) (lof_ok (some A) none [] ll_a 64 1 1 0 0 2 _ (h1.mono (fun b hb _ => hb)) rfl (by omega) (fun h => by cases h) rd_none rfl (by omega) (by omega))
theorem cr2 {W w : World} {p : Nat} {E : World → Prop} (hS : KS W p E w) {N : Addr} (hN : Rd (fun _ => True) w (some N) (u64s o6)) {A : Addr} (h1 : Rd (fun _ => True) w (some A) (dds ll_a)) :
    Calls Try.prog 20 #[.slice (some N) 6 6, .slice (some A) 1 1, .slice none 0 0, .int .i64 10] w (KPost W p E w true) := by
  exact kpost hS (by decide +kernel) (lreplays_ok (some N) (some A) none o6 [] ll_a 6 6 1 1 0 0 10 _ (hN.mono (fun b hb _ => hb)) rfl (by omega) (by omega) (by decide) (h1.mono (fun b hb _ => hb)) rfl (by omega) ll_a_wf rd_none rfl (by omega) (by omega))
set_option maxRecDepth 100000 in
set_option maxHeartbeats 8000000 in
theorem known_ok (W : World) : Calls Try.prog 8 #[] W fun e w' => e = .returned (.bool true) ∧ Below W.heap.size W w' := by
  go_enter Try.func8, Try.ntmps8
  go_upto_region 5 with fail
  have hS := ks_start W
  generalize ((((W.alloc (.cells [.int .i64 0, .int .i64 2, .int .i64 5, .int .u64 0, .int .u64 1, .bool false, .bool false].toArray 47)).alloc (.cells [.int .i64 1, .int .i64 1, .int .i64 5, .int .u64 0, .int .u64 0, .bool true, .bool false].toArray 47)).alloc (.cells [.int .i64 1, .int .i64 1, .int .i64 5, .int .u64 1, .int .u64 1, .bool false, .bool false].toArray 47)).alloc (.cells [.int .i64 1, .int .i64 5, .int .i64 0, .int .i64 (-1), .int .i64 (-1)].toArray 60)) = w0 at *
  generalize W.heap.size = p at *
  go_cut [52] (fun s52 wx => s52 = .bool false ∧ KS W p (fun _ => True) wx)
  case first =>
   refine wp_region_held_drew (S := (KS W p (fun _ => True))) (by kernel_rfl) (KS.next hS (Below.drew (Below.refl _ _))) (fun hS => ?_)
   refine take_mid (i := 0) rfl (by kernel_rfl) (by kernel_rfl) (by kernel_rfl) _ _ rfl ((p + 1)) (0) _ (fun _ _ _ h => h) (by rfl) rfl _ (fun _ h => h.rb) Try.underlying47 rfl (by kernel_rfl) hS ?_
   try simp only [Act.put, List.setIfInBounds_toArray, List.set_cons_zero, List.set_cons_succ]
   refine take_mid (i := 1) rfl (by kernel_rfl) (by kernel_rfl) (by kernel_rfl) _ _ rfl ((p + 1)) (0) _ (fun _ _ _ h => h) (by rfl) rfl _ (fun _ h => h.rb) Try.underlying47 rfl (by kernel_rfl) hS ?_
   try simp only [Act.put, List.setIfInBounds_toArray, List.set_cons_zero, List.set_cons_succ]
   refine take_mid (i := 2) rfl (by kernel_rfl) (by kernel_rfl) (by kernel_rfl) _ _ rfl (p) (0) _ (fun _ _ _ h => h) (by rfl) rfl _ (fun _ h => h.ra) Try.underlying47 rfl (by kernel_rfl) hS ?_
   try simp only [Act.put, List.setIfInBounds_toArray, List.set_cons_zero, List.set_cons_succ]
   refine take_mid (i := 3) rfl (by kernel_rfl) (by kernel_rfl) (by kernel_rfl) _ _ rfl ((p + 2)) (0) _ (fun _ _ _ h => h) (by rfl) rfl _ (fun _ h => h.rc) Try.underlying47 rfl (by kernel_rfl) hS ?_
   try simp only [Act.put, List.setIfInBounds_toArray, List.set_cons_zero, List.set_cons_succ]
   refine take_yes (i := 6) (v := ?vf5) rfl (by kernel_rfl) (by kernel_rfl) (by kernel_rfl) (fun _ _ _ h => h) (by rfl) ?yf5 hS ?rf5
   case yf5 => (intro w _; go_simp; (try with_reducible rfl))
   try simp only [Act.put, List.setIfInBounds_toArray, List.set_cons_zero, List.set_cons_succ]
   refine any_join (fun a w => ∃ v15 v16 v17 v18 v19 v20 v21 v22 v23 v24 : Value, a = ⟨List.toArray ((Value.bool false) :: (Value.pointer (some { block := p, off := 0 })) :: (Value.pointer (some { block := p + 1, off := 0 })) :: (Value.pointer (some { block := p + 1 + 1, off := 0 })) :: (Value.pointer (some { block := p + 1 + 1 + 1, off := 0 })) :: undef :: undef :: undef :: (Value.agg #[Value.int IntKind.i64 2, Value.int IntKind.i64 5, Value.int IntKind.u64 0, Value.int IntKind.u64 1]) :: (Value.agg #[Value.int IntKind.i64 0, Value.int IntKind.i64 2, Value.int IntKind.i64 5, Value.int IntKind.u64 0, Value.int IntKind.u64 1, Value.bool false, Value.bool false]) :: (Value.agg #[Value.int IntKind.i64 1, Value.int IntKind.i64 5, Value.int IntKind.u64 0, Value.int IntKind.u64 0]) :: (Value.agg #[Value.int IntKind.i64 1, Value.int IntKind.i64 1, Value.int IntKind.i64 5, Value.int IntKind.u64 0, Value.int IntKind.u64 0, Value.bool true, Value.bool false]) :: (Value.agg #[Value.int IntKind.i64 1, Value.int IntKind.i64 5, Value.int IntKind.u64 1, Value.int IntKind.u64 1]) :: (Value.agg #[Value.int IntKind.i64 1, Value.int IntKind.i64 1, Value.int IntKind.i64 5, Value.int IntKind.u64 1, Value.int IntKind.u64 1, Value.bool false, Value.bool false]) :: (Value.agg #[Value.int IntKind.i64 1, Value.int IntKind.i64 5, Value.int IntKind.i64 0, Value.int IntKind.i64 (-1), Value.int IntKind.i64 (-1)]) :: v15 :: v16 :: v17 :: v18 :: v19 :: v20 :: v21 :: v22 :: v23 :: v24 :: (.bool false) :: undef :: undef :: undef :: undef :: undef :: undef :: undef :: undef :: undef :: undef :: undef :: undef :: undef :: undef :: undef :: undef :: undef :: undef :: undef :: undef :: undef :: undef :: undef :: undef :: undef :: undef :: undef :: undef :: undef :: undef :: undef :: undef :: undef :: undef :: undef :: undef :: undef :: undef :: undef :: undef :: undef :: undef :: undef :: undef :: undef :: undef :: undef :: undef :: undef :: undef :: undef :: undef :: undef :: undef :: undef :: undef :: undef :: undef :: undef :: undef :: undef :: undef :: undef :: undef :: undef :: undef :: undef :: undef :: undef :: undef :: undef :: undef :: undef :: undef :: undef :: undef :: undef :: undef :: undef :: undef :: undef :: undef :: undef :: undef :: undef :: undef :: undef :: undef :: undef :: undef :: undef :: undef :: undef :: undef :: undef :: undef :: undef :: undef :: undef :: undef :: undef :: undef :: undef :: undef :: undef :: undef :: undef :: undef :: undef :: undef :: undef :: undef :: undef :: undef :: undef :: undef :: undef :: undef :: undef :: undef :: undef :: undef :: undef :: undef :: undef :: undef :: undef :: undef :: undef :: undef :: []), []⟩ ∧ (KS W p (fun _ => True)) w) #[true, true, true, true, true, true, true, true, true, true, true, false, false, false, false, false, false, false, false, false, false, false, false, false, false, false, false, false, false, false, false, false, false, false, false, false, false, false] 27 (fun HJf6 => ?jf6) ?_
   case jf6 =>
    refine wpAnyH_ready (rs := [4, 7]) (by kernel_rfl) (by simp) ?_
    refine cons_l rfl (fun K hK => ?sf7) ?mf7
    case sf7 =>
     go_simp
     refine bD ll_bbac hS (fun wx1 hS hx1 hk => ?_)
     refine hK.out _ _ hS (fun hS => ?_)
     clear hK K
     try simp only [Act.put, List.setIfInBounds_toArray, List.set_cons_zero, List.set_cons_succ]
     refine wpAnyH_ready (rs := [5, 7]) (by kernel_rfl) (by simp) ?_
     refine cons_l rfl (fun K hK => ?sf8) ?mf8
     case sf8 =>
      go_simp
      refine (llist_ok _ _).mono ?_
      rintro e w' ⟨rfl, rfl⟩
      go_wp2_with fail
      refine hK.out _ _ hS (fun hS => ?_)
      clear hK K
      try simp only [Act.put, List.setIfInBounds_toArray, List.set_cons_zero, List.set_cons_succ]
      refine wpAnyH_ready (rs := [7]) (by kernel_rfl) (by simp) ?_
      refine cons_l rfl (fun K hK => ?sf9) ?mf9
      case sf9 =>
       go_simp
       refine bW wl_1 hS (fun wx2 hS hx2 hk => ?_)
       replace hx1 := hk _ _ hx1
       refine hK.out _ _ hS (fun hS => ?_)
       clear hK K
       try simp only [Act.put, List.setIfInBounds_toArray, List.set_cons_zero, List.set_cons_succ]
       refine wpAnyH_ready (rs := [8]) (by kernel_rfl) (by simp) ?_
       refine cons_l rfl (fun K hK => ?sf10) ?mf10
       case sf10 =>
        go_simp
        refine (cw1 hS hx1 hx2).mono ?_
        rintro e wx3 ⟨rfl, hS, hk⟩
        clear hx1 hx2
        go_wp2_with fail
        refine hK.out _ _ hS (fun hS => ?_)
        clear hK K
        try simp only [Act.put, List.setIfInBounds_toArray, List.set_cons_zero, List.set_cons_succ]
        refine take_yes (i := 9) (v := ?vf11) rfl (by kernel_rfl) (by kernel_rfl) (by kernel_rfl) (fun _ _ _ h => h) (by rfl) ?yf11 hS ?rf11
        case yf11 => (intro w _; go_simp; (try with_reducible rfl))
        try simp only [Act.put, List.setIfInBounds_toArray, List.set_cons_zero, List.set_cons_succ]
        refine take_yes (i := 10) (v := ?vf12) rfl (by kernel_rfl) (by kernel_rfl) (by kernel_rfl) (fun _ _ _ h => h) (by rfl) ?yf12 hS ?rf12
        case yf12 => (intro w _; go_simp; (try with_reducible rfl))
        try simp only [Act.put, List.setIfInBounds_toArray, List.set_cons_zero, List.set_cons_succ]
        exact HJf6 _ _ _ (by kernel_rfl) ⟨_, _, _, _, _, _, _, _, _, _, rfl, hS⟩
       exact AllReadyH.nil
      exact AllReadyH.nil
     refine cons_l rfl (fun K hK => ?sf13) ?mf13
     case sf13 =>
      go_simp
      refine bW wl_1 hS (fun wx4 hS hx4 hk => ?_)
      replace hx1 := hk _ _ hx1
      refine hK.out _ _ hS (fun hS => ?_)
      clear hK K
      try simp only [Act.put, List.setIfInBounds_toArray, List.set_cons_zero, List.set_cons_succ]
      refine wpAnyH_ready (rs := [5]) (by kernel_rfl) (by simp) ?_
      refine cons_l rfl (fun K hK => ?sf14) ?mf14
      case sf14 =>
       go_simp
       refine (llist_ok _ _).mono ?_
       rintro e w' ⟨rfl, rfl⟩
       go_wp2_with fail
       refine hK.out _ _ hS (fun hS => ?_)
       clear hK K
       try simp only [Act.put, List.setIfInBounds_toArray, List.set_cons_zero, List.set_cons_succ]
       refine wpAnyH_ready (rs := [8]) (by kernel_rfl) (by simp) ?_
       refine cons_l rfl (fun K hK => ?sf15) ?mf15
       case sf15 =>
        go_simp
        refine (cw1 hS hx1 hx4).mono ?_
        rintro e wx5 ⟨rfl, hS, hk⟩
        clear hx1 hx4
        go_wp2_with fail
        refine hK.out _ _ hS (fun hS => ?_)
        clear hK K
        try simp only [Act.put, List.setIfInBounds_toArray, List.set_cons_zero, List.set_cons_succ]
        refine take_yes (i := 9) (v := ?vf16) rfl (by kernel_rfl) (by kernel_rfl) (by kernel_rfl) (fun _ _ _ h => h) (by rfl) ?yf16 hS ?rf16
        case yf16 => (intro w _; go_simp; (try with_reducible rfl))
        try simp only [Act.put, List.setIfInBounds_toArray, List.set_cons_zero, List.set_cons_succ]
        refine take_yes (i := 10) (v := ?vf17) rfl (by kernel_rfl) (by kernel_rfl) (by kernel_rfl) (fun _ _ _ h => h) (by rfl) ?yf17 hS ?rf17
        case yf17 => (intro w _; go_simp; (try with_reducible rfl))
        try simp only [Act.put, List.setIfInBounds_toArray, List.set_cons_zero, List.set_cons_succ]
        exact HJf6 _ _ _ (by kernel_rfl) ⟨_, _, _, _, _, _, _, _, _, _, rfl, hS⟩
       exact AllReadyH.nil
      exact AllReadyH.nil
     exact AllReadyH.nil
    refine cons_l rfl (fun K hK => ?sf18) ?mf18
    case sf18 =>
     go_simp
     refine bW wl_1 hS (fun wx6 hS hx6 hk => ?_)
     refine hK.out _ _ hS (fun hS => ?_)
     clear hK K
     try simp only [Act.put, List.setIfInBounds_toArray, List.set_cons_zero, List.set_cons_succ]
     refine wpAnyH_ready (rs := [4]) (by kernel_rfl) (by simp) ?_
     refine cons_l rfl (fun K hK => ?sf19) ?mf19
     case sf19 =>
      go_simp
      refine bD ll_bbac hS (fun wx7 hS hx7 hk => ?_)
      replace hx6 := hk _ _ hx6
      refine hK.out _ _ hS (fun hS => ?_)
      clear hK K
      try simp only [Act.put, List.setIfInBounds_toArray, List.set_cons_zero, List.set_cons_succ]
      refine wpAnyH_ready (rs := [5]) (by kernel_rfl) (by simp) ?_
      refine cons_l rfl (fun K hK => ?sf20) ?mf20
      case sf20 =>
       go_simp
       refine (llist_ok _ _).mono ?_
       rintro e w' ⟨rfl, rfl⟩
       go_wp2_with fail
       refine hK.out _ _ hS (fun hS => ?_)
       clear hK K
       try simp only [Act.put, List.setIfInBounds_toArray, List.set_cons_zero, List.set_cons_succ]
       refine wpAnyH_ready (rs := [8]) (by kernel_rfl) (by simp) ?_
       refine cons_l rfl (fun K hK => ?sf21) ?mf21
       case sf21 =>
        go_simp
        refine (cw1 hS hx7 hx6).mono ?_
        rintro e wx8 ⟨rfl, hS, hk⟩
        clear hx7 hx6
        go_wp2_with fail
        refine hK.out _ _ hS (fun hS => ?_)
        clear hK K
        try simp only [Act.put, List.setIfInBounds_toArray, List.set_cons_zero, List.set_cons_succ]
        refine take_yes (i := 9) (v := ?vf22) rfl (by kernel_rfl) (by kernel_rfl) (by kernel_rfl) (fun _ _ _ h => h) (by rfl) ?yf22 hS ?rf22
        case yf22 => (intro w _; go_simp; (try with_reducible rfl))
        try simp only [Act.put, List.setIfInBounds_toArray, List.set_cons_zero, List.set_cons_succ]
        refine take_yes (i := 10) (v := ?vf23) rfl (by kernel_rfl) (by kernel_rfl) (by kernel_rfl) (fun _ _ _ h => h) (by rfl) ?yf23 hS ?rf23
        case yf23 => (intro w _; go_simp; (try with_reducible rfl))
        try simp only [Act.put, List.setIfInBounds_toArray, List.set_cons_zero, List.set_cons_succ]
        exact HJf6 _ _ _ (by kernel_rfl) ⟨_, _, _, _, _, _, _, _, _, _, rfl, hS⟩
       exact AllReadyH.nil
      exact AllReadyH.nil
     exact AllReadyH.nil
    exact AllReadyH.nil
   rintro a wf6 ⟨v15, v16, v17, v18, v19, v20, v21, v22, v23, v24, rfl, hS⟩
   refine take_mid (i := 11) rfl (by kernel_rfl) (by kernel_rfl) (by kernel_rfl) _ _ rfl ((p + 1)) (0) _ (fun _ _ _ h => h) (by rfl) rfl _ (fun _ h => h.rb) Try.underlying47 rfl (by kernel_rfl) hS ?_
   try simp only [Act.put, List.setIfInBounds_toArray, List.set_cons_zero, List.set_cons_succ]
   refine take_mid (i := 12) rfl (by kernel_rfl) (by kernel_rfl) (by kernel_rfl) _ _ rfl ((p + 1)) (0) _ (fun _ _ _ h => h) (by rfl) rfl _ (fun _ h => h.rb) Try.underlying47 rfl (by kernel_rfl) hS ?_
   try simp only [Act.put, List.setIfInBounds_toArray, List.set_cons_zero, List.set_cons_succ]
   refine take_mid (i := 15) rfl (by kernel_rfl) (by kernel_rfl) (by kernel_rfl) _ _ rfl ((p + 3)) (0) _ (fun _ _ _ h => h) (by rfl) rfl _ (fun _ h => h.ro) Try.underlying60 rfl (by kernel_rfl) hS ?_
   try simp only [Act.put, List.setIfInBounds_toArray, List.set_cons_zero, List.set_cons_succ]
   refine any_join (fun a w => ∃ v15 v16 v17 v18 v19 v20 v21 v22 v23 v24 v25 v26 v27 v28 v29 v30 v31 v32 v33 v34 : Value, a = ⟨List.toArray ((Value.bool false) :: (Value.pointer (some { block := p, off := 0 })) :: (Value.pointer (some { block := p + 1, off := 0 })) :: (Value.pointer (some { block := p + 1 + 1, off := 0 })) :: (Value.pointer (some { block := p + 1 + 1 + 1, off := 0 })) :: undef :: undef :: undef :: (Value.agg #[Value.int IntKind.i64 2, Value.int IntKind.i64 5, Value.int IntKind.u64 0, Value.int IntKind.u64 1]) :: (Value.agg #[Value.int IntKind.i64 0, Value.int IntKind.i64 2, Value.int IntKind.i64 5, Value.int IntKind.u64 0, Value.int IntKind.u64 1, Value.bool false, Value.bool false]) :: (Value.agg #[Value.int IntKind.i64 1, Value.int IntKind.i64 5, Value.int IntKind.u64 0, Value.int IntKind.u64 0]) :: (Value.agg #[Value.int IntKind.i64 1, Value.int IntKind.i64 1, Value.int IntKind.i64 5, Value.int IntKind.u64 0, Value.int IntKind.u64 0, Value.bool true, Value.bool false]) :: (Value.agg #[Value.int IntKind.i64 1, Value.int IntKind.i64 5, Value.int IntKind.u64 1, Value.int IntKind.u64 1]) :: (Value.agg #[Value.int IntKind.i64 1, Value.int IntKind.i64 1, Value.int IntKind.i64 5, Value.int IntKind.u64 1, Value.int IntKind.u64 1, Value.bool false, Value.bool false]) :: (Value.agg #[Value.int IntKind.i64 1, Value.int IntKind.i64 5, Value.int IntKind.i64 0, Value.int IntKind.i64 (-1), Value.int IntKind.i64 (-1)]) :: v15 :: v16 :: v17 :: v18 :: v19 :: v20 :: v21 :: v22 :: v23 :: v24 :: v25 :: v26 :: v27 :: v28 :: v29 :: v30 :: v31 :: v32 :: v33 :: v34 :: (.bool false) :: undef :: undef :: undef :: undef :: undef :: undef :: undef :: undef :: undef :: undef :: undef :: undef :: undef :: undef :: undef :: undef :: undef :: undef :: undef :: undef :: undef :: undef :: undef :: undef :: undef :: undef :: undef :: undef :: undef :: undef :: undef :: undef :: undef :: undef :: undef :: undef :: undef :: undef :: undef :: undef :: undef :: undef :: undef :: undef :: undef :: undef :: undef :: undef :: undef :: undef :: undef :: undef :: undef :: undef :: undef :: undef :: undef :: undef :: undef :: undef :: undef :: undef :: undef :: undef :: undef :: undef :: undef :: undef :: undef :: undef :: undef :: undef :: undef :: undef :: undef :: undef :: undef :: undef :: undef :: undef :: undef :: undef :: undef :: undef :: undef :: undef :: undef :: undef :: undef :: undef :: undef :: undef :: undef :: undef :: undef :: undef :: undef :: undef :: undef :: undef :: undef :: undef :: undef :: undef :: undef :: undef :: undef :: undef :: undef :: undef :: undef :: undef :: undef :: undef :: undef :: undef :: undef :: undef :: undef :: undef :: []), []⟩ ∧ (KS W p (fun _ => True)) w) #[true, true, true, true, true, true, true, true, true, true, true, true, true, true, true, true, true, true, true, true, true, false, false, false, false, false, false, false, false, false, false, false, false, false, false, false, false, false] 17 (fun HJf27 => ?jf27) ?_
   case jf27 =>
    refine wpAnyH_ready (rs := [13, 16]) (by kernel_rfl) (by simp) ?_
    refine cons_l rfl (fun K hK => ?sf28) ?mf28
    case sf28 =>
     go_simp
     refine bD ll_bb hS (fun wx9 hS hx9 hk => ?_)
     refine hK.out _ _ hS (fun hS => ?_)
     clear hK K
     try simp only [Act.put, List.setIfInBounds_toArray, List.set_cons_zero, List.set_cons_succ]
     refine wpAnyH_ready (rs := [14, 16]) (by kernel_rfl) (by simp) ?_
     refine cons_l rfl (fun K hK => ?sf29) ?mf29
     case sf29 =>
      go_simp
      refine (llist_ok _ _).mono ?_
      rintro e w' ⟨rfl, rfl⟩
      go_wp2_with fail
      refine hK.out _ _ hS (fun hS => ?_)
      clear hK K
      try simp only [Act.put, List.setIfInBounds_toArray, List.set_cons_zero, List.set_cons_succ]
      refine wpAnyH_ready (rs := [16]) (by kernel_rfl) (by simp) ?_
      refine cons_l rfl (fun K hK => ?sf30) ?mf30
      case sf30 =>
       go_simp
       refine bW wl_o hS (fun wx10 hS hx10 hk => ?_)
       replace hx9 := hk _ _ hx9
       refine hK.out _ _ hS (fun hS => ?_)
       clear hK K
       try simp only [Act.put, List.setIfInBounds_toArray, List.set_cons_zero, List.set_cons_succ]
       refine wpAnyH_ready (rs := [17]) (by kernel_rfl) (by simp) ?_
       refine cons_l rfl (fun K hK => ?sf31) ?mf31
       case sf31 =>
        go_simp
        refine (cw2 hS hx9 hx10).mono ?_
        rintro e wx11 ⟨rfl, hS, hk⟩
        clear hx9 hx10
        go_wp2_with fail
        refine hK.out _ _ hS (fun hS => ?_)
        clear hK K
        try simp only [Act.put, List.setIfInBounds_toArray, List.set_cons_zero, List.set_cons_succ]
        refine take_yes (i := 18) (v := ?vf32) rfl (by kernel_rfl) (by kernel_rfl) (by kernel_rfl) (fun _ _ _ h => h) (by rfl) ?yf32 hS ?rf32
        case yf32 => (intro w _; go_simp; (try with_reducible rfl))
        try simp only [Act.put, List.setIfInBounds_toArray, List.set_cons_zero, List.set_cons_succ]
        refine take_yes (i := 19) (v := ?vf33) rfl (by kernel_rfl) (by kernel_rfl) (by kernel_rfl) (fun _ _ _ h => h) (by rfl) ?yf33 hS ?rf33
        case yf33 => (intro w _; go_simp; (try with_reducible rfl))
        try simp only [Act.put, List.setIfInBounds_toArray, List.set_cons_zero, List.set_cons_succ]
        refine take_yes (i := 20) (v := ?vf34) rfl (by kernel_rfl) (by kernel_rfl) (by kernel_rfl) (fun _ _ _ h => h) (by rfl) ?yf34 hS ?rf34
        case yf34 => (intro w _; go_simp; (try with_reducible rfl))
        try simp only [Act.put, List.setIfInBounds_toArray, List.set_cons_zero, List.set_cons_succ]
        exact HJf27 _ _ _ (by kernel_rfl) ⟨_, _, _, _, _, _, _, _, _, _, _, _, _, _, _, _, _, _, _, _, rfl, hS⟩
       exact AllReadyH.nil
      exact AllReadyH.nil
     refine cons_l rfl (fun K hK => ?sf35) ?mf35
     case sf35 =>
      go_simp
      refine bW wl_o hS (fun wx12 hS hx12 hk => ?_)
      replace hx9 := hk _ _ hx9
      refine hK.out _ _ hS (fun hS => ?_)
      clear hK K
      try simp only [Act.put, List.setIfInBounds_toArray, List.set_cons_zero, List.set_cons_succ]
      refine wpAnyH_ready (rs := [14]) (by kernel_rfl) (by simp) ?_
      refine cons_l rfl (fun K hK => ?sf36) ?mf36
      case sf36 =>
       go_simp
       refine (llist_ok _ _).mono ?_
       rintro e w' ⟨rfl, rfl⟩
       go_wp2_with fail
       refine hK.out _ _ hS (fun hS => ?_)
       clear hK K
       try simp only [Act.put, List.setIfInBounds_toArray, List.set_cons_zero, List.set_cons_succ]
       refine wpAnyH_ready (rs := [17]) (by kernel_rfl) (by simp) ?_
       refine cons_l rfl (fun K hK => ?sf37) ?mf37
       case sf37 =>
        go_simp
        refine (cw2 hS hx9 hx12).mono ?_
        rintro e wx13 ⟨rfl, hS, hk⟩
        clear hx9 hx12
        go_wp2_with fail
        refine hK.out _ _ hS (fun hS => ?_)
        clear hK K
        try simp only [Act.put, List.setIfInBounds_toArray, List.set_cons_zero, List.set_cons_succ]
        refine take_yes (i := 18) (v := ?vf38) rfl (by kernel_rfl) (by kernel_rfl) (by kernel_rfl) (fun _ _ _ h => h) (by rfl) ?yf38 hS ?rf38
        case yf38 => (intro w _; go_simp; (try with_reducible rfl))
        try simp only [Act.put, List.setIfInBounds_toArray, List.set_cons_zero, List.set_cons_succ]
        refine take_yes (i := 19) (v := ?vf39) rfl (by kernel_rfl) (by kernel_rfl) (by kernel_rfl) (fun _ _ _ h => h) (by rfl) ?yf39 hS ?rf39
        case yf39 => (intro w _; go_simp; (try with_reducible rfl))
        try simp only [Act.put, List.setIfInBounds_toArray, List.set_cons_zero, List.set_cons_succ]
        refine take_yes (i := 20) (v := ?vf40) rfl (by kernel_rfl) (by kernel_rfl) (by kernel_rfl) (fun _ _ _ h => h) (by rfl) ?yf40 hS ?rf40
        case yf40 => (intro w _; go_simp; (try with_reducible rfl))
        try simp only [Act.put, List.setIfInBounds_toArray, List.set_cons_zero, List.set_cons_succ]
        exact HJf27 _ _ _ (by kernel_rfl) ⟨_, _, _, _, _, _, _, _, _, _, _, _, _, _, _, _, _, _, _, _, rfl, hS⟩
       exact AllReadyH.nil
      exact AllReadyH.nil
     exact AllReadyH.nil
    refine cons_l rfl (fun K hK => ?sf41) ?mf41
    case sf41 =>
     go_simp
     refine bW wl_o hS (fun wx14 hS hx14 hk => ?_)
     refine hK.out _ _ hS (fun hS => ?_)
     clear hK K
     try simp only [Act.put, List.setIfInBounds_toArray, List.set_cons_zero, List.set_cons_succ]
     refine wpAnyH_ready (rs := [13]) (by kernel_rfl) (by simp) ?_
     refine cons_l rfl (fun K hK => ?sf42) ?mf42
     case sf42 =>
      go_simp
      refine bD ll_bb hS (fun wx15 hS hx15 hk => ?_)
      replace hx14 := hk _ _ hx14
      refine hK.out _ _ hS (fun hS => ?_)
      clear hK K
      try simp only [Act.put, List.setIfInBounds_toArray, List.set_cons_zero, List.set_cons_succ]
      refine wpAnyH_ready (rs := [14]) (by kernel_rfl) (by simp) ?_
      refine cons_l rfl (fun K hK => ?sf43) ?mf43
      case sf43 =>
       go_simp
       refine (llist_ok _ _).mono ?_
       rintro e w' ⟨rfl, rfl⟩
       go_wp2_with fail
       refine hK.out _ _ hS (fun hS => ?_)
       clear hK K
       try simp only [Act.put, List.setIfInBounds_toArray, List.set_cons_zero, List.set_cons_succ]
       refine wpAnyH_ready (rs := [17]) (by kernel_rfl) (by simp) ?_
       refine cons_l rfl (fun K hK => ?sf44) ?mf44
       case sf44 =>
        go_simp
        refine (cw2 hS hx15 hx14).mono ?_
        rintro e wx16 ⟨rfl, hS, hk⟩
        clear hx15 hx14
        go_wp2_with fail
        refine hK.out _ _ hS (fun hS => ?_)
        clear hK K
        try simp only [Act.put, List.setIfInBounds_toArray, List.set_cons_zero, List.set_cons_succ]
        refine take_yes (i := 18) (v := ?vf45) rfl (by kernel_rfl) (by kernel_rfl) (by kernel_rfl) (fun _ _ _ h => h) (by rfl) ?yf45 hS ?rf45
        case yf45 => (intro w _; go_simp; (try with_reducible rfl))
        try simp only [Act.put, List.setIfInBounds_toArray, List.set_cons_zero, List.set_cons_succ]
        refine take_yes (i := 19) (v := ?vf46) rfl (by kernel_rfl) (by kernel_rfl) (by kernel_rfl) (fun _ _ _ h => h) (by rfl) ?yf46 hS ?rf46
        case yf46 => (intro w _; go_simp; (try with_reducible rfl))
        try simp only [Act.put, List.setIfInBounds_toArray, List.set_cons_zero, List.set_cons_succ]
        refine take_yes (i := 20) (v := ?vf47) rfl (by kernel_rfl) (by kernel_rfl) (by kernel_rfl) (fun _ _ _ h => h) (by rfl) ?yf47 hS ?rf47
        case yf47 => (intro w _; go_simp; (try with_reducible rfl))
        try simp only [Act.put, List.setIfInBounds_toArray, List.set_cons_zero, List.set_cons_succ]
        exact HJf27 _ _ _ (by kernel_rfl) ⟨_, _, _, _, _, _, _, _, _, _, _, _, _, _, _, _, _, _, _, _, rfl, hS⟩
       exact AllReadyH.nil
      exact AllReadyH.nil
     exact AllReadyH.nil
    exact AllReadyH.nil
   rintro a wf27 ⟨v15, v16, v17, v18, v19, v20, v21, v22, v23, v24, v25, v26, v27, v28, v29, v30, v31, v32, v33, v34, rfl, hS⟩
   refine take_mid (i := 21) rfl (by kernel_rfl) (by kernel_rfl) (by kernel_rfl) _ _ rfl (p) (0) _ (fun _ _ _ h => h) (by rfl) rfl _ (fun _ h => h.ra) Try.underlying47 rfl (by kernel_rfl) hS ?_
   try simp only [Act.put, List.setIfInBounds_toArray, List.set_cons_zero, List.set_cons_succ]
   refine take_mid (i := 22) rfl (by kernel_rfl) (by kernel_rfl) (by kernel_rfl) _ _ rfl ((p + 2)) (0) _ (fun _ _ _ h => h) (by rfl) rfl _ (fun _ h => h.rc) Try.underlying47 rfl (by kernel_rfl) hS ?_
   try simp only [Act.put, List.setIfInBounds_toArray, List.set_cons_zero, List.set_cons_succ]
   refine wpAnyH_ready (rs := [23]) (by kernel_rfl) (by simp) ?_
   refine cons_l rfl (fun K hK => ?sf50) ?mf50
   case sf50 =>
    go_simp
    refine bD ll_ac hS (fun wx17 hS hx17 hk => ?_)
    refine hK.out _ _ hS (fun hS => ?_)
    clear hK K
    try simp only [Act.put, List.setIfInBounds_toArray, List.set_cons_zero, List.set_cons_succ]
    refine wpAnyH_ready (rs := [24]) (by kernel_rfl) (by simp) ?_
    refine cons_l rfl (fun K hK => ?sf51) ?mf51
    case sf51 =>
     go_simp
     refine (llist_ok _ _).mono ?_
     rintro e w' ⟨rfl, rfl⟩
     go_wp2_with fail
     refine hK.out _ _ hS (fun hS => ?_)
     clear hK K
     try simp only [Act.put, List.setIfInBounds_toArray, List.set_cons_zero, List.set_cons_succ]
     refine wpAnyH_ready (rs := [25]) (by kernel_rfl) (by simp) ?_
     refine cons_l rfl (fun K hK => ?sf52) ?mf52
     case sf52 =>
      go_simp
      refine (cw3 hS hx17).mono ?_
      rintro e wx18 ⟨rfl, hS, hk⟩
      clear hx17
      go_wp2_with fail
      refine hK.out _ _ hS (fun hS => ?_)
      clear hK K
      try simp only [Act.put, List.setIfInBounds_toArray, List.set_cons_zero, List.set_cons_succ]
      refine take_yes (i := 26) (v := ?vf53) rfl (by kernel_rfl) (by kernel_rfl) (by kernel_rfl) (fun _ _ _ h => h) (by rfl) ?yf53 hS ?rf53
      case yf53 => (intro w _; go_simp; (try with_reducible rfl))
      try simp only [Act.put, List.setIfInBounds_toArray, List.set_cons_zero, List.set_cons_succ]
      refine take_yes (i := 27) (v := ?vf54) rfl (by kernel_rfl) (by kernel_rfl) (by kernel_rfl) (fun _ _ _ h => h) (by rfl) ?yf54 hS ?rf54
      case yf54 => (intro w _; go_simp; (try with_reducible rfl))
      try simp only [Act.put, List.setIfInBounds_toArray, List.set_cons_zero, List.set_cons_succ]
      refine take_yes (i := 28) (v := ?vf55) rfl (by kernel_rfl) (by kernel_rfl) (by kernel_rfl) (fun _ _ _ h => h) (by rfl) ?yf55 hS ?rf55
      case yf55 => (intro w _; go_simp; (try with_reducible rfl))
      try simp only [Act.put, List.setIfInBounds_toArray, List.set_cons_zero, List.set_cons_succ]
      refine take_mid (i := 29) rfl (by kernel_rfl) (by kernel_rfl) (by kernel_rfl) _ _ rfl ((p + 1)) (0) _ (fun _ _ _ h => h) (by rfl) rfl _ (fun _ h => h.rb) Try.underlying47 rfl (by kernel_rfl) hS ?_
      try simp only [Act.put, List.setIfInBounds_toArray, List.set_cons_zero, List.set_cons_succ]
      refine take_mid (i := 30) rfl (by kernel_rfl) (by kernel_rfl) (by kernel_rfl) _ _ rfl ((p + 2)) (0) _ (fun _ _ _ h => h) (by rfl) rfl _ (fun _ h => h.rc) Try.underlying47 rfl (by kernel_rfl) hS ?_
      try simp only [Act.put, List.setIfInBounds_toArray, List.set_cons_zero, List.set_cons_succ]
      refine take_mid (i := 33) rfl (by kernel_rfl) (by kernel_rfl) (by kernel_rfl) _ _ rfl ((p + 3)) (0) _ (fun _ _ _ h => h) (by rfl) rfl _ (fun _ h => h.ro) Try.underlying60 rfl (by kernel_rfl) hS ?_
      try simp only [Act.put, List.setIfInBounds_toArray, List.set_cons_zero, List.set_cons_succ]
      refine wpAnyH_ready (rs := [31, 34]) (by kernel_rfl) (by simp) ?_
      refine cons_l rfl (fun K hK => ?sf59) ?mf59
      case sf59 =>
       go_simp
       refine bD ll_bc hS (fun wx19 hS hx19 hk => ?_)
       refine hK.out _ _ hS (fun hS => ?_)
       clear hK K
       try simp only [Act.put, List.setIfInBounds_toArray, List.set_cons_zero, List.set_cons_succ]
       refine wpAnyH_ready (rs := [32, 34]) (by kernel_rfl) (by simp) ?_
       refine cons_l rfl (fun K hK => ?sf60) ?mf60
       case sf60 =>
        go_simp
        refine (llist_ok _ _).mono ?_
        rintro e w' ⟨rfl, rfl⟩
        go_wp2_with fail
        refine hK.out _ _ hS (fun hS => ?_)
        clear hK K
        try simp only [Act.put, List.setIfInBounds_toArray, List.set_cons_zero, List.set_cons_succ]
        refine wpAnyH_ready (rs := [34]) (by kernel_rfl) (by simp) ?_
        refine cons_l rfl (fun K hK => ?sf61) ?mf61
        case sf61 =>
         go_simp
         refine bW wl_o hS (fun wx20 hS hx20 hk => ?_)
         replace hx19 := hk _ _ hx19
         refine hK.out _ _ hS (fun hS => ?_)
         clear hK K
         try simp only [Act.put, List.setIfInBounds_toArray, List.set_cons_zero, List.set_cons_succ]
         refine wpAnyH_ready (rs := [35]) (by kernel_rfl) (by simp) ?_
         refine cons_l rfl (fun K hK => ?sf62) ?mf62
         case sf62 =>
          go_simp
          refine (cw4 hS hx19 hx20).mono ?_
          rintro e wx21 ⟨rfl, hS, hk⟩
          clear hx19 hx20
          go_wp2_with fail
          refine hK.out _ _ hS (fun hS => ?_)
          clear hK K
          try simp only [Act.put, List.setIfInBounds_toArray, List.set_cons_zero, List.set_cons_succ]
          refine take_yes (i := 36) (v := ?vf63) rfl (by kernel_rfl) (by kernel_rfl) (by kernel_rfl) (fun _ _ _ h => h) (by rfl) ?yf63 hS ?rf63
          case yf63 => (intro w _; go_simp; (try with_reducible rfl))
          try simp only [Act.put, List.setIfInBounds_toArray, List.set_cons_zero, List.set_cons_succ]
          refine take_yes (i := 37) (v := ?vf64) rfl (by kernel_rfl) (by kernel_rfl) (by kernel_rfl) (fun _ _ _ h => h) (by rfl) ?yf64 hS ?rf64
          case yf64 => (intro w _; go_simp; (try with_reducible rfl))
          try simp only [Act.put, List.setIfInBounds_toArray, List.set_cons_zero, List.set_cons_succ]
          refine wpAnyH_done (by kernel_rfl) ?_ _
          go_wp2_with fail
          go_meet
          exact ⟨rfl, hS⟩
         exact AllReadyH.nil
        exact AllReadyH.nil
       refine cons_l rfl (fun K hK => ?sf65) ?mf65
       case sf65 =>
        go_simp
        refine bW wl_o hS (fun wx22 hS hx22 hk => ?_)
        replace hx19 := hk _ _ hx19
        refine hK.out _ _ hS (fun hS => ?_)
        clear hK K
        try simp only [Act.put, List.setIfInBounds_toArray, List.set_cons_zero, List.set_cons_succ]
        refine wpAnyH_ready (rs := [32]) (by kernel_rfl) (by simp) ?_
        refine cons_l rfl (fun K hK => ?sf66) ?mf66
        case sf66 =>
         go_simp
         refine (llist_ok _ _).mono ?_
         rintro e w' ⟨rfl, rfl⟩
         go_wp2_with fail
         refine hK.out _ _ hS (fun hS => ?_)
         clear hK K
         try simp only [Act.put, List.setIfInBounds_toArray, List.set_cons_zero, List.set_cons_succ]
         refine wpAnyH_ready (rs := [35]) (by kernel_rfl) (by simp) ?_
         refine cons_l rfl (fun K hK => ?sf67) ?mf67
         case sf67 =>
          go_simp
          refine (cw4 hS hx19 hx22).mono ?_
          rintro e wx23 ⟨rfl, hS, hk⟩
          clear hx19 hx22
          go_wp2_with fail
          refine hK.out _ _ hS (fun hS => ?_)
          clear hK K
          try simp only [Act.put, List.setIfInBounds_toArray, List.set_cons_zero, List.set_cons_succ]
          refine take_yes (i := 36) (v := ?vf68) rfl (by kernel_rfl) (by kernel_rfl) (by kernel_rfl) (fun _ _ _ h => h) (by rfl) ?yf68 hS ?rf68
          case yf68 => (intro w _; go_simp; (try with_reducible rfl))
          try simp only [Act.put, List.setIfInBounds_toArray, List.set_cons_zero, List.set_cons_succ]
          refine take_yes (i := 37) (v := ?vf69) rfl (by kernel_rfl) (by kernel_rfl) (by kernel_rfl) (fun _ _ _ h => h) (by rfl) ?yf69 hS ?rf69
          case yf69 => (intro w _; go_simp; (try with_reducible rfl))
          try simp only [Act.put, List.setIfInBounds_toArray, List.set_cons_zero, List.set_cons_succ]
          refine wpAnyH_done (by kernel_rfl) ?_ _
          go_wp2_with fail
          go_meet
          exact ⟨rfl, hS⟩
         exact AllReadyH.nil
        exact AllReadyH.nil
       exact AllReadyH.nil
      refine cons_l rfl (fun K hK => ?sf70) ?mf70
      case sf70 =>
       go_simp
       refine bW wl_o hS (fun wx24 hS hx24 hk => ?_)
       refine hK.out _ _ hS (fun hS => ?_)
       clear hK K
       try simp only [Act.put, List.setIfInBounds_toArray, List.set_cons_zero, List.set_cons_succ]
       refine wpAnyH_ready (rs := [31]) (by kernel_rfl) (by simp) ?_
       refine cons_l rfl (fun K hK => ?sf71) ?mf71
       case sf71 =>
        go_simp
        refine bD ll_bc hS (fun wx25 hS hx25 hk => ?_)
        replace hx24 := hk _ _ hx24
        refine hK.out _ _ hS (fun hS => ?_)
        clear hK K
        try simp only [Act.put, List.setIfInBounds_toArray, List.set_cons_zero, List.set_cons_succ]
        refine wpAnyH_ready (rs := [32]) (by kernel_rfl) (by simp) ?_
        refine cons_l rfl (fun K hK => ?sf72) ?mf72
        case sf72 =>
         go_simp
         refine (llist_ok _ _).mono ?_
         rintro e w' ⟨rfl, rfl⟩
         go_wp2_with fail
         refine hK.out _ _ hS (fun hS => ?_)
         clear hK K
         try simp only [Act.put, List.setIfInBounds_toArray, List.set_cons_zero, List.set_cons_succ]
         refine wpAnyH_ready (rs := [35]) (by kernel_rfl) (by simp) ?_
         refine cons_l rfl (fun K hK => ?sf73) ?mf73
         case sf73 =>
          go_simp
          refine (cw4 hS hx25 hx24).mono ?_
          rintro e wx26 ⟨rfl, hS, hk⟩
          clear hx25 hx24
          go_wp2_with fail
          refine hK.out _ _ hS (fun hS => ?_)
          clear hK K
          try simp only [Act.put, List.setIfInBounds_toArray, List.set_cons_zero, List.set_cons_succ]
          refine take_yes (i := 36) (v := ?vf74) rfl (by kernel_rfl) (by kernel_rfl) (by kernel_rfl) (fun _ _ _ h => h) (by rfl) ?yf74 hS ?rf74
          case yf74 => (intro w _; go_simp; (try with_reducible rfl))
          try simp only [Act.put, List.setIfInBounds_toArray, List.set_cons_zero, List.set_cons_succ]
          refine take_yes (i := 37) (v := ?vf75) rfl (by kernel_rfl) (by kernel_rfl) (by kernel_rfl) (fun _ _ _ h => h) (by rfl) ?yf75 hS ?rf75
          case yf75 => (intro w _; go_simp; (try with_reducible rfl))
          try simp only [Act.put, List.setIfInBounds_toArray, List.set_cons_zero, List.set_cons_succ]
          refine wpAnyH_done (by kernel_rfl) ?_ _
          go_wp2_with fail
          go_meet
          exact ⟨rfl, hS⟩
         exact AllReadyH.nil
        exact AllReadyH.nil
       exact AllReadyH.nil
      exact AllReadyH.nil
     exact AllReadyH.nil
    exact AllReadyH.nil
   exact AllReadyH.nil
  case rest =>
    obtain ⟨rfl, hS⟩ := hcut
    have hmk : ∀ w, (Instr.makeSlice 22 (.int .i64 6) (.int .i64 6)).run Try.prog w = .ok (.slice (some ⟨w.heap.size, 0, none⟩) 6 6) (w.alloc (.cells #[.int .u64 0, .int .u64 0, .int .u64 0, .int .u64 0, .int .u64 0, .int .u64 0] 30)) := fun w => make_u64 6 (by omega) w
    go_upto_region 8 with fail
    have hx := bAny (a := ⟨#[], []⟩) (K := fun _ w1 => KS W p (fun w => Rd (fun _ => True) w (some ⟨wc.heap.size, 0, none⟩) (u64s z6)) w1) 30 (u64s z6) hS (fun w1 h1 h2 h3 => h1.with h2 (fun _ _ hb h => kp hb _ _ h))
    have hS : KS W p (fun w => Rd (fun _ => True) w (some ⟨wc.heap.size, 0, none⟩) (u64s z6)) (wc.alloc (.cells #[.int .u64 0, .int .u64 0, .int .u64 0, .int .u64 0, .int .u64 0, .int .u64 0] 30)) := hx
    clear hx hmk
    generalize wc.alloc (.cells #[.int .u64 0, .int .u64 0, .int .u64 0, .int .u64 0, .int .u64 0, .int .u64 0] 30) = w0 at *
    generalize wc.heap.size = g at *
    go_cut [87] (fun s87 wx => s87 = .bool false ∧ KS W p (fun w => Rd (fun _ => True) w (some ⟨g, 0, none⟩) (u64s z6)) wx)
    case first =>
     refine wp_region_held_drew (S := (KS W p (fun w => Rd (fun _ => True) w (some ⟨g, 0, none⟩) (u64s z6)))) (by kernel_rfl) (KS.next hS (Below.drew (Below.refl _ _))) (fun hS => ?_)
     refine take_yes (i := 0) (v := ?vg1) rfl (by kernel_rfl) (by kernel_rfl) (by kernel_rfl) (fun _ _ _ h => h) (by rfl) ?yg1 hS ?rg1
     case yg1 => (intro w _; go_simp; (try with_reducible rfl))
     try simp only [Act.put, List.setIfInBounds_toArray, List.set_cons_zero, List.set_cons_succ]
     refine take_mid (i := 1) rfl (by kernel_rfl) (by kernel_rfl) (by kernel_rfl) _ _ rfl ((p + 1)) (0) _ (fun _ _ _ h => h) (by rfl) rfl _ (fun _ h => h.rb) Try.underlying47 rfl (by kernel_rfl) hS ?_
     try simp only [Act.put, List.setIfInBounds_toArray, List.set_cons_zero, List.set_cons_succ]
     refine take_mid (i := 2) rfl (by kernel_rfl) (by kernel_rfl) (by kernel_rfl) _ _ rfl (p) (0) _ (fun _ _ _ h => h) (by rfl) rfl _ (fun _ h => h.ra) Try.underlying47 rfl (by kernel_rfl) hS ?_
     try simp only [Act.put, List.setIfInBounds_toArray, List.set_cons_zero, List.set_cons_succ]
     refine take_mid (i := 3) rfl (by kernel_rfl) (by kernel_rfl) (by kernel_rfl) _ _ rfl ((p + 2)) (0) _ (fun _ _ _ h => h) (by rfl) rfl _ (fun _ h => h.rc) Try.underlying47 rfl (by kernel_rfl) hS ?_
     try simp only [Act.put, List.setIfInBounds_toArray, List.set_cons_zero, List.set_cons_succ]
     refine wpAnyH_ready (rs := [4]) (by kernel_rfl) (by simp) ?_
     refine cons_l rfl (fun K hK => ?sg5) ?mg5
     case sg5 =>
      go_simp
      refine bD ll_bac hS (fun wx27 hS hx27 hk => ?_)
      refine hK.out _ _ hS (fun hS => ?_)
      clear hK K
      try simp only [Act.put, List.setIfInBounds_toArray, List.set_cons_zero, List.set_cons_succ]
      refine wpAnyH_ready (rs := [5]) (by kernel_rfl) (by simp) ?_
      refine cons_l rfl (fun K hK => ?sg6) ?mg6
      case sg6 =>
       go_simp
       refine (llist_ok _ _).mono ?_
       rintro e w' ⟨rfl, rfl⟩
       go_wp2_with fail
       refine hK.out _ _ hS (fun hS => ?_)
       clear hK K
       try simp only [Act.put, List.setIfInBounds_toArray, List.set_cons_zero, List.set_cons_succ]
       refine wpAnyH_ready (rs := [6]) (by kernel_rfl) (by simp) ?_
       refine cons_l rfl (fun K hK => ?sg7) ?mg7
       case sg7 =>
        go_simp
        refine (cc1 hS hS.ex hx27).mono ?_
        rintro e wx28 ⟨rfl, hS, hk⟩
        clear hx27
        go_wp2_with fail
        refine hK.out _ _ hS (fun hS => ?_)
        clear hK K
        try simp only [Act.put, List.setIfInBounds_toArray, List.set_cons_zero, List.set_cons_succ]
        refine take_yes (i := 7) (v := ?vg8) rfl (by kernel_rfl) (by kernel_rfl) (by kernel_rfl) (fun _ _ _ h => h) (by rfl) ?yg8 hS ?rg8
        case yg8 => (intro w _; go_simp; (try with_reducible rfl))
        try simp only [Act.put, List.setIfInBounds_toArray, List.set_cons_zero, List.set_cons_succ]
        refine take_yes (i := 8) (v := ?vg9) rfl (by kernel_rfl) (by kernel_rfl) (by kernel_rfl) (fun _ _ _ h => h) (by rfl) ?yg9 hS ?rg9
        case yg9 => (intro w _; go_simp; (try with_reducible rfl))
        try simp only [Act.put, List.setIfInBounds_toArray, List.set_cons_zero, List.set_cons_succ]
        refine take_yes (i := 9) (v := ?vg10) rfl (by kernel_rfl) (by kernel_rfl) (by kernel_rfl) (fun _ _ _ h => h) (by rfl) ?yg10 hS ?rg10
        case yg10 => (intro w _; go_simp; (try with_reducible rfl))
        try simp only [Act.put, List.setIfInBounds_toArray, List.set_cons_zero, List.set_cons_succ]
        refine take_mid (i := 10) rfl (by kernel_rfl) (by kernel_rfl) (by kernel_rfl) _ _ rfl ((p + 2)) (0) _ (fun _ _ _ h => h) (by rfl) rfl _ (fun _ h => h.rc) Try.underlying47 rfl (by kernel_rfl) hS ?_
        try simp only [Act.put, List.setIfInBounds_toArray, List.set_cons_zero, List.set_cons_succ]
        refine wpAnyH_ready (rs := [11]) (by kernel_rfl) (by simp) ?_
        refine cons_l rfl (fun K hK => ?sg12) ?mg12
        case sg12 =>
         go_simp
         refine bD ll_c hS (fun wx29 hS hx29 hk => ?_)
         refine hK.out _ _ hS (fun hS => ?_)
         clear hK K
         try simp only [Act.put, List.setIfInBounds_toArray, List.set_cons_zero, List.set_cons_succ]
         refine wpAnyH_ready (rs := [12]) (by kernel_rfl) (by simp) ?_
         refine cons_l rfl (fun K hK => ?sg13) ?mg13
         case sg13 =>
          go_simp
          refine (llist_ok _ _).mono ?_
          rintro e w' ⟨rfl, rfl⟩
          go_wp2_with fail
          refine hK.out _ _ hS (fun hS => ?_)
          clear hK K
          try simp only [Act.put, List.setIfInBounds_toArray, List.set_cons_zero, List.set_cons_succ]
          refine wpAnyH_ready (rs := [13]) (by kernel_rfl) (by simp) ?_
          refine cons_l rfl (fun K hK => ?sg14) ?mg14
          case sg14 =>
           go_simp
           refine (cc2 hS hS.ex hx29).mono ?_
           rintro e wx30 ⟨rfl, hS, hk⟩
           clear hx29
           go_wp2_with fail
           refine hK.out _ _ hS (fun hS => ?_)
           clear hK K
           try simp only [Act.put, List.setIfInBounds_toArray, List.set_cons_zero, List.set_cons_succ]
           refine take_yes (i := 14) (v := ?vg15) rfl (by kernel_rfl) (by kernel_rfl) (by kernel_rfl) (fun _ _ _ h => h) (by rfl) ?yg15 hS ?rg15
           case yg15 => (intro w _; go_simp; (try with_reducible rfl))
           try simp only [Act.put, List.setIfInBounds_toArray, List.set_cons_zero, List.set_cons_succ]
           refine take_yes (i := 15) (v := ?vg16) rfl (by kernel_rfl) (by kernel_rfl) (by kernel_rfl) (fun _ _ _ h => h) (by rfl) ?yg16 hS ?rg16
           case yg16 => (intro w _; go_simp; (try with_reducible rfl))
           try simp only [Act.put, List.setIfInBounds_toArray, List.set_cons_zero, List.set_cons_succ]
           refine take_yes (i := 16) (v := ?vg17) rfl (by kernel_rfl) (by kernel_rfl) (by kernel_rfl) (fun _ _ _ h => h) (by rfl) ?yg17 hS ?rg17
           case yg17 => (intro w _; go_simp; (try with_reducible rfl))
           try simp only [Act.put, List.setIfInBounds_toArray, List.set_cons_zero, List.set_cons_succ]
           refine take_yes (i := 17) (v := ?vg18) rfl (by kernel_rfl) (by kernel_rfl) (by kernel_rfl) (fun _ _ _ h => h) (by rfl) ?yg18 hS ?rg18
           case yg18 => (intro w _; go_simp; (try with_reducible rfl))
           try simp only [Act.put, List.setIfInBounds_toArray, List.set_cons_zero, List.set_cons_succ]
           refine take_yes (i := 18) (v := ?vg19) rfl (by kernel_rfl) (by kernel_rfl) (by kernel_rfl) (fun _ _ _ h => h) (by rfl) ?yg19 hS ?rg19
           case yg19 => (intro w _; go_simp; (try with_reducible rfl))
           try simp only [Act.put, List.setIfInBounds_toArray, List.set_cons_zero, List.set_cons_succ]
           refine take_mid (i := 19) rfl (by kernel_rfl) (by kernel_rfl) (by kernel_rfl) _ _ rfl (p) (0) _ (fun _ _ _ h => h) (by rfl) rfl _ (fun _ h => h.ra) Try.underlying47 rfl (by kernel_rfl) hS ?_
           try simp only [Act.put, List.setIfInBounds_toArray, List.set_cons_zero, List.set_cons_succ]
           refine wpAnyH_ready (rs := [20]) (by kernel_rfl) (by simp) ?_
           refine cons_l rfl (fun K hK => ?sg21) ?mg21
           case sg21 =>
            go_simp
            refine bD ll_a hS (fun wx31 hS hx31 hk => ?_)
            refine hK.out _ _ hS (fun hS => ?_)
            clear hK K
            try simp only [Act.put, List.setIfInBounds_toArray, List.set_cons_zero, List.set_cons_succ]
            refine wpAnyH_ready (rs := [21]) (by kernel_rfl) (by simp) ?_
            refine cons_l rfl (fun K hK => ?sg22) ?mg22
            case sg22 =>
             go_simp
             refine (llist_ok _ _).mono ?_
             rintro e w' ⟨rfl, rfl⟩
             go_wp2_with fail
             refine hK.out _ _ hS (fun hS => ?_)
             clear hK K
             try simp only [Act.put, List.setIfInBounds_toArray, List.set_cons_zero, List.set_cons_succ]
             refine wpAnyH_ready (rs := [22]) (by kernel_rfl) (by simp) ?_
             refine cons_l rfl (fun K hK => ?sg23) ?mg23
             case sg23 =>
              go_simp
              refine (cc3 hS (hS.ex.take 5) hx31).mono ?_
              rintro e wx32 ⟨rfl, hS, hk⟩
              clear hx31
              go_wp2_with fail
              refine hK.out _ _ hS (fun hS => ?_)
              clear hK K
              try simp only [Act.put, List.setIfInBounds_toArray, List.set_cons_zero, List.set_cons_succ]
              refine take_yes (i := 23) (v := ?vg24) rfl (by kernel_rfl) (by kernel_rfl) (by kernel_rfl) (fun _ _ _ h => h) (by rfl) ?yg24 hS ?rg24
              case yg24 => (intro w _; go_simp; (try with_reducible rfl))
              try simp only [Act.put, List.setIfInBounds_toArray, List.set_cons_zero, List.set_cons_succ]
              refine take_yes (i := 24) (v := ?vg25) rfl (by kernel_rfl) (by kernel_rfl) (by kernel_rfl) (fun _ _ _ h => h) (by rfl) ?yg25 hS ?rg25
              case yg25 => (intro w _; go_simp; (try with_reducible rfl))
              try simp only [Act.put, List.setIfInBounds_toArray, List.set_cons_zero, List.set_cons_succ]
              refine take_yes (i := 25) (v := ?vg26) rfl (by kernel_rfl) (by kernel_rfl) (by kernel_rfl) (fun _ _ _ h => h) (by rfl) ?yg26 hS ?rg26
              case yg26 => (intro w _; go_simp; (try with_reducible rfl))
              try simp only [Act.put, List.setIfInBounds_toArray, List.set_cons_zero, List.set_cons_succ]
              refine take_yes (i := 26) (v := ?vg27) rfl (by kernel_rfl) (by kernel_rfl) (by kernel_rfl) (fun _ _ _ h => h) (by rfl) ?yg27 hS ?rg27
              case yg27 => (intro w _; go_simp; (try with_reducible rfl))
              try simp only [Act.put, List.setIfInBounds_toArray, List.set_cons_zero, List.set_cons_succ]
              refine take_mid (i := 27) rfl (by kernel_rfl) (by kernel_rfl) (by kernel_rfl) _ _ rfl (p) (0) _ (fun _ _ _ h => h) (by rfl) rfl _ (fun _ h => h.ra) Try.underlying47 rfl (by kernel_rfl) hS ?_
              try simp only [Act.put, List.setIfInBounds_toArray, List.set_cons_zero, List.set_cons_succ]
              refine wpAnyH_ready (rs := [28, 30]) (by kernel_rfl) (by simp) ?_
              refine cons_l rfl (fun K hK => ?sg29) ?mg29
              case sg29 =>
               go_simp
               refine bD ll_a hS (fun wx33 hS hx33 hk => ?_)
               refine hK.out _ _ hS (fun hS => ?_)
               clear hK K
               try simp only [Act.put, List.setIfInBounds_toArray, List.set_cons_zero, List.set_cons_succ]
               refine wpAnyH_ready (rs := [29, 30]) (by kernel_rfl) (by simp) ?_
               refine cons_l rfl (fun K hK => ?sg30) ?mg30
               case sg30 =>
                go_simp
                refine (llist_ok _ _).mono ?_
                rintro e w' ⟨rfl, rfl⟩
                go_wp2_with fail
                refine hK.out _ _ hS (fun hS => ?_)
                clear hK K
                try simp only [Act.put, List.setIfInBounds_toArray, List.set_cons_zero, List.set_cons_succ]
                refine wpAnyH_ready (rs := [30]) (by kernel_rfl) (by simp) ?_
                refine cons_l rfl (fun K hK => ?sg31) ?mg31
                case sg31 =>
                 go_simp
                 refine bU [0, 0, 0, 0, 0, 1] hS (fun wx34 hS hx34 hk => ?_)
                 replace hx33 := hk _ _ hx33
                 refine hK.out _ _ hS (fun hS => ?_)
                 clear hK K
                 try simp only [Act.put, List.setIfInBounds_toArray, List.set_cons_zero, List.set_cons_succ]
                 refine wpAnyH_ready (rs := [31]) (by kernel_rfl) (by simp) ?_
                 refine cons_l rfl (fun K hK => ?sg32) ?mg32
                 case sg32 =>
                  go_simp
                  refine (cr1 hS hS.ex hx33 hx34).mono ?_
                  rintro e wx35 ⟨rfl, hS, hk⟩
                  clear hx33 hx34
                  go_wp2_with fail
                  refine hK.out _ _ hS (fun hS => ?_)
                  clear hK K
                  try simp only [Act.put, List.setIfInBounds_toArray, List.set_cons_zero, List.set_cons_succ]
                  refine take_yes (i := 32) (v := ?vg33) rfl (by kernel_rfl) (by kernel_rfl) (by kernel_rfl) (fun _ _ _ h => h) (by rfl) ?yg33 hS ?rg33
                  case yg33 => (intro w _; go_simp; (try with_reducible rfl))
                  try simp only [Act.put, List.setIfInBounds_toArray, List.set_cons_zero, List.set_cons_succ]
                  refine take_yes (i := 33) (v := ?vg34) rfl (by kernel_rfl) (by kernel_rfl) (by kernel_rfl) (fun _ _ _ h => h) (by rfl) ?yg34 hS ?rg34
                  case yg34 => (intro w _; go_simp; (try with_reducible rfl))
                  try simp only [Act.put, List.setIfInBounds_toArray, List.set_cons_zero, List.set_cons_succ]
                  refine wpAnyH_done (by kernel_rfl) ?_ _
                  go_wp2_with fail
                  go_meet
                  exact ⟨rfl, hS⟩
                 exact AllReadyH.nil
                exact AllReadyH.nil
               refine cons_l rfl (fun K hK => ?sg35) ?mg35
               case sg35 =>
                go_simp
                refine bU [0, 0, 0, 0, 0, 1] hS (fun wx36 hS hx36 hk => ?_)
                replace hx33 := hk _ _ hx33
                refine hK.out _ _ hS (fun hS => ?_)
                clear hK K
                try simp only [Act.put, List.setIfInBounds_toArray, List.set_cons_zero, List.set_cons_succ]
                refine wpAnyH_ready (rs := [29]) (by kernel_rfl) (by simp) ?_
                refine cons_l rfl (fun K hK => ?sg36) ?mg36
                case sg36 =>
                 go_simp
                 refine (llist_ok _ _).mono ?_
                 rintro e w' ⟨rfl, rfl⟩
                 go_wp2_with fail
                 refine hK.out _ _ hS (fun hS => ?_)
                 clear hK K
                 try simp only [Act.put, List.setIfInBounds_toArray, List.set_cons_zero, List.set_cons_succ]
                 refine wpAnyH_ready (rs := [31]) (by kernel_rfl) (by simp) ?_
                 refine cons_l rfl (fun K hK => ?sg37) ?mg37
                 case sg37 =>
                  go_simp
                  refine (cr1 hS hS.ex hx33 hx36).mono ?_
                  rintro e wx37 ⟨rfl, hS, hk⟩
                  clear hx33 hx36
                  go_wp2_with fail
                  refine hK.out _ _ hS (fun hS => ?_)
                  clear hK K
                  try simp only [Act.put, List.setIfInBounds_toArray, List.set_cons_zero, List.set_cons_succ]
                  refine take_yes (i := 32) (v := ?vg38) rfl (by kernel_rfl) (by kernel_rfl) (by kernel_rfl) (fun _ _ _ h => h) (by rfl) ?yg38 hS ?rg38
                  case yg38 => (intro w _; go_simp; (try with_reducible rfl))
                  try simp only [Act.put, List.setIfInBounds_toArray, List.set_cons_zero, List.set_cons_succ]
                  refine take_yes (i := 33) (v := ?vg39) rfl (by kernel_rfl) (by kernel_rfl) (by kernel_rfl) (fun _ _ _ h => h) (by rfl) ?yg39 hS ?rg39
                  case yg39 => (intro w _; go_simp; (try with_reducible rfl))
                  try simp only [Act.put, List.setIfInBounds_toArray, List.set_cons_zero, List.set_cons_succ]
                  refine wpAnyH_done (by kernel_rfl) ?_ _
                  go_wp2_with fail
                  go_meet
                  exact ⟨rfl, hS⟩
                 exact AllReadyH.nil
                exact AllReadyH.nil
               exact AllReadyH.nil
              refine cons_l rfl (fun K hK => ?sg40) ?mg40
              case sg40 =>
               go_simp
               refine bU [0, 0, 0, 0, 0, 1] hS (fun wx38 hS hx38 hk => ?_)
               refine hK.out _ _ hS (fun hS => ?_)
               clear hK K
               try simp only [Act.put, List.setIfInBounds_toArray, List.set_cons_zero, List.set_cons_succ]
               refine wpAnyH_ready (rs := [28]) (by kernel_rfl) (by simp) ?_
               refine cons_l rfl (fun K hK => ?sg41) ?mg41
               case sg41 =>
                go_simp
                refine bD ll_a hS (fun wx39 hS hx39 hk => ?_)
                replace hx38 := hk _ _ hx38
                refine hK.out _ _ hS (fun hS => ?_)
                clear hK K
                try simp only [Act.put, List.setIfInBounds_toArray, List.set_cons_zero, List.set_cons_succ]
                refine wpAnyH_ready (rs := [29]) (by kernel_rfl) (by simp) ?_
                refine cons_l rfl (fun K hK => ?sg42) ?mg42
                case sg42 =>
                 go_simp
                 refine (llist_ok _ _).mono ?_
                 rintro e w' ⟨rfl, rfl⟩
                 go_wp2_with fail
                 refine hK.out _ _ hS (fun hS => ?_)
                 clear hK K
                 try simp only [Act.put, List.setIfInBounds_toArray, List.set_cons_zero, List.set_cons_succ]
                 refine wpAnyH_ready (rs := [31]) (by kernel_rfl) (by simp) ?_
                 refine cons_l rfl (fun K hK => ?sg43) ?mg43
                 case sg43 =>
                  go_simp
                  refine (cr1 hS hS.ex hx39 hx38).mono ?_
                  rintro e wx40 ⟨rfl, hS, hk⟩
                  clear hx39 hx38
                  go_wp2_with fail
                  refine hK.out _ _ hS (fun hS => ?_)
                  clear hK K
                  try simp only [Act.put, List.setIfInBounds_toArray, List.set_cons_zero, List.set_cons_succ]
                  refine take_yes (i := 32) (v := ?vg44) rfl (by kernel_rfl) (by kernel_rfl) (by kernel_rfl) (fun _ _ _ h => h) (by rfl) ?yg44 hS ?rg44
                  case yg44 => (intro w _; go_simp; (try with_reducible rfl))
                  try simp only [Act.put, List.setIfInBounds_toArray, List.set_cons_zero, List.set_cons_succ]
                  refine take_yes (i := 33) (v := ?vg45) rfl (by kernel_rfl) (by kernel_rfl) (by kernel_rfl) (fun _ _ _ h => h) (by rfl) ?yg45 hS ?rg45
                  case yg45 => (intro w _; go_simp; (try with_reducible rfl))
                  try simp only [Act.put, List.setIfInBounds_toArray, List.set_cons_zero, List.set_cons_succ]
                  refine wpAnyH_done (by kernel_rfl) ?_ _
                  go_wp2_with fail
                  go_meet
                  exact ⟨rfl, hS⟩
                 exact AllReadyH.nil
                exact AllReadyH.nil
               exact AllReadyH.nil
              exact AllReadyH.nil
             exact AllReadyH.nil
            exact AllReadyH.nil
           exact AllReadyH.nil
          exact AllReadyH.nil
         exact AllReadyH.nil
        exact AllReadyH.nil
       exact AllReadyH.nil
      exact AllReadyH.nil
     exact AllReadyH.nil
    case rest =>
      obtain ⟨rfl, hS⟩ := hcut
      have c0 := hS.rc 0 _ rfl
      have c1 := hS.rc 1 _ rfl
      have c2 := hS.rc 2 _ rfl
      have c3 := hS.rc 3 _ rfl
      have c4 := hS.rc 4 _ rfl
      have c5 := hS.rc 5 _ rfl
      have c6 := hS.rc 6 _ rfl
      simp only [Nat.zero_add] at c0 c1 c2 c3 c4 c5 c6
      go_upto_region 12 with fail
      have hba : Below wc.heap.size wc ((wc.alloc (.cells #[.int .i64 1, .int .i64 1, .int .i64 5, .int .u64 1, .int .u64 2, .bool false, .bool false] 47)).alloc (.cells #[.int .i64 1, .int .i64 0, .int .i64 0, .int .u64 0, .int .u64 0, .bool false, .bool true] 47)) := by (repeat' (first | (with_reducible exact Below.refl _ _) | (with_reducible assumption) | (with_reducible refine Below.alloc ?_ ?_ _) | (with_reducible refine Below.drew ?_) | (with_reducible refine below_drewN ?_ _) | (with_reducible refine Below.setCell ?_ ?_ _) | (with_reducible refine Below.trans ?_ (Below.mono (by assumption) ?_)) | (first | go_size | (with_reducible exact Below.size (by assumption)) | (with_reducible exact Nat.le_trans (Below.size (by assumption)) (Below.size (by assumption))) | (refine Nat.le_trans (Below.size (by assumption)) ?_; go_size))))
      have hq1 := (Blk.new wc 47 [.int .i64 1, .int .i64 1, .int .i64 5, .int .u64 1, .int .u64 2, .bool false, .bool false]).keep ((Ch.refl (fun _ => False) _).alloc (.cells #[.int .i64 1, .int .i64 0, .int .i64 0, .int .u64 0, .int .u64 0, .bool false, .bool true] 47)) (fun e => e)
      have hq2 := Blk.new (wc.alloc (.cells #[.int .i64 1, .int .i64 1, .int .i64 5, .int .u64 1, .int .u64 2, .bool false, .bool false] 47)) 47 [.int .i64 1, .int .i64 0, .int .i64 0, .int .u64 0, .int .u64 0, .bool false, .bool true]
      rw [World.size_alloc] at hq2
      have hS := (hS.next hba).with (E2 := (fun w => w.rangeAt wc.heap.size 0 [.int .i64 1, .int .i64 1, .int .i64 5, .int .u64 1, .int .u64 2, .bool false, .bool false] ∧ w.rangeAt (wc.heap.size + 1) 0 [.int .i64 1, .int .i64 0, .int .i64 0, .int .u64 0, .int .u64 0, .bool false, .bool true])) ⟨range_blk hq1, range_blk hq2⟩ (fun w w' hb h => ⟨range_keep h.1 (Ch.of_below hb (fun _ => False)) (fun e => e), range_keep h.2 (Ch.of_below hb (fun _ => False)) (fun e => e)⟩)
      clear hba hq1 hq2 c0 c1 c2 c3 c4 c5 c6
      generalize ((wc.alloc (.cells #[.int .i64 1, .int .i64 1, .int .i64 5, .int .u64 1, .int .u64 2, .bool false, .bool false] 47)).alloc (.cells #[.int .i64 1, .int .i64 0, .int .i64 0, .int .u64 0, .int .u64 0, .bool false, .bool true] 47)) = w0 at *
      generalize wc.heap.size = q at *
      go_cut [132] (fun s132 wx => s132 = .bool false ∧ KS W p (fun w => w.rangeAt q 0 [.int .i64 1, .int .i64 1, .int .i64 5, .int .u64 1, .int .u64 2, .bool false, .bool false] ∧ w.rangeAt (q + 1) 0 [.int .i64 1, .int .i64 0, .int .i64 0, .int .u64 0, .int .u64 0, .bool false, .bool true]) wx)
      case first =>
       refine wp_region_held_drew (S := (KS W p (fun w => w.rangeAt q 0 [.int .i64 1, .int .i64 1, .int .i64 5, .int .u64 1, .int .u64 2, .bool false, .bool false] ∧ w.rangeAt (q + 1) 0 [.int .i64 1, .int .i64 0, .int .i64 0, .int .u64 0, .int .u64 0, .bool false, .bool true]))) (by kernel_rfl) (KS.next hS (Below.drew (Below.refl _ _))) (fun hS => ?_)
       refine take_mid (i := 0) rfl (by kernel_rfl) (by kernel_rfl) (by kernel_rfl) _ _ rfl ((p + 1)) (0) _ (fun _ _ _ h => h) (by rfl) rfl _ (fun _ h => h.rb) Try.underlying47 rfl (by kernel_rfl) hS ?_
       try simp only [Act.put, List.setIfInBounds_toArray, List.set_cons_zero, List.set_cons_succ]
       refine take_mid (i := 1) rfl (by kernel_rfl) (by kernel_rfl) (by kernel_rfl) _ _ rfl (p) (0) _ (fun _ _ _ h => h) (by rfl) rfl _ (fun _ h => h.ra) Try.underlying47 rfl (by kernel_rfl) hS ?_
       try simp only [Act.put, List.setIfInBounds_toArray, List.set_cons_zero, List.set_cons_succ]
       refine take_mid (i := 2) rfl (by kernel_rfl) (by kernel_rfl) (by kernel_rfl) _ _ rfl ((p + 2)) (0) _ (fun _ _ _ h => h) (by rfl) rfl _ (fun _ h => h.rc) Try.underlying47 rfl (by kernel_rfl) hS ?_
       try simp only [Act.put, List.setIfInBounds_toArray, List.set_cons_zero, List.set_cons_succ]
       refine take_mid (i := 3) rfl (by kernel_rfl) (by kernel_rfl) (by kernel_rfl) _ _ rfl (p) (0) _ (fun _ _ _ h => h) (by rfl) rfl _ (fun _ h => h.ra) Try.underlying47 rfl (by kernel_rfl) hS ?_
       try simp only [Act.put, List.setIfInBounds_toArray, List.set_cons_zero, List.set_cons_succ]
       refine any_join (fun a w => ∃ v92 v93 v94 v95 v96 v97 v98 v99 v100 : Value, a = ⟨List.toArray ((Value.bool false) :: (Value.pointer (some { block := p, off := 0 })) :: (Value.pointer (some { block := p + 1, off := 0 })) :: (Value.pointer (some { block := p + 1 + 1, off := 0 })) :: (Value.pointer (some { block := p + 1 + 1 + 1, off := 0 })) :: (Value.slice (some { block := g, off := 0 }) 6 6) :: (Value.pointer (some { block := q, off := 0 })) :: (Value.pointer (some { block := q + 1, off := 0 })) :: u8 :: u9 :: u10 :: u11 :: u12 :: u13 :: u14 :: u15 :: u16 :: u17 :: u18 :: u19 :: u20 :: u21 :: u22 :: u23 :: u24 :: u25 :: u26 :: u27 :: u28 :: u29 :: u30 :: u31 :: u32 :: u33 :: u34 :: u35 :: u36 :: u37 :: u38 :: u39 :: u40 :: u41 :: u42 :: u43 :: u44 :: u45 :: u46 :: u47 :: u48 :: u49 :: u50 :: u51 :: u52 :: u53 :: u54 :: u55 :: u56 :: u57 :: u58 :: u59 :: u60 :: u61 :: u62 :: u63 :: u64 :: u65 :: u66 :: u67 :: u68 :: u69 :: u70 :: u71 :: u72 :: u73 :: u74 :: u75 :: u76 :: u77 :: u78 :: u79 :: u80 :: u81 :: u82 :: u83 :: u84 :: u85 :: u86 :: (Value.bool false) :: (Value.agg #[Value.int IntKind.i64 1, Value.int IntKind.i64 1, Value.int IntKind.i64 5, Value.int IntKind.u64 1, Value.int IntKind.u64 1, Value.bool false, Value.bool false]) :: (Value.agg #[Value.int IntKind.i64 1, Value.int IntKind.i64 0, Value.int IntKind.i64 0, Value.int IntKind.u64 0, Value.int IntKind.u64 0, Value.bool false, Value.bool true]) :: (Value.pointer (some { block := q, off := 1 })) :: (Value.pointer (some { block := q, off := 4 })) :: v92 :: v93 :: v94 :: v95 :: v96 :: v97 :: v98 :: v99 :: v100 :: (.bool false) :: u102 :: u103 :: u104 :: u105 :: u106 :: u107 :: u108 :: u109 :: u110 :: u111 :: u112 :: u113 :: u114 :: u115 :: u116 :: u117 :: u118 :: u119 :: u120 :: u121 :: u122 :: u123 :: u124 :: u125 :: u126 :: u127 :: u128 :: u129 :: u130 :: u131 :: u132 :: u133 :: u134 :: u135 :: u136 :: u137 :: u138 :: u139 :: u140 :: u141 :: u142 :: u143 :: u144 :: u145 :: u146 :: u147 :: u148 :: u149 :: u150 :: u151 :: u152 :: u153 :: u154 :: u155 :: []), []⟩ ∧ (KS W p (fun w => w.rangeAt q 0 [.int .i64 1, .int .i64 1, .int .i64 5, .int .u64 1, .int .u64 2, .bool false, .bool false] ∧ w.rangeAt (q + 1) 0 [.int .i64 1, .int .i64 0, .int .i64 0, .int .u64 0, .int .u64 0, .bool false, .bool true])) w) #[true, true, true, true, true, true, true, true, true, true, false, false, false, false, false, false, false, false, false, false, false, false, false, false, false, false, false, false, false, false, false, false, false, false, false, false, false, false, false, false, false] 31 (fun HJh5 => ?jh5) ?_
       case jh5 =>
        refine wpAnyH_ready (rs := [4, 6]) (by kernel_rfl) (by simp) ?_
        refine cons_l rfl (fun K hK => ?sh6) ?mh6
        case sh6 =>
         go_simp
         refine bD ll_baca hS (fun wx41 hS hx41 hk => ?_)
         refine hK.out _ _ hS (fun hS => ?_)
         clear hK K
         try simp only [Act.put, List.setIfInBounds_toArray, List.set_cons_zero, List.set_cons_succ]
         refine wpAnyH_ready (rs := [5, 6]) (by kernel_rfl) (by simp) ?_
         refine cons_l rfl (fun K hK => ?sh7) ?mh7
         case sh7 =>
          go_simp
          refine (llist_ok _ _).mono ?_
          rintro e w' ⟨rfl, rfl⟩
          go_wp2_with fail
          refine hK.out _ _ hS (fun hS => ?_)
          clear hK K
          try simp only [Act.put, List.setIfInBounds_toArray, List.set_cons_zero, List.set_cons_succ]
          refine wpAnyH_ready (rs := [6]) (by kernel_rfl) (by simp) ?_
          refine cons_l rfl (fun K hK => ?sh8) ?mh8
          case sh8 =>
           go_simp
           refine bI [1, 3] hS (fun wx42 hS hx42 hk => ?_)
           replace hx41 := hk _ _ hx41
           refine hK.out _ _ hS (fun hS => ?_)
           clear hK K
           try simp only [Act.put, List.setIfInBounds_toArray, List.set_cons_zero, List.set_cons_succ]
           refine wpAnyH_ready (rs := [7]) (by kernel_rfl) (by simp) ?_
           refine cons_l rfl (fun K hK => ?sh9) ?mh9
           case sh9 =>
            go_simp
            refine (ch1 hS hx41 hx42).mono ?_
            rintro e wx43 ⟨rfl, hS, hk⟩
            clear hx41 hx42
            go_wp2_with fail
            refine hK.out _ _ hS (fun hS => ?_)
            clear hK K
            try simp only [Act.put, List.setIfInBounds_toArray, List.set_cons_zero, List.set_cons_succ]
            refine take_yes (i := 8) (v := ?vh10) rfl (by kernel_rfl) (by kernel_rfl) (by kernel_rfl) (fun _ _ _ h => h) (by rfl) ?yh10 hS ?rh10
            case yh10 => (intro w _; go_simp; (try with_reducible rfl))
            try simp only [Act.put, List.setIfInBounds_toArray, List.set_cons_zero, List.set_cons_succ]
            refine take_yes (i := 9) (v := ?vh11) rfl (by kernel_rfl) (by kernel_rfl) (by kernel_rfl) (fun _ _ _ h => h) (by rfl) ?yh11 hS ?rh11
            case yh11 => (intro w _; go_simp; (try with_reducible rfl))
            try simp only [Act.put, List.setIfInBounds_toArray, List.set_cons_zero, List.set_cons_succ]
            exact HJh5 _ _ _ (by kernel_rfl) ⟨_, _, _, _, _, _, _, _, _, rfl, hS⟩
           exact AllReadyH.nil
          exact AllReadyH.nil
         refine cons_l rfl (fun K hK => ?sh12) ?mh12
         case sh12 =>
          go_simp
          refine bI [1, 3] hS (fun wx44 hS hx44 hk => ?_)
          replace hx41 := hk _ _ hx41
          refine hK.out _ _ hS (fun hS => ?_)
          clear hK K
          try simp only [Act.put, List.setIfInBounds_toArray, List.set_cons_zero, List.set_cons_succ]
          refine wpAnyH_ready (rs := [5]) (by kernel_rfl) (by simp) ?_
          refine cons_l rfl (fun K hK => ?sh13) ?mh13
          case sh13 =>
           go_simp
           refine (llist_ok _ _).mono ?_
           rintro e w' ⟨rfl, rfl⟩
           go_wp2_with fail
           refine hK.out _ _ hS (fun hS => ?_)
           clear hK K
           try simp only [Act.put, List.setIfInBounds_toArray, List.set_cons_zero, List.set_cons_succ]
           refine wpAnyH_ready (rs := [7]) (by kernel_rfl) (by simp) ?_
           refine cons_l rfl (fun K hK => ?sh14) ?mh14
           case sh14 =>
            go_simp
            refine (ch1 hS hx41 hx44).mono ?_
            rintro e wx45 ⟨rfl, hS, hk⟩
            clear hx41 hx44
            go_wp2_with fail
            refine hK.out _ _ hS (fun hS => ?_)
            clear hK K
            try simp only [Act.put, List.setIfInBounds_toArray, List.set_cons_zero, List.set_cons_succ]
            refine take_yes (i := 8) (v := ?vh15) rfl (by kernel_rfl) (by kernel_rfl) (by kernel_rfl) (fun _ _ _ h => h) (by rfl) ?yh15 hS ?rh15
            case yh15 => (intro w _; go_simp; (try with_reducible rfl))
            try simp only [Act.put, List.setIfInBounds_toArray, List.set_cons_zero, List.set_cons_succ]
            refine take_yes (i := 9) (v := ?vh16) rfl (by kernel_rfl) (by kernel_rfl) (by kernel_rfl) (fun _ _ _ h => h) (by rfl) ?yh16 hS ?rh16
            case yh16 => (intro w _; go_simp; (try with_reducible rfl))
            try simp only [Act.put, List.setIfInBounds_toArray, List.set_cons_zero, List.set_cons_succ]
            exact HJh5 _ _ _ (by kernel_rfl) ⟨_, _, _, _, _, _, _, _, _, rfl, hS⟩
           exact AllReadyH.nil
          exact AllReadyH.nil
         exact AllReadyH.nil
        refine cons_l rfl (fun K hK => ?sh17) ?mh17
        case sh17 =>
         go_simp
         refine bI [1, 3] hS (fun wx46 hS hx46 hk => ?_)
         refine hK.out _ _ hS (fun hS => ?_)
         clear hK K
         try simp only [Act.put, List.setIfInBounds_toArray, List.set_cons_zero, List.set_cons_succ]
         refine wpAnyH_ready (rs := [4]) (by kernel_rfl) (by simp) ?_
         refine cons_l rfl (fun K hK => ?sh18) ?mh18
         case sh18 =>
          go_simp
          refine bD ll_baca hS (fun wx47 hS hx47 hk => ?_)
          replace hx46 := hk _ _ hx46
          refine hK.out _ _ hS (fun hS => ?_)
          clear hK K
          try simp only [Act.put, List.setIfInBounds_toArray, List.set_cons_zero, List.set_cons_succ]
          refine wpAnyH_ready (rs := [5]) (by kernel_rfl) (by simp) ?_
          refine cons_l rfl (fun K hK => ?sh19) ?mh19
          case sh19 =>
           go_simp
           refine (llist_ok _ _).mono ?_
           rintro e w' ⟨rfl, rfl⟩
           go_wp2_with fail
           refine hK.out _ _ hS (fun hS => ?_)
           clear hK K
           try simp only [Act.put, List.setIfInBounds_toArray, List.set_cons_zero, List.set_cons_succ]
           refine wpAnyH_ready (rs := [7]) (by kernel_rfl) (by simp) ?_
           refine cons_l rfl (fun K hK => ?sh20) ?mh20
           case sh20 =>
            go_simp
            refine (ch1 hS hx47 hx46).mono ?_
            rintro e wx48 ⟨rfl, hS, hk⟩
            clear hx47 hx46
            go_wp2_with fail
            refine hK.out _ _ hS (fun hS => ?_)
            clear hK K
            try simp only [Act.put, List.setIfInBounds_toArray, List.set_cons_zero, List.set_cons_succ]
            refine take_yes (i := 8) (v := ?vh21) rfl (by kernel_rfl) (by kernel_rfl) (by kernel_rfl) (fun _ _ _ h => h) (by rfl) ?yh21 hS ?rh21
            case yh21 => (intro w _; go_simp; (try with_reducible rfl))
            try simp only [Act.put, List.setIfInBounds_toArray, List.set_cons_zero, List.set_cons_succ]
            refine take_yes (i := 9) (v := ?vh22) rfl (by kernel_rfl) (by kernel_rfl) (by kernel_rfl) (fun _ _ _ h => h) (by rfl) ?yh22 hS ?rh22
            case yh22 => (intro w _; go_simp; (try with_reducible rfl))
            try simp only [Act.put, List.setIfInBounds_toArray, List.set_cons_zero, List.set_cons_succ]
            exact HJh5 _ _ _ (by kernel_rfl) ⟨_, _, _, _, _, _, _, _, _, rfl, hS⟩
           exact AllReadyH.nil
          exact AllReadyH.nil
         exact AllReadyH.nil
        exact AllReadyH.nil
       rintro a wh5 ⟨v92, v93, v94, v95, v96, v97, v98, v99, v100, rfl, hS⟩
       refine take_mid (i := 10) rfl (by kernel_rfl) (by kernel_rfl) (by kernel_rfl) _ _ rfl (p) (0) _ (fun _ _ _ h => h) (by rfl) rfl _ (fun _ h => h.ra) Try.underlying47 rfl (by kernel_rfl) hS ?_
       try simp only [Act.put, List.setIfInBounds_toArray, List.set_cons_zero, List.set_cons_succ]
       refine wpAnyH_ready (rs := [11]) (by kernel_rfl) (by simp) ?_
       refine cons_l rfl (fun K hK => ?sh24) ?mh24
       case sh24 =>
        go_simp
        refine bD ll_a hS (fun wx49 hS hx49 hk => ?_)
        refine hK.out _ _ hS (fun hS => ?_)
        clear hK K
        try simp only [Act.put, List.setIfInBounds_toArray, List.set_cons_zero, List.set_cons_succ]
        refine wpAnyH_ready (rs := [12]) (by kernel_rfl) (by simp) ?_
        refine cons_l rfl (fun K hK => ?sh25) ?mh25
        case sh25 =>
         go_simp
         refine (llist_ok _ _).mono ?_
         rintro e w' ⟨rfl, rfl⟩
         go_wp2_with fail
         refine hK.out _ _ hS (fun hS => ?_)
         clear hK K
         try simp only [Act.put, List.setIfInBounds_toArray, List.set_cons_zero, List.set_cons_succ]
         refine wpAnyH_ready (rs := [13]) (by kernel_rfl) (by simp) ?_
         refine cons_l rfl (fun K hK => ?sh26) ?mh26
         case sh26 =>
          go_simp
          refine (ch2 hS hx49).mono ?_
          rintro e wx50 ⟨rfl, hS, hk⟩
          clear hx49
          go_wp2_with fail
          refine hK.out _ _ hS (fun hS => ?_)
          clear hK K
          try simp only [Act.put, List.setIfInBounds_toArray, List.set_cons_zero, List.set_cons_succ]
          refine take_yes (i := 14) (v := ?vh27) rfl (by kernel_rfl) (by kernel_rfl) (by kernel_rfl) (fun _ _ _ h => h) (by rfl) ?yh27 hS ?rh27
          case yh27 => (intro w _; go_simp; (try with_reducible rfl))
          try simp only [Act.put, List.setIfInBounds_toArray, List.set_cons_zero, List.set_cons_succ]
          refine take_yes (i := 15) (v := ?vh28) rfl (by kernel_rfl) (by kernel_rfl) (by kernel_rfl) (fun _ _ _ h => h) (by rfl) ?yh28 hS ?rh28
          case yh28 => (intro w _; go_simp; (try with_reducible rfl))
          try simp only [Act.put, List.setIfInBounds_toArray, List.set_cons_zero, List.set_cons_succ]
          refine take_yes (i := 16) (v := ?vh29) rfl (by kernel_rfl) (by kernel_rfl) (by kernel_rfl) (fun _ _ _ h => h) (by rfl) ?yh29 hS ?rh29
          case yh29 => (intro w _; go_simp; (try with_reducible rfl))
          try simp only [Act.put, List.setIfInBounds_toArray, List.set_cons_zero, List.set_cons_succ]
          refine take_mid (i := 17) rfl (by kernel_rfl) (by kernel_rfl) (by kernel_rfl) _ _ rfl ((p + 1)) (0) _ (fun _ _ _ h => h) (by rfl) rfl _ (fun _ h => h.rb) Try.underlying47 rfl (by kernel_rfl) hS ?_
          try simp only [Act.put, List.setIfInBounds_toArray, List.set_cons_zero, List.set_cons_succ]
          refine take_mid (i := 18) rfl (by kernel_rfl) (by kernel_rfl) (by kernel_rfl) _ _ rfl (p) (0) _ (fun _ _ _ h => h) (by rfl) rfl _ (fun _ h => h.ra) Try.underlying47 rfl (by kernel_rfl) hS ?_
          try simp only [Act.put, List.setIfInBounds_toArray, List.set_cons_zero, List.set_cons_succ]
          refine take_mid (i := 19) rfl (by kernel_rfl) (by kernel_rfl) (by kernel_rfl) _ _ rfl ((p + 2)) (0) _ (fun _ _ _ h => h) (by rfl) rfl _ (fun _ h => h.rc) Try.underlying47 rfl (by kernel_rfl) hS ?_
          try simp only [Act.put, List.setIfInBounds_toArray, List.set_cons_zero, List.set_cons_succ]
          refine take_mid (i := 22) rfl (by kernel_rfl) (by kernel_rfl) (by kernel_rfl) _ _ rfl ((p + 1)) (0) _ (fun _ _ _ h => h) (by rfl) rfl _ (fun _ h => h.rb) Try.underlying47 rfl (by kernel_rfl) hS ?_
          try simp only [Act.put, List.setIfInBounds_toArray, List.set_cons_zero, List.set_cons_succ]
          refine take_mid (i := 23) rfl (by kernel_rfl) (by kernel_rfl) (by kernel_rfl) _ _ rfl ((p + 2)) (0) _ (fun _ _ _ h => h) (by rfl) rfl _ (fun _ h => h.rc) Try.underlying47 rfl (by kernel_rfl) hS ?_
          try simp only [Act.put, List.setIfInBounds_toArray, List.set_cons_zero, List.set_cons_succ]
          refine any_join (fun a w => ∃ v92 v93 v94 v95 v96 v97 v98 v99 v100 v101 v102 v103 v104 v105 v106 v107 v108 v109 v110 v111 v112 v113 v114 v115 v116 v117 v118 v119 : Value, a = ⟨List.toArray ((Value.bool false) :: (Value.pointer (some { block := p, off := 0 })) :: (Value.pointer (some { block := p + 1, off := 0 })) :: (Value.pointer (some { block := p + 1 + 1, off := 0 })) :: (Value.pointer (some { block := p + 1 + 1 + 1, off := 0 })) :: (Value.slice (some { block := g, off := 0 }) 6 6) :: (Value.pointer (some { block := q, off := 0 })) :: (Value.pointer (some { block := q + 1, off := 0 })) :: u8 :: u9 :: u10 :: u11 :: u12 :: u13 :: u14 :: u15 :: u16 :: u17 :: u18 :: u19 :: u20 :: u21 :: u22 :: u23 :: u24 :: u25 :: u26 :: u27 :: u28 :: u29 :: u30 :: u31 :: u32 :: u33 :: u34 :: u35 :: u36 :: u37 :: u38 :: u39 :: u40 :: u41 :: u42 :: u43 :: u44 :: u45 :: u46 :: u47 :: u48 :: u49 :: u50 :: u51 :: u52 :: u53 :: u54 :: u55 :: u56 :: u57 :: u58 :: u59 :: u60 :: u61 :: u62 :: u63 :: u64 :: u65 :: u66 :: u67 :: u68 :: u69 :: u70 :: u71 :: u72 :: u73 :: u74 :: u75 :: u76 :: u77 :: u78 :: u79 :: u80 :: u81 :: u82 :: u83 :: u84 :: u85 :: u86 :: (Value.bool false) :: (Value.agg #[Value.int IntKind.i64 1, Value.int IntKind.i64 1, Value.int IntKind.i64 5, Value.int IntKind.u64 1, Value.int IntKind.u64 1, Value.bool false, Value.bool false]) :: (Value.agg #[Value.int IntKind.i64 1, Value.int IntKind.i64 0, Value.int IntKind.i64 0, Value.int IntKind.u64 0, Value.int IntKind.u64 0, Value.bool false, Value.bool true]) :: (Value.pointer (some { block := q, off := 1 })) :: (Value.pointer (some { block := q, off := 4 })) :: v92 :: v93 :: v94 :: v95 :: v96 :: v97 :: v98 :: v99 :: v100 :: v101 :: v102 :: v103 :: v104 :: v105 :: v106 :: v107 :: v108 :: v109 :: v110 :: v111 :: v112 :: v113 :: v114 :: v115 :: v116 :: v117 :: v118 :: v119 :: (.bool false) :: u121 :: u122 :: u123 :: u124 :: u125 :: u126 :: u127 :: u128 :: u129 :: u130 :: u131 :: u132 :: u133 :: u134 :: u135 :: u136 :: u137 :: u138 :: u139 :: u140 :: u141 :: u142 :: u143 :: u144 :: u145 :: u146 :: u147 :: u148 :: u149 :: u150 :: u151 :: u152 :: u153 :: u154 :: u155 :: []), []⟩ ∧ (KS W p (fun w => w.rangeAt q 0 [.int .i64 1, .int .i64 1, .int .i64 5, .int .u64 1, .int .u64 2, .bool false, .bool false] ∧ w.rangeAt (q + 1) 0 [.int .i64 1, .int .i64 0, .int .i64 0, .int .u64 0, .int .u64 0, .bool false, .bool true])) w) #[true, true, true, true, true, true, true, true, true, true, true, true, true, true, true, true, true, true, true, true, true, true, true, true, true, true, true, true, true, false, false, false, false, false, false, false, false, false, false, false, false] 12 (fun HJh35 => ?jh35) ?_
          case jh35 =>
           refine wpAnyH_ready (rs := [20, 24]) (by kernel_rfl) (by simp) ?_
           refine cons_l rfl (fun K hK => ?sh36) ?mh36
           case sh36 =>
            go_simp
            refine bD ll_bac hS (fun wx51 hS hx51 hk => ?_)
            refine hK.out _ _ hS (fun hS => ?_)
            clear hK K
            try simp only [Act.put, List.setIfInBounds_toArray, List.set_cons_zero, List.set_cons_succ]
            refine wpAnyH_ready (rs := [21, 24]) (by kernel_rfl) (by simp) ?_
            refine cons_l rfl (fun K hK => ?sh37) ?mh37
            case sh37 =>
             go_simp
             refine (llist_ok _ _).mono ?_
             rintro e w' ⟨rfl, rfl⟩
             go_wp2_with fail
             refine hK.out _ _ hS (fun hS => ?_)
             clear hK K
             try simp only [Act.put, List.setIfInBounds_toArray, List.set_cons_zero, List.set_cons_succ]
             refine wpAnyH_ready (rs := [24]) (by kernel_rfl) (by simp) ?_
             refine cons_l rfl (fun K hK => ?sh38) ?mh38
             case sh38 =>
              go_simp
              refine bD ll_bc hS (fun wx52 hS hx52 hk => ?_)
              replace hx51 := hk _ _ hx51
              refine hK.out _ _ hS (fun hS => ?_)
              clear hK K
              try simp only [Act.put, List.setIfInBounds_toArray, List.set_cons_zero, List.set_cons_succ]
              refine wpAnyH_ready (rs := [25]) (by kernel_rfl) (by simp) ?_
              refine cons_l rfl (fun K hK => ?sh39) ?mh39
              case sh39 =>
               go_simp
               refine (co1 hS hx51 hx52).mono ?_
               rintro e wx53 ⟨rfl, hS, hk⟩
               clear hx51 hx52
               go_wp2_with fail
               refine hK.out _ _ hS (fun hS => ?_)
               clear hK K
               try simp only [Act.put, List.setIfInBounds_toArray, List.set_cons_zero, List.set_cons_succ]
               refine take_yes (i := 26) (v := ?vh40) rfl (by kernel_rfl) (by kernel_rfl) (by kernel_rfl) (fun _ _ _ h => h) (by rfl) ?yh40 hS ?rh40
               case yh40 => (intro w _; go_simp; (try with_reducible rfl))
               try simp only [Act.put, List.setIfInBounds_toArray, List.set_cons_zero, List.set_cons_succ]
               refine take_yes (i := 27) (v := ?vh41) rfl (by kernel_rfl) (by kernel_rfl) (by kernel_rfl) (fun _ _ _ h => h) (by rfl) ?yh41 hS ?rh41
               case yh41 => (intro w _; go_simp; (try with_reducible rfl))
               try simp only [Act.put, List.setIfInBounds_toArray, List.set_cons_zero, List.set_cons_succ]
               refine take_yes (i := 28) (v := ?vh42) rfl (by kernel_rfl) (by kernel_rfl) (by kernel_rfl) (fun _ _ _ h => h) (by rfl) ?yh42 hS ?rh42
               case yh42 => (intro w _; go_simp; (try with_reducible rfl))
               try simp only [Act.put, List.setIfInBounds_toArray, List.set_cons_zero, List.set_cons_succ]
               exact HJh35 _ _ _ (by kernel_rfl) ⟨_, _, _, _, _, _, _, _, _, _, _, _, _, _, _, _, _, _, _, _, _, _, _, _, _, _, _, _, rfl, hS⟩
              exact AllReadyH.nil
             exact AllReadyH.nil
            refine cons_l rfl (fun K hK => ?sh43) ?mh43
            case sh43 =>
             go_simp
             refine bD ll_bc hS (fun wx54 hS hx54 hk => ?_)
             replace hx51 := hk _ _ hx51
             refine hK.out _ _ hS (fun hS => ?_)
             clear hK K
             try simp only [Act.put, List.setIfInBounds_toArray, List.set_cons_zero, List.set_cons_succ]
             refine wpAnyH_ready (rs := [21]) (by kernel_rfl) (by simp) ?_
             refine cons_l rfl (fun K hK => ?sh44) ?mh44
             case sh44 =>
              go_simp
              refine (llist_ok _ _).mono ?_
              rintro e w' ⟨rfl, rfl⟩
              go_wp2_with fail
              refine hK.out _ _ hS (fun hS => ?_)
              clear hK K
              try simp only [Act.put, List.setIfInBounds_toArray, List.set_cons_zero, List.set_cons_succ]
              refine wpAnyH_ready (rs := [25]) (by kernel_rfl) (by simp) ?_
              refine cons_l rfl (fun K hK => ?sh45) ?mh45
              case sh45 =>
               go_simp
               refine (co1 hS hx51 hx54).mono ?_
               rintro e wx55 ⟨rfl, hS, hk⟩
               clear hx51 hx54
               go_wp2_with fail
               refine hK.out _ _ hS (fun hS => ?_)
               clear hK K
               try simp only [Act.put, List.setIfInBounds_toArray, List.set_cons_zero, List.set_cons_succ]
               refine take_yes (i := 26) (v := ?vh46) rfl (by kernel_rfl) (by kernel_rfl) (by kernel_rfl) (fun _ _ _ h => h) (by rfl) ?yh46 hS ?rh46
               case yh46 => (intro w _; go_simp; (try with_reducible rfl))
               try simp only [Act.put, List.setIfInBounds_toArray, List.set_cons_zero, List.set_cons_succ]
               refine take_yes (i := 27) (v := ?vh47) rfl (by kernel_rfl) (by kernel_rfl) (by kernel_rfl) (fun _ _ _ h => h) (by rfl) ?yh47 hS ?rh47
               case yh47 => (intro w _; go_simp; (try with_reducible rfl))
               try simp only [Act.put, List.setIfInBounds_toArray, List.set_cons_zero, List.set_cons_succ]
               refine take_yes (i := 28) (v := ?vh48) rfl (by kernel_rfl) (by kernel_rfl) (by kernel_rfl) (fun _ _ _ h => h) (by rfl) ?yh48 hS ?rh48
               case yh48 => (intro w _; go_simp; (try with_reducible rfl))
               try simp only [Act.put, List.setIfInBounds_toArray, List.set_cons_zero, List.set_cons_succ]
               exact HJh35 _ _ _ (by kernel_rfl) ⟨_, _, _, _, _, _, _, _, _, _, _, _, _, _, _, _, _, _, _, _, _, _, _, _, _, _, _, _, rfl, hS⟩
              exact AllReadyH.nil
             exact AllReadyH.nil
            exact AllReadyH.nil
           refine cons_l rfl (fun K hK => ?sh49) ?mh49
           case sh49 =>
            go_simp
            refine bD ll_bc hS (fun wx56 hS hx56 hk => ?_)
            refine hK.out _ _ hS (fun hS => ?_)
            clear hK K
            try simp only [Act.put, List.setIfInBounds_toArray, List.set_cons_zero, List.set_cons_succ]
            refine wpAnyH_ready (rs := [20]) (by kernel_rfl) (by simp) ?_
            refine cons_l rfl (fun K hK => ?sh50) ?mh50
            case sh50 =>
             go_simp
             refine bD ll_bac hS (fun wx57 hS hx57 hk => ?_)
             replace hx56 := hk _ _ hx56
             refine hK.out _ _ hS (fun hS => ?_)
             clear hK K
             try simp only [Act.put, List.setIfInBounds_toArray, List.set_cons_zero, List.set_cons_succ]
             refine wpAnyH_ready (rs := [21]) (by kernel_rfl) (by simp) ?_
             refine cons_l rfl (fun K hK => ?sh51) ?mh51
             case sh51 =>
              go_simp
              refine (llist_ok _ _).mono ?_
              rintro e w' ⟨rfl, rfl⟩
              go_wp2_with fail
              refine hK.out _ _ hS (fun hS => ?_)
              clear hK K
              try simp only [Act.put, List.setIfInBounds_toArray, List.set_cons_zero, List.set_cons_succ]
              refine wpAnyH_ready (rs := [25]) (by kernel_rfl) (by simp) ?_
              refine cons_l rfl (fun K hK => ?sh52) ?mh52
              case sh52 =>
               go_simp
               refine (co1 hS hx57 hx56).mono ?_
               rintro e wx58 ⟨rfl, hS, hk⟩
               clear hx57 hx56
               go_wp2_with fail
               refine hK.out _ _ hS (fun hS => ?_)
               clear hK K
               try simp only [Act.put, List.setIfInBounds_toArray, List.set_cons_zero, List.set_cons_succ]
               refine take_yes (i := 26) (v := ?vh53) rfl (by kernel_rfl) (by kernel_rfl) (by kernel_rfl) (fun _ _ _ h => h) (by rfl) ?yh53 hS ?rh53
               case yh53 => (intro w _; go_simp; (try with_reducible rfl))
               try simp only [Act.put, List.setIfInBounds_toArray, List.set_cons_zero, List.set_cons_succ]
               refine take_yes (i := 27) (v := ?vh54) rfl (by kernel_rfl) (by kernel_rfl) (by kernel_rfl) (fun _ _ _ h => h) (by rfl) ?yh54 hS ?rh54
               case yh54 => (intro w _; go_simp; (try with_reducible rfl))
               try simp only [Act.put, List.setIfInBounds_toArray, List.set_cons_zero, List.set_cons_succ]
               refine take_yes (i := 28) (v := ?vh55) rfl (by kernel_rfl) (by kernel_rfl) (by kernel_rfl) (fun _ _ _ h => h) (by rfl) ?yh55 hS ?rh55
               case yh55 => (intro w _; go_simp; (try with_reducible rfl))
               try simp only [Act.put, List.setIfInBounds_toArray, List.set_cons_zero, List.set_cons_succ]
               exact HJh35 _ _ _ (by kernel_rfl) ⟨_, _, _, _, _, _, _, _, _, _, _, _, _, _, _, _, _, _, _, _, _, _, _, _, _, _, _, _, rfl, hS⟩
              exact AllReadyH.nil
             exact AllReadyH.nil
            exact AllReadyH.nil
           exact AllReadyH.nil
          rintro a wh35 ⟨v92, v93, v94, v95, v96, v97, v98, v99, v100, v101, v102, v103, v104, v105, v106, v107, v108, v109, v110, v111, v112, v113, v114, v115, v116, v117, v118, v119, rfl, hS⟩
          refine take_mid (i := 29) rfl (by kernel_rfl) (by kernel_rfl) (by kernel_rfl) _ _ rfl (q) (0) _ (fun _ _ _ h => h) (by rfl) rfl _ (fun _ h => h.ex.1) Try.underlying47 rfl (by kernel_rfl) hS ?_
          try simp only [Act.put, List.setIfInBounds_toArray, List.set_cons_zero, List.set_cons_succ]
          refine wpAnyH_ready (rs := [30]) (by kernel_rfl) (by simp) ?_
          refine cons_l rfl (fun K hK => ?sh57) ?mh57
          case sh57 =>
           go_simp
           refine bD ll_wr hS (fun wx59 hS hx59 hk => ?_)
           refine hK.out _ _ hS (fun hS => ?_)
           clear hK K
           try simp only [Act.put, List.setIfInBounds_toArray, List.set_cons_zero, List.set_cons_succ]
           refine wpAnyH_ready (rs := [31]) (by kernel_rfl) (by simp) ?_
           refine cons_l rfl (fun K hK => ?sh58) ?mh58
           case sh58 =>
            go_simp
            refine (llist_ok _ _).mono ?_
            rintro e w' ⟨rfl, rfl⟩
            go_wp2_with fail
            refine hK.out _ _ hS (fun hS => ?_)
            clear hK K
            try simp only [Act.put, List.setIfInBounds_toArray, List.set_cons_zero, List.set_cons_succ]
            refine wpAnyH_ready (rs := [32]) (by kernel_rfl) (by simp) ?_
            refine cons_l rfl (fun K hK => ?sh59) ?mh59
            case sh59 =>
             go_simp
             refine (cvF1 hS hx59).mono ?_
             rintro e wx60 ⟨rfl, hS, hk⟩
             clear hx59
             go_wp2_with fail
             refine hK.out _ _ hS (fun hS => ?_)
             clear hK K
             try simp only [Act.put, List.setIfInBounds_toArray, List.set_cons_zero, List.set_cons_succ]
             refine take_yes (i := 33) (v := ?vh60) rfl (by kernel_rfl) (by kernel_rfl) (by kernel_rfl) (fun _ _ _ h => h) (by rfl) ?yh60 hS ?rh60
             case yh60 => (intro w _; go_simp; (try with_reducible rfl))
             try simp only [Act.put, List.setIfInBounds_toArray, List.set_cons_zero, List.set_cons_succ]
             refine take_yes (i := 34) (v := ?vh61) rfl (by kernel_rfl) (by kernel_rfl) (by kernel_rfl) (fun _ _ _ h => h) (by rfl) ?yh61 hS ?rh61
             case yh61 => (intro w _; go_simp; (try with_reducible rfl))
             try simp only [Act.put, List.setIfInBounds_toArray, List.set_cons_zero, List.set_cons_succ]
             refine take_mid (i := 35) rfl (by kernel_rfl) (by kernel_rfl) (by kernel_rfl) _ _ rfl ((q + 1)) (0) _ (fun _ _ _ h => h) (by rfl) rfl _ (fun _ h => h.ex.2) Try.underlying47 rfl (by kernel_rfl) hS ?_
             try simp only [Act.put, List.setIfInBounds_toArray, List.set_cons_zero, List.set_cons_succ]
             refine take_mid (i := 36) rfl (by kernel_rfl) (by kernel_rfl) (by kernel_rfl) _ _ rfl ((p + 1)) (0) _ (fun _ _ _ h => h) (by rfl) rfl _ (fun _ h => h.rb) Try.underlying47 rfl (by kernel_rfl) hS ?_
             try simp only [Act.put, List.setIfInBounds_toArray, List.set_cons_zero, List.set_cons_succ]
             refine wpAnyH_ready (rs := [37]) (by kernel_rfl) (by simp) ?_
             refine cons_l rfl (fun K hK => ?sh64) ?mh64
             case sh64 =>
              go_simp
              refine bD ll_enb hS (fun wx61 hS hx61 hk => ?_)
              refine hK.out _ _ hS (fun hS => ?_)
              clear hK K
              try simp only [Act.put, List.setIfInBounds_toArray, List.set_cons_zero, List.set_cons_succ]
              refine wpAnyH_ready (rs := [38]) (by kernel_rfl) (by simp) ?_
              refine cons_l rfl (fun K hK => ?sh65) ?mh65
              case sh65 =>
               go_simp
               refine (llist_ok _ _).mono ?_
               rintro e w' ⟨rfl, rfl⟩
               go_wp2_with fail
               refine hK.out _ _ hS (fun hS => ?_)
               clear hK K
               try simp only [Act.put, List.setIfInBounds_toArray, List.set_cons_zero, List.set_cons_succ]
               refine wpAnyH_ready (rs := [39]) (by kernel_rfl) (by simp) ?_
               refine cons_l rfl (fun K hK => ?sh66) ?mh66
               case sh66 =>
                go_simp
                refine (cvF2 hS hx61).mono ?_
                rintro e wx62 ⟨rfl, hS, hk⟩
                clear hx61
                go_wp2_with fail
                refine hK.out _ _ hS (fun hS => ?_)
                clear hK K
                try simp only [Act.put, List.setIfInBounds_toArray, List.set_cons_zero, List.set_cons_succ]
                refine take_yes (i := 40) (v := ?vh67) rfl (by kernel_rfl) (by kernel_rfl) (by kernel_rfl) (fun _ _ _ h => h) (by rfl) ?yh67 hS ?rh67
                case yh67 => (intro w _; go_simp; (try with_reducible rfl))
                try simp only [Act.put, List.setIfInBounds_toArray, List.set_cons_zero, List.set_cons_succ]
                refine wpAnyH_done (by kernel_rfl) ?_ _
                go_wp2_with fail
                go_meet
                exact ⟨rfl, hS⟩
               exact AllReadyH.nil
              exact AllReadyH.nil
             exact AllReadyH.nil
            exact AllReadyH.nil
           exact AllReadyH.nil
          exact AllReadyH.nil
         exact AllReadyH.nil
        exact AllReadyH.nil
       exact AllReadyH.nil
      case rest =>
        obtain ⟨rfl, hS⟩ := hcut
        replace hS := hS.with (E2 := fun _ => True) trivial (fun _ _ _ _ => trivial)
        have c0 := hS.ra 0 _ rfl
        have c1 := hS.ra 1 _ rfl
        have c2 := hS.ra 2 _ rfl
        have c3 := hS.ra 3 _ rfl
        have c4 := hS.ra 4 _ rfl
        have c5 := hS.ra 5 _ rfl
        have c6 := hS.ra 6 _ rfl
        simp only [Nat.zero_add] at c0 c1 c2 c3 c4 c5 c6
        have hb1 : Below wc.heap.size wc (wc.alloc (.cells [.int .i64 0, .int .i64 2, .int .i64 5, .int .u64 0, .int .u64 1, .bool false, .bool false].toArray 47)) := (Below.refl _ _).alloc (Nat.le_refl _) _
        have h1 : Rd (fun _ => True) (wc.alloc (.cells [.int .i64 0, .int .i64 2, .int .i64 5, .int .u64 0, .int .u64 1, .bool false, .bool false].toArray 47)) (some ⟨wc.heap.size, 0, none⟩) (dds ll_a) := Rd.of_blk (Blk.new wc 47 (dds ll_a)) (List.prefix_refl _) trivial
        have hS1 := hS.next hb1
        go_wp2_with fail
        refine (llist_ok _ _).mono ?_
        rintro e w' ⟨rfl, rfl⟩
        go_wp2_with fail
        refine (cc4 hS1 h1).mono ?_
        rintro e y1 ⟨rfl, hS, -⟩
        clear hb1 h1 hS1 c0 c1 c2 c3 c4 c5 c6
        have c0 := hS.ra 0 _ rfl
        have c1 := hS.ra 1 _ rfl
        have c2 := hS.ra 2 _ rfl
        have c3 := hS.ra 3 _ rfl
        have c4 := hS.ra 4 _ rfl
        have c5 := hS.ra 5 _ rfl
        have c6 := hS.ra 6 _ rfl
        simp only [Nat.zero_add] at c0 c1 c2 c3 c4 c5 c6
        have hb1 : Below y1.heap.size y1 (y1.alloc (.cells [.int .i64 0, .int .i64 2, .int .i64 5, .int .u64 0, .int .u64 1, .bool false, .bool false].toArray 47)) := (Below.refl _ _).alloc (Nat.le_refl _) _
        have h1 : Rd (fun _ => True) (y1.alloc (.cells [.int .i64 0, .int .i64 2, .int .i64 5, .int .u64 0, .int .u64 1, .bool false, .bool false].toArray 47)) (some ⟨y1.heap.size, 0, none⟩) (dds ll_a) := Rd.of_blk (Blk.new y1 47 (dds ll_a)) (List.prefix_refl _) trivial
        have hS1 := hS.next hb1
        go_wp2_with fail
        refine (llist_ok _ _).mono ?_
        rintro e w' ⟨rfl, rfl⟩
        go_wp2_with fail
        refine (ch3 hS1 h1).mono ?_
        rintro e y2 ⟨rfl, hS, -⟩
        clear hb1 h1 hS1 c0 c1 c2 c3 c4 c5 c6
        have c0 := hS.ra 0 _ rfl
        have c1 := hS.ra 1 _ rfl
        have c2 := hS.ra 2 _ rfl
        have c3 := hS.ra 3 _ rfl
        have c4 := hS.ra 4 _ rfl
        have c5 := hS.ra 5 _ rfl
        have c6 := hS.ra 6 _ rfl
        simp only [Nat.zero_add] at c0 c1 c2 c3 c4 c5 c6
        have hb1 : Below y2.heap.size y2 (y2.alloc (.cells [.int .i64 0, .int .i64 2, .int .i64 5, .int .u64 0, .int .u64 1, .bool false, .bool false].toArray 47)) := (Below.refl _ _).alloc (Nat.le_refl _) _
        have h1 : Rd (fun _ => True) (y2.alloc (.cells [.int .i64 0, .int .i64 2, .int .i64 5, .int .u64 0, .int .u64 1, .bool false, .bool false].toArray 47)) (some ⟨y2.heap.size, 0, none⟩) (dds ll_a) := Rd.of_blk (Blk.new y2 47 (dds ll_a)) (List.prefix_refl _) trivial
        have hS1 := hS.next hb1
        go_wp2_with fail
        refine (llist_ok _ _).mono ?_
        rintro e w' ⟨rfl, rfl⟩
        go_wp2_with fail
        refine (co2 hS1 h1).mono ?_
        rintro e y3 ⟨rfl, hS, -⟩
        clear hb1 h1 hS1 c0 c1 c2 c3 c4 c5 c6
        have hb0 : Below y3.heap.size y3 (y3.alloc (.cells #[.int .u64 1, .int .u64 1, .int .u64 1, .int .u64 1, .int .u64 1, .int .u64 1] 30)) := (Below.refl _ _).alloc (Nat.le_refl _) _
        have h0 : Rd (fun _ => True) (y3.alloc (.cells #[.int .u64 1, .int .u64 1, .int .u64 1, .int .u64 1, .int .u64 1, .int .u64 1] 30)) (some ⟨y3.heap.size, 0, none⟩) (u64s o6) := Rd.of_blk (Blk.new y3 30 (u64s o6)) (List.prefix_refl _) trivial
        replace hS := hS.next hb0
        have c0 := hS.ra 0 _ rfl
        have c1 := hS.ra 1 _ rfl
        have c2 := hS.ra 2 _ rfl
        have c3 := hS.ra 3 _ rfl
        have c4 := hS.ra 4 _ rfl
        have c5 := hS.ra 5 _ rfl
        have c6 := hS.ra 6 _ rfl
        simp only [Nat.zero_add] at c0 c1 c2 c3 c4 c5 c6
        have hb1 : Below (y3.alloc (.cells #[.int .u64 1, .int .u64 1, .int .u64 1, .int .u64 1, .int .u64 1, .int .u64 1] 30)).heap.size (y3.alloc (.cells #[.int .u64 1, .int .u64 1, .int .u64 1, .int .u64 1, .int .u64 1, .int .u64 1] 30)) ((y3.alloc (.cells #[.int .u64 1, .int .u64 1, .int .u64 1, .int .u64 1, .int .u64 1, .int .u64 1] 30)).alloc (.cells [.int .i64 0, .int .i64 2, .int .i64 5, .int .u64 0, .int .u64 1, .bool false, .bool false].toArray 47)) := (Below.refl _ _).alloc (Nat.le_refl _) _
        have h1 : Rd (fun _ => True) ((y3.alloc (.cells #[.int .u64 1, .int .u64 1, .int .u64 1, .int .u64 1, .int .u64 1, .int .u64 1] 30)).alloc (.cells [.int .i64 0, .int .i64 2, .int .i64 5, .int .u64 0, .int .u64 1, .bool false, .bool false].toArray 47)) (some ⟨(y3.alloc (.cells #[.int .u64 1, .int .u64 1, .int .u64 1, .int .u64 1, .int .u64 1, .int .u64 1] 30)).heap.size, 0, none⟩) (dds ll_a) := Rd.of_blk (Blk.new (y3.alloc (.cells #[.int .u64 1, .int .u64 1, .int .u64 1, .int .u64 1, .int .u64 1, .int .u64 1] 30)) 47 (dds ll_a)) (List.prefix_refl _) trivial
        have hS1 := hS.next hb1
        have h2 := kp hb1 _ _ h0
        rw [World.size_alloc] at h1
        go_wp2_with fail
        refine (llist_ok _ _).mono ?_
        rintro e w' ⟨rfl, rfl⟩
        go_wp2_with fail
        refine (cr2 hS1 h2 h1).mono ?_
        rintro e y4 ⟨rfl, hS, -⟩
        clear hb0 h0 hb1 h1 h2 hS1 c0 c1 c2 c3 c4 c5 c6
        go_wp2_with fail
        go_ret
        exact ⟨rfl, hS.below⟩
end Go.Proofs.Ytpndlggahdefcaa
