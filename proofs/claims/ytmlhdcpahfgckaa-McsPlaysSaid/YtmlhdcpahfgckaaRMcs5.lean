/-
  Contracts of the law's same and does: a step of a program and of the reference's agree, and so do the words.
-/
import Derived.Test.YtmlhdcpahfgckaaRMcs4
import Derived.Test.YtmlhdcpahfgckaaMcsC
namespace Go.Proofs.Ytmlhdcpahfgckaa
open Go.RowKit

theorem same_ok (b g cc : Nat) (ws : List Int) (A : Option Addr) (n c : Nat) (w : World) (h : MemAt w b g cc ws) (hx : Rd (fun _ => True) w A (u64s ws)) (hl : ws.length = n) (hc : n ≤ c) :
    Calls Try.prog 29 #[.pointer (some ⟨b, 0, none⟩), .slice A n c] w fun e w' => e = .returned (.bool true) ∧ Below w.heap.size w w' := by
  have hhi := h.hi
  have hw := fun W (hW : MemAt W b g cc ws) => mwords_ok b g cc ws 0 n W hW (by omega) (by omega)
  have e1 : (ws.drop 0).take (n - 0) = ws := by simp [← hl]
  rw [e1] at hw
  have HL := Lib.hid hl
  have hn : n ≤ 65536 := by omega
  clear e1 hl hhi
  go_enter Try.func29, Try.ntmps29
  go_wp2_with fail
  refine (hw _ h).mono ?_
  rintro e w1 ⟨v, rfl, hv, hB⟩
  rw [HL.out] at hv
  obtain ⟨A', c', rfl, hc', _⟩ := own_slice hv
  have hr1 : Rd (fun _ => True) w1 A' (u64s ws) := (Rd.of_own hv).mono (fun _ _ _ => trivial)
  have hx1 := hx.keep (Ch.of_below hB (fun _ => False)) (fun _ _ _ e => e)
  have he : eqB ws ws = true := by simp [eqB]
  have hsm := rsame_any A' A ws ws n n c' c w1 hr1 hx1 HL.out HL.out (by omega) (by omega) hc' hc
  rw [he] at hsm
  clear he hv hw
  go_wp2_with (go_at_call 38; refine hsm.mono ?_; rintro e w2 ⟨rfl, q, rfl⟩)
  go_ret
  exact ⟨rfl, by (repeat' (first | (with_reducible exact Below.refl _ _) | (with_reducible assumption) | (with_reducible refine Below.alloc ?_ ?_ _) | (with_reducible refine Below.drew ?_) | (with_reducible refine below_drewN ?_ _) | (with_reducible refine Below.setCell ?_ ?_ _) | (with_reducible refine Below.trans ?_ (Below.mono (by assumption) ?_)) | (first | go_size | (with_reducible exact Below.size (by assumption)) | (with_reducible exact Nat.le_trans (Below.size (by assumption)) (Below.size (by assumption))) | (refine Nat.le_trans (Below.size (by assumption)) ?_; go_size))))⟩
structure RHas (w : World) (g : Nat) : Prop where
  ex : ∃ cs, Blk w g 46 cs ∧ cs.length = 8
theorem RHas.below {w w' : World} {g : Nat} (h : RHas w g) (hb : Below w.heap.size w w') : RHas w' g := by
  obtain ⟨old, ho, hl⟩ := h.ex
  exact ⟨old, ho.keep (Ch.of_below hb (fun _ => False)) (fun e => e), hl⟩
theorem RHas.set {w : World} {g i : Nat} {v : Value} (h : RHas w g) : RHas (w.setCell ⟨g, i, none⟩ v) g := by
  obtain ⟨old, ho, hl⟩ := h.ex
  exact ⟨_, ho.set i v, by rw [List.length_set]; exact hl⟩
theorem sc1 {w : World} {g g' i j : Nat} {v u : Value} (hne : g' ≠ g) (h : w.cell? ⟨g', i, none⟩ = some v) : (w.setCell ⟨g, j, none⟩ u).cell? ⟨g', i, none⟩ = some v :=
  ((Ch.refl (fun k => k = g) w).setCell (p := ⟨g, j, none⟩) (.inl rfl) u).keeps h hne
theorem set8 {w : World} {g : Nat} (h : RHas w g) (a0 a1 a2 a3 a4 a5 a6 a7 : Value) :
    Blk ((((((((w.setCell ⟨g, 0, none⟩ a0).setCell ⟨g, 1, none⟩ a1).setCell ⟨g, 2, none⟩ a2).setCell ⟨g, 3, none⟩ a3).setCell ⟨g, 4, none⟩ a4).setCell ⟨g, 5, none⟩ a5).setCell ⟨g, 6, none⟩ a6).setCell ⟨g, 7, none⟩ a7) g 46 [a0, a1, a2, a3, a4, a5, a6, a7] ∧
    Ch (fun j => j = g) w ((((((((w.setCell ⟨g, 0, none⟩ a0).setCell ⟨g, 1, none⟩ a1).setCell ⟨g, 2, none⟩ a2).setCell ⟨g, 3, none⟩ a3).setCell ⟨g, 4, none⟩ a4).setCell ⟨g, 5, none⟩ a5).setCell ⟨g, 6, none⟩ a6).setCell ⟨g, 7, none⟩ a7) := by
  obtain ⟨old, ho, hl⟩ := h.ex
  match old, hl with
  | [b0, b1, b2, b3, b4, b5, b6, b7], _ =>
    exact ⟨((((((((ho.set 0 a0).set 1 a1).set 2 a2).set 3 a3).set 4 a4).set 5 a5).set 6 a6).set 7 a7), ((((((((Ch.refl (fun j => j = g) w).setCell (p := ⟨g, 0, none⟩) (.inl rfl) a0).setCell (p := ⟨g, 1, none⟩) (.inl rfl) a1).setCell (p := ⟨g, 2, none⟩) (.inl rfl) a2).setCell (p := ⟨g, 3, none⟩) (.inl rfl) a3).setCell (p := ⟨g, 4, none⟩) (.inl rfl) a4).setCell (p := ⟨g, 5, none⟩) (.inl rfl) a5).setCell (p := ⟨g, 6, none⟩) (.inl rfl) a6).setCell (p := ⟨g, 7, none⟩) (.inl rfl) a7⟩
theorem blk8 {w : World} {g : Nat} {T : TypeId} {a0 a1 a2 a3 a4 a5 a6 a7 : Value} (h : Blk w g T [a0, a1, a2, a3, a4, a5, a6, a7]) : w.cell? ⟨g, 0, none⟩ = some a0 ∧ w.cell? ⟨g, 1, none⟩ = some a1 ∧ w.cell? ⟨g, 2, none⟩ = some a2 ∧ w.cell? ⟨g, 3, none⟩ = some a3 ∧ w.cell? ⟨g, 4, none⟩ = some a4 ∧ w.cell? ⟨g, 5, none⟩ = some a5 ∧ w.cell? ⟨g, 6, none⟩ = some a6 ∧ w.cell? ⟨g, 7, none⟩ = some a7 :=
  ⟨h.cell 0, h.cell 1, h.cell 2, h.cell 3, h.cell 4, h.cell 5, h.cell 6, h.cell 7⟩
theorem Sat.keep {F : Nat → Prop} {w w' : World} {bk : Bool} {r nb b g c : Nat} {B t : Int} {x : Rn} {ws : List Int} (h : Sat w bk r nb b g c B t x ws) (hc : Ch F w w') (h1 : ¬ F r) (h2 : ¬ F nb) (h3 : ¬ F b) (h4 : ¬ F g) : Sat w' bk r nb b g c B t x ws :=
  ⟨{ h.s with run := Blk.keep h.s.run hc h1, nd := h.s.nd.keep hc h2, mem := h.s.mem.keep hc h3 h4 }, h.p⟩
def oldV (w : World) (g k : Nat) : Value := (w.cell? ⟨g, k, none⟩).getD undef
theorem RHas.cell {w : World} {g k : Nat} (h : RHas w g) (hk : k < 8) : w.cell? ⟨g, k, none⟩ = some (oldV w g k) := by
  obtain ⟨old, ho, hl⟩ := h.ex
  unfold oldV
  rw [ho.cell, List.getElem?_eq_getElem (by omega)]
  rfl
theorem RHas.frozen {w : World} {g k : Nat} (h : RHas w g) : w.frozen? ⟨g, k, none⟩ = false := by
  obtain ⟨old, ho, hl⟩ := h.ex
  exact ho.frozen k
theorem doE_bd (ws : List Int) (k i : Int) : 0 ≤ doE ws k i ∧ doE ws k i ≤ 17 := by unfold doE; (repeat' split) <;> omega
theorem stp_e (bk : Bool) (B t : Int) (x : Rn) (ws : List Int) : 0 ≤ (stp bk B t x ws).e ∧ (stp bk B t x ws).e ≤ 17 := by
  have hd := doE_bd ws
  cases bk
  · rw [show stp false B t x ws = stpA B t x ws from rfl]; unfold stpA
    (repeat' split) <;> (dsimp only; first | exact hd _ _ | omega)
  · rw [show stp true B t x ws = stpR B t x ws from rfl]; unfold stpR
    (repeat' split) <;> (dsimp only; first | exact hd _ _ | omega)
theorem doWs_length (ws : List Int) (k i bf af : Int) : (doWs ws k i bf af).length = ws.length := by unfold doWs; split <;> simp
theorem stp_len (bk : Bool) (B t : Int) (x : Rn) (ws : List Int) : (stp bk B t x ws).ws.length = ws.length := by
  cases bk
  · rw [show stp false B t x ws = stpA B t x ws from rfl]; unfold stpA
    (repeat' split) <;> first | rfl | exact doWs_length _ _ _ _ _
  · rw [show stp true B t x ws = stpR B t x ws from rfl]; unfold stpR
    (repeat' split) <;> first | rfl | exact doWs_length _ _ _ _ _
/-- what a step of both leaves -/
def DoesP (w : World) (bk : Bool) (r nb b g c : Nat) (B t : Int) (n : Nat) (G : Nat → Prop) (x' : Rn) (ws' : List Int) (e : Ending) (w' : World) : Prop :=
  ∃ A2 c2 y', e = .returned (.tuple #[rrun B t bk y', .slice A2 n c2, .bool true]) ∧ Eqv x' y' ∧ Sat w' bk r nb b g c B t x' ws' ∧ Rd (fun q => G q ∨ w.heap.size ≤ q) w' A2 (u64s ws') ∧ n ≤ c2 ∧ c2 ≤ 9223372036854775807 ∧ (A2 = none → c2 = 0) ∧ Ch (fun j => j = r ∨ j = g) w w'

theorem nil_Result_Acquire (r : Nat) (w : World) : (nilAhead 242 59 (.pointer (some ⟨r, 0, none⟩)) "Result").run Try.prog w = .ok (some false) w := by kernel_rfl
theorem method_Result_Acquire (r : Nat) (w : World) : (method 242 59 (.pointer (some ⟨r, 0, none⟩)) "Result").run Try.prog w = .ok (71, .pointer (some ⟨r, 0, none⟩)) w := by kernel_rfl
set_option maxRecDepth 100000 in
set_option maxHeartbeats 4000000 in
theorem does_Acquire (r nb b g c : Nat) (B t : Int) (x y : Rn) (ws : List Int) (A : Option Addr) (n cl : Nat) (G : Nat → Prop) (w : World) (h : Sat w false r nb b g c B t x ws) (hB1 : B ≤ 65536) (hE : Eqv x y)
    (hr : Rd G w A (u64s ws)) (hG : ∀ q, G q → q ≠ g ∧ q ≠ r) (hl : ws.length = n) (hc : n ≤ cl) (hcm : cl ≤ 9223372036854775807) (hA : A = none → cl = 0) :
    Calls Try.prog 17 #[.iface 59 (.pointer (some ⟨r, 0, none⟩)), rrun B t false y, .pointer (some ⟨b, 0, none⟩), .slice A n cl] w (DoesP w false r nb b g c B t n G (stp false B t x ws).x (stp false B t x ws).ws) := by
  have hROk : ROk B t false y := ⟨h.s.nd.B0, hB1, h.s.nd.t1, h.s.nd.t64, by rw [hE.node]; exact h.s.n0, by rw [hE.node]; exact h.s.n1, fun e => by rw [hE.rest (by rw [← hE.ended]; exact e)]; exact h.s.o0, fun e => by rw [hE.rest (by rw [← hE.ended]; exact e)]; exact h.p⟩
  have hn : n ≤ 100000 := by have := h.s.mem.hi; omega
  have hnx := fun A' G' W hr' hA' => rnext_any B t false y A' ws n cl G' W hROk hr' hl hc hcm hn hA'
  have hst := fun W hW => astep' r nb b g c B t x ws W hW
  have hag := nxt_stp false B t x y ws hE h.p
  have hee := stp_e false B t x ws
  have hlen := stp_len false B t x ws
  rw [hl] at hlen
  generalize stp false B t x ws = u at *
  generalize nxt false B t y ws = o at *
  obtain ⟨x', ws', wt, ee⟩ := u
  obtain ⟨y', ws2, wt2, e2⟩ := o
  obtain ⟨q1, q2, q3, hE'⟩ := hag
  dsimp only at q1 q2 q3 hE' hst hee hlen hnx ⊢
  subst q1 q2 q3
  have HL := Lib.hid hlen
  have HEN := Lib.hid (show y'.ended = x'.ended from hE'.ended)
  have HE := Lib.hid hE'
  have hrg := h.s.mem.lt
  have hrl := h.s.run.lt
  have hnl := h.s.nd.c.lt
  clear hl hlen hE' hE hROk
  go_enter Try.func17, Try.ntmps17
  go_wp2_with fail
  refine (hnx A (fun q => G q ∧ q < w.heap.size) _ ((hr.mono (fun q hq hg => (⟨hg, hq⟩ : G q ∧ q < w.heap.size))).keep (Ch.of_below (show Below w.heap.size w _ by (repeat' (first | (with_reducible exact Below.refl _ _) | (with_reducible assumption) | (with_reducible refine Below.alloc ?_ ?_ _) | (with_reducible refine Below.drew ?_) | (with_reducible refine below_drewN ?_ _) | (with_reducible refine Below.setCell ?_ ?_ _) | (with_reducible refine Below.trans ?_ (Below.mono (by assumption) ?_)) | (first | go_size | (with_reducible exact Below.size (by assumption)) | (with_reducible exact Nat.le_trans (Below.size (by assumption)) (Below.size (by assumption))) | (refine Nat.le_trans (Below.size (by assumption)) ?_; go_size))))) (fun _ => False)) (fun _ _ _ e => e)) hA).mono ?_
  rintro e w1 ⟨A2, c2, rfl, hr1, hc2, hcm2, hA2, hB⟩
  have hO1 : Blk w1 (w.heap.size + 1) 46 z8 := Blk.keep (show Blk ((w.alloc _).alloc _) (w.heap.size + 1) _ z8 from by have := Blk.new (w.alloc (.cells (rc8 B t false y).toArray 46)) 46 z8; rwa [World.size_alloc] at this) (Ch.of_below (show Below _ ((w.alloc _).alloc _) w1 from Below.trans (by (repeat' (first | (with_reducible exact Below.refl _ _) | (with_reducible assumption) | (with_reducible refine Below.alloc ?_ ?_ _) | (with_reducible refine Below.drew ?_) | (with_reducible refine below_drewN ?_ _) | (with_reducible refine Below.setCell ?_ ?_ _) | (with_reducible refine Below.trans ?_ (Below.mono (by assumption) ?_)) | (first | go_size | (with_reducible exact Below.size (by assumption)) | (with_reducible exact Nat.le_trans (Below.size (by assumption)) (Below.size (by assumption))) | (refine Nat.le_trans (Below.size (by assumption)) ?_; go_size))))) (hB.mono (by simp))) (fun _ => False)) (fun e => e)
  have hB1' : Below w.heap.size w w1 := Below.trans (by (repeat' (first | (with_reducible exact Below.refl _ _) | (with_reducible assumption) | (with_reducible refine Below.alloc ?_ ?_ _) | (with_reducible refine Below.drew ?_) | (with_reducible refine below_drewN ?_ _) | (with_reducible refine Below.setCell ?_ ?_ _) | (with_reducible refine Below.trans ?_ (Below.mono (by assumption) ?_)) | (first | go_size | (with_reducible exact Below.size (by assumption)) | (with_reducible exact Nat.le_trans (Below.size (by assumption)) (Below.size (by assumption))) | (refine Nat.le_trans (Below.size (by assumption)) ?_; go_size))))) (hB.mono (by simp; omega))
  have hz1 := hO1.lt
  clear hB
  have hn1 := Blk.new w1 46 z8
  have hN1 := rrow (w1.alloc (.cells z8.toArray 46)) w1.heap.size z8 (rc8 B t false y') hn1 rfl
  have hXch : Ch (fun j => j = w1.heap.size) w1 ((w1.alloc (.cells z8.toArray 46)).setRow w1.heap.size (rc8 B t false y').toArray) := ((Ch.refl _ w1).alloc (.cells z8.toArray 46)).trans hN1.2.2 (fun j _ e => e)
  have hBX := hB1'.trans (hXch.below (fun j hj e => by omega) hB1'.size)
  have hSX := h.below hBX
  have hNX := hN1.1
  have hOX := hO1.keep hXch (by omega)
  have hrX := hr1.keep hXch (fun q hq _ e => by omega)
  have z1 := nil_Step_Acquire r
  have z2 := method_Step_Acquire r
  go_wp2_with (first | (refine wpList_store_row rfl 46 _ _ rfl (w1.heap.size) _ rfl rfl 46 (z8).toArray (hn1) (by kernel_rfl) rfl (by simp [Value.oneCell']) ?_))
  refine (hst _ hSX).mono ?_
  clear hn1 hN1 hO1 hr1 hSX hst
  rintro e w3 ⟨rfl, hS3, hC3⟩
  have hN3 := hNX.keep hC3 (by omega)
  have hO3 := hOX.keep hC3 (by omega)
  have hr3 := hrX.keep hC3 (fun q hq hg e => by
    rcases hg with hg | hg
    · obtain ⟨g1, g2⟩ := hG q hg.1
      omega
    · simp only [World.size_alloc] at hg
      omega)
  have hz3 : w1.heap.size < w3.heap.size := hN3.lt
  have hch3 : Ch (fun j => j = r ∨ j = g) w w3 := (Ch.of_below hBX _).trans hC3 (fun _ _ e => e)
  obtain ⟨f0, f1, f2, f3, f4, f5, f6, f7⟩ := rc8_cells hN3
  have z3 := nil_Done_Acquire r
  have z4 := method_Done_Acquire r
  have z5 := nil_Result_Acquire r
  have z6 := method_Result_Acquire r
  have hdn := fun W hW => adone r nb x' W hW
  have hrs := fun W hW => aresult r nb x' W hW
  have hsm := fun W hW hX => same_ok b g c ws2 A2 n c2 W hW hX HL.out hc2
  clear hXch hBX hNX hOX hrX hC3 z1 z2 hN3
  rw [HEN.out] at f7
  cases hx : x'.ended
  · rw [hx] at f7 hdn hrs
    simp only [Bool.false_eq_true, if_false] at hrs
    have HX := Lib.hid hx
    clear hx
    have hRH : RHas w3 (w.heap.size + 1) := ⟨⟨_, hO3, rfl⟩⟩
    have hneR : w1.heap.size ≠ w.heap.size + 1 := by omega
    have hneS := hneR.symm
    go_wp2_with fail
    go_region_held3 (fun w' => w'.cell? ⟨w1.heap.size, 0, none⟩ = some (.int .i64 B) ∧ w'.cell? ⟨w1.heap.size, 1, none⟩ = some (.int .i64 t) ∧ w'.cell? ⟨w1.heap.size, 2, none⟩ = some (.int .i64 y'.lock) ∧ w'.cell? ⟨w1.heap.size, 3, none⟩ = some (.int .i64 y'.node) ∧ w'.cell? ⟨w1.heap.size, 4, none⟩ = some (.bool false) ∧ w'.cell? ⟨w1.heap.size, 5, none⟩ = some (.int .i64 y'.pc) ∧ w'.cell? ⟨w1.heap.size, 6, none⟩ = some (.int .u64 y'.other) ∧ w'.cell? ⟨w1.heap.size, 7, none⟩ = some (.bool false) ∧ RHas w' (w.heap.size + 1)) (((try go_split_ands); ((repeat' apply And.intro) <;> first | (with_reducible assumption) | ((with_reducible refine sc1 hneR ?_); (repeat' (with_reducible refine sc1 hneR ?_)); (with_reducible assumption)) | ((with_reducible refine RHas.set ?_); (repeat' (with_reducible refine RHas.set ?_)); (with_reducible assumption)) | (with_reducible exact RHas.below hRH (by (repeat' (first | (with_reducible exact Below.refl _ _) | (with_reducible assumption) | (with_reducible refine Below.alloc ?_ ?_ _) | (with_reducible refine Below.drew ?_) | (with_reducible refine below_drewN ?_ _) | (with_reducible refine Below.setCell ?_ ?_ _) | (with_reducible refine Below.trans ?_ (Below.mono (by assumption) ?_)) | (first | go_size | (with_reducible exact Below.size (by assumption)) | (with_reducible exact Nat.le_trans (Below.size (by assumption)) (Below.size (by assumption))) | (refine Nat.le_trans (Below.size (by assumption)) ?_; go_size)))))) | go_cell))) (first | (go_at_call 70; ((with_reducible refine (hdn _ ?_).mono ?_); (focus (exact (hS3.below (by (repeat' (first | (with_reducible exact Below.refl _ _) | (with_reducible assumption) | (with_reducible refine Below.alloc ?_ ?_ _) | (with_reducible refine Below.drew ?_) | (with_reducible refine below_drewN ?_ _) | (with_reducible refine Below.setCell ?_ ?_ _) | (with_reducible refine Below.trans ?_ (Below.mono (by assumption) ?_)) | (first | go_size | (with_reducible exact Below.size (by assumption)) | (with_reducible exact Nat.le_trans (Below.size (by assumption)) (Below.size (by assumption))) | (refine Nat.le_trans (Below.size (by assumption)) ?_; go_size)))))).s.run)); rintro e w' ⟨rfl, rfl⟩)) | (go_at_call 71; ((with_reducible refine (hrs _ ?_).mono ?_); (focus (exact (hS3.below (by (repeat' (first | (with_reducible exact Below.refl _ _) | (with_reducible assumption) | (with_reducible refine Below.alloc ?_ ?_ _) | (with_reducible refine Below.drew ?_) | (with_reducible refine below_drewN ?_ _) | (with_reducible refine Below.setCell ?_ ?_ _) | (with_reducible refine Below.trans ?_ (Below.mono (by assumption) ?_)) | (first | go_size | (with_reducible exact Below.size (by assumption)) | (with_reducible exact Nat.le_trans (Below.size (by assumption)) (Below.size (by assumption))) | (refine Nat.le_trans (Below.size (by assumption)) ?_; go_size)))))).s.run)); rintro e w' ⟨rfl, rfl⟩)) | (go_at_call 29; go_split_ands; ((with_reducible refine (hsm _ ?_ ?_).mono ?_); (focus (exact (hS3.below (by (repeat' (first | (with_reducible exact Below.refl _ _) | (with_reducible assumption) | (with_reducible refine Below.alloc ?_ ?_ _) | (with_reducible refine Below.drew ?_) | (with_reducible refine below_drewN ?_ _) | (with_reducible refine Below.setCell ?_ ?_ _) | (with_reducible refine Below.trans ?_ (Below.mono (by assumption) ?_)) | (first | go_size | (with_reducible exact Below.size (by assumption)) | (with_reducible exact Nat.le_trans (Below.size (by assumption)) (Below.size (by assumption))) | (refine Nat.le_trans (Below.size (by assumption)) ?_; go_size)))))).s.mem)); (focus (exact (hr3.keep (Ch.of_below (show Below w3.heap.size w3 _ by (repeat' (first | (with_reducible exact Below.refl _ _) | (with_reducible assumption) | (with_reducible refine Below.alloc ?_ ?_ _) | (with_reducible refine Below.drew ?_) | (with_reducible refine below_drewN ?_ _) | (with_reducible refine Below.setCell ?_ ?_ _) | (with_reducible refine Below.trans ?_ (Below.mono (by assumption) ?_)) | (first | go_size | (with_reducible exact Below.size (by assumption)) | (with_reducible exact Nat.le_trans (Below.size (by assumption)) (Below.size (by assumption))) | (refine Nat.le_trans (Below.size (by assumption)) ?_; go_size))))) (fun _ => False)) (fun _ _ _ e => e)).mono (fun _ _ _ => trivial))); rintro e w4 ⟨rfl, hB4⟩; have k0 := (Ch.of_below hB4 (fun _ => False)).keeps (p := ⟨w1.heap.size, 0, none⟩) (v := .int .i64 B) (by assumption) (fun e => e); have k1 := (Ch.of_below hB4 (fun _ => False)).keeps (p := ⟨w1.heap.size, 1, none⟩) (v := .int .i64 t) (by assumption) (fun e => e); have k2 := (Ch.of_below hB4 (fun _ => False)).keeps (p := ⟨w1.heap.size, 2, none⟩) (v := .int .i64 y'.lock) (by assumption) (fun e => e); have k3 := (Ch.of_below hB4 (fun _ => False)).keeps (p := ⟨w1.heap.size, 3, none⟩) (v := .int .i64 y'.node) (by assumption) (fun e => e); have k4 := (Ch.of_below hB4 (fun _ => False)).keeps (p := ⟨w1.heap.size, 4, none⟩) (v := .bool false) (by assumption) (fun e => e); have k5 := (Ch.of_below hB4 (fun _ => False)).keeps (p := ⟨w1.heap.size, 5, none⟩) (v := .int .i64 y'.pc) (by assumption) (fun e => e); have k6 := (Ch.of_below hB4 (fun _ => False)).keeps (p := ⟨w1.heap.size, 6, none⟩) (v := .int .u64 y'.other) (by assumption) (fun e => e); have k7 := (Ch.of_below hB4 (fun _ => False)).keeps (p := ⟨w1.heap.size, 7, none⟩) (v := .bool false) (by assumption) (fun e => e); have k8 : RHas w4 (w.heap.size + 1) := RHas.below (by assumption) hB4)) | (go_split_ands; have hh : RHas _ (w.heap.size + 1) := (by assumption); have o0 := RHas.cell (k := 0) hh (by omega); have o1 := RHas.cell (k := 1) hh (by omega); have o2 := RHas.cell (k := 2) hh (by omega); have o3 := RHas.cell (k := 3) hh (by omega); have o4 := RHas.cell (k := 4) hh (by omega); have o5 := RHas.cell (k := 5) hh (by omega); have o6 := RHas.cell (k := 6) hh (by omega); have o7 := RHas.cell (k := 7) hh (by omega); have p0 := RHas.frozen (k := 0) hh; have p1 := RHas.frozen (k := 1) hh; have p2 := RHas.frozen (k := 2) hh; have p3 := RHas.frozen (k := 3) hh; have p4 := RHas.frozen (k := 4) hh; have p5 := RHas.frozen (k := 5) hh; have p6 := RHas.frozen (k := 6) hh; have p7 := RHas.frozen (k := 7) hh; clear hh; go_simp))
    obtain ⟨hF, hFc⟩ := set8 k8 (.int .i64 B) (.int .i64 t) (.int .i64 y'.lock) (.int .i64 y'.node) (.bool false) (.int .i64 y'.pc) (.int .u64 y'.other) (.bool false)
    obtain ⟨F0, F1, F2, F3, F4, F5, F6, F7⟩ := blk8 hF
    have hS4 := hS3.below (show Below w3.heap.size w3 w4 from Below.trans (by (repeat' (first | (with_reducible exact Below.refl _ _) | (with_reducible assumption) | (with_reducible refine Below.alloc ?_ ?_ _) | (with_reducible refine Below.drew ?_) | (with_reducible refine below_drewN ?_ _) | (with_reducible refine Below.setCell ?_ ?_ _) | (with_reducible refine Below.trans ?_ (Below.mono (by assumption) ?_)) | (first | go_size | (with_reducible exact Below.size (by assumption)) | (with_reducible exact Nat.le_trans (Below.size (by assumption)) (Below.size (by assumption))) | (refine Nat.le_trans (Below.size (by assumption)) ?_; go_size))))) (hB4.mono (by simp)))
    have hz4 : w3.heap.size ≤ w4.heap.size := by have := hB4.size; simpa using this
    have hS5 := hS4.keep hFc (by omega) (by omega) (by omega) (by omega)
    have hrr := (hr3.keep (Ch.of_below (show Below w3.heap.size w3 w4 from Below.trans (by (repeat' (first | (with_reducible exact Below.refl _ _) | (with_reducible assumption) | (with_reducible refine Below.alloc ?_ ?_ _) | (with_reducible refine Below.drew ?_) | (with_reducible refine below_drewN ?_ _) | (with_reducible refine Below.setCell ?_ ?_ _) | (with_reducible refine Below.trans ?_ (Below.mono (by assumption) ?_)) | (first | go_size | (with_reducible exact Below.size (by assumption)) | (with_reducible exact Nat.le_trans (Below.size (by assumption)) (Below.size (by assumption))) | (refine Nat.le_trans (Below.size (by assumption)) ?_; go_size))))) (hB4.mono (by simp))) (fun _ => False)) (fun _ _ _ e => e)).keep hFc (fun q hq hg e => by
      simp only [World.size_alloc] at hg
      rcases hg with ⟨_, hg⟩ | hg <;> omega)
    have hcc := (hch3.trans (Ch.of_below (show Below w3.heap.size w3 w4 from Below.trans (by (repeat' (first | (with_reducible exact Below.refl _ _) | (with_reducible assumption) | (with_reducible refine Below.alloc ?_ ?_ _) | (with_reducible refine Below.drew ?_) | (with_reducible refine below_drewN ?_ _) | (with_reducible refine Below.setCell ?_ ?_ _) | (with_reducible refine Below.trans ?_ (Below.mono (by assumption) ?_)) | (first | go_size | (with_reducible exact Below.size (by assumption)) | (with_reducible exact Nat.le_trans (Below.size (by assumption)) (Below.size (by assumption))) | (refine Nat.le_trans (Below.size (by assumption)) ?_; go_size))))) (hB4.mono (by simp))) (fun _ => False)) (fun _ _ e => False.elim e)).trans hFc (fun j hj e => by omega)
    have hye : rrun B t false y' = rrun7 B t y'.lock y'.node false y'.pc y'.other false := by
      show Value.agg _ = Value.agg _
      rw [HEN.out, HX.out]
    have hy2 : rrun7 B t y'.lock y'.node false y'.pc y'.other false = rrun B t false y' := hye.symm
    go_wp2_with fail
    refine bodyPost_ret (v := .tuple #[rrun7 B t y'.lock y'.node false y'.pc y'.other false, .slice A2 n c2, .bool true]) (by simp [results, go_sem, F0, F1, F2, F3, F4, F5, F6, F7]) rfl ?_
    rw [hy2]
    refine ⟨A2, c2, y', rfl, HE.out, hS5, hrr.mono (fun q _ hg => ?_), hc2, hcm2, hA2, hcc⟩
    simp only [World.size_alloc] at hg
    rcases hg with ⟨hg, _⟩ | hg
    · exact .inl hg
    · exact .inr (by omega)
  · rw [hx] at f7 hdn hrs
    simp only [if_true] at hrs
    have HX := Lib.hid hx
    clear hx
    have hRH : RHas w3 (w.heap.size + 1) := ⟨⟨_, hO3, rfl⟩⟩
    have hneR : w1.heap.size ≠ w.heap.size + 1 := by omega
    have hneS := hneR.symm
    go_wp2_with fail
    go_region_held3 (fun w' => w'.cell? ⟨w1.heap.size, 0, none⟩ = some (.int .i64 B) ∧ w'.cell? ⟨w1.heap.size, 1, none⟩ = some (.int .i64 t) ∧ w'.cell? ⟨w1.heap.size, 2, none⟩ = some (.int .i64 y'.lock) ∧ w'.cell? ⟨w1.heap.size, 3, none⟩ = some (.int .i64 y'.node) ∧ w'.cell? ⟨w1.heap.size, 4, none⟩ = some (.bool false) ∧ w'.cell? ⟨w1.heap.size, 5, none⟩ = some (.int .i64 y'.pc) ∧ w'.cell? ⟨w1.heap.size, 6, none⟩ = some (.int .u64 y'.other) ∧ w'.cell? ⟨w1.heap.size, 7, none⟩ = some (.bool true) ∧ RHas w' (w.heap.size + 1)) (((try go_split_ands); ((repeat' apply And.intro) <;> first | (with_reducible assumption) | ((with_reducible refine sc1 hneR ?_); (repeat' (with_reducible refine sc1 hneR ?_)); (with_reducible assumption)) | ((with_reducible refine RHas.set ?_); (repeat' (with_reducible refine RHas.set ?_)); (with_reducible assumption)) | (with_reducible exact RHas.below hRH (by (repeat' (first | (with_reducible exact Below.refl _ _) | (with_reducible assumption) | (with_reducible refine Below.alloc ?_ ?_ _) | (with_reducible refine Below.drew ?_) | (with_reducible refine below_drewN ?_ _) | (with_reducible refine Below.setCell ?_ ?_ _) | (with_reducible refine Below.trans ?_ (Below.mono (by assumption) ?_)) | (first | go_size | (with_reducible exact Below.size (by assumption)) | (with_reducible exact Nat.le_trans (Below.size (by assumption)) (Below.size (by assumption))) | (refine Nat.le_trans (Below.size (by assumption)) ?_; go_size)))))) | go_cell))) (first | (go_at_call 70; ((with_reducible refine (hdn _ ?_).mono ?_); (focus (exact (hS3.below (by (repeat' (first | (with_reducible exact Below.refl _ _) | (with_reducible assumption) | (with_reducible refine Below.alloc ?_ ?_ _) | (with_reducible refine Below.drew ?_) | (with_reducible refine below_drewN ?_ _) | (with_reducible refine Below.setCell ?_ ?_ _) | (with_reducible refine Below.trans ?_ (Below.mono (by assumption) ?_)) | (first | go_size | (with_reducible exact Below.size (by assumption)) | (with_reducible exact Nat.le_trans (Below.size (by assumption)) (Below.size (by assumption))) | (refine Nat.le_trans (Below.size (by assumption)) ?_; go_size)))))).s.run)); rintro e w' ⟨rfl, rfl⟩)) | (go_at_call 71; ((with_reducible refine (hrs _ ?_).mono ?_); (focus (exact (hS3.below (by (repeat' (first | (with_reducible exact Below.refl _ _) | (with_reducible assumption) | (with_reducible refine Below.alloc ?_ ?_ _) | (with_reducible refine Below.drew ?_) | (with_reducible refine below_drewN ?_ _) | (with_reducible refine Below.setCell ?_ ?_ _) | (with_reducible refine Below.trans ?_ (Below.mono (by assumption) ?_)) | (first | go_size | (with_reducible exact Below.size (by assumption)) | (with_reducible exact Nat.le_trans (Below.size (by assumption)) (Below.size (by assumption))) | (refine Nat.le_trans (Below.size (by assumption)) ?_; go_size)))))).s.run)); rintro e w' ⟨rfl, rfl⟩)) | (go_at_call 29; go_split_ands; ((with_reducible refine (hsm _ ?_ ?_).mono ?_); (focus (exact (hS3.below (by (repeat' (first | (with_reducible exact Below.refl _ _) | (with_reducible assumption) | (with_reducible refine Below.alloc ?_ ?_ _) | (with_reducible refine Below.drew ?_) | (with_reducible refine below_drewN ?_ _) | (with_reducible refine Below.setCell ?_ ?_ _) | (with_reducible refine Below.trans ?_ (Below.mono (by assumption) ?_)) | (first | go_size | (with_reducible exact Below.size (by assumption)) | (with_reducible exact Nat.le_trans (Below.size (by assumption)) (Below.size (by assumption))) | (refine Nat.le_trans (Below.size (by assumption)) ?_; go_size)))))).s.mem)); (focus (exact (hr3.keep (Ch.of_below (show Below w3.heap.size w3 _ by (repeat' (first | (with_reducible exact Below.refl _ _) | (with_reducible assumption) | (with_reducible refine Below.alloc ?_ ?_ _) | (with_reducible refine Below.drew ?_) | (with_reducible refine below_drewN ?_ _) | (with_reducible refine Below.setCell ?_ ?_ _) | (with_reducible refine Below.trans ?_ (Below.mono (by assumption) ?_)) | (first | go_size | (with_reducible exact Below.size (by assumption)) | (with_reducible exact Nat.le_trans (Below.size (by assumption)) (Below.size (by assumption))) | (refine Nat.le_trans (Below.size (by assumption)) ?_; go_size))))) (fun _ => False)) (fun _ _ _ e => e)).mono (fun _ _ _ => trivial))); rintro e w4 ⟨rfl, hB4⟩; have k0 := (Ch.of_below hB4 (fun _ => False)).keeps (p := ⟨w1.heap.size, 0, none⟩) (v := .int .i64 B) (by assumption) (fun e => e); have k1 := (Ch.of_below hB4 (fun _ => False)).keeps (p := ⟨w1.heap.size, 1, none⟩) (v := .int .i64 t) (by assumption) (fun e => e); have k2 := (Ch.of_below hB4 (fun _ => False)).keeps (p := ⟨w1.heap.size, 2, none⟩) (v := .int .i64 y'.lock) (by assumption) (fun e => e); have k3 := (Ch.of_below hB4 (fun _ => False)).keeps (p := ⟨w1.heap.size, 3, none⟩) (v := .int .i64 y'.node) (by assumption) (fun e => e); have k4 := (Ch.of_below hB4 (fun _ => False)).keeps (p := ⟨w1.heap.size, 4, none⟩) (v := .bool false) (by assumption) (fun e => e); have k5 := (Ch.of_below hB4 (fun _ => False)).keeps (p := ⟨w1.heap.size, 5, none⟩) (v := .int .i64 y'.pc) (by assumption) (fun e => e); have k6 := (Ch.of_below hB4 (fun _ => False)).keeps (p := ⟨w1.heap.size, 6, none⟩) (v := .int .u64 y'.other) (by assumption) (fun e => e); have k7 := (Ch.of_below hB4 (fun _ => False)).keeps (p := ⟨w1.heap.size, 7, none⟩) (v := .bool true) (by assumption) (fun e => e); have k8 : RHas w4 (w.heap.size + 1) := RHas.below (by assumption) hB4)) | (go_split_ands; have hh : RHas _ (w.heap.size + 1) := (by assumption); have o0 := RHas.cell (k := 0) hh (by omega); have o1 := RHas.cell (k := 1) hh (by omega); have o2 := RHas.cell (k := 2) hh (by omega); have o3 := RHas.cell (k := 3) hh (by omega); have o4 := RHas.cell (k := 4) hh (by omega); have o5 := RHas.cell (k := 5) hh (by omega); have o6 := RHas.cell (k := 6) hh (by omega); have o7 := RHas.cell (k := 7) hh (by omega); have p0 := RHas.frozen (k := 0) hh; have p1 := RHas.frozen (k := 1) hh; have p2 := RHas.frozen (k := 2) hh; have p3 := RHas.frozen (k := 3) hh; have p4 := RHas.frozen (k := 4) hh; have p5 := RHas.frozen (k := 5) hh; have p6 := RHas.frozen (k := 6) hh; have p7 := RHas.frozen (k := 7) hh; clear hh; go_simp))
    obtain ⟨hF, hFc⟩ := set8 k8 (.int .i64 B) (.int .i64 t) (.int .i64 y'.lock) (.int .i64 y'.node) (.bool false) (.int .i64 y'.pc) (.int .u64 y'.other) (.bool true)
    obtain ⟨F0, F1, F2, F3, F4, F5, F6, F7⟩ := blk8 hF
    have hS4 := hS3.below (show Below w3.heap.size w3 w4 from Below.trans (by (repeat' (first | (with_reducible exact Below.refl _ _) | (with_reducible assumption) | (with_reducible refine Below.alloc ?_ ?_ _) | (with_reducible refine Below.drew ?_) | (with_reducible refine below_drewN ?_ _) | (with_reducible refine Below.setCell ?_ ?_ _) | (with_reducible refine Below.trans ?_ (Below.mono (by assumption) ?_)) | (first | go_size | (with_reducible exact Below.size (by assumption)) | (with_reducible exact Nat.le_trans (Below.size (by assumption)) (Below.size (by assumption))) | (refine Nat.le_trans (Below.size (by assumption)) ?_; go_size))))) (hB4.mono (by simp)))
    have hz4 : w3.heap.size ≤ w4.heap.size := by have := hB4.size; simpa using this
    have hS5 := hS4.keep hFc (by omega) (by omega) (by omega) (by omega)
    have hrr := (hr3.keep (Ch.of_below (show Below w3.heap.size w3 w4 from Below.trans (by (repeat' (first | (with_reducible exact Below.refl _ _) | (with_reducible assumption) | (with_reducible refine Below.alloc ?_ ?_ _) | (with_reducible refine Below.drew ?_) | (with_reducible refine below_drewN ?_ _) | (with_reducible refine Below.setCell ?_ ?_ _) | (with_reducible refine Below.trans ?_ (Below.mono (by assumption) ?_)) | (first | go_size | (with_reducible exact Below.size (by assumption)) | (with_reducible exact Nat.le_trans (Below.size (by assumption)) (Below.size (by assumption))) | (refine Nat.le_trans (Below.size (by assumption)) ?_; go_size))))) (hB4.mono (by simp))) (fun _ => False)) (fun _ _ _ e => e)).keep hFc (fun q hq hg e => by
      simp only [World.size_alloc] at hg
      rcases hg with ⟨_, hg⟩ | hg <;> omega)
    have hcc := (hch3.trans (Ch.of_below (show Below w3.heap.size w3 w4 from Below.trans (by (repeat' (first | (with_reducible exact Below.refl _ _) | (with_reducible assumption) | (with_reducible refine Below.alloc ?_ ?_ _) | (with_reducible refine Below.drew ?_) | (with_reducible refine below_drewN ?_ _) | (with_reducible refine Below.setCell ?_ ?_ _) | (with_reducible refine Below.trans ?_ (Below.mono (by assumption) ?_)) | (first | go_size | (with_reducible exact Below.size (by assumption)) | (with_reducible exact Nat.le_trans (Below.size (by assumption)) (Below.size (by assumption))) | (refine Nat.le_trans (Below.size (by assumption)) ?_; go_size))))) (hB4.mono (by simp))) (fun _ => False)) (fun _ _ e => False.elim e)).trans hFc (fun j hj e => by omega)
    have hye : rrun B t false y' = rrun7 B t y'.lock y'.node false y'.pc y'.other true := by
      show Value.agg _ = Value.agg _
      rw [HEN.out, HX.out]
    have hy2 : rrun7 B t y'.lock y'.node false y'.pc y'.other true = rrun B t false y' := hye.symm
    go_wp2_with fail
    refine bodyPost_ret (v := .tuple #[rrun7 B t y'.lock y'.node false y'.pc y'.other true, .slice A2 n c2, .bool true]) (by simp [results, go_sem, F0, F1, F2, F3, F4, F5, F6, F7]) rfl ?_
    rw [hy2]
    refine ⟨A2, c2, y', rfl, HE.out, hS5, hrr.mono (fun q _ hg => ?_), hc2, hcm2, hA2, hcc⟩
    simp only [World.size_alloc] at hg
    rcases hg with ⟨hg, _⟩ | hg
    · exact .inl hg
    · exact .inr (by omega)

theorem nil_Result_Release (r : Nat) (w : World) : (nilAhead 242 63 (.pointer (some ⟨r, 0, none⟩)) "Result").run Try.prog w = .ok (some false) w := by kernel_rfl
theorem method_Result_Release (r : Nat) (w : World) : (method 242 63 (.pointer (some ⟨r, 0, none⟩)) "Result").run Try.prog w = .ok (84, .pointer (some ⟨r, 0, none⟩)) w := by kernel_rfl
set_option maxRecDepth 100000 in
set_option maxHeartbeats 4000000 in
theorem does_Release (r nb b g c : Nat) (B t : Int) (x y : Rn) (ws : List Int) (A : Option Addr) (n cl : Nat) (G : Nat → Prop) (w : World) (h : Sat w true r nb b g c B t x ws) (hB1 : B ≤ 65536) (hE : Eqv x y)
    (hr : Rd G w A (u64s ws)) (hG : ∀ q, G q → q ≠ g ∧ q ≠ r) (hl : ws.length = n) (hc : n ≤ cl) (hcm : cl ≤ 9223372036854775807) (hA : A = none → cl = 0) :
    Calls Try.prog 17 #[.iface 63 (.pointer (some ⟨r, 0, none⟩)), rrun B t true y, .pointer (some ⟨b, 0, none⟩), .slice A n cl] w (DoesP w true r nb b g c B t n G (stp true B t x ws).x (stp true B t x ws).ws) := by
  have hROk : ROk B t true y := ⟨h.s.nd.B0, hB1, h.s.nd.t1, h.s.nd.t64, by rw [hE.node]; exact h.s.n0, by rw [hE.node]; exact h.s.n1, fun e => by rw [hE.rest (by rw [← hE.ended]; exact e)]; exact h.s.o0, fun e => by rw [hE.rest (by rw [← hE.ended]; exact e)]; exact h.p⟩
  have hn : n ≤ 100000 := by have := h.s.mem.hi; omega
  have hnx := fun A' G' W hr' hA' => rnext_any B t true y A' ws n cl G' W hROk hr' hl hc hcm hn hA'
  have hst := fun W hW => rstep' r nb b g c B t x ws W hW
  have hag := nxt_stp true B t x y ws hE h.p
  have hee := stp_e true B t x ws
  have hlen := stp_len true B t x ws
  rw [hl] at hlen
  generalize stp true B t x ws = u at *
  generalize nxt true B t y ws = o at *
  obtain ⟨x', ws', wt, ee⟩ := u
  obtain ⟨y', ws2, wt2, e2⟩ := o
  obtain ⟨q1, q2, q3, hE'⟩ := hag
  dsimp only at q1 q2 q3 hE' hst hee hlen hnx ⊢
  subst q1 q2 q3
  have HL := Lib.hid hlen
  have HEN := Lib.hid (show y'.ended = x'.ended from hE'.ended)
  have HE := Lib.hid hE'
  have hrg := h.s.mem.lt
  have hrl := h.s.run.lt
  have hnl := h.s.nd.c.lt
  clear hl hlen hE' hE hROk
  go_enter Try.func17, Try.ntmps17
  go_wp2_with fail
  refine (hnx A (fun q => G q ∧ q < w.heap.size) _ ((hr.mono (fun q hq hg => (⟨hg, hq⟩ : G q ∧ q < w.heap.size))).keep (Ch.of_below (show Below w.heap.size w _ by (repeat' (first | (with_reducible exact Below.refl _ _) | (with_reducible assumption) | (with_reducible refine Below.alloc ?_ ?_ _) | (with_reducible refine Below.drew ?_) | (with_reducible refine below_drewN ?_ _) | (with_reducible refine Below.setCell ?_ ?_ _) | (with_reducible refine Below.trans ?_ (Below.mono (by assumption) ?_)) | (first | go_size | (with_reducible exact Below.size (by assumption)) | (with_reducible exact Nat.le_trans (Below.size (by assumption)) (Below.size (by assumption))) | (refine Nat.le_trans (Below.size (by assumption)) ?_; go_size))))) (fun _ => False)) (fun _ _ _ e => e)) hA).mono ?_
  rintro e w1 ⟨A2, c2, rfl, hr1, hc2, hcm2, hA2, hB⟩
  have hO1 : Blk w1 (w.heap.size + 1) 46 z8 := Blk.keep (show Blk ((w.alloc _).alloc _) (w.heap.size + 1) _ z8 from by have := Blk.new (w.alloc (.cells (rc8 B t true y).toArray 46)) 46 z8; rwa [World.size_alloc] at this) (Ch.of_below (show Below _ ((w.alloc _).alloc _) w1 from Below.trans (by (repeat' (first | (with_reducible exact Below.refl _ _) | (with_reducible assumption) | (with_reducible refine Below.alloc ?_ ?_ _) | (with_reducible refine Below.drew ?_) | (with_reducible refine below_drewN ?_ _) | (with_reducible refine Below.setCell ?_ ?_ _) | (with_reducible refine Below.trans ?_ (Below.mono (by assumption) ?_)) | (first | go_size | (with_reducible exact Below.size (by assumption)) | (with_reducible exact Nat.le_trans (Below.size (by assumption)) (Below.size (by assumption))) | (refine Nat.le_trans (Below.size (by assumption)) ?_; go_size))))) (hB.mono (by simp))) (fun _ => False)) (fun e => e)
  have hB1' : Below w.heap.size w w1 := Below.trans (by (repeat' (first | (with_reducible exact Below.refl _ _) | (with_reducible assumption) | (with_reducible refine Below.alloc ?_ ?_ _) | (with_reducible refine Below.drew ?_) | (with_reducible refine below_drewN ?_ _) | (with_reducible refine Below.setCell ?_ ?_ _) | (with_reducible refine Below.trans ?_ (Below.mono (by assumption) ?_)) | (first | go_size | (with_reducible exact Below.size (by assumption)) | (with_reducible exact Nat.le_trans (Below.size (by assumption)) (Below.size (by assumption))) | (refine Nat.le_trans (Below.size (by assumption)) ?_; go_size))))) (hB.mono (by simp; omega))
  have hz1 := hO1.lt
  clear hB
  have hn1 := Blk.new w1 46 z8
  have hN1 := rrow (w1.alloc (.cells z8.toArray 46)) w1.heap.size z8 (rc8 B t true y') hn1 rfl
  have hXch : Ch (fun j => j = w1.heap.size) w1 ((w1.alloc (.cells z8.toArray 46)).setRow w1.heap.size (rc8 B t true y').toArray) := ((Ch.refl _ w1).alloc (.cells z8.toArray 46)).trans hN1.2.2 (fun j _ e => e)
  have hBX := hB1'.trans (hXch.below (fun j hj e => by omega) hB1'.size)
  have hSX := h.below hBX
  have hNX := hN1.1
  have hOX := hO1.keep hXch (by omega)
  have hrX := hr1.keep hXch (fun q hq _ e => by omega)
  have z1 := nil_Step_Release r
  have z2 := method_Step_Release r
  go_wp2_with (first | (refine wpList_store_row rfl 46 _ _ rfl (w1.heap.size) _ rfl rfl 46 (z8).toArray (hn1) (by kernel_rfl) rfl (by simp [Value.oneCell']) ?_))
  refine (hst _ hSX).mono ?_
  clear hn1 hN1 hO1 hr1 hSX hst
  rintro e w3 ⟨rfl, hS3, hC3⟩
  have hN3 := hNX.keep hC3 (by omega)
  have hO3 := hOX.keep hC3 (by omega)
  have hr3 := hrX.keep hC3 (fun q hq hg e => by
    rcases hg with hg | hg
    · obtain ⟨g1, g2⟩ := hG q hg.1
      omega
    · simp only [World.size_alloc] at hg
      omega)
  have hz3 : w1.heap.size < w3.heap.size := hN3.lt
  have hch3 : Ch (fun j => j = r ∨ j = g) w w3 := (Ch.of_below hBX _).trans hC3 (fun _ _ e => e)
  obtain ⟨f0, f1, f2, f3, f4, f5, f6, f7⟩ := rc8_cells hN3
  have z3 := nil_Done_Release r
  have z4 := method_Done_Release r
  have z5 := nil_Result_Release r
  have z6 := method_Result_Release r
  have hdn := fun W hW => rdone r nb x' W hW
  have hrs := fun W hW => rresult r nb x' W hW
  have hsm := fun W hW hX => same_ok b g c ws2 A2 n c2 W hW hX HL.out hc2
  clear hXch hBX hNX hOX hrX hC3 z1 z2 hN3
  rw [HEN.out] at f7
  cases hx : x'.ended
  · rw [hx] at f7 hdn hrs
    simp only [Bool.false_eq_true, if_false] at hrs
    have HX := Lib.hid hx
    clear hx
    have hRH : RHas w3 (w.heap.size + 1) := ⟨⟨_, hO3, rfl⟩⟩
    have hneR : w1.heap.size ≠ w.heap.size + 1 := by omega
    have hneS := hneR.symm
    go_wp2_with fail
    go_region_held3 (fun w' => w'.cell? ⟨w1.heap.size, 0, none⟩ = some (.int .i64 B) ∧ w'.cell? ⟨w1.heap.size, 1, none⟩ = some (.int .i64 t) ∧ w'.cell? ⟨w1.heap.size, 2, none⟩ = some (.int .i64 y'.lock) ∧ w'.cell? ⟨w1.heap.size, 3, none⟩ = some (.int .i64 y'.node) ∧ w'.cell? ⟨w1.heap.size, 4, none⟩ = some (.bool true) ∧ w'.cell? ⟨w1.heap.size, 5, none⟩ = some (.int .i64 y'.pc) ∧ w'.cell? ⟨w1.heap.size, 6, none⟩ = some (.int .u64 y'.other) ∧ w'.cell? ⟨w1.heap.size, 7, none⟩ = some (.bool false) ∧ RHas w' (w.heap.size + 1)) (((try go_split_ands); ((repeat' apply And.intro) <;> first | (with_reducible assumption) | ((with_reducible refine sc1 hneR ?_); (repeat' (with_reducible refine sc1 hneR ?_)); (with_reducible assumption)) | ((with_reducible refine RHas.set ?_); (repeat' (with_reducible refine RHas.set ?_)); (with_reducible assumption)) | (with_reducible exact RHas.below hRH (by (repeat' (first | (with_reducible exact Below.refl _ _) | (with_reducible assumption) | (with_reducible refine Below.alloc ?_ ?_ _) | (with_reducible refine Below.drew ?_) | (with_reducible refine below_drewN ?_ _) | (with_reducible refine Below.setCell ?_ ?_ _) | (with_reducible refine Below.trans ?_ (Below.mono (by assumption) ?_)) | (first | go_size | (with_reducible exact Below.size (by assumption)) | (with_reducible exact Nat.le_trans (Below.size (by assumption)) (Below.size (by assumption))) | (refine Nat.le_trans (Below.size (by assumption)) ?_; go_size)))))) | go_cell))) (first | (go_at_call 83; ((with_reducible refine (hdn _ ?_).mono ?_); (focus (exact (hS3.below (by (repeat' (first | (with_reducible exact Below.refl _ _) | (with_reducible assumption) | (with_reducible refine Below.alloc ?_ ?_ _) | (with_reducible refine Below.drew ?_) | (with_reducible refine below_drewN ?_ _) | (with_reducible refine Below.setCell ?_ ?_ _) | (with_reducible refine Below.trans ?_ (Below.mono (by assumption) ?_)) | (first | go_size | (with_reducible exact Below.size (by assumption)) | (with_reducible exact Nat.le_trans (Below.size (by assumption)) (Below.size (by assumption))) | (refine Nat.le_trans (Below.size (by assumption)) ?_; go_size)))))).s.run)); rintro e w' ⟨rfl, rfl⟩)) | (go_at_call 84; ((with_reducible refine (hrs _ ?_).mono ?_); (focus (exact (hS3.below (by (repeat' (first | (with_reducible exact Below.refl _ _) | (with_reducible assumption) | (with_reducible refine Below.alloc ?_ ?_ _) | (with_reducible refine Below.drew ?_) | (with_reducible refine below_drewN ?_ _) | (with_reducible refine Below.setCell ?_ ?_ _) | (with_reducible refine Below.trans ?_ (Below.mono (by assumption) ?_)) | (first | go_size | (with_reducible exact Below.size (by assumption)) | (with_reducible exact Nat.le_trans (Below.size (by assumption)) (Below.size (by assumption))) | (refine Nat.le_trans (Below.size (by assumption)) ?_; go_size)))))).s.run)); rintro e w' ⟨rfl, rfl⟩)) | (go_at_call 29; go_split_ands; ((with_reducible refine (hsm _ ?_ ?_).mono ?_); (focus (exact (hS3.below (by (repeat' (first | (with_reducible exact Below.refl _ _) | (with_reducible assumption) | (with_reducible refine Below.alloc ?_ ?_ _) | (with_reducible refine Below.drew ?_) | (with_reducible refine below_drewN ?_ _) | (with_reducible refine Below.setCell ?_ ?_ _) | (with_reducible refine Below.trans ?_ (Below.mono (by assumption) ?_)) | (first | go_size | (with_reducible exact Below.size (by assumption)) | (with_reducible exact Nat.le_trans (Below.size (by assumption)) (Below.size (by assumption))) | (refine Nat.le_trans (Below.size (by assumption)) ?_; go_size)))))).s.mem)); (focus (exact (hr3.keep (Ch.of_below (show Below w3.heap.size w3 _ by (repeat' (first | (with_reducible exact Below.refl _ _) | (with_reducible assumption) | (with_reducible refine Below.alloc ?_ ?_ _) | (with_reducible refine Below.drew ?_) | (with_reducible refine below_drewN ?_ _) | (with_reducible refine Below.setCell ?_ ?_ _) | (with_reducible refine Below.trans ?_ (Below.mono (by assumption) ?_)) | (first | go_size | (with_reducible exact Below.size (by assumption)) | (with_reducible exact Nat.le_trans (Below.size (by assumption)) (Below.size (by assumption))) | (refine Nat.le_trans (Below.size (by assumption)) ?_; go_size))))) (fun _ => False)) (fun _ _ _ e => e)).mono (fun _ _ _ => trivial))); rintro e w4 ⟨rfl, hB4⟩; have k0 := (Ch.of_below hB4 (fun _ => False)).keeps (p := ⟨w1.heap.size, 0, none⟩) (v := .int .i64 B) (by assumption) (fun e => e); have k1 := (Ch.of_below hB4 (fun _ => False)).keeps (p := ⟨w1.heap.size, 1, none⟩) (v := .int .i64 t) (by assumption) (fun e => e); have k2 := (Ch.of_below hB4 (fun _ => False)).keeps (p := ⟨w1.heap.size, 2, none⟩) (v := .int .i64 y'.lock) (by assumption) (fun e => e); have k3 := (Ch.of_below hB4 (fun _ => False)).keeps (p := ⟨w1.heap.size, 3, none⟩) (v := .int .i64 y'.node) (by assumption) (fun e => e); have k4 := (Ch.of_below hB4 (fun _ => False)).keeps (p := ⟨w1.heap.size, 4, none⟩) (v := .bool true) (by assumption) (fun e => e); have k5 := (Ch.of_below hB4 (fun _ => False)).keeps (p := ⟨w1.heap.size, 5, none⟩) (v := .int .i64 y'.pc) (by assumption) (fun e => e); have k6 := (Ch.of_below hB4 (fun _ => False)).keeps (p := ⟨w1.heap.size, 6, none⟩) (v := .int .u64 y'.other) (by assumption) (fun e => e); have k7 := (Ch.of_below hB4 (fun _ => False)).keeps (p := ⟨w1.heap.size, 7, none⟩) (v := .bool false) (by assumption) (fun e => e); have k8 : RHas w4 (w.heap.size + 1) := RHas.below (by assumption) hB4)) | (go_split_ands; have hh : RHas _ (w.heap.size + 1) := (by assumption); have o0 := RHas.cell (k := 0) hh (by omega); have o1 := RHas.cell (k := 1) hh (by omega); have o2 := RHas.cell (k := 2) hh (by omega); have o3 := RHas.cell (k := 3) hh (by omega); have o4 := RHas.cell (k := 4) hh (by omega); have o5 := RHas.cell (k := 5) hh (by omega); have o6 := RHas.cell (k := 6) hh (by omega); have o7 := RHas.cell (k := 7) hh (by omega); have p0 := RHas.frozen (k := 0) hh; have p1 := RHas.frozen (k := 1) hh; have p2 := RHas.frozen (k := 2) hh; have p3 := RHas.frozen (k := 3) hh; have p4 := RHas.frozen (k := 4) hh; have p5 := RHas.frozen (k := 5) hh; have p6 := RHas.frozen (k := 6) hh; have p7 := RHas.frozen (k := 7) hh; clear hh; go_simp))
    obtain ⟨hF, hFc⟩ := set8 k8 (.int .i64 B) (.int .i64 t) (.int .i64 y'.lock) (.int .i64 y'.node) (.bool true) (.int .i64 y'.pc) (.int .u64 y'.other) (.bool false)
    obtain ⟨F0, F1, F2, F3, F4, F5, F6, F7⟩ := blk8 hF
    have hS4 := hS3.below (show Below w3.heap.size w3 w4 from Below.trans (by (repeat' (first | (with_reducible exact Below.refl _ _) | (with_reducible assumption) | (with_reducible refine Below.alloc ?_ ?_ _) | (with_reducible refine Below.drew ?_) | (with_reducible refine below_drewN ?_ _) | (with_reducible refine Below.setCell ?_ ?_ _) | (with_reducible refine Below.trans ?_ (Below.mono (by assumption) ?_)) | (first | go_size | (with_reducible exact Below.size (by assumption)) | (with_reducible exact Nat.le_trans (Below.size (by assumption)) (Below.size (by assumption))) | (refine Nat.le_trans (Below.size (by assumption)) ?_; go_size))))) (hB4.mono (by simp)))
    have hz4 : w3.heap.size ≤ w4.heap.size := by have := hB4.size; simpa using this
    have hS5 := hS4.keep hFc (by omega) (by omega) (by omega) (by omega)
    have hrr := (hr3.keep (Ch.of_below (show Below w3.heap.size w3 w4 from Below.trans (by (repeat' (first | (with_reducible exact Below.refl _ _) | (with_reducible assumption) | (with_reducible refine Below.alloc ?_ ?_ _) | (with_reducible refine Below.drew ?_) | (with_reducible refine below_drewN ?_ _) | (with_reducible refine Below.setCell ?_ ?_ _) | (with_reducible refine Below.trans ?_ (Below.mono (by assumption) ?_)) | (first | go_size | (with_reducible exact Below.size (by assumption)) | (with_reducible exact Nat.le_trans (Below.size (by assumption)) (Below.size (by assumption))) | (refine Nat.le_trans (Below.size (by assumption)) ?_; go_size))))) (hB4.mono (by simp))) (fun _ => False)) (fun _ _ _ e => e)).keep hFc (fun q hq hg e => by
      simp only [World.size_alloc] at hg
      rcases hg with ⟨_, hg⟩ | hg <;> omega)
    have hcc := (hch3.trans (Ch.of_below (show Below w3.heap.size w3 w4 from Below.trans (by (repeat' (first | (with_reducible exact Below.refl _ _) | (with_reducible assumption) | (with_reducible refine Below.alloc ?_ ?_ _) | (with_reducible refine Below.drew ?_) | (with_reducible refine below_drewN ?_ _) | (with_reducible refine Below.setCell ?_ ?_ _) | (with_reducible refine Below.trans ?_ (Below.mono (by assumption) ?_)) | (first | go_size | (with_reducible exact Below.size (by assumption)) | (with_reducible exact Nat.le_trans (Below.size (by assumption)) (Below.size (by assumption))) | (refine Nat.le_trans (Below.size (by assumption)) ?_; go_size))))) (hB4.mono (by simp))) (fun _ => False)) (fun _ _ e => False.elim e)).trans hFc (fun j hj e => by omega)
    have hye : rrun B t true y' = rrun7 B t y'.lock y'.node true y'.pc y'.other false := by
      show Value.agg _ = Value.agg _
      rw [HEN.out, HX.out]
    have hy2 : rrun7 B t y'.lock y'.node true y'.pc y'.other false = rrun B t true y' := hye.symm
    go_wp2_with fail
    refine bodyPost_ret (v := .tuple #[rrun7 B t y'.lock y'.node true y'.pc y'.other false, .slice A2 n c2, .bool true]) (by simp [results, go_sem, F0, F1, F2, F3, F4, F5, F6, F7]) rfl ?_
    rw [hy2]
    refine ⟨A2, c2, y', rfl, HE.out, hS5, hrr.mono (fun q _ hg => ?_), hc2, hcm2, hA2, hcc⟩
    simp only [World.size_alloc] at hg
    rcases hg with ⟨hg, _⟩ | hg
    · exact .inl hg
    · exact .inr (by omega)
  · rw [hx] at f7 hdn hrs
    simp only [if_true] at hrs
    have HX := Lib.hid hx
    clear hx
    have hRH : RHas w3 (w.heap.size + 1) := ⟨⟨_, hO3, rfl⟩⟩
    have hneR : w1.heap.size ≠ w.heap.size + 1 := by omega
    have hneS := hneR.symm
    go_wp2_with fail
    go_region_held3 (fun w' => w'.cell? ⟨w1.heap.size, 0, none⟩ = some (.int .i64 B) ∧ w'.cell? ⟨w1.heap.size, 1, none⟩ = some (.int .i64 t) ∧ w'.cell? ⟨w1.heap.size, 2, none⟩ = some (.int .i64 y'.lock) ∧ w'.cell? ⟨w1.heap.size, 3, none⟩ = some (.int .i64 y'.node) ∧ w'.cell? ⟨w1.heap.size, 4, none⟩ = some (.bool true) ∧ w'.cell? ⟨w1.heap.size, 5, none⟩ = some (.int .i64 y'.pc) ∧ w'.cell? ⟨w1.heap.size, 6, none⟩ = some (.int .u64 y'.other) ∧ w'.cell? ⟨w1.heap.size, 7, none⟩ = some (.bool true) ∧ RHas w' (w.heap.size + 1)) (((try go_split_ands); ((repeat' apply And.intro) <;> first | (with_reducible assumption) | ((with_reducible refine sc1 hneR ?_); (repeat' (with_reducible refine sc1 hneR ?_)); (with_reducible assumption)) | ((with_reducible refine RHas.set ?_); (repeat' (with_reducible refine RHas.set ?_)); (with_reducible assumption)) | (with_reducible exact RHas.below hRH (by (repeat' (first | (with_reducible exact Below.refl _ _) | (with_reducible assumption) | (with_reducible refine Below.alloc ?_ ?_ _) | (with_reducible refine Below.drew ?_) | (with_reducible refine below_drewN ?_ _) | (with_reducible refine Below.setCell ?_ ?_ _) | (with_reducible refine Below.trans ?_ (Below.mono (by assumption) ?_)) | (first | go_size | (with_reducible exact Below.size (by assumption)) | (with_reducible exact Nat.le_trans (Below.size (by assumption)) (Below.size (by assumption))) | (refine Nat.le_trans (Below.size (by assumption)) ?_; go_size)))))) | go_cell))) (first | (go_at_call 83; ((with_reducible refine (hdn _ ?_).mono ?_); (focus (exact (hS3.below (by (repeat' (first | (with_reducible exact Below.refl _ _) | (with_reducible assumption) | (with_reducible refine Below.alloc ?_ ?_ _) | (with_reducible refine Below.drew ?_) | (with_reducible refine below_drewN ?_ _) | (with_reducible refine Below.setCell ?_ ?_ _) | (with_reducible refine Below.trans ?_ (Below.mono (by assumption) ?_)) | (first | go_size | (with_reducible exact Below.size (by assumption)) | (with_reducible exact Nat.le_trans (Below.size (by assumption)) (Below.size (by assumption))) | (refine Nat.le_trans (Below.size (by assumption)) ?_; go_size)))))).s.run)); rintro e w' ⟨rfl, rfl⟩)) | (go_at_call 84; ((with_reducible refine (hrs _ ?_).mono ?_); (focus (exact (hS3.below (by (repeat' (first | (with_reducible exact Below.refl _ _) | (with_reducible assumption) | (with_reducible refine Below.alloc ?_ ?_ _) | (with_reducible refine Below.drew ?_) | (with_reducible refine below_drewN ?_ _) | (with_reducible refine Below.setCell ?_ ?_ _) | (with_reducible refine Below.trans ?_ (Below.mono (by assumption) ?_)) | (first | go_size | (with_reducible exact Below.size (by assumption)) | (with_reducible exact Nat.le_trans (Below.size (by assumption)) (Below.size (by assumption))) | (refine Nat.le_trans (Below.size (by assumption)) ?_; go_size)))))).s.run)); rintro e w' ⟨rfl, rfl⟩)) | (go_at_call 29; go_split_ands; ((with_reducible refine (hsm _ ?_ ?_).mono ?_); (focus (exact (hS3.below (by (repeat' (first | (with_reducible exact Below.refl _ _) | (with_reducible assumption) | (with_reducible refine Below.alloc ?_ ?_ _) | (with_reducible refine Below.drew ?_) | (with_reducible refine below_drewN ?_ _) | (with_reducible refine Below.setCell ?_ ?_ _) | (with_reducible refine Below.trans ?_ (Below.mono (by assumption) ?_)) | (first | go_size | (with_reducible exact Below.size (by assumption)) | (with_reducible exact Nat.le_trans (Below.size (by assumption)) (Below.size (by assumption))) | (refine Nat.le_trans (Below.size (by assumption)) ?_; go_size)))))).s.mem)); (focus (exact (hr3.keep (Ch.of_below (show Below w3.heap.size w3 _ by (repeat' (first | (with_reducible exact Below.refl _ _) | (with_reducible assumption) | (with_reducible refine Below.alloc ?_ ?_ _) | (with_reducible refine Below.drew ?_) | (with_reducible refine below_drewN ?_ _) | (with_reducible refine Below.setCell ?_ ?_ _) | (with_reducible refine Below.trans ?_ (Below.mono (by assumption) ?_)) | (first | go_size | (with_reducible exact Below.size (by assumption)) | (with_reducible exact Nat.le_trans (Below.size (by assumption)) (Below.size (by assumption))) | (refine Nat.le_trans (Below.size (by assumption)) ?_; go_size))))) (fun _ => False)) (fun _ _ _ e => e)).mono (fun _ _ _ => trivial))); rintro e w4 ⟨rfl, hB4⟩; have k0 := (Ch.of_below hB4 (fun _ => False)).keeps (p := ⟨w1.heap.size, 0, none⟩) (v := .int .i64 B) (by assumption) (fun e => e); have k1 := (Ch.of_below hB4 (fun _ => False)).keeps (p := ⟨w1.heap.size, 1, none⟩) (v := .int .i64 t) (by assumption) (fun e => e); have k2 := (Ch.of_below hB4 (fun _ => False)).keeps (p := ⟨w1.heap.size, 2, none⟩) (v := .int .i64 y'.lock) (by assumption) (fun e => e); have k3 := (Ch.of_below hB4 (fun _ => False)).keeps (p := ⟨w1.heap.size, 3, none⟩) (v := .int .i64 y'.node) (by assumption) (fun e => e); have k4 := (Ch.of_below hB4 (fun _ => False)).keeps (p := ⟨w1.heap.size, 4, none⟩) (v := .bool true) (by assumption) (fun e => e); have k5 := (Ch.of_below hB4 (fun _ => False)).keeps (p := ⟨w1.heap.size, 5, none⟩) (v := .int .i64 y'.pc) (by assumption) (fun e => e); have k6 := (Ch.of_below hB4 (fun _ => False)).keeps (p := ⟨w1.heap.size, 6, none⟩) (v := .int .u64 y'.other) (by assumption) (fun e => e); have k7 := (Ch.of_below hB4 (fun _ => False)).keeps (p := ⟨w1.heap.size, 7, none⟩) (v := .bool true) (by assumption) (fun e => e); have k8 : RHas w4 (w.heap.size + 1) := RHas.below (by assumption) hB4)) | (go_split_ands; have hh : RHas _ (w.heap.size + 1) := (by assumption); have o0 := RHas.cell (k := 0) hh (by omega); have o1 := RHas.cell (k := 1) hh (by omega); have o2 := RHas.cell (k := 2) hh (by omega); have o3 := RHas.cell (k := 3) hh (by omega); have o4 := RHas.cell (k := 4) hh (by omega); have o5 := RHas.cell (k := 5) hh (by omega); have o6 := RHas.cell (k := 6) hh (by omega); have o7 := RHas.cell (k := 7) hh (by omega); have p0 := RHas.frozen (k := 0) hh; have p1 := RHas.frozen (k := 1) hh; have p2 := RHas.frozen (k := 2) hh; have p3 := RHas.frozen (k := 3) hh; have p4 := RHas.frozen (k := 4) hh; have p5 := RHas.frozen (k := 5) hh; have p6 := RHas.frozen (k := 6) hh; have p7 := RHas.frozen (k := 7) hh; clear hh; go_simp))
    obtain ⟨hF, hFc⟩ := set8 k8 (.int .i64 B) (.int .i64 t) (.int .i64 y'.lock) (.int .i64 y'.node) (.bool true) (.int .i64 y'.pc) (.int .u64 y'.other) (.bool true)
    obtain ⟨F0, F1, F2, F3, F4, F5, F6, F7⟩ := blk8 hF
    have hS4 := hS3.below (show Below w3.heap.size w3 w4 from Below.trans (by (repeat' (first | (with_reducible exact Below.refl _ _) | (with_reducible assumption) | (with_reducible refine Below.alloc ?_ ?_ _) | (with_reducible refine Below.drew ?_) | (with_reducible refine below_drewN ?_ _) | (with_reducible refine Below.setCell ?_ ?_ _) | (with_reducible refine Below.trans ?_ (Below.mono (by assumption) ?_)) | (first | go_size | (with_reducible exact Below.size (by assumption)) | (with_reducible exact Nat.le_trans (Below.size (by assumption)) (Below.size (by assumption))) | (refine Nat.le_trans (Below.size (by assumption)) ?_; go_size))))) (hB4.mono (by simp)))
    have hz4 : w3.heap.size ≤ w4.heap.size := by have := hB4.size; simpa using this
    have hS5 := hS4.keep hFc (by omega) (by omega) (by omega) (by omega)
    have hrr := (hr3.keep (Ch.of_below (show Below w3.heap.size w3 w4 from Below.trans (by (repeat' (first | (with_reducible exact Below.refl _ _) | (with_reducible assumption) | (with_reducible refine Below.alloc ?_ ?_ _) | (with_reducible refine Below.drew ?_) | (with_reducible refine below_drewN ?_ _) | (with_reducible refine Below.setCell ?_ ?_ _) | (with_reducible refine Below.trans ?_ (Below.mono (by assumption) ?_)) | (first | go_size | (with_reducible exact Below.size (by assumption)) | (with_reducible exact Nat.le_trans (Below.size (by assumption)) (Below.size (by assumption))) | (refine Nat.le_trans (Below.size (by assumption)) ?_; go_size))))) (hB4.mono (by simp))) (fun _ => False)) (fun _ _ _ e => e)).keep hFc (fun q hq hg e => by
      simp only [World.size_alloc] at hg
      rcases hg with ⟨_, hg⟩ | hg <;> omega)
    have hcc := (hch3.trans (Ch.of_below (show Below w3.heap.size w3 w4 from Below.trans (by (repeat' (first | (with_reducible exact Below.refl _ _) | (with_reducible assumption) | (with_reducible refine Below.alloc ?_ ?_ _) | (with_reducible refine Below.drew ?_) | (with_reducible refine below_drewN ?_ _) | (with_reducible refine Below.setCell ?_ ?_ _) | (with_reducible refine Below.trans ?_ (Below.mono (by assumption) ?_)) | (first | go_size | (with_reducible exact Below.size (by assumption)) | (with_reducible exact Nat.le_trans (Below.size (by assumption)) (Below.size (by assumption))) | (refine Nat.le_trans (Below.size (by assumption)) ?_; go_size))))) (hB4.mono (by simp))) (fun _ => False)) (fun _ _ e => False.elim e)).trans hFc (fun j hj e => by omega)
    have hye : rrun B t true y' = rrun7 B t y'.lock y'.node true y'.pc y'.other true := by
      show Value.agg _ = Value.agg _
      rw [HEN.out, HX.out]
    have hy2 : rrun7 B t y'.lock y'.node true y'.pc y'.other true = rrun B t true y' := hye.symm
    go_wp2_with fail
    refine bodyPost_ret (v := .tuple #[rrun7 B t y'.lock y'.node true y'.pc y'.other true, .slice A2 n c2, .bool true]) (by simp [results, go_sem, F0, F1, F2, F3, F4, F5, F6, F7]) rfl ?_
    rw [hy2]
    refine ⟨A2, c2, y', rfl, HE.out, hS5, hrr.mono (fun q _ hg => ?_), hc2, hcm2, hA2, hcc⟩
    simp only [World.size_alloc] at hg
    rcases hg with ⟨hg, _⟩ | hg
    · exact .inl hg
    · exact .inr (by omega)

end Go.Proofs.Ytmlhdcpahfgckaa
