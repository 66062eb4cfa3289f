/-
  What the package's two tables hold when a call begins, out of the row's condition on them; the door's own run meets that condition.
-/
import Derived.Test.YtcnbjpbohhfmoaaDoorModes6
import Derived.LaidMore
import Derived.LaidHandle
import Derived.LaidLaws
import Derived.MakeChecks
import Derived.Stop.Joined
namespace Go.Proofs.YtcnbjpbohhfmoaaDoor
open Go.ChangeShapes Go.WideShapes Go.ChangeAt Go.RowKit

theorem own : ownKnob Tryd.prog.godebug = none := by kernel_rfl
theorem gFits : Tryd.prog.globalNamed "ticketline/modes.fits" = some 0 := by kernel_rfl
theorem gWords : Tryd.prog.globalNamed "ticketline/modes.words" = some 1 := by kernel_rfl
theorem tFits : (Tryd.prog.globals[0]?).map (·.type) = some 38 := by kernel_rfl
theorem tWords : (Tryd.prog.globals[1]?).map (·.type) = some 45 := by kernel_rfl
theorem c44 : Tryd.prog.cellsOf 38 = 16 := by kernel_rfl
theorem c4 : Tryd.prog.cellsOf 37 = 4 := by kernel_rfl
theorem c1 : Tryd.prog.cellsOf 4 = 1 := by kernel_rfl
theorem c4s : Tryd.prog.cellsOf 45 = 4 := by kernel_rfl
theorem c1s : Tryd.prog.cellsOf 9 = 1 := by kernel_rfl
def laids : List (String × DataW Unit) := [("ticketline/modes.fits", Rows.laid_ticketline_modes_fits), ("ticketline/modes.words", Rows.laid_ticketline_modes_words)]

section
variable {H : Type} {enc : TypeId × Value → H} {w : World} {base : Nat} {sp : Nat → Bool} {held : Bool}
theorem bools4 {fuel : Nat} {a b c d : Value} {p q r s : Bool} {x : DataW H × List MemPlace} (hx : x.1 = .agg [.lit (.bool p), .lit (.bool q), .lit (.bool r), .lit (.bool s)])
    (h : DataW.trod enc Tryd.prog w base sp held fuel 37 [a, b, c, d] = some x) : a = .bool p ∧ b = .bool q ∧ c = .bool r ∧ d = .bool s := by
  obtain ⟨xs, m, _, rfl, _, hn, hel⟩ := DataW.trod_array Tryd.underlying37 h
  match xs, hn with
  | [x0, x1, x2, x3], _ =>
    rw [c1] at hel
    obtain ⟨b0, e0, f0⟩ := DataW.trod_bool Tryd.underlying4 (show DataW.trod enc Tryd.prog w base sp held m 4 [a] = some x0 from hel 0 (by decide))
    obtain ⟨b1, e1, f1⟩ := DataW.trod_bool Tryd.underlying4 (show DataW.trod enc Tryd.prog w base sp held m 4 [b] = some x1 from hel 1 (by decide))
    obtain ⟨b2, e2, f2⟩ := DataW.trod_bool Tryd.underlying4 (show DataW.trod enc Tryd.prog w base sp held m 4 [c] = some x2 from hel 2 (by decide))
    obtain ⟨b3, e3, f3⟩ := DataW.trod_bool Tryd.underlying4 (show DataW.trod enc Tryd.prog w base sp held m 4 [d] = some x3 from hel 3 (by decide))
    simp at e0 e1 e2 e3
    subst f0 f1 f2 f3
    simp at hx
    obtain ⟨rfl, rfl, rfl, rfl⟩ := hx
    exact ⟨e0, e1, e2, e3⟩
theorem str_of {s : ByteArray} {l : List UInt8} (h : s.data.toList = l) : s = ⟨l.toArray⟩ := by subst h; rfl
end

theorem of_laid {W : World} (h : laidMetH Tryd.prog laids W) : Tab W ∧ Tab2 W := by
  rw [MakeChecks.laidMetH_plain _ _ _ (by kernel_rfl)] at h
  obtain ⟨ps, ⟨g0, t0, cs0, f0, p0, q0, hg0, ht0, hv0, hd0, ⟨g1, t1, cs1, f1, p1, q1, hg1, ht1, hv1, hd1, _, _⟩, _⟩, _, _⟩ := h
  obtain rfl := Option.some.inj (gFits.symm.trans hg0)
  obtain rfl := Option.some.inj (gWords.symm.trans hg1)
  obtain rfl := Option.some.inj (tFits.symm.trans ht0)
  obtain rfl := Option.some.inj (tWords.symm.trans ht1)
  constructor
  · obtain ⟨xs, m, _, hx, hlen, hn, hel⟩ := DataW.trod_array Tryd.underlying38 hd0
    rw [c44] at hlen
    rw [c4] at hel
    obtain ⟨l0⟩ := cs0
    have hcs : l0 = fitsCells := by
      match l0, hlen, xs, hn, hx, hel with
      | [a0, a1, a2, a3, b0, b1, b2, b3, c0, c1, c2, c3, d0, d1, d2, d3], _, [x0, x1, x2, x3], _, hx, hel =>
        simp only [Prod.mk.injEq, Rows.laid_ticketline_modes_fits, DataW.agg.injEq, List.map_cons, List.map_nil, List.cons.injEq, and_true] at hx
        obtain ⟨⟨h0, h1, h2, h3⟩, _⟩ := hx
        obtain ⟨rfl, rfl, rfl, rfl⟩ := bools4 h0.symm (show DataW.trod _ Tryd.prog W 0 _ false m 37 [a0, a1, a2, a3] = some x0 from hel 0 (by decide))
        obtain ⟨rfl, rfl, rfl, rfl⟩ := bools4 h1.symm (show DataW.trod _ Tryd.prog W 0 _ false m 37 [b0, b1, b2, b3] = some x1 from hel 1 (by decide))
        obtain ⟨rfl, rfl, rfl, rfl⟩ := bools4 h2.symm (show DataW.trod _ Tryd.prog W 0 _ false m 37 [c0, c1, c2, c3] = some x2 from hel 2 (by decide))
        obtain ⟨rfl, rfl, rfl, rfl⟩ := bools4 h3.symm (show DataW.trod _ Tryd.prog W 0 _ false m 37 [d0, d1, d2, d3] = some x3 from hel 3 (by decide))
        rfl
    subst hcs
    intro k v hk
    rw [World.var?_cell hg0 hv0 k]
    simpa using hk
  · obtain ⟨xs, m, _, hx, hlen, hn, hel⟩ := DataW.trod_array Tryd.underlying45 hd1
    rw [c4s] at hlen
    rw [c1s] at hel
    obtain ⟨l0⟩ := cs1
    have hcs : l0 = wordCells := by
      match l0, hlen, xs, hn, hx, hel with
      | [a, b, c, d], _, [x0, x1, x2, x3], _, hx, hel =>
        simp only [Prod.mk.injEq, Rows.laid_ticketline_modes_words, DataW.agg.injEq, List.map_cons, List.map_nil, List.cons.injEq, and_true] at hx
        obtain ⟨⟨h0, h1, h2, h3⟩, _⟩ := hx
        obtain ⟨s0, e0, k0, _⟩ := DataW.trod_string Tryd.underlying9 (show DataW.trod _ Tryd.prog W 0 _ false m 9 [a] = some x0 from hel 0 (by decide))
        obtain ⟨s1, e1, k1, _⟩ := DataW.trod_string Tryd.underlying9 (show DataW.trod _ Tryd.prog W 0 _ false m 9 [b] = some x1 from hel 1 (by decide))
        obtain ⟨s2, e2, k2, _⟩ := DataW.trod_string Tryd.underlying9 (show DataW.trod _ Tryd.prog W 0 _ false m 9 [c] = some x2 from hel 2 (by decide))
        obtain ⟨s3, e3, k3, _⟩ := DataW.trod_string Tryd.underlying9 (show DataW.trod _ Tryd.prog W 0 _ false m 9 [d] = some x3 from hel 3 (by decide))
        simp at e0 e1 e2 e3
        subst k0 k1 k2 k3 e0 e1 e2 e3
        simp only [DataW.lit.injEq, Lit.string.injEq] at h0 h1 h2 h3
        rw [str_of h0.symm, str_of h1.symm, str_of h2.symm, str_of h3.symm]
        rfl
    subst hcs
    intro k v hk
    rw [World.var?_cell hg1 hv1 k]
    simpa using hk

theorem door_met (os : Os) (args : Array Value) : laidMetH Tryd.prog laids ((World.doorLaid Tryd.prog 400 os).forCall (fun _ _ => 0) ⟨#[], args, []⟩).memory :=
  laidMetH_of_parts3 (fuel := 8) (laidMet_of_run' 8 (by kernel_rfl) (by kernel_rfl)) (by kernel_rfl) (by kernel_rfl)
end Go.Proofs.YtcnbjpbohhfmoaaDoor
