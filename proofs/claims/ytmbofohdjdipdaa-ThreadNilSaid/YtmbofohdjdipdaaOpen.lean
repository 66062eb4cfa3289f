/-
  Arguments that are slices of numbers: what they read as, and that they read so again behind a call that has only laid new memory.
-/
import Derived.Test.YtmbofohdjdipdaaHeap
import Derived.OpenShut
namespace Go.Proofs.Ytmbofohdjdipdaa
open Go.RowKit Go.ChangeShapes Go.WideShapes

section
variable {H : Type} {enc : TypeId × Value → H} {P : Program}
theorem open_rd {W : World} {b0 : Nat} {t e : TypeId} {k : IntKind} {v : Value} {d : DataW H} {p : List MemPlace} (ht : P.underlying t = some (.slice e)) (he : P.underlying e = some (.int k)) (hc : P.cellsOf e = 1)
    (hv : Value.okWide P W .any b0 t v) (h : DataW.Trod enc P W 0 (fun _ => true) true t v d p) :
    ∃ (A : Option Addr) (n c : Nat) (xs : List Int), v = .slice A n c ∧ xs.length = n ∧ n ≤ c ∧ c ≤ 9223372036854775807 ∧ (A = none → c = 0) ∧ Rd (fun b => b < W.heap.size) W A (xs.map (Value.int k)) ∧ (∀ x ∈ xs, (Lit.int k x).wf = true) := by
  obtain ⟨a0, len, cap, rfl⟩ := okWide_slice ht hv
  obtain ⟨fuel, hf⟩ := h
  rcases open_ints ht he hc hf with ⟨hcs, _⟩ | ⟨a, len', cap', zs, hcs, _, hl, hm, hz, _, hcell, hwz⟩
  · simp only [Value.cells] at hcs
    have e1 : Value.slice a0 len cap = .slice none 0 0 := by simpa using hcs
    injection e1 with e1 e2 e3
    subst e1 e2 e3
    exact ⟨none, 0, 0, [], rfl, rfl, Nat.le_refl _, by omega, fun _ => rfl, Rd.nil _ _ _, fun x hx => by cases hx⟩
  · have e1 : Value.slice a0 len cap = .slice (some a) len' cap' := by simpa [Value.cells] using hcs
    injection e1 with e1 e2 e3
    subst e1 e2 e3
    simp only [if_true] at hz
    refine ⟨some a, len, cap, zs.take len, rfl, (by simp; omega), hl, (by unfold maxLen at hm; omega), (fun h => by cases h), fun hne => ?_, fun x hx => hwz x (List.mem_of_mem_take hx)⟩
    have hp : 0 < zs.length := by
      rcases Nat.eq_zero_or_pos zs.length with h0 | h0
      · have : zs = [] := List.eq_nil_of_length_eq_zero h0
        subst this
        simp at hne
      · exact h0
    obtain ⟨b, off, rfl, hc'⟩ := ints_at hcell hp
    have hlt : b < W.heap.size := World.block_lt_of_cell? W _ (hc' 0 hp)
    refine ⟨b, off, rfl, hlt, hlt, fun j v hj => ?_⟩
    have hj' : j < ((zs.take len).map (Value.int k)).length := (List.getElem?_eq_some_iff.1 hj).1
    simp at hj'
    rw [hc' j (by omega)]
    rw [List.getElem?_map, List.getElem?_take, if_pos (by omega), List.getElem?_eq_getElem (by omega)] at hj
    simp [List.getD, List.getElem?_eq_getElem (show j < zs.length by omega)]
    simpa using hj
theorem stay {W W' : World} {t : TypeId} {v : Value} {d : DataW H} {ps : List MemPlace} (hl : laidOutB P = true) (hr : P.readableRec t = true) (hrow : t < P.types.size)
    (h : DataW.Trod enc P W 0 (fun _ => true) true t v d ps) (hb : Below W.heap.size W W') (hlt : ∀ x ∈ ps, x.block < W.heap.size) (sp : Nat → Bool) (hs : ∀ x ∈ ps, sp x.block = true) : DataW.Trod enc P W' 0 sp true t v d ps :=
  WideElems.Trod_stays hl hr hrow h (fun x hx => hb.same (hlt x hx)) hs
end
end Go.Proofs.Ytmbofohdjdipdaa
