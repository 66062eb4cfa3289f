/-
  Arguments that are slices of structs of numbers: what they read as.
-/
import Derived.Test.YtmbofohdjdipdaaOpen
import Derived.Deep.Slices
import Derived.Deep.Fields
import Derived.ChangeSame
import Derived.Lib.SmallJoins
namespace Go.Proofs.Ytmbofohdjdipdaa
open Go.RowKit Go.ChangeShapes Go.WideShapes Go.Deep

def recV (ks : List IntKind) (r : List Int) : List Value := List.zipWith Value.int ks r
def recs (ks : List IntKind) (xs : List (List Int)) : List Value := xs.flatMap (recV ks)
theorem recV_len {ks : List IntKind} {r : List Int} (h : r.length = ks.length) : (recV ks r).length = ks.length := by simp [recV, h]
theorem recs_at {ks : List IntKind} : ∀ {xs : List (List Int)} (_ : ∀ r ∈ xs, r.length = ks.length) {i j : Nat} {r : List Int}, xs[i]? = some r → j < ks.length → (recs ks xs)[i * ks.length + j]? = (recV ks r)[j]?
  | [], _, i, j, r, h, _ => by simp at h
  | x :: xs, hl, 0, j, r, h, hj => by
    have hx := recV_len (hl x (by simp))
    simp at h
    subst h
    simp only [recs, List.flatMap_cons]
    rw [Nat.zero_mul, Nat.zero_add, List.getElem?_append_left (by omega)]
  | x :: xs, hl, i + 1, j, r, h, hj => by
    have hx := recV_len (hl x (by simp))
    have := recs_at (xs := xs) (fun r hr => hl r (by simp [hr])) (i := i) (j := j) (r := r) (by simpa using h) hj
    simp only [recs, List.flatMap_cons] at this ⊢
    rw [List.getElem?_append_right (by rw [hx, Nat.add_mul]; omega), hx, ← this]
    congr 1
    rw [Nat.add_mul]
    omega
theorem recs_len {ks : List IntKind} : ∀ {xs : List (List Int)} (_ : ∀ r ∈ xs, r.length = ks.length), (recs ks xs).length = xs.length * ks.length
  | [], _ => by simp [recs]
  | x :: xs, hl => by
    have hx := recV_len (hl x (by simp))
    have := recs_len (xs := xs) (fun r hr => hl r (by simp [hr]))
    simp only [recs, List.flatMap_cons, List.length_append] at this ⊢
    rw [hx, this, List.length_cons, Nat.add_mul]
    omega
theorem list_of {α : Type} {P : Nat → α → Prop} : ∀ n : Nat, (∀ i, i < n → ∃ a, P i a) → ∃ xs : List α, xs.length = n ∧ ∀ i x, xs[i]? = some x → P i x
  | 0, _ => ⟨[], rfl, fun i x h => by simp at h⟩
  | n + 1, h => by
    obtain ⟨xs, hl, hx⟩ := list_of n (fun i hi => h i (by omega))
    obtain ⟨a, ha⟩ := h n (by omega)
    refine ⟨xs ++ [a], by simp [hl], fun i x hi => ?_⟩
    rcases Nat.lt_or_ge i xs.length with hlt | hge
    · rw [List.getElem?_append_left hlt] at hi
      exact hx i x hi
    · have : i < (xs ++ [a]).length := (List.getElem?_eq_some_iff.1 hi).1
      have hin : i = n := by simp at this; omega
      subst hin
      rw [List.getElem?_append_right hge, hl] at hi
      simp at hi
      subst hi
      exact ha
section
variable {H : Type} {enc : TypeId × Value → H} {P : Program} {w : World} {base : Nat} {spare : Nat → Bool} {held : Bool}
theorem open_slice_fields {t e : TypeId} {fs : Array Field} {fuel : Nat} {cs : List Value} {x : DataW H × List MemPlace} (ht : P.underlying t = some (.slice e)) (he : P.underlying e = some (.struct fs))
    (hone : oneCellFields P fs = true) (hC : P.cellsOf e = fs.size) (h : DataW.trod enc P w base spare held fuel t cs = some x) :
    (cs = [.slice none 0 0] ∧ x = (.nil, [])) ∨
    ∃ (a : Addr) (len cap m : Nat) (D : Nat → DataW H) (Pl : Nat → List MemPlace), cs = [.slice (some a) len cap] ∧ base ≤ a.block ∧ len ≤ cap ∧ cap ≤ maxLen ∧ m = (if spare a.block then cap else len) ∧
      x = (.slice ((List.range len).map D) ((List.range (m - len)).map fun j => D (len + j)), MemPlace.row a (m * fs.size) ++ (List.range m).flatMap Pl) ∧
      ∀ i, i < m → ∃ (ys : List (DataW H × List MemPlace)) (n : Nat), D i = .agg (ys.map (·.1)) ∧ Pl i = ys.flatMap (·.2) ∧ ys.length = fs.size ∧
        ∀ (j : Nat) (f : Field), fs[j]? = some f → ∃ (v : Value) (y : DataW H × List MemPlace), w.cell? (a.add (i * fs.size + j)) = some v ∧ ys[j]? = some y ∧ DataW.trod enc P w base spare held n f.type [v] = some y := by
  rcases open_slice ht h with h0 | ⟨a, len, cap, m, n, D, Pl, hcs, hb, hl, hm, hmm, hx, hi⟩
  · exact .inl h0
  · refine .inr ⟨a, len, cap, m, D, Pl, hcs, hb, hl, hm, hmm, by rw [hC] at hx; exact hx, fun i him => ?_⟩
    obtain ⟨cs', hc, ht'⟩ := hi i him
    rw [hC] at hc
    obtain ⟨ys, n', hn', hy, hlen, hyl, hf⟩ := DataW.trod_struct he ht'
    obtain ⟨_, hcl, hat⟩ := World.cells?_some hc
    simp only [Prod.mk.injEq] at hy
    refine ⟨ys, n', hy.1, hy.2, hyl, fun j f hj => ?_⟩
    obtain ⟨ho, hk⟩ := hone_of hone j f hj
    have hjl : j < fs.size := (Array.getElem?_eq_some_iff.1 hj).1
    have hcell := hat j hjl
    have hv : cs'[j]? = some (cs'[j]'(by omega)) := List.getElem?_eq_getElem (by omega)
    have h1 := hf j f hj
    rw [ho, hk] at h1
    have hone' : (cs'.drop j).take 1 = [cs'[j]'(by omega)] := by
      rw [List.drop_eq_getElem_cons (by omega)]
      rfl
    rw [hone'] at h1
    have hys : ys[j]? = some (ys[j]'(by omega)) := List.getElem?_eq_getElem (by omega)
    refine ⟨_, _, ?_, hys, h1.trans hys⟩
    rw [← Go.Deep.add_add, hcell, hv]
theorem open_recs {W : World} {b0 : Nat} {t e : TypeId} {fs : Array Field} {v : Value} {d : DataW H} {p : List MemPlace} (ks : List IntKind) (ht : P.underlying t = some (.slice e)) (he : P.underlying e = some (.struct fs))
    (hone : oneCellFields P fs = true) (hC : P.cellsOf e = fs.size) (hks : ks.length = fs.size) (h0 : 0 < ks.length) (hu : ∀ j, j < ks.length → ∃ f k, fs[j]? = some f ∧ ks[j]? = some k ∧ P.underlying f.type = some (.int k))
    (hv : Value.okWide P W .any b0 t v) (h : DataW.Trod enc P W 0 (fun _ => true) true t v d p) :
    ∃ (A : Option Addr) (n c : Nat) (xs : List (List Int)), v = .slice A n c ∧ xs.length = n ∧ n ≤ c ∧ c ≤ 9223372036854775807 ∧ (A = none → c = 0) ∧ Rd (fun b => b < W.heap.size) W A (recs ks xs) ∧
      (∀ r ∈ xs, r.length = ks.length ∧ ∀ (j : Nat) (k : IntKind) (x : Int), ks[j]? = some k → r[j]? = some x → (Lit.int k x).wf = true) := by
  obtain ⟨a0, len, cap, rfl⟩ := okWide_slice ht hv
  obtain ⟨fuel, hf⟩ := h
  rcases open_slice_fields ht he hone hC hf with ⟨hcs, _⟩ | ⟨a, len', cap', m, D, Pl, hcs, _, hl, hm, hmm, _, hi⟩
  · simp only [Value.cells] at hcs
    have e1 : Value.slice a0 len cap = .slice none 0 0 := by simpa using hcs
    injection e1 with e1 e2 e3
    subst e1 e2 e3
    exact ⟨none, 0, 0, [], rfl, rfl, Nat.le_refl _, by omega, fun _ => rfl, Rd.nil _ _ _, fun x hx => by cases hx⟩
  · have e1 : Value.slice a0 len cap = .slice (some a) len' cap' := by simpa [Value.cells] using hcs
    injection e1 with e1 e2 e3
    subst e1 e2 e3
    simp only [if_true] at hmm
    subst hmm
    have hrec : ∀ i, i < len → ∃ r : List Int, r.length = ks.length ∧ ∀ (j : Nat) (k : IntKind) (x : Int), ks[j]? = some k → r[j]? = some x → (Lit.int k x).wf = true ∧ W.cell? (a.add (i * ks.length + j)) = some (.int k x) := fun i hlt => by
      obtain ⟨ys, n, _, _, _, hy⟩ := hi i (by omega)
      obtain ⟨r, hr, hrx⟩ := list_of (P := fun j x => ∀ k, ks[j]? = some k → (Lit.int k x).wf = true ∧ W.cell? (a.add (i * ks.length + j)) = some (.int k x)) ks.length (fun j hj => by
        obtain ⟨f, k, hfj, hkj, hut⟩ := hu j hj
        obtain ⟨v, y, hc, _, hty⟩ := hy j f hfj
        obtain ⟨z, hz, _, hwf⟩ := DataW.trod_int hut hty
        injection hz with hz _
        subst hz
        refine ⟨z, fun k' hk' => ?_⟩
        rw [hkj] at hk'
        injection hk' with hk'
        subst hk'
        rw [hks]
        exact ⟨hwf, hc⟩)
      exact ⟨r, hr, fun j k x hk hx => hrx j x hx k hk⟩
    obtain ⟨xs, hxl, hx⟩ := list_of len hrec
    have hlen : ∀ r ∈ xs, r.length = ks.length := fun r hr => by
      obtain ⟨i, hi, rfl⟩ := List.getElem_of_mem hr
      exact (hx i _ (List.getElem?_eq_getElem hi)).1
    refine ⟨some a, len, _, xs, rfl, hxl, hl, (by unfold maxLen at hm; omega), (fun h => by cases h), fun hne => ?_, fun r hr => ⟨hlen r hr, ?_⟩⟩
    · have hcell : ∀ q v, (recs ks xs)[q]? = some v → W.cell? (a.add q) = some v := fun q v hq => by
        have hq1 : q < (recs ks xs).length := (List.getElem?_eq_some_iff.1 hq).1
        rw [recs_len hlen] at hq1
        have hd : q / ks.length < xs.length := (Nat.div_lt_iff_lt_mul h0).2 hq1
        have hm' : q % ks.length < ks.length := Nat.mod_lt _ h0
        have hqe : q / ks.length * ks.length + q % ks.length = q := by rw [Nat.mul_comm]; exact Nat.div_add_mod _ _
        have hxi := List.getElem?_eq_getElem hd
        have hat := recs_at hlen hxi hm'
        rw [hqe, hq] at hat
        obtain ⟨hrl, hrc⟩ := hx _ _ hxi
        obtain ⟨_, k, _, hkj, _⟩ := hu _ hm'
        have hrx := List.getElem?_eq_getElem (show q % ks.length < (xs[q / ks.length]).length by omega)
        have := (hrc _ _ _ hkj hrx).2
        rw [hqe] at this
        rw [this, hat]
        simp only [recV, List.getElem?_zipWith, hkj, hrx]
      obtain ⟨v0, hv0⟩ : ∃ v0, (recs ks xs)[0]? = some v0 := by
        cases hr : recs ks xs with
        | nil => exact absurd hr hne
        | cons x _ => exact ⟨x, rfl⟩
      obtain ⟨b, off, sub⟩ := a
      have hc0 := hcell 0 v0 hv0
      cases sub with
      | some s =>
        simp only [Addr.add, World.cell?] at hc0
        split at hc0 <;> simp at hc0
      | none =>
        rw [Addr.add_lit] at hc0
        have hlt : b < W.heap.size := World.block_lt_of_cell? W _ hc0
        exact ⟨b, off, rfl, hlt, hlt, fun j v hj => by rw [← Addr.add_lit]; exact hcell j v hj⟩
    · intro j k x hk hxj
      obtain ⟨i, hi, rfl⟩ := List.getElem_of_mem hr
      exact ((hx i _ (List.getElem?_eq_getElem hi)).2 j k x hk hxj).1
end
end Go.Proofs.Ytmbofohdjdipdaa
