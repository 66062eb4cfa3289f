/-
  Arguments that are slices of structs of any cells: what they read as, cell by cell.
-/
import Derived.Test.YtmbofohdjdipdaaOpen2
namespace Go.Proofs.Ytmbofohdjdipdaa
open Go.RowKit Go.ChangeShapes Go.WideShapes Go.Deep

inductive Leaf where
  | num (k : IntKind)
  | truth
  | other
def Leaf.fits : Leaf → Value → Prop
  | .num k, v => ∃ x, v = .int k x ∧ (Lit.int k x).wf = true
  | .truth, v => ∃ b, v = .bool b
  | .other, v => v.oneCell' = true
def Fit (ds : List Leaf) (cs : List Value) : Prop := cs.length = ds.length ∧ ∀ (j : Nat) (d : Leaf) (v : Value), ds[j]? = some d → cs[j]? = some v → d.fits v
theorem Fit.append {d r : List Leaf} {a b : List Value} (h : Fit d a) (k : Fit r b) : Fit (d ++ r) (a ++ b) := by
  refine ⟨by simp [h.1, k.1], fun j e v he hv => ?_⟩
  by_cases hj : j < d.length
  · rw [List.getElem?_append_left hj] at he
    rw [List.getElem?_append_left (by rw [h.1]; exact hj)] at hv
    exact h.2 j e v he hv
  · rw [List.getElem?_append_right (by omega)] at he
    rw [List.getElem?_append_right (by rw [h.1]; omega), h.1] at hv
    exact k.2 _ e v he hv
theorem Fit.cast {ds ds' : List Leaf} {cs : List Value} (h : Fit ds cs) (e : ds = ds') : Fit ds' cs := e ▸ h
theorem Fit.one {d : Leaf} {v : Value} (h : d.fits v) : Fit [d] [v] := by
  refine ⟨rfl, fun j e u he hu => ?_⟩
  cases j with
  | zero => simp at he hu; subst he hu; exact h
  | succ j => simp at he
theorem fit_flatten : ∀ (dss : List (List Leaf)) (cs : List Value), cs.length = dss.flatten.length → (∀ j ds, dss[j]? = some ds → Fit ds ((cs.drop (dss.take j).flatten.length).take ds.length)) → Fit dss.flatten cs
  | [], cs, hl, _ => ⟨by simpa using hl, fun j d v hd => by simp at hd⟩
  | d :: r, cs, hl, h => by
    rw [List.flatten_cons, List.length_append] at hl
    have h0 := h 0 d rfl
    have hr := fit_flatten r (cs.drop d.length) (by rw [List.length_drop]; omega) (fun j ds hj => by
      have := h (j + 1) ds (by simpa using hj)
      rw [List.take_succ_cons, List.flatten_cons, List.length_append] at this
      rwa [List.drop_drop])
    simp only [List.take_zero, List.flatten_nil, List.length_nil, List.drop_zero] at h0
    rw [List.flatten_cons, ← List.take_append_drop d.length cs]
    exact h0.append hr
def Leafy {H : Type} (enc : TypeId × Value → H) (P : Program) (T : TypeId) (ds : List Leaf) : Prop :=
  P.cellsOf T = ds.length ∧ ∀ (w : World) (base : Nat) (spare : Nat → Bool) (held : Bool) (fuel : Nat) (cs : List Value) (x : DataW H × List MemPlace), DataW.trod enc P w base spare held fuel T cs = some x → Fit ds cs
section
variable {H : Type} {enc : TypeId × Value → H} {P : Program} {T : TypeId}
theorem leafy_int {k : IntKind} (ht : P.underlying T = some (.int k)) (hc : P.cellsOf T = 1) : Leafy enc P T [.num k] := ⟨hc, fun _ _ _ _ _ _ _ h => by
  obtain ⟨n, rfl, _, hw⟩ := DataW.trod_int ht h
  exact Fit.one ⟨n, rfl, hw⟩⟩
theorem leafy_bool (ht : P.underlying T = some .bool) (hc : P.cellsOf T = 1) : Leafy enc P T [.truth] := ⟨hc, fun _ _ _ _ _ _ _ h => by
  obtain ⟨b, rfl, _⟩ := DataW.trod_bool ht h
  exact Fit.one ⟨b, rfl⟩⟩
theorem leafy_string (ht : P.underlying T = some .string) (hc : P.cellsOf T = 1) : Leafy enc P T [.other] := ⟨hc, fun _ _ _ _ _ _ _ h => by
  obtain ⟨s, rfl, _⟩ := DataW.trod_string ht h
  exact Fit.one rfl⟩
theorem leafy_slice {e : TypeId} (ht : P.underlying T = some (.slice e)) (hc : P.cellsOf T = 1) : Leafy enc P T [.other] := ⟨hc, fun _ _ _ _ _ _ _ h => by
  rcases DataW.trod_slice ht h with ⟨rfl, _⟩ | ⟨a, len, cap, _, _, _, _, rfl, _⟩
  · exact Fit.one rfl
  · exact Fit.one rfl⟩
theorem leafy_struct {fs : Array Field} (ht : P.underlying T = some (.struct fs)) (dss : List (List Leaf)) (hn : dss.length = fs.size) (hc : P.cellsOf T = dss.flatten.length)
    (ho : ∀ j, j < fs.size → ∃ f ds, fs[j]? = some f ∧ dss[j]? = some ds ∧ f.offset = (dss.take j).flatten.length ∧ Leafy enc P f.type ds) : Leafy enc P T dss.flatten := by
  refine ⟨hc, fun w base spare held fuel cs x h => ?_⟩
  obtain ⟨xs, n, _, _, hl, hxs, hf⟩ := DataW.trod_struct ht h
  refine fit_flatten dss cs (by rw [hl, hc]) (fun j ds hj => ?_)
  obtain ⟨f, ds', hfj, hdj, hof, hc', hlf⟩ := ho j (by rw [← hn]; exact (List.getElem?_eq_some_iff.1 hj).1)
  rw [hj] at hdj
  injection hdj with hdj
  subst hdj
  have := hf j f hfj
  rw [hof, hc'] at this
  have hx := List.getElem?_eq_getElem (show j < xs.length by rw [hxs, ← hn]; exact (List.getElem?_eq_some_iff.1 hj).1)
  exact hlf _ _ _ _ _ _ _ (this.trans hx)
theorem flatten_at {n : Nat} : ∀ {xs : List (List Value)} (_ : ∀ r ∈ xs, r.length = n) {i j : Nat} {r : List Value}, xs[i]? = some r → j < n → xs.flatten[i * n + j]? = r[j]?
  | [], _, i, j, r, h, _ => by simp at h
  | x :: xs, hl, 0, j, r, h, hj => by
    have hx := hl x (by simp)
    simp at h
    subst h
    rw [List.flatten_cons, Nat.zero_mul, Nat.zero_add, List.getElem?_append_left (by omega)]
  | x :: xs, hl, i + 1, j, r, h, hj => by
    have hx := hl x (by simp)
    have := flatten_at (xs := xs) (fun r hr => hl r (by simp [hr])) (i := i) (j := j) (r := r) (by simpa using h) hj
    rw [List.flatten_cons, List.getElem?_append_right (by rw [hx, Nat.add_mul]; omega), hx, ← this]
    congr 1
    rw [Nat.add_mul]
    omega
theorem flatten_len {n : Nat} : ∀ {xs : List (List Value)} (_ : ∀ r ∈ xs, r.length = n), xs.flatten.length = xs.length * n
  | [], _ => by simp
  | x :: xs, hl => by
    have hx := hl x (by simp)
    have := flatten_len (xs := xs) (fun r hr => hl r (by simp [hr]))
    rw [List.flatten_cons, List.length_append, hx, this, List.length_cons, Nat.add_mul]
    omega
theorem open_flat {W : World} {b0 : Nat} {t e : TypeId} {v : Value} {d : DataW H} {p : List MemPlace} (ds : List Leaf) (ht : P.underlying t = some (.slice e)) (hL : Leafy enc P e ds) (h0 : 0 < ds.length)
    (hv : Value.okWide P W .any b0 t v) (h : DataW.Trod enc P W 0 (fun _ => true) true t v d p) :
    ∃ (A : Option Addr) (n c : Nat) (xs : List (List Value)), v = .slice A n c ∧ xs.length = n ∧ n ≤ c ∧ c ≤ 9223372036854775807 ∧ (A = none → c = 0) ∧ Rd (fun b => b < W.heap.size) W A xs.flatten ∧ (∀ r ∈ xs, Fit ds r) := by
  obtain ⟨a0, len, cap, rfl⟩ := okWide_slice ht hv
  obtain ⟨fuel, hf⟩ := h
  rcases open_slice ht hf with ⟨hcs, _⟩ | ⟨a, len', cap', m, n', D, Pl, hcs, _, hl, hm, hmm, _, hi⟩
  · simp only [Value.cells] at hcs
    have e1 : Value.slice a0 len cap = .slice none 0 0 := by simpa using hcs
    injection e1 with e1 e2 e3
    subst e1 e2 e3
    exact ⟨none, 0, 0, [], rfl, rfl, Nat.le_refl _, by omega, fun _ => rfl, Rd.nil _ _ _, fun x hx => by cases hx⟩
  · have e1 : Value.slice a0 len cap = .slice (some a) len' cap' := by simpa [Value.cells] using hcs
    injection e1 with e1 e2 e3
    subst e1 e2 e3
    simp only [if_true] at hmm
    subst hmm
    have hrec : ∀ i, i < len → ∃ r : List Value, Fit ds r ∧ ∀ j v, r[j]? = some v → W.cell? (a.add (i * ds.length + j)) = some v := fun i hlt => by
      obtain ⟨cs', hc, ht'⟩ := hi i (by omega)
      rw [hL.1] at hc
      obtain ⟨_, hcl, hat⟩ := World.cells?_some hc
      refine ⟨cs', hL.2 _ _ _ _ _ _ _ ht', fun j v hj => ?_⟩
      have hjl := (List.getElem?_eq_some_iff.1 hj).1
      have := hat j (by omega)
      rw [← add_add, this, hj]
    obtain ⟨xs, hxl, hx⟩ := list_of len hrec
    have hfit : ∀ r ∈ xs, Fit ds r := fun r hr => by
      obtain ⟨i, hi, rfl⟩ := List.getElem_of_mem hr
      exact (hx i _ (List.getElem?_eq_getElem hi)).1
    have hlen : ∀ r ∈ xs, r.length = ds.length := fun r hr => (hfit r hr).1
    refine ⟨some a, len, _, xs, rfl, hxl, hl, (by unfold maxLen at hm; omega), (fun h => by cases h), fun hne => ?_, hfit⟩
    have hcell : ∀ q v, xs.flatten[q]? = some v → W.cell? (a.add q) = some v := fun q v hq => by
      have hq1 : q < xs.flatten.length := (List.getElem?_eq_some_iff.1 hq).1
      rw [flatten_len hlen] at hq1
      have hd : q / ds.length < xs.length := (Nat.div_lt_iff_lt_mul h0).2 hq1
      have hm' : q % ds.length < ds.length := Nat.mod_lt _ h0
      have hqe : q / ds.length * ds.length + q % ds.length = q := by rw [Nat.mul_comm]; exact Nat.div_add_mod _ _
      have hxi := List.getElem?_eq_getElem hd
      have hat := flatten_at hlen hxi hm'
      rw [hqe, hq] at hat
      have := (hx _ _ hxi).2 _ _ hat.symm
      rwa [hqe] at this
    obtain ⟨v0, hv0⟩ : ∃ v0, xs.flatten[0]? = some v0 := by
      cases hr : xs.flatten with
      | nil => exact absurd hr hne
      | cons x _ => exact ⟨x, rfl⟩
    obtain ⟨b, off, sub⟩ := a
    have hc0 := hcell 0 v0 hv0
    cases sub with
    | some s =>
      simp only [Addr.add, World.cell?] at hc0
      split at hc0 <;> simp at hc0
    | none =>
      rw [Addr.add_lit] at hc0
      have hlt : b < W.heap.size := World.block_lt_of_cell? W _ hc0
      exact ⟨b, off, rfl, hlt, hlt, fun j v hj => by rw [← Addr.add_lit]; exact hcell j v hj⟩
end
end Go.Proofs.Ytmbofohdjdipdaa
