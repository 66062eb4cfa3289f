/-
  Things that were done, and which lists of them are traces: plain functions and their laws.
-/
import Derived.Test.YtmbofohdjdipdaaRecs
namespace Go.Proofs.Ytmbofohdjdipdaa
open Go.RowKit

structure Dd where
  t : Int
  k : Int
  w : Int
  b : Int
  a : Int
  wt : Bool
  en : Bool
deriving DecidableEq
def Dd.cells (d : Dd) : List Value := [.int .i64 d.t, .int .i64 d.k, .int .i64 d.w, .int .u64 d.b, .int .u64 d.a, .bool d.wt, .bool d.en]
def Dd.val (d : Dd) : Value := .agg d.cells.toArray
def i64B (x : Int) : Prop := -9223372036854775808 ≤ x ∧ x ≤ 9223372036854775807
def u64B (x : Int) : Prop := 0 ≤ x ∧ x ≤ 18446744073709551615
def Dd.wf (d : Dd) : Prop := i64B d.t ∧ i64B d.k ∧ i64B d.w ∧ u64B d.b ∧ u64B d.a
def dds (l : List Dd) : List Value := (l.map Dd.cells).flatten
theorem dds_len (l : List Dd) : (dds l).length = l.length * 7 := by
  unfold dds
  rw [flatten_len (n := 7) (by intro r hr; obtain ⟨e, _, rfl⟩ := List.mem_map.1 hr; rfl), List.length_map]
theorem dds_append (l r : List Dd) : dds (l ++ r) = dds l ++ dds r := by simp [dds]
theorem dds_one (d : Dd) : dds [d] = d.cells := by simp [dds]
theorem dds_at {l : List Dd} {i : Nat} {d : Dd} (h : l[i]? = some d) {j : Nat} (hj : j < 7) : (dds l)[i * 7 + j]? = d.cells[j]? :=
  flatten_at (n := 7) (r := d.cells) (i := i) (xs := l.map Dd.cells) (by intro r hr; obtain ⟨e, _, rfl⟩ := List.mem_map.1 hr; rfl) (by rw [List.getElem?_map, h]; rfl) hj
theorem rd_dd {G : Nat → Prop} {w : World} {A : Option Addr} {l : List Dd} (h : Rd G w A (dds l)) {i : Nat} {d : Dd} (hi : l[i]? = some d) : ∃ b o, A = some ⟨b, o, none⟩ ∧ G b ∧ b < w.heap.size ∧ w.rangeAt b (o + i * 7) d.cells := by
  have hl : i < l.length := (List.getElem?_eq_some_iff.1 hi).1
  obtain ⟨b, o, hA, hG, hb, hc⟩ := h (by intro e0; have := dds_len l; rw [e0] at this; simp only [List.length_nil] at this; omega)
  refine ⟨b, o, hA, hG, hb, fun j v hj => ?_⟩
  rw [Nat.add_assoc]
  have hj7 : j < 7 := (List.getElem?_eq_some_iff.1 hj).1
  exact hc _ v ((dds_at hi hj7).trans hj)
def ddLeaf : List Leaf := [.num .i64, .num .i64, .num .i64, .num .u64, .num .u64, .truth, .truth]
theorem wf_i64 {x : Int} (h : (Lit.int .i64 x).wf = true) : i64B x := by
  unfold i64B
  simp [Lit.wf, IntKind.min, IntKind.max, IntKind.signed, IntKind.bits] at h
  omega
theorem wf_u64 {x : Int} (h : (Lit.int .u64 x).wf = true) : u64B x := by
  unfold u64B
  simp [Lit.wf, IntKind.min, IntKind.max, IntKind.signed, IntKind.bits] at h
  omega
theorem dd_of {r : List Value} (h : Fit ddLeaf r) : ∃ d : Dd, r = d.cells ∧ d.wf := by
  obtain ⟨hl, hf⟩ := h
  match r, hl with
  | [v0, v1, v2, v3, v4, v5, v6], _ =>
    obtain ⟨x0, rfl, w0⟩ := hf 0 _ v0 rfl rfl
    obtain ⟨x1, rfl, w1⟩ := hf 1 _ v1 rfl rfl
    obtain ⟨x2, rfl, w2⟩ := hf 2 _ v2 rfl rfl
    obtain ⟨x3, rfl, w3⟩ := hf 3 _ v3 rfl rfl
    obtain ⟨x4, rfl, w4⟩ := hf 4 _ v4 rfl rfl
    obtain ⟨x5, rfl⟩ := hf 5 _ v5 rfl rfl
    obtain ⟨x6, rfl⟩ := hf 6 _ v6 rfl rfl
    exact ⟨⟨x0, x1, x2, x3, x4, x5, x6⟩, rfl, wf_i64 w0, wf_i64 w1, wf_i64 w2, wf_u64 w3, wf_u64 w4⟩
theorem dds_of {xs : List (List Value)} (h : ∀ r ∈ xs, Fit ddLeaf r) : ∃ l : List Dd, xs = l.map Dd.cells ∧ ∀ d ∈ l, d.wf := by
  induction xs with
  | nil => exact ⟨[], rfl, fun _ h => by cases h⟩
  | cons r xs ih =>
    obtain ⟨l, rfl, hl⟩ := ih (fun r hr => h r (by simp [hr]))
    obtain ⟨d, rfl, h1⟩ := dd_of (h r (by simp))
    exact ⟨d :: l, rfl, fun x hx => by
      rcases List.mem_cons.1 hx with rfl | hx
      · exact h1
      · exact hl x hx⟩
theorem dd_one (d : Dd) : ∀ v ∈ d.cells, v.oneCell' = true := by
  intro v hv
  simp only [Dd.cells, List.mem_cons, List.not_mem_nil, or_false] at hv
  rcases hv with rfl | rfl | rfl | rfl | rfl | rfl | rfl <;> rfl
/-! ### which are allowed -/
def rightB (d : Dd) : Bool := decide (0 ≤ d.t ∧ d.t ≤ 63 ∧ 0 ≤ d.k ∧ d.k ≤ 4 ∧ (d.wt = false ∨ (d.k ≤ 1 ∧ d.en = false)) ∧ (d.k ≠ 0 ∨ (d.w = 0 ∧ d.b = 0 ∧ d.a = 0)) ∧ (d.k = 0 ∨ (0 ≤ d.w ∧ d.w ≤ 65535)) ∧ (d.k ≠ 1 ∨ d.b = d.a))
theorem rightB_iff {d : Dd} : rightB d = true ↔ 0 ≤ d.t ∧ d.t ≤ 63 ∧ 0 ≤ d.k ∧ d.k ≤ 4 ∧ (d.wt = false ∨ (d.k ≤ 1 ∧ d.en = false)) ∧ (d.k ≠ 0 ∨ (d.w = 0 ∧ d.b = 0 ∧ d.a = 0)) ∧ (d.k = 0 ∨ (0 ≤ d.w ∧ d.w ≤ 65535)) ∧ (d.k ≠ 1 ∨ d.b = d.a) := by unfold rightB; exact decide_eq_true_iff
/-- the thread has ended -/
def enB (l : List Dd) (t : Int) : Bool := l.any fun d => decide (d.t = t) && d.en
theorem enB_snoc (l : List Dd) (d : Dd) (t : Int) : enB (l ++ [d]) t = (enB l t || (decide (d.t = t) && d.en)) := by simp [enB]
/-- all of the first k are right, each behind those before it -/
def goodB (l : List Dd) : Nat → Bool
  | 0 => true
  | k + 1 => goodB l k && match l[k]? with | some d => rightB d && !(enB (l.take k) d.t) | none => true
theorem goodB_succ (l : List Dd) (k : Nat) {d : Dd} (h : l[k]? = some d) : goodB l (k + 1) = (goodB l k && (rightB d && !(enB (l.take k) d.t))) := by
  show (goodB l k && match l[k]? with | some d => rightB d && !(enB (l.take k) d.t) | none => true) = _
  rw [h]
theorem goodB_mono (l : List Dd) (k : Nat) : ∀ n : Nat, k ≤ n → goodB l n = true → goodB l k = true
  | 0, h, hg => by obtain rfl : k = 0 := (by omega); exact hg
  | n + 1, h, hg => by
    by_cases e : k = n + 1
    · subst e; exact hg
    · have : goodB l n = true := by
        have h2 : (goodB l n && match l[n]? with | some d => rightB d && !(enB (l.take n) d.t) | none => true) = true := hg
        rw [Bool.and_eq_true] at h2
        exact h2.1
      exact goodB_mono l k n (by omega) this
def validB (l : List Dd) : Bool := goodB l l.length && decide (l.length ≤ 100000)
def wrongF (l : List Dd) : Int := if 100000 < l.length then 5 else if validB l = true then 0 else 2
def chB (d : Dd) (w : Int) : Bool := decide (d.k ≠ 0 ∧ d.w = w ∧ d.b ≠ d.a)
end Go.Proofs.Ytmbofohdjdipdaa
