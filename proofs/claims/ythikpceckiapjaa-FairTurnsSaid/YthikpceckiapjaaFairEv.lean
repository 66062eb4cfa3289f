/-
  Events as cells of memory.
-/
import Derived.Test.YthikpceckiapjaaFairPure
import Derived.Test.YthikpceckiapjaaRecs
namespace Go.Proofs.Ythikpceckiapjaa
open Go.RowKit

def Ev.cells (e : Ev) : List Value := [.int .i64 e.t, e.m1, e.m2, e.m3, e.m4, e.m5, e.m6, e.m7, e.m8, e.m9, e.m10, .int .i64 e.a, .int .i64 e.w]
def Ev.one (e : Ev) : Prop := e.m1.oneCell' = true ∧ e.m2.oneCell' = true ∧ e.m3.oneCell' = true ∧ e.m4.oneCell' = true ∧ e.m5.oneCell' = true ∧ e.m6.oneCell' = true ∧ e.m7.oneCell' = true ∧ e.m8.oneCell' = true ∧ e.m9.oneCell' = true ∧ e.m10.oneCell' = true
def i64B (x : Int) : Prop := -9223372036854775808 ≤ x ∧ x ≤ 9223372036854775807
def Ev.i64 (e : Ev) : Prop := i64B e.t ∧ i64B e.a ∧ i64B e.w
theorem Ev.cells_len (e : Ev) : e.cells.length = 13 := rfl
theorem Ev.all_one {e : Ev} (h : e.one) : ∀ v ∈ e.cells, v.oneCell' = true := by
  obtain ⟨h1, h2, h3, h4, h5, h6, h7, h8, h9, h10⟩ := h
  intro v hv
  simp only [Ev.cells, List.mem_cons, List.not_mem_nil, or_false] at hv
  rcases hv with rfl | rfl | rfl | rfl | rfl | rfl | rfl | rfl | rfl | rfl | rfl | rfl | rfl <;> first | assumption | rfl
def Ev.val (e : Ev) : Value := .agg e.cells.toArray
def evs (l : List Ev) : List Value := (l.map Ev.cells).flatten
theorem evs_len (l : List Ev) : (evs l).length = l.length * 13 := by
  unfold evs
  rw [flatten_len (n := 13) (by intro r hr; obtain ⟨e, _, rfl⟩ := List.mem_map.1 hr; rfl), List.length_map]
theorem evs_append (l r : List Ev) : evs (l ++ r) = evs l ++ evs r := by simp [evs]
theorem evs_one (e : Ev) : evs [e] = e.cells := by simp [evs]
theorem evs_at {l : List Ev} {i : Nat} {e : Ev} (h : l[i]? = some e) {j : Nat} (hj : j < 13) : (evs l)[i * 13 + j]? = e.cells[j]? :=
  flatten_at (n := 13) (r := e.cells) (i := i) (xs := l.map Ev.cells) (by intro r hr; obtain ⟨e, _, rfl⟩ := List.mem_map.1 hr; rfl) (by rw [List.getElem?_map, h]; rfl) hj
theorem rd_ev {G : Nat → Prop} {w : World} {A : Option Addr} {l : List Ev} (h : Rd G w A (evs l)) {i : Nat} {e : Ev} (hi : l[i]? = some e) : ∃ b o, A = some ⟨b, o, none⟩ ∧ G b ∧ b < w.heap.size ∧ w.rangeAt b (o + i * 13) e.cells := by
  have hl : i < l.length := (List.getElem?_eq_some_iff.1 hi).1
  obtain ⟨b, o, hA, hG, hb, hc⟩ := h (by intro e0; have := evs_len l; rw [e0] at this; simp only [List.length_nil] at this; omega)
  refine ⟨b, o, hA, hG, hb, fun j v hj => ?_⟩
  rw [Nat.add_assoc]
  have hj13 : j < 13 := by have := (List.getElem?_eq_some_iff.1 hj).1; rwa [Ev.cells_len] at this
  exact hc _ v ((evs_at hi hj13).trans hj)
def evLeaf : List Leaf := [.num .i64, .num .i64, .other, .other, .other, .other, .num .i64, .num .i64, .num .i64, .other, .other, .num .i64, .num .i64]
theorem wf_i64 {x : Int} (h : (Lit.int .i64 x).wf = true) : i64B x := by
  unfold i64B
  simp [Lit.wf, IntKind.min, IntKind.max, IntKind.signed, IntKind.bits] at h
  omega
theorem ev_of {r : List Value} (h : Fit evLeaf r) : ∃ e : Ev, r = e.cells ∧ e.one ∧ e.i64 := by
  obtain ⟨hl, hf⟩ := h
  match r, hl with
  | [v0, v1, v2, v3, v4, v5, v6, v7, v8, v9, v10, v11, v12], _ =>
    obtain ⟨x0, rfl, w0⟩ := hf 0 _ v0 rfl rfl
    obtain ⟨x1, rfl, w1⟩ := hf 1 _ v1 rfl rfl
    have h2 : v2.oneCell' = true := hf 2 _ v2 rfl rfl
    have h3 : v3.oneCell' = true := hf 3 _ v3 rfl rfl
    have h4 : v4.oneCell' = true := hf 4 _ v4 rfl rfl
    have h5 : v5.oneCell' = true := hf 5 _ v5 rfl rfl
    obtain ⟨x6, rfl, w6⟩ := hf 6 _ v6 rfl rfl
    obtain ⟨x7, rfl, w7⟩ := hf 7 _ v7 rfl rfl
    obtain ⟨x8, rfl, w8⟩ := hf 8 _ v8 rfl rfl
    have h9 : v9.oneCell' = true := hf 9 _ v9 rfl rfl
    have h10 : v10.oneCell' = true := hf 10 _ v10 rfl rfl
    obtain ⟨x11, rfl, w11⟩ := hf 11 _ v11 rfl rfl
    obtain ⟨x12, rfl, w12⟩ := hf 12 _ v12 rfl rfl
    exact ⟨⟨x0, x11, x12, .int .i64 x1, v2, v3, v4, v5, .int .i64 x6, .int .i64 x7, .int .i64 x8, v9, v10⟩, rfl, ⟨rfl, h2, h3, h4, h5, rfl, rfl, rfl, h9, h10⟩, wf_i64 w0, wf_i64 w11, wf_i64 w12⟩
theorem evs_of {xs : List (List Value)} (h : ∀ r ∈ xs, Fit evLeaf r) : ∃ l : List Ev, xs = l.map Ev.cells ∧ ∀ e ∈ l, e.one ∧ e.i64 := by
  induction xs with
  | nil => exact ⟨[], rfl, fun _ h => by cases h⟩
  | cons r xs ih =>
    obtain ⟨l, rfl, hl⟩ := ih (fun r hr => h r (by simp [hr]))
    obtain ⟨e, rfl, h1, h2⟩ := ev_of (h r (by simp))
    exact ⟨e :: l, rfl, fun x hx => by
      rcases List.mem_cons.1 hx with rfl | hx
      · exact ⟨h1, h2⟩
      · exact hl x hx⟩
end Go.Proofs.Ythikpceckiapjaa
