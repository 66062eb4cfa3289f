/-
  An append as one step of a region that draws its order, and a made slice of ninety.
-/
import Derived.Test.YtcnbjpbohhfmoaaDoorModes6
import Derived.Deep.RegionLaw
namespace Go.Proofs.YtcnbjpbohhfmoaaDoor
open Go.RowKit

theorem step_append_rd {P : Program} {w : World} {ops : Array Oper} {o : Oper} {a : Act} {K : Act → World → Prop} {Q : Exit → Act → World → Prop} {E : Prop} (hgd : o.guard = none) (s x : Operand) (t : TypeId)
    (ho : o.op = .call { callee := .builtin .append, args := #[s, x], argTypes := #[t, t] })
    (base : Nat) (e : TypeId) (i : TypeInfo) (z : Value) (size bytes : Nat) (ht : P.underlying t = some (.slice e)) (hi : P.info? e = some i) (hz : i.zero = some z)
    (hsize : i.size = size) (hby : i.bytes = bytes) (hzs : z.cells.size = size) (hsz : 0 < size)
    (v : Value) (n : Nat) (xs : List Value) (hs : a.eval s = v) (hown : w.ownsRow base e size v n xs) {G : Nat → Prop} (A : Option Addr) (m c : Nat) (news : List Value) (hx : a.eval x = .slice A m c) (hr : Rd G w A news) (hA : A = none → c = 0)
    (hl : news.length = m * size) (h1 : ∀ u ∈ news, u.oneCell' = true) (h63 : n + m ≤ maxLen) (hbytes : (n + m) * bytes ≤ 140737488355328) (hbase : base ≤ w.heap.size)
    (h : ∀ v' w', w'.ownsRow base e size v' (n + m) (xs ++ news) → Ch (fun k => v.ownBlock = some k) w w' → (v'.ownBlock = v.ownBlock ∨ v'.ownBlock = some w.heap.size) → K (a.put o.dst v') w') :
    if Region.wanted o (yielded ops a.tmps) = true then Oper.wp P o a w K Q else E := by
  have hw : Region.wanted o (yielded ops a.tmps) = true := by simp [Region.wanted, hgd]
  rw [if_pos hw]
  obtain ⟨v', w', hrun, h2, h3, h4⟩ := run_append_rd (P := P) w base t o.type e i z size bytes ht hi hz hsize hby hzs hsz v n xs hown A m c news hr hA hl h1 h63 hbytes hbase
  unfold Oper.wp
  simp [execOp, ho, resolve, invoke, builtin, hs, hx, hrun, Result.andThen]
  exact h v' w' h2 h3 h4
theorem madeCells_one (z : Value) (n : Nat) : madeCells #[z] n = (List.replicate n z).toArray := by
  apply Array.ext
  · simp [madeCells]
  · intro i h1 h2
    simp [madeCells, Nat.mod_one]
theorem own_lt {w : World} {base n k : Nat} {e : TypeId} {size : Nat} {v : Value} {xs : List Value} (h : w.ownsRow base e size v n xs) (hk : v.ownBlock = some k) : k < w.heap.size := by
  rcases h.2 with ⟨rfl, _⟩ | ⟨g, cap, cur, rfl, _, hh, _⟩
  · cases hk
  · injection hk with hk
    subst hk
    rcases Nat.lt_or_ge g w.heap.size with hl | hl
    · exact hl
    · rw [Array.getElem?_eq_none hl] at hh; cases hh
theorem make_90 (w : World) : (Instr.makeSlice 30 (.int .i64 0) (.int .i64 90)).run Tryd.prog w = .ok (.slice (some ⟨w.heap.size, 0, none⟩) 0 90) (w.alloc (.cells (List.replicate 90 (Value.int .i64 0)).toArray 22)) := by
  obtain ⟨i0, hi0, hz0, hz1, hz2⟩ := info_parts modeInfo
  have hr := run_make (P := Tryd.prog) w 30 22 i0 _ Tryd.underlying30 hi0 hz0 .i64 .i64 0 90 (by omega) (by omega) (by rw [hz2]; decide) (by omega)
  rw [hz1] at hr
  rw [show (Value.int .i64 0).cells = #[.int .i64 0] from rfl, madeCells_one] at hr
  exact hr
theorem own90 (w : World) (base : Nat) (hb : base ≤ w.heap.size) : (w.alloc (.cells (List.replicate 90 (Value.int .i64 0)).toArray 22)).ownsRow base 22 1 (.slice (some ⟨w.heap.size, 0, none⟩) 0 90) 0 [] :=
  ⟨rfl, .inr ⟨w.heap.size, 90, _, rfl, hb, heap_alloc_new w _, by omega, by unfold maxLen; omega, by simp, by simp⟩⟩
end Go.Proofs.YtcnbjpbohhfmoaaDoor
