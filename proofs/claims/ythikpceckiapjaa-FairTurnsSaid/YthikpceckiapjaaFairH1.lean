/-
  Contracts of package stats as layer 51 uses it: bits.Len, Bucket, empty, Count, Sum, Buckets.
-/
import Derived.Test.YthikpceckiapjaaFair4
import Derived.Test.YthikpceckiapjaaDrawnD
import Derived.Lib.Tables
import Derived.ChangeKeysEq
namespace Go.Proofs.Ythikpceckiapjaa
open Go.RowKit

/-- a row of numbers -/
def tab (n : Nat) (f : Nat → Int) : List Value := (List.range n).map fun i => Value.int .i64 (f i)
theorem tab_len (n : Nat) (f : Nat → Int) : (tab n f).length = n := by simp [tab]
theorem tab_get {n : Nat} (f : Nat → Int) {i : Nat} (h : i < n) : (tab n f)[i]? = some (.int .i64 (f i)) := by
  unfold tab
  rw [List.getElem?_map, List.getElem?_range h, Option.map_some]
theorem tab_congr {n : Nat} {f g : Nat → Int} (h : ∀ i, i < n → f i = g i) : tab n f = tab n g := by
  unfold tab
  exact List.map_congr_left fun i hi => by rw [h i (List.mem_range.1 hi)]
theorem tab_set {n : Nat} (f : Nat → Int) (k : Nat) (v : Int) : (tab n f).set k (.int .i64 v) = tab n (fun i => if i = k then v else f i) := by
  apply List.ext_getElem?
  intro i
  by_cases hi : i < n
  · rw [List.getElem?_set, tab_len, tab_get _ hi, tab_get _ hi]
    by_cases e : k = i
    · subst e; rw [if_pos rfl, if_pos hi, if_pos rfl]
    · rw [if_neg e, if_neg (fun h => e h.symm)]
  · rw [List.getElem?_eq_none (by rw [List.length_set, tab_len]; omega), List.getElem?_eq_none (by rw [tab_len]; omega)]
theorem tab_one {n : Nat} (f : Nat → Int) : ∀ v ∈ tab n f, v.oneCell' = true := fun v hv => by
  obtain ⟨i, _, rfl⟩ := List.mem_map.1 hv
  rfl
/-! ### arrays of numbers that are compared -/
theorem eqItems_ints {P : Program} {e : TypeId} {k : IntKind} (d : Nat) (he : P.underlying e = some (.int k)) (n : Nat) (f g : Nat → Int) (w : World) (hp : ∀ (cs : Array Value) (i : Nat) (v : Value), cs[i]? = some v → (part e cs (i * 1)).run P w = .ok v w)
    (xs ys : Array Value) (hx : ∀ i, i < n → xs[i]? = some (.int k (f i))) (hy : ∀ i, i < n → ys[i]? = some (.int k (g i))) :
    ∀ is : List Nat, (∀ i ∈ is, i < n) → (Op.eqItems (d + 1) e 1 xs ys is).run P w = .ok (is.all fun i => f i == g i) w
  | [], _ => by simp [Op.eqItems]
  | i :: is, h => by
    have hi := h i (by simp)
    simp only [Op.eqItems, Sem.run_bind, hp xs i _ (hx i hi), hp ys i _ (hy i hi), Result.andThen_ok, run_equalIn_int w d e k k _ _ he, List.all_cons]
    cases hc : f i == g i
    · simp
    · simpa using eqItems_ints d he n f g w hp xs ys hx hy is (fun j hj => h j (by simp [hj]))
theorem part_int (cs : Array Value) (i : Nat) (v : Value) (h : cs[i]? = some v) (w : World) : (part 3 cs (i * 1)).run Try.prog w = .ok v w := by
  have ha : (isAgg 3).run Try.prog w = .ok false w := by
    unfold isAgg
    rw [Sem.run_bind, run_underlying Try.underlying3 w]
    rfl
  rw [Nat.mul_one]
  simp [part, Sem.run_bind, ha, h]
theorem cells_int : Try.prog.cellsOf 3 = 1 := by kernel_rfl
def sameB (f g : Nat → Int) : Bool := (List.range 42).all fun i => f i == g i
def emptyB (h : Nat → Int) : Bool := (List.range 42).all fun i => h i == 0
theorem eq_tab (f g : Nat → Int) (w : World) : (Op.equalIn 10000 51 (.agg (tab 42 f).toArray) (.agg (tab 42 g).toArray)).run Try.prog w = .ok (sameB f g) w := by
  unfold sameB
  obtain ⟨i, hi⟩ : ∃ i, Try.prog.info? 3 = some i := ⟨_, (info_parts (show (Try.prog.info? 3).map (fun i => (i.zero, i.size, i.bytes)) = some (some (.int .i64 0), 1, 8) by kernel_rfl)).choose_spec.1⟩
  rw [show (10000 : Nat) = 9999 + 1 from rfl, run_equalIn_array w 9999 _ _ Try.underlying51 hi, cells_int, show (9999 : Nat) = 9998 + 1 from rfl,
    eqItems_ints 9998 Try.underlying3 42 f g w (fun cs i v h => part_int cs i v h w) _ _ (fun i hi => by rw [List.getElem?_toArray]; exact tab_get f hi) (fun i hi => by rw [List.getElem?_toArray]; exact tab_get g hi) _ (fun i hi => List.mem_range.1 hi)]
theorem tab_zero : (tab 42 (fun _ => 0)).toArray = #[.int .i64 0, .int .i64 0, .int .i64 0, .int .i64 0, .int .i64 0, .int .i64 0, .int .i64 0, .int .i64 0, .int .i64 0, .int .i64 0, .int .i64 0, .int .i64 0, .int .i64 0, .int .i64 0, .int .i64 0, .int .i64 0, .int .i64 0, .int .i64 0, .int .i64 0, .int .i64 0, .int .i64 0, .int .i64 0, .int .i64 0, .int .i64 0, .int .i64 0, .int .i64 0, .int .i64 0, .int .i64 0, .int .i64 0, .int .i64 0, .int .i64 0, .int .i64 0, .int .i64 0, .int .i64 0, .int .i64 0, .int .i64 0, .int .i64 0, .int .i64 0, .int .i64 0, .int .i64 0, .int .i64 0, .int .i64 0] := by kernel_rfl
theorem eq_zero (f : Nat → Int) (w : World) : (Op.equalIn 10000 51 (.agg (tab 42 f).toArray) (.agg #[.int .i64 0, .int .i64 0, .int .i64 0, .int .i64 0, .int .i64 0, .int .i64 0, .int .i64 0, .int .i64 0, .int .i64 0, .int .i64 0, .int .i64 0, .int .i64 0, .int .i64 0, .int .i64 0, .int .i64 0, .int .i64 0, .int .i64 0, .int .i64 0, .int .i64 0, .int .i64 0, .int .i64 0, .int .i64 0, .int .i64 0, .int .i64 0, .int .i64 0, .int .i64 0, .int .i64 0, .int .i64 0, .int .i64 0, .int .i64 0, .int .i64 0, .int .i64 0, .int .i64 0, .int .i64 0, .int .i64 0, .int .i64 0, .int .i64 0, .int .i64 0, .int .i64 0, .int .i64 0, .int .i64 0, .int .i64 0])).run Try.prog w = .ok (emptyB f) w := by
  rw [← tab_zero]; exact eq_tab f _ w
theorem index_tab (f : Nat → Int) {i : Nat} (hi : i < 42) (w : World) : (Instr.index 51 (.agg (tab 42 f).toArray) (.int .i64 (i : Int))).run Try.prog w = .ok (.int .i64 (f i)) w := by
  have hs : (sizeOf 3).run Try.prog w = .ok 1 w := sizeOf_run (by kernel_rfl) w
  unfold Instr.index
  simp only [asIntOf, Sem.run_bind, Sem.run_pure, Result.andThen_ok, run_underlying Try.underlying51 w]
  rw [if_pos (by omega)]
  simp only [Sem.run_bind, hs, Result.andThen_ok, Int.toNat_natCast]
  exact part_int _ i _ (by rw [List.getElem?_toArray]; exact tab_get f hi) w
end Go.Proofs.Ythikpceckiapjaa
