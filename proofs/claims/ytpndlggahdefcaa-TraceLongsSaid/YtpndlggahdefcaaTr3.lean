/-
  A trace on words: which things fit, and the words after them.
-/
import Derived.Test.YtpndlggahdefcaaMem5
import Derived.Test.YtpndlggahdefcaaTr2
namespace Go.Proofs.Ytpndlggahdefcaa
open Go.RowKit

def cur (xs : List Int) (k : Nat) : List Int := xs.take k ++ List.replicate (xs.length - k) 0
theorem cur_len (xs : List Int) (k : Nat) (h : k ≤ xs.length) : (cur xs k).length = xs.length := by simp [cur]; omega
theorem cur_all (xs : List Int) : cur xs xs.length = xs := by simp [cur]
theorem cur_zero (xs : List Int) : cur xs 0 = List.replicate xs.length 0 := by simp [cur]
theorem cur_set (xs : List Int) (k : Nat) (h : k < xs.length) : (cur xs k).set k (xs.getD k 0) = cur xs (k + 1) := by
  unfold cur
  obtain ⟨m, hm⟩ : ∃ m, xs.length - k = m + 1 := ⟨xs.length - k - 1, by omega⟩
  have : k - (xs.take k).length = 0 := by simp; omega
  rw [hm, show xs.length - (k + 1) = m by omega, List.replicate_succ, List.set_append_right _ _ (by simp; omega), List.take_succ_eq_append_getElem h, this, List.set_cons_zero, List.append_assoc, List.singleton_append,
    show xs.getD k 0 = xs[k] by simp [List.getD, List.getElem?_eq_getElem h]]
theorem cur_same (xs : List Int) (k : Nat) (h : k < xs.length) (h0 : xs.getD k 0 = 0) : cur xs k = cur xs (k + 1) := by
  rw [← cur_set xs k h, h0]
  apply List.ext_getElem
  · simp
  · intro i h1 h2
    rw [List.getElem_set]
    split
    · subst_vars
      simp [cur, List.getElem_append]
      omega
    · rfl
theorem doWs_store (ws : List Int) (k : Nat) (x : Int) (h : k < ws.length) : doWs ws 2 k 0 x = ws.set k x := by
  unfold doWs
  rw [if_pos ⟨by omega, by omega, by omega, by omega, .inl rfl⟩]
  rfl
theorem doE_in (ws : List Int) (a : Int) (k : Nat) (ha : 1 ≤ a ∧ a ≤ 4) (h : k < ws.length) : doE ws a k = 0 := by
  unfold doE
  rw [if_neg (by omega), if_neg (by omega)]

/-! ### a thing done on words -/
def stW (ws : List Int) (d : Dd) : List Int := if d.k = 0 then ws else ws.set d.w.toNat d.a
def stF (ws : List Int) (d : Dd) : Bool := decide (d.k = 0 ∨ (0 ≤ d.w ∧ d.w < ws.length ∧ ws.getD d.w.toNat 0 = d.b))
def rpW (ws : List Int) (l : List Dd) : List Int := l.foldl stW ws
theorem stW_len (ws : List Int) (d : Dd) : (stW ws d).length = ws.length := by unfold stW; split <;> simp
theorem rpW_len (ws : List Int) (l : List Dd) : (rpW ws l).length = ws.length := by
  induction l generalizing ws with
  | nil => rfl
  | cons d l ih => exact (ih (stW ws d)).trans (stW_len ws d)
theorem rpW_snoc (ws : List Int) (l : List Dd) (d : Dd) : rpW ws (l ++ [d]) = stW (rpW ws l) d := by simp [rpW]
/-- the first k fit -/
def fitB (ws : List Int) (l : List Dd) : Nat → Bool
  | 0 => true
  | k + 1 => fitB ws l k && match l[k]? with | some d => stF (rpW ws (l.take k)) d | none => true
theorem fitB_succ (ws : List Int) (l : List Dd) (k : Nat) {d : Dd} (h : l[k]? = some d) : fitB ws l (k + 1) = (fitB ws l k && stF (rpW ws (l.take k)) d) := by
  show (fitB ws l k && match l[k]? with | some d => stF (rpW ws (l.take k)) d | none => true) = _
  rw [h]
def RpPost (w : World) (ws : List Int) (l : List Dd) (e : Ending) (w' : World) : Prop :=
  Below w.heap.size w w' ∧
  ((wrongF l ≠ 0 ∧ e = .returned (.tuple #[.pointer none, .int .i64 0, .int .i64 (wrongF l)])) ∨
   (wrongF l = 0 ∧ (ws.length < 1 ∨ 65536 < ws.length) ∧ e = .returned (.tuple #[.pointer none, .int .i64 0, .int .i64 2])) ∨
   (wrongF l = 0 ∧ 1 ≤ ws.length ∧ ws.length ≤ 65536 ∧ ∃ b g W', MemAt w' b g ws.length W' ∧ w.heap.size ≤ b ∧ w.heap.size ≤ g ∧
     ((∃ k : Nat, k < l.length ∧ fitB ws l k = true ∧ fitB ws l (k + 1) = false ∧ W' = rpW ws (l.take k) ∧ e = .returned (.tuple #[.pointer (some ⟨b, 0, none⟩), .int .i64 k, .int .i64 0])) ∨
      (fitB ws l l.length = true ∧ W' = rpW ws l ∧ e = .returned (.tuple #[.pointer (some ⟨b, 0, none⟩), .int .i64 (-1), .int .i64 0])))))
end Go.Proofs.Ytpndlggahdefcaa
