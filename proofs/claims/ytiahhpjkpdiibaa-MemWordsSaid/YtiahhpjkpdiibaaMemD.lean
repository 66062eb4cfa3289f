/-
  Contracts of the law's makes over both kinds of arena: what it should return is what the access returns.
-/
import Derived.Test.YtiahhpjkpdiibaaMemB
namespace Go.Proofs.Ytiahhpjkpdiibaa
open Go.RowKit

theorem doWs_bf (ws : List Int) (k i bf af : Int) (hk : k = 1 ∨ k = 2 ∨ k = 4) : doWs ws k i bf af = doWs ws k i 0 af := by
  unfold doWs
  rcases hk with rfl | rfl | rfl <;> simp
theorem doWs_one (ws : List Int) (i bf af : Int) : doWs ws 1 i bf af = ws := by unfold doWs; rw [if_neg (by omega)]
theorem doA_bf (ws : List Int) (k i bf af : Int) (hk : k = 1 ∨ k = 2 ∨ k = 4) : doA ws k i bf af = doA ws k i 0 af := by
  unfold doA
  rw [doWs_bf ws k i bf af hk]
theorem doA_one (ws : List Int) (i bf af : Int) : doA ws 1 i bf af = doA ws 1 i 0 0 := by
  unfold doA
  rw [doWs_one, doWs_one]

set_option maxHeartbeats 1000000 in
theorem makes_ok (b g c : Nat) (ws : List Int) (k i bf af : Int) (w : World) (h : MemAt w b g c ws) (hk : k = 1 ∨ k = 2 ∨ k = 3 ∨ k = 4) (hx : 0 ≤ af ∧ af ≤ 18446744073709551615) :
    Calls Try.prog 14 #[memI b, acc4 k i bf af, acc4 (doK ws k i) (doI ws k i) (doB ws k i) (doA ws k i bf af), .int .i64 (doE ws k i)] w (MPost w b g c (doWs ws k i bf af) (.bool true)) := by
  rcases hk with rfl | rfl | rfl | rfl
  · have hl := fun W (hW : MemAt W b g c ws) => loads_any b g c ws i (doB ws 1 i) (doE ws 1 i) W hW
    simp only [beq_self_eq_true, Bool.and_self] at hl
    have HW := Lib.hid (doWs_one ws i bf af)
    generalize doK ws 1 i = K, doI ws 1 i = I, doA ws 1 i bf af = Z, doB ws 1 i = X, doE ws 1 i = E at hl ⊢
    go_enter Try.func14, Try.ntmps14
    go_wp2_with (go_at_call 18; refine (hl _ (h.below (by (repeat' (first | (with_reducible exact Below.refl _ _) | (with_reducible assumption) | (with_reducible refine Below.alloc ?_ ?_ _) | (with_reducible refine Below.drew ?_) | (with_reducible refine below_drewN ?_ _) | (with_reducible refine Below.setCell ?_ ?_ _) | (with_reducible refine Below.trans ?_ (Below.mono (by assumption) ?_)) | (first | go_size | (with_reducible exact Below.size (by assumption)) | (with_reducible exact Nat.le_trans (Below.size (by assumption)) (Below.size (by assumption))) | (refine Nat.le_trans (Below.size (by assumption)) ?_; go_size))))))).mono ?_; rintro e w1 ⟨rfl, hm, hc⟩)
    go_ret
    exact mpost HW.out.symm hm hc (by (repeat' (first | (with_reducible exact Below.refl _ _) | (with_reducible assumption) | (with_reducible refine Below.alloc ?_ ?_ _) | (with_reducible refine Below.drew ?_) | (with_reducible refine below_drewN ?_ _) | (with_reducible refine Below.setCell ?_ ?_ _) | (with_reducible refine Below.trans ?_ (Below.mono (by assumption) ?_)) | (first | go_size | (with_reducible exact Below.size (by assumption)) | (with_reducible exact Nat.le_trans (Below.size (by assumption)) (Below.size (by assumption))) | (refine Nat.le_trans (Below.size (by assumption)) ?_; go_size))))) (by (repeat' (first | (with_reducible exact Below.refl _ _) | (with_reducible assumption) | (with_reducible refine Below.alloc ?_ ?_ _) | (with_reducible refine Below.drew ?_) | (with_reducible refine below_drewN ?_ _) | (with_reducible refine Below.setCell ?_ ?_ _) | (with_reducible refine Below.trans ?_ (Below.mono (by assumption) ?_)) | (first | go_size | (with_reducible exact Below.size (by assumption)) | (with_reducible exact Nat.le_trans (Below.size (by assumption)) (Below.size (by assumption))) | (refine Nat.le_trans (Below.size (by assumption)) ?_; go_size)))))
  · have hl := fun W (hW : MemAt W b g c ws) => stores_any b g c ws i af (doE ws 2 i) W hW hx
    simp only [beq_self_eq_true] at hl
    have HW := Lib.hid (doWs_bf ws 2 i bf af (by omega))
    generalize doK ws 2 i = K, doI ws 2 i = I, doA ws 2 i bf af = Z, doB ws 2 i = X, doE ws 2 i = E at hl ⊢
    go_enter Try.func14, Try.ntmps14
    go_wp2_with (go_at_call 25; refine (hl _ (h.below (by (repeat' (first | (with_reducible exact Below.refl _ _) | (with_reducible assumption) | (with_reducible refine Below.alloc ?_ ?_ _) | (with_reducible refine Below.drew ?_) | (with_reducible refine below_drewN ?_ _) | (with_reducible refine Below.setCell ?_ ?_ _) | (with_reducible refine Below.trans ?_ (Below.mono (by assumption) ?_)) | (first | go_size | (with_reducible exact Below.size (by assumption)) | (with_reducible exact Nat.le_trans (Below.size (by assumption)) (Below.size (by assumption))) | (refine Nat.le_trans (Below.size (by assumption)) ?_; go_size))))))).mono ?_; rintro e w1 ⟨rfl, hm, hc⟩)
    go_ret
    exact mpost HW.out.symm hm hc (by (repeat' (first | (with_reducible exact Below.refl _ _) | (with_reducible assumption) | (with_reducible refine Below.alloc ?_ ?_ _) | (with_reducible refine Below.drew ?_) | (with_reducible refine below_drewN ?_ _) | (with_reducible refine Below.setCell ?_ ?_ _) | (with_reducible refine Below.trans ?_ (Below.mono (by assumption) ?_)) | (first | go_size | (with_reducible exact Below.size (by assumption)) | (with_reducible exact Nat.le_trans (Below.size (by assumption)) (Below.size (by assumption))) | (refine Nat.le_trans (Below.size (by assumption)) ?_; go_size))))) (by (repeat' (first | (with_reducible exact Below.refl _ _) | (with_reducible assumption) | (with_reducible refine Below.alloc ?_ ?_ _) | (with_reducible refine Below.drew ?_) | (with_reducible refine below_drewN ?_ _) | (with_reducible refine Below.setCell ?_ ?_ _) | (with_reducible refine Below.trans ?_ (Below.mono (by assumption) ?_)) | (first | go_size | (with_reducible exact Below.size (by assumption)) | (with_reducible exact Nat.le_trans (Below.size (by assumption)) (Below.size (by assumption))) | (refine Nat.le_trans (Below.size (by assumption)) ?_; go_size)))))
  · have hl := fun W (hW : MemAt W b g c ws) => compares_any b g c ws i bf af (doE ws 3 i == 0 && doB ws 3 i == bf) (doE ws 3 i) W hW hx
    simp only [beq_self_eq_true, Bool.and_self] at hl
    generalize doK ws 3 i = K, doI ws 3 i = I, doA ws 3 i bf af = Z, doB ws 3 i = X, doE ws 3 i = E at hl ⊢
    cases h1 : (E == 0) with
    | true =>
      rw [h1] at hl
      simp only [Bool.true_and] at hl
      have h2 : E = 0 := by simpa using h1
      subst h2
      clear h1
      go_enter Try.func14, Try.ntmps14
      go_wp2_with (go_at_call 30; refine (hl _ (h.below (by (repeat' (first | (with_reducible exact Below.refl _ _) | (with_reducible assumption) | (with_reducible refine Below.alloc ?_ ?_ _) | (with_reducible refine Below.drew ?_) | (with_reducible refine below_drewN ?_ _) | (with_reducible refine Below.setCell ?_ ?_ _) | (with_reducible refine Below.trans ?_ (Below.mono (by assumption) ?_)) | (first | go_size | (with_reducible exact Below.size (by assumption)) | (with_reducible exact Nat.le_trans (Below.size (by assumption)) (Below.size (by assumption))) | (refine Nat.le_trans (Below.size (by assumption)) ?_; go_size))))))).mono ?_; rintro e w1 ⟨rfl, hm, hc⟩)
      go_ret
      exact mpost rfl hm hc (by (repeat' (first | (with_reducible exact Below.refl _ _) | (with_reducible assumption) | (with_reducible refine Below.alloc ?_ ?_ _) | (with_reducible refine Below.drew ?_) | (with_reducible refine below_drewN ?_ _) | (with_reducible refine Below.setCell ?_ ?_ _) | (with_reducible refine Below.trans ?_ (Below.mono (by assumption) ?_)) | (first | go_size | (with_reducible exact Below.size (by assumption)) | (with_reducible exact Nat.le_trans (Below.size (by assumption)) (Below.size (by assumption))) | (refine Nat.le_trans (Below.size (by assumption)) ?_; go_size))))) (by (repeat' (first | (with_reducible exact Below.refl _ _) | (with_reducible assumption) | (with_reducible refine Below.alloc ?_ ?_ _) | (with_reducible refine Below.drew ?_) | (with_reducible refine below_drewN ?_ _) | (with_reducible refine Below.setCell ?_ ?_ _) | (with_reducible refine Below.trans ?_ (Below.mono (by assumption) ?_)) | (first | go_size | (with_reducible exact Below.size (by assumption)) | (with_reducible exact Nat.le_trans (Below.size (by assumption)) (Below.size (by assumption))) | (refine Nat.le_trans (Below.size (by assumption)) ?_; go_size)))))
    | false =>
      rw [h1] at hl
      simp only [Bool.false_and] at hl
      go_enter Try.func14, Try.ntmps14
      go_wp2_with (go_at_call 30; refine (hl _ (h.below (by (repeat' (first | (with_reducible exact Below.refl _ _) | (with_reducible assumption) | (with_reducible refine Below.alloc ?_ ?_ _) | (with_reducible refine Below.drew ?_) | (with_reducible refine below_drewN ?_ _) | (with_reducible refine Below.setCell ?_ ?_ _) | (with_reducible refine Below.trans ?_ (Below.mono (by assumption) ?_)) | (first | go_size | (with_reducible exact Below.size (by assumption)) | (with_reducible exact Nat.le_trans (Below.size (by assumption)) (Below.size (by assumption))) | (refine Nat.le_trans (Below.size (by assumption)) ?_; go_size))))))).mono ?_; rintro e w1 ⟨rfl, hm, hc⟩)
      go_ret
      exact mpost rfl hm hc (by (repeat' (first | (with_reducible exact Below.refl _ _) | (with_reducible assumption) | (with_reducible refine Below.alloc ?_ ?_ _) | (with_reducible refine Below.drew ?_) | (with_reducible refine below_drewN ?_ _) | (with_reducible refine Below.setCell ?_ ?_ _) | (with_reducible refine Below.trans ?_ (Below.mono (by assumption) ?_)) | (first | go_size | (with_reducible exact Below.size (by assumption)) | (with_reducible exact Nat.le_trans (Below.size (by assumption)) (Below.size (by assumption))) | (refine Nat.le_trans (Below.size (by assumption)) ?_; go_size))))) (by (repeat' (first | (with_reducible exact Below.refl _ _) | (with_reducible assumption) | (with_reducible refine Below.alloc ?_ ?_ _) | (with_reducible refine Below.drew ?_) | (with_reducible refine below_drewN ?_ _) | (with_reducible refine Below.setCell ?_ ?_ _) | (with_reducible refine Below.trans ?_ (Below.mono (by assumption) ?_)) | (first | go_size | (with_reducible exact Below.size (by assumption)) | (with_reducible exact Nat.le_trans (Below.size (by assumption)) (Below.size (by assumption))) | (refine Nat.le_trans (Below.size (by assumption)) ?_; go_size)))))
  · have hl := fun W (hW : MemAt W b g c ws) => swaps_any b g c ws i af (doB ws 4 i) (doE ws 4 i) W hW hx
    simp only [beq_self_eq_true, Bool.and_self] at hl
    have HW := Lib.hid (doWs_bf ws 4 i bf af (by omega))
    generalize doK ws 4 i = K, doI ws 4 i = I, doA ws 4 i bf af = Z, doB ws 4 i = X, doE ws 4 i = E at hl ⊢
    go_enter Try.func14, Try.ntmps14
    go_wp2_with (go_at_call 27; refine (hl _ (h.below (by (repeat' (first | (with_reducible exact Below.refl _ _) | (with_reducible assumption) | (with_reducible refine Below.alloc ?_ ?_ _) | (with_reducible refine Below.drew ?_) | (with_reducible refine below_drewN ?_ _) | (with_reducible refine Below.setCell ?_ ?_ _) | (with_reducible refine Below.trans ?_ (Below.mono (by assumption) ?_)) | (first | go_size | (with_reducible exact Below.size (by assumption)) | (with_reducible exact Nat.le_trans (Below.size (by assumption)) (Below.size (by assumption))) | (refine Nat.le_trans (Below.size (by assumption)) ?_; go_size))))))).mono ?_; rintro e w1 ⟨rfl, hm, hc⟩)
    go_ret
    exact mpost HW.out.symm hm hc (by (repeat' (first | (with_reducible exact Below.refl _ _) | (with_reducible assumption) | (with_reducible refine Below.alloc ?_ ?_ _) | (with_reducible refine Below.drew ?_) | (with_reducible refine below_drewN ?_ _) | (with_reducible refine Below.setCell ?_ ?_ _) | (with_reducible refine Below.trans ?_ (Below.mono (by assumption) ?_)) | (first | go_size | (with_reducible exact Below.size (by assumption)) | (with_reducible exact Nat.le_trans (Below.size (by assumption)) (Below.size (by assumption))) | (refine Nat.le_trans (Below.size (by assumption)) ?_; go_size))))) (by (repeat' (first | (with_reducible exact Below.refl _ _) | (with_reducible assumption) | (with_reducible refine Below.alloc ?_ ?_ _) | (with_reducible refine Below.drew ?_) | (with_reducible refine below_drewN ?_ _) | (with_reducible refine Below.setCell ?_ ?_ _) | (with_reducible refine Below.trans ?_ (Below.mono (by assumption) ?_)) | (first | go_size | (with_reducible exact Below.size (by assumption)) | (with_reducible exact Nat.le_trans (Below.size (by assumption)) (Below.size (by assumption))) | (refine Nat.le_trans (Below.size (by assumption)) ?_; go_size)))))

theorem oWs_bf (ws : List Int) (n : Note) (k i bf af : Int) (hk : k = 1 ∨ k = 2 ∨ k = 4) : oWs ws n k i bf af = oWs ws n k i 0 af := by
  unfold oWs
  rw [doWs_bf ws k i bf af hk]
theorem oN_bf (ws : List Int) (n : Note) (k i bf af : Int) (hk : k = 1 ∨ k = 2 ∨ k = 4) : oN ws n k i bf af = oN ws n k i 0 af := by
  unfold oN
  rw [doA_bf ws k i bf af hk]
theorem oWs_one (ws : List Int) (n : Note) (i bf af : Int) : oWs ws n 1 i bf af = oWs ws n 1 i 0 0 := by
  unfold oWs
  rw [doWs_one, doWs_one]
theorem oN_one (ws : List Int) (n : Note) (i bf af : Int) : oN ws n 1 i bf af = oN ws n 1 i 0 0 := by
  unfold oN
  rw [doA_one]

set_option maxHeartbeats 1000000 in
theorem omakes_ok (o b g c : Nat) (ws : List Int) (n : Note) (k i bf af : Int) (w : World) (h : OnAt w o b g c ws n) (hk : k = 1 ∨ k = 2 ∨ k = 3 ∨ k = 4) (hx : 0 ≤ af ∧ af ≤ 18446744073709551615) :
    Calls Try.prog 14 #[onceI o, acc4 k i bf af, acc4 (oK ws n k i) (oI ws n k i) (oB ws n k i) (oA ws n k i bf af), .int .i64 (oE ws n k i)] w (OPost w o b g c (oWs ws n k i bf af) (oN ws n k i bf af) (.bool true)) := by
  rcases hk with rfl | rfl | rfl | rfl
  · have hl := fun W (hW : OnAt W o b g c ws n) => oloads_any o b g c ws n i (oB ws n 1 i) (oE ws n 1 i) W hW
    simp only [beq_self_eq_true, Bool.and_self] at hl
    have HW := Lib.hid (oWs_one ws n i bf af)
    have HN := Lib.hid (oN_one ws n i bf af)
    generalize oK ws n 1 i = K, oI ws n 1 i = I, oA ws n 1 i bf af = Z, oB ws n 1 i = X, oE ws n 1 i = E at hl ⊢
    go_enter Try.func14, Try.ntmps14
    go_wp2_with (go_at_call 18; refine (hl _ (h.below (by (repeat' (first | (with_reducible exact Below.refl _ _) | (with_reducible assumption) | (with_reducible refine Below.alloc ?_ ?_ _) | (with_reducible refine Below.drew ?_) | (with_reducible refine below_drewN ?_ _) | (with_reducible refine Below.setCell ?_ ?_ _) | (with_reducible refine Below.trans ?_ (Below.mono (by assumption) ?_)) | (first | go_size | (with_reducible exact Below.size (by assumption)) | (with_reducible exact Nat.le_trans (Below.size (by assumption)) (Below.size (by assumption))) | (refine Nat.le_trans (Below.size (by assumption)) ?_; go_size))))))).mono ?_; rintro e w1 ⟨rfl, hm, hc⟩)
    go_ret
    exact opost HW.out.symm HN.out.symm hm hc (by (repeat' (first | (with_reducible exact Below.refl _ _) | (with_reducible assumption) | (with_reducible refine Below.alloc ?_ ?_ _) | (with_reducible refine Below.drew ?_) | (with_reducible refine below_drewN ?_ _) | (with_reducible refine Below.setCell ?_ ?_ _) | (with_reducible refine Below.trans ?_ (Below.mono (by assumption) ?_)) | (first | go_size | (with_reducible exact Below.size (by assumption)) | (with_reducible exact Nat.le_trans (Below.size (by assumption)) (Below.size (by assumption))) | (refine Nat.le_trans (Below.size (by assumption)) ?_; go_size))))) (by (repeat' (first | (with_reducible exact Below.refl _ _) | (with_reducible assumption) | (with_reducible refine Below.alloc ?_ ?_ _) | (with_reducible refine Below.drew ?_) | (with_reducible refine below_drewN ?_ _) | (with_reducible refine Below.setCell ?_ ?_ _) | (with_reducible refine Below.trans ?_ (Below.mono (by assumption) ?_)) | (first | go_size | (with_reducible exact Below.size (by assumption)) | (with_reducible exact Nat.le_trans (Below.size (by assumption)) (Below.size (by assumption))) | (refine Nat.le_trans (Below.size (by assumption)) ?_; go_size)))))
  · have hl := fun W (hW : OnAt W o b g c ws n) => ostores_any o b g c ws n i af (oE ws n 2 i) W hW hx
    simp only [beq_self_eq_true] at hl
    have HW := Lib.hid (oWs_bf ws n 2 i bf af (by omega))
    have HN := Lib.hid (oN_bf ws n 2 i bf af (by omega))
    generalize oK ws n 2 i = K, oI ws n 2 i = I, oA ws n 2 i bf af = Z, oB ws n 2 i = X, oE ws n 2 i = E at hl ⊢
    go_enter Try.func14, Try.ntmps14
    go_wp2_with (go_at_call 25; refine (hl _ (h.below (by (repeat' (first | (with_reducible exact Below.refl _ _) | (with_reducible assumption) | (with_reducible refine Below.alloc ?_ ?_ _) | (with_reducible refine Below.drew ?_) | (with_reducible refine below_drewN ?_ _) | (with_reducible refine Below.setCell ?_ ?_ _) | (with_reducible refine Below.trans ?_ (Below.mono (by assumption) ?_)) | (first | go_size | (with_reducible exact Below.size (by assumption)) | (with_reducible exact Nat.le_trans (Below.size (by assumption)) (Below.size (by assumption))) | (refine Nat.le_trans (Below.size (by assumption)) ?_; go_size))))))).mono ?_; rintro e w1 ⟨rfl, hm, hc⟩)
    go_ret
    exact opost HW.out.symm HN.out.symm hm hc (by (repeat' (first | (with_reducible exact Below.refl _ _) | (with_reducible assumption) | (with_reducible refine Below.alloc ?_ ?_ _) | (with_reducible refine Below.drew ?_) | (with_reducible refine below_drewN ?_ _) | (with_reducible refine Below.setCell ?_ ?_ _) | (with_reducible refine Below.trans ?_ (Below.mono (by assumption) ?_)) | (first | go_size | (with_reducible exact Below.size (by assumption)) | (with_reducible exact Nat.le_trans (Below.size (by assumption)) (Below.size (by assumption))) | (refine Nat.le_trans (Below.size (by assumption)) ?_; go_size))))) (by (repeat' (first | (with_reducible exact Below.refl _ _) | (with_reducible assumption) | (with_reducible refine Below.alloc ?_ ?_ _) | (with_reducible refine Below.drew ?_) | (with_reducible refine below_drewN ?_ _) | (with_reducible refine Below.setCell ?_ ?_ _) | (with_reducible refine Below.trans ?_ (Below.mono (by assumption) ?_)) | (first | go_size | (with_reducible exact Below.size (by assumption)) | (with_reducible exact Nat.le_trans (Below.size (by assumption)) (Below.size (by assumption))) | (refine Nat.le_trans (Below.size (by assumption)) ?_; go_size)))))
  · have hl := fun W (hW : OnAt W o b g c ws n) => ocompares_any o b g c ws n i bf af (oE ws n 3 i == 0 && oB ws n 3 i == bf) (oE ws n 3 i) W hW hx
    simp only [beq_self_eq_true, Bool.and_self] at hl
    generalize oK ws n 3 i = K, oI ws n 3 i = I, oA ws n 3 i bf af = Z, oB ws n 3 i = X, oE ws n 3 i = E at hl ⊢
    cases h1 : (E == 0) with
    | true =>
      rw [h1] at hl
      simp only [Bool.true_and] at hl
      have h2 : E = 0 := by simpa using h1
      subst h2
      clear h1
      go_enter Try.func14, Try.ntmps14
      go_wp2_with (go_at_call 30; refine (hl _ (h.below (by (repeat' (first | (with_reducible exact Below.refl _ _) | (with_reducible assumption) | (with_reducible refine Below.alloc ?_ ?_ _) | (with_reducible refine Below.drew ?_) | (with_reducible refine below_drewN ?_ _) | (with_reducible refine Below.setCell ?_ ?_ _) | (with_reducible refine Below.trans ?_ (Below.mono (by assumption) ?_)) | (first | go_size | (with_reducible exact Below.size (by assumption)) | (with_reducible exact Nat.le_trans (Below.size (by assumption)) (Below.size (by assumption))) | (refine Nat.le_trans (Below.size (by assumption)) ?_; go_size))))))).mono ?_; rintro e w1 ⟨rfl, hm, hc⟩)
      go_ret
      exact opost rfl rfl hm hc (by (repeat' (first | (with_reducible exact Below.refl _ _) | (with_reducible assumption) | (with_reducible refine Below.alloc ?_ ?_ _) | (with_reducible refine Below.drew ?_) | (with_reducible refine below_drewN ?_ _) | (with_reducible refine Below.setCell ?_ ?_ _) | (with_reducible refine Below.trans ?_ (Below.mono (by assumption) ?_)) | (first | go_size | (with_reducible exact Below.size (by assumption)) | (with_reducible exact Nat.le_trans (Below.size (by assumption)) (Below.size (by assumption))) | (refine Nat.le_trans (Below.size (by assumption)) ?_; go_size))))) (by (repeat' (first | (with_reducible exact Below.refl _ _) | (with_reducible assumption) | (with_reducible refine Below.alloc ?_ ?_ _) | (with_reducible refine Below.drew ?_) | (with_reducible refine below_drewN ?_ _) | (with_reducible refine Below.setCell ?_ ?_ _) | (with_reducible refine Below.trans ?_ (Below.mono (by assumption) ?_)) | (first | go_size | (with_reducible exact Below.size (by assumption)) | (with_reducible exact Nat.le_trans (Below.size (by assumption)) (Below.size (by assumption))) | (refine Nat.le_trans (Below.size (by assumption)) ?_; go_size)))))
    | false =>
      rw [h1] at hl
      simp only [Bool.false_and] at hl
      go_enter Try.func14, Try.ntmps14
      go_wp2_with (go_at_call 30; refine (hl _ (h.below (by (repeat' (first | (with_reducible exact Below.refl _ _) | (with_reducible assumption) | (with_reducible refine Below.alloc ?_ ?_ _) | (with_reducible refine Below.drew ?_) | (with_reducible refine below_drewN ?_ _) | (with_reducible refine Below.setCell ?_ ?_ _) | (with_reducible refine Below.trans ?_ (Below.mono (by assumption) ?_)) | (first | go_size | (with_reducible exact Below.size (by assumption)) | (with_reducible exact Nat.le_trans (Below.size (by assumption)) (Below.size (by assumption))) | (refine Nat.le_trans (Below.size (by assumption)) ?_; go_size))))))).mono ?_; rintro e w1 ⟨rfl, hm, hc⟩)
      go_ret
      exact opost rfl rfl hm hc (by (repeat' (first | (with_reducible exact Below.refl _ _) | (with_reducible assumption) | (with_reducible refine Below.alloc ?_ ?_ _) | (with_reducible refine Below.drew ?_) | (with_reducible refine below_drewN ?_ _) | (with_reducible refine Below.setCell ?_ ?_ _) | (with_reducible refine Below.trans ?_ (Below.mono (by assumption) ?_)) | (first | go_size | (with_reducible exact Below.size (by assumption)) | (with_reducible exact Nat.le_trans (Below.size (by assumption)) (Below.size (by assumption))) | (refine Nat.le_trans (Below.size (by assumption)) ?_; go_size))))) (by (repeat' (first | (with_reducible exact Below.refl _ _) | (with_reducible assumption) | (with_reducible refine Below.alloc ?_ ?_ _) | (with_reducible refine Below.drew ?_) | (with_reducible refine below_drewN ?_ _) | (with_reducible refine Below.setCell ?_ ?_ _) | (with_reducible refine Below.trans ?_ (Below.mono (by assumption) ?_)) | (first | go_size | (with_reducible exact Below.size (by assumption)) | (with_reducible exact Nat.le_trans (Below.size (by assumption)) (Below.size (by assumption))) | (refine Nat.le_trans (Below.size (by assumption)) ?_; go_size)))))
  · have hl := fun W (hW : OnAt W o b g c ws n) => oswaps_any o b g c ws n i af (oB ws n 4 i) (oE ws n 4 i) W hW hx
    simp only [beq_self_eq_true, Bool.and_self] at hl
    have HW := Lib.hid (oWs_bf ws n 4 i bf af (by omega))
    have HN := Lib.hid (oN_bf ws n 4 i bf af (by omega))
    generalize oK ws n 4 i = K, oI ws n 4 i = I, oA ws n 4 i bf af = Z, oB ws n 4 i = X, oE ws n 4 i = E at hl ⊢
    go_enter Try.func14, Try.ntmps14
    go_wp2_with (go_at_call 27; refine (hl _ (h.below (by (repeat' (first | (with_reducible exact Below.refl _ _) | (with_reducible assumption) | (with_reducible refine Below.alloc ?_ ?_ _) | (with_reducible refine Below.drew ?_) | (with_reducible refine below_drewN ?_ _) | (with_reducible refine Below.setCell ?_ ?_ _) | (with_reducible refine Below.trans ?_ (Below.mono (by assumption) ?_)) | (first | go_size | (with_reducible exact Below.size (by assumption)) | (with_reducible exact Nat.le_trans (Below.size (by assumption)) (Below.size (by assumption))) | (refine Nat.le_trans (Below.size (by assumption)) ?_; go_size))))))).mono ?_; rintro e w1 ⟨rfl, hm, hc⟩)
    go_ret
    exact opost HW.out.symm HN.out.symm hm hc (by (repeat' (first | (with_reducible exact Below.refl _ _) | (with_reducible assumption) | (with_reducible refine Below.alloc ?_ ?_ _) | (with_reducible refine Below.drew ?_) | (with_reducible refine below_drewN ?_ _) | (with_reducible refine Below.setCell ?_ ?_ _) | (with_reducible refine Below.trans ?_ (Below.mono (by assumption) ?_)) | (first | go_size | (with_reducible exact Below.size (by assumption)) | (with_reducible exact Nat.le_trans (Below.size (by assumption)) (Below.size (by assumption))) | (refine Nat.le_trans (Below.size (by assumption)) ?_; go_size))))) (by (repeat' (first | (with_reducible exact Below.refl _ _) | (with_reducible assumption) | (with_reducible refine Below.alloc ?_ ?_ _) | (with_reducible refine Below.drew ?_) | (with_reducible refine below_drewN ?_ _) | (with_reducible refine Below.setCell ?_ ?_ _) | (with_reducible refine Below.trans ?_ (Below.mono (by assumption) ?_)) | (first | go_size | (with_reducible exact Below.size (by assumption)) | (with_reducible exact Nat.le_trans (Below.size (by assumption)) (Below.size (by assumption))) | (refine Nat.le_trans (Below.size (by assumption)) ?_; go_size)))))
end Go.Proofs.Ytiahhpjkpdiibaa
