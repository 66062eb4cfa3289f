/-
  Plain facts of accesses within an arena, and the steps of a program that is alone.
-/
import Derived.Test.YtmlhdcpahfgckaaMcsA
namespace Go.Proofs.Ytmlhdcpahfgckaa
open Go.RowKit

section
variable (ws : List Int) (a i bf x : Int)
theorem doE_ok (h0 : 0 ≤ i) (h1 : i < ws.length) (ha : 1 ≤ a ∧ a ≤ 4) : doE ws a i = 0 := by unfold doE; rw [if_neg (by omega), if_neg (by omega)]
theorem doB_ok (h0 : 0 ≤ i) (h1 : i < ws.length) (ha : 1 ≤ a ∧ a ≤ 4) : doB ws a i = ws.getD i.toNat 0 := by unfold doB; rw [if_pos (doE_ok ws a i h0 h1 ha)]
theorem doWs_put (h0 : 0 ≤ i) (h1 : i < ws.length) (ha : a = 2 ∨ a = 4) : doWs ws a i bf x = ws.set i.toNat x := by unfold doWs; rw [if_pos ⟨by omega, by omega, h0, h1, by omega⟩]
theorem doWs_cas (h0 : 0 ≤ i) (h1 : i < ws.length) (hb : ws.getD i.toNat 0 = bf) : doWs ws 3 i bf x = ws.set i.toNat x := by unfold doWs; rw [if_pos ⟨by omega, by omega, h0, h1, .inr (.inr ⟨rfl, hb⟩)⟩]
theorem doWs_not (hb : ws.getD i.toNat 0 ≠ bf) : doWs ws 3 i bf x = ws := by
  unfold doWs; rw [if_neg]; rintro ⟨_, _, _, _, h | h | h⟩ <;> first | omega | exact hb h.2
end
theorem stp_A (B t : Int) (x : Rn) (ws : List Int) : stp false B t x ws = stpA B t x ws := rfl
theorem stp_R (B t : Int) (x : Rn) (ws : List Int) : stp true B t x ws = stpR B t x ws := rfl
theorem getD_set_ne (ws : List Int) {i j : Nat} (x : Int) (h : i ≠ j) : (ws.set i x).getD j 0 = ws.getD j 0 := by
  rw [List.getD_eq_getElem?_getD, List.getElem?_set_ne h, ← List.getD_eq_getElem?_getD]
theorem getD_set_eq (ws : List Int) {i : Nat} (x : Int) (h : i < ws.length) : (ws.set i x).getD i 0 = x := by
  rw [List.getD_eq_getElem?_getD, List.getElem?_set_self h]; rfl
section
variable (B t lock k other : Int) (ws : List Int)
theorem stpA1 (h0 : 0 ≤ B + 3 * k) (h1 : B + 3 * k < ws.length) : stp false B t ⟨lock, k, 1, other, false⟩ ws = ⟨⟨lock, k, 2, other, false⟩, ws.set (B + 3 * k).toNat 0, false, 0⟩ := by
  rw [stp_A]
  simp [stpA, adv, doE_ok ws 2 _ h0 h1 (by omega), doWs_put ws 2 _ 0 0 h0 h1 (.inl rfl)]
theorem stpA2 (h0 : 0 ≤ B + 3 * k + 1) (h1 : B + 3 * k + 1 < ws.length) : stp false B t ⟨lock, k, 2, other, false⟩ ws = ⟨⟨lock, k, 3, other, false⟩, ws.set (B + 3 * k + 1).toNat 1, false, 0⟩ := by
  rw [stp_A]
  simp [stpA, adv, doE_ok ws 2 _ h0 h1 (by omega), doWs_put ws 2 _ 0 1 h0 h1 (.inl rfl)]
theorem stpA3 (h0 : 0 ≤ lock) (h1 : lock < ws.length) (hz : ws.getD lock.toNat 0 = 0) : stp false B t ⟨lock, k, 3, other, false⟩ ws = ⟨⟨lock, k, 3, other, true⟩, ws.set lock.toNat (k + 1), false, 0⟩ := by
  rw [stp_A]
  simp only [List.getD_eq_getElem?_getD] at hz
  simp [stpA, doE_ok ws 4 _ h0 h1 (by omega), doB_ok ws 4 _ h0 h1 (by omega), doWs_put ws 4 _ 0 (k + 1) h0 h1 (.inr rfl), hz]
theorem stpA3b (h0 : 0 ≤ lock) (h1 : lock < ws.length) (hz : ws.getD lock.toNat 0 ≠ 0) : stp false B t ⟨lock, k, 3, other, false⟩ ws = ⟨⟨lock, k, 4, ws.getD lock.toNat 0, false⟩, ws.set lock.toNat (k + 1), false, 0⟩ := by
  rw [stp_A]
  simp only [List.getD_eq_getElem?_getD] at hz
  simp [stpA, doB_ok ws 4 _ h0 h1 (by omega), doWs_put ws 4 _ 0 (k + 1) h0 h1 (.inr rfl), hz]
theorem stpA4 (hr : 1 ≤ other ∧ other ≤ t * 2) (h0 : 0 ≤ B + 3 * (other - 1)) (h1 : B + 3 * (other - 1) < ws.length) : stp false B t ⟨lock, k, 4, other, false⟩ ws = ⟨⟨lock, k, 5, other, false⟩, ws.set (B + 3 * (other - 1)).toNat (k + 1), false, 0⟩ := by
  rw [stp_A]
  simp [stpA, adv, hr, doE_ok ws 2 _ h0 h1 (by omega), doWs_put ws 2 _ 0 (k + 1) h0 h1 (.inl rfl)]
theorem stpA5 (h0 : 0 ≤ B + 3 * k + 1) (h1 : B + 3 * k + 1 < ws.length) (hz : ws.getD (B + 3 * k + 1).toNat 0 = 0) : stp false B t ⟨lock, k, 5, other, false⟩ ws = ⟨⟨lock, k, 5, other, true⟩, ws, false, 0⟩ := by
  rw [stp_A]
  simp only [List.getD_eq_getElem?_getD] at hz
  simp [stpA, doE_ok ws 1 _ h0 h1 (by omega), doB_ok ws 1 _ h0 h1 (by omega), hz]
theorem stpA5w (h0 : 0 ≤ B + 3 * k + 1) (h1 : B + 3 * k + 1 < ws.length) (hz : ws.getD (B + 3 * k + 1).toNat 0 ≠ 0) : stp false B t ⟨lock, k, 5, other, false⟩ ws = ⟨⟨lock, k, 5, other, false⟩, ws, true, 0⟩ := by
  rw [stp_A]
  simp only [List.getD_eq_getElem?_getD] at hz
  simp [stpA, doE_ok ws 1 _ h0 h1 (by omega), doB_ok ws 1 _ h0 h1 (by omega), hz]
theorem stpR1 (h0 : 0 ≤ B + 3 * k) (h1 : B + 3 * k < ws.length) (hz : ws.getD (B + 3 * k).toNat 0 = 0) : stp true B t ⟨lock, k, 1, other, false⟩ ws = ⟨⟨lock, k, 2, other, false⟩, ws, false, 0⟩ := by
  rw [stp_R]
  simp only [List.getD_eq_getElem?_getD] at hz
  simp [stpR, doE_ok ws 1 _ h0 h1 (by omega), doB_ok ws 1 _ h0 h1 (by omega), hz]
theorem stpR13 (pc : Int) (hp : pc = 1 ∨ pc = 3) (h0 : 0 ≤ B + 3 * k) (h1 : B + 3 * k < ws.length) (hz : ws.getD (B + 3 * k).toNat 0 ≠ 0) : stp true B t ⟨lock, k, pc, other, false⟩ ws = ⟨⟨lock, k, 4, ws.getD (B + 3 * k).toNat 0, false⟩, ws, false, 0⟩ := by
  rw [stp_R]
  simp only [List.getD_eq_getElem?_getD] at hz
  simp [stpR, hp, doE_ok ws 1 _ h0 h1 (by omega), doB_ok ws 1 _ h0 h1 (by omega), hz]
theorem stpR3w (h0 : 0 ≤ B + 3 * k) (h1 : B + 3 * k < ws.length) (hz : ws.getD (B + 3 * k).toNat 0 = 0) : stp true B t ⟨lock, k, 3, other, false⟩ ws = ⟨⟨lock, k, 3, other, false⟩, ws, true, 0⟩ := by
  rw [stp_R]
  simp only [List.getD_eq_getElem?_getD] at hz
  simp [stpR, doE_ok ws 1 _ h0 h1 (by omega), doB_ok ws 1 _ h0 h1 (by omega), hz]
theorem stpR2 (h0 : 0 ≤ lock) (h1 : lock < ws.length) (hz : ws.getD lock.toNat 0 = k + 1) : stp true B t ⟨lock, k, 2, other, false⟩ ws = ⟨⟨lock, k, 2, other, true⟩, ws.set lock.toNat 0, false, 0⟩ := by
  rw [stp_R]
  have hw := doWs_cas ws lock (k + 1) 0 h0 h1 hz
  simp only [List.getD_eq_getElem?_getD] at hz
  simp [stpR, doE_ok ws 3 _ h0 h1 (by omega), doB_ok ws 3 _ h0 h1 (by omega), hz, hw]
theorem stpR2n (h0 : 0 ≤ lock) (h1 : lock < ws.length) (hz : ws.getD lock.toNat 0 ≠ k + 1) : stp true B t ⟨lock, k, 2, other, false⟩ ws = ⟨⟨lock, k, 3, other, false⟩, ws, false, 0⟩ := by
  rw [stp_R]
  have hw := doWs_not ws lock (k + 1) 0 hz
  simp only [List.getD_eq_getElem?_getD] at hz
  simp [stpR, adv, doE_ok ws 3 _ h0 h1 (by omega), doB_ok ws 3 _ h0 h1 (by omega), hz, hw]
theorem stpR4 (hr : 1 ≤ other ∧ other ≤ t * 2) (h0 : 0 ≤ B + 3 * (other - 1) + 1) (h1 : B + 3 * (other - 1) + 1 < ws.length) : stp true B t ⟨lock, k, 4, other, false⟩ ws = ⟨⟨lock, k, 4, other, true⟩, ws.set (B + 3 * (other - 1) + 1).toNat 0, false, 0⟩ := by
  rw [stp_R]
  simp [stpR, hr, doE_ok ws 2 _ h0 h1 (by omega), doWs_put ws 2 _ 0 0 h0 h1 (.inl rfl)]
end
theorem stpN_one {bk : Bool} {B t : Int} {x x' : Rn} {ws ws' : List Int} (h : stp bk B t x ws = ⟨x', ws', false, 0⟩) : stpN bk B t 1 x ws = some (x', ws') := by
  unfold stpN; rw [h]; simp [stpN]
theorem stpN_two {bk : Bool} {B t : Int} {x x' x2 : Rn} {ws ws' ws2 : List Int} (h : stp bk B t x ws = ⟨x', ws', false, 0⟩) (h2 : stp bk B t x' ws' = ⟨x2, ws2, false, 0⟩) : stpN bk B t 2 x ws = some (x2, ws2) := by
  unfold stpN; rw [h]; simp; exact stpN_one h2
end Go.Proofs.Ytmlhdcpahfgckaa
