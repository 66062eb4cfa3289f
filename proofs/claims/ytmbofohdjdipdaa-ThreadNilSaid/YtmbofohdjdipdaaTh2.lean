/-
  Contracts of package thread: what any instruction does; a code's step.
-/
import Derived.Test.YtmbofohdjdipdaaTh1
namespace Go.Proofs.Ytmbofohdjdipdaa
open Go.RowKit

def Mif.e {σ : Type} (m : Mif σ) (s : σ) (x : Ins) : Int := m.E s (acK x) x.w
def Mif.b {σ : Type} (m : Mif σ) (s : σ) (x : Ins) : Int := m.B s (acK x) x.w
def Mif.n {σ : Type} (m : Mif σ) (s : σ) (c : Cd) (x : Ins) : σ := if isAc x then m.nx s (acK x) x.w (acB x) (acA c x) else s
theorem doi_any {σ : Type} (m : Mif σ) (hm : m.Ok) (r i cap : Nat) (c : Cd) (x : Ins) (w : World) (s : σ) (h : CMAt m w r i cap c s) (hwf : c.Wf) (many : Int) (hx : okIns many x) (hv : insWf x) :
    Calls Try.prog 74 #[.pointer (some ⟨r, 0, none⟩), insA x, m.v] w (DoP m w r i cap (doC c x (m.e s x) (m.b s x)) (m.n s c x) (.tuple #[.int .i64 (doN c x : Nat), .bool (doWt x (m.e s x) (m.b s x)), .int .i64 (doEr x (m.e s x))])) := by
  have hpc : c.pc ≤ 256 := Nat.le_trans hwf.pcl hwf.hi
  have hB := hm.bu w s (acK x) x.w h.at_
  have hru := Cd.reg_u hwf.ru x
  obtain ⟨k, R, W, V⟩ := x
  unfold Mif.e Mif.b Mif.n at *
  have S1 : isAc ⟨1, R, W, V⟩ ∧ isAc ⟨2, R, W, V⟩ ∧ isAc ⟨3, R, W, V⟩ ∧ isAc ⟨4, R, W, V⟩ ∧ isAc ⟨5, R, W, V⟩ ∧ ¬ isAc ⟨6, R, W, V⟩ ∧ ¬ isAc ⟨7, R, W, V⟩ ∧ ¬ isAc ⟨8, R, W, V⟩ ∧ ¬ isAc ⟨9, R, W, V⟩ := by simp [isAc]
  obtain ⟨a1, a2, a3, a4, a5, a6, a7, a8, a9⟩ := S1
  unfold okIns regOk wordOk at hx
  dsimp only at hx
  by_cases h5 : k = 5
  · subst h5
    by_cases he : m.E s 1 W = 0
    · by_cases hb : m.B s 1 W = V
      · have := do_5y m hm r i cap c R W V w s h hpc he hb
        simpa [doC, doN, doWt, doEr, acK, acB, acA, a5, he, hb] using this
      · have := do_5w m hm r i cap c R W V w s h hpc he hb
        have hb' : (m.B s 1 W == V) = false := by simpa using hb
        simpa [doC, doN, doWt, doEr, acK, acB, acA, a5, he, hb'] using this
    · have := do_5n m hm r i cap c R W V w s h hpc he
      have he' : (m.E s 1 W == 0) = false := by simpa using he
      simpa [doC, doN, doWt, doEr, acK, acB, acA, a5, he'] using this
  · obtain ⟨j, hj, rfl⟩ : ∃ j : Nat, j < 4 ∧ R = j := ⟨R.toNat, by omega, by omega⟩
    have hu : U64 (c.r.getD j 0) := by simpa [Cd.reg] using hru
    rcases (by omega : k = 1 ∨ k = 2 ∨ k = 3 ∨ k = 4 ∨ k = 6 ∨ k = 7 ∨ k = 8 ∨ k = 9) with rfl | rfl | rfl | rfl | rfl | rfl | rfl | rfl
    · by_cases he : m.E s 1 W = 0
      · have := do_1 m hm r i cap c j W V w s h hpc hj _ rfl he
        simpa [doC, Cd.setR, doN, doWt, doEr, acK, acB, acA, a1, he, -List.getD_eq_getElem?_getD] using this
      · have := do_1n m hm r i cap c j W V w s h hpc he
        simpa [doC, Cd.setR, doN, doWt, doEr, acK, acB, acA, a1, he, -List.getD_eq_getElem?_getD] using this
    · have := do_2 m hm r i cap c j W V w s h hpc hj _ rfl hu
      simpa [doC, Cd.setR, doN, doWt, doEr, acK, acB, acA, a2, Cd.reg, -List.getD_eq_getElem?_getD] using this
    · by_cases he : m.E s 4 W = 0
      · have := do_3 m hm r i cap c j W V w s h hpc hj _ rfl hu he
        simpa [doC, Cd.setR, doN, doWt, doEr, acK, acB, acA, a3, he, Cd.reg, -List.getD_eq_getElem?_getD] using this
      · have := do_3n m hm r i cap c j W V w s h hpc hj _ rfl hu he
        simpa [doC, Cd.setR, doN, doWt, doEr, acK, acB, acA, a3, he, Cd.reg, -List.getD_eq_getElem?_getD] using this
    · by_cases he : m.E s 3 W = 0
      · by_cases hb : m.B s 3 W = V
        · have := do_4y m hm r i cap c j W V w s h hpc hj _ rfl hu he hb
          simpa [doC, Cd.setR, doN, doWt, doEr, acK, acB, acA, a4, he, hb, Cd.reg, -List.getD_eq_getElem?_getD] using this
        · have := do_4f m hm r i cap c j W V w s h hpc hj _ rfl hu he hb
          simpa [doC, Cd.setR, doN, doWt, doEr, acK, acB, acA, a4, he, hb, Cd.reg, -List.getD_eq_getElem?_getD] using this
      · have := do_4n m hm r i cap c j W V w s h hpc hj _ rfl hu he
        simpa [doC, Cd.setR, doN, doWt, doEr, acK, acB, acA, a4, he, Cd.reg, -List.getD_eq_getElem?_getD] using this
    · have := do_6 m hm r i cap c j W V w s h hpc hj _ rfl
      simpa [doC, Cd.setR, doN, doWt, doEr, acK, acB, acA, a6, -List.getD_eq_getElem?_getD] using this
    · have := do_7 m hm r i cap c j W V w s h hpc hj _ rfl
      simpa [doC, Cd.setR, doN, doWt, doEr, acK, acB, acA, a7, Cd.reg, -List.getD_eq_getElem?_getD] using this
    · by_cases hb : c.r.getD j 0 = V
      · have := do_8y m hm r i cap c j W V w s h hpc hj _ rfl hb
        have hW : ((W.toNat : Nat) : Int) = W := by omega
        simpa [doC, Cd.setR, doN, doWt, doEr, acK, acB, acA, a8, Cd.reg, hb, hW, -List.getD_eq_getElem?_getD] using this
      · have := do_8n m hm r i cap c j W V w s h hpc hj _ rfl hb
        simpa [doC, Cd.setR, doN, doWt, doEr, acK, acB, acA, a8, Cd.reg, hb, -List.getD_eq_getElem?_getD] using this
    · have := do_9 m hm r i cap c j W V w s h hpc hj _ rfl
      simpa [doC, Cd.setR, doN, doWt, doEr, acK, acB, acA, a9, Cd.reg, -List.getD_eq_getElem?_getD] using this
end Go.Proofs.Ytmbofohdjdipdaa
