/-
  The steps of both programs as one function, and their contracts.
-/
import Derived.Test.YtmlhdcpahfgckaaMcs7
namespace Go.Proofs.Ytmlhdcpahfgckaa
open Go.RowKit

/-- what a step leaves: the program, the words, whether it has waited, the error -/
structure Out where
  x : Rn
  ws : List Int
  wt : Bool
  e : Int
def stpA (B t : Int) (x : Rn) (ws : List Int) : Out :=
  if x.ended = true then ⟨x, ws, false, 17⟩
  else if x.pc = 1 then ⟨adv (doE ws 2 (B + 3 * x.node)) x 2, doWs ws 2 (B + 3 * x.node) 0 0, false, doE ws 2 (B + 3 * x.node)⟩
  else if x.pc = 2 then ⟨adv (doE ws 2 (B + 3 * x.node + 1)) x 3, doWs ws 2 (B + 3 * x.node + 1) 0 1, false, doE ws 2 (B + 3 * x.node + 1)⟩
  else if x.pc = 3 then
    if doB ws 4 x.lock = 0 then ⟨{ x with ended := doE ws 4 x.lock == 0 }, doWs ws 4 x.lock 0 (x.node + 1), false, doE ws 4 x.lock⟩
    else ⟨{ x with other := doB ws 4 x.lock, pc := 4 }, doWs ws 4 x.lock 0 (x.node + 1), false, 0⟩
  else if x.pc = 4 then
    if 1 ≤ x.other ∧ x.other ≤ t * 2 then ⟨adv (doE ws 2 (B + 3 * (x.other - 1))) x 5, doWs ws 2 (B + 3 * (x.other - 1)) 0 (x.node + 1), false, doE ws 2 (B + 3 * (x.other - 1))⟩
    else ⟨x, ws, false, 12⟩
  else if doE ws 1 (B + 3 * x.node + 1) ≠ 0 then ⟨x, ws, false, doE ws 1 (B + 3 * x.node + 1)⟩
  else if doB ws 1 (B + 3 * x.node + 1) ≠ 0 then ⟨x, ws, true, 0⟩
  else ⟨{ x with ended := true }, ws, false, 0⟩
def stpR (B t : Int) (x : Rn) (ws : List Int) : Out :=
  if x.ended = true then ⟨x, ws, false, 17⟩
  else if x.pc = 1 ∨ x.pc = 3 then
    if doE ws 1 (B + 3 * x.node) ≠ 0 then ⟨x, ws, false, doE ws 1 (B + 3 * x.node)⟩
    else if doB ws 1 (B + 3 * x.node) ≠ 0 then ⟨{ x with other := doB ws 1 (B + 3 * x.node), pc := 4 }, ws, false, 0⟩
    else if x.pc = 1 then ⟨{ x with pc := 2 }, ws, false, 0⟩ else ⟨x, ws, true, 0⟩
  else if x.pc = 2 then
    if (doE ws 3 x.lock == 0 && doB ws 3 x.lock == x.node + 1) = true then ⟨{ x with ended := true }, doWs ws 3 x.lock (x.node + 1) 0, false, 0⟩
    else ⟨adv (doE ws 3 x.lock) x 3, doWs ws 3 x.lock (x.node + 1) 0, false, doE ws 3 x.lock⟩
  else if 1 ≤ x.other ∧ x.other ≤ t * 2 then ⟨{ x with ended := doE ws 2 (B + 3 * (x.other - 1) + 1) == 0 }, doWs ws 2 (B + 3 * (x.other - 1) + 1) 0 0, false, doE ws 2 (B + 3 * (x.other - 1) + 1)⟩
  else ⟨x, ws, false, 12⟩
/-- a step of a program that gives back (true) or gets -/
def stp (bk : Bool) (B t : Int) (x : Rn) (ws : List Int) : Out := if bk = true then stpR B t x ws else stpA B t x ws
def pcOk (bk : Bool) (x : Rn) : Prop := 1 ≤ x.pc ∧ x.pc ≤ (if bk = true then 4 else 5)
abbrev Tp (bk : Bool) : TypeId := if bk = true then 68 else 67
def progI (bk : Bool) (r : Nat) : Value := if bk = true then .iface 63 (.pointer (some ⟨r, 0, none⟩)) else .iface 59 (.pointer (some ⟨r, 0, none⟩))
theorem progI_A (r : Nat) : progI false r = .iface 59 (.pointer (some ⟨r, 0, none⟩)) := rfl
theorem progI_R (r : Nat) : progI true r = .iface 63 (.pointer (some ⟨r, 0, none⟩)) := rfl

section
variable (r nb b g c : Nat) (B t : Int) (x : Rn) (ws : List Int) (w : World)
theorem adv_pc (e : Int) (x : Rn) (pc : Int) : (adv e x pc).pc = pc ∨ (adv e x pc).pc = x.pc := by unfold adv; split <;> simp
theorem stpA_pc (h : pcOk false x) : pcOk false (stpA B t x ws).x := by
  unfold pcOk at h ⊢
  have h1 := adv_pc (doE ws 2 (B + 3 * x.node)) x 2
  have h2 := adv_pc (doE ws 2 (B + 3 * x.node + 1)) x 3
  have h3 := adv_pc (doE ws 2 (B + 3 * (x.other - 1))) x 5
  simp only [Bool.false_eq_true, if_false] at h ⊢
  unfold stpA
  split; exact h
  split; (dsimp only; omega)
  split; (dsimp only; omega)
  split; (split <;> (dsimp only; omega))
  split; (split <;> (dsimp only; omega))
  split; exact h
  split <;> exact h
theorem stpR_pc (h : pcOk true x) : pcOk true (stpR B t x ws).x := by
  unfold pcOk at h ⊢
  have h1 := adv_pc (doE ws 3 x.lock) x 3
  simp only [if_true] at h ⊢
  unfold stpR
  split; exact h
  split; (split; exact h; (split; (dsimp only; omega); (split <;> (dsimp only; omega))))
  split; (split <;> (dsimp only; omega))
  split <;> exact h
theorem stp_pc (bk : Bool) (h : pcOk bk x) : pcOk bk (stp bk B t x ws).x := by
  cases bk
  · exact stpA_pc B t x ws h
  · exact stpR_pc B t x ws h
theorem adv_lock (e : Int) (x : Rn) (pc : Int) : (adv e x pc).lock = x.lock := by unfold adv; split <;> rfl
theorem adv_ended (e : Int) (x : Rn) (pc : Int) : (adv e x pc).ended = x.ended := by unfold adv; split <;> rfl
theorem stp_fix (bk : Bool) : (stp bk B t x ws).x.node = x.node ∧ (stp bk B t x ws).x.lock = x.lock := by
  cases bk
  · show (stpA B t x ws).x.node = x.node ∧ (stpA B t x ws).x.lock = x.lock
    unfold stpA
    split; simp
    split; simp [adv_node, adv_lock]
    split; simp [adv_node, adv_lock]
    split; (split <;> simp)
    split; (split <;> simp [adv_node, adv_lock])
    split; simp
    split <;> simp
  · show (stpR B t x ws).x.node = x.node ∧ (stpR B t x ws).x.lock = x.lock
    unfold stpR
    split; simp
    split; (split; simp; (split; simp; (split <;> simp)))
    split; (split <;> simp [adv_node, adv_lock])
    split <;> simp

/-- what a step owes -/
def StP (bk : Bool) (o : Out) (e : Ending) (w' : World) : Prop := SPost w r nb b g c (Tp bk) B t o.x o.ws (.tuple #[.bool o.wt, .int .i64 o.e]) e w'
theorem sp_same {w w' : World} {r nb b g c : Nat} {T : TypeId} {B t : Int} {x : Rn} {ws : List Int} {v : Value} {e : Ending} (h : Sit w r nb b g c T B t x ws) (he : e = .returned v ∧ w = w') : SPost w r nb b g c T B t x ws v e w' := by
  obtain ⟨rfl, rfl⟩ := he
  exact ⟨rfl, h, Ch.refl _ _⟩
theorem astep (h : Sit w r nb b g c (Tp false) B t x ws) (hp : pcOk false x) :
    Calls Try.prog 72 #[.pointer (some ⟨r, 0, none⟩), memI b] w (StP r nb b g c B t w false (stpA B t x ws)) := by
  unfold pcOk at hp
  simp only [Bool.false_eq_true, if_false] at hp
  have h' : Sit w r nb b g c 67 B t x ws := h
  unfold StP stpA
  by_cases he : x.ended = true
  · simp only [if_pos he]
    exact (aend r nb b x w h'.run he).mono fun _ _ hh => sp_same h' hh
  have he' : x.ended = false := by simpa using he
  simp only [if_neg he]
  by_cases p1 : x.pc = 1
  · simp only [if_pos p1]; exact acq_1 r nb b g c B t x ws w h' he' p1
  simp only [if_neg p1]
  by_cases p2 : x.pc = 2
  · simp only [if_pos p2]; exact acq_2 r nb b g c B t x ws w h' he' p2
  simp only [if_neg p2]
  by_cases p3 : x.pc = 3
  · simp only [if_pos p3]
    by_cases hz : doB ws 4 x.lock = 0
    · simp only [if_pos hz]; exact acq_3 r nb b g c B t x ws w h' he' p3 hz
    · simp only [if_neg hz]; exact acq_3b r nb b g c B t x ws w h' he' p3 hz
  simp only [if_neg p3]
  by_cases p4 : x.pc = 4
  · simp only [if_pos p4]
    by_cases hz : 1 ≤ x.other ∧ x.other ≤ t * 2
    · simp only [if_pos hz]; exact acq_4b r nb b g c B t x ws w h' he' p4 hz
    · simp only [if_neg hz]; exact acq_4a r nb b g c B t x ws w h' he' p4 hz
  simp only [if_neg p4]
  have p5 : x.pc = 5 := by omega
  by_cases e0 : doE ws 1 (B + 3 * x.node + 1) ≠ 0
  · simp only [if_pos e0]; exact acq_5a r nb b g c B t x ws w h' he' p5 e0
  simp only [if_neg e0]
  have e1 : doE ws 1 (B + 3 * x.node + 1) = 0 := by simpa using e0
  by_cases v0 : doB ws 1 (B + 3 * x.node + 1) ≠ 0
  · simp only [if_pos v0]; exact acq_5b r nb b g c B t x ws w h' he' p5 e1 v0
  simp only [if_neg v0]
  exact acq_5c r nb b g c B t x ws w h' he' p5 e1 (by simpa using v0)
theorem rstep (h : Sit w r nb b g c (Tp true) B t x ws) (hp : pcOk true x) :
    Calls Try.prog 85 #[.pointer (some ⟨r, 0, none⟩), memI b] w (StP r nb b g c B t w true (stpR B t x ws)) := by
  unfold pcOk at hp
  simp only [if_true] at hp
  have h' : Sit w r nb b g c 68 B t x ws := h
  unfold StP stpR
  by_cases he : x.ended = true
  · simp only [if_pos he]
    exact (rend r nb b x w h'.run he).mono fun _ _ hh => sp_same h' hh
  have he' : x.ended = false := by simpa using he
  simp only [if_neg he]
  by_cases p1 : x.pc = 1 ∨ x.pc = 3
  · simp only [if_pos p1]
    by_cases e0 : doE ws 1 (B + 3 * x.node) ≠ 0
    · simp only [if_pos e0]
      rcases p1 with p | p
      · exact rel_1a r nb b g c B t x ws w h' he' p e0
      · exact rel_3a r nb b g c B t x ws w h' he' p e0
    simp only [if_neg e0]
    have e1 : doE ws 1 (B + 3 * x.node) = 0 := by simpa using e0
    by_cases v0 : doB ws 1 (B + 3 * x.node) ≠ 0
    · simp only [if_pos v0]
      rcases p1 with p | p
      · exact rel_1b r nb b g c B t x ws w h' he' p e1 v0
      · exact rel_3b r nb b g c B t x ws w h' he' p e1 v0
    simp only [if_neg v0]
    have v1 : doB ws 1 (B + 3 * x.node) = 0 := by simpa using v0
    by_cases p : x.pc = 1
    · simp only [if_pos p]
      exact rel_1c r nb b g c B t x ws w h' he' p e1 v1
    · simp only [if_neg p]
      have p3 : x.pc = 3 := p1.resolve_left p
      have hx : ({ x with pc := 3 } : Rn) = x := by rw [← p3]
      have := rel_3c r nb b g c B t x ws w h' he' p3 e1 v1
      rwa [hx] at this
  simp only [if_neg p1]
  by_cases p2 : x.pc = 2
  · simp only [if_pos p2]
    by_cases hz : (doE ws 3 x.lock == 0 && doB ws 3 x.lock == x.node + 1) = true
    · simp only [if_pos hz]; exact rel_2a r nb b g c B t x ws w h' he' p2 hz
    · simp only [if_neg hz]; exact rel_2b r nb b g c B t x ws w h' he' p2 (by simpa using hz)
  simp only [if_neg p2]
  have p4 : x.pc = 4 := by omega
  by_cases hz : 1 ≤ x.other ∧ x.other ≤ t * 2
  · simp only [if_pos hz]; exact rel_4b r nb b g c B t x ws w h' he' p4 hz
  · simp only [if_neg hz]; exact rel_4a r nb b g c B t x ws w h' he' p4 hz
end
end Go.Proofs.Ytmlhdcpahfgckaa
