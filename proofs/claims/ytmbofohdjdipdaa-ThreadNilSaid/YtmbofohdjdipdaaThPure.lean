/-
  Threads, plain: instructions, codes, what a step of a code does, by what its access has returned; no program in sight.
-/
import Derived.Test.YtmbofohdjdipdaaMem
namespace Go.Proofs.Ytmbofohdjdipdaa
open Go.RowKit

/-- an instruction -/
structure Ins where
  k : Int
  r : Int
  w : Int
  v : Int
deriving DecidableEq
def insV (x : Ins) : List Value := [.int .i64 x.k, .int .i64 x.r, .int .i64 x.w, .int .u64 x.v]
abbrev insA (x : Ins) : Value := .agg #[.int .i64 x.k, .int .i64 x.r, .int .i64 x.w, .int .u64 x.v]
def insVs (l : List Ins) : List Value := l.flatMap insV
/-- it is allowed in a code of so many -/
def regOk (x : Ins) : Prop := 0 ≤ x.r ∧ x.r < 4
def wordOk (x : Ins) : Prop := 0 ≤ x.w ∧ x.w < 65536
def okIns (many : Int) (x : Ins) : Prop :=
  (1 ≤ x.k ∧ x.k ≤ 4 ∧ regOk x ∧ wordOk x) ∨ (x.k = 5 ∧ wordOk x) ∨ ((x.k = 6 ∨ x.k = 7 ∨ x.k = 9) ∧ regOk x) ∨ (x.k = 8 ∧ regOk x ∧ 0 ≤ x.w ∧ x.w < many)
instance (many : Int) (x : Ins) : Decidable (okIns many x) := by unfold okIns regOk wordOk; infer_instance
def insWf (x : Ins) : Prop := 0 ≤ x.v ∧ x.v ≤ 18446744073709551615
instance (x : Ins) : Decidable (insWf x) := by unfold insWf; infer_instance
def U64 (x : Int) : Prop := 0 ≤ x ∧ x ≤ 18446744073709551615

/-- a code -/
structure Cd where
  l : List Ins
  pc : Nat
  r : List Int
  res : Int
  ended : Bool
deriving DecidableEq
def newCd (l : List Ins) : Cd := ⟨l, 0, [0, 0, 0, 0], 0, false⟩
structure Cd.Wf (c : Cd) : Prop where
  lo : 1 ≤ c.l.length
  hi : c.l.length ≤ 256
  ok : ∀ x ∈ c.l, okIns c.l.length x ∧ insWf x
  r4 : c.r.length = 4
  ru : ∀ x ∈ c.r, U64 x
  resu : U64 c.res
  pcl : c.pc ≤ c.l.length
  run : c.ended = false → c.pc < c.l.length
def Cd.reg (c : Cd) (x : Ins) : Int := c.r.getD x.r.toNat 0
def Cd.setR (c : Cd) (x : Ins) (v : Int) : Cd := { c with r := c.r.set x.r.toNat v }
/-- the access of an instruction: its kind, its Before and its After -/
def acK (x : Ins) : Int := if x.k = 5 then 1 else if x.k = 3 then 4 else if x.k = 4 then 3 else x.k
def acB (x : Ins) : Int := if x.k = 4 then x.v else 0
def acA (c : Cd) (x : Ins) : Int := if 2 ≤ x.k ∧ x.k ≤ 4 then c.reg x else 0
def isAc (x : Ins) : Prop := 1 ≤ x.k ∧ x.k ≤ 5
instance (x : Ins) : Decidable (isAc x) := by unfold isAc; infer_instance
/-- what becomes of a code; which instruction is next; whether it waits; the error -/
def doC (c : Cd) (x : Ins) (E B : Int) : Cd :=
  if x.k = 1 ∨ x.k = 3 then if E = 0 then c.setR x B else c
  else if x.k = 4 then if E = 0 then c.setR x (if B = x.v then 1 else 0) else c
  else if x.k = 6 then c.setR x x.v
  else if x.k = 7 then c.setR x ((c.reg x + x.v) % 18446744073709551616)
  else if x.k = 9 then { c with res := c.reg x, ended := true }
  else c
def doN (c : Cd) (x : Ins) : Nat := if x.k = 8 ∧ c.reg x = x.v then x.w.toNat else c.pc + 1
def doWt (x : Ins) (E B : Int) : Bool := x.k == 5 && E == 0 && !(B == x.v)
def doEr (x : Ins) (E : Int) : Int := if 1 ≤ x.k ∧ x.k ≤ 5 then E else 0

/-- the instruction that a code makes next -/
def Cd.cur (c : Cd) : Ins := c.l.getD c.pc ⟨0, 0, 0, 0⟩
/-- a code after its step, by what the access has returned -/
def stC (c : Cd) (E B : Int) : Cd :=
  let x := c.cur
  if doEr x E ≠ 0 ∨ doWt x E B = true then doC c x E B
  else
    let d : Cd := { doC c x E B with pc := doN c x }
    if x.k ≠ 9 ∧ d.pc = d.l.length then { d with res := d.r.getD 0 0, ended := true } else d
def cdE (c : Cd) (E : Int) : Int := if c.ended then 17 else doEr c.cur E
def cdW (c : Cd) (E B : Int) : Bool := if c.ended then false else doWt c.cur E B

theorem doC_l (c : Cd) (x : Ins) (E B : Int) : (doC c x E B).l = c.l := by
  unfold doC Cd.setR
  repeat' (split <;> try rfl)
theorem doC_pc (c : Cd) (x : Ins) (E B : Int) : (doC c x E B).pc = c.pc := by
  unfold doC Cd.setR
  repeat' (split <;> try rfl)
theorem doC_len (c : Cd) (x : Ins) (E B : Int) : (doC c x E B).r.length = c.r.length := by
  unfold doC Cd.setR
  repeat' (split <;> try simp)
theorem set_u {l : List Int} {i : Nat} {v : Int} (h : ∀ x ∈ l, U64 x) (hv : U64 v) : ∀ x ∈ l.set i v, U64 x := fun x hx => by
  rcases List.mem_or_eq_of_mem_set hx with hx | rfl
  · exact h x hx
  · exact hv
theorem Cd.reg_u {c : Cd} (h : ∀ x ∈ c.r, U64 x) (x : Ins) : U64 (c.reg x) := by
  unfold Cd.reg
  rw [List.getD_eq_getElem?_getD]
  rcases Nat.lt_or_ge x.r.toNat c.r.length with hl | hl
  · rw [List.getElem?_eq_getElem hl]
    exact h _ (List.getElem_mem hl)
  · rw [List.getElem?_eq_none hl]
    exact ⟨by simp, by simp⟩
theorem doC_u {c : Cd} {x : Ins} {E B : Int} (h : ∀ x ∈ c.r, U64 x) (hB : U64 B) (hx : insWf x) : ∀ y ∈ (doC c x E B).r, U64 y := by
  unfold doC Cd.setR
  repeat' split
  all_goals first
    | exact h
    | exact set_u h hB
    | exact set_u h ⟨by omega, by omega⟩
    | exact set_u h hx
theorem doC_res {c : Cd} {x : Ins} {E B : Int} (h : ∀ x ∈ c.r, U64 x) (h2 : U64 c.res) : U64 (doC c x E B).res := by
  unfold doC Cd.setR
  repeat' split
  all_goals first
    | exact h2
    | exact Cd.reg_u h x
theorem doC_ended {c : Cd} {x : Ins} {E B : Int} (hk : x.k ≠ 9) : (doC c x E B).ended = c.ended := by
  unfold doC Cd.setR
  repeat' (split <;> try rfl)
  all_goals first | rfl | exact absurd (by assumption) hk
theorem Cd.Wf.cur {c : Cd} (h : c.Wf) (he : c.ended = false) : c.cur ∈ c.l := by
  unfold Cd.cur
  rw [List.getD_eq_getElem?_getD, List.getElem?_eq_getElem (h.run he)]
  exact List.getElem_mem _
theorem doN_le {c : Cd} (h : c.Wf) (he : c.ended = false) : doN c c.cur ≤ c.l.length := by
  have h1 := h.run he
  have h2 := (h.ok _ (h.cur he)).1
  unfold doN
  split
  · rename_i hk
    unfold okIns at h2
    omega
  · omega
/-- what a step keeps -/
theorem stC_wf {c : Cd} {E B : Int} (h : c.Wf) (he : c.ended = false) (hB : U64 B) : (stC c E B).Wf := by
  have hu := doC_u (E := E) h.ru hB (h.ok _ (h.cur he)).2
  have hr := doC_res (x := c.cur) (E := E) (B := B) h.ru h.resu
  have hl := doC_len c c.cur E B
  have hn := doN_le h he
  have e1 := doC_l c c.cur E B
  have e2 := doC_pc c c.cur E B
  unfold stC
  dsimp only
  split
  · rename_i hw
    have hk : c.cur.k ≠ 9 := by
      intro hk
      unfold doEr doWt at hw
      rw [hk] at hw
      simp at hw
    have h9 := doC_ended (E := E) (B := B) (c := c) hk
    exact ⟨by rw [e1]; exact h.lo, by rw [e1]; exact h.hi, by rw [e1]; exact h.ok, by rw [hl]; exact h.r4, hu, hr, by rw [e1, e2]; exact h.pcl, fun _ => by rw [e1, e2]; exact h.run he⟩
  · split
    · rename_i hk
      refine ⟨by rw [e1]; exact h.lo, by rw [e1]; exact h.hi, by rw [e1]; exact h.ok, by rw [hl]; exact h.r4, hu, ?_, by rw [e1]; exact hn, fun hc => by cases hc⟩
      exact Cd.reg_u (c := { doC c c.cur E B with pc := doN c c.cur }) hu ⟨0, 0, 0, 0⟩
    · rename_i hk
      refine ⟨by rw [e1]; exact h.lo, by rw [e1]; exact h.hi, by rw [e1]; exact h.ok, by rw [hl]; exact h.r4, hu, hr, by rw [e1]; exact hn, fun hc => ?_⟩
      have hc' : (doC c c.cur E B).ended = false := hc
      show doN c c.cur < (doC c c.cur E B).l.length
      rw [e1]
      have hk2 : ¬ (c.cur.k ≠ 9 ∧ doN c c.cur = (doC c c.cur E B).l.length) := hk
      rw [e1] at hk2
      by_cases h9 : c.cur.k = 9
      · exfalso
        revert hc'
        unfold doC
        simp [h9]
      · omega
theorem newCd_wf {l : List Ins} (h1 : 1 ≤ l.length) (h2 : l.length ≤ 256) (h : ∀ x ∈ l, okIns l.length x ∧ insWf x) : (newCd l).Wf :=
  ⟨h1, h2, h, rfl, by intro x hx; simp [newCd] at hx; subst hx; exact ⟨by omega, by omega⟩, ⟨by simp [newCd], by simp [newCd]⟩, by simp [newCd], fun _ => by simp [newCd]; omega⟩
end Go.Proofs.Ytmbofohdjdipdaa
