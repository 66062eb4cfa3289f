/-
  What package version computes: plain functions on numbers and lists.
-/
import Derived.Handy
namespace Go.Proofs.Ytbhcgmiglkocbaa

def wordB (w : Int) : Bool := decide (0 ≤ w) && decide (w < 65536)
/-- which words may be read or written under a version -/
structure OkV (v f n : Int) : Prop where
  v0 : 0 ≤ v
  v1 : v < 65536
  n0 : 0 ≤ n
  n1 : n ≤ 256
  fr : 0 < n → 0 ≤ f ∧ f < 65536 ∧ f + n ≤ 65536 ∧ (v < f ∨ f + n ≤ v)
instance (v f n : Int) : Decidable (OkV v f n) := decidable_of_iff (0 ≤ v ∧ v < 65536 ∧ 0 ≤ n ∧ n ≤ 256 ∧ (0 < n → 0 ≤ f ∧ f < 65536 ∧ f + n ≤ 65536 ∧ (v < f ∨ f + n ≤ v))) ⟨fun ⟨a, b, c, d, e⟩ => ⟨a, b, c, d, e⟩, fun ⟨a, b, c, d, e⟩ => ⟨a, b, c, d, e⟩⟩
/-- what a reader holds -/
structure Rs where
  lk : Bool
  fst : Int
  l : List Int
  tr : Int
  res : Int
  ed : Bool
/-- the word that it reads next -/
def rAt (v f n : Int) (s : Rs) : Int := if s.lk = true ∧ (s.l.length : Int) < n then f + (s.l.length : Int) else v
structure RO where
  s : Rs
  wt : Bool
  e : Int
/-- a step of a reader that has read x -/
def rGo (n : Int) (s : Rs) (x : Int) : RO :=
  if s.lk = false then (if x % 2 = 1 then ⟨s, true, 0⟩ else ⟨{ s with lk := true, fst := x }, false, 0⟩)
  else if (s.l.length : Int) < n then ⟨{ s with l := s.l ++ [x] }, false, 0⟩
  else if x = s.fst then ⟨{ s with res := 1, ed := true }, false, 0⟩
  else ⟨{ s with tr := s.tr - 1, lk := false, l := [], ed := s.tr - 1 == 0 }, false, 0⟩
end Go.Proofs.Ytbhcgmiglkocbaa
