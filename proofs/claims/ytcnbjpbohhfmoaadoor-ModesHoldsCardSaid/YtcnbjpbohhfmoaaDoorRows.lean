/-
  NARROWER THAN 'FOR EVERY INPUT', by the rows' own cells (each row's printed sentence says how): ModesFits: laid · ModesAlls: laid · ModesGoes: laid · ModesGrants: laid · ModesWords: laid · ModesHolds: laid.
  DERIVED. THE GIVEN ROWS OF THIS SEAT. 6 by the template 'for every input the law returns true; each argument reads behind the call as it read before'; 0 by the template 'total and deterministic' (their statements: YtcnbjpbohhfmoaaDoorTotals.lean).
  GIVEN WITH THE SEED: the statements are not yours to turn. If you find one false, say at which input.
  Laid BY PROGRAM, IN A SANDBOX (cutbox-rows.mjs): the forced cells as the released guide's own fill.sh prints them over the translation e5e4f9e4d21657b8… (all of the seat's roots in one cut). By AI agents, Wed Nov 11 2026. No macro, syntax, notation, axiom, sorry.
-/
import Derived.Test.YtcnbjpbohhfmoaaDoorChecked
import GoSem.Claim
import GoSem.ClaimJoined
import GoSem.ClaimMapViews
import Derived.JoinedTies
import Derived.KernelRfl
namespace Go.Proofs.YtcnbjpbohhfmoaaDoor
/- THE CELL 'sum', in the pinned program and in every row, IS THE sha256 OF THE DUMP (.gsa) THAT YtcnbjpbohhfmoaaDoorProg.lean LOADS. Nothing in Lean hashes anything: it is a label: what it is worth is what the hold of that sum in a sandbox is worth. -/
noncomputable def Tryd.pinned : Pinned := { name := "ytcnbjpbohhfmoaadoor", sum := "e5e4f9e4d21657b8d3dc1e7fe3e7ac2499df127c71cbb33b524b9cefd338868c", checked := Tryd.checked }
namespace Rows
def none {H : Type} : Left H := { results := [], args := [] }

/- WHAT THE LISTED PACKAGE-LEVEL VARIABLES READ AS WHEN THE CALL BEGINS. Each datum BY PROGRAM (the guide's laid-datum.mjs) off the statement by which the dump's own 'gosem.cut.vars' lays the variable. In a bare row this is a premise. The card (YtcnbjpbohhfmoaaDoorCards.lean) ties it to the program's text. -/
def laid_ticketline_modes_fits {H : Type} : DataW H := .agg [.agg [.lit (.bool false), .lit (.bool false), .lit (.bool false), .lit (.bool false)], .agg [.lit (.bool false), .lit (.bool true), .lit (.bool true), .lit (.bool false)], .agg [.lit (.bool false), .lit (.bool true), .lit (.bool false), .lit (.bool false)], .agg [.lit (.bool false), .lit (.bool false), .lit (.bool false), .lit (.bool false)]]
def laid_ticketline_modes_words {H : Type} : DataW H := .agg [.lit (.string []), .lit (.string [115, 104, 97, 114, 101, 100]), .lit (.string [117, 112, 100, 97, 116, 101]), .lit (.string [101, 120, 99, 108, 117, 115, 105, 118, 101])]

/-- 'ticketlinelaw06.ModesFits': WHATEVER THE INPUT: true; the input reads as it did. -/
def modesFitsSpec : ChangeSpec := { name := "modesFits", fn := fun _ => fun
  | [d1, d2] => { results := [.lit (.bool true)], args := [d1, d2] }
  | _ => none }
def modesFitsRow : OpenClaim := { program := "ytcnbjpbohhfmoaadoor", sum := "e5e4f9e4d21657b8d3dc1e7fe3e7ac2499df127c71cbb33b524b9cefd338868c", func := "ticketline/ticketlinelaw06.ModesFits", spec := "modesFits", unfollowed := true, recurses := true, named := ["ticketline/modes.fits", "ticketline/modes.words"], apart := false, laid := [("ticketline/modes.fits", laid_ticketline_modes_fits), ("ticketline/modes.words", laid_ticketline_modes_words)] }
def ModesFitsSaid : Prop := modesFitsRow.holds Tryd.pinned (OpenSpec.ofChange modesFitsSpec)

/-- ITS FALSE NEIGHBOUR: 'it returns false'. Refute it at one input. -/
def modesFitsWrong : ChangeSpec := { name := "modesFits", fn := fun _ => fun
  | [d1, d2] => { results := [.lit (.bool false)], args := [d1, d2] }
  | _ => none }
def ModesFitsWrongFalsely : Prop := modesFitsRow.holds Tryd.pinned (OpenSpec.ofChange modesFitsWrong)

/-- 'ticketlinelaw06.ModesAlls': WHATEVER THE INPUT: true; the input reads as it did. -/
def modesAllsSpec : ChangeSpec := { name := "modesAlls", fn := fun _ => fun
  | [d] => { results := [.lit (.bool true)], args := [d] }
  | _ => none }
def modesAllsRow : OpenClaim := { program := "ytcnbjpbohhfmoaadoor", sum := "e5e4f9e4d21657b8d3dc1e7fe3e7ac2499df127c71cbb33b524b9cefd338868c", func := "ticketline/ticketlinelaw06.ModesAlls", spec := "modesAlls", unfollowed := true, recurses := true, named := ["ticketline/modes.fits", "ticketline/modes.words"], apart := false, laid := [("ticketline/modes.fits", laid_ticketline_modes_fits), ("ticketline/modes.words", laid_ticketline_modes_words)] }
def ModesAllsSaid : Prop := modesAllsRow.holds Tryd.pinned (OpenSpec.ofChange modesAllsSpec)

/-- ITS FALSE NEIGHBOUR: 'it returns false'. Refute it at one input. -/
def modesAllsWrong : ChangeSpec := { name := "modesAlls", fn := fun _ => fun
  | [d] => { results := [.lit (.bool false)], args := [d] }
  | _ => none }
def ModesAllsWrongFalsely : Prop := modesAllsRow.holds Tryd.pinned (OpenSpec.ofChange modesAllsWrong)

/-- 'ticketlinelaw06.ModesGoes': WHATEVER THE INPUT: true; the input reads as it did. -/
def modesGoesSpec : ChangeSpec := { name := "modesGoes", fn := fun _ => fun
  | [d1, d2, d3, d4] => { results := [.lit (.bool true)], args := [d1, d2, d3, d4] }
  | _ => none }
def modesGoesRow : OpenClaim := { program := "ytcnbjpbohhfmoaadoor", sum := "e5e4f9e4d21657b8d3dc1e7fe3e7ac2499df127c71cbb33b524b9cefd338868c", func := "ticketline/ticketlinelaw06.ModesGoes", spec := "modesGoes", unfollowed := true, recurses := true, named := ["ticketline/modes.fits", "ticketline/modes.words"], apart := false, laid := [("ticketline/modes.fits", laid_ticketline_modes_fits), ("ticketline/modes.words", laid_ticketline_modes_words)] }
def ModesGoesSaid : Prop := modesGoesRow.holds Tryd.pinned (OpenSpec.ofChange modesGoesSpec)

/-- ITS FALSE NEIGHBOUR: 'it returns false'. Refute it at one input. -/
def modesGoesWrong : ChangeSpec := { name := "modesGoes", fn := fun _ => fun
  | [d1, d2, d3, d4] => { results := [.lit (.bool false)], args := [d1, d2, d3, d4] }
  | _ => none }
def ModesGoesWrongFalsely : Prop := modesGoesRow.holds Tryd.pinned (OpenSpec.ofChange modesGoesWrong)

/-- 'ticketlinelaw06.ModesGrants': WHATEVER THE INPUT: true; the input reads as it did. -/
def modesGrantsSpec : ChangeSpec := { name := "modesGrants", fn := fun _ => fun
  | [d1, d2, d3] => { results := [.lit (.bool true)], args := [d1, d2, d3] }
  | _ => none }
def modesGrantsRow : OpenClaim := { program := "ytcnbjpbohhfmoaadoor", sum := "e5e4f9e4d21657b8d3dc1e7fe3e7ac2499df127c71cbb33b524b9cefd338868c", func := "ticketline/ticketlinelaw06.ModesGrants", spec := "modesGrants", unfollowed := true, recurses := true, named := ["ticketline/modes.fits", "ticketline/modes.words"], apart := false, laid := [("ticketline/modes.fits", laid_ticketline_modes_fits), ("ticketline/modes.words", laid_ticketline_modes_words)] }
def ModesGrantsSaid : Prop := modesGrantsRow.holds Tryd.pinned (OpenSpec.ofChange modesGrantsSpec)

/-- ITS FALSE NEIGHBOUR: 'it returns false'. Refute it at one input. -/
def modesGrantsWrong : ChangeSpec := { name := "modesGrants", fn := fun _ => fun
  | [d1, d2, d3] => { results := [.lit (.bool false)], args := [d1, d2, d3] }
  | _ => none }
def ModesGrantsWrongFalsely : Prop := modesGrantsRow.holds Tryd.pinned (OpenSpec.ofChange modesGrantsWrong)

/-- 'ticketlinelaw06.ModesWords': WHATEVER THE INPUT: true; the input reads as it did. -/
def modesWordsSpec : ChangeSpec := { name := "modesWords", fn := fun _ => fun
  | [d] => { results := [.lit (.bool true)], args := [d] }
  | _ => none }
def modesWordsRow : OpenClaim := { program := "ytcnbjpbohhfmoaadoor", sum := "e5e4f9e4d21657b8d3dc1e7fe3e7ac2499df127c71cbb33b524b9cefd338868c", func := "ticketline/ticketlinelaw06.ModesWords", spec := "modesWords", unfollowed := true, recurses := true, named := ["ticketline/modes.fits", "ticketline/modes.words"], apart := false, laid := [("ticketline/modes.fits", laid_ticketline_modes_fits), ("ticketline/modes.words", laid_ticketline_modes_words)] }
def ModesWordsSaid : Prop := modesWordsRow.holds Tryd.pinned (OpenSpec.ofChange modesWordsSpec)

/-- ITS FALSE NEIGHBOUR: 'it returns false'. Refute it at one input. -/
def modesWordsWrong : ChangeSpec := { name := "modesWords", fn := fun _ => fun
  | [d] => { results := [.lit (.bool false)], args := [d] }
  | _ => none }
def ModesWordsWrongFalsely : Prop := modesWordsRow.holds Tryd.pinned (OpenSpec.ofChange modesWordsWrong)

/-- 'ticketlinelaw06.ModesHolds': WHATEVER THE INPUT: true; the input reads as it did. -/
def modesHoldsSpec : ChangeSpec := { name := "modesHolds", fn := fun _ => fun
  | [d1, d2, d3] => { results := [.lit (.bool true)], args := [d1, d2, d3] }
  | _ => none }
def modesHoldsRow : OpenClaim := { program := "ytcnbjpbohhfmoaadoor", sum := "e5e4f9e4d21657b8d3dc1e7fe3e7ac2499df127c71cbb33b524b9cefd338868c", func := "ticketline/ticketlinelaw06.ModesHolds", spec := "modesHolds", unfollowed := true, recurses := true, named := ["ticketline/modes.fits", "ticketline/modes.words"], apart := false, laid := [("ticketline/modes.fits", laid_ticketline_modes_fits), ("ticketline/modes.words", laid_ticketline_modes_words)] }
def ModesHoldsSaid : Prop := modesHoldsRow.holds Tryd.pinned (OpenSpec.ofChange modesHoldsSpec)

/-- ITS FALSE NEIGHBOUR: 'it returns false'. Refute it at one input. -/
def modesHoldsWrong : ChangeSpec := { name := "modesHolds", fn := fun _ => fun
  | [d1, d2, d3] => { results := [.lit (.bool false)], args := [d1, d2, d3] }
  | _ => none }
def ModesHoldsWrongFalsely : Prop := modesHoldsRow.holds Tryd.pinned (OpenSpec.ofChange modesHoldsWrong)

/- THE SECOND FORM. 'bulk': how many values and letters a reading holds, each counted each time it is reached (what is shared counts as often as it is met; a slice's spare places count too). A statement '..UptoSaid' is the law's where the arguments, and the package variables that the reading takes, are together of bulk at most 1048576: NARROWER than '..Said'. Prove '..Said' where nothing that the law and all that it calls make is longer than what came in: it says more and counts as full. Else prove '..UptoSaid'. A law counts once. -/
mutual
def uptoBulk {H : Type} : DataW H → Nat
  | .lit (.string bytes) => bytes.length + 1
  | .lit _ => 1
  | .nil => 1
  | .ptr d => uptoBulk d + 1
  | .slice elems spare => uptoBulkAll elems + uptoBulkAll spare + 1
  | .agg parts => uptoBulkAll parts + 1
  | .iface _ d => uptoBulk d + 1
  | .map entries => uptoBulkEntries entries + 1
  | .held _ => 1
def uptoBulkAll {H : Type} : List (DataW H) → Nat
  | [] => 0
  | d :: r => uptoBulk d + uptoBulkAll r
def uptoBulkEntries {H : Type} : List (Lit × DataW H) → Nat
  | [] => 0
  | x :: r => uptoBulkEntry x + uptoBulkEntries r
def uptoBulkEntry {H : Type} : Lit × DataW H → Nat
  | (.string bytes, d) => bytes.length + uptoBulk d + 1
  | (_, d) => uptoBulk d + 1
 end
def uptoSmall : (H : Type) → List (DataW H) → Bool := fun _ ds => decide (uptoBulkAll ds ≤ 1048576)
def OpenSpec.upto (s : _root_.Go.ChangeSpec) : _root_.Go.OpenSpec := { _root_.Go.OpenSpec.ofChange s with cond := some uptoSmall }

/-- 'ticketlinelaw06.ModesFits', WHERE WHAT IT READS IS OF BULK AT MOST 1048576: true; the input reads as it did. -/
def modesFitsUptoRow : OpenClaim := { program := "ytcnbjpbohhfmoaadoor", sum := "e5e4f9e4d21657b8d3dc1e7fe3e7ac2499df127c71cbb33b524b9cefd338868c", func := "ticketline/ticketlinelaw06.ModesFits", spec := "modesFits", unfollowed := true, recurses := true, named := ["ticketline/modes.fits", "ticketline/modes.words"], apart := false, laid := [("ticketline/modes.fits", laid_ticketline_modes_fits), ("ticketline/modes.words", laid_ticketline_modes_words)], narrowed := true }
def ModesFitsUptoSaid : Prop := modesFitsUptoRow.holds Tryd.pinned (OpenSpec.upto modesFitsSpec)

/-- 'ticketlinelaw06.ModesAlls', WHERE WHAT IT READS IS OF BULK AT MOST 1048576: true; the input reads as it did. -/
def modesAllsUptoRow : OpenClaim := { program := "ytcnbjpbohhfmoaadoor", sum := "e5e4f9e4d21657b8d3dc1e7fe3e7ac2499df127c71cbb33b524b9cefd338868c", func := "ticketline/ticketlinelaw06.ModesAlls", spec := "modesAlls", unfollowed := true, recurses := true, named := ["ticketline/modes.fits", "ticketline/modes.words"], apart := false, laid := [("ticketline/modes.fits", laid_ticketline_modes_fits), ("ticketline/modes.words", laid_ticketline_modes_words)], narrowed := true }
def ModesAllsUptoSaid : Prop := modesAllsUptoRow.holds Tryd.pinned (OpenSpec.upto modesAllsSpec)

/-- 'ticketlinelaw06.ModesGoes', WHERE WHAT IT READS IS OF BULK AT MOST 1048576: true; the input reads as it did. -/
def modesGoesUptoRow : OpenClaim := { program := "ytcnbjpbohhfmoaadoor", sum := "e5e4f9e4d21657b8d3dc1e7fe3e7ac2499df127c71cbb33b524b9cefd338868c", func := "ticketline/ticketlinelaw06.ModesGoes", spec := "modesGoes", unfollowed := true, recurses := true, named := ["ticketline/modes.fits", "ticketline/modes.words"], apart := false, laid := [("ticketline/modes.fits", laid_ticketline_modes_fits), ("ticketline/modes.words", laid_ticketline_modes_words)], narrowed := true }
def ModesGoesUptoSaid : Prop := modesGoesUptoRow.holds Tryd.pinned (OpenSpec.upto modesGoesSpec)

/-- 'ticketlinelaw06.ModesGrants', WHERE WHAT IT READS IS OF BULK AT MOST 1048576: true; the input reads as it did. -/
def modesGrantsUptoRow : OpenClaim := { program := "ytcnbjpbohhfmoaadoor", sum := "e5e4f9e4d21657b8d3dc1e7fe3e7ac2499df127c71cbb33b524b9cefd338868c", func := "ticketline/ticketlinelaw06.ModesGrants", spec := "modesGrants", unfollowed := true, recurses := true, named := ["ticketline/modes.fits", "ticketline/modes.words"], apart := false, laid := [("ticketline/modes.fits", laid_ticketline_modes_fits), ("ticketline/modes.words", laid_ticketline_modes_words)], narrowed := true }
def ModesGrantsUptoSaid : Prop := modesGrantsUptoRow.holds Tryd.pinned (OpenSpec.upto modesGrantsSpec)

/-- 'ticketlinelaw06.ModesWords', WHERE WHAT IT READS IS OF BULK AT MOST 1048576: true; the input reads as it did. -/
def modesWordsUptoRow : OpenClaim := { program := "ytcnbjpbohhfmoaadoor", sum := "e5e4f9e4d21657b8d3dc1e7fe3e7ac2499df127c71cbb33b524b9cefd338868c", func := "ticketline/ticketlinelaw06.ModesWords", spec := "modesWords", unfollowed := true, recurses := true, named := ["ticketline/modes.fits", "ticketline/modes.words"], apart := false, laid := [("ticketline/modes.fits", laid_ticketline_modes_fits), ("ticketline/modes.words", laid_ticketline_modes_words)], narrowed := true }
def ModesWordsUptoSaid : Prop := modesWordsUptoRow.holds Tryd.pinned (OpenSpec.upto modesWordsSpec)

/-- 'ticketlinelaw06.ModesHolds', WHERE WHAT IT READS IS OF BULK AT MOST 1048576: true; the input reads as it did. -/
def modesHoldsUptoRow : OpenClaim := { program := "ytcnbjpbohhfmoaadoor", sum := "e5e4f9e4d21657b8d3dc1e7fe3e7ac2499df127c71cbb33b524b9cefd338868c", func := "ticketline/ticketlinelaw06.ModesHolds", spec := "modesHolds", unfollowed := true, recurses := true, named := ["ticketline/modes.fits", "ticketline/modes.words"], apart := false, laid := [("ticketline/modes.fits", laid_ticketline_modes_fits), ("ticketline/modes.words", laid_ticketline_modes_words)], narrowed := true }
def ModesHoldsUptoSaid : Prop := modesHoldsUptoRow.holds Tryd.pinned (OpenSpec.upto modesHoldsSpec)

end Rows
end Go.Proofs.YtcnbjpbohhfmoaaDoor
