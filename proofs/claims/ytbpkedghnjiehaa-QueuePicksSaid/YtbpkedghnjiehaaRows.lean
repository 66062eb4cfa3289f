/-
  No cell of these rows narrows 'for every input' (looked for: loops, veiled, ifaces, maps, wideKeys, modest, calm, conditions, laid).
  DERIVED. THE GIVEN ROWS OF THIS SEAT. 7 by the template 'for every input the law returns true; each argument reads behind the call as it read before'; 0 by the template 'total and deterministic' (their statements: YtbpkedghnjiehaaTotals.lean).
  GIVEN WITH THE SEED: the statements are not yours to turn. If you find one false, say at which input.
  Laid BY PROGRAM, IN A SANDBOX (cutbox-rows.mjs): the forced cells as the released guide's own fill.sh prints them over the translation aa7ce980c6c27f4b… (all of the seat's roots in one cut). By AI agents, Wed Nov 11 2026. No macro, syntax, notation, axiom, sorry.
-/
import Derived.Test.YtbpkedghnjiehaaChecked
import GoSem.Claim
import GoSem.ClaimJoined
import GoSem.ClaimMapViews
import Derived.JoinedTies
import Derived.KernelRfl
namespace Go.Proofs.Ytbpkedghnjiehaa
/- THE CELL 'sum', in the pinned program and in every row, IS THE sha256 OF THE DUMP (.gsa) THAT YtbpkedghnjiehaaProg.lean LOADS. Nothing in Lean hashes anything: it is a label: what it is worth is what the hold of that sum in a sandbox is worth. -/
noncomputable def Try.pinned : Pinned := { name := "ytbpkedghnjiehaa", sum := "aa7ce980c6c27f4b549126f3adf4949ff2a0b0b8a93f719dba2881176f9847fe", checked := Try.checked }
namespace Rows
def none {H : Type} : Left H := { results := [], args := [] }

/-- 'ticketlinelaw03.QueueMakes': WHATEVER THE INPUT: true; the input reads as it did. -/
def queueMakesSpec : ChangeSpec := { name := "queueMakes", fn := fun _ => fun
  | [d1, d2, d3] => { results := [.lit (.bool true)], args := [d1, d2, d3] }
  | _ => none }
def queueMakesRow : OpenClaim := { program := "ytbpkedghnjiehaa", sum := "aa7ce980c6c27f4b549126f3adf4949ff2a0b0b8a93f719dba2881176f9847fe", func := "ticketline/ticketlinelaw03.QueueMakes", spec := "queueMakes", unfollowed := true, recurses := true, apart := false }
def QueueMakesSaid : Prop := queueMakesRow.holds Try.pinned (OpenSpec.ofChange queueMakesSpec)

/-- ITS FALSE NEIGHBOUR: 'it returns false'. Refute it at one input. -/
def queueMakesWrong : ChangeSpec := { name := "queueMakes", fn := fun _ => fun
  | [d1, d2, d3] => { results := [.lit (.bool false)], args := [d1, d2, d3] }
  | _ => none }
def QueueMakesWrongFalsely : Prop := queueMakesRow.holds Try.pinned (OpenSpec.ofChange queueMakesWrong)

/-- 'ticketlinelaw03.QueueLooks': WHATEVER THE INPUT: true; the input reads as it did. -/
def queueLooksSpec : ChangeSpec := { name := "queueLooks", fn := fun _ => fun
  | [d1, d2, d3] => { results := [.lit (.bool true)], args := [d1, d2, d3] }
  | _ => none }
def queueLooksRow : OpenClaim := { program := "ytbpkedghnjiehaa", sum := "aa7ce980c6c27f4b549126f3adf4949ff2a0b0b8a93f719dba2881176f9847fe", func := "ticketline/ticketlinelaw03.QueueLooks", spec := "queueLooks", unfollowed := true, recurses := true, apart := false }
def QueueLooksSaid : Prop := queueLooksRow.holds Try.pinned (OpenSpec.ofChange queueLooksSpec)

/-- ITS FALSE NEIGHBOUR: 'it returns false'. Refute it at one input. -/
def queueLooksWrong : ChangeSpec := { name := "queueLooks", fn := fun _ => fun
  | [d1, d2, d3] => { results := [.lit (.bool false)], args := [d1, d2, d3] }
  | _ => none }
def QueueLooksWrongFalsely : Prop := queueLooksRow.holds Try.pinned (OpenSpec.ofChange queueLooksWrong)

/-- 'ticketlinelaw03.QueueLongs': WHATEVER THE INPUT: true; the input reads as it did. -/
def queueLongsSpec : ChangeSpec := { name := "queueLongs", fn := fun _ => fun
  | [d1, d2] => { results := [.lit (.bool true)], args := [d1, d2] }
  | _ => none }
def queueLongsRow : OpenClaim := { program := "ytbpkedghnjiehaa", sum := "aa7ce980c6c27f4b549126f3adf4949ff2a0b0b8a93f719dba2881176f9847fe", func := "ticketline/ticketlinelaw03.QueueLongs", spec := "queueLongs", unfollowed := true, recurses := true, apart := false }
def QueueLongsSaid : Prop := queueLongsRow.holds Try.pinned (OpenSpec.ofChange queueLongsSpec)

/-- ITS FALSE NEIGHBOUR: 'it returns false'. Refute it at one input. -/
def queueLongsWrong : ChangeSpec := { name := "queueLongs", fn := fun _ => fun
  | [d1, d2] => { results := [.lit (.bool false)], args := [d1, d2] }
  | _ => none }
def QueueLongsWrongFalsely : Prop := queueLongsRow.holds Try.pinned (OpenSpec.ofChange queueLongsWrong)

/-- 'ticketlinelaw03.QueueNew': WHATEVER THE INPUT: true; the input reads as it did. -/
def queueNewSpec : ChangeSpec := { name := "queueNew", fn := fun _ => fun
  | [d1, d2] => { results := [.lit (.bool true)], args := [d1, d2] }
  | _ => none }
def queueNewRow : OpenClaim := { program := "ytbpkedghnjiehaa", sum := "aa7ce980c6c27f4b549126f3adf4949ff2a0b0b8a93f719dba2881176f9847fe", func := "ticketline/ticketlinelaw03.QueueNew", spec := "queueNew", unfollowed := true, recurses := true, apart := false }
def QueueNewSaid : Prop := queueNewRow.holds Try.pinned (OpenSpec.ofChange queueNewSpec)

/-- ITS FALSE NEIGHBOUR: 'it returns false'. Refute it at one input. -/
def queueNewWrong : ChangeSpec := { name := "queueNew", fn := fun _ => fun
  | [d1, d2] => { results := [.lit (.bool false)], args := [d1, d2] }
  | _ => none }
def QueueNewWrongFalsely : Prop := queueNewRow.holds Try.pinned (OpenSpec.ofChange queueNewWrong)

/-- 'ticketlinelaw03.QueueHolds': WHATEVER THE INPUT: true; the input reads as it did. -/
def queueHoldsSpec : ChangeSpec := { name := "queueHolds", fn := fun _ => fun
  | [d1, d2, d3] => { results := [.lit (.bool true)], args := [d1, d2, d3] }
  | _ => none }
def queueHoldsRow : OpenClaim := { program := "ytbpkedghnjiehaa", sum := "aa7ce980c6c27f4b549126f3adf4949ff2a0b0b8a93f719dba2881176f9847fe", func := "ticketline/ticketlinelaw03.QueueHolds", spec := "queueHolds", unfollowed := true, recurses := true, apart := false }
def QueueHoldsSaid : Prop := queueHoldsRow.holds Try.pinned (OpenSpec.ofChange queueHoldsSpec)

/-- ITS FALSE NEIGHBOUR: 'it returns false'. Refute it at one input. -/
def queueHoldsWrong : ChangeSpec := { name := "queueHolds", fn := fun _ => fun
  | [d1, d2, d3] => { results := [.lit (.bool false)], args := [d1, d2, d3] }
  | _ => none }
def QueueHoldsWrongFalsely : Prop := queueHoldsRow.holds Try.pinned (OpenSpec.ofChange queueHoldsWrong)

/-- 'ticketlinelaw03.QueuePicks': WHATEVER THE INPUT: true; the input reads as it did. -/
def queuePicksSpec : ChangeSpec := { name := "queuePicks", fn := fun _ => fun
  | [d1, d2, d3, d4] => { results := [.lit (.bool true)], args := [d1, d2, d3, d4] }
  | _ => none }
def queuePicksRow : OpenClaim := { program := "ytbpkedghnjiehaa", sum := "aa7ce980c6c27f4b549126f3adf4949ff2a0b0b8a93f719dba2881176f9847fe", func := "ticketline/ticketlinelaw03.QueuePicks", spec := "queuePicks", unfollowed := true, recurses := true, apart := false }
def QueuePicksSaid : Prop := queuePicksRow.holds Try.pinned (OpenSpec.ofChange queuePicksSpec)

/-- ITS FALSE NEIGHBOUR: 'it returns false'. Refute it at one input. -/
def queuePicksWrong : ChangeSpec := { name := "queuePicks", fn := fun _ => fun
  | [d1, d2, d3, d4] => { results := [.lit (.bool false)], args := [d1, d2, d3, d4] }
  | _ => none }
def QueuePicksWrongFalsely : Prop := queuePicksRow.holds Try.pinned (OpenSpec.ofChange queuePicksWrong)

/-- 'ticketlinelaw03.QueueNil': WHATEVER THE INPUT: true; the input reads as it did. -/
def queueNilSpec : ChangeSpec := { name := "queueNil", fn := fun _ => fun
  | [d] => { results := [.lit (.bool true)], args := [d] }
  | _ => none }
def queueNilRow : OpenClaim := { program := "ytbpkedghnjiehaa", sum := "aa7ce980c6c27f4b549126f3adf4949ff2a0b0b8a93f719dba2881176f9847fe", func := "ticketline/ticketlinelaw03.QueueNil", spec := "queueNil", unfollowed := true, recurses := true, apart := false }
def QueueNilSaid : Prop := queueNilRow.holds Try.pinned (OpenSpec.ofChange queueNilSpec)

/-- ITS FALSE NEIGHBOUR: 'it returns false'. Refute it at one input. -/
def queueNilWrong : ChangeSpec := { name := "queueNil", fn := fun _ => fun
  | [d] => { results := [.lit (.bool false)], args := [d] }
  | _ => none }
def QueueNilWrongFalsely : Prop := queueNilRow.holds Try.pinned (OpenSpec.ofChange queueNilWrong)

/- THE SECOND FORM. 'bulk': how many values and letters a reading holds, each counted each time it is reached (what is shared counts as often as it is met; a slice's spare places count too). A statement '..UptoSaid' is the law's where the arguments, and the package variables that the reading takes, are together of bulk at most 1048576: NARROWER than '..Said'. Prove '..Said' where nothing that the law and all that it calls make is longer than what came in: it says more and counts as full. Else prove '..UptoSaid'. A law counts once. -/
mutual
def uptoBulk {H : Type} : DataW H → Nat
  | .lit (.string bytes) => bytes.length + 1
  | .lit _ => 1
  | .nil => 1
  | .ptr d => uptoBulk d + 1
  | .slice elems spare => uptoBulkAll elems + uptoBulkAll spare + 1
  | .agg parts => uptoBulkAll parts + 1
  | .iface _ d => uptoBulk d + 1
  | .map entries => uptoBulkEntries entries + 1
  | .held _ => 1
def uptoBulkAll {H : Type} : List (DataW H) → Nat
  | [] => 0
  | d :: r => uptoBulk d + uptoBulkAll r
def uptoBulkEntries {H : Type} : List (Lit × DataW H) → Nat
  | [] => 0
  | x :: r => uptoBulkEntry x + uptoBulkEntries r
def uptoBulkEntry {H : Type} : Lit × DataW H → Nat
  | (.string bytes, d) => bytes.length + uptoBulk d + 1
  | (_, d) => uptoBulk d + 1
 end
def uptoSmall : (H : Type) → List (DataW H) → Bool := fun _ ds => decide (uptoBulkAll ds ≤ 1048576)
def OpenSpec.upto (s : _root_.Go.ChangeSpec) : _root_.Go.OpenSpec := { _root_.Go.OpenSpec.ofChange s with cond := some uptoSmall }

/-- 'ticketlinelaw03.QueueMakes', WHERE WHAT IT READS IS OF BULK AT MOST 1048576: true; the input reads as it did. -/
def queueMakesUptoRow : OpenClaim := { program := "ytbpkedghnjiehaa", sum := "aa7ce980c6c27f4b549126f3adf4949ff2a0b0b8a93f719dba2881176f9847fe", func := "ticketline/ticketlinelaw03.QueueMakes", spec := "queueMakes", unfollowed := true, recurses := true, apart := false, narrowed := true }
def QueueMakesUptoSaid : Prop := queueMakesUptoRow.holds Try.pinned (OpenSpec.upto queueMakesSpec)

/-- 'ticketlinelaw03.QueueLooks', WHERE WHAT IT READS IS OF BULK AT MOST 1048576: true; the input reads as it did. -/
def queueLooksUptoRow : OpenClaim := { program := "ytbpkedghnjiehaa", sum := "aa7ce980c6c27f4b549126f3adf4949ff2a0b0b8a93f719dba2881176f9847fe", func := "ticketline/ticketlinelaw03.QueueLooks", spec := "queueLooks", unfollowed := true, recurses := true, apart := false, narrowed := true }
def QueueLooksUptoSaid : Prop := queueLooksUptoRow.holds Try.pinned (OpenSpec.upto queueLooksSpec)

/-- 'ticketlinelaw03.QueueLongs', WHERE WHAT IT READS IS OF BULK AT MOST 1048576: true; the input reads as it did. -/
def queueLongsUptoRow : OpenClaim := { program := "ytbpkedghnjiehaa", sum := "aa7ce980c6c27f4b549126f3adf4949ff2a0b0b8a93f719dba2881176f9847fe", func := "ticketline/ticketlinelaw03.QueueLongs", spec := "queueLongs", unfollowed := true, recurses := true, apart := false, narrowed := true }
def QueueLongsUptoSaid : Prop := queueLongsUptoRow.holds Try.pinned (OpenSpec.upto queueLongsSpec)

/-- 'ticketlinelaw03.QueueNew', WHERE WHAT IT READS IS OF BULK AT MOST 1048576: true; the input reads as it did. -/
def queueNewUptoRow : OpenClaim := { program := "ytbpkedghnjiehaa", sum := "aa7ce980c6c27f4b549126f3adf4949ff2a0b0b8a93f719dba2881176f9847fe", func := "ticketline/ticketlinelaw03.QueueNew", spec := "queueNew", unfollowed := true, recurses := true, apart := false, narrowed := true }
def QueueNewUptoSaid : Prop := queueNewUptoRow.holds Try.pinned (OpenSpec.upto queueNewSpec)

/-- 'ticketlinelaw03.QueueHolds', WHERE WHAT IT READS IS OF BULK AT MOST 1048576: true; the input reads as it did. -/
def queueHoldsUptoRow : OpenClaim := { program := "ytbpkedghnjiehaa", sum := "aa7ce980c6c27f4b549126f3adf4949ff2a0b0b8a93f719dba2881176f9847fe", func := "ticketline/ticketlinelaw03.QueueHolds", spec := "queueHolds", unfollowed := true, recurses := true, apart := false, narrowed := true }
def QueueHoldsUptoSaid : Prop := queueHoldsUptoRow.holds Try.pinned (OpenSpec.upto queueHoldsSpec)

/-- 'ticketlinelaw03.QueuePicks', WHERE WHAT IT READS IS OF BULK AT MOST 1048576: true; the input reads as it did. -/
def queuePicksUptoRow : OpenClaim := { program := "ytbpkedghnjiehaa", sum := "aa7ce980c6c27f4b549126f3adf4949ff2a0b0b8a93f719dba2881176f9847fe", func := "ticketline/ticketlinelaw03.QueuePicks", spec := "queuePicks", unfollowed := true, recurses := true, apart := false, narrowed := true }
def QueuePicksUptoSaid : Prop := queuePicksUptoRow.holds Try.pinned (OpenSpec.upto queuePicksSpec)

/-- 'ticketlinelaw03.QueueNil', WHERE WHAT IT READS IS OF BULK AT MOST 1048576: true; the input reads as it did. -/
def queueNilUptoRow : OpenClaim := { program := "ytbpkedghnjiehaa", sum := "aa7ce980c6c27f4b549126f3adf4949ff2a0b0b8a93f719dba2881176f9847fe", func := "ticketline/ticketlinelaw03.QueueNil", spec := "queueNil", unfollowed := true, recurses := true, apart := false, narrowed := true }
def QueueNilUptoSaid : Prop := queueNilUptoRow.holds Try.pinned (OpenSpec.upto queueNilSpec)

end Rows
end Go.Proofs.Ytbpkedghnjiehaa
