/-
  No cell of these rows narrows 'for every input' (looked for: loops, veiled, ifaces, maps, wideKeys, modest, calm, conditions, laid).
  DERIVED. THE GIVEN ROWS OF THIS SEAT. 5 by the template 'for every input the law returns true; each argument reads behind the call as it read before'; 0 by the template 'total and deterministic' (their statements: YtpndlggahdefcaaTotals.lean).
  GIVEN WITH THE SEED: the statements are not yours to turn. If you find one false, say at which input.
  Laid BY PROGRAM, IN A SANDBOX (cutbox-rows.mjs): the forced cells as the released guide's own fill.sh prints them over the translation 54b848e08f666837… (all of the seat's roots in one cut). By AI agents, Wed Nov 11 2026. No macro, syntax, notation, axiom, sorry.
-/
import Derived.Test.YtpndlggahdefcaaChecked
import GoSem.Claim
import GoSem.ClaimJoined
import GoSem.ClaimMapViews
import Derived.JoinedTies
import Derived.KernelRfl
namespace Go.Proofs.Ytpndlggahdefcaa
/- THE CELL 'sum', in the pinned program and in every row, IS THE sha256 OF THE DUMP (.gsa) THAT YtpndlggahdefcaaProg.lean LOADS. Nothing in Lean hashes anything: it is a label: what it is worth is what the hold of that sum in a sandbox is worth. -/
noncomputable def Try.pinned : Pinned := { name := "ytpndlggahdefcaa", sum := "54b848e08f666837e85173c863b205822779ca9b24cc72d564c17aba60fcfcfd", checked := Try.checked }
namespace Rows
def none {H : Type} : Left H := { results := [], args := [] }

/-- 'ticketlinelaw13.TraceHolds': WHATEVER THE INPUT: true; the input reads as it did. -/
def traceHoldsSpec : ChangeSpec := { name := "traceHolds", fn := fun _ => fun
  | [d1, d2, d3] => { results := [.lit (.bool true)], args := [d1, d2, d3] }
  | _ => none }
def traceHoldsRow : OpenClaim := { program := "ytpndlggahdefcaa", sum := "54b848e08f666837e85173c863b205822779ca9b24cc72d564c17aba60fcfcfd", func := "ticketline/ticketlinelaw13.TraceHolds", spec := "traceHolds", unfollowed := true, recurses := true, apart := false }
def TraceHoldsSaid : Prop := traceHoldsRow.holds Try.pinned (OpenSpec.ofChange traceHoldsSpec)

/-- ITS FALSE NEIGHBOUR: 'it returns false'. Refute it at one input. -/
def traceHoldsWrong : ChangeSpec := { name := "traceHolds", fn := fun _ => fun
  | [d1, d2, d3] => { results := [.lit (.bool false)], args := [d1, d2, d3] }
  | _ => none }
def TraceHoldsWrongFalsely : Prop := traceHoldsRow.holds Try.pinned (OpenSpec.ofChange traceHoldsWrong)

/-- 'ticketlinelaw13.TraceLooks': WHATEVER THE INPUT: true; the input reads as it did. -/
def traceLooksSpec : ChangeSpec := { name := "traceLooks", fn := fun _ => fun
  | [d1, d2, d3] => { results := [.lit (.bool true)], args := [d1, d2, d3] }
  | _ => none }
def traceLooksRow : OpenClaim := { program := "ytpndlggahdefcaa", sum := "54b848e08f666837e85173c863b205822779ca9b24cc72d564c17aba60fcfcfd", func := "ticketline/ticketlinelaw13.TraceLooks", spec := "traceLooks", unfollowed := true, recurses := true, apart := false }
def TraceLooksSaid : Prop := traceLooksRow.holds Try.pinned (OpenSpec.ofChange traceLooksSpec)

/-- ITS FALSE NEIGHBOUR: 'it returns false'. Refute it at one input. -/
def traceLooksWrong : ChangeSpec := { name := "traceLooks", fn := fun _ => fun
  | [d1, d2, d3] => { results := [.lit (.bool false)], args := [d1, d2, d3] }
  | _ => none }
def TraceLooksWrongFalsely : Prop := traceLooksRow.holds Try.pinned (OpenSpec.ofChange traceLooksWrong)

/-- 'ticketlinelaw13.TraceFits': WHATEVER THE INPUT: true; the input reads as it did. -/
def traceFitsSpec : ChangeSpec := { name := "traceFits", fn := fun _ => fun
  | [d1, d2] => { results := [.lit (.bool true)], args := [d1, d2] }
  | _ => none }
def traceFitsRow : OpenClaim := { program := "ytpndlggahdefcaa", sum := "54b848e08f666837e85173c863b205822779ca9b24cc72d564c17aba60fcfcfd", func := "ticketline/ticketlinelaw13.TraceFits", spec := "traceFits", unfollowed := true, recurses := true, apart := false }
def TraceFitsSaid : Prop := traceFitsRow.holds Try.pinned (OpenSpec.ofChange traceFitsSpec)

/-- ITS FALSE NEIGHBOUR: 'it returns false'. Refute it at one input. -/
def traceFitsWrong : ChangeSpec := { name := "traceFits", fn := fun _ => fun
  | [d1, d2] => { results := [.lit (.bool false)], args := [d1, d2] }
  | _ => none }
def TraceFitsWrongFalsely : Prop := traceFitsRow.holds Try.pinned (OpenSpec.ofChange traceFitsWrong)

/-- 'ticketlinelaw13.TraceWaits': WHATEVER THE INPUT: true; the input reads as it did. -/
def traceWaitsSpec : ChangeSpec := { name := "traceWaits", fn := fun _ => fun
  | [d] => { results := [.lit (.bool true)], args := [d] }
  | _ => none }
def traceWaitsRow : OpenClaim := { program := "ytpndlggahdefcaa", sum := "54b848e08f666837e85173c863b205822779ca9b24cc72d564c17aba60fcfcfd", func := "ticketline/ticketlinelaw13.TraceWaits", spec := "traceWaits", unfollowed := true, recurses := true, apart := false }
def TraceWaitsSaid : Prop := traceWaitsRow.holds Try.pinned (OpenSpec.ofChange traceWaitsSpec)

/-- ITS FALSE NEIGHBOUR: 'it returns false'. Refute it at one input. -/
def traceWaitsWrong : ChangeSpec := { name := "traceWaits", fn := fun _ => fun
  | [d] => { results := [.lit (.bool false)], args := [d] }
  | _ => none }
def TraceWaitsWrongFalsely : Prop := traceWaitsRow.holds Try.pinned (OpenSpec.ofChange traceWaitsWrong)

/-- 'ticketlinelaw13.TraceLongs': WHATEVER THE INPUT: true; the input reads as it did. -/
def traceLongsSpec : ChangeSpec := { name := "traceLongs", fn := fun _ => fun
  | [d1, d2] => { results := [.lit (.bool true)], args := [d1, d2] }
  | _ => none }
def traceLongsRow : OpenClaim := { program := "ytpndlggahdefcaa", sum := "54b848e08f666837e85173c863b205822779ca9b24cc72d564c17aba60fcfcfd", func := "ticketline/ticketlinelaw13.TraceLongs", spec := "traceLongs", unfollowed := true, recurses := true, apart := false }
def TraceLongsSaid : Prop := traceLongsRow.holds Try.pinned (OpenSpec.ofChange traceLongsSpec)

/-- ITS FALSE NEIGHBOUR: 'it returns false'. Refute it at one input. -/
def traceLongsWrong : ChangeSpec := { name := "traceLongs", fn := fun _ => fun
  | [d1, d2] => { results := [.lit (.bool false)], args := [d1, d2] }
  | _ => none }
def TraceLongsWrongFalsely : Prop := traceLongsRow.holds Try.pinned (OpenSpec.ofChange traceLongsWrong)

/- THE SECOND FORM. 'bulk': how many values and letters a reading holds, each counted each time it is reached (what is shared counts as often as it is met; a slice's spare places count too). A statement '..UptoSaid' is the law's where the arguments, and the package variables that the reading takes, are together of bulk at most 1048576: NARROWER than '..Said'. Prove '..Said' where nothing that the law and all that it calls make is longer than what came in: it says more and counts as full. Else prove '..UptoSaid'. A law counts once. -/
mutual
def uptoBulk {H : Type} : DataW H → Nat
  | .lit (.string bytes) => bytes.length + 1
  | .lit _ => 1
  | .nil => 1
  | .ptr d => uptoBulk d + 1
  | .slice elems spare => uptoBulkAll elems + uptoBulkAll spare + 1
  | .agg parts => uptoBulkAll parts + 1
  | .iface _ d => uptoBulk d + 1
  | .map entries => uptoBulkEntries entries + 1
  | .held _ => 1
def uptoBulkAll {H : Type} : List (DataW H) → Nat
  | [] => 0
  | d :: r => uptoBulk d + uptoBulkAll r
def uptoBulkEntries {H : Type} : List (Lit × DataW H) → Nat
  | [] => 0
  | x :: r => uptoBulkEntry x + uptoBulkEntries r
def uptoBulkEntry {H : Type} : Lit × DataW H → Nat
  | (.string bytes, d) => bytes.length + uptoBulk d + 1
  | (_, d) => uptoBulk d + 1
 end
def uptoSmall : (H : Type) → List (DataW H) → Bool := fun _ ds => decide (uptoBulkAll ds ≤ 1048576)
def OpenSpec.upto (s : _root_.Go.ChangeSpec) : _root_.Go.OpenSpec := { _root_.Go.OpenSpec.ofChange s with cond := some uptoSmall }

/-- 'ticketlinelaw13.TraceHolds', WHERE WHAT IT READS IS OF BULK AT MOST 1048576: true; the input reads as it did. -/
def traceHoldsUptoRow : OpenClaim := { program := "ytpndlggahdefcaa", sum := "54b848e08f666837e85173c863b205822779ca9b24cc72d564c17aba60fcfcfd", func := "ticketline/ticketlinelaw13.TraceHolds", spec := "traceHolds", unfollowed := true, recurses := true, apart := false, narrowed := true }
def TraceHoldsUptoSaid : Prop := traceHoldsUptoRow.holds Try.pinned (OpenSpec.upto traceHoldsSpec)

/-- 'ticketlinelaw13.TraceLooks', WHERE WHAT IT READS IS OF BULK AT MOST 1048576: true; the input reads as it did. -/
def traceLooksUptoRow : OpenClaim := { program := "ytpndlggahdefcaa", sum := "54b848e08f666837e85173c863b205822779ca9b24cc72d564c17aba60fcfcfd", func := "ticketline/ticketlinelaw13.TraceLooks", spec := "traceLooks", unfollowed := true, recurses := true, apart := false, narrowed := true }
def TraceLooksUptoSaid : Prop := traceLooksUptoRow.holds Try.pinned (OpenSpec.upto traceLooksSpec)

/-- 'ticketlinelaw13.TraceFits', WHERE WHAT IT READS IS OF BULK AT MOST 1048576: true; the input reads as it did. -/
def traceFitsUptoRow : OpenClaim := { program := "ytpndlggahdefcaa", sum := "54b848e08f666837e85173c863b205822779ca9b24cc72d564c17aba60fcfcfd", func := "ticketline/ticketlinelaw13.TraceFits", spec := "traceFits", unfollowed := true, recurses := true, apart := false, narrowed := true }
def TraceFitsUptoSaid : Prop := traceFitsUptoRow.holds Try.pinned (OpenSpec.upto traceFitsSpec)

/-- 'ticketlinelaw13.TraceWaits', WHERE WHAT IT READS IS OF BULK AT MOST 1048576: true; the input reads as it did. -/
def traceWaitsUptoRow : OpenClaim := { program := "ytpndlggahdefcaa", sum := "54b848e08f666837e85173c863b205822779ca9b24cc72d564c17aba60fcfcfd", func := "ticketline/ticketlinelaw13.TraceWaits", spec := "traceWaits", unfollowed := true, recurses := true, apart := false, narrowed := true }
def TraceWaitsUptoSaid : Prop := traceWaitsUptoRow.holds Try.pinned (OpenSpec.upto traceWaitsSpec)

/-- 'ticketlinelaw13.TraceLongs', WHERE WHAT IT READS IS OF BULK AT MOST 1048576: true; the input reads as it did. -/
def traceLongsUptoRow : OpenClaim := { program := "ytpndlggahdefcaa", sum := "54b848e08f666837e85173c863b205822779ca9b24cc72d564c17aba60fcfcfd", func := "ticketline/ticketlinelaw13.TraceLongs", spec := "traceLongs", unfollowed := true, recurses := true, apart := false, narrowed := true }
def TraceLongsUptoSaid : Prop := traceLongsUptoRow.holds Try.pinned (OpenSpec.upto traceLongsSpec)

end Rows
end Go.Proofs.Ytpndlggahdefcaa
