/-
  No cell of these rows narrows 'for every input' (looked for: loops, veiled, ifaces, maps, wideKeys, modest, calm, conditions, laid).
  DERIVED. THE GIVEN ROWS OF THIS SEAT. 5 by the template 'for every input the law returns true; each argument reads behind the call as it read before'; 0 by the template 'total and deterministic' (their statements: YtbhcgmiglkocbaaTotals.lean).
  GIVEN WITH THE SEED: the statements are not yours to turn. If you find one false, say at which input.
  Laid BY PROGRAM, IN A SANDBOX (cutbox-rows.mjs): the forced cells as the released guide's own fill.sh prints them over the translation 0864102303c0c785… (all of the seat's roots in one cut). By AI agents, Wed Nov 11 2026. No macro, syntax, notation, axiom, sorry.
-/
import Derived.Test.YtbhcgmiglkocbaaChecked
import GoSem.Claim
import GoSem.ClaimJoined
import GoSem.ClaimMapViews
import Derived.JoinedTies
import Derived.KernelRfl
namespace Go.Proofs.Ytbhcgmiglkocbaa
/- THE CELL 'sum', in the pinned program and in every row, IS THE sha256 OF THE DUMP (.gsa) THAT YtbhcgmiglkocbaaProg.lean LOADS. Nothing in Lean hashes anything: it is a label: what it is worth is what the hold of that sum in a sandbox is worth. -/
noncomputable def Try.pinned : Pinned := { name := "ytbhcgmiglkocbaa", sum := "0864102303c0c785f8460209464d699da89953f0d3c05d494b45171dd01c3661", checked := Try.checked }
namespace Rows
def none {H : Type} : Left H := { results := [], args := [] }

/-- 'ticketlinelaw11.VersionNew': WHATEVER THE INPUT: true; the input reads as it did. -/
def versionNewSpec : ChangeSpec := { name := "versionNew", fn := fun _ => fun
  | [d1, d2, d3, d4, d5, d6] => { results := [.lit (.bool true)], args := [d1, d2, d3, d4, d5, d6] }
  | _ => none }
def versionNewRow : OpenClaim := { program := "ytbhcgmiglkocbaa", sum := "0864102303c0c785f8460209464d699da89953f0d3c05d494b45171dd01c3661", func := "ticketline/ticketlinelaw11.VersionNew", spec := "versionNew", unfollowed := true, recurses := true, apart := false }
def VersionNewSaid : Prop := versionNewRow.holds Try.pinned (OpenSpec.ofChange versionNewSpec)

/-- ITS FALSE NEIGHBOUR: 'it returns false'. Refute it at one input. -/
def versionNewWrong : ChangeSpec := { name := "versionNew", fn := fun _ => fun
  | [d1, d2, d3, d4, d5, d6] => { results := [.lit (.bool false)], args := [d1, d2, d3, d4, d5, d6] }
  | _ => none }
def VersionNewWrongFalsely : Prop := versionNewRow.holds Try.pinned (OpenSpec.ofChange versionNewWrong)

/-- 'ticketlinelaw11.VersionLongs': WHATEVER THE INPUT: true; the input reads as it did. -/
def versionLongsSpec : ChangeSpec := { name := "versionLongs", fn := fun _ => fun
  | [d1, d2] => { results := [.lit (.bool true)], args := [d1, d2] }
  | _ => none }
def versionLongsRow : OpenClaim := { program := "ytbhcgmiglkocbaa", sum := "0864102303c0c785f8460209464d699da89953f0d3c05d494b45171dd01c3661", func := "ticketline/ticketlinelaw11.VersionLongs", spec := "versionLongs", unfollowed := true, recurses := true, apart := false }
def VersionLongsSaid : Prop := versionLongsRow.holds Try.pinned (OpenSpec.ofChange versionLongsSpec)

/-- ITS FALSE NEIGHBOUR: 'it returns false'. Refute it at one input. -/
def versionLongsWrong : ChangeSpec := { name := "versionLongs", fn := fun _ => fun
  | [d1, d2] => { results := [.lit (.bool false)], args := [d1, d2] }
  | _ => none }
def VersionLongsWrongFalsely : Prop := versionLongsRow.holds Try.pinned (OpenSpec.ofChange versionLongsWrong)

/-- 'ticketlinelaw11.VersionHolds': WHATEVER THE INPUT: true; the input reads as it did. -/
def versionHoldsSpec : ChangeSpec := { name := "versionHolds", fn := fun _ => fun
  | [d1, d2, d3, d4, d5] => { results := [.lit (.bool true)], args := [d1, d2, d3, d4, d5] }
  | _ => none }
def versionHoldsRow : OpenClaim := { program := "ytbhcgmiglkocbaa", sum := "0864102303c0c785f8460209464d699da89953f0d3c05d494b45171dd01c3661", func := "ticketline/ticketlinelaw11.VersionHolds", spec := "versionHolds", unfollowed := true, recurses := true, apart := false }
def VersionHoldsSaid : Prop := versionHoldsRow.holds Try.pinned (OpenSpec.ofChange versionHoldsSpec)

/-- ITS FALSE NEIGHBOUR: 'it returns false'. Refute it at one input. -/
def versionHoldsWrong : ChangeSpec := { name := "versionHolds", fn := fun _ => fun
  | [d1, d2, d3, d4, d5] => { results := [.lit (.bool false)], args := [d1, d2, d3, d4, d5] }
  | _ => none }
def VersionHoldsWrongFalsely : Prop := versionHoldsRow.holds Try.pinned (OpenSpec.ofChange versionHoldsWrong)

/-- 'ticketlinelaw11.VersionNil': WHATEVER THE INPUT: true; the input reads as it did. -/
def versionNilSpec : ChangeSpec := { name := "versionNil", fn := fun _ => fun
  | [d1, d2] => { results := [.lit (.bool true)], args := [d1, d2] }
  | _ => none }
def versionNilRow : OpenClaim := { program := "ytbhcgmiglkocbaa", sum := "0864102303c0c785f8460209464d699da89953f0d3c05d494b45171dd01c3661", func := "ticketline/ticketlinelaw11.VersionNil", spec := "versionNil", unfollowed := true, recurses := true, apart := false }
def VersionNilSaid : Prop := versionNilRow.holds Try.pinned (OpenSpec.ofChange versionNilSpec)

/-- ITS FALSE NEIGHBOUR: 'it returns false'. Refute it at one input. -/
def versionNilWrong : ChangeSpec := { name := "versionNil", fn := fun _ => fun
  | [d1, d2] => { results := [.lit (.bool false)], args := [d1, d2] }
  | _ => none }
def VersionNilWrongFalsely : Prop := versionNilRow.holds Try.pinned (OpenSpec.ofChange versionNilWrong)

/-- 'ticketlinelaw11.VersionPlays': WHATEVER THE INPUT: true; the input reads as it did. -/
def versionPlaysSpec : ChangeSpec := { name := "versionPlays", fn := fun _ => fun
  | [d1, d2] => { results := [.lit (.bool true)], args := [d1, d2] }
  | _ => none }
def versionPlaysRow : OpenClaim := { program := "ytbhcgmiglkocbaa", sum := "0864102303c0c785f8460209464d699da89953f0d3c05d494b45171dd01c3661", func := "ticketline/ticketlinelaw11.VersionPlays", spec := "versionPlays", unfollowed := true, recurses := true, apart := false }
def VersionPlaysSaid : Prop := versionPlaysRow.holds Try.pinned (OpenSpec.ofChange versionPlaysSpec)

/-- ITS FALSE NEIGHBOUR: 'it returns false'. Refute it at one input. -/
def versionPlaysWrong : ChangeSpec := { name := "versionPlays", fn := fun _ => fun
  | [d1, d2] => { results := [.lit (.bool false)], args := [d1, d2] }
  | _ => none }
def VersionPlaysWrongFalsely : Prop := versionPlaysRow.holds Try.pinned (OpenSpec.ofChange versionPlaysWrong)

/- THE SECOND FORM. 'bulk': how many values and letters a reading holds, each counted each time it is reached (what is shared counts as often as it is met; a slice's spare places count too). A statement '..UptoSaid' is the law's where the arguments, and the package variables that the reading takes, are together of bulk at most 1048576: NARROWER than '..Said'. Prove '..Said' where nothing that the law and all that it calls make is longer than what came in: it says more and counts as full. Else prove '..UptoSaid'. A law counts once. -/
mutual
def uptoBulk {H : Type} : DataW H → Nat
  | .lit (.string bytes) => bytes.length + 1
  | .lit _ => 1
  | .nil => 1
  | .ptr d => uptoBulk d + 1
  | .slice elems spare => uptoBulkAll elems + uptoBulkAll spare + 1
  | .agg parts => uptoBulkAll parts + 1
  | .iface _ d => uptoBulk d + 1
  | .map entries => uptoBulkEntries entries + 1
  | .held _ => 1
def uptoBulkAll {H : Type} : List (DataW H) → Nat
  | [] => 0
  | d :: r => uptoBulk d + uptoBulkAll r
def uptoBulkEntries {H : Type} : List (Lit × DataW H) → Nat
  | [] => 0
  | x :: r => uptoBulkEntry x + uptoBulkEntries r
def uptoBulkEntry {H : Type} : Lit × DataW H → Nat
  | (.string bytes, d) => bytes.length + uptoBulk d + 1
  | (_, d) => uptoBulk d + 1
 end
def uptoSmall : (H : Type) → List (DataW H) → Bool := fun _ ds => decide (uptoBulkAll ds ≤ 1048576)
def OpenSpec.upto (s : _root_.Go.ChangeSpec) : _root_.Go.OpenSpec := { _root_.Go.OpenSpec.ofChange s with cond := some uptoSmall }

/-- 'ticketlinelaw11.VersionNew', WHERE WHAT IT READS IS OF BULK AT MOST 1048576: true; the input reads as it did. -/
def versionNewUptoRow : OpenClaim := { program := "ytbhcgmiglkocbaa", sum := "0864102303c0c785f8460209464d699da89953f0d3c05d494b45171dd01c3661", func := "ticketline/ticketlinelaw11.VersionNew", spec := "versionNew", unfollowed := true, recurses := true, apart := false, narrowed := true }
def VersionNewUptoSaid : Prop := versionNewUptoRow.holds Try.pinned (OpenSpec.upto versionNewSpec)

/-- 'ticketlinelaw11.VersionLongs', WHERE WHAT IT READS IS OF BULK AT MOST 1048576: true; the input reads as it did. -/
def versionLongsUptoRow : OpenClaim := { program := "ytbhcgmiglkocbaa", sum := "0864102303c0c785f8460209464d699da89953f0d3c05d494b45171dd01c3661", func := "ticketline/ticketlinelaw11.VersionLongs", spec := "versionLongs", unfollowed := true, recurses := true, apart := false, narrowed := true }
def VersionLongsUptoSaid : Prop := versionLongsUptoRow.holds Try.pinned (OpenSpec.upto versionLongsSpec)

/-- 'ticketlinelaw11.VersionHolds', WHERE WHAT IT READS IS OF BULK AT MOST 1048576: true; the input reads as it did. -/
def versionHoldsUptoRow : OpenClaim := { program := "ytbhcgmiglkocbaa", sum := "0864102303c0c785f8460209464d699da89953f0d3c05d494b45171dd01c3661", func := "ticketline/ticketlinelaw11.VersionHolds", spec := "versionHolds", unfollowed := true, recurses := true, apart := false, narrowed := true }
def VersionHoldsUptoSaid : Prop := versionHoldsUptoRow.holds Try.pinned (OpenSpec.upto versionHoldsSpec)

/-- 'ticketlinelaw11.VersionNil', WHERE WHAT IT READS IS OF BULK AT MOST 1048576: true; the input reads as it did. -/
def versionNilUptoRow : OpenClaim := { program := "ytbhcgmiglkocbaa", sum := "0864102303c0c785f8460209464d699da89953f0d3c05d494b45171dd01c3661", func := "ticketline/ticketlinelaw11.VersionNil", spec := "versionNil", unfollowed := true, recurses := true, apart := false, narrowed := true }
def VersionNilUptoSaid : Prop := versionNilUptoRow.holds Try.pinned (OpenSpec.upto versionNilSpec)

/-- 'ticketlinelaw11.VersionPlays', WHERE WHAT IT READS IS OF BULK AT MOST 1048576: true; the input reads as it did. -/
def versionPlaysUptoRow : OpenClaim := { program := "ytbhcgmiglkocbaa", sum := "0864102303c0c785f8460209464d699da89953f0d3c05d494b45171dd01c3661", func := "ticketline/ticketlinelaw11.VersionPlays", spec := "versionPlays", unfollowed := true, recurses := true, apart := false, narrowed := true }
def VersionPlaysUptoSaid : Prop := versionPlaysUptoRow.holds Try.pinned (OpenSpec.upto versionPlaysSpec)

end Rows
end Go.Proofs.Ytbhcgmiglkocbaa
