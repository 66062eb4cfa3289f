/-
  No cell of these rows narrows 'for every input' (looked for: loops, veiled, ifaces, maps, wideKeys, modest, calm, conditions, laid).
  DERIVED. THE GIVEN ROWS OF THIS SEAT. 5 by the template 'for every input the law returns true; each argument reads behind the call as it read before'; 0 by the template 'total and deterministic' (their statements: YtmlhdcpahfgckaaTotals.lean).
  GIVEN WITH THE SEED: the statements are not yours to turn. If you find one false, say at which input.
  Laid BY PROGRAM, IN A SANDBOX (cutbox-rows.mjs): the forced cells as the released guide's own fill.sh prints them over the translation d838bbcd65cc9dc9… (all of the seat's roots in one cut). By AI agents, Wed Nov 11 2026. No macro, syntax, notation, axiom, sorry.
-/
import Derived.Test.YtmlhdcpahfgckaaChecked
import GoSem.Claim
import GoSem.ClaimJoined
import GoSem.ClaimMapViews
import Derived.JoinedTies
import Derived.KernelRfl
namespace Go.Proofs.Ytmlhdcpahfgckaa
/- THE CELL 'sum', in the pinned program and in every row, IS THE sha256 OF THE DUMP (.gsa) THAT YtmlhdcpahfgckaaProg.lean LOADS. Nothing in Lean hashes anything: it is a label: what it is worth is what the hold of that sum in a sandbox is worth. -/
noncomputable def Try.pinned : Pinned := { name := "ytmlhdcpahfgckaa", sum := "d838bbcd65cc9dc9f1b23c6bf4e0a822d2180c3e819e0dad3399df8edbf83828", checked := Try.checked }
namespace Rows
def none {H : Type} : Left H := { results := [], args := [] }

/-- 'ticketlinelaw08.McsAlone': WHATEVER THE INPUT: true; the input reads as it did. -/
def mcsAloneSpec : ChangeSpec := { name := "mcsAlone", fn := fun _ => fun
  | [d1, d2, d3, d4] => { results := [.lit (.bool true)], args := [d1, d2, d3, d4] }
  | _ => none }
def mcsAloneRow : OpenClaim := { program := "ytmlhdcpahfgckaa", sum := "d838bbcd65cc9dc9f1b23c6bf4e0a822d2180c3e819e0dad3399df8edbf83828", func := "ticketline/ticketlinelaw08.McsAlone", spec := "mcsAlone", unfollowed := true, recurses := true, apart := false }
def McsAloneSaid : Prop := mcsAloneRow.holds Try.pinned (OpenSpec.ofChange mcsAloneSpec)

/-- ITS FALSE NEIGHBOUR: 'it returns false'. Refute it at one input. -/
def mcsAloneWrong : ChangeSpec := { name := "mcsAlone", fn := fun _ => fun
  | [d1, d2, d3, d4] => { results := [.lit (.bool false)], args := [d1, d2, d3, d4] }
  | _ => none }
def McsAloneWrongFalsely : Prop := mcsAloneRow.holds Try.pinned (OpenSpec.ofChange mcsAloneWrong)

/-- 'ticketlinelaw08.McsPlays': WHATEVER THE INPUT: true; the input reads as it did. -/
def mcsPlaysSpec : ChangeSpec := { name := "mcsPlays", fn := fun _ => fun
  | [d1, d2] => { results := [.lit (.bool true)], args := [d1, d2] }
  | _ => none }
def mcsPlaysRow : OpenClaim := { program := "ytmlhdcpahfgckaa", sum := "d838bbcd65cc9dc9f1b23c6bf4e0a822d2180c3e819e0dad3399df8edbf83828", func := "ticketline/ticketlinelaw08.McsPlays", spec := "mcsPlays", unfollowed := true, recurses := true, apart := false }
def McsPlaysSaid : Prop := mcsPlaysRow.holds Try.pinned (OpenSpec.ofChange mcsPlaysSpec)

/-- ITS FALSE NEIGHBOUR: 'it returns false'. Refute it at one input. -/
def mcsPlaysWrong : ChangeSpec := { name := "mcsPlays", fn := fun _ => fun
  | [d1, d2] => { results := [.lit (.bool false)], args := [d1, d2] }
  | _ => none }
def McsPlaysWrongFalsely : Prop := mcsPlaysRow.holds Try.pinned (OpenSpec.ofChange mcsPlaysWrong)

/-- 'ticketlinelaw08.McsHolds': WHATEVER THE INPUT: true; the input reads as it did. -/
def mcsHoldsSpec : ChangeSpec := { name := "mcsHolds", fn := fun _ => fun
  | [d1, d2] => { results := [.lit (.bool true)], args := [d1, d2] }
  | _ => none }
def mcsHoldsRow : OpenClaim := { program := "ytmlhdcpahfgckaa", sum := "d838bbcd65cc9dc9f1b23c6bf4e0a822d2180c3e819e0dad3399df8edbf83828", func := "ticketline/ticketlinelaw08.McsHolds", spec := "mcsHolds", unfollowed := true, recurses := true, apart := false }
def McsHoldsSaid : Prop := mcsHoldsRow.holds Try.pinned (OpenSpec.ofChange mcsHoldsSpec)

/-- ITS FALSE NEIGHBOUR: 'it returns false'. Refute it at one input. -/
def mcsHoldsWrong : ChangeSpec := { name := "mcsHolds", fn := fun _ => fun
  | [d1, d2] => { results := [.lit (.bool false)], args := [d1, d2] }
  | _ => none }
def McsHoldsWrongFalsely : Prop := mcsHoldsRow.holds Try.pinned (OpenSpec.ofChange mcsHoldsWrong)

/-- 'ticketlinelaw08.McsNil': WHATEVER THE INPUT: true; the input reads as it did. -/
def mcsNilSpec : ChangeSpec := { name := "mcsNil", fn := fun _ => fun
  | [d1, d2] => { results := [.lit (.bool true)], args := [d1, d2] }
  | _ => none }
def mcsNilRow : OpenClaim := { program := "ytmlhdcpahfgckaa", sum := "d838bbcd65cc9dc9f1b23c6bf4e0a822d2180c3e819e0dad3399df8edbf83828", func := "ticketline/ticketlinelaw08.McsNil", spec := "mcsNil", unfollowed := true, recurses := true, apart := false }
def McsNilSaid : Prop := mcsNilRow.holds Try.pinned (OpenSpec.ofChange mcsNilSpec)

/-- ITS FALSE NEIGHBOUR: 'it returns false'. Refute it at one input. -/
def mcsNilWrong : ChangeSpec := { name := "mcsNil", fn := fun _ => fun
  | [d1, d2] => { results := [.lit (.bool false)], args := [d1, d2] }
  | _ => none }
def McsNilWrongFalsely : Prop := mcsNilRow.holds Try.pinned (OpenSpec.ofChange mcsNilWrong)

/-- 'ticketlinelaw08.McsAny': WHATEVER THE INPUT: true; the input reads as it did. -/
def mcsAnySpec : ChangeSpec := { name := "mcsAny", fn := fun _ => fun
  | [d1, d2, d3, d4] => { results := [.lit (.bool true)], args := [d1, d2, d3, d4] }
  | _ => none }
def mcsAnyRow : OpenClaim := { program := "ytmlhdcpahfgckaa", sum := "d838bbcd65cc9dc9f1b23c6bf4e0a822d2180c3e819e0dad3399df8edbf83828", func := "ticketline/ticketlinelaw08.McsAny", spec := "mcsAny", unfollowed := true, recurses := true, apart := false }
def McsAnySaid : Prop := mcsAnyRow.holds Try.pinned (OpenSpec.ofChange mcsAnySpec)

/-- ITS FALSE NEIGHBOUR: 'it returns false'. Refute it at one input. -/
def mcsAnyWrong : ChangeSpec := { name := "mcsAny", fn := fun _ => fun
  | [d1, d2, d3, d4] => { results := [.lit (.bool false)], args := [d1, d2, d3, d4] }
  | _ => none }
def McsAnyWrongFalsely : Prop := mcsAnyRow.holds Try.pinned (OpenSpec.ofChange mcsAnyWrong)

/- THE SECOND FORM. 'bulk': how many values and letters a reading holds, each counted each time it is reached (what is shared counts as often as it is met; a slice's spare places count too). A statement '..UptoSaid' is the law's where the arguments, and the package variables that the reading takes, are together of bulk at most 1048576: NARROWER than '..Said'. Prove '..Said' where nothing that the law and all that it calls make is longer than what came in: it says more and counts as full. Else prove '..UptoSaid'. A law counts once. -/
mutual
def uptoBulk {H : Type} : DataW H → Nat
  | .lit (.string bytes) => bytes.length + 1
  | .lit _ => 1
  | .nil => 1
  | .ptr d => uptoBulk d + 1
  | .slice elems spare => uptoBulkAll elems + uptoBulkAll spare + 1
  | .agg parts => uptoBulkAll parts + 1
  | .iface _ d => uptoBulk d + 1
  | .map entries => uptoBulkEntries entries + 1
  | .held _ => 1
def uptoBulkAll {H : Type} : List (DataW H) → Nat
  | [] => 0
  | d :: r => uptoBulk d + uptoBulkAll r
def uptoBulkEntries {H : Type} : List (Lit × DataW H) → Nat
  | [] => 0
  | x :: r => uptoBulkEntry x + uptoBulkEntries r
def uptoBulkEntry {H : Type} : Lit × DataW H → Nat
  | (.string bytes, d) => bytes.length + uptoBulk d + 1
  | (_, d) => uptoBulk d + 1
 end
def uptoSmall : (H : Type) → List (DataW H) → Bool := fun _ ds => decide (uptoBulkAll ds ≤ 1048576)
def OpenSpec.upto (s : _root_.Go.ChangeSpec) : _root_.Go.OpenSpec := { _root_.Go.OpenSpec.ofChange s with cond := some uptoSmall }

/-- 'ticketlinelaw08.McsAlone', WHERE WHAT IT READS IS OF BULK AT MOST 1048576: true; the input reads as it did. -/
def mcsAloneUptoRow : OpenClaim := { program := "ytmlhdcpahfgckaa", sum := "d838bbcd65cc9dc9f1b23c6bf4e0a822d2180c3e819e0dad3399df8edbf83828", func := "ticketline/ticketlinelaw08.McsAlone", spec := "mcsAlone", unfollowed := true, recurses := true, apart := false, narrowed := true }
def McsAloneUptoSaid : Prop := mcsAloneUptoRow.holds Try.pinned (OpenSpec.upto mcsAloneSpec)

/-- 'ticketlinelaw08.McsPlays', WHERE WHAT IT READS IS OF BULK AT MOST 1048576: true; the input reads as it did. -/
def mcsPlaysUptoRow : OpenClaim := { program := "ytmlhdcpahfgckaa", sum := "d838bbcd65cc9dc9f1b23c6bf4e0a822d2180c3e819e0dad3399df8edbf83828", func := "ticketline/ticketlinelaw08.McsPlays", spec := "mcsPlays", unfollowed := true, recurses := true, apart := false, narrowed := true }
def McsPlaysUptoSaid : Prop := mcsPlaysUptoRow.holds Try.pinned (OpenSpec.upto mcsPlaysSpec)

/-- 'ticketlinelaw08.McsHolds', WHERE WHAT IT READS IS OF BULK AT MOST 1048576: true; the input reads as it did. -/
def mcsHoldsUptoRow : OpenClaim := { program := "ytmlhdcpahfgckaa", sum := "d838bbcd65cc9dc9f1b23c6bf4e0a822d2180c3e819e0dad3399df8edbf83828", func := "ticketline/ticketlinelaw08.McsHolds", spec := "mcsHolds", unfollowed := true, recurses := true, apart := false, narrowed := true }
def McsHoldsUptoSaid : Prop := mcsHoldsUptoRow.holds Try.pinned (OpenSpec.upto mcsHoldsSpec)

/-- 'ticketlinelaw08.McsNil', WHERE WHAT IT READS IS OF BULK AT MOST 1048576: true; the input reads as it did. -/
def mcsNilUptoRow : OpenClaim := { program := "ytmlhdcpahfgckaa", sum := "d838bbcd65cc9dc9f1b23c6bf4e0a822d2180c3e819e0dad3399df8edbf83828", func := "ticketline/ticketlinelaw08.McsNil", spec := "mcsNil", unfollowed := true, recurses := true, apart := false, narrowed := true }
def McsNilUptoSaid : Prop := mcsNilUptoRow.holds Try.pinned (OpenSpec.upto mcsNilSpec)

/-- 'ticketlinelaw08.McsAny', WHERE WHAT IT READS IS OF BULK AT MOST 1048576: true; the input reads as it did. -/
def mcsAnyUptoRow : OpenClaim := { program := "ytmlhdcpahfgckaa", sum := "d838bbcd65cc9dc9f1b23c6bf4e0a822d2180c3e819e0dad3399df8edbf83828", func := "ticketline/ticketlinelaw08.McsAny", spec := "mcsAny", unfollowed := true, recurses := true, apart := false, narrowed := true }
def McsAnyUptoSaid : Prop := mcsAnyUptoRow.holds Try.pinned (OpenSpec.upto mcsAnySpec)

end Rows
end Go.Proofs.Ytmlhdcpahfgckaa
