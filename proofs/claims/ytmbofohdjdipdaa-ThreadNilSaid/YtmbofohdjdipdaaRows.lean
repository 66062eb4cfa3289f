/-
  No cell of these rows narrows 'for every input' (looked for: loops, veiled, ifaces, maps, wideKeys, modest, calm, conditions, laid).
  DERIVED. THE GIVEN ROWS OF THIS SEAT. 6 by the template 'for every input the law returns true; each argument reads behind the call as it read before'; 0 by the template 'total and deterministic' (their statements: YtmbofohdjdipdaaTotals.lean).
  GIVEN WITH THE SEED: the statements are not yours to turn. If you find one false, say at which input.
  Laid BY PROGRAM, IN A SANDBOX (cutbox-rows.mjs): the forced cells as the released guide's own fill.sh prints them over the translation 450fde066aaa1a71… (all of the seat's roots in one cut). By AI agents, Wed Nov 11 2026. No macro, syntax, notation, axiom, sorry.
-/
import Derived.Test.YtmbofohdjdipdaaChecked
import GoSem.Claim
import GoSem.ClaimJoined
import GoSem.ClaimMapViews
import Derived.JoinedTies
import Derived.KernelRfl
namespace Go.Proofs.Ytmbofohdjdipdaa
/- THE CELL 'sum', in the pinned program and in every row, IS THE sha256 OF THE DUMP (.gsa) THAT YtmbofohdjdipdaaProg.lean LOADS. Nothing in Lean hashes anything: it is a label: what it is worth is what the hold of that sum in a sandbox is worth. -/
noncomputable def Try.pinned : Pinned := { name := "ytmbofohdjdipdaa", sum := "450fde066aaa1a717068a35e100900f0c91b3316a20dd1a83eda5a43f334b8ee", checked := Try.checked }
namespace Rows
def none {H : Type} : Left H := { results := [], args := [] }

/-- 'ticketlinelaw12.ThreadPlays': WHATEVER THE INPUT: true; the input reads as it did. -/
def threadPlaysSpec : ChangeSpec := { name := "threadPlays", fn := fun _ => fun
  | [d1, d2] => { results := [.lit (.bool true)], args := [d1, d2] }
  | _ => none }
def threadPlaysRow : OpenClaim := { program := "ytmbofohdjdipdaa", sum := "450fde066aaa1a717068a35e100900f0c91b3316a20dd1a83eda5a43f334b8ee", func := "ticketline/ticketlinelaw12.ThreadPlays", spec := "threadPlays", unfollowed := true, recurses := true, apart := false }
def ThreadPlaysSaid : Prop := threadPlaysRow.holds Try.pinned (OpenSpec.ofChange threadPlaysSpec)

/-- ITS FALSE NEIGHBOUR: 'it returns false'. Refute it at one input. -/
def threadPlaysWrong : ChangeSpec := { name := "threadPlays", fn := fun _ => fun
  | [d1, d2] => { results := [.lit (.bool false)], args := [d1, d2] }
  | _ => none }
def ThreadPlaysWrongFalsely : Prop := threadPlaysRow.holds Try.pinned (OpenSpec.ofChange threadPlaysWrong)

/-- 'ticketlinelaw12.ThreadFulls': WHATEVER THE INPUT: true; the input reads as it did. -/
def threadFullsSpec : ChangeSpec := { name := "threadFulls", fn := fun _ => fun
  | [d1, d2, d3] => { results := [.lit (.bool true)], args := [d1, d2, d3] }
  | _ => none }
def threadFullsRow : OpenClaim := { program := "ytmbofohdjdipdaa", sum := "450fde066aaa1a717068a35e100900f0c91b3316a20dd1a83eda5a43f334b8ee", func := "ticketline/ticketlinelaw12.ThreadFulls", spec := "threadFulls", unfollowed := true, recurses := true, apart := false }
def ThreadFullsSaid : Prop := threadFullsRow.holds Try.pinned (OpenSpec.ofChange threadFullsSpec)

/-- ITS FALSE NEIGHBOUR: 'it returns false'. Refute it at one input. -/
def threadFullsWrong : ChangeSpec := { name := "threadFulls", fn := fun _ => fun
  | [d1, d2, d3] => { results := [.lit (.bool false)], args := [d1, d2, d3] }
  | _ => none }
def ThreadFullsWrongFalsely : Prop := threadFullsRow.holds Try.pinned (OpenSpec.ofChange threadFullsWrong)

/-- 'ticketlinelaw12.ThreadNil': WHATEVER THE INPUT: true; the input reads as it did. -/
def threadNilSpec : ChangeSpec := { name := "threadNil", fn := fun _ => fun
  | [d] => { results := [.lit (.bool true)], args := [d] }
  | _ => none }
def threadNilRow : OpenClaim := { program := "ytmbofohdjdipdaa", sum := "450fde066aaa1a717068a35e100900f0c91b3316a20dd1a83eda5a43f334b8ee", func := "ticketline/ticketlinelaw12.ThreadNil", spec := "threadNil", unfollowed := true, recurses := true, apart := false }
def ThreadNilSaid : Prop := threadNilRow.holds Try.pinned (OpenSpec.ofChange threadNilSpec)

/-- ITS FALSE NEIGHBOUR: 'it returns false'. Refute it at one input. -/
def threadNilWrong : ChangeSpec := { name := "threadNil", fn := fun _ => fun
  | [d] => { results := [.lit (.bool false)], args := [d] }
  | _ => none }
def ThreadNilWrongFalsely : Prop := threadNilRow.holds Try.pinned (OpenSpec.ofChange threadNilWrong)

/-- 'ticketlinelaw12.ThreadCodes': WHATEVER THE INPUT: true; the input reads as it did. -/
def threadCodesSpec : ChangeSpec := { name := "threadCodes", fn := fun _ => fun
  | [d1, d2, d3, d4] => { results := [.lit (.bool true)], args := [d1, d2, d3, d4] }
  | _ => none }
def threadCodesRow : OpenClaim := { program := "ytmbofohdjdipdaa", sum := "450fde066aaa1a717068a35e100900f0c91b3316a20dd1a83eda5a43f334b8ee", func := "ticketline/ticketlinelaw12.ThreadCodes", spec := "threadCodes", unfollowed := true, recurses := true, apart := false }
def ThreadCodesSaid : Prop := threadCodesRow.holds Try.pinned (OpenSpec.ofChange threadCodesSpec)

/-- ITS FALSE NEIGHBOUR: 'it returns false'. Refute it at one input. -/
def threadCodesWrong : ChangeSpec := { name := "threadCodes", fn := fun _ => fun
  | [d1, d2, d3, d4] => { results := [.lit (.bool false)], args := [d1, d2, d3, d4] }
  | _ => none }
def ThreadCodesWrongFalsely : Prop := threadCodesRow.holds Try.pinned (OpenSpec.ofChange threadCodesWrong)

/-- 'ticketlinelaw12.ThreadOnce': WHATEVER THE INPUT: true; the input reads as it did. -/
def threadOnceSpec : ChangeSpec := { name := "threadOnce", fn := fun _ => fun
  | [d1, d2, d3] => { results := [.lit (.bool true)], args := [d1, d2, d3] }
  | _ => none }
def threadOnceRow : OpenClaim := { program := "ytmbofohdjdipdaa", sum := "450fde066aaa1a717068a35e100900f0c91b3316a20dd1a83eda5a43f334b8ee", func := "ticketline/ticketlinelaw12.ThreadOnce", spec := "threadOnce", unfollowed := true, recurses := true, apart := false }
def ThreadOnceSaid : Prop := threadOnceRow.holds Try.pinned (OpenSpec.ofChange threadOnceSpec)

/-- ITS FALSE NEIGHBOUR: 'it returns false'. Refute it at one input. -/
def threadOnceWrong : ChangeSpec := { name := "threadOnce", fn := fun _ => fun
  | [d1, d2, d3] => { results := [.lit (.bool false)], args := [d1, d2, d3] }
  | _ => none }
def ThreadOnceWrongFalsely : Prop := threadOnceRow.holds Try.pinned (OpenSpec.ofChange threadOnceWrong)

/-- 'ticketlinelaw12.ThreadHolds': WHATEVER THE INPUT: true; the input reads as it did. -/
def threadHoldsSpec : ChangeSpec := { name := "threadHolds", fn := fun _ => fun
  | [d1, d2, d3, d4] => { results := [.lit (.bool true)], args := [d1, d2, d3, d4] }
  | _ => none }
def threadHoldsRow : OpenClaim := { program := "ytmbofohdjdipdaa", sum := "450fde066aaa1a717068a35e100900f0c91b3316a20dd1a83eda5a43f334b8ee", func := "ticketline/ticketlinelaw12.ThreadHolds", spec := "threadHolds", unfollowed := true, recurses := true, apart := false }
def ThreadHoldsSaid : Prop := threadHoldsRow.holds Try.pinned (OpenSpec.ofChange threadHoldsSpec)

/-- ITS FALSE NEIGHBOUR: 'it returns false'. Refute it at one input. -/
def threadHoldsWrong : ChangeSpec := { name := "threadHolds", fn := fun _ => fun
  | [d1, d2, d3, d4] => { results := [.lit (.bool false)], args := [d1, d2, d3, d4] }
  | _ => none }
def ThreadHoldsWrongFalsely : Prop := threadHoldsRow.holds Try.pinned (OpenSpec.ofChange threadHoldsWrong)

/- THE SECOND FORM. 'bulk': how many values and letters a reading holds, each counted each time it is reached (what is shared counts as often as it is met; a slice's spare places count too). A statement '..UptoSaid' is the law's where the arguments, and the package variables that the reading takes, are together of bulk at most 1048576: NARROWER than '..Said'. Prove '..Said' where nothing that the law and all that it calls make is longer than what came in: it says more and counts as full. Else prove '..UptoSaid'. A law counts once. -/
mutual
def uptoBulk {H : Type} : DataW H → Nat
  | .lit (.string bytes) => bytes.length + 1
  | .lit _ => 1
  | .nil => 1
  | .ptr d => uptoBulk d + 1
  | .slice elems spare => uptoBulkAll elems + uptoBulkAll spare + 1
  | .agg parts => uptoBulkAll parts + 1
  | .iface _ d => uptoBulk d + 1
  | .map entries => uptoBulkEntries entries + 1
  | .held _ => 1
def uptoBulkAll {H : Type} : List (DataW H) → Nat
  | [] => 0
  | d :: r => uptoBulk d + uptoBulkAll r
def uptoBulkEntries {H : Type} : List (Lit × DataW H) → Nat
  | [] => 0
  | x :: r => uptoBulkEntry x + uptoBulkEntries r
def uptoBulkEntry {H : Type} : Lit × DataW H → Nat
  | (.string bytes, d) => bytes.length + uptoBulk d + 1
  | (_, d) => uptoBulk d + 1
 end
def uptoSmall : (H : Type) → List (DataW H) → Bool := fun _ ds => decide (uptoBulkAll ds ≤ 1048576)
def OpenSpec.upto (s : _root_.Go.ChangeSpec) : _root_.Go.OpenSpec := { _root_.Go.OpenSpec.ofChange s with cond := some uptoSmall }

/-- 'ticketlinelaw12.ThreadPlays', WHERE WHAT IT READS IS OF BULK AT MOST 1048576: true; the input reads as it did. -/
def threadPlaysUptoRow : OpenClaim := { program := "ytmbofohdjdipdaa", sum := "450fde066aaa1a717068a35e100900f0c91b3316a20dd1a83eda5a43f334b8ee", func := "ticketline/ticketlinelaw12.ThreadPlays", spec := "threadPlays", unfollowed := true, recurses := true, apart := false, narrowed := true }
def ThreadPlaysUptoSaid : Prop := threadPlaysUptoRow.holds Try.pinned (OpenSpec.upto threadPlaysSpec)

/-- 'ticketlinelaw12.ThreadFulls', WHERE WHAT IT READS IS OF BULK AT MOST 1048576: true; the input reads as it did. -/
def threadFullsUptoRow : OpenClaim := { program := "ytmbofohdjdipdaa", sum := "450fde066aaa1a717068a35e100900f0c91b3316a20dd1a83eda5a43f334b8ee", func := "ticketline/ticketlinelaw12.ThreadFulls", spec := "threadFulls", unfollowed := true, recurses := true, apart := false, narrowed := true }
def ThreadFullsUptoSaid : Prop := threadFullsUptoRow.holds Try.pinned (OpenSpec.upto threadFullsSpec)

/-- 'ticketlinelaw12.ThreadNil', WHERE WHAT IT READS IS OF BULK AT MOST 1048576: true; the input reads as it did. -/
def threadNilUptoRow : OpenClaim := { program := "ytmbofohdjdipdaa", sum := "450fde066aaa1a717068a35e100900f0c91b3316a20dd1a83eda5a43f334b8ee", func := "ticketline/ticketlinelaw12.ThreadNil", spec := "threadNil", unfollowed := true, recurses := true, apart := false, narrowed := true }
def ThreadNilUptoSaid : Prop := threadNilUptoRow.holds Try.pinned (OpenSpec.upto threadNilSpec)

/-- 'ticketlinelaw12.ThreadCodes', WHERE WHAT IT READS IS OF BULK AT MOST 1048576: true; the input reads as it did. -/
def threadCodesUptoRow : OpenClaim := { program := "ytmbofohdjdipdaa", sum := "450fde066aaa1a717068a35e100900f0c91b3316a20dd1a83eda5a43f334b8ee", func := "ticketline/ticketlinelaw12.ThreadCodes", spec := "threadCodes", unfollowed := true, recurses := true, apart := false, narrowed := true }
def ThreadCodesUptoSaid : Prop := threadCodesUptoRow.holds Try.pinned (OpenSpec.upto threadCodesSpec)

/-- 'ticketlinelaw12.ThreadOnce', WHERE WHAT IT READS IS OF BULK AT MOST 1048576: true; the input reads as it did. -/
def threadOnceUptoRow : OpenClaim := { program := "ytmbofohdjdipdaa", sum := "450fde066aaa1a717068a35e100900f0c91b3316a20dd1a83eda5a43f334b8ee", func := "ticketline/ticketlinelaw12.ThreadOnce", spec := "threadOnce", unfollowed := true, recurses := true, apart := false, narrowed := true }
def ThreadOnceUptoSaid : Prop := threadOnceUptoRow.holds Try.pinned (OpenSpec.upto threadOnceSpec)

/-- 'ticketlinelaw12.ThreadHolds', WHERE WHAT IT READS IS OF BULK AT MOST 1048576: true; the input reads as it did. -/
def threadHoldsUptoRow : OpenClaim := { program := "ytmbofohdjdipdaa", sum := "450fde066aaa1a717068a35e100900f0c91b3316a20dd1a83eda5a43f334b8ee", func := "ticketline/ticketlinelaw12.ThreadHolds", spec := "threadHolds", unfollowed := true, recurses := true, apart := false, narrowed := true }
def ThreadHoldsUptoSaid : Prop := threadHoldsUptoRow.holds Try.pinned (OpenSpec.upto threadHoldsSpec)

end Rows
end Go.Proofs.Ytmbofohdjdipdaa
