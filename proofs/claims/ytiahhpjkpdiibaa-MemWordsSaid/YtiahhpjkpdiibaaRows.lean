/-
  No cell of these rows narrows 'for every input' (looked for: loops, veiled, ifaces, maps, wideKeys, modest, calm, conditions, laid).
  DERIVED. THE GIVEN ROWS OF THIS SEAT. 6 by the template 'for every input the law returns true; each argument reads behind the call as it read before'; 0 by the template 'total and deterministic' (their statements: YtiahhpjkpdiibaaTotals.lean).
  GIVEN WITH THE SEED: the statements are not yours to turn. If you find one false, say at which input.
  Laid BY PROGRAM, IN A SANDBOX (cutbox-rows.mjs): the forced cells as the released guide's own fill.sh prints them over the translation f816aedff7fb79b8… (all of the seat's roots in one cut). By AI agents, Wed Nov 11 2026. No macro, syntax, notation, axiom, sorry.
-/
import Derived.Test.YtiahhpjkpdiibaaChecked
import GoSem.Claim
import GoSem.ClaimJoined
import GoSem.ClaimMapViews
import Derived.JoinedTies
import Derived.KernelRfl
namespace Go.Proofs.Ytiahhpjkpdiibaa
/- THE CELL 'sum', in the pinned program and in every row, IS THE sha256 OF THE DUMP (.gsa) THAT YtiahhpjkpdiibaaProg.lean LOADS. Nothing in Lean hashes anything: it is a label: what it is worth is what the hold of that sum in a sandbox is worth. -/
noncomputable def Try.pinned : Pinned := { name := "ytiahhpjkpdiibaa", sum := "f816aedff7fb79b8722ec75ae3fa433db5ed5b1679ff0cad4b26cd85e8ea1d77", checked := Try.checked }
namespace Rows
def none {H : Type} : Left H := { results := [], args := [] }

/-- 'ticketlinelaw01.MemPlays': WHATEVER THE INPUT: true; the input reads as it did. -/
def memPlaysSpec : ChangeSpec := { name := "memPlays", fn := fun _ => fun
  | [d1, d2, d3] => { results := [.lit (.bool true)], args := [d1, d2, d3] }
  | _ => none }
def memPlaysRow : OpenClaim := { program := "ytiahhpjkpdiibaa", sum := "f816aedff7fb79b8722ec75ae3fa433db5ed5b1679ff0cad4b26cd85e8ea1d77", func := "ticketline/ticketlinelaw01.MemPlays", spec := "memPlays", unfollowed := true, recurses := true, apart := false }
def MemPlaysSaid : Prop := memPlaysRow.holds Try.pinned (OpenSpec.ofChange memPlaysSpec)

/-- ITS FALSE NEIGHBOUR: 'it returns false'. Refute it at one input. -/
def memPlaysWrong : ChangeSpec := { name := "memPlays", fn := fun _ => fun
  | [d1, d2, d3] => { results := [.lit (.bool false)], args := [d1, d2, d3] }
  | _ => none }
def MemPlaysWrongFalsely : Prop := memPlaysRow.holds Try.pinned (OpenSpec.ofChange memPlaysWrong)

/-- 'ticketlinelaw01.MemSizes': WHATEVER THE INPUT: true; the input reads as it did. -/
def memSizesSpec : ChangeSpec := { name := "memSizes", fn := fun _ => fun
  | [d] => { results := [.lit (.bool true)], args := [d] }
  | _ => none }
def memSizesRow : OpenClaim := { program := "ytiahhpjkpdiibaa", sum := "f816aedff7fb79b8722ec75ae3fa433db5ed5b1679ff0cad4b26cd85e8ea1d77", func := "ticketline/ticketlinelaw01.MemSizes", spec := "memSizes", unfollowed := true, recurses := true, apart := false }
def MemSizesSaid : Prop := memSizesRow.holds Try.pinned (OpenSpec.ofChange memSizesSpec)

/-- ITS FALSE NEIGHBOUR: 'it returns false'. Refute it at one input. -/
def memSizesWrong : ChangeSpec := { name := "memSizes", fn := fun _ => fun
  | [d] => { results := [.lit (.bool false)], args := [d] }
  | _ => none }
def MemSizesWrongFalsely : Prop := memSizesRow.holds Try.pinned (OpenSpec.ofChange memSizesWrong)

/-- 'ticketlinelaw01.MemOnces': WHATEVER THE INPUT: true; the input reads as it did. -/
def memOncesSpec : ChangeSpec := { name := "memOnces", fn := fun _ => fun
  | [d1, d2] => { results := [.lit (.bool true)], args := [d1, d2] }
  | _ => none }
def memOncesRow : OpenClaim := { program := "ytiahhpjkpdiibaa", sum := "f816aedff7fb79b8722ec75ae3fa433db5ed5b1679ff0cad4b26cd85e8ea1d77", func := "ticketline/ticketlinelaw01.MemOnces", spec := "memOnces", unfollowed := true, recurses := true, apart := false }
def MemOncesSaid : Prop := memOncesRow.holds Try.pinned (OpenSpec.ofChange memOncesSpec)

/-- ITS FALSE NEIGHBOUR: 'it returns false'. Refute it at one input. -/
def memOncesWrong : ChangeSpec := { name := "memOnces", fn := fun _ => fun
  | [d1, d2] => { results := [.lit (.bool false)], args := [d1, d2] }
  | _ => none }
def MemOncesWrongFalsely : Prop := memOncesRow.holds Try.pinned (OpenSpec.ofChange memOncesWrong)

/-- 'ticketlinelaw01.MemHolds': WHATEVER THE INPUT: true; the input reads as it did. -/
def memHoldsSpec : ChangeSpec := { name := "memHolds", fn := fun _ => fun
  | [d1, d2, d3] => { results := [.lit (.bool true)], args := [d1, d2, d3] }
  | _ => none }
def memHoldsRow : OpenClaim := { program := "ytiahhpjkpdiibaa", sum := "f816aedff7fb79b8722ec75ae3fa433db5ed5b1679ff0cad4b26cd85e8ea1d77", func := "ticketline/ticketlinelaw01.MemHolds", spec := "memHolds", unfollowed := true, recurses := true, apart := false }
def MemHoldsSaid : Prop := memHoldsRow.holds Try.pinned (OpenSpec.ofChange memHoldsSpec)

/-- ITS FALSE NEIGHBOUR: 'it returns false'. Refute it at one input. -/
def memHoldsWrong : ChangeSpec := { name := "memHolds", fn := fun _ => fun
  | [d1, d2, d3] => { results := [.lit (.bool false)], args := [d1, d2, d3] }
  | _ => none }
def MemHoldsWrongFalsely : Prop := memHoldsRow.holds Try.pinned (OpenSpec.ofChange memHoldsWrong)

/-- 'ticketlinelaw01.MemWords': WHATEVER THE INPUT: true; the input reads as it did. -/
def memWordsSpec : ChangeSpec := { name := "memWords", fn := fun _ => fun
  | [d1, d2, d3, d4] => { results := [.lit (.bool true)], args := [d1, d2, d3, d4] }
  | _ => none }
def memWordsRow : OpenClaim := { program := "ytiahhpjkpdiibaa", sum := "f816aedff7fb79b8722ec75ae3fa433db5ed5b1679ff0cad4b26cd85e8ea1d77", func := "ticketline/ticketlinelaw01.MemWords", spec := "memWords", unfollowed := true, recurses := true, apart := false }
def MemWordsSaid : Prop := memWordsRow.holds Try.pinned (OpenSpec.ofChange memWordsSpec)

/-- ITS FALSE NEIGHBOUR: 'it returns false'. Refute it at one input. -/
def memWordsWrong : ChangeSpec := { name := "memWords", fn := fun _ => fun
  | [d1, d2, d3, d4] => { results := [.lit (.bool false)], args := [d1, d2, d3, d4] }
  | _ => none }
def MemWordsWrongFalsely : Prop := memWordsRow.holds Try.pinned (OpenSpec.ofChange memWordsWrong)

/-- 'ticketlinelaw01.MemNil': WHATEVER THE INPUT: true; the input reads as it did. -/
def memNilSpec : ChangeSpec := { name := "memNil", fn := fun _ => fun
  | [d] => { results := [.lit (.bool true)], args := [d] }
  | _ => none }
def memNilRow : OpenClaim := { program := "ytiahhpjkpdiibaa", sum := "f816aedff7fb79b8722ec75ae3fa433db5ed5b1679ff0cad4b26cd85e8ea1d77", func := "ticketline/ticketlinelaw01.MemNil", spec := "memNil", unfollowed := true, recurses := true, apart := false }
def MemNilSaid : Prop := memNilRow.holds Try.pinned (OpenSpec.ofChange memNilSpec)

/-- ITS FALSE NEIGHBOUR: 'it returns false'. Refute it at one input. -/
def memNilWrong : ChangeSpec := { name := "memNil", fn := fun _ => fun
  | [d] => { results := [.lit (.bool false)], args := [d] }
  | _ => none }
def MemNilWrongFalsely : Prop := memNilRow.holds Try.pinned (OpenSpec.ofChange memNilWrong)

/- THE SECOND FORM. 'bulk': how many values and letters a reading holds, each counted each time it is reached (what is shared counts as often as it is met; a slice's spare places count too). A statement '..UptoSaid' is the law's where the arguments, and the package variables that the reading takes, are together of bulk at most 1048576: NARROWER than '..Said'. Prove '..Said' where nothing that the law and all that it calls make is longer than what came in: it says more and counts as full. Else prove '..UptoSaid'. A law counts once. -/
mutual
def uptoBulk {H : Type} : DataW H → Nat
  | .lit (.string bytes) => bytes.length + 1
  | .lit _ => 1
  | .nil => 1
  | .ptr d => uptoBulk d + 1
  | .slice elems spare => uptoBulkAll elems + uptoBulkAll spare + 1
  | .agg parts => uptoBulkAll parts + 1
  | .iface _ d => uptoBulk d + 1
  | .map entries => uptoBulkEntries entries + 1
  | .held _ => 1
def uptoBulkAll {H : Type} : List (DataW H) → Nat
  | [] => 0
  | d :: r => uptoBulk d + uptoBulkAll r
def uptoBulkEntries {H : Type} : List (Lit × DataW H) → Nat
  | [] => 0
  | x :: r => uptoBulkEntry x + uptoBulkEntries r
def uptoBulkEntry {H : Type} : Lit × DataW H → Nat
  | (.string bytes, d) => bytes.length + uptoBulk d + 1
  | (_, d) => uptoBulk d + 1
 end
def uptoSmall : (H : Type) → List (DataW H) → Bool := fun _ ds => decide (uptoBulkAll ds ≤ 1048576)
def OpenSpec.upto (s : _root_.Go.ChangeSpec) : _root_.Go.OpenSpec := { _root_.Go.OpenSpec.ofChange s with cond := some uptoSmall }

/-- 'ticketlinelaw01.MemPlays', WHERE WHAT IT READS IS OF BULK AT MOST 1048576: true; the input reads as it did. -/
def memPlaysUptoRow : OpenClaim := { program := "ytiahhpjkpdiibaa", sum := "f816aedff7fb79b8722ec75ae3fa433db5ed5b1679ff0cad4b26cd85e8ea1d77", func := "ticketline/ticketlinelaw01.MemPlays", spec := "memPlays", unfollowed := true, recurses := true, apart := false, narrowed := true }
def MemPlaysUptoSaid : Prop := memPlaysUptoRow.holds Try.pinned (OpenSpec.upto memPlaysSpec)

/-- 'ticketlinelaw01.MemSizes', WHERE WHAT IT READS IS OF BULK AT MOST 1048576: true; the input reads as it did. -/
def memSizesUptoRow : OpenClaim := { program := "ytiahhpjkpdiibaa", sum := "f816aedff7fb79b8722ec75ae3fa433db5ed5b1679ff0cad4b26cd85e8ea1d77", func := "ticketline/ticketlinelaw01.MemSizes", spec := "memSizes", unfollowed := true, recurses := true, apart := false, narrowed := true }
def MemSizesUptoSaid : Prop := memSizesUptoRow.holds Try.pinned (OpenSpec.upto memSizesSpec)

/-- 'ticketlinelaw01.MemOnces', WHERE WHAT IT READS IS OF BULK AT MOST 1048576: true; the input reads as it did. -/
def memOncesUptoRow : OpenClaim := { program := "ytiahhpjkpdiibaa", sum := "f816aedff7fb79b8722ec75ae3fa433db5ed5b1679ff0cad4b26cd85e8ea1d77", func := "ticketline/ticketlinelaw01.MemOnces", spec := "memOnces", unfollowed := true, recurses := true, apart := false, narrowed := true }
def MemOncesUptoSaid : Prop := memOncesUptoRow.holds Try.pinned (OpenSpec.upto memOncesSpec)

/-- 'ticketlinelaw01.MemHolds', WHERE WHAT IT READS IS OF BULK AT MOST 1048576: true; the input reads as it did. -/
def memHoldsUptoRow : OpenClaim := { program := "ytiahhpjkpdiibaa", sum := "f816aedff7fb79b8722ec75ae3fa433db5ed5b1679ff0cad4b26cd85e8ea1d77", func := "ticketline/ticketlinelaw01.MemHolds", spec := "memHolds", unfollowed := true, recurses := true, apart := false, narrowed := true }
def MemHoldsUptoSaid : Prop := memHoldsUptoRow.holds Try.pinned (OpenSpec.upto memHoldsSpec)

/-- 'ticketlinelaw01.MemWords', WHERE WHAT IT READS IS OF BULK AT MOST 1048576: true; the input reads as it did. -/
def memWordsUptoRow : OpenClaim := { program := "ytiahhpjkpdiibaa", sum := "f816aedff7fb79b8722ec75ae3fa433db5ed5b1679ff0cad4b26cd85e8ea1d77", func := "ticketline/ticketlinelaw01.MemWords", spec := "memWords", unfollowed := true, recurses := true, apart := false, narrowed := true }
def MemWordsUptoSaid : Prop := memWordsUptoRow.holds Try.pinned (OpenSpec.upto memWordsSpec)

/-- 'ticketlinelaw01.MemNil', WHERE WHAT IT READS IS OF BULK AT MOST 1048576: true; the input reads as it did. -/
def memNilUptoRow : OpenClaim := { program := "ytiahhpjkpdiibaa", sum := "f816aedff7fb79b8722ec75ae3fa433db5ed5b1679ff0cad4b26cd85e8ea1d77", func := "ticketline/ticketlinelaw01.MemNil", spec := "memNil", unfollowed := true, recurses := true, apart := false, narrowed := true }
def MemNilUptoSaid : Prop := memNilUptoRow.holds Try.pinned (OpenSpec.upto memNilSpec)

end Rows
end Go.Proofs.Ytiahhpjkpdiibaa
