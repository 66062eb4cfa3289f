/-
  No cell of these rows narrows 'for every input' (looked for: loops, veiled, ifaces, maps, wideKeys, modest, calm, conditions, laid).
  DERIVED. THE GIVEN ROWS OF THIS SEAT. 5 by the template 'for every input the law returns true; each argument reads behind the call as it read before'; 0 by the template 'total and deterministic' (their statements: YtjcoinedialafaaTotals.lean).
  GIVEN WITH THE SEED: the statements are not yours to turn. If you find one false, say at which input.
  Laid BY PROGRAM, IN A SANDBOX (cutbox-rows.mjs): the forced cells as the released guide's own fill.sh prints them over the translation 274e0eaa1553f282… (all of the seat's roots in one cut). By AI agents, Wed Nov 11 2026. No macro, syntax, notation, axiom, sorry.
-/
import Derived.Test.YtjcoinedialafaaChecked
import GoSem.Claim
import GoSem.ClaimJoined
import GoSem.ClaimMapViews
import Derived.JoinedTies
import Derived.KernelRfl
namespace Go.Proofs.Ytjcoinedialafaa
/- THE CELL 'sum', in the pinned program and in every row, IS THE sha256 OF THE DUMP (.gsa) THAT YtjcoinedialafaaProg.lean LOADS. Nothing in Lean hashes anything: it is a label: what it is worth is what the hold of that sum in a sandbox is worth. -/
noncomputable def Try.pinned : Pinned := { name := "ytjcoinedialafaa", sum := "274e0eaa1553f2829a3fd5c753fa5997250cf658cc49ff78bbe4b66bcb96a7e3", checked := Try.checked }
namespace Rows
def none {H : Type} : Left H := { results := [], args := [] }

/-- 'ticketlinelaw07.QnodeThreads': WHATEVER THE INPUT: true; the input reads as it did. -/
def qnodeThreadsSpec : ChangeSpec := { name := "qnodeThreads", fn := fun _ => fun
  | [d1, d2, d3, d4, d5] => { results := [.lit (.bool true)], args := [d1, d2, d3, d4, d5] }
  | _ => none }
def qnodeThreadsRow : OpenClaim := { program := "ytjcoinedialafaa", sum := "274e0eaa1553f2829a3fd5c753fa5997250cf658cc49ff78bbe4b66bcb96a7e3", func := "ticketline/ticketlinelaw07.QnodeThreads", spec := "qnodeThreads", apart := false }
def QnodeThreadsSaid : Prop := qnodeThreadsRow.holds Try.pinned (OpenSpec.ofChange qnodeThreadsSpec)

/-- ITS FALSE NEIGHBOUR: 'it returns false'. Refute it at one input. -/
def qnodeThreadsWrong : ChangeSpec := { name := "qnodeThreads", fn := fun _ => fun
  | [d1, d2, d3, d4, d5] => { results := [.lit (.bool false)], args := [d1, d2, d3, d4, d5] }
  | _ => none }
def QnodeThreadsWrongFalsely : Prop := qnodeThreadsRow.holds Try.pinned (OpenSpec.ofChange qnodeThreadsWrong)

/-- 'ticketlinelaw07.QnodeWords': WHATEVER THE INPUT: true; the input reads as it did. -/
def qnodeWordsSpec : ChangeSpec := { name := "qnodeWords", fn := fun _ => fun
  | [d1, d2, d3, d4] => { results := [.lit (.bool true)], args := [d1, d2, d3, d4] }
  | _ => none }
def qnodeWordsRow : OpenClaim := { program := "ytjcoinedialafaa", sum := "274e0eaa1553f2829a3fd5c753fa5997250cf658cc49ff78bbe4b66bcb96a7e3", func := "ticketline/ticketlinelaw07.QnodeWords", spec := "qnodeWords", apart := false }
def QnodeWordsSaid : Prop := qnodeWordsRow.holds Try.pinned (OpenSpec.ofChange qnodeWordsSpec)

/-- ITS FALSE NEIGHBOUR: 'it returns false'. Refute it at one input. -/
def qnodeWordsWrong : ChangeSpec := { name := "qnodeWords", fn := fun _ => fun
  | [d1, d2, d3, d4] => { results := [.lit (.bool false)], args := [d1, d2, d3, d4] }
  | _ => none }
def QnodeWordsWrongFalsely : Prop := qnodeWordsRow.holds Try.pinned (OpenSpec.ofChange qnodeWordsWrong)

/-- 'ticketlinelaw07.QnodeHolds': WHATEVER THE INPUT: true; the input reads as it did. -/
def qnodeHoldsSpec : ChangeSpec := { name := "qnodeHolds", fn := fun _ => fun
  | [d1, d2] => { results := [.lit (.bool true)], args := [d1, d2] }
  | _ => none }
def qnodeHoldsRow : OpenClaim := { program := "ytjcoinedialafaa", sum := "274e0eaa1553f2829a3fd5c753fa5997250cf658cc49ff78bbe4b66bcb96a7e3", func := "ticketline/ticketlinelaw07.QnodeHolds", spec := "qnodeHolds", apart := false }
def QnodeHoldsSaid : Prop := qnodeHoldsRow.holds Try.pinned (OpenSpec.ofChange qnodeHoldsSpec)

/-- ITS FALSE NEIGHBOUR: 'it returns false'. Refute it at one input. -/
def qnodeHoldsWrong : ChangeSpec := { name := "qnodeHolds", fn := fun _ => fun
  | [d1, d2] => { results := [.lit (.bool false)], args := [d1, d2] }
  | _ => none }
def QnodeHoldsWrongFalsely : Prop := qnodeHoldsRow.holds Try.pinned (OpenSpec.ofChange qnodeHoldsWrong)

/-- 'ticketlinelaw07.QnodeNew': WHATEVER THE INPUT: true; the input reads as it did. -/
def qnodeNewSpec : ChangeSpec := { name := "qnodeNew", fn := fun _ => fun
  | [d1, d2, d3, d4] => { results := [.lit (.bool true)], args := [d1, d2, d3, d4] }
  | _ => none }
def qnodeNewRow : OpenClaim := { program := "ytjcoinedialafaa", sum := "274e0eaa1553f2829a3fd5c753fa5997250cf658cc49ff78bbe4b66bcb96a7e3", func := "ticketline/ticketlinelaw07.QnodeNew", spec := "qnodeNew", apart := false }
def QnodeNewSaid : Prop := qnodeNewRow.holds Try.pinned (OpenSpec.ofChange qnodeNewSpec)

/-- ITS FALSE NEIGHBOUR: 'it returns false'. Refute it at one input. -/
def qnodeNewWrong : ChangeSpec := { name := "qnodeNew", fn := fun _ => fun
  | [d1, d2, d3, d4] => { results := [.lit (.bool false)], args := [d1, d2, d3, d4] }
  | _ => none }
def QnodeNewWrongFalsely : Prop := qnodeNewRow.holds Try.pinned (OpenSpec.ofChange qnodeNewWrong)

/-- 'ticketlinelaw07.QnodeNil': WHATEVER THE INPUT: true; the input reads as it did. -/
def qnodeNilSpec : ChangeSpec := { name := "qnodeNil", fn := fun _ => fun
  | [d1, d2, d3] => { results := [.lit (.bool true)], args := [d1, d2, d3] }
  | _ => none }
def qnodeNilRow : OpenClaim := { program := "ytjcoinedialafaa", sum := "274e0eaa1553f2829a3fd5c753fa5997250cf658cc49ff78bbe4b66bcb96a7e3", func := "ticketline/ticketlinelaw07.QnodeNil", spec := "qnodeNil", apart := false }
def QnodeNilSaid : Prop := qnodeNilRow.holds Try.pinned (OpenSpec.ofChange qnodeNilSpec)

/-- ITS FALSE NEIGHBOUR: 'it returns false'. Refute it at one input. -/
def qnodeNilWrong : ChangeSpec := { name := "qnodeNil", fn := fun _ => fun
  | [d1, d2, d3] => { results := [.lit (.bool false)], args := [d1, d2, d3] }
  | _ => none }
def QnodeNilWrongFalsely : Prop := qnodeNilRow.holds Try.pinned (OpenSpec.ofChange qnodeNilWrong)

/- THE SECOND FORM. 'bulk': how many values and letters a reading holds, each counted each time it is reached (what is shared counts as often as it is met; a slice's spare places count too). A statement '..UptoSaid' is the law's where the arguments, and the package variables that the reading takes, are together of bulk at most 1048576: NARROWER than '..Said'. Prove '..Said' where nothing that the law and all that it calls make is longer than what came in: it says more and counts as full. Else prove '..UptoSaid'. A law counts once. -/
mutual
def uptoBulk {H : Type} : DataW H → Nat
  | .lit (.string bytes) => bytes.length + 1
  | .lit _ => 1
  | .nil => 1
  | .ptr d => uptoBulk d + 1
  | .slice elems spare => uptoBulkAll elems + uptoBulkAll spare + 1
  | .agg parts => uptoBulkAll parts + 1
  | .iface _ d => uptoBulk d + 1
  | .map entries => uptoBulkEntries entries + 1
  | .held _ => 1
def uptoBulkAll {H : Type} : List (DataW H) → Nat
  | [] => 0
  | d :: r => uptoBulk d + uptoBulkAll r
def uptoBulkEntries {H : Type} : List (Lit × DataW H) → Nat
  | [] => 0
  | x :: r => uptoBulkEntry x + uptoBulkEntries r
def uptoBulkEntry {H : Type} : Lit × DataW H → Nat
  | (.string bytes, d) => bytes.length + uptoBulk d + 1
  | (_, d) => uptoBulk d + 1
 end
def uptoSmall : (H : Type) → List (DataW H) → Bool := fun _ ds => decide (uptoBulkAll ds ≤ 1048576)
def OpenSpec.upto (s : _root_.Go.ChangeSpec) : _root_.Go.OpenSpec := { _root_.Go.OpenSpec.ofChange s with cond := some uptoSmall }

/-- 'ticketlinelaw07.QnodeThreads', WHERE WHAT IT READS IS OF BULK AT MOST 1048576: true; the input reads as it did. -/
def qnodeThreadsUptoRow : OpenClaim := { program := "ytjcoinedialafaa", sum := "274e0eaa1553f2829a3fd5c753fa5997250cf658cc49ff78bbe4b66bcb96a7e3", func := "ticketline/ticketlinelaw07.QnodeThreads", spec := "qnodeThreads", apart := false, narrowed := true }
def QnodeThreadsUptoSaid : Prop := qnodeThreadsUptoRow.holds Try.pinned (OpenSpec.upto qnodeThreadsSpec)

/-- 'ticketlinelaw07.QnodeWords', WHERE WHAT IT READS IS OF BULK AT MOST 1048576: true; the input reads as it did. -/
def qnodeWordsUptoRow : OpenClaim := { program := "ytjcoinedialafaa", sum := "274e0eaa1553f2829a3fd5c753fa5997250cf658cc49ff78bbe4b66bcb96a7e3", func := "ticketline/ticketlinelaw07.QnodeWords", spec := "qnodeWords", apart := false, narrowed := true }
def QnodeWordsUptoSaid : Prop := qnodeWordsUptoRow.holds Try.pinned (OpenSpec.upto qnodeWordsSpec)

/-- 'ticketlinelaw07.QnodeHolds', WHERE WHAT IT READS IS OF BULK AT MOST 1048576: true; the input reads as it did. -/
def qnodeHoldsUptoRow : OpenClaim := { program := "ytjcoinedialafaa", sum := "274e0eaa1553f2829a3fd5c753fa5997250cf658cc49ff78bbe4b66bcb96a7e3", func := "ticketline/ticketlinelaw07.QnodeHolds", spec := "qnodeHolds", apart := false, narrowed := true }
def QnodeHoldsUptoSaid : Prop := qnodeHoldsUptoRow.holds Try.pinned (OpenSpec.upto qnodeHoldsSpec)

/-- 'ticketlinelaw07.QnodeNew', WHERE WHAT IT READS IS OF BULK AT MOST 1048576: true; the input reads as it did. -/
def qnodeNewUptoRow : OpenClaim := { program := "ytjcoinedialafaa", sum := "274e0eaa1553f2829a3fd5c753fa5997250cf658cc49ff78bbe4b66bcb96a7e3", func := "ticketline/ticketlinelaw07.QnodeNew", spec := "qnodeNew", apart := false, narrowed := true }
def QnodeNewUptoSaid : Prop := qnodeNewUptoRow.holds Try.pinned (OpenSpec.upto qnodeNewSpec)

/-- 'ticketlinelaw07.QnodeNil', WHERE WHAT IT READS IS OF BULK AT MOST 1048576: true; the input reads as it did. -/
def qnodeNilUptoRow : OpenClaim := { program := "ytjcoinedialafaa", sum := "274e0eaa1553f2829a3fd5c753fa5997250cf658cc49ff78bbe4b66bcb96a7e3", func := "ticketline/ticketlinelaw07.QnodeNil", spec := "qnodeNil", apart := false, narrowed := true }
def QnodeNilUptoSaid : Prop := qnodeNilUptoRow.holds Try.pinned (OpenSpec.upto qnodeNilSpec)

end Rows
end Go.Proofs.Ytjcoinedialafaa
