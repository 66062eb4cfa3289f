/-
  DERIVED. GIVEN WITH THE SEED: THE CARDS: each row of YtcnbjpbohhfmoaaDoorRows.lean that lists a variable, with what it lists TIED to the program's text (the seventh form; the later family's looks); each row that meets fmt, with fmt's text TOLD by the authors' own Lean function (tested against real Go, not proved from fmt's source: count such statements apart). THE CARD IS WHAT COUNTS. Prove the row's statement (the work); the ties are given (YtcnbjpbohhfmoaaDoorTie.lean); close each card by the builder's one call (the guide's Derived/Test/ToyasCard.lean, 'card_holds'). Laid BY PROGRAM, IN A SANDBOX (cutbox-door.mjs). By AI agents, Wed Nov 11 2026. No macro, syntax, notation, axiom, sorry.
-/
import Derived.Test.YtcnbjpbohhfmoaaDoorRows
import GoSem.ClaimSeven
namespace Go.Proofs.YtcnbjpbohhfmoaaDoor
namespace Rows

/-- THE TIED CARD OF 'ticketlinelaw06.ModesFits'. -/
def modesFitsCard : Claim7 := { stood := { row := modesFitsRow, standIns := [], harness := (true, "f766db4293ea6110ba7a42d08b558a3c7e9a76c8752cc0e814c982e4deef11c3"), looks := false }, kinds := [], alts := [], laidByText := true, laidKinds := [.data, .widerDeep], laidTests := true, laidLooks := .later }
def ModesFitsCardSaid : Prop := Claim7.holds Tryd.pinned (.plain (OpenSpec.ofChange modesFitsSpec)) modesFitsCard

/-- THE TIED CARD OF 'ticketlinelaw06.ModesAlls'. -/
def modesAllsCard : Claim7 := { stood := { row := modesAllsRow, standIns := [], harness := (true, "f766db4293ea6110ba7a42d08b558a3c7e9a76c8752cc0e814c982e4deef11c3"), looks := false }, kinds := [], alts := [], laidByText := true, laidKinds := [.data, .widerDeep], laidTests := true, laidLooks := .later }
def ModesAllsCardSaid : Prop := Claim7.holds Tryd.pinned (.plain (OpenSpec.ofChange modesAllsSpec)) modesAllsCard

/-- THE TIED CARD OF 'ticketlinelaw06.ModesGoes'. -/
def modesGoesCard : Claim7 := { stood := { row := modesGoesRow, standIns := [], harness := (true, "f766db4293ea6110ba7a42d08b558a3c7e9a76c8752cc0e814c982e4deef11c3"), looks := false }, kinds := [], alts := [], laidByText := true, laidKinds := [.data, .widerDeep], laidTests := true, laidLooks := .later }
def ModesGoesCardSaid : Prop := Claim7.holds Tryd.pinned (.plain (OpenSpec.ofChange modesGoesSpec)) modesGoesCard

/-- THE TIED CARD OF 'ticketlinelaw06.ModesGrants'. -/
def modesGrantsCard : Claim7 := { stood := { row := modesGrantsRow, standIns := [], harness := (true, "f766db4293ea6110ba7a42d08b558a3c7e9a76c8752cc0e814c982e4deef11c3"), looks := false }, kinds := [], alts := [], laidByText := true, laidKinds := [.data, .widerDeep], laidTests := true, laidLooks := .later }
def ModesGrantsCardSaid : Prop := Claim7.holds Tryd.pinned (.plain (OpenSpec.ofChange modesGrantsSpec)) modesGrantsCard

/-- THE TIED CARD OF 'ticketlinelaw06.ModesWords'. -/
def modesWordsCard : Claim7 := { stood := { row := modesWordsRow, standIns := [], harness := (true, "f766db4293ea6110ba7a42d08b558a3c7e9a76c8752cc0e814c982e4deef11c3"), looks := false }, kinds := [], alts := [], laidByText := true, laidKinds := [.data, .widerDeep], laidTests := true, laidLooks := .later }
def ModesWordsCardSaid : Prop := Claim7.holds Tryd.pinned (.plain (OpenSpec.ofChange modesWordsSpec)) modesWordsCard

/-- THE TIED CARD OF 'ticketlinelaw06.ModesHolds'. -/
def modesHoldsCard : Claim7 := { stood := { row := modesHoldsRow, standIns := [], harness := (true, "f766db4293ea6110ba7a42d08b558a3c7e9a76c8752cc0e814c982e4deef11c3"), looks := false }, kinds := [], alts := [], laidByText := true, laidKinds := [.data, .widerDeep], laidTests := true, laidLooks := .later }
def ModesHoldsCardSaid : Prop := Claim7.holds Tryd.pinned (.plain (OpenSpec.ofChange modesHoldsSpec)) modesHoldsCard

/-- THE SECOND FORM's CARD OF 'ticketlinelaw06.ModesFits'. -/
def modesFitsUptoCard : Claim7 := { stood := { row := modesFitsUptoRow, standIns := [], harness := (true, "f766db4293ea6110ba7a42d08b558a3c7e9a76c8752cc0e814c982e4deef11c3"), looks := false }, kinds := [], alts := [], laidByText := true, laidKinds := [.data, .widerDeep], laidTests := true, laidLooks := .later }
def ModesFitsUptoCardSaid : Prop := Claim7.holds Tryd.pinned (.plain (OpenSpec.upto modesFitsSpec)) modesFitsUptoCard

/-- THE SECOND FORM's CARD OF 'ticketlinelaw06.ModesAlls'. -/
def modesAllsUptoCard : Claim7 := { stood := { row := modesAllsUptoRow, standIns := [], harness := (true, "f766db4293ea6110ba7a42d08b558a3c7e9a76c8752cc0e814c982e4deef11c3"), looks := false }, kinds := [], alts := [], laidByText := true, laidKinds := [.data, .widerDeep], laidTests := true, laidLooks := .later }
def ModesAllsUptoCardSaid : Prop := Claim7.holds Tryd.pinned (.plain (OpenSpec.upto modesAllsSpec)) modesAllsUptoCard

/-- THE SECOND FORM's CARD OF 'ticketlinelaw06.ModesGoes'. -/
def modesGoesUptoCard : Claim7 := { stood := { row := modesGoesUptoRow, standIns := [], harness := (true, "f766db4293ea6110ba7a42d08b558a3c7e9a76c8752cc0e814c982e4deef11c3"), looks := false }, kinds := [], alts := [], laidByText := true, laidKinds := [.data, .widerDeep], laidTests := true, laidLooks := .later }
def ModesGoesUptoCardSaid : Prop := Claim7.holds Tryd.pinned (.plain (OpenSpec.upto modesGoesSpec)) modesGoesUptoCard

/-- THE SECOND FORM's CARD OF 'ticketlinelaw06.ModesGrants'. -/
def modesGrantsUptoCard : Claim7 := { stood := { row := modesGrantsUptoRow, standIns := [], harness := (true, "f766db4293ea6110ba7a42d08b558a3c7e9a76c8752cc0e814c982e4deef11c3"), looks := false }, kinds := [], alts := [], laidByText := true, laidKinds := [.data, .widerDeep], laidTests := true, laidLooks := .later }
def ModesGrantsUptoCardSaid : Prop := Claim7.holds Tryd.pinned (.plain (OpenSpec.upto modesGrantsSpec)) modesGrantsUptoCard

/-- THE SECOND FORM's CARD OF 'ticketlinelaw06.ModesWords'. -/
def modesWordsUptoCard : Claim7 := { stood := { row := modesWordsUptoRow, standIns := [], harness := (true, "f766db4293ea6110ba7a42d08b558a3c7e9a76c8752cc0e814c982e4deef11c3"), looks := false }, kinds := [], alts := [], laidByText := true, laidKinds := [.data, .widerDeep], laidTests := true, laidLooks := .later }
def ModesWordsUptoCardSaid : Prop := Claim7.holds Tryd.pinned (.plain (OpenSpec.upto modesWordsSpec)) modesWordsUptoCard

/-- THE SECOND FORM's CARD OF 'ticketlinelaw06.ModesHolds'. -/
def modesHoldsUptoCard : Claim7 := { stood := { row := modesHoldsUptoRow, standIns := [], harness := (true, "f766db4293ea6110ba7a42d08b558a3c7e9a76c8752cc0e814c982e4deef11c3"), looks := false }, kinds := [], alts := [], laidByText := true, laidKinds := [.data, .widerDeep], laidTests := true, laidLooks := .later }
def ModesHoldsUptoCardSaid : Prop := Claim7.holds Tryd.pinned (.plain (OpenSpec.upto modesHoldsSpec)) modesHoldsUptoCard
end Rows
end Go.Proofs.YtcnbjpbohhfmoaaDoor
