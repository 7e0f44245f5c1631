/-
  DERIVED. GIVEN WITH THE SEED: THE CARDS: each row of YtghnffhgmhfofaaDoorRows.lean that lists a variable, with what it lists TIED to the program's text (the seventh form; the later family's looks); each row that meets fmt, with fmt's text TOLD by the authors' own Lean function (tested against real Go, not proved from fmt's source: count such statements apart). THE CARD IS WHAT COUNTS. Prove the row's statement (the work); the ties are given (YtghnffhgmhfofaaDoorTie.lean); close each card by the builder's one call (the guide's Derived/Test/ToyasCard.lean, 'card_holds'). Laid BY PROGRAM, IN A SANDBOX (cutbox-door.mjs). By AI agents, Wed Nov 11 2026. No macro, syntax, notation, axiom, sorry.
-/
import Derived.Test.YtghnffhgmhfofaaDoorRows
import GoSem.ClaimSeven
namespace Go.Proofs.YtghnffhgmhfofaaDoor
namespace Rows

/-- THE TIED CARD OF 'wherrylaw16.ReportExact'. -/
def reportExactCard : Claim7 := { stood := { row := reportExactRow, standIns := [], harness := (true, "14938acf02ff27100e4ca865ab64c3253fee77ef70de6545509134c069c82ae8"), looks := false }, kinds := [], alts := [], laidByText := true, laidKinds := [.data, .pinned], laidTests := true, laidLooks := .later }
def ReportExactCardSaid : Prop := Claim7.holds Tryd.pinned (.plain (OpenSpec.ofChange reportExactSpec)) reportExactCard

/-- THE TIED CARD OF 'wherrylaw16.ReportWrong'. -/
def reportWrongCard : Claim7 := { stood := { row := reportWrongRow, standIns := [], harness := (true, "14938acf02ff27100e4ca865ab64c3253fee77ef70de6545509134c069c82ae8"), looks := false }, kinds := [], alts := [], laidByText := true, laidKinds := [.data, .pinned], laidTests := true, laidLooks := .later }
def ReportWrongCardSaid : Prop := Claim7.holds Tryd.pinned (.plain (OpenSpec.ofChange reportWrongSpec)) reportWrongCard

/-- THE TIED CARD OF 'wherrylaw16.ReportBack'. -/
def reportBackCard : Claim7 := { stood := { row := reportBackRow, standIns := [], harness := (true, "14938acf02ff27100e4ca865ab64c3253fee77ef70de6545509134c069c82ae8"), looks := false }, kinds := [], alts := [], laidByText := true, laidKinds := [.data, .pinned], laidTests := true, laidLooks := .later }
def ReportBackCardSaid : Prop := Claim7.holds Tryd.pinned (.plain (OpenSpec.ofChange reportBackSpec)) reportBackCard

/-- THE SECOND FORM's CARD OF 'wherrylaw16.ReportExact'. -/
def reportExactUptoCard : Claim7 := { stood := { row := reportExactUptoRow, standIns := [], harness := (true, "14938acf02ff27100e4ca865ab64c3253fee77ef70de6545509134c069c82ae8"), looks := false }, kinds := [], alts := [], laidByText := true, laidKinds := [.data, .pinned], laidTests := true, laidLooks := .later }
def ReportExactUptoCardSaid : Prop := Claim7.holds Tryd.pinned (.plain (OpenSpec.upto reportExactSpec)) reportExactUptoCard

/-- THE SECOND FORM's CARD OF 'wherrylaw16.ReportWrong'. -/
def reportWrongUptoCard : Claim7 := { stood := { row := reportWrongUptoRow, standIns := [], harness := (true, "14938acf02ff27100e4ca865ab64c3253fee77ef70de6545509134c069c82ae8"), looks := false }, kinds := [], alts := [], laidByText := true, laidKinds := [.data, .pinned], laidTests := true, laidLooks := .later }
def ReportWrongUptoCardSaid : Prop := Claim7.holds Tryd.pinned (.plain (OpenSpec.upto reportWrongSpec)) reportWrongUptoCard

/-- THE SECOND FORM's CARD OF 'wherrylaw16.ReportBack'. -/
def reportBackUptoCard : Claim7 := { stood := { row := reportBackUptoRow, standIns := [], harness := (true, "14938acf02ff27100e4ca865ab64c3253fee77ef70de6545509134c069c82ae8"), looks := false }, kinds := [], alts := [], laidByText := true, laidKinds := [.data, .pinned], laidTests := true, laidLooks := .later }
def ReportBackUptoCardSaid : Prop := Claim7.holds Tryd.pinned (.plain (OpenSpec.upto reportBackSpec)) reportBackUptoCard
end Rows
end Go.Proofs.YtghnffhgmhfofaaDoor
