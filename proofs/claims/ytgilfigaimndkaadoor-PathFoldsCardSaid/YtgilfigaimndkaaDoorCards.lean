/-
  DERIVED. GIVEN WITH THE SEED: THE CARDS: each row of YtgilfigaimndkaaDoorRows.lean that lists a variable, with what it lists TIED to the program's text (the seventh form; the later family's looks); each row that meets fmt, with fmt's text TOLD by the authors' own Lean function (tested against real Go, not proved from fmt's source: count such statements apart). THE CARD IS WHAT COUNTS. Prove the row's statement (the work); the ties are given (YtgilfigaimndkaaDoorTie.lean); close each card by the builder's one call (the guide's Derived/Test/ToyasCard.lean, 'card_holds'). Laid BY PROGRAM, IN A SANDBOX (cutbox-door.mjs). By AI agents, Wed Nov 11 2026. No macro, syntax, notation, axiom, sorry.
-/
import Derived.Test.YtgilfigaimndkaaDoorRows
import GoSem.ClaimSeven
namespace Go.Proofs.YtgilfigaimndkaaDoor
namespace Rows

/-- THE TIED CARD OF 'wherrylaw11.PathExact'. -/
def pathExactCard : Claim7 := { stood := { row := pathExactRow, standIns := [], harness := (true, "62afe3c96d393e140f71d142e7584ad3e42a1dede33976ccbb9c2945ad0bb5a1"), looks := false }, kinds := [], alts := [], laidByText := true, laidKinds := [.data, .pinned], laidTests := true, laidLooks := .later }
def PathExactCardSaid : Prop := Claim7.holds Tryd.pinned (.plain (OpenSpec.ofChange pathExactSpec)) pathExactCard

/-- THE TIED CARD OF 'wherrylaw11.PathBack'. -/
def pathBackCard : Claim7 := { stood := { row := pathBackRow, standIns := [], harness := (true, "62afe3c96d393e140f71d142e7584ad3e42a1dede33976ccbb9c2945ad0bb5a1"), looks := false }, kinds := [], alts := [], laidByText := true, laidKinds := [.data, .pinned], laidTests := true, laidLooks := .later }
def PathBackCardSaid : Prop := Claim7.holds Tryd.pinned (.plain (OpenSpec.ofChange pathBackSpec)) pathBackCard

/-- THE TIED CARD OF 'wherrylaw11.PathFolds'. -/
def pathFoldsCard : Claim7 := { stood := { row := pathFoldsRow, standIns := [], harness := (true, "62afe3c96d393e140f71d142e7584ad3e42a1dede33976ccbb9c2945ad0bb5a1"), looks := false }, kinds := [], alts := [], laidByText := true, laidKinds := [.data, .pinned], laidTests := true, laidLooks := .later }
def PathFoldsCardSaid : Prop := Claim7.holds Tryd.pinned (.plain (OpenSpec.ofChange pathFoldsSpec)) pathFoldsCard

/-- THE TIED CARD OF 'wherrylaw11.PathDomains'. -/
def pathDomainsCard : Claim7 := { stood := { row := pathDomainsRow, standIns := [], harness := (true, "62afe3c96d393e140f71d142e7584ad3e42a1dede33976ccbb9c2945ad0bb5a1"), looks := false }, kinds := [], alts := [], laidByText := true, laidKinds := [.data, .pinned], laidTests := true, laidLooks := .later }
def PathDomainsCardSaid : Prop := Claim7.holds Tryd.pinned (.plain (OpenSpec.ofChange pathDomainsSpec)) pathDomainsCard

/-- THE TIED CARD OF 'wherrylaw11.PathLong'. -/
def pathLongCard : Claim7 := { stood := { row := pathLongRow, standIns := [], harness := (true, "62afe3c96d393e140f71d142e7584ad3e42a1dede33976ccbb9c2945ad0bb5a1"), looks := false }, kinds := [], alts := [], laidByText := true, laidKinds := [.data, .pinned], laidTests := true, laidLooks := .later }
def PathLongCardSaid : Prop := Claim7.holds Tryd.pinned (.plain (OpenSpec.ofChange pathLongSpec)) pathLongCard

/-- THE TIED CARD OF 'wherrylaw11.PathSigns'. -/
def pathSignsCard : Claim7 := { stood := { row := pathSignsRow, standIns := [], harness := (true, "62afe3c96d393e140f71d142e7584ad3e42a1dede33976ccbb9c2945ad0bb5a1"), looks := false }, kinds := [], alts := [], laidByText := true, laidKinds := [.data, .pinned], laidTests := true, laidLooks := .later }
def PathSignsCardSaid : Prop := Claim7.holds Tryd.pinned (.plain (OpenSpec.ofChange pathSignsSpec)) pathSignsCard

/-- THE SECOND FORM's CARD OF 'wherrylaw11.PathExact'. -/
def pathExactUptoCard : Claim7 := { stood := { row := pathExactUptoRow, standIns := [], harness := (true, "62afe3c96d393e140f71d142e7584ad3e42a1dede33976ccbb9c2945ad0bb5a1"), looks := false }, kinds := [], alts := [], laidByText := true, laidKinds := [.data, .pinned], laidTests := true, laidLooks := .later }
def PathExactUptoCardSaid : Prop := Claim7.holds Tryd.pinned (.plain (OpenSpec.upto pathExactSpec)) pathExactUptoCard

/-- THE SECOND FORM's CARD OF 'wherrylaw11.PathBack'. -/
def pathBackUptoCard : Claim7 := { stood := { row := pathBackUptoRow, standIns := [], harness := (true, "62afe3c96d393e140f71d142e7584ad3e42a1dede33976ccbb9c2945ad0bb5a1"), looks := false }, kinds := [], alts := [], laidByText := true, laidKinds := [.data, .pinned], laidTests := true, laidLooks := .later }
def PathBackUptoCardSaid : Prop := Claim7.holds Tryd.pinned (.plain (OpenSpec.upto pathBackSpec)) pathBackUptoCard

/-- THE SECOND FORM's CARD OF 'wherrylaw11.PathFolds'. -/
def pathFoldsUptoCard : Claim7 := { stood := { row := pathFoldsUptoRow, standIns := [], harness := (true, "62afe3c96d393e140f71d142e7584ad3e42a1dede33976ccbb9c2945ad0bb5a1"), looks := false }, kinds := [], alts := [], laidByText := true, laidKinds := [.data, .pinned], laidTests := true, laidLooks := .later }
def PathFoldsUptoCardSaid : Prop := Claim7.holds Tryd.pinned (.plain (OpenSpec.upto pathFoldsSpec)) pathFoldsUptoCard

/-- THE SECOND FORM's CARD OF 'wherrylaw11.PathDomains'. -/
def pathDomainsUptoCard : Claim7 := { stood := { row := pathDomainsUptoRow, standIns := [], harness := (true, "62afe3c96d393e140f71d142e7584ad3e42a1dede33976ccbb9c2945ad0bb5a1"), looks := false }, kinds := [], alts := [], laidByText := true, laidKinds := [.data, .pinned], laidTests := true, laidLooks := .later }
def PathDomainsUptoCardSaid : Prop := Claim7.holds Tryd.pinned (.plain (OpenSpec.upto pathDomainsSpec)) pathDomainsUptoCard

/-- THE SECOND FORM's CARD OF 'wherrylaw11.PathLong'. -/
def pathLongUptoCard : Claim7 := { stood := { row := pathLongUptoRow, standIns := [], harness := (true, "62afe3c96d393e140f71d142e7584ad3e42a1dede33976ccbb9c2945ad0bb5a1"), looks := false }, kinds := [], alts := [], laidByText := true, laidKinds := [.data, .pinned], laidTests := true, laidLooks := .later }
def PathLongUptoCardSaid : Prop := Claim7.holds Tryd.pinned (.plain (OpenSpec.upto pathLongSpec)) pathLongUptoCard

/-- THE SECOND FORM's CARD OF 'wherrylaw11.PathSigns'. -/
def pathSignsUptoCard : Claim7 := { stood := { row := pathSignsUptoRow, standIns := [], harness := (true, "62afe3c96d393e140f71d142e7584ad3e42a1dede33976ccbb9c2945ad0bb5a1"), looks := false }, kinds := [], alts := [], laidByText := true, laidKinds := [.data, .pinned], laidTests := true, laidLooks := .later }
def PathSignsUptoCardSaid : Prop := Claim7.holds Tryd.pinned (.plain (OpenSpec.upto pathSignsSpec)) pathSignsUptoCard
end Rows
end Go.Proofs.YtgilfigaimndkaaDoor
