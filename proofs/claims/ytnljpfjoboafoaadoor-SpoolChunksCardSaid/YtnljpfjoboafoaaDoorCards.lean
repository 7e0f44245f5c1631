/-
  DERIVED. GIVEN WITH THE SEED: THE CARDS: each row of YtnljpfjoboafoaaDoorRows.lean that lists a variable, with what it lists TIED to the program's text (the seventh form; the later family's looks); each row that meets fmt, with fmt's text TOLD by the authors' own Lean function (tested against real Go, not proved from fmt's source: count such statements apart). THE CARD IS WHAT COUNTS. Prove the row's statement (the work); the ties are given (YtnljpfjoboafoaaDoorTie.lean); close each card by the builder's one call (the guide's Derived/Test/ToyasCard.lean, 'card_holds'). Laid BY PROGRAM, IN A SANDBOX (cutbox-door.mjs). By AI agents, Wed Nov 11 2026. No macro, syntax, notation, axiom, sorry.
-/
import Derived.Test.YtnljpfjoboafoaaDoorRows
import GoSem.ClaimSeven
namespace Go.Proofs.YtnljpfjoboafoaaDoor
namespace Rows

/-- THE TIED CARD OF 'wherrylaw19.SpoolLean'. -/
def spoolLeanCard : Claim7 := { stood := { row := spoolLeanRow, standIns := [], harness := (true, "d26ebfb27268fed32a6c219f67e9ee14c656c19d0b2cc18c89e12ccbdfd717b5"), looks := false }, kinds := [], alts := [], laidByText := true, laidKinds := [.data, .pinned], laidTests := true, laidLooks := .later }
def SpoolLeanCardSaid : Prop := Claim7.holds Tryd.pinned (.plain (OpenSpec.ofChange spoolLeanSpec)) spoolLeanCard

/-- THE TIED CARD OF 'wherrylaw19.SpoolStates'. -/
def spoolStatesCard : Claim7 := { stood := { row := spoolStatesRow, standIns := [], harness := (true, "d26ebfb27268fed32a6c219f67e9ee14c656c19d0b2cc18c89e12ccbdfd717b5"), looks := false }, kinds := [], alts := [], laidByText := true, laidKinds := [.data, .pinned], laidTests := true, laidLooks := .later }
def SpoolStatesCardSaid : Prop := Claim7.holds Tryd.pinned (.plain (OpenSpec.ofChange spoolStatesSpec)) spoolStatesCard

/-- THE TIED CARD OF 'wherrylaw19.SpoolChunks'. -/
def spoolChunksCard : Claim7 := { stood := { row := spoolChunksRow, standIns := [], harness := (true, "d26ebfb27268fed32a6c219f67e9ee14c656c19d0b2cc18c89e12ccbdfd717b5"), looks := false }, kinds := [], alts := [], laidByText := true, laidKinds := [.data, .pinned], laidTests := true, laidLooks := .later }
def SpoolChunksCardSaid : Prop := Claim7.holds Tryd.pinned (.plain (OpenSpec.ofChange spoolChunksSpec)) spoolChunksCard

/-- THE TIED CARD OF 'wherrylaw19.SpoolRefuses'. -/
def spoolRefusesCard : Claim7 := { stood := { row := spoolRefusesRow, standIns := [], harness := (true, "d26ebfb27268fed32a6c219f67e9ee14c656c19d0b2cc18c89e12ccbdfd717b5"), looks := false }, kinds := [], alts := [], laidByText := true, laidKinds := [.data, .pinned], laidTests := true, laidLooks := .later }
def SpoolRefusesCardSaid : Prop := Claim7.holds Tryd.pinned (.plain (OpenSpec.ofChange spoolRefusesSpec)) spoolRefusesCard

/-- THE TIED CARD OF 'wherrylaw19.SpoolFolds'. -/
def spoolFoldsCard : Claim7 := { stood := { row := spoolFoldsRow, standIns := [], harness := (true, "d26ebfb27268fed32a6c219f67e9ee14c656c19d0b2cc18c89e12ccbdfd717b5"), looks := false }, kinds := [], alts := [], laidByText := true, laidKinds := [.data, .pinned], laidTests := true, laidLooks := .later }
def SpoolFoldsCardSaid : Prop := Claim7.holds Tryd.pinned (.plain (OpenSpec.ofChange spoolFoldsSpec)) spoolFoldsCard

/-- THE TIED CARD OF 'wherrylaw19.SpoolRooms'. -/
def spoolRoomsCard : Claim7 := { stood := { row := spoolRoomsRow, standIns := [], harness := (true, "d26ebfb27268fed32a6c219f67e9ee14c656c19d0b2cc18c89e12ccbdfd717b5"), looks := false }, kinds := [], alts := [], laidByText := true, laidKinds := [.data, .pinned], laidTests := true, laidLooks := .later }
def SpoolRoomsCardSaid : Prop := Claim7.holds Tryd.pinned (.plain (OpenSpec.ofChange spoolRoomsSpec)) spoolRoomsCard

/-- THE SECOND FORM's CARD OF 'wherrylaw19.SpoolLean'. -/
def spoolLeanUptoCard : Claim7 := { stood := { row := spoolLeanUptoRow, standIns := [], harness := (true, "d26ebfb27268fed32a6c219f67e9ee14c656c19d0b2cc18c89e12ccbdfd717b5"), looks := false }, kinds := [], alts := [], laidByText := true, laidKinds := [.data, .pinned], laidTests := true, laidLooks := .later }
def SpoolLeanUptoCardSaid : Prop := Claim7.holds Tryd.pinned (.plain (OpenSpec.upto spoolLeanSpec)) spoolLeanUptoCard

/-- THE SECOND FORM's CARD OF 'wherrylaw19.SpoolStates'. -/
def spoolStatesUptoCard : Claim7 := { stood := { row := spoolStatesUptoRow, standIns := [], harness := (true, "d26ebfb27268fed32a6c219f67e9ee14c656c19d0b2cc18c89e12ccbdfd717b5"), looks := false }, kinds := [], alts := [], laidByText := true, laidKinds := [.data, .pinned], laidTests := true, laidLooks := .later }
def SpoolStatesUptoCardSaid : Prop := Claim7.holds Tryd.pinned (.plain (OpenSpec.upto spoolStatesSpec)) spoolStatesUptoCard

/-- THE SECOND FORM's CARD OF 'wherrylaw19.SpoolChunks'. -/
def spoolChunksUptoCard : Claim7 := { stood := { row := spoolChunksUptoRow, standIns := [], harness := (true, "d26ebfb27268fed32a6c219f67e9ee14c656c19d0b2cc18c89e12ccbdfd717b5"), looks := false }, kinds := [], alts := [], laidByText := true, laidKinds := [.data, .pinned], laidTests := true, laidLooks := .later }
def SpoolChunksUptoCardSaid : Prop := Claim7.holds Tryd.pinned (.plain (OpenSpec.upto spoolChunksSpec)) spoolChunksUptoCard

/-- THE SECOND FORM's CARD OF 'wherrylaw19.SpoolRefuses'. -/
def spoolRefusesUptoCard : Claim7 := { stood := { row := spoolRefusesUptoRow, standIns := [], harness := (true, "d26ebfb27268fed32a6c219f67e9ee14c656c19d0b2cc18c89e12ccbdfd717b5"), looks := false }, kinds := [], alts := [], laidByText := true, laidKinds := [.data, .pinned], laidTests := true, laidLooks := .later }
def SpoolRefusesUptoCardSaid : Prop := Claim7.holds Tryd.pinned (.plain (OpenSpec.upto spoolRefusesSpec)) spoolRefusesUptoCard

/-- THE SECOND FORM's CARD OF 'wherrylaw19.SpoolFolds'. -/
def spoolFoldsUptoCard : Claim7 := { stood := { row := spoolFoldsUptoRow, standIns := [], harness := (true, "d26ebfb27268fed32a6c219f67e9ee14c656c19d0b2cc18c89e12ccbdfd717b5"), looks := false }, kinds := [], alts := [], laidByText := true, laidKinds := [.data, .pinned], laidTests := true, laidLooks := .later }
def SpoolFoldsUptoCardSaid : Prop := Claim7.holds Tryd.pinned (.plain (OpenSpec.upto spoolFoldsSpec)) spoolFoldsUptoCard

/-- THE SECOND FORM's CARD OF 'wherrylaw19.SpoolRooms'. -/
def spoolRoomsUptoCard : Claim7 := { stood := { row := spoolRoomsUptoRow, standIns := [], harness := (true, "d26ebfb27268fed32a6c219f67e9ee14c656c19d0b2cc18c89e12ccbdfd717b5"), looks := false }, kinds := [], alts := [], laidByText := true, laidKinds := [.data, .pinned], laidTests := true, laidLooks := .later }
def SpoolRoomsUptoCardSaid : Prop := Claim7.holds Tryd.pinned (.plain (OpenSpec.upto spoolRoomsSpec)) spoolRoomsUptoCard
end Rows
end Go.Proofs.YtnljpfjoboafoaaDoor
