/-
  DERIVED. GIVEN WITH THE SEED: THE CARDS: each row of YtmdnloajpjfbmaaDoorRows.lean that lists a variable, with what it lists TIED to the program's text (the seventh form; the later family's looks); each row that meets fmt, with fmt's text TOLD by the authors' own Lean function (tested against real Go, not proved from fmt's source: count such statements apart). THE CARD IS WHAT COUNTS. Prove the row's statement (the work); the ties are given (YtmdnloajpjfbmaaDoorTie.lean); close each card by the builder's one call (the guide's Derived/Test/ToyasCard.lean, 'card_holds'). Laid BY PROGRAM, IN A SANDBOX (cutbox-door.mjs). By AI agents, Wed Nov 11 2026. No macro, syntax, notation, axiom, sorry.
-/
import Derived.Test.YtmdnloajpjfbmaaDoorRows
import GoSem.ClaimSeven
namespace Go.Proofs.YtmdnloajpjfbmaaDoor
namespace Rows

/-- THE TIED CARD OF 'wherrylaw15.HeadFields'. -/
def headFieldsCard : Claim7 := { stood := { row := headFieldsRow, standIns := [], harness := (true, "8b5176b67e83a5e9d11193092530a768b93e00d173d3307eb4d3842b10a3b1f9"), looks := false }, kinds := [], alts := [], laidByText := true, laidKinds := [.data, .data, .data, .data, .pinned], laidTests := true, laidLooks := .later }
def HeadFieldsCardSaid : Prop := Claim7.holds Tryd.pinned (.plain (OpenSpec.ofChange headFieldsSpec)) headFieldsCard

/-- THE TIED CARD OF 'wherrylaw15.HeadFolds'. -/
def headFoldsCard : Claim7 := { stood := { row := headFoldsRow, standIns := [], harness := (true, "8b5176b67e83a5e9d11193092530a768b93e00d173d3307eb4d3842b10a3b1f9"), looks := false }, kinds := [], alts := [], laidByText := true, laidKinds := [.data, .data, .data, .data, .pinned], laidTests := true, laidLooks := .later }
def HeadFoldsCardSaid : Prop := Claim7.holds Tryd.pinned (.plain (OpenSpec.ofChange headFoldsSpec)) headFoldsCard

/-- THE TIED CARD OF 'wherrylaw15.HeadEnds'. -/
def headEndsCard : Claim7 := { stood := { row := headEndsRow, standIns := [], harness := (true, "8b5176b67e83a5e9d11193092530a768b93e00d173d3307eb4d3842b10a3b1f9"), looks := false }, kinds := [], alts := [], laidByText := true, laidKinds := [.data, .data, .data, .data, .pinned], laidTests := true, laidLooks := .later }
def HeadEndsCardSaid : Prop := Claim7.holds Tryd.pinned (.plain (OpenSpec.ofChange headEndsSpec)) headEndsCard

/-- THE TIED CARD OF 'wherrylaw15.HeadHops'. -/
def headHopsCard : Claim7 := { stood := { row := headHopsRow, standIns := [], harness := (true, "8b5176b67e83a5e9d11193092530a768b93e00d173d3307eb4d3842b10a3b1f9"), looks := false }, kinds := [], alts := [], laidByText := true, laidKinds := [.data, .data, .data, .data, .pinned], laidTests := true, laidLooks := .later }
def HeadHopsCardSaid : Prop := Claim7.holds Tryd.pinned (.plain (OpenSpec.ofChange headHopsSpec)) headHopsCard

/-- THE TIED CARD OF 'wherrylaw15.HeadExact'. -/
def headExactCard : Claim7 := { stood := { row := headExactRow, standIns := [], harness := (true, "8b5176b67e83a5e9d11193092530a768b93e00d173d3307eb4d3842b10a3b1f9"), looks := false }, kinds := [], alts := [], laidByText := true, laidKinds := [.data, .data, .data, .data, .pinned], laidTests := true, laidLooks := .later }
def HeadExactCardSaid : Prop := Claim7.holds Tryd.pinned (.plain (OpenSpec.ofChange headExactSpec)) headExactCard

/-- THE TIED CARD OF 'wherrylaw15.HeadStamped'. -/
def headStampedCard : Claim7 := { stood := { row := headStampedRow, standIns := [], harness := (true, "8b5176b67e83a5e9d11193092530a768b93e00d173d3307eb4d3842b10a3b1f9"), looks := false }, kinds := [], alts := [], laidByText := true, laidKinds := [.data, .data, .data, .data, .pinned], laidTests := true, laidLooks := .later }
def HeadStampedCardSaid : Prop := Claim7.holds Tryd.pinned (.plain (OpenSpec.ofChange headStampedSpec)) headStampedCard

/-- THE SECOND FORM's CARD OF 'wherrylaw15.HeadFields'. -/
def headFieldsUptoCard : Claim7 := { stood := { row := headFieldsUptoRow, standIns := [], harness := (true, "8b5176b67e83a5e9d11193092530a768b93e00d173d3307eb4d3842b10a3b1f9"), looks := false }, kinds := [], alts := [], laidByText := true, laidKinds := [.data, .data, .data, .data, .pinned], laidTests := true, laidLooks := .later }
def HeadFieldsUptoCardSaid : Prop := Claim7.holds Tryd.pinned (.plain (OpenSpec.upto headFieldsSpec)) headFieldsUptoCard

/-- THE SECOND FORM's CARD OF 'wherrylaw15.HeadFolds'. -/
def headFoldsUptoCard : Claim7 := { stood := { row := headFoldsUptoRow, standIns := [], harness := (true, "8b5176b67e83a5e9d11193092530a768b93e00d173d3307eb4d3842b10a3b1f9"), looks := false }, kinds := [], alts := [], laidByText := true, laidKinds := [.data, .data, .data, .data, .pinned], laidTests := true, laidLooks := .later }
def HeadFoldsUptoCardSaid : Prop := Claim7.holds Tryd.pinned (.plain (OpenSpec.upto headFoldsSpec)) headFoldsUptoCard

/-- THE SECOND FORM's CARD OF 'wherrylaw15.HeadEnds'. -/
def headEndsUptoCard : Claim7 := { stood := { row := headEndsUptoRow, standIns := [], harness := (true, "8b5176b67e83a5e9d11193092530a768b93e00d173d3307eb4d3842b10a3b1f9"), looks := false }, kinds := [], alts := [], laidByText := true, laidKinds := [.data, .data, .data, .data, .pinned], laidTests := true, laidLooks := .later }
def HeadEndsUptoCardSaid : Prop := Claim7.holds Tryd.pinned (.plain (OpenSpec.upto headEndsSpec)) headEndsUptoCard

/-- THE SECOND FORM's CARD OF 'wherrylaw15.HeadHops'. -/
def headHopsUptoCard : Claim7 := { stood := { row := headHopsUptoRow, standIns := [], harness := (true, "8b5176b67e83a5e9d11193092530a768b93e00d173d3307eb4d3842b10a3b1f9"), looks := false }, kinds := [], alts := [], laidByText := true, laidKinds := [.data, .data, .data, .data, .pinned], laidTests := true, laidLooks := .later }
def HeadHopsUptoCardSaid : Prop := Claim7.holds Tryd.pinned (.plain (OpenSpec.upto headHopsSpec)) headHopsUptoCard

/-- THE SECOND FORM's CARD OF 'wherrylaw15.HeadExact'. -/
def headExactUptoCard : Claim7 := { stood := { row := headExactUptoRow, standIns := [], harness := (true, "8b5176b67e83a5e9d11193092530a768b93e00d173d3307eb4d3842b10a3b1f9"), looks := false }, kinds := [], alts := [], laidByText := true, laidKinds := [.data, .data, .data, .data, .pinned], laidTests := true, laidLooks := .later }
def HeadExactUptoCardSaid : Prop := Claim7.holds Tryd.pinned (.plain (OpenSpec.upto headExactSpec)) headExactUptoCard

/-- THE SECOND FORM's CARD OF 'wherrylaw15.HeadStamped'. -/
def headStampedUptoCard : Claim7 := { stood := { row := headStampedUptoRow, standIns := [], harness := (true, "8b5176b67e83a5e9d11193092530a768b93e00d173d3307eb4d3842b10a3b1f9"), looks := false }, kinds := [], alts := [], laidByText := true, laidKinds := [.data, .data, .data, .data, .pinned], laidTests := true, laidLooks := .later }
def HeadStampedUptoCardSaid : Prop := Claim7.holds Tryd.pinned (.plain (OpenSpec.upto headStampedSpec)) headStampedUptoCard
end Rows
end Go.Proofs.YtmdnloajpjfbmaaDoor
