/-
  DERIVED. GIVEN WITH THE SEED: THE CARDS: each row of YtmajbgmjlggcbaaDoorRows.lean that lists a variable, with what it lists TIED to the program's text (the seventh form; the later family's looks); each row that meets fmt, with fmt's text TOLD by the authors' own Lean function (tested against real Go, not proved from fmt's source: count such statements apart). THE CARD IS WHAT COUNTS. Prove the row's statement (the work); the ties are given (YtmajbgmjlggcbaaDoorTie.lean); close each card by the builder's one call (the guide's Derived/Test/ToyasCard.lean, 'card_holds'). Laid BY PROGRAM, IN A SANDBOX (cutbox-door.mjs). By AI agents, Wed Nov 11 2026. No macro, syntax, notation, axiom, sorry.
-/
import Derived.Test.YtmajbgmjlggcbaaDoorRows
import GoSem.ClaimSeven
namespace Go.Proofs.YtmajbgmjlggcbaaDoor
namespace Rows

/-- THE TIED CARD OF 'wherrylaw13.AnswerExact'. -/
def answerExactCard : Claim7 := { stood := { row := answerExactRow, standIns := [], harness := (true, "66a73853aad9e17e51dc774f944fb743abd7b4cf7af1512c896b655019ed97b2"), looks := true }, kinds := [], alts := [], laidByText := true, laidKinds := [.data, .data, .data, .sentinel, .sentinel], laidTests := true, laidLooks := .later }
def AnswerExactCardSaid : Prop := Claim7.holds Tryd.pinned (.plain (OpenSpec.ofChange answerExactSpec)) answerExactCard

/-- THE TIED CARD OF 'wherrylaw13.AnswerBack'. -/
def answerBackCard : Claim7 := { stood := { row := answerBackRow, standIns := [], harness := (true, "66a73853aad9e17e51dc774f944fb743abd7b4cf7af1512c896b655019ed97b2"), looks := true }, kinds := [], alts := [], laidByText := true, laidKinds := [.data, .data, .data, .sentinel, .sentinel], laidTests := true, laidLooks := .later }
def AnswerBackCardSaid : Prop := Claim7.holds Tryd.pinned (.plain (OpenSpec.ofChange answerBackSpec)) answerBackCard

/-- THE TIED CARD OF 'wherrylaw13.AnswerReads'. -/
def answerReadsCard : Claim7 := { stood := { row := answerReadsRow, standIns := [], harness := (true, "66a73853aad9e17e51dc774f944fb743abd7b4cf7af1512c896b655019ed97b2"), looks := true }, kinds := [], alts := [], laidByText := true, laidKinds := [.data, .data, .data, .sentinel, .sentinel], laidTests := true, laidLooks := .later }
def AnswerReadsCardSaid : Prop := Claim7.holds Tryd.pinned (.plain (OpenSpec.ofChange answerReadsSpec)) answerReadsCard

/-- THE TIED CARD OF 'wherrylaw13.AnswerEnds'. -/
def answerEndsCard : Claim7 := { stood := { row := answerEndsRow, standIns := [], harness := (true, "66a73853aad9e17e51dc774f944fb743abd7b4cf7af1512c896b655019ed97b2"), looks := true }, kinds := [], alts := [], laidByText := true, laidKinds := [.data, .data, .data, .sentinel, .sentinel], laidTests := true, laidLooks := .later }
def AnswerEndsCardSaid : Prop := Claim7.holds Tryd.pinned (.plain (OpenSpec.ofChange answerEndsSpec)) answerEndsCard

/-- THE TIED CARD OF 'wherrylaw13.AnswerMixed'. -/
def answerMixedCard : Claim7 := { stood := { row := answerMixedRow, standIns := [], harness := (true, "66a73853aad9e17e51dc774f944fb743abd7b4cf7af1512c896b655019ed97b2"), looks := true }, kinds := [], alts := [], laidByText := true, laidKinds := [.data, .data, .data, .sentinel, .sentinel], laidTests := true, laidLooks := .later }
def AnswerMixedCardSaid : Prop := Claim7.holds Tryd.pinned (.plain (OpenSpec.ofChange answerMixedSpec)) answerMixedCard

/-- THE SECOND FORM's CARD OF 'wherrylaw13.AnswerExact'. -/
def answerExactUptoCard : Claim7 := { stood := { row := answerExactUptoRow, standIns := [], harness := (true, "66a73853aad9e17e51dc774f944fb743abd7b4cf7af1512c896b655019ed97b2"), looks := true }, kinds := [], alts := [], laidByText := true, laidKinds := [.data, .data, .data, .sentinel, .sentinel], laidTests := true, laidLooks := .later }
def AnswerExactUptoCardSaid : Prop := Claim7.holds Tryd.pinned (.plain (OpenSpec.upto answerExactSpec)) answerExactUptoCard

/-- THE SECOND FORM's CARD OF 'wherrylaw13.AnswerBack'. -/
def answerBackUptoCard : Claim7 := { stood := { row := answerBackUptoRow, standIns := [], harness := (true, "66a73853aad9e17e51dc774f944fb743abd7b4cf7af1512c896b655019ed97b2"), looks := true }, kinds := [], alts := [], laidByText := true, laidKinds := [.data, .data, .data, .sentinel, .sentinel], laidTests := true, laidLooks := .later }
def AnswerBackUptoCardSaid : Prop := Claim7.holds Tryd.pinned (.plain (OpenSpec.upto answerBackSpec)) answerBackUptoCard

/-- THE SECOND FORM's CARD OF 'wherrylaw13.AnswerReads'. -/
def answerReadsUptoCard : Claim7 := { stood := { row := answerReadsUptoRow, standIns := [], harness := (true, "66a73853aad9e17e51dc774f944fb743abd7b4cf7af1512c896b655019ed97b2"), looks := true }, kinds := [], alts := [], laidByText := true, laidKinds := [.data, .data, .data, .sentinel, .sentinel], laidTests := true, laidLooks := .later }
def AnswerReadsUptoCardSaid : Prop := Claim7.holds Tryd.pinned (.plain (OpenSpec.upto answerReadsSpec)) answerReadsUptoCard

/-- THE SECOND FORM's CARD OF 'wherrylaw13.AnswerEnds'. -/
def answerEndsUptoCard : Claim7 := { stood := { row := answerEndsUptoRow, standIns := [], harness := (true, "66a73853aad9e17e51dc774f944fb743abd7b4cf7af1512c896b655019ed97b2"), looks := true }, kinds := [], alts := [], laidByText := true, laidKinds := [.data, .data, .data, .sentinel, .sentinel], laidTests := true, laidLooks := .later }
def AnswerEndsUptoCardSaid : Prop := Claim7.holds Tryd.pinned (.plain (OpenSpec.upto answerEndsSpec)) answerEndsUptoCard

/-- THE SECOND FORM's CARD OF 'wherrylaw13.AnswerMixed'. -/
def answerMixedUptoCard : Claim7 := { stood := { row := answerMixedUptoRow, standIns := [], harness := (true, "66a73853aad9e17e51dc774f944fb743abd7b4cf7af1512c896b655019ed97b2"), looks := true }, kinds := [], alts := [], laidByText := true, laidKinds := [.data, .data, .data, .sentinel, .sentinel], laidTests := true, laidLooks := .later }
def AnswerMixedUptoCardSaid : Prop := Claim7.holds Tryd.pinned (.plain (OpenSpec.upto answerMixedSpec)) answerMixedUptoCard
end Rows
end Go.Proofs.YtmajbgmjlggcbaaDoor
