/-
  NARROWER THAN 'FOR EVERY INPUT', by the rows' own cells (each row's printed sentence says how): SpoolLean: laid · SpoolStates: laid · SpoolChunks: laid · SpoolRefuses: laid · SpoolFolds: laid · SpoolRooms: laid.
  DERIVED. THE GIVEN ROWS OF THIS SEAT. 6 by the template 'for every input the law returns true; each argument reads behind the call as it read before'; 0 by the template 'total and deterministic' (their statements: YtnljpfjoboafoaaDoorTotals.lean).
  GIVEN WITH THE SEED: the statements are not yours to turn. If you find one false, say at which input.
  Laid BY PROGRAM, IN A SANDBOX (cutbox-rows.mjs): the forced cells as the released guide's own fill.sh prints them over the translation 93eced776dbe9a38… (all of the seat's roots in one cut). By AI agents, Wed Nov 11 2026. No macro, syntax, notation, axiom, sorry.
-/
import Derived.Test.YtnljpfjoboafoaaDoorChecked
import GoSem.PinnedTables
import GoSem.Claim
import GoSem.ClaimJoined
import GoSem.ClaimMapViews
import Derived.JoinedTies
import Derived.KernelRfl
namespace Go.Proofs.YtnljpfjoboafoaaDoor
/- THE CELL 'sum', in the pinned program and in every row, IS THE sha256 OF THE DUMP (.gsa) THAT YtnljpfjoboafoaaDoorProg.lean LOADS. Nothing in Lean hashes anything: it is a label: what it is worth is what the hold of that sum in a sandbox is worth. -/
noncomputable def Tryd.pinned : Pinned := { name := "ytnljpfjoboafoaadoor", sum := "93eced776dbe9a3894efb352ba72d5d90d6a4c9c80d97aef5032a72ce5ff7dc6", checked := Tryd.checked }
namespace Rows
def none {H : Type} : Left H := { results := [], args := [] }

/- WHAT THE LISTED PACKAGE-LEVEL VARIABLES READ AS WHEN THE CALL BEGINS. Each datum BY PROGRAM (the guide's laid-datum.mjs) off the statement by which the dump's own 'gosem.cut.vars' lays the variable. In a bare row this is a premise. The card (YtnljpfjoboafoaaDoorCards.lean) ties it to the program's text. -/
def laid_unicode_utf8_acceptRanges {H : Type} : DataW H := .agg [.agg [.lit (.int .u8 128), .lit (.int .u8 191)], .agg [.lit (.int .u8 160), .lit (.int .u8 191)], .agg [.lit (.int .u8 128), .lit (.int .u8 159)], .agg [.lit (.int .u8 144), .lit (.int .u8 191)], .agg [.lit (.int .u8 128), .lit (.int .u8 143)], .agg [.lit (.int .u8 0), .lit (.int .u8 0)], .agg [.lit (.int .u8 0), .lit (.int .u8 0)], .agg [.lit (.int .u8 0), .lit (.int .u8 0)], .agg [.lit (.int .u8 0), .lit (.int .u8 0)], .agg [.lit (.int .u8 0), .lit (.int .u8 0)], .agg [.lit (.int .u8 0), .lit (.int .u8 0)], .agg [.lit (.int .u8 0), .lit (.int .u8 0)], .agg [.lit (.int .u8 0), .lit (.int .u8 0)], .agg [.lit (.int .u8 0), .lit (.int .u8 0)], .agg [.lit (.int .u8 0), .lit (.int .u8 0)], .agg [.lit (.int .u8 0), .lit (.int .u8 0)]]
/-- One of Go's own tables, pinned by name: the form's constant. -/
def laid_unicode_utf8_first : DataW Unit := Go.Pinned.utf8First

/-- 'wherrylaw19.SpoolLean': WHATEVER THE INPUT: true; the input reads as it did. -/
def spoolLeanSpec : ChangeSpec := { name := "spoolLean", fn := fun _ => fun
  | [d1, d2] => { results := [.lit (.bool true)], args := [d1, d2] }
  | _ => none }
def spoolLeanRow : OpenClaim := { program := "ytnljpfjoboafoaadoor", sum := "93eced776dbe9a3894efb352ba72d5d90d6a4c9c80d97aef5032a72ce5ff7dc6", func := "wherry/wherrylaw19.SpoolLean", spec := "spoolLean", inPlace := ["internal/bytealg.CountString", "internal/bytealg.IndexByteString", "internal/bytealg.IndexString", "internal/bytealg.IndexByte", "internal/bytealg.Index", "slices.overlaps[int]"], unfollowed := true, recurses := true, named := ["unicode/utf8.first", "unicode/utf8.acceptRanges", "internal/bytealg.MaxLen"], apart := false, laid := [("unicode/utf8.acceptRanges", laid_unicode_utf8_acceptRanges), ("unicode/utf8.first", laid_unicode_utf8_first)] }
def SpoolLeanSaid : Prop := spoolLeanRow.holds Tryd.pinned (OpenSpec.ofChange spoolLeanSpec)

/-- ITS FALSE NEIGHBOUR: 'it returns false'. Refute it at one input. -/
def spoolLeanWrong : ChangeSpec := { name := "spoolLean", fn := fun _ => fun
  | [d1, d2] => { results := [.lit (.bool false)], args := [d1, d2] }
  | _ => none }
def SpoolLeanWrongFalsely : Prop := spoolLeanRow.holds Tryd.pinned (OpenSpec.ofChange spoolLeanWrong)

/-- 'wherrylaw19.SpoolStates': WHATEVER THE INPUT: true; the input reads as it did. -/
def spoolStatesSpec : ChangeSpec := { name := "spoolStates", fn := fun _ => fun
  | [d] => { results := [.lit (.bool true)], args := [d] }
  | _ => none }
def spoolStatesRow : OpenClaim := { program := "ytnljpfjoboafoaadoor", sum := "93eced776dbe9a3894efb352ba72d5d90d6a4c9c80d97aef5032a72ce5ff7dc6", func := "wherry/wherrylaw19.SpoolStates", spec := "spoolStates", inPlace := ["internal/bytealg.CountString", "internal/bytealg.IndexByteString", "internal/bytealg.IndexString", "internal/bytealg.IndexByte", "internal/bytealg.Index", "slices.overlaps[int]"], unfollowed := true, recurses := true, named := ["unicode/utf8.first", "unicode/utf8.acceptRanges", "internal/bytealg.MaxLen"], apart := false, laid := [("unicode/utf8.acceptRanges", laid_unicode_utf8_acceptRanges), ("unicode/utf8.first", laid_unicode_utf8_first)] }
def SpoolStatesSaid : Prop := spoolStatesRow.holds Tryd.pinned (OpenSpec.ofChange spoolStatesSpec)

/-- ITS FALSE NEIGHBOUR: 'it returns false'. Refute it at one input. -/
def spoolStatesWrong : ChangeSpec := { name := "spoolStates", fn := fun _ => fun
  | [d] => { results := [.lit (.bool false)], args := [d] }
  | _ => none }
def SpoolStatesWrongFalsely : Prop := spoolStatesRow.holds Tryd.pinned (OpenSpec.ofChange spoolStatesWrong)

/-- 'wherrylaw19.SpoolChunks': WHATEVER THE INPUT: true; the input reads as it did. -/
def spoolChunksSpec : ChangeSpec := { name := "spoolChunks", fn := fun _ => fun
  | [d1, d2, d3] => { results := [.lit (.bool true)], args := [d1, d2, d3] }
  | _ => none }
def spoolChunksRow : OpenClaim := { program := "ytnljpfjoboafoaadoor", sum := "93eced776dbe9a3894efb352ba72d5d90d6a4c9c80d97aef5032a72ce5ff7dc6", func := "wherry/wherrylaw19.SpoolChunks", spec := "spoolChunks", inPlace := ["internal/bytealg.CountString", "internal/bytealg.IndexByteString", "internal/bytealg.IndexString", "internal/bytealg.IndexByte", "internal/bytealg.Index", "slices.overlaps[int]"], unfollowed := true, recurses := true, named := ["unicode/utf8.first", "unicode/utf8.acceptRanges", "internal/bytealg.MaxLen"], apart := false, laid := [("unicode/utf8.acceptRanges", laid_unicode_utf8_acceptRanges), ("unicode/utf8.first", laid_unicode_utf8_first)] }
def SpoolChunksSaid : Prop := spoolChunksRow.holds Tryd.pinned (OpenSpec.ofChange spoolChunksSpec)

/-- ITS FALSE NEIGHBOUR: 'it returns false'. Refute it at one input. -/
def spoolChunksWrong : ChangeSpec := { name := "spoolChunks", fn := fun _ => fun
  | [d1, d2, d3] => { results := [.lit (.bool false)], args := [d1, d2, d3] }
  | _ => none }
def SpoolChunksWrongFalsely : Prop := spoolChunksRow.holds Tryd.pinned (OpenSpec.ofChange spoolChunksWrong)

/-- 'wherrylaw19.SpoolRefuses': WHATEVER THE INPUT: true; the input reads as it did. -/
def spoolRefusesSpec : ChangeSpec := { name := "spoolRefuses", fn := fun _ => fun
  | [d] => { results := [.lit (.bool true)], args := [d] }
  | _ => none }
def spoolRefusesRow : OpenClaim := { program := "ytnljpfjoboafoaadoor", sum := "93eced776dbe9a3894efb352ba72d5d90d6a4c9c80d97aef5032a72ce5ff7dc6", func := "wherry/wherrylaw19.SpoolRefuses", spec := "spoolRefuses", inPlace := ["internal/bytealg.CountString", "internal/bytealg.IndexByteString", "internal/bytealg.IndexString", "internal/bytealg.IndexByte", "internal/bytealg.Index", "slices.overlaps[int]"], unfollowed := true, recurses := true, named := ["unicode/utf8.first", "unicode/utf8.acceptRanges", "internal/bytealg.MaxLen"], apart := false, laid := [("unicode/utf8.acceptRanges", laid_unicode_utf8_acceptRanges), ("unicode/utf8.first", laid_unicode_utf8_first)] }
def SpoolRefusesSaid : Prop := spoolRefusesRow.holds Tryd.pinned (OpenSpec.ofChange spoolRefusesSpec)

/-- ITS FALSE NEIGHBOUR: 'it returns false'. Refute it at one input. -/
def spoolRefusesWrong : ChangeSpec := { name := "spoolRefuses", fn := fun _ => fun
  | [d] => { results := [.lit (.bool false)], args := [d] }
  | _ => none }
def SpoolRefusesWrongFalsely : Prop := spoolRefusesRow.holds Tryd.pinned (OpenSpec.ofChange spoolRefusesWrong)

/-- 'wherrylaw19.SpoolFolds': WHATEVER THE INPUT: true; the input reads as it did. -/
def spoolFoldsSpec : ChangeSpec := { name := "spoolFolds", fn := fun _ => fun
  | [d1, d2] => { results := [.lit (.bool true)], args := [d1, d2] }
  | _ => none }
def spoolFoldsRow : OpenClaim := { program := "ytnljpfjoboafoaadoor", sum := "93eced776dbe9a3894efb352ba72d5d90d6a4c9c80d97aef5032a72ce5ff7dc6", func := "wherry/wherrylaw19.SpoolFolds", spec := "spoolFolds", inPlace := ["internal/bytealg.CountString", "internal/bytealg.IndexByteString", "internal/bytealg.IndexString", "internal/bytealg.IndexByte", "internal/bytealg.Index", "slices.overlaps[int]"], unfollowed := true, recurses := true, named := ["unicode/utf8.first", "unicode/utf8.acceptRanges", "internal/bytealg.MaxLen"], apart := false, laid := [("unicode/utf8.acceptRanges", laid_unicode_utf8_acceptRanges), ("unicode/utf8.first", laid_unicode_utf8_first)] }
def SpoolFoldsSaid : Prop := spoolFoldsRow.holds Tryd.pinned (OpenSpec.ofChange spoolFoldsSpec)

/-- ITS FALSE NEIGHBOUR: 'it returns false'. Refute it at one input. -/
def spoolFoldsWrong : ChangeSpec := { name := "spoolFolds", fn := fun _ => fun
  | [d1, d2] => { results := [.lit (.bool false)], args := [d1, d2] }
  | _ => none }
def SpoolFoldsWrongFalsely : Prop := spoolFoldsRow.holds Tryd.pinned (OpenSpec.ofChange spoolFoldsWrong)

/-- 'wherrylaw19.SpoolRooms': WHATEVER THE INPUT: true; the input reads as it did. -/
def spoolRoomsSpec : ChangeSpec := { name := "spoolRooms", fn := fun _ => fun
  | [d] => { results := [.lit (.bool true)], args := [d] }
  | _ => none }
def spoolRoomsRow : OpenClaim := { program := "ytnljpfjoboafoaadoor", sum := "93eced776dbe9a3894efb352ba72d5d90d6a4c9c80d97aef5032a72ce5ff7dc6", func := "wherry/wherrylaw19.SpoolRooms", spec := "spoolRooms", inPlace := ["internal/bytealg.CountString", "internal/bytealg.IndexByteString", "internal/bytealg.IndexString", "internal/bytealg.IndexByte", "internal/bytealg.Index", "slices.overlaps[int]"], unfollowed := true, recurses := true, named := ["unicode/utf8.first", "unicode/utf8.acceptRanges", "internal/bytealg.MaxLen"], apart := false, laid := [("unicode/utf8.acceptRanges", laid_unicode_utf8_acceptRanges), ("unicode/utf8.first", laid_unicode_utf8_first)] }
def SpoolRoomsSaid : Prop := spoolRoomsRow.holds Tryd.pinned (OpenSpec.ofChange spoolRoomsSpec)

/-- ITS FALSE NEIGHBOUR: 'it returns false'. Refute it at one input. -/
def spoolRoomsWrong : ChangeSpec := { name := "spoolRooms", fn := fun _ => fun
  | [d] => { results := [.lit (.bool false)], args := [d] }
  | _ => none }
def SpoolRoomsWrongFalsely : Prop := spoolRoomsRow.holds Tryd.pinned (OpenSpec.ofChange spoolRoomsWrong)

/- THE SECOND FORM. 'bulk': how many values and letters a reading holds, each counted each time it is reached (what is shared counts as often as it is met; a slice's spare places count too). A statement '..UptoSaid' is the law's where the arguments, and the package variables that the reading takes, are together of bulk at most 1048576: NARROWER than '..Said'. Prove '..Said' where nothing that the law and all that it calls make is longer than what came in: it says more and counts as full. Else prove '..UptoSaid'. A law counts once. -/
mutual
def uptoBulk {H : Type} : DataW H → Nat
  | .lit (.string bytes) => bytes.length + 1
  | .lit _ => 1
  | .nil => 1
  | .ptr d => uptoBulk d + 1
  | .slice elems spare => uptoBulkAll elems + uptoBulkAll spare + 1
  | .agg parts => uptoBulkAll parts + 1
  | .iface _ d => uptoBulk d + 1
  | .map entries => uptoBulkEntries entries + 1
  | .held _ => 1
def uptoBulkAll {H : Type} : List (DataW H) → Nat
  | [] => 0
  | d :: r => uptoBulk d + uptoBulkAll r
def uptoBulkEntries {H : Type} : List (Lit × DataW H) → Nat
  | [] => 0
  | x :: r => uptoBulkEntry x + uptoBulkEntries r
def uptoBulkEntry {H : Type} : Lit × DataW H → Nat
  | (.string bytes, d) => bytes.length + uptoBulk d + 1
  | (_, d) => uptoBulk d + 1
 end
def uptoSmall : (H : Type) → List (DataW H) → Bool := fun _ ds => decide (uptoBulkAll ds ≤ 1048576)
def OpenSpec.upto (s : _root_.Go.ChangeSpec) : _root_.Go.OpenSpec := { _root_.Go.OpenSpec.ofChange s with cond := some uptoSmall }

/-- 'wherrylaw19.SpoolLean', WHERE WHAT IT READS IS OF BULK AT MOST 1048576: true; the input reads as it did. -/
def spoolLeanUptoRow : OpenClaim := { program := "ytnljpfjoboafoaadoor", sum := "93eced776dbe9a3894efb352ba72d5d90d6a4c9c80d97aef5032a72ce5ff7dc6", func := "wherry/wherrylaw19.SpoolLean", spec := "spoolLean", inPlace := ["internal/bytealg.CountString", "internal/bytealg.IndexByteString", "internal/bytealg.IndexString", "internal/bytealg.IndexByte", "internal/bytealg.Index", "slices.overlaps[int]"], unfollowed := true, recurses := true, named := ["unicode/utf8.first", "unicode/utf8.acceptRanges", "internal/bytealg.MaxLen"], apart := false, laid := [("unicode/utf8.acceptRanges", laid_unicode_utf8_acceptRanges), ("unicode/utf8.first", laid_unicode_utf8_first)], narrowed := true }
def SpoolLeanUptoSaid : Prop := spoolLeanUptoRow.holds Tryd.pinned (OpenSpec.upto spoolLeanSpec)

/-- 'wherrylaw19.SpoolStates', WHERE WHAT IT READS IS OF BULK AT MOST 1048576: true; the input reads as it did. -/
def spoolStatesUptoRow : OpenClaim := { program := "ytnljpfjoboafoaadoor", sum := "93eced776dbe9a3894efb352ba72d5d90d6a4c9c80d97aef5032a72ce5ff7dc6", func := "wherry/wherrylaw19.SpoolStates", spec := "spoolStates", inPlace := ["internal/bytealg.CountString", "internal/bytealg.IndexByteString", "internal/bytealg.IndexString", "internal/bytealg.IndexByte", "internal/bytealg.Index", "slices.overlaps[int]"], unfollowed := true, recurses := true, named := ["unicode/utf8.first", "unicode/utf8.acceptRanges", "internal/bytealg.MaxLen"], apart := false, laid := [("unicode/utf8.acceptRanges", laid_unicode_utf8_acceptRanges), ("unicode/utf8.first", laid_unicode_utf8_first)], narrowed := true }
def SpoolStatesUptoSaid : Prop := spoolStatesUptoRow.holds Tryd.pinned (OpenSpec.upto spoolStatesSpec)

/-- 'wherrylaw19.SpoolChunks', WHERE WHAT IT READS IS OF BULK AT MOST 1048576: true; the input reads as it did. -/
def spoolChunksUptoRow : OpenClaim := { program := "ytnljpfjoboafoaadoor", sum := "93eced776dbe9a3894efb352ba72d5d90d6a4c9c80d97aef5032a72ce5ff7dc6", func := "wherry/wherrylaw19.SpoolChunks", spec := "spoolChunks", inPlace := ["internal/bytealg.CountString", "internal/bytealg.IndexByteString", "internal/bytealg.IndexString", "internal/bytealg.IndexByte", "internal/bytealg.Index", "slices.overlaps[int]"], unfollowed := true, recurses := true, named := ["unicode/utf8.first", "unicode/utf8.acceptRanges", "internal/bytealg.MaxLen"], apart := false, laid := [("unicode/utf8.acceptRanges", laid_unicode_utf8_acceptRanges), ("unicode/utf8.first", laid_unicode_utf8_first)], narrowed := true }
def SpoolChunksUptoSaid : Prop := spoolChunksUptoRow.holds Tryd.pinned (OpenSpec.upto spoolChunksSpec)

/-- 'wherrylaw19.SpoolRefuses', WHERE WHAT IT READS IS OF BULK AT MOST 1048576: true; the input reads as it did. -/
def spoolRefusesUptoRow : OpenClaim := { program := "ytnljpfjoboafoaadoor", sum := "93eced776dbe9a3894efb352ba72d5d90d6a4c9c80d97aef5032a72ce5ff7dc6", func := "wherry/wherrylaw19.SpoolRefuses", spec := "spoolRefuses", inPlace := ["internal/bytealg.CountString", "internal/bytealg.IndexByteString", "internal/bytealg.IndexString", "internal/bytealg.IndexByte", "internal/bytealg.Index", "slices.overlaps[int]"], unfollowed := true, recurses := true, named := ["unicode/utf8.first", "unicode/utf8.acceptRanges", "internal/bytealg.MaxLen"], apart := false, laid := [("unicode/utf8.acceptRanges", laid_unicode_utf8_acceptRanges), ("unicode/utf8.first", laid_unicode_utf8_first)], narrowed := true }
def SpoolRefusesUptoSaid : Prop := spoolRefusesUptoRow.holds Tryd.pinned (OpenSpec.upto spoolRefusesSpec)

/-- 'wherrylaw19.SpoolFolds', WHERE WHAT IT READS IS OF BULK AT MOST 1048576: true; the input reads as it did. -/
def spoolFoldsUptoRow : OpenClaim := { program := "ytnljpfjoboafoaadoor", sum := "93eced776dbe9a3894efb352ba72d5d90d6a4c9c80d97aef5032a72ce5ff7dc6", func := "wherry/wherrylaw19.SpoolFolds", spec := "spoolFolds", inPlace := ["internal/bytealg.CountString", "internal/bytealg.IndexByteString", "internal/bytealg.IndexString", "internal/bytealg.IndexByte", "internal/bytealg.Index", "slices.overlaps[int]"], unfollowed := true, recurses := true, named := ["unicode/utf8.first", "unicode/utf8.acceptRanges", "internal/bytealg.MaxLen"], apart := false, laid := [("unicode/utf8.acceptRanges", laid_unicode_utf8_acceptRanges), ("unicode/utf8.first", laid_unicode_utf8_first)], narrowed := true }
def SpoolFoldsUptoSaid : Prop := spoolFoldsUptoRow.holds Tryd.pinned (OpenSpec.upto spoolFoldsSpec)

/-- 'wherrylaw19.SpoolRooms', WHERE WHAT IT READS IS OF BULK AT MOST 1048576: true; the input reads as it did. -/
def spoolRoomsUptoRow : OpenClaim := { program := "ytnljpfjoboafoaadoor", sum := "93eced776dbe9a3894efb352ba72d5d90d6a4c9c80d97aef5032a72ce5ff7dc6", func := "wherry/wherrylaw19.SpoolRooms", spec := "spoolRooms", inPlace := ["internal/bytealg.CountString", "internal/bytealg.IndexByteString", "internal/bytealg.IndexString", "internal/bytealg.IndexByte", "internal/bytealg.Index", "slices.overlaps[int]"], unfollowed := true, recurses := true, named := ["unicode/utf8.first", "unicode/utf8.acceptRanges", "internal/bytealg.MaxLen"], apart := false, laid := [("unicode/utf8.acceptRanges", laid_unicode_utf8_acceptRanges), ("unicode/utf8.first", laid_unicode_utf8_first)], narrowed := true }
def SpoolRoomsUptoSaid : Prop := spoolRoomsUptoRow.holds Tryd.pinned (OpenSpec.upto spoolRoomsSpec)

end Rows
end Go.Proofs.YtnljpfjoboafoaaDoor
