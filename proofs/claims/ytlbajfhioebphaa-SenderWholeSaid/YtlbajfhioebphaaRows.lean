/-
  No cell of these rows narrows 'for every input' (looked for: loops, veiled, ifaces, maps, wideKeys, modest, calm, conditions, laid).
  DERIVED. THE GIVEN ROWS OF THIS SEAT. 7 by the template 'for every input the law returns true; each argument reads behind the call as it read before'; 0 by the template 'total and deterministic' (their statements: YtlbajfhioebphaaTotals.lean).
  GIVEN WITH THE SEED: the statements are not yours to turn. If you find one false, say at which input.
  Laid BY PROGRAM, IN A SANDBOX (cutbox-rows.mjs): the forced cells as the released guide's own fill.sh prints them over the translation 1ddf7b61828e5abb… (all of the seat's roots in one cut). By AI agents, Wed Nov 11 2026. No macro, syntax, notation, axiom, sorry.
-/
import Derived.Test.YtlbajfhioebphaaChecked
import GoSem.Claim
import GoSem.ClaimJoined
import GoSem.ClaimMapViews
import Derived.JoinedTies
import Derived.KernelRfl
namespace Go.Proofs.Ytlbajfhioebphaa
/- THE CELL 'sum', in the pinned program and in every row, IS THE sha256 OF THE DUMP (.gsa) THAT YtlbajfhioebphaaProg.lean LOADS. Nothing in Lean hashes anything: it is a label: what it is worth is what the hold of that sum in a sandbox is worth. -/
noncomputable def Try.pinned : Pinned := { name := "ytlbajfhioebphaa", sum := "1ddf7b61828e5abb965a4c4b54e884ed7bdaa05270ec0743b802d558e808b95a", checked := Try.checked }
namespace Rows
def none {H : Type} : Left H := { results := [], args := [] }

/-- 'wherrylaw21.SenderAsks': WHATEVER THE INPUT: true; the input reads as it did. -/
def senderAsksSpec : ChangeSpec := { name := "senderAsks", fn := fun _ => fun
  | [d1, d2] => { results := [.lit (.bool true)], args := [d1, d2] }
  | _ => none }
def senderAsksRow : OpenClaim := { program := "ytlbajfhioebphaa", sum := "1ddf7b61828e5abb965a4c4b54e884ed7bdaa05270ec0743b802d558e808b95a", func := "wherry/wherrylaw21.SenderAsks", spec := "senderAsks", apart := false }
def SenderAsksSaid : Prop := senderAsksRow.holds Try.pinned (OpenSpec.ofChange senderAsksSpec)

/-- ITS FALSE NEIGHBOUR: 'it returns false'. Refute it at one input. -/
def senderAsksWrong : ChangeSpec := { name := "senderAsks", fn := fun _ => fun
  | [d1, d2] => { results := [.lit (.bool false)], args := [d1, d2] }
  | _ => none }
def SenderAsksWrongFalsely : Prop := senderAsksRow.holds Try.pinned (OpenSpec.ofChange senderAsksWrong)

/-- 'wherrylaw21.SenderExact': WHATEVER THE INPUT: true; the input reads as it did. -/
def senderExactSpec : ChangeSpec := { name := "senderExact", fn := fun _ => fun
  | [d1, d2, d3, d4] => { results := [.lit (.bool true)], args := [d1, d2, d3, d4] }
  | _ => none }
def senderExactRow : OpenClaim := { program := "ytlbajfhioebphaa", sum := "1ddf7b61828e5abb965a4c4b54e884ed7bdaa05270ec0743b802d558e808b95a", func := "wherry/wherrylaw21.SenderExact", spec := "senderExact", apart := false }
def SenderExactSaid : Prop := senderExactRow.holds Try.pinned (OpenSpec.ofChange senderExactSpec)

/-- ITS FALSE NEIGHBOUR: 'it returns false'. Refute it at one input. -/
def senderExactWrong : ChangeSpec := { name := "senderExact", fn := fun _ => fun
  | [d1, d2, d3, d4] => { results := [.lit (.bool false)], args := [d1, d2, d3, d4] }
  | _ => none }
def SenderExactWrongFalsely : Prop := senderExactRow.holds Try.pinned (OpenSpec.ofChange senderExactWrong)

/-- 'wherrylaw21.SenderStays': WHATEVER THE INPUT: true; the input reads as it did. -/
def senderStaysSpec : ChangeSpec := { name := "senderStays", fn := fun _ => fun
  | [d1, d2] => { results := [.lit (.bool true)], args := [d1, d2] }
  | _ => none }
def senderStaysRow : OpenClaim := { program := "ytlbajfhioebphaa", sum := "1ddf7b61828e5abb965a4c4b54e884ed7bdaa05270ec0743b802d558e808b95a", func := "wherry/wherrylaw21.SenderStays", spec := "senderStays", apart := false }
def SenderStaysSaid : Prop := senderStaysRow.holds Try.pinned (OpenSpec.ofChange senderStaysSpec)

/-- ITS FALSE NEIGHBOUR: 'it returns false'. Refute it at one input. -/
def senderStaysWrong : ChangeSpec := { name := "senderStays", fn := fun _ => fun
  | [d1, d2] => { results := [.lit (.bool false)], args := [d1, d2] }
  | _ => none }
def SenderStaysWrongFalsely : Prop := senderStaysRow.holds Try.pinned (OpenSpec.ofChange senderStaysWrong)

/-- 'wherrylaw21.SenderWhole': WHATEVER THE INPUT: true; the input reads as it did. -/
def senderWholeSpec : ChangeSpec := { name := "senderWhole", fn := fun _ => fun
  | [d1, d2, d3] => { results := [.lit (.bool true)], args := [d1, d2, d3] }
  | _ => none }
def senderWholeRow : OpenClaim := { program := "ytlbajfhioebphaa", sum := "1ddf7b61828e5abb965a4c4b54e884ed7bdaa05270ec0743b802d558e808b95a", func := "wherry/wherrylaw21.SenderWhole", spec := "senderWhole", apart := false }
def SenderWholeSaid : Prop := senderWholeRow.holds Try.pinned (OpenSpec.ofChange senderWholeSpec)

/-- ITS FALSE NEIGHBOUR: 'it returns false'. Refute it at one input. -/
def senderWholeWrong : ChangeSpec := { name := "senderWhole", fn := fun _ => fun
  | [d1, d2, d3] => { results := [.lit (.bool false)], args := [d1, d2, d3] }
  | _ => none }
def SenderWholeWrongFalsely : Prop := senderWholeRow.holds Try.pinned (OpenSpec.ofChange senderWholeWrong)

/-- 'wherrylaw21.SenderOver': WHATEVER THE INPUT: true; the input reads as it did. -/
def senderOverSpec : ChangeSpec := { name := "senderOver", fn := fun _ => fun
  | [d1, d2] => { results := [.lit (.bool true)], args := [d1, d2] }
  | _ => none }
def senderOverRow : OpenClaim := { program := "ytlbajfhioebphaa", sum := "1ddf7b61828e5abb965a4c4b54e884ed7bdaa05270ec0743b802d558e808b95a", func := "wherry/wherrylaw21.SenderOver", spec := "senderOver", apart := false }
def SenderOverSaid : Prop := senderOverRow.holds Try.pinned (OpenSpec.ofChange senderOverSpec)

/-- ITS FALSE NEIGHBOUR: 'it returns false'. Refute it at one input. -/
def senderOverWrong : ChangeSpec := { name := "senderOver", fn := fun _ => fun
  | [d1, d2] => { results := [.lit (.bool false)], args := [d1, d2] }
  | _ => none }
def SenderOverWrongFalsely : Prop := senderOverRow.holds Try.pinned (OpenSpec.ofChange senderOverWrong)

/-- 'wherrylaw21.SenderAcks': WHATEVER THE INPUT: true; the input reads as it did. -/
def senderAcksSpec : ChangeSpec := { name := "senderAcks", fn := fun _ => fun
  | [d1, d2] => { results := [.lit (.bool true)], args := [d1, d2] }
  | _ => none }
def senderAcksRow : OpenClaim := { program := "ytlbajfhioebphaa", sum := "1ddf7b61828e5abb965a4c4b54e884ed7bdaa05270ec0743b802d558e808b95a", func := "wherry/wherrylaw21.SenderAcks", spec := "senderAcks", apart := false }
def SenderAcksSaid : Prop := senderAcksRow.holds Try.pinned (OpenSpec.ofChange senderAcksSpec)

/-- ITS FALSE NEIGHBOUR: 'it returns false'. Refute it at one input. -/
def senderAcksWrong : ChangeSpec := { name := "senderAcks", fn := fun _ => fun
  | [d1, d2] => { results := [.lit (.bool false)], args := [d1, d2] }
  | _ => none }
def SenderAcksWrongFalsely : Prop := senderAcksRow.holds Try.pinned (OpenSpec.ofChange senderAcksWrong)

/-- 'wherrylaw21.SenderReady': WHATEVER THE INPUT: true; the input reads as it did. -/
def senderReadySpec : ChangeSpec := { name := "senderReady", fn := fun _ => fun
  | [d1, d2] => { results := [.lit (.bool true)], args := [d1, d2] }
  | _ => none }
def senderReadyRow : OpenClaim := { program := "ytlbajfhioebphaa", sum := "1ddf7b61828e5abb965a4c4b54e884ed7bdaa05270ec0743b802d558e808b95a", func := "wherry/wherrylaw21.SenderReady", spec := "senderReady", apart := false }
def SenderReadySaid : Prop := senderReadyRow.holds Try.pinned (OpenSpec.ofChange senderReadySpec)

/-- ITS FALSE NEIGHBOUR: 'it returns false'. Refute it at one input. -/
def senderReadyWrong : ChangeSpec := { name := "senderReady", fn := fun _ => fun
  | [d1, d2] => { results := [.lit (.bool false)], args := [d1, d2] }
  | _ => none }
def SenderReadyWrongFalsely : Prop := senderReadyRow.holds Try.pinned (OpenSpec.ofChange senderReadyWrong)

/- THE SECOND FORM. 'bulk': how many values and letters a reading holds, each counted each time it is reached (what is shared counts as often as it is met; a slice's spare places count too). A statement '..UptoSaid' is the law's where the arguments, and the package variables that the reading takes, are together of bulk at most 1048576: NARROWER than '..Said'. Prove '..Said' where nothing that the law and all that it calls make is longer than what came in: it says more and counts as full. Else prove '..UptoSaid'. A law counts once. -/
mutual
def uptoBulk {H : Type} : DataW H → Nat
  | .lit (.string bytes) => bytes.length + 1
  | .lit _ => 1
  | .nil => 1
  | .ptr d => uptoBulk d + 1
  | .slice elems spare => uptoBulkAll elems + uptoBulkAll spare + 1
  | .agg parts => uptoBulkAll parts + 1
  | .iface _ d => uptoBulk d + 1
  | .map entries => uptoBulkEntries entries + 1
  | .held _ => 1
def uptoBulkAll {H : Type} : List (DataW H) → Nat
  | [] => 0
  | d :: r => uptoBulk d + uptoBulkAll r
def uptoBulkEntries {H : Type} : List (Lit × DataW H) → Nat
  | [] => 0
  | x :: r => uptoBulkEntry x + uptoBulkEntries r
def uptoBulkEntry {H : Type} : Lit × DataW H → Nat
  | (.string bytes, d) => bytes.length + uptoBulk d + 1
  | (_, d) => uptoBulk d + 1
 end
def uptoSmall : (H : Type) → List (DataW H) → Bool := fun _ ds => decide (uptoBulkAll ds ≤ 1048576)
def OpenSpec.upto (s : _root_.Go.ChangeSpec) : _root_.Go.OpenSpec := { _root_.Go.OpenSpec.ofChange s with cond := some uptoSmall }

/-- 'wherrylaw21.SenderAsks', WHERE WHAT IT READS IS OF BULK AT MOST 1048576: true; the input reads as it did. -/
def senderAsksUptoRow : OpenClaim := { program := "ytlbajfhioebphaa", sum := "1ddf7b61828e5abb965a4c4b54e884ed7bdaa05270ec0743b802d558e808b95a", func := "wherry/wherrylaw21.SenderAsks", spec := "senderAsks", apart := false, narrowed := true }
def SenderAsksUptoSaid : Prop := senderAsksUptoRow.holds Try.pinned (OpenSpec.upto senderAsksSpec)

/-- 'wherrylaw21.SenderExact', WHERE WHAT IT READS IS OF BULK AT MOST 1048576: true; the input reads as it did. -/
def senderExactUptoRow : OpenClaim := { program := "ytlbajfhioebphaa", sum := "1ddf7b61828e5abb965a4c4b54e884ed7bdaa05270ec0743b802d558e808b95a", func := "wherry/wherrylaw21.SenderExact", spec := "senderExact", apart := false, narrowed := true }
def SenderExactUptoSaid : Prop := senderExactUptoRow.holds Try.pinned (OpenSpec.upto senderExactSpec)

/-- 'wherrylaw21.SenderStays', WHERE WHAT IT READS IS OF BULK AT MOST 1048576: true; the input reads as it did. -/
def senderStaysUptoRow : OpenClaim := { program := "ytlbajfhioebphaa", sum := "1ddf7b61828e5abb965a4c4b54e884ed7bdaa05270ec0743b802d558e808b95a", func := "wherry/wherrylaw21.SenderStays", spec := "senderStays", apart := false, narrowed := true }
def SenderStaysUptoSaid : Prop := senderStaysUptoRow.holds Try.pinned (OpenSpec.upto senderStaysSpec)

/-- 'wherrylaw21.SenderWhole', WHERE WHAT IT READS IS OF BULK AT MOST 1048576: true; the input reads as it did. -/
def senderWholeUptoRow : OpenClaim := { program := "ytlbajfhioebphaa", sum := "1ddf7b61828e5abb965a4c4b54e884ed7bdaa05270ec0743b802d558e808b95a", func := "wherry/wherrylaw21.SenderWhole", spec := "senderWhole", apart := false, narrowed := true }
def SenderWholeUptoSaid : Prop := senderWholeUptoRow.holds Try.pinned (OpenSpec.upto senderWholeSpec)

/-- 'wherrylaw21.SenderOver', WHERE WHAT IT READS IS OF BULK AT MOST 1048576: true; the input reads as it did. -/
def senderOverUptoRow : OpenClaim := { program := "ytlbajfhioebphaa", sum := "1ddf7b61828e5abb965a4c4b54e884ed7bdaa05270ec0743b802d558e808b95a", func := "wherry/wherrylaw21.SenderOver", spec := "senderOver", apart := false, narrowed := true }
def SenderOverUptoSaid : Prop := senderOverUptoRow.holds Try.pinned (OpenSpec.upto senderOverSpec)

/-- 'wherrylaw21.SenderAcks', WHERE WHAT IT READS IS OF BULK AT MOST 1048576: true; the input reads as it did. -/
def senderAcksUptoRow : OpenClaim := { program := "ytlbajfhioebphaa", sum := "1ddf7b61828e5abb965a4c4b54e884ed7bdaa05270ec0743b802d558e808b95a", func := "wherry/wherrylaw21.SenderAcks", spec := "senderAcks", apart := false, narrowed := true }
def SenderAcksUptoSaid : Prop := senderAcksUptoRow.holds Try.pinned (OpenSpec.upto senderAcksSpec)

/-- 'wherrylaw21.SenderReady', WHERE WHAT IT READS IS OF BULK AT MOST 1048576: true; the input reads as it did. -/
def senderReadyUptoRow : OpenClaim := { program := "ytlbajfhioebphaa", sum := "1ddf7b61828e5abb965a4c4b54e884ed7bdaa05270ec0743b802d558e808b95a", func := "wherry/wherrylaw21.SenderReady", spec := "senderReady", apart := false, narrowed := true }
def SenderReadyUptoSaid : Prop := senderReadyUptoRow.holds Try.pinned (OpenSpec.upto senderReadySpec)

end Rows
end Go.Proofs.Ytlbajfhioebphaa
