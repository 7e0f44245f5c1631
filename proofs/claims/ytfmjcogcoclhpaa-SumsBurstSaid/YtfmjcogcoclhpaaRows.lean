/-
  No cell of these rows narrows 'for every input' (looked for: loops, veiled, ifaces, maps, wideKeys, modest, calm, conditions, laid).
  DERIVED. THE GIVEN ROWS OF THIS SEAT. 6 by the template 'for every input the law returns true; each argument reads behind the call as it read before'; 0 by the template 'total and deterministic' (their statements: YtfmjcogcoclhpaaTotals.lean).
  GIVEN WITH THE SEED: the statements are not yours to turn. If you find one false, say at which input.
  Laid BY PROGRAM, IN A SANDBOX (cutbox-rows.mjs): the forced cells as the released guide's own fill.sh prints them over the translation b5ebf55c6c226ba0… (all of the seat's roots in one cut). By AI agents, Wed Nov 11 2026. No macro, syntax, notation, axiom, sorry.
-/
import Derived.Test.YtfmjcogcoclhpaaChecked
import GoSem.Claim
import GoSem.ClaimJoined
import GoSem.ClaimMapViews
import Derived.JoinedTies
import Derived.KernelRfl
namespace Go.Proofs.Ytfmjcogcoclhpaa
/- THE CELL 'sum', in the pinned program and in every row, IS THE sha256 OF THE DUMP (.gsa) THAT YtfmjcogcoclhpaaProg.lean LOADS. Nothing in Lean hashes anything: it is a label: what it is worth is what the hold of that sum in a sandbox is worth. -/
noncomputable def Try.pinned : Pinned := { name := "ytfmjcogcoclhpaa", sum := "b5ebf55c6c226ba0181d1cf8ad57d9981e2630b1eeb027d6ae4d7b3a644909c0", checked := Try.checked }
namespace Rows
def none {H : Type} : Left H := { results := [], args := [] }

/-- 'wherrylaw08.SumsBurst': WHATEVER THE INPUT: true; the input reads as it did. -/
def sumsBurstSpec : ChangeSpec := { name := "sumsBurst", fn := fun _ => fun
  | [d1, d2, d3, d4] => { results := [.lit (.bool true)], args := [d1, d2, d3, d4] }
  | _ => none }
def sumsBurstRow : OpenClaim := { program := "ytfmjcogcoclhpaa", sum := "b5ebf55c6c226ba0181d1cf8ad57d9981e2630b1eeb027d6ae4d7b3a644909c0", func := "wherry/wherrylaw08.SumsBurst", spec := "sumsBurst", apart := false }
def SumsBurstSaid : Prop := sumsBurstRow.holds Try.pinned (OpenSpec.ofChange sumsBurstSpec)

/-- ITS FALSE NEIGHBOUR: 'it returns false'. Refute it at one input. -/
def sumsBurstWrong : ChangeSpec := { name := "sumsBurst", fn := fun _ => fun
  | [d1, d2, d3, d4] => { results := [.lit (.bool false)], args := [d1, d2, d3, d4] }
  | _ => none }
def SumsBurstWrongFalsely : Prop := sumsBurstRow.holds Try.pinned (OpenSpec.ofChange sumsBurstWrong)

/-- 'wherrylaw08.SumsTail': WHATEVER THE INPUT: true; the input reads as it did. -/
def sumsTailSpec : ChangeSpec := { name := "sumsTail", fn := fun _ => fun
  | [d1, d2] => { results := [.lit (.bool true)], args := [d1, d2] }
  | _ => none }
def sumsTailRow : OpenClaim := { program := "ytfmjcogcoclhpaa", sum := "b5ebf55c6c226ba0181d1cf8ad57d9981e2630b1eeb027d6ae4d7b3a644909c0", func := "wherry/wherrylaw08.SumsTail", spec := "sumsTail", apart := false }
def SumsTailSaid : Prop := sumsTailRow.holds Try.pinned (OpenSpec.ofChange sumsTailSpec)

/-- ITS FALSE NEIGHBOUR: 'it returns false'. Refute it at one input. -/
def sumsTailWrong : ChangeSpec := { name := "sumsTail", fn := fun _ => fun
  | [d1, d2] => { results := [.lit (.bool false)], args := [d1, d2] }
  | _ => none }
def SumsTailWrongFalsely : Prop := sumsTailRow.holds Try.pinned (OpenSpec.ofChange sumsTailWrong)

/-- 'wherrylaw08.SumsMix': WHATEVER THE INPUT: true; the input reads as it did. -/
def sumsMixSpec : ChangeSpec := { name := "sumsMix", fn := fun _ => fun
  | [d1, d2, d3] => { results := [.lit (.bool true)], args := [d1, d2, d3] }
  | _ => none }
def sumsMixRow : OpenClaim := { program := "ytfmjcogcoclhpaa", sum := "b5ebf55c6c226ba0181d1cf8ad57d9981e2630b1eeb027d6ae4d7b3a644909c0", func := "wherry/wherrylaw08.SumsMix", spec := "sumsMix", apart := false }
def SumsMixSaid : Prop := sumsMixRow.holds Try.pinned (OpenSpec.ofChange sumsMixSpec)

/-- ITS FALSE NEIGHBOUR: 'it returns false'. Refute it at one input. -/
def sumsMixWrong : ChangeSpec := { name := "sumsMix", fn := fun _ => fun
  | [d1, d2, d3] => { results := [.lit (.bool false)], args := [d1, d2, d3] }
  | _ => none }
def SumsMixWrongFalsely : Prop := sumsMixRow.holds Try.pinned (OpenSpec.ofChange sumsMixWrong)

/-- 'wherrylaw08.SumsNext': WHATEVER THE INPUT: true; the input reads as it did. -/
def sumsNextSpec : ChangeSpec := { name := "sumsNext", fn := fun _ => fun
  | [d1, d2, d3] => { results := [.lit (.bool true)], args := [d1, d2, d3] }
  | _ => none }
def sumsNextRow : OpenClaim := { program := "ytfmjcogcoclhpaa", sum := "b5ebf55c6c226ba0181d1cf8ad57d9981e2630b1eeb027d6ae4d7b3a644909c0", func := "wherry/wherrylaw08.SumsNext", spec := "sumsNext", apart := false }
def SumsNextSaid : Prop := sumsNextRow.holds Try.pinned (OpenSpec.ofChange sumsNextSpec)

/-- ITS FALSE NEIGHBOUR: 'it returns false'. Refute it at one input. -/
def sumsNextWrong : ChangeSpec := { name := "sumsNext", fn := fun _ => fun
  | [d1, d2, d3] => { results := [.lit (.bool false)], args := [d1, d2, d3] }
  | _ => none }
def SumsNextWrongFalsely : Prop := sumsNextRow.holds Try.pinned (OpenSpec.ofChange sumsNextWrong)

/-- 'wherrylaw08.SumsExact': WHATEVER THE INPUT: true; the input reads as it did. -/
def sumsExactSpec : ChangeSpec := { name := "sumsExact", fn := fun _ => fun
  | [d1, d2, d3] => { results := [.lit (.bool true)], args := [d1, d2, d3] }
  | _ => none }
def sumsExactRow : OpenClaim := { program := "ytfmjcogcoclhpaa", sum := "b5ebf55c6c226ba0181d1cf8ad57d9981e2630b1eeb027d6ae4d7b3a644909c0", func := "wherry/wherrylaw08.SumsExact", spec := "sumsExact", apart := false }
def SumsExactSaid : Prop := sumsExactRow.holds Try.pinned (OpenSpec.ofChange sumsExactSpec)

/-- ITS FALSE NEIGHBOUR: 'it returns false'. Refute it at one input. -/
def sumsExactWrong : ChangeSpec := { name := "sumsExact", fn := fun _ => fun
  | [d1, d2, d3] => { results := [.lit (.bool false)], args := [d1, d2, d3] }
  | _ => none }
def SumsExactWrongFalsely : Prop := sumsExactRow.holds Try.pinned (OpenSpec.ofChange sumsExactWrong)

/-- 'wherrylaw08.SumsBits': WHATEVER THE INPUT: true; the input reads as it did. -/
def sumsBitsSpec : ChangeSpec := { name := "sumsBits", fn := fun _ => fun
  | [d] => { results := [.lit (.bool true)], args := [d] }
  | _ => none }
def sumsBitsRow : OpenClaim := { program := "ytfmjcogcoclhpaa", sum := "b5ebf55c6c226ba0181d1cf8ad57d9981e2630b1eeb027d6ae4d7b3a644909c0", func := "wherry/wherrylaw08.SumsBits", spec := "sumsBits", apart := false }
def SumsBitsSaid : Prop := sumsBitsRow.holds Try.pinned (OpenSpec.ofChange sumsBitsSpec)

/-- ITS FALSE NEIGHBOUR: 'it returns false'. Refute it at one input. -/
def sumsBitsWrong : ChangeSpec := { name := "sumsBits", fn := fun _ => fun
  | [d] => { results := [.lit (.bool false)], args := [d] }
  | _ => none }
def SumsBitsWrongFalsely : Prop := sumsBitsRow.holds Try.pinned (OpenSpec.ofChange sumsBitsWrong)

/- THE SECOND FORM. 'bulk': how many values and letters a reading holds, each counted each time it is reached (what is shared counts as often as it is met; a slice's spare places count too). A statement '..UptoSaid' is the law's where the arguments, and the package variables that the reading takes, are together of bulk at most 1048576: NARROWER than '..Said'. Prove '..Said' where nothing that the law and all that it calls make is longer than what came in: it says more and counts as full. Else prove '..UptoSaid'. A law counts once. -/
mutual
def uptoBulk {H : Type} : DataW H → Nat
  | .lit (.string bytes) => bytes.length + 1
  | .lit _ => 1
  | .nil => 1
  | .ptr d => uptoBulk d + 1
  | .slice elems spare => uptoBulkAll elems + uptoBulkAll spare + 1
  | .agg parts => uptoBulkAll parts + 1
  | .iface _ d => uptoBulk d + 1
  | .map entries => uptoBulkEntries entries + 1
  | .held _ => 1
def uptoBulkAll {H : Type} : List (DataW H) → Nat
  | [] => 0
  | d :: r => uptoBulk d + uptoBulkAll r
def uptoBulkEntries {H : Type} : List (Lit × DataW H) → Nat
  | [] => 0
  | x :: r => uptoBulkEntry x + uptoBulkEntries r
def uptoBulkEntry {H : Type} : Lit × DataW H → Nat
  | (.string bytes, d) => bytes.length + uptoBulk d + 1
  | (_, d) => uptoBulk d + 1
 end
def uptoSmall : (H : Type) → List (DataW H) → Bool := fun _ ds => decide (uptoBulkAll ds ≤ 1048576)
def OpenSpec.upto (s : _root_.Go.ChangeSpec) : _root_.Go.OpenSpec := { _root_.Go.OpenSpec.ofChange s with cond := some uptoSmall }

/-- 'wherrylaw08.SumsBurst', WHERE WHAT IT READS IS OF BULK AT MOST 1048576: true; the input reads as it did. -/
def sumsBurstUptoRow : OpenClaim := { program := "ytfmjcogcoclhpaa", sum := "b5ebf55c6c226ba0181d1cf8ad57d9981e2630b1eeb027d6ae4d7b3a644909c0", func := "wherry/wherrylaw08.SumsBurst", spec := "sumsBurst", apart := false, narrowed := true }
def SumsBurstUptoSaid : Prop := sumsBurstUptoRow.holds Try.pinned (OpenSpec.upto sumsBurstSpec)

/-- 'wherrylaw08.SumsTail', WHERE WHAT IT READS IS OF BULK AT MOST 1048576: true; the input reads as it did. -/
def sumsTailUptoRow : OpenClaim := { program := "ytfmjcogcoclhpaa", sum := "b5ebf55c6c226ba0181d1cf8ad57d9981e2630b1eeb027d6ae4d7b3a644909c0", func := "wherry/wherrylaw08.SumsTail", spec := "sumsTail", apart := false, narrowed := true }
def SumsTailUptoSaid : Prop := sumsTailUptoRow.holds Try.pinned (OpenSpec.upto sumsTailSpec)

/-- 'wherrylaw08.SumsMix', WHERE WHAT IT READS IS OF BULK AT MOST 1048576: true; the input reads as it did. -/
def sumsMixUptoRow : OpenClaim := { program := "ytfmjcogcoclhpaa", sum := "b5ebf55c6c226ba0181d1cf8ad57d9981e2630b1eeb027d6ae4d7b3a644909c0", func := "wherry/wherrylaw08.SumsMix", spec := "sumsMix", apart := false, narrowed := true }
def SumsMixUptoSaid : Prop := sumsMixUptoRow.holds Try.pinned (OpenSpec.upto sumsMixSpec)

/-- 'wherrylaw08.SumsNext', WHERE WHAT IT READS IS OF BULK AT MOST 1048576: true; the input reads as it did. -/
def sumsNextUptoRow : OpenClaim := { program := "ytfmjcogcoclhpaa", sum := "b5ebf55c6c226ba0181d1cf8ad57d9981e2630b1eeb027d6ae4d7b3a644909c0", func := "wherry/wherrylaw08.SumsNext", spec := "sumsNext", apart := false, narrowed := true }
def SumsNextUptoSaid : Prop := sumsNextUptoRow.holds Try.pinned (OpenSpec.upto sumsNextSpec)

/-- 'wherrylaw08.SumsExact', WHERE WHAT IT READS IS OF BULK AT MOST 1048576: true; the input reads as it did. -/
def sumsExactUptoRow : OpenClaim := { program := "ytfmjcogcoclhpaa", sum := "b5ebf55c6c226ba0181d1cf8ad57d9981e2630b1eeb027d6ae4d7b3a644909c0", func := "wherry/wherrylaw08.SumsExact", spec := "sumsExact", apart := false, narrowed := true }
def SumsExactUptoSaid : Prop := sumsExactUptoRow.holds Try.pinned (OpenSpec.upto sumsExactSpec)

/-- 'wherrylaw08.SumsBits', WHERE WHAT IT READS IS OF BULK AT MOST 1048576: true; the input reads as it did. -/
def sumsBitsUptoRow : OpenClaim := { program := "ytfmjcogcoclhpaa", sum := "b5ebf55c6c226ba0181d1cf8ad57d9981e2630b1eeb027d6ae4d7b3a644909c0", func := "wherry/wherrylaw08.SumsBits", spec := "sumsBits", apart := false, narrowed := true }
def SumsBitsUptoSaid : Prop := sumsBitsUptoRow.holds Try.pinned (OpenSpec.upto sumsBitsSpec)

end Rows
end Go.Proofs.Ytfmjcogcoclhpaa
