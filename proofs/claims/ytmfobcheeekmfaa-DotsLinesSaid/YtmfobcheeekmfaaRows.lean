/-
  No cell of these rows narrows 'for every input' (looked for: loops, veiled, ifaces, maps, wideKeys, modest, calm, conditions, laid).
  DERIVED. THE GIVEN ROWS OF THIS SEAT. 7 by the template 'for every input the law returns true; each argument reads behind the call as it read before'; 0 by the template 'total and deterministic' (their statements: YtmfobcheeekmfaaTotals.lean).
  GIVEN WITH THE SEED: the statements are not yours to turn. If you find one false, say at which input.
  Laid BY PROGRAM, IN A SANDBOX (cutbox-rows.mjs): the forced cells as the released guide's own fill.sh prints them over the translation 8ee3c8fd2eeece03… (all of the seat's roots in one cut). By AI agents, Wed Nov 11 2026. No macro, syntax, notation, axiom, sorry.
-/
import Derived.Test.YtmfobcheeekmfaaChecked
import GoSem.Claim
import GoSem.ClaimJoined
import GoSem.ClaimMapViews
import Derived.JoinedTies
import Derived.KernelRfl
namespace Go.Proofs.Ytmfobcheeekmfaa
/- THE CELL 'sum', in the pinned program and in every row, IS THE sha256 OF THE DUMP (.gsa) THAT YtmfobcheeekmfaaProg.lean LOADS. Nothing in Lean hashes anything: it is a label: what it is worth is what the hold of that sum in a sandbox is worth. -/
noncomputable def Try.pinned : Pinned := { name := "ytmfobcheeekmfaa", sum := "8ee3c8fd2eeece03df34eadbc03ea8d1b592081ecddb76df8a580049189325b7", checked := Try.checked }
namespace Rows
def none {H : Type} : Left H := { results := [], args := [] }

/-- 'wherrylaw14.DotsExact': WHATEVER THE INPUT: true; the input reads as it did. -/
def dotsExactSpec : ChangeSpec := { name := "dotsExact", fn := fun _ => fun
  | [d] => { results := [.lit (.bool true)], args := [d] }
  | _ => none }
def dotsExactRow : OpenClaim := { program := "ytmfobcheeekmfaa", sum := "8ee3c8fd2eeece03df34eadbc03ea8d1b592081ecddb76df8a580049189325b7", func := "wherry/wherrylaw14.DotsExact", spec := "dotsExact", inPlace := ["internal/bytealg.IndexByte", "internal/bytealg.Index"], named := ["internal/bytealg.MaxLen"], apart := false }
def DotsExactSaid : Prop := dotsExactRow.holds Try.pinned (OpenSpec.ofChange dotsExactSpec)

/-- ITS FALSE NEIGHBOUR: 'it returns false'. Refute it at one input. -/
def dotsExactWrong : ChangeSpec := { name := "dotsExact", fn := fun _ => fun
  | [d] => { results := [.lit (.bool false)], args := [d] }
  | _ => none }
def DotsExactWrongFalsely : Prop := dotsExactRow.holds Try.pinned (OpenSpec.ofChange dotsExactWrong)

/-- 'wherrylaw14.DotsBack': WHATEVER THE INPUT: true; the input reads as it did. -/
def dotsBackSpec : ChangeSpec := { name := "dotsBack", fn := fun _ => fun
  | [d1, d2] => { results := [.lit (.bool true)], args := [d1, d2] }
  | _ => none }
def dotsBackRow : OpenClaim := { program := "ytmfobcheeekmfaa", sum := "8ee3c8fd2eeece03df34eadbc03ea8d1b592081ecddb76df8a580049189325b7", func := "wherry/wherrylaw14.DotsBack", spec := "dotsBack", inPlace := ["internal/bytealg.IndexByte", "internal/bytealg.Index"], named := ["internal/bytealg.MaxLen"], apart := false }
def DotsBackSaid : Prop := dotsBackRow.holds Try.pinned (OpenSpec.ofChange dotsBackSpec)

/-- ITS FALSE NEIGHBOUR: 'it returns false'. Refute it at one input. -/
def dotsBackWrong : ChangeSpec := { name := "dotsBack", fn := fun _ => fun
  | [d1, d2] => { results := [.lit (.bool false)], args := [d1, d2] }
  | _ => none }
def DotsBackWrongFalsely : Prop := dotsBackRow.holds Try.pinned (OpenSpec.ofChange dotsBackWrong)

/-- 'wherrylaw14.DotsOpen': WHATEVER THE INPUT: true; the input reads as it did. -/
def dotsOpenSpec : ChangeSpec := { name := "dotsOpen", fn := fun _ => fun
  | [d] => { results := [.lit (.bool true)], args := [d] }
  | _ => none }
def dotsOpenRow : OpenClaim := { program := "ytmfobcheeekmfaa", sum := "8ee3c8fd2eeece03df34eadbc03ea8d1b592081ecddb76df8a580049189325b7", func := "wherry/wherrylaw14.DotsOpen", spec := "dotsOpen", inPlace := ["internal/bytealg.IndexByte", "internal/bytealg.Index"], named := ["internal/bytealg.MaxLen"], apart := false }
def DotsOpenSaid : Prop := dotsOpenRow.holds Try.pinned (OpenSpec.ofChange dotsOpenSpec)

/-- ITS FALSE NEIGHBOUR: 'it returns false'. Refute it at one input. -/
def dotsOpenWrong : ChangeSpec := { name := "dotsOpen", fn := fun _ => fun
  | [d] => { results := [.lit (.bool false)], args := [d] }
  | _ => none }
def DotsOpenWrongFalsely : Prop := dotsOpenRow.holds Try.pinned (OpenSpec.ofChange dotsOpenWrong)

/-- 'wherrylaw14.DotsJoin': WHATEVER THE INPUT: true; the input reads as it did. -/
def dotsJoinSpec : ChangeSpec := { name := "dotsJoin", fn := fun _ => fun
  | [d1, d2] => { results := [.lit (.bool true)], args := [d1, d2] }
  | _ => none }
def dotsJoinRow : OpenClaim := { program := "ytmfobcheeekmfaa", sum := "8ee3c8fd2eeece03df34eadbc03ea8d1b592081ecddb76df8a580049189325b7", func := "wherry/wherrylaw14.DotsJoin", spec := "dotsJoin", inPlace := ["internal/bytealg.IndexByte", "internal/bytealg.Index"], named := ["internal/bytealg.MaxLen"], apart := false }
def DotsJoinSaid : Prop := dotsJoinRow.holds Try.pinned (OpenSpec.ofChange dotsJoinSpec)

/-- ITS FALSE NEIGHBOUR: 'it returns false'. Refute it at one input. -/
def dotsJoinWrong : ChangeSpec := { name := "dotsJoin", fn := fun _ => fun
  | [d1, d2] => { results := [.lit (.bool false)], args := [d1, d2] }
  | _ => none }
def DotsJoinWrongFalsely : Prop := dotsJoinRow.holds Try.pinned (OpenSpec.ofChange dotsJoinWrong)

/-- 'wherrylaw14.DotsLines': WHATEVER THE INPUT: true; the input reads as it did. -/
def dotsLinesSpec : ChangeSpec := { name := "dotsLines", fn := fun _ => fun
  | [d] => { results := [.lit (.bool true)], args := [d] }
  | _ => none }
def dotsLinesRow : OpenClaim := { program := "ytmfobcheeekmfaa", sum := "8ee3c8fd2eeece03df34eadbc03ea8d1b592081ecddb76df8a580049189325b7", func := "wherry/wherrylaw14.DotsLines", spec := "dotsLines", inPlace := ["internal/bytealg.IndexByte", "internal/bytealg.Index"], named := ["internal/bytealg.MaxLen"], apart := false }
def DotsLinesSaid : Prop := dotsLinesRow.holds Try.pinned (OpenSpec.ofChange dotsLinesSpec)

/-- ITS FALSE NEIGHBOUR: 'it returns false'. Refute it at one input. -/
def dotsLinesWrong : ChangeSpec := { name := "dotsLines", fn := fun _ => fun
  | [d] => { results := [.lit (.bool false)], args := [d] }
  | _ => none }
def DotsLinesWrongFalsely : Prop := dotsLinesRow.holds Try.pinned (OpenSpec.ofChange dotsLinesWrong)

/-- 'wherrylaw14.DotsBare': WHATEVER THE INPUT: true; the input reads as it did. -/
def dotsBareSpec : ChangeSpec := { name := "dotsBare", fn := fun _ => fun
  | [d1, d2, d3] => { results := [.lit (.bool true)], args := [d1, d2, d3] }
  | _ => none }
def dotsBareRow : OpenClaim := { program := "ytmfobcheeekmfaa", sum := "8ee3c8fd2eeece03df34eadbc03ea8d1b592081ecddb76df8a580049189325b7", func := "wherry/wherrylaw14.DotsBare", spec := "dotsBare", inPlace := ["internal/bytealg.IndexByte", "internal/bytealg.Index"], named := ["internal/bytealg.MaxLen"], apart := false }
def DotsBareSaid : Prop := dotsBareRow.holds Try.pinned (OpenSpec.ofChange dotsBareSpec)

/-- ITS FALSE NEIGHBOUR: 'it returns false'. Refute it at one input. -/
def dotsBareWrong : ChangeSpec := { name := "dotsBare", fn := fun _ => fun
  | [d1, d2, d3] => { results := [.lit (.bool false)], args := [d1, d2, d3] }
  | _ => none }
def DotsBareWrongFalsely : Prop := dotsBareRow.holds Try.pinned (OpenSpec.ofChange dotsBareWrong)

/-- 'wherrylaw14.DotsTwo': WHATEVER THE INPUT: true; the input reads as it did. -/
def dotsTwoSpec : ChangeSpec := { name := "dotsTwo", fn := fun _ => fun
  | [d1, d2] => { results := [.lit (.bool true)], args := [d1, d2] }
  | _ => none }
def dotsTwoRow : OpenClaim := { program := "ytmfobcheeekmfaa", sum := "8ee3c8fd2eeece03df34eadbc03ea8d1b592081ecddb76df8a580049189325b7", func := "wherry/wherrylaw14.DotsTwo", spec := "dotsTwo", inPlace := ["internal/bytealg.IndexByte", "internal/bytealg.Index"], named := ["internal/bytealg.MaxLen"], apart := false }
def DotsTwoSaid : Prop := dotsTwoRow.holds Try.pinned (OpenSpec.ofChange dotsTwoSpec)

/-- ITS FALSE NEIGHBOUR: 'it returns false'. Refute it at one input. -/
def dotsTwoWrong : ChangeSpec := { name := "dotsTwo", fn := fun _ => fun
  | [d1, d2] => { results := [.lit (.bool false)], args := [d1, d2] }
  | _ => none }
def DotsTwoWrongFalsely : Prop := dotsTwoRow.holds Try.pinned (OpenSpec.ofChange dotsTwoWrong)

/- THE SECOND FORM. 'bulk': how many values and letters a reading holds, each counted each time it is reached (what is shared counts as often as it is met; a slice's spare places count too). A statement '..UptoSaid' is the law's where the arguments, and the package variables that the reading takes, are together of bulk at most 1048576: NARROWER than '..Said'. Prove '..Said' where nothing that the law and all that it calls make is longer than what came in: it says more and counts as full. Else prove '..UptoSaid'. A law counts once. -/
mutual
def uptoBulk {H : Type} : DataW H → Nat
  | .lit (.string bytes) => bytes.length + 1
  | .lit _ => 1
  | .nil => 1
  | .ptr d => uptoBulk d + 1
  | .slice elems spare => uptoBulkAll elems + uptoBulkAll spare + 1
  | .agg parts => uptoBulkAll parts + 1
  | .iface _ d => uptoBulk d + 1
  | .map entries => uptoBulkEntries entries + 1
  | .held _ => 1
def uptoBulkAll {H : Type} : List (DataW H) → Nat
  | [] => 0
  | d :: r => uptoBulk d + uptoBulkAll r
def uptoBulkEntries {H : Type} : List (Lit × DataW H) → Nat
  | [] => 0
  | x :: r => uptoBulkEntry x + uptoBulkEntries r
def uptoBulkEntry {H : Type} : Lit × DataW H → Nat
  | (.string bytes, d) => bytes.length + uptoBulk d + 1
  | (_, d) => uptoBulk d + 1
 end
def uptoSmall : (H : Type) → List (DataW H) → Bool := fun _ ds => decide (uptoBulkAll ds ≤ 1048576)
def OpenSpec.upto (s : _root_.Go.ChangeSpec) : _root_.Go.OpenSpec := { _root_.Go.OpenSpec.ofChange s with cond := some uptoSmall }

/-- 'wherrylaw14.DotsExact', WHERE WHAT IT READS IS OF BULK AT MOST 1048576: true; the input reads as it did. -/
def dotsExactUptoRow : OpenClaim := { program := "ytmfobcheeekmfaa", sum := "8ee3c8fd2eeece03df34eadbc03ea8d1b592081ecddb76df8a580049189325b7", func := "wherry/wherrylaw14.DotsExact", spec := "dotsExact", inPlace := ["internal/bytealg.IndexByte", "internal/bytealg.Index"], named := ["internal/bytealg.MaxLen"], apart := false, narrowed := true }
def DotsExactUptoSaid : Prop := dotsExactUptoRow.holds Try.pinned (OpenSpec.upto dotsExactSpec)

/-- 'wherrylaw14.DotsBack', WHERE WHAT IT READS IS OF BULK AT MOST 1048576: true; the input reads as it did. -/
def dotsBackUptoRow : OpenClaim := { program := "ytmfobcheeekmfaa", sum := "8ee3c8fd2eeece03df34eadbc03ea8d1b592081ecddb76df8a580049189325b7", func := "wherry/wherrylaw14.DotsBack", spec := "dotsBack", inPlace := ["internal/bytealg.IndexByte", "internal/bytealg.Index"], named := ["internal/bytealg.MaxLen"], apart := false, narrowed := true }
def DotsBackUptoSaid : Prop := dotsBackUptoRow.holds Try.pinned (OpenSpec.upto dotsBackSpec)

/-- 'wherrylaw14.DotsOpen', WHERE WHAT IT READS IS OF BULK AT MOST 1048576: true; the input reads as it did. -/
def dotsOpenUptoRow : OpenClaim := { program := "ytmfobcheeekmfaa", sum := "8ee3c8fd2eeece03df34eadbc03ea8d1b592081ecddb76df8a580049189325b7", func := "wherry/wherrylaw14.DotsOpen", spec := "dotsOpen", inPlace := ["internal/bytealg.IndexByte", "internal/bytealg.Index"], named := ["internal/bytealg.MaxLen"], apart := false, narrowed := true }
def DotsOpenUptoSaid : Prop := dotsOpenUptoRow.holds Try.pinned (OpenSpec.upto dotsOpenSpec)

/-- 'wherrylaw14.DotsJoin', WHERE WHAT IT READS IS OF BULK AT MOST 1048576: true; the input reads as it did. -/
def dotsJoinUptoRow : OpenClaim := { program := "ytmfobcheeekmfaa", sum := "8ee3c8fd2eeece03df34eadbc03ea8d1b592081ecddb76df8a580049189325b7", func := "wherry/wherrylaw14.DotsJoin", spec := "dotsJoin", inPlace := ["internal/bytealg.IndexByte", "internal/bytealg.Index"], named := ["internal/bytealg.MaxLen"], apart := false, narrowed := true }
def DotsJoinUptoSaid : Prop := dotsJoinUptoRow.holds Try.pinned (OpenSpec.upto dotsJoinSpec)

/-- 'wherrylaw14.DotsLines', WHERE WHAT IT READS IS OF BULK AT MOST 1048576: true; the input reads as it did. -/
def dotsLinesUptoRow : OpenClaim := { program := "ytmfobcheeekmfaa", sum := "8ee3c8fd2eeece03df34eadbc03ea8d1b592081ecddb76df8a580049189325b7", func := "wherry/wherrylaw14.DotsLines", spec := "dotsLines", inPlace := ["internal/bytealg.IndexByte", "internal/bytealg.Index"], named := ["internal/bytealg.MaxLen"], apart := false, narrowed := true }
def DotsLinesUptoSaid : Prop := dotsLinesUptoRow.holds Try.pinned (OpenSpec.upto dotsLinesSpec)

/-- 'wherrylaw14.DotsBare', WHERE WHAT IT READS IS OF BULK AT MOST 1048576: true; the input reads as it did. -/
def dotsBareUptoRow : OpenClaim := { program := "ytmfobcheeekmfaa", sum := "8ee3c8fd2eeece03df34eadbc03ea8d1b592081ecddb76df8a580049189325b7", func := "wherry/wherrylaw14.DotsBare", spec := "dotsBare", inPlace := ["internal/bytealg.IndexByte", "internal/bytealg.Index"], named := ["internal/bytealg.MaxLen"], apart := false, narrowed := true }
def DotsBareUptoSaid : Prop := dotsBareUptoRow.holds Try.pinned (OpenSpec.upto dotsBareSpec)

/-- 'wherrylaw14.DotsTwo', WHERE WHAT IT READS IS OF BULK AT MOST 1048576: true; the input reads as it did. -/
def dotsTwoUptoRow : OpenClaim := { program := "ytmfobcheeekmfaa", sum := "8ee3c8fd2eeece03df34eadbc03ea8d1b592081ecddb76df8a580049189325b7", func := "wherry/wherrylaw14.DotsTwo", spec := "dotsTwo", inPlace := ["internal/bytealg.IndexByte", "internal/bytealg.Index"], named := ["internal/bytealg.MaxLen"], apart := false, narrowed := true }
def DotsTwoUptoSaid : Prop := dotsTwoUptoRow.holds Try.pinned (OpenSpec.upto dotsTwoSpec)

end Rows
end Go.Proofs.Ytmfobcheeekmfaa
