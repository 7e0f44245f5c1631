/- Functions of the program, each told as a plain Lean function, and that the program computes it: written by this session's own program. -/
import Derived.Test.YtcomabcmjhlabaaProg
import Derived.Below
import Derived.Deep.Draws
import Derived.Deep.AppendLies
import Derived.Maps.AppendAt
import Derived.OwnWalk
import Derived.Laws.BytesArg
import Derived.Laws.MakeOwn
import Derived.Laws.OwnMore
import Derived.Deep.OwnRows
import Derived.Tactics
import Derived.Lib.ConvBytes
import Derived.Laws.Slices
import Derived.WalkKit
import Derived.KernelRfl
import Derived.RowKit3
import Derived.Deep.LoopGhost
import Derived.Deep.QuietTactic
import Derived.BigQuiet
import Derived.WideLaws
import Derived.Deep.DeepCutAuto
import Derived.Deep.CutBlock
import Derived.Deep.RegionHeld3
import Derived.Laws.Rows
import Derived.Lib.AppendStr
import Derived.ArgAppend
import Derived.Laws.IdiomCopy
import Derived.OrdersHeld
import Derived.Laws.BitsLemmas
import Derived.RowKit
import Derived.Lib.SliceRun
import Derived.Test.YtcomabcmjhlabaaShort
import Derived.Test.YtcomabcmjhlabaaLit
import Derived.Test.YtcomabcmjhlabaaSteps
import Derived.Test.YtcomabcmjhlabaaWWords
import Derived.Test.YtcomabcmjhlabaaWLast
import Derived.Test.YtcomabcmjhlabaaWTab
import Derived.Test.YtcomabcmjhlabaaWFour
import Derived.Test.YtcomabcmjhlabaaWQPut
import Derived.Test.YtcomabcmjhlabaaWApart
import Derived.Test.YtcomabcmjhlabaaWArr
import Derived.Test.YtcomabcmjhlabaaWZeros
import Derived.Test.YtcomabcmjhlabaaWFoot
import Derived.Test.YtcomabcmjhlabaaWKept
import Derived.Test.YtcomabcmjhlabaaWShare
import Derived.Test.YtcomabcmjhlabaaWN
import Derived.Test.YtcomabcmjhlabaaWFootNe
import Derived.Test.YtcomabcmjhlabaaWAt
import Derived.Test.YtcomabcmjhlabaaWEqStruct
import Derived.Test.YtcomabcmjhlabaaWRepsOne
import Derived.Test.YtcomabcmjhlabaaWInv
import Derived.Test.YtcomabcmjhlabaaWInvWords
import Derived.Test.YtcomabcmjhlabaaWGuard
import Derived.Test.YtcomabcmjhlabaaWNEv
import Derived.Test.YtcomabcmjhlabaaWMore
namespace Go.Proofs.Ytcomabcmjhlabaa.FA
open Go.RowKit Go.Proofs.YtcomabcmjhlabaaW.PrintWords Go.Proofs.YtcomabcmjhlabaaW.PrintLast Go.Proofs.YtcomabcmjhlabaaW.PrintMore
attribute [local go_sem] max2_int min2_int max_two min_two max_three min_three max_four min_four   -- for this text's walks alone
set_option linter.unusedVariables false
set_option linter.unusedSimpArgs false



def errW : Option Int → Value
  | none => .nilIface
  | some c => .iface 0 (.int .i64 c)
theorem errW_none : errW none = .nilIface := rfl
theorem errW_some (c : Int) : errW (some c) = .iface 0 (.int .i64 c) := rfl

theorem info5 : (Try.prog.info? 5).map (fun i => (i.zero, i.size, i.bytes)) = some (some (.int .u8 0), 1, 1) := by kernel_rfl
theorem info51 : (Try.prog.info? 51).map (fun i => (i.zero, i.size, i.bytes)) = some (some (.int .u64 0), 1, 8) := by kernel_rfl
-- the values' own types

end Go.Proofs.Ytcomabcmjhlabaa.FA
