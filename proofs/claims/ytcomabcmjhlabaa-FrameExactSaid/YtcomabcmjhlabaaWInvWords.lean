/- Words that the printed functions stand on: what the kit's print has written, without what is not used here. -/
import Derived.Test.YtcomabcmjhlabaaWInv
import Derived.Test.YtcomabcmjhlabaaWFootNe
namespace Go.Proofs.YtcomabcmjhlabaaW.PrintWords
open Go.RowKit
end Go.Proofs.YtcomabcmjhlabaaW.PrintWords
namespace Go.Proofs.YtcomabcmjhlabaaW.PrintLast
section
variable {ops : Array Oper} {a : Act} {o og : Oper} {g : Nat} {t : Tmp} {u : Bool}
end
end Go.Proofs.YtcomabcmjhlabaaW.PrintLast
