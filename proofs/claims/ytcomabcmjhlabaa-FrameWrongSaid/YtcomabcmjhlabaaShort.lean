/- Steps of a region that draws its order: what has come up told by one number. -/
import Derived.Test.YtcomabcmjhlabaaWTab
import Derived.Test.YtcomabcmjhlabaaWLast
import Derived.Lib.SliceRun
namespace Go.Proofs.YtcomabcmjhlabaaW.PrintLast
def bm (n m : Nat) : Array Bool := ((List.range n).map fun i => m.testBit i).toArray
end Go.Proofs.YtcomabcmjhlabaaW.PrintLast
