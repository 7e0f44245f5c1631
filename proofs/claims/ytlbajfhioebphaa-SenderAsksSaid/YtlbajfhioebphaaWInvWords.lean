/- Words that the printed functions stand on: what the kit's print has written, without what is not used here. -/
import Derived.Test.YtlbajfhioebphaaWInv
import Derived.Test.YtlbajfhioebphaaWFootNe
namespace Go.Proofs.YtlbajfhioebphaaW.PrintWords
open Go.RowKit
end Go.Proofs.YtlbajfhioebphaaW.PrintWords
namespace Go.Proofs.YtlbajfhioebphaaW.PrintLast
section
variable {ops : Array Oper} {a : Act} {o og : Oper} {g : Nat} {t : Tmp} {u : Bool}
end
end Go.Proofs.YtlbajfhioebphaaW.PrintLast
