/- Words that the printed functions stand on: what the kit's print has written, without what is not used here. -/
import Derived.Test.YtlbajfhioebphaaWTab
/-! ### 56. Four, five, six operations that may come up next, in any order -/
namespace Go.Proofs.YtlbajfhioebphaaW.PrintLast
section
variable {P : Program} {ops : Array Oper} {Q : Exit → Act → World → Prop} {md : Region.Mode} {S : World → Prop} {ds : List Nat} {T : Bool × List (List Nat × List Nat)}
end
end Go.Proofs.YtlbajfhioebphaaW.PrintLast
