/- Words that the printed functions stand on: what the kit's print has written, without what is not used here. -/
import Derived.Test.YtlbajfhioebphaaWWords
import Derived.Laws.StructEq
/-! ### 53. '==' of structs as_ one Bool -/
namespace Go.Proofs.YtlbajfhioebphaaW.PrintWords
open Go.RowKit
section
variable {P : Program} {d : Nat} {xs ys : Array Value} {f : Field} {fs : List Field} {a b : Value} {r s : Bool} {w : World}
end
end Go.Proofs.YtlbajfhioebphaaW.PrintWords
