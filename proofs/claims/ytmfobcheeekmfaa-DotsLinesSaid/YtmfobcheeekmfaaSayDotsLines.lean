/- What is left to prove of the statement DotsLines, over numbers and lists alone. -/
import Derived.Test.YtmfobcheeekmfaaFAx13
namespace Go.Proofs.Ytmfobcheeekmfaa.FA
open Go.RowKit Go.Proofs.YtmfobcheeekmfaaW.PrintWords Go.Proofs.YtmfobcheeekmfaaW.PrintLast Go.Proofs.YtmfobcheeekmfaaW.PrintMore
def wherrylaw14_DotsLines.Pure : Prop := ∀ (l0 : List (List Int)), l0.length ≤ maxLen → (∀ y ∈ l0, y.length ≤ maxLen ∧ ∀ y0 ∈ y, (Lit.int .u8 y0).wf = true) → ∃ k, wherrylaw14_DotsLines.f k l0 = some true
end Go.Proofs.Ytmfobcheeekmfaa.FA
