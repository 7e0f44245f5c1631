/- What is left to prove of the statement DotsOpen, over numbers and lists alone. -/
import Derived.Test.YtmfobcheeekmfaaFAx11
namespace Go.Proofs.Ytmfobcheeekmfaa.FA
open Go.RowKit Go.Proofs.YtmfobcheeekmfaaW.PrintWords Go.Proofs.YtmfobcheeekmfaaW.PrintLast Go.Proofs.YtmfobcheeekmfaaW.PrintMore
def wherrylaw14_DotsOpen.Pure : Prop := ∀ (l0 : List Int), l0.length ≤ maxLen → (∀ x ∈ l0, (Lit.int .u8 x).wf = true) → ∃ k, wherrylaw14_DotsOpen.f k l0 = some true
end Go.Proofs.Ytmfobcheeekmfaa.FA
