/- What is left to prove of the statement DotsBack, over numbers and lists alone. -/
import Derived.Test.YtmfobcheeekmfaaFAx10
namespace Go.Proofs.Ytmfobcheeekmfaa.FA
open Go.RowKit Go.Proofs.YtmfobcheeekmfaaW.PrintWords Go.Proofs.YtmfobcheeekmfaaW.PrintLast Go.Proofs.YtmfobcheeekmfaaW.PrintMore
def wherrylaw14_DotsBack.Pure : Prop := ∀ (l0 : List Int) (l1 : List Int), l0.length ≤ maxLen → (∀ x ∈ l0, (Lit.int .u8 x).wf = true) → l1.length ≤ maxLen → (∀ x ∈ l1, (Lit.int .u8 x).wf = true) → ∃ k, wherrylaw14_DotsBack.f k l0 l1 = some true
end Go.Proofs.Ytmfobcheeekmfaa.FA
