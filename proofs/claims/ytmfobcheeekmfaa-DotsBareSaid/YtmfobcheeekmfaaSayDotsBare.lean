/- What is left to prove of the statement DotsBare, over numbers and lists alone. -/
import Derived.Test.YtmfobcheeekmfaaFAx14
namespace Go.Proofs.Ytmfobcheeekmfaa.FA
open Go.RowKit Go.Proofs.YtmfobcheeekmfaaW.PrintWords Go.Proofs.YtmfobcheeekmfaaW.PrintLast Go.Proofs.YtmfobcheeekmfaaW.PrintMore
def wherrylaw14_DotsBare.Pure : Prop := ∀ (l0 : List Int) (l1 : List Int) (a2 : Int), l0.length ≤ maxLen → (∀ x ∈ l0, (Lit.int .u8 x).wf = true) → l1.length ≤ maxLen → (∀ x ∈ l1, (Lit.int .u8 x).wf = true) → (Lit.int .i64 a2).wf = true → ∃ k, wherrylaw14_DotsBare.f k l0 l1 a2 = some true
end Go.Proofs.Ytmfobcheeekmfaa.FA
