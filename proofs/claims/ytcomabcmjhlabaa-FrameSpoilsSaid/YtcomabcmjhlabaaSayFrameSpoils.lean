/- What is left to prove of the statement FrameSpoils, over numbers and lists alone. -/
import Derived.Test.YtcomabcmjhlabaaFAx17
namespace Go.Proofs.Ytcomabcmjhlabaa.FA
open Go.RowKit Go.Proofs.YtcomabcmjhlabaaW.PrintWords Go.Proofs.YtcomabcmjhlabaaW.PrintLast Go.Proofs.YtcomabcmjhlabaaW.PrintMore
def wherrylaw20_FrameSpoils.Pure : Prop := ∀ (l0 : List Int) (a1 : Int) (a2 : Int), l0.length ≤ maxLen → (∀ y ∈ l0, (Lit.int .u8 y).wf = true) → (Lit.int .i64 a1).wf = true → (Lit.int .i64 a2).wf = true → ∃ k, wherrylaw20_FrameSpoils.f k l0 a1 a2 = some true
end Go.Proofs.Ytcomabcmjhlabaa.FA
