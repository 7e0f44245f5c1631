/- What is left to prove of the statement SenderAsks, over numbers and lists alone. -/
import Derived.Test.YtlbajfhioebphaaFAx20
namespace Go.Proofs.Ytlbajfhioebphaa.FA
open Go.RowKit Go.Proofs.YtlbajfhioebphaaW.PrintWords Go.Proofs.YtlbajfhioebphaaW.PrintLast Go.Proofs.YtlbajfhioebphaaW.PrintMore
def wherrylaw21_SenderAsks.Pure : Prop := ∀ (a0_0 : Int) (l0_1 : List Int) (a0_2 : Bool) (a0_3 : Int) (a0_4 : Int) (a0_5 : Int) (a0_6 : Bool) (a1 : Int), (Lit.int .i64 a0_0).wf = true → l0_1.length ≤ maxLen → (∀ y ∈ l0_1, (Lit.int .u8 y).wf = true) → (Lit.int .i64 a0_3).wf = true → (Lit.int .i64 a0_4).wf = true → (Lit.int .i64 a0_5).wf = true → (Lit.int .i64 a1).wf = true → ∃ k, wherrylaw21_SenderAsks.f k a0_0 l0_1 a0_2 a0_3 a0_4 a0_5 a0_6 a1 = some true
end Go.Proofs.Ytlbajfhioebphaa.FA
