/- Chapter 21 calls no function of the library that is told otherwise. -/
import Derived.Test.YtlbajfhioebphaaEv26
import Derived.Test.YtlbajfhioebphaaTree
namespace Go.Proofs.Ytlbajfhioebphaa.Tab
set_option linter.all false
open Go Go.Proofs.Ytlbajfhioebphaa.Ev
def ov : Ov := fun _ => none
theorem ov_ok : OvOk Try.prog ov := by
  intro f φ h
  cases h
theorem mx : Try.prog.follows .mixedOrders = true := by kernel_rfl
end Go.Proofs.Ytlbajfhioebphaa.Tab
