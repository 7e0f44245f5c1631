/- The library's functions that chapter 11 calls. -/
import Derived.Test.YtgilfigaimndkaaDoorEv26
import Derived.Test.YtgilfigaimndkaaDoorShelf
import Derived.Test.YtgilfigaimndkaaDoorTree
namespace Go.Proofs.YtgilfigaimndkaaDoor.Tab
set_option linter.all false
open Go Go.Proofs.YtgilfigaimndkaaDoor.Ev
def ov : Ov
  | 42 => some ovSplit
  | 45 => some ovIB
  | 48 => some ovI1
  | 51 => some ovIB
  | _ => none
theorem ov_ok : OvOk Tryd.prog ov := by
  intro f φ h
  unfold ov at h
  split at h
  · cases h; exact ok_Split (z := 0) rfl ⟨Tryd.f42, Tryd.func42, by kernel_rfl, by kernel_rfl⟩ Tryd.strings_Split
  · cases h; exact ok_IB ⟨Tryd.f45, Tryd.func45, by kernel_rfl, by kernel_rfl⟩ Tryd.strings_IndexByte
  · cases h; exact ok_I1 ⟨Tryd.f48, Tryd.func48, by kernel_rfl, by kernel_rfl⟩ Tryd.stringslite_Index_one
  · cases h; exact ok_IB ⟨Tryd.f51, Tryd.func51, by kernel_rfl, by kernel_rfl⟩ Tryd.stringslite_IndexByte
  · cases h
theorem mx : Tryd.prog.follows .mixedOrders = true := by kernel_rfl
end Go.Proofs.YtgilfigaimndkaaDoor.Tab
