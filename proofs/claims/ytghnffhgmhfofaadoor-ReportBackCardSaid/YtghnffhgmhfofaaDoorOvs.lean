/- The library's functions that this chapter calls. -/
import Derived.Test.YtghnffhgmhfofaaDoorEv26
import Derived.Test.YtghnffhgmhfofaaDoorEvL
import Derived.Test.YtghnffhgmhfofaaDoorShelf
import Derived.Test.YtghnffhgmhfofaaDoorTree
import Derived.Shelf.Bytes.SlIndexAt
import Derived.Lib.BytesEntry
namespace Go.Proofs.YtghnffhgmhfofaaDoor.Tab
set_option linter.all false
open Go Go.RowKit Go.Proofs.YtghnffhgmhfofaaDoor.Ev
def ov : Ov
  | 20 => some ovJoin
  | 34 => some ovBIB
  | 42 => some ovClone
  | 56 => some ovSplit
  | 61 => some ovBI
  | 67 => some ovIB
  | 76 => some ovI1
  | _ => none
set_option maxHeartbeats 8000000 in
set_option maxRecDepth 100000 in
theorem ib_none (c : Nat) (cv : Int) (w : World) : Calls Tryd.prog 34 #[.slice none 0 c, .int .u8 cv] w fun e w' => e = .returned (.int .i64 (-1)) ∧ w' = w := by
  go_enter Tryd.func34, Tryd.ntmps34
  go_wp2
  rw [run_callFunc_extern Tryd.func53 (by kernel_rfl) (by kernel_rfl) (by kernel_rfl) (e := Extern.BytealgIndexByte.indexByte) (by kernel_rfl), Lib.run_indexByteNil w 0 c cv]
  simp only [Result.andThen]
  rw [Oper.upon_value]
  go_wp2
  go_ret
  exact ⟨rfl, rfl⟩
theorem ov_ok : OvOk Tryd.prog ov := by
  intro f φ h
  unfold ov at h
  split at h
  · cases h; exact ok_Join ⟨Tryd.f20, Tryd.func20, by kernel_rfl, by kernel_rfl⟩ Tryd.strings_Join
  · cases h; exact ok_BIB ⟨Tryd.f34, Tryd.func34, by kernel_rfl, by kernel_rfl⟩ Tryd.bytes_IndexByte_at ib_none
  · cases h; exact ok_Clone ⟨Tryd.f42, Tryd.func42, by kernel_rfl, by kernel_rfl⟩ Tryd.bytes_Clone_at Tryd.bytes_Clone_nil
  · cases h; exact ok_Split (z := 0) rfl ⟨Tryd.f56, Tryd.func56, by kernel_rfl, by kernel_rfl⟩ Tryd.strings_Split
  · cases h; exact ok_BI (z := 0) rfl ⟨Tryd.f61, Tryd.func61, by kernel_rfl, by kernel_rfl⟩ Tryd.bytes_Index_at Tryd.bytes_Index_longer
  · cases h; exact ok_IB ⟨Tryd.f67, Tryd.func67, by kernel_rfl, by kernel_rfl⟩ Tryd.strings_IndexByte
  · cases h; exact ok_I1 ⟨Tryd.f76, Tryd.func76, by kernel_rfl, by kernel_rfl⟩ Tryd.stringslite_Index_one
  · cases h
theorem mx : Tryd.prog.follows .mixedOrders = true := by kernel_rfl
end Go.Proofs.YtghnffhgmhfofaaDoor.Tab
