/- The library's functions that this chapter calls. -/
import Derived.Test.YtmdnloajpjfbmaaDoorEv26
import Derived.Test.YtmdnloajpjfbmaaDoorEvL
import Derived.Test.YtmdnloajpjfbmaaDoorShelf
import Derived.Test.YtmdnloajpjfbmaaDoorTree
import Derived.Shelf.Bytes.SlIndexAt
import Derived.Lib.BytesEntry
namespace Go.Proofs.YtmdnloajpjfbmaaDoor.Tab
set_option linter.all false
open Go Go.RowKit Go.Proofs.YtmdnloajpjfbmaaDoor.Ev
def ov : Ov
  | 29 => some ovItoa
  | 40 => some ovBIB
  | 42 => some ovClone
  | 46 => some ovGrow
  | 51 => some ovSplit
  | 49 => some ovBI
  | 76 => some ovI1
  | _ => none
set_option maxHeartbeats 8000000 in
set_option maxRecDepth 100000 in
theorem ib_none (c : Nat) (cv : Int) (w : World) : Calls Tryd.prog 40 #[.slice none 0 c, .int .u8 cv] w fun e w' => e = .returned (.int .i64 (-1)) ∧ w' = w := by
  go_enter Tryd.func40, Tryd.ntmps40
  go_wp2
  rw [run_callFunc_extern Tryd.func48 (by kernel_rfl) (by kernel_rfl) (by kernel_rfl) (e := Extern.BytealgIndexByte.indexByte) (by kernel_rfl), Lib.run_indexByteNil w 0 c cv]
  simp only [Result.andThen]
  rw [Oper.upon_value]
  go_wp2
  go_ret
  exact ⟨rfl, rfl⟩
theorem tab (w : World) (h : ∃ cs el fr, w.heap[1]? = some (.cells cs el fr) ∧ blockOk 1 cs) : Lib.TabIs Tryd.prog w "internal/strconv.uint64pow10" .u64 Lib.pow10Tab := by
  obtain ⟨cs, el, fr, h1, h2⟩ := h
  have h3 := h2 rfl
  have hg : Tryd.prog.globalNamed "internal/strconv.uint64pow10" = some 1 := by kernel_rfl
  unfold Lib.TabIs World.var?
  rw [hg]
  show (match w.heap[1]? with | some (.cells cs _ _) => some cs | _ => none) = _
  rw [h1, h3]
  exact congrArg some (by kernel_rfl)
theorem itoa_ok (n : Int) (w : World) (h0 : -9223372036854775808 ≤ n) (h1 : n ≤ 9223372036854775807) (h : ∃ cs el fr, w.heap[1]? = some (.cells cs el fr) ∧ blockOk 1 cs) :
    Calls Tryd.prog 29 #[.int .i64 n] w fun e w' => e = .returned (.string ⟨(Lib.itoa n).toArray⟩) ∧ Below w.heap.size w w' := by
  refine (Tryd.strconv_Itoa n h0 h1 w (tab w h)).mono ?_
  rintro e w' ⟨he, k, os, rfl⟩
  refine ⟨he, rfl, rfl, rfl, ?_, fun j hj => ?_⟩
  · show w.heap.size ≤ (w.heap ++ os).size
    simp
  · show (w.heap ++ os)[j]? = w.heap[j]?
    exact Array.getElem?_append_left hj
theorem info5 : ∃ i0, Tryd.prog.info? 5 = some i0 ∧ i0.zero = some (.int .u8 0) ∧ i0.size = 1 ∧ i0.bytes = 1 := by
  have h : (Tryd.prog.info? 5).isSome = true := by kernel_rfl
  obtain ⟨i, hi⟩ := Option.isSome_iff_exists.1 h
  refine ⟨i, hi, ?_, ?_, ?_⟩
  · have : (Tryd.prog.info? 5).bind (·.zero) = some (.int .u8 0) := by kernel_rfl
    rw [hi] at this; exact this
  · have : (Tryd.prog.info? 5).map (·.size) = some 1 := by kernel_rfl
    rw [hi] at this; exact Option.some.inj this
  · have : (Tryd.prog.info? 5).map (·.bytes) = some 1 := by kernel_rfl
    rw [hi] at this; exact Option.some.inj this
theorem zero_size (k : Nat) : (Builtin.zeroCells (Value.cells (.int .u8 0)) k).size = k := by
  simp [Builtin.zeroCells, Value.cells]
theorem grow_ok (n : Nat) (w : World) (h0 : 0 < n) (h1 : n ≤ 1000000000) : Calls Tryd.prog 46 #[.slice none 0 0, .int .i64 n] w fun e w' => ∃ c carr el, c ≤ carr.size ∧ e = .returned (.slice (some ⟨w.heap.size, 0, none⟩) 0 c) ∧ w' = w.drew.alloc (.cells carr el) := by
  obtain ⟨i0, hi, hz, hs, hb⟩ := info5
  refine (Any8.slices_Grow_grow Tryd.growB i0 (.int .u8 0) hi hz (by omega) none 0 0 n [] w (Nat.le_refl _) (by omega) (by rw [hb]; omega) (by omega) (by simp) (fun _ => rfl) (fun a h => by cases h)).mono ?_
  rintro e w' ⟨he, hw⟩
  refine ⟨_, _, _, ?_, he, hw⟩
  simp only [Array.size_append, zero_size]
  omega
theorem ov_ok : OvOk Tryd.prog ov := by
  intro f φ h
  unfold ov at h
  split at h
  · cases h; exact ok_Itoa (b := 1) (by decide) ⟨Tryd.f29, Tryd.func29, by kernel_rfl, by kernel_rfl⟩ itoa_ok
  · cases h; exact ok_BIB ⟨Tryd.f40, Tryd.func40, by kernel_rfl, by kernel_rfl⟩ Tryd.bytes_IndexByte_at ib_none
  · cases h; exact ok_Clone ⟨Tryd.f42, Tryd.func42, by kernel_rfl, by kernel_rfl⟩ Tryd.bytes_Clone_at Tryd.bytes_Clone_nil
  · cases h; exact ok_Grow rfl ⟨Tryd.f46, Tryd.func46, by kernel_rfl, by kernel_rfl⟩ grow_ok
  · cases h; exact ok_Split (z := 0) rfl ⟨Tryd.f51, Tryd.func51, by kernel_rfl, by kernel_rfl⟩ Tryd.strings_Split
  · cases h; exact ok_BI (z := 0) rfl ⟨Tryd.f49, Tryd.func49, by kernel_rfl, by kernel_rfl⟩ Tryd.bytes_Index_at Tryd.bytes_Index_longer
  · cases h; exact ok_I1 ⟨Tryd.f76, Tryd.func76, by kernel_rfl, by kernel_rfl⟩ Tryd.stringslite_Index_one
  · cases h
theorem mx : Tryd.prog.follows .mixedOrders = true := by kernel_rfl
end Go.Proofs.YtmdnloajpjfbmaaDoor.Tab
