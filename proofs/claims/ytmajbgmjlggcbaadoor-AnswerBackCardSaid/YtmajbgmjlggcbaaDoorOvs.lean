/- The library's functions that this chapter calls. -/
import Derived.Test.YtmajbgmjlggcbaaDoorEv26
import Derived.Test.YtmajbgmjlggcbaaDoorEvL
import Derived.Test.YtmajbgmjlggcbaaDoorEvApp
import Derived.Test.YtmajbgmjlggcbaaDoorShelf
import Derived.Test.YtmajbgmjlggcbaaDoorTree
import Derived.Shelf.Bytes.SlIndexAt
import Derived.Lib.BytesEntry
namespace Go.Proofs.YtmajbgmjlggcbaaDoor.Tab
set_option linter.all false
open Go Go.RowKit Go.Proofs.YtmajbgmjlggcbaaDoor.Ev
def ov : Ov
  | 36 => some ovBIB
  | 31 => some ovBI
  | 23 => some ovAtoi
  | 35 => some ovAppU
  | _ => none
set_option maxHeartbeats 8000000 in
set_option maxRecDepth 100000 in
theorem ib_none (c : Nat) (cv : Int) (w : World) : Calls Tryd.prog 36 #[.slice none 0 c, .int .u8 cv] w fun e w' => e = .returned (.int .i64 (-1)) ∧ w' = w := by
  go_enter Tryd.func36, Tryd.ntmps36
  go_wp2
  rw [run_callFunc_extern Tryd.func49 (by kernel_rfl) (by kernel_rfl) (by kernel_rfl) (e := Extern.BytealgIndexByte.indexByte) (by kernel_rfl), Lib.run_indexByteNil w 0 c cv]
  simp only [Result.andThen]
  rw [Oper.upon_value]
  go_wp2
  go_ret
  exact ⟨rfl, rfl⟩
theorem tab (w : World) (h : ∃ cs el fr, w.heap[3]? = some (.cells cs el fr) ∧ blockOk 3 cs) : Lib.TabIs Tryd.prog w "internal/strconv.uint64pow10" .u64 Lib.pow10Tab := by
  obtain ⟨cs, el, fr, h1, h2⟩ := h
  have h3 := h2.2 rfl
  have hg : Tryd.prog.globalNamed "internal/strconv.uint64pow10" = some 3 := by kernel_rfl
  unfold Lib.TabIs World.var?
  rw [hg]
  show (match w.heap[3]? with | some (.cells cs _ _) => some cs | _ => none) = _
  rw [h1, h3]
  exact congrArg some (by kernel_rfl)
theorem atoi_ok (l : List UInt8) (w : World) (hl : l.length ≤ 18) (h : ∃ cs el fr, w.heap[1]? = some (.cells cs el fr) ∧ blockOk 1 cs) :
    Calls Tryd.prog 23 #[.string ⟨l.toArray⟩] w fun e w' => Below w.heap.size w w' ∧ ((∃ n, Lib.atoi l = some n ∧ e = .returned (.tuple #[.int .i64 n, .nilIface])) ∨ (Lib.atoi l = none ∧ ∃ ty x, e = .returned (.tuple #[.int .i64 0, .iface ty x]))) := by
  have hsz : (⟨l.toArray⟩ : ByteArray).size ≤ 18 := by simpa [ByteArray.size] using hl
  cases ha : Lib.atoi l with
  | some n =>
    refine (Tryd.strconv_Atoi ⟨l.toArray⟩ n hsz ha w).mono ?_
    rintro e w' ⟨rfl, t, rfl⟩
    refine ⟨?_, .inl ⟨n, rfl, rfl⟩⟩
    have hh : (w.drew.alloc (.cells (Lib.bytesCells w 5 t) 5)).heap = w.heap.push (.cells (Lib.bytesCells w 5 t) 5) := rfl
    obtain ⟨_, h2, h3⟩ := freeze_heap (w.drew.alloc (.cells (Lib.bytesCells w 5 t) 5)) w.heap.size (Lib.bytesCells w 5 t).size (carr := Lib.bytesCells w 5 t) (el := 5) (fr := (0, 0)) (by rw [hh]; simp)
    refine ⟨rfl, rfl, rfl, ?_, fun j hj => ?_⟩
    · show w.heap.size ≤ ((w.drew.alloc (.cells (Lib.bytesCells w 5 t) 5)).freeze ⟨w.heap.size, (Lib.bytesCells w 5 t).size, none⟩ 1).heap.size
      rw [h3, hh]; simp
    · show ((w.drew.alloc (.cells (Lib.bytesCells w 5 t) 5)).freeze ⟨w.heap.size, (Lib.bytesCells w 5 t).size, none⟩ 1).heap[j]? = _
      rw [h2 j (by omega), hh, Array.getElem?_push, if_neg (by omega)]
  | none =>
    obtain ⟨cs, el, fr, h1, h2⟩ := h
    obtain ⟨v, rfl, hv⟩ := h2.1 rfl
    refine (Tryd.strconv_Atoi_err ⟨l.toArray⟩ hsz ha v w (by simp [World.cell?, h1]) hv).mono ?_
    rintro e w' ⟨N, rfl, _, _, hB⟩
    exact ⟨hB, .inr ⟨rfl, _, _, rfl⟩⟩
theorem info5 : ∃ i0, Tryd.prog.info? 5 = some i0 ∧ i0.zero = some (.int .u8 0) ∧ i0.size = 1 ∧ i0.bytes = 1 := by
  have h : (Tryd.prog.info? 5).isSome = true := by kernel_rfl
  obtain ⟨i, hi⟩ := Option.isSome_iff_exists.1 h
  refine ⟨i, hi, ?_, ?_, ?_⟩
  · have : (Tryd.prog.info? 5).bind (·.zero) = some (.int .u8 0) := by kernel_rfl
    rw [hi] at this; exact this
  · have : (Tryd.prog.info? 5).map (·.size) = some 1 := by kernel_rfl
    rw [hi] at this; exact Option.some.inj this
  · have : (Tryd.prog.info? 5).map (·.bytes) = some 1 := by kernel_rfl
    rw [hi] at this; exact Option.some.inj this
theorem appu_ok (u : Nat) (sv : Value) (w : World) (Q : Ending → World → Prop) (hu : 100 ≤ u) (hu64 : u < 18446744073709551616) (h : ∃ cs el fr, w.heap[3]? = some (.cells cs el fr) ∧ blockOk 3 cs)
    (hQ : ∀ (W2 : World) (ty : TypeId), Below w.heap.size w W2 → (∀ j u', (Lib.byteCells (Lib.decDigits u))[j]? = some u' → W2.cell? ((⟨w.heap.size, 0, none⟩ : Addr).add j) = some u') →
        ∃ v' w', (Builtin.append_ #[25, 25] ty #[sv, .slice (some ⟨w.heap.size, 0, none⟩) (Lib.nDigits u) 24]).run Tryd.prog W2 = .ok v' w' ∧ Q (.returned v') w') :
    Calls Tryd.prog 35 #[sv, .int .u64 u, .int .i64 10] w Q :=
  AppendUint_run Tryd.laysM288 u hu hu64 sv w (tab w h) Q hQ
theorem ov_ok : OvOk Tryd.prog ov := by
  intro f φ h
  obtain ⟨i0, hi, hz, hs, hb⟩ := info5
  unfold ov at h
  split at h
  · cases h; exact ok_BIB ⟨Tryd.f36, Tryd.func36, by kernel_rfl, by kernel_rfl⟩ Tryd.bytes_IndexByte_at ib_none
  · cases h; exact ok_BI (z := 0) rfl ⟨Tryd.f31, Tryd.func31, by kernel_rfl, by kernel_rfl⟩ Tryd.bytes_Index_at Tryd.bytes_Index_longer
  · cases h; exact ok_Atoi (b := 1) (by decide) ⟨Tryd.f23, Tryd.func23, by kernel_rfl, by kernel_rfl⟩ atoi_ok
  · cases h; exact ok_AppU (b := 3) (by decide) ⟨Tryd.f35, Tryd.func35, by kernel_rfl, by kernel_rfl⟩ Tryd.underlying25 hi hz hs hb appu_ok
  · cases h
theorem mx : Tryd.prog.follows .mixedOrders = true := by kernel_rfl
end Go.Proofs.YtmajbgmjlggcbaaDoor.Tab
