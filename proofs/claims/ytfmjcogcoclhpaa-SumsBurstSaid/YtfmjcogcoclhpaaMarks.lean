/- A literal of bytes that is read: what the row behind '[]byte("..")' of a constant reads as. -/
import Derived.Test.YtfmjcogcoclhpaaWWords
import Derived.Lib.SlBytesConst
namespace Go.Proofs.Ytfmjcogcoclhpaa.Marks
open Go.RowKit Go.Proofs.YtfmjcogcoclhpaaW.PrintWords

theorem C_marked (w : World) (xs : List Int) (C : Array Value) (hC : C.toList = nums .u8 xs) (e : TypeId) (fr : Nat × Nat) (hn : xs.length ≤ 9223372036854775807) :
    Kd.C (Kd.int .u8) (w.alloc (.cells C e fr)) (some ⟨w.heap.size, 0, none⟩) xs.length xs := by
  refine Kd.C_of_reads (d := 0) ⟨rfl, hn, fun _ => ⟨_, rfl, fun j hj => ?_⟩⟩
  rw [add_plain, World.cell?_alloc_mark, ← Array.getElem?_toList, hC]
  simp [nums, hj]
theorem below_marked {b : Nat} {w W : World} (h : Below b w W) (hb : b ≤ W.heap.size) (o : Obj) : Below b w (W.alloc o) := h.alloc hb o

end Go.Proofs.Ytfmjcogcoclhpaa.Marks
