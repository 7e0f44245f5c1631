/- '[]byte("..")' of a constant as an event: its marked row is told as a row that is only read (V). -/
import Derived.Test.YtlbajfhioebphaaWMore
import Derived.Test.YtlbajfhioebphaaWShare
import Derived.Lib.SlBytesConst
namespace Go.Proofs.YtlbajfhioebphaaW.PrintWords
open Go.RowKit
namespace Kd
theorem V_lit {P : Program} {ops : Array Oper} {rest : List Oper} {Q : Exit → Act → World → Prop} {o : Oper} {a : Act} {w0 W : World} (base e : Nat) (hgd : o.guard = none) {N : Tmp} (_hd : o.dst = some N) (xs : List Int) (C : Array Value) {ok : Nat → Prop} (hC : C.toList = nums .u8 xs)
    (t : TypeId) (x : Operand) (ho : o.op = .convert t t x) (hx : a.eval x = .slice (some ⟨W.heap.size, 0, none⟩) xs.length xs.length) (ht : P.underlying t = some (.slice e)) (he : P.underlying e = some (.int .u8))
    (HB : Below base w0 W) (hbase : base ≤ W.heap.size) (hm : xs.length ≤ 9223372036854775807) (hok : ok W.heap.size)
    (h : ∀ v1 w1, V (Kd.int .u8) e w1 base ok v1 xs → Below base w0 w1 → wpList P ops Q rest (a.put o.dst v1) w1) : wpList P ops Q (o :: rest) a (W.alloc (.cells C e)) := by
  have hrun : (execOp a.eval o).run P (W.alloc (.cells C e)) = .ok (.value (.slice (some ⟨W.heap.size, 0, none⟩) xs.length xs.length)) (W.alloc (.cells C e (C.size, C.size + 1))) := by
    have kc_ := Lib.run_convert_bytes_const (P := P) W t e C xs.length xs.length ht he
    cases o with
    | mk dst op type pos after guard =>
      simp only at ho
      subst ho
      unfold execOp
      simp [hx, kc_]
  refine event_run hgd hrun (h _ _ ⟨some ⟨W.heap.size, 0, none⟩, xs.length, rfl, Nat.le_refl _, fun W' hW => ?_⟩ (HB.alloc hbase _))
  have hb := hW W.heap.size hok (by show _ < (W.heap.push _).size; rw [Array.size_push]; exact Nat.lt_succ_self _)
  refine C_of_reads (d := 0) ⟨rfl, hm, fun _ => ⟨_, rfl, fun j hj => ?_⟩⟩
  have h2 : W'.cell? (Addr.add ⟨W.heap.size, 0, none⟩ j) = (W.alloc (.cells C e (C.size, C.size + 1))).cell? (Addr.add ⟨W.heap.size, 0, none⟩ j) := by
    rw [add_plain]
    unfold World.cell?
    rw [hb]
  rw [h2, add_plain, World.cell?_alloc_mark, ← Array.getElem?_toList, hC]
  simp [nums, hj]
end Kd
end Go.Proofs.YtlbajfhioebphaaW.PrintWords
