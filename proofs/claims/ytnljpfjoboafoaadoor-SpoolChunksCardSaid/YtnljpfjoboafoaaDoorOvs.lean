/- The library's functions that this chapter calls. -/
import Derived.Test.YtnljpfjoboafoaaDoorEvIns
import Derived.Test.YtnljpfjoboafoaaDoorEvCl
import Derived.Test.YtnljpfjoboafoaaDoorShelf
import Derived.Test.YtnljpfjoboafoaaDoorTree
import Derived.Shelf.Bytes.SlIndexAt
import Derived.Lib.BytesEntry
namespace Go.Proofs.YtnljpfjoboafoaaDoor.Tab
set_option linter.all false
open Go Go.RowKit Go.Proofs.YtnljpfjoboafoaaDoor.Ev
/-- Clones: of paths (their right told), of numbers (as a row). -/
def cpP (n : Nat) (cs : List PV) : Option (PV × Hp) := if cs.length = n * 3 ∧ n ≤ 1000000 then some (.sl (.tok 0) 3 n cs, [.tok]) else none
def cpI (n : Nat) (cs : List PV) : Option (PV × Hp) := if cs.length = n ∧ cs.all PV.one = true ∧ cs.all flat = true ∧ n ≤ 1000000 then some (.row 0 0 1 n, [.cells cs]) else none
def ov : Ov
  | 69 => some ovBIB
  | 42 => some ovClone
  | 73 => some ovSplit
  | 85 => some ovBI
  | 76 => some ovIB
  | 96 => some ovI1
  | 52 => some ovIns
  | 41 => some (ovCl 3 cpP)
  | 43 => some (ovCl 1 cpI)
  | _ => none
set_option maxHeartbeats 8000000 in
set_option maxRecDepth 100000 in
theorem ib_none (c : Nat) (cv : Int) (w : World) : Calls Tryd.prog 69 #[.slice none 0 c, .int .u8 cv] w fun e w' => e = .returned (.int .i64 (-1)) ∧ w' = w := by
  go_enter Tryd.func69, Tryd.ntmps69
  go_wp2
  rw [run_callFunc_extern Tryd.func80 (by kernel_rfl) (by kernel_rfl) (by kernel_rfl) (e := Extern.BytealgIndexByte.indexByte) (by kernel_rfl), Lib.run_indexByteNil w 0 c cv]
  simp only [Result.andThen]
  rw [Oper.upon_value]
  go_wp2
  go_ret
  exact ⟨rfl, rfl⟩
theorem mx : Tryd.prog.follows .mixedOrders = true := by kernel_rfl
def ltP : Nat → Option LF := fun f => if f = 41 then some l41 else none
def ltI : Nat → Option LF := fun f => if f = 43 then some l43 else none
theorem ltP_ok : TreeOk Tryd.prog ltP := fun f F h => by
  unfold ltP at h
  split at h
  · rename_i hf; subst hf; exact lt_ok _ _ h
  · cases h
theorem ltI_ok : TreeOk Tryd.prog ltI := fun f F h => by
  unfold ltI at h
  split at h
  · rename_i hf; subst hf; exact lt_ok _ _ h
  · cases h
theorem cpP_pos (n : Nat) (cs : List PV) (r : PV × Hp) (hn : 0 < n) (h : cpP n cs = some r) : evT ltP (fun _ => none) 41 [.sl .no 3 n cs] [] = some r := by
  unfold cpP at h
  split at h
  · rename_i hh
    cases h
    have hr : n * 40 ≤ roomMax := by unfold roomMax; omega
    refine evT_of (k := 0) (F := l41) (H' := [.dead, .tok]) (e := [.sl (.tok 1) 3 n cs]) (l := [.sl (.tok 1) 3 n cs]) rfl rfl rfl ?_ rfl rfl
    show evL _ 0 q41 _ _ = _
    simp only [q41, evL_op, evL_sel, evL_nx, evL_exit, evL_ret, evL_join, evL_block, evL_cond, evK_some, evJ_nx, evJ_rt, evJ_ex, evB_nx, evB_rt, evB_ex, evC2_bool, evS_and, evS_or, evS_tf, evS_ft, ev_t, ev_s, ev_c, evalOp, bin_add, bin_sub, bin_mul, bin_eql, bin_neq, bin_lss, bin_leq, bin_gtr, bin_geq, sbin_eql, sbin_neq, b8, List.map_cons, List.map_nil, PV.rens, PV.ren, if_true, if_false, Bool.false_eq_true, reduceIte, Nat.reduceAdd, Nat.reduceSub, Nat.reduceMul, Nat.reduceEqDiff, Nat.reduceLeDiff, Int.reduceLE, Int.reduceLT, Int.reduceEq, Int.reduceToNat, Int.reduceAdd, Int.reduceSub, Int.reduceNeg, decide_true, decide_false, Bool.not_true, Bool.not_false, Bool.true_and, Bool.false_and, Bool.and_true, Bool.and_false, Bool.or_true, Bool.true_or, Bool.or_false, Bool.false_or, and_self, and_true, true_and, Nat.le_refl, Nat.zero_add, Nat.mul_one, Nat.one_ne_zero, Nat.zero_le, highP, lowP, Option.map_some, Option.map_none, List.drop_zero, List.take_zero, List.length_cons, List.length_nil, List.nil_append, List.append_nil, List.cons_append, fillP, PV.cells?, PV.one, PV.cleans, PV.clean, PV.of?, List.all_cons, List.all_nil, List.take_succ_cons, List.drop_succ_cons, Bool.and_self, Int.natCast_nonneg, Int.toNat_natCast, Int.toNat_zero, PV.of?, Tk.ren, tailP, evL_loop, or_true, true_or, Nat.zero_lt_one, Nat.sub_zero, List.getElem?_cons_zero, List.getElem?_cons_succ, List.set_cons_zero, List.set_cons_succ, List.take_length, hn, reduceCtorEq, Bool.false_xor, Bool.xor_false, hr]
  · cases h
theorem cpI_pos (n : Nat) (cs : List PV) (r : PV × Hp) (hn : 0 < n) (h : cpI n cs = some r) : evT ltI (fun _ => none) 43 [.sl .no 1 n cs] [] = some r := by
  unfold cpI at h
  split at h
  · rename_i hh
    cases h
    have hr : n * 8 ≤ roomMax := by unfold roomMax; omega
    have hn0 : ¬ n = 0 := by omega
    refine evT_of (k := 0) (F := l43) (H' := [.dead, .cells cs]) (e := [.row 1 0 1 n]) (l := [.row 1 0 1 n]) rfl rfl rfl ?_ rfl ?_
    · show evL _ 0 q43 _ _ = _
      simp only [q43, evL_op, evL_sel, evL_nx, evL_exit, evL_ret, evL_join, evL_block, evL_cond, evK_some, evJ_nx, evJ_rt, evJ_ex, evB_nx, evB_rt, evB_ex, evC2_bool, evS_and, evS_or, evS_tf, evS_ft, ev_t, ev_s, ev_c, evalOp, bin_add, bin_sub, bin_mul, bin_eql, bin_neq, bin_lss, bin_leq, bin_gtr, bin_geq, sbin_eql, sbin_neq, b8, List.map_cons, List.map_nil, PV.rens, PV.ren, if_true, if_false, Bool.false_eq_true, reduceIte, Nat.reduceAdd, Nat.reduceSub, Nat.reduceMul, Nat.reduceEqDiff, Nat.reduceLeDiff, Int.reduceLE, Int.reduceLT, Int.reduceEq, Int.reduceToNat, Int.reduceAdd, Int.reduceSub, Int.reduceNeg, decide_true, decide_false, Bool.not_true, Bool.not_false, Bool.true_and, Bool.false_and, Bool.and_true, Bool.and_false, Bool.or_true, Bool.true_or, Bool.or_false, Bool.false_or, and_self, and_true, true_and, Nat.le_refl, Nat.zero_add, Nat.mul_one, Nat.one_ne_zero, Nat.zero_le, highP, lowP, Option.map_some, Option.map_none, List.drop_zero, List.take_zero, List.length_cons, List.length_nil, List.nil_append, List.append_nil, List.cons_append, fillP, PV.cells?, PV.one, PV.cleans, PV.clean, PV.of?, List.all_cons, List.all_nil, List.take_succ_cons, List.drop_succ_cons, Bool.and_self, Int.natCast_nonneg, Int.toNat_natCast, Int.toNat_zero, PV.of?, Tk.ren, tailP, evL_loop, or_true, true_or, Nat.zero_lt_one, Nat.sub_zero, List.getElem?_cons_zero, List.getElem?_cons_succ, List.set_cons_zero, List.set_cons_succ, List.take_length, tailR, hn, hn0, hh, reduceCtorEq, Bool.false_xor, Bool.xor_false, hr]
    · have ht := toks_flat hh.2.2.1
      have hf := fun ρ => rens_flat ρ hh.2.2.1
      show evEnd false 0 (.row 1 0 1 n) [.dead, .cells cs] = _
      simp [evEnd, compact, used, reach, obT, PV.toksL, PV.toks, Ob.toks, ht, kp, isTok, isCells, dedup, renOf, keepOb, hf, PV.rens, PV.ren, one?, List.idxOf?, List.findIdx?, List.findIdx?.go]
  · cases h
theorem ov_ok : OvOk Tryd.prog ov := by
  intro f φ h
  unfold ov at h
  split at h
  · cases h; exact ok_BIB ⟨Tryd.f69, Tryd.func69, by kernel_rfl, by kernel_rfl⟩ Tryd.bytes_IndexByte_at ib_none
  · cases h; exact ok_Clone ⟨Tryd.f42, Tryd.func42, by kernel_rfl, by kernel_rfl⟩ Tryd.bytes_Clone_at Tryd.bytes_Clone_nil
  · cases h; exact ok_Split (z := 0) rfl ⟨Tryd.f73, Tryd.func73, by kernel_rfl, by kernel_rfl⟩ Tryd.strings_Split
  · cases h; exact ok_BI (z := 0) rfl ⟨Tryd.f85, Tryd.func85, by kernel_rfl, by kernel_rfl⟩ Tryd.bytes_Index_at Tryd.bytes_Index_longer
  · cases h; exact ok_IB ⟨Tryd.f76, Tryd.func76, by kernel_rfl, by kernel_rfl⟩ Tryd.strings_IndexByte
  · cases h; exact ok_I1 ⟨Tryd.f96, Tryd.func96, by kernel_rfl, by kernel_rfl⟩ Tryd.stringslite_Index_one
  · cases h; exact ok_Ins rfl ⟨Tryd.f52, Tryd.func52, by kernel_rfl, by kernel_rfl⟩ ⟨Any2.slices_Insert_int_shift Tryd.insI, Any2.slices_Insert_int_end_room Tryd.insI, Any2.slices_Insert_int_end_grow Tryd.insI, Any2.slices_Insert_int_grow Tryd.insI⟩
  · cases h; exact ok_cl mx ltP_ok ⟨Tryd.f41, Tryd.func41, by kernel_rfl, by kernel_rfl⟩ (fun n c w => AnyE.slices_Clone_nil Tryd.clP n c w) (evT_iff.2 ⟨3, by kernel_rfl⟩) cpP_pos
  · cases h; exact ok_cl mx ltI_ok ⟨Tryd.f43, Tryd.func43, by kernel_rfl, by kernel_rfl⟩ (fun n c w => AnyE.slices_Clone_nil Tryd.clI n c w) (evT_iff.2 ⟨3, by kernel_rfl⟩) cpI_pos
  · cases h
end Go.Proofs.YtnljpfjoboafoaaDoor.Tab
