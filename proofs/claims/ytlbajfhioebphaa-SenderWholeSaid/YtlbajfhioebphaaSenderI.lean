/- Sendings: wakes; a whole window. -/
import Derived.Test.YtlbajfhioebphaaSenderH
namespace Go.Proofs.Ytlbajfhioebphaa.Tab
set_option linter.all false
open Go Go.RowKit Go.Proofs.Ytlbajfhioebphaa.Ev
theorem T_wakes : TS 12 [] [] = some (.bool true, []) := by
  have c1 := T_New 1 [7]
  rw [if_pos (by decide), show okE (RS 1 (([7] : List UInt8).length : Int) false 0 0 0) = 0 from by decide] at c1
  have c1' : TS 17 [.int .i64 1, .sl .no 1 1 [.int .u8 7]] [] = some (.tup [.agg [.int .i64 1, .sl .no 1 1 [.int .u8 7], .bool false, .int .i64 0, .int .i64 0, .int .i64 0, .bool false], .int .i64 0], []) := c1
  have c2 := T_Tick ⟨1, [7], false, 0, 0, 0, false⟩ (by decide)
  rw [show (Snd.tick ⟨1, [7], false, 0, 0, 0, false⟩) = ⟨1, [7], false, 0, 0, 3, false⟩ by decide +kernel, show (Snd.out ⟨1, [7], false, 0, 0, 0, false⟩) = [⟨1, 1, 1, 0, []⟩] by rfl] at c2
  have c2' : TS 11 [.agg [.int .i64 1, .sl .no 1 1 [.int .u8 7], .bool false, .int .i64 0, .int .i64 0, .int .i64 0, .bool false]] [] = some (.tup [.agg [.int .i64 1, .sl .no 1 1 [.int .u8 7], .bool false, .int .i64 0, .int .i64 0, .int .i64 3, .bool false], .sl .no 5 1 [.int .i64 1, .int .i64 1, .int .i64 1, .int .i64 0, .sl .nil 0 0 []], .int .i64 0], []) := c2
  have c3 := T_Pieces ⟨1, [7], false, 0, 0, 0, false⟩ (by decide)
  have c3' : TS 19 [.agg [.int .i64 1, .sl .no 1 1 [.int .u8 7], .bool false, .int .i64 0, .int .i64 0, .int .i64 0, .bool false]] [] = some (.int .i64 1, []) := c3
  refine evT_of (k := 0) (F := l12) (H' := [.cells [.int .i64 1, .sl .no 1 1 [.int .u8 7], .bool false, .int .i64 0, .int .i64 0, .int .i64 0, .bool false], .cells [.int .i64 1, .sl .no 1 1 [.int .u8 7], .bool false, .int .i64 0, .int .i64 0, .int .i64 3, .bool false]]) (e := [.bool true]) (l := [.bool true]) rfl rfl rfl ?_ rfl rfl
  show evL TS 0 q12 _ _ = _
  simp only [q12, evL_op, evL_sel, evL_nx, evL_exit, evL_ret, evL_join, evL_block, evL_cond, evK_some, evJ_nx, evJ_rt, evJ_ex, evB_nx, evB_rt, evB_ex, evC2_bool, evS_and, evS_or, evS_tf, evS_ft, ev_t, ev_s, ev_c, evalOp, bin_add, bin_sub, bin_mul, bin_eql, bin_neq, bin_lss, bin_leq, bin_gtr, bin_geq, sbin_eql, sbin_neq, b8, List.map_cons, List.map_nil, PV.rens, PV.ren, if_true, if_false, Bool.false_eq_true, reduceIte, Nat.reduceAdd, Nat.reduceSub, Nat.reduceMul, Nat.reduceEqDiff, Nat.reduceLeDiff, Int.reduceLE, Int.reduceLT, Int.reduceEq, Int.reduceToNat, Int.reduceAdd, Int.reduceSub, Int.reduceNeg, decide_true, decide_false, Bool.not_true, Bool.not_false, Bool.true_and, Bool.false_and, Bool.and_true, Bool.and_false, Bool.or_true, Bool.true_or, Bool.or_false, Bool.false_or, and_self, and_true, true_and, Nat.le_refl, Nat.zero_add, Nat.mul_one, Nat.one_ne_zero, Nat.zero_le, highP, lowP, Option.map_some, Option.map_none, List.drop_zero, List.take_zero, List.length_cons, List.length_nil, List.nil_append, List.append_nil, List.cons_append, fillP, PV.cells?, PV.one, PV.cleans, PV.clean, PV.of?, List.all_cons, List.all_nil, List.take_succ_cons, List.drop_succ_cons, Bool.and_self, Int.natCast_nonneg, Int.toNat_natCast, Int.toNat_zero, Tk.ren, PV.of?, c1', c2', c3', show ((1 : Nat) : Int) = 1 from rfl, List.getElem?_cons_zero, List.getElem?_cons_succ, List.set_cons_zero, List.set_cons_succ]
/-- Frame i of what goes. -/
theorem get_chunk (s : Snd) (p : Int) (m j : Nat) (hj : j < m) : (((chunks s p m).flatMap Frm.cells).drop (j * 5)).take 5 = (chunkF s (p + j)).cells := by
  induction m with
  | zero => omega
  | succ m ih =>
    have hl : ((chunks s p m).flatMap Frm.cells).length = m * 5 := by
      have : ∀ L : List Frm, (L.flatMap Frm.cells).length = L.length * 5 := fun L => by
        induction L with
        | nil => rfl
        | cons f r ih => rw [List.flatMap_cons, List.length_append, ih, List.length_cons]; show 5 + _ = _; omega
      rw [this, chunks_len]
    rw [← out_snoc]
    by_cases h : j < m
    · rw [List.drop_append_of_le_length (by omega), List.take_append_of_le_length (by rw [List.length_drop]; omega)]
      exact ih h
    · have e : j = m := by omega
      subst e
      rw [List.drop_append, hl, Nat.sub_self, List.drop_of_length_le (by omega), List.nil_append]
      rfl
theorem cntK {s : Snd} (h : s.ok) : 1 ≤ s.cnt ∧ s.cnt ≤ 200 ∧ s.top ≤ s.cnt := by
  have hL : (1 : Int) ≤ s.l.length ∧ (s.l.length : Int) ≤ 5000 := h.2.1
  refine ⟨?_, ?_, ?_⟩
  · unfold Snd.cnt cnt; omega
  · unfold Snd.cnt cnt; omega
  · unfold Snd.top mn; split <;> omega
end Go.Proofs.Ytlbajfhioebphaa.Tab
