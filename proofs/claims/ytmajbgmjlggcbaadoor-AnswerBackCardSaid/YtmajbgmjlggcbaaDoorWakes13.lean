/- The waking test of chapter 13. -/
import Derived.Test.YtmajbgmjlggcbaaDoorRead2
namespace Go.Proofs.YtmajbgmjlggcbaaDoor.Tab
set_option linter.all false
open Go Go.RowKit Go.Proofs.YtmajbgmjlggcbaaDoor.Ev
theorem ok250 : replyOk 250 [[111, 107]] = true := by decide +kernel
theorem no270 : replyOk 270 [[97]] = false := by decide +kernel
def w8 : List UInt8 := [50, 53, 48, 32, 111, 107, 13, 10]
theorem w8_def : w8 = [50, 53, 48, 32, 111, 107, 13, 10] := rfl
theorem rb250 : rb 250 [[111, 107]] = w8 := by
  unfold rb
  rw [show (250 : Int).toNat = 250 from rfl, dg3 (by decide) (by decide)]
  rfl
theorem T_wakes : T 19 [] [] = some (.bool true, []) := by
  have c10 := Bytes_yes 250 [[111, 107]] ok250
  have hr := readGo_yes ok250 []
  rw [List.append_nil, rb250] at hr
  have c11 := Read_some w8 (by decide) hr
  rw [rb250] at c10
  have c14 := T14 270 [[97]] (by decide)
  rw [no270] at c14
  have c17 := T_reply 250 250 [[111, 107]] [[111, 107]] (by decide)
  have c18 := T18 250
  have c18' := T18 503
  have k10 : T 10 [.agg [.int .i64 250, .sl .no 1 1 [.str [111, 107]]]] [] = some (.tup [.sl (.tok 0) 1 8 (w8.map b8), .int .i64 0], [.tok]) := c10
  have k11 : T 11 [.sl .no 1 8 (w8.map b8)] [] = some (.tup [.agg [.int .i64 250, .sl (.tok 0) 1 1 [.str [111, 107]]], .int .i64 8, .int .i64 0], [.tok]) := c11
  have k14 : T 14 [.agg [.int .i64 270, .sl .no 1 1 [.str [97]]]] [] = some (.int .i64 5, []) := c14
  have k17 : T 17 [.agg [.int .i64 250, .sl .no 1 1 [.str [111, 107]]], .agg [.int .i64 250, .sl .no 1 1 [.str [111, 107]]]] [] = some (.bool true, []) := by
    refine c17.trans ?_
    rw [decide_eq_true rfl, decide_eq_true rfl]; rfl
  have k18 : T 18 [.int .i64 250] [] = some (.bool true, []) := c18
  have k18' : T 18 [.int .i64 503] [] = some (.bool false, []) := c18'
  have e1 := bytes8_map w8
  have g8 : ¬ 8 = 0 := by decide
  generalize hM : w8.map b8 = M at *
  have fin : ∀ {H : Hp}, evL T 0 q19 [] [] = some (.rt, [.bool true], H) → T 19 [] [] = some (.bool true, []) := fun {H} h =>
    evT_of (k := 0) (F := l19) (H' := H) (e := [.bool true]) (l := [.bool true]) rfl rfl rfl h rfl rfl
  apply fin
  simp only [q19, ← w8_def, evL_op, evL_sel, evL_nx, evL_exit, evL_ret, evL_join, evL_block, evL_cond, evK_some, evJ_nx, evJ_rt, evJ_ex, evB_nx, evB_rt, evB_ex, evC2_bool, evS_and, evS_or, evS_tf, evS_ft, ev_t, ev_s, ev_c, evalOp, bin_add, bin_sub, bin_mul, bin_eql, bin_neq, bin_lss, bin_leq, bin_gtr, bin_geq, sbin_eql, sbin_neq, b8, List.map_cons, List.map_nil, PV.rens, PV.ren, if_true, if_false, Bool.false_eq_true, reduceIte, Nat.reduceAdd, Nat.reduceSub, Nat.reduceMul, Nat.reduceEqDiff, Nat.reduceLeDiff, Int.reduceLE, Int.reduceLT, Int.reduceEq, Int.reduceToNat, Int.reduceAdd, Int.reduceSub, Int.reduceNeg, decide_true, decide_false, Bool.not_true, Bool.not_false, Bool.true_and, Bool.false_and, Bool.and_true, Bool.and_false, Bool.or_true, Bool.true_or, Bool.or_false, Bool.false_or, and_self, and_true, true_and, Nat.le_refl, Nat.zero_add, Nat.mul_one, Nat.one_ne_zero, Nat.zero_le, highP, lowP, Option.map_some, Option.map_none, List.drop_zero, List.take_zero, List.length_cons, List.length_nil, List.nil_append, List.append_nil, List.cons_append, fillP, PV.cells?, PV.one, PV.cleans, PV.clean, PV.of?, List.all_cons, List.all_nil, List.take_succ_cons, List.drop_succ_cons, Bool.and_self, Int.natCast_nonneg, Int.toNat_natCast, Int.toNat_zero, PV.of?, Tk.ren, tailP, evL_loop, or_true, true_or, Nat.zero_lt_one, Nat.sub_zero, List.getElem?_cons_zero, List.getElem?_cons_succ, List.set_cons_zero, List.set_cons_succ, List.take_length, PV.rens, PV.ren, PV.cells?, k10, k11, k14, k17, k18, k18', e1, g8, beq_self_eq_true, eq_self, o0, o1] <;> rfl
theorem reply_nil : T 17 [.agg [.int .i64 0, .sl .nil 0 0 []], .agg [.int .i64 0, .sl .nil 0 0 []]] [] = some (.bool true, []) :=
  evT_of (k := 1) (F := l17) (H' := []) (e := [.bool true]) (l := [.bool true]) rfl rfl rfl rfl rfl rfl
end Go.Proofs.YtmajbgmjlggcbaaDoor.Tab
