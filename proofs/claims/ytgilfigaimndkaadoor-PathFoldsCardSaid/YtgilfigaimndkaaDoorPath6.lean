/- Chapter 11: the document's answer reads a text. -/
import Derived.Test.YtgilfigaimndkaaDoorPurePathSigns
namespace Go.Proofs.YtgilfigaimndkaaDoor.Tab
set_option linter.all false
open Go Go.RowKit Go.Proofs.YtgilfigaimndkaaDoor.Ev
theorem T29 (n : Bool) (l d : List UInt8) (ok : Bool) : T 29 [pathV n l d, .bool ok] [] = some (.tup [if ok = true then pathV n l d else pathV false [] [], .bool ok], []) := by
  cases ok with
  | true =>
    refine evT_of (k := 0) (F := l29) (H' := [.cells [.bool n, .str l, .str d], .cells [.bool n, .str l, .str d]]) (e := [.ptr 1 0, .bool true]) (l := [pathV n l d, .bool true]) rfl rfl rfl ?_ rfl rfl
    show evL T 0 q29 _ _ = _
    simp only [q29, evL_op, evL_sel, evL_nx, evL_exit, evL_ret, evL_join, evL_block, evL_cond, evK_some, evJ_nx, evJ_rt, evJ_ex, evB_nx, evB_rt, evB_ex, evC2_bool, evS_and, evS_or, evS_tf, evS_ft, ev_t, ev_s, ev_c, evalOp, bin_add, bin_sub, bin_mul, bin_eql, bin_neq, bin_lss, bin_leq, bin_gtr, bin_geq, sbin_eql, sbin_neq, b8, List.map_cons, List.map_nil, PV.rens, PV.ren, if_true, if_false, Bool.false_eq_true, reduceIte, Nat.reduceAdd, Nat.reduceSub, Nat.reduceMul, Nat.reduceEqDiff, Nat.reduceLeDiff, Int.reduceLE, Int.reduceLT, Int.reduceEq, Int.reduceToNat, Int.reduceAdd, Int.reduceSub, Int.reduceNeg, decide_true, decide_false, Bool.not_true, Bool.not_false, Bool.true_and, Bool.false_and, Bool.and_true, Bool.and_false, Bool.or_true, Bool.true_or, Bool.or_false, Bool.false_or, and_self, and_true, true_and, Nat.le_refl, Nat.zero_add, Nat.mul_one, Nat.one_ne_zero, Nat.zero_le, highP, lowP, Option.map_some, Option.map_none, List.drop_zero, List.take_zero, List.length_cons, List.length_nil, List.nil_append, List.append_nil, List.cons_append, fillP, PV.cells?, PV.one, PV.cleans, PV.clean, PV.of?, List.all_cons, List.all_nil, List.take_succ_cons, List.drop_succ_cons, Bool.and_self, Int.natCast_nonneg, Int.toNat_natCast, Int.toNat_zero, List.getElem?_cons_zero, List.getElem?_cons_succ, List.set_cons_zero, List.set_cons_succ]
  | false =>
    refine evT_of (k := 0) (F := l29) (H' := [.cells [.bool n, .str l, .str d], .cells [.bool false, .str [], .str []]]) (e := [.ptr 1 0, .bool false]) (l := [pathV false [] [], .bool false]) rfl rfl rfl ?_ rfl rfl
    show evL T 0 q29 _ _ = _
    simp only [q29, evL_op, evL_sel, evL_nx, evL_exit, evL_ret, evL_join, evL_block, evL_cond, evK_some, evJ_nx, evJ_rt, evJ_ex, evB_nx, evB_rt, evB_ex, evC2_bool, evS_and, evS_or, evS_tf, evS_ft, ev_t, ev_s, ev_c, evalOp, bin_add, bin_sub, bin_mul, bin_eql, bin_neq, bin_lss, bin_leq, bin_gtr, bin_geq, sbin_eql, sbin_neq, b8, List.map_cons, List.map_nil, PV.rens, PV.ren, if_true, if_false, Bool.false_eq_true, reduceIte, Nat.reduceAdd, Nat.reduceSub, Nat.reduceMul, Nat.reduceEqDiff, Nat.reduceLeDiff, Int.reduceLE, Int.reduceLT, Int.reduceEq, Int.reduceToNat, Int.reduceAdd, Int.reduceSub, Int.reduceNeg, decide_true, decide_false, Bool.not_true, Bool.not_false, Bool.true_and, Bool.false_and, Bool.and_true, Bool.and_false, Bool.or_true, Bool.true_or, Bool.or_false, Bool.false_or, and_self, and_true, true_and, Nat.le_refl, Nat.zero_add, Nat.mul_one, Nat.one_ne_zero, Nat.zero_le, highP, lowP, Option.map_some, Option.map_none, List.drop_zero, List.take_zero, List.length_cons, List.length_nil, List.nil_append, List.append_nil, List.cons_append, fillP, PV.cells?, PV.one, PV.cleans, PV.clean, PV.of?, List.all_cons, List.all_nil, List.take_succ_cons, List.drop_succ_cons, Bool.and_self, Int.natCast_nonneg, Int.toNat_natCast, Int.toNat_zero, List.getElem?_cons_zero, List.getElem?_cons_succ, List.set_cons_zero, List.set_cons_succ]
abbrev H0 : Hp := [.cells [.bool false, .str [], .str []]]
theorem head10 (s : List UInt8) (i : Int) : headS 1 [.str s, .ptr 0 0, .int .i64 i] H0 = ([.str s, .ptr 0 0, .int .i64 i], H0) := rfl
/-- Not yet at the sign. -/
theorem body10 (k0 : Nat) (s : List UInt8) (hs : s.length ≤ 9000000000000000000) (i : Nat) (c : UInt8) (hc : s[i]? = some c) (h : c ≠ 64) :
    evL T k0 q10_1 [.str s, .ptr 0 0, .int .i64 i] H0 = some (.nx, [.str s, .ptr 0 0, .int .i64 (i + 1 : Nat)], H0) := by
  have hi : i < s.length := (List.getElem?_eq_some_iff.1 hc).1
  have h1 : (i : Int) < s.length := by omega
  have hw : IntKind.i64.wrap ((i : Int) + 1) = ((i + 1 : Nat) : Int) := by rw [IntWalk.i64_in _ (by omega)]; rfl
  have e : decide ((c.toNat : Int) = 64) = false := by rw [show decide ((c.toNat : Int) = 64) = (c == 64) from byte_eqn c 64 (by omega)]; simpa using h
  simp only [q10_1, q10_0, evL_op, evL_sel, evL_nx, evL_exit, evL_ret, evL_join, evL_block, evL_cond, evK_some, evJ_nx, evJ_rt, evJ_ex, evB_nx, evB_rt, evB_ex, evC2_bool, evS_and, evS_or, evS_tf, evS_ft, ev_t, ev_s, ev_c, evalOp, bin_add, bin_sub, bin_mul, bin_eql, bin_neq, bin_lss, bin_leq, bin_gtr, bin_geq, sbin_eql, sbin_neq, b8, List.map_cons, List.map_nil, PV.rens, PV.ren, if_true, if_false, Bool.false_eq_true, reduceIte, h1, decide_true, Int.natCast_nonneg, Int.toNat_natCast, hc, e, hw]
theorem body10_at (k0 : Nat) (x y : List UInt8) (hs : x.length + y.length ≤ 4000000000) :
    evL T k0 q10_1 [.str (x ++ 64 :: y), .ptr 0 0, .int .i64 x.length] H0 = some (.rt, [.ptr 0 0, .bool (pathOk false x y)], [.cells [.bool false, .str (if pathOk false x y = true then x else []), .str (if pathOk false x y = true then y else [])], .cells [.bool false, .str x, .str y]]) := by
  have hc : (x ++ 64 :: y)[x.length]? = some 64 := by simp
  have hl : (x ++ 64 :: y).length = x.length + (y.length + 1) := by simp
  have h1 : (x.length : Int) < ((x.length + (y.length + 1) : Nat) : Int) := by omega
  have h1' : (x.length : Int) ≤ ((x.length + (y.length + 1) : Nat) : Int) := by omega
  have hw : IntKind.i64.wrap ((x.length : Int) + 1) = ((x.length + 1 : Nat) : Int) := by rw [IntWalk.i64_in _ (by omega)]; rfl
  have e : decide (((64 : UInt8).toNat : Int) = 64) = true := rfl
  have t1 : (x ++ 64 :: y).take x.length = x := by simp
  have t2 : ((x ++ 64 :: y).take (x.length + (y.length + 1))).drop (x.length + 1) = y := by rw [List.take_of_length_le (by simp)]; simp
  have t3 : x.length + 1 ≤ x.length + (y.length + 1) := by omega
  have a1 := T12 false x y (by omega) (by omega)
  have a2 := T29 false x y (pathOk false x y)
  cases hok : pathOk false x y with
  | true =>
    rw [hok] at a1 a2
    simp only [if_true] at a2
    simp only [q10_1, q10_0, evL_op, evL_sel, evL_nx, evL_exit, evL_ret, evL_join, evL_block, evL_cond, evK_some, evJ_nx, evJ_rt, evJ_ex, evB_nx, evB_rt, evB_ex, evC2_bool, evS_and, evS_or, evS_tf, evS_ft, ev_t, ev_s, ev_c, evalOp, bin_add, bin_sub, bin_mul, bin_eql, bin_neq, bin_lss, bin_leq, bin_gtr, bin_geq, sbin_eql, sbin_neq, b8, List.map_cons, List.map_nil, PV.rens, PV.ren, if_true, if_false, Bool.false_eq_true, reduceIte, Nat.reduceAdd, Nat.reduceSub, Nat.reduceMul, Nat.reduceEqDiff, Nat.reduceLeDiff, Int.reduceLE, Int.reduceLT, Int.reduceEq, Int.reduceToNat, Int.reduceAdd, Int.reduceSub, Int.reduceNeg, decide_true, decide_false, Bool.not_true, Bool.not_false, Bool.true_and, Bool.false_and, Bool.and_true, Bool.and_false, Bool.or_true, Bool.true_or, Bool.or_false, Bool.false_or, and_self, and_true, true_and, Nat.le_refl, Nat.zero_add, Nat.mul_one, Nat.one_ne_zero, Nat.zero_le, highP, lowP, Option.map_some, Option.map_none, List.drop_zero, List.take_zero, List.length_cons, List.length_nil, List.nil_append, List.append_nil, List.cons_append, fillP, PV.cells?, PV.one, PV.cleans, PV.clean, PV.of?, List.all_cons, List.all_nil, List.take_succ_cons, List.drop_succ_cons, Bool.and_self, Int.natCast_nonneg, Int.toNat_natCast, Int.toNat_zero, hl, h1, h1', hc, e, hw, t1, t2, t3, a1, a2, List.getElem?_cons_zero, List.getElem?_cons_succ, List.set_cons_zero, List.set_cons_succ]
  | false =>
    rw [hok] at a1 a2
    simp only [Bool.false_eq_true, if_false] at a2
    simp only [q10_1, q10_0, evL_op, evL_sel, evL_nx, evL_exit, evL_ret, evL_join, evL_block, evL_cond, evK_some, evJ_nx, evJ_rt, evJ_ex, evB_nx, evB_rt, evB_ex, evC2_bool, evS_and, evS_or, evS_tf, evS_ft, ev_t, ev_s, ev_c, evalOp, bin_add, bin_sub, bin_mul, bin_eql, bin_neq, bin_lss, bin_leq, bin_gtr, bin_geq, sbin_eql, sbin_neq, b8, List.map_cons, List.map_nil, PV.rens, PV.ren, if_true, if_false, Bool.false_eq_true, reduceIte, Nat.reduceAdd, Nat.reduceSub, Nat.reduceMul, Nat.reduceEqDiff, Nat.reduceLeDiff, Int.reduceLE, Int.reduceLT, Int.reduceEq, Int.reduceToNat, Int.reduceAdd, Int.reduceSub, Int.reduceNeg, decide_true, decide_false, Bool.not_true, Bool.not_false, Bool.true_and, Bool.false_and, Bool.and_true, Bool.and_false, Bool.or_true, Bool.true_or, Bool.or_false, Bool.false_or, and_self, and_true, true_and, Nat.le_refl, Nat.zero_add, Nat.mul_one, Nat.one_ne_zero, Nat.zero_le, highP, lowP, Option.map_some, Option.map_none, List.drop_zero, List.take_zero, List.length_cons, List.length_nil, List.nil_append, List.append_nil, List.cons_append, fillP, PV.cells?, PV.one, PV.cleans, PV.clean, PV.of?, List.all_cons, List.all_nil, List.take_succ_cons, List.drop_succ_cons, Bool.and_self, Int.natCast_nonneg, Int.toNat_natCast, Int.toNat_zero, hl, h1, h1', hc, e, hw, t1, t2, t3, a1, a2, List.getElem?_cons_zero, List.getElem?_cons_succ, List.set_cons_zero, List.set_cons_succ]
theorem loop10_at (k0 : Nat) (x y : List UInt8) (hx : 64 ∉ x) (hs : x.length + y.length ≤ 4000000000) : ∀ (j i : Nat), i + j = x.length → ∀ k, j < k →
    loopL 1 (evL T k0 q10_1) k [.str (x ++ 64 :: y), .ptr 0 0, .int .i64 i] H0 = some (.rt, [.ptr 0 0, .bool (pathOk false x y)], [.cells [.bool false, .str (if pathOk false x y = true then x else []), .str (if pathOk false x y = true then y else [])], .cells [.bool false, .str x, .str y]])
  | j, i, hij, 0, hk => by omega
  | 0, i, hij, k + 1, hk => by
    obtain rfl : i = x.length := by omega
    rw [loopL_succ, head10, body10_at k0 x y hs]
  | j + 1, i, hij, k + 1, hk => by
    have hi : i < x.length := by omega
    have hc : (x ++ 64 :: y)[i]? = some x[i] := by rw [List.getElem?_append_left hi, List.getElem?_eq_getElem hi]
    have hne : x[i] ≠ 64 := fun e => hx (by rw [← e]; exact List.getElem_mem hi)
    rw [loopL_succ, head10, body10 k0 _ (by simp; omega) i x[i] hc hne]
    exact loop10_at k0 x y hx hs j (i + 1) (by omega) k (by omega)
theorem loop10_no (k0 : Nat) (s : List UInt8) (hx : 64 ∉ s) (hs : s.length ≤ 9000000000000000000) : ∀ (j i : Nat), i + j = s.length → ∀ k, j < k →
    loopL 1 (evL T k0 q10_1) k [.str s, .ptr 0 0, .int .i64 i] H0 = some (.ex 0, [.ptr 0 0], H0)
  | j, i, hij, 0, hk => by omega
  | 0, i, hij, k + 1, hk => by
    have h1 : ¬ ((i : Int) < s.length) := by omega
    have h3 : evL T k0 q10_1 [.str s, .ptr 0 0, .int .i64 i] H0 = some (.ex 0, [.ptr 0 0], H0) := by simp only [q10_1, evL_op, evL_sel, evL_nx, evL_exit, evL_ret, evL_join, evL_block, evL_cond, evK_some, evJ_nx, evJ_rt, evJ_ex, evB_nx, evB_rt, evB_ex, evC2_bool, evS_and, evS_or, evS_tf, evS_ft, ev_t, ev_s, ev_c, evalOp, bin_add, bin_sub, bin_mul, bin_eql, bin_neq, bin_lss, bin_leq, bin_gtr, bin_geq, sbin_eql, sbin_neq, b8, List.map_cons, List.map_nil, PV.rens, PV.ren, if_true, if_false, Bool.false_eq_true, reduceIte, h1, decide_false]
    rw [loopL_succ, head10, h3]
  | j + 1, i, hij, k + 1, hk => by
    have hi : i < s.length := by omega
    have hne : s[i] ≠ 64 := fun e => hx (by rw [← e]; exact List.getElem_mem hi)
    rw [loopL_succ, head10, body10 k0 s hs i s[i] (List.getElem?_eq_getElem hi) hne]
    exact loop10_no k0 s hx hs j (i + 1) (by omega) k (by omega)
end Go.Proofs.YtgilfigaimndkaaDoor.Tab
