/- Chapter 11: the document's answer's letters made small; what is told of two Paths. -/
import Derived.Test.YtgilfigaimndkaaDoorPath8
namespace Go.Proofs.YtgilfigaimndkaaDoor.Tab
set_option linter.all false
open Go Go.RowKit Go.Proofs.YtgilfigaimndkaaDoor.Ev
def sz23 (i : Nat) : Nat := if i = 0 then 0 else 1
def o23 (s : List UInt8) (i : Nat) : PV := .sl (.tok 0) (sz23 i) i (((s.take i).map foldB).map b8)
theorem head23 (s : List UInt8) (sz n : Nat) (cs : List PV) (i : Int) : headS 0 [.str s, .sl (.tok 1) sz n cs, .int .i64 i] [.dead, .tok] = ([.str s, .sl (.tok 0) sz n cs, .int .i64 i], [.tok]) := rfl
theorem head23' (s : List UInt8) (i : Int) : headS 0 [.str s, .sl .nil 0 0 [], .int .i64 i] [] = ([.str s, .sl (.tok 0) 0 0 [], .int .i64 i], [.tok]) := rfl
theorem body23 (k0 : Nat) (s : List UInt8) (hs : s.length ≤ 70368744177663) (i : Nat) (hi : i < s.length) :
    evL T k0 q23_2 [.str s, o23 s i, .int .i64 i] [.tok] = some (.nx, [.str s, .sl (.tok 1) 1 (i + 1) (((s.take (i + 1)).map foldB).map b8), .int .i64 (i + 1 : Nat)], [.dead, .tok]) := by
  have h1 : (i : Int) < s.length := by omega
  have hw : IntKind.i64.wrap ((i : Int) + 1) = ((i + 1 : Nat) : Int) := by rw [IntWalk.i64_in _ (by omega)]; rfl
  have hc : s[i]? = some s[i] := List.getElem?_eq_getElem hi
  have hu : (decide ((65 : Int) ≤ (s[i]).toNat) && decide (((s[i]).toNat : Int) ≤ 90)) = upB s[i] := rfl
  have hcs : (((s.take (i + 1)).map foldB).map b8) = ((s.take i).map foldB).map b8 ++ [b8 (foldB s[i])] := by
    rw [List.take_succ_eq_append_getElem hi, List.map_append, List.map_append]; rfl
  have hroom : i + 1 ≤ roomMax := by unfold roomMax; omega
  have hsz : sz23 i = 1 ∨ sz23 i = 0 := by unfold sz23; split <;> simp
  cases hup : upB s[i] with
  | false =>
    have hf : foldB s[i] = s[i] := by unfold foldB; rw [hup]; rfl
    rw [hcs, hf]
    simp only [q23_2, q23_1, q23_0, o23, evL_op, evL_sel, evL_nx, evL_exit, evL_ret, evL_join, evL_block, evL_cond, evK_some, evJ_nx, evJ_rt, evJ_ex, evB_nx, evB_rt, evB_ex, evC2_bool, evS_and, evS_or, evS_tf, evS_ft, ev_t, ev_s, ev_c, evalOp, bin_add, bin_sub, bin_mul, bin_eql, bin_neq, bin_lss, bin_leq, bin_gtr, bin_geq, sbin_eql, sbin_neq, b8, List.map_cons, List.map_nil, PV.rens, PV.ren, if_true, if_false, Bool.false_eq_true, reduceIte, Nat.reduceAdd, Nat.reduceSub, Nat.reduceMul, Nat.reduceEqDiff, Nat.reduceLeDiff, Int.reduceLE, Int.reduceLT, Int.reduceEq, Int.reduceToNat, Int.reduceAdd, Int.reduceSub, Int.reduceNeg, decide_true, decide_false, Bool.not_true, Bool.not_false, Bool.true_and, Bool.false_and, Bool.and_true, Bool.and_false, Bool.or_true, Bool.true_or, Bool.or_false, Bool.false_or, and_self, and_true, true_and, Nat.le_refl, Nat.zero_add, Nat.mul_one, Nat.one_ne_zero, Nat.zero_le, highP, lowP, Option.map_some, Option.map_none, List.drop_zero, List.take_zero, List.length_cons, List.length_nil, List.nil_append, List.append_nil, List.cons_append, fillP, PV.cells?, PV.one, PV.cleans, PV.clean, PV.of?, List.all_cons, List.all_nil, List.take_succ_cons, List.drop_succ_cons, Bool.and_self, Int.natCast_nonneg, Int.toNat_natCast, Int.toNat_zero, h1, Int.natCast_nonneg, Int.toNat_natCast, hc, hu, hup, tailP, List.getElem?_cons_zero, hroom, hsz, or_true, List.set_cons_zero, hw]
  | true =>
    have hv := up_val s[i] hup
    have hf : foldB s[i] = s[i] + 32 := by unfold foldB; rw [hup]; rfl
    rw [hcs, hf]
    have hup2 := hup
    simp only [upB, Bool.and_eq_true, decide_eq_true_eq] at hup2
    have w1 : IntKind.u8.wrap (((s[i]).toNat : Int) + 32) = ((s[i] + 32).toNat : Int) := by rw [IntWalk.u8_in _ (by omega), hv]
    simp only [q23_2, q23_1, q23_0, o23, evL_op, evL_sel, evL_nx, evL_exit, evL_ret, evL_join, evL_block, evL_cond, evK_some, evJ_nx, evJ_rt, evJ_ex, evB_nx, evB_rt, evB_ex, evC2_bool, evS_and, evS_or, evS_tf, evS_ft, ev_t, ev_s, ev_c, evalOp, bin_add, bin_sub, bin_mul, bin_eql, bin_neq, bin_lss, bin_leq, bin_gtr, bin_geq, sbin_eql, sbin_neq, b8, List.map_cons, List.map_nil, PV.rens, PV.ren, if_true, if_false, Bool.false_eq_true, reduceIte, Nat.reduceAdd, Nat.reduceSub, Nat.reduceMul, Nat.reduceEqDiff, Nat.reduceLeDiff, Int.reduceLE, Int.reduceLT, Int.reduceEq, Int.reduceToNat, Int.reduceAdd, Int.reduceSub, Int.reduceNeg, decide_true, decide_false, Bool.not_true, Bool.not_false, Bool.true_and, Bool.false_and, Bool.and_true, Bool.and_false, Bool.or_true, Bool.true_or, Bool.or_false, Bool.false_or, and_self, and_true, true_and, Nat.le_refl, Nat.zero_add, Nat.mul_one, Nat.one_ne_zero, Nat.zero_le, highP, lowP, Option.map_some, Option.map_none, List.drop_zero, List.take_zero, List.length_cons, List.length_nil, List.nil_append, List.append_nil, List.cons_append, fillP, PV.cells?, PV.one, PV.cleans, PV.clean, PV.of?, List.all_cons, List.all_nil, List.take_succ_cons, List.drop_succ_cons, Bool.and_self, Int.natCast_nonneg, Int.toNat_natCast, Int.toNat_zero, h1, Int.natCast_nonneg, Int.toNat_natCast, hc, hu, hup, tailP, List.getElem?_cons_zero, hroom, hsz, or_true, List.set_cons_zero, hw, w1]
theorem loop23 (k0 : Nat) (s : List UInt8) (hs : s.length ≤ 70368744177663) : ∀ (j i : Nat), i + j = s.length → ∀ k, j < k → ∀ (env : List PV) (H : Hp), headS 0 env H = ([.str s, o23 s i, .int .i64 i], [.tok]) →
    loopL 0 (evL T k0 q23_2) k env H = some (.ex 0, [o23 s s.length], [.tok])
  | j, i, hij, 0, hk, _, _, _ => by omega
  | 0, i, hij, k + 1, hk, env, H, hh => by
    obtain rfl : i = s.length := by omega
    have h1 : ¬ ((s.length : Int) < s.length) := by omega
    have h3 : evL T k0 q23_2 [.str s, o23 s s.length, .int .i64 s.length] [.tok] = some (.ex 0, [o23 s s.length], [.tok]) := by simp only [q23_2, evL_op, evL_sel, evL_nx, evL_exit, evL_ret, evL_join, evL_block, evL_cond, evK_some, evJ_nx, evJ_rt, evJ_ex, evB_nx, evB_rt, evB_ex, evC2_bool, evS_and, evS_or, evS_tf, evS_ft, ev_t, ev_s, ev_c, evalOp, bin_add, bin_sub, bin_mul, bin_eql, bin_neq, bin_lss, bin_leq, bin_gtr, bin_geq, sbin_eql, sbin_neq, b8, List.map_cons, List.map_nil, PV.rens, PV.ren, if_true, if_false, Bool.false_eq_true, reduceIte, h1, decide_false]
    rw [loopL_succ, hh, h3]
  | j + 1, i, hij, k + 1, hk, env, H, hh => by
    rw [loopL_succ, hh, body23 k0 s hs i (by omega)]
    exact loop23 k0 s hs j (i + 1) (by omega) k (by omega) _ _ (head23 _ _ _ _ _)
theorem T23 (s : List UInt8) (hs : s.length ≤ 70368744177663) : T 23 [.str s] [] = some (.str (foldS s), []) := by
  refine evT_of (k := s.length + 1) (F := l23) (H' := [.tok]) (e := [.str (foldS s)]) (l := [.str (foldS s)]) rfl rfl rfl ?_ rfl rfl
  have hl := loop23 (s.length + 1) s hs s.length 0 (by omega) (s.length + 1) (by omega) [.str s, .sl .nil 0 0 [], .int .i64 (0 : Nat)] [] (head23' s _)
  have h0 : evL T (s.length + 1) q23 [.str s] [] = evJ T (s.length + 1) q23_3 (evB 0 (loopL 0 (evL T (s.length + 1) q23_2) (s.length + 1) [.str s, .sl .nil 0 0 [], .int .i64 (0 : Nat)] [])) := rfl
  show evL T _ q23 _ _ = _
  rw [h0, hl]
  have hb := bytes8_b8 (s.map foldB)
  have ht : s.take s.length = s := List.take_length
  unfold o23
  rw [ht]
  generalize (s.map foldB).map b8 = L at hb
  by_cases hne : s.length = 0
  · obtain rfl : s = [] := List.eq_nil_of_length_eq_zero hne
    simp only [q23_3, evL_op, evL_sel, evL_nx, evL_exit, evL_ret, evL_join, evL_block, evL_cond, evK_some, evJ_nx, evJ_rt, evJ_ex, evB_nx, evB_rt, evB_ex, evC2_bool, evS_and, evS_or, evS_tf, evS_ft, ev_t, ev_s, ev_c, evalOp, bin_add, bin_sub, bin_mul, bin_eql, bin_neq, bin_lss, bin_leq, bin_gtr, bin_geq, sbin_eql, sbin_neq, b8, List.map_cons, List.map_nil, PV.rens, PV.ren, if_true, if_false, Bool.false_eq_true, reduceIte, hne]
    rfl
  · have hsz : sz23 s.length = 1 := if_neg hne
    simp only [q23_3, evL_op, evL_sel, evL_nx, evL_exit, evL_ret, evL_join, evL_block, evL_cond, evK_some, evJ_nx, evJ_rt, evJ_ex, evB_nx, evB_rt, evB_ex, evC2_bool, evS_and, evS_or, evS_tf, evS_ft, ev_t, ev_s, ev_c, evalOp, bin_add, bin_sub, bin_mul, bin_eql, bin_neq, bin_lss, bin_leq, bin_gtr, bin_geq, sbin_eql, sbin_neq, b8, List.map_cons, List.map_nil, PV.rens, PV.ren, if_true, if_false, Bool.false_eq_true, reduceIte, hne, hsz, hb]
    rfl
def sameP (n : Bool) (l d : List UInt8) (m : Bool) (k e : List UInt8) : Bool := pathOk n l d && pathOk m k e && (n == m) && decide (l = k) && decide (foldS d = foldS e)
def atP (n : Bool) (l d s : List UInt8) : Bool := pathOk n l d && !n && decide (foldS d = foldS s)
theorem ok_dec (b : Bool) : decide ((if b = true then (0 : Int) else 5) = 0) = b := by cases b <;> rfl
abbrev H2 (n : Bool) (l d : List UInt8) (m : Bool) (k e : List UInt8) : Hp := [.cells [.bool n, .str l, .str d], .cells [.bool m, .str k, .str e]]
section
variable (n m : Bool) (l d k e : List UInt8) (h1 : l.length + d.length < 2147483648) (h2 : k.length + e.length < 2147483648)
include h1 h2
theorem T18 : T 18 [pathV n l d, pathV m k e] [] = some (.bool (sameP n l d m k e), []) := by
  refine evT_of (k := 0) (F := l18) (H' := H2 n l d m k e) (e := [.bool (sameP n l d m k e)]) (l := [.bool (sameP n l d m k e)]) rfl rfl rfl ?_ rfl rfl
  show evL T 0 q18 _ _ = _
  have a1 := T13 n l d (by omega)
  have a2 := T13 m k e (by omega)
  have a3 := T22 d (by omega)
  have a4 := T22 e (by omega)
  simp only [q18, evL_op, evL_sel, evL_nx, evL_exit, evL_ret, evL_join, evL_block, evL_cond, evK_some, evJ_nx, evJ_rt, evJ_ex, evB_nx, evB_rt, evB_ex, evC2_bool, evS_and, evS_or, evS_tf, evS_ft, ev_t, ev_s, ev_c, evalOp, bin_add, bin_sub, bin_mul, bin_eql, bin_neq, bin_lss, bin_leq, bin_gtr, bin_geq, sbin_eql, sbin_neq, b8, List.map_cons, List.map_nil, PV.rens, PV.ren, if_true, if_false, Bool.false_eq_true, reduceIte, Nat.reduceAdd, Nat.reduceSub, Nat.reduceMul, Nat.reduceEqDiff, Nat.reduceLeDiff, Int.reduceLE, Int.reduceLT, Int.reduceEq, Int.reduceToNat, Int.reduceAdd, Int.reduceSub, Int.reduceNeg, decide_true, decide_false, Bool.not_true, Bool.not_false, Bool.true_and, Bool.false_and, Bool.and_true, Bool.and_false, Bool.or_true, Bool.true_or, Bool.or_false, Bool.false_or, and_self, and_true, true_and, Nat.le_refl, Nat.zero_add, Nat.mul_one, Nat.one_ne_zero, Nat.zero_le, highP, lowP, Option.map_some, Option.map_none, List.drop_zero, List.take_zero, List.length_cons, List.length_nil, List.nil_append, List.append_nil, List.cons_append, fillP, PV.cells?, PV.one, PV.cleans, PV.clean, PV.of?, List.all_cons, List.all_nil, List.take_succ_cons, List.drop_succ_cons, Bool.and_self, Int.natCast_nonneg, Int.toNat_natCast, Int.toNat_zero, List.getElem?_cons_zero, List.getElem?_cons_succ, a1, a2, a3, a4, ok_dec, Bool.false_bne, Bool.bne_false, Bool.xor_false, Bool.false_xor, sameP]
theorem T19 : T 19 [pathV n l d, pathV m k e] [] = some (.bool (sameP n l d m k e), []) := by
  refine evT_of (k := 0) (F := l19) (H' := H2 n l d m k e) (e := [.bool (sameP n l d m k e)]) (l := [.bool (sameP n l d m k e)]) rfl rfl rfl ?_ rfl rfl
  show evL T 0 q19 _ _ = _
  have a1 := T12 n l d (by omega) (by omega)
  have a2 := T12 m k e (by omega) (by omega)
  have a3 := T23 d (by omega)
  have a4 := T23 e (by omega)
  simp only [q19, evL_op, evL_sel, evL_nx, evL_exit, evL_ret, evL_join, evL_block, evL_cond, evK_some, evJ_nx, evJ_rt, evJ_ex, evB_nx, evB_rt, evB_ex, evC2_bool, evS_and, evS_or, evS_tf, evS_ft, ev_t, ev_s, ev_c, evalOp, bin_add, bin_sub, bin_mul, bin_eql, bin_neq, bin_lss, bin_leq, bin_gtr, bin_geq, sbin_eql, sbin_neq, b8, List.map_cons, List.map_nil, PV.rens, PV.ren, if_true, if_false, Bool.false_eq_true, reduceIte, Nat.reduceAdd, Nat.reduceSub, Nat.reduceMul, Nat.reduceEqDiff, Nat.reduceLeDiff, Int.reduceLE, Int.reduceLT, Int.reduceEq, Int.reduceToNat, Int.reduceAdd, Int.reduceSub, Int.reduceNeg, decide_true, decide_false, Bool.not_true, Bool.not_false, Bool.true_and, Bool.false_and, Bool.and_true, Bool.and_false, Bool.or_true, Bool.true_or, Bool.or_false, Bool.false_or, and_self, and_true, true_and, Nat.le_refl, Nat.zero_add, Nat.mul_one, Nat.one_ne_zero, Nat.zero_le, highP, lowP, Option.map_some, Option.map_none, List.drop_zero, List.take_zero, List.length_cons, List.length_nil, List.nil_append, List.append_nil, List.cons_append, fillP, PV.cells?, PV.one, PV.cleans, PV.clean, PV.of?, List.all_cons, List.all_nil, List.take_succ_cons, List.drop_succ_cons, Bool.and_self, Int.natCast_nonneg, Int.toNat_natCast, Int.toNat_zero, List.getElem?_cons_zero, List.getElem?_cons_succ, a1, a2, a3, a4, Bool.false_bne, Bool.bne_false, Bool.xor_false, Bool.false_xor, sameP]
end
section
variable (n : Bool) (l d s : List UInt8) (h1 : l.length + d.length < 2147483648) (h2 : s.length < 2147483648)
include h1 h2
theorem T20 : T 20 [pathV n l d, .str s] [] = some (.bool (atP n l d s), []) := by
  refine evT_of (k := 0) (F := l20) (H' := [.cells [.bool n, .str l, .str d]]) (e := [.bool (atP n l d s)]) (l := [.bool (atP n l d s)]) rfl rfl rfl ?_ rfl rfl
  show evL T 0 q20 _ _ = _
  have a1 := T13 n l d (by omega)
  have a3 := T22 d (by omega)
  have a4 := T22 s (by omega)
  simp only [q20, evL_op, evL_sel, evL_nx, evL_exit, evL_ret, evL_join, evL_block, evL_cond, evK_some, evJ_nx, evJ_rt, evJ_ex, evB_nx, evB_rt, evB_ex, evC2_bool, evS_and, evS_or, evS_tf, evS_ft, ev_t, ev_s, ev_c, evalOp, bin_add, bin_sub, bin_mul, bin_eql, bin_neq, bin_lss, bin_leq, bin_gtr, bin_geq, sbin_eql, sbin_neq, b8, List.map_cons, List.map_nil, PV.rens, PV.ren, if_true, if_false, Bool.false_eq_true, reduceIte, Nat.reduceAdd, Nat.reduceSub, Nat.reduceMul, Nat.reduceEqDiff, Nat.reduceLeDiff, Int.reduceLE, Int.reduceLT, Int.reduceEq, Int.reduceToNat, Int.reduceAdd, Int.reduceSub, Int.reduceNeg, decide_true, decide_false, Bool.not_true, Bool.not_false, Bool.true_and, Bool.false_and, Bool.and_true, Bool.and_false, Bool.or_true, Bool.true_or, Bool.or_false, Bool.false_or, and_self, and_true, true_and, Nat.le_refl, Nat.zero_add, Nat.mul_one, Nat.one_ne_zero, Nat.zero_le, highP, lowP, Option.map_some, Option.map_none, List.drop_zero, List.take_zero, List.length_cons, List.length_nil, List.nil_append, List.append_nil, List.cons_append, fillP, PV.cells?, PV.one, PV.cleans, PV.clean, PV.of?, List.all_cons, List.all_nil, List.take_succ_cons, List.drop_succ_cons, Bool.and_self, Int.natCast_nonneg, Int.toNat_natCast, Int.toNat_zero, List.getElem?_cons_zero, List.getElem?_cons_succ, a1, a3, a4, ok_dec, atP]
theorem T21 : T 21 [pathV n l d, .str s] [] = some (.bool (atP n l d s), []) := by
  refine evT_of (k := 0) (F := l21) (H' := [.cells [.bool n, .str l, .str d]]) (e := [.bool (atP n l d s)]) (l := [.bool (atP n l d s)]) rfl rfl rfl ?_ rfl rfl
  show evL T 0 q21 _ _ = _
  have a1 := T12 n l d (by omega) (by omega)
  have a3 := T23 d (by omega)
  have a4 := T23 s (by omega)
  simp only [q21, evL_op, evL_sel, evL_nx, evL_exit, evL_ret, evL_join, evL_block, evL_cond, evK_some, evJ_nx, evJ_rt, evJ_ex, evB_nx, evB_rt, evB_ex, evC2_bool, evS_and, evS_or, evS_tf, evS_ft, ev_t, ev_s, ev_c, evalOp, bin_add, bin_sub, bin_mul, bin_eql, bin_neq, bin_lss, bin_leq, bin_gtr, bin_geq, sbin_eql, sbin_neq, b8, List.map_cons, List.map_nil, PV.rens, PV.ren, if_true, if_false, Bool.false_eq_true, reduceIte, Nat.reduceAdd, Nat.reduceSub, Nat.reduceMul, Nat.reduceEqDiff, Nat.reduceLeDiff, Int.reduceLE, Int.reduceLT, Int.reduceEq, Int.reduceToNat, Int.reduceAdd, Int.reduceSub, Int.reduceNeg, decide_true, decide_false, Bool.not_true, Bool.not_false, Bool.true_and, Bool.false_and, Bool.and_true, Bool.and_false, Bool.or_true, Bool.true_or, Bool.or_false, Bool.false_or, and_self, and_true, true_and, Nat.le_refl, Nat.zero_add, Nat.mul_one, Nat.one_ne_zero, Nat.zero_le, highP, lowP, Option.map_some, Option.map_none, List.drop_zero, List.take_zero, List.length_cons, List.length_nil, List.nil_append, List.append_nil, List.cons_append, fillP, PV.cells?, PV.one, PV.cleans, PV.clean, PV.of?, List.all_cons, List.all_nil, List.take_succ_cons, List.drop_succ_cons, Bool.and_self, Int.natCast_nonneg, Int.toNat_natCast, Int.toNat_zero, List.getElem?_cons_zero, List.getElem?_cons_succ, a1, a3, a4, atP]
end
end Go.Proofs.YtgilfigaimndkaaDoor.Tab
