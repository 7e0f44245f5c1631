/- What is read of a report. -/
import Derived.Test.YtghnffhgmhfofaaDoorReport2
namespace Go.Proofs.YtghnffhgmhfofaaDoor.Tab
set_option linter.all false
open Go Go.RowKit Go.Proofs.YtghnffhgmhfofaaDoor.Ev
abbrev zP : List PV := [.bool false, .str [], .str []]
section
variable (b : List UInt8) (hb : b.length ≤ 20000)
include hb
theorem Read_short (h : (lines b).length ≤ 14) : T 8 [sl8 b] [] = some (.tup [.str [], pathV false [] [], pathV false [] [], .int .i64 5], []) := by
  refine evT_of (k := 0) (F := l8) (H' := [.cells zP, .cells zP]) (e := [.str [], .ptr 0 0, .ptr 1 0, .int .i64 5]) (l := [.str [], pathV false [] [], pathV false [] [], .int .i64 5]) rfl rfl rfl ?_ rfl rfl
  show evL T 0 q8 _ _ = _
  have c1 := T21 b (by omega)
  have h1 : ((lines b).length : Int) ≤ 14 := by omega
  unfold accL at c1
  simp only [q8, evL_op, evL_sel, evL_nx, evL_exit, evL_ret, evL_join, evL_block, evL_cond, evK_some, evJ_nx, evJ_rt, evJ_ex, evB_nx, evB_rt, evB_ex, evC2_bool, evS_and, evS_or, evS_tf, evS_ft, ev_t, ev_s, ev_c, evalOp, bin_add, bin_sub, bin_mul, bin_eql, bin_neq, bin_lss, bin_leq, bin_gtr, bin_geq, sbin_eql, sbin_neq, b8, List.map_cons, List.map_nil, PV.rens, PV.ren, if_true, if_false, Bool.false_eq_true, reduceIte, Nat.reduceAdd, Nat.reduceSub, Nat.reduceMul, Nat.reduceEqDiff, Nat.reduceLeDiff, Int.reduceLE, Int.reduceLT, Int.reduceEq, Int.reduceToNat, Int.reduceAdd, Int.reduceSub, Int.reduceNeg, decide_true, decide_false, Bool.not_true, Bool.not_false, Bool.true_and, Bool.false_and, Bool.and_true, Bool.and_false, Bool.or_true, Bool.true_or, Bool.or_false, Bool.false_or, and_self, and_true, true_and, Nat.le_refl, Nat.zero_add, Nat.mul_one, Nat.one_ne_zero, Nat.zero_le, highP, lowP, Option.map_some, Option.map_none, List.drop_zero, List.take_zero, List.length_cons, List.length_nil, List.nil_append, List.append_nil, List.cons_append, fillP, PV.cells?, PV.one, PV.cleans, PV.clean, PV.of?, List.all_cons, List.all_nil, List.take_succ_cons, List.drop_succ_cons, Bool.and_self, Int.natCast_nonneg, Int.toNat_natCast, Int.toNat_zero, PV.of?, Tk.ren, tailP, evL_loop, or_true, true_or, Nat.zero_lt_one, Nat.sub_zero, List.getElem?_cons_zero, List.getElem?_cons_succ, List.set_cons_zero, List.set_cons_succ, List.take_length, PV.rens, PV.ren, c1, h1]
theorem Read_gen (h : 14 < (lines b).length) {x1 x12 x14 : List UInt8} (h1 : (lines b)[1]? = some x1) (h12 : (lines b)[12]? = some x12) (h14 : (lines b)[14]? = some x14) {n : Bool} {l d : List UInt8} {m : Bool} {k e : List UInt8}
    (p1 : parseV (trimP x1 cTo) = pathV n l d) (p2 : parseV (trimP x14 cFin) = pathV m k e) (hl : (trimP x12 cMta).length + l.length + d.length + k.length + e.length ≤ 100000) :
    T 8 [sl8 b] [] = some (if (rightR (trimP x12 cMta) n l d m k e && decide (rep (trimP x12 cMta) (textOf n l d) (textOf m k e) = b)) = true then .tup [.str (trimP x12 cMta), pathV n l d, pathV m k e, .int .i64 0] else .tup [.str [], pathV false [] [], pathV false [] [], .int .i64 5], []) := by
  have c1 := T21 b (by omega)
  have hne : lines b ≠ [] := fun e => by rw [e] at h; simp at h
  rw [accL_cons _ hne] at c1
  have g1 := get_sl8' h1
  have g12 := get_sl8' h12
  have g14 := get_sl8' h14
  have hll := (lines_len b.length b (Nat.le_refl _)).2
  have l1 := hll x1 (List.mem_of_getElem? h1)
  have l12 := hll x12 (List.mem_of_getElem? h12)
  have l14 := hll x14 (List.mem_of_getElem? h14)
  have hn : ¬ ((lines b).length : Int) ≤ 14 := by omega
  have i1 : (1 : Int) < (lines b).length := by omega
  have i12 : (12 : Int) < (lines b).length := by omega
  have i14 : (14 : Int) < (lines b).length := by omega
  have t1 := T22 x1 cTo (by omega)
  have t12 := T22 x12 cMta (by omega)
  have t14 := T22 x14 cFin (by omega)
  have tl1 := trimP_len x1 cTo
  have tl14 := trimP_len x14 cFin
  have q1 := T23 (trimP x1 cTo) (by omega)
  have q2 := T23 (trimP x14 cFin) (by omega)
  rw [p1] at q1
  rw [p2] at q2
  generalize trimP x12 cMta = s at *
  generalize (if parseOk (trimP x1 cTo) = true then (0 : Int) else 5) = r1 at *
  generalize (if parseOk (trimP x14 cFin) = true then (0 : Int) else 5) = r2 at *
  cases hr : rightR s n l d m k e with
  | false =>
    rw [Bool.false_and]
    have c2 := Build_no s n l d m k e hl hr
    refine evT_of (k := 0) (F := l8) (H' := [.cells zP, .cells zP]) (e := [.str [], .ptr 0 0, .ptr 1 0, .int .i64 5]) (l := [.str [], pathV false [] [], pathV false [] [], .int .i64 5]) rfl rfl rfl ?_ rfl rfl
    show evL T 0 q8 _ _ = _
    simp only [q8, ← cFrom_def, ← cTo_def, ← cSubj_def, ← cMulti_def, ← cDash_def, ← cPlain_def, ← cNo_def, ← cMsg_def, ← cMta_def, ← cFin_def, ← cAct_def, ← cSta_def, ← cEnd_def, ← cMtaF_def, ← cToF_def, ← cFinF_def, evL_op, evL_sel, evL_nx, evL_exit, evL_ret, evL_join, evL_block, evL_cond, evK_some, evJ_nx, evJ_rt, evJ_ex, evB_nx, evB_rt, evB_ex, evC2_bool, evS_and, evS_or, evS_tf, evS_ft, ev_t, ev_s, ev_c, evalOp, bin_add, bin_sub, bin_mul, bin_eql, bin_neq, bin_lss, bin_leq, bin_gtr, bin_geq, sbin_eql, sbin_neq, b8, List.map_cons, List.map_nil, PV.rens, PV.ren, if_true, if_false, Bool.false_eq_true, reduceIte, Nat.reduceAdd, Nat.reduceSub, Nat.reduceMul, Nat.reduceEqDiff, Nat.reduceLeDiff, Int.reduceLE, Int.reduceLT, Int.reduceEq, Int.reduceToNat, Int.reduceAdd, Int.reduceSub, Int.reduceNeg, decide_true, decide_false, Bool.not_true, Bool.not_false, Bool.true_and, Bool.false_and, Bool.and_true, Bool.and_false, Bool.or_true, Bool.true_or, Bool.or_false, Bool.false_or, and_self, and_true, true_and, Nat.le_refl, Nat.zero_add, Nat.mul_one, Nat.one_ne_zero, Nat.zero_le, highP, lowP, Option.map_some, Option.map_none, List.drop_zero, List.take_zero, List.length_cons, List.length_nil, List.nil_append, List.append_nil, List.cons_append, fillP, PV.cells?, PV.one, PV.cleans, PV.clean, PV.of?, List.all_cons, List.all_nil, List.take_succ_cons, List.drop_succ_cons, Bool.and_self, Int.natCast_nonneg, Int.toNat_natCast, Int.toNat_zero, PV.of?, Tk.ren, tailP, evL_loop, or_true, true_or, Nat.zero_lt_one, Nat.sub_zero, List.getElem?_cons_zero, List.getElem?_cons_succ, List.set_cons_zero, List.set_cons_succ, List.take_length, PV.rens, PV.ren, c1, c2, hn, g1, g12, g14, i1, i12, i14, bytes8_map, b2s_if, t1, t12, t14, q1, q2, Int.reduceLE, Int.reduceToNat]
  | true =>
    rw [Bool.true_and]
    have c2 := Build_yes s n l d m k e hl hr
    have c3 := T_equal8 (rep s (textOf n l d) (textOf m k e)) b
    generalize rep s (textOf n l d) (textOf m k e) = R at *
    by_cases hR : R = b
    · rw [decide_eq_true hR, if_pos rfl]
      rw [decide_eq_true hR] at c3
      refine evT_of (k := 0) (F := l8) (H' := [.cells [.bool n, .str l, .str d], .cells [.bool m, .str k, .str e]]) (e := [.str s, .ptr 0 0, .ptr 1 0, .int .i64 0]) (l := [.str s, pathV n l d, pathV m k e, .int .i64 0]) rfl rfl rfl ?_ rfl rfl
      show evL T 0 q8 _ _ = _
      simp only [q8, ← cFrom_def, ← cTo_def, ← cSubj_def, ← cMulti_def, ← cDash_def, ← cPlain_def, ← cNo_def, ← cMsg_def, ← cMta_def, ← cFin_def, ← cAct_def, ← cSta_def, ← cEnd_def, ← cMtaF_def, ← cToF_def, ← cFinF_def, evL_op, evL_sel, evL_nx, evL_exit, evL_ret, evL_join, evL_block, evL_cond, evK_some, evJ_nx, evJ_rt, evJ_ex, evB_nx, evB_rt, evB_ex, evC2_bool, evS_and, evS_or, evS_tf, evS_ft, ev_t, ev_s, ev_c, evalOp, bin_add, bin_sub, bin_mul, bin_eql, bin_neq, bin_lss, bin_leq, bin_gtr, bin_geq, sbin_eql, sbin_neq, b8, List.map_cons, List.map_nil, PV.rens, PV.ren, if_true, if_false, Bool.false_eq_true, reduceIte, Nat.reduceAdd, Nat.reduceSub, Nat.reduceMul, Nat.reduceEqDiff, Nat.reduceLeDiff, Int.reduceLE, Int.reduceLT, Int.reduceEq, Int.reduceToNat, Int.reduceAdd, Int.reduceSub, Int.reduceNeg, decide_true, decide_false, Bool.not_true, Bool.not_false, Bool.true_and, Bool.false_and, Bool.and_true, Bool.and_false, Bool.or_true, Bool.true_or, Bool.or_false, Bool.false_or, and_self, and_true, true_and, Nat.le_refl, Nat.zero_add, Nat.mul_one, Nat.one_ne_zero, Nat.zero_le, highP, lowP, Option.map_some, Option.map_none, List.drop_zero, List.take_zero, List.length_cons, List.length_nil, List.nil_append, List.append_nil, List.cons_append, fillP, PV.cells?, PV.one, PV.cleans, PV.clean, PV.of?, List.all_cons, List.all_nil, List.take_succ_cons, List.drop_succ_cons, Bool.and_self, Int.natCast_nonneg, Int.toNat_natCast, Int.toNat_zero, PV.of?, Tk.ren, tailP, evL_loop, or_true, true_or, Nat.zero_lt_one, Nat.sub_zero, List.getElem?_cons_zero, List.getElem?_cons_succ, List.set_cons_zero, List.set_cons_succ, List.take_length, PV.rens, PV.ren, c1, c2, c3, hn, g1, g12, g14, i1, i12, i14, bytes8_map, b2s_if, t1, t12, t14, q1, q2, Int.reduceLE, Int.reduceToNat, PV.isBot, PV.id?, ne_eq, not_true_eq_false, not_false_eq_true, or_self]
    · rw [decide_eq_false hR, if_neg (by decide)]
      rw [decide_eq_false hR] at c3
      refine evT_of (k := 0) (F := l8) (H' := [.cells zP, .cells zP]) (e := [.str [], .ptr 0 0, .ptr 1 0, .int .i64 5]) (l := [.str [], pathV false [] [], pathV false [] [], .int .i64 5]) rfl rfl rfl ?_ rfl rfl
      show evL T 0 q8 _ _ = _
      simp only [q8, ← cFrom_def, ← cTo_def, ← cSubj_def, ← cMulti_def, ← cDash_def, ← cPlain_def, ← cNo_def, ← cMsg_def, ← cMta_def, ← cFin_def, ← cAct_def, ← cSta_def, ← cEnd_def, ← cMtaF_def, ← cToF_def, ← cFinF_def, evL_op, evL_sel, evL_nx, evL_exit, evL_ret, evL_join, evL_block, evL_cond, evK_some, evJ_nx, evJ_rt, evJ_ex, evB_nx, evB_rt, evB_ex, evC2_bool, evS_and, evS_or, evS_tf, evS_ft, ev_t, ev_s, ev_c, evalOp, bin_add, bin_sub, bin_mul, bin_eql, bin_neq, bin_lss, bin_leq, bin_gtr, bin_geq, sbin_eql, sbin_neq, b8, List.map_cons, List.map_nil, PV.rens, PV.ren, if_true, if_false, Bool.false_eq_true, reduceIte, Nat.reduceAdd, Nat.reduceSub, Nat.reduceMul, Nat.reduceEqDiff, Nat.reduceLeDiff, Int.reduceLE, Int.reduceLT, Int.reduceEq, Int.reduceToNat, Int.reduceAdd, Int.reduceSub, Int.reduceNeg, decide_true, decide_false, Bool.not_true, Bool.not_false, Bool.true_and, Bool.false_and, Bool.and_true, Bool.and_false, Bool.or_true, Bool.true_or, Bool.or_false, Bool.false_or, and_self, and_true, true_and, Nat.le_refl, Nat.zero_add, Nat.mul_one, Nat.one_ne_zero, Nat.zero_le, highP, lowP, Option.map_some, Option.map_none, List.drop_zero, List.take_zero, List.length_cons, List.length_nil, List.nil_append, List.append_nil, List.cons_append, fillP, PV.cells?, PV.one, PV.cleans, PV.clean, PV.of?, List.all_cons, List.all_nil, List.take_succ_cons, List.drop_succ_cons, Bool.and_self, Int.natCast_nonneg, Int.toNat_natCast, Int.toNat_zero, PV.of?, Tk.ren, tailP, evL_loop, or_true, true_or, Nat.zero_lt_one, Nat.sub_zero, List.getElem?_cons_zero, List.getElem?_cons_succ, List.set_cons_zero, List.set_cons_succ, List.take_length, PV.rens, PV.ren, c1, c2, c3, hn, g1, g12, g14, i1, i12, i14, bytes8_map, b2s_if, t1, t12, t14, q1, q2, Int.reduceLE, Int.reduceToNat, PV.isBot, PV.id?, ne_eq, not_true_eq_false, not_false_eq_true, or_self]
/-- What no report is is read as none. -/
theorem Read_no (hno : ∀ s n l d m k e, rightR s n l d m k e = true → rep s (textOf n l d) (textOf m k e) ≠ b) : T 8 [sl8 b] [] = some (.tup [.str [], pathV false [] [], pathV false [] [], .int .i64 5], []) := by
  rcases Nat.lt_or_ge 14 (lines b).length with h | h
  · have hll := (lines_len b.length b (Nat.le_refl _)).2
    obtain ⟨n, l, d, p1, k1⟩ := parseV_len (trimP (lines b)[1] cTo)
    obtain ⟨m, k, e, p2, k2⟩ := parseV_len (trimP (lines b)[14] cFin)
    have b1 := hll _ (List.getElem_mem (show 1 < (lines b).length by omega))
    have b12 := hll _ (List.getElem_mem (show 12 < (lines b).length by omega))
    have b14 := hll _ (List.getElem_mem (show 14 < (lines b).length by omega))
    have u1 := trimP_len (lines b)[1] cTo
    have u12 := trimP_len (lines b)[12] cMta
    have u14 := trimP_len (lines b)[14] cFin
    have g := Read_gen b hb h (List.getElem?_eq_getElem (show 1 < (lines b).length by omega)) (List.getElem?_eq_getElem (show 12 < (lines b).length by omega)) (List.getElem?_eq_getElem (show 14 < (lines b).length by omega)) p1 p2 (by omega)
    have : (rightR (trimP (lines b)[12] cMta) n l d m k e && decide (rep (trimP (lines b)[12] cMta) (textOf n l d) (textOf m k e) = b)) = false := by
      cases hr : rightR (trimP (lines b)[12] cMta) n l d m k e with
      | false => rfl
      | true => rw [Bool.true_and]; exact decide_eq_false (hno _ _ _ _ _ _ _ hr)
    rw [this, if_neg (by decide)] at g
    exact g
  · exact Read_short b hb h
end
theorem Read_yes {s : List UInt8} {n : Bool} {l d : List UInt8} {m : Bool} {k e : List UInt8} (h : rightR s n l d m k e = true) (hl : s.length + l.length + d.length + k.length + e.length ≤ 4000) :
    T 8 [sl8 (rep s (textOf n l d) (textOf m k e))] [] = some (.tup [.str s, pathV n l d, pathV m k e, .int .i64 0], []) := by
  have hL := rep_lines h
  obtain ⟨_, _, h2, h3, _⟩ := right_cl h
  have la := textOf_len n l d
  have lb := textOf_len m k e
  have p1 := (parse_text h2).1
  have p2 := (parse_text h3).1
  have g := Read_gen (rep s (textOf n l d) (textOf m k e)) (by rw [rep_len]; omega) (by rw [hL]; show 14 < 18; decide) (x1 := cTo ++ textOf n l d) (x12 := cMta ++ s) (x14 := cFin ++ textOf m k e) (by rw [hL]; rfl) (by rw [hL]; rfl) (by rw [hL]; rfl)
    (by rw [trimP_app]; exact p1) (by rw [trimP_app]; exact p2) (by rw [trimP_app]; omega)
  rw [trimP_app, h, decide_eq_true rfl, if_pos (by rfl)] at g
  exact g
end Go.Proofs.YtghnffhgmhfofaaDoor.Tab
