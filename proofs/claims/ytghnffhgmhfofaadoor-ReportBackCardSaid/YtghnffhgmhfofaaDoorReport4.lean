/- What the document's answer reads of a report; the hour of waking. -/
import Derived.Test.YtghnffhgmhfofaaDoorReport3
namespace Go.Proofs.YtghnffhgmhfofaaDoor.Tab
set_option linter.all false
open Go Go.RowKit Go.Proofs.YtghnffhgmhfofaaDoor.Ev
abbrev begR (x w : List UInt8) : List UInt8 := if begF x w = true then x.drop w.length else []
section
variable (b : List UInt8) (hb : b.length ≤ 20000)
include hb
theorem RRead_short (h : (lines b).length ≠ 18) : T 9 [sl8 b] [] = some (.tup [.str [], pathV false [] [], pathV false [] [], .bool false], []) := by
  refine evT_of (k := 0) (F := l9) (H' := [.cells zP, .cells zP]) (e := [.str [], .ptr 0 0, .ptr 1 0, .bool false]) (l := [.str [], pathV false [] [], pathV false [] [], .bool false]) rfl rfl rfl ?_ rfl rfl
  show evL T 0 q9 _ _ = _
  have c1 := T15 b (by omega)
  have h1 : ¬ ((lines b).length : Int) = 18 := by omega
  unfold accL at c1
  simp only [q9, evL_op, evL_sel, evL_nx, evL_exit, evL_ret, evL_join, evL_block, evL_cond, evK_some, evJ_nx, evJ_rt, evJ_ex, evB_nx, evB_rt, evB_ex, evC2_bool, evS_and, evS_or, evS_tf, evS_ft, ev_t, ev_s, ev_c, evalOp, bin_add, bin_sub, bin_mul, bin_eql, bin_neq, bin_lss, bin_leq, bin_gtr, bin_geq, sbin_eql, sbin_neq, b8, List.map_cons, List.map_nil, PV.rens, PV.ren, if_true, if_false, Bool.false_eq_true, reduceIte, Nat.reduceAdd, Nat.reduceSub, Nat.reduceMul, Nat.reduceEqDiff, Nat.reduceLeDiff, Int.reduceLE, Int.reduceLT, Int.reduceEq, Int.reduceToNat, Int.reduceAdd, Int.reduceSub, Int.reduceNeg, decide_true, decide_false, Bool.not_true, Bool.not_false, Bool.true_and, Bool.false_and, Bool.and_true, Bool.and_false, Bool.or_true, Bool.true_or, Bool.or_false, Bool.false_or, and_self, and_true, true_and, Nat.le_refl, Nat.zero_add, Nat.mul_one, Nat.one_ne_zero, Nat.zero_le, highP, lowP, Option.map_some, Option.map_none, List.drop_zero, List.take_zero, List.length_cons, List.length_nil, List.nil_append, List.append_nil, List.cons_append, fillP, PV.cells?, PV.one, PV.cleans, PV.clean, PV.of?, List.all_cons, List.all_nil, List.take_succ_cons, List.drop_succ_cons, Bool.and_self, Int.natCast_nonneg, Int.toNat_natCast, Int.toNat_zero, PV.of?, Tk.ren, tailP, evL_loop, or_true, true_or, Nat.zero_lt_one, Nat.sub_zero, List.getElem?_cons_zero, List.getElem?_cons_succ, List.set_cons_zero, List.set_cons_succ, List.take_length, PV.rens, PV.ren, c1, h1]
theorem RRead_gen (h : (lines b).length = 18) {x1 x12 x14 : List UInt8} (h1 : (lines b)[1]? = some x1) (h12 : (lines b)[12]? = some x12) (h14 : (lines b)[14]? = some x14) {n : Bool} {l d : List UInt8} {m : Bool} {k e : List UInt8}
    (p1 : parseV (begR x1 cToF) = pathV n l d) (p2 : parseV (begR x14 cFinF) = pathV m k e) (hl : (begR x12 cMtaF).length + l.length + d.length + k.length + e.length ≤ 100000) :
    T 9 [sl8 b] [] = some (if (begF x12 cMtaF && begF x1 cToF && begF x14 cFinF && parseOk (begR x1 cToF) && parseOk (begR x14 cFinF) && rightR (begR x12 cMtaF) n l d m k e && decide (rep (begR x12 cMtaF) (textOf n l d) (textOf m k e) = b)) = true then .tup [.str (begR x12 cMtaF), pathV n l d, pathV m k e, .bool true] else .tup [.str [], pathV false [] [], pathV false [] [], .bool false], []) := by
  have c1 := T15 b (by omega)
  have hne : lines b ≠ [] := fun e => by rw [e] at h; simp at h
  rw [accL_cons _ hne] at c1
  have g1 := get_sl8' h1
  have g12 := get_sl8' h12
  have g14 := get_sl8' h14
  have hll := (lines_len b.length b (Nat.le_refl _)).2
  have l1 := hll x1 (List.mem_of_getElem? h1)
  have l12 := hll x12 (List.mem_of_getElem? h12)
  have l14 := hll x14 (List.mem_of_getElem? h14)
  have hn : ((lines b).length : Int) = 18 := by omega
  have t1 := T25 x1 cToF (by omega)
  have t12 := T25 x12 cMtaF (by omega)
  have t14 := T25 x14 cFinF (by omega)
  have tl1 : (begR x1 cToF).length ≤ x1.length := by unfold begR; split <;> simp
  have tl14 : (begR x14 cFinF).length ≤ x14.length := by unfold begR; split <;> simp
  have q1 := T26 (begR x1 cToF) (by omega)
  have q2 := T26 (begR x14 cFinF) (by omega)
  rw [p1] at q1
  rw [p2] at q2
  generalize parseOk (begR x1 cToF) = o1 at *
  generalize parseOk (begR x14 cFinF) = o2 at *
  change T _ _ _ = some (.tup [.str (begR x1 cToF), _], _) at t1
  change T _ _ _ = some (.tup [.str (begR x12 cMtaF), _], _) at t12
  change T _ _ _ = some (.tup [.str (begR x14 cFinF), _], _) at t14
  generalize begR x12 cMtaF = s at *
  generalize begR x1 cToF = u1 at *
  generalize begR x14 cFinF = u2 at *
  generalize begF x1 cToF = f1 at *
  generalize begF x12 cMtaF = f12 at *
  generalize begF x14 cFinF = f14 at *
  have c2 := T10 s n l d m k e hl
  have c3 := T12 s n l d m k e hl
  have c4 := T_bytes8 (rep s (textOf n l d) (textOf m k e)) b (by rw [rep_len]; have := textOf_len n l d; have := textOf_len m k e; omega)
  generalize rep s (textOf n l d) (textOf m k e) = R at *
  generalize rightR s n l d m k e = r at *
  generalize decide (R = b) = q at *
  cases hX : (f12 && f1 && f14 && o1 && o2 && r && q) with
  | true =>
    have hY : (!f12 || !f1 || !f14 || !o1 || !o2 || !r || !q) = false := by
      revert hX; cases f12 <;> cases f1 <;> cases f14 <;> cases o1 <;> cases o2 <;> cases r <;> cases q <;> decide
    rw [if_pos rfl]
    refine evT_of (k := 0) (F := l9) (H' := [.cells [.bool n, .str l, .str d], .cells [.bool m, .str k, .str e], .cells [.bool n, .str l, .str d], .cells [.bool m, .str k, .str e]]) (e := [.str s, .ptr 0 0, .ptr 1 0, .bool true]) (l := [.str s, pathV n l d, pathV m k e, .bool true]) rfl rfl rfl ?_ rfl rfl
    show evL T 0 q9 _ _ = _
    simp only [q9, ← cFrom_def, ← cTo_def, ← cSubj_def, ← cMulti_def, ← cDash_def, ← cPlain_def, ← cNo_def, ← cMsg_def, ← cMta_def, ← cFin_def, ← cAct_def, ← cSta_def, ← cEnd_def, ← cMtaF_def, ← cToF_def, ← cFinF_def, evL_op, evL_sel, evL_nx, evL_exit, evL_ret, evL_join, evL_block, evL_cond, evK_some, evJ_nx, evJ_rt, evJ_ex, evB_nx, evB_rt, evB_ex, evC2_bool, evS_and, evS_or, evS_tf, evS_ft, ev_t, ev_s, ev_c, evalOp, bin_add, bin_sub, bin_mul, bin_eql, bin_neq, bin_lss, bin_leq, bin_gtr, bin_geq, sbin_eql, sbin_neq, b8, List.map_cons, List.map_nil, PV.rens, PV.ren, if_true, if_false, Bool.false_eq_true, reduceIte, Nat.reduceAdd, Nat.reduceSub, Nat.reduceMul, Nat.reduceEqDiff, Nat.reduceLeDiff, Int.reduceLE, Int.reduceLT, Int.reduceEq, Int.reduceToNat, Int.reduceAdd, Int.reduceSub, Int.reduceNeg, decide_true, decide_false, Bool.not_true, Bool.not_false, Bool.true_and, Bool.false_and, Bool.and_true, Bool.and_false, Bool.or_true, Bool.true_or, Bool.or_false, Bool.false_or, and_self, and_true, true_and, Nat.le_refl, Nat.zero_add, Nat.mul_one, Nat.one_ne_zero, Nat.zero_le, highP, lowP, Option.map_some, Option.map_none, List.drop_zero, List.take_zero, List.length_cons, List.length_nil, List.nil_append, List.append_nil, List.cons_append, fillP, PV.cells?, PV.one, PV.cleans, PV.clean, PV.of?, List.all_cons, List.all_nil, List.take_succ_cons, List.drop_succ_cons, Bool.and_self, Int.natCast_nonneg, Int.toNat_natCast, Int.toNat_zero, PV.of?, Tk.ren, tailP, evL_loop, or_true, true_or, Nat.zero_lt_one, Nat.sub_zero, List.getElem?_cons_zero, List.getElem?_cons_succ, List.set_cons_zero, List.set_cons_succ, List.take_length, PV.rens, PV.ren, c1, c2, c3, c4, hn, g1, g12, g14, bytes8_map, b2s_if, t1, t12, t14, q1, q2, hY, Int.reduceLE, Int.reduceLT, Int.reduceToNat, PV.isBot, PV.id?, ne_eq, not_true_eq_false, not_false_eq_true, or_self]
  | false =>
    have hY : (!f12 || !f1 || !f14 || !o1 || !o2 || !r || !q) = true := by
      revert hX; cases f12 <;> cases f1 <;> cases f14 <;> cases o1 <;> cases o2 <;> cases r <;> cases q <;> decide
    rw [if_neg (by decide)]
    refine evT_of (k := 0) (F := l9) (H' := [.cells zP, .cells zP, .cells [.bool n, .str l, .str d], .cells [.bool m, .str k, .str e]]) (e := [.str [], .ptr 0 0, .ptr 1 0, .bool false]) (l := [.str [], pathV false [] [], pathV false [] [], .bool false]) rfl rfl rfl ?_ rfl rfl
    show evL T 0 q9 _ _ = _
    simp only [q9, ← cFrom_def, ← cTo_def, ← cSubj_def, ← cMulti_def, ← cDash_def, ← cPlain_def, ← cNo_def, ← cMsg_def, ← cMta_def, ← cFin_def, ← cAct_def, ← cSta_def, ← cEnd_def, ← cMtaF_def, ← cToF_def, ← cFinF_def, evL_op, evL_sel, evL_nx, evL_exit, evL_ret, evL_join, evL_block, evL_cond, evK_some, evJ_nx, evJ_rt, evJ_ex, evB_nx, evB_rt, evB_ex, evC2_bool, evS_and, evS_or, evS_tf, evS_ft, ev_t, ev_s, ev_c, evalOp, bin_add, bin_sub, bin_mul, bin_eql, bin_neq, bin_lss, bin_leq, bin_gtr, bin_geq, sbin_eql, sbin_neq, b8, List.map_cons, List.map_nil, PV.rens, PV.ren, if_true, if_false, Bool.false_eq_true, reduceIte, Nat.reduceAdd, Nat.reduceSub, Nat.reduceMul, Nat.reduceEqDiff, Nat.reduceLeDiff, Int.reduceLE, Int.reduceLT, Int.reduceEq, Int.reduceToNat, Int.reduceAdd, Int.reduceSub, Int.reduceNeg, decide_true, decide_false, Bool.not_true, Bool.not_false, Bool.true_and, Bool.false_and, Bool.and_true, Bool.and_false, Bool.or_true, Bool.true_or, Bool.or_false, Bool.false_or, and_self, and_true, true_and, Nat.le_refl, Nat.zero_add, Nat.mul_one, Nat.one_ne_zero, Nat.zero_le, highP, lowP, Option.map_some, Option.map_none, List.drop_zero, List.take_zero, List.length_cons, List.length_nil, List.nil_append, List.append_nil, List.cons_append, fillP, PV.cells?, PV.one, PV.cleans, PV.clean, PV.of?, List.all_cons, List.all_nil, List.take_succ_cons, List.drop_succ_cons, Bool.and_self, Int.natCast_nonneg, Int.toNat_natCast, Int.toNat_zero, PV.of?, Tk.ren, tailP, evL_loop, or_true, true_or, Nat.zero_lt_one, Nat.sub_zero, List.getElem?_cons_zero, List.getElem?_cons_succ, List.set_cons_zero, List.set_cons_succ, List.take_length, PV.rens, PV.ren, c1, c2, c3, c4, hn, g1, g12, g14, bytes8_map, b2s_if, t1, t12, t14, q1, q2, hY, Int.reduceLE, Int.reduceLT, Int.reduceToNat, PV.isBot, PV.id?, ne_eq, not_true_eq_false, not_false_eq_true, or_self]
theorem RRead_no (hno : ∀ s n l d m k e, rightR s n l d m k e = true → rep s (textOf n l d) (textOf m k e) ≠ b) : T 9 [sl8 b] [] = some (.tup [.str [], pathV false [] [], pathV false [] [], .bool false], []) := by
  by_cases h : (lines b).length = 18
  · have hll := (lines_len b.length b (Nat.le_refl _)).2
    obtain ⟨n, l, d, p1, k1⟩ := parseV_len (begR (lines b)[1] cToF)
    obtain ⟨m, k, e, p2, k2⟩ := parseV_len (begR (lines b)[14] cFinF)
    have b1 := hll _ (List.getElem_mem (show 1 < (lines b).length by omega))
    have b12 := hll _ (List.getElem_mem (show 12 < (lines b).length by omega))
    have b14 := hll _ (List.getElem_mem (show 14 < (lines b).length by omega))
    have u1 : (begR (lines b)[1] cToF).length ≤ ((lines b)[1]).length := by unfold begR; split <;> simp
    have u12 : (begR (lines b)[12] cMtaF).length ≤ ((lines b)[12]).length := by unfold begR; split <;> simp
    have u14 : (begR (lines b)[14] cFinF).length ≤ ((lines b)[14]).length := by unfold begR; split <;> simp
    have g := RRead_gen b hb h (List.getElem?_eq_getElem (show 1 < (lines b).length by omega)) (List.getElem?_eq_getElem (show 12 < (lines b).length by omega)) (List.getElem?_eq_getElem (show 14 < (lines b).length by omega)) p1 p2 (by omega)
    have : (rightR (begR (lines b)[12] cMtaF) n l d m k e && decide (rep (begR (lines b)[12] cMtaF) (textOf n l d) (textOf m k e) = b)) = false := by
      cases hr : rightR (begR (lines b)[12] cMtaF) n l d m k e with
      | false => rfl
      | true => rw [Bool.true_and]; exact decide_eq_false (hno _ _ _ _ _ _ _ hr)
    rw [Bool.and_assoc _ (rightR _ _ _ _ _ _ _), this, Bool.and_false, if_neg (by decide)] at g
    exact g
  · exact RRead_short b hb h
end
theorem begF_app {p w : List UInt8} (h : foldS p = w) (hl : p.length = w.length) (r : List UInt8) : begF (p ++ r) w = true ∧ begR (p ++ r) w = r := by
  have h1 : begF (p ++ r) w = true := by
    unfold begF
    rw [← hl, List.take_left, h]
    simp
    omega
  refine ⟨h1, ?_⟩
  unfold begR
  rw [if_pos h1, ← hl, List.drop_left]
theorem RRead_yes {s : List UInt8} {n : Bool} {l d : List UInt8} {m : Bool} {k e : List UInt8} (h : rightR s n l d m k e = true) (hl : s.length + l.length + d.length + k.length + e.length ≤ 4000) :
    T 9 [sl8 (rep s (textOf n l d) (textOf m k e))] [] = some (.tup [.str s, pathV n l d, pathV m k e, .bool true], []) := by
  have hL := rep_lines h
  obtain ⟨_, _, h2, h3, _⟩ := right_cl h
  have la := textOf_len n l d
  have lb := textOf_len m k e
  have p1 := parse_text h2
  have p2 := parse_text h3
  have e1 := begF_app (p := cTo) (w := cToF) (by decide) rfl (textOf n l d)
  have e12 := begF_app (p := cMta) (w := cMtaF) (by decide) rfl s
  have e14 := begF_app (p := cFin) (w := cFinF) (by decide) rfl (textOf m k e)
  have g := RRead_gen (rep s (textOf n l d) (textOf m k e)) (by rw [rep_len]; omega) (by rw [hL]; rfl) (x1 := cTo ++ textOf n l d) (x12 := cMta ++ s) (x14 := cFin ++ textOf m k e) (by rw [hL]; rfl) (by rw [hL]; rfl) (by rw [hL]; rfl)
    (by rw [e1.2]; exact p1.1) (by rw [e14.2]; exact p2.1) (by rw [e12.2]; omega)
  rw [e1.1, e12.1, e14.1, e1.2, e12.2, e14.2, p1.2, p2.2, h, decide_eq_true rfl, if_pos (by rfl)] at g
  exact g
end Go.Proofs.YtghnffhgmhfofaaDoor.Tab
