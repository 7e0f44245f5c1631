/- ReportBack: it is true. -/
import Derived.Test.YtghnffhgmhfofaaDoorPureReportExact
import Derived.Test.YtghnffhgmhfofaaDoorHead2
namespace Go.Proofs.YtghnffhgmhfofaaDoor.Tab
set_option linter.all false
open Go Go.RowKit Go.Proofs.YtghnffhgmhfofaaDoor.Ev
theorem rep_tail (s a b : List UInt8) : ∃ Y, rep s a b = Y ++ [45, 13, 10] := by
  have h : repL s a b = [cFrom ++ s ++ [62], cTo ++ a, cSubj, cMulti, [], cDash, cPlain, [], cNo ++ b ++ [46], cDash, cMsg, [], cMta ++ s, [], cFin ++ b, cAct, cSta] ++ [cEnd] := rfl
  unfold rep
  rw [h, join_app, join_one, cEnd_def]
  exact ⟨join [cFrom ++ s ++ [62], cTo ++ a, cSubj, cMulti, [], cDash, cPlain, [], cNo ++ b ++ [46], cDash, cMsg, [], cMta ++ s, [], cFin ++ b, cAct, cSta] ++ [45, 45, 119, 45], by simp⟩
theorem scan_rep (s a b : List UInt8) : ∃ o, (scanGo [] 0 (repL s a b)).1 = o ∧ o.length = 4 := by
  have n0 : nameF (cFrom ++ s ++ [62]) = ([70, 114, 111, 109], [32, 60, 112, 111, 115, 116, 109, 97, 115, 116, 101, 114, 64] ++ s ++ [62], true) := rfl
  have n1 : nameF (cTo ++ a) = ([84, 111], 32 :: a, true) := rfl
  have n2 : ∃ k v, nameF cSubj = (k, v, true) := ⟨_, _, rfl⟩
  have n3 : ∃ k v, nameF cMulti = (k, v, true) := ⟨_, _, rfl⟩
  obtain ⟨k2, v2, n2⟩ := n2
  obtain ⟨k3, v3, n3⟩ := n3
  refine ⟨_, rfl, ?_⟩
  unfold repL
  rw [scan_is (by rw [n0]), scan_is (by rw [n1]), scan_is (by rw [n2]), scan_is (by rw [n3]), scan_end rfl rfl, if_pos rfl]
  rfl
theorem lawReportBack (s : List UInt8) (hs : s.length ≤ room) (p : Bool × List UInt8 × List UInt8) (hp : True ∧ p.2.1.length ≤ room ∧ p.2.2.length ≤ room) (q : Bool × List UInt8 × List UInt8) (hq : True ∧ q.2.1.length ≤ room ∧ q.2.2.length ≤ room) (c : UInt8) :
    evT lt ov 5 [.str s, .agg ([.bool p.1] ++ ([.str p.2.1] ++ [.str p.2.2])), .agg ([.bool q.1] ++ ([.str q.2.1] ++ [.str q.2.2])), .int .u8 c.toNat] [] = some (.bool true, []) := by
  obtain ⟨n, l, d⟩ := p
  obtain ⟨m, k, e⟩ := q
  obtain ⟨_, hl, hd⟩ := hp
  obtain ⟨_, hk, he⟩ := hq
  simp only at hl hd hk he
  show T 5 [.str s, pathV n l d, pathV m k e, .int .u8 c.toNat] [] = _
  have fin : ∀ {H : Hp}, evL T 0 q5 [.str s, pathV n l d, pathV m k e, .int .u8 c.toNat] [] = some (.rt, [.bool true], H) → T 5 [.str s, pathV n l d, pathV m k e, .int .u8 c.toNat] [] = some (.bool true, []) := fun {H} h =>
    evT_of (k := 0) (F := l5) (H' := H) (e := [.bool true]) (l := [.bool true]) rfl rfl rfl h rfl rfl
  have w1 : IntKind.i64.wrap ((s.length : Int) + l.length) = s.length + l.length := wr (by omega) (by unfold room at *; omega)
  have w2 : IntKind.i64.wrap ((s.length : Int) + l.length + d.length) = s.length + l.length + d.length := wr (by omega) (by unfold room at *; omega)
  have w3 : IntKind.i64.wrap ((s.length : Int) + l.length + d.length + k.length) = s.length + l.length + d.length + k.length := wr (by omega) (by unfold room at *; omega)
  have w4 : IntKind.i64.wrap ((s.length : Int) + l.length + d.length + k.length + e.length) = s.length + l.length + d.length + k.length + e.length := wr (by omega) (by unfold room at *; omega)
  by_cases h1 : (2000 : Int) < s.length + l.length + d.length + k.length + e.length
  · apply fin
    simp only [q5, evL_op, evL_sel, evL_nx, evL_exit, evL_ret, evL_join, evL_block, evL_cond, evK_some, evJ_nx, evJ_rt, evJ_ex, evB_nx, evB_rt, evB_ex, evC2_bool, evS_and, evS_or, evS_tf, evS_ft, ev_t, ev_s, ev_c, evalOp, bin_add, bin_sub, bin_mul, bin_eql, bin_neq, bin_lss, bin_leq, bin_gtr, bin_geq, sbin_eql, sbin_neq, b8, List.map_cons, List.map_nil, PV.rens, PV.ren, if_true, if_false, Bool.false_eq_true, reduceIte, Nat.reduceAdd, Nat.reduceSub, Nat.reduceMul, Nat.reduceEqDiff, Nat.reduceLeDiff, Int.reduceLE, Int.reduceLT, Int.reduceEq, Int.reduceToNat, Int.reduceAdd, Int.reduceSub, Int.reduceNeg, decide_true, decide_false, Bool.not_true, Bool.not_false, Bool.true_and, Bool.false_and, Bool.and_true, Bool.and_false, Bool.or_true, Bool.true_or, Bool.or_false, Bool.false_or, and_self, and_true, true_and, Nat.le_refl, Nat.zero_add, Nat.mul_one, Nat.one_ne_zero, Nat.zero_le, highP, lowP, Option.map_some, Option.map_none, List.drop_zero, List.take_zero, List.length_cons, List.length_nil, List.nil_append, List.append_nil, List.cons_append, fillP, PV.cells?, PV.one, PV.cleans, PV.clean, PV.of?, List.all_cons, List.all_nil, List.take_succ_cons, List.drop_succ_cons, Bool.and_self, Int.natCast_nonneg, Int.toNat_natCast, Int.toNat_zero, PV.of?, Tk.ren, tailP, evL_loop, or_true, true_or, Nat.zero_lt_one, Nat.sub_zero, List.getElem?_cons_zero, List.getElem?_cons_succ, List.set_cons_zero, List.set_cons_succ, List.take_length, PV.rens, PV.ren, w1, w2, w3, w4, h1] <;> rfl
  cases hr : rightR s n l d m k e with
  | false =>
    have c6 := Build_no s n l d m k e (by omega) hr
    apply fin
    simp only [q5, evL_op, evL_sel, evL_nx, evL_exit, evL_ret, evL_join, evL_block, evL_cond, evK_some, evJ_nx, evJ_rt, evJ_ex, evB_nx, evB_rt, evB_ex, evC2_bool, evS_and, evS_or, evS_tf, evS_ft, ev_t, ev_s, ev_c, evalOp, bin_add, bin_sub, bin_mul, bin_eql, bin_neq, bin_lss, bin_leq, bin_gtr, bin_geq, sbin_eql, sbin_neq, b8, List.map_cons, List.map_nil, PV.rens, PV.ren, if_true, if_false, Bool.false_eq_true, reduceIte, Nat.reduceAdd, Nat.reduceSub, Nat.reduceMul, Nat.reduceEqDiff, Nat.reduceLeDiff, Int.reduceLE, Int.reduceLT, Int.reduceEq, Int.reduceToNat, Int.reduceAdd, Int.reduceSub, Int.reduceNeg, decide_true, decide_false, Bool.not_true, Bool.not_false, Bool.true_and, Bool.false_and, Bool.and_true, Bool.and_false, Bool.or_true, Bool.true_or, Bool.or_false, Bool.false_or, and_self, and_true, true_and, Nat.le_refl, Nat.zero_add, Nat.mul_one, Nat.one_ne_zero, Nat.zero_le, highP, lowP, Option.map_some, Option.map_none, List.drop_zero, List.take_zero, List.length_cons, List.length_nil, List.nil_append, List.append_nil, List.cons_append, fillP, PV.cells?, PV.one, PV.cleans, PV.clean, PV.of?, List.all_cons, List.all_nil, List.take_succ_cons, List.drop_succ_cons, Bool.and_self, Int.natCast_nonneg, Int.toNat_natCast, Int.toNat_zero, PV.of?, Tk.ren, tailP, evL_loop, or_true, true_or, Nat.zero_lt_one, Nat.sub_zero, List.getElem?_cons_zero, List.getElem?_cons_succ, List.set_cons_zero, List.set_cons_succ, List.take_length, PV.rens, PV.ren, w1, w2, w3, w4, h1, c6, T_wakes, o0] <;> rfl
  | true =>
    have c6 := Build_yes s n l d m k e (by omega) hr
    have c2 := Read_yes hr (by omega)
    have la := textOf_len n l d
    have lb := textOf_len m k e
    have hrl := rep_len s (textOf n l d) (textOf m k e)
    have hlines := rep_lines hr
    obtain ⟨_, _, _, _, q1, q2, q3⟩ := right_cl hr
    have hbody : body (rep s (textOf n l d) (textOf m k e)) = true := body_join (repL_cl q1 q2 q3)
    have c3 := T16_yes _ (by rw [hrl]; omega) hbody
    have c4 := T17 (rep s (textOf n l d) (textOf m k e)) (by rw [hrl]; omega)
    rw [if_pos hbody] at c4
    rw [hlines] at c3
    obtain ⟨o, ho, ho4⟩ := scan_rep s (textOf n l d) (textOf m k e)
    rw [ho] at c3
    have hone : o ≠ [] := fun e => by rw [e] at ho4; cases ho4
    unfold outR at c3
    rw [if_neg hone, if_neg hone, ho4] at c3
    generalize (scanGo [] 0 (repL s (textOf n l d) (textOf m k e))).2 = en at c3
    have c9 := fun (n m : Bool) (l d k e : List UInt8) => T13 n m l d k e
    obtain ⟨Y, hY⟩ := rep_tail s (textOf n l d) (textOf m k e)
    rw [hY] at c2 c3 c4 c6 hrl
    clear hlines hbody ho hY
    have hlen : (Y ++ [45, 13, 10]).length = Y.length + 3 := by simp
    have d1 := Read_no (Y ++ [45, 13]) (by simp; omega) (fun s' n' l' d' m' k' e' _ he => by
      obtain ⟨Y', h2⟩ := rep_tail s' (textOf n' l' d') (textOf m' k' e')
      rw [h2] at he
      have := congrArg List.reverse he
      simp at this)
    have d2 := Read_no (Y ++ [45, 13, 10] ++ [c]) (by simp; omega) (fun s' n' l' d' m' k' e' _ he => by
      obtain ⟨Y', h2⟩ := rep_tail s' (textOf n' l' d') (textOf m' k' e')
      rw [h2] at he
      have := congrArg List.reverse he
      simp at this)
    have c5 := T6 (BS.sl (Y ++ [45, 13, 10])) (by omega)
    have e1 : ((Y ++ [45, 13, 10]).map b8).take (Y.length + 2) = (Y ++ [45, 13]).map b8 := by
      rw [← List.map_take, List.take_append, List.take_of_length_le (by omega), show Y.length + 2 - Y.length = 2 by omega]; rfl
    have e2 : (Y ++ [45, 13]).length = Y.length + 2 := by simp
    have e3 : (Y ++ [45, 13, 10] ++ [c]).length = Y.length + 4 := by simp
    have e4 : (Y ++ [45, 13, 10]).map b8 ++ [.int .u8 c.toNat] = (Y ++ [45, 13, 10] ++ [c]).map b8 := by simp only [List.map_append, List.map_cons, List.map_nil]; rfl
    unfold sl8 at d1 d2
    rw [e2] at d1
    rw [e3] at d2
    generalize (Y ++ [45, 13, 10] ++ [c]).map b8 = B2 at *
    generalize (Y ++ [45, 13]).map b8 = B1 at *
    generalize Y ++ [45, 13, 10] = R at *
    have g0 : ¬ ((R.length : Int) = 0) := by omega
    have w5 : IntKind.i64.wrap ((R.length : Int) - 1) = ((Y.length + 2 : Nat) : Int) := by rw [wr (by omega) (by omega)]; omega
    have g1 : ((Y.length + 2 : Nat) : Int) ≤ R.length := by omega
    have g2 : Y.length + 4 ≤ roomMax := by unfold roomMax; omega
    have g3 : R.length + 1 = Y.length + 4 := by omega
    have o4 : ((4 : Nat) : Int) = 4 := rfl
    apply fin
    simp only [q5, evL_op, evL_sel, evL_nx, evL_exit, evL_ret, evL_join, evL_block, evL_cond, evK_some, evJ_nx, evJ_rt, evJ_ex, evB_nx, evB_rt, evB_ex, evC2_bool, evS_and, evS_or, evS_tf, evS_ft, ev_t, ev_s, ev_c, evalOp, bin_add, bin_sub, bin_mul, bin_eql, bin_neq, bin_lss, bin_leq, bin_gtr, bin_geq, sbin_eql, sbin_neq, b8, List.map_cons, List.map_nil, PV.rens, PV.ren, if_true, if_false, Bool.false_eq_true, reduceIte, Nat.reduceAdd, Nat.reduceSub, Nat.reduceMul, Nat.reduceEqDiff, Nat.reduceLeDiff, Int.reduceLE, Int.reduceLT, Int.reduceEq, Int.reduceToNat, Int.reduceAdd, Int.reduceSub, Int.reduceNeg, decide_true, decide_false, Bool.not_true, Bool.not_false, Bool.true_and, Bool.false_and, Bool.and_true, Bool.and_false, Bool.or_true, Bool.true_or, Bool.or_false, Bool.false_or, and_self, and_true, true_and, Nat.le_refl, Nat.zero_add, Nat.mul_one, Nat.one_ne_zero, Nat.zero_le, highP, lowP, Option.map_some, Option.map_none, List.drop_zero, List.take_zero, List.length_cons, List.length_nil, List.nil_append, List.append_nil, List.cons_append, fillP, PV.cells?, PV.one, PV.cleans, PV.clean, PV.of?, List.all_cons, List.all_nil, List.take_succ_cons, List.drop_succ_cons, Bool.and_self, Int.natCast_nonneg, Int.toNat_natCast, Int.toNat_zero, PV.of?, Tk.ren, tailP, evL_loop, or_true, true_or, Nat.zero_lt_one, Nat.sub_zero, List.getElem?_cons_zero, List.getElem?_cons_succ, List.set_cons_zero, List.set_cons_succ, List.take_length, PV.rens, PV.ren, w1, w2, w3, w4, w5, h1, c2, c3, c4, c5, c6, c9, d1, d2, e1, e4, g0, g1, g2, g3, o4, shift, Nat.add_zero, T_wakes, beq_self_eq_true, eq_self, o0] <;> rfl
end Go.Proofs.YtghnffhgmhfofaaDoor.Tab
