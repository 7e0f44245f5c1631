/- ReportExact: it is true. -/
import Derived.Test.YtghnffhgmhfofaaDoorReport4
namespace Go.Proofs.YtghnffhgmhfofaaDoor.Tab
set_option linter.all false
open Go Go.RowKit Go.Proofs.YtghnffhgmhfofaaDoor.Ev
theorem o0 : ((0 : Nat) : Int) = 0 := rfl
theorem right1 : rightR [115] false [97] [120] false [98] [121] = true := by decide
theorem T_wakes : T 14 [] [] = some (.bool true, []) := by
  have c1 := Build_yes [115] false [97] [120] false [98] [121] (by decide) right1
  have c2 := Read_yes right1 (by decide)
  have c3 := fun (n m : Bool) (l d k e : List UInt8) => T13 n m l d k e
  have hL := rep_lines right1
  have c4 := T15 (rep [115] (textOf false [97] [120]) (textOf false [98] [121])) (by rw [rep_len]; decide)
  rw [hL] at c4
  unfold accL at c4
  have c4' : T 15 [sl8 (rep [115] (textOf false [97] [120]) (textOf false [98] [121]))] [] = some (.sl (.tok 0) 1 18 ((repL [115] (textOf false [97] [120]) (textOf false [98] [121])).map fun l => sl8 l), [.tok]) := c4
  generalize (repL [115] (textOf false [97] [120]) (textOf false [98] [121])).map (fun l => sl8 l) = Q at c4'
  generalize rep [115] (textOf false [97] [120]) (textOf false [98] [121]) = R at *
  have fin : ∀ {H : Hp}, evL T 0 q14 [] [] = some (.rt, [.bool true], H) → T 14 [] [] = some (.bool true, []) := fun {H} h =>
    evT_of (k := 0) (F := l14) (H' := H) (e := [.bool true]) (l := [.bool true]) rfl rfl rfl h rfl rfl
  apply fin
  simp only [q14, evL_op, evL_sel, evL_nx, evL_exit, evL_ret, evL_join, evL_block, evL_cond, evK_some, evJ_nx, evJ_rt, evJ_ex, evB_nx, evB_rt, evB_ex, evC2_bool, evS_and, evS_or, evS_tf, evS_ft, ev_t, ev_s, ev_c, evalOp, bin_add, bin_sub, bin_mul, bin_eql, bin_neq, bin_lss, bin_leq, bin_gtr, bin_geq, sbin_eql, sbin_neq, b8, List.map_cons, List.map_nil, PV.rens, PV.ren, if_true, if_false, Bool.false_eq_true, reduceIte, Nat.reduceAdd, Nat.reduceSub, Nat.reduceMul, Nat.reduceEqDiff, Nat.reduceLeDiff, Int.reduceLE, Int.reduceLT, Int.reduceEq, Int.reduceToNat, Int.reduceAdd, Int.reduceSub, Int.reduceNeg, decide_true, decide_false, Bool.not_true, Bool.not_false, Bool.true_and, Bool.false_and, Bool.and_true, Bool.and_false, Bool.or_true, Bool.true_or, Bool.or_false, Bool.false_or, and_self, and_true, true_and, Nat.le_refl, Nat.zero_add, Nat.mul_one, Nat.one_ne_zero, Nat.zero_le, highP, lowP, Option.map_some, Option.map_none, List.drop_zero, List.take_zero, List.length_cons, List.length_nil, List.nil_append, List.append_nil, List.cons_append, fillP, PV.cells?, PV.one, PV.cleans, PV.clean, PV.of?, List.all_cons, List.all_nil, List.take_succ_cons, List.drop_succ_cons, Bool.and_self, Int.natCast_nonneg, Int.toNat_natCast, Int.toNat_zero, PV.of?, Tk.ren, tailP, evL_loop, or_true, true_or, Nat.zero_lt_one, Nat.sub_zero, List.getElem?_cons_zero, List.getElem?_cons_succ, List.set_cons_zero, List.set_cons_succ, List.take_length, PV.rens, PV.ren, c1, c2, c3, c4', beq_self_eq_true, eq_self, Bool.false_xor, Bool.false_bne, Int.lt_irrefl, o0] <;> rfl
theorem lawReportExact (s : List UInt8) (hs : s.length ≤ room) (p : Bool × List UInt8 × List UInt8) (hp : True ∧ p.2.1.length ≤ room ∧ p.2.2.length ≤ room) (q : Bool × List UInt8 × List UInt8) (hq : True ∧ q.2.1.length ≤ room ∧ q.2.2.length ≤ room)
    (b : List UInt8) (hb : b.length ≤ room ∧ ∀ y ∈ b, True) :
    evT lt ov 3 [.str s, .agg ([.bool p.1] ++ ([.str p.2.1] ++ [.str p.2.2])), .agg ([.bool q.1] ++ ([.str q.2.1] ++ [.str q.2.2])), .sl .no 1 b.length (b.map b8)] [] = some (.bool true, []) := by
  obtain ⟨n, l, d⟩ := p
  obtain ⟨m, k, e⟩ := q
  obtain ⟨_, hl, hd⟩ := hp
  obtain ⟨_, hk, he⟩ := hq
  obtain ⟨hb, _⟩ := hb
  simp only at hl hd hk he
  show T 3 [.str s, pathV n l d, pathV m k e, sl8 b] [] = _
  have fin : ∀ {H : Hp}, evL T 0 q3 [.str s, pathV n l d, pathV m k e, sl8 b] [] = some (.rt, [.bool true], H) → T 3 [.str s, pathV n l d, pathV m k e, sl8 b] [] = some (.bool true, []) := fun {H} h =>
    evT_of (k := 0) (F := l3) (H' := H) (e := [.bool true]) (l := [.bool true]) rfl rfl rfl h rfl rfl
  have w1 : IntKind.i64.wrap ((s.length : Int) + l.length) = s.length + l.length := wr (by omega) (by unfold room at *; omega)
  have w2 : IntKind.i64.wrap ((s.length : Int) + l.length + d.length) = s.length + l.length + d.length := wr (by omega) (by unfold room at *; omega)
  have w3 : IntKind.i64.wrap ((s.length : Int) + l.length + d.length + k.length) = s.length + l.length + d.length + k.length := wr (by omega) (by unfold room at *; omega)
  have w4 : IntKind.i64.wrap ((s.length : Int) + l.length + d.length + k.length + e.length) = s.length + l.length + d.length + k.length + e.length := wr (by omega) (by unfold room at *; omega)
  by_cases h1 : (2000 : Int) < s.length + l.length + d.length + k.length + e.length
  · apply fin
    simp only [q3, evL_op, evL_sel, evL_nx, evL_exit, evL_ret, evL_join, evL_block, evL_cond, evK_some, evJ_nx, evJ_rt, evJ_ex, evB_nx, evB_rt, evB_ex, evC2_bool, evS_and, evS_or, evS_tf, evS_ft, ev_t, ev_s, ev_c, evalOp, bin_add, bin_sub, bin_mul, bin_eql, bin_neq, bin_lss, bin_leq, bin_gtr, bin_geq, sbin_eql, sbin_neq, b8, List.map_cons, List.map_nil, PV.rens, PV.ren, if_true, if_false, Bool.false_eq_true, reduceIte, Nat.reduceAdd, Nat.reduceSub, Nat.reduceMul, Nat.reduceEqDiff, Nat.reduceLeDiff, Int.reduceLE, Int.reduceLT, Int.reduceEq, Int.reduceToNat, Int.reduceAdd, Int.reduceSub, Int.reduceNeg, decide_true, decide_false, Bool.not_true, Bool.not_false, Bool.true_and, Bool.false_and, Bool.and_true, Bool.and_false, Bool.or_true, Bool.true_or, Bool.or_false, Bool.false_or, and_self, and_true, true_and, Nat.le_refl, Nat.zero_add, Nat.mul_one, Nat.one_ne_zero, Nat.zero_le, highP, lowP, Option.map_some, Option.map_none, List.drop_zero, List.take_zero, List.length_cons, List.length_nil, List.nil_append, List.append_nil, List.cons_append, fillP, PV.cells?, PV.one, PV.cleans, PV.clean, PV.of?, List.all_cons, List.all_nil, List.take_succ_cons, List.drop_succ_cons, Bool.and_self, Int.natCast_nonneg, Int.toNat_natCast, Int.toNat_zero, PV.of?, Tk.ren, tailP, evL_loop, or_true, true_or, Nat.zero_lt_one, Nat.sub_zero, List.getElem?_cons_zero, List.getElem?_cons_succ, List.set_cons_zero, List.set_cons_succ, List.take_length, PV.rens, PV.ren, w1, w2, w3, w4, h1] <;> rfl
  by_cases h2 : (3000 : Int) < b.length
  · apply fin
    simp only [q3, evL_op, evL_sel, evL_nx, evL_exit, evL_ret, evL_join, evL_block, evL_cond, evK_some, evJ_nx, evJ_rt, evJ_ex, evB_nx, evB_rt, evB_ex, evC2_bool, evS_and, evS_or, evS_tf, evS_ft, ev_t, ev_s, ev_c, evalOp, bin_add, bin_sub, bin_mul, bin_eql, bin_neq, bin_lss, bin_leq, bin_gtr, bin_geq, sbin_eql, sbin_neq, b8, List.map_cons, List.map_nil, PV.rens, PV.ren, if_true, if_false, Bool.false_eq_true, reduceIte, Nat.reduceAdd, Nat.reduceSub, Nat.reduceMul, Nat.reduceEqDiff, Nat.reduceLeDiff, Int.reduceLE, Int.reduceLT, Int.reduceEq, Int.reduceToNat, Int.reduceAdd, Int.reduceSub, Int.reduceNeg, decide_true, decide_false, Bool.not_true, Bool.not_false, Bool.true_and, Bool.false_and, Bool.and_true, Bool.and_false, Bool.or_true, Bool.true_or, Bool.or_false, Bool.false_or, and_self, and_true, true_and, Nat.le_refl, Nat.zero_add, Nat.mul_one, Nat.one_ne_zero, Nat.zero_le, highP, lowP, Option.map_some, Option.map_none, List.drop_zero, List.take_zero, List.length_cons, List.length_nil, List.nil_append, List.append_nil, List.cons_append, fillP, PV.cells?, PV.one, PV.cleans, PV.clean, PV.of?, List.all_cons, List.all_nil, List.take_succ_cons, List.drop_succ_cons, Bool.and_self, Int.natCast_nonneg, Int.toNat_natCast, Int.toNat_zero, PV.of?, Tk.ren, tailP, evL_loop, or_true, true_or, Nat.zero_lt_one, Nat.sub_zero, List.getElem?_cons_zero, List.getElem?_cons_succ, List.set_cons_zero, List.set_cons_succ, List.take_length, PV.rens, PV.ren, w1, w2, w3, w4, h1, h2] <;> rfl
  have c1 := T6 (BS.sl b) (by omega)
  have c4 := T10 s n l d m k e (by omega)
  have c5 := T12 s n l d m k e (by omega)
  have c8 := T_bytes8 b b (by omega)
  have c9 := fun (n m : Bool) (l d k e : List UInt8) => T13 n m l d k e
  have cc : (∃ s' n' l' d' m' k' e', T 8 [sl8 b] [] = some (.tup [.str s', pathV n' l' d', pathV m' k' e', .int .i64 0], []) ∧ T 9 [sl8 b] [] = some (.tup [.str s', pathV n' l' d', pathV m' k' e', .bool true], [])) ∨
      (T 8 [sl8 b] [] = some (.tup [.str [], pathV false [] [], pathV false [] [], .int .i64 5], []) ∧ T 9 [sl8 b] [] = some (.tup [.str [], pathV false [] [], pathV false [] [], .bool false], [])) := by
    by_cases hx : ∃ s n l d m k e, rightR s n l d m k e = true ∧ rep s (textOf n l d) (textOf m k e) = b
    · obtain ⟨s, n, l, d, m, k, e, hr, rfl⟩ := hx
      obtain ⟨hn, hm, _⟩ := right_cl hr
      subst hn hm
      rw [rep_len] at h2
      have e1 : (textOf false l d).length = l.length + d.length + 3 := by unfold textOf; rw [if_neg (by decide)]; simp; omega
      have e2 : (textOf false k e).length = k.length + e.length + 3 := by unfold textOf; rw [if_neg (by decide)]; simp; omega
      exact .inl ⟨s, _, _, _, _, _, _, Read_yes hr (by omega), RRead_yes hr (by omega)⟩
    · have hno : ∀ s n l d m k e, rightR s n l d m k e = true → rep s (textOf n l d) (textOf m k e) ≠ b := fun s n l d m k e hr he => hx ⟨s, n, l, d, m, k, e, hr, he⟩
      exact .inr ⟨Read_no b (by omega) hno, RRead_no b (by omega) hno⟩
  rcases cc with ⟨s', n', l', d', m', k', e', c2, c3⟩ | ⟨c2, c3⟩
  · cases hr : rightR s n l d m k e with
    | false =>
      have c6 := Build_no s n l d m k e (by omega) hr
      rw [hr] at c4
      apply fin
      simp only [q3, evL_op, evL_sel, evL_nx, evL_exit, evL_ret, evL_join, evL_block, evL_cond, evK_some, evJ_nx, evJ_rt, evJ_ex, evB_nx, evB_rt, evB_ex, evC2_bool, evS_and, evS_or, evS_tf, evS_ft, ev_t, ev_s, ev_c, evalOp, bin_add, bin_sub, bin_mul, bin_eql, bin_neq, bin_lss, bin_leq, bin_gtr, bin_geq, sbin_eql, sbin_neq, b8, List.map_cons, List.map_nil, PV.rens, PV.ren, if_true, if_false, Bool.false_eq_true, reduceIte, Nat.reduceAdd, Nat.reduceSub, Nat.reduceMul, Nat.reduceEqDiff, Nat.reduceLeDiff, Int.reduceLE, Int.reduceLT, Int.reduceEq, Int.reduceToNat, Int.reduceAdd, Int.reduceSub, Int.reduceNeg, decide_true, decide_false, Bool.not_true, Bool.not_false, Bool.true_and, Bool.false_and, Bool.and_true, Bool.and_false, Bool.or_true, Bool.true_or, Bool.or_false, Bool.false_or, and_self, and_true, true_and, Nat.le_refl, Nat.zero_add, Nat.mul_one, Nat.one_ne_zero, Nat.zero_le, highP, lowP, Option.map_some, Option.map_none, List.drop_zero, List.take_zero, List.length_cons, List.length_nil, List.nil_append, List.append_nil, List.cons_append, fillP, PV.cells?, PV.one, PV.cleans, PV.clean, PV.of?, List.all_cons, List.all_nil, List.take_succ_cons, List.drop_succ_cons, Bool.and_self, Int.natCast_nonneg, Int.toNat_natCast, Int.toNat_zero, PV.of?, Tk.ren, tailP, evL_loop, or_true, true_or, Nat.zero_lt_one, Nat.sub_zero, List.getElem?_cons_zero, List.getElem?_cons_succ, List.set_cons_zero, List.set_cons_succ, List.take_length, PV.rens, PV.ren, w1, w2, w3, w4, h1, h2, c1, c2, c3, c4, c6, c8, c9, T_wakes, beq_self_eq_true, eq_self, Bool.false_xor, Bool.false_bne, Int.lt_irrefl, o0] <;> rfl
    | true =>
      have c6 := Build_yes s n l d m k e (by omega) hr
      have c7 := T_bytes8 (rep s (textOf n l d) (textOf m k e)) (rep s (textOf n l d) (textOf m k e)) (by rw [rep_len]; have := textOf_len n l d; have := textOf_len m k e; omega)
      rw [hr] at c4
      generalize rep s (textOf n l d) (textOf m k e) = R at *
      apply fin
      simp only [q3, evL_op, evL_sel, evL_nx, evL_exit, evL_ret, evL_join, evL_block, evL_cond, evK_some, evJ_nx, evJ_rt, evJ_ex, evB_nx, evB_rt, evB_ex, evC2_bool, evS_and, evS_or, evS_tf, evS_ft, ev_t, ev_s, ev_c, evalOp, bin_add, bin_sub, bin_mul, bin_eql, bin_neq, bin_lss, bin_leq, bin_gtr, bin_geq, sbin_eql, sbin_neq, b8, List.map_cons, List.map_nil, PV.rens, PV.ren, if_true, if_false, Bool.false_eq_true, reduceIte, Nat.reduceAdd, Nat.reduceSub, Nat.reduceMul, Nat.reduceEqDiff, Nat.reduceLeDiff, Int.reduceLE, Int.reduceLT, Int.reduceEq, Int.reduceToNat, Int.reduceAdd, Int.reduceSub, Int.reduceNeg, decide_true, decide_false, Bool.not_true, Bool.not_false, Bool.true_and, Bool.false_and, Bool.and_true, Bool.and_false, Bool.or_true, Bool.true_or, Bool.or_false, Bool.false_or, and_self, and_true, true_and, Nat.le_refl, Nat.zero_add, Nat.mul_one, Nat.one_ne_zero, Nat.zero_le, highP, lowP, Option.map_some, Option.map_none, List.drop_zero, List.take_zero, List.length_cons, List.length_nil, List.nil_append, List.append_nil, List.cons_append, fillP, PV.cells?, PV.one, PV.cleans, PV.clean, PV.of?, List.all_cons, List.all_nil, List.take_succ_cons, List.drop_succ_cons, Bool.and_self, Int.natCast_nonneg, Int.toNat_natCast, Int.toNat_zero, PV.of?, Tk.ren, tailP, evL_loop, or_true, true_or, Nat.zero_lt_one, Nat.sub_zero, List.getElem?_cons_zero, List.getElem?_cons_succ, List.set_cons_zero, List.set_cons_succ, List.take_length, PV.rens, PV.ren, w1, w2, w3, w4, h1, h2, c1, c2, c3, c4, c5, c6, c7, c8, c9, T_wakes, beq_self_eq_true, eq_self, Bool.false_xor, Bool.false_bne, Int.lt_irrefl, o0] <;> rfl
  · cases hr : rightR s n l d m k e with
    | false =>
      have c6 := Build_no s n l d m k e (by omega) hr
      rw [hr] at c4
      apply fin
      simp only [q3, evL_op, evL_sel, evL_nx, evL_exit, evL_ret, evL_join, evL_block, evL_cond, evK_some, evJ_nx, evJ_rt, evJ_ex, evB_nx, evB_rt, evB_ex, evC2_bool, evS_and, evS_or, evS_tf, evS_ft, ev_t, ev_s, ev_c, evalOp, bin_add, bin_sub, bin_mul, bin_eql, bin_neq, bin_lss, bin_leq, bin_gtr, bin_geq, sbin_eql, sbin_neq, b8, List.map_cons, List.map_nil, PV.rens, PV.ren, if_true, if_false, Bool.false_eq_true, reduceIte, Nat.reduceAdd, Nat.reduceSub, Nat.reduceMul, Nat.reduceEqDiff, Nat.reduceLeDiff, Int.reduceLE, Int.reduceLT, Int.reduceEq, Int.reduceToNat, Int.reduceAdd, Int.reduceSub, Int.reduceNeg, decide_true, decide_false, Bool.not_true, Bool.not_false, Bool.true_and, Bool.false_and, Bool.and_true, Bool.and_false, Bool.or_true, Bool.true_or, Bool.or_false, Bool.false_or, and_self, and_true, true_and, Nat.le_refl, Nat.zero_add, Nat.mul_one, Nat.one_ne_zero, Nat.zero_le, highP, lowP, Option.map_some, Option.map_none, List.drop_zero, List.take_zero, List.length_cons, List.length_nil, List.nil_append, List.append_nil, List.cons_append, fillP, PV.cells?, PV.one, PV.cleans, PV.clean, PV.of?, List.all_cons, List.all_nil, List.take_succ_cons, List.drop_succ_cons, Bool.and_self, Int.natCast_nonneg, Int.toNat_natCast, Int.toNat_zero, PV.of?, Tk.ren, tailP, evL_loop, or_true, true_or, Nat.zero_lt_one, Nat.sub_zero, List.getElem?_cons_zero, List.getElem?_cons_succ, List.set_cons_zero, List.set_cons_succ, List.take_length, PV.rens, PV.ren, w1, w2, w3, w4, h1, h2, c1, c2, c3, c4, c6, c8, c9, T_wakes, beq_self_eq_true, eq_self, Bool.false_xor, Bool.false_bne, Int.lt_irrefl, o0] <;> rfl
    | true =>
      have c6 := Build_yes s n l d m k e (by omega) hr
      have c7 := T_bytes8 (rep s (textOf n l d) (textOf m k e)) (rep s (textOf n l d) (textOf m k e)) (by rw [rep_len]; have := textOf_len n l d; have := textOf_len m k e; omega)
      rw [hr] at c4
      generalize rep s (textOf n l d) (textOf m k e) = R at *
      apply fin
      simp only [q3, evL_op, evL_sel, evL_nx, evL_exit, evL_ret, evL_join, evL_block, evL_cond, evK_some, evJ_nx, evJ_rt, evJ_ex, evB_nx, evB_rt, evB_ex, evC2_bool, evS_and, evS_or, evS_tf, evS_ft, ev_t, ev_s, ev_c, evalOp, bin_add, bin_sub, bin_mul, bin_eql, bin_neq, bin_lss, bin_leq, bin_gtr, bin_geq, sbin_eql, sbin_neq, b8, List.map_cons, List.map_nil, PV.rens, PV.ren, if_true, if_false, Bool.false_eq_true, reduceIte, Nat.reduceAdd, Nat.reduceSub, Nat.reduceMul, Nat.reduceEqDiff, Nat.reduceLeDiff, Int.reduceLE, Int.reduceLT, Int.reduceEq, Int.reduceToNat, Int.reduceAdd, Int.reduceSub, Int.reduceNeg, decide_true, decide_false, Bool.not_true, Bool.not_false, Bool.true_and, Bool.false_and, Bool.and_true, Bool.and_false, Bool.or_true, Bool.true_or, Bool.or_false, Bool.false_or, and_self, and_true, true_and, Nat.le_refl, Nat.zero_add, Nat.mul_one, Nat.one_ne_zero, Nat.zero_le, highP, lowP, Option.map_some, Option.map_none, List.drop_zero, List.take_zero, List.length_cons, List.length_nil, List.nil_append, List.append_nil, List.cons_append, fillP, PV.cells?, PV.one, PV.cleans, PV.clean, PV.of?, List.all_cons, List.all_nil, List.take_succ_cons, List.drop_succ_cons, Bool.and_self, Int.natCast_nonneg, Int.toNat_natCast, Int.toNat_zero, PV.of?, Tk.ren, tailP, evL_loop, or_true, true_or, Nat.zero_lt_one, Nat.sub_zero, List.getElem?_cons_zero, List.getElem?_cons_succ, List.set_cons_zero, List.set_cons_succ, List.take_length, PV.rens, PV.ren, w1, w2, w3, w4, h1, h2, c1, c2, c3, c4, c5, c6, c7, c8, c9, T_wakes, beq_self_eq_true, eq_self, Bool.false_xor, Bool.false_bne, Int.lt_irrefl, o0] <;> rfl
end Go.Proofs.YtghnffhgmhfofaaDoor.Tab
