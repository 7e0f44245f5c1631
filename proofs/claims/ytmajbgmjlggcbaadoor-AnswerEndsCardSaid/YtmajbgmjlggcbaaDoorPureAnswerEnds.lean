/- AnswerEnds: it is true. -/
import Derived.Test.YtmajbgmjlggcbaaDoorWakes13
namespace Go.Proofs.YtmajbgmjlggcbaaDoor.Tab
set_option linter.all false
open Go Go.RowKit Go.Proofs.YtmajbgmjlggcbaaDoor.Ev
theorem Check_empty (c : Int) : T 14 [.agg [.int .i64 c, .sl .no 0 0 []]] [] = some (.int .i64 5, []) := by
  refine evT_of (k := 0) (F := l14) (H' := []) (e := [.int .i64 5]) (l := [.int .i64 5]) rfl rfl rfl ?_ rfl rfl
  show evL T 0 q14 _ _ = _
  have c1 := T28 c
  have d1 : decide ((((0 : Nat) : Int)) < 1) = true := rfl
  cases hc : codeOk c <;> rw [hc] at c1 <;> simp only [q14, evL_op, evL_sel, evL_nx, evL_exit, evL_ret, evL_join, evL_block, evL_cond, evK_some, evJ_nx, evJ_rt, evJ_ex, evB_nx, evB_rt, evB_ex, evC2_bool, evS_and, evS_or, evS_tf, evS_ft, ev_t, ev_s, ev_c, evalOp, bin_add, bin_sub, bin_mul, bin_eql, bin_neq, bin_lss, bin_leq, bin_gtr, bin_geq, sbin_eql, sbin_neq, b8, List.map_cons, List.map_nil, PV.rens, PV.ren, if_true, if_false, Bool.false_eq_true, reduceIte, Nat.reduceAdd, Nat.reduceSub, Nat.reduceMul, Nat.reduceEqDiff, Nat.reduceLeDiff, Int.reduceLE, Int.reduceLT, Int.reduceEq, Int.reduceToNat, Int.reduceAdd, Int.reduceSub, Int.reduceNeg, decide_true, decide_false, Bool.not_true, Bool.not_false, Bool.true_and, Bool.false_and, Bool.and_true, Bool.and_false, Bool.or_true, Bool.true_or, Bool.or_false, Bool.false_or, and_self, and_true, true_and, Nat.le_refl, Nat.zero_add, Nat.mul_one, Nat.one_ne_zero, Nat.zero_le, highP, lowP, Option.map_some, Option.map_none, List.drop_zero, List.take_zero, List.length_cons, List.length_nil, List.nil_append, List.append_nil, List.cons_append, fillP, PV.cells?, PV.one, PV.cleans, PV.clean, PV.of?, List.all_cons, List.all_nil, List.take_succ_cons, List.drop_succ_cons, Bool.and_self, Int.natCast_nonneg, Int.toNat_natCast, Int.toNat_zero, PV.of?, Tk.ren, tailP, evL_loop, or_true, true_or, Nat.zero_lt_one, Nat.sub_zero, List.getElem?_cons_zero, List.getElem?_cons_succ, List.set_cons_zero, List.set_cons_succ, List.take_length, PV.rens, PV.ren, PV.cells?, c1, d1]
theorem Bytes_empty (c : Int) : T 10 [.agg [.int .i64 c, .sl .no 0 0 []]] [] = some (.tup [.sl .nil 0 0 [], .int .i64 5], []) := by
  have c1 := Check_empty c
  refine evT_of (k := 0) (F := l10) (H' := []) (e := [.sl .nil 0 0 [], .int .i64 5]) (l := [.sl .nil 0 0 [], .int .i64 5]) rfl rfl rfl ?_ rfl rfl
  show evL T 0 q10 _ _ = _
  simp only [q10, evL_op, evL_sel, evL_nx, evL_exit, evL_ret, evL_join, evL_block, evL_cond, evK_some, evJ_nx, evJ_rt, evJ_ex, evB_nx, evB_rt, evB_ex, evC2_bool, evS_and, evS_or, evS_tf, evS_ft, ev_t, ev_s, ev_c, evalOp, bin_add, bin_sub, bin_mul, bin_eql, bin_neq, bin_lss, bin_leq, bin_gtr, bin_geq, sbin_eql, sbin_neq, b8, List.map_cons, List.map_nil, PV.rens, PV.ren, if_true, if_false, Bool.false_eq_true, reduceIte, Nat.reduceAdd, Nat.reduceSub, Nat.reduceMul, Nat.reduceEqDiff, Nat.reduceLeDiff, Int.reduceLE, Int.reduceLT, Int.reduceEq, Int.reduceToNat, Int.reduceAdd, Int.reduceSub, Int.reduceNeg, decide_true, decide_false, Bool.not_true, Bool.not_false, Bool.true_and, Bool.false_and, Bool.and_true, Bool.and_false, Bool.or_true, Bool.true_or, Bool.or_false, Bool.false_or, and_self, and_true, true_and, Nat.le_refl, Nat.zero_add, Nat.mul_one, Nat.one_ne_zero, Nat.zero_le, highP, lowP, Option.map_some, Option.map_none, List.drop_zero, List.take_zero, List.length_cons, List.length_nil, List.nil_append, List.append_nil, List.cons_append, fillP, PV.cells?, PV.one, PV.cleans, PV.clean, PV.of?, List.all_cons, List.all_nil, List.take_succ_cons, List.drop_succ_cons, Bool.and_self, Int.natCast_nonneg, Int.toNat_natCast, Int.toNat_zero, PV.of?, Tk.ren, tailP, evL_loop, or_true, true_or, Nat.zero_lt_one, Nat.sub_zero, List.getElem?_cons_zero, List.getElem?_cons_succ, List.set_cons_zero, List.set_cons_succ, List.take_length, PV.rens, PV.ren, c1, PV.cells?]
def xs (L : Nat) : List UInt8 := List.replicate L 120
theorem xs_len (L : Nat) : (xs L).length = L := List.length_replicate
theorem xs_plain (L : Nat) : plainS (xs L) = decide ((L : Int) ≤ 200) := by
  unfold plainS
  have : (xs L).all chC = true := by
    rw [List.all_eq_true]
    intro c hc
    rw [List.eq_of_mem_replicate hc]; decide
  rw [this, xs_len, Bool.true_and]
theorem rep_ok (c : Int) (m L : Nat) : replyOk c (List.replicate m (xs L)) = (codeOk c && decide ((1 : Int) ≤ m) && decide ((m : Int) ≤ 20) && (decide ((L : Int) ≤ 200) || decide (m = 0))) := by
  unfold replyOk
  rw [List.length_replicate]
  have h1 : (!decide ((m : Int) < 1)) = decide ((1 : Int) ≤ m) := by
    by_cases h : (1 : Int) ≤ m
    · rw [decide_eq_true h, decide_eq_false (by omega)]; rfl
    · rw [decide_eq_false h, decide_eq_true (by omega)]; rfl
  have h2 : (!decide ((20 : Int) < m)) = decide ((m : Int) ≤ 20) := by
    by_cases h : (m : Int) ≤ 20
    · rw [decide_eq_true h, decide_eq_false (by omega)]; rfl
    · rw [decide_eq_false h, decide_eq_true (by omega)]; rfl
  have h3 : (List.replicate m (xs L)).all plainS = (decide ((L : Int) ≤ 200) || decide (m = 0)) := by
    cases m with
    | zero => simp
    | succ m =>
      rw [List.all_replicate, xs_plain]
      simp
  rw [h1, h2, h3]
def tR (m L : Nat) : PV := .sl (.tok 1) (if m = 0 then 0 else 1) m ((List.replicate m (xs L)).map fun x => .str x)
theorem loop_x (c : Int) (m L : Nat) (hL : L ≤ 201) (k0 : Nat) : loopL 0 (evL T k0 q6_1) 202 [.int .i64 c, .int .i64 m, .int .i64 L, .str []] [] = some (.ex 0, [.int .i64 c, .int .i64 m, .int .i64 L, .str (xs L)], []) := by
  have lp := loop_law (n := 0) (body := evL T k0 q6_1) (σ := Nat) (fun i => [.int .i64 c, .int .i64 m, .int .i64 L, .str (xs i)]) (fun _ => []) (fun i => L - i) (fun i => i ≤ L) (fun _ => (.ex 0, [.int .i64 c, .int .i64 m, .int .i64 L, .str (xs L)], [])) (by
    intro i hi
    have hxl := xs_len i
    rcases Nat.lt_or_ge i L with h | h
    · have h3 : ((xs i).length : Int) < L := by omega
      have a1 := sbin_add (s := xs i) (u := [120]) (by simp only [hxl, List.length_cons, List.length_nil]; omega)
      have e1 : xs i ++ [120] = xs (i + 1) := by unfold xs; rw [List.replicate_succ']
      rw [e1] at a1
      refine .inr ⟨i + 1, [.int .i64 c, .int .i64 m, .int .i64 L, .str (xs (i + 1))], [], ?_, rfl, h, by omega, rfl⟩
      simp only [q6_1, q6_0, evL_op, evL_sel, evL_nx, evL_exit, evL_ret, evL_join, evL_block, evL_cond, evK_some, evJ_nx, evJ_rt, evJ_ex, evB_nx, evB_rt, evB_ex, evC2_bool, evS_and, evS_or, evS_tf, evS_ft, ev_t, ev_s, ev_c, evalOp, bin_add, bin_sub, bin_mul, bin_eql, bin_neq, bin_lss, bin_leq, bin_gtr, bin_geq, sbin_eql, sbin_neq, b8, List.map_cons, List.map_nil, PV.rens, PV.ren, if_true, if_false, Bool.false_eq_true, reduceIte, Nat.reduceAdd, Nat.reduceSub, Nat.reduceMul, Nat.reduceEqDiff, Nat.reduceLeDiff, Int.reduceLE, Int.reduceLT, Int.reduceEq, Int.reduceToNat, Int.reduceAdd, Int.reduceSub, Int.reduceNeg, decide_true, decide_false, Bool.not_true, Bool.not_false, Bool.true_and, Bool.false_and, Bool.and_true, Bool.and_false, Bool.or_true, Bool.true_or, Bool.or_false, Bool.false_or, and_self, and_true, true_and, Nat.le_refl, Nat.zero_add, Nat.mul_one, Nat.one_ne_zero, Nat.zero_le, highP, lowP, Option.map_some, Option.map_none, List.drop_zero, List.take_zero, List.length_cons, List.length_nil, List.nil_append, List.append_nil, List.cons_append, fillP, PV.cells?, PV.one, PV.cleans, PV.clean, PV.of?, List.all_cons, List.all_nil, List.take_succ_cons, List.drop_succ_cons, Bool.and_self, Int.natCast_nonneg, Int.toNat_natCast, Int.toNat_zero, PV.of?, Tk.ren, tailP, evL_loop, or_true, true_or, Nat.zero_lt_one, Nat.sub_zero, List.getElem?_cons_zero, List.getElem?_cons_succ, List.set_cons_zero, List.set_cons_succ, List.take_length, h3, a1]
    · obtain rfl : i = L := by omega
      have h3 : ¬ ((xs i).length : Int) < i := by omega
      refine .inl ⟨?_, by simp⟩
      simp only [q6_1, evL_op, evL_sel, evL_nx, evL_exit, evL_ret, evL_join, evL_block, evL_cond, evK_some, evJ_nx, evJ_rt, evJ_ex, evB_nx, evB_rt, evB_ex, evC2_bool, evS_and, evS_or, evS_tf, evS_ft, ev_t, ev_s, ev_c, evalOp, bin_add, bin_sub, bin_mul, bin_eql, bin_neq, bin_lss, bin_leq, bin_gtr, bin_geq, sbin_eql, sbin_neq, b8, List.map_cons, List.map_nil, PV.rens, PV.ren, if_true, if_false, Bool.false_eq_true, reduceIte, Nat.reduceAdd, Nat.reduceSub, Nat.reduceMul, Nat.reduceEqDiff, Nat.reduceLeDiff, Int.reduceLE, Int.reduceLT, Int.reduceEq, Int.reduceToNat, Int.reduceAdd, Int.reduceSub, Int.reduceNeg, decide_true, decide_false, Bool.not_true, Bool.not_false, Bool.true_and, Bool.false_and, Bool.and_true, Bool.and_false, Bool.or_true, Bool.true_or, Bool.or_false, Bool.false_or, and_self, and_true, true_and, Nat.le_refl, Nat.zero_add, Nat.mul_one, Nat.one_ne_zero, Nat.zero_le, highP, lowP, Option.map_some, Option.map_none, List.drop_zero, List.take_zero, List.length_cons, List.length_nil, List.nil_append, List.append_nil, List.cons_append, fillP, PV.cells?, PV.one, PV.cleans, PV.clean, PV.of?, List.all_cons, List.all_nil, List.take_succ_cons, List.drop_succ_cons, Bool.and_self, Int.natCast_nonneg, Int.toNat_natCast, Int.toNat_zero, PV.of?, Tk.ren, tailP, evL_loop, or_true, true_or, Nat.zero_lt_one, Nat.sub_zero, List.getElem?_cons_zero, List.getElem?_cons_succ, List.set_cons_zero, List.set_cons_succ, List.take_length, h3]) 202 0 [.int .i64 c, .int .i64 m, .int .i64 L, .str []] [] rfl (Nat.zero_le _) (by omega)
  exact lp
theorem loop_l (c : Int) (m L : Nat) (hm : m ≤ 22) (k0 : Nat) : loopL 1 (evL T k0 q6_3) 202 [.int .i64 c, .int .i64 m, .int .i64 L, .str (xs L), .ptr 0 0, .int .i64 0] [.cells [.int .i64 c, .sl .nil 0 0 []]] = some (.ex 2, [.int .i64 c, .int .i64 m, .int .i64 L, .ptr 0 0], [.cells [.int .i64 c, tR m L], .tok]) := by
  exact loop_law (n := 1) (body := evL T k0 q6_3) (σ := Nat) (fun i => [.int .i64 c, .int .i64 m, .int .i64 L, .str (xs L), .ptr 0 0, .int .i64 i]) (fun i => [.cells [.int .i64 c, tR i L], .tok]) (fun i => m - i) (fun i => i ≤ m) (fun _ => (.ex 2, [.int .i64 c, .int .i64 m, .int .i64 L, .ptr 0 0], [.cells [.int .i64 c, tR m L], .tok])) (by
    intro i hi
    rcases Nat.lt_or_ge i m with h | h
    · have h3 : (i : Int) < m := by omega
      have hz : (if i = 0 then 0 else 1) = 1 ∨ (if i = 0 then 0 else 1) = 0 := by split <;> simp
      have hrm : (i + 1) * 16 ≤ roomMax := by unfold roomMax; omega
      refine .inr ⟨i + 1, [.int .i64 c, .int .i64 m, .int .i64 L, .str (xs L), .ptr 0 0, .int .i64 ((i + 1 : Nat) : Int)], [.cells [.int .i64 c, .sl (.tok 2) 1 (i + 1) ((List.replicate i (xs L)).map (fun x => PV.str x) ++ [.str (xs L)])], .dead, .tok], ?_, ?_, h, by omega, rfl⟩
      · simp only [q6_3, q6_2, evL_op, evL_sel, evL_nx, evL_exit, evL_ret, evL_join, evL_block, evL_cond, evK_some, evJ_nx, evJ_rt, evJ_ex, evB_nx, evB_rt, evB_ex, evC2_bool, evS_and, evS_or, evS_tf, evS_ft, ev_t, ev_s, ev_c, evalOp, bin_add, bin_sub, bin_mul, bin_eql, bin_neq, bin_lss, bin_leq, bin_gtr, bin_geq, sbin_eql, sbin_neq, b8, List.map_cons, List.map_nil, PV.rens, PV.ren, if_true, if_false, Bool.false_eq_true, reduceIte, Nat.reduceAdd, Nat.reduceSub, Nat.reduceMul, Nat.reduceEqDiff, Nat.reduceLeDiff, Int.reduceLE, Int.reduceLT, Int.reduceEq, Int.reduceToNat, Int.reduceAdd, Int.reduceSub, Int.reduceNeg, decide_true, decide_false, Bool.not_true, Bool.not_false, Bool.true_and, Bool.false_and, Bool.and_true, Bool.and_false, Bool.or_true, Bool.true_or, Bool.or_false, Bool.false_or, and_self, and_true, true_and, Nat.le_refl, Nat.zero_add, Nat.mul_one, Nat.one_ne_zero, Nat.zero_le, highP, lowP, Option.map_some, Option.map_none, List.drop_zero, List.take_zero, List.length_cons, List.length_nil, List.nil_append, List.append_nil, List.cons_append, fillP, PV.cells?, PV.one, PV.cleans, PV.clean, PV.of?, List.all_cons, List.all_nil, List.take_succ_cons, List.drop_succ_cons, Bool.and_self, Int.natCast_nonneg, Int.toNat_natCast, Int.toNat_zero, PV.of?, Tk.ren, tailP, evL_loop, or_true, true_or, Nat.zero_lt_one, Nat.sub_zero, List.getElem?_cons_zero, List.getElem?_cons_succ, List.set_cons_zero, List.set_cons_succ, List.take_length, PV.rens, PV.ren, tR, h3, hz, hrm, wr1 (show i < 9223372036854775807 by omega)]
      · show _ = ([PV.int .i64 c, .int .i64 m, .int .i64 L, .str (xs L), .ptr 0 0, .int .i64 ((i + 1 : Nat) : Int)], [Ob.cells [.int .i64 c, tR (i + 1) L], .tok])
        unfold tR
        rw [if_neg (by omega), List.replicate_succ', List.map_append]
        rfl
    · obtain rfl : i = m := by omega
      have h3 : ¬ (i : Int) < i := by omega
      refine .inl ⟨?_, by simp⟩
      simp only [q6_3, evL_op, evL_sel, evL_nx, evL_exit, evL_ret, evL_join, evL_block, evL_cond, evK_some, evJ_nx, evJ_rt, evJ_ex, evB_nx, evB_rt, evB_ex, evC2_bool, evS_and, evS_or, evS_tf, evS_ft, ev_t, ev_s, ev_c, evalOp, bin_add, bin_sub, bin_mul, bin_eql, bin_neq, bin_lss, bin_leq, bin_gtr, bin_geq, sbin_eql, sbin_neq, b8, List.map_cons, List.map_nil, PV.rens, PV.ren, if_true, if_false, Bool.false_eq_true, reduceIte, Nat.reduceAdd, Nat.reduceSub, Nat.reduceMul, Nat.reduceEqDiff, Nat.reduceLeDiff, Int.reduceLE, Int.reduceLT, Int.reduceEq, Int.reduceToNat, Int.reduceAdd, Int.reduceSub, Int.reduceNeg, decide_true, decide_false, Bool.not_true, Bool.not_false, Bool.true_and, Bool.false_and, Bool.and_true, Bool.and_false, Bool.or_true, Bool.true_or, Bool.or_false, Bool.false_or, and_self, and_true, true_and, Nat.le_refl, Nat.zero_add, Nat.mul_one, Nat.one_ne_zero, Nat.zero_le, highP, lowP, Option.map_some, Option.map_none, List.drop_zero, List.take_zero, List.length_cons, List.length_nil, List.nil_append, List.append_nil, List.cons_append, fillP, PV.cells?, PV.one, PV.cleans, PV.clean, PV.of?, List.all_cons, List.all_nil, List.take_succ_cons, List.drop_succ_cons, Bool.and_self, Int.natCast_nonneg, Int.toNat_natCast, Int.toNat_zero, PV.of?, Tk.ren, tailP, evL_loop, or_true, true_or, Nat.zero_lt_one, Nat.sub_zero, List.getElem?_cons_zero, List.getElem?_cons_succ, List.set_cons_zero, List.set_cons_succ, List.take_length, h3]) 202 0 [.int .i64 c, .int .i64 m, .int .i64 L, .str (xs L), .ptr 0 0, .int .i64 (0 : Nat)] [.cells [.int .i64 c, .sl .nil 0 0 []]] rfl (Nat.zero_le _) (by omega)
theorem acc_eq (d : List UInt8) (l : List (List UInt8)) (L : Nat) (hl : ∀ x ∈ l, x.length = L) : ∀ i, i ≤ l.length → (acc d l i).length = i * (d.length + L + 3)
  | 0, _ => by simp [acc, join]
  | i + 1, h => by
    have ih := acc_eq d l L hl i (by omega)
    have hx := hl _ (List.getElem_mem (show i < l.length by omega))
    rw [acc_succ d (by omega), Nat.succ_mul]
    simp only [List.length_append, List.length_cons, List.length_nil]
    omega
theorem lawAnswerEnds (c : Int) (hc : (Lit.int .i64 c).wf = true) (ln : Int) (hln : (Lit.int .i64 ln).wf = true) (lg : Int) (hlg : (Lit.int .i64 lg).wf = true) :
    evT lt ov 6 [.int .i64 c, .int .i64 ln, .int .i64 lg] [] = some (.bool true, []) := by
  show T 6 [.int .i64 c, .int .i64 ln, .int .i64 lg] [] = _
  have fin : ∀ {H : Hp}, evL T 202 q6 [.int .i64 c, .int .i64 ln, .int .i64 lg] [] = some (.rt, [.bool true], H) → T 6 [.int .i64 c, .int .i64 ln, .int .i64 lg] [] = some (.bool true, []) := fun {H} h =>
    evT_of (k := 202) (F := l6) (H' := H) (e := [.bool true]) (l := [.bool true]) rfl rfl rfl h rfl rfl
  have h0 : ∀ n : Int, 0 ≤ IntKind.u64.wrap n := fun n => by
    have : IntKind.u64.wrap n = n % 18446744073709551616 := rfl
    rw [this]; omega
  obtain ⟨m, hm23, hm⟩ : ∃ m : Nat, m < 23 ∧ (IntKind.u64.wrap ln).tmod 23 = (m : Int) := by
    have := h0 ln
    refine ⟨((IntKind.u64.wrap ln).tmod 23).toNat, ?_, ?_⟩ <;> rw [Int.tmod_eq_emod_of_nonneg this] <;> omega
  obtain ⟨j, hj3, hj⟩ : ∃ j : Nat, j < 3 ∧ (IntKind.u64.wrap lg).tmod 3 = (j : Int) := by
    have := h0 lg
    refine ⟨((IntKind.u64.wrap lg).tmod 3).toNat, ?_, ?_⟩ <;> rw [Int.tmod_eq_emod_of_nonneg this] <;> omega
  have wm : IntKind.i64.wrap (m : Int) = (m : Int) := wr (by omega) (by omega)
  have wj : IntKind.i64.wrap (j : Int) = (j : Int) := wr (by omega) (by omega)
  obtain ⟨L, hL⟩ : ∃ L : Nat, L = 199 + j := ⟨_, rfl⟩
  have wL : IntKind.i64.wrap (199 + (j : Int)) = (L : Int) := by rw [wr (by omega) (by omega)]; omega
  have r1 : ∀ z : Int, binP .rem (.int .u64 z) (.int .u64 23) = some (.int .u64 (z.tmod 23)) := fun z => bin_rem (by decide)
  have r2 : ∀ z : Int, binP .rem (.int .u64 z) (.int .u64 3) = some (.int .u64 (z.tmod 3)) := fun z => bin_rem (by decide)
  have lp1 := loop_x c m L (by omega) 202
  have lp2 := loop_l c m L (by omega) 202
  have hcode : (decide (200 ≤ c) && decide (c ≤ 559) && decide ((IntKind.i64.wrap (c.tdiv 10)).tmod 10 ≤ 5)) = codeOk c := rfl
  have hro := rep_ok c m L
  by_cases hm0 : m = 0
  · subst hm0
    have c10 := Bytes_empty c
    have c14 := Check_empty c
    have d1 : decide ((1 : Int) ≤ ((0 : Nat) : Int)) = false := rfl
    apply fin
    simp only [q6, evL_op, evL_sel, evL_nx, evL_exit, evL_ret, evL_join, evL_block, evL_cond, evK_some, evJ_nx, evJ_rt, evJ_ex, evB_nx, evB_rt, evB_ex, evC2_bool, evS_and, evS_or, evS_tf, evS_ft, ev_t, ev_s, ev_c, evalOp, bin_add, bin_sub, bin_mul, bin_eql, bin_neq, bin_lss, bin_leq, bin_gtr, bin_geq, sbin_eql, sbin_neq, b8, List.map_cons, List.map_nil, PV.rens, PV.ren, if_true, if_false, Bool.false_eq_true, reduceIte, Nat.reduceAdd, Nat.reduceSub, Nat.reduceMul, Nat.reduceEqDiff, Nat.reduceLeDiff, Int.reduceLE, Int.reduceLT, Int.reduceEq, Int.reduceToNat, Int.reduceAdd, Int.reduceSub, Int.reduceNeg, decide_true, decide_false, Bool.not_true, Bool.not_false, Bool.true_and, Bool.false_and, Bool.and_true, Bool.and_false, Bool.or_true, Bool.true_or, Bool.or_false, Bool.false_or, and_self, and_true, true_and, Nat.le_refl, Nat.zero_add, Nat.mul_one, Nat.one_ne_zero, Nat.zero_le, highP, lowP, Option.map_some, Option.map_none, List.drop_zero, List.take_zero, List.length_cons, List.length_nil, List.nil_append, List.append_nil, List.cons_append, fillP, PV.cells?, PV.one, PV.cleans, PV.clean, PV.of?, List.all_cons, List.all_nil, List.take_succ_cons, List.drop_succ_cons, Bool.and_self, Int.natCast_nonneg, Int.toNat_natCast, Int.toNat_zero, PV.of?, Tk.ren, tailP, evL_loop, or_true, true_or, Nat.zero_lt_one, Nat.sub_zero, List.getElem?_cons_zero, List.getElem?_cons_succ, List.set_cons_zero, List.set_cons_succ, List.take_length, r1, r2, hm, hj, wm, wj, wL]
    rw [lp1]
    simp only [q6_6, evL_op, evL_sel, evL_nx, evL_exit, evL_ret, evL_join, evL_block, evL_cond, evK_some, evJ_nx, evJ_rt, evJ_ex, evB_nx, evB_rt, evB_ex, evC2_bool, evS_and, evS_or, evS_tf, evS_ft, ev_t, ev_s, ev_c, evalOp, bin_add, bin_sub, bin_mul, bin_eql, bin_neq, bin_lss, bin_leq, bin_gtr, bin_geq, sbin_eql, sbin_neq, b8, List.map_cons, List.map_nil, PV.rens, PV.ren, if_true, if_false, Bool.false_eq_true, reduceIte, Nat.reduceAdd, Nat.reduceSub, Nat.reduceMul, Nat.reduceEqDiff, Nat.reduceLeDiff, Int.reduceLE, Int.reduceLT, Int.reduceEq, Int.reduceToNat, Int.reduceAdd, Int.reduceSub, Int.reduceNeg, decide_true, decide_false, Bool.not_true, Bool.not_false, Bool.true_and, Bool.false_and, Bool.and_true, Bool.and_false, Bool.or_true, Bool.true_or, Bool.or_false, Bool.false_or, and_self, and_true, true_and, Nat.le_refl, Nat.zero_add, Nat.mul_one, Nat.one_ne_zero, Nat.zero_le, highP, lowP, Option.map_some, Option.map_none, List.drop_zero, List.take_zero, List.length_cons, List.length_nil, List.nil_append, List.append_nil, List.cons_append, fillP, PV.cells?, PV.one, PV.cleans, PV.clean, PV.of?, List.all_cons, List.all_nil, List.take_succ_cons, List.drop_succ_cons, Bool.and_self, Int.natCast_nonneg, Int.toNat_natCast, Int.toNat_zero, PV.of?, Tk.ren, tailP, evL_loop, or_true, true_or, Nat.zero_lt_one, Nat.sub_zero, List.getElem?_cons_zero, List.getElem?_cons_succ, List.set_cons_zero, List.set_cons_succ, List.take_length, PV.cells?]
    rw [lp2]
    unfold tR
    simp only [q6_5, q6_4, evL_op, evL_sel, evL_nx, evL_exit, evL_ret, evL_join, evL_block, evL_cond, evK_some, evJ_nx, evJ_rt, evJ_ex, evB_nx, evB_rt, evB_ex, evC2_bool, evS_and, evS_or, evS_tf, evS_ft, ev_t, ev_s, ev_c, evalOp, bin_add, bin_sub, bin_mul, bin_eql, bin_neq, bin_lss, bin_leq, bin_gtr, bin_geq, sbin_eql, sbin_neq, b8, List.map_cons, List.map_nil, PV.rens, PV.ren, if_true, if_false, Bool.false_eq_true, reduceIte, Nat.reduceAdd, Nat.reduceSub, Nat.reduceMul, Nat.reduceEqDiff, Nat.reduceLeDiff, Int.reduceLE, Int.reduceLT, Int.reduceEq, Int.reduceToNat, Int.reduceAdd, Int.reduceSub, Int.reduceNeg, decide_true, decide_false, Bool.not_true, Bool.not_false, Bool.true_and, Bool.false_and, Bool.and_true, Bool.and_false, Bool.or_true, Bool.true_or, Bool.or_false, Bool.false_or, and_self, and_true, true_and, Nat.le_refl, Nat.zero_add, Nat.mul_one, Nat.one_ne_zero, Nat.zero_le, highP, lowP, Option.map_some, Option.map_none, List.drop_zero, List.take_zero, List.length_cons, List.length_nil, List.nil_append, List.append_nil, List.cons_append, fillP, PV.cells?, PV.one, PV.cleans, PV.clean, PV.of?, List.all_cons, List.all_nil, List.take_succ_cons, List.drop_succ_cons, Bool.and_self, Int.natCast_nonneg, Int.toNat_natCast, Int.toNat_zero, PV.of?, Tk.ren, tailP, evL_loop, or_true, true_or, Nat.zero_lt_one, Nat.sub_zero, List.getElem?_cons_zero, List.getElem?_cons_succ, List.set_cons_zero, List.set_cons_succ, List.take_length, PV.rens, PV.ren, PV.cells?, quoX, remX, hcode, d1, c10, c14, List.replicate_zero, T_wakes] <;> rfl
  · have hl2 : (List.replicate m (xs L)).length = m := List.length_replicate
    have hxl : ∀ x ∈ List.replicate m (xs L), x.length = L := fun x hx => by rw [List.eq_of_mem_replicate hx, xs_len]
    have c14 := T14 c (List.replicate m (xs L)) (fun x hx => by have := hxl x hx; omega)
    rw [decide_eq_false hm0, Bool.or_false] at hro
    unfold slS at c14
    rw [hl2] at c14
    cases hok : replyOk c (List.replicate m (xs L)) with
    | false =>
      have c10 := Bytes_no c _ (fun x hx => by have := hxl x hx; omega) hok
      unfold slS at c10
      rw [hl2] at c10
      rw [hok] at c14
      rw [hok] at hro
      apply fin
      simp only [q6, evL_op, evL_sel, evL_nx, evL_exit, evL_ret, evL_join, evL_block, evL_cond, evK_some, evJ_nx, evJ_rt, evJ_ex, evB_nx, evB_rt, evB_ex, evC2_bool, evS_and, evS_or, evS_tf, evS_ft, ev_t, ev_s, ev_c, evalOp, bin_add, bin_sub, bin_mul, bin_eql, bin_neq, bin_lss, bin_leq, bin_gtr, bin_geq, sbin_eql, sbin_neq, b8, List.map_cons, List.map_nil, PV.rens, PV.ren, if_true, if_false, Bool.false_eq_true, reduceIte, Nat.reduceAdd, Nat.reduceSub, Nat.reduceMul, Nat.reduceEqDiff, Nat.reduceLeDiff, Int.reduceLE, Int.reduceLT, Int.reduceEq, Int.reduceToNat, Int.reduceAdd, Int.reduceSub, Int.reduceNeg, decide_true, decide_false, Bool.not_true, Bool.not_false, Bool.true_and, Bool.false_and, Bool.and_true, Bool.and_false, Bool.or_true, Bool.true_or, Bool.or_false, Bool.false_or, and_self, and_true, true_and, Nat.le_refl, Nat.zero_add, Nat.mul_one, Nat.one_ne_zero, Nat.zero_le, highP, lowP, Option.map_some, Option.map_none, List.drop_zero, List.take_zero, List.length_cons, List.length_nil, List.nil_append, List.append_nil, List.cons_append, fillP, PV.cells?, PV.one, PV.cleans, PV.clean, PV.of?, List.all_cons, List.all_nil, List.take_succ_cons, List.drop_succ_cons, Bool.and_self, Int.natCast_nonneg, Int.toNat_natCast, Int.toNat_zero, PV.of?, Tk.ren, tailP, evL_loop, or_true, true_or, Nat.zero_lt_one, Nat.sub_zero, List.getElem?_cons_zero, List.getElem?_cons_succ, List.set_cons_zero, List.set_cons_succ, List.take_length, r1, r2, hm, hj, wm, wj, wL]
      rw [lp1]
      simp only [q6_6, evL_op, evL_sel, evL_nx, evL_exit, evL_ret, evL_join, evL_block, evL_cond, evK_some, evJ_nx, evJ_rt, evJ_ex, evB_nx, evB_rt, evB_ex, evC2_bool, evS_and, evS_or, evS_tf, evS_ft, ev_t, ev_s, ev_c, evalOp, bin_add, bin_sub, bin_mul, bin_eql, bin_neq, bin_lss, bin_leq, bin_gtr, bin_geq, sbin_eql, sbin_neq, b8, List.map_cons, List.map_nil, PV.rens, PV.ren, if_true, if_false, Bool.false_eq_true, reduceIte, Nat.reduceAdd, Nat.reduceSub, Nat.reduceMul, Nat.reduceEqDiff, Nat.reduceLeDiff, Int.reduceLE, Int.reduceLT, Int.reduceEq, Int.reduceToNat, Int.reduceAdd, Int.reduceSub, Int.reduceNeg, decide_true, decide_false, Bool.not_true, Bool.not_false, Bool.true_and, Bool.false_and, Bool.and_true, Bool.and_false, Bool.or_true, Bool.true_or, Bool.or_false, Bool.false_or, and_self, and_true, true_and, Nat.le_refl, Nat.zero_add, Nat.mul_one, Nat.one_ne_zero, Nat.zero_le, highP, lowP, Option.map_some, Option.map_none, List.drop_zero, List.take_zero, List.length_cons, List.length_nil, List.nil_append, List.append_nil, List.cons_append, fillP, PV.cells?, PV.one, PV.cleans, PV.clean, PV.of?, List.all_cons, List.all_nil, List.take_succ_cons, List.drop_succ_cons, Bool.and_self, Int.natCast_nonneg, Int.toNat_natCast, Int.toNat_zero, PV.of?, Tk.ren, tailP, evL_loop, or_true, true_or, Nat.zero_lt_one, Nat.sub_zero, List.getElem?_cons_zero, List.getElem?_cons_succ, List.set_cons_zero, List.set_cons_succ, List.take_length, PV.cells?]
      rw [lp2]
      unfold tR
      rw [if_neg hm0]
      simp only [q6_5, q6_4, evL_op, evL_sel, evL_nx, evL_exit, evL_ret, evL_join, evL_block, evL_cond, evK_some, evJ_nx, evJ_rt, evJ_ex, evB_nx, evB_rt, evB_ex, evC2_bool, evS_and, evS_or, evS_tf, evS_ft, ev_t, ev_s, ev_c, evalOp, bin_add, bin_sub, bin_mul, bin_eql, bin_neq, bin_lss, bin_leq, bin_gtr, bin_geq, sbin_eql, sbin_neq, b8, List.map_cons, List.map_nil, PV.rens, PV.ren, if_true, if_false, Bool.false_eq_true, reduceIte, Nat.reduceAdd, Nat.reduceSub, Nat.reduceMul, Nat.reduceEqDiff, Nat.reduceLeDiff, Int.reduceLE, Int.reduceLT, Int.reduceEq, Int.reduceToNat, Int.reduceAdd, Int.reduceSub, Int.reduceNeg, decide_true, decide_false, Bool.not_true, Bool.not_false, Bool.true_and, Bool.false_and, Bool.and_true, Bool.and_false, Bool.or_true, Bool.true_or, Bool.or_false, Bool.false_or, and_self, and_true, true_and, Nat.le_refl, Nat.zero_add, Nat.mul_one, Nat.one_ne_zero, Nat.zero_le, highP, lowP, Option.map_some, Option.map_none, List.drop_zero, List.take_zero, List.length_cons, List.length_nil, List.nil_append, List.append_nil, List.cons_append, fillP, PV.cells?, PV.one, PV.cleans, PV.clean, PV.of?, List.all_cons, List.all_nil, List.take_succ_cons, List.drop_succ_cons, Bool.and_self, Int.natCast_nonneg, Int.toNat_natCast, Int.toNat_zero, PV.of?, Tk.ren, tailP, evL_loop, or_true, true_or, Nat.zero_lt_one, Nat.sub_zero, List.getElem?_cons_zero, List.getElem?_cons_succ, List.set_cons_zero, List.set_cons_succ, List.take_length, PV.rens, PV.ren, PV.cells?, quoX, remX, hcode, ← hro, c10, c14, T_wakes, o0] <;> rfl
    | true =>
      have c10 := Bytes_yes c _ hok
      obtain ⟨u, hcu, hu1, hu2, _, _, _⟩ := replyOk_facts hok
      have hlen : (rb c (List.replicate m (xs L))).length = m * (L + 6) := by
        have := acc_eq (dg u) (List.replicate m (xs L)) L hxl m (by rw [hl2]; exact Nat.le_refl _)
        have h3 : (dg u).length = 3 := by rw [dg3 (by omega) (by omega)]; rfl
        unfold rb
        rw [hcu, Int.toNat_natCast, ← acc_all, hl2, this, h3]
        congr 1; omega
      unfold slS at c10
      rw [hl2, hlen] at c10
      rw [hok] at c14
      rw [hok] at hro
      have hb : m * (L + 6) ≤ 22 * 207 := Nat.mul_le_mul (by omega) (by omega)
      have w6 : IntKind.i64.wrap ((L : Int) + 6) = ((L + 6 : Nat) : Int) := by rw [wr (by omega) (by omega)]; omega
      have w7 : IntKind.i64.wrap ((m : Int) * ((L + 6 : Nat) : Int)) = ((m * (L + 6) : Nat) : Int) := by
        rw [← Int.natCast_mul, wr (by omega) (by omega)]
      generalize (rb c (List.replicate m (xs L))).map b8 = M2 at *
      apply fin
      simp only [q6, evL_op, evL_sel, evL_nx, evL_exit, evL_ret, evL_join, evL_block, evL_cond, evK_some, evJ_nx, evJ_rt, evJ_ex, evB_nx, evB_rt, evB_ex, evC2_bool, evS_and, evS_or, evS_tf, evS_ft, ev_t, ev_s, ev_c, evalOp, bin_add, bin_sub, bin_mul, bin_eql, bin_neq, bin_lss, bin_leq, bin_gtr, bin_geq, sbin_eql, sbin_neq, b8, List.map_cons, List.map_nil, PV.rens, PV.ren, if_true, if_false, Bool.false_eq_true, reduceIte, Nat.reduceAdd, Nat.reduceSub, Nat.reduceMul, Nat.reduceEqDiff, Nat.reduceLeDiff, Int.reduceLE, Int.reduceLT, Int.reduceEq, Int.reduceToNat, Int.reduceAdd, Int.reduceSub, Int.reduceNeg, decide_true, decide_false, Bool.not_true, Bool.not_false, Bool.true_and, Bool.false_and, Bool.and_true, Bool.and_false, Bool.or_true, Bool.true_or, Bool.or_false, Bool.false_or, and_self, and_true, true_and, Nat.le_refl, Nat.zero_add, Nat.mul_one, Nat.one_ne_zero, Nat.zero_le, highP, lowP, Option.map_some, Option.map_none, List.drop_zero, List.take_zero, List.length_cons, List.length_nil, List.nil_append, List.append_nil, List.cons_append, fillP, PV.cells?, PV.one, PV.cleans, PV.clean, PV.of?, List.all_cons, List.all_nil, List.take_succ_cons, List.drop_succ_cons, Bool.and_self, Int.natCast_nonneg, Int.toNat_natCast, Int.toNat_zero, PV.of?, Tk.ren, tailP, evL_loop, or_true, true_or, Nat.zero_lt_one, Nat.sub_zero, List.getElem?_cons_zero, List.getElem?_cons_succ, List.set_cons_zero, List.set_cons_succ, List.take_length, r1, r2, hm, hj, wm, wj, wL]
      rw [lp1]
      simp only [q6_6, evL_op, evL_sel, evL_nx, evL_exit, evL_ret, evL_join, evL_block, evL_cond, evK_some, evJ_nx, evJ_rt, evJ_ex, evB_nx, evB_rt, evB_ex, evC2_bool, evS_and, evS_or, evS_tf, evS_ft, ev_t, ev_s, ev_c, evalOp, bin_add, bin_sub, bin_mul, bin_eql, bin_neq, bin_lss, bin_leq, bin_gtr, bin_geq, sbin_eql, sbin_neq, b8, List.map_cons, List.map_nil, PV.rens, PV.ren, if_true, if_false, Bool.false_eq_true, reduceIte, Nat.reduceAdd, Nat.reduceSub, Nat.reduceMul, Nat.reduceEqDiff, Nat.reduceLeDiff, Int.reduceLE, Int.reduceLT, Int.reduceEq, Int.reduceToNat, Int.reduceAdd, Int.reduceSub, Int.reduceNeg, decide_true, decide_false, Bool.not_true, Bool.not_false, Bool.true_and, Bool.false_and, Bool.and_true, Bool.and_false, Bool.or_true, Bool.true_or, Bool.or_false, Bool.false_or, and_self, and_true, true_and, Nat.le_refl, Nat.zero_add, Nat.mul_one, Nat.one_ne_zero, Nat.zero_le, highP, lowP, Option.map_some, Option.map_none, List.drop_zero, List.take_zero, List.length_cons, List.length_nil, List.nil_append, List.append_nil, List.cons_append, fillP, PV.cells?, PV.one, PV.cleans, PV.clean, PV.of?, List.all_cons, List.all_nil, List.take_succ_cons, List.drop_succ_cons, Bool.and_self, Int.natCast_nonneg, Int.toNat_natCast, Int.toNat_zero, PV.of?, Tk.ren, tailP, evL_loop, or_true, true_or, Nat.zero_lt_one, Nat.sub_zero, List.getElem?_cons_zero, List.getElem?_cons_succ, List.set_cons_zero, List.set_cons_succ, List.take_length, PV.cells?]
      rw [lp2]
      unfold tR
      rw [if_neg hm0]
      simp only [q6_5, q6_4, evL_op, evL_sel, evL_nx, evL_exit, evL_ret, evL_join, evL_block, evL_cond, evK_some, evJ_nx, evJ_rt, evJ_ex, evB_nx, evB_rt, evB_ex, evC2_bool, evS_and, evS_or, evS_tf, evS_ft, ev_t, ev_s, ev_c, evalOp, bin_add, bin_sub, bin_mul, bin_eql, bin_neq, bin_lss, bin_leq, bin_gtr, bin_geq, sbin_eql, sbin_neq, b8, List.map_cons, List.map_nil, PV.rens, PV.ren, if_true, if_false, Bool.false_eq_true, reduceIte, Nat.reduceAdd, Nat.reduceSub, Nat.reduceMul, Nat.reduceEqDiff, Nat.reduceLeDiff, Int.reduceLE, Int.reduceLT, Int.reduceEq, Int.reduceToNat, Int.reduceAdd, Int.reduceSub, Int.reduceNeg, decide_true, decide_false, Bool.not_true, Bool.not_false, Bool.true_and, Bool.false_and, Bool.and_true, Bool.and_false, Bool.or_true, Bool.true_or, Bool.or_false, Bool.false_or, and_self, and_true, true_and, Nat.le_refl, Nat.zero_add, Nat.mul_one, Nat.one_ne_zero, Nat.zero_le, highP, lowP, Option.map_some, Option.map_none, List.drop_zero, List.take_zero, List.length_cons, List.length_nil, List.nil_append, List.append_nil, List.cons_append, fillP, PV.cells?, PV.one, PV.cleans, PV.clean, PV.of?, List.all_cons, List.all_nil, List.take_succ_cons, List.drop_succ_cons, Bool.and_self, Int.natCast_nonneg, Int.toNat_natCast, Int.toNat_zero, PV.of?, Tk.ren, tailP, evL_loop, or_true, true_or, Nat.zero_lt_one, Nat.sub_zero, List.getElem?_cons_zero, List.getElem?_cons_succ, List.set_cons_zero, List.set_cons_succ, List.take_length, PV.rens, PV.ren, PV.cells?, quoX, remX, hcode, ← hro, c10, c14, w6, w7, T_wakes, beq_self_eq_true, eq_self, o0] <;> rfl
end Go.Proofs.YtmajbgmjlggcbaaDoor.Tab
