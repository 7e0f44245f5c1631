/- Frames: what is right, copies of bytes, bytes compared. -/
import Derived.Test.YtlbajfhioebphaaSender
namespace Go.Proofs.Ytlbajfhioebphaa.Tab
set_option linter.all false
open Go Go.RowKit Go.Proofs.Ytlbajfhioebphaa.Ev
theorem T_within (n : Int) (b : Bool) (m : Int) : TS 40 [.int .i64 n, .bool b, .int .i64 m] [] = some (.bool (decide (n = 0) || (b && decide (0 < n) && decide (n ≤ m))), []) := by
  refine evT_of (k := 0) (F := l40) (H' := []) (e := [.bool (decide (n = 0) || (b && decide (0 < n) && decide (n ≤ m)))]) (l := [.bool (decide (n = 0) || (b && decide (0 < n) && decide (n ≤ m)))]) rfl rfl rfl ?_ rfl rfl
  simp only [l40, q40, evL_op, evL_sel, evL_nx, evL_exit, evL_ret, evL_join, evL_block, evL_cond, evK_some, evJ_nx, evJ_rt, evJ_ex, evB_nx, evB_rt, evB_ex, evC2_bool, evS_and, evS_or, evS_tf, evS_ft, ev_t, ev_s, ev_c, evalOp, bin_add, bin_sub, bin_mul, bin_eql, bin_neq, bin_lss, bin_leq, bin_gtr, bin_geq, sbin_eql, sbin_neq, b8, List.map_cons, List.map_nil, PV.rens, PV.ren, if_true, if_false, Bool.false_eq_true, reduceIte]
/-- A right frame: kind, number, offset, turn, how many bytes of data. -/
def RF (K N O S d : Int) : Prop :=
  (1 ≤ N ∧ N ≤ 65535) ∧ (((K = 1 ∨ K = 2) ∧ 0 ≤ O ∧ O ≤ 5000 ∧ S = 0 ∧ d = 0) ∨ (K = 3 ∧ 0 ≤ O ∧ O ≤ 5000 ∧ 0 ≤ S ∧ S ≤ 7 ∧ 1 ≤ d ∧ d ≤ 48) ∨ (K = 4 ∧ O = 0 ∧ 0 ≤ S ∧ S ≤ 7 ∧ d = 0) ∨ (K = 5 ∧ O = 0 ∧ S = 0 ∧ d = 0))
instance (K N O S d : Int) : Decidable (RF K N O S d) := by unfold RF; infer_instance
/-- What frame.Check tells at last. -/
def RC (o s d : Bool) (N O S n : Int) : Bool := !(decide (N < 1) || (decide (65535 < N) || (!(decide (O = 0) || (o && decide (0 < O) && decide (O ≤ 5000))) || (!(decide (S = 0) || (s && decide (0 < S) && decide (S ≤ 7))) || ((d ^^ decide (0 < n)) || decide (48 < n))))))
theorem not_ff {p : Prop} [Decidable p] : (!decide p) = decide (¬ p) := by by_cases h : p <;> simp [h]
theorem RF1 {K N O S n : Int} (hn : 0 ≤ n) (hK : K = 1 ∨ K = 2) : RC true false false N O S n = decide (RF K N O S n) := by
  unfold RC
  rw [Bool.eq_iff_iff, decide_eq_true_eq]
  unfold RF
  simp only [Bool.not_eq_true', decide_eq_true_eq, Bool.or_eq_false_iff, decide_eq_false_iff_not, Bool.and_eq_false_imp, Bool.not_eq_false', Bool.or_eq_true, Bool.and_eq_true, Bool.false_and, Bool.or_false, Bool.true_and, Bool.false_xor, Bool.true_xor]
  omega
theorem RF3 {K N O S n : Int} (hn : 0 ≤ n) (hK : K = 3) : RC true true true N O S n = decide (RF K N O S n) := by
  unfold RC
  rw [Bool.eq_iff_iff, decide_eq_true_eq]
  unfold RF
  simp only [Bool.not_eq_true', decide_eq_true_eq, Bool.or_eq_false_iff, decide_eq_false_iff_not, Bool.and_eq_false_imp, Bool.not_eq_false', Bool.or_eq_true, Bool.and_eq_true, Bool.false_and, Bool.or_false, Bool.true_and, Bool.false_xor, Bool.true_xor]
  omega
theorem RF4 {K N O S n : Int} (hn : 0 ≤ n) (hK : K = 4) : RC false true false N O S n = decide (RF K N O S n) := by
  unfold RC
  rw [Bool.eq_iff_iff, decide_eq_true_eq]
  unfold RF
  simp only [Bool.not_eq_true', decide_eq_true_eq, Bool.or_eq_false_iff, decide_eq_false_iff_not, Bool.and_eq_false_imp, Bool.not_eq_false', Bool.or_eq_true, Bool.and_eq_true, Bool.false_and, Bool.or_false, Bool.true_and, Bool.false_xor, Bool.true_xor]
  omega
theorem RF5 {K N O S n : Int} (hn : 0 ≤ n) (hK : K = 5) : RC false false false N O S n = decide (RF K N O S n) := by
  unfold RC
  rw [Bool.eq_iff_iff, decide_eq_true_eq]
  unfold RF
  simp only [Bool.not_eq_true', decide_eq_true_eq, Bool.or_eq_false_iff, decide_eq_false_iff_not, Bool.and_eq_false_imp, Bool.not_eq_false', Bool.or_eq_true, Bool.and_eq_true, Bool.false_and, Bool.or_false, Bool.true_and, Bool.false_xor, Bool.true_xor]
  omega
theorem okE_of {p : Prop} [Decidable p] {b : Bool} (h : b = decide p) : (if b = true then (0 : Int) else 1) = okE p := by
  subst h
  unfold okE
  by_cases hp : p <;> simp [hp]
abbrev frmD (K N O S : Int) (t : Tk) (z n : Nat) (cs : List PV) : List PV := [.int .i64 K, .int .i64 N, .int .i64 O, .int .i64 S, .sl t z n cs]
theorem check35 (o s d : Bool) (K N O S : Int) (t : Tk) (z n : Nat) (cs : List PV) : evL TS 0 q35_1 [.ep (frmD K N O S t z n cs) 0, .bool o, .bool s, .bool d] [] = some (.rt, [.int .i64 (if RC o s d N O S n = true then 0 else 1)], []) := by
  unfold RC
  by_cases h1 : N < 1
  · simp only [q35_1, evL_op, evL_sel, evL_nx, evL_exit, evL_ret, evL_join, evL_block, evL_cond, evK_some, evJ_nx, evJ_rt, evJ_ex, evB_nx, evB_rt, evB_ex, evC2_bool, evS_and, evS_or, evS_tf, evS_ft, ev_t, ev_s, ev_c, evalOp, bin_add, bin_sub, bin_mul, bin_eql, bin_neq, bin_lss, bin_leq, bin_gtr, bin_geq, sbin_eql, sbin_neq, b8, List.map_cons, List.map_nil, PV.rens, PV.ren, if_true, if_false, Bool.false_eq_true, reduceIte, Nat.reduceAdd, Nat.reduceSub, Nat.reduceMul, Nat.reduceEqDiff, Nat.reduceLeDiff, Int.reduceLE, Int.reduceLT, Int.reduceEq, Int.reduceToNat, Int.reduceAdd, Int.reduceSub, Int.reduceNeg, decide_true, decide_false, Bool.not_true, Bool.not_false, Bool.true_and, Bool.false_and, Bool.and_true, Bool.and_false, Bool.or_true, Bool.true_or, Bool.or_false, Bool.false_or, and_self, and_true, true_and, Nat.le_refl, Nat.zero_add, Nat.mul_one, Nat.one_ne_zero, Nat.zero_le, highP, lowP, Option.map_some, Option.map_none, List.drop_zero, List.take_zero, List.length_cons, List.length_nil, List.nil_append, List.append_nil, List.cons_append, fillP, PV.cells?, PV.one, PV.cleans, PV.clean, PV.of?, List.all_cons, List.all_nil, List.take_succ_cons, List.drop_succ_cons, Bool.and_self, Int.natCast_nonneg, Int.toNat_natCast, Int.toNat_zero, Tk.ren, h1]
  by_cases h2 : 65535 < N
  · simp only [q35_1, evL_op, evL_sel, evL_nx, evL_exit, evL_ret, evL_join, evL_block, evL_cond, evK_some, evJ_nx, evJ_rt, evJ_ex, evB_nx, evB_rt, evB_ex, evC2_bool, evS_and, evS_or, evS_tf, evS_ft, ev_t, ev_s, ev_c, evalOp, bin_add, bin_sub, bin_mul, bin_eql, bin_neq, bin_lss, bin_leq, bin_gtr, bin_geq, sbin_eql, sbin_neq, b8, List.map_cons, List.map_nil, PV.rens, PV.ren, if_true, if_false, Bool.false_eq_true, reduceIte, Nat.reduceAdd, Nat.reduceSub, Nat.reduceMul, Nat.reduceEqDiff, Nat.reduceLeDiff, Int.reduceLE, Int.reduceLT, Int.reduceEq, Int.reduceToNat, Int.reduceAdd, Int.reduceSub, Int.reduceNeg, decide_true, decide_false, Bool.not_true, Bool.not_false, Bool.true_and, Bool.false_and, Bool.and_true, Bool.and_false, Bool.or_true, Bool.true_or, Bool.or_false, Bool.false_or, and_self, and_true, true_and, Nat.le_refl, Nat.zero_add, Nat.mul_one, Nat.one_ne_zero, Nat.zero_le, highP, lowP, Option.map_some, Option.map_none, List.drop_zero, List.take_zero, List.length_cons, List.length_nil, List.nil_append, List.append_nil, List.cons_append, fillP, PV.cells?, PV.one, PV.cleans, PV.clean, PV.of?, List.all_cons, List.all_nil, List.take_succ_cons, List.drop_succ_cons, Bool.and_self, Int.natCast_nonneg, Int.toNat_natCast, Int.toNat_zero, Tk.ren, h1, h2]
  simp only [q35_1, evL_op, evL_sel, evL_nx, evL_exit, evL_ret, evL_join, evL_block, evL_cond, evK_some, evJ_nx, evJ_rt, evJ_ex, evB_nx, evB_rt, evB_ex, evC2_bool, evS_and, evS_or, evS_tf, evS_ft, ev_t, ev_s, ev_c, evalOp, bin_add, bin_sub, bin_mul, bin_eql, bin_neq, bin_lss, bin_leq, bin_gtr, bin_geq, sbin_eql, sbin_neq, b8, List.map_cons, List.map_nil, PV.rens, PV.ren, if_true, if_false, Bool.false_eq_true, reduceIte, Nat.reduceAdd, Nat.reduceSub, Nat.reduceMul, Nat.reduceEqDiff, Nat.reduceLeDiff, Int.reduceLE, Int.reduceLT, Int.reduceEq, Int.reduceToNat, Int.reduceAdd, Int.reduceSub, Int.reduceNeg, decide_true, decide_false, Bool.not_true, Bool.not_false, Bool.true_and, Bool.false_and, Bool.and_true, Bool.and_false, Bool.or_true, Bool.true_or, Bool.or_false, Bool.false_or, and_self, and_true, true_and, Nat.le_refl, Nat.zero_add, Nat.mul_one, Nat.one_ne_zero, Nat.zero_le, highP, lowP, Option.map_some, Option.map_none, List.drop_zero, List.take_zero, List.length_cons, List.length_nil, List.nil_append, List.append_nil, List.cons_append, fillP, PV.cells?, PV.one, PV.cleans, PV.clean, PV.of?, List.all_cons, List.all_nil, List.take_succ_cons, List.drop_succ_cons, Bool.and_self, Int.natCast_nonneg, Int.toNat_natCast, Int.toNat_zero, Tk.ren, h1, h2, T_within]
  generalize (decide (O = 0) || (o && decide (0 < O) && decide (O ≤ 5000))) = a1
  generalize (decide (S = 0) || (s && decide (0 < S) && decide (S ≤ 7))) = a2
  generalize decide ((0 : Int) < n) = a3
  generalize decide ((48 : Int) < n) = a4
  cases a1 <;> cases a2 <;> cases a3 <;> cases a4 <;> cases d <;> rfl
theorem T_frameCheck (K N O S : Int) (t : Tk) (ht : t = .no ∨ t = .nil) (z n : Nat) (cs : List PV) : TS 35 [.agg (frmD K N O S t z n cs)] [] = some (.int .i64 (okE (RF K N O S n)), []) := by
  have hn : (0 : Int) ≤ n := Int.natCast_nonneg n
  refine evT_of (k := 0) (F := l35) (H' := []) (e := [.int .i64 (okE (RF K N O S n))]) (l := [.int .i64 (okE (RF K N O S n))]) rfl rfl rfl ?_ rfl rfl
  show evL TS 0 q35 _ _ = _
  have c2 := fun o s d => check35 o s d K N O S t z n cs
  by_cases h1 : K = 1
  · rw [← okE_of (RF1 hn (.inl h1))]
    subst h1
    rcases ht with h | h <;> subst h <;> simp only [q35, q35_0, evL_op, evL_sel, evL_nx, evL_exit, evL_ret, evL_join, evL_block, evL_cond, evK_some, evJ_nx, evJ_rt, evJ_ex, evB_nx, evB_rt, evB_ex, evC2_bool, evS_and, evS_or, evS_tf, evS_ft, ev_t, ev_s, ev_c, evalOp, bin_add, bin_sub, bin_mul, bin_eql, bin_neq, bin_lss, bin_leq, bin_gtr, bin_geq, sbin_eql, sbin_neq, b8, List.map_cons, List.map_nil, PV.rens, PV.ren, if_true, if_false, Bool.false_eq_true, reduceIte, Nat.reduceAdd, Nat.reduceSub, Nat.reduceMul, Nat.reduceEqDiff, Nat.reduceLeDiff, Int.reduceLE, Int.reduceLT, Int.reduceEq, Int.reduceToNat, Int.reduceAdd, Int.reduceSub, Int.reduceNeg, decide_true, decide_false, Bool.not_true, Bool.not_false, Bool.true_and, Bool.false_and, Bool.and_true, Bool.and_false, Bool.or_true, Bool.true_or, Bool.or_false, Bool.false_or, and_self, and_true, true_and, Nat.le_refl, Nat.zero_add, Nat.mul_one, Nat.one_ne_zero, Nat.zero_le, highP, lowP, Option.map_some, Option.map_none, List.drop_zero, List.take_zero, List.length_cons, List.length_nil, List.nil_append, List.append_nil, List.cons_append, fillP, PV.cells?, PV.one, PV.cleans, PV.clean, PV.of?, List.all_cons, List.all_nil, List.take_succ_cons, List.drop_succ_cons, Bool.and_self, Int.natCast_nonneg, Int.toNat_natCast, Int.toNat_zero, Tk.ren, frmD, c2]
  by_cases h2 : K = 2
  · rw [← okE_of (RF1 hn (.inr h2))]
    subst h2
    rcases ht with h | h <;> subst h <;> simp only [q35, q35_0, evL_op, evL_sel, evL_nx, evL_exit, evL_ret, evL_join, evL_block, evL_cond, evK_some, evJ_nx, evJ_rt, evJ_ex, evB_nx, evB_rt, evB_ex, evC2_bool, evS_and, evS_or, evS_tf, evS_ft, ev_t, ev_s, ev_c, evalOp, bin_add, bin_sub, bin_mul, bin_eql, bin_neq, bin_lss, bin_leq, bin_gtr, bin_geq, sbin_eql, sbin_neq, b8, List.map_cons, List.map_nil, PV.rens, PV.ren, if_true, if_false, Bool.false_eq_true, reduceIte, Nat.reduceAdd, Nat.reduceSub, Nat.reduceMul, Nat.reduceEqDiff, Nat.reduceLeDiff, Int.reduceLE, Int.reduceLT, Int.reduceEq, Int.reduceToNat, Int.reduceAdd, Int.reduceSub, Int.reduceNeg, decide_true, decide_false, Bool.not_true, Bool.not_false, Bool.true_and, Bool.false_and, Bool.and_true, Bool.and_false, Bool.or_true, Bool.true_or, Bool.or_false, Bool.false_or, and_self, and_true, true_and, Nat.le_refl, Nat.zero_add, Nat.mul_one, Nat.one_ne_zero, Nat.zero_le, highP, lowP, Option.map_some, Option.map_none, List.drop_zero, List.take_zero, List.length_cons, List.length_nil, List.nil_append, List.append_nil, List.cons_append, fillP, PV.cells?, PV.one, PV.cleans, PV.clean, PV.of?, List.all_cons, List.all_nil, List.take_succ_cons, List.drop_succ_cons, Bool.and_self, Int.natCast_nonneg, Int.toNat_natCast, Int.toNat_zero, Tk.ren, frmD, c2]
  by_cases h3 : K = 3
  · rw [← okE_of (RF3 hn h3)]
    subst h3
    rcases ht with h | h <;> subst h <;> simp only [q35, q35_0, evL_op, evL_sel, evL_nx, evL_exit, evL_ret, evL_join, evL_block, evL_cond, evK_some, evJ_nx, evJ_rt, evJ_ex, evB_nx, evB_rt, evB_ex, evC2_bool, evS_and, evS_or, evS_tf, evS_ft, ev_t, ev_s, ev_c, evalOp, bin_add, bin_sub, bin_mul, bin_eql, bin_neq, bin_lss, bin_leq, bin_gtr, bin_geq, sbin_eql, sbin_neq, b8, List.map_cons, List.map_nil, PV.rens, PV.ren, if_true, if_false, Bool.false_eq_true, reduceIte, Nat.reduceAdd, Nat.reduceSub, Nat.reduceMul, Nat.reduceEqDiff, Nat.reduceLeDiff, Int.reduceLE, Int.reduceLT, Int.reduceEq, Int.reduceToNat, Int.reduceAdd, Int.reduceSub, Int.reduceNeg, decide_true, decide_false, Bool.not_true, Bool.not_false, Bool.true_and, Bool.false_and, Bool.and_true, Bool.and_false, Bool.or_true, Bool.true_or, Bool.or_false, Bool.false_or, and_self, and_true, true_and, Nat.le_refl, Nat.zero_add, Nat.mul_one, Nat.one_ne_zero, Nat.zero_le, highP, lowP, Option.map_some, Option.map_none, List.drop_zero, List.take_zero, List.length_cons, List.length_nil, List.nil_append, List.append_nil, List.cons_append, fillP, PV.cells?, PV.one, PV.cleans, PV.clean, PV.of?, List.all_cons, List.all_nil, List.take_succ_cons, List.drop_succ_cons, Bool.and_self, Int.natCast_nonneg, Int.toNat_natCast, Int.toNat_zero, Tk.ren, frmD, c2]
  by_cases h4 : K = 4
  · rw [← okE_of (RF4 hn h4)]
    subst h4
    rcases ht with h | h <;> subst h <;> simp only [q35, q35_0, evL_op, evL_sel, evL_nx, evL_exit, evL_ret, evL_join, evL_block, evL_cond, evK_some, evJ_nx, evJ_rt, evJ_ex, evB_nx, evB_rt, evB_ex, evC2_bool, evS_and, evS_or, evS_tf, evS_ft, ev_t, ev_s, ev_c, evalOp, bin_add, bin_sub, bin_mul, bin_eql, bin_neq, bin_lss, bin_leq, bin_gtr, bin_geq, sbin_eql, sbin_neq, b8, List.map_cons, List.map_nil, PV.rens, PV.ren, if_true, if_false, Bool.false_eq_true, reduceIte, Nat.reduceAdd, Nat.reduceSub, Nat.reduceMul, Nat.reduceEqDiff, Nat.reduceLeDiff, Int.reduceLE, Int.reduceLT, Int.reduceEq, Int.reduceToNat, Int.reduceAdd, Int.reduceSub, Int.reduceNeg, decide_true, decide_false, Bool.not_true, Bool.not_false, Bool.true_and, Bool.false_and, Bool.and_true, Bool.and_false, Bool.or_true, Bool.true_or, Bool.or_false, Bool.false_or, and_self, and_true, true_and, Nat.le_refl, Nat.zero_add, Nat.mul_one, Nat.one_ne_zero, Nat.zero_le, highP, lowP, Option.map_some, Option.map_none, List.drop_zero, List.take_zero, List.length_cons, List.length_nil, List.nil_append, List.append_nil, List.cons_append, fillP, PV.cells?, PV.one, PV.cleans, PV.clean, PV.of?, List.all_cons, List.all_nil, List.take_succ_cons, List.drop_succ_cons, Bool.and_self, Int.natCast_nonneg, Int.toNat_natCast, Int.toNat_zero, Tk.ren, frmD, c2]
  by_cases h5 : K = 5
  · rw [← okE_of (RF5 hn h5)]
    subst h5
    rcases ht with h | h <;> subst h <;> simp only [q35, q35_0, evL_op, evL_sel, evL_nx, evL_exit, evL_ret, evL_join, evL_block, evL_cond, evK_some, evJ_nx, evJ_rt, evJ_ex, evB_nx, evB_rt, evB_ex, evC2_bool, evS_and, evS_or, evS_tf, evS_ft, ev_t, ev_s, ev_c, evalOp, bin_add, bin_sub, bin_mul, bin_eql, bin_neq, bin_lss, bin_leq, bin_gtr, bin_geq, sbin_eql, sbin_neq, b8, List.map_cons, List.map_nil, PV.rens, PV.ren, if_true, if_false, Bool.false_eq_true, reduceIte, Nat.reduceAdd, Nat.reduceSub, Nat.reduceMul, Nat.reduceEqDiff, Nat.reduceLeDiff, Int.reduceLE, Int.reduceLT, Int.reduceEq, Int.reduceToNat, Int.reduceAdd, Int.reduceSub, Int.reduceNeg, decide_true, decide_false, Bool.not_true, Bool.not_false, Bool.true_and, Bool.false_and, Bool.and_true, Bool.and_false, Bool.or_true, Bool.true_or, Bool.or_false, Bool.false_or, and_self, and_true, true_and, Nat.le_refl, Nat.zero_add, Nat.mul_one, Nat.one_ne_zero, Nat.zero_le, highP, lowP, Option.map_some, Option.map_none, List.drop_zero, List.take_zero, List.length_cons, List.length_nil, List.nil_append, List.append_nil, List.cons_append, fillP, PV.cells?, PV.one, PV.cleans, PV.clean, PV.of?, List.all_cons, List.all_nil, List.take_succ_cons, List.drop_succ_cons, Bool.and_self, Int.natCast_nonneg, Int.toNat_natCast, Int.toNat_zero, Tk.ren, frmD, c2]
  have hn : ¬ RF K N O S n := by unfold RF; omega
  rcases ht with h | h <;> subst h <;> simp only [q35, q35_0, evL_op, evL_sel, evL_nx, evL_exit, evL_ret, evL_join, evL_block, evL_cond, evK_some, evJ_nx, evJ_rt, evJ_ex, evB_nx, evB_rt, evB_ex, evC2_bool, evS_and, evS_or, evS_tf, evS_ft, ev_t, ev_s, ev_c, evalOp, bin_add, bin_sub, bin_mul, bin_eql, bin_neq, bin_lss, bin_leq, bin_gtr, bin_geq, sbin_eql, sbin_neq, b8, List.map_cons, List.map_nil, PV.rens, PV.ren, if_true, if_false, Bool.false_eq_true, reduceIte, Nat.reduceAdd, Nat.reduceSub, Nat.reduceMul, Nat.reduceEqDiff, Nat.reduceLeDiff, Int.reduceLE, Int.reduceLT, Int.reduceEq, Int.reduceToNat, Int.reduceAdd, Int.reduceSub, Int.reduceNeg, decide_true, decide_false, Bool.not_true, Bool.not_false, Bool.true_and, Bool.false_and, Bool.and_true, Bool.and_false, Bool.or_true, Bool.true_or, Bool.or_false, Bool.false_or, and_self, and_true, true_and, Nat.le_refl, Nat.zero_add, Nat.mul_one, Nat.one_ne_zero, Nat.zero_le, highP, lowP, Option.map_some, Option.map_none, List.drop_zero, List.take_zero, List.length_cons, List.length_nil, List.nil_append, List.append_nil, List.cons_append, fillP, PV.cells?, PV.one, PV.cleans, PV.clean, PV.of?, List.all_cons, List.all_nil, List.take_succ_cons, List.drop_succ_cons, Bool.and_self, Int.natCast_nonneg, Int.toNat_natCast, Int.toNat_zero, Tk.ren, frmD, h1, h2, h3, h4, h5, okE, hn]
/-- Bytes: what stands for a slice of them. -/
def IsB (p : PV) (l : List UInt8) : Prop := p = sl8 l ∨ (l = [] ∧ p = .sl .nil 0 0 [])
theorem cell8 (l : List UInt8) (i : Nat) (h : i < l.length) : ((l.map b8).drop i).take 1 = [b8 l[i]] := by
  have h' : i < (l.map b8).length := by rw [List.length_map]; exact h
  rw [List.drop_eq_getElem_cons h', List.getElem_map]; rfl
theorem b8_ne (a b : UInt8) : (decide ((a.toNat : Int) = b.toNat)) = decide (a = b) := by
  by_cases h : a = b
  · subst h; simp
  · have : ¬ ((a.toNat : Int) = b.toNat) := fun e => h (UInt8.toNat_inj.1 (by omega))
    rw [decide_eq_false h, decide_eq_false this]
theorem evL_loop {c : Cl} {k : Nat} {L : List X} {b : LC} {env : List PV} {H : Hp} : evL c k (.loop L b) env H = loopL H.length (evL c k b) k (L.map (X.ev env)) H := rfl
theorem body_bytes (k0 : Nat) (l m : List UInt8) (i : Nat) (hi : i < l.length) (hi' : i < m.length) (hs : l.length ≤ 9000000000000000000) : evL TS k0 q28_1 [sl8 l, sl8 m, .int .i64 i] [] =
    if l[i] = m[i] then some (.nx, [sl8 l, sl8 m, .int .i64 (i + 1 : Nat)], []) else some (.rt, [.bool false], []) := by
  have hw : IntKind.i64.wrap ((i : Int) + 1) = ((i + 1 : Nat) : Int) := by rw [IntWalk.i64_in _ (by omega)]; rfl
  have c1 := cell8 l i hi
  have c2 := cell8 m i hi'
  have h1 : (i : Int) < l.length := by omega
  have h2 : (i : Int) < m.length := by omega
  by_cases h : l[i] = m[i]
  · simp only [q28_1, q28_0, evL_op, evL_sel, evL_nx, evL_exit, evL_ret, evL_join, evL_block, evL_cond, evK_some, evJ_nx, evJ_rt, evJ_ex, evB_nx, evB_rt, evB_ex, evC2_bool, evS_and, evS_or, evS_tf, evS_ft, ev_t, ev_s, ev_c, evalOp, bin_add, bin_sub, bin_mul, bin_eql, bin_neq, bin_lss, bin_leq, bin_gtr, bin_geq, sbin_eql, sbin_neq, b8, List.map_cons, List.map_nil, PV.rens, PV.ren, if_true, if_false, Bool.false_eq_true, reduceIte, Nat.reduceAdd, Nat.reduceSub, Nat.reduceMul, Nat.reduceEqDiff, Nat.reduceLeDiff, Int.reduceLE, Int.reduceLT, Int.reduceEq, Int.reduceToNat, Int.reduceAdd, Int.reduceSub, Int.reduceNeg, decide_true, decide_false, Bool.not_true, Bool.not_false, Bool.true_and, Bool.false_and, Bool.and_true, Bool.and_false, Bool.or_true, Bool.true_or, Bool.or_false, Bool.false_or, and_self, and_true, true_and, Nat.le_refl, Nat.zero_add, Nat.mul_one, Nat.one_ne_zero, Nat.zero_le, highP, lowP, Option.map_some, Option.map_none, List.drop_zero, List.take_zero, List.length_cons, List.length_nil, List.nil_append, List.append_nil, List.cons_append, fillP, PV.cells?, PV.one, PV.cleans, PV.clean, PV.of?, List.all_cons, List.all_nil, List.take_succ_cons, List.drop_succ_cons, Bool.and_self, Int.natCast_nonneg, Int.toNat_natCast, Int.toNat_zero, h1, h2, c1, c2, hw, b8_ne, h]
  · simp only [q28_1, q28_0, evL_op, evL_sel, evL_nx, evL_exit, evL_ret, evL_join, evL_block, evL_cond, evK_some, evJ_nx, evJ_rt, evJ_ex, evB_nx, evB_rt, evB_ex, evC2_bool, evS_and, evS_or, evS_tf, evS_ft, ev_t, ev_s, ev_c, evalOp, bin_add, bin_sub, bin_mul, bin_eql, bin_neq, bin_lss, bin_leq, bin_gtr, bin_geq, sbin_eql, sbin_neq, b8, List.map_cons, List.map_nil, PV.rens, PV.ren, if_true, if_false, Bool.false_eq_true, reduceIte, Nat.reduceAdd, Nat.reduceSub, Nat.reduceMul, Nat.reduceEqDiff, Nat.reduceLeDiff, Int.reduceLE, Int.reduceLT, Int.reduceEq, Int.reduceToNat, Int.reduceAdd, Int.reduceSub, Int.reduceNeg, decide_true, decide_false, Bool.not_true, Bool.not_false, Bool.true_and, Bool.false_and, Bool.and_true, Bool.and_false, Bool.or_true, Bool.true_or, Bool.or_false, Bool.false_or, and_self, and_true, true_and, Nat.le_refl, Nat.zero_add, Nat.mul_one, Nat.one_ne_zero, Nat.zero_le, highP, lowP, Option.map_some, Option.map_none, List.drop_zero, List.take_zero, List.length_cons, List.length_nil, List.nil_append, List.append_nil, List.cons_append, fillP, PV.cells?, PV.one, PV.cleans, PV.clean, PV.of?, List.all_cons, List.all_nil, List.take_succ_cons, List.drop_succ_cons, Bool.and_self, Int.natCast_nonneg, Int.toNat_natCast, Int.toNat_zero, h1, h2, c1, c2, hw, b8_ne, h]
theorem loop_bytes (k0 : Nat) (l m : List UInt8) (hl : l.length = m.length) (hs : l.length ≤ 9000000000000000000) : ∀ (j i : Nat), i + j = l.length → ∀ k, j < k → loopL 0 (evL TS k0 q28_1) k [sl8 l, sl8 m, .int .i64 i] [] =
    if l.drop i = m.drop i then some (.ex 0, [], []) else some (.rt, [.bool false], [])
  | j, i, hij, 0, hk => by omega
  | 0, i, hij, k + 1, _ => by
    have h1 : ¬ ((i : Int) < l.length) := by omega
    rw [loopL_succ, head0 rfl, List.drop_of_length_le (by omega), List.drop_of_length_le (by omega), if_pos rfl]
    simp only [q28_1, evL_op, evL_sel, evL_nx, evL_exit, evL_ret, evL_join, evL_block, evL_cond, evK_some, evJ_nx, evJ_rt, evJ_ex, evB_nx, evB_rt, evB_ex, evC2_bool, evS_and, evS_or, evS_tf, evS_ft, ev_t, ev_s, ev_c, evalOp, bin_add, bin_sub, bin_mul, bin_eql, bin_neq, bin_lss, bin_leq, bin_gtr, bin_geq, sbin_eql, sbin_neq, b8, List.map_cons, List.map_nil, PV.rens, PV.ren, if_true, if_false, Bool.false_eq_true, reduceIte, Nat.reduceAdd, Nat.reduceSub, Nat.reduceMul, Nat.reduceEqDiff, Nat.reduceLeDiff, Int.reduceLE, Int.reduceLT, Int.reduceEq, Int.reduceToNat, Int.reduceAdd, Int.reduceSub, Int.reduceNeg, decide_true, decide_false, Bool.not_true, Bool.not_false, Bool.true_and, Bool.false_and, Bool.and_true, Bool.and_false, Bool.or_true, Bool.true_or, Bool.or_false, Bool.false_or, and_self, and_true, true_and, Nat.le_refl, Nat.zero_add, Nat.mul_one, Nat.one_ne_zero, Nat.zero_le, highP, lowP, Option.map_some, Option.map_none, List.drop_zero, List.take_zero, List.length_cons, List.length_nil, List.nil_append, List.append_nil, List.cons_append, fillP, PV.cells?, PV.one, PV.cleans, PV.clean, PV.of?, List.all_cons, List.all_nil, List.take_succ_cons, List.drop_succ_cons, Bool.and_self, Int.natCast_nonneg, Int.toNat_natCast, Int.toNat_zero, h1]
  | j + 1, i, hij, k + 1, hk => by
    have hi : i < l.length := by omega
    have hi' : i < m.length := by omega
    rw [loopL_succ, head0 rfl, body_bytes k0 l m i hi hi' hs, List.drop_eq_getElem_cons hi, List.drop_eq_getElem_cons hi']
    by_cases h : l[i] = m[i]
    · rw [if_pos h]
      simp only [h, List.cons.injEq, true_and]
      exact loop_bytes k0 l m hl hs j (i + 1) (by omega) k (by omega)
    · rw [if_neg h, if_neg (fun e => h (List.cons.inj e).1)]
theorem T_bytes8 (l m : List UInt8) (hs : l.length ≤ 9000000000000000000) : TS 28 [sl8 l, sl8 m] [] = some (.bool (decide (l = m)), []) := by
  refine evT_of (k := l.length + 1) (F := l28) (H' := []) (e := [.bool (decide (l = m))]) (l := [.bool (decide (l = m))]) rfl rfl rfl ?_ rfl rfl
  show evL TS (l.length + 1) q28 _ _ = _
  by_cases h : (l.length : Int) = m.length
  · have h' := loop_bytes (l.length + 1) l m (by omega) hs l.length 0 (by omega) (l.length + 1) (by omega)
    have h'' : loopL 0 (evL TS (l.length + 1) q28_1) (l.length + 1) [sl8 l, sl8 m, .int .i64 0] [] = if l = m then some (.ex 0, [], []) else some (.rt, [.bool false], []) := h'
    have hl : l.length = m.length := by omega
    have h3 : PV.sl .no 1 m.length (l.map b8) = sl8 l := by rw [← hl]
    simp only [q28, evL_op, evL_sel, evL_nx, evL_exit, evL_ret, evL_join, evL_block, evL_cond, evK_some, evJ_nx, evJ_rt, evJ_ex, evB_nx, evB_rt, evB_ex, evC2_bool, evS_and, evS_or, evS_tf, evS_ft, ev_t, ev_s, ev_c, evalOp, bin_add, bin_sub, bin_mul, bin_eql, bin_neq, bin_lss, bin_leq, bin_gtr, bin_geq, sbin_eql, sbin_neq, b8, List.map_cons, List.map_nil, PV.rens, PV.ren, if_true, if_false, Bool.false_eq_true, reduceIte, Nat.reduceAdd, Nat.reduceSub, Nat.reduceMul, Nat.reduceEqDiff, Nat.reduceLeDiff, Int.reduceLE, Int.reduceLT, Int.reduceEq, Int.reduceToNat, Int.reduceAdd, Int.reduceSub, Int.reduceNeg, decide_true, decide_false, Bool.not_true, Bool.not_false, Bool.true_and, Bool.false_and, Bool.and_true, Bool.and_false, Bool.or_true, Bool.true_or, Bool.or_false, Bool.false_or, and_self, and_true, true_and, Nat.le_refl, Nat.zero_add, Nat.mul_one, Nat.one_ne_zero, Nat.zero_le, highP, lowP, Option.map_some, Option.map_none, List.drop_zero, List.take_zero, List.length_cons, List.length_nil, List.nil_append, List.append_nil, List.cons_append, fillP, PV.cells?, PV.one, PV.cleans, PV.clean, PV.of?, List.all_cons, List.all_nil, List.take_succ_cons, List.drop_succ_cons, Bool.and_self, Int.natCast_nonneg, Int.toNat_natCast, Int.toNat_zero, hl, evL_loop] at h'' ⊢
    rw [h'']
    by_cases hlm : l = m
    · simp only [hlm, q28_2, evL_op, evL_sel, evL_nx, evL_exit, evL_ret, evL_join, evL_block, evL_cond, evK_some, evJ_nx, evJ_rt, evJ_ex, evB_nx, evB_rt, evB_ex, evC2_bool, evS_and, evS_or, evS_tf, evS_ft, ev_t, ev_s, ev_c, evalOp, bin_add, bin_sub, bin_mul, bin_eql, bin_neq, bin_lss, bin_leq, bin_gtr, bin_geq, sbin_eql, sbin_neq, b8, List.map_cons, List.map_nil, PV.rens, PV.ren, if_true, if_false, Bool.false_eq_true, reduceIte, Nat.reduceAdd, Nat.reduceSub, Nat.reduceMul, Nat.reduceEqDiff, Nat.reduceLeDiff, Int.reduceLE, Int.reduceLT, Int.reduceEq, Int.reduceToNat, Int.reduceAdd, Int.reduceSub, Int.reduceNeg, decide_true, decide_false, Bool.not_true, Bool.not_false, Bool.true_and, Bool.false_and, Bool.and_true, Bool.and_false, Bool.or_true, Bool.true_or, Bool.or_false, Bool.false_or, and_self, and_true, true_and, Nat.le_refl, Nat.zero_add, Nat.mul_one, Nat.one_ne_zero, Nat.zero_le, highP, lowP, Option.map_some, Option.map_none, List.drop_zero, List.take_zero, List.length_cons, List.length_nil, List.nil_append, List.append_nil, List.cons_append, fillP, PV.cells?, PV.one, PV.cleans, PV.clean, PV.of?, List.all_cons, List.all_nil, List.take_succ_cons, List.drop_succ_cons, Bool.and_self, Int.natCast_nonneg, Int.toNat_natCast, Int.toNat_zero]
    · simp only [hlm, q28_2, evL_op, evL_sel, evL_nx, evL_exit, evL_ret, evL_join, evL_block, evL_cond, evK_some, evJ_nx, evJ_rt, evJ_ex, evB_nx, evB_rt, evB_ex, evC2_bool, evS_and, evS_or, evS_tf, evS_ft, ev_t, ev_s, ev_c, evalOp, bin_add, bin_sub, bin_mul, bin_eql, bin_neq, bin_lss, bin_leq, bin_gtr, bin_geq, sbin_eql, sbin_neq, b8, List.map_cons, List.map_nil, PV.rens, PV.ren, if_true, if_false, Bool.false_eq_true, reduceIte, Nat.reduceAdd, Nat.reduceSub, Nat.reduceMul, Nat.reduceEqDiff, Nat.reduceLeDiff, Int.reduceLE, Int.reduceLT, Int.reduceEq, Int.reduceToNat, Int.reduceAdd, Int.reduceSub, Int.reduceNeg, decide_true, decide_false, Bool.not_true, Bool.not_false, Bool.true_and, Bool.false_and, Bool.and_true, Bool.and_false, Bool.or_true, Bool.true_or, Bool.or_false, Bool.false_or, and_self, and_true, true_and, Nat.le_refl, Nat.zero_add, Nat.mul_one, Nat.one_ne_zero, Nat.zero_le, highP, lowP, Option.map_some, Option.map_none, List.drop_zero, List.take_zero, List.length_cons, List.length_nil, List.nil_append, List.append_nil, List.cons_append, fillP, PV.cells?, PV.one, PV.cleans, PV.clean, PV.of?, List.all_cons, List.all_nil, List.take_succ_cons, List.drop_succ_cons, Bool.and_self, Int.natCast_nonneg, Int.toNat_natCast, Int.toNat_zero]
  · have hn : ¬ l = m := fun e => h (by rw [e])
    simp only [q28, evL_op, evL_sel, evL_nx, evL_exit, evL_ret, evL_join, evL_block, evL_cond, evK_some, evJ_nx, evJ_rt, evJ_ex, evB_nx, evB_rt, evB_ex, evC2_bool, evS_and, evS_or, evS_tf, evS_ft, ev_t, ev_s, ev_c, evalOp, bin_add, bin_sub, bin_mul, bin_eql, bin_neq, bin_lss, bin_leq, bin_gtr, bin_geq, sbin_eql, sbin_neq, b8, List.map_cons, List.map_nil, PV.rens, PV.ren, if_true, if_false, Bool.false_eq_true, reduceIte, Nat.reduceAdd, Nat.reduceSub, Nat.reduceMul, Nat.reduceEqDiff, Nat.reduceLeDiff, Int.reduceLE, Int.reduceLT, Int.reduceEq, Int.reduceToNat, Int.reduceAdd, Int.reduceSub, Int.reduceNeg, decide_true, decide_false, Bool.not_true, Bool.not_false, Bool.true_and, Bool.false_and, Bool.and_true, Bool.and_false, Bool.or_true, Bool.true_or, Bool.or_false, Bool.false_or, and_self, and_true, true_and, Nat.le_refl, Nat.zero_add, Nat.mul_one, Nat.one_ne_zero, Nat.zero_le, highP, lowP, Option.map_some, Option.map_none, List.drop_zero, List.take_zero, List.length_cons, List.length_nil, List.nil_append, List.append_nil, List.cons_append, fillP, PV.cells?, PV.one, PV.cleans, PV.clean, PV.of?, List.all_cons, List.all_nil, List.take_succ_cons, List.drop_succ_cons, Bool.and_self, Int.natCast_nonneg, Int.toNat_natCast, Int.toNat_zero, h, hn]
theorem T_bytes {p q : PV} {l m : List UInt8} (hp : IsB p l) (hq : IsB q m) (hs : l.length ≤ 9000000000000000000) : TS 28 [p, q] [] = some (.bool (decide (l = m)), []) := by
  have key : ∀ p q : PV, (∃ t z n c, p = .sl t z n c ∧ (n : Int) = l.length) → (∃ t z n c, q = .sl t z n c ∧ (n : Int) = m.length) → ¬ l.length = m.length → TS 28 [p, q] [] = some (.bool (decide (l = m)), []) := by
    rintro _ _ ⟨t, z, n, c, rfl, h1⟩ ⟨t', z', n', c', rfl, h2⟩ h3
    refine evT_of (k := 0) (F := l28) (H' := []) (e := [.bool (decide (l = m))]) (l := [.bool (decide (l = m))]) rfl rfl rfl ?_ rfl rfl
    show evL TS 0 q28 _ _ = _
    have hn : ¬ l = m := fun e => h3 (by rw [e])
    have h4 : ¬ (n : Int) = n' := by omega
    simp only [q28, evL_op, evL_sel, evL_nx, evL_exit, evL_ret, evL_join, evL_block, evL_cond, evK_some, evJ_nx, evJ_rt, evJ_ex, evB_nx, evB_rt, evB_ex, evC2_bool, evS_and, evS_or, evS_tf, evS_ft, ev_t, ev_s, ev_c, evalOp, bin_add, bin_sub, bin_mul, bin_eql, bin_neq, bin_lss, bin_leq, bin_gtr, bin_geq, sbin_eql, sbin_neq, b8, List.map_cons, List.map_nil, PV.rens, PV.ren, if_true, if_false, Bool.false_eq_true, reduceIte, Nat.reduceAdd, Nat.reduceSub, Nat.reduceMul, Nat.reduceEqDiff, Nat.reduceLeDiff, Int.reduceLE, Int.reduceLT, Int.reduceEq, Int.reduceToNat, Int.reduceAdd, Int.reduceSub, Int.reduceNeg, decide_true, decide_false, Bool.not_true, Bool.not_false, Bool.true_and, Bool.false_and, Bool.and_true, Bool.and_false, Bool.or_true, Bool.true_or, Bool.or_false, Bool.false_or, and_self, and_true, true_and, Nat.le_refl, Nat.zero_add, Nat.mul_one, Nat.one_ne_zero, Nat.zero_le, highP, lowP, Option.map_some, Option.map_none, List.drop_zero, List.take_zero, List.length_cons, List.length_nil, List.nil_append, List.append_nil, List.cons_append, fillP, PV.cells?, PV.one, PV.cleans, PV.clean, PV.of?, List.all_cons, List.all_nil, List.take_succ_cons, List.drop_succ_cons, Bool.and_self, Int.natCast_nonneg, Int.toNat_natCast, Int.toNat_zero, h4, hn]
  by_cases h3 : l.length = m.length
  · rcases hp with rfl | ⟨rfl, rfl⟩ <;> rcases hq with rfl | ⟨rfl, rfl⟩
    · exact T_bytes8 l m hs
    · have : l = [] := List.length_eq_zero_iff.1 h3
      subst this
      exact evT_of (k := 1) (F := l28) (H' := [.tok]) (e := [.bool true]) (l := [.bool true]) rfl rfl rfl rfl rfl rfl
    · have : m = [] := List.length_eq_zero_iff.1 h3.symm
      subst this
      exact evT_of (k := 1) (F := l28) (H' := [.tok]) (e := [.bool true]) (l := [.bool true]) rfl rfl rfl rfl rfl rfl
    · exact evT_of (k := 1) (F := l28) (H' := [.tok, .tok]) (e := [.bool true]) (l := [.bool true]) rfl rfl rfl rfl rfl rfl
  · refine key p q ?_ ?_ h3
    · rcases hp with rfl | ⟨rfl, rfl⟩
      · exact ⟨_, _, _, _, rfl, rfl⟩
      · exact ⟨_, _, _, _, rfl, rfl⟩
    · rcases hq with rfl | ⟨rfl, rfl⟩
      · exact ⟨_, _, _, _, rfl, rfl⟩
      · exact ⟨_, _, _, _, rfl, rfl⟩
end Go.Proofs.Ytlbajfhioebphaa.Tab
