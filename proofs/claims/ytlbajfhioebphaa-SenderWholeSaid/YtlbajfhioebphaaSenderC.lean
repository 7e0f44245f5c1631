/- Frames and sendings: the document's answers. -/
import Derived.Test.YtlbajfhioebphaaSenderB
namespace Go.Proofs.Ytlbajfhioebphaa.Tab
set_option linter.all false
open Go Go.RowKit Go.Proofs.Ytlbajfhioebphaa.Ev
theorem IsB.sl {p : PV} {l : List UInt8} (h : IsB p l) : ∃ t z, p = .sl t z l.length (l.map b8) ∧ (t = .no ∨ t = .nil) := by
  rcases h with rfl | ⟨rfl, rfl⟩
  · exact ⟨_, _, rfl, .inl rfl⟩
  · exact ⟨_, _, rfl, .inr rfl⟩
theorem IsB.clean {p : PV} {l : List UInt8} (h : IsB p l) : p.clean = some p ∧ p.one = true := by
  rcases h with rfl | ⟨rfl, rfl⟩ <;> exact ⟨rfl, rfl⟩
theorem IsB.ren {p : PV} {l : List UInt8} (h : IsB p l) (ρ : Nat → Option Nat) : p.ren ρ = p := by
  rcases h with rfl | ⟨rfl, rfl⟩ <;> rfl
theorem nilB : IsB (.sl .nil 0 0 []) [] := .inr ⟨rfl, rfl⟩
theorem slB (l : List UInt8) : IsB (sl8 l) l := .inl rfl
abbrev frmA (K N O S : Int) (d : PV) : PV := .agg [.int .i64 K, .int .i64 N, .int .i64 O, .int .i64 S, d]
abbrev sndA (N : Int) (d : PV) (R : Bool) (B X W : Int) (O : Bool) : PV := .agg [.int .i64 N, d, .bool R, .int .i64 B, .int .i64 X, .int .i64 W, .bool O]
theorem T_keepFrame (K N O S : Int) {d : PV} {l : List UInt8} (hd : IsB d l) (K' N' O' S' : Int) {d' : PV} {l' : List UInt8} (hd' : IsB d' l') (hl : l.length ≤ 9000000000000000000) :
    TS 27 [frmA K N O S d, frmA K' N' O' S' d'] [] = some (.bool (decide (K = K') && decide (N = N') && decide (O = O') && decide (S = S') && decide (l = l')), []) := by
  refine evT_of (k := 0) (F := l27) (H' := []) (e := [.bool (decide (K = K') && decide (N = N') && decide (O = O') && decide (S = S') && decide (l = l'))]) (l := [.bool (decide (K = K') && decide (N = N') && decide (O = O') && decide (S = S') && decide (l = l'))]) rfl rfl rfl ?_ rfl rfl
  show evL TS 0 q27 _ _ = _
  have c1 := T_bytes hd hd' hl
  obtain ⟨t, z, rfl, ht⟩ := hd.sl
  obtain ⟨t', z', rfl, ht'⟩ := hd'.sl
  rcases ht with h | h <;> rcases ht' with h' | h' <;> subst h <;> subst h' <;> simp only [q27, evL_op, evL_sel, evL_nx, evL_exit, evL_ret, evL_join, evL_block, evL_cond, evK_some, evJ_nx, evJ_rt, evJ_ex, evB_nx, evB_rt, evB_ex, evC2_bool, evS_and, evS_or, evS_tf, evS_ft, ev_t, ev_s, ev_c, evalOp, bin_add, bin_sub, bin_mul, bin_eql, bin_neq, bin_lss, bin_leq, bin_gtr, bin_geq, sbin_eql, sbin_neq, b8, List.map_cons, List.map_nil, PV.rens, PV.ren, if_true, if_false, Bool.false_eq_true, reduceIte, Nat.reduceAdd, Nat.reduceSub, Nat.reduceMul, Nat.reduceEqDiff, Nat.reduceLeDiff, Int.reduceLE, Int.reduceLT, Int.reduceEq, Int.reduceToNat, Int.reduceAdd, Int.reduceSub, Int.reduceNeg, decide_true, decide_false, Bool.not_true, Bool.not_false, Bool.true_and, Bool.false_and, Bool.and_true, Bool.and_false, Bool.or_true, Bool.true_or, Bool.or_false, Bool.false_or, and_self, and_true, true_and, Nat.le_refl, Nat.zero_add, Nat.mul_one, Nat.one_ne_zero, Nat.zero_le, highP, lowP, Option.map_some, Option.map_none, List.drop_zero, List.take_zero, List.length_cons, List.length_nil, List.nil_append, List.append_nil, List.cons_append, fillP, PV.cells?, PV.one, PV.cleans, PV.clean, PV.of?, List.all_cons, List.all_nil, List.take_succ_cons, List.drop_succ_cons, Bool.and_self, Int.natCast_nonneg, Int.toNat_natCast, Int.toNat_zero, Tk.ren, PV.of?, c1]
theorem nil_iff (l : List UInt8) : [] = l ↔ (l.length : Int) = 0 := by rw [eq_comm, ← List.length_eq_zero_iff]; omega
theorem nil_iff' (l : List UInt8) : l = [] ↔ (l.length : Int) = 0 := by rw [← List.length_eq_zero_iff]; omega
theorem RR1 {K N O S : Int} {l : List UInt8} (hK : K = 1 ∨ K = 2) : (decide (1 ≤ N) && decide (N ≤ 65535) && (decide (0 ≤ O) && decide (O ≤ 5000)) && (decide ((0 : Int) = S) && decide ([] = l))) = decide (RF K N O S l.length) := by
  rw [Bool.eq_iff_iff, decide_eq_true_eq]
  unfold RF
  simp only [Bool.and_eq_true, decide_eq_true_eq, nil_iff]
  omega
theorem RR3 {K N O S : Int} {l : List UInt8} (hK : K = 3) : (decide (1 ≤ N) && decide (N ≤ 65535) && (decide (0 ≤ O) && decide (O ≤ 5000)) && (decide (0 ≤ S) && decide (S ≤ 7)) && (decide (1 ≤ (l.length : Int)) && decide ((l.length : Int) ≤ 48))) = decide (RF K N O S l.length) := by
  rw [Bool.eq_iff_iff, decide_eq_true_eq]
  unfold RF
  simp only [Bool.and_eq_true, decide_eq_true_eq, nil_iff]
  omega
theorem RR4 {K N O S : Int} {l : List UInt8} (hK : K = 4) : (decide (1 ≤ N) && decide (N ≤ 65535) && (decide (0 ≤ S) && decide (S ≤ 7)) && (decide ((0 : Int) = O) && decide ([] = l))) = decide (RF K N O S l.length) := by
  rw [Bool.eq_iff_iff, decide_eq_true_eq]
  unfold RF
  simp only [Bool.and_eq_true, decide_eq_true_eq, nil_iff]
  omega
theorem RR5 {K N O S : Int} {l : List UInt8} (hK : K = 5) : (decide (1 ≤ N) && decide (N ≤ 65535) && (decide ((0 : Int) = O) && decide ((0 : Int) = S) && decide ([] = l))) = decide (RF K N O S l.length) := by
  rw [Bool.eq_iff_iff, decide_eq_true_eq]
  unfold RF
  simp only [Bool.and_eq_true, decide_eq_true_eq, nil_iff]
  omega
theorem T_refFrame (K N O S : Int) {d : PV} {l : List UInt8} (hd : IsB d l) (hl : l.length ≤ 9000000000000000000) : TS 24 [frmA K N O S d] [] = some (.bool (decide (RF K N O S l.length)), []) := by
  by_cases h1 : K = 1
  · rw [← RR1 (.inl h1)]
    subst h1
    have c1 := T_keepFrame 1 N O 0 nilB 1 N O S hd (by decide)
    refine evT_of (k := 0) (F := l24) (H' := [.cells [.int .i64 1, .int .i64 N, .int .i64 O, .int .i64 0, .sl .nil 0 0 []]]) (e := [.bool _]) (l := [.bool _]) rfl rfl rfl ?_ rfl rfl
    show evL TS 0 q24 _ _ = _
    obtain ⟨t, z, rfl, ht⟩ := hd.sl
    rcases ht with h | h <;> subst h <;> simp only [q24, q24_0, q24_1, evL_op, evL_sel, evL_nx, evL_exit, evL_ret, evL_join, evL_block, evL_cond, evK_some, evJ_nx, evJ_rt, evJ_ex, evB_nx, evB_rt, evB_ex, evC2_bool, evS_and, evS_or, evS_tf, evS_ft, ev_t, ev_s, ev_c, evalOp, bin_add, bin_sub, bin_mul, bin_eql, bin_neq, bin_lss, bin_leq, bin_gtr, bin_geq, sbin_eql, sbin_neq, b8, List.map_cons, List.map_nil, PV.rens, PV.ren, if_true, if_false, Bool.false_eq_true, reduceIte, Nat.reduceAdd, Nat.reduceSub, Nat.reduceMul, Nat.reduceEqDiff, Nat.reduceLeDiff, Int.reduceLE, Int.reduceLT, Int.reduceEq, Int.reduceToNat, Int.reduceAdd, Int.reduceSub, Int.reduceNeg, decide_true, decide_false, Bool.not_true, Bool.not_false, Bool.true_and, Bool.false_and, Bool.and_true, Bool.and_false, Bool.or_true, Bool.true_or, Bool.or_false, Bool.false_or, and_self, and_true, true_and, Nat.le_refl, Nat.zero_add, Nat.mul_one, Nat.one_ne_zero, Nat.zero_le, highP, lowP, Option.map_some, Option.map_none, List.drop_zero, List.take_zero, List.length_cons, List.length_nil, List.nil_append, List.append_nil, List.cons_append, fillP, PV.cells?, PV.one, PV.cleans, PV.clean, PV.of?, List.all_cons, List.all_nil, List.take_succ_cons, List.drop_succ_cons, Bool.and_self, Int.natCast_nonneg, Int.toNat_natCast, Int.toNat_zero, Tk.ren, PV.of?, c1, T_in, List.getElem?_cons_zero, List.set_cons_zero, PV.isBot, PV.id?, ne_eq, not_true_eq_false, not_false_eq_true, or_self]
  by_cases h2 : K = 2
  · rw [← RR1 (.inr h2)]
    subst h2
    have c1 := T_keepFrame 2 N O 0 nilB 2 N O S hd (by decide)
    refine evT_of (k := 0) (F := l24) (H' := [.cells [.int .i64 2, .int .i64 N, .int .i64 O, .int .i64 0, .sl .nil 0 0 []]]) (e := [.bool _]) (l := [.bool _]) rfl rfl rfl ?_ rfl rfl
    show evL TS 0 q24 _ _ = _
    obtain ⟨t, z, rfl, ht⟩ := hd.sl
    rcases ht with h | h <;> subst h <;> simp only [q24, q24_0, q24_1, evL_op, evL_sel, evL_nx, evL_exit, evL_ret, evL_join, evL_block, evL_cond, evK_some, evJ_nx, evJ_rt, evJ_ex, evB_nx, evB_rt, evB_ex, evC2_bool, evS_and, evS_or, evS_tf, evS_ft, ev_t, ev_s, ev_c, evalOp, bin_add, bin_sub, bin_mul, bin_eql, bin_neq, bin_lss, bin_leq, bin_gtr, bin_geq, sbin_eql, sbin_neq, b8, List.map_cons, List.map_nil, PV.rens, PV.ren, if_true, if_false, Bool.false_eq_true, reduceIte, Nat.reduceAdd, Nat.reduceSub, Nat.reduceMul, Nat.reduceEqDiff, Nat.reduceLeDiff, Int.reduceLE, Int.reduceLT, Int.reduceEq, Int.reduceToNat, Int.reduceAdd, Int.reduceSub, Int.reduceNeg, decide_true, decide_false, Bool.not_true, Bool.not_false, Bool.true_and, Bool.false_and, Bool.and_true, Bool.and_false, Bool.or_true, Bool.true_or, Bool.or_false, Bool.false_or, and_self, and_true, true_and, Nat.le_refl, Nat.zero_add, Nat.mul_one, Nat.one_ne_zero, Nat.zero_le, highP, lowP, Option.map_some, Option.map_none, List.drop_zero, List.take_zero, List.length_cons, List.length_nil, List.nil_append, List.append_nil, List.cons_append, fillP, PV.cells?, PV.one, PV.cleans, PV.clean, PV.of?, List.all_cons, List.all_nil, List.take_succ_cons, List.drop_succ_cons, Bool.and_self, Int.natCast_nonneg, Int.toNat_natCast, Int.toNat_zero, Tk.ren, PV.of?, c1, T_in, List.getElem?_cons_zero, List.set_cons_zero, PV.isBot, PV.id?, ne_eq, not_true_eq_false, not_false_eq_true, or_self]
  by_cases h3 : K = 3
  · rw [← RR3 h3]
    subst h3
    have c1 := T_keepFrame 3 N O S hd 3 N O S hd hl
    refine evT_of (k := 0) (F := l24) (H' := [.cells [.int .i64 3, .int .i64 N, .int .i64 O, .int .i64 S, d]]) (e := [.bool _]) (l := [.bool _]) rfl rfl rfl ?_ rfl rfl
    show evL TS 0 q24 _ _ = _
    obtain ⟨t, z, rfl, ht⟩ := hd.sl
    rcases ht with h | h <;> subst h <;> simp only [q24, q24_0, q24_1, evL_op, evL_sel, evL_nx, evL_exit, evL_ret, evL_join, evL_block, evL_cond, evK_some, evJ_nx, evJ_rt, evJ_ex, evB_nx, evB_rt, evB_ex, evC2_bool, evS_and, evS_or, evS_tf, evS_ft, ev_t, ev_s, ev_c, evalOp, bin_add, bin_sub, bin_mul, bin_eql, bin_neq, bin_lss, bin_leq, bin_gtr, bin_geq, sbin_eql, sbin_neq, b8, List.map_cons, List.map_nil, PV.rens, PV.ren, if_true, if_false, Bool.false_eq_true, reduceIte, Nat.reduceAdd, Nat.reduceSub, Nat.reduceMul, Nat.reduceEqDiff, Nat.reduceLeDiff, Int.reduceLE, Int.reduceLT, Int.reduceEq, Int.reduceToNat, Int.reduceAdd, Int.reduceSub, Int.reduceNeg, decide_true, decide_false, Bool.not_true, Bool.not_false, Bool.true_and, Bool.false_and, Bool.and_true, Bool.and_false, Bool.or_true, Bool.true_or, Bool.or_false, Bool.false_or, and_self, and_true, true_and, Nat.le_refl, Nat.zero_add, Nat.mul_one, Nat.one_ne_zero, Nat.zero_le, highP, lowP, Option.map_some, Option.map_none, List.drop_zero, List.take_zero, List.length_cons, List.length_nil, List.nil_append, List.append_nil, List.cons_append, fillP, PV.cells?, PV.one, PV.cleans, PV.clean, PV.of?, List.all_cons, List.all_nil, List.take_succ_cons, List.drop_succ_cons, Bool.and_self, Int.natCast_nonneg, Int.toNat_natCast, Int.toNat_zero, Tk.ren, PV.of?, c1, T_in, List.getElem?_cons_zero, List.set_cons_zero, PV.isBot, PV.id?, ne_eq, not_true_eq_false, not_false_eq_true, or_self]
  by_cases h4 : K = 4
  · rw [← RR4 h4]
    subst h4
    have c1 := T_keepFrame 4 N 0 S nilB 4 N O S hd (by decide)
    refine evT_of (k := 0) (F := l24) (H' := [.cells [.int .i64 4, .int .i64 N, .int .i64 0, .int .i64 S, .sl .nil 0 0 []]]) (e := [.bool _]) (l := [.bool _]) rfl rfl rfl ?_ rfl rfl
    show evL TS 0 q24 _ _ = _
    obtain ⟨t, z, rfl, ht⟩ := hd.sl
    rcases ht with h | h <;> subst h <;> simp only [q24, q24_0, q24_1, evL_op, evL_sel, evL_nx, evL_exit, evL_ret, evL_join, evL_block, evL_cond, evK_some, evJ_nx, evJ_rt, evJ_ex, evB_nx, evB_rt, evB_ex, evC2_bool, evS_and, evS_or, evS_tf, evS_ft, ev_t, ev_s, ev_c, evalOp, bin_add, bin_sub, bin_mul, bin_eql, bin_neq, bin_lss, bin_leq, bin_gtr, bin_geq, sbin_eql, sbin_neq, b8, List.map_cons, List.map_nil, PV.rens, PV.ren, if_true, if_false, Bool.false_eq_true, reduceIte, Nat.reduceAdd, Nat.reduceSub, Nat.reduceMul, Nat.reduceEqDiff, Nat.reduceLeDiff, Int.reduceLE, Int.reduceLT, Int.reduceEq, Int.reduceToNat, Int.reduceAdd, Int.reduceSub, Int.reduceNeg, decide_true, decide_false, Bool.not_true, Bool.not_false, Bool.true_and, Bool.false_and, Bool.and_true, Bool.and_false, Bool.or_true, Bool.true_or, Bool.or_false, Bool.false_or, and_self, and_true, true_and, Nat.le_refl, Nat.zero_add, Nat.mul_one, Nat.one_ne_zero, Nat.zero_le, highP, lowP, Option.map_some, Option.map_none, List.drop_zero, List.take_zero, List.length_cons, List.length_nil, List.nil_append, List.append_nil, List.cons_append, fillP, PV.cells?, PV.one, PV.cleans, PV.clean, PV.of?, List.all_cons, List.all_nil, List.take_succ_cons, List.drop_succ_cons, Bool.and_self, Int.natCast_nonneg, Int.toNat_natCast, Int.toNat_zero, Tk.ren, PV.of?, c1, T_in, List.getElem?_cons_zero, List.set_cons_zero, PV.isBot, PV.id?, ne_eq, not_true_eq_false, not_false_eq_true, or_self]
  by_cases h5 : K = 5
  · rw [← RR5 h5]
    subst h5
    have c1 := T_keepFrame 5 N 0 0 nilB 5 N O S hd (by decide)
    refine evT_of (k := 0) (F := l24) (H' := [.cells [.int .i64 5, .int .i64 N, .int .i64 0, .int .i64 0, .sl .nil 0 0 []]]) (e := [.bool _]) (l := [.bool _]) rfl rfl rfl ?_ rfl rfl
    show evL TS 0 q24 _ _ = _
    obtain ⟨t, z, rfl, ht⟩ := hd.sl
    rcases ht with h | h <;> subst h <;> simp only [q24, q24_0, q24_1, evL_op, evL_sel, evL_nx, evL_exit, evL_ret, evL_join, evL_block, evL_cond, evK_some, evJ_nx, evJ_rt, evJ_ex, evB_nx, evB_rt, evB_ex, evC2_bool, evS_and, evS_or, evS_tf, evS_ft, ev_t, ev_s, ev_c, evalOp, bin_add, bin_sub, bin_mul, bin_eql, bin_neq, bin_lss, bin_leq, bin_gtr, bin_geq, sbin_eql, sbin_neq, b8, List.map_cons, List.map_nil, PV.rens, PV.ren, if_true, if_false, Bool.false_eq_true, reduceIte, Nat.reduceAdd, Nat.reduceSub, Nat.reduceMul, Nat.reduceEqDiff, Nat.reduceLeDiff, Int.reduceLE, Int.reduceLT, Int.reduceEq, Int.reduceToNat, Int.reduceAdd, Int.reduceSub, Int.reduceNeg, decide_true, decide_false, Bool.not_true, Bool.not_false, Bool.true_and, Bool.false_and, Bool.and_true, Bool.and_false, Bool.or_true, Bool.true_or, Bool.or_false, Bool.false_or, and_self, and_true, true_and, Nat.le_refl, Nat.zero_add, Nat.mul_one, Nat.one_ne_zero, Nat.zero_le, highP, lowP, Option.map_some, Option.map_none, List.drop_zero, List.take_zero, List.length_cons, List.length_nil, List.nil_append, List.append_nil, List.cons_append, fillP, PV.cells?, PV.one, PV.cleans, PV.clean, PV.of?, List.all_cons, List.all_nil, List.take_succ_cons, List.drop_succ_cons, Bool.and_self, Int.natCast_nonneg, Int.toNat_natCast, Int.toNat_zero, Tk.ren, PV.of?, c1, T_in, List.getElem?_cons_zero, List.set_cons_zero, PV.isBot, PV.id?, ne_eq, not_true_eq_false, not_false_eq_true, or_self]
  have hn : ¬ RF K N O S l.length := by unfold RF; omega
  have c1 := T_keepFrame K N 0 0 nilB K N O S hd (by decide)
  rw [decide_eq_false hn]
  refine evT_of (k := 0) (F := l24) (H' := [.cells [.int .i64 K, .int .i64 N, .int .i64 0, .int .i64 0, .sl .nil 0 0 []]]) (e := [.bool false]) (l := [.bool false]) rfl rfl rfl ?_ rfl rfl
  show evL TS 0 q24 _ _ = _
  obtain ⟨t, z, rfl, ht⟩ := hd.sl
  rcases ht with h | h <;> subst h <;> simp only [q24, q24_0, q24_1, evL_op, evL_sel, evL_nx, evL_exit, evL_ret, evL_join, evL_block, evL_cond, evK_some, evJ_nx, evJ_rt, evJ_ex, evB_nx, evB_rt, evB_ex, evC2_bool, evS_and, evS_or, evS_tf, evS_ft, ev_t, ev_s, ev_c, evalOp, bin_add, bin_sub, bin_mul, bin_eql, bin_neq, bin_lss, bin_leq, bin_gtr, bin_geq, sbin_eql, sbin_neq, b8, List.map_cons, List.map_nil, PV.rens, PV.ren, if_true, if_false, Bool.false_eq_true, reduceIte, Nat.reduceAdd, Nat.reduceSub, Nat.reduceMul, Nat.reduceEqDiff, Nat.reduceLeDiff, Int.reduceLE, Int.reduceLT, Int.reduceEq, Int.reduceToNat, Int.reduceAdd, Int.reduceSub, Int.reduceNeg, decide_true, decide_false, Bool.not_true, Bool.not_false, Bool.true_and, Bool.false_and, Bool.and_true, Bool.and_false, Bool.or_true, Bool.true_or, Bool.or_false, Bool.false_or, and_self, and_true, true_and, Nat.le_refl, Nat.zero_add, Nat.mul_one, Nat.one_ne_zero, Nat.zero_le, highP, lowP, Option.map_some, Option.map_none, List.drop_zero, List.take_zero, List.length_cons, List.length_nil, List.nil_append, List.append_nil, List.cons_append, fillP, PV.cells?, PV.one, PV.cleans, PV.clean, PV.of?, List.all_cons, List.all_nil, List.take_succ_cons, List.drop_succ_cons, Bool.and_self, Int.natCast_nonneg, Int.toNat_natCast, Int.toNat_zero, Tk.ren, PV.of?, c1, T_in, List.getElem?_cons_zero, List.set_cons_zero, h1, h2, h3, h4, h5]
end Go.Proofs.Ytlbajfhioebphaa.Tab
