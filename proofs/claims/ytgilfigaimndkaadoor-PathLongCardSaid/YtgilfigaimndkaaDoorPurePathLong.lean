/- PathLong: what is left of it, over numbers. -/
import Derived.Test.YtgilfigaimndkaaDoorPath
import Derived.KernelRfl
namespace Go.Proofs.YtgilfigaimndkaaDoor.Tab
set_option linter.all false
open Go Go.RowKit Go.Proofs.YtgilfigaimndkaaDoor.Ev
theorem T24 : T 24 [] [] = some (.bool true, []) := evT_iff.2 ⟨300, by kernel_rfl⟩
section
variable {y : UInt8} (h0 : 97 ≤ y.toNat) (h1 : y.toNat ≤ 122)
include h0 h1
theorem low_plain : plain y = true := by
  have a : (97 : Int) ≤ y.toNat := by omega
  have b : (y.toNat : Int) ≤ 122 := by omega
  simp [plain, a, b]
theorem low_ne (n : Nat) (hn : n < 97) : y ≠ UInt8.ofNat n := fun e => by
  have : (UInt8.ofNat n).toNat = n := by rw [UInt8.toNat_ofNat']; omega
  rw [e, this] at h0
  omega
theorem split_rep (n : Nat) : splitBy 46 (List.replicate n y) = [List.replicate n y] := splitBy_none fun h => low_ne h0 h1 46 (by omega) (List.eq_of_mem_replicate h).symm
theorem all_rep (n : Nat) (f : UInt8 → Bool) (hf : f y = true) : (List.replicate n y).all f = true := List.all_eq_true.2 fun x hx => by rw [List.eq_of_mem_replicate hx]; exact hf
theorem label_rep (n : Nat) (hn : 0 < n) : label (List.replicate n y) = decide ((n : Int) ≤ 63) := by
  obtain ⟨m, rfl⟩ : ∃ m, n = m + 1 := ⟨n - 1, by omega⟩
  have hp := low_plain h0 h1
  have e45 := low_ne h0 h1 45 (by omega)
  have hl : (List.replicate (m + 1) y).getLast? = some y := by rw [List.getLast?_replicate]; simp
  have hh : (List.replicate (m + 1) y).head? = some y := rfl
  have hne : (y == 45) = false := by simpa using e45
  unfold label
  rw [all_rep h0 h1 _ _ (by unfold labelC; rw [hp]; rfl), hl, hh]
  simp [hne, List.length_replicate]
theorem atom_rep (n : Nat) (hn : 0 < n) : atom (List.replicate n y) = true := by
  obtain ⟨m, rfl⟩ : ∃ m, n = m + 1 := ⟨n - 1, by omega⟩
  unfold atom
  rw [all_rep h0 h1 _ _ (by unfold atomC; rw [low_plain h0 h1]; rfl)]
  simp [List.replicate_succ]
theorem loop7 (k0 : Nat) (x : Int) : ∀ (j i : Nat), i + j = 64 → ∀ k, j < k → loopL 0 (evL T k0 b7_1) k [.int .i64 x, .int .u8 y.toNat, .str (List.replicate i y)] [] = some (.ex 0, [.int .i64 x, .str (List.replicate 64 y)], [])
  | j, i, hij, 0, hk => by omega
  | 0, i, hij, k + 1, _ => by
    obtain rfl : i = 64 := by omega
    rw [loopL_succ, head0 (env := [.int .i64 x, .int .u8 y.toNat, .str (List.replicate 64 y)]) rfl]
    have h3 : evL T k0 b7_1 [.int .i64 x, .int .u8 y.toNat, .str (List.replicate 64 y)] [] = some (.ex 0, [.int .i64 x, .str (List.replicate 64 y)], []) := by
      simp only [b7_1, evL_op, evL_sel, evL_nx, evL_exit, evL_ret, evL_join, evL_block, evL_cond, evK_some, evJ_nx, evJ_rt, evJ_ex, evB_nx, evB_rt, evB_ex, evC2_bool, evS_and, evS_or, evS_tf, evS_ft, ev_t, ev_s, ev_c, evalOp, bin_add, bin_sub, bin_mul, bin_eql, bin_neq, bin_lss, bin_leq, bin_gtr, bin_geq, sbin_eql, sbin_neq, b8, List.map_cons, List.map_nil, PV.rens, PV.ren, if_true, if_false, Bool.false_eq_true, reduceIte, List.length_replicate]
      rfl
    rw [h3]
  | j + 1, i, hij, k + 1, hk => by
    have hlt : ((i : Nat) : Int) < 64 := by omega
    have h8 : bytes8 [.int .u8 y.toNat] = some [y] := bytes8_b8 [y]
    have hadd := sbin_add (s := List.replicate i y) (u := [y]) (by simp; omega)
    have hr : List.replicate i y ++ [y] = List.replicate (i + 1) y := by rw [List.replicate_succ']
    have h3 : evL T k0 b7_1 [.int .i64 x, .int .u8 y.toNat, .str (List.replicate i y)] [] = some (.nx, [.int .i64 x, .int .u8 y.toNat, .str (List.replicate (i + 1) y)], []) := by
      simp only [b7_1, b7_0, evL_op, evL_sel, evL_nx, evL_exit, evL_ret, evL_join, evL_block, evL_cond, evK_some, evJ_nx, evJ_rt, evJ_ex, evB_nx, evB_rt, evB_ex, evC2_bool, evS_and, evS_or, evS_tf, evS_ft, ev_t, ev_s, ev_c, evalOp, bin_add, bin_sub, bin_mul, bin_eql, bin_neq, bin_lss, bin_leq, bin_gtr, bin_geq, sbin_eql, sbin_neq, b8, List.map_cons, List.map_nil, PV.rens, PV.ren, if_true, if_false, Bool.false_eq_true, reduceIte, Nat.reduceAdd, Nat.reduceSub, Nat.reduceMul, Nat.reduceEqDiff, Nat.reduceLeDiff, Int.reduceLE, Int.reduceLT, Int.reduceEq, Int.reduceToNat, Int.reduceAdd, Int.reduceSub, Int.reduceNeg, decide_true, decide_false, Bool.not_true, Bool.not_false, Bool.true_and, Bool.false_and, Bool.and_true, Bool.and_false, Bool.or_true, Bool.true_or, Bool.or_false, Bool.false_or, and_self, and_true, true_and, Nat.le_refl, Nat.zero_add, Nat.mul_one, Nat.one_ne_zero, Nat.zero_le, highP, lowP, Option.map_some, Option.map_none, List.drop_zero, List.take_zero, List.length_cons, List.length_nil, List.nil_append, List.append_nil, List.cons_append, fillP, PV.cells?, PV.one, PV.cleans, PV.clean, PV.of?, List.all_cons, List.all_nil, List.take_succ_cons, List.drop_succ_cons, Bool.and_self, Int.natCast_nonneg, Int.toNat_natCast, Int.toNat_zero, List.length_replicate, hlt, h8, hadd, hr]
    rw [loopL_succ, head0 (env := [.int .i64 x, .int .u8 y.toNat, .str (List.replicate i y)]) rfl, h3]
    exact loop7 k0 x j (i + 1) (by omega) k (by omega)
theorem parts_one (n : Nat) (m : Int) (f : List UInt8 → Bool) : parts (List.replicate n y) m f = (decide ((n : Int) ≤ m) && f (List.replicate n y)) := by
  unfold parts
  rw [split_rep h0 h1, List.length_replicate]
  simp
theorem split_four (a : List UInt8) (ha : 46 ∉ a) (n : Nat) : splitBy 46 (List.replicate 63 y ++ 46 :: (List.replicate 63 y ++ 46 :: (List.replicate 63 y ++ 46 :: a))) = [List.replicate 63 y, List.replicate 63 y, List.replicate 63 y, a] := by
  have hr : 46 ∉ List.replicate 63 y := fun h => low_ne h0 h1 46 (by omega) (List.eq_of_mem_replicate h).symm
  rw [splitBy_app _ hr, splitBy_app _ hr, splitBy_app _ hr, splitBy_none ha]
theorem f13 (n : Nat) (hn : 0 < n) (hm : n < 1000) : T 13 [.agg [.bool false, .str (List.replicate n y), .str [120]]] [] = some (.int .i64 (if n ≤ 64 then 0 else 5), []) := by
  rw [T13 _ _ _ (by simp only [List.length_replicate, List.length_cons, List.length_nil, List.length_append]; omega)]
  have h2 : parts [120] 255 label = true := by decide
  unfold pathOk
  rw [parts_one h0 h1, atom_rep h0 h1 n hn, h2]
  simp only [evL_op, evL_sel, evL_nx, evL_exit, evL_ret, evL_join, evL_block, evL_cond, evK_some, evJ_nx, evJ_rt, evJ_ex, evB_nx, evB_rt, evB_ex, evC2_bool, evS_and, evS_or, evS_tf, evS_ft, ev_t, ev_s, ev_c, evalOp, bin_add, bin_sub, bin_mul, bin_eql, bin_neq, bin_lss, bin_leq, bin_gtr, bin_geq, sbin_eql, sbin_neq, b8, List.map_cons, List.map_nil, PV.rens, PV.ren, if_true, if_false, Bool.false_eq_true, reduceIte, Nat.reduceAdd, Nat.reduceSub, Nat.reduceMul, Nat.reduceEqDiff, Nat.reduceLeDiff, Int.reduceLE, Int.reduceLT, Int.reduceEq, Int.reduceToNat, Int.reduceAdd, Int.reduceSub, Int.reduceNeg, decide_true, decide_false, Bool.not_true, Bool.not_false, Bool.true_and, Bool.false_and, Bool.and_true, Bool.and_false, Bool.or_true, Bool.true_or, Bool.or_false, Bool.false_or, and_self, and_true, true_and, Nat.le_refl, Nat.zero_add, Nat.mul_one, Nat.one_ne_zero, Nat.zero_le, highP, lowP, Option.map_some, Option.map_none, List.drop_zero, List.take_zero, List.length_cons, List.length_nil, List.nil_append, List.append_nil, List.cons_append, fillP, PV.cells?, PV.one, PV.cleans, PV.clean, PV.of?, List.all_cons, List.all_nil, List.take_succ_cons, List.drop_succ_cons, Bool.and_self, Int.natCast_nonneg, Int.toNat_natCast, Int.toNat_zero]
  by_cases h : n ≤ 64
  · have : (n : Int) ≤ 64 := by omega
    simp only [h, this, evL_op, evL_sel, evL_nx, evL_exit, evL_ret, evL_join, evL_block, evL_cond, evK_some, evJ_nx, evJ_rt, evJ_ex, evB_nx, evB_rt, evB_ex, evC2_bool, evS_and, evS_or, evS_tf, evS_ft, ev_t, ev_s, ev_c, evalOp, bin_add, bin_sub, bin_mul, bin_eql, bin_neq, bin_lss, bin_leq, bin_gtr, bin_geq, sbin_eql, sbin_neq, b8, List.map_cons, List.map_nil, PV.rens, PV.ren, if_true, if_false, Bool.false_eq_true, reduceIte, Nat.reduceAdd, Nat.reduceSub, Nat.reduceMul, Nat.reduceEqDiff, Nat.reduceLeDiff, Int.reduceLE, Int.reduceLT, Int.reduceEq, Int.reduceToNat, Int.reduceAdd, Int.reduceSub, Int.reduceNeg, decide_true, decide_false, Bool.not_true, Bool.not_false, Bool.true_and, Bool.false_and, Bool.and_true, Bool.and_false, Bool.or_true, Bool.true_or, Bool.or_false, Bool.false_or, and_self, and_true, true_and, Nat.le_refl, Nat.zero_add, Nat.mul_one, Nat.one_ne_zero, Nat.zero_le, highP, lowP, Option.map_some, Option.map_none, List.drop_zero, List.take_zero, List.length_cons, List.length_nil, List.nil_append, List.append_nil, List.cons_append, fillP, PV.cells?, PV.one, PV.cleans, PV.clean, PV.of?, List.all_cons, List.all_nil, List.take_succ_cons, List.drop_succ_cons, Bool.and_self, Int.natCast_nonneg, Int.toNat_natCast, Int.toNat_zero]
  · have : ¬ (n : Int) ≤ 64 := by omega
    simp only [h, this, evL_op, evL_sel, evL_nx, evL_exit, evL_ret, evL_join, evL_block, evL_cond, evK_some, evJ_nx, evJ_rt, evJ_ex, evB_nx, evB_rt, evB_ex, evC2_bool, evS_and, evS_or, evS_tf, evS_ft, ev_t, ev_s, ev_c, evalOp, bin_add, bin_sub, bin_mul, bin_eql, bin_neq, bin_lss, bin_leq, bin_gtr, bin_geq, sbin_eql, sbin_neq, b8, List.map_cons, List.map_nil, PV.rens, PV.ren, if_true, if_false, Bool.false_eq_true, reduceIte, Nat.reduceAdd, Nat.reduceSub, Nat.reduceMul, Nat.reduceEqDiff, Nat.reduceLeDiff, Int.reduceLE, Int.reduceLT, Int.reduceEq, Int.reduceToNat, Int.reduceAdd, Int.reduceSub, Int.reduceNeg, decide_true, decide_false, Bool.not_true, Bool.not_false, Bool.true_and, Bool.false_and, Bool.and_true, Bool.and_false, Bool.or_true, Bool.true_or, Bool.or_false, Bool.false_or, and_self, and_true, true_and, Nat.le_refl, Nat.zero_add, Nat.mul_one, Nat.one_ne_zero, Nat.zero_le, highP, lowP, Option.map_some, Option.map_none, List.drop_zero, List.take_zero, List.length_cons, List.length_nil, List.nil_append, List.append_nil, List.cons_append, fillP, PV.cells?, PV.one, PV.cleans, PV.clean, PV.of?, List.all_cons, List.all_nil, List.take_succ_cons, List.drop_succ_cons, Bool.and_self, Int.natCast_nonneg, Int.toNat_natCast, Int.toNat_zero]
theorem f14 (n : Nat) (hn : 0 < n) (hm : n < 1000) : T 14 [.str (List.replicate n y)] [] = some (.bool (decide (n ≤ 63)), []) := by
  rw [T14 _ (by rw [List.length_replicate]; omega), parts_one h0 h1, label_rep h0 h1 n hn]
  by_cases h : n ≤ 63
  · have a : (n : Int) ≤ 63 := by omega
    have b : (n : Int) ≤ 255 := by omega
    simp only [h, a, b, evL_op, evL_sel, evL_nx, evL_exit, evL_ret, evL_join, evL_block, evL_cond, evK_some, evJ_nx, evJ_rt, evJ_ex, evB_nx, evB_rt, evB_ex, evC2_bool, evS_and, evS_or, evS_tf, evS_ft, ev_t, ev_s, ev_c, evalOp, bin_add, bin_sub, bin_mul, bin_eql, bin_neq, bin_lss, bin_leq, bin_gtr, bin_geq, sbin_eql, sbin_neq, b8, List.map_cons, List.map_nil, PV.rens, PV.ren, if_true, if_false, Bool.false_eq_true, reduceIte, Nat.reduceAdd, Nat.reduceSub, Nat.reduceMul, Nat.reduceEqDiff, Nat.reduceLeDiff, Int.reduceLE, Int.reduceLT, Int.reduceEq, Int.reduceToNat, Int.reduceAdd, Int.reduceSub, Int.reduceNeg, decide_true, decide_false, Bool.not_true, Bool.not_false, Bool.true_and, Bool.false_and, Bool.and_true, Bool.and_false, Bool.or_true, Bool.true_or, Bool.or_false, Bool.false_or, and_self, and_true, true_and, Nat.le_refl, Nat.zero_add, Nat.mul_one, Nat.one_ne_zero, Nat.zero_le, highP, lowP, Option.map_some, Option.map_none, List.drop_zero, List.take_zero, List.length_cons, List.length_nil, List.nil_append, List.append_nil, List.cons_append, fillP, PV.cells?, PV.one, PV.cleans, PV.clean, PV.of?, List.all_cons, List.all_nil, List.take_succ_cons, List.drop_succ_cons, Bool.and_self, Int.natCast_nonneg, Int.toNat_natCast, Int.toNat_zero]
  · have a : ¬ (n : Int) ≤ 63 := by omega
    simp only [h, a, evL_op, evL_sel, evL_nx, evL_exit, evL_ret, evL_join, evL_block, evL_cond, evK_some, evJ_nx, evJ_rt, evJ_ex, evB_nx, evB_rt, evB_ex, evC2_bool, evS_and, evS_or, evS_tf, evS_ft, ev_t, ev_s, ev_c, evalOp, bin_add, bin_sub, bin_mul, bin_eql, bin_neq, bin_lss, bin_leq, bin_gtr, bin_geq, sbin_eql, sbin_neq, b8, List.map_cons, List.map_nil, PV.rens, PV.ren, if_true, if_false, Bool.false_eq_true, reduceIte, Nat.reduceAdd, Nat.reduceSub, Nat.reduceMul, Nat.reduceEqDiff, Nat.reduceLeDiff, Int.reduceLE, Int.reduceLT, Int.reduceEq, Int.reduceToNat, Int.reduceAdd, Int.reduceSub, Int.reduceNeg, decide_true, decide_false, Bool.not_true, Bool.not_false, Bool.true_and, Bool.false_and, Bool.and_true, Bool.and_false, Bool.or_true, Bool.true_or, Bool.or_false, Bool.false_or, and_self, and_true, true_and, Nat.le_refl, Nat.zero_add, Nat.mul_one, Nat.one_ne_zero, Nat.zero_le, highP, lowP, Option.map_some, Option.map_none, List.drop_zero, List.take_zero, List.length_cons, List.length_nil, List.nil_append, List.append_nil, List.cons_append, fillP, PV.cells?, PV.one, PV.cleans, PV.clean, PV.of?, List.all_cons, List.all_nil, List.take_succ_cons, List.drop_succ_cons, Bool.and_self, Int.natCast_nonneg, Int.toNat_natCast, Int.toNat_zero]
theorem g14 (n : Nat) (hn : 0 < n) (hm : n < 1000) : T 14 [.str (List.replicate 63 y ++ 46 :: (List.replicate 63 y ++ 46 :: (List.replicate 63 y ++ 46 :: List.replicate n y)))] [] = some (.bool (decide (n ≤ 63)), []) := by
  have hr : 46 ∉ List.replicate n y := fun h => low_ne h0 h1 46 (by omega) (List.eq_of_mem_replicate h).symm
  rw [T14 _ (by simp only [List.length_replicate, List.length_cons, List.length_nil, List.length_append]; omega)]
  unfold parts
  rw [split_four h0 h1 _ hr 0]
  simp only [List.all_cons, List.all_nil, label_rep h0 h1 63 (by omega), label_rep h0 h1 n hn, List.length_append, List.length_cons, List.length_replicate]
  by_cases h : n ≤ 63
  · have a : (n : Int) ≤ 63 := by omega
    have b : ((63 + (63 + (63 + (n + 1) + 1) + 1) : Nat) : Int) ≤ 255 := by omega
    simp only [h, a, b, evL_op, evL_sel, evL_nx, evL_exit, evL_ret, evL_join, evL_block, evL_cond, evK_some, evJ_nx, evJ_rt, evJ_ex, evB_nx, evB_rt, evB_ex, evC2_bool, evS_and, evS_or, evS_tf, evS_ft, ev_t, ev_s, ev_c, evalOp, bin_add, bin_sub, bin_mul, bin_eql, bin_neq, bin_lss, bin_leq, bin_gtr, bin_geq, sbin_eql, sbin_neq, b8, List.map_cons, List.map_nil, PV.rens, PV.ren, if_true, if_false, Bool.false_eq_true, reduceIte, Nat.reduceAdd, Nat.reduceSub, Nat.reduceMul, Nat.reduceEqDiff, Nat.reduceLeDiff, Int.reduceLE, Int.reduceLT, Int.reduceEq, Int.reduceToNat, Int.reduceAdd, Int.reduceSub, Int.reduceNeg, decide_true, decide_false, Bool.not_true, Bool.not_false, Bool.true_and, Bool.false_and, Bool.and_true, Bool.and_false, Bool.or_true, Bool.true_or, Bool.or_false, Bool.false_or, and_self, and_true, true_and, Nat.le_refl, Nat.zero_add, Nat.mul_one, Nat.one_ne_zero, Nat.zero_le, highP, lowP, Option.map_some, Option.map_none, List.drop_zero, List.take_zero, List.length_cons, List.length_nil, List.nil_append, List.append_nil, List.cons_append, fillP, PV.cells?, PV.one, PV.cleans, PV.clean, PV.of?, List.all_cons, List.all_nil, List.take_succ_cons, List.drop_succ_cons, Bool.and_self, Int.natCast_nonneg, Int.toNat_natCast, Int.toNat_zero]
    rfl
  · have a : ¬ (n : Int) ≤ 63 := by omega
    simp only [h, a, evL_op, evL_sel, evL_nx, evL_exit, evL_ret, evL_join, evL_block, evL_cond, evK_some, evJ_nx, evJ_rt, evJ_ex, evB_nx, evB_rt, evB_ex, evC2_bool, evS_and, evS_or, evS_tf, evS_ft, ev_t, ev_s, ev_c, evalOp, bin_add, bin_sub, bin_mul, bin_eql, bin_neq, bin_lss, bin_leq, bin_gtr, bin_geq, sbin_eql, sbin_neq, b8, List.map_cons, List.map_nil, PV.rens, PV.ren, if_true, if_false, Bool.false_eq_true, reduceIte, Nat.reduceAdd, Nat.reduceSub, Nat.reduceMul, Nat.reduceEqDiff, Nat.reduceLeDiff, Int.reduceLE, Int.reduceLT, Int.reduceEq, Int.reduceToNat, Int.reduceAdd, Int.reduceSub, Int.reduceNeg, decide_true, decide_false, Bool.not_true, Bool.not_false, Bool.true_and, Bool.false_and, Bool.and_true, Bool.and_false, Bool.or_true, Bool.true_or, Bool.or_false, Bool.false_or, and_self, and_true, true_and, Nat.le_refl, Nat.zero_add, Nat.mul_one, Nat.one_ne_zero, Nat.zero_le, highP, lowP, Option.map_some, Option.map_none, List.drop_zero, List.take_zero, List.length_cons, List.length_nil, List.nil_append, List.append_nil, List.cons_append, fillP, PV.cells?, PV.one, PV.cleans, PV.clean, PV.of?, List.all_cons, List.all_nil, List.take_succ_cons, List.drop_succ_cons, Bool.and_self, Int.natCast_nonneg, Int.toNat_natCast, Int.toNat_zero]
theorem t254 : (List.replicate 63 y ++ 46 :: (List.replicate 63 y ++ 46 :: (List.replicate 63 y ++ 46 :: List.replicate 63 y))).take 254 = List.replicate 63 y ++ 46 :: (List.replicate 63 y ++ 46 :: (List.replicate 63 y ++ 46 :: List.replicate 62 y)) := by kernel_rfl
/-- Behind the loop. -/
theorem rest7 (k0 : Nat) (x : Nat) (hx : x = 0 ∨ x = 1) : evL T k0 b7_3 [.int .i64 x, .str (List.replicate 64 y)] [] = some (.rt, [.bool true], []) := by
  have m0 : min 0 64 = 0 := rfl
  have m1 : min 1 64 = 1 := rfl
  have m2 : min 2 64 = 2 := rfl
  have m63 : min 63 64 = 63 := rfl
  have m64 : min 64 64 = 64 := rfl
  have c255 : ((255 : Nat) : Int) = 255 := rfl
  have c64 : ((64 : Nat) : Int) = 64 := rfl
  have c1 : ((1 : Nat) : Int) = 1 := rfl
  have c0 : ((0 : Nat) : Int) = 0 := rfl
  have l255 : ((63 + (63 + (63 + (63 + 1) + 1) + 1) : Nat) : Int) = 255 := rfl
  have w1 : IntKind.i64.wrap 63 = 63 := rfl
  have w2 : IntKind.i64.wrap 64 = 64 := rfl
  have w3 : IntKind.i64.wrap 1 = 1 := rfl
  have w4 : IntKind.i64.wrap 2 = 2 := rfl
  have e1 := f13 h0 h1 64 (by omega) (by omega)
  have e2 := f13 h0 h1 65 (by omega) (by omega)
  have e3 := f14 h0 h1 63 (by omega) (by omega)
  have e4 := f14 h0 h1 64 (by omega) (by omega)
  have e5 := g14 h0 h1 63 (by omega) (by omega)
  have e6 := g14 h0 h1 64 (by omega) (by omega)
  rcases hx with rfl | rfl
  · simp only [b7_3, b7_2, evL_op, evL_sel, evL_nx, evL_exit, evL_ret, evL_join, evL_block, evL_cond, evK_some, evJ_nx, evJ_rt, evJ_ex, evB_nx, evB_rt, evB_ex, evC2_bool, evS_and, evS_or, evS_tf, evS_ft, ev_t, ev_s, ev_c, evalOp, bin_add, bin_sub, bin_mul, bin_eql, bin_neq, bin_lss, bin_leq, bin_gtr, bin_geq, sbin_eql, sbin_neq, b8, List.map_cons, List.map_nil, PV.rens, PV.ren, if_true, if_false, Bool.false_eq_true, reduceIte, Nat.reduceAdd, Nat.reduceSub, Nat.reduceMul, Nat.reduceEqDiff, Nat.reduceLeDiff, Int.reduceLE, Int.reduceLT, Int.reduceEq, Int.reduceToNat, Int.reduceAdd, Int.reduceSub, Int.reduceNeg, decide_true, decide_false, Bool.not_true, Bool.not_false, Bool.true_and, Bool.false_and, Bool.and_true, Bool.and_false, Bool.or_true, Bool.true_or, Bool.or_false, Bool.false_or, and_self, and_true, true_and, Nat.le_refl, Nat.zero_add, Nat.mul_one, Nat.one_ne_zero, Nat.zero_le, highP, lowP, Option.map_some, Option.map_none, List.drop_zero, List.take_zero, List.length_cons, List.length_nil, List.nil_append, List.append_nil, List.cons_append, fillP, PV.cells?, PV.one, PV.cleans, PV.clean, PV.of?, List.all_cons, List.all_nil, List.take_succ_cons, List.drop_succ_cons, Bool.and_self, Int.natCast_nonneg, Int.toNat_natCast, Int.toNat_zero, List.length_replicate, List.take_replicate, List.replicate_zero, c64, c0, c255, sbin_add, m0, m1, m2, m63, m64, w1, w2, w3, w4, e1, e3, e5, List.length_append, List.append_assoc, List.replicate_append_replicate, t254 h0 h1, T24]
    rfl
  · simp only [b7_3, b7_2, evL_op, evL_sel, evL_nx, evL_exit, evL_ret, evL_join, evL_block, evL_cond, evK_some, evJ_nx, evJ_rt, evJ_ex, evB_nx, evB_rt, evB_ex, evC2_bool, evS_and, evS_or, evS_tf, evS_ft, ev_t, ev_s, ev_c, evalOp, bin_add, bin_sub, bin_mul, bin_eql, bin_neq, bin_lss, bin_leq, bin_gtr, bin_geq, sbin_eql, sbin_neq, b8, List.map_cons, List.map_nil, PV.rens, PV.ren, if_true, if_false, Bool.false_eq_true, reduceIte, Nat.reduceAdd, Nat.reduceSub, Nat.reduceMul, Nat.reduceEqDiff, Nat.reduceLeDiff, Int.reduceLE, Int.reduceLT, Int.reduceEq, Int.reduceToNat, Int.reduceAdd, Int.reduceSub, Int.reduceNeg, decide_true, decide_false, Bool.not_true, Bool.not_false, Bool.true_and, Bool.false_and, Bool.and_true, Bool.and_false, Bool.or_true, Bool.true_or, Bool.or_false, Bool.false_or, and_self, and_true, true_and, Nat.le_refl, Nat.zero_add, Nat.mul_one, Nat.one_ne_zero, Nat.zero_le, highP, lowP, Option.map_some, Option.map_none, List.drop_zero, List.take_zero, List.length_cons, List.length_nil, List.nil_append, List.append_nil, List.cons_append, fillP, PV.cells?, PV.one, PV.cleans, PV.clean, PV.of?, List.all_cons, List.all_nil, List.take_succ_cons, List.drop_succ_cons, Bool.and_self, Int.natCast_nonneg, Int.toNat_natCast, Int.toNat_zero, List.length_replicate, List.take_replicate, List.replicate_zero, c64, c1, c255, sbin_add, m0, m1, m2, m63, m64, w1, w2, w3, w4, e2, e4, e6, List.length_append, List.append_assoc, List.replicate_append_replicate, t254 h0 h1, T24]
    rfl
end
theorem T7 (over : Int) (c : UInt8) : T 7 [.int .i64 over, .int .u8 c.toNat] [] = some (.bool true, []) := by
  have key : ∀ (x : Nat) (y : UInt8), (x = 0 ∨ x = 1) → 97 ≤ y.toNat → y.toNat ≤ 122 → evL T 65 b7_4 [.int .i64 x, .int .u8 y.toNat] [] = some (.rt, [.bool true], []) := fun x y hx h0 h1 => by
    have hl := loop7 h0 h1 65 x 64 0 (by omega) 65 (by omega)
    have e : evL T 65 b7_4 [.int .i64 x, .int .u8 y.toNat] [] = evJ T 65 b7_3 (evB 0 (loopL 0 (evL T 65 b7_1) 65 [.int .i64 x, .int .u8 y.toNat, .str (List.replicate 0 y)] [])) := by
      simp only [b7_4, evL_join, evL_block, evL_loop, ev_t, ev_s, ev_c, List.map_cons, List.map_nil, List.length_nil, List.replicate_zero]
    rw [e, hl]
    exact rest7 h0 h1 65 x hx
  obtain ⟨x, hx, he⟩ : ∃ x : Nat, (x = 0 ∨ x = 1) ∧ IntKind.i64.wrap (Int.tmod (IntKind.u64.wrap over) 2) = (x : Int) := by
    have h0 : 0 ≤ IntKind.u64.wrap over := by
      have : IntKind.u64.wrap over = over % 18446744073709551616 := by simp [IntKind.wrap, IntKind.bits, IntKind.signed]
      omega
    have h2 : Int.tmod (IntKind.u64.wrap over) 2 = IntKind.u64.wrap over % 2 := Int.tmod_eq_emod_of_nonneg h0
    refine ⟨(IntKind.u64.wrap over % 2).toNat, by omega, ?_⟩
    rw [h2, IntWalk.i64_in _ (by omega)]
    omega
  refine evT_of (k := 65) (F := l7) (H' := []) (e := [.bool true]) (l := [.bool true]) rfl rfl rfl ?_ rfl rfl
  have hb : evL T 65 b7 [.int .i64 over, .int .u8 c.toNat] [] = evJ T 65 b7_4 (if (decide ((c.toNat : Int) < 97) || decide ((122 : Int) < c.toNat)) = true then some (.nx, [.int .i64 x, .int .u8 97], []) else some (.nx, [.int .i64 x, .int .u8 c.toNat], [])) := by
    have h2 : binP .rem (.int .u64 (IntKind.u64.wrap over)) (.int .u64 2) = some (.int .u64 (Int.tmod (IntKind.u64.wrap over) 2)) := bin_rem (by decide)
    rw [← he]
    simp only [b7, evL_op, evL_sel, evL_nx, evL_exit, evL_ret, evL_join, evL_block, evL_cond, evK_some, evJ_nx, evJ_rt, evJ_ex, evB_nx, evB_rt, evB_ex, evC2_bool, evS_and, evS_or, evS_tf, evS_ft, ev_t, ev_s, ev_c, evalOp, bin_add, bin_sub, bin_mul, bin_eql, bin_neq, bin_lss, bin_leq, bin_gtr, bin_geq, sbin_eql, sbin_neq, b8, List.map_cons, List.map_nil, PV.rens, PV.ren, if_true, if_false, Bool.false_eq_true, reduceIte, h2]
  show evL T 65 b7 _ _ = _
  rw [hb]
  by_cases h : (decide ((c.toNat : Int) < 97) || decide ((122 : Int) < c.toNat)) = true
  · rw [if_pos h]
    exact key x 97 hx (by decide) (by decide)
  · rw [if_neg h]
    simp only [Bool.or_eq_true, decide_eq_true_eq, not_or] at h
    exact key x c hx (by omega) (by omega)
theorem lawPathLong (over : Int) (_ : (Lit.int .i64 over).wf = true) (c : UInt8) : evT lt ov 7 [.int .i64 over, .int .u8 c.toNat] [] = some (.bool true, []) := T7 over c
end Go.Proofs.YtgilfigaimndkaaDoor.Tab
