/- Numbers' digits. -/
import Derived.Test.YtmajbgmjlggcbaaDoorBase
namespace Go.Proofs.YtmajbgmjlggcbaaDoor.Tab
set_option linter.all false
open Go Go.RowKit Go.Proofs.YtmajbgmjlggcbaaDoor.Ev
theorem nDigits_le : ∀ (k u : Nat), u < 10 ^ (k + 1) → Lib.nDigits u ≤ k + 1
  | 0, u, h => by rw [Lib.nDigits_small (by simpa using h)]; exact Nat.le_refl _
  | k + 1, u, h => by
    by_cases h1 : u < 10
    · rw [Lib.nDigits_small h1]; omega
    · rw [Lib.nDigits_big h1]
      have := nDigits_le k (u / 10) (by rw [Nat.pow_succ] at h; omega)
      omega
theorem itoa_nat (u : Nat) : Lib.itoa (u : Int) = Lib.decDigits u := by
  unfold Lib.itoa
  rw [if_neg (by omega)]
  rfl
theorem itoa_len (u : Nat) (h : u ≤ 1099511627776) : (Lib.itoa (u : Int)).length ≤ 13 := by
  rw [itoa_nat, Lib.decDigits_length]
  exact nDigits_le 12 u (by omega)
theorem dec_big {u : Nat} (h : ¬ u < 10) : Lib.decDigits u = Lib.decDigits (u / 10) ++ [UInt8.ofNat (48 + u % 10)] := by rw [Lib.decDigits, dif_neg h]
theorem ten_at : ∀ d : Fin 10, ((48 : UInt8) :: List.take d.val [49, 50, 51, 52, 53, 54, 55, 56, 57]).drop d.val = [UInt8.ofNat (48 + d.val)] := by decide
theorem ten_at' {d : Nat} (h : d < 10) : ((48 : UInt8) :: List.take d [49, 50, 51, 52, 53, 54, 55, 56, 57]).drop d = [UInt8.ofNat (48 + d)] := ten_at ⟨d, h⟩
theorem T20 (u : Nat) (hu : u ≤ 1099511627776) : T 20 [.int .i64 u] [] = some (.str (Lib.itoa (u : Int)), []) := by
  have hl0 := itoa_len u hu
  rw [itoa_nat] at hl0 ⊢
  refine evT_of (k := 20) (F := l20) (H' := []) (e := [.str (Lib.decDigits u)]) (l := [.str (Lib.decDigits u)]) rfl rfl rfl ?_ rfl rfl
  show evL T 20 q20 _ _ = _
  obtain ⟨r, lp, n, s, rfl, hn, hs⟩ := loop_post (n := 0) (body := evL T 20 q20_1) (σ := Nat × List UInt8) (fun x => [.int .i64 x.1, .str x.2]) (fun _ => []) (fun x => (Lib.decDigits x.1).length)
    (fun x => x.1 ≤ 1099511627776 ∧ Lib.decDigits x.1 ++ x.2 = Lib.decDigits u) (fun r => ∃ (n : Nat) (s : List UInt8), r = (.ex 0, [.int .i64 n, .str s], []) ∧ n < 10 ∧ Lib.decDigits n ++ s = Lib.decDigits u) (by
      rintro ⟨n, s⟩ ⟨hn, hs⟩
      dsimp only at hn hs ⊢
      by_cases h : n < 10
      · have g1 : ¬ (9 : Int) < n := by omega
        refine .inl ⟨_, ?_, ?_, n, s, rfl, h, hs⟩
        · simp only [q20_1, evL_op, evL_sel, evL_nx, evL_exit, evL_ret, evL_join, evL_block, evL_cond, evK_some, evJ_nx, evJ_rt, evJ_ex, evB_nx, evB_rt, evB_ex, evC2_bool, evS_and, evS_or, evS_tf, evS_ft, ev_t, ev_s, ev_c, evalOp, bin_add, bin_sub, bin_mul, bin_eql, bin_neq, bin_lss, bin_leq, bin_gtr, bin_geq, sbin_eql, sbin_neq, b8, List.map_cons, List.map_nil, PV.rens, PV.ren, if_true, if_false, Bool.false_eq_true, reduceIte, Nat.reduceAdd, Nat.reduceSub, Nat.reduceMul, Nat.reduceEqDiff, Nat.reduceLeDiff, Int.reduceLE, Int.reduceLT, Int.reduceEq, Int.reduceToNat, Int.reduceAdd, Int.reduceSub, Int.reduceNeg, decide_true, decide_false, Bool.not_true, Bool.not_false, Bool.true_and, Bool.false_and, Bool.and_true, Bool.and_false, Bool.or_true, Bool.true_or, Bool.or_false, Bool.false_or, and_self, and_true, true_and, Nat.le_refl, Nat.zero_add, Nat.mul_one, Nat.one_ne_zero, Nat.zero_le, highP, lowP, Option.map_some, Option.map_none, List.drop_zero, List.take_zero, List.length_cons, List.length_nil, List.nil_append, List.append_nil, List.cons_append, fillP, PV.cells?, PV.one, PV.cleans, PV.clean, PV.of?, List.all_cons, List.all_nil, List.take_succ_cons, List.drop_succ_cons, Bool.and_self, Int.natCast_nonneg, Int.toNat_natCast, Int.toNat_zero, PV.of?, Tk.ren, tailP, evL_loop, or_true, true_or, Nat.zero_lt_one, Nat.sub_zero, List.getElem?_cons_zero, List.getElem?_cons_succ, List.set_cons_zero, List.set_cons_succ, List.take_length, g1]
        · simp
      · have g1 : (9 : Int) < n := by omega
        rw [dec_big h] at hs
        have hd : n % 10 < 10 := by omega
        have ht := ten_at' hd
        have r1 : ∀ z : Int, binP .rem (.int .i64 z) (.int .i64 10) = some (.int .i64 (z.tmod 10)) := fun z => bin_rem (by decide)
        have r2 : ∀ z : Int, binP .quo (.int .i64 z) (.int .i64 10) = some (.int .i64 (IntKind.i64.wrap (z.tdiv 10))) := fun z => bin_quo (by decide)
        have m1 : (n : Int).tmod 10 = ((n % 10 : Nat) : Int) := by rw [Int.tmod_eq_emod_of_nonneg (by omega)]; omega
        have m2 : IntKind.i64.wrap ((n : Int).tdiv 10) = ((n / 10 : Nat) : Int) := by rw [Int.tdiv_eq_ediv_of_nonneg (by omega), wr (by omega) (by omega)]; omega
        have w1 : IntKind.i64.wrap (((n % 10 : Nat) : Int) + 1) = ((n % 10 + 1 : Nat) : Int) := by rw [wr (by omega) (by omega)]; omega
        have g2 : ((n % 10 + 1 : Nat) : Int) ≤ ((10 : Nat) : Int) := by omega
        have g3 : n % 10 ≤ n % 10 + 1 := by omega
        have hlen := congrArg List.length hs
        simp only [List.length_append, List.length_cons, List.length_nil] at hlen
        have a1 := sbin_add (s := [UInt8.ofNat (48 + n % 10)]) (u := s) (by simp only [List.length_cons, List.length_nil]; omega)
        refine .inr ⟨(n / 10, UInt8.ofNat (48 + n % 10) :: s), [.int .i64 ((n / 10 : Nat) : Int), .str (UInt8.ofNat (48 + n % 10) :: s)], [], ?_, rfl, ⟨by dsimp only; omega, by rw [← hs]; simp⟩, by dsimp only; rw [dec_big h]; simp⟩
        simp only [List.cons_append, List.nil_append] at a1
        simp only [q20_1, q20_0, evL_op, evL_sel, evL_nx, evL_exit, evL_ret, evL_join, evL_block, evL_cond, evK_some, evJ_nx, evJ_rt, evJ_ex, evB_nx, evB_rt, evB_ex, evC2_bool, evS_and, evS_or, evS_tf, evS_ft, ev_t, ev_s, ev_c, evalOp, bin_add, bin_sub, bin_mul, bin_eql, bin_neq, bin_lss, bin_leq, bin_gtr, bin_geq, sbin_eql, sbin_neq, b8, List.map_cons, List.map_nil, PV.rens, PV.ren, if_true, if_false, Bool.false_eq_true, reduceIte, Nat.reduceAdd, Nat.reduceSub, Nat.reduceMul, Nat.reduceEqDiff, Nat.reduceLeDiff, Int.reduceLE, Int.reduceLT, Int.reduceEq, Int.reduceToNat, Int.reduceAdd, Int.reduceSub, Int.reduceNeg, decide_true, decide_false, Bool.not_true, Bool.not_false, Bool.true_and, Bool.false_and, Bool.and_true, Bool.and_false, Bool.or_true, Bool.true_or, Bool.or_false, Bool.false_or, and_self, and_true, true_and, Nat.le_refl, Nat.zero_add, Nat.mul_one, Nat.one_ne_zero, Nat.zero_le, highP, lowP, Option.map_some, Option.map_none, List.drop_zero, List.take_zero, List.length_cons, List.length_nil, List.nil_append, List.append_nil, List.cons_append, fillP, PV.cells?, PV.one, PV.cleans, PV.clean, PV.of?, List.all_cons, List.all_nil, List.take_succ_cons, List.drop_succ_cons, Bool.and_self, Int.natCast_nonneg, Int.toNat_natCast, Int.toNat_zero, PV.of?, Tk.ren, tailP, evL_loop, or_true, true_or, Nat.zero_lt_one, Nat.sub_zero, List.getElem?_cons_zero, List.getElem?_cons_succ, List.set_cons_zero, List.set_cons_succ, List.take_length, g1, r1, r2, m1, m2, w1, g2, g3, ht, a1, Int.natCast_nonneg]) 20 (u, []) [.int .i64 u, .str []] [] rfl ⟨hu, List.append_nil _⟩ (by dsimp only; omega)
  have w1 : IntKind.i64.wrap ((n : Int) + 1) = ((n + 1 : Nat) : Int) := by rw [wr (by omega) (by omega)]; omega
  have g2 : ((n + 1 : Nat) : Int) ≤ ((10 : Nat) : Int) := by omega
  have g3 : n ≤ n + 1 := by omega
  have ht := ten_at' hn
  rw [Lib.decDigits_one hn] at hs
  have hlen := congrArg List.length hs
  simp only [List.length_append, List.length_cons, List.length_nil] at hlen
  have a1 := sbin_add (s := [UInt8.ofNat (48 + n)]) (u := s) (by simp only [List.length_cons, List.length_nil]; omega)
  rw [hs] at a1
  simp only [q20, evL_op, evL_sel, evL_nx, evL_exit, evL_ret, evL_join, evL_block, evL_cond, evK_some, evJ_nx, evJ_rt, evJ_ex, evB_nx, evB_rt, evB_ex, evC2_bool, evS_and, evS_or, evS_tf, evS_ft, ev_t, ev_s, ev_c, evalOp, bin_add, bin_sub, bin_mul, bin_eql, bin_neq, bin_lss, bin_leq, bin_gtr, bin_geq, sbin_eql, sbin_neq, b8, List.map_cons, List.map_nil, PV.rens, PV.ren, if_true, if_false, Bool.false_eq_true, reduceIte, Nat.reduceAdd, Nat.reduceSub, Nat.reduceMul, Nat.reduceEqDiff, Nat.reduceLeDiff, Int.reduceLE, Int.reduceLT, Int.reduceEq, Int.reduceToNat, Int.reduceAdd, Int.reduceSub, Int.reduceNeg, decide_true, decide_false, Bool.not_true, Bool.not_false, Bool.true_and, Bool.false_and, Bool.and_true, Bool.and_false, Bool.or_true, Bool.true_or, Bool.or_false, Bool.false_or, and_self, and_true, true_and, Nat.le_refl, Nat.zero_add, Nat.mul_one, Nat.one_ne_zero, Nat.zero_le, highP, lowP, Option.map_some, Option.map_none, List.drop_zero, List.take_zero, List.length_cons, List.length_nil, List.nil_append, List.append_nil, List.cons_append, fillP, PV.cells?, PV.one, PV.cleans, PV.clean, PV.of?, List.all_cons, List.all_nil, List.take_succ_cons, List.drop_succ_cons, Bool.and_self, Int.natCast_nonneg, Int.toNat_natCast, Int.toNat_zero, PV.of?, Tk.ren, tailP, evL_loop, or_true, true_or, Nat.zero_lt_one, Nat.sub_zero, List.getElem?_cons_zero, List.getElem?_cons_succ, List.set_cons_zero, List.set_cons_succ, List.take_length]
  rw [lp]
  simp only [q20_2, evL_op, evL_sel, evL_nx, evL_exit, evL_ret, evL_join, evL_block, evL_cond, evK_some, evJ_nx, evJ_rt, evJ_ex, evB_nx, evB_rt, evB_ex, evC2_bool, evS_and, evS_or, evS_tf, evS_ft, ev_t, ev_s, ev_c, evalOp, bin_add, bin_sub, bin_mul, bin_eql, bin_neq, bin_lss, bin_leq, bin_gtr, bin_geq, sbin_eql, sbin_neq, b8, List.map_cons, List.map_nil, PV.rens, PV.ren, if_true, if_false, Bool.false_eq_true, reduceIte, Nat.reduceAdd, Nat.reduceSub, Nat.reduceMul, Nat.reduceEqDiff, Nat.reduceLeDiff, Int.reduceLE, Int.reduceLT, Int.reduceEq, Int.reduceToNat, Int.reduceAdd, Int.reduceSub, Int.reduceNeg, decide_true, decide_false, Bool.not_true, Bool.not_false, Bool.true_and, Bool.false_and, Bool.and_true, Bool.and_false, Bool.or_true, Bool.true_or, Bool.or_false, Bool.false_or, and_self, and_true, true_and, Nat.le_refl, Nat.zero_add, Nat.mul_one, Nat.one_ne_zero, Nat.zero_le, highP, lowP, Option.map_some, Option.map_none, List.drop_zero, List.take_zero, List.length_cons, List.length_nil, List.nil_append, List.append_nil, List.cons_append, fillP, PV.cells?, PV.one, PV.cleans, PV.clean, PV.of?, List.all_cons, List.all_nil, List.take_succ_cons, List.drop_succ_cons, Bool.and_self, Int.natCast_nonneg, Int.toNat_natCast, Int.toNat_zero, PV.of?, Tk.ren, tailP, evL_loop, or_true, true_or, Nat.zero_lt_one, Nat.sub_zero, List.getElem?_cons_zero, List.getElem?_cons_succ, List.set_cons_zero, List.set_cons_succ, List.take_length, w1, g2, g3, ht, a1, Int.natCast_nonneg]
end Go.Proofs.YtmajbgmjlggcbaaDoor.Tab
