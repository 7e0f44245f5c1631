/- Numbers' digits, stamps, a stamp put ahead. -/
import Derived.Test.YtmdnloajpjfbmaaDoorLn
import Derived.Test.YtmdnloajpjfbmaaDoorPathC
import Derived.Test.YtmdnloajpjfbmaaDoorHd
namespace Go.Proofs.YtmdnloajpjfbmaaDoor.Tab
set_option linter.all false
open Go Go.RowKit Go.Proofs.YtmdnloajpjfbmaaDoor.Ev
theorem T29 (n : Int) (h0 : -9223372036854775808 ≤ n) (h1 : n ≤ 9223372036854775807) : T 29 [.int .i64 n] [] = some (.str (Lib.itoa n), []) := by
  refine evT_ov (φ := ovItoa) rfl ?_
  simp only [ovItoa]
  rw [if_pos ⟨h0, h1⟩]
theorem nDigits_le : ∀ (k u : Nat), u < 10 ^ (k + 1) → Lib.nDigits u ≤ k + 1
  | 0, u, h => by rw [Lib.nDigits_small (by simpa using h)]; exact Nat.le_refl _
  | k + 1, u, h => by
    by_cases h1 : u < 10
    · rw [Lib.nDigits_small h1]; omega
    · rw [Lib.nDigits_big h1]
      have := nDigits_le k (u / 10) (by rw [Nat.pow_succ] at h; omega)
      omega
theorem itoa_nat (u : Nat) : Lib.itoa (u : Int) = Lib.decDigits u := by
  unfold Lib.itoa
  rw [if_neg (by omega)]
  rfl
theorem itoa_len (u : Nat) (h : u ≤ 1099511627776) : (Lib.itoa (u : Int)).length ≤ 13 := by
  rw [itoa_nat, Lib.decDigits_length]
  exact nDigits_le 12 u (by omega)
theorem dec_big {u : Nat} (h : ¬ u < 10) : Lib.decDigits u = Lib.decDigits (u / 10) ++ [UInt8.ofNat (48 + u % 10)] := by rw [Lib.decDigits, dif_neg h]
theorem ten_at : ∀ d : Fin 10, ((48 : UInt8) :: List.take d.val [49, 50, 51, 52, 53, 54, 55, 56, 57]).drop d.val = [UInt8.ofNat (48 + d.val)] := by decide
theorem ten_at' {d : Nat} (h : d < 10) : ((48 : UInt8) :: List.take d [49, 50, 51, 52, 53, 54, 55, 56, 57]).drop d = [UInt8.ofNat (48 + d)] := ten_at ⟨d, h⟩
theorem T34 (u : Nat) (hu : u ≤ 1099511627776) : T 34 [.int .i64 u] [] = some (.str (Lib.itoa (u : Int)), []) := by
  have hl0 := itoa_len u hu
  rw [itoa_nat] at hl0 ⊢
  refine evT_of (k := 20) (F := l34) (H' := []) (e := [.str (Lib.decDigits u)]) (l := [.str (Lib.decDigits u)]) rfl rfl rfl ?_ rfl rfl
  show evL T 20 q34 _ _ = _
  obtain ⟨r, lp, n, s, rfl, hn, hs⟩ := loop_post (n := 0) (body := evL T 20 q34_1) (σ := Nat × List UInt8) (fun x => [.int .i64 x.1, .str x.2]) (fun _ => []) (fun x => (Lib.decDigits x.1).length)
    (fun x => x.1 ≤ 1099511627776 ∧ Lib.decDigits x.1 ++ x.2 = Lib.decDigits u) (fun r => ∃ (n : Nat) (s : List UInt8), r = (.ex 0, [.int .i64 n, .str s], []) ∧ n < 10 ∧ Lib.decDigits n ++ s = Lib.decDigits u) (by
      rintro ⟨n, s⟩ ⟨hn, hs⟩
      dsimp only at hn hs ⊢
      by_cases h : n < 10
      · have g1 : ¬ (9 : Int) < n := by omega
        refine .inl ⟨_, ?_, ?_, n, s, rfl, h, hs⟩
        · simp only [q34_1, evL_op, evL_sel, evL_nx, evL_exit, evL_ret, evL_join, evL_block, evL_cond, evK_some, evJ_nx, evJ_rt, evJ_ex, evB_nx, evB_rt, evB_ex, evC2_bool, evS_and, evS_or, evS_tf, evS_ft, ev_t, ev_s, ev_c, evalOp, bin_add, bin_sub, bin_mul, bin_eql, bin_neq, bin_lss, bin_leq, bin_gtr, bin_geq, sbin_eql, sbin_neq, b8, List.map_cons, List.map_nil, PV.rens, PV.ren, if_true, if_false, Bool.false_eq_true, reduceIte, Nat.reduceAdd, Nat.reduceSub, Nat.reduceMul, Nat.reduceEqDiff, Nat.reduceLeDiff, Int.reduceLE, Int.reduceLT, Int.reduceEq, Int.reduceToNat, Int.reduceAdd, Int.reduceSub, Int.reduceNeg, decide_true, decide_false, Bool.not_true, Bool.not_false, Bool.true_and, Bool.false_and, Bool.and_true, Bool.and_false, Bool.or_true, Bool.true_or, Bool.or_false, Bool.false_or, and_self, and_true, true_and, Nat.le_refl, Nat.zero_add, Nat.mul_one, Nat.one_ne_zero, Nat.zero_le, highP, lowP, Option.map_some, Option.map_none, List.drop_zero, List.take_zero, List.length_cons, List.length_nil, List.nil_append, List.append_nil, List.cons_append, fillP, PV.cells?, PV.one, PV.cleans, PV.clean, PV.of?, List.all_cons, List.all_nil, List.take_succ_cons, List.drop_succ_cons, Bool.and_self, Int.natCast_nonneg, Int.toNat_natCast, Int.toNat_zero, PV.of?, Tk.ren, tailP, evL_loop, or_true, true_or, Nat.zero_lt_one, Nat.sub_zero, List.getElem?_cons_zero, List.getElem?_cons_succ, List.set_cons_zero, List.set_cons_succ, List.take_length, g1]
        · simp
      · have g1 : (9 : Int) < n := by omega
        rw [dec_big h] at hs
        have hd : n % 10 < 10 := by omega
        have ht := ten_at' hd
        have r1 : ∀ z : Int, binP .rem (.int .i64 z) (.int .i64 10) = some (.int .i64 (z.tmod 10)) := fun z => bin_rem (by decide)
        have r2 : ∀ z : Int, binP .quo (.int .i64 z) (.int .i64 10) = some (.int .i64 (IntKind.i64.wrap (z.tdiv 10))) := fun z => bin_quo (by decide)
        have m1 : (n : Int).tmod 10 = ((n % 10 : Nat) : Int) := by rw [Int.tmod_eq_emod_of_nonneg (by omega)]; omega
        have m2 : IntKind.i64.wrap ((n : Int).tdiv 10) = ((n / 10 : Nat) : Int) := by rw [Int.tdiv_eq_ediv_of_nonneg (by omega), wr (by omega) (by omega)]; omega
        have w1 : IntKind.i64.wrap (((n % 10 : Nat) : Int) + 1) = ((n % 10 + 1 : Nat) : Int) := by rw [wr (by omega) (by omega)]; omega
        have g2 : ((n % 10 + 1 : Nat) : Int) ≤ ((10 : Nat) : Int) := by omega
        have g3 : n % 10 ≤ n % 10 + 1 := by omega
        have hlen := congrArg List.length hs
        simp only [List.length_append, List.length_cons, List.length_nil] at hlen
        have a1 := sbin_add (s := [UInt8.ofNat (48 + n % 10)]) (u := s) (by simp only [List.length_cons, List.length_nil]; omega)
        refine .inr ⟨(n / 10, UInt8.ofNat (48 + n % 10) :: s), [.int .i64 ((n / 10 : Nat) : Int), .str (UInt8.ofNat (48 + n % 10) :: s)], [], ?_, rfl, ⟨by dsimp only; omega, by rw [← hs]; simp⟩, by dsimp only; rw [dec_big h]; simp⟩
        simp only [List.cons_append, List.nil_append] at a1
        simp only [q34_1, q34_0, evL_op, evL_sel, evL_nx, evL_exit, evL_ret, evL_join, evL_block, evL_cond, evK_some, evJ_nx, evJ_rt, evJ_ex, evB_nx, evB_rt, evB_ex, evC2_bool, evS_and, evS_or, evS_tf, evS_ft, ev_t, ev_s, ev_c, evalOp, bin_add, bin_sub, bin_mul, bin_eql, bin_neq, bin_lss, bin_leq, bin_gtr, bin_geq, sbin_eql, sbin_neq, b8, List.map_cons, List.map_nil, PV.rens, PV.ren, if_true, if_false, Bool.false_eq_true, reduceIte, Nat.reduceAdd, Nat.reduceSub, Nat.reduceMul, Nat.reduceEqDiff, Nat.reduceLeDiff, Int.reduceLE, Int.reduceLT, Int.reduceEq, Int.reduceToNat, Int.reduceAdd, Int.reduceSub, Int.reduceNeg, decide_true, decide_false, Bool.not_true, Bool.not_false, Bool.true_and, Bool.false_and, Bool.and_true, Bool.and_false, Bool.or_true, Bool.true_or, Bool.or_false, Bool.false_or, and_self, and_true, true_and, Nat.le_refl, Nat.zero_add, Nat.mul_one, Nat.one_ne_zero, Nat.zero_le, highP, lowP, Option.map_some, Option.map_none, List.drop_zero, List.take_zero, List.length_cons, List.length_nil, List.nil_append, List.append_nil, List.cons_append, fillP, PV.cells?, PV.one, PV.cleans, PV.clean, PV.of?, List.all_cons, List.all_nil, List.take_succ_cons, List.drop_succ_cons, Bool.and_self, Int.natCast_nonneg, Int.toNat_natCast, Int.toNat_zero, PV.of?, Tk.ren, tailP, evL_loop, or_true, true_or, Nat.zero_lt_one, Nat.sub_zero, List.getElem?_cons_zero, List.getElem?_cons_succ, List.set_cons_zero, List.set_cons_succ, List.take_length, g1, r1, r2, m1, m2, w1, g2, g3, ht, a1, Int.natCast_nonneg]) 20 (u, []) [.int .i64 u, .str []] [] rfl ⟨hu, List.append_nil _⟩ (by dsimp only; omega)
  have w1 : IntKind.i64.wrap ((n : Int) + 1) = ((n + 1 : Nat) : Int) := by rw [wr (by omega) (by omega)]; omega
  have g2 : ((n + 1 : Nat) : Int) ≤ ((10 : Nat) : Int) := by omega
  have g3 : n ≤ n + 1 := by omega
  have ht := ten_at' hn
  rw [Lib.decDigits_one hn] at hs
  have hlen := congrArg List.length hs
  simp only [List.length_append, List.length_cons, List.length_nil] at hlen
  have a1 := sbin_add (s := [UInt8.ofNat (48 + n)]) (u := s) (by simp only [List.length_cons, List.length_nil]; omega)
  rw [hs] at a1
  simp only [q34, evL_op, evL_sel, evL_nx, evL_exit, evL_ret, evL_join, evL_block, evL_cond, evK_some, evJ_nx, evJ_rt, evJ_ex, evB_nx, evB_rt, evB_ex, evC2_bool, evS_and, evS_or, evS_tf, evS_ft, ev_t, ev_s, ev_c, evalOp, bin_add, bin_sub, bin_mul, bin_eql, bin_neq, bin_lss, bin_leq, bin_gtr, bin_geq, sbin_eql, sbin_neq, b8, List.map_cons, List.map_nil, PV.rens, PV.ren, if_true, if_false, Bool.false_eq_true, reduceIte, Nat.reduceAdd, Nat.reduceSub, Nat.reduceMul, Nat.reduceEqDiff, Nat.reduceLeDiff, Int.reduceLE, Int.reduceLT, Int.reduceEq, Int.reduceToNat, Int.reduceAdd, Int.reduceSub, Int.reduceNeg, decide_true, decide_false, Bool.not_true, Bool.not_false, Bool.true_and, Bool.false_and, Bool.and_true, Bool.and_false, Bool.or_true, Bool.true_or, Bool.or_false, Bool.false_or, and_self, and_true, true_and, Nat.le_refl, Nat.zero_add, Nat.mul_one, Nat.one_ne_zero, Nat.zero_le, highP, lowP, Option.map_some, Option.map_none, List.drop_zero, List.take_zero, List.length_cons, List.length_nil, List.nil_append, List.append_nil, List.cons_append, fillP, PV.cells?, PV.one, PV.cleans, PV.clean, PV.of?, List.all_cons, List.all_nil, List.take_succ_cons, List.drop_succ_cons, Bool.and_self, Int.natCast_nonneg, Int.toNat_natCast, Int.toNat_zero, PV.of?, Tk.ren, tailP, evL_loop, or_true, true_or, Nat.zero_lt_one, Nat.sub_zero, List.getElem?_cons_zero, List.getElem?_cons_succ, List.set_cons_zero, List.set_cons_succ, List.take_length]
  rw [lp]
  simp only [q34_2, evL_op, evL_sel, evL_nx, evL_exit, evL_ret, evL_join, evL_block, evL_cond, evK_some, evJ_nx, evJ_rt, evJ_ex, evB_nx, evB_rt, evB_ex, evC2_bool, evS_and, evS_or, evS_tf, evS_ft, ev_t, ev_s, ev_c, evalOp, bin_add, bin_sub, bin_mul, bin_eql, bin_neq, bin_lss, bin_leq, bin_gtr, bin_geq, sbin_eql, sbin_neq, b8, List.map_cons, List.map_nil, PV.rens, PV.ren, if_true, if_false, Bool.false_eq_true, reduceIte, Nat.reduceAdd, Nat.reduceSub, Nat.reduceMul, Nat.reduceEqDiff, Nat.reduceLeDiff, Int.reduceLE, Int.reduceLT, Int.reduceEq, Int.reduceToNat, Int.reduceAdd, Int.reduceSub, Int.reduceNeg, decide_true, decide_false, Bool.not_true, Bool.not_false, Bool.true_and, Bool.false_and, Bool.and_true, Bool.and_false, Bool.or_true, Bool.true_or, Bool.or_false, Bool.false_or, and_self, and_true, true_and, Nat.le_refl, Nat.zero_add, Nat.mul_one, Nat.one_ne_zero, Nat.zero_le, highP, lowP, Option.map_some, Option.map_none, List.drop_zero, List.take_zero, List.length_cons, List.length_nil, List.nil_append, List.append_nil, List.cons_append, fillP, PV.cells?, PV.one, PV.cleans, PV.clean, PV.of?, List.all_cons, List.all_nil, List.take_succ_cons, List.drop_succ_cons, Bool.and_self, Int.natCast_nonneg, Int.toNat_natCast, Int.toNat_zero, PV.of?, Tk.ren, tailP, evL_loop, or_true, true_or, Nat.zero_lt_one, Nat.sub_zero, List.getElem?_cons_zero, List.getElem?_cons_succ, List.set_cons_zero, List.set_cons_succ, List.take_length, w1, g2, g3, ht, a1, Int.natCast_nonneg]
def cRec : List UInt8 := [82, 101, 99, 101, 105, 118, 101, 100, 58, 32, 102, 114, 111, 109, 32]
def cBy : List UInt8 := [32, 98, 121, 32]
def cWith : List UInt8 := [32, 119, 105, 116, 104, 32, 69, 83, 77, 84, 80, 59, 32]
theorem cRec_def : cRec = [82, 101, 99, 101, 105, 118, 101, 100, 58, 32, 102, 114, 111, 109, 32] := rfl
theorem cBy_def : cBy = [32, 98, 121, 32] := rfl
theorem cWith_def : cWith = [32, 119, 105, 116, 104, 32, 69, 83, 77, 84, 80, 59, 32] := rfl
theorem cRec_len : cRec.length = 15 := rfl
theorem cBy_len : cBy.length = 4 := rfl
theorem cWith_len : cWith.length = 13 := rfl
/-- A stamp's line, and the line's end. -/
def stampL (h s : List UInt8) (u : Nat) : List UInt8 := cRec ++ h ++ cBy ++ s ++ cWith ++ Lib.itoa (u : Int)
def stampB (h s : List UInt8) (u : Nat) : List UInt8 := stampL h s u ++ [13, 10]
theorem stampB_len (h s : List UInt8) (u : Nat) (hu : u ≤ 1099511627776) : (stampB h s u).length ≤ h.length + s.length + 47 := by
  have := itoa_len u hu
  unfold stampB stampL
  simp only [List.length_append, List.length_cons, List.length_nil, cRec_len, cBy_len, cWith_len]
  omega
def domB (h s : List UInt8) : Bool := parts h 255 label && parts s 255 label
section
variable (h s : List UInt8) (hl : h.length + s.length ≤ 100000)
include hl
theorem Stamp_dom (hd : domB h s = false) (at_ : Int) : T 18 [.str h, .str s, .int .i64 at_] [] = some (.tup [.sl .nil 0 0 [], .int .i64 5], []) := by
  have c1 := T28 h (by omega)
  have c2 := T28 s (by omega)
  unfold domB at hd
  refine evT_of (k := 0) (F := l18) (H' := []) (e := [.sl .nil 0 0 [], .int .i64 5]) (l := [.sl .nil 0 0 [], .int .i64 5]) rfl rfl rfl ?_ rfl rfl
  show evL T 0 q18 _ _ = _
  generalize parts h 255 label = x at *
  generalize parts s 255 label = y at *
  cases x with
  | false => simp only [q18, evL_op, evL_sel, evL_nx, evL_exit, evL_ret, evL_join, evL_block, evL_cond, evK_some, evJ_nx, evJ_rt, evJ_ex, evB_nx, evB_rt, evB_ex, evC2_bool, evS_and, evS_or, evS_tf, evS_ft, ev_t, ev_s, ev_c, evalOp, bin_add, bin_sub, bin_mul, bin_eql, bin_neq, bin_lss, bin_leq, bin_gtr, bin_geq, sbin_eql, sbin_neq, b8, List.map_cons, List.map_nil, PV.rens, PV.ren, if_true, if_false, Bool.false_eq_true, reduceIte, Nat.reduceAdd, Nat.reduceSub, Nat.reduceMul, Nat.reduceEqDiff, Nat.reduceLeDiff, Int.reduceLE, Int.reduceLT, Int.reduceEq, Int.reduceToNat, Int.reduceAdd, Int.reduceSub, Int.reduceNeg, decide_true, decide_false, Bool.not_true, Bool.not_false, Bool.true_and, Bool.false_and, Bool.and_true, Bool.and_false, Bool.or_true, Bool.true_or, Bool.or_false, Bool.false_or, and_self, and_true, true_and, Nat.le_refl, Nat.zero_add, Nat.mul_one, Nat.one_ne_zero, Nat.zero_le, highP, lowP, Option.map_some, Option.map_none, List.drop_zero, List.take_zero, List.length_cons, List.length_nil, List.nil_append, List.append_nil, List.cons_append, fillP, PV.cells?, PV.one, PV.cleans, PV.clean, PV.of?, List.all_cons, List.all_nil, List.take_succ_cons, List.drop_succ_cons, Bool.and_self, Int.natCast_nonneg, Int.toNat_natCast, Int.toNat_zero, PV.of?, Tk.ren, tailP, evL_loop, or_true, true_or, Nat.zero_lt_one, Nat.sub_zero, List.getElem?_cons_zero, List.getElem?_cons_succ, List.set_cons_zero, List.set_cons_succ, List.take_length, PV.rens, PV.ren, c1, c2]
  | true =>
    cases y with
    | false => simp only [q18, evL_op, evL_sel, evL_nx, evL_exit, evL_ret, evL_join, evL_block, evL_cond, evK_some, evJ_nx, evJ_rt, evJ_ex, evB_nx, evB_rt, evB_ex, evC2_bool, evS_and, evS_or, evS_tf, evS_ft, ev_t, ev_s, ev_c, evalOp, bin_add, bin_sub, bin_mul, bin_eql, bin_neq, bin_lss, bin_leq, bin_gtr, bin_geq, sbin_eql, sbin_neq, b8, List.map_cons, List.map_nil, PV.rens, PV.ren, if_true, if_false, Bool.false_eq_true, reduceIte, Nat.reduceAdd, Nat.reduceSub, Nat.reduceMul, Nat.reduceEqDiff, Nat.reduceLeDiff, Int.reduceLE, Int.reduceLT, Int.reduceEq, Int.reduceToNat, Int.reduceAdd, Int.reduceSub, Int.reduceNeg, decide_true, decide_false, Bool.not_true, Bool.not_false, Bool.true_and, Bool.false_and, Bool.and_true, Bool.and_false, Bool.or_true, Bool.true_or, Bool.or_false, Bool.false_or, and_self, and_true, true_and, Nat.le_refl, Nat.zero_add, Nat.mul_one, Nat.one_ne_zero, Nat.zero_le, highP, lowP, Option.map_some, Option.map_none, List.drop_zero, List.take_zero, List.length_cons, List.length_nil, List.nil_append, List.append_nil, List.cons_append, fillP, PV.cells?, PV.one, PV.cleans, PV.clean, PV.of?, List.all_cons, List.all_nil, List.take_succ_cons, List.drop_succ_cons, Bool.and_self, Int.natCast_nonneg, Int.toNat_natCast, Int.toNat_zero, PV.of?, Tk.ren, tailP, evL_loop, or_true, true_or, Nat.zero_lt_one, Nat.sub_zero, List.getElem?_cons_zero, List.getElem?_cons_succ, List.set_cons_zero, List.set_cons_succ, List.take_length, PV.rens, PV.ren, c1, c2]
    | true => cases hd
theorem Stamp_time (hd : domB h s = true) (at_ : Int) (ha : at_ < 0 ∨ 1099511627776 < at_) : T 18 [.str h, .str s, .int .i64 at_] [] = some (.tup [.sl .nil 0 0 [], .int .i64 1], []) := by
  have c1 := T28 h (by omega)
  have c2 := T28 s (by omega)
  unfold domB at hd
  simp only [Bool.and_eq_true] at hd
  rw [hd.1] at c1
  rw [hd.2] at c2
  refine evT_of (k := 0) (F := l18) (H' := []) (e := [.sl .nil 0 0 [], .int .i64 1]) (l := [.sl .nil 0 0 [], .int .i64 1]) rfl rfl rfl ?_ rfl rfl
  show evL T 0 q18 _ _ = _
  by_cases h1 : at_ < 0
  · simp only [q18, evL_op, evL_sel, evL_nx, evL_exit, evL_ret, evL_join, evL_block, evL_cond, evK_some, evJ_nx, evJ_rt, evJ_ex, evB_nx, evB_rt, evB_ex, evC2_bool, evS_and, evS_or, evS_tf, evS_ft, ev_t, ev_s, ev_c, evalOp, bin_add, bin_sub, bin_mul, bin_eql, bin_neq, bin_lss, bin_leq, bin_gtr, bin_geq, sbin_eql, sbin_neq, b8, List.map_cons, List.map_nil, PV.rens, PV.ren, if_true, if_false, Bool.false_eq_true, reduceIte, Nat.reduceAdd, Nat.reduceSub, Nat.reduceMul, Nat.reduceEqDiff, Nat.reduceLeDiff, Int.reduceLE, Int.reduceLT, Int.reduceEq, Int.reduceToNat, Int.reduceAdd, Int.reduceSub, Int.reduceNeg, decide_true, decide_false, Bool.not_true, Bool.not_false, Bool.true_and, Bool.false_and, Bool.and_true, Bool.and_false, Bool.or_true, Bool.true_or, Bool.or_false, Bool.false_or, and_self, and_true, true_and, Nat.le_refl, Nat.zero_add, Nat.mul_one, Nat.one_ne_zero, Nat.zero_le, highP, lowP, Option.map_some, Option.map_none, List.drop_zero, List.take_zero, List.length_cons, List.length_nil, List.nil_append, List.append_nil, List.cons_append, fillP, PV.cells?, PV.one, PV.cleans, PV.clean, PV.of?, List.all_cons, List.all_nil, List.take_succ_cons, List.drop_succ_cons, Bool.and_self, Int.natCast_nonneg, Int.toNat_natCast, Int.toNat_zero, PV.of?, Tk.ren, tailP, evL_loop, or_true, true_or, Nat.zero_lt_one, Nat.sub_zero, List.getElem?_cons_zero, List.getElem?_cons_succ, List.set_cons_zero, List.set_cons_succ, List.take_length, PV.rens, PV.ren, c1, c2, h1]
  · have h2 : 1099511627776 < at_ := by omega
    simp only [q18, evL_op, evL_sel, evL_nx, evL_exit, evL_ret, evL_join, evL_block, evL_cond, evK_some, evJ_nx, evJ_rt, evJ_ex, evB_nx, evB_rt, evB_ex, evC2_bool, evS_and, evS_or, evS_tf, evS_ft, ev_t, ev_s, ev_c, evalOp, bin_add, bin_sub, bin_mul, bin_eql, bin_neq, bin_lss, bin_leq, bin_gtr, bin_geq, sbin_eql, sbin_neq, b8, List.map_cons, List.map_nil, PV.rens, PV.ren, if_true, if_false, Bool.false_eq_true, reduceIte, Nat.reduceAdd, Nat.reduceSub, Nat.reduceMul, Nat.reduceEqDiff, Nat.reduceLeDiff, Int.reduceLE, Int.reduceLT, Int.reduceEq, Int.reduceToNat, Int.reduceAdd, Int.reduceSub, Int.reduceNeg, decide_true, decide_false, Bool.not_true, Bool.not_false, Bool.true_and, Bool.false_and, Bool.and_true, Bool.and_false, Bool.or_true, Bool.true_or, Bool.or_false, Bool.false_or, and_self, and_true, true_and, Nat.le_refl, Nat.zero_add, Nat.mul_one, Nat.one_ne_zero, Nat.zero_le, highP, lowP, Option.map_some, Option.map_none, List.drop_zero, List.take_zero, List.length_cons, List.length_nil, List.nil_append, List.append_nil, List.cons_append, fillP, PV.cells?, PV.one, PV.cleans, PV.clean, PV.of?, List.all_cons, List.all_nil, List.take_succ_cons, List.drop_succ_cons, Bool.and_self, Int.natCast_nonneg, Int.toNat_natCast, Int.toNat_zero, PV.of?, Tk.ren, tailP, evL_loop, or_true, true_or, Nat.zero_lt_one, Nat.sub_zero, List.getElem?_cons_zero, List.getElem?_cons_succ, List.set_cons_zero, List.set_cons_succ, List.take_length, PV.rens, PV.ren, c1, c2, h1, h2]
theorem adds (u : Nat) (hu : u ≤ 1099511627776) : binP .add (.str cRec) (.str h) = some (.str (cRec ++ h)) ∧ binP .add (.str (cRec ++ h)) (.str cBy) = some (.str (cRec ++ h ++ cBy)) ∧ binP .add (.str (cRec ++ h ++ cBy)) (.str s) = some (.str (cRec ++ h ++ cBy ++ s)) ∧
    binP .add (.str (cRec ++ h ++ cBy ++ s)) (.str cWith) = some (.str (cRec ++ h ++ cBy ++ s ++ cWith)) ∧ binP .add (.str (cRec ++ h ++ cBy ++ s ++ cWith)) (.str (Lib.itoa (u : Int))) = some (.str (stampL h s u)) ∧ binP .add (.str (stampL h s u)) (.str [13, 10]) = some (.str (stampB h s u)) := by
  have := itoa_len u hu
  have hsl := stampB_len h s u hu
  refine ⟨sbin_add ?_, sbin_add ?_, sbin_add ?_, sbin_add ?_, sbin_add ?_, sbin_add ?_⟩
  all_goals try (simp only [List.length_append, cRec_len, cBy_len, cWith_len]; omega)
  unfold stampB at hsl
  simp only [List.length_append, List.length_cons, List.length_nil] at hsl ⊢
  omega
theorem Stamp_yes (hd : domB h s = true) (u : Nat) (hu : u ≤ 1099511627776) : T 18 [.str h, .str s, .int .i64 u] [] = some (.tup [.sl (.tok 0) 1 (stampB h s u).length ((stampB h s u).map b8), .int .i64 0], [.tok]) := by
  have c1 := T28 h (by omega)
  have c2 := T28 s (by omega)
  have c3 := T29 (u : Int) (by omega) (by omega)
  unfold domB at hd
  simp only [Bool.and_eq_true] at hd
  rw [hd.1] at c1
  rw [hd.2] at c2
  obtain ⟨a1, a2, a3, a4, a5, a6⟩ := adds h s hl u hu
  generalize Lib.itoa (u : Int) = d at *
  generalize stampL h s u = L at *
  generalize stampB h s u = B at *
  refine evT_of (k := 0) (F := l18) (H' := [.tok]) (e := [.sl (.tok 0) 1 B.length (B.map b8), .int .i64 0]) (l := [.sl (.tok 0) 1 B.length (B.map b8), .int .i64 0]) rfl rfl rfl ?_ rfl rfl
  show evL T 0 q18 _ _ = _
  have h1 : ¬ (u : Int) < 0 := by omega
  have h2 : ¬ (1099511627776 : Int) < u := by omega
  simp only [q18, q18_0, ← cRec_def, ← cBy_def, ← cWith_def, evL_op, evL_sel, evL_nx, evL_exit, evL_ret, evL_join, evL_block, evL_cond, evK_some, evJ_nx, evJ_rt, evJ_ex, evB_nx, evB_rt, evB_ex, evC2_bool, evS_and, evS_or, evS_tf, evS_ft, ev_t, ev_s, ev_c, evalOp, bin_add, bin_sub, bin_mul, bin_eql, bin_neq, bin_lss, bin_leq, bin_gtr, bin_geq, sbin_eql, sbin_neq, b8, List.map_cons, List.map_nil, PV.rens, PV.ren, if_true, if_false, Bool.false_eq_true, reduceIte, Nat.reduceAdd, Nat.reduceSub, Nat.reduceMul, Nat.reduceEqDiff, Nat.reduceLeDiff, Int.reduceLE, Int.reduceLT, Int.reduceEq, Int.reduceToNat, Int.reduceAdd, Int.reduceSub, Int.reduceNeg, decide_true, decide_false, Bool.not_true, Bool.not_false, Bool.true_and, Bool.false_and, Bool.and_true, Bool.and_false, Bool.or_true, Bool.true_or, Bool.or_false, Bool.false_or, and_self, and_true, true_and, Nat.le_refl, Nat.zero_add, Nat.mul_one, Nat.one_ne_zero, Nat.zero_le, highP, lowP, Option.map_some, Option.map_none, List.drop_zero, List.take_zero, List.length_cons, List.length_nil, List.nil_append, List.append_nil, List.cons_append, fillP, PV.cells?, PV.one, PV.cleans, PV.clean, PV.of?, List.all_cons, List.all_nil, List.take_succ_cons, List.drop_succ_cons, Bool.and_self, Int.natCast_nonneg, Int.toNat_natCast, Int.toNat_zero, PV.of?, Tk.ren, tailP, evL_loop, or_true, true_or, Nat.zero_lt_one, Nat.sub_zero, List.getElem?_cons_zero, List.getElem?_cons_succ, List.set_cons_zero, List.set_cons_succ, List.take_length, PV.rens, PV.ren, c1, c2, c3, h1, h2, a1, a2, a3, a4, a5, a6]
theorem T21 (u : Nat) (hu : u ≤ 1099511627776) : T 21 [.str h, .str s, .int .i64 u] [] = some (.sl (.tok 0) 1 (stampB h s u).length ((stampB h s u).map b8), [.tok]) := by
  have c3 := T34 u hu
  obtain ⟨a1, a2, a3, a4, a5, a6⟩ := adds h s hl u hu
  generalize Lib.itoa (u : Int) = d at *
  generalize stampL h s u = L at *
  generalize stampB h s u = B at *
  refine evT_of (k := 0) (F := l21) (H' := [.tok]) (e := [.sl (.tok 0) 1 B.length (B.map b8)]) (l := [.sl (.tok 0) 1 B.length (B.map b8)]) rfl rfl rfl ?_ rfl rfl
  show evL T 0 q21 _ _ = _
  simp only [q21, ← cRec_def, ← cBy_def, ← cWith_def, evL_op, evL_sel, evL_nx, evL_exit, evL_ret, evL_join, evL_block, evL_cond, evK_some, evJ_nx, evJ_rt, evJ_ex, evB_nx, evB_rt, evB_ex, evC2_bool, evS_and, evS_or, evS_tf, evS_ft, ev_t, ev_s, ev_c, evalOp, bin_add, bin_sub, bin_mul, bin_eql, bin_neq, bin_lss, bin_leq, bin_gtr, bin_geq, sbin_eql, sbin_neq, b8, List.map_cons, List.map_nil, PV.rens, PV.ren, if_true, if_false, Bool.false_eq_true, reduceIte, Nat.reduceAdd, Nat.reduceSub, Nat.reduceMul, Nat.reduceEqDiff, Nat.reduceLeDiff, Int.reduceLE, Int.reduceLT, Int.reduceEq, Int.reduceToNat, Int.reduceAdd, Int.reduceSub, Int.reduceNeg, decide_true, decide_false, Bool.not_true, Bool.not_false, Bool.true_and, Bool.false_and, Bool.and_true, Bool.and_false, Bool.or_true, Bool.true_or, Bool.or_false, Bool.false_or, and_self, and_true, true_and, Nat.le_refl, Nat.zero_add, Nat.mul_one, Nat.one_ne_zero, Nat.zero_le, highP, lowP, Option.map_some, Option.map_none, List.drop_zero, List.take_zero, List.length_cons, List.length_nil, List.nil_append, List.append_nil, List.cons_append, fillP, PV.cells?, PV.one, PV.cleans, PV.clean, PV.of?, List.all_cons, List.all_nil, List.take_succ_cons, List.drop_succ_cons, Bool.and_self, Int.natCast_nonneg, Int.toNat_natCast, Int.toNat_zero, PV.of?, Tk.ren, tailP, evL_loop, or_true, true_or, Nat.zero_lt_one, Nat.sub_zero, List.getElem?_cons_zero, List.getElem?_cons_succ, List.set_cons_zero, List.set_cons_succ, List.take_length, PV.rens, PV.ren, c3, a1, a2, a3, a4, a5, a6]
end
/-! ### two texts put together -/
theorem two_at {x y : PV} {i : Nat} {p : PV} (h : [x, y][i]? = some p) : ([x, y].drop i).take 1 = [p] := by
  match i, h with
  | 0, h => cases h; rfl
  | 1, h => cases h; rfl
def pre2 (x y : List UInt8) (i : Nat) : List UInt8 := if i = 0 then [] else if i = 1 then x else x ++ y
theorem pre2_len (x y : List UInt8) (i : Nat) (h : x.length + y.length ≤ 100000000) : (pre2 x y i).length ≤ 100000000 := by
  unfold pre2
  by_cases h0 : i = 0
  · rw [if_pos h0]; exact Nat.zero_le _
  · rw [if_neg h0]
    by_cases h1 : i = 1
    · rw [if_pos h1]; omega
    · rw [if_neg h1, List.length_append]; omega
theorem Concat2 (x y : List UInt8) (hl : x.length + y.length ≤ 100000000) (hx : x ≠ []) : T 30 [.sl .no 1 2 [sl8 x, sl8 y]] [] = some (.sl (.tok 0) 1 (x.length + y.length) ((x ++ y).map b8), [.tok]) := by
  refine evT_of (k := 4) (F := l30) (H' := [.dead, .tok]) (e := [.sl (.tok 1) 1 (x.length + y.length) ((x ++ y).map b8)]) (l := [.sl (.tok 1) 1 (x.length + y.length) ((x ++ y).map b8)]) rfl rfl rfl ?_ rfl rfl
  show evL T 4 q30 _ _ = _
  have hxp : 0 < x.length := List.length_pos_iff.2 hx
  have lp1 := loop_law (n := 0) (body := evL T 4 q30_1) (σ := Nat) (fun i => [.sl .no 1 2 [sl8 x, sl8 y], .int .i64 (pre2 x y i).length, .sl .no 1 2 [sl8 x, sl8 y], .int .i64 2, .int .i64 i]) (fun _ => []) (fun i => 2 - i) (fun i => i ≤ 2)
    (fun _ => (.ex 0, [.sl .no 1 2 [sl8 x, sl8 y], .int .i64 (x.length + y.length : Nat)], [])) (by
      intro i hi
      have hpre : ∀ p q : List UInt8, [x, y][i]? = some p → pre2 x y (i + 1) = pre2 x y i ++ p := fun p _ hp => by
        match i, hp with
        | 0, hp => cases hp; rfl
        | 1, hp => cases hp; rfl
      rcases Nat.lt_or_ge i 2 with h | h
      · obtain ⟨p, hp, hpl⟩ : ∃ p, [x, y][i]? = some p ∧ p.length ≤ 100000000 := by
          match i, h with
          | 0, _ => exact ⟨x, rfl, by omega⟩
          | 1, _ => exact ⟨y, rfl, by omega⟩
        have hg : ([sl8 x, sl8 y].drop i).take 1 = [sl8 p] := two_at (by
          match i, hp with
          | 0, hp => cases hp; rfl
          | 1, hp => cases hp; rfl)
        have he := hpre p p hp
        have hle : (pre2 x y i).length ≤ 100000000 := pre2_len x y i (by omega)
        have g1 : (i : Int) < 2 := by omega
        have g2 : (i : Int) < ((2 : Nat) : Int) := by omega
        have w1 : IntKind.i64.wrap (((pre2 x y i).length : Int) + p.length) = ((pre2 x y (i + 1)).length : Int) := by rw [wr (by omega) (by omega), he, List.length_append]; omega
        have g3 : ¬ (((pre2 x y (i + 1)).length : Nat) : Int) < 0 := by omega
        refine .inr ⟨i + 1, [.sl .no 1 2 [sl8 x, sl8 y], .int .i64 (pre2 x y (i + 1)).length, .sl .no 1 2 [sl8 x, sl8 y], .int .i64 2, .int .i64 ((i + 1 : Nat) : Int)], [], ?_, rfl, by omega, by omega, rfl⟩
        simp only [q30_1, q30_0, evL_op, evL_sel, evL_nx, evL_exit, evL_ret, evL_join, evL_block, evL_cond, evK_some, evJ_nx, evJ_rt, evJ_ex, evB_nx, evB_rt, evB_ex, evC2_bool, evS_and, evS_or, evS_tf, evS_ft, ev_t, ev_s, ev_c, evalOp, bin_add, bin_sub, bin_mul, bin_eql, bin_neq, bin_lss, bin_leq, bin_gtr, bin_geq, sbin_eql, sbin_neq, b8, List.map_cons, List.map_nil, PV.rens, PV.ren, if_true, if_false, Bool.false_eq_true, reduceIte, Nat.reduceAdd, Nat.reduceSub, Nat.reduceMul, Nat.reduceEqDiff, Nat.reduceLeDiff, Int.reduceLE, Int.reduceLT, Int.reduceEq, Int.reduceToNat, Int.reduceAdd, Int.reduceSub, Int.reduceNeg, decide_true, decide_false, Bool.not_true, Bool.not_false, Bool.true_and, Bool.false_and, Bool.and_true, Bool.and_false, Bool.or_true, Bool.true_or, Bool.or_false, Bool.false_or, and_self, and_true, true_and, Nat.le_refl, Nat.zero_add, Nat.mul_one, Nat.one_ne_zero, Nat.zero_le, highP, lowP, Option.map_some, Option.map_none, List.drop_zero, List.take_zero, List.length_cons, List.length_nil, List.nil_append, List.append_nil, List.cons_append, fillP, PV.cells?, PV.one, PV.cleans, PV.clean, PV.of?, List.all_cons, List.all_nil, List.take_succ_cons, List.drop_succ_cons, Bool.and_self, Int.natCast_nonneg, Int.toNat_natCast, Int.toNat_zero, PV.of?, Tk.ren, tailP, evL_loop, or_true, true_or, Nat.zero_lt_one, Nat.sub_zero, List.getElem?_cons_zero, List.getElem?_cons_succ, List.set_cons_zero, List.set_cons_succ, List.take_length, g1, g2, hg, w1, g3, wr1 (show i < 9223372036854775807 by omega)]
      · have g1 : ¬ (i : Int) < 2 := by omega
        obtain rfl : i = 2 := by omega
        refine .inl ⟨?_, by simp⟩
        have : (pre2 x y 2).length = x.length + y.length := by unfold pre2; simp
        rw [this]
        simp only [q30_1, evL_op, evL_sel, evL_nx, evL_exit, evL_ret, evL_join, evL_block, evL_cond, evK_some, evJ_nx, evJ_rt, evJ_ex, evB_nx, evB_rt, evB_ex, evC2_bool, evS_and, evS_or, evS_tf, evS_ft, ev_t, ev_s, ev_c, evalOp, bin_add, bin_sub, bin_mul, bin_eql, bin_neq, bin_lss, bin_leq, bin_gtr, bin_geq, sbin_eql, sbin_neq, b8, List.map_cons, List.map_nil, PV.rens, PV.ren, if_true, if_false, Bool.false_eq_true, reduceIte, Nat.reduceAdd, Nat.reduceSub, Nat.reduceMul, Nat.reduceEqDiff, Nat.reduceLeDiff, Int.reduceLE, Int.reduceLT, Int.reduceEq, Int.reduceToNat, Int.reduceAdd, Int.reduceSub, Int.reduceNeg, decide_true, decide_false, Bool.not_true, Bool.not_false, Bool.true_and, Bool.false_and, Bool.and_true, Bool.and_false, Bool.or_true, Bool.true_or, Bool.or_false, Bool.false_or, and_self, and_true, true_and, Nat.le_refl, Nat.zero_add, Nat.mul_one, Nat.one_ne_zero, Nat.zero_le, highP, lowP, Option.map_some, Option.map_none, List.drop_zero, List.take_zero, List.length_cons, List.length_nil, List.nil_append, List.append_nil, List.cons_append, fillP, PV.cells?, PV.one, PV.cleans, PV.clean, PV.of?, List.all_cons, List.all_nil, List.take_succ_cons, List.drop_succ_cons, Bool.and_self, Int.natCast_nonneg, Int.toNat_natCast, Int.toNat_zero, PV.of?, Tk.ren, tailP, evL_loop, or_true, true_or, Nat.zero_lt_one, Nat.sub_zero, List.getElem?_cons_zero, List.getElem?_cons_succ, List.set_cons_zero, List.set_cons_succ, List.take_length, g1]) 4 0 [.sl .no 1 2 [sl8 x, sl8 y], .int .i64 0, .sl .no 1 2 [sl8 x, sl8 y], .int .i64 2, .int .i64 0] [] rfl (Nat.zero_le _) (by decide)
  have cg : T 46 [.sl .nil 0 0 [], .int .i64 (x.length + y.length : Nat)] [] = some (.sl (.tok 0) 1 0 [], [.tok]) := by
    refine evT_ov (φ := ovGrow) rfl ?_
    simp only [ovGrow]
    rw [if_pos ⟨by omega, by omega⟩]
    rfl
  have lp2 := loop_law (n := 1) (body := evL T 4 q30_3) (σ := Nat) (fun i => [.sl (.tok 1) 1 (pre2 x y i).length ((pre2 x y i).map b8), .sl .no 1 2 [sl8 x, sl8 y], .int .i64 2, .int .i64 i]) (fun _ => [.dead, .tok]) (fun i => 2 - i) (fun i => i ≤ 2)
    (fun _ => (.ex 2, [.sl (.tok 1) 1 (x.length + y.length) ((x ++ y).map b8)], [.dead, .tok])) (by
      intro i hi
      rcases Nat.lt_or_ge i 2 with h | h
      · obtain ⟨p, hp, hpl⟩ : ∃ p, [x, y][i]? = some p ∧ p.length ≤ 100000000 := by
          match i, h with
          | 0, _ => exact ⟨x, rfl, by omega⟩
          | 1, _ => exact ⟨y, rfl, by omega⟩
        have hg : ([sl8 x, sl8 y].drop i).take 1 = [sl8 p] := two_at (by
          match i, hp with
          | 0, hp => cases hp; rfl
          | 1, hp => cases hp; rfl)
        have he : pre2 x y (i + 1) = pre2 x y i ++ p := by
          match i, hp with
          | 0, hp => cases hp; rfl
          | 1, hp => cases hp; rfl
        have hle : (pre2 x y i).length ≤ 100000000 := pre2_len x y i (by omega)
        have g1 : (i : Int) < 2 := by omega
        have g2 : (i : Int) < ((2 : Nat) : Int) := by omega
        have hr : (pre2 x y i).length + p.length ≤ roomMax := by unfold roomMax; omega
        refine .inr ⟨i + 1, [.sl (.tok 2) 1 ((pre2 x y i).length + p.length) ((pre2 x y i).map b8 ++ p.map b8), .sl .no 1 2 [sl8 x, sl8 y], .int .i64 2, .int .i64 ((i + 1 : Nat) : Int)], [.dead, .dead, .tok], ?_, ?_, by omega, by omega, rfl⟩
        · simp only [q30_3, q30_2, evL_op, evL_sel, evL_nx, evL_exit, evL_ret, evL_join, evL_block, evL_cond, evK_some, evJ_nx, evJ_rt, evJ_ex, evB_nx, evB_rt, evB_ex, evC2_bool, evS_and, evS_or, evS_tf, evS_ft, ev_t, ev_s, ev_c, evalOp, bin_add, bin_sub, bin_mul, bin_eql, bin_neq, bin_lss, bin_leq, bin_gtr, bin_geq, sbin_eql, sbin_neq, b8, List.map_cons, List.map_nil, PV.rens, PV.ren, if_true, if_false, Bool.false_eq_true, reduceIte, Nat.reduceAdd, Nat.reduceSub, Nat.reduceMul, Nat.reduceEqDiff, Nat.reduceLeDiff, Int.reduceLE, Int.reduceLT, Int.reduceEq, Int.reduceToNat, Int.reduceAdd, Int.reduceSub, Int.reduceNeg, decide_true, decide_false, Bool.not_true, Bool.not_false, Bool.true_and, Bool.false_and, Bool.and_true, Bool.and_false, Bool.or_true, Bool.true_or, Bool.or_false, Bool.false_or, and_self, and_true, true_and, Nat.le_refl, Nat.zero_add, Nat.mul_one, Nat.one_ne_zero, Nat.zero_le, highP, lowP, Option.map_some, Option.map_none, List.drop_zero, List.take_zero, List.length_cons, List.length_nil, List.nil_append, List.append_nil, List.cons_append, fillP, PV.cells?, PV.one, PV.cleans, PV.clean, PV.of?, List.all_cons, List.all_nil, List.take_succ_cons, List.drop_succ_cons, Bool.and_self, Int.natCast_nonneg, Int.toNat_natCast, Int.toNat_zero, PV.of?, Tk.ren, tailP, evL_loop, or_true, true_or, Nat.zero_lt_one, Nat.sub_zero, List.getElem?_cons_zero, List.getElem?_cons_succ, List.set_cons_zero, List.set_cons_succ, List.take_length, g1, g2, hg, hr, wr1 (show i < 9223372036854775807 by omega)]
        · rw [he, List.map_append, List.length_append]; rfl
      · have g1 : ¬ (i : Int) < 2 := by omega
        obtain rfl : i = 2 := by omega
        refine .inl ⟨?_, by simp⟩
        have h1 : (pre2 x y 2).length = x.length + y.length := by unfold pre2; simp
        have h2 : pre2 x y 2 = x ++ y := rfl
        rw [h1, h2]
        simp only [q30_3, evL_op, evL_sel, evL_nx, evL_exit, evL_ret, evL_join, evL_block, evL_cond, evK_some, evJ_nx, evJ_rt, evJ_ex, evB_nx, evB_rt, evB_ex, evC2_bool, evS_and, evS_or, evS_tf, evS_ft, ev_t, ev_s, ev_c, evalOp, bin_add, bin_sub, bin_mul, bin_eql, bin_neq, bin_lss, bin_leq, bin_gtr, bin_geq, sbin_eql, sbin_neq, b8, List.map_cons, List.map_nil, PV.rens, PV.ren, if_true, if_false, Bool.false_eq_true, reduceIte, Nat.reduceAdd, Nat.reduceSub, Nat.reduceMul, Nat.reduceEqDiff, Nat.reduceLeDiff, Int.reduceLE, Int.reduceLT, Int.reduceEq, Int.reduceToNat, Int.reduceAdd, Int.reduceSub, Int.reduceNeg, decide_true, decide_false, Bool.not_true, Bool.not_false, Bool.true_and, Bool.false_and, Bool.and_true, Bool.and_false, Bool.or_true, Bool.true_or, Bool.or_false, Bool.false_or, and_self, and_true, true_and, Nat.le_refl, Nat.zero_add, Nat.mul_one, Nat.one_ne_zero, Nat.zero_le, highP, lowP, Option.map_some, Option.map_none, List.drop_zero, List.take_zero, List.length_cons, List.length_nil, List.nil_append, List.append_nil, List.cons_append, fillP, PV.cells?, PV.one, PV.cleans, PV.clean, PV.of?, List.all_cons, List.all_nil, List.take_succ_cons, List.drop_succ_cons, Bool.and_self, Int.natCast_nonneg, Int.toNat_natCast, Int.toNat_zero, PV.of?, Tk.ren, tailP, evL_loop, or_true, true_or, Nat.zero_lt_one, Nat.sub_zero, List.getElem?_cons_zero, List.getElem?_cons_succ, List.set_cons_zero, List.set_cons_succ, List.take_length, g1]) 4 0 [.sl (.tok 0) 1 0 [], .sl .no 1 2 [sl8 x, sl8 y], .int .i64 2, .int .i64 0] [.tok] rfl (Nat.zero_le _) (by decide)
  have o2 : ((2 : Nat) : Int) = 2 := rfl
  simp only [q30, evL_op, evL_sel, evL_nx, evL_exit, evL_ret, evL_join, evL_block, evL_cond, evK_some, evJ_nx, evJ_rt, evJ_ex, evB_nx, evB_rt, evB_ex, evC2_bool, evS_and, evS_or, evS_tf, evS_ft, ev_t, ev_s, ev_c, evalOp, bin_add, bin_sub, bin_mul, bin_eql, bin_neq, bin_lss, bin_leq, bin_gtr, bin_geq, sbin_eql, sbin_neq, b8, List.map_cons, List.map_nil, PV.rens, PV.ren, if_true, if_false, Bool.false_eq_true, reduceIte, Nat.reduceAdd, Nat.reduceSub, Nat.reduceMul, Nat.reduceEqDiff, Nat.reduceLeDiff, Int.reduceLE, Int.reduceLT, Int.reduceEq, Int.reduceToNat, Int.reduceAdd, Int.reduceSub, Int.reduceNeg, decide_true, decide_false, Bool.not_true, Bool.not_false, Bool.true_and, Bool.false_and, Bool.and_true, Bool.and_false, Bool.or_true, Bool.true_or, Bool.or_false, Bool.false_or, and_self, and_true, true_and, Nat.le_refl, Nat.zero_add, Nat.mul_one, Nat.one_ne_zero, Nat.zero_le, highP, lowP, Option.map_some, Option.map_none, List.drop_zero, List.take_zero, List.length_cons, List.length_nil, List.nil_append, List.append_nil, List.cons_append, fillP, PV.cells?, PV.one, PV.cleans, PV.clean, PV.of?, List.all_cons, List.all_nil, List.take_succ_cons, List.drop_succ_cons, Bool.and_self, Int.natCast_nonneg, Int.toNat_natCast, Int.toNat_zero, PV.of?, Tk.ren, tailP, evL_loop, or_true, true_or, Nat.zero_lt_one, Nat.sub_zero, List.getElem?_cons_zero, List.getElem?_cons_succ, List.set_cons_zero, List.set_cons_succ, List.take_length, o2]
  rw [lp1]
  simp only [q30_5, evL_op, evL_sel, evL_nx, evL_exit, evL_ret, evL_join, evL_block, evL_cond, evK_some, evJ_nx, evJ_rt, evJ_ex, evB_nx, evB_rt, evB_ex, evC2_bool, evS_and, evS_or, evS_tf, evS_ft, ev_t, ev_s, ev_c, evalOp, bin_add, bin_sub, bin_mul, bin_eql, bin_neq, bin_lss, bin_leq, bin_gtr, bin_geq, sbin_eql, sbin_neq, b8, List.map_cons, List.map_nil, PV.rens, PV.ren, if_true, if_false, Bool.false_eq_true, reduceIte, Nat.reduceAdd, Nat.reduceSub, Nat.reduceMul, Nat.reduceEqDiff, Nat.reduceLeDiff, Int.reduceLE, Int.reduceLT, Int.reduceEq, Int.reduceToNat, Int.reduceAdd, Int.reduceSub, Int.reduceNeg, decide_true, decide_false, Bool.not_true, Bool.not_false, Bool.true_and, Bool.false_and, Bool.and_true, Bool.and_false, Bool.or_true, Bool.true_or, Bool.or_false, Bool.false_or, and_self, and_true, true_and, Nat.le_refl, Nat.zero_add, Nat.mul_one, Nat.one_ne_zero, Nat.zero_le, highP, lowP, Option.map_some, Option.map_none, List.drop_zero, List.take_zero, List.length_cons, List.length_nil, List.nil_append, List.append_nil, List.cons_append, fillP, PV.cells?, PV.one, PV.cleans, PV.clean, PV.of?, List.all_cons, List.all_nil, List.take_succ_cons, List.drop_succ_cons, Bool.and_self, Int.natCast_nonneg, Int.toNat_natCast, Int.toNat_zero, PV.of?, Tk.ren, tailP, evL_loop, or_true, true_or, Nat.zero_lt_one, Nat.sub_zero, List.getElem?_cons_zero, List.getElem?_cons_succ, List.set_cons_zero, List.set_cons_succ, List.take_length, PV.rens, PV.ren, o2, cg, shift, Nat.add_zero]
  rw [lp2]
  simp only [q30_4, evL_op, evL_sel, evL_nx, evL_exit, evL_ret, evL_join, evL_block, evL_cond, evK_some, evJ_nx, evJ_rt, evJ_ex, evB_nx, evB_rt, evB_ex, evC2_bool, evS_and, evS_or, evS_tf, evS_ft, ev_t, ev_s, ev_c, evalOp, bin_add, bin_sub, bin_mul, bin_eql, bin_neq, bin_lss, bin_leq, bin_gtr, bin_geq, sbin_eql, sbin_neq, b8, List.map_cons, List.map_nil, PV.rens, PV.ren, if_true, if_false, Bool.false_eq_true, reduceIte, Nat.reduceAdd, Nat.reduceSub, Nat.reduceMul, Nat.reduceEqDiff, Nat.reduceLeDiff, Int.reduceLE, Int.reduceLT, Int.reduceEq, Int.reduceToNat, Int.reduceAdd, Int.reduceSub, Int.reduceNeg, decide_true, decide_false, Bool.not_true, Bool.not_false, Bool.true_and, Bool.false_and, Bool.and_true, Bool.and_false, Bool.or_true, Bool.true_or, Bool.or_false, Bool.false_or, and_self, and_true, true_and, Nat.le_refl, Nat.zero_add, Nat.mul_one, Nat.one_ne_zero, Nat.zero_le, highP, lowP, Option.map_some, Option.map_none, List.drop_zero, List.take_zero, List.length_cons, List.length_nil, List.nil_append, List.append_nil, List.cons_append, fillP, PV.cells?, PV.one, PV.cleans, PV.clean, PV.of?, List.all_cons, List.all_nil, List.take_succ_cons, List.drop_succ_cons, Bool.and_self, Int.natCast_nonneg, Int.toNat_natCast, Int.toNat_zero, PV.of?, Tk.ren, tailP, evL_loop, or_true, true_or, Nat.zero_lt_one, Nat.sub_zero, List.getElem?_cons_zero, List.getElem?_cons_succ, List.set_cons_zero, List.set_cons_succ, List.take_length]
end Go.Proofs.YtmdnloajpjfbmaaDoor.Tab

namespace Go.Proofs.YtmdnloajpjfbmaaDoor.Tab
set_option linter.all false
open Go Go.RowKit Go.Proofs.YtmdnloajpjfbmaaDoor.Ev
theorem nmGo_split : ∀ (l pre : List UInt8) (x : List UInt8 × List UInt8 × Bool), nmGo pre l = some x → x.2.2 = true → x.1 ≠ [] ∧ pre ++ l = x.1 ++ 58 :: x.2.1
  | [], pre, x, h, _ => by cases h
  | c :: r, pre, x, h, ht => by
    unfold nmGo at h
    split at h
    · rename_i hc
      cases h
      have hc : c = 58 := by simpa using hc
      simp only [decide_eq_true_eq] at ht
      exact ⟨fun h0 => by dsimp only at h0; rw [h0] at ht; simp at ht, by rw [hc]⟩
    · split at h
      · cases h; cases ht
      · have := nmGo_split r (pre ++ [c]) x h ht
        exact ⟨this.1, by rw [← this.2]; simp⟩
theorem nameF_split {l : List UInt8} (h : (nameF l).2.2 = true) : (nameF l).1 ≠ [] ∧ l = (nameF l).1 ++ 58 :: (nameF l).2.1 := by
  unfold nameF at h ⊢
  cases hn : nmGo [] l with
  | none => rw [hn] at h; cases h
  | some x => rw [hn] at h; exact nmGo_split l [] x hn h
def colV (l : List UInt8) : Int := if (nameF l).2.2 = true then ((nameF l).1.length : Int) else -1
theorem T36 (l : List UInt8) (hl : l.length ≤ 1000000000) : T 36 [sl8 l] [] = some (.int .i64 (colV l), []) := by
  refine evT_of (k := l.length + 1) (F := l36) (H' := []) (e := [.int .i64 (colV l)]) (l := [.int .i64 (colV l)]) rfl rfl rfl ?_ rfl rfl
  show evL T (l.length + 1) q36 _ _ = _
  have lp := loop_law (n := 0) (body := evL T (l.length + 1) q36_1) (σ := Nat) (fun i => [sl8 l, .int .i64 i]) (fun _ => []) (fun i => l.length - i) (fun i => i ≤ l.length)
    (fun i => match nmGo (l.take i) (l.drop i) with | none => (.ex 0, [], []) | some (k, r, t) => (.rt, [.int .i64 (if t = true then (k.length : Int) else -1)], [])) (by
      intro i hi
      rcases Nat.lt_or_ge i l.length with h | h
      · have h3 : (i : Int) < l.length := by omega
        have hg := get_b8 h
        have e58 := byte_eqd l[i] 58 (by decide)
        rw [show ((58 : Nat) : Int) = 58 from rfl, show UInt8.ofNat 58 = 58 from rfl] at e58
        rw [List.drop_eq_getElem_cons h]
        by_cases hc : (l[i] == 58) = true
        · refine .inl ?_
          unfold nmGo
          rw [if_pos hc]
          refine ⟨?_, by simp⟩
          have e4 : (l.take i).length = i := by rw [List.length_take]; omega
          by_cases h0 : i = 0
          · have z0 : decide ((i : Int) = 0) = true := by simp [h0]
            have z1 : decide ((0 : Int) < i) = false := by simp [h0]
            simp only [q36_1, evL_op, evL_sel, evL_nx, evL_exit, evL_ret, evL_join, evL_block, evL_cond, evK_some, evJ_nx, evJ_rt, evJ_ex, evB_nx, evB_rt, evB_ex, evC2_bool, evS_and, evS_or, evS_tf, evS_ft, ev_t, ev_s, ev_c, evalOp, bin_add, bin_sub, bin_mul, bin_eql, bin_neq, bin_lss, bin_leq, bin_gtr, bin_geq, sbin_eql, sbin_neq, b8, List.map_cons, List.map_nil, PV.rens, PV.ren, if_true, if_false, Bool.false_eq_true, reduceIte, Nat.reduceAdd, Nat.reduceSub, Nat.reduceMul, Nat.reduceEqDiff, Nat.reduceLeDiff, Int.reduceLE, Int.reduceLT, Int.reduceEq, Int.reduceToNat, Int.reduceAdd, Int.reduceSub, Int.reduceNeg, decide_true, decide_false, Bool.not_true, Bool.not_false, Bool.true_and, Bool.false_and, Bool.and_true, Bool.and_false, Bool.or_true, Bool.true_or, Bool.or_false, Bool.false_or, and_self, and_true, true_and, Nat.le_refl, Nat.zero_add, Nat.mul_one, Nat.one_ne_zero, Nat.zero_le, highP, lowP, Option.map_some, Option.map_none, List.drop_zero, List.take_zero, List.length_cons, List.length_nil, List.nil_append, List.append_nil, List.cons_append, fillP, PV.cells?, PV.one, PV.cleans, PV.clean, PV.of?, List.all_cons, List.all_nil, List.take_succ_cons, List.drop_succ_cons, Bool.and_self, Int.natCast_nonneg, Int.toNat_natCast, Int.toNat_zero, PV.of?, Tk.ren, tailP, evL_loop, or_true, true_or, Nat.zero_lt_one, Nat.sub_zero, List.getElem?_cons_zero, List.getElem?_cons_succ, List.set_cons_zero, List.set_cons_succ, List.take_length, h3, hg, e58, hc, e4, z0, z1]
          · have z0 : ¬ (i : Int) = 0 := by omega
            have z1 : (0 : Int) < i := by omega
            simp only [q36_1, evL_op, evL_sel, evL_nx, evL_exit, evL_ret, evL_join, evL_block, evL_cond, evK_some, evJ_nx, evJ_rt, evJ_ex, evB_nx, evB_rt, evB_ex, evC2_bool, evS_and, evS_or, evS_tf, evS_ft, ev_t, ev_s, ev_c, evalOp, bin_add, bin_sub, bin_mul, bin_eql, bin_neq, bin_lss, bin_leq, bin_gtr, bin_geq, sbin_eql, sbin_neq, b8, List.map_cons, List.map_nil, PV.rens, PV.ren, if_true, if_false, Bool.false_eq_true, reduceIte, Nat.reduceAdd, Nat.reduceSub, Nat.reduceMul, Nat.reduceEqDiff, Nat.reduceLeDiff, Int.reduceLE, Int.reduceLT, Int.reduceEq, Int.reduceToNat, Int.reduceAdd, Int.reduceSub, Int.reduceNeg, decide_true, decide_false, Bool.not_true, Bool.not_false, Bool.true_and, Bool.false_and, Bool.and_true, Bool.and_false, Bool.or_true, Bool.true_or, Bool.or_false, Bool.false_or, and_self, and_true, true_and, Nat.le_refl, Nat.zero_add, Nat.mul_one, Nat.one_ne_zero, Nat.zero_le, highP, lowP, Option.map_some, Option.map_none, List.drop_zero, List.take_zero, List.length_cons, List.length_nil, List.nil_append, List.append_nil, List.cons_append, fillP, PV.cells?, PV.one, PV.cleans, PV.clean, PV.of?, List.all_cons, List.all_nil, List.take_succ_cons, List.drop_succ_cons, Bool.and_self, Int.natCast_nonneg, Int.toNat_natCast, Int.toNat_zero, PV.of?, Tk.ren, tailP, evL_loop, or_true, true_or, Nat.zero_lt_one, Nat.sub_zero, List.getElem?_cons_zero, List.getElem?_cons_succ, List.set_cons_zero, List.set_cons_succ, List.take_length, h3, hg, e58, hc, e4, z0, z1]
        · have hc' : (l[i] == 58) = false := by simpa using hc
          by_cases hb : badC l[i] = true
          · refine .inl ?_
            unfold nmGo
            rw [if_neg hc, if_pos hb]
            refine ⟨?_, by simp⟩
            unfold badC at hb
            cases hx : decide ((l[i].toNat : Int) < 33) with
            | true => simp only [q36_1, evL_op, evL_sel, evL_nx, evL_exit, evL_ret, evL_join, evL_block, evL_cond, evK_some, evJ_nx, evJ_rt, evJ_ex, evB_nx, evB_rt, evB_ex, evC2_bool, evS_and, evS_or, evS_tf, evS_ft, ev_t, ev_s, ev_c, evalOp, bin_add, bin_sub, bin_mul, bin_eql, bin_neq, bin_lss, bin_leq, bin_gtr, bin_geq, sbin_eql, sbin_neq, b8, List.map_cons, List.map_nil, PV.rens, PV.ren, if_true, if_false, Bool.false_eq_true, reduceIte, Nat.reduceAdd, Nat.reduceSub, Nat.reduceMul, Nat.reduceEqDiff, Nat.reduceLeDiff, Int.reduceLE, Int.reduceLT, Int.reduceEq, Int.reduceToNat, Int.reduceAdd, Int.reduceSub, Int.reduceNeg, decide_true, decide_false, Bool.not_true, Bool.not_false, Bool.true_and, Bool.false_and, Bool.and_true, Bool.and_false, Bool.or_true, Bool.true_or, Bool.or_false, Bool.false_or, and_self, and_true, true_and, Nat.le_refl, Nat.zero_add, Nat.mul_one, Nat.one_ne_zero, Nat.zero_le, highP, lowP, Option.map_some, Option.map_none, List.drop_zero, List.take_zero, List.length_cons, List.length_nil, List.nil_append, List.append_nil, List.cons_append, fillP, PV.cells?, PV.one, PV.cleans, PV.clean, PV.of?, List.all_cons, List.all_nil, List.take_succ_cons, List.drop_succ_cons, Bool.and_self, Int.natCast_nonneg, Int.toNat_natCast, Int.toNat_zero, PV.of?, Tk.ren, tailP, evL_loop, or_true, true_or, Nat.zero_lt_one, Nat.sub_zero, List.getElem?_cons_zero, List.getElem?_cons_succ, List.set_cons_zero, List.set_cons_succ, List.take_length, h3, hg, e58, hc', hx]
            | false =>
              rw [hx, Bool.false_or] at hb
              simp only [q36_1, evL_op, evL_sel, evL_nx, evL_exit, evL_ret, evL_join, evL_block, evL_cond, evK_some, evJ_nx, evJ_rt, evJ_ex, evB_nx, evB_rt, evB_ex, evC2_bool, evS_and, evS_or, evS_tf, evS_ft, ev_t, ev_s, ev_c, evalOp, bin_add, bin_sub, bin_mul, bin_eql, bin_neq, bin_lss, bin_leq, bin_gtr, bin_geq, sbin_eql, sbin_neq, b8, List.map_cons, List.map_nil, PV.rens, PV.ren, if_true, if_false, Bool.false_eq_true, reduceIte, Nat.reduceAdd, Nat.reduceSub, Nat.reduceMul, Nat.reduceEqDiff, Nat.reduceLeDiff, Int.reduceLE, Int.reduceLT, Int.reduceEq, Int.reduceToNat, Int.reduceAdd, Int.reduceSub, Int.reduceNeg, decide_true, decide_false, Bool.not_true, Bool.not_false, Bool.true_and, Bool.false_and, Bool.and_true, Bool.and_false, Bool.or_true, Bool.true_or, Bool.or_false, Bool.false_or, and_self, and_true, true_and, Nat.le_refl, Nat.zero_add, Nat.mul_one, Nat.one_ne_zero, Nat.zero_le, highP, lowP, Option.map_some, Option.map_none, List.drop_zero, List.take_zero, List.length_cons, List.length_nil, List.nil_append, List.append_nil, List.cons_append, fillP, PV.cells?, PV.one, PV.cleans, PV.clean, PV.of?, List.all_cons, List.all_nil, List.take_succ_cons, List.drop_succ_cons, Bool.and_self, Int.natCast_nonneg, Int.toNat_natCast, Int.toNat_zero, PV.of?, Tk.ren, tailP, evL_loop, or_true, true_or, Nat.zero_lt_one, Nat.sub_zero, List.getElem?_cons_zero, List.getElem?_cons_succ, List.set_cons_zero, List.set_cons_succ, List.take_length, h3, hg, e58, hc', hx, hb]
          · have hb' : badC l[i] = false := by simpa using hb
            unfold badC at hb'
            simp only [Bool.or_eq_false_iff] at hb'
            refine .inr ⟨i + 1, ?_⟩
            apply Exists.intro
            apply Exists.intro
            refine ⟨?_, ?_, h, by omega, ?_⟩
            · simp only [q36_1, q36_0, evL_op, evL_sel, evL_nx, evL_exit, evL_ret, evL_join, evL_block, evL_cond, evK_some, evJ_nx, evJ_rt, evJ_ex, evB_nx, evB_rt, evB_ex, evC2_bool, evS_and, evS_or, evS_tf, evS_ft, ev_t, ev_s, ev_c, evalOp, bin_add, bin_sub, bin_mul, bin_eql, bin_neq, bin_lss, bin_leq, bin_gtr, bin_geq, sbin_eql, sbin_neq, b8, List.map_cons, List.map_nil, PV.rens, PV.ren, if_true, if_false, Bool.false_eq_true, reduceIte, Nat.reduceAdd, Nat.reduceSub, Nat.reduceMul, Nat.reduceEqDiff, Nat.reduceLeDiff, Int.reduceLE, Int.reduceLT, Int.reduceEq, Int.reduceToNat, Int.reduceAdd, Int.reduceSub, Int.reduceNeg, decide_true, decide_false, Bool.not_true, Bool.not_false, Bool.true_and, Bool.false_and, Bool.and_true, Bool.and_false, Bool.or_true, Bool.true_or, Bool.or_false, Bool.false_or, and_self, and_true, true_and, Nat.le_refl, Nat.zero_add, Nat.mul_one, Nat.one_ne_zero, Nat.zero_le, highP, lowP, Option.map_some, Option.map_none, List.drop_zero, List.take_zero, List.length_cons, List.length_nil, List.nil_append, List.append_nil, List.cons_append, fillP, PV.cells?, PV.one, PV.cleans, PV.clean, PV.of?, List.all_cons, List.all_nil, List.take_succ_cons, List.drop_succ_cons, Bool.and_self, Int.natCast_nonneg, Int.toNat_natCast, Int.toNat_zero, PV.of?, Tk.ren, tailP, evL_loop, or_true, true_or, Nat.zero_lt_one, Nat.sub_zero, List.getElem?_cons_zero, List.getElem?_cons_succ, List.set_cons_zero, List.set_cons_succ, List.take_length, h3, hg, e58, hc', hb'.1, hb'.2, wr1 (show i < 9223372036854775807 by omega)]
              rfl
            · rfl
            · conv => rhs; unfold nmGo
              rw [if_neg hc, if_neg hb, List.take_succ_eq_append_getElem h]
      · refine .inl ?_
        have h3 : ¬ (i : Int) < l.length := by omega
        rw [List.drop_of_length_le h]
        refine ⟨?_, by simp [nmGo]⟩
        unfold nmGo
        simp only [q36_1, evL_op, evL_sel, evL_nx, evL_exit, evL_ret, evL_join, evL_block, evL_cond, evK_some, evJ_nx, evJ_rt, evJ_ex, evB_nx, evB_rt, evB_ex, evC2_bool, evS_and, evS_or, evS_tf, evS_ft, ev_t, ev_s, ev_c, evalOp, bin_add, bin_sub, bin_mul, bin_eql, bin_neq, bin_lss, bin_leq, bin_gtr, bin_geq, sbin_eql, sbin_neq, b8, List.map_cons, List.map_nil, PV.rens, PV.ren, if_true, if_false, Bool.false_eq_true, reduceIte, Nat.reduceAdd, Nat.reduceSub, Nat.reduceMul, Nat.reduceEqDiff, Nat.reduceLeDiff, Int.reduceLE, Int.reduceLT, Int.reduceEq, Int.reduceToNat, Int.reduceAdd, Int.reduceSub, Int.reduceNeg, decide_true, decide_false, Bool.not_true, Bool.not_false, Bool.true_and, Bool.false_and, Bool.and_true, Bool.and_false, Bool.or_true, Bool.true_or, Bool.or_false, Bool.false_or, and_self, and_true, true_and, Nat.le_refl, Nat.zero_add, Nat.mul_one, Nat.one_ne_zero, Nat.zero_le, highP, lowP, Option.map_some, Option.map_none, List.drop_zero, List.take_zero, List.length_cons, List.length_nil, List.nil_append, List.append_nil, List.cons_append, fillP, PV.cells?, PV.one, PV.cleans, PV.clean, PV.of?, List.all_cons, List.all_nil, List.take_succ_cons, List.drop_succ_cons, Bool.and_self, Int.natCast_nonneg, Int.toNat_natCast, Int.toNat_zero, PV.of?, Tk.ren, tailP, evL_loop, or_true, true_or, Nat.zero_lt_one, Nat.sub_zero, List.getElem?_cons_zero, List.getElem?_cons_succ, List.set_cons_zero, List.set_cons_succ, List.take_length, h3]) (l.length + 1) 0 [sl8 l, .int .i64 (0 : Nat)] [] rfl (Nat.zero_le _) (by omega)
  rw [show ((0 : Nat) : Int) = 0 from rfl, List.take_zero, List.drop_zero] at lp
  simp only [q36, evL_op, evL_sel, evL_nx, evL_exit, evL_ret, evL_join, evL_block, evL_cond, evK_some, evJ_nx, evJ_rt, evJ_ex, evB_nx, evB_rt, evB_ex, evC2_bool, evS_and, evS_or, evS_tf, evS_ft, ev_t, ev_s, ev_c, evalOp, bin_add, bin_sub, bin_mul, bin_eql, bin_neq, bin_lss, bin_leq, bin_gtr, bin_geq, sbin_eql, sbin_neq, b8, List.map_cons, List.map_nil, PV.rens, PV.ren, if_true, if_false, Bool.false_eq_true, reduceIte, Nat.reduceAdd, Nat.reduceSub, Nat.reduceMul, Nat.reduceEqDiff, Nat.reduceLeDiff, Int.reduceLE, Int.reduceLT, Int.reduceEq, Int.reduceToNat, Int.reduceAdd, Int.reduceSub, Int.reduceNeg, decide_true, decide_false, Bool.not_true, Bool.not_false, Bool.true_and, Bool.false_and, Bool.and_true, Bool.and_false, Bool.or_true, Bool.true_or, Bool.or_false, Bool.false_or, and_self, and_true, true_and, Nat.le_refl, Nat.zero_add, Nat.mul_one, Nat.one_ne_zero, Nat.zero_le, highP, lowP, Option.map_some, Option.map_none, List.drop_zero, List.take_zero, List.length_cons, List.length_nil, List.nil_append, List.append_nil, List.cons_append, fillP, PV.cells?, PV.one, PV.cleans, PV.clean, PV.of?, List.all_cons, List.all_nil, List.take_succ_cons, List.drop_succ_cons, Bool.and_self, Int.natCast_nonneg, Int.toNat_natCast, Int.toNat_zero, PV.of?, Tk.ren, tailP, evL_loop, or_true, true_or, Nat.zero_lt_one, Nat.sub_zero, List.getElem?_cons_zero, List.getElem?_cons_succ, List.set_cons_zero, List.set_cons_succ, List.take_length]
  rw [lp]
  unfold colV nameF
  cases nmGo [] l with
  | none => simp only [q36_2, evL_op, evL_sel, evL_nx, evL_exit, evL_ret, evL_join, evL_block, evL_cond, evK_some, evJ_nx, evJ_rt, evJ_ex, evB_nx, evB_rt, evB_ex, evC2_bool, evS_and, evS_or, evS_tf, evS_ft, ev_t, ev_s, ev_c, evalOp, bin_add, bin_sub, bin_mul, bin_eql, bin_neq, bin_lss, bin_leq, bin_gtr, bin_geq, sbin_eql, sbin_neq, b8, List.map_cons, List.map_nil, PV.rens, PV.ren, if_true, if_false, Bool.false_eq_true, reduceIte, Nat.reduceAdd, Nat.reduceSub, Nat.reduceMul, Nat.reduceEqDiff, Nat.reduceLeDiff, Int.reduceLE, Int.reduceLT, Int.reduceEq, Int.reduceToNat, Int.reduceAdd, Int.reduceSub, Int.reduceNeg, decide_true, decide_false, Bool.not_true, Bool.not_false, Bool.true_and, Bool.false_and, Bool.and_true, Bool.and_false, Bool.or_true, Bool.true_or, Bool.or_false, Bool.false_or, and_self, and_true, true_and, Nat.le_refl, Nat.zero_add, Nat.mul_one, Nat.one_ne_zero, Nat.zero_le, highP, lowP, Option.map_some, Option.map_none, List.drop_zero, List.take_zero, List.length_cons, List.length_nil, List.nil_append, List.append_nil, List.cons_append, fillP, PV.cells?, PV.one, PV.cleans, PV.clean, PV.of?, List.all_cons, List.all_nil, List.take_succ_cons, List.drop_succ_cons, Bool.and_self, Int.natCast_nonneg, Int.toNat_natCast, Int.toNat_zero, PV.of?, Tk.ren, tailP, evL_loop, or_true, true_or, Nat.zero_lt_one, Nat.sub_zero, List.getElem?_cons_zero, List.getElem?_cons_succ, List.set_cons_zero, List.set_cons_succ, List.take_length, Option.getD_none]
  | some x =>
    obtain ⟨k, r, t⟩ := x
    simp only [evL_op, evL_sel, evL_nx, evL_exit, evL_ret, evL_join, evL_block, evL_cond, evK_some, evJ_nx, evJ_rt, evJ_ex, evB_nx, evB_rt, evB_ex, evC2_bool, evS_and, evS_or, evS_tf, evS_ft, ev_t, ev_s, ev_c, evalOp, bin_add, bin_sub, bin_mul, bin_eql, bin_neq, bin_lss, bin_leq, bin_gtr, bin_geq, sbin_eql, sbin_neq, b8, List.map_cons, List.map_nil, PV.rens, PV.ren, if_true, if_false, Bool.false_eq_true, reduceIte, Nat.reduceAdd, Nat.reduceSub, Nat.reduceMul, Nat.reduceEqDiff, Nat.reduceLeDiff, Int.reduceLE, Int.reduceLT, Int.reduceEq, Int.reduceToNat, Int.reduceAdd, Int.reduceSub, Int.reduceNeg, decide_true, decide_false, Bool.not_true, Bool.not_false, Bool.true_and, Bool.false_and, Bool.and_true, Bool.and_false, Bool.or_true, Bool.true_or, Bool.or_false, Bool.false_or, and_self, and_true, true_and, Nat.le_refl, Nat.zero_add, Nat.mul_one, Nat.one_ne_zero, Nat.zero_le, highP, lowP, Option.map_some, Option.map_none, List.drop_zero, List.take_zero, List.length_cons, List.length_nil, List.nil_append, List.append_nil, List.cons_append, fillP, PV.cells?, PV.one, PV.cleans, PV.clean, PV.of?, List.all_cons, List.all_nil, List.take_succ_cons, List.drop_succ_cons, Bool.and_self, Int.natCast_nonneg, Int.toNat_natCast, Int.toNat_zero, PV.of?, Tk.ren, tailP, evL_loop, or_true, true_or, Nat.zero_lt_one, Nat.sub_zero, List.getElem?_cons_zero, List.getElem?_cons_succ, List.set_cons_zero, List.set_cons_succ, List.take_length, Option.getD_some]
theorem head_rowR (cs : List PV) (hc : cs.all flat = true) (m : Nat) (b : List UInt8) (e : Int) : headS 0 [sl8 b, .row 0 0 2 m, .int .i64 e] [.cells cs] = ([sl8 b, .row 0 0 2 m, .int .i64 e], [.cells cs]) := by
  unfold headS
  rw [show nilTs [sl8 b, .row 0 0 2 m, .int .i64 e] [.cells cs] = ([sl8 b, .row 0 0 2 m, .int .i64 e], [.cells cs]) from rfl]
  dsimp only
  rw [show nilObs 0 [Ob.cells cs] = [Ob.cells cs] from rfl]
  have h4 : used 0 [sl8 b, .row 0 0 2 m, .int .i64 e] [.cells cs] = [0] := by
    unfold used
    have hf : List.flatMap (obT 0 [Ob.cells cs]) (PV.toksL [sl8 b, .row 0 0 2 m, .int .i64 e] ++ (List.take 0 [Ob.cells cs]).flatMap Ob.toks) = [] := by
      show PV.toksL cs ++ [] = []
      rw [toks_flat hc]; rfl
    unfold reach
    rw [hf]
    rfl
  unfold compact
  simp only
  rw [h4]
  show (_, [Ob.cells (PV.rens (renOf 0 [Ob.cells cs] [0]) cs)]) = _
  rw [rens_flat _ hc]
  rfl
theorem head_rowR1 (cs : List PV) (hc : cs.all flat = true) (m : Nat) (b : List UInt8) (e : Int) : headS 0 [sl8 b, .row 1 0 2 m, .int .i64 e] [.dead, .cells cs] = ([sl8 b, .row 0 0 2 m, .int .i64 e], [.cells cs]) := by
  unfold headS
  rw [show nilTs [sl8 b, .row 1 0 2 m, .int .i64 e] [.dead, .cells cs] = ([sl8 b, .row 1 0 2 m, .int .i64 e], [.dead, .cells cs]) from rfl]
  dsimp only
  rw [show nilObs 0 [Ob.dead, Ob.cells cs] = [Ob.dead, Ob.cells cs] from rfl]
  have h4 : used 0 [sl8 b, .row 1 0 2 m, .int .i64 e] [.dead, .cells cs] = [1] := by
    unfold used
    have hf : List.flatMap (obT 0 [Ob.dead, Ob.cells cs]) (PV.toksL [sl8 b, .row 1 0 2 m, .int .i64 e] ++ (List.take 0 [Ob.dead, Ob.cells cs]).flatMap Ob.toks) = [] := by
      show PV.toksL cs ++ [] = []
      rw [toks_flat hc]; rfl
    unfold reach
    rw [hf]
    rfl
  unfold compact
  simp only
  rw [h4]
  show (_, [Ob.cells (PV.rens (renOf 0 [Ob.dead, Ob.cells cs] [1]) cs)]) = _
  rw [rens_flat _ hc]
  rfl
theorem moreB_name {line : List UInt8} (h : moreB line = true) : (nameF line).2.2 = false := by
  cases line with
  | nil => cases h
  | cons c r =>
    rw [moreB_cons] at h
    simp only [Bool.or_eq_true, beq_iff_eq] at h
    have h1 : (c == 58) = false := by rcases h with rfl | rfl <;> rfl
    have h2 : badC c = true := by rcases h with rfl | rfl <;> rfl
    unfold nameF nmGo
    rw [if_neg (by rw [h1]; decide), if_pos h2]
    rfl
theorem outP_endR (out : List Fld) (e : Int) : evEnd true 0 (.tup [outP out, .int .i64 e]) (outH out) = some (.tup [outR out, .int .i64 e], if out = [] then [.tok] else []) := by
  by_cases h : out = []
  · subst h; rfl
  · rw [outP_ne h, outH_ne h, if_neg h]
    unfold outR
    rw [if_neg h]
    have h1 : pubV 8 (.tup [.row 0 0 2 out.length, .int .i64 e]) [.cells (fl out)] = some (.tup [.sl .no 2 out.length (fl out), .int .i64 e], [.dead]) := by
      have hp := bytes8_pub 5 (fl out) (fl_flat out) [.dead]
      have hl := fl_len out
      have ht : (fl out).take (out.length * 2) = fl out := List.take_of_length_le (by omega)
      simp only [pubV, pubLw, List.getElem?_cons_zero, List.set_cons_zero, hp, fl_cleans, fl_one', hl, ht, Nat.zero_add, Nat.le_refl, and_self, if_true, List.drop_zero]
    simp only [evEnd, h1]
    rfl
section
variable (b : List UInt8) (hb : b.length ≤ 1000000000) (k0 : Nat)
include hb
theorem loop_ref (o : List Fld) (e' : Nat) : ∀ (kk : Nat), b.length < kk → scanGo [] 0 (lines b) = (o, e') → loopL 0 (evL T k0 q22_1) kk [sl8 b, .sl .nil 0 0 [], .int .i64 0] [] = some (.rt, [outP o, .int .i64 e'], outH o) := by
  intro kk hk hs
  have lp := loop_post (n := 0) (body := evL T k0 q22_1) (σ := List Fld × Nat) (fun s => [sl8 b, outP s.1, .int .i64 s.2]) (fun s => outH s.1) (fun s => b.length - s.2)
    (fun s => s.2 ≤ b.length ∧ s.1.length ≤ s.2 ∧ (∀ f ∈ s.1, f.2.length ≤ s.2) ∧ scanGo s.1 s.2 (lines (b.drop s.2)) = (o, e')) (fun r => r = (.rt, [outP o, .int .i64 e'], outH o)) ?_ kk ([], 0) [sl8 b, .sl .nil 0 0 [], .int .i64 (0 : Nat)] [] rfl ⟨Nat.zero_le _, Nat.zero_le _, fun f h => (by cases h), hs⟩ (by simpa using hk)
  · obtain ⟨r, h, rfl⟩ := lp
    exact h
  rintro ⟨out, at_⟩ ⟨h1, h3, h4, h5⟩
  dsimp only at h1 h3 h4 h5 ⊢
  have c0 := T35 b hb at_ h1
  rcases idx_split (b.drop at_) with h | ⟨a, r, h, h2, hnc⟩
  · refine .inl ⟨_, ?_, by simp, rfl⟩
    rw [lines_no h, scan_nil] at h5
    cases h5
    rw [endV_no h] at c0
    by_cases ho : o = []
    · subst ho
      simp only [q22_1, evL_op, evL_sel, evL_nx, evL_exit, evL_ret, evL_join, evL_block, evL_cond, evK_some, evJ_nx, evJ_rt, evJ_ex, evB_nx, evB_rt, evB_ex, evC2_bool, evS_and, evS_or, evS_tf, evS_ft, ev_t, ev_s, ev_c, evalOp, bin_add, bin_sub, bin_mul, bin_eql, bin_neq, bin_lss, bin_leq, bin_gtr, bin_geq, sbin_eql, sbin_neq, b8, List.map_cons, List.map_nil, PV.rens, PV.ren, if_true, if_false, Bool.false_eq_true, reduceIte, Nat.reduceAdd, Nat.reduceSub, Nat.reduceMul, Nat.reduceEqDiff, Nat.reduceLeDiff, Int.reduceLE, Int.reduceLT, Int.reduceEq, Int.reduceToNat, Int.reduceAdd, Int.reduceSub, Int.reduceNeg, decide_true, decide_false, Bool.not_true, Bool.not_false, Bool.true_and, Bool.false_and, Bool.and_true, Bool.and_false, Bool.or_true, Bool.true_or, Bool.or_false, Bool.false_or, and_self, and_true, true_and, Nat.le_refl, Nat.zero_add, Nat.mul_one, Nat.one_ne_zero, Nat.zero_le, highP, lowP, Option.map_some, Option.map_none, List.drop_zero, List.take_zero, List.length_cons, List.length_nil, List.nil_append, List.append_nil, List.cons_append, fillP, PV.cells?, PV.one, PV.cleans, PV.clean, PV.of?, List.all_cons, List.all_nil, List.take_succ_cons, List.drop_succ_cons, Bool.and_self, Int.natCast_nonneg, Int.toNat_natCast, Int.toNat_zero, PV.of?, Tk.ren, tailP, evL_loop, or_true, true_or, Nat.zero_lt_one, Nat.sub_zero, List.getElem?_cons_zero, List.getElem?_cons_succ, List.set_cons_zero, List.set_cons_succ, List.take_length, PV.rens, PV.ren, outP_nil, outH, c0]
    · rw [outP_ne ho, outH_ne ho]
      simp only [q22_1, evL_op, evL_sel, evL_nx, evL_exit, evL_ret, evL_join, evL_block, evL_cond, evK_some, evJ_nx, evJ_rt, evJ_ex, evB_nx, evB_rt, evB_ex, evC2_bool, evS_and, evS_or, evS_tf, evS_ft, ev_t, ev_s, ev_c, evalOp, bin_add, bin_sub, bin_mul, bin_eql, bin_neq, bin_lss, bin_leq, bin_gtr, bin_geq, sbin_eql, sbin_neq, b8, List.map_cons, List.map_nil, PV.rens, PV.ren, if_true, if_false, Bool.false_eq_true, reduceIte, Nat.reduceAdd, Nat.reduceSub, Nat.reduceMul, Nat.reduceEqDiff, Nat.reduceLeDiff, Int.reduceLE, Int.reduceLT, Int.reduceEq, Int.reduceToNat, Int.reduceAdd, Int.reduceSub, Int.reduceNeg, decide_true, decide_false, Bool.not_true, Bool.not_false, Bool.true_and, Bool.false_and, Bool.and_true, Bool.and_false, Bool.or_true, Bool.true_or, Bool.or_false, Bool.false_or, and_self, and_true, true_and, Nat.le_refl, Nat.zero_add, Nat.mul_one, Nat.one_ne_zero, Nat.zero_le, highP, lowP, Option.map_some, Option.map_none, List.drop_zero, List.take_zero, List.length_cons, List.length_nil, List.nil_append, List.append_nil, List.cons_append, fillP, PV.cells?, PV.one, PV.cleans, PV.clean, PV.of?, List.all_cons, List.all_nil, List.take_succ_cons, List.drop_succ_cons, Bool.and_self, Int.natCast_nonneg, Int.toNat_natCast, Int.toNat_zero, PV.of?, Tk.ren, tailP, evL_loop, or_true, true_or, Nat.zero_lt_one, Nat.sub_zero, List.getElem?_cons_zero, List.getElem?_cons_succ, List.set_cons_zero, List.set_cons_succ, List.take_length, PV.rens, PV.ren, c0]
  · obtain ⟨k1, k2, k3⟩ := drop_idx h
    rw [endV_yes h2] at c0
    rw [h, lines_cons hnc] at h5
    have g0 : ¬ (((at_ + a.length : Nat)) : Int) < 0 := by omega
    have g1 : (at_ : Int) ≤ ((at_ + a.length : Nat) : Int) := by omega
    have g1' : at_ ≤ at_ + a.length := by omega
    have g2 : ((at_ + a.length : Nat) : Int) ≤ b.length := by omega
    have g2' : at_ + a.length ≤ b.length := by omega
    have e2 : ((b.map b8).take (at_ + a.length)).drop at_ = a.map b8 := by rw [cut_b8, k2]
    have e3 : at_ + a.length - at_ = a.length := by omega
    have w1 : IntKind.i64.wrap (((at_ + a.length : Nat) : Int) + 2) = ((at_ + a.length + 2 : Nat) : Int) := by rw [wr (by omega) (by omega)]; omega
    have hat : at_ + (a.length + 2) = at_ + a.length + 2 := by omega
    cases a with
    | nil =>
      have hn : (nameF []).2.2 = false := rfl
      rw [scan_end hn rfl, if_pos rfl] at h5
      cases h5
      refine .inl ⟨_, ?_, by simp, rfl⟩
      have e2' : ((b.map b8).take at_).drop at_ = [] := List.drop_of_length_le (by simp; omega)
      have z0 : at_ - at_ = 0 := by omega
      have o0 : ((0 : Nat) : Int) = 0 := rfl
      simp only [List.length_nil, Nat.add_zero] at c0 g0 g2 g2' w1
      have g3 : (0 : Int) ≤ at_ := by omega
      by_cases ho : o = []
      · subst ho
        simp only [q22_1, evL_op, evL_sel, evL_nx, evL_exit, evL_ret, evL_join, evL_block, evL_cond, evK_some, evJ_nx, evJ_rt, evJ_ex, evB_nx, evB_rt, evB_ex, evC2_bool, evS_and, evS_or, evS_tf, evS_ft, ev_t, ev_s, ev_c, evalOp, bin_add, bin_sub, bin_mul, bin_eql, bin_neq, bin_lss, bin_leq, bin_gtr, bin_geq, sbin_eql, sbin_neq, b8, List.map_cons, List.map_nil, PV.rens, PV.ren, if_true, if_false, Bool.false_eq_true, reduceIte, Nat.reduceAdd, Nat.reduceSub, Nat.reduceMul, Nat.reduceEqDiff, Nat.reduceLeDiff, Int.reduceLE, Int.reduceLT, Int.reduceEq, Int.reduceToNat, Int.reduceAdd, Int.reduceSub, Int.reduceNeg, decide_true, decide_false, Bool.not_true, Bool.not_false, Bool.true_and, Bool.false_and, Bool.and_true, Bool.and_false, Bool.or_true, Bool.true_or, Bool.or_false, Bool.false_or, and_self, and_true, true_and, Nat.le_refl, Nat.zero_add, Nat.mul_one, Nat.one_ne_zero, Nat.zero_le, highP, lowP, Option.map_some, Option.map_none, List.drop_zero, List.take_zero, List.length_cons, List.length_nil, List.nil_append, List.append_nil, List.cons_append, fillP, PV.cells?, PV.one, PV.cleans, PV.clean, PV.of?, List.all_cons, List.all_nil, List.take_succ_cons, List.drop_succ_cons, Bool.and_self, Int.natCast_nonneg, Int.toNat_natCast, Int.toNat_zero, PV.of?, Tk.ren, tailP, evL_loop, or_true, true_or, Nat.zero_lt_one, Nat.sub_zero, List.getElem?_cons_zero, List.getElem?_cons_succ, List.set_cons_zero, List.set_cons_succ, List.take_length, PV.rens, PV.ren, outP_nil, outH, c0, g0, g2, g2', e2', z0, o0, w1, Int.le_refl]
      · rw [outP_ne ho, outH_ne ho]
        simp only [q22_1, evL_op, evL_sel, evL_nx, evL_exit, evL_ret, evL_join, evL_block, evL_cond, evK_some, evJ_nx, evJ_rt, evJ_ex, evB_nx, evB_rt, evB_ex, evC2_bool, evS_and, evS_or, evS_tf, evS_ft, ev_t, ev_s, ev_c, evalOp, bin_add, bin_sub, bin_mul, bin_eql, bin_neq, bin_lss, bin_leq, bin_gtr, bin_geq, sbin_eql, sbin_neq, b8, List.map_cons, List.map_nil, PV.rens, PV.ren, if_true, if_false, Bool.false_eq_true, reduceIte, Nat.reduceAdd, Nat.reduceSub, Nat.reduceMul, Nat.reduceEqDiff, Nat.reduceLeDiff, Int.reduceLE, Int.reduceLT, Int.reduceEq, Int.reduceToNat, Int.reduceAdd, Int.reduceSub, Int.reduceNeg, decide_true, decide_false, Bool.not_true, Bool.not_false, Bool.true_and, Bool.false_and, Bool.and_true, Bool.and_false, Bool.or_true, Bool.true_or, Bool.or_false, Bool.false_or, and_self, and_true, true_and, Nat.le_refl, Nat.zero_add, Nat.mul_one, Nat.one_ne_zero, Nat.zero_le, highP, lowP, Option.map_some, Option.map_none, List.drop_zero, List.take_zero, List.length_cons, List.length_nil, List.nil_append, List.append_nil, List.cons_append, fillP, PV.cells?, PV.one, PV.cleans, PV.clean, PV.of?, List.all_cons, List.all_nil, List.take_succ_cons, List.drop_succ_cons, Bool.and_self, Int.natCast_nonneg, Int.toNat_natCast, Int.toNat_zero, PV.of?, Tk.ren, tailP, evL_loop, or_true, true_or, Nat.zero_lt_one, Nat.sub_zero, List.getElem?_cons_zero, List.getElem?_cons_succ, List.set_cons_zero, List.set_cons_succ, List.take_length, PV.rens, PV.ren, c0, g0, g2, g2', e2', z0, o0, w1, Int.le_refl]
    | cons c cr =>
      have d0 : (0 : Int) < (c :: cr).length := by simp
      have d0' : ¬ ((c :: cr).length : Int) = 0 := by simp only [List.length_cons]; omega
      have d1 : ((c :: cr).map b8).take 1 = [b8 c] := rfl
      have e32 : decide ((c.toNat : Int) = 32) = (c == 32) := byte_eqd c 32 (by decide)
      have e9 : decide ((c.toNat : Int) = 9) = (c == 9) := byte_eqd c 9 (by decide)
      have hmm : (c == 32 || c == 9) = moreB (c :: cr) := rfl
      have hne : c :: cr ≠ [] := by simp
      generalize hcr : c :: cr = a at *
      have c1 := T36 a (by omega)
      unfold colV at c1
      cases hm : moreB a && decide (out ≠ []) with
      | true =>
        simp only [Bool.and_eq_true, decide_eq_true_eq] at hm
        obtain ⟨hm, ho⟩ := hm
        rcases List.eq_nil_or_concat out with ho' | ⟨p, f, ho'⟩
        · exact absurd ho' ho
        rw [List.concat_eq_append] at ho'
        subst ho'
        rw [scan_more (moreB_name hm) hm] at h5
        have hpl : (p ++ [f]).length = p.length + 1 := by simp
        have hfl := h4 f (by simp)
        have h4' : ∀ g ∈ p ++ [(f.1, f.2 ++ a)], g.2.length ≤ at_ + a.length + 2 := fun g hg => by
          rcases List.mem_append.1 hg with hg | hg
          · have := h4 g (by simp [hg]); omega
          · rw [List.mem_singleton.1 hg]; simp; omega
        rw [hm] at hmm
        refine .inr ⟨(p ++ [(f.1, f.2 ++ a)], at_ + a.length + 2), ?_⟩
        apply Exists.intro
        apply Exists.intro
        rw [hpl] at h3
        refine ⟨?_, ?_, ⟨by dsimp only; omega, by simp; omega, h4', by dsimp only; rw [k3, ← hat]; exact h5⟩, by dsimp only; omega⟩
        · have hne2 : p ++ [f] ≠ [] := by simp
          rw [outP_ne hne2, outH_ne hne2, hpl, fl_app, fl_one]
          have s1 := sbin_add (s := f.2) (u := a) (by omega)
          have hfp := fl_len p
          have z1 : (0 : Int) < ((p.length + 1 : Nat) : Int) := by omega
          have z2 : IntKind.i64.wrap (((p.length + 1 : Nat) : Int) - 1) = (p.length : Int) := by rw [wr (by omega) (by omega)]; omega
          have z3 : (p.length : Int) < ((p.length + 1 : Nat) : Int) := by omega
          have z4 : ((fl p ++ [PV.str f.1, .str f.2]).drop (p.length * 2 + 1)).take 1 = [.str f.2] := by
            rw [List.drop_append, List.drop_of_length_le (by omega), hfp, show p.length * 2 + 1 - p.length * 2 = 1 by omega]; rfl
          have z5 : (fl p ++ [PV.str f.1, .str f.2]).take (p.length * 2 + 1) = fl p ++ [PV.str f.1] := by
            rw [List.take_append, List.take_of_length_le (by omega), hfp, show p.length * 2 + 1 - p.length * 2 = 1 by omega]; rfl
          have z6 : (fl p ++ [PV.str f.1, .str f.2]).drop (p.length * 2 + 1 + 1) = [] := List.drop_of_length_le (by simp; omega)
          have z7 : p.length * 2 + 1 + 1 ≤ (fl p ++ [PV.str f.1, .str f.2]).length := by simp; omega
          simp only [q22_1, q22_0, evL_op, evL_sel, evL_nx, evL_exit, evL_ret, evL_join, evL_block, evL_cond, evK_some, evJ_nx, evJ_rt, evJ_ex, evB_nx, evB_rt, evB_ex, evC2_bool, evS_and, evS_or, evS_tf, evS_ft, ev_t, ev_s, ev_c, evalOp, bin_add, bin_sub, bin_mul, bin_eql, bin_neq, bin_lss, bin_leq, bin_gtr, bin_geq, sbin_eql, sbin_neq, b8, List.map_cons, List.map_nil, PV.rens, PV.ren, if_true, if_false, Bool.false_eq_true, reduceIte, Nat.reduceAdd, Nat.reduceSub, Nat.reduceMul, Nat.reduceEqDiff, Nat.reduceLeDiff, Int.reduceLE, Int.reduceLT, Int.reduceEq, Int.reduceToNat, Int.reduceAdd, Int.reduceSub, Int.reduceNeg, decide_true, decide_false, Bool.not_true, Bool.not_false, Bool.true_and, Bool.false_and, Bool.and_true, Bool.and_false, Bool.or_true, Bool.true_or, Bool.or_false, Bool.false_or, and_self, and_true, true_and, Nat.le_refl, Nat.zero_add, Nat.mul_one, Nat.one_ne_zero, Nat.zero_le, highP, lowP, Option.map_some, Option.map_none, List.drop_zero, List.take_zero, List.length_cons, List.length_nil, List.nil_append, List.append_nil, List.cons_append, fillP, PV.cells?, PV.one, PV.cleans, PV.clean, PV.of?, List.all_cons, List.all_nil, List.take_succ_cons, List.drop_succ_cons, Bool.and_self, Int.natCast_nonneg, Int.toNat_natCast, Int.toNat_zero, PV.of?, Tk.ren, tailP, evL_loop, or_true, true_or, Nat.zero_lt_one, Nat.sub_zero, List.getElem?_cons_zero, List.getElem?_cons_succ, List.set_cons_zero, List.set_cons_succ, List.take_length, PV.rens, PV.ren, c0, g0, g1, g1', g2, g2', e2, e3, d0, d0', d1, e32, e9, hmm, bytes8_map, b2s_if, s1, z1, z2, z3, z4, z5, z6, z7, w1]
          rfl
        · have hne3 : p ++ [(f.1, f.2 ++ a)] ≠ [] := by simp
          rw [outP_ne hne3, outH_ne hne3, show (p ++ [(f.1, f.2 ++ a)]).length = p.length + 1 by simp]
          have : fl p ++ [PV.str f.1] ++ [.str (f.2 ++ a)] = fl (p ++ [(f.1, f.2 ++ a)]) := by rw [fl_app, fl_one]; simp
          rw [← this]
          exact head_rowR _ (by rw [this]; exact fl_flat _) _ _ _
      | false =>
        cases hn : (nameF a).2.2 with
        | false =>
          rw [scan_end hn hm, if_neg hne] at h5
          cases h5
          rw [hn] at c1
          refine .inl ⟨_, ?_, by simp, rfl⟩
          by_cases ho : o = []
          · subst ho
            have o0 : decide ((0 : Int) < ((0 : Nat) : Int)) = false := rfl
            simp only [q22_1, evL_op, evL_sel, evL_nx, evL_exit, evL_ret, evL_join, evL_block, evL_cond, evK_some, evJ_nx, evJ_rt, evJ_ex, evB_nx, evB_rt, evB_ex, evC2_bool, evS_and, evS_or, evS_tf, evS_ft, ev_t, ev_s, ev_c, evalOp, bin_add, bin_sub, bin_mul, bin_eql, bin_neq, bin_lss, bin_leq, bin_gtr, bin_geq, sbin_eql, sbin_neq, b8, List.map_cons, List.map_nil, PV.rens, PV.ren, if_true, if_false, Bool.false_eq_true, reduceIte, Nat.reduceAdd, Nat.reduceSub, Nat.reduceMul, Nat.reduceEqDiff, Nat.reduceLeDiff, Int.reduceLE, Int.reduceLT, Int.reduceEq, Int.reduceToNat, Int.reduceAdd, Int.reduceSub, Int.reduceNeg, decide_true, decide_false, Bool.not_true, Bool.not_false, Bool.true_and, Bool.false_and, Bool.and_true, Bool.and_false, Bool.or_true, Bool.true_or, Bool.or_false, Bool.false_or, and_self, and_true, true_and, Nat.le_refl, Nat.zero_add, Nat.mul_one, Nat.one_ne_zero, Nat.zero_le, highP, lowP, Option.map_some, Option.map_none, List.drop_zero, List.take_zero, List.length_cons, List.length_nil, List.nil_append, List.append_nil, List.cons_append, fillP, PV.cells?, PV.one, PV.cleans, PV.clean, PV.of?, List.all_cons, List.all_nil, List.take_succ_cons, List.drop_succ_cons, Bool.and_self, Int.natCast_nonneg, Int.toNat_natCast, Int.toNat_zero, PV.of?, Tk.ren, tailP, evL_loop, or_true, true_or, Nat.zero_lt_one, Nat.sub_zero, List.getElem?_cons_zero, List.getElem?_cons_succ, List.set_cons_zero, List.set_cons_succ, List.take_length, PV.rens, PV.ren, outP_nil, outH, c0, g0, g1, g1', g2, g2', e2, e3, d0, d0', d1, e32, e9, c1, o0]
          · rw [outP_ne ho, outH_ne ho]
            have hol : (0 : Int) < o.length := by have : 0 < o.length := List.length_pos_iff.2 ho; omega
            simp only [ho, ne_eq, not_false_eq_true, decide_true, Bool.and_true] at hm
            rw [hm] at hmm
            simp only [q22_1, evL_op, evL_sel, evL_nx, evL_exit, evL_ret, evL_join, evL_block, evL_cond, evK_some, evJ_nx, evJ_rt, evJ_ex, evB_nx, evB_rt, evB_ex, evC2_bool, evS_and, evS_or, evS_tf, evS_ft, ev_t, ev_s, ev_c, evalOp, bin_add, bin_sub, bin_mul, bin_eql, bin_neq, bin_lss, bin_leq, bin_gtr, bin_geq, sbin_eql, sbin_neq, b8, List.map_cons, List.map_nil, PV.rens, PV.ren, if_true, if_false, Bool.false_eq_true, reduceIte, Nat.reduceAdd, Nat.reduceSub, Nat.reduceMul, Nat.reduceEqDiff, Nat.reduceLeDiff, Int.reduceLE, Int.reduceLT, Int.reduceEq, Int.reduceToNat, Int.reduceAdd, Int.reduceSub, Int.reduceNeg, decide_true, decide_false, Bool.not_true, Bool.not_false, Bool.true_and, Bool.false_and, Bool.and_true, Bool.and_false, Bool.or_true, Bool.true_or, Bool.or_false, Bool.false_or, and_self, and_true, true_and, Nat.le_refl, Nat.zero_add, Nat.mul_one, Nat.one_ne_zero, Nat.zero_le, highP, lowP, Option.map_some, Option.map_none, List.drop_zero, List.take_zero, List.length_cons, List.length_nil, List.nil_append, List.append_nil, List.cons_append, fillP, PV.cells?, PV.one, PV.cleans, PV.clean, PV.of?, List.all_cons, List.all_nil, List.take_succ_cons, List.drop_succ_cons, Bool.and_self, Int.natCast_nonneg, Int.toNat_natCast, Int.toNat_zero, PV.of?, Tk.ren, tailP, evL_loop, or_true, true_or, Nat.zero_lt_one, Nat.sub_zero, List.getElem?_cons_zero, List.getElem?_cons_succ, List.set_cons_zero, List.set_cons_succ, List.take_length, PV.rens, PV.ren, c0, g0, g1, g1', g2, g2', e2, e3, d0, d0', d1, e32, e9, hmm, c1, hol]
        | true =>
          rw [scan_is hn] at h5
          rw [hn, if_pos rfl] at c1
          obtain ⟨n1, n2⟩ := nameF_split hn
          generalize (nameF a).1 = k at *
          generalize (nameF a).2.1 = rr at *
          have hla : a.length = k.length + (rr.length + 1) := by rw [n2]; simp
          have e4 : (a.map b8).take k.length = k.map b8 := by rw [← List.map_take]; congr 1; rw [n2]; simp
          have e5 : (a.map b8).drop (k.length + 1) = rr.map b8 := by rw [← List.map_drop]; congr 1; rw [n2]; simp
          have e6 : a.length - (k.length + 1) = rr.length := by omega
          have e7 : k.length - 0 = k.length := Nat.sub_zero _
          have g3 : ¬ (k.length : Int) < 0 := by omega
          have g4 : (k.length : Int) ≤ a.length := by omega
          have g4' : k.length ≤ a.length := by omega
          have g5 : ((k.length + 1 : Nat) : Int) ≤ a.length := by omega
          have g5' : k.length + 1 ≤ a.length := by omega
          have w3 := wr1 (show k.length < 9223372036854775807 by omega)
          have e8 : (a.map b8).take a.length = a.map b8 := List.take_of_length_le (by simp)
          have h4' : ∀ f ∈ out ++ [(k, rr)], f.2.length ≤ at_ + a.length + 2 := fun f hf => by
            rcases List.mem_append.1 hf with hf | hf
            · have := h4 f hf; omega
            · rw [List.mem_singleton.1 hf]; dsimp only; omega
          refine .inr ⟨(out ++ [(k, rr)], at_ + a.length + 2), [sl8 b, .row 1 0 2 (out.length + 1), .int .i64 ((at_ + a.length + 2 : Nat) : Int)], [.dead, .cells (fl out ++ [.str k, .str rr])], ?_, ?_, ⟨by dsimp only; omega, by simp; omega, h4', by dsimp only; rw [k3, ← hat]; exact h5⟩, by dsimp only; omega⟩
          · by_cases ho : out = []
            · subst ho
              have o0 : decide ((0 : Int) < ((0 : Nat) : Int)) = false := rfl
              simp only [q22_1, q22_0, evL_op, evL_sel, evL_nx, evL_exit, evL_ret, evL_join, evL_block, evL_cond, evK_some, evJ_nx, evJ_rt, evJ_ex, evB_nx, evB_rt, evB_ex, evC2_bool, evS_and, evS_or, evS_tf, evS_ft, ev_t, ev_s, ev_c, evalOp, bin_add, bin_sub, bin_mul, bin_eql, bin_neq, bin_lss, bin_leq, bin_gtr, bin_geq, sbin_eql, sbin_neq, b8, List.map_cons, List.map_nil, PV.rens, PV.ren, if_true, if_false, Bool.false_eq_true, reduceIte, Nat.reduceAdd, Nat.reduceSub, Nat.reduceMul, Nat.reduceEqDiff, Nat.reduceLeDiff, Int.reduceLE, Int.reduceLT, Int.reduceEq, Int.reduceToNat, Int.reduceAdd, Int.reduceSub, Int.reduceNeg, decide_true, decide_false, Bool.not_true, Bool.not_false, Bool.true_and, Bool.false_and, Bool.and_true, Bool.and_false, Bool.or_true, Bool.true_or, Bool.or_false, Bool.false_or, and_self, and_true, true_and, Nat.le_refl, Nat.zero_add, Nat.mul_one, Nat.one_ne_zero, Nat.zero_le, highP, lowP, Option.map_some, Option.map_none, List.drop_zero, List.take_zero, List.length_cons, List.length_nil, List.nil_append, List.append_nil, List.cons_append, fillP, PV.cells?, PV.one, PV.cleans, PV.clean, PV.of?, List.all_cons, List.all_nil, List.take_succ_cons, List.drop_succ_cons, Bool.and_self, Int.natCast_nonneg, Int.toNat_natCast, Int.toNat_zero, PV.of?, Tk.ren, tailP, evL_loop, or_true, true_or, Nat.zero_lt_one, Nat.sub_zero, List.getElem?_cons_zero, List.getElem?_cons_succ, List.set_cons_zero, List.set_cons_succ, List.take_length, PV.rens, PV.ren, outP_nil, outH, c0, g0, g1, g1', g2, g2', e2, e3, d0, d0', d1, e32, e9, c1, o0, e4, e5, e6, e7, e8, g3, g4, g4', g5, g5', w3, w1, bytes8_map, b2s_if, tailR, Nat.one_mul, show (1 : Nat) * 32 ≤ roomMax by decide]
              rfl
            · rw [outP_ne ho, outH_ne ho]
              have hol : (0 : Int) < out.length := by have : 0 < out.length := List.length_pos_iff.2 ho; omega
              have hrm : (out.length + 1) * 32 ≤ roomMax := by unfold roomMax; omega
              have hfl := fl_len out
              have hfo := fl_one' out
              simp only [ho, ne_eq, not_false_eq_true, decide_true, Bool.and_true] at hm
              rw [hm] at hmm
              simp only [q22_1, q22_0, evL_op, evL_sel, evL_nx, evL_exit, evL_ret, evL_join, evL_block, evL_cond, evK_some, evJ_nx, evJ_rt, evJ_ex, evB_nx, evB_rt, evB_ex, evC2_bool, evS_and, evS_or, evS_tf, evS_ft, ev_t, ev_s, ev_c, evalOp, bin_add, bin_sub, bin_mul, bin_eql, bin_neq, bin_lss, bin_leq, bin_gtr, bin_geq, sbin_eql, sbin_neq, b8, List.map_cons, List.map_nil, PV.rens, PV.ren, if_true, if_false, Bool.false_eq_true, reduceIte, Nat.reduceAdd, Nat.reduceSub, Nat.reduceMul, Nat.reduceEqDiff, Nat.reduceLeDiff, Int.reduceLE, Int.reduceLT, Int.reduceEq, Int.reduceToNat, Int.reduceAdd, Int.reduceSub, Int.reduceNeg, decide_true, decide_false, Bool.not_true, Bool.not_false, Bool.true_and, Bool.false_and, Bool.and_true, Bool.and_false, Bool.or_true, Bool.true_or, Bool.or_false, Bool.false_or, and_self, and_true, true_and, Nat.le_refl, Nat.zero_add, Nat.mul_one, Nat.one_ne_zero, Nat.zero_le, highP, lowP, Option.map_some, Option.map_none, List.drop_zero, List.take_zero, List.length_cons, List.length_nil, List.nil_append, List.append_nil, List.cons_append, fillP, PV.cells?, PV.one, PV.cleans, PV.clean, PV.of?, List.all_cons, List.all_nil, List.take_succ_cons, List.drop_succ_cons, Bool.and_self, Int.natCast_nonneg, Int.toNat_natCast, Int.toNat_zero, PV.of?, Tk.ren, tailP, evL_loop, or_true, true_or, Nat.zero_lt_one, Nat.sub_zero, List.getElem?_cons_zero, List.getElem?_cons_succ, List.set_cons_zero, List.set_cons_succ, List.take_length, PV.rens, PV.ren, c0, g0, g1, g1', g2, g2', e2, e3, d0, d0', d1, e32, e9, hmm, c1, hol, e4, e5, e6, e7, e8, g3, g4, g4', g5, g5', w3, w1, bytes8_map, b2s_if, tailR, hrm, hfl, hfo]
          · have hne2 : out ++ [(k, rr)] ≠ [] := by simp
            rw [outP_ne hne2, outH_ne hne2, show (out ++ [(k, rr)]).length = out.length + 1 by simp, fl_app, fl_one]
            exact head_rowR1 _ (by rw [List.all_append, fl_flat]; rfl) _ _ _
end
theorem T22 (b : List UInt8) (hb : b.length ≤ 1000000000) : T 22 [sl8 b] [] = some (.tup [outR (scanGo [] 0 (lines b)).1, .int .i64 (scanGo [] 0 (lines b)).2], if (scanGo [] 0 (lines b)).1 = [] then [.tok] else []) := by
  have lp := loop_ref b hb (b.length + 1) (scanGo [] 0 (lines b)).1 (scanGo [] 0 (lines b)).2 (b.length + 1) (Nat.lt_succ_self _) rfl
  generalize (scanGo [] 0 (lines b)).1 = o at *
  generalize (scanGo [] 0 (lines b)).2 = e at *
  refine evT_of (k := b.length + 1) (F := l22) (H' := outH o) (e := [outP o, .int .i64 e]) (l := [outP o, .int .i64 e]) rfl rfl rfl ?_ rfl (outP_endR o e)
  show evL T _ q22 _ _ = _
  simp only [q22, evL_op, evL_sel, evL_nx, evL_exit, evL_ret, evL_join, evL_block, evL_cond, evK_some, evJ_nx, evJ_rt, evJ_ex, evB_nx, evB_rt, evB_ex, evC2_bool, evS_and, evS_or, evS_tf, evS_ft, ev_t, ev_s, ev_c, evalOp, bin_add, bin_sub, bin_mul, bin_eql, bin_neq, bin_lss, bin_leq, bin_gtr, bin_geq, sbin_eql, sbin_neq, b8, List.map_cons, List.map_nil, PV.rens, PV.ren, if_true, if_false, Bool.false_eq_true, reduceIte, Nat.reduceAdd, Nat.reduceSub, Nat.reduceMul, Nat.reduceEqDiff, Nat.reduceLeDiff, Int.reduceLE, Int.reduceLT, Int.reduceEq, Int.reduceToNat, Int.reduceAdd, Int.reduceSub, Int.reduceNeg, decide_true, decide_false, Bool.not_true, Bool.not_false, Bool.true_and, Bool.false_and, Bool.and_true, Bool.and_false, Bool.or_true, Bool.true_or, Bool.or_false, Bool.false_or, and_self, and_true, true_and, Nat.le_refl, Nat.zero_add, Nat.mul_one, Nat.one_ne_zero, Nat.zero_le, highP, lowP, Option.map_some, Option.map_none, List.drop_zero, List.take_zero, List.length_cons, List.length_nil, List.nil_append, List.append_nil, List.cons_append, fillP, PV.cells?, PV.one, PV.cleans, PV.clean, PV.of?, List.all_cons, List.all_nil, List.take_succ_cons, List.drop_succ_cons, Bool.and_self, Int.natCast_nonneg, Int.toNat_natCast, Int.toNat_zero, PV.of?, Tk.ren, tailP, evL_loop, or_true, true_or, Nat.zero_lt_one, Nat.sub_zero, List.getElem?_cons_zero, List.getElem?_cons_succ, List.set_cons_zero, List.set_cons_succ, List.take_length, PV.rens, PV.ren]
  rw [lp]
  simp only [evL_op, evL_sel, evL_nx, evL_exit, evL_ret, evL_join, evL_block, evL_cond, evK_some, evJ_nx, evJ_rt, evJ_ex, evB_nx, evB_rt, evB_ex, evC2_bool, evS_and, evS_or, evS_tf, evS_ft, ev_t, ev_s, ev_c, evalOp, bin_add, bin_sub, bin_mul, bin_eql, bin_neq, bin_lss, bin_leq, bin_gtr, bin_geq, sbin_eql, sbin_neq, b8, List.map_cons, List.map_nil, PV.rens, PV.ren, if_true, if_false, Bool.false_eq_true, reduceIte, Nat.reduceAdd, Nat.reduceSub, Nat.reduceMul, Nat.reduceEqDiff, Nat.reduceLeDiff, Int.reduceLE, Int.reduceLT, Int.reduceEq, Int.reduceToNat, Int.reduceAdd, Int.reduceSub, Int.reduceNeg, decide_true, decide_false, Bool.not_true, Bool.not_false, Bool.true_and, Bool.false_and, Bool.and_true, Bool.and_false, Bool.or_true, Bool.true_or, Bool.or_false, Bool.false_or, and_self, and_true, true_and, Nat.le_refl, Nat.zero_add, Nat.mul_one, Nat.one_ne_zero, Nat.zero_le, highP, lowP, Option.map_some, Option.map_none, List.drop_zero, List.take_zero, List.length_cons, List.length_nil, List.nil_append, List.append_nil, List.cons_append, fillP, PV.cells?, PV.one, PV.cleans, PV.clean, PV.of?, List.all_cons, List.all_nil, List.take_succ_cons, List.drop_succ_cons, Bool.and_self, Int.natCast_nonneg, Int.toNat_natCast, Int.toNat_zero, PV.of?, Tk.ren, tailP, evL_loop, or_true, true_or, Nat.zero_lt_one, Nat.sub_zero, List.getElem?_cons_zero, List.getElem?_cons_succ, List.set_cons_zero, List.set_cons_succ, List.take_length]
end Go.Proofs.YtmdnloajpjfbmaaDoor.Tab

namespace Go.Proofs.YtmdnloajpjfbmaaDoor.Tab
set_option linter.all false
open Go Go.RowKit Go.Proofs.YtmdnloajpjfbmaaDoor.Ev
/-- A row of fields: its own, or none. -/
def FS (p : PV) (l : List Fld) : Prop := ∃ t z, p = .sl t z l.length (fl l) ∧ (t = .no ∨ t = .nil ∧ l = []) ∧ (l = [] ∨ z = 2)
abbrev slF (l : List Fld) : PV := .sl .no 2 l.length (fl l)
theorem FS.sl (l : List Fld) : FS (slF l) l := ⟨.no, 2, rfl, .inl rfl, .inr rfl⟩
theorem FS.nil : FS (.sl .nil 0 0 []) [] := ⟨.nil, 0, rfl, .inr ⟨rfl, rfl⟩, .inl rfl⟩
theorem FS.none (z : Nat) : FS (.sl .no z 0 []) [] := ⟨.no, z, rfl, .inl rfl, .inl rfl⟩
theorem FS.cases {p : PV} {l : List Fld} (h : FS p l) : p = slF l ∨ l = [] ∧ ∃ t z, p = .sl t z 0 [] ∧ (t = .no ∨ t = .nil) := by
  obtain ⟨t, z, rfl, h1, h2⟩ := h
  rcases h2 with rfl | rfl
  · exact .inr ⟨rfl, t, z, rfl, h1.imp id And.left⟩
  · rcases h1 with rfl | ⟨rfl, rfl⟩
    · exact .inl rfl
    · exact .inr ⟨rfl, _, _, rfl, .inr rfl⟩
theorem fl_get {l : List Fld} {i : Nat} (h : i < l.length) : ((fl l).drop (i * 2)).take 2 = [.str l[i].1, .str l[i].2] := by
  have e : fl l = fl (l.take i) ++ ([.str l[i].1, .str l[i].2] ++ fl (l.drop (i + 1))) := by
    conv => lhs; rw [← List.take_append_drop i l, List.drop_eq_getElem_cons h, fl_app]
    rw [show l[i] :: l.drop (i + 1) = [l[i]] ++ l.drop (i + 1) from rfl, fl_app, fl_one]
  have hl : (fl (l.take i)).length = i * 2 := by rw [fl_len, List.length_take]; congr 1; omega
  rw [e, ← hl, List.drop_left]
  rfl
theorem T_fields (l m : List Fld) (hs : l.length ≤ 9000000000000000000) : T 13 [slF l, slF m] [] = some (.bool (decide (l = m)), []) := by
  refine evT_of (k := l.length + 1) (F := l13) (H' := []) (e := [.bool (decide (l = m))]) (l := [.bool (decide (l = m))]) rfl rfl rfl ?_ rfl rfl
  show evL T (l.length + 1) q13 _ _ = _
  by_cases h : l.length = m.length
  · have lp := loop_law (n := 0) (body := evL T (l.length + 1) q13_1) (σ := Nat) (fun i => [slF l, slF m, .int .i64 i]) (fun _ => []) (fun i => l.length - i) (fun i => i ≤ l.length) (fun i => if l.drop i = m.drop i then (.ex 0, [], []) else (.rt, [.bool false], [])) (by
      intro i hi
      rcases Nat.lt_or_ge i l.length with h1 | h1
      · have h2 : i < m.length := by omega
        have h3 : (i : Int) < l.length := by omega
        have h4 : (i : Int) < m.length := by omega
        have c1 := fl_get h1
        have c2 := fl_get h2
        rw [List.drop_eq_getElem_cons h1, List.drop_eq_getElem_cons h2]
        by_cases hc : l[i] = m[i]
        · refine .inr ⟨i + 1, ?_⟩
          apply Exists.intro
          apply Exists.intro
          refine ⟨?_, ?_, h1, by omega, ?_⟩
          · simp only [q13_1, q13_0, evL_op, evL_sel, evL_nx, evL_exit, evL_ret, evL_join, evL_block, evL_cond, evK_some, evJ_nx, evJ_rt, evJ_ex, evB_nx, evB_rt, evB_ex, evC2_bool, evS_and, evS_or, evS_tf, evS_ft, ev_t, ev_s, ev_c, evalOp, bin_add, bin_sub, bin_mul, bin_eql, bin_neq, bin_lss, bin_leq, bin_gtr, bin_geq, sbin_eql, sbin_neq, b8, List.map_cons, List.map_nil, PV.rens, PV.ren, if_true, if_false, Bool.false_eq_true, reduceIte, Nat.reduceAdd, Nat.reduceSub, Nat.reduceMul, Nat.reduceEqDiff, Nat.reduceLeDiff, Int.reduceLE, Int.reduceLT, Int.reduceEq, Int.reduceToNat, Int.reduceAdd, Int.reduceSub, Int.reduceNeg, decide_true, decide_false, Bool.not_true, Bool.not_false, Bool.true_and, Bool.false_and, Bool.and_true, Bool.and_false, Bool.or_true, Bool.true_or, Bool.or_false, Bool.false_or, and_self, and_true, true_and, Nat.le_refl, Nat.zero_add, Nat.mul_one, Nat.one_ne_zero, Nat.zero_le, highP, lowP, Option.map_some, Option.map_none, List.drop_zero, List.take_zero, List.length_cons, List.length_nil, List.nil_append, List.append_nil, List.cons_append, fillP, PV.cells?, PV.one, PV.cleans, PV.clean, PV.of?, List.all_cons, List.all_nil, List.take_succ_cons, List.drop_succ_cons, Bool.and_self, Int.natCast_nonneg, Int.toNat_natCast, Int.toNat_zero, PV.of?, Tk.ren, tailP, evL_loop, or_true, true_or, Nat.zero_lt_one, Nat.sub_zero, List.getElem?_cons_zero, List.getElem?_cons_succ, List.set_cons_zero, List.set_cons_succ, List.take_length, h3, h4, c1, c2, wr1 (show i < 9223372036854775807 by omega), hc]
            rfl
          · rfl
          · simp only [hc, List.cons.injEq, true_and]
        · refine .inl ?_
          rw [if_neg (fun e => hc (List.cons.inj e).1)]
          refine ⟨?_, by simp⟩
          by_cases hn : l[i].1 = m[i].1
          · have hb : ¬ l[i].2 = m[i].2 := fun e => hc (Prod.ext hn e)
            simp only [q13_1, q13_0, evL_op, evL_sel, evL_nx, evL_exit, evL_ret, evL_join, evL_block, evL_cond, evK_some, evJ_nx, evJ_rt, evJ_ex, evB_nx, evB_rt, evB_ex, evC2_bool, evS_and, evS_or, evS_tf, evS_ft, ev_t, ev_s, ev_c, evalOp, bin_add, bin_sub, bin_mul, bin_eql, bin_neq, bin_lss, bin_leq, bin_gtr, bin_geq, sbin_eql, sbin_neq, b8, List.map_cons, List.map_nil, PV.rens, PV.ren, if_true, if_false, Bool.false_eq_true, reduceIte, Nat.reduceAdd, Nat.reduceSub, Nat.reduceMul, Nat.reduceEqDiff, Nat.reduceLeDiff, Int.reduceLE, Int.reduceLT, Int.reduceEq, Int.reduceToNat, Int.reduceAdd, Int.reduceSub, Int.reduceNeg, decide_true, decide_false, Bool.not_true, Bool.not_false, Bool.true_and, Bool.false_and, Bool.and_true, Bool.and_false, Bool.or_true, Bool.true_or, Bool.or_false, Bool.false_or, and_self, and_true, true_and, Nat.le_refl, Nat.zero_add, Nat.mul_one, Nat.one_ne_zero, Nat.zero_le, highP, lowP, Option.map_some, Option.map_none, List.drop_zero, List.take_zero, List.length_cons, List.length_nil, List.nil_append, List.append_nil, List.cons_append, fillP, PV.cells?, PV.one, PV.cleans, PV.clean, PV.of?, List.all_cons, List.all_nil, List.take_succ_cons, List.drop_succ_cons, Bool.and_self, Int.natCast_nonneg, Int.toNat_natCast, Int.toNat_zero, PV.of?, Tk.ren, tailP, evL_loop, or_true, true_or, Nat.zero_lt_one, Nat.sub_zero, List.getElem?_cons_zero, List.getElem?_cons_succ, List.set_cons_zero, List.set_cons_succ, List.take_length, h3, h4, c1, c2, hn, hb]
          · simp only [q13_1, q13_0, evL_op, evL_sel, evL_nx, evL_exit, evL_ret, evL_join, evL_block, evL_cond, evK_some, evJ_nx, evJ_rt, evJ_ex, evB_nx, evB_rt, evB_ex, evC2_bool, evS_and, evS_or, evS_tf, evS_ft, ev_t, ev_s, ev_c, evalOp, bin_add, bin_sub, bin_mul, bin_eql, bin_neq, bin_lss, bin_leq, bin_gtr, bin_geq, sbin_eql, sbin_neq, b8, List.map_cons, List.map_nil, PV.rens, PV.ren, if_true, if_false, Bool.false_eq_true, reduceIte, Nat.reduceAdd, Nat.reduceSub, Nat.reduceMul, Nat.reduceEqDiff, Nat.reduceLeDiff, Int.reduceLE, Int.reduceLT, Int.reduceEq, Int.reduceToNat, Int.reduceAdd, Int.reduceSub, Int.reduceNeg, decide_true, decide_false, Bool.not_true, Bool.not_false, Bool.true_and, Bool.false_and, Bool.and_true, Bool.and_false, Bool.or_true, Bool.true_or, Bool.or_false, Bool.false_or, and_self, and_true, true_and, Nat.le_refl, Nat.zero_add, Nat.mul_one, Nat.one_ne_zero, Nat.zero_le, highP, lowP, Option.map_some, Option.map_none, List.drop_zero, List.take_zero, List.length_cons, List.length_nil, List.nil_append, List.append_nil, List.cons_append, fillP, PV.cells?, PV.one, PV.cleans, PV.clean, PV.of?, List.all_cons, List.all_nil, List.take_succ_cons, List.drop_succ_cons, Bool.and_self, Int.natCast_nonneg, Int.toNat_natCast, Int.toNat_zero, PV.of?, Tk.ren, tailP, evL_loop, or_true, true_or, Nat.zero_lt_one, Nat.sub_zero, List.getElem?_cons_zero, List.getElem?_cons_succ, List.set_cons_zero, List.set_cons_succ, List.take_length, h3, h4, c1, c2, hn]
      · refine .inl ?_
        have h3 : ¬ (i : Int) < l.length := by omega
        rw [List.drop_of_length_le h1, List.drop_of_length_le (by omega), if_pos rfl]
        refine ⟨?_, by simp⟩
        simp only [q13_1, evL_op, evL_sel, evL_nx, evL_exit, evL_ret, evL_join, evL_block, evL_cond, evK_some, evJ_nx, evJ_rt, evJ_ex, evB_nx, evB_rt, evB_ex, evC2_bool, evS_and, evS_or, evS_tf, evS_ft, ev_t, ev_s, ev_c, evalOp, bin_add, bin_sub, bin_mul, bin_eql, bin_neq, bin_lss, bin_leq, bin_gtr, bin_geq, sbin_eql, sbin_neq, b8, List.map_cons, List.map_nil, PV.rens, PV.ren, if_true, if_false, Bool.false_eq_true, reduceIte, Nat.reduceAdd, Nat.reduceSub, Nat.reduceMul, Nat.reduceEqDiff, Nat.reduceLeDiff, Int.reduceLE, Int.reduceLT, Int.reduceEq, Int.reduceToNat, Int.reduceAdd, Int.reduceSub, Int.reduceNeg, decide_true, decide_false, Bool.not_true, Bool.not_false, Bool.true_and, Bool.false_and, Bool.and_true, Bool.and_false, Bool.or_true, Bool.true_or, Bool.or_false, Bool.false_or, and_self, and_true, true_and, Nat.le_refl, Nat.zero_add, Nat.mul_one, Nat.one_ne_zero, Nat.zero_le, highP, lowP, Option.map_some, Option.map_none, List.drop_zero, List.take_zero, List.length_cons, List.length_nil, List.nil_append, List.append_nil, List.cons_append, fillP, PV.cells?, PV.one, PV.cleans, PV.clean, PV.of?, List.all_cons, List.all_nil, List.take_succ_cons, List.drop_succ_cons, Bool.and_self, Int.natCast_nonneg, Int.toNat_natCast, Int.toNat_zero, PV.of?, Tk.ren, tailP, evL_loop, or_true, true_or, Nat.zero_lt_one, Nat.sub_zero, List.getElem?_cons_zero, List.getElem?_cons_succ, List.set_cons_zero, List.set_cons_succ, List.take_length, h3]) (l.length + 1) 0 [slF l, slF m, .int .i64 (0 : Nat)] [] rfl (Nat.zero_le _) (by omega)
    have h3 : PV.sl .no 2 m.length (fl l) = slF l := by rw [← h]
    have o0 : ((0 : Nat) : Int) = 0 := rfl
    simp only [q13, evL_op, evL_sel, evL_nx, evL_exit, evL_ret, evL_join, evL_block, evL_cond, evK_some, evJ_nx, evJ_rt, evJ_ex, evB_nx, evB_rt, evB_ex, evC2_bool, evS_and, evS_or, evS_tf, evS_ft, ev_t, ev_s, ev_c, evalOp, bin_add, bin_sub, bin_mul, bin_eql, bin_neq, bin_lss, bin_leq, bin_gtr, bin_geq, sbin_eql, sbin_neq, b8, List.map_cons, List.map_nil, PV.rens, PV.ren, if_true, if_false, Bool.false_eq_true, reduceIte, Nat.reduceAdd, Nat.reduceSub, Nat.reduceMul, Nat.reduceEqDiff, Nat.reduceLeDiff, Int.reduceLE, Int.reduceLT, Int.reduceEq, Int.reduceToNat, Int.reduceAdd, Int.reduceSub, Int.reduceNeg, decide_true, decide_false, Bool.not_true, Bool.not_false, Bool.true_and, Bool.false_and, Bool.and_true, Bool.and_false, Bool.or_true, Bool.true_or, Bool.or_false, Bool.false_or, and_self, and_true, true_and, Nat.le_refl, Nat.zero_add, Nat.mul_one, Nat.one_ne_zero, Nat.zero_le, highP, lowP, Option.map_some, Option.map_none, List.drop_zero, List.take_zero, List.length_cons, List.length_nil, List.nil_append, List.append_nil, List.cons_append, fillP, PV.cells?, PV.one, PV.cleans, PV.clean, PV.of?, List.all_cons, List.all_nil, List.take_succ_cons, List.drop_succ_cons, Bool.and_self, Int.natCast_nonneg, Int.toNat_natCast, Int.toNat_zero, PV.of?, Tk.ren, tailP, evL_loop, or_true, true_or, Nat.zero_lt_one, Nat.sub_zero, List.getElem?_cons_zero, List.getElem?_cons_succ, List.set_cons_zero, List.set_cons_succ, List.take_length, h, List.drop_zero, o0] at lp ⊢
    rw [lp]
    by_cases hlm : l = m
    · simp only [hlm, q13_2, evL_op, evL_sel, evL_nx, evL_exit, evL_ret, evL_join, evL_block, evL_cond, evK_some, evJ_nx, evJ_rt, evJ_ex, evB_nx, evB_rt, evB_ex, evC2_bool, evS_and, evS_or, evS_tf, evS_ft, ev_t, ev_s, ev_c, evalOp, bin_add, bin_sub, bin_mul, bin_eql, bin_neq, bin_lss, bin_leq, bin_gtr, bin_geq, sbin_eql, sbin_neq, b8, List.map_cons, List.map_nil, PV.rens, PV.ren, if_true, if_false, Bool.false_eq_true, reduceIte, Nat.reduceAdd, Nat.reduceSub, Nat.reduceMul, Nat.reduceEqDiff, Nat.reduceLeDiff, Int.reduceLE, Int.reduceLT, Int.reduceEq, Int.reduceToNat, Int.reduceAdd, Int.reduceSub, Int.reduceNeg, decide_true, decide_false, Bool.not_true, Bool.not_false, Bool.true_and, Bool.false_and, Bool.and_true, Bool.and_false, Bool.or_true, Bool.true_or, Bool.or_false, Bool.false_or, and_self, and_true, true_and, Nat.le_refl, Nat.zero_add, Nat.mul_one, Nat.one_ne_zero, Nat.zero_le, highP, lowP, Option.map_some, Option.map_none, List.drop_zero, List.take_zero, List.length_cons, List.length_nil, List.nil_append, List.append_nil, List.cons_append, fillP, PV.cells?, PV.one, PV.cleans, PV.clean, PV.of?, List.all_cons, List.all_nil, List.take_succ_cons, List.drop_succ_cons, Bool.and_self, Int.natCast_nonneg, Int.toNat_natCast, Int.toNat_zero, PV.of?, Tk.ren, tailP, evL_loop, or_true, true_or, Nat.zero_lt_one, Nat.sub_zero, List.getElem?_cons_zero, List.getElem?_cons_succ, List.set_cons_zero, List.set_cons_succ, List.take_length]
    · simp only [hlm, q13_2, evL_op, evL_sel, evL_nx, evL_exit, evL_ret, evL_join, evL_block, evL_cond, evK_some, evJ_nx, evJ_rt, evJ_ex, evB_nx, evB_rt, evB_ex, evC2_bool, evS_and, evS_or, evS_tf, evS_ft, ev_t, ev_s, ev_c, evalOp, bin_add, bin_sub, bin_mul, bin_eql, bin_neq, bin_lss, bin_leq, bin_gtr, bin_geq, sbin_eql, sbin_neq, b8, List.map_cons, List.map_nil, PV.rens, PV.ren, if_true, if_false, Bool.false_eq_true, reduceIte, Nat.reduceAdd, Nat.reduceSub, Nat.reduceMul, Nat.reduceEqDiff, Nat.reduceLeDiff, Int.reduceLE, Int.reduceLT, Int.reduceEq, Int.reduceToNat, Int.reduceAdd, Int.reduceSub, Int.reduceNeg, decide_true, decide_false, Bool.not_true, Bool.not_false, Bool.true_and, Bool.false_and, Bool.and_true, Bool.and_false, Bool.or_true, Bool.true_or, Bool.or_false, Bool.false_or, and_self, and_true, true_and, Nat.le_refl, Nat.zero_add, Nat.mul_one, Nat.one_ne_zero, Nat.zero_le, highP, lowP, Option.map_some, Option.map_none, List.drop_zero, List.take_zero, List.length_cons, List.length_nil, List.nil_append, List.append_nil, List.cons_append, fillP, PV.cells?, PV.one, PV.cleans, PV.clean, PV.of?, List.all_cons, List.all_nil, List.take_succ_cons, List.drop_succ_cons, Bool.and_self, Int.natCast_nonneg, Int.toNat_natCast, Int.toNat_zero, PV.of?, Tk.ren, tailP, evL_loop, or_true, true_or, Nat.zero_lt_one, Nat.sub_zero, List.getElem?_cons_zero, List.getElem?_cons_succ, List.set_cons_zero, List.set_cons_succ, List.take_length]
  · have hn : ¬ l = m := fun e => h (by rw [e])
    have h' : ¬ (l.length : Int) = m.length := by omega
    simp only [q13, evL_op, evL_sel, evL_nx, evL_exit, evL_ret, evL_join, evL_block, evL_cond, evK_some, evJ_nx, evJ_rt, evJ_ex, evB_nx, evB_rt, evB_ex, evC2_bool, evS_and, evS_or, evS_tf, evS_ft, ev_t, ev_s, ev_c, evalOp, bin_add, bin_sub, bin_mul, bin_eql, bin_neq, bin_lss, bin_leq, bin_gtr, bin_geq, sbin_eql, sbin_neq, b8, List.map_cons, List.map_nil, PV.rens, PV.ren, if_true, if_false, Bool.false_eq_true, reduceIte, Nat.reduceAdd, Nat.reduceSub, Nat.reduceMul, Nat.reduceEqDiff, Nat.reduceLeDiff, Int.reduceLE, Int.reduceLT, Int.reduceEq, Int.reduceToNat, Int.reduceAdd, Int.reduceSub, Int.reduceNeg, decide_true, decide_false, Bool.not_true, Bool.not_false, Bool.true_and, Bool.false_and, Bool.and_true, Bool.and_false, Bool.or_true, Bool.true_or, Bool.or_false, Bool.false_or, and_self, and_true, true_and, Nat.le_refl, Nat.zero_add, Nat.mul_one, Nat.one_ne_zero, Nat.zero_le, highP, lowP, Option.map_some, Option.map_none, List.drop_zero, List.take_zero, List.length_cons, List.length_nil, List.nil_append, List.append_nil, List.cons_append, fillP, PV.cells?, PV.one, PV.cleans, PV.clean, PV.of?, List.all_cons, List.all_nil, List.take_succ_cons, List.drop_succ_cons, Bool.and_self, Int.natCast_nonneg, Int.toNat_natCast, Int.toNat_zero, PV.of?, Tk.ren, tailP, evL_loop, or_true, true_or, Nat.zero_lt_one, Nat.sub_zero, List.getElem?_cons_zero, List.getElem?_cons_succ, List.set_cons_zero, List.set_cons_succ, List.take_length, h', hn]
theorem T13 {p q : PV} {l m : List Fld} (hp : FS p l) (hq : FS q m) (hs : l.length ≤ 9000000000000000000) : T 13 [p, q] [] = some (.bool (decide (l = m)), []) := by
  by_cases h3 : l.length = m.length
  · rcases hp.cases with rfl | ⟨rfl, t, z, rfl, h1⟩
    · rcases hq.cases with rfl | ⟨rfl, t, z, rfl, h2⟩
      · exact T_fields l m hs
      · have : l = [] := List.length_eq_zero_iff.1 h3
        subst this
        rcases h2 with rfl | rfl
        · exact evT_of (k := 1) (F := l13) (H' := []) (e := [.bool true]) (l := [.bool true]) rfl rfl rfl rfl rfl rfl
        · exact evT_of (k := 1) (F := l13) (H' := [.tok]) (e := [.bool true]) (l := [.bool true]) rfl rfl rfl rfl rfl rfl
    · have : m = [] := List.length_eq_zero_iff.1 h3.symm
      subst this
      obtain ⟨t', z', rfl, h2, _⟩ := hq
      have h2 : t' = .no ∨ t' = .nil := h2.imp id And.left
      rcases h1 with rfl | rfl <;> rcases h2 with rfl | rfl
      · exact evT_of (k := 1) (F := l13) (H' := []) (e := [.bool true]) (l := [.bool true]) rfl rfl rfl rfl rfl rfl
      · exact evT_of (k := 1) (F := l13) (H' := [.tok]) (e := [.bool true]) (l := [.bool true]) rfl rfl rfl rfl rfl rfl
      · exact evT_of (k := 1) (F := l13) (H' := [.tok]) (e := [.bool true]) (l := [.bool true]) rfl rfl rfl rfl rfl rfl
      · exact evT_of (k := 1) (F := l13) (H' := [.tok, .tok]) (e := [.bool true]) (l := [.bool true]) rfl rfl rfl rfl rfl rfl
  · obtain ⟨t, z, rfl, h1, _⟩ := hp
    obtain ⟨t', z', rfl, h2, _⟩ := hq
    refine evT_of (k := 0) (F := l13) (H' := []) (e := [.bool (decide (l = m))]) (l := [.bool (decide (l = m))]) rfl rfl rfl ?_ rfl rfl
    show evL T 0 q13 _ _ = _
    have hn : ¬ l = m := fun e => h3 (by rw [e])
    have h4 : ¬ (l.length : Int) = m.length := by omega
    simp only [q13, evL_op, evL_sel, evL_nx, evL_exit, evL_ret, evL_join, evL_block, evL_cond, evK_some, evJ_nx, evJ_rt, evJ_ex, evB_nx, evB_rt, evB_ex, evC2_bool, evS_and, evS_or, evS_tf, evS_ft, ev_t, ev_s, ev_c, evalOp, bin_add, bin_sub, bin_mul, bin_eql, bin_neq, bin_lss, bin_leq, bin_gtr, bin_geq, sbin_eql, sbin_neq, b8, List.map_cons, List.map_nil, PV.rens, PV.ren, if_true, if_false, Bool.false_eq_true, reduceIte, Nat.reduceAdd, Nat.reduceSub, Nat.reduceMul, Nat.reduceEqDiff, Nat.reduceLeDiff, Int.reduceLE, Int.reduceLT, Int.reduceEq, Int.reduceToNat, Int.reduceAdd, Int.reduceSub, Int.reduceNeg, decide_true, decide_false, Bool.not_true, Bool.not_false, Bool.true_and, Bool.false_and, Bool.and_true, Bool.and_false, Bool.or_true, Bool.true_or, Bool.or_false, Bool.false_or, and_self, and_true, true_and, Nat.le_refl, Nat.zero_add, Nat.mul_one, Nat.one_ne_zero, Nat.zero_le, highP, lowP, Option.map_some, Option.map_none, List.drop_zero, List.take_zero, List.length_cons, List.length_nil, List.nil_append, List.append_nil, List.cons_append, fillP, PV.cells?, PV.one, PV.cleans, PV.clean, PV.of?, List.all_cons, List.all_nil, List.take_succ_cons, List.drop_succ_cons, Bool.and_self, Int.natCast_nonneg, Int.toNat_natCast, Int.toNat_zero, PV.of?, Tk.ren, tailP, evL_loop, or_true, true_or, Nat.zero_lt_one, Nat.sub_zero, List.getElem?_cons_zero, List.getElem?_cons_succ, List.set_cons_zero, List.set_cons_succ, List.take_length, h4, hn]
/-! ### hops -/
def rcv : List UInt8 := [114, 101, 99, 101, 105, 118, 101, 100]
def hopB (f : Fld) : Bool := decide (foldS f.1 = rcv)
def hops (o : List Fld) : Nat := (o.filter hopB).length
theorem hops_app (a b : List Fld) : hops (a ++ b) = hops a + hops b := by simp [hops]
theorem hops_le (o : List Fld) : hops o ≤ o.length := List.length_filter_le _ _
theorem hops_succ {o : List Fld} {i : Nat} (h : i < o.length) : hops (o.take (i + 1)) = hops (o.take i) + (if hopB o[i] = true then 1 else 0) := by
  rw [List.take_succ_eq_append_getElem h, hops_app]
  congr 1
  unfold hops
  cases hb : hopB o[i] <;> simp [List.filter, hb]
section
variable (o : List Fld) (ho : o.length ≤ 1000000000) (hf : ∀ f ∈ o, f.1.length ≤ 1000000000)
include ho hf
theorem loop_hops (k0 : Nat) : loopL 0 (evL T k0 q17_1) (o.length + 1) [.int .i64 0, slF o, .int .i64 o.length, .int .i64 0] [] = some (.ex 0, [.int .i64 (hops o)], []) := by
  have lp := loop_law (n := 0) (body := evL T k0 q17_1) (σ := Nat) (fun i => [.int .i64 (hops (o.take i)), slF o, .int .i64 o.length, .int .i64 i]) (fun _ => []) (fun i => o.length - i) (fun i => i ≤ o.length) (fun i => (.ex 0, [.int .i64 (hops o)], [])) (by
      intro i hi
      rcases Nat.lt_or_ge i o.length with h1 | h1
      · have h3 : (i : Int) < o.length := by omega
        have c1 := fl_get h1
        have c2 := T27 o[i].1 (by have := hf _ (List.getElem_mem h1); omega)
        have hs := hops_succ h1
        have hle := hops_le (o.take i)
        have htl : (o.take i).length ≤ i := List.length_take_le _ _
        have w0 := wr1 (show i < 9223372036854775807 by omega)
        have w1 := wr1 (show hops (o.take i) < 9223372036854775807 by omega)
        have hd : decide (foldS o[i].1 = rcv) = hopB o[i] := rfl
        have hr : ([114, 101, 99, 101, 105, 118, 101, 100] : List UInt8) = rcv := rfl
        generalize hops (o.take i) = N at *
        refine .inr ⟨i + 1, [.int .i64 ((N + (if hopB o[i] = true then 1 else 0) : Nat) : Int), slF o, .int .i64 o.length, .int .i64 ((i + 1 : Nat) : Int)], [.cells [.str o[i].1, .str o[i].2]], ?_, ?_, h1, by omega, rfl⟩
        · generalize hopB o[i] = bb at *
          cases bb <;> simp only [q17_1, q17_0, evL_op, evL_sel, evL_nx, evL_exit, evL_ret, evL_join, evL_block, evL_cond, evK_some, evJ_nx, evJ_rt, evJ_ex, evB_nx, evB_rt, evB_ex, evC2_bool, evS_and, evS_or, evS_tf, evS_ft, ev_t, ev_s, ev_c, evalOp, bin_add, bin_sub, bin_mul, bin_eql, bin_neq, bin_lss, bin_leq, bin_gtr, bin_geq, sbin_eql, sbin_neq, b8, List.map_cons, List.map_nil, PV.rens, PV.ren, if_true, if_false, Bool.false_eq_true, reduceIte, Nat.reduceAdd, Nat.reduceSub, Nat.reduceMul, Nat.reduceEqDiff, Nat.reduceLeDiff, Int.reduceLE, Int.reduceLT, Int.reduceEq, Int.reduceToNat, Int.reduceAdd, Int.reduceSub, Int.reduceNeg, decide_true, decide_false, Bool.not_true, Bool.not_false, Bool.true_and, Bool.false_and, Bool.and_true, Bool.and_false, Bool.or_true, Bool.true_or, Bool.or_false, Bool.false_or, and_self, and_true, true_and, Nat.le_refl, Nat.zero_add, Nat.mul_one, Nat.one_ne_zero, Nat.zero_le, highP, lowP, Option.map_some, Option.map_none, List.drop_zero, List.take_zero, List.length_cons, List.length_nil, List.nil_append, List.append_nil, List.cons_append, fillP, PV.cells?, PV.one, PV.cleans, PV.clean, PV.of?, List.all_cons, List.all_nil, List.take_succ_cons, List.drop_succ_cons, Bool.and_self, Int.natCast_nonneg, Int.toNat_natCast, Int.toNat_zero, PV.of?, Tk.ren, tailP, evL_loop, or_true, true_or, Nat.zero_lt_one, Nat.sub_zero, List.getElem?_cons_zero, List.getElem?_cons_succ, List.set_cons_zero, List.set_cons_succ, List.take_length, PV.rens, PV.ren, h3, c1, c2, hr, hd, w0, w1] <;> rfl
        · rw [hs]; rfl
      · refine .inl ⟨?_, by simp⟩
        have h3 : ¬ (i : Int) < o.length := by omega
        rw [List.take_of_length_le h1]
        simp only [q17_1, evL_op, evL_sel, evL_nx, evL_exit, evL_ret, evL_join, evL_block, evL_cond, evK_some, evJ_nx, evJ_rt, evJ_ex, evB_nx, evB_rt, evB_ex, evC2_bool, evS_and, evS_or, evS_tf, evS_ft, ev_t, ev_s, ev_c, evalOp, bin_add, bin_sub, bin_mul, bin_eql, bin_neq, bin_lss, bin_leq, bin_gtr, bin_geq, sbin_eql, sbin_neq, b8, List.map_cons, List.map_nil, PV.rens, PV.ren, if_true, if_false, Bool.false_eq_true, reduceIte, Nat.reduceAdd, Nat.reduceSub, Nat.reduceMul, Nat.reduceEqDiff, Nat.reduceLeDiff, Int.reduceLE, Int.reduceLT, Int.reduceEq, Int.reduceToNat, Int.reduceAdd, Int.reduceSub, Int.reduceNeg, decide_true, decide_false, Bool.not_true, Bool.not_false, Bool.true_and, Bool.false_and, Bool.and_true, Bool.and_false, Bool.or_true, Bool.true_or, Bool.or_false, Bool.false_or, and_self, and_true, true_and, Nat.le_refl, Nat.zero_add, Nat.mul_one, Nat.one_ne_zero, Nat.zero_le, highP, lowP, Option.map_some, Option.map_none, List.drop_zero, List.take_zero, List.length_cons, List.length_nil, List.nil_append, List.append_nil, List.cons_append, fillP, PV.cells?, PV.one, PV.cleans, PV.clean, PV.of?, List.all_cons, List.all_nil, List.take_succ_cons, List.drop_succ_cons, Bool.and_self, Int.natCast_nonneg, Int.toNat_natCast, Int.toNat_zero, PV.of?, Tk.ren, tailP, evL_loop, or_true, true_or, Nat.zero_lt_one, Nat.sub_zero, List.getElem?_cons_zero, List.getElem?_cons_succ, List.set_cons_zero, List.set_cons_succ, List.take_length, h3]) (o.length + 1) 0 [.int .i64 (0 : Nat), slF o, .int .i64 o.length, .int .i64 (0 : Nat)] [] rfl (Nat.zero_le _) (by omega)
  exact lp
theorem loop_hopsR (k0 : Nat) : loopL 0 (evL T k0 q23_1) (o.length + 1) [slF o, .int .i64 0, .int .i64 0] [] = some (.ex 0, [.int .i64 (hops o)], []) := by
  have lp := loop_law (n := 0) (body := evL T k0 q23_1) (σ := Nat) (fun i => [slF o, .int .i64 (hops (o.take i)), .int .i64 i]) (fun _ => []) (fun i => o.length - i) (fun i => i ≤ o.length) (fun i => (.ex 0, [.int .i64 (hops o)], [])) (by
      intro i hi
      rcases Nat.lt_or_ge i o.length with h1 | h1
      · have h3 : (i : Int) < o.length := by omega
        have c1 := fl_get h1
        have c2 := T37 o[i].1 (by have := hf _ (List.getElem_mem h1); omega)
        have hs := hops_succ h1
        have hle := hops_le (o.take i)
        have htl : (o.take i).length ≤ i := List.length_take_le _ _
        have w0 := wr1 (show i < 9223372036854775807 by omega)
        have w1 := wr1 (show hops (o.take i) < 9223372036854775807 by omega)
        have hd : decide (foldS o[i].1 = rcv) = hopB o[i] := rfl
        have hr : ([114, 101, 99, 101, 105, 118, 101, 100] : List UInt8) = rcv := rfl
        generalize hops (o.take i) = N at *
        refine .inr ⟨i + 1, [slF o, .int .i64 ((N + (if hopB o[i] = true then 1 else 0) : Nat) : Int), .int .i64 ((i + 1 : Nat) : Int)], [], ?_, (by rw [hs]; rfl), h1, by omega, rfl⟩
        generalize hopB o[i] = bb at *
        cases bb <;> simp only [q23_1, q23_0, evL_op, evL_sel, evL_nx, evL_exit, evL_ret, evL_join, evL_block, evL_cond, evK_some, evJ_nx, evJ_rt, evJ_ex, evB_nx, evB_rt, evB_ex, evC2_bool, evS_and, evS_or, evS_tf, evS_ft, ev_t, ev_s, ev_c, evalOp, bin_add, bin_sub, bin_mul, bin_eql, bin_neq, bin_lss, bin_leq, bin_gtr, bin_geq, sbin_eql, sbin_neq, b8, List.map_cons, List.map_nil, PV.rens, PV.ren, if_true, if_false, Bool.false_eq_true, reduceIte, Nat.reduceAdd, Nat.reduceSub, Nat.reduceMul, Nat.reduceEqDiff, Nat.reduceLeDiff, Int.reduceLE, Int.reduceLT, Int.reduceEq, Int.reduceToNat, Int.reduceAdd, Int.reduceSub, Int.reduceNeg, decide_true, decide_false, Bool.not_true, Bool.not_false, Bool.true_and, Bool.false_and, Bool.and_true, Bool.and_false, Bool.or_true, Bool.true_or, Bool.or_false, Bool.false_or, and_self, and_true, true_and, Nat.le_refl, Nat.zero_add, Nat.mul_one, Nat.one_ne_zero, Nat.zero_le, highP, lowP, Option.map_some, Option.map_none, List.drop_zero, List.take_zero, List.length_cons, List.length_nil, List.nil_append, List.append_nil, List.cons_append, fillP, PV.cells?, PV.one, PV.cleans, PV.clean, PV.of?, List.all_cons, List.all_nil, List.take_succ_cons, List.drop_succ_cons, Bool.and_self, Int.natCast_nonneg, Int.toNat_natCast, Int.toNat_zero, PV.of?, Tk.ren, tailP, evL_loop, or_true, true_or, Nat.zero_lt_one, Nat.sub_zero, List.getElem?_cons_zero, List.getElem?_cons_succ, List.set_cons_zero, List.set_cons_succ, List.take_length, PV.rens, PV.ren, h3, c1, c2, hr, hd, w0, w1] <;> rfl
      · refine .inl ⟨?_, by simp⟩
        have h3 : ¬ (i : Int) < o.length := by omega
        rw [List.take_of_length_le h1]
        simp only [q23_1, evL_op, evL_sel, evL_nx, evL_exit, evL_ret, evL_join, evL_block, evL_cond, evK_some, evJ_nx, evJ_rt, evJ_ex, evB_nx, evB_rt, evB_ex, evC2_bool, evS_and, evS_or, evS_tf, evS_ft, ev_t, ev_s, ev_c, evalOp, bin_add, bin_sub, bin_mul, bin_eql, bin_neq, bin_lss, bin_leq, bin_gtr, bin_geq, sbin_eql, sbin_neq, b8, List.map_cons, List.map_nil, PV.rens, PV.ren, if_true, if_false, Bool.false_eq_true, reduceIte, Nat.reduceAdd, Nat.reduceSub, Nat.reduceMul, Nat.reduceEqDiff, Nat.reduceLeDiff, Int.reduceLE, Int.reduceLT, Int.reduceEq, Int.reduceToNat, Int.reduceAdd, Int.reduceSub, Int.reduceNeg, decide_true, decide_false, Bool.not_true, Bool.not_false, Bool.true_and, Bool.false_and, Bool.and_true, Bool.and_false, Bool.or_true, Bool.true_or, Bool.or_false, Bool.false_or, and_self, and_true, true_and, Nat.le_refl, Nat.zero_add, Nat.mul_one, Nat.one_ne_zero, Nat.zero_le, highP, lowP, Option.map_some, Option.map_none, List.drop_zero, List.take_zero, List.length_cons, List.length_nil, List.nil_append, List.append_nil, List.cons_append, fillP, PV.cells?, PV.one, PV.cleans, PV.clean, PV.of?, List.all_cons, List.all_nil, List.take_succ_cons, List.drop_succ_cons, Bool.and_self, Int.natCast_nonneg, Int.toNat_natCast, Int.toNat_zero, PV.of?, Tk.ren, tailP, evL_loop, or_true, true_or, Nat.zero_lt_one, Nat.sub_zero, List.getElem?_cons_zero, List.getElem?_cons_succ, List.set_cons_zero, List.set_cons_succ, List.take_length, h3]) (o.length + 1) 0 [slF o, .int .i64 (0 : Nat), .int .i64 (0 : Nat)] [] rfl (Nat.zero_le _) (by omega)
  exact lp
end
theorem scan_out : ∀ (L : List (List UInt8)) (out : List Fld) (e B : Nat), (∀ f ∈ out, f.1.length ≤ B) → (∀ l ∈ L, l.length ≤ B) → (∀ f ∈ (scanGo out e L).1, f.1.length ≤ B) ∧ (scanGo out e L).1.length ≤ out.length + L.length
  | [], out, e, B, h, _ => ⟨h, by simp [scanGo]⟩
  | l :: r, out, e, B, h, hl => by
    have hr : ∀ x ∈ r, x.length ≤ B := fun x hx => hl x (List.mem_cons_of_mem _ hx)
    have hll := hl l List.mem_cons_self
    cases hn : (nameF l).2.2 with
    | true =>
      rw [scan_is hn]
      have hk : (nameF l).1.length ≤ B := by
        obtain ⟨_, h2⟩ := nameF_split hn
        have := congrArg List.length h2
        rw [List.length_append] at this
        omega
      have := scan_out r (out ++ [((nameF l).1, (nameF l).2.1)]) (e + (l.length + 2)) B (fun f hf => by
        rcases List.mem_append.1 hf with hf | hf
        · exact h f hf
        · rw [List.mem_singleton.1 hf]; exact hk) hr
      refine ⟨this.1, ?_⟩
      have h2 := this.2
      simp only [List.length_append, List.length_cons, List.length_nil] at h2 ⊢
      omega
    | false =>
      cases hm : moreB l && decide (out ≠ []) with
      | false =>
        rw [scan_end hn hm]
        split
        · exact ⟨h, by simp⟩
        · exact ⟨h, by simp⟩
      | true =>
        simp only [Bool.and_eq_true, decide_eq_true_eq] at hm
        rcases List.eq_nil_or_concat out with ho | ⟨p, f, ho⟩
        · exact absurd ho hm.2
        rw [List.concat_eq_append] at ho
        subst ho
        rw [scan_more hn hm.1]
        have := scan_out r (p ++ [(f.1, f.2 ++ l)]) (e + (l.length + 2)) B (fun g hg => by
          rcases List.mem_append.1 hg with hg | hg
          · exact h g (by simp [hg])
          · rw [List.mem_singleton.1 hg]; exact h f (by simp)) hr
        refine ⟨this.1, ?_⟩
        have h2 := this.2
        simp only [List.length_append, List.length_cons, List.length_nil] at h2 ⊢
        omega
theorem scan_b (b : List UInt8) (hb : b.length ≤ 1000000000) : (∀ f ∈ (scanGo [] 0 (lines b)).1, f.1.length ≤ 1000000000) ∧ (scanGo [] 0 (lines b)).1.length ≤ 1000000000 := by
  have hll := lines_len b.length b (Nat.le_refl _)
  have := scan_out (lines b) [] 0 1000000000 (fun f h => by cases h) (fun l hl => by have := hll.2 l hl; omega)
  refine ⟨this.1, ?_⟩
  have h2 := this.2
  simp only [List.length_nil] at h2
  omega
theorem T17_yes (b : List UInt8) (hb : b.length ≤ 1000000000) (h : body b = true) : T 17 [sl8 b] [] = some (.tup [.int .i64 (hops (scanGo [] 0 (lines b)).1), .int .i64 0], []) := by
  have c1 := T12_yes b hb h
  obtain ⟨h1, h2⟩ := scan_b b hb
  generalize (scanGo [] 0 (lines b)).1 = o at *
  generalize (scanGo [] 0 (lines b)).2 = e at *
  by_cases ho : o = []
  · subst ho
    refine evT_of (k := 1) (F := l17) (H' := []) (e := [.int .i64 0, .int .i64 0]) (l := [.int .i64 0, .int .i64 0]) rfl rfl rfl ?_ rfl rfl
    show evL T 1 q17 _ _ = _
    have lp : loopL 0 (evL T 1 q17_1) 1 [.int .i64 0, .sl .no 0 0 [], .int .i64 0, .int .i64 0] [] = some (.ex 0, [.int .i64 0], []) := rfl
    have o0 : ((0 : Nat) : Int) = 0 := rfl
    have c1' : T 12 [sl8 b] [] = some (.tup [.sl (.tok 0) 0 0 [], .int .i64 e, .int .i64 0], [.tok]) := c1
    simp only [q17, evL_op, evL_sel, evL_nx, evL_exit, evL_ret, evL_join, evL_block, evL_cond, evK_some, evJ_nx, evJ_rt, evJ_ex, evB_nx, evB_rt, evB_ex, evC2_bool, evS_and, evS_or, evS_tf, evS_ft, ev_t, ev_s, ev_c, evalOp, bin_add, bin_sub, bin_mul, bin_eql, bin_neq, bin_lss, bin_leq, bin_gtr, bin_geq, sbin_eql, sbin_neq, b8, List.map_cons, List.map_nil, PV.rens, PV.ren, if_true, if_false, Bool.false_eq_true, reduceIte, Nat.reduceAdd, Nat.reduceSub, Nat.reduceMul, Nat.reduceEqDiff, Nat.reduceLeDiff, Int.reduceLE, Int.reduceLT, Int.reduceEq, Int.reduceToNat, Int.reduceAdd, Int.reduceSub, Int.reduceNeg, decide_true, decide_false, Bool.not_true, Bool.not_false, Bool.true_and, Bool.false_and, Bool.and_true, Bool.and_false, Bool.or_true, Bool.true_or, Bool.or_false, Bool.false_or, and_self, and_true, true_and, Nat.le_refl, Nat.zero_add, Nat.mul_one, Nat.one_ne_zero, Nat.zero_le, highP, lowP, Option.map_some, Option.map_none, List.drop_zero, List.take_zero, List.length_cons, List.length_nil, List.nil_append, List.append_nil, List.cons_append, fillP, PV.cells?, PV.one, PV.cleans, PV.clean, PV.of?, List.all_cons, List.all_nil, List.take_succ_cons, List.drop_succ_cons, Bool.and_self, Int.natCast_nonneg, Int.toNat_natCast, Int.toNat_zero, PV.of?, Tk.ren, tailP, evL_loop, or_true, true_or, Nat.zero_lt_one, Nat.sub_zero, List.getElem?_cons_zero, List.getElem?_cons_succ, List.set_cons_zero, List.set_cons_succ, List.take_length, PV.rens, PV.ren, c1', o0]
    rw [lp]
    simp only [q17_2, evL_op, evL_sel, evL_nx, evL_exit, evL_ret, evL_join, evL_block, evL_cond, evK_some, evJ_nx, evJ_rt, evJ_ex, evB_nx, evB_rt, evB_ex, evC2_bool, evS_and, evS_or, evS_tf, evS_ft, ev_t, ev_s, ev_c, evalOp, bin_add, bin_sub, bin_mul, bin_eql, bin_neq, bin_lss, bin_leq, bin_gtr, bin_geq, sbin_eql, sbin_neq, b8, List.map_cons, List.map_nil, PV.rens, PV.ren, if_true, if_false, Bool.false_eq_true, reduceIte, Nat.reduceAdd, Nat.reduceSub, Nat.reduceMul, Nat.reduceEqDiff, Nat.reduceLeDiff, Int.reduceLE, Int.reduceLT, Int.reduceEq, Int.reduceToNat, Int.reduceAdd, Int.reduceSub, Int.reduceNeg, decide_true, decide_false, Bool.not_true, Bool.not_false, Bool.true_and, Bool.false_and, Bool.and_true, Bool.and_false, Bool.or_true, Bool.true_or, Bool.or_false, Bool.false_or, and_self, and_true, true_and, Nat.le_refl, Nat.zero_add, Nat.mul_one, Nat.one_ne_zero, Nat.zero_le, highP, lowP, Option.map_some, Option.map_none, List.drop_zero, List.take_zero, List.length_cons, List.length_nil, List.nil_append, List.append_nil, List.cons_append, fillP, PV.cells?, PV.one, PV.cleans, PV.clean, PV.of?, List.all_cons, List.all_nil, List.take_succ_cons, List.drop_succ_cons, Bool.and_self, Int.natCast_nonneg, Int.toNat_natCast, Int.toNat_zero, PV.of?, Tk.ren, tailP, evL_loop, or_true, true_or, Nat.zero_lt_one, Nat.sub_zero, List.getElem?_cons_zero, List.getElem?_cons_succ, List.set_cons_zero, List.set_cons_succ, List.take_length]
  · have lp := loop_hops o h2 h1 (o.length + 1)
    unfold outR at c1
    rw [if_neg ho, if_neg ho] at c1
    refine evT_of (k := o.length + 1) (F := l17) (H' := []) (e := [.int .i64 (hops o), .int .i64 0]) (l := [.int .i64 (hops o), .int .i64 0]) rfl rfl rfl ?_ rfl rfl
    show evL T _ q17 _ _ = _
    simp only [q17, evL_op, evL_sel, evL_nx, evL_exit, evL_ret, evL_join, evL_block, evL_cond, evK_some, evJ_nx, evJ_rt, evJ_ex, evB_nx, evB_rt, evB_ex, evC2_bool, evS_and, evS_or, evS_tf, evS_ft, ev_t, ev_s, ev_c, evalOp, bin_add, bin_sub, bin_mul, bin_eql, bin_neq, bin_lss, bin_leq, bin_gtr, bin_geq, sbin_eql, sbin_neq, b8, List.map_cons, List.map_nil, PV.rens, PV.ren, if_true, if_false, Bool.false_eq_true, reduceIte, Nat.reduceAdd, Nat.reduceSub, Nat.reduceMul, Nat.reduceEqDiff, Nat.reduceLeDiff, Int.reduceLE, Int.reduceLT, Int.reduceEq, Int.reduceToNat, Int.reduceAdd, Int.reduceSub, Int.reduceNeg, decide_true, decide_false, Bool.not_true, Bool.not_false, Bool.true_and, Bool.false_and, Bool.and_true, Bool.and_false, Bool.or_true, Bool.true_or, Bool.or_false, Bool.false_or, and_self, and_true, true_and, Nat.le_refl, Nat.zero_add, Nat.mul_one, Nat.one_ne_zero, Nat.zero_le, highP, lowP, Option.map_some, Option.map_none, List.drop_zero, List.take_zero, List.length_cons, List.length_nil, List.nil_append, List.append_nil, List.cons_append, fillP, PV.cells?, PV.one, PV.cleans, PV.clean, PV.of?, List.all_cons, List.all_nil, List.take_succ_cons, List.drop_succ_cons, Bool.and_self, Int.natCast_nonneg, Int.toNat_natCast, Int.toNat_zero, PV.of?, Tk.ren, tailP, evL_loop, or_true, true_or, Nat.zero_lt_one, Nat.sub_zero, List.getElem?_cons_zero, List.getElem?_cons_succ, List.set_cons_zero, List.set_cons_succ, List.take_length, PV.rens, PV.ren, c1]
    rw [lp]
    simp only [q17_2, evL_op, evL_sel, evL_nx, evL_exit, evL_ret, evL_join, evL_block, evL_cond, evK_some, evJ_nx, evJ_rt, evJ_ex, evB_nx, evB_rt, evB_ex, evC2_bool, evS_and, evS_or, evS_tf, evS_ft, ev_t, ev_s, ev_c, evalOp, bin_add, bin_sub, bin_mul, bin_eql, bin_neq, bin_lss, bin_leq, bin_gtr, bin_geq, sbin_eql, sbin_neq, b8, List.map_cons, List.map_nil, PV.rens, PV.ren, if_true, if_false, Bool.false_eq_true, reduceIte, Nat.reduceAdd, Nat.reduceSub, Nat.reduceMul, Nat.reduceEqDiff, Nat.reduceLeDiff, Int.reduceLE, Int.reduceLT, Int.reduceEq, Int.reduceToNat, Int.reduceAdd, Int.reduceSub, Int.reduceNeg, decide_true, decide_false, Bool.not_true, Bool.not_false, Bool.true_and, Bool.false_and, Bool.and_true, Bool.and_false, Bool.or_true, Bool.true_or, Bool.or_false, Bool.false_or, and_self, and_true, true_and, Nat.le_refl, Nat.zero_add, Nat.mul_one, Nat.one_ne_zero, Nat.zero_le, highP, lowP, Option.map_some, Option.map_none, List.drop_zero, List.take_zero, List.length_cons, List.length_nil, List.nil_append, List.append_nil, List.cons_append, fillP, PV.cells?, PV.one, PV.cleans, PV.clean, PV.of?, List.all_cons, List.all_nil, List.take_succ_cons, List.drop_succ_cons, Bool.and_self, Int.natCast_nonneg, Int.toNat_natCast, Int.toNat_zero, PV.of?, Tk.ren, tailP, evL_loop, or_true, true_or, Nat.zero_lt_one, Nat.sub_zero, List.getElem?_cons_zero, List.getElem?_cons_succ, List.set_cons_zero, List.set_cons_succ, List.take_length]
theorem T17_no (b : List UInt8) (hb : b.length ≤ 1000000000) (h : body b = false) : T 17 [sl8 b] [] = some (.tup [.int .i64 0, .int .i64 5], []) := by
  have c1 := T12_no b hb h
  refine evT_of (k := 1) (F := l17) (H' := []) (e := [.int .i64 0, .int .i64 5]) (l := [.int .i64 0, .int .i64 5]) rfl rfl rfl ?_ rfl rfl
  show evL T 1 q17 _ _ = _
  simp only [q17, evL_op, evL_sel, evL_nx, evL_exit, evL_ret, evL_join, evL_block, evL_cond, evK_some, evJ_nx, evJ_rt, evJ_ex, evB_nx, evB_rt, evB_ex, evC2_bool, evS_and, evS_or, evS_tf, evS_ft, ev_t, ev_s, ev_c, evalOp, bin_add, bin_sub, bin_mul, bin_eql, bin_neq, bin_lss, bin_leq, bin_gtr, bin_geq, sbin_eql, sbin_neq, b8, List.map_cons, List.map_nil, PV.rens, PV.ren, if_true, if_false, Bool.false_eq_true, reduceIte, Nat.reduceAdd, Nat.reduceSub, Nat.reduceMul, Nat.reduceEqDiff, Nat.reduceLeDiff, Int.reduceLE, Int.reduceLT, Int.reduceEq, Int.reduceToNat, Int.reduceAdd, Int.reduceSub, Int.reduceNeg, decide_true, decide_false, Bool.not_true, Bool.not_false, Bool.true_and, Bool.false_and, Bool.and_true, Bool.and_false, Bool.or_true, Bool.true_or, Bool.or_false, Bool.false_or, and_self, and_true, true_and, Nat.le_refl, Nat.zero_add, Nat.mul_one, Nat.one_ne_zero, Nat.zero_le, highP, lowP, Option.map_some, Option.map_none, List.drop_zero, List.take_zero, List.length_cons, List.length_nil, List.nil_append, List.append_nil, List.cons_append, fillP, PV.cells?, PV.one, PV.cleans, PV.clean, PV.of?, List.all_cons, List.all_nil, List.take_succ_cons, List.drop_succ_cons, Bool.and_self, Int.natCast_nonneg, Int.toNat_natCast, Int.toNat_zero, PV.of?, Tk.ren, tailP, evL_loop, or_true, true_or, Nat.zero_lt_one, Nat.sub_zero, List.getElem?_cons_zero, List.getElem?_cons_succ, List.set_cons_zero, List.set_cons_succ, List.take_length, PV.rens, PV.ren, c1]
theorem T23 (b : List UInt8) (hb : b.length ≤ 1000000000) : T 23 [sl8 b] [] = some (.int .i64 (hops (scanGo [] 0 (lines b)).1), []) := by
  have c1 := T22 b hb
  obtain ⟨h1, h2⟩ := scan_b b hb
  generalize (scanGo [] 0 (lines b)).1 = o at *
  generalize (scanGo [] 0 (lines b)).2 = e at *
  by_cases ho : o = []
  · subst ho
    refine evT_of (k := 1) (F := l23) (H' := []) (e := [.int .i64 0]) (l := [.int .i64 0]) rfl rfl rfl ?_ rfl rfl
    show evL T 1 q23 _ _ = _
    have lp : loopL 0 (evL T 1 q23_1) 1 [.sl .no 0 0 [], .int .i64 0, .int .i64 0] [] = some (.ex 0, [.int .i64 0], []) := rfl
    have c1' : T 22 [sl8 b] [] = some (.tup [.sl (.tok 0) 0 0 [], .int .i64 e], [.tok]) := c1
    simp only [q23, evL_op, evL_sel, evL_nx, evL_exit, evL_ret, evL_join, evL_block, evL_cond, evK_some, evJ_nx, evJ_rt, evJ_ex, evB_nx, evB_rt, evB_ex, evC2_bool, evS_and, evS_or, evS_tf, evS_ft, ev_t, ev_s, ev_c, evalOp, bin_add, bin_sub, bin_mul, bin_eql, bin_neq, bin_lss, bin_leq, bin_gtr, bin_geq, sbin_eql, sbin_neq, b8, List.map_cons, List.map_nil, PV.rens, PV.ren, if_true, if_false, Bool.false_eq_true, reduceIte, Nat.reduceAdd, Nat.reduceSub, Nat.reduceMul, Nat.reduceEqDiff, Nat.reduceLeDiff, Int.reduceLE, Int.reduceLT, Int.reduceEq, Int.reduceToNat, Int.reduceAdd, Int.reduceSub, Int.reduceNeg, decide_true, decide_false, Bool.not_true, Bool.not_false, Bool.true_and, Bool.false_and, Bool.and_true, Bool.and_false, Bool.or_true, Bool.true_or, Bool.or_false, Bool.false_or, and_self, and_true, true_and, Nat.le_refl, Nat.zero_add, Nat.mul_one, Nat.one_ne_zero, Nat.zero_le, highP, lowP, Option.map_some, Option.map_none, List.drop_zero, List.take_zero, List.length_cons, List.length_nil, List.nil_append, List.append_nil, List.cons_append, fillP, PV.cells?, PV.one, PV.cleans, PV.clean, PV.of?, List.all_cons, List.all_nil, List.take_succ_cons, List.drop_succ_cons, Bool.and_self, Int.natCast_nonneg, Int.toNat_natCast, Int.toNat_zero, PV.of?, Tk.ren, tailP, evL_loop, or_true, true_or, Nat.zero_lt_one, Nat.sub_zero, List.getElem?_cons_zero, List.getElem?_cons_succ, List.set_cons_zero, List.set_cons_succ, List.take_length, PV.rens, PV.ren, c1']
    rw [lp]
    simp only [q23_2, evL_op, evL_sel, evL_nx, evL_exit, evL_ret, evL_join, evL_block, evL_cond, evK_some, evJ_nx, evJ_rt, evJ_ex, evB_nx, evB_rt, evB_ex, evC2_bool, evS_and, evS_or, evS_tf, evS_ft, ev_t, ev_s, ev_c, evalOp, bin_add, bin_sub, bin_mul, bin_eql, bin_neq, bin_lss, bin_leq, bin_gtr, bin_geq, sbin_eql, sbin_neq, b8, List.map_cons, List.map_nil, PV.rens, PV.ren, if_true, if_false, Bool.false_eq_true, reduceIte, Nat.reduceAdd, Nat.reduceSub, Nat.reduceMul, Nat.reduceEqDiff, Nat.reduceLeDiff, Int.reduceLE, Int.reduceLT, Int.reduceEq, Int.reduceToNat, Int.reduceAdd, Int.reduceSub, Int.reduceNeg, decide_true, decide_false, Bool.not_true, Bool.not_false, Bool.true_and, Bool.false_and, Bool.and_true, Bool.and_false, Bool.or_true, Bool.true_or, Bool.or_false, Bool.false_or, and_self, and_true, true_and, Nat.le_refl, Nat.zero_add, Nat.mul_one, Nat.one_ne_zero, Nat.zero_le, highP, lowP, Option.map_some, Option.map_none, List.drop_zero, List.take_zero, List.length_cons, List.length_nil, List.nil_append, List.append_nil, List.cons_append, fillP, PV.cells?, PV.one, PV.cleans, PV.clean, PV.of?, List.all_cons, List.all_nil, List.take_succ_cons, List.drop_succ_cons, Bool.and_self, Int.natCast_nonneg, Int.toNat_natCast, Int.toNat_zero, PV.of?, Tk.ren, tailP, evL_loop, or_true, true_or, Nat.zero_lt_one, Nat.sub_zero, List.getElem?_cons_zero, List.getElem?_cons_succ, List.set_cons_zero, List.set_cons_succ, List.take_length]
  · have lp := loop_hopsR o h2 h1 (o.length + 1)
    unfold outR at c1
    rw [if_neg ho, if_neg ho] at c1
    refine evT_of (k := o.length + 1) (F := l23) (H' := []) (e := [.int .i64 (hops o)]) (l := [.int .i64 (hops o)]) rfl rfl rfl ?_ rfl rfl
    show evL T _ q23 _ _ = _
    simp only [q23, evL_op, evL_sel, evL_nx, evL_exit, evL_ret, evL_join, evL_block, evL_cond, evK_some, evJ_nx, evJ_rt, evJ_ex, evB_nx, evB_rt, evB_ex, evC2_bool, evS_and, evS_or, evS_tf, evS_ft, ev_t, ev_s, ev_c, evalOp, bin_add, bin_sub, bin_mul, bin_eql, bin_neq, bin_lss, bin_leq, bin_gtr, bin_geq, sbin_eql, sbin_neq, b8, List.map_cons, List.map_nil, PV.rens, PV.ren, if_true, if_false, Bool.false_eq_true, reduceIte, Nat.reduceAdd, Nat.reduceSub, Nat.reduceMul, Nat.reduceEqDiff, Nat.reduceLeDiff, Int.reduceLE, Int.reduceLT, Int.reduceEq, Int.reduceToNat, Int.reduceAdd, Int.reduceSub, Int.reduceNeg, decide_true, decide_false, Bool.not_true, Bool.not_false, Bool.true_and, Bool.false_and, Bool.and_true, Bool.and_false, Bool.or_true, Bool.true_or, Bool.or_false, Bool.false_or, and_self, and_true, true_and, Nat.le_refl, Nat.zero_add, Nat.mul_one, Nat.one_ne_zero, Nat.zero_le, highP, lowP, Option.map_some, Option.map_none, List.drop_zero, List.take_zero, List.length_cons, List.length_nil, List.nil_append, List.append_nil, List.cons_append, fillP, PV.cells?, PV.one, PV.cleans, PV.clean, PV.of?, List.all_cons, List.all_nil, List.take_succ_cons, List.drop_succ_cons, Bool.and_self, Int.natCast_nonneg, Int.toNat_natCast, Int.toNat_zero, PV.of?, Tk.ren, tailP, evL_loop, or_true, true_or, Nat.zero_lt_one, Nat.sub_zero, List.getElem?_cons_zero, List.getElem?_cons_succ, List.set_cons_zero, List.set_cons_succ, List.take_length, PV.rens, PV.ren, c1]
    rw [lp]
    simp only [q23_2, evL_op, evL_sel, evL_nx, evL_exit, evL_ret, evL_join, evL_block, evL_cond, evK_some, evJ_nx, evJ_rt, evJ_ex, evB_nx, evB_rt, evB_ex, evC2_bool, evS_and, evS_or, evS_tf, evS_ft, ev_t, ev_s, ev_c, evalOp, bin_add, bin_sub, bin_mul, bin_eql, bin_neq, bin_lss, bin_leq, bin_gtr, bin_geq, sbin_eql, sbin_neq, b8, List.map_cons, List.map_nil, PV.rens, PV.ren, if_true, if_false, Bool.false_eq_true, reduceIte, Nat.reduceAdd, Nat.reduceSub, Nat.reduceMul, Nat.reduceEqDiff, Nat.reduceLeDiff, Int.reduceLE, Int.reduceLT, Int.reduceEq, Int.reduceToNat, Int.reduceAdd, Int.reduceSub, Int.reduceNeg, decide_true, decide_false, Bool.not_true, Bool.not_false, Bool.true_and, Bool.false_and, Bool.and_true, Bool.and_false, Bool.or_true, Bool.true_or, Bool.or_false, Bool.false_or, and_self, and_true, true_and, Nat.le_refl, Nat.zero_add, Nat.mul_one, Nat.one_ne_zero, Nat.zero_le, highP, lowP, Option.map_some, Option.map_none, List.drop_zero, List.take_zero, List.length_cons, List.length_nil, List.nil_append, List.append_nil, List.cons_append, fillP, PV.cells?, PV.one, PV.cleans, PV.clean, PV.of?, List.all_cons, List.all_nil, List.take_succ_cons, List.drop_succ_cons, Bool.and_self, Int.natCast_nonneg, Int.toNat_natCast, Int.toNat_zero, PV.of?, Tk.ren, tailP, evL_loop, or_true, true_or, Nat.zero_lt_one, Nat.sub_zero, List.getElem?_cons_zero, List.getElem?_cons_succ, List.set_cons_zero, List.set_cons_succ, List.take_length]
/-! ### a stamp put ahead -/
section
variable (b h s : List UInt8) (hb : b.length ≤ 1000000) (hl : h.length + s.length ≤ 100000)
include hb hl
theorem Put_body (hd : body b = false) (a : Int) : T 19 [sl8 b, .str h, .str s, .int .i64 a] [] = some (.tup [.sl .nil 0 0 [], .int .i64 5], []) := by
  have c1 := T24 b (by omega)
  rw [if_neg (by rw [hd]; decide)] at c1
  refine evT_of (k := 1) (F := l19) (H' := []) (e := [.sl .nil 0 0 [], .int .i64 5]) (l := [.sl .nil 0 0 [], .int .i64 5]) rfl rfl rfl ?_ rfl rfl
  show evL T 1 q19 _ _ = _
  simp only [q19, evL_op, evL_sel, evL_nx, evL_exit, evL_ret, evL_join, evL_block, evL_cond, evK_some, evJ_nx, evJ_rt, evJ_ex, evB_nx, evB_rt, evB_ex, evC2_bool, evS_and, evS_or, evS_tf, evS_ft, ev_t, ev_s, ev_c, evalOp, bin_add, bin_sub, bin_mul, bin_eql, bin_neq, bin_lss, bin_leq, bin_gtr, bin_geq, sbin_eql, sbin_neq, b8, List.map_cons, List.map_nil, PV.rens, PV.ren, if_true, if_false, Bool.false_eq_true, reduceIte, Nat.reduceAdd, Nat.reduceSub, Nat.reduceMul, Nat.reduceEqDiff, Nat.reduceLeDiff, Int.reduceLE, Int.reduceLT, Int.reduceEq, Int.reduceToNat, Int.reduceAdd, Int.reduceSub, Int.reduceNeg, decide_true, decide_false, Bool.not_true, Bool.not_false, Bool.true_and, Bool.false_and, Bool.and_true, Bool.and_false, Bool.or_true, Bool.true_or, Bool.or_false, Bool.false_or, and_self, and_true, true_and, Nat.le_refl, Nat.zero_add, Nat.mul_one, Nat.one_ne_zero, Nat.zero_le, highP, lowP, Option.map_some, Option.map_none, List.drop_zero, List.take_zero, List.length_cons, List.length_nil, List.nil_append, List.append_nil, List.cons_append, fillP, PV.cells?, PV.one, PV.cleans, PV.clean, PV.of?, List.all_cons, List.all_nil, List.take_succ_cons, List.drop_succ_cons, Bool.and_self, Int.natCast_nonneg, Int.toNat_natCast, Int.toNat_zero, PV.of?, Tk.ren, tailP, evL_loop, or_true, true_or, Nat.zero_lt_one, Nat.sub_zero, List.getElem?_cons_zero, List.getElem?_cons_succ, List.set_cons_zero, List.set_cons_succ, List.take_length, PV.rens, PV.ren, c1]
theorem Put_stamp (hd : body b = true) (a e : Int) (he : e ≠ 0) (c2 : T 18 [.str h, .str s, .int .i64 a] [] = some (.tup [.sl .nil 0 0 [], .int .i64 e], [])) : T 19 [sl8 b, .str h, .str s, .int .i64 a] [] = some (.tup [.sl .nil 0 0 [], .int .i64 e], []) := by
  have c1 := T24 b (by omega)
  rw [if_pos hd] at c1
  refine evT_of (k := 1) (F := l19) (H' := []) (e := [.sl .nil 0 0 [], .int .i64 e]) (l := [.sl .nil 0 0 [], .int .i64 e]) rfl rfl rfl ?_ rfl rfl
  show evL T 1 q19 _ _ = _
  simp only [q19, evL_op, evL_sel, evL_nx, evL_exit, evL_ret, evL_join, evL_block, evL_cond, evK_some, evJ_nx, evJ_rt, evJ_ex, evB_nx, evB_rt, evB_ex, evC2_bool, evS_and, evS_or, evS_tf, evS_ft, ev_t, ev_s, ev_c, evalOp, bin_add, bin_sub, bin_mul, bin_eql, bin_neq, bin_lss, bin_leq, bin_gtr, bin_geq, sbin_eql, sbin_neq, b8, List.map_cons, List.map_nil, PV.rens, PV.ren, if_true, if_false, Bool.false_eq_true, reduceIte, Nat.reduceAdd, Nat.reduceSub, Nat.reduceMul, Nat.reduceEqDiff, Nat.reduceLeDiff, Int.reduceLE, Int.reduceLT, Int.reduceEq, Int.reduceToNat, Int.reduceAdd, Int.reduceSub, Int.reduceNeg, decide_true, decide_false, Bool.not_true, Bool.not_false, Bool.true_and, Bool.false_and, Bool.and_true, Bool.and_false, Bool.or_true, Bool.true_or, Bool.or_false, Bool.false_or, and_self, and_true, true_and, Nat.le_refl, Nat.zero_add, Nat.mul_one, Nat.one_ne_zero, Nat.zero_le, highP, lowP, Option.map_some, Option.map_none, List.drop_zero, List.take_zero, List.length_cons, List.length_nil, List.nil_append, List.append_nil, List.cons_append, fillP, PV.cells?, PV.one, PV.cleans, PV.clean, PV.of?, List.all_cons, List.all_nil, List.take_succ_cons, List.drop_succ_cons, Bool.and_self, Int.natCast_nonneg, Int.toNat_natCast, Int.toNat_zero, PV.of?, Tk.ren, tailP, evL_loop, or_true, true_or, Nat.zero_lt_one, Nat.sub_zero, List.getElem?_cons_zero, List.getElem?_cons_succ, List.set_cons_zero, List.set_cons_succ, List.take_length, PV.rens, PV.ren, c1, c2, he]
theorem Put_yes (hd : body b = true) (hs : domB h s = true) (u : Nat) (hu : u ≤ 1099511627776) : T 19 [sl8 b, .str h, .str s, .int .i64 u] [] = some (.tup [sl8 (stampB h s u ++ b), .int .i64 0], []) := by
  have c1 := T24 b (by omega)
  rw [if_pos hd] at c1
  have c2 := Stamp_yes h s hl hs u hu
  have hsl := stampB_len h s u hu
  have hne : stampB h s u ≠ [] := by unfold stampB; simp
  generalize stampB h s u = B at *
  have c3 := Concat2 B b (by omega) hne
  rw [show sl8 (B ++ b) = .sl .no 1 (B.length + b.length) ((B ++ b).map b8) by rw [← List.length_append]]
  refine evT_of (k := 1) (F := l19) (H' := []) (e := [.sl .no 1 (B.length + b.length) ((B ++ b).map b8), .int .i64 0]) (l := [.sl .no 1 (B.length + b.length) ((B ++ b).map b8), .int .i64 0]) rfl rfl rfl ?_ rfl rfl
  show evL T 1 q19 _ _ = _
  simp only [q19, evL_op, evL_sel, evL_nx, evL_exit, evL_ret, evL_join, evL_block, evL_cond, evK_some, evJ_nx, evJ_rt, evJ_ex, evB_nx, evB_rt, evB_ex, evC2_bool, evS_and, evS_or, evS_tf, evS_ft, ev_t, ev_s, ev_c, evalOp, bin_add, bin_sub, bin_mul, bin_eql, bin_neq, bin_lss, bin_leq, bin_gtr, bin_geq, sbin_eql, sbin_neq, b8, List.map_cons, List.map_nil, PV.rens, PV.ren, if_true, if_false, Bool.false_eq_true, reduceIte, Nat.reduceAdd, Nat.reduceSub, Nat.reduceMul, Nat.reduceEqDiff, Nat.reduceLeDiff, Int.reduceLE, Int.reduceLT, Int.reduceEq, Int.reduceToNat, Int.reduceAdd, Int.reduceSub, Int.reduceNeg, decide_true, decide_false, Bool.not_true, Bool.not_false, Bool.true_and, Bool.false_and, Bool.and_true, Bool.and_false, Bool.or_true, Bool.true_or, Bool.or_false, Bool.false_or, and_self, and_true, true_and, Nat.le_refl, Nat.zero_add, Nat.mul_one, Nat.one_ne_zero, Nat.zero_le, highP, lowP, Option.map_some, Option.map_none, List.drop_zero, List.take_zero, List.length_cons, List.length_nil, List.nil_append, List.append_nil, List.cons_append, fillP, PV.cells?, PV.one, PV.cleans, PV.clean, PV.of?, List.all_cons, List.all_nil, List.take_succ_cons, List.drop_succ_cons, Bool.and_self, Int.natCast_nonneg, Int.toNat_natCast, Int.toNat_zero, PV.of?, Tk.ren, tailP, evL_loop, or_true, true_or, Nat.zero_lt_one, Nat.sub_zero, List.getElem?_cons_zero, List.getElem?_cons_succ, List.set_cons_zero, List.set_cons_succ, List.take_length, PV.rens, PV.ren, c1, c2, c3]
end
end Go.Proofs.YtmdnloajpjfbmaaDoor.Tab

namespace Go.Proofs.YtmdnloajpjfbmaaDoor.Tab
set_option linter.all false
open Go Go.RowKit Go.Proofs.YtmdnloajpjfbmaaDoor.Ev
theorem o0 : ((0 : Nat) : Int) = 0 := rfl
theorem o1 : ((1 : Nat) : Int) = 1 := rfl
def wb : List UInt8 := [65, 58, 32, 98, 13, 10, 13, 10, 99, 13, 10]
theorem wb_body : body wb = true := by decide +kernel
theorem wb_scan : scanGo [] 0 (lines wb) = ([([65], [32, 98])], 8) := by decide +kernel
theorem dom_hs : domB [104] [115] = true := by decide +kernel
def s7 : List UInt8 := [82, 101, 99, 101, 105, 118, 101, 100, 58, 32, 102, 114, 111, 109, 32, 104, 32, 98, 121, 32, 115, 32, 119, 105, 116, 104, 32, 69, 83, 77, 84, 80, 59, 32, 55, 13, 10]
theorem s7_def : s7 = [82, 101, 99, 101, 105, 118, 101, 100, 58, 32, 102, 114, 111, 109, 32, 104, 32, 98, 121, 32, 115, 32, 119, 105, 116, 104, 32, 69, 83, 77, 84, 80, 59, 32, 55, 13, 10] := rfl
theorem stamp7 : stampB [104] [115] 7 = s7 := by
  have : Lib.itoa ((7 : Nat) : Int) = [55] := by rw [itoa_nat, Lib.decDigits_one (by decide)]; rfl
  unfold stampB stampL
  rw [this]
  rfl
theorem T_wakes : T 14 [] [] = some (.bool true, []) := by
  have c1 := T12_yes wb (by decide) wb_body
  rw [wb_scan] at c1
  have c2 := Stamp_yes [104] [115] (by decide) dom_hs 7 (by decide)
  have c3 := T_fields [([65], [32, 98])] [([65], [32, 98])] (by decide)
  rw [stamp7] at c2
  have c1' : T 12 [.sl .no 1 11 [.int .u8 65, .int .u8 58, .int .u8 32, .int .u8 98, .int .u8 13, .int .u8 10, .int .u8 13, .int .u8 10, .int .u8 99, .int .u8 13, .int .u8 10]] [] = some (.tup [.sl .no 2 1 [.str [65], .str [32, 98]], .int .i64 8, .int .i64 0], []) := c1
  have c3' : T 13 [.sl .no 2 1 [.str [65], .str [32, 98]], .sl .no 2 1 [.str [65], .str [32, 98]]] [] = some (.bool true, []) := by
    refine c3.trans ?_
    rfl
  have c2' : T 18 [.str [104], .str [115], .int .i64 7] [] = some (.tup [.sl (.tok 0) 1 37 (List.map b8 s7), .int .i64 0], [.tok]) := c2
  have e1 := bytes8_map s7
  generalize hM : List.map b8 s7 = M at *
  have g1 : 0 < 11 := by decide
  have g2 : ¬ 37 = 0 := by decide
  have fin : ∀ {H : Hp}, evL T 0 q14 [] [] = some (.rt, [.bool true], H) → T 14 [] [] = some (.bool true, []) := fun {H} h =>
    evT_of (k := 0) (F := l14) (H' := H) (e := [.bool true]) (l := [.bool true]) rfl rfl rfl h rfl rfl
  apply fin
  simp only [q14, evL_op, evL_sel, evL_nx, evL_exit, evL_ret, evL_join, evL_block, evL_cond, evK_some, evJ_nx, evJ_rt, evJ_ex, evB_nx, evB_rt, evB_ex, evC2_bool, evS_and, evS_or, evS_tf, evS_ft, ev_t, ev_s, ev_c, evalOp, bin_add, bin_sub, bin_mul, bin_eql, bin_neq, bin_lss, bin_leq, bin_gtr, bin_geq, sbin_eql, sbin_neq, b8, List.map_cons, List.map_nil, PV.rens, PV.ren, if_true, if_false, Bool.false_eq_true, reduceIte, Nat.reduceAdd, Nat.reduceSub, Nat.reduceMul, Nat.reduceEqDiff, Nat.reduceLeDiff, Int.reduceLE, Int.reduceLT, Int.reduceEq, Int.reduceToNat, Int.reduceAdd, Int.reduceSub, Int.reduceNeg, decide_true, decide_false, Bool.not_true, Bool.not_false, Bool.true_and, Bool.false_and, Bool.and_true, Bool.and_false, Bool.or_true, Bool.true_or, Bool.or_false, Bool.false_or, and_self, and_true, true_and, Nat.le_refl, Nat.zero_add, Nat.mul_one, Nat.one_ne_zero, Nat.zero_le, highP, lowP, Option.map_some, Option.map_none, List.drop_zero, List.take_zero, List.length_cons, List.length_nil, List.nil_append, List.append_nil, List.cons_append, fillP, PV.cells?, PV.one, PV.cleans, PV.clean, PV.of?, List.all_cons, List.all_nil, List.take_succ_cons, List.drop_succ_cons, Bool.and_self, Int.natCast_nonneg, Int.toNat_natCast, Int.toNat_zero, PV.of?, Tk.ren, tailP, evL_loop, or_true, true_or, Nat.zero_lt_one, Nat.sub_zero, List.getElem?_cons_zero, List.getElem?_cons_succ, List.set_cons_zero, List.set_cons_succ, List.take_length, PV.rens, PV.ren, c1', c2', c3', e1, beq_self_eq_true, eq_self, o0, o1, g1, g2, ← s7_def] <;> rfl
end Go.Proofs.YtmdnloajpjfbmaaDoor.Tab
