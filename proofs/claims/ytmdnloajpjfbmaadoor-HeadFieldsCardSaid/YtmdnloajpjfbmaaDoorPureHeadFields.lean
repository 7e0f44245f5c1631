/- HeadFields: it is true. -/
import Derived.Test.YtmdnloajpjfbmaaDoorWritten
namespace Go.Proofs.YtmdnloajpjfbmaaDoor.Tab
set_option linter.all false
open Go Go.RowKit Go.Proofs.YtmdnloajpjfbmaaDoor.Ev
abbrev slS (l : List (List UInt8)) : PV := .sl .no 1 l.length (l.map fun x => .str x)
theorem get_s {l : List (List UInt8)} {i : Nat} (h : i < l.length) : ((l.map fun x => PV.str x).drop i).take 1 = [.str l[i]] := by
  rw [← List.map_drop, List.drop_eq_getElem_cons h, List.map_cons]; rfl
def bV (D : List Fld) : PV := .sl (.tok 0) (if D = [] then 0 else 1) (flatF D).length ((flatF D).map b8)
def wV (D : List Fld) : PV := .sl (.tok 1) (if D = [] then 0 else 2) D.length (fl D)
section
variable (names bodies : List (List UInt8)) (rest : List UInt8) (n : Nat) (hn : n ≤ names.length) (hm : n ≤ bodies.length) (h20 : n ≤ 20)
include hn hm h20
theorem loop_fields (k0 : Nat) : ∃ D : List Fld, (∀ f ∈ D, goodF f) ∧ D.length ≤ 20 ∧ (flatF D).length ≤ 2000 ∧
    loopL 0 (evL T k0 q3_1) 21 [slS names, slS bodies, sl8 rest, .int .i64 n, .sl .nil 0 0 [], .sl .nil 0 0 [], .int .i64 0] [] = some (.ex 0, [sl8 rest, bV D, wV D], [.tok, .tok]) := by
  have lp := loop_post (n := 0) (body := evL T k0 q3_1) (σ := Nat × List Fld) (fun s => [slS names, slS bodies, sl8 rest, .int .i64 n, bV s.2, wV s.2, .int .i64 s.1]) (fun _ => [.tok, .tok]) (fun s => n - s.1)
    (fun s => s.1 ≤ n ∧ (∀ f ∈ s.2, goodF f) ∧ s.2.length ≤ s.1 ∧ (flatF s.2).length ≤ 93 * s.1) (fun r => ∃ D, (∀ f ∈ D, goodF f) ∧ D.length ≤ 20 ∧ (flatF D).length ≤ 2000 ∧ r = (.ex 0, [sl8 rest, bV D, wV D], [.tok, .tok])) ?_ 21 (0, []) [slS names, slS bodies, sl8 rest, .int .i64 n, .sl .nil 0 0 [], .sl .nil 0 0 [], .int .i64 (0 : Nat)] [] rfl ⟨Nat.zero_le _, fun f h => (by cases h), Nat.le_refl _, Nat.le_refl _⟩ (by dsimp only; omega)
  · obtain ⟨r, lp, D, hD, hl, hf, rfl⟩ := lp
    exact ⟨D, hD, hl, hf, lp⟩
  rintro ⟨i, D⟩ ⟨hi, hD, hl, hf⟩
  dsimp only at hi hD hl hf ⊢
  rcases Nat.lt_or_ge i n with h | h
  · have g1 : (i : Int) < n := by omega
    have g2 : (i : Int) < names.length := by omega
    have g3 : (i : Int) < bodies.length := by omega
    have gn := get_s (l := names) (i := i) (by omega)
    have gb := get_s (l := bodies) (i := i) (by omega)
    generalize names[i] = nm at *
    generalize bodies[i] = bd at *
    have w1 := wr1 (show i < 9223372036854775807 by omega)
    by_cases hc : nm.length ≤ 30 ∧ bd.length ≤ 60 ∧ nmOk nm = true ∧ bd.all plC = true
    · obtain ⟨k1, k2, k3, k4⟩ := hc
      have c10 := T10 nm (by omega)
      have c11 := T11 bd (by omega)
      rw [k3] at c10
      rw [k4] at c11
      have z1 : ¬ (30 : Int) < nm.length := by omega
      have z2 : ¬ (60 : Int) < bd.length := by omega
      have a1 := sbin_add (s := nm) (u := [58]) (by simp; omega)
      have a2 := sbin_add (s := nm ++ [58]) (u := bd) (by simp; omega)
      have a3 := sbin_add (s := nm ++ [58] ++ bd) (u := [13, 10]) (by simp; omega)
      have hsl : (nm ++ [58] ++ bd ++ [13, 10]).length = nm.length + bd.length + 3 := by simp; omega
      have hsn := flatF_snoc D (nm, bd)
      dsimp only at hsn
      generalize hS : nm ++ [58] ++ bd ++ [13, 10] = S at *
      have r1 : (D.length + 1) * 32 ≤ roomMax := by unfold roomMax; omega
      have r2 : (flatF D).length + S.length ≤ roomMax := by unfold roomMax; omega
      have z3 : ((if D = [] then 0 else 1) = 1 ∨ (if D = [] then 0 else 1) = 0) := by split <;> simp
      have z4 : ((if D = [] then 0 else 2) = 2 ∨ (if D = [] then 0 else 2) = 0) := by split <;> simp
      have hlen : (flatF (D ++ [(nm, bd)])).length = (flatF D).length + S.length := by rw [hsn, List.length_append]
      refine .inr ⟨(i + 1, D ++ [(nm, bd)]), ?_⟩
      apply Exists.intro
      apply Exists.intro
      refine ⟨?_, ?_, ⟨h, fun f hf' => ?_, ?_, ?_⟩, by dsimp only; omega⟩
      · simp only [q3_1, q3_0, evL_op, evL_sel, evL_nx, evL_exit, evL_ret, evL_join, evL_block, evL_cond, evK_some, evJ_nx, evJ_rt, evJ_ex, evB_nx, evB_rt, evB_ex, evC2_bool, evS_and, evS_or, evS_tf, evS_ft, ev_t, ev_s, ev_c, evalOp, bin_add, bin_sub, bin_mul, bin_eql, bin_neq, bin_lss, bin_leq, bin_gtr, bin_geq, sbin_eql, sbin_neq, b8, List.map_cons, List.map_nil, PV.rens, PV.ren, if_true, if_false, Bool.false_eq_true, reduceIte, Nat.reduceAdd, Nat.reduceSub, Nat.reduceMul, Nat.reduceEqDiff, Nat.reduceLeDiff, Int.reduceLE, Int.reduceLT, Int.reduceEq, Int.reduceToNat, Int.reduceAdd, Int.reduceSub, Int.reduceNeg, decide_true, decide_false, Bool.not_true, Bool.not_false, Bool.true_and, Bool.false_and, Bool.and_true, Bool.and_false, Bool.or_true, Bool.true_or, Bool.or_false, Bool.false_or, and_self, and_true, true_and, Nat.le_refl, Nat.zero_add, Nat.mul_one, Nat.one_ne_zero, Nat.zero_le, highP, lowP, Option.map_some, Option.map_none, List.drop_zero, List.take_zero, List.length_cons, List.length_nil, List.nil_append, List.append_nil, List.cons_append, fillP, PV.cells?, PV.one, PV.cleans, PV.clean, PV.of?, List.all_cons, List.all_nil, List.take_succ_cons, List.drop_succ_cons, Bool.and_self, Int.natCast_nonneg, Int.toNat_natCast, Int.toNat_zero, PV.of?, Tk.ren, tailP, evL_loop, or_true, true_or, Nat.zero_lt_one, Nat.sub_zero, List.getElem?_cons_zero, List.getElem?_cons_succ, List.set_cons_zero, List.set_cons_succ, List.take_length, PV.rens, PV.ren, bV, wV, g1, g2, g3, gn, gb, c10, c11, w1, z1, z2, z3, z4, a1, a2, a3, r1, r2, Nat.one_mul, (show 0 < 2 by decide)]
        rfl
      · unfold bV wV
        rw [if_neg (by simp), if_neg (by simp), hlen, hsn, fl_app, fl_one, List.map_append, show (D ++ [(nm, bd)]).length = D.length + 1 by simp]
        rfl
      · rcases List.mem_append.1 hf' with hf' | hf'
        · exact hD f hf'
        · rw [List.mem_singleton.1 hf']; exact ⟨k3, plC_cl k4⟩
      · simp; omega
      · dsimp only; omega
    · refine .inr ⟨(i + 1, D), [slS names, slS bodies, sl8 rest, .int .i64 n, bV D, wV D, .int .i64 ((i + 1 : Nat) : Int)], [.tok, .tok], ?_, rfl, ⟨h, hD, by dsimp only; omega, by dsimp only; omega⟩, by dsimp only; omega⟩
      by_cases k1 : (30 : Int) < nm.length
      · simp only [q3_1, q3_0, evL_op, evL_sel, evL_nx, evL_exit, evL_ret, evL_join, evL_block, evL_cond, evK_some, evJ_nx, evJ_rt, evJ_ex, evB_nx, evB_rt, evB_ex, evC2_bool, evS_and, evS_or, evS_tf, evS_ft, ev_t, ev_s, ev_c, evalOp, bin_add, bin_sub, bin_mul, bin_eql, bin_neq, bin_lss, bin_leq, bin_gtr, bin_geq, sbin_eql, sbin_neq, b8, List.map_cons, List.map_nil, PV.rens, PV.ren, if_true, if_false, Bool.false_eq_true, reduceIte, Nat.reduceAdd, Nat.reduceSub, Nat.reduceMul, Nat.reduceEqDiff, Nat.reduceLeDiff, Int.reduceLE, Int.reduceLT, Int.reduceEq, Int.reduceToNat, Int.reduceAdd, Int.reduceSub, Int.reduceNeg, decide_true, decide_false, Bool.not_true, Bool.not_false, Bool.true_and, Bool.false_and, Bool.and_true, Bool.and_false, Bool.or_true, Bool.true_or, Bool.or_false, Bool.false_or, and_self, and_true, true_and, Nat.le_refl, Nat.zero_add, Nat.mul_one, Nat.one_ne_zero, Nat.zero_le, highP, lowP, Option.map_some, Option.map_none, List.drop_zero, List.take_zero, List.length_cons, List.length_nil, List.nil_append, List.append_nil, List.cons_append, fillP, PV.cells?, PV.one, PV.cleans, PV.clean, PV.of?, List.all_cons, List.all_nil, List.take_succ_cons, List.drop_succ_cons, Bool.and_self, Int.natCast_nonneg, Int.toNat_natCast, Int.toNat_zero, PV.of?, Tk.ren, tailP, evL_loop, or_true, true_or, Nat.zero_lt_one, Nat.sub_zero, List.getElem?_cons_zero, List.getElem?_cons_succ, List.set_cons_zero, List.set_cons_succ, List.take_length, PV.rens, PV.ren, bV, wV, g1, g2, g3, gn, gb, w1, k1]
      by_cases k2 : (60 : Int) < bd.length
      · simp only [q3_1, q3_0, evL_op, evL_sel, evL_nx, evL_exit, evL_ret, evL_join, evL_block, evL_cond, evK_some, evJ_nx, evJ_rt, evJ_ex, evB_nx, evB_rt, evB_ex, evC2_bool, evS_and, evS_or, evS_tf, evS_ft, ev_t, ev_s, ev_c, evalOp, bin_add, bin_sub, bin_mul, bin_eql, bin_neq, bin_lss, bin_leq, bin_gtr, bin_geq, sbin_eql, sbin_neq, b8, List.map_cons, List.map_nil, PV.rens, PV.ren, if_true, if_false, Bool.false_eq_true, reduceIte, Nat.reduceAdd, Nat.reduceSub, Nat.reduceMul, Nat.reduceEqDiff, Nat.reduceLeDiff, Int.reduceLE, Int.reduceLT, Int.reduceEq, Int.reduceToNat, Int.reduceAdd, Int.reduceSub, Int.reduceNeg, decide_true, decide_false, Bool.not_true, Bool.not_false, Bool.true_and, Bool.false_and, Bool.and_true, Bool.and_false, Bool.or_true, Bool.true_or, Bool.or_false, Bool.false_or, and_self, and_true, true_and, Nat.le_refl, Nat.zero_add, Nat.mul_one, Nat.one_ne_zero, Nat.zero_le, highP, lowP, Option.map_some, Option.map_none, List.drop_zero, List.take_zero, List.length_cons, List.length_nil, List.nil_append, List.append_nil, List.cons_append, fillP, PV.cells?, PV.one, PV.cleans, PV.clean, PV.of?, List.all_cons, List.all_nil, List.take_succ_cons, List.drop_succ_cons, Bool.and_self, Int.natCast_nonneg, Int.toNat_natCast, Int.toNat_zero, PV.of?, Tk.ren, tailP, evL_loop, or_true, true_or, Nat.zero_lt_one, Nat.sub_zero, List.getElem?_cons_zero, List.getElem?_cons_succ, List.set_cons_zero, List.set_cons_succ, List.take_length, PV.rens, PV.ren, bV, wV, g1, g2, g3, gn, gb, w1, k1, k2]
      have c10 := T10 nm (by omega)
      have c11 := T11 bd (by omega)
      cases k3 : nmOk nm with
      | false =>
        rw [k3] at c10
        simp only [q3_1, q3_0, evL_op, evL_sel, evL_nx, evL_exit, evL_ret, evL_join, evL_block, evL_cond, evK_some, evJ_nx, evJ_rt, evJ_ex, evB_nx, evB_rt, evB_ex, evC2_bool, evS_and, evS_or, evS_tf, evS_ft, ev_t, ev_s, ev_c, evalOp, bin_add, bin_sub, bin_mul, bin_eql, bin_neq, bin_lss, bin_leq, bin_gtr, bin_geq, sbin_eql, sbin_neq, b8, List.map_cons, List.map_nil, PV.rens, PV.ren, if_true, if_false, Bool.false_eq_true, reduceIte, Nat.reduceAdd, Nat.reduceSub, Nat.reduceMul, Nat.reduceEqDiff, Nat.reduceLeDiff, Int.reduceLE, Int.reduceLT, Int.reduceEq, Int.reduceToNat, Int.reduceAdd, Int.reduceSub, Int.reduceNeg, decide_true, decide_false, Bool.not_true, Bool.not_false, Bool.true_and, Bool.false_and, Bool.and_true, Bool.and_false, Bool.or_true, Bool.true_or, Bool.or_false, Bool.false_or, and_self, and_true, true_and, Nat.le_refl, Nat.zero_add, Nat.mul_one, Nat.one_ne_zero, Nat.zero_le, highP, lowP, Option.map_some, Option.map_none, List.drop_zero, List.take_zero, List.length_cons, List.length_nil, List.nil_append, List.append_nil, List.cons_append, fillP, PV.cells?, PV.one, PV.cleans, PV.clean, PV.of?, List.all_cons, List.all_nil, List.take_succ_cons, List.drop_succ_cons, Bool.and_self, Int.natCast_nonneg, Int.toNat_natCast, Int.toNat_zero, PV.of?, Tk.ren, tailP, evL_loop, or_true, true_or, Nat.zero_lt_one, Nat.sub_zero, List.getElem?_cons_zero, List.getElem?_cons_succ, List.set_cons_zero, List.set_cons_succ, List.take_length, PV.rens, PV.ren, bV, wV, g1, g2, g3, gn, gb, c10, w1, k1, k2]
        try rfl
      | true =>
        rw [k3] at c10
        cases k4 : bd.all plC with
        | true => exact absurd ⟨by omega, by omega, k3, k4⟩ hc
        | false =>
          rw [k4] at c11
          simp only [q3_1, q3_0, evL_op, evL_sel, evL_nx, evL_exit, evL_ret, evL_join, evL_block, evL_cond, evK_some, evJ_nx, evJ_rt, evJ_ex, evB_nx, evB_rt, evB_ex, evC2_bool, evS_and, evS_or, evS_tf, evS_ft, ev_t, ev_s, ev_c, evalOp, bin_add, bin_sub, bin_mul, bin_eql, bin_neq, bin_lss, bin_leq, bin_gtr, bin_geq, sbin_eql, sbin_neq, b8, List.map_cons, List.map_nil, PV.rens, PV.ren, if_true, if_false, Bool.false_eq_true, reduceIte, Nat.reduceAdd, Nat.reduceSub, Nat.reduceMul, Nat.reduceEqDiff, Nat.reduceLeDiff, Int.reduceLE, Int.reduceLT, Int.reduceEq, Int.reduceToNat, Int.reduceAdd, Int.reduceSub, Int.reduceNeg, decide_true, decide_false, Bool.not_true, Bool.not_false, Bool.true_and, Bool.false_and, Bool.and_true, Bool.and_false, Bool.or_true, Bool.true_or, Bool.or_false, Bool.false_or, and_self, and_true, true_and, Nat.le_refl, Nat.zero_add, Nat.mul_one, Nat.one_ne_zero, Nat.zero_le, highP, lowP, Option.map_some, Option.map_none, List.drop_zero, List.take_zero, List.length_cons, List.length_nil, List.nil_append, List.append_nil, List.cons_append, fillP, PV.cells?, PV.one, PV.cleans, PV.clean, PV.of?, List.all_cons, List.all_nil, List.take_succ_cons, List.drop_succ_cons, Bool.and_self, Int.natCast_nonneg, Int.toNat_natCast, Int.toNat_zero, PV.of?, Tk.ren, tailP, evL_loop, or_true, true_or, Nat.zero_lt_one, Nat.sub_zero, List.getElem?_cons_zero, List.getElem?_cons_succ, List.set_cons_zero, List.set_cons_succ, List.take_length, PV.rens, PV.ren, bV, wV, g1, g2, g3, gn, gb, c10, c11, w1, k1, k2]
          try rfl
  · refine .inl ⟨_, ?_, ?_, D, hD, by omega, by omega, rfl⟩
    · have g1 : ¬ (i : Int) < n := by omega
      simp only [q3_1, evL_op, evL_sel, evL_nx, evL_exit, evL_ret, evL_join, evL_block, evL_cond, evK_some, evJ_nx, evJ_rt, evJ_ex, evB_nx, evB_rt, evB_ex, evC2_bool, evS_and, evS_or, evS_tf, evS_ft, ev_t, ev_s, ev_c, evalOp, bin_add, bin_sub, bin_mul, bin_eql, bin_neq, bin_lss, bin_leq, bin_gtr, bin_geq, sbin_eql, sbin_neq, b8, List.map_cons, List.map_nil, PV.rens, PV.ren, if_true, if_false, Bool.false_eq_true, reduceIte, Nat.reduceAdd, Nat.reduceSub, Nat.reduceMul, Nat.reduceEqDiff, Nat.reduceLeDiff, Int.reduceLE, Int.reduceLT, Int.reduceEq, Int.reduceToNat, Int.reduceAdd, Int.reduceSub, Int.reduceNeg, decide_true, decide_false, Bool.not_true, Bool.not_false, Bool.true_and, Bool.false_and, Bool.and_true, Bool.and_false, Bool.or_true, Bool.true_or, Bool.or_false, Bool.false_or, and_self, and_true, true_and, Nat.le_refl, Nat.zero_add, Nat.mul_one, Nat.one_ne_zero, Nat.zero_le, highP, lowP, Option.map_some, Option.map_none, List.drop_zero, List.take_zero, List.length_cons, List.length_nil, List.nil_append, List.append_nil, List.cons_append, fillP, PV.cells?, PV.one, PV.cleans, PV.clean, PV.of?, List.all_cons, List.all_nil, List.take_succ_cons, List.drop_succ_cons, Bool.and_self, Int.natCast_nonneg, Int.toNat_natCast, Int.toNat_zero, PV.of?, Tk.ren, tailP, evL_loop, or_true, true_or, Nat.zero_lt_one, Nat.sub_zero, List.getElem?_cons_zero, List.getElem?_cons_succ, List.set_cons_zero, List.set_cons_succ, List.take_length, g1]
    · simp
end
theorem lawHeadFields (names : List (List UInt8)) (hn : names.length ≤ room ∧ ∀ y ∈ names, y.length ≤ room) (bodies : List (List UInt8)) (hm : bodies.length ≤ room ∧ ∀ y ∈ bodies, y.length ≤ room) (rest : List UInt8) (hr : rest.length ≤ room ∧ ∀ y ∈ rest, True) :
    evT lt ov 3 [.sl .no 1 names.length (names.map fun l => .str l), .sl .no 1 bodies.length (bodies.map fun l => .str l), .sl .no 1 rest.length (rest.map b8)] [] = some (.bool true, []) := by
  obtain ⟨hn, hn2⟩ := hn
  obtain ⟨hm, hm2⟩ := hm
  obtain ⟨hr, _⟩ := hr
  show T 3 [slS names, slS bodies, sl8 rest] [] = _
  have fin : ∀ {H : Hp}, evL T 21 q3 [slS names, slS bodies, sl8 rest] [] = some (.rt, [.bool true], H) → T 3 [slS names, slS bodies, sl8 rest] [] = some (.bool true, []) := fun {H} h =>
    evT_of (k := 21) (F := l3) (H' := H) (e := [.bool true]) (l := [.bool true]) rfl rfl rfl h rfl rfl
  obtain ⟨n, hnn, hn3⟩ : ∃ n : Nat, (if (bodies.length : Int) < names.length then (bodies.length : Int) else names.length) = (n : Int) ∧ n ≤ names.length ∧ n ≤ bodies.length := by
    by_cases h : bodies.length < names.length
    · exact ⟨bodies.length, if_pos (by omega), by omega, Nat.le_refl _⟩
    · exact ⟨names.length, if_neg (by omega), Nat.le_refl _, by omega⟩
  by_cases h1 : (20 : Int) < n
  · apply fin
    simp only [q3, evL_op, evL_sel, evL_nx, evL_exit, evL_ret, evL_join, evL_block, evL_cond, evK_some, evJ_nx, evJ_rt, evJ_ex, evB_nx, evB_rt, evB_ex, evC2_bool, evS_and, evS_or, evS_tf, evS_ft, ev_t, ev_s, ev_c, evalOp, bin_add, bin_sub, bin_mul, bin_eql, bin_neq, bin_lss, bin_leq, bin_gtr, bin_geq, sbin_eql, sbin_neq, b8, List.map_cons, List.map_nil, PV.rens, PV.ren, if_true, if_false, Bool.false_eq_true, reduceIte, Nat.reduceAdd, Nat.reduceSub, Nat.reduceMul, Nat.reduceEqDiff, Nat.reduceLeDiff, Int.reduceLE, Int.reduceLT, Int.reduceEq, Int.reduceToNat, Int.reduceAdd, Int.reduceSub, Int.reduceNeg, decide_true, decide_false, Bool.not_true, Bool.not_false, Bool.true_and, Bool.false_and, Bool.and_true, Bool.and_false, Bool.or_true, Bool.true_or, Bool.or_false, Bool.false_or, and_self, and_true, true_and, Nat.le_refl, Nat.zero_add, Nat.mul_one, Nat.one_ne_zero, Nat.zero_le, highP, lowP, Option.map_some, Option.map_none, List.drop_zero, List.take_zero, List.length_cons, List.length_nil, List.nil_append, List.append_nil, List.cons_append, fillP, PV.cells?, PV.one, PV.cleans, PV.clean, PV.of?, List.all_cons, List.all_nil, List.take_succ_cons, List.drop_succ_cons, Bool.and_self, Int.natCast_nonneg, Int.toNat_natCast, Int.toNat_zero, PV.of?, Tk.ren, tailP, evL_loop, or_true, true_or, Nat.zero_lt_one, Nat.sub_zero, List.getElem?_cons_zero, List.getElem?_cons_succ, List.set_cons_zero, List.set_cons_succ, List.take_length, hnn, h1] <;> rfl
  by_cases h2 : (2000 : Int) < rest.length
  · apply fin
    simp only [q3, evL_op, evL_sel, evL_nx, evL_exit, evL_ret, evL_join, evL_block, evL_cond, evK_some, evJ_nx, evJ_rt, evJ_ex, evB_nx, evB_rt, evB_ex, evC2_bool, evS_and, evS_or, evS_tf, evS_ft, ev_t, ev_s, ev_c, evalOp, bin_add, bin_sub, bin_mul, bin_eql, bin_neq, bin_lss, bin_leq, bin_gtr, bin_geq, sbin_eql, sbin_neq, b8, List.map_cons, List.map_nil, PV.rens, PV.ren, if_true, if_false, Bool.false_eq_true, reduceIte, Nat.reduceAdd, Nat.reduceSub, Nat.reduceMul, Nat.reduceEqDiff, Nat.reduceLeDiff, Int.reduceLE, Int.reduceLT, Int.reduceEq, Int.reduceToNat, Int.reduceAdd, Int.reduceSub, Int.reduceNeg, decide_true, decide_false, Bool.not_true, Bool.not_false, Bool.true_and, Bool.false_and, Bool.and_true, Bool.and_false, Bool.or_true, Bool.true_or, Bool.or_false, Bool.false_or, and_self, and_true, true_and, Nat.le_refl, Nat.zero_add, Nat.mul_one, Nat.one_ne_zero, Nat.zero_le, highP, lowP, Option.map_some, Option.map_none, List.drop_zero, List.take_zero, List.length_cons, List.length_nil, List.nil_append, List.append_nil, List.cons_append, fillP, PV.cells?, PV.one, PV.cleans, PV.clean, PV.of?, List.all_cons, List.all_nil, List.take_succ_cons, List.drop_succ_cons, Bool.and_self, Int.natCast_nonneg, Int.toNat_natCast, Int.toNat_zero, PV.of?, Tk.ren, tailP, evL_loop, or_true, true_or, Nat.zero_lt_one, Nat.sub_zero, List.getElem?_cons_zero, List.getElem?_cons_succ, List.set_cons_zero, List.set_cons_succ, List.take_length, hnn, h1, h2] <;> rfl
  have c9 := T9 rest (by omega)
  cases hb : body rest with
  | false =>
    rw [hb] at c9
    apply fin
    simp only [q3, evL_op, evL_sel, evL_nx, evL_exit, evL_ret, evL_join, evL_block, evL_cond, evK_some, evJ_nx, evJ_rt, evJ_ex, evB_nx, evB_rt, evB_ex, evC2_bool, evS_and, evS_or, evS_tf, evS_ft, ev_t, ev_s, ev_c, evalOp, bin_add, bin_sub, bin_mul, bin_eql, bin_neq, bin_lss, bin_leq, bin_gtr, bin_geq, sbin_eql, sbin_neq, b8, List.map_cons, List.map_nil, PV.rens, PV.ren, if_true, if_false, Bool.false_eq_true, reduceIte, Nat.reduceAdd, Nat.reduceSub, Nat.reduceMul, Nat.reduceEqDiff, Nat.reduceLeDiff, Int.reduceLE, Int.reduceLT, Int.reduceEq, Int.reduceToNat, Int.reduceAdd, Int.reduceSub, Int.reduceNeg, decide_true, decide_false, Bool.not_true, Bool.not_false, Bool.true_and, Bool.false_and, Bool.and_true, Bool.and_false, Bool.or_true, Bool.true_or, Bool.or_false, Bool.false_or, and_self, and_true, true_and, Nat.le_refl, Nat.zero_add, Nat.mul_one, Nat.one_ne_zero, Nat.zero_le, highP, lowP, Option.map_some, Option.map_none, List.drop_zero, List.take_zero, List.length_cons, List.length_nil, List.nil_append, List.append_nil, List.cons_append, fillP, PV.cells?, PV.one, PV.cleans, PV.clean, PV.of?, List.all_cons, List.all_nil, List.take_succ_cons, List.drop_succ_cons, Bool.and_self, Int.natCast_nonneg, Int.toNat_natCast, Int.toNat_zero, PV.of?, Tk.ren, tailP, evL_loop, or_true, true_or, Nat.zero_lt_one, Nat.sub_zero, List.getElem?_cons_zero, List.getElem?_cons_succ, List.set_cons_zero, List.set_cons_succ, List.take_length, PV.rens, PV.ren, hnn, h1, h2, c9] <;> rfl
  | true =>
    rw [hb] at c9
    obtain ⟨D, hD, hl, hf, lp⟩ := loop_fields names bodies rest n hn3.1 hn3.2 (by omega) 21
    obtain ⟨t1, t2⟩ := flat_text hD hb
    obtain ⟨z, m, L, t, H, htH, c12, hfs, _⟩ := scans (flatF D ++ [13, 10] ++ rest) (by simp; omega) t1
    rw [t2] at c12 hfs
    dsimp only at c12 hfs
    have e : sl8 (flatF D ++ [13, 10] ++ rest) = .sl .no 1 ((flatF D).length + 2 + rest.length) ((flatF D).map b8 ++ [.int .u8 13, .int .u8 10] ++ rest.map b8) := by
      unfold sl8
      rw [List.length_append, List.length_append, List.map_append, List.map_append]
      rfl
    rw [e] at c12
    have c13 := T13 hfs (q := .sl .no (if D = [] then 0 else 2) D.length (fl D)) ⟨.no, _, rfl, .inl rfl, by by_cases h : D = [] <;> simp [h]⟩ (by omega)
    have w1 : IntKind.i64.wrap (((flatF D).length : Int) + 2) = (((flatF D).length + 2 : Nat) : Int) := by rw [wr (by omega) (by omega)]; omega
    have z3 : ((if D = [] then 0 else 1) = 1 ∨ (if D = [] then 0 else 1) = 0) := by split <;> simp
    have r1 : (flatF D).length + 2 ≤ roomMax := by unfold roomMax; omega
    have r2 : (flatF D).length + 2 + rest.length ≤ roomMax := by unfold roomMax; omega
    unfold bV wV at lp
    rcases htH with ⟨rfl, rfl⟩ | ⟨rfl, rfl⟩ <;> (apply fin; simp only [q3, evL_op, evL_sel, evL_nx, evL_exit, evL_ret, evL_join, evL_block, evL_cond, evK_some, evJ_nx, evJ_rt, evJ_ex, evB_nx, evB_rt, evB_ex, evC2_bool, evS_and, evS_or, evS_tf, evS_ft, ev_t, ev_s, ev_c, evalOp, bin_add, bin_sub, bin_mul, bin_eql, bin_neq, bin_lss, bin_leq, bin_gtr, bin_geq, sbin_eql, sbin_neq, b8, List.map_cons, List.map_nil, PV.rens, PV.ren, if_true, if_false, Bool.false_eq_true, reduceIte, Nat.reduceAdd, Nat.reduceSub, Nat.reduceMul, Nat.reduceEqDiff, Nat.reduceLeDiff, Int.reduceLE, Int.reduceLT, Int.reduceEq, Int.reduceToNat, Int.reduceAdd, Int.reduceSub, Int.reduceNeg, decide_true, decide_false, Bool.not_true, Bool.not_false, Bool.true_and, Bool.false_and, Bool.and_true, Bool.and_false, Bool.or_true, Bool.true_or, Bool.or_false, Bool.false_or, and_self, and_true, true_and, Nat.le_refl, Nat.zero_add, Nat.mul_one, Nat.one_ne_zero, Nat.zero_le, highP, lowP, Option.map_some, Option.map_none, List.drop_zero, List.take_zero, List.length_cons, List.length_nil, List.nil_append, List.append_nil, List.cons_append, fillP, PV.cells?, PV.one, PV.cleans, PV.clean, PV.of?, List.all_cons, List.all_nil, List.take_succ_cons, List.drop_succ_cons, Bool.and_self, Int.natCast_nonneg, Int.toNat_natCast, Int.toNat_zero, PV.of?, Tk.ren, tailP, evL_loop, or_true, true_or, Nat.zero_lt_one, Nat.sub_zero, List.getElem?_cons_zero, List.getElem?_cons_succ, List.set_cons_zero, List.set_cons_succ, List.take_length, PV.rens, PV.ren, hnn, h1, h2, c9]; rw [lp]; simp only [q3_2, evL_op, evL_sel, evL_nx, evL_exit, evL_ret, evL_join, evL_block, evL_cond, evK_some, evJ_nx, evJ_rt, evJ_ex, evB_nx, evB_rt, evB_ex, evC2_bool, evS_and, evS_or, evS_tf, evS_ft, ev_t, ev_s, ev_c, evalOp, bin_add, bin_sub, bin_mul, bin_eql, bin_neq, bin_lss, bin_leq, bin_gtr, bin_geq, sbin_eql, sbin_neq, b8, List.map_cons, List.map_nil, PV.rens, PV.ren, if_true, if_false, Bool.false_eq_true, reduceIte, Nat.reduceAdd, Nat.reduceSub, Nat.reduceMul, Nat.reduceEqDiff, Nat.reduceLeDiff, Int.reduceLE, Int.reduceLT, Int.reduceEq, Int.reduceToNat, Int.reduceAdd, Int.reduceSub, Int.reduceNeg, decide_true, decide_false, Bool.not_true, Bool.not_false, Bool.true_and, Bool.false_and, Bool.and_true, Bool.and_false, Bool.or_true, Bool.true_or, Bool.or_false, Bool.false_or, and_self, and_true, true_and, Nat.le_refl, Nat.zero_add, Nat.mul_one, Nat.one_ne_zero, Nat.zero_le, highP, lowP, Option.map_some, Option.map_none, List.drop_zero, List.take_zero, List.length_cons, List.length_nil, List.nil_append, List.append_nil, List.cons_append, fillP, PV.cells?, PV.one, PV.cleans, PV.clean, PV.of?, List.all_cons, List.all_nil, List.take_succ_cons, List.drop_succ_cons, Bool.and_self, Int.natCast_nonneg, Int.toNat_natCast, Int.toNat_zero, PV.of?, Tk.ren, tailP, evL_loop, or_true, true_or, Nat.zero_lt_one, Nat.sub_zero, List.getElem?_cons_zero, List.getElem?_cons_succ, List.set_cons_zero, List.set_cons_succ, List.take_length, PV.rens, PV.ren, w1, z3, r1, r2, c12, c13, Nat.one_mul, shift, Nat.add_zero, T_wakes, beq_self_eq_true, eq_self, o0, o1, w00] <;> rfl)
end Go.Proofs.YtmdnloajpjfbmaaDoor.Tab
