/- Headers: what head.name and head.Scan tell. -/
import Derived.Test.YtghnffhgmhfofaaDoorDots
namespace Go.Proofs.YtghnffhgmhfofaaDoor.Tab
set_option linter.all false
open Go Go.RowKit Go.Proofs.YtghnffhgmhfofaaDoor.Ev
def badC (c : UInt8) : Bool := decide ((c.toNat : Int) < 33) || decide ((126 : Int) < c.toNat)
def nmGo (pre : List UInt8) : List UInt8 → Option (List UInt8 × List UInt8 × Bool)
  | [] => none
  | c :: r => if (c == 58) = true then some (pre, r, decide ((0 : Int) < pre.length)) else if badC c = true then some ([], [], false) else nmGo (pre ++ [c]) r
/-- A field's name, what stands behind it; false: a line begins none. -/
def nameF (l : List UInt8) : List UInt8 × List UInt8 × Bool := (nmGo [] l).getD ([], [], false)
theorem b2s_take {l : List UInt8} {i : Nat} {H : Hp} : (if i = 0 then some (PV.str [], H) else some (PV.str (l.take i), H)) = some (PV.str (l.take i), H) := by
  split
  · rename_i h; subst h; rfl
  · rfl
theorem b2s_drop {l : List UInt8} {i : Nat} {H : Hp} : (if l.length - i = 0 then some (PV.str [], H) else some (PV.str (l.drop i), H)) = some (PV.str (l.drop i), H) := by
  split
  · rename_i h; rw [List.drop_of_length_le (by omega)]
  · rfl
theorem byte_eqd (c : UInt8) (n : Nat) (hn : n < 256) : decide ((c.toNat : Int) = n) = (c == UInt8.ofNat n) := by
  have := byte_ne c n hn
  rw [← Bool.not_not (decide ((c.toNat : Int) = n)), this, Bool.not_not]
theorem T31 (l : List UInt8) (hl : l.length ≤ 1000000000) : T 31 [sl8 l] [] = some (.tup [.str (nameF l).1, .str (nameF l).2.1, .bool (nameF l).2.2], []) := by
  refine evT_of (k := l.length + 1) (F := l31) (H' := []) (e := [.str (nameF l).1, .str (nameF l).2.1, .bool (nameF l).2.2]) (l := [.str (nameF l).1, .str (nameF l).2.1, .bool (nameF l).2.2]) rfl rfl rfl ?_ rfl rfl
  show evL T (l.length + 1) q31 _ _ = _
  have lp := loop_law (n := 0) (body := evL T (l.length + 1) q31_2) (σ := Nat) (fun i => [sl8 l, sl8 l, .int .i64 l.length, .int .i64 i]) (fun _ => []) (fun i => l.length - i) (fun i => i ≤ l.length)
    (fun i => match nmGo (l.take i) (l.drop i) with | none => (.ex 0, [], []) | some (k, r, t) => (.rt, [.str k, .str r, .bool t], [])) (by
      intro i hi
      rcases Nat.lt_or_ge i l.length with h | h
      · have h3 : (i : Int) < l.length := by omega
        have hg := get_b8 h
        have e58 := byte_eqd l[i] 58 (by decide)
        rw [show ((58 : Nat) : Int) = 58 from rfl, show UInt8.ofNat 58 = 58 from rfl] at e58
        rw [List.drop_eq_getElem_cons h]
        by_cases hc : (l[i] == 58) = true
        · refine .inl ?_
          unfold nmGo
          rw [if_pos hc]
          refine ⟨?_, by simp⟩
          have e1 : (l.map b8).take i = (l.take i).map b8 := by rw [List.map_take]
          have e2 : (l.map b8).take l.length = l.map b8 := List.take_of_length_le (by simp)
          have e3 : (l.map b8).drop (i + 1) = (l.drop (i + 1)).map b8 := by rw [List.map_drop]
          have hi1 : ((i + 1 : Nat) : Int) ≤ l.length := by omega
          have hi2 : i + 1 ≤ l.length := by omega
          have hi3 : (i : Int) ≤ l.length := by omega
          have e4 : (l.take i).length = i := by rw [List.length_take]; omega
          simp only [q31_2, evL_op, evL_sel, evL_nx, evL_exit, evL_ret, evL_join, evL_block, evL_cond, evK_some, evJ_nx, evJ_rt, evJ_ex, evB_nx, evB_rt, evB_ex, evC2_bool, evS_and, evS_or, evS_tf, evS_ft, ev_t, ev_s, ev_c, evalOp, bin_add, bin_sub, bin_mul, bin_eql, bin_neq, bin_lss, bin_leq, bin_gtr, bin_geq, sbin_eql, sbin_neq, b8, List.map_cons, List.map_nil, PV.rens, PV.ren, if_true, if_false, Bool.false_eq_true, reduceIte, Nat.reduceAdd, Nat.reduceSub, Nat.reduceMul, Nat.reduceEqDiff, Nat.reduceLeDiff, Int.reduceLE, Int.reduceLT, Int.reduceEq, Int.reduceToNat, Int.reduceAdd, Int.reduceSub, Int.reduceNeg, decide_true, decide_false, Bool.not_true, Bool.not_false, Bool.true_and, Bool.false_and, Bool.and_true, Bool.and_false, Bool.or_true, Bool.true_or, Bool.or_false, Bool.false_or, and_self, and_true, true_and, Nat.le_refl, Nat.zero_add, Nat.mul_one, Nat.one_ne_zero, Nat.zero_le, highP, lowP, Option.map_some, Option.map_none, List.drop_zero, List.take_zero, List.length_cons, List.length_nil, List.nil_append, List.append_nil, List.cons_append, fillP, PV.cells?, PV.one, PV.cleans, PV.clean, PV.of?, List.all_cons, List.all_nil, List.take_succ_cons, List.drop_succ_cons, Bool.and_self, Int.natCast_nonneg, Int.toNat_natCast, Int.toNat_zero, PV.of?, Tk.ren, tailP, evL_loop, or_true, true_or, Nat.zero_lt_one, Nat.sub_zero, List.getElem?_cons_zero, List.getElem?_cons_succ, List.set_cons_zero, List.set_cons_succ, List.take_length, h3, hg, e58, hc, e1, e2, e3, e4, hi1, hi2, hi3, bytes8_map, b2s_take, b2s_drop, wr1 (show i < 9223372036854775807 by omega)]
        · have hc' : (l[i] == 58) = false := by simpa using hc
          by_cases hb : badC l[i] = true
          · refine .inl ?_
            unfold nmGo
            rw [if_neg hc, if_pos hb]
            refine ⟨?_, by simp⟩
            unfold badC at hb
            simp only [q31_2, evL_op, evL_sel, evL_nx, evL_exit, evL_ret, evL_join, evL_block, evL_cond, evK_some, evJ_nx, evJ_rt, evJ_ex, evB_nx, evB_rt, evB_ex, evC2_bool, evS_and, evS_or, evS_tf, evS_ft, ev_t, ev_s, ev_c, evalOp, bin_add, bin_sub, bin_mul, bin_eql, bin_neq, bin_lss, bin_leq, bin_gtr, bin_geq, sbin_eql, sbin_neq, b8, List.map_cons, List.map_nil, PV.rens, PV.ren, if_true, if_false, Bool.false_eq_true, reduceIte, Nat.reduceAdd, Nat.reduceSub, Nat.reduceMul, Nat.reduceEqDiff, Nat.reduceLeDiff, Int.reduceLE, Int.reduceLT, Int.reduceEq, Int.reduceToNat, Int.reduceAdd, Int.reduceSub, Int.reduceNeg, decide_true, decide_false, Bool.not_true, Bool.not_false, Bool.true_and, Bool.false_and, Bool.and_true, Bool.and_false, Bool.or_true, Bool.true_or, Bool.or_false, Bool.false_or, and_self, and_true, true_and, Nat.le_refl, Nat.zero_add, Nat.mul_one, Nat.one_ne_zero, Nat.zero_le, highP, lowP, Option.map_some, Option.map_none, List.drop_zero, List.take_zero, List.length_cons, List.length_nil, List.nil_append, List.append_nil, List.cons_append, fillP, PV.cells?, PV.one, PV.cleans, PV.clean, PV.of?, List.all_cons, List.all_nil, List.take_succ_cons, List.drop_succ_cons, Bool.and_self, Int.natCast_nonneg, Int.toNat_natCast, Int.toNat_zero, PV.of?, Tk.ren, tailP, evL_loop, or_true, true_or, Nat.zero_lt_one, Nat.sub_zero, List.getElem?_cons_zero, List.getElem?_cons_succ, List.set_cons_zero, List.set_cons_succ, List.take_length, h3, hg, e58, hc', hb]
          · have hb' : badC l[i] = false := by simpa using hb
            refine .inr ⟨i + 1, ?_⟩
            apply Exists.intro
            apply Exists.intro
            refine ⟨?_, ?_, h, by omega, ?_⟩
            · unfold badC at hb'
              simp only [q31_2, q31_1, q31_0, evL_op, evL_sel, evL_nx, evL_exit, evL_ret, evL_join, evL_block, evL_cond, evK_some, evJ_nx, evJ_rt, evJ_ex, evB_nx, evB_rt, evB_ex, evC2_bool, evS_and, evS_or, evS_tf, evS_ft, ev_t, ev_s, ev_c, evalOp, bin_add, bin_sub, bin_mul, bin_eql, bin_neq, bin_lss, bin_leq, bin_gtr, bin_geq, sbin_eql, sbin_neq, b8, List.map_cons, List.map_nil, PV.rens, PV.ren, if_true, if_false, Bool.false_eq_true, reduceIte, Nat.reduceAdd, Nat.reduceSub, Nat.reduceMul, Nat.reduceEqDiff, Nat.reduceLeDiff, Int.reduceLE, Int.reduceLT, Int.reduceEq, Int.reduceToNat, Int.reduceAdd, Int.reduceSub, Int.reduceNeg, decide_true, decide_false, Bool.not_true, Bool.not_false, Bool.true_and, Bool.false_and, Bool.and_true, Bool.and_false, Bool.or_true, Bool.true_or, Bool.or_false, Bool.false_or, and_self, and_true, true_and, Nat.le_refl, Nat.zero_add, Nat.mul_one, Nat.one_ne_zero, Nat.zero_le, highP, lowP, Option.map_some, Option.map_none, List.drop_zero, List.take_zero, List.length_cons, List.length_nil, List.nil_append, List.append_nil, List.cons_append, fillP, PV.cells?, PV.one, PV.cleans, PV.clean, PV.of?, List.all_cons, List.all_nil, List.take_succ_cons, List.drop_succ_cons, Bool.and_self, Int.natCast_nonneg, Int.toNat_natCast, Int.toNat_zero, PV.of?, Tk.ren, tailP, evL_loop, or_true, true_or, Nat.zero_lt_one, Nat.sub_zero, List.getElem?_cons_zero, List.getElem?_cons_succ, List.set_cons_zero, List.set_cons_succ, List.take_length, h3, hg, e58, hc', hb', wr1 (show i < 9223372036854775807 by omega)]
              rfl
            · rfl
            · conv => rhs; unfold nmGo
              rw [if_neg hc, if_neg hb, List.take_succ_eq_append_getElem h]
      · refine .inl ?_
        have h3 : ¬ (i : Int) < l.length := by omega
        rw [List.drop_of_length_le h]
        refine ⟨?_, by simp [nmGo]⟩
        unfold nmGo
        simp only [q31_2, evL_op, evL_sel, evL_nx, evL_exit, evL_ret, evL_join, evL_block, evL_cond, evK_some, evJ_nx, evJ_rt, evJ_ex, evB_nx, evB_rt, evB_ex, evC2_bool, evS_and, evS_or, evS_tf, evS_ft, ev_t, ev_s, ev_c, evalOp, bin_add, bin_sub, bin_mul, bin_eql, bin_neq, bin_lss, bin_leq, bin_gtr, bin_geq, sbin_eql, sbin_neq, b8, List.map_cons, List.map_nil, PV.rens, PV.ren, if_true, if_false, Bool.false_eq_true, reduceIte, Nat.reduceAdd, Nat.reduceSub, Nat.reduceMul, Nat.reduceEqDiff, Nat.reduceLeDiff, Int.reduceLE, Int.reduceLT, Int.reduceEq, Int.reduceToNat, Int.reduceAdd, Int.reduceSub, Int.reduceNeg, decide_true, decide_false, Bool.not_true, Bool.not_false, Bool.true_and, Bool.false_and, Bool.and_true, Bool.and_false, Bool.or_true, Bool.true_or, Bool.or_false, Bool.false_or, and_self, and_true, true_and, Nat.le_refl, Nat.zero_add, Nat.mul_one, Nat.one_ne_zero, Nat.zero_le, highP, lowP, Option.map_some, Option.map_none, List.drop_zero, List.take_zero, List.length_cons, List.length_nil, List.nil_append, List.append_nil, List.cons_append, fillP, PV.cells?, PV.one, PV.cleans, PV.clean, PV.of?, List.all_cons, List.all_nil, List.take_succ_cons, List.drop_succ_cons, Bool.and_self, Int.natCast_nonneg, Int.toNat_natCast, Int.toNat_zero, PV.of?, Tk.ren, tailP, evL_loop, or_true, true_or, Nat.zero_lt_one, Nat.sub_zero, List.getElem?_cons_zero, List.getElem?_cons_succ, List.set_cons_zero, List.set_cons_succ, List.take_length, h3]) (l.length + 1) 0 [sl8 l, sl8 l, .int .i64 l.length, .int .i64 (0 : Nat)] [] rfl (Nat.zero_le _) (by omega)
  rw [show ((0 : Nat) : Int) = 0 from rfl, List.take_zero, List.drop_zero] at lp
  simp only [q31, evL_op, evL_sel, evL_nx, evL_exit, evL_ret, evL_join, evL_block, evL_cond, evK_some, evJ_nx, evJ_rt, evJ_ex, evB_nx, evB_rt, evB_ex, evC2_bool, evS_and, evS_or, evS_tf, evS_ft, ev_t, ev_s, ev_c, evalOp, bin_add, bin_sub, bin_mul, bin_eql, bin_neq, bin_lss, bin_leq, bin_gtr, bin_geq, sbin_eql, sbin_neq, b8, List.map_cons, List.map_nil, PV.rens, PV.ren, if_true, if_false, Bool.false_eq_true, reduceIte, Nat.reduceAdd, Nat.reduceSub, Nat.reduceMul, Nat.reduceEqDiff, Nat.reduceLeDiff, Int.reduceLE, Int.reduceLT, Int.reduceEq, Int.reduceToNat, Int.reduceAdd, Int.reduceSub, Int.reduceNeg, decide_true, decide_false, Bool.not_true, Bool.not_false, Bool.true_and, Bool.false_and, Bool.and_true, Bool.and_false, Bool.or_true, Bool.true_or, Bool.or_false, Bool.false_or, and_self, and_true, true_and, Nat.le_refl, Nat.zero_add, Nat.mul_one, Nat.one_ne_zero, Nat.zero_le, highP, lowP, Option.map_some, Option.map_none, List.drop_zero, List.take_zero, List.length_cons, List.length_nil, List.nil_append, List.append_nil, List.cons_append, fillP, PV.cells?, PV.one, PV.cleans, PV.clean, PV.of?, List.all_cons, List.all_nil, List.take_succ_cons, List.drop_succ_cons, Bool.and_self, Int.natCast_nonneg, Int.toNat_natCast, Int.toNat_zero, PV.of?, Tk.ren, tailP, evL_loop, or_true, true_or, Nat.zero_lt_one, Nat.sub_zero, List.getElem?_cons_zero, List.getElem?_cons_succ, List.set_cons_zero, List.set_cons_succ, List.take_length]
  rw [lp]
  unfold nameF
  cases nmGo [] l with
  | none => simp only [q31_3, evL_op, evL_sel, evL_nx, evL_exit, evL_ret, evL_join, evL_block, evL_cond, evK_some, evJ_nx, evJ_rt, evJ_ex, evB_nx, evB_rt, evB_ex, evC2_bool, evS_and, evS_or, evS_tf, evS_ft, ev_t, ev_s, ev_c, evalOp, bin_add, bin_sub, bin_mul, bin_eql, bin_neq, bin_lss, bin_leq, bin_gtr, bin_geq, sbin_eql, sbin_neq, b8, List.map_cons, List.map_nil, PV.rens, PV.ren, if_true, if_false, Bool.false_eq_true, reduceIte, Nat.reduceAdd, Nat.reduceSub, Nat.reduceMul, Nat.reduceEqDiff, Nat.reduceLeDiff, Int.reduceLE, Int.reduceLT, Int.reduceEq, Int.reduceToNat, Int.reduceAdd, Int.reduceSub, Int.reduceNeg, decide_true, decide_false, Bool.not_true, Bool.not_false, Bool.true_and, Bool.false_and, Bool.and_true, Bool.and_false, Bool.or_true, Bool.true_or, Bool.or_false, Bool.false_or, and_self, and_true, true_and, Nat.le_refl, Nat.zero_add, Nat.mul_one, Nat.one_ne_zero, Nat.zero_le, highP, lowP, Option.map_some, Option.map_none, List.drop_zero, List.take_zero, List.length_cons, List.length_nil, List.nil_append, List.append_nil, List.cons_append, fillP, PV.cells?, PV.one, PV.cleans, PV.clean, PV.of?, List.all_cons, List.all_nil, List.take_succ_cons, List.drop_succ_cons, Bool.and_self, Int.natCast_nonneg, Int.toNat_natCast, Int.toNat_zero, PV.of?, Tk.ren, tailP, evL_loop, or_true, true_or, Nat.zero_lt_one, Nat.sub_zero, List.getElem?_cons_zero, List.getElem?_cons_succ, List.set_cons_zero, List.set_cons_succ, List.take_length, Option.getD_none]
  | some x =>
    obtain ⟨k, r, t⟩ := x
    simp only [evL_op, evL_sel, evL_nx, evL_exit, evL_ret, evL_join, evL_block, evL_cond, evK_some, evJ_nx, evJ_rt, evJ_ex, evB_nx, evB_rt, evB_ex, evC2_bool, evS_and, evS_or, evS_tf, evS_ft, ev_t, ev_s, ev_c, evalOp, bin_add, bin_sub, bin_mul, bin_eql, bin_neq, bin_lss, bin_leq, bin_gtr, bin_geq, sbin_eql, sbin_neq, b8, List.map_cons, List.map_nil, PV.rens, PV.ren, if_true, if_false, Bool.false_eq_true, reduceIte, Nat.reduceAdd, Nat.reduceSub, Nat.reduceMul, Nat.reduceEqDiff, Nat.reduceLeDiff, Int.reduceLE, Int.reduceLT, Int.reduceEq, Int.reduceToNat, Int.reduceAdd, Int.reduceSub, Int.reduceNeg, decide_true, decide_false, Bool.not_true, Bool.not_false, Bool.true_and, Bool.false_and, Bool.and_true, Bool.and_false, Bool.or_true, Bool.true_or, Bool.or_false, Bool.false_or, and_self, and_true, true_and, Nat.le_refl, Nat.zero_add, Nat.mul_one, Nat.one_ne_zero, Nat.zero_le, highP, lowP, Option.map_some, Option.map_none, List.drop_zero, List.take_zero, List.length_cons, List.length_nil, List.nil_append, List.append_nil, List.cons_append, fillP, PV.cells?, PV.one, PV.cleans, PV.clean, PV.of?, List.all_cons, List.all_nil, List.take_succ_cons, List.drop_succ_cons, Bool.and_self, Int.natCast_nonneg, Int.toNat_natCast, Int.toNat_zero, PV.of?, Tk.ren, tailP, evL_loop, or_true, true_or, Nat.zero_lt_one, Nat.sub_zero, List.getElem?_cons_zero, List.getElem?_cons_succ, List.set_cons_zero, List.set_cons_succ, List.take_length, Option.getD_some]
/-! ### fields -/
abbrev Fld := List UInt8 × List UInt8
def fl (out : List Fld) : List PV := out.flatMap fun f => [.str f.1, .str f.2]
theorem fl_app (a b : List Fld) : fl (a ++ b) = fl a ++ fl b := by simp [fl]
theorem fl_one (f : Fld) : fl [f] = [.str f.1, .str f.2] := by simp [fl]
theorem fl_len : ∀ out : List Fld, (fl out).length = out.length * 2
  | [] => rfl
  | f :: r => by
    have := fl_len r
    rw [show f :: r = [f] ++ r from rfl, fl_app, fl_one]
    simp only [List.length_append, List.length_cons, List.length_nil, this]
    omega
theorem fl_one' : ∀ out : List Fld, (fl out).all PV.one = true
  | [] => rfl
  | f :: r => by
    have := fl_one' r
    rw [show f :: r = [f] ++ r from rfl, fl_app, fl_one, List.all_append, this]
    rfl
theorem fl_flat : ∀ out : List Fld, (fl out).all flat = true
  | [] => rfl
  | f :: r => by
    have := fl_flat r
    rw [show f :: r = [f] ++ r from rfl, fl_app, fl_one, List.all_append, this]
    rfl
def moreB (line : List UInt8) : Bool := match line with | [] => false | c :: _ => c == 32 || c == 9
/-- What a header's lines tell. -/
def scanGo (out : List Fld) (e : Nat) : List (List UInt8) → List Fld × Nat
  | [] => (out, e)
  | line :: r =>
    if (nameF line).2.2 = true then scanGo (out ++ [((nameF line).1, (nameF line).2.1)]) (e + (line.length + 2)) r
    else if (moreB line && decide (out ≠ [])) = true then scanGo (out.dropLast ++ [((out.getLastD ([], [])).1, (out.getLastD ([], [])).2 ++ line)]) (e + (line.length + 2)) r
    else if line = [] then (out, e + 2) else (out, e)
def outP (out : List Fld) : PV := if out = [] then .sl (.tok 0) 0 0 [] else .row 0 0 2 out.length
def outH (out : List Fld) : Hp := if out = [] then [.tok] else [.cells (fl out)]
theorem outP_nil : outP [] = .sl (.tok 0) 0 0 [] := rfl
theorem outP_ne {out : List Fld} (h : out ≠ []) : outP out = .row 0 0 2 out.length := if_neg h
theorem outH_ne {out : List Fld} (h : out ≠ []) : outH out = [.cells (fl out)] := if_neg h
theorem head_row (cs : List PV) (hc : cs.all flat = true) (m : Nat) (e n i : Int) (z k : Nat) (L : List PV) : headS 0 [.row 0 0 2 m, .int .i64 e, .sl .no z k L, .int .i64 n, .int .i64 i] [.cells cs] = ([.row 0 0 2 m, .int .i64 e, .sl .no z k L, .int .i64 n, .int .i64 i], [.cells cs]) := by
  unfold headS
  rw [show nilTs [.row 0 0 2 m, .int .i64 e, .sl .no z k L, .int .i64 n, .int .i64 i] [.cells cs] = ([.row 0 0 2 m, .int .i64 e, .sl .no z k L, .int .i64 n, .int .i64 i], [.cells cs]) from rfl]
  dsimp only
  rw [show nilObs 0 [Ob.cells cs] = [Ob.cells cs] from rfl]
  have h4 : used 0 [.row 0 0 2 m, .int .i64 e, .sl .no z k L, .int .i64 n, .int .i64 i] [.cells cs] = [0] := by
    unfold used
    have hf : List.flatMap (obT 0 [Ob.cells cs]) (PV.toksL [.row 0 0 2 m, .int .i64 e, .sl .no z k L, .int .i64 n, .int .i64 i] ++ (List.take 0 [Ob.cells cs]).flatMap Ob.toks) = [] := by
      show PV.toksL cs ++ [] = []
      rw [toks_flat hc]; rfl
    unfold reach
    rw [hf]
    rfl
  unfold compact
  simp only
  rw [h4]
  show (_, [Ob.cells (PV.rens (renOf 0 [Ob.cells cs] [0]) cs)]) = _
  rw [rens_flat _ hc]
  rfl
theorem head_row1 (cs : List PV) (hc : cs.all flat = true) (m : Nat) (e n i : Int) (z k : Nat) (L : List PV) : headS 0 [.row 1 0 2 m, .int .i64 e, .sl .no z k L, .int .i64 n, .int .i64 i] [.dead, .cells cs] = ([.row 0 0 2 m, .int .i64 e, .sl .no z k L, .int .i64 n, .int .i64 i], [.cells cs]) := by
  unfold headS
  rw [show nilTs [.row 1 0 2 m, .int .i64 e, .sl .no z k L, .int .i64 n, .int .i64 i] [.dead, .cells cs] = ([.row 1 0 2 m, .int .i64 e, .sl .no z k L, .int .i64 n, .int .i64 i], [.dead, .cells cs]) from rfl]
  dsimp only
  rw [show nilObs 0 [Ob.dead, Ob.cells cs] = [Ob.dead, Ob.cells cs] from rfl]
  have h4 : used 0 [.row 1 0 2 m, .int .i64 e, .sl .no z k L, .int .i64 n, .int .i64 i] [.dead, .cells cs] = [1] := by
    unfold used
    have hf : List.flatMap (obT 0 [Ob.dead, Ob.cells cs]) (PV.toksL [.row 1 0 2 m, .int .i64 e, .sl .no z k L, .int .i64 n, .int .i64 i] ++ (List.take 0 [Ob.dead, Ob.cells cs]).flatMap Ob.toks) = [] := by
      show PV.toksL cs ++ [] = []
      rw [toks_flat hc]; rfl
    unfold reach
    rw [hf]
    rfl
  unfold compact
  simp only
  rw [h4]
  show (_, [Ob.cells (PV.rens (renOf 0 [Ob.dead, Ob.cells cs] [1]) cs)]) = _
  rw [rens_flat _ hc]
  rfl
end Go.Proofs.YtghnffhgmhfofaaDoor.Tab
