/- Headers: what head.name and head.Scan tell. -/
import Derived.Test.YtmdnloajpjfbmaaDoorLn
namespace Go.Proofs.YtmdnloajpjfbmaaDoor.Tab
set_option linter.all false
open Go Go.RowKit Go.Proofs.YtmdnloajpjfbmaaDoor.Ev
def badC (c : UInt8) : Bool := decide ((c.toNat : Int) < 33) || decide ((126 : Int) < c.toNat)
def nmGo (pre : List UInt8) : List UInt8 → Option (List UInt8 × List UInt8 × Bool)
  | [] => none
  | c :: r => if (c == 58) = true then some (pre, r, decide ((0 : Int) < pre.length)) else if badC c = true then some ([], [], false) else nmGo (pre ++ [c]) r
/-- A field's name, what stands behind it; false: a line begins none. -/
def nameF (l : List UInt8) : List UInt8 × List UInt8 × Bool := (nmGo [] l).getD ([], [], false)
theorem b2s_take {l : List UInt8} {i : Nat} {H : Hp} : (if i = 0 then some (PV.str [], H) else some (PV.str (l.take i), H)) = some (PV.str (l.take i), H) := by
  split
  · rename_i h; subst h; rfl
  · rfl
theorem b2s_drop {l : List UInt8} {i : Nat} {H : Hp} : (if l.length - i = 0 then some (PV.str [], H) else some (PV.str (l.drop i), H)) = some (PV.str (l.drop i), H) := by
  split
  · rename_i h; rw [List.drop_of_length_le (by omega)]
  · rfl
theorem byte_eqd (c : UInt8) (n : Nat) (hn : n < 256) : decide ((c.toNat : Int) = n) = (c == UInt8.ofNat n) := by
  have := byte_ne c n hn
  rw [← Bool.not_not (decide ((c.toNat : Int) = n)), this, Bool.not_not]
theorem T26 (l : List UInt8) (hl : l.length ≤ 1000000000) : T 26 [sl8 l] [] = some (.tup [.str (nameF l).1, .str (nameF l).2.1, .bool (nameF l).2.2], []) := by
  refine evT_of (k := l.length + 1) (F := l26) (H' := []) (e := [.str (nameF l).1, .str (nameF l).2.1, .bool (nameF l).2.2]) (l := [.str (nameF l).1, .str (nameF l).2.1, .bool (nameF l).2.2]) rfl rfl rfl ?_ rfl rfl
  show evL T (l.length + 1) q26 _ _ = _
  have lp := loop_law (n := 0) (body := evL T (l.length + 1) q26_2) (σ := Nat) (fun i => [sl8 l, sl8 l, .int .i64 l.length, .int .i64 i]) (fun _ => []) (fun i => l.length - i) (fun i => i ≤ l.length)
    (fun i => match nmGo (l.take i) (l.drop i) with | none => (.ex 0, [], []) | some (k, r, t) => (.rt, [.str k, .str r, .bool t], [])) (by
      intro i hi
      rcases Nat.lt_or_ge i l.length with h | h
      · have h3 : (i : Int) < l.length := by omega
        have hg := get_b8 h
        have e58 := byte_eqd l[i] 58 (by decide)
        rw [show ((58 : Nat) : Int) = 58 from rfl, show UInt8.ofNat 58 = 58 from rfl] at e58
        rw [List.drop_eq_getElem_cons h]
        by_cases hc : (l[i] == 58) = true
        · refine .inl ?_
          unfold nmGo
          rw [if_pos hc]
          refine ⟨?_, by simp⟩
          have e1 : (l.map b8).take i = (l.take i).map b8 := by rw [List.map_take]
          have e2 : (l.map b8).take l.length = l.map b8 := List.take_of_length_le (by simp)
          have e3 : (l.map b8).drop (i + 1) = (l.drop (i + 1)).map b8 := by rw [List.map_drop]
          have hi1 : ((i + 1 : Nat) : Int) ≤ l.length := by omega
          have hi2 : i + 1 ≤ l.length := by omega
          have hi3 : (i : Int) ≤ l.length := by omega
          have e4 : (l.take i).length = i := by rw [List.length_take]; omega
          simp only [q26_2, evL_op, evL_sel, evL_nx, evL_exit, evL_ret, evL_join, evL_block, evL_cond, evK_some, evJ_nx, evJ_rt, evJ_ex, evB_nx, evB_rt, evB_ex, evC2_bool, evS_and, evS_or, evS_tf, evS_ft, ev_t, ev_s, ev_c, evalOp, bin_add, bin_sub, bin_mul, bin_eql, bin_neq, bin_lss, bin_leq, bin_gtr, bin_geq, sbin_eql, sbin_neq, b8, List.map_cons, List.map_nil, PV.rens, PV.ren, if_true, if_false, Bool.false_eq_true, reduceIte, Nat.reduceAdd, Nat.reduceSub, Nat.reduceMul, Nat.reduceEqDiff, Nat.reduceLeDiff, Int.reduceLE, Int.reduceLT, Int.reduceEq, Int.reduceToNat, Int.reduceAdd, Int.reduceSub, Int.reduceNeg, decide_true, decide_false, Bool.not_true, Bool.not_false, Bool.true_and, Bool.false_and, Bool.and_true, Bool.and_false, Bool.or_true, Bool.true_or, Bool.or_false, Bool.false_or, and_self, and_true, true_and, Nat.le_refl, Nat.zero_add, Nat.mul_one, Nat.one_ne_zero, Nat.zero_le, highP, lowP, Option.map_some, Option.map_none, List.drop_zero, List.take_zero, List.length_cons, List.length_nil, List.nil_append, List.append_nil, List.cons_append, fillP, PV.cells?, PV.one, PV.cleans, PV.clean, PV.of?, List.all_cons, List.all_nil, List.take_succ_cons, List.drop_succ_cons, Bool.and_self, Int.natCast_nonneg, Int.toNat_natCast, Int.toNat_zero, PV.of?, Tk.ren, tailP, evL_loop, or_true, true_or, Nat.zero_lt_one, Nat.sub_zero, List.getElem?_cons_zero, List.getElem?_cons_succ, List.set_cons_zero, List.set_cons_succ, List.take_length, h3, hg, e58, hc, e1, e2, e3, e4, hi1, hi2, hi3, bytes8_map, b2s_take, b2s_drop, wr1 (show i < 9223372036854775807 by omega)]
        · have hc' : (l[i] == 58) = false := by simpa using hc
          by_cases hb : badC l[i] = true
          · refine .inl ?_
            unfold nmGo
            rw [if_neg hc, if_pos hb]
            refine ⟨?_, by simp⟩
            unfold badC at hb
            simp only [q26_2, evL_op, evL_sel, evL_nx, evL_exit, evL_ret, evL_join, evL_block, evL_cond, evK_some, evJ_nx, evJ_rt, evJ_ex, evB_nx, evB_rt, evB_ex, evC2_bool, evS_and, evS_or, evS_tf, evS_ft, ev_t, ev_s, ev_c, evalOp, bin_add, bin_sub, bin_mul, bin_eql, bin_neq, bin_lss, bin_leq, bin_gtr, bin_geq, sbin_eql, sbin_neq, b8, List.map_cons, List.map_nil, PV.rens, PV.ren, if_true, if_false, Bool.false_eq_true, reduceIte, Nat.reduceAdd, Nat.reduceSub, Nat.reduceMul, Nat.reduceEqDiff, Nat.reduceLeDiff, Int.reduceLE, Int.reduceLT, Int.reduceEq, Int.reduceToNat, Int.reduceAdd, Int.reduceSub, Int.reduceNeg, decide_true, decide_false, Bool.not_true, Bool.not_false, Bool.true_and, Bool.false_and, Bool.and_true, Bool.and_false, Bool.or_true, Bool.true_or, Bool.or_false, Bool.false_or, and_self, and_true, true_and, Nat.le_refl, Nat.zero_add, Nat.mul_one, Nat.one_ne_zero, Nat.zero_le, highP, lowP, Option.map_some, Option.map_none, List.drop_zero, List.take_zero, List.length_cons, List.length_nil, List.nil_append, List.append_nil, List.cons_append, fillP, PV.cells?, PV.one, PV.cleans, PV.clean, PV.of?, List.all_cons, List.all_nil, List.take_succ_cons, List.drop_succ_cons, Bool.and_self, Int.natCast_nonneg, Int.toNat_natCast, Int.toNat_zero, PV.of?, Tk.ren, tailP, evL_loop, or_true, true_or, Nat.zero_lt_one, Nat.sub_zero, List.getElem?_cons_zero, List.getElem?_cons_succ, List.set_cons_zero, List.set_cons_succ, List.take_length, h3, hg, e58, hc', hb]
          · have hb' : badC l[i] = false := by simpa using hb
            refine .inr ⟨i + 1, ?_⟩
            apply Exists.intro
            apply Exists.intro
            refine ⟨?_, ?_, h, by omega, ?_⟩
            · unfold badC at hb'
              simp only [q26_2, q26_1, q26_0, evL_op, evL_sel, evL_nx, evL_exit, evL_ret, evL_join, evL_block, evL_cond, evK_some, evJ_nx, evJ_rt, evJ_ex, evB_nx, evB_rt, evB_ex, evC2_bool, evS_and, evS_or, evS_tf, evS_ft, ev_t, ev_s, ev_c, evalOp, bin_add, bin_sub, bin_mul, bin_eql, bin_neq, bin_lss, bin_leq, bin_gtr, bin_geq, sbin_eql, sbin_neq, b8, List.map_cons, List.map_nil, PV.rens, PV.ren, if_true, if_false, Bool.false_eq_true, reduceIte, Nat.reduceAdd, Nat.reduceSub, Nat.reduceMul, Nat.reduceEqDiff, Nat.reduceLeDiff, Int.reduceLE, Int.reduceLT, Int.reduceEq, Int.reduceToNat, Int.reduceAdd, Int.reduceSub, Int.reduceNeg, decide_true, decide_false, Bool.not_true, Bool.not_false, Bool.true_and, Bool.false_and, Bool.and_true, Bool.and_false, Bool.or_true, Bool.true_or, Bool.or_false, Bool.false_or, and_self, and_true, true_and, Nat.le_refl, Nat.zero_add, Nat.mul_one, Nat.one_ne_zero, Nat.zero_le, highP, lowP, Option.map_some, Option.map_none, List.drop_zero, List.take_zero, List.length_cons, List.length_nil, List.nil_append, List.append_nil, List.cons_append, fillP, PV.cells?, PV.one, PV.cleans, PV.clean, PV.of?, List.all_cons, List.all_nil, List.take_succ_cons, List.drop_succ_cons, Bool.and_self, Int.natCast_nonneg, Int.toNat_natCast, Int.toNat_zero, PV.of?, Tk.ren, tailP, evL_loop, or_true, true_or, Nat.zero_lt_one, Nat.sub_zero, List.getElem?_cons_zero, List.getElem?_cons_succ, List.set_cons_zero, List.set_cons_succ, List.take_length, h3, hg, e58, hc', hb', wr1 (show i < 9223372036854775807 by omega)]
              rfl
            · rfl
            · conv => rhs; unfold nmGo
              rw [if_neg hc, if_neg hb, List.take_succ_eq_append_getElem h]
      · refine .inl ?_
        have h3 : ¬ (i : Int) < l.length := by omega
        rw [List.drop_of_length_le h]
        refine ⟨?_, by simp [nmGo]⟩
        unfold nmGo
        simp only [q26_2, evL_op, evL_sel, evL_nx, evL_exit, evL_ret, evL_join, evL_block, evL_cond, evK_some, evJ_nx, evJ_rt, evJ_ex, evB_nx, evB_rt, evB_ex, evC2_bool, evS_and, evS_or, evS_tf, evS_ft, ev_t, ev_s, ev_c, evalOp, bin_add, bin_sub, bin_mul, bin_eql, bin_neq, bin_lss, bin_leq, bin_gtr, bin_geq, sbin_eql, sbin_neq, b8, List.map_cons, List.map_nil, PV.rens, PV.ren, if_true, if_false, Bool.false_eq_true, reduceIte, Nat.reduceAdd, Nat.reduceSub, Nat.reduceMul, Nat.reduceEqDiff, Nat.reduceLeDiff, Int.reduceLE, Int.reduceLT, Int.reduceEq, Int.reduceToNat, Int.reduceAdd, Int.reduceSub, Int.reduceNeg, decide_true, decide_false, Bool.not_true, Bool.not_false, Bool.true_and, Bool.false_and, Bool.and_true, Bool.and_false, Bool.or_true, Bool.true_or, Bool.or_false, Bool.false_or, and_self, and_true, true_and, Nat.le_refl, Nat.zero_add, Nat.mul_one, Nat.one_ne_zero, Nat.zero_le, highP, lowP, Option.map_some, Option.map_none, List.drop_zero, List.take_zero, List.length_cons, List.length_nil, List.nil_append, List.append_nil, List.cons_append, fillP, PV.cells?, PV.one, PV.cleans, PV.clean, PV.of?, List.all_cons, List.all_nil, List.take_succ_cons, List.drop_succ_cons, Bool.and_self, Int.natCast_nonneg, Int.toNat_natCast, Int.toNat_zero, PV.of?, Tk.ren, tailP, evL_loop, or_true, true_or, Nat.zero_lt_one, Nat.sub_zero, List.getElem?_cons_zero, List.getElem?_cons_succ, List.set_cons_zero, List.set_cons_succ, List.take_length, h3]) (l.length + 1) 0 [sl8 l, sl8 l, .int .i64 l.length, .int .i64 (0 : Nat)] [] rfl (Nat.zero_le _) (by omega)
  rw [show ((0 : Nat) : Int) = 0 from rfl, List.take_zero, List.drop_zero] at lp
  simp only [q26, evL_op, evL_sel, evL_nx, evL_exit, evL_ret, evL_join, evL_block, evL_cond, evK_some, evJ_nx, evJ_rt, evJ_ex, evB_nx, evB_rt, evB_ex, evC2_bool, evS_and, evS_or, evS_tf, evS_ft, ev_t, ev_s, ev_c, evalOp, bin_add, bin_sub, bin_mul, bin_eql, bin_neq, bin_lss, bin_leq, bin_gtr, bin_geq, sbin_eql, sbin_neq, b8, List.map_cons, List.map_nil, PV.rens, PV.ren, if_true, if_false, Bool.false_eq_true, reduceIte, Nat.reduceAdd, Nat.reduceSub, Nat.reduceMul, Nat.reduceEqDiff, Nat.reduceLeDiff, Int.reduceLE, Int.reduceLT, Int.reduceEq, Int.reduceToNat, Int.reduceAdd, Int.reduceSub, Int.reduceNeg, decide_true, decide_false, Bool.not_true, Bool.not_false, Bool.true_and, Bool.false_and, Bool.and_true, Bool.and_false, Bool.or_true, Bool.true_or, Bool.or_false, Bool.false_or, and_self, and_true, true_and, Nat.le_refl, Nat.zero_add, Nat.mul_one, Nat.one_ne_zero, Nat.zero_le, highP, lowP, Option.map_some, Option.map_none, List.drop_zero, List.take_zero, List.length_cons, List.length_nil, List.nil_append, List.append_nil, List.cons_append, fillP, PV.cells?, PV.one, PV.cleans, PV.clean, PV.of?, List.all_cons, List.all_nil, List.take_succ_cons, List.drop_succ_cons, Bool.and_self, Int.natCast_nonneg, Int.toNat_natCast, Int.toNat_zero, PV.of?, Tk.ren, tailP, evL_loop, or_true, true_or, Nat.zero_lt_one, Nat.sub_zero, List.getElem?_cons_zero, List.getElem?_cons_succ, List.set_cons_zero, List.set_cons_succ, List.take_length]
  rw [lp]
  unfold nameF
  cases nmGo [] l with
  | none => simp only [q26_3, evL_op, evL_sel, evL_nx, evL_exit, evL_ret, evL_join, evL_block, evL_cond, evK_some, evJ_nx, evJ_rt, evJ_ex, evB_nx, evB_rt, evB_ex, evC2_bool, evS_and, evS_or, evS_tf, evS_ft, ev_t, ev_s, ev_c, evalOp, bin_add, bin_sub, bin_mul, bin_eql, bin_neq, bin_lss, bin_leq, bin_gtr, bin_geq, sbin_eql, sbin_neq, b8, List.map_cons, List.map_nil, PV.rens, PV.ren, if_true, if_false, Bool.false_eq_true, reduceIte, Nat.reduceAdd, Nat.reduceSub, Nat.reduceMul, Nat.reduceEqDiff, Nat.reduceLeDiff, Int.reduceLE, Int.reduceLT, Int.reduceEq, Int.reduceToNat, Int.reduceAdd, Int.reduceSub, Int.reduceNeg, decide_true, decide_false, Bool.not_true, Bool.not_false, Bool.true_and, Bool.false_and, Bool.and_true, Bool.and_false, Bool.or_true, Bool.true_or, Bool.or_false, Bool.false_or, and_self, and_true, true_and, Nat.le_refl, Nat.zero_add, Nat.mul_one, Nat.one_ne_zero, Nat.zero_le, highP, lowP, Option.map_some, Option.map_none, List.drop_zero, List.take_zero, List.length_cons, List.length_nil, List.nil_append, List.append_nil, List.cons_append, fillP, PV.cells?, PV.one, PV.cleans, PV.clean, PV.of?, List.all_cons, List.all_nil, List.take_succ_cons, List.drop_succ_cons, Bool.and_self, Int.natCast_nonneg, Int.toNat_natCast, Int.toNat_zero, PV.of?, Tk.ren, tailP, evL_loop, or_true, true_or, Nat.zero_lt_one, Nat.sub_zero, List.getElem?_cons_zero, List.getElem?_cons_succ, List.set_cons_zero, List.set_cons_succ, List.take_length, Option.getD_none]
  | some x =>
    obtain ⟨k, r, t⟩ := x
    simp only [evL_op, evL_sel, evL_nx, evL_exit, evL_ret, evL_join, evL_block, evL_cond, evK_some, evJ_nx, evJ_rt, evJ_ex, evB_nx, evB_rt, evB_ex, evC2_bool, evS_and, evS_or, evS_tf, evS_ft, ev_t, ev_s, ev_c, evalOp, bin_add, bin_sub, bin_mul, bin_eql, bin_neq, bin_lss, bin_leq, bin_gtr, bin_geq, sbin_eql, sbin_neq, b8, List.map_cons, List.map_nil, PV.rens, PV.ren, if_true, if_false, Bool.false_eq_true, reduceIte, Nat.reduceAdd, Nat.reduceSub, Nat.reduceMul, Nat.reduceEqDiff, Nat.reduceLeDiff, Int.reduceLE, Int.reduceLT, Int.reduceEq, Int.reduceToNat, Int.reduceAdd, Int.reduceSub, Int.reduceNeg, decide_true, decide_false, Bool.not_true, Bool.not_false, Bool.true_and, Bool.false_and, Bool.and_true, Bool.and_false, Bool.or_true, Bool.true_or, Bool.or_false, Bool.false_or, and_self, and_true, true_and, Nat.le_refl, Nat.zero_add, Nat.mul_one, Nat.one_ne_zero, Nat.zero_le, highP, lowP, Option.map_some, Option.map_none, List.drop_zero, List.take_zero, List.length_cons, List.length_nil, List.nil_append, List.append_nil, List.cons_append, fillP, PV.cells?, PV.one, PV.cleans, PV.clean, PV.of?, List.all_cons, List.all_nil, List.take_succ_cons, List.drop_succ_cons, Bool.and_self, Int.natCast_nonneg, Int.toNat_natCast, Int.toNat_zero, PV.of?, Tk.ren, tailP, evL_loop, or_true, true_or, Nat.zero_lt_one, Nat.sub_zero, List.getElem?_cons_zero, List.getElem?_cons_succ, List.set_cons_zero, List.set_cons_succ, List.take_length, Option.getD_some]
/-! ### fields -/
abbrev Fld := List UInt8 × List UInt8
def fl (out : List Fld) : List PV := out.flatMap fun f => [.str f.1, .str f.2]
theorem fl_app (a b : List Fld) : fl (a ++ b) = fl a ++ fl b := by simp [fl]
theorem fl_one (f : Fld) : fl [f] = [.str f.1, .str f.2] := by simp [fl]
theorem fl_len : ∀ out : List Fld, (fl out).length = out.length * 2
  | [] => rfl
  | f :: r => by
    have := fl_len r
    rw [show f :: r = [f] ++ r from rfl, fl_app, fl_one]
    simp only [List.length_append, List.length_cons, List.length_nil, this]
    omega
theorem fl_one' : ∀ out : List Fld, (fl out).all PV.one = true
  | [] => rfl
  | f :: r => by
    have := fl_one' r
    rw [show f :: r = [f] ++ r from rfl, fl_app, fl_one, List.all_append, this]
    rfl
theorem fl_flat : ∀ out : List Fld, (fl out).all flat = true
  | [] => rfl
  | f :: r => by
    have := fl_flat r
    rw [show f :: r = [f] ++ r from rfl, fl_app, fl_one, List.all_append, this]
    rfl
def moreB (line : List UInt8) : Bool := match line with | [] => false | c :: _ => c == 32 || c == 9
/-- What a header's lines tell. -/
def scanGo (out : List Fld) (e : Nat) : List (List UInt8) → List Fld × Nat
  | [] => (out, e)
  | line :: r =>
    if (nameF line).2.2 = true then scanGo (out ++ [((nameF line).1, (nameF line).2.1)]) (e + (line.length + 2)) r
    else if (moreB line && decide (out ≠ [])) = true then scanGo (out.dropLast ++ [((out.getLastD ([], [])).1, (out.getLastD ([], [])).2 ++ line)]) (e + (line.length + 2)) r
    else if line = [] then (out, e + 2) else (out, e)
def outP (out : List Fld) : PV := if out = [] then .sl (.tok 0) 0 0 [] else .row 0 0 2 out.length
def outH (out : List Fld) : Hp := if out = [] then [.tok] else [.cells (fl out)]
theorem outP_nil : outP [] = .sl (.tok 0) 0 0 [] := rfl
theorem outP_ne {out : List Fld} (h : out ≠ []) : outP out = .row 0 0 2 out.length := if_neg h
theorem outH_ne {out : List Fld} (h : out ≠ []) : outH out = [.cells (fl out)] := if_neg h
theorem head_row (cs : List PV) (hc : cs.all flat = true) (m : Nat) (e n i : Int) (z k : Nat) (L : List PV) : headS 0 [.row 0 0 2 m, .int .i64 e, .sl .no z k L, .int .i64 n, .int .i64 i] [.cells cs] = ([.row 0 0 2 m, .int .i64 e, .sl .no z k L, .int .i64 n, .int .i64 i], [.cells cs]) := by
  unfold headS
  rw [show nilTs [.row 0 0 2 m, .int .i64 e, .sl .no z k L, .int .i64 n, .int .i64 i] [.cells cs] = ([.row 0 0 2 m, .int .i64 e, .sl .no z k L, .int .i64 n, .int .i64 i], [.cells cs]) from rfl]
  dsimp only
  rw [show nilObs 0 [Ob.cells cs] = [Ob.cells cs] from rfl]
  have h4 : used 0 [.row 0 0 2 m, .int .i64 e, .sl .no z k L, .int .i64 n, .int .i64 i] [.cells cs] = [0] := by
    unfold used
    have hf : List.flatMap (obT 0 [Ob.cells cs]) (PV.toksL [.row 0 0 2 m, .int .i64 e, .sl .no z k L, .int .i64 n, .int .i64 i] ++ (List.take 0 [Ob.cells cs]).flatMap Ob.toks) = [] := by
      show PV.toksL cs ++ [] = []
      rw [toks_flat hc]; rfl
    unfold reach
    rw [hf]
    rfl
  unfold compact
  simp only
  rw [h4]
  show (_, [Ob.cells (PV.rens (renOf 0 [Ob.cells cs] [0]) cs)]) = _
  rw [rens_flat _ hc]
  rfl
theorem head_row1 (cs : List PV) (hc : cs.all flat = true) (m : Nat) (e n i : Int) (z k : Nat) (L : List PV) : headS 0 [.row 1 0 2 m, .int .i64 e, .sl .no z k L, .int .i64 n, .int .i64 i] [.dead, .cells cs] = ([.row 0 0 2 m, .int .i64 e, .sl .no z k L, .int .i64 n, .int .i64 i], [.cells cs]) := by
  unfold headS
  rw [show nilTs [.row 1 0 2 m, .int .i64 e, .sl .no z k L, .int .i64 n, .int .i64 i] [.dead, .cells cs] = ([.row 1 0 2 m, .int .i64 e, .sl .no z k L, .int .i64 n, .int .i64 i], [.dead, .cells cs]) from rfl]
  dsimp only
  rw [show nilObs 0 [Ob.dead, Ob.cells cs] = [Ob.dead, Ob.cells cs] from rfl]
  have h4 : used 0 [.row 1 0 2 m, .int .i64 e, .sl .no z k L, .int .i64 n, .int .i64 i] [.dead, .cells cs] = [1] := by
    unfold used
    have hf : List.flatMap (obT 0 [Ob.dead, Ob.cells cs]) (PV.toksL [.row 1 0 2 m, .int .i64 e, .sl .no z k L, .int .i64 n, .int .i64 i] ++ (List.take 0 [Ob.dead, Ob.cells cs]).flatMap Ob.toks) = [] := by
      show PV.toksL cs ++ [] = []
      rw [toks_flat hc]; rfl
    unfold reach
    rw [hf]
    rfl
  unfold compact
  simp only
  rw [h4]
  show (_, [Ob.cells (PV.rens (renOf 0 [Ob.dead, Ob.cells cs] [1]) cs)]) = _
  rw [rens_flat _ hc]
  rfl
end Go.Proofs.YtmdnloajpjfbmaaDoor.Tab

namespace Go.Proofs.YtmdnloajpjfbmaaDoor.Tab
set_option linter.all false
open Go Go.RowKit Go.Proofs.YtmdnloajpjfbmaaDoor.Ev
theorem nmGo_len : ∀ (l pre : List UInt8) (x : List UInt8 × List UInt8 × Bool), nmGo pre l = some x → x.2.1.length ≤ l.length ∧ x.1.length ≤ pre.length + l.length
  | [], pre, x, h => by cases h
  | c :: r, pre, x, h => by
    unfold nmGo at h
    split at h
    · cases h; simp
    · split at h
      · cases h; simp
      · have := nmGo_len r (pre ++ [c]) x h
        simp only [List.length_append, List.length_cons, List.length_nil] at this ⊢
        omega
theorem nameF_len (l : List UInt8) : (nameF l).2.1.length ≤ l.length := by
  unfold nameF
  cases h : nmGo [] l with
  | none => simp
  | some x => simpa using (nmGo_len l [] x h).1
theorem bytes8_pub : ∀ (k : Nat) (cs : List PV), cs.all flat = true → ∀ H : Hp, pubLw (pubV (k + 1)) cs H = some (cs, H)
  | k, [], _, H => rfl
  | k, p :: cs, h, H => by
    simp only [List.all_cons, Bool.and_eq_true] at h
    have ih := bytes8_pub k cs h.2 H
    cases p with
    | sl t sz n cs' => cases t with
      | no => simp only [pubLw, pubV, ih]
      | nil => exact absurd h.1 (by simp [flat])
      | tok k => exact absurd h.1 (by simp [flat])
    | fn f cs' => exact absurd h.1 (by simp [flat])
    | agg cs' => exact absurd h.1 (by simp [flat])
    | tup cs' => exact absurd h.1 (by simp [flat])
    | row a b c d => exact absurd h.1 (by simp [flat])
    | ptr a b => exact absurd h.1 (by simp [flat])
    | _ => simp only [pubLw, pubV, ih]
theorem fl_cleans : ∀ out : List Fld, PV.cleans (fl out) = some (fl out)
  | [] => rfl
  | f :: r => by
    have := fl_cleans r
    rw [show f :: r = [f] ++ r from rfl, fl_app, fl_one]
    show PV.cleans (.str f.1 :: .str f.2 :: fl r) = _
    simp only [PV.cleans, PV.clean, this]
    rfl
/-- A header's fields, told for good. -/
def outR (out : List Fld) : PV := if out = [] then .sl (.tok 0) 0 0 [] else .sl .no 2 out.length (fl out)
theorem outP_end (out : List Fld) (e : Int) : evEnd true 0 (.tup [outP out, .int .i64 e, .int .i64 0]) (outH out) = some (.tup [outR out, .int .i64 e, .int .i64 0], if out = [] then [.tok] else []) := by
  by_cases h : out = []
  · subst h; rfl
  · rw [outP_ne h, outH_ne h, if_neg h]
    unfold outR
    rw [if_neg h]
    have h1 : pubV 8 (.tup [.row 0 0 2 out.length, .int .i64 e, .int .i64 0]) [.cells (fl out)] = some (.tup [.sl .no 2 out.length (fl out), .int .i64 e, .int .i64 0], [.dead]) := by
      have hp := bytes8_pub 5 (fl out) (fl_flat out) [.dead]
      have hl := fl_len out
      have ht : (fl out).take (out.length * 2) = fl out := List.take_of_length_le (by omega)
      simp only [pubV, pubLw, List.getElem?_cons_zero, List.set_cons_zero, hp, fl_cleans, fl_one', hl, ht, Nat.zero_add, Nat.le_refl, and_self, if_true, List.drop_zero]
    simp only [evEnd, h1]
    rfl
def bnd (i : Nat) : Nat := i * 1000000002
theorem bnd_succ (i : Nat) : bnd (i + 1) = bnd i + 1000000002 := Nat.succ_mul i 1000000002
theorem bnd_le {i : Nat} (h : i ≤ 1000000000) : bnd i ≤ 1000000002000000000 := Nat.mul_le_mul_right 1000000002 h
theorem moreB_cons (c : UInt8) (r : List UInt8) : moreB (c :: r) = (c == 32 || c == 9) := rfl
theorem scan_is {out : List Fld} {e : Nat} {line : List UInt8} {r : List (List UInt8)} (h : (nameF line).2.2 = true) : scanGo out e (line :: r) = scanGo (out ++ [((nameF line).1, (nameF line).2.1)]) (e + (line.length + 2)) r := by
  conv => lhs; unfold scanGo
  rw [if_pos h]
theorem scan_more {o : List Fld} {f : Fld} {e : Nat} {line : List UInt8} {r : List (List UInt8)} (h : (nameF line).2.2 = false) (hm : moreB line = true) : scanGo (o ++ [f]) e (line :: r) = scanGo (o ++ [(f.1, f.2 ++ line)]) (e + (line.length + 2)) r := by
  conv => lhs; unfold scanGo
  rw [if_neg (by rw [h]; decide), if_pos (by rw [hm]; simp)]
  simp
theorem scan_end {out : List Fld} {e : Nat} {line : List UInt8} {r : List (List UInt8)} (h : (nameF line).2.2 = false) (hm : (moreB line && decide (out ≠ [])) = false) : scanGo out e (line :: r) = if line = [] then (out, e + 2) else (out, e) := by
  conv => lhs; unfold scanGo
  rw [if_neg (by rw [h]; decide), if_neg (by rw [hm]; decide)]
theorem scan_nil (out : List Fld) (e : Nat) : scanGo out e [] = (out, e) := rfl
section
variable (L : List (List UInt8)) (hL : L.length ≤ 1000000000) (hl : ∀ l ∈ L, l.length ≤ 1000000000) (k0 : Nat)
include hL hl
theorem loop_scan (o : List Fld) (e' : Nat) : ∀ (kk : Nat), L.length < kk → scanGo [] 0 L = (o, e') → ∃ r, loopL 0 (evL T k0 q12_2) kk [.sl .nil 0 0 [], .int .i64 0, accL .no L, .int .i64 L.length, .int .i64 0] [] = some r ∧
    (r = (.ex 0, [outP o, .int .i64 e'], outH o) ∨ r = (.rt, [outP o, .int .i64 e', .int .i64 0], outH o)) := by
  intro kk hk hs
  refine loop_post (n := 0) (body := evL T k0 q12_2) (σ := List Fld × Nat × Nat) (fun s => [outP s.1, .int .i64 s.2.1, accL .no L, .int .i64 L.length, .int .i64 s.2.2]) (fun s => outH s.1) (fun s => L.length - s.2.2)
    (fun s => s.2.2 ≤ L.length ∧ s.2.1 ≤ bnd s.2.2 ∧ s.1.length ≤ s.2.2 ∧ (∀ f ∈ s.1, f.2.length ≤ bnd s.2.2) ∧ scanGo s.1 s.2.1 (L.drop s.2.2) = (o, e')) _ ?_ kk ([], 0, 0) _ _ (by unfold accL; rfl) ⟨Nat.zero_le _, Nat.zero_le _, Nat.le_refl _, fun f h => (by cases h), hs⟩ (by simpa using hk)
  rintro ⟨out, e, i⟩ ⟨h1, h2, h3, h4, h5⟩
  dsimp only at h1 h2 h3 h4 h5 ⊢
  have hb0 := bnd_le (Nat.le_trans h1 hL)
  have hb1 := bnd_succ i
  rcases Nat.lt_or_ge i L.length with h | h
  · have hne : L ≠ [] := fun e => by rw [e] at h; cases h
    rw [accL_cons .no hne]
    have g1 : (i : Int) < L.length := by omega
    have hg := get_sl8 h
    have hll := hl L[i] (List.getElem_mem h)
    rw [List.drop_eq_getElem_cons h] at h5
    generalize L[i] = line at *
    have c1 := T26 line hll
    have w1 : IntKind.i64.wrap ((line.length : Int) + 2) = ((line.length + 2 : Nat) : Int) := by rw [wr (by omega) (by omega)]; omega
    have w2 : IntKind.i64.wrap ((e : Int) + ((line.length + 2 : Nat) : Int)) = ((e + (line.length + 2) : Nat) : Int) := by rw [wr (by omega) (by omega)]; omega
    have w3 := wr1 (show i < 9223372036854775807 by omega)
    have w4 : IntKind.i64.wrap ((e : Int) + 2) = ((e + 2 : Nat) : Int) := by rw [wr (by omega) (by omega)]; omega
    have e3 : decide ((0 : Int) < ((0 : Nat) : Int)) = false := rfl
    have e4 : decide (((0 : Nat) : Int) = 0) = true := rfl
    cases hn : (nameF line).2.2 with
    | true =>
      rw [scan_is hn] at h5
      rw [hn] at c1
      have hnl := nameF_len line
      have h4' : ∀ f ∈ out ++ [((nameF line).1, (nameF line).2.1)], f.2.length ≤ bnd (i + 1) := fun f hf => by
        rcases List.mem_append.1 hf with hf | hf
        · have := h4 f hf; omega
        · rw [List.mem_singleton.1 hf]; dsimp only; omega
      refine .inr ⟨(out ++ [((nameF line).1, (nameF line).2.1)], e + (line.length + 2), i + 1), [.row 1 0 2 (out.length + 1), .int .i64 ((e + (line.length + 2) : Nat) : Int), .sl .no 1 L.length (L.map fun l => sl8 l), .int .i64 L.length, .int .i64 ((i + 1 : Nat) : Int)], [.dead, .cells (fl out ++ [.str (nameF line).1, .str (nameF line).2.1])], ?_, ?_, ⟨by dsimp only; omega, by dsimp only; omega, by simp; omega, h4', h5⟩, by dsimp only; omega⟩
      · cases line with
        | nil => exact absurd hn (by decide)
        | cons c r =>
          have d0 : (0 : Int) < (c :: r).length := by simp
          have d1 : ((c :: r).map b8).take 1 = [b8 c] := rfl
          have e32 : decide ((c.toNat : Int) = 32) = (c == 32) := byte_eqd c 32 (by decide)
          have e9 : decide ((c.toNat : Int) = 9) = (c == 9) := byte_eqd c 9 (by decide)
          generalize hcr : c :: r = line at *
          by_cases ho : out = []
          · subst ho
            generalize hmm : (c == 32 || c == 9) = mm
            cases mm <;> (simp only [q12_2, q12_1, q12_0, evL_op, evL_sel, evL_nx, evL_exit, evL_ret, evL_join, evL_block, evL_cond, evK_some, evJ_nx, evJ_rt, evJ_ex, evB_nx, evB_rt, evB_ex, evC2_bool, evS_and, evS_or, evS_tf, evS_ft, ev_t, ev_s, ev_c, evalOp, bin_add, bin_sub, bin_mul, bin_eql, bin_neq, bin_lss, bin_leq, bin_gtr, bin_geq, sbin_eql, sbin_neq, b8, List.map_cons, List.map_nil, PV.rens, PV.ren, if_true, if_false, Bool.false_eq_true, reduceIte, Nat.reduceAdd, Nat.reduceSub, Nat.reduceMul, Nat.reduceEqDiff, Nat.reduceLeDiff, Int.reduceLE, Int.reduceLT, Int.reduceEq, Int.reduceToNat, Int.reduceAdd, Int.reduceSub, Int.reduceNeg, decide_true, decide_false, Bool.not_true, Bool.not_false, Bool.true_and, Bool.false_and, Bool.and_true, Bool.and_false, Bool.or_true, Bool.true_or, Bool.or_false, Bool.false_or, and_self, and_true, true_and, Nat.le_refl, Nat.zero_add, Nat.mul_one, Nat.one_ne_zero, Nat.zero_le, highP, lowP, Option.map_some, Option.map_none, List.drop_zero, List.take_zero, List.length_cons, List.length_nil, List.nil_append, List.append_nil, List.cons_append, fillP, PV.cells?, PV.one, PV.cleans, PV.clean, PV.of?, List.all_cons, List.all_nil, List.take_succ_cons, List.drop_succ_cons, Bool.and_self, Int.natCast_nonneg, Int.toNat_natCast, Int.toNat_zero, PV.of?, Tk.ren, tailP, evL_loop, or_true, true_or, Nat.zero_lt_one, Nat.sub_zero, List.getElem?_cons_zero, List.getElem?_cons_succ, List.set_cons_zero, List.set_cons_succ, List.take_length, PV.rens, PV.ren, outP_nil, outH, g1, hg, c1, d0, d1, e32, e9, hmm, e3, w1, w2, w3, tailR, Nat.one_mul, show (1 : Nat) * 32 ≤ roomMax by decide]; rfl)
          · rw [outP_ne ho, outH_ne ho]
            have hol : (0 : Int) < out.length := by have : 0 < out.length := List.length_pos_iff.2 ho; omega
            have hrm : (out.length + 1) * 32 ≤ roomMax := by unfold roomMax; omega
            have hfl := fl_len out
            have hfo := fl_one' out
            generalize hmm : (c == 32 || c == 9) = mm
            cases mm <;> simp only [q12_2, q12_1, q12_0, evL_op, evL_sel, evL_nx, evL_exit, evL_ret, evL_join, evL_block, evL_cond, evK_some, evJ_nx, evJ_rt, evJ_ex, evB_nx, evB_rt, evB_ex, evC2_bool, evS_and, evS_or, evS_tf, evS_ft, ev_t, ev_s, ev_c, evalOp, bin_add, bin_sub, bin_mul, bin_eql, bin_neq, bin_lss, bin_leq, bin_gtr, bin_geq, sbin_eql, sbin_neq, b8, List.map_cons, List.map_nil, PV.rens, PV.ren, if_true, if_false, Bool.false_eq_true, reduceIte, Nat.reduceAdd, Nat.reduceSub, Nat.reduceMul, Nat.reduceEqDiff, Nat.reduceLeDiff, Int.reduceLE, Int.reduceLT, Int.reduceEq, Int.reduceToNat, Int.reduceAdd, Int.reduceSub, Int.reduceNeg, decide_true, decide_false, Bool.not_true, Bool.not_false, Bool.true_and, Bool.false_and, Bool.and_true, Bool.and_false, Bool.or_true, Bool.true_or, Bool.or_false, Bool.false_or, and_self, and_true, true_and, Nat.le_refl, Nat.zero_add, Nat.mul_one, Nat.one_ne_zero, Nat.zero_le, highP, lowP, Option.map_some, Option.map_none, List.drop_zero, List.take_zero, List.length_cons, List.length_nil, List.nil_append, List.append_nil, List.cons_append, fillP, PV.cells?, PV.one, PV.cleans, PV.clean, PV.of?, List.all_cons, List.all_nil, List.take_succ_cons, List.drop_succ_cons, Bool.and_self, Int.natCast_nonneg, Int.toNat_natCast, Int.toNat_zero, PV.of?, Tk.ren, tailP, evL_loop, or_true, true_or, Nat.zero_lt_one, Nat.sub_zero, List.getElem?_cons_zero, List.getElem?_cons_succ, List.set_cons_zero, List.set_cons_succ, List.take_length, PV.rens, PV.ren, g1, hg, c1, d0, d1, e32, e9, hmm, e3, hol, w1, w2, w3, tailR, hrm, hfl, hfo]
      · have hne2 : out ++ [((nameF line).1, (nameF line).2.1)] ≠ [] := by simp
        rw [outP_ne hne2, outH_ne hne2, show (out ++ [((nameF line).1, (nameF line).2.1)]).length = out.length + 1 by simp, fl_app, fl_one]
        by_cases ho : out = []
        · subst ho
          exact head_row1 [.str (nameF line).1, .str (nameF line).2.1] rfl _ _ _ _ _ _ _
        · exact head_row1 _ (by rw [List.all_append, fl_flat]; rfl) _ _ _ _ _ _ _
    | false =>
      rw [hn] at c1
      cases hm : moreB line with
      | true =>
        rcases List.eq_nil_or_concat out with ho | ⟨p, f, ho⟩
        · subst ho
          rw [scan_end hn (by rw [hm]; rfl)] at h5
          obtain ⟨c, r, rfl⟩ : ∃ c r, line = c :: r := by
            cases line with
            | nil => cases hm
            | cons c r => exact ⟨c, r, rfl⟩
          rw [if_neg (by simp)] at h5
          cases h5
          refine .inl ⟨_, ?_, ?_, .inr rfl⟩
          · have d0 : (0 : Int) < (c :: r).length := by simp
            have d1 : ((c :: r).map b8).take 1 = [b8 c] := rfl
            have e32 : decide ((c.toNat : Int) = 32) = (c == 32) := byte_eqd c 32 (by decide)
            have e9 : decide ((c.toNat : Int) = 9) = (c == 9) := byte_eqd c 9 (by decide)
            have hx : ¬ ((c :: r).length : Int) = 0 := by simp only [List.length_cons]; omega
            have hm' : (c == 32 || c == 9) = true := hm
            generalize hcr : c :: r = line at *
            simp only [q12_2, evL_op, evL_sel, evL_nx, evL_exit, evL_ret, evL_join, evL_block, evL_cond, evK_some, evJ_nx, evJ_rt, evJ_ex, evB_nx, evB_rt, evB_ex, evC2_bool, evS_and, evS_or, evS_tf, evS_ft, ev_t, ev_s, ev_c, evalOp, bin_add, bin_sub, bin_mul, bin_eql, bin_neq, bin_lss, bin_leq, bin_gtr, bin_geq, sbin_eql, sbin_neq, b8, List.map_cons, List.map_nil, PV.rens, PV.ren, if_true, if_false, Bool.false_eq_true, reduceIte, Nat.reduceAdd, Nat.reduceSub, Nat.reduceMul, Nat.reduceEqDiff, Nat.reduceLeDiff, Int.reduceLE, Int.reduceLT, Int.reduceEq, Int.reduceToNat, Int.reduceAdd, Int.reduceSub, Int.reduceNeg, decide_true, decide_false, Bool.not_true, Bool.not_false, Bool.true_and, Bool.false_and, Bool.and_true, Bool.and_false, Bool.or_true, Bool.true_or, Bool.or_false, Bool.false_or, and_self, and_true, true_and, Nat.le_refl, Nat.zero_add, Nat.mul_one, Nat.one_ne_zero, Nat.zero_le, highP, lowP, Option.map_some, Option.map_none, List.drop_zero, List.take_zero, List.length_cons, List.length_nil, List.nil_append, List.append_nil, List.cons_append, fillP, PV.cells?, PV.one, PV.cleans, PV.clean, PV.of?, List.all_cons, List.all_nil, List.take_succ_cons, List.drop_succ_cons, Bool.and_self, Int.natCast_nonneg, Int.toNat_natCast, Int.toNat_zero, PV.of?, Tk.ren, tailP, evL_loop, or_true, true_or, Nat.zero_lt_one, Nat.sub_zero, List.getElem?_cons_zero, List.getElem?_cons_succ, List.set_cons_zero, List.set_cons_succ, List.take_length, PV.rens, PV.ren, outP_nil, g1, hg, c1, d0, d1, e32, e9, hm', hx, e3]
          · simp
        · rw [List.concat_eq_append] at ho
          subst ho
          rw [scan_more hn hm] at h5
          have hpl : (p ++ [f]).length = p.length + 1 := by simp
          have hfl := h4 f (by simp)
          have h4' : ∀ g ∈ p ++ [(f.1, f.2 ++ line)], g.2.length ≤ bnd (i + 1) := fun g hg => by
            rcases List.mem_append.1 hg with hg | hg
            · have := h4 g (by simp [hg]); omega
            · rw [List.mem_singleton.1 hg]; simp; omega
          refine .inr ⟨(p ++ [(f.1, f.2 ++ line)], e + (line.length + 2), i + 1), ?_⟩
          apply Exists.intro
          apply Exists.intro
          rw [hpl] at h3
          refine ⟨?_, ?_, ⟨by dsimp only; omega, by dsimp only; omega, by simp; omega, h4', h5⟩, by dsimp only; omega⟩
          · have hne2 : p ++ [f] ≠ [] := by simp
            rw [outP_ne hne2, outH_ne hne2, hpl, fl_app, fl_one]
            obtain ⟨c, r, rfl⟩ : ∃ c r, line = c :: r := by
              cases line with
              | nil => cases hm
              | cons c r => exact ⟨c, r, rfl⟩
            have d0 : (0 : Int) < (c :: r).length := by simp
            have d1 : ((c :: r).map b8).take 1 = [b8 c] := rfl
            have e32 : decide ((c.toNat : Int) = 32) = (c == 32) := byte_eqd c 32 (by decide)
            have e9 : decide ((c.toNat : Int) = 9) = (c == 9) := byte_eqd c 9 (by decide)
            have hm' : (c == 32 || c == 9) = true := hm
            generalize hcr : c :: r = line at *
            have s1 := sbin_add (s := f.2) (u := line) (by omega)
            have hfp := fl_len p
            have z1 : (0 : Int) < ((p.length + 1 : Nat) : Int) := by omega
            have z2 : IntKind.i64.wrap (((p.length + 1 : Nat) : Int) - 1) = (p.length : Int) := by rw [wr (by omega) (by omega)]; omega
            have z3 : (p.length : Int) < ((p.length + 1 : Nat) : Int) := by omega
            have z4 : ((fl p ++ [PV.str f.1, .str f.2]).drop (p.length * 2 + 1)).take 1 = [.str f.2] := by
              rw [List.drop_append, List.drop_of_length_le (by omega), hfp, show p.length * 2 + 1 - p.length * 2 = 1 by omega]; rfl
            have z5 : (fl p ++ [PV.str f.1, .str f.2]).take (p.length * 2 + 1) = fl p ++ [PV.str f.1] := by
              rw [List.take_append, List.take_of_length_le (by omega), hfp, show p.length * 2 + 1 - p.length * 2 = 1 by omega]; rfl
            have z6 : (fl p ++ [PV.str f.1, .str f.2]).drop (p.length * 2 + 1 + 1) = [] := List.drop_of_length_le (by simp; omega)
            have z7 : p.length * 2 + 1 + 1 ≤ (fl p ++ [PV.str f.1, .str f.2]).length := by simp; omega
            simp only [q12_2, q12_1, q12_0, evL_op, evL_sel, evL_nx, evL_exit, evL_ret, evL_join, evL_block, evL_cond, evK_some, evJ_nx, evJ_rt, evJ_ex, evB_nx, evB_rt, evB_ex, evC2_bool, evS_and, evS_or, evS_tf, evS_ft, ev_t, ev_s, ev_c, evalOp, bin_add, bin_sub, bin_mul, bin_eql, bin_neq, bin_lss, bin_leq, bin_gtr, bin_geq, sbin_eql, sbin_neq, b8, List.map_cons, List.map_nil, PV.rens, PV.ren, if_true, if_false, Bool.false_eq_true, reduceIte, Nat.reduceAdd, Nat.reduceSub, Nat.reduceMul, Nat.reduceEqDiff, Nat.reduceLeDiff, Int.reduceLE, Int.reduceLT, Int.reduceEq, Int.reduceToNat, Int.reduceAdd, Int.reduceSub, Int.reduceNeg, decide_true, decide_false, Bool.not_true, Bool.not_false, Bool.true_and, Bool.false_and, Bool.and_true, Bool.and_false, Bool.or_true, Bool.true_or, Bool.or_false, Bool.false_or, and_self, and_true, true_and, Nat.le_refl, Nat.zero_add, Nat.mul_one, Nat.one_ne_zero, Nat.zero_le, highP, lowP, Option.map_some, Option.map_none, List.drop_zero, List.take_zero, List.length_cons, List.length_nil, List.nil_append, List.append_nil, List.cons_append, fillP, PV.cells?, PV.one, PV.cleans, PV.clean, PV.of?, List.all_cons, List.all_nil, List.take_succ_cons, List.drop_succ_cons, Bool.and_self, Int.natCast_nonneg, Int.toNat_natCast, Int.toNat_zero, PV.of?, Tk.ren, tailP, evL_loop, or_true, true_or, Nat.zero_lt_one, Nat.sub_zero, List.getElem?_cons_zero, List.getElem?_cons_succ, List.set_cons_zero, List.set_cons_succ, List.take_length, PV.rens, PV.ren, g1, hg, c1, d0, d1, e32, e9, hm', bytes8_map, b2s_if, s1, z1, z2, z3, z4, z5, z6, z7, w1, w2, w3]
            rfl
          · have hne3 : p ++ [(f.1, f.2 ++ line)] ≠ [] := by simp
            rw [outP_ne hne3, outH_ne hne3, show (p ++ [(f.1, f.2 ++ line)]).length = p.length + 1 by simp]
            have : fl p ++ [PV.str f.1] ++ [.str (f.2 ++ line)] = fl (p ++ [(f.1, f.2 ++ line)]) := by rw [fl_app, fl_one]; simp
            rw [← this]
            exact head_row _ (by rw [this]; exact fl_flat _) _ _ _ _ _ _ _
      | false =>
        rw [scan_end hn (by rw [hm]; rfl)] at h5
        cases line with
        | nil =>
          rw [if_pos rfl] at h5
          cases h5
          refine .inl ⟨_, ?_, ?_, .inr rfl⟩
          · have c1' : T 26 [.sl .no 1 0 []] [] = _ := c1
            by_cases ho : o = []
            · subst ho
              simp only [q12_2, evL_op, evL_sel, evL_nx, evL_exit, evL_ret, evL_join, evL_block, evL_cond, evK_some, evJ_nx, evJ_rt, evJ_ex, evB_nx, evB_rt, evB_ex, evC2_bool, evS_and, evS_or, evS_tf, evS_ft, ev_t, ev_s, ev_c, evalOp, bin_add, bin_sub, bin_mul, bin_eql, bin_neq, bin_lss, bin_leq, bin_gtr, bin_geq, sbin_eql, sbin_neq, b8, List.map_cons, List.map_nil, PV.rens, PV.ren, if_true, if_false, Bool.false_eq_true, reduceIte, Nat.reduceAdd, Nat.reduceSub, Nat.reduceMul, Nat.reduceEqDiff, Nat.reduceLeDiff, Int.reduceLE, Int.reduceLT, Int.reduceEq, Int.reduceToNat, Int.reduceAdd, Int.reduceSub, Int.reduceNeg, decide_true, decide_false, Bool.not_true, Bool.not_false, Bool.true_and, Bool.false_and, Bool.and_true, Bool.and_false, Bool.or_true, Bool.true_or, Bool.or_false, Bool.false_or, and_self, and_true, true_and, Nat.le_refl, Nat.zero_add, Nat.mul_one, Nat.one_ne_zero, Nat.zero_le, highP, lowP, Option.map_some, Option.map_none, List.drop_zero, List.take_zero, List.length_cons, List.length_nil, List.nil_append, List.append_nil, List.cons_append, fillP, PV.cells?, PV.one, PV.cleans, PV.clean, PV.of?, List.all_cons, List.all_nil, List.take_succ_cons, List.drop_succ_cons, Bool.and_self, Int.natCast_nonneg, Int.toNat_natCast, Int.toNat_zero, PV.of?, Tk.ren, tailP, evL_loop, or_true, true_or, Nat.zero_lt_one, Nat.sub_zero, List.getElem?_cons_zero, List.getElem?_cons_succ, List.set_cons_zero, List.set_cons_succ, List.take_length, PV.rens, PV.ren, outP_nil, g1, hg, c1', e3, e4, w4]
            · rw [outP_ne ho, outH_ne ho]
              simp only [q12_2, evL_op, evL_sel, evL_nx, evL_exit, evL_ret, evL_join, evL_block, evL_cond, evK_some, evJ_nx, evJ_rt, evJ_ex, evB_nx, evB_rt, evB_ex, evC2_bool, evS_and, evS_or, evS_tf, evS_ft, ev_t, ev_s, ev_c, evalOp, bin_add, bin_sub, bin_mul, bin_eql, bin_neq, bin_lss, bin_leq, bin_gtr, bin_geq, sbin_eql, sbin_neq, b8, List.map_cons, List.map_nil, PV.rens, PV.ren, if_true, if_false, Bool.false_eq_true, reduceIte, Nat.reduceAdd, Nat.reduceSub, Nat.reduceMul, Nat.reduceEqDiff, Nat.reduceLeDiff, Int.reduceLE, Int.reduceLT, Int.reduceEq, Int.reduceToNat, Int.reduceAdd, Int.reduceSub, Int.reduceNeg, decide_true, decide_false, Bool.not_true, Bool.not_false, Bool.true_and, Bool.false_and, Bool.and_true, Bool.and_false, Bool.or_true, Bool.true_or, Bool.or_false, Bool.false_or, and_self, and_true, true_and, Nat.le_refl, Nat.zero_add, Nat.mul_one, Nat.one_ne_zero, Nat.zero_le, highP, lowP, Option.map_some, Option.map_none, List.drop_zero, List.take_zero, List.length_cons, List.length_nil, List.nil_append, List.append_nil, List.cons_append, fillP, PV.cells?, PV.one, PV.cleans, PV.clean, PV.of?, List.all_cons, List.all_nil, List.take_succ_cons, List.drop_succ_cons, Bool.and_self, Int.natCast_nonneg, Int.toNat_natCast, Int.toNat_zero, PV.of?, Tk.ren, tailP, evL_loop, or_true, true_or, Nat.zero_lt_one, Nat.sub_zero, List.getElem?_cons_zero, List.getElem?_cons_succ, List.set_cons_zero, List.set_cons_succ, List.take_length, PV.rens, PV.ren, g1, hg, c1', e3, e4, w4]
          · simp
        | cons c r =>
          rw [if_neg (by simp)] at h5
          cases h5
          refine .inl ⟨_, ?_, ?_, .inr rfl⟩
          · have d0 : (0 : Int) < (c :: r).length := by simp
            have d1 : ((c :: r).map b8).take 1 = [b8 c] := rfl
            have e32 : decide ((c.toNat : Int) = 32) = (c == 32) := byte_eqd c 32 (by decide)
            have e9 : decide ((c.toNat : Int) = 9) = (c == 9) := byte_eqd c 9 (by decide)
            have hm' : (c == 32 || c == 9) = false := hm
            have hx : ¬ ((c :: r).length : Int) = 0 := by simp only [List.length_cons]; omega
            generalize hcr : c :: r = line at *
            by_cases ho : o = []
            · subst ho
              simp only [q12_2, evL_op, evL_sel, evL_nx, evL_exit, evL_ret, evL_join, evL_block, evL_cond, evK_some, evJ_nx, evJ_rt, evJ_ex, evB_nx, evB_rt, evB_ex, evC2_bool, evS_and, evS_or, evS_tf, evS_ft, ev_t, ev_s, ev_c, evalOp, bin_add, bin_sub, bin_mul, bin_eql, bin_neq, bin_lss, bin_leq, bin_gtr, bin_geq, sbin_eql, sbin_neq, b8, List.map_cons, List.map_nil, PV.rens, PV.ren, if_true, if_false, Bool.false_eq_true, reduceIte, Nat.reduceAdd, Nat.reduceSub, Nat.reduceMul, Nat.reduceEqDiff, Nat.reduceLeDiff, Int.reduceLE, Int.reduceLT, Int.reduceEq, Int.reduceToNat, Int.reduceAdd, Int.reduceSub, Int.reduceNeg, decide_true, decide_false, Bool.not_true, Bool.not_false, Bool.true_and, Bool.false_and, Bool.and_true, Bool.and_false, Bool.or_true, Bool.true_or, Bool.or_false, Bool.false_or, and_self, and_true, true_and, Nat.le_refl, Nat.zero_add, Nat.mul_one, Nat.one_ne_zero, Nat.zero_le, highP, lowP, Option.map_some, Option.map_none, List.drop_zero, List.take_zero, List.length_cons, List.length_nil, List.nil_append, List.append_nil, List.cons_append, fillP, PV.cells?, PV.one, PV.cleans, PV.clean, PV.of?, List.all_cons, List.all_nil, List.take_succ_cons, List.drop_succ_cons, Bool.and_self, Int.natCast_nonneg, Int.toNat_natCast, Int.toNat_zero, PV.of?, Tk.ren, tailP, evL_loop, or_true, true_or, Nat.zero_lt_one, Nat.sub_zero, List.getElem?_cons_zero, List.getElem?_cons_succ, List.set_cons_zero, List.set_cons_succ, List.take_length, PV.rens, PV.ren, outP_nil, g1, hg, c1, d0, d1, e32, e9, hm', hx, e3]
            · rw [outP_ne ho, outH_ne ho]
              simp only [q12_2, evL_op, evL_sel, evL_nx, evL_exit, evL_ret, evL_join, evL_block, evL_cond, evK_some, evJ_nx, evJ_rt, evJ_ex, evB_nx, evB_rt, evB_ex, evC2_bool, evS_and, evS_or, evS_tf, evS_ft, ev_t, ev_s, ev_c, evalOp, bin_add, bin_sub, bin_mul, bin_eql, bin_neq, bin_lss, bin_leq, bin_gtr, bin_geq, sbin_eql, sbin_neq, b8, List.map_cons, List.map_nil, PV.rens, PV.ren, if_true, if_false, Bool.false_eq_true, reduceIte, Nat.reduceAdd, Nat.reduceSub, Nat.reduceMul, Nat.reduceEqDiff, Nat.reduceLeDiff, Int.reduceLE, Int.reduceLT, Int.reduceEq, Int.reduceToNat, Int.reduceAdd, Int.reduceSub, Int.reduceNeg, decide_true, decide_false, Bool.not_true, Bool.not_false, Bool.true_and, Bool.false_and, Bool.and_true, Bool.and_false, Bool.or_true, Bool.true_or, Bool.or_false, Bool.false_or, and_self, and_true, true_and, Nat.le_refl, Nat.zero_add, Nat.mul_one, Nat.one_ne_zero, Nat.zero_le, highP, lowP, Option.map_some, Option.map_none, List.drop_zero, List.take_zero, List.length_cons, List.length_nil, List.nil_append, List.append_nil, List.cons_append, fillP, PV.cells?, PV.one, PV.cleans, PV.clean, PV.of?, List.all_cons, List.all_nil, List.take_succ_cons, List.drop_succ_cons, Bool.and_self, Int.natCast_nonneg, Int.toNat_natCast, Int.toNat_zero, PV.of?, Tk.ren, tailP, evL_loop, or_true, true_or, Nat.zero_lt_one, Nat.sub_zero, List.getElem?_cons_zero, List.getElem?_cons_succ, List.set_cons_zero, List.set_cons_succ, List.take_length, PV.rens, PV.ren, g1, hg, c1, d0, d1, e32, e9, hm', hx, e3]
          · simp
  · refine .inl ⟨_, ?_, ?_, .inl rfl⟩
    · have g1 : ¬ (i : Int) < L.length := by omega
      rw [List.drop_of_length_le h, scan_nil] at h5
      cases h5
      simp only [q12_2, evL_op, evL_sel, evL_nx, evL_exit, evL_ret, evL_join, evL_block, evL_cond, evK_some, evJ_nx, evJ_rt, evJ_ex, evB_nx, evB_rt, evB_ex, evC2_bool, evS_and, evS_or, evS_tf, evS_ft, ev_t, ev_s, ev_c, evalOp, bin_add, bin_sub, bin_mul, bin_eql, bin_neq, bin_lss, bin_leq, bin_gtr, bin_geq, sbin_eql, sbin_neq, b8, List.map_cons, List.map_nil, PV.rens, PV.ren, if_true, if_false, Bool.false_eq_true, reduceIte, Nat.reduceAdd, Nat.reduceSub, Nat.reduceMul, Nat.reduceEqDiff, Nat.reduceLeDiff, Int.reduceLE, Int.reduceLT, Int.reduceEq, Int.reduceToNat, Int.reduceAdd, Int.reduceSub, Int.reduceNeg, decide_true, decide_false, Bool.not_true, Bool.not_false, Bool.true_and, Bool.false_and, Bool.and_true, Bool.and_false, Bool.or_true, Bool.true_or, Bool.or_false, Bool.false_or, and_self, and_true, true_and, Nat.le_refl, Nat.zero_add, Nat.mul_one, Nat.one_ne_zero, Nat.zero_le, highP, lowP, Option.map_some, Option.map_none, List.drop_zero, List.take_zero, List.length_cons, List.length_nil, List.nil_append, List.append_nil, List.cons_append, fillP, PV.cells?, PV.one, PV.cleans, PV.clean, PV.of?, List.all_cons, List.all_nil, List.take_succ_cons, List.drop_succ_cons, Bool.and_self, Int.natCast_nonneg, Int.toNat_natCast, Int.toNat_zero, PV.of?, Tk.ren, tailP, evL_loop, or_true, true_or, Nat.zero_lt_one, Nat.sub_zero, List.getElem?_cons_zero, List.getElem?_cons_succ, List.set_cons_zero, List.set_cons_succ, List.take_length, g1]
    · simp
end
theorem T12_yes (b : List UInt8) (hb : b.length ≤ 1000000000) (h : body b = true) : T 12 [sl8 b] [] = some (.tup [outR (scanGo [] 0 (lines b)).1, .int .i64 (scanGo [] 0 (lines b)).2, .int .i64 0], if (scanGo [] 0 (lines b)).1 = [] then [.tok] else []) := by
  have c1 := T24 b hb
  have c2 := T25 b hb
  rw [if_pos h] at c1
  have hll := lines_len b.length b (Nat.le_refl _)
  obtain ⟨r, lp, hr⟩ := loop_scan (lines b) (by omega) (fun l hl => by have := hll.2 l hl; omega) ((lines b).length + 1) (scanGo [] 0 (lines b)).1 (scanGo [] 0 (lines b)).2 ((lines b).length + 1) (Nat.lt_succ_self _) rfl
  generalize (scanGo [] 0 (lines b)).1 = o at *
  generalize (scanGo [] 0 (lines b)).2 = e at *
  refine evT_of (k := (lines b).length + 1) (F := l12) (H' := outH o) (e := [outP o, .int .i64 e, .int .i64 0]) (l := [outP o, .int .i64 e, .int .i64 0]) rfl rfl rfl ?_ rfl (outP_end o e)
  show evL T _ q12 _ _ = _
  generalize lines b = L at *
  unfold accL at lp c2
  simp only [q12, evL_op, evL_sel, evL_nx, evL_exit, evL_ret, evL_join, evL_block, evL_cond, evK_some, evJ_nx, evJ_rt, evJ_ex, evB_nx, evB_rt, evB_ex, evC2_bool, evS_and, evS_or, evS_tf, evS_ft, ev_t, ev_s, ev_c, evalOp, bin_add, bin_sub, bin_mul, bin_eql, bin_neq, bin_lss, bin_leq, bin_gtr, bin_geq, sbin_eql, sbin_neq, b8, List.map_cons, List.map_nil, PV.rens, PV.ren, if_true, if_false, Bool.false_eq_true, reduceIte, Nat.reduceAdd, Nat.reduceSub, Nat.reduceMul, Nat.reduceEqDiff, Nat.reduceLeDiff, Int.reduceLE, Int.reduceLT, Int.reduceEq, Int.reduceToNat, Int.reduceAdd, Int.reduceSub, Int.reduceNeg, decide_true, decide_false, Bool.not_true, Bool.not_false, Bool.true_and, Bool.false_and, Bool.and_true, Bool.and_false, Bool.or_true, Bool.true_or, Bool.or_false, Bool.false_or, and_self, and_true, true_and, Nat.le_refl, Nat.zero_add, Nat.mul_one, Nat.one_ne_zero, Nat.zero_le, highP, lowP, Option.map_some, Option.map_none, List.drop_zero, List.take_zero, List.length_cons, List.length_nil, List.nil_append, List.append_nil, List.cons_append, fillP, PV.cells?, PV.one, PV.cleans, PV.clean, PV.of?, List.all_cons, List.all_nil, List.take_succ_cons, List.drop_succ_cons, Bool.and_self, Int.natCast_nonneg, Int.toNat_natCast, Int.toNat_zero, PV.of?, Tk.ren, tailP, evL_loop, or_true, true_or, Nat.zero_lt_one, Nat.sub_zero, List.getElem?_cons_zero, List.getElem?_cons_succ, List.set_cons_zero, List.set_cons_succ, List.take_length, PV.rens, PV.ren, c1, c2]
  rw [lp]
  rcases hr with rfl | rfl
  · simp only [q12_3, evL_op, evL_sel, evL_nx, evL_exit, evL_ret, evL_join, evL_block, evL_cond, evK_some, evJ_nx, evJ_rt, evJ_ex, evB_nx, evB_rt, evB_ex, evC2_bool, evS_and, evS_or, evS_tf, evS_ft, ev_t, ev_s, ev_c, evalOp, bin_add, bin_sub, bin_mul, bin_eql, bin_neq, bin_lss, bin_leq, bin_gtr, bin_geq, sbin_eql, sbin_neq, b8, List.map_cons, List.map_nil, PV.rens, PV.ren, if_true, if_false, Bool.false_eq_true, reduceIte, Nat.reduceAdd, Nat.reduceSub, Nat.reduceMul, Nat.reduceEqDiff, Nat.reduceLeDiff, Int.reduceLE, Int.reduceLT, Int.reduceEq, Int.reduceToNat, Int.reduceAdd, Int.reduceSub, Int.reduceNeg, decide_true, decide_false, Bool.not_true, Bool.not_false, Bool.true_and, Bool.false_and, Bool.and_true, Bool.and_false, Bool.or_true, Bool.true_or, Bool.or_false, Bool.false_or, and_self, and_true, true_and, Nat.le_refl, Nat.zero_add, Nat.mul_one, Nat.one_ne_zero, Nat.zero_le, highP, lowP, Option.map_some, Option.map_none, List.drop_zero, List.take_zero, List.length_cons, List.length_nil, List.nil_append, List.append_nil, List.cons_append, fillP, PV.cells?, PV.one, PV.cleans, PV.clean, PV.of?, List.all_cons, List.all_nil, List.take_succ_cons, List.drop_succ_cons, Bool.and_self, Int.natCast_nonneg, Int.toNat_natCast, Int.toNat_zero, PV.of?, Tk.ren, tailP, evL_loop, or_true, true_or, Nat.zero_lt_one, Nat.sub_zero, List.getElem?_cons_zero, List.getElem?_cons_succ, List.set_cons_zero, List.set_cons_succ, List.take_length]
  · simp only [q12_3, evL_op, evL_sel, evL_nx, evL_exit, evL_ret, evL_join, evL_block, evL_cond, evK_some, evJ_nx, evJ_rt, evJ_ex, evB_nx, evB_rt, evB_ex, evC2_bool, evS_and, evS_or, evS_tf, evS_ft, ev_t, ev_s, ev_c, evalOp, bin_add, bin_sub, bin_mul, bin_eql, bin_neq, bin_lss, bin_leq, bin_gtr, bin_geq, sbin_eql, sbin_neq, b8, List.map_cons, List.map_nil, PV.rens, PV.ren, if_true, if_false, Bool.false_eq_true, reduceIte, Nat.reduceAdd, Nat.reduceSub, Nat.reduceMul, Nat.reduceEqDiff, Nat.reduceLeDiff, Int.reduceLE, Int.reduceLT, Int.reduceEq, Int.reduceToNat, Int.reduceAdd, Int.reduceSub, Int.reduceNeg, decide_true, decide_false, Bool.not_true, Bool.not_false, Bool.true_and, Bool.false_and, Bool.and_true, Bool.and_false, Bool.or_true, Bool.true_or, Bool.or_false, Bool.false_or, and_self, and_true, true_and, Nat.le_refl, Nat.zero_add, Nat.mul_one, Nat.one_ne_zero, Nat.zero_le, highP, lowP, Option.map_some, Option.map_none, List.drop_zero, List.take_zero, List.length_cons, List.length_nil, List.nil_append, List.append_nil, List.cons_append, fillP, PV.cells?, PV.one, PV.cleans, PV.clean, PV.of?, List.all_cons, List.all_nil, List.take_succ_cons, List.drop_succ_cons, Bool.and_self, Int.natCast_nonneg, Int.toNat_natCast, Int.toNat_zero, PV.of?, Tk.ren, tailP, evL_loop, or_true, true_or, Nat.zero_lt_one, Nat.sub_zero, List.getElem?_cons_zero, List.getElem?_cons_succ, List.set_cons_zero, List.set_cons_succ, List.take_length]
theorem T12_no (b : List UInt8) (hb : b.length ≤ 1000000000) (h : body b = false) : T 12 [sl8 b] [] = some (.tup [.sl .nil 0 0 [], .int .i64 0, .int .i64 5], []) := by
  have c1 := T24 b hb
  rw [if_neg (by rw [h]; decide)] at c1
  refine evT_of (k := 0) (F := l12) (H' := []) (e := [.sl .nil 0 0 [], .int .i64 0, .int .i64 5]) (l := [.sl .nil 0 0 [], .int .i64 0, .int .i64 5]) rfl rfl rfl ?_ rfl rfl
  show evL T 0 q12 _ _ = _
  simp only [q12, evL_op, evL_sel, evL_nx, evL_exit, evL_ret, evL_join, evL_block, evL_cond, evK_some, evJ_nx, evJ_rt, evJ_ex, evB_nx, evB_rt, evB_ex, evC2_bool, evS_and, evS_or, evS_tf, evS_ft, ev_t, ev_s, ev_c, evalOp, bin_add, bin_sub, bin_mul, bin_eql, bin_neq, bin_lss, bin_leq, bin_gtr, bin_geq, sbin_eql, sbin_neq, b8, List.map_cons, List.map_nil, PV.rens, PV.ren, if_true, if_false, Bool.false_eq_true, reduceIte, Nat.reduceAdd, Nat.reduceSub, Nat.reduceMul, Nat.reduceEqDiff, Nat.reduceLeDiff, Int.reduceLE, Int.reduceLT, Int.reduceEq, Int.reduceToNat, Int.reduceAdd, Int.reduceSub, Int.reduceNeg, decide_true, decide_false, Bool.not_true, Bool.not_false, Bool.true_and, Bool.false_and, Bool.and_true, Bool.and_false, Bool.or_true, Bool.true_or, Bool.or_false, Bool.false_or, and_self, and_true, true_and, Nat.le_refl, Nat.zero_add, Nat.mul_one, Nat.one_ne_zero, Nat.zero_le, highP, lowP, Option.map_some, Option.map_none, List.drop_zero, List.take_zero, List.length_cons, List.length_nil, List.nil_append, List.append_nil, List.cons_append, fillP, PV.cells?, PV.one, PV.cleans, PV.clean, PV.of?, List.all_cons, List.all_nil, List.take_succ_cons, List.drop_succ_cons, Bool.and_self, Int.natCast_nonneg, Int.toNat_natCast, Int.toNat_zero, PV.of?, Tk.ren, tailP, evL_loop, or_true, true_or, Nat.zero_lt_one, Nat.sub_zero, List.getElem?_cons_zero, List.getElem?_cons_succ, List.set_cons_zero, List.set_cons_succ, List.take_length, PV.rens, PV.ren, c1]
end Go.Proofs.YtmdnloajpjfbmaaDoor.Tab
