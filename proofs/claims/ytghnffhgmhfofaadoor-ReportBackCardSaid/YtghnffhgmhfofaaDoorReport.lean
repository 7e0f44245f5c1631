/- Reports: what report's functions and the document's answer tell. -/
import Derived.Test.YtghnffhgmhfofaaDoorLines2
namespace Go.Proofs.YtghnffhgmhfofaaDoor.Tab
set_option linter.all false
open Go Go.RowKit Go.Proofs.YtghnffhgmhfofaaDoor.Ev
def cFrom : List UInt8 := [70, 114, 111, 109, 58, 32, 60, 112, 111, 115, 116, 109, 97, 115, 116, 101, 114, 64]
theorem cFrom_def : cFrom = [70, 114, 111, 109, 58, 32, 60, 112, 111, 115, 116, 109, 97, 115, 116, 101, 114, 64] := rfl
theorem cFrom_len : cFrom.length = 18 := rfl
def cTo : List UInt8 := [84, 111, 58, 32]
theorem cTo_def : cTo = [84, 111, 58, 32] := rfl
theorem cTo_len : cTo.length = 4 := rfl
def cSubj : List UInt8 := [83, 117, 98, 106, 101, 99, 116, 58, 32, 85, 110, 100, 101, 108, 105, 118, 101, 114, 101, 100, 32, 109, 97, 105, 108]
theorem cSubj_def : cSubj = [83, 117, 98, 106, 101, 99, 116, 58, 32, 85, 110, 100, 101, 108, 105, 118, 101, 114, 101, 100, 32, 109, 97, 105, 108] := rfl
theorem cSubj_len : cSubj.length = 25 := rfl
def cMulti : List UInt8 := [67, 111, 110, 116, 101, 110, 116, 45, 84, 121, 112, 101, 58, 32, 109, 117, 108, 116, 105, 112, 97, 114, 116, 47, 114, 101, 112, 111, 114, 116, 59, 32, 114, 101, 112, 111, 114, 116, 45, 116, 121, 112, 101, 61, 100, 101, 108, 105, 118, 101, 114, 121, 45, 115, 116, 97, 116, 117, 115, 59, 32, 98, 111, 117, 110, 100, 97, 114, 121, 61, 119]
theorem cMulti_def : cMulti = [67, 111, 110, 116, 101, 110, 116, 45, 84, 121, 112, 101, 58, 32, 109, 117, 108, 116, 105, 112, 97, 114, 116, 47, 114, 101, 112, 111, 114, 116, 59, 32, 114, 101, 112, 111, 114, 116, 45, 116, 121, 112, 101, 61, 100, 101, 108, 105, 118, 101, 114, 121, 45, 115, 116, 97, 116, 117, 115, 59, 32, 98, 111, 117, 110, 100, 97, 114, 121, 61, 119] := rfl
theorem cMulti_len : cMulti.length = 71 := rfl
def cDash : List UInt8 := [45, 45, 119]
theorem cDash_def : cDash = [45, 45, 119] := rfl
theorem cDash_len : cDash.length = 3 := rfl
def cPlain : List UInt8 := [67, 111, 110, 116, 101, 110, 116, 45, 84, 121, 112, 101, 58, 32, 116, 101, 120, 116, 47, 112, 108, 97, 105, 110]
theorem cPlain_def : cPlain = [67, 111, 110, 116, 101, 110, 116, 45, 84, 121, 112, 101, 58, 32, 116, 101, 120, 116, 47, 112, 108, 97, 105, 110] := rfl
theorem cPlain_len : cPlain.length = 24 := rfl
def cNo : List UInt8 := [78, 111, 32, 119, 97, 121, 32, 119, 97, 115, 32, 102, 111, 117, 110, 100, 32, 116, 111, 32]
theorem cNo_def : cNo = [78, 111, 32, 119, 97, 121, 32, 119, 97, 115, 32, 102, 111, 117, 110, 100, 32, 116, 111, 32] := rfl
theorem cNo_len : cNo.length = 20 := rfl
def cMsg : List UInt8 := [67, 111, 110, 116, 101, 110, 116, 45, 84, 121, 112, 101, 58, 32, 109, 101, 115, 115, 97, 103, 101, 47, 100, 101, 108, 105, 118, 101, 114, 121, 45, 115, 116, 97, 116, 117, 115]
theorem cMsg_def : cMsg = [67, 111, 110, 116, 101, 110, 116, 45, 84, 121, 112, 101, 58, 32, 109, 101, 115, 115, 97, 103, 101, 47, 100, 101, 108, 105, 118, 101, 114, 121, 45, 115, 116, 97, 116, 117, 115] := rfl
theorem cMsg_len : cMsg.length = 37 := rfl
def cMta : List UInt8 := [82, 101, 112, 111, 114, 116, 105, 110, 103, 45, 77, 84, 65, 58, 32, 100, 110, 115, 59, 32]
theorem cMta_def : cMta = [82, 101, 112, 111, 114, 116, 105, 110, 103, 45, 77, 84, 65, 58, 32, 100, 110, 115, 59, 32] := rfl
theorem cMta_len : cMta.length = 20 := rfl
def cFin : List UInt8 := [70, 105, 110, 97, 108, 45, 82, 101, 99, 105, 112, 105, 101, 110, 116, 58, 32, 114, 102, 99, 56, 50, 50, 59, 32]
theorem cFin_def : cFin = [70, 105, 110, 97, 108, 45, 82, 101, 99, 105, 112, 105, 101, 110, 116, 58, 32, 114, 102, 99, 56, 50, 50, 59, 32] := rfl
theorem cFin_len : cFin.length = 25 := rfl
def cAct : List UInt8 := [65, 99, 116, 105, 111, 110, 58, 32, 102, 97, 105, 108, 101, 100]
theorem cAct_def : cAct = [65, 99, 116, 105, 111, 110, 58, 32, 102, 97, 105, 108, 101, 100] := rfl
theorem cAct_len : cAct.length = 14 := rfl
def cSta : List UInt8 := [83, 116, 97, 116, 117, 115, 58, 32, 52, 46, 52, 46, 55]
theorem cSta_def : cSta = [83, 116, 97, 116, 117, 115, 58, 32, 52, 46, 52, 46, 55] := rfl
theorem cSta_len : cSta.length = 13 := rfl
def cEnd : List UInt8 := [45, 45, 119, 45, 45]
theorem cEnd_def : cEnd = [45, 45, 119, 45, 45] := rfl
theorem cEnd_len : cEnd.length = 5 := rfl
def cMtaF : List UInt8 := [114, 101, 112, 111, 114, 116, 105, 110, 103, 45, 109, 116, 97, 58, 32, 100, 110, 115, 59, 32]
theorem cMtaF_def : cMtaF = [114, 101, 112, 111, 114, 116, 105, 110, 103, 45, 109, 116, 97, 58, 32, 100, 110, 115, 59, 32] := rfl
theorem cMtaF_len : cMtaF.length = 20 := rfl
def cToF : List UInt8 := [116, 111, 58, 32]
theorem cToF_def : cToF = [116, 111, 58, 32] := rfl
theorem cToF_len : cToF.length = 4 := rfl
def cFinF : List UInt8 := [102, 105, 110, 97, 108, 45, 114, 101, 99, 105, 112, 105, 101, 110, 116, 58, 32, 114, 102, 99, 56, 50, 50, 59, 32]
theorem cFinF_def : cFinF = [102, 105, 110, 97, 108, 45, 114, 101, 99, 105, 112, 105, 101, 110, 116, 58, 32, 114, 102, 99, 56, 50, 50, 59, 32] := rfl
theorem cFinF_len : cFinF.length = 25 := rfl
/-- A report's lines: of a site, of two mailboxes' texts. -/
def repL (s a b : List UInt8) : List (List UInt8) := [cFrom ++ s ++ [62], cTo ++ a, cSubj, cMulti, [], cDash, cPlain, [], cNo ++ b ++ [46], cDash, cMsg, [], cMta ++ s, [], cFin ++ b, cAct, cSta, cEnd]
def rep (s a b : List UInt8) : List UInt8 := join (repL s a b)
def rightR (s : List UInt8) (n : Bool) (l d : List UInt8) (m : Bool) (k e : List UInt8) : Bool := parts s 255 label && pathOk n l d && pathOk m k e && !n && !m
theorem rep_len (s a b : List UInt8) : (rep s a b).length = 2 * s.length + a.length + 2 * b.length + 320 := by
  unfold rep repL join
  simp only [List.map_cons, List.map_nil, List.flatten_cons, List.flatten_nil, List.length_append, List.length_cons, List.length_nil, cFrom_len, cTo_len, cSubj_len, cMulti_len, cDash_len, cPlain_len, cNo_len, cMsg_len, cMta_len, cFin_len, cAct_len, cSta_len, cEnd_len, cMtaF_len, cToF_len, cFinF_len]
  omega
theorem tail_nl : ∀ r : List (List UInt8), Lib.joinTail nl (r ++ [[]]) = nl ++ join r
  | [] => rfl
  | y :: r => by
    have := tail_nl r
    unfold Lib.joinTail at this ⊢
    rw [List.cons_append, List.map_cons, List.flatten_cons, this, join_cons]
    simp
theorem join_lib (x : List UInt8) (r : List (List UInt8)) : Lib.join (x :: (r ++ [[]])) nl = join (x :: r) := by
  rw [Lib.join_cons, tail_nl, join_cons]
  rfl
theorem strs_map : ∀ L : List (List UInt8), strs (L.map PV.str) = some L
  | [] => rfl
  | l :: L => by rw [List.map_cons]; unfold strs; rw [strs_map L]
theorem T_Join (L : List (List UInt8)) (s : List UInt8) (h0 : 0 < L.length) (h1 : L.length ≤ 1000000) (h2 : (Lib.join L s).length ≤ 1000000000) (t : Tk) (z : Nat) : T 20 [.sl t z L.length (L.map PV.str), .str s] [] = some (.str (Lib.join L s), []) := by
  refine evT_ov (φ := ovJoin) rfl ?_
  unfold ovJoin
  simp only [strs_map]
  rw [if_pos ⟨trivial, h0, h1, h2⟩]
theorem textOf_len (n : Bool) (l d : List UInt8) : (textOf n l d).length ≤ l.length + d.length + 3 := by
  unfold textOf; split <;> simp
  omega
section
variable (s : List UInt8) (n : Bool) (l d : List UInt8) (m : Bool) (k e : List UInt8) (hl : s.length + l.length + d.length + k.length + e.length ≤ 100000)
include hl
theorem Build_yes (h : rightR s n l d m k e = true) : T 7 [.str s, pathV n l d, pathV m k e] [] = some (.tup [.sl (.tok 0) 1 (rep s (textOf n l d) (textOf m k e)).length ((rep s (textOf n l d) (textOf m k e)).map b8), .int .i64 0], [.tok]) := by
  unfold rightR at h
  simp only [Bool.and_eq_true, Bool.not_eq_true'] at h
  obtain ⟨⟨⟨⟨h1, h2⟩, h3⟩, rfl⟩, rfl⟩ := h
  have c1 := T18 false l d (by omega)
  have c2 := T18 false k e (by omega)
  have c3 := T19 s (by omega)
  rw [if_pos h2, if_pos h2] at c1
  rw [if_pos h3, if_pos h3] at c2
  rw [h1] at c3
  have la := textOf_len false l d
  have lb := textOf_len false k e
  generalize textOf false l d = a at *
  generalize textOf false k e = b at *
  refine evT_of (k := 0) (F := l7) (H' := [.tok]) (e := [.sl (.tok 0) 1 (rep s a b).length ((rep s a b).map b8), .int .i64 0]) (l := [.sl (.tok 0) 1 (rep s a b).length ((rep s a b).map b8), .int .i64 0]) rfl rfl rfl ?_ rfl rfl
  show evL T 0 q7 _ _ = _
  have s1 := sbin_add (s := cFrom) (u := s) (by simp only [cFrom_len, cTo_len, cSubj_len, cMulti_len, cDash_len, cPlain_len, cNo_len, cMsg_len, cMta_len, cFin_len, cAct_len, cSta_len, cEnd_len, cMtaF_len, cToF_len, cFinF_len]; omega)
  have s2 := sbin_add (s := cFrom ++ s) (u := [62]) (by simp only [List.length_append, List.length_cons, List.length_nil, cFrom_len, cTo_len, cSubj_len, cMulti_len, cDash_len, cPlain_len, cNo_len, cMsg_len, cMta_len, cFin_len, cAct_len, cSta_len, cEnd_len, cMtaF_len, cToF_len, cFinF_len]; omega)
  have s3 := sbin_add (s := cTo) (u := a) (by simp only [cFrom_len, cTo_len, cSubj_len, cMulti_len, cDash_len, cPlain_len, cNo_len, cMsg_len, cMta_len, cFin_len, cAct_len, cSta_len, cEnd_len, cMtaF_len, cToF_len, cFinF_len]; omega)
  have s4 := sbin_add (s := cNo) (u := b) (by simp only [cFrom_len, cTo_len, cSubj_len, cMulti_len, cDash_len, cPlain_len, cNo_len, cMsg_len, cMta_len, cFin_len, cAct_len, cSta_len, cEnd_len, cMtaF_len, cToF_len, cFinF_len]; omega)
  have s5 := sbin_add (s := cNo ++ b) (u := [46]) (by simp only [List.length_append, List.length_cons, List.length_nil, cFrom_len, cTo_len, cSubj_len, cMulti_len, cDash_len, cPlain_len, cNo_len, cMsg_len, cMta_len, cFin_len, cAct_len, cSta_len, cEnd_len, cMtaF_len, cToF_len, cFinF_len]; omega)
  have s6 := sbin_add (s := cMta) (u := s) (by simp only [cFrom_len, cTo_len, cSubj_len, cMulti_len, cDash_len, cPlain_len, cNo_len, cMsg_len, cMta_len, cFin_len, cAct_len, cSta_len, cEnd_len, cMtaF_len, cToF_len, cFinF_len]; omega)
  have s7 := sbin_add (s := cFin) (u := b) (by simp only [cFrom_len, cTo_len, cSubj_len, cMulti_len, cDash_len, cPlain_len, cNo_len, cMsg_len, cMta_len, cFin_len, cAct_len, cSta_len, cEnd_len, cMtaF_len, cToF_len, cFinF_len]; omega)
  have ej : Lib.join [cFrom ++ s ++ [62], cTo ++ a, cSubj, cMulti, [], cDash, cPlain, [], cNo ++ b ++ [46], cDash, cMsg, [], cMta ++ s, [], cFin ++ b, cAct, cSta, cEnd, []] nl = rep s a b := join_lib (cFrom ++ s ++ [62]) [cTo ++ a, cSubj, cMulti, [], cDash, cPlain, [], cNo ++ b ++ [46], cDash, cMsg, [], cMta ++ s, [], cFin ++ b, cAct, cSta, cEnd]
  have j : T 20 [.sl .no 1 19 [.str (cFrom ++ s ++ [62]), .str (cTo ++ a), .str cSubj, .str cMulti, .str [], .str cDash, .str cPlain, .str [], .str (cNo ++ b ++ [46]), .str cDash, .str cMsg, .str [], .str (cMta ++ s), .str [], .str (cFin ++ b), .str cAct, .str cSta, .str cEnd, .str []], .str [13, 10]] [] = _ :=
    T_Join [cFrom ++ s ++ [62], cTo ++ a, cSubj, cMulti, [], cDash, cPlain, [], cNo ++ b ++ [46], cDash, cMsg, [], cMta ++ s, [], cFin ++ b, cAct, cSta, cEnd, []] nl (by simp) (by simp) (by rw [ej, rep_len]; omega) .no 1
  rw [ej] at j
  generalize rep s a b = R at *
  simp only [q7, ← cFrom_def, ← cTo_def, ← cSubj_def, ← cMulti_def, ← cDash_def, ← cPlain_def, ← cNo_def, ← cMsg_def, ← cMta_def, ← cFin_def, ← cAct_def, ← cSta_def, ← cEnd_def, ← cMtaF_def, ← cToF_def, ← cFinF_def, evL_op, evL_sel, evL_nx, evL_exit, evL_ret, evL_join, evL_block, evL_cond, evK_some, evJ_nx, evJ_rt, evJ_ex, evB_nx, evB_rt, evB_ex, evC2_bool, evS_and, evS_or, evS_tf, evS_ft, ev_t, ev_s, ev_c, evalOp, bin_add, bin_sub, bin_mul, bin_eql, bin_neq, bin_lss, bin_leq, bin_gtr, bin_geq, sbin_eql, sbin_neq, b8, List.map_cons, List.map_nil, PV.rens, PV.ren, if_true, if_false, Bool.false_eq_true, reduceIte, Nat.reduceAdd, Nat.reduceSub, Nat.reduceMul, Nat.reduceEqDiff, Nat.reduceLeDiff, Int.reduceLE, Int.reduceLT, Int.reduceEq, Int.reduceToNat, Int.reduceAdd, Int.reduceSub, Int.reduceNeg, decide_true, decide_false, Bool.not_true, Bool.not_false, Bool.true_and, Bool.false_and, Bool.and_true, Bool.and_false, Bool.or_true, Bool.true_or, Bool.or_false, Bool.false_or, and_self, and_true, true_and, Nat.le_refl, Nat.zero_add, Nat.mul_one, Nat.one_ne_zero, Nat.zero_le, highP, lowP, Option.map_some, Option.map_none, List.drop_zero, List.take_zero, List.length_cons, List.length_nil, List.nil_append, List.append_nil, List.cons_append, fillP, PV.cells?, PV.one, PV.cleans, PV.clean, PV.of?, List.all_cons, List.all_nil, List.take_succ_cons, List.drop_succ_cons, Bool.and_self, Int.natCast_nonneg, Int.toNat_natCast, Int.toNat_zero, PV.of?, Tk.ren, tailP, evL_loop, or_true, true_or, Nat.zero_lt_one, Nat.sub_zero, List.getElem?_cons_zero, List.getElem?_cons_succ, List.set_cons_zero, List.set_cons_succ, List.take_length, PV.rens, PV.ren, c1, c2, c3, s1, s2, s3, s4, s5, s6, s7, j]
theorem Build_no (h : rightR s n l d m k e = false) : T 7 [.str s, pathV n l d, pathV m k e] [] = some (.tup [.sl .nil 0 0 [], .int .i64 5], []) := by
  have c1 := T18 n l d (by omega)
  have c2 := T18 m k e (by omega)
  have c3 := T19 s (by omega)
  unfold rightR at h
  refine evT_of (k := 0) (F := l7) (H' := []) (e := [.sl .nil 0 0 [], .int .i64 5]) (l := [.sl .nil 0 0 [], .int .i64 5]) rfl rfl rfl ?_ rfl rfl
  show evL T 0 q7 _ _ = _
  generalize textOf n l d = a at *
  generalize textOf m k e = b at *
  have five : ∀ x : Bool, (!decide ((if x = true then (0 : Int) else 5) = 0)) = !x := fun x => by cases x <;> rfl
  generalize parts s 255 label = x1 at *
  generalize pathOk n l d = x2 at *
  generalize pathOk m k e = x3 at *
  cases x1 with
  | false => simp only [q7, ← cFrom_def, ← cTo_def, ← cSubj_def, ← cMulti_def, ← cDash_def, ← cPlain_def, ← cNo_def, ← cMsg_def, ← cMta_def, ← cFin_def, ← cAct_def, ← cSta_def, ← cEnd_def, ← cMtaF_def, ← cToF_def, ← cFinF_def, evL_op, evL_sel, evL_nx, evL_exit, evL_ret, evL_join, evL_block, evL_cond, evK_some, evJ_nx, evJ_rt, evJ_ex, evB_nx, evB_rt, evB_ex, evC2_bool, evS_and, evS_or, evS_tf, evS_ft, ev_t, ev_s, ev_c, evalOp, bin_add, bin_sub, bin_mul, bin_eql, bin_neq, bin_lss, bin_leq, bin_gtr, bin_geq, sbin_eql, sbin_neq, b8, List.map_cons, List.map_nil, PV.rens, PV.ren, if_true, if_false, Bool.false_eq_true, reduceIte, Nat.reduceAdd, Nat.reduceSub, Nat.reduceMul, Nat.reduceEqDiff, Nat.reduceLeDiff, Int.reduceLE, Int.reduceLT, Int.reduceEq, Int.reduceToNat, Int.reduceAdd, Int.reduceSub, Int.reduceNeg, decide_true, decide_false, Bool.not_true, Bool.not_false, Bool.true_and, Bool.false_and, Bool.and_true, Bool.and_false, Bool.or_true, Bool.true_or, Bool.or_false, Bool.false_or, and_self, and_true, true_and, Nat.le_refl, Nat.zero_add, Nat.mul_one, Nat.one_ne_zero, Nat.zero_le, highP, lowP, Option.map_some, Option.map_none, List.drop_zero, List.take_zero, List.length_cons, List.length_nil, List.nil_append, List.append_nil, List.cons_append, fillP, PV.cells?, PV.one, PV.cleans, PV.clean, PV.of?, List.all_cons, List.all_nil, List.take_succ_cons, List.drop_succ_cons, Bool.and_self, Int.natCast_nonneg, Int.toNat_natCast, Int.toNat_zero, PV.of?, Tk.ren, tailP, evL_loop, or_true, true_or, Nat.zero_lt_one, Nat.sub_zero, List.getElem?_cons_zero, List.getElem?_cons_succ, List.set_cons_zero, List.set_cons_succ, List.take_length, PV.rens, PV.ren, c1, c2, c3, five]
  | true =>
    cases x2 with
    | false => cases x3 <;> simp only [q7, ← cFrom_def, ← cTo_def, ← cSubj_def, ← cMulti_def, ← cDash_def, ← cPlain_def, ← cNo_def, ← cMsg_def, ← cMta_def, ← cFin_def, ← cAct_def, ← cSta_def, ← cEnd_def, ← cMtaF_def, ← cToF_def, ← cFinF_def, evL_op, evL_sel, evL_nx, evL_exit, evL_ret, evL_join, evL_block, evL_cond, evK_some, evJ_nx, evJ_rt, evJ_ex, evB_nx, evB_rt, evB_ex, evC2_bool, evS_and, evS_or, evS_tf, evS_ft, ev_t, ev_s, ev_c, evalOp, bin_add, bin_sub, bin_mul, bin_eql, bin_neq, bin_lss, bin_leq, bin_gtr, bin_geq, sbin_eql, sbin_neq, b8, List.map_cons, List.map_nil, PV.rens, PV.ren, if_true, if_false, Bool.false_eq_true, reduceIte, Nat.reduceAdd, Nat.reduceSub, Nat.reduceMul, Nat.reduceEqDiff, Nat.reduceLeDiff, Int.reduceLE, Int.reduceLT, Int.reduceEq, Int.reduceToNat, Int.reduceAdd, Int.reduceSub, Int.reduceNeg, decide_true, decide_false, Bool.not_true, Bool.not_false, Bool.true_and, Bool.false_and, Bool.and_true, Bool.and_false, Bool.or_true, Bool.true_or, Bool.or_false, Bool.false_or, and_self, and_true, true_and, Nat.le_refl, Nat.zero_add, Nat.mul_one, Nat.one_ne_zero, Nat.zero_le, highP, lowP, Option.map_some, Option.map_none, List.drop_zero, List.take_zero, List.length_cons, List.length_nil, List.nil_append, List.append_nil, List.cons_append, fillP, PV.cells?, PV.one, PV.cleans, PV.clean, PV.of?, List.all_cons, List.all_nil, List.take_succ_cons, List.drop_succ_cons, Bool.and_self, Int.natCast_nonneg, Int.toNat_natCast, Int.toNat_zero, PV.of?, Tk.ren, tailP, evL_loop, or_true, true_or, Nat.zero_lt_one, Nat.sub_zero, List.getElem?_cons_zero, List.getElem?_cons_succ, List.set_cons_zero, List.set_cons_succ, List.take_length, PV.rens, PV.ren, c1, c2, c3, five]
    | true =>
      cases x3 with
      | false => simp only [q7, ← cFrom_def, ← cTo_def, ← cSubj_def, ← cMulti_def, ← cDash_def, ← cPlain_def, ← cNo_def, ← cMsg_def, ← cMta_def, ← cFin_def, ← cAct_def, ← cSta_def, ← cEnd_def, ← cMtaF_def, ← cToF_def, ← cFinF_def, evL_op, evL_sel, evL_nx, evL_exit, evL_ret, evL_join, evL_block, evL_cond, evK_some, evJ_nx, evJ_rt, evJ_ex, evB_nx, evB_rt, evB_ex, evC2_bool, evS_and, evS_or, evS_tf, evS_ft, ev_t, ev_s, ev_c, evalOp, bin_add, bin_sub, bin_mul, bin_eql, bin_neq, bin_lss, bin_leq, bin_gtr, bin_geq, sbin_eql, sbin_neq, b8, List.map_cons, List.map_nil, PV.rens, PV.ren, if_true, if_false, Bool.false_eq_true, reduceIte, Nat.reduceAdd, Nat.reduceSub, Nat.reduceMul, Nat.reduceEqDiff, Nat.reduceLeDiff, Int.reduceLE, Int.reduceLT, Int.reduceEq, Int.reduceToNat, Int.reduceAdd, Int.reduceSub, Int.reduceNeg, decide_true, decide_false, Bool.not_true, Bool.not_false, Bool.true_and, Bool.false_and, Bool.and_true, Bool.and_false, Bool.or_true, Bool.true_or, Bool.or_false, Bool.false_or, and_self, and_true, true_and, Nat.le_refl, Nat.zero_add, Nat.mul_one, Nat.one_ne_zero, Nat.zero_le, highP, lowP, Option.map_some, Option.map_none, List.drop_zero, List.take_zero, List.length_cons, List.length_nil, List.nil_append, List.append_nil, List.cons_append, fillP, PV.cells?, PV.one, PV.cleans, PV.clean, PV.of?, List.all_cons, List.all_nil, List.take_succ_cons, List.drop_succ_cons, Bool.and_self, Int.natCast_nonneg, Int.toNat_natCast, Int.toNat_zero, PV.of?, Tk.ren, tailP, evL_loop, or_true, true_or, Nat.zero_lt_one, Nat.sub_zero, List.getElem?_cons_zero, List.getElem?_cons_succ, List.set_cons_zero, List.set_cons_succ, List.take_length, PV.rens, PV.ren, c1, c2, c3, five]
      | true =>
        cases n with
        | true => simp only [q7, ← cFrom_def, ← cTo_def, ← cSubj_def, ← cMulti_def, ← cDash_def, ← cPlain_def, ← cNo_def, ← cMsg_def, ← cMta_def, ← cFin_def, ← cAct_def, ← cSta_def, ← cEnd_def, ← cMtaF_def, ← cToF_def, ← cFinF_def, evL_op, evL_sel, evL_nx, evL_exit, evL_ret, evL_join, evL_block, evL_cond, evK_some, evJ_nx, evJ_rt, evJ_ex, evB_nx, evB_rt, evB_ex, evC2_bool, evS_and, evS_or, evS_tf, evS_ft, ev_t, ev_s, ev_c, evalOp, bin_add, bin_sub, bin_mul, bin_eql, bin_neq, bin_lss, bin_leq, bin_gtr, bin_geq, sbin_eql, sbin_neq, b8, List.map_cons, List.map_nil, PV.rens, PV.ren, if_true, if_false, Bool.false_eq_true, reduceIte, Nat.reduceAdd, Nat.reduceSub, Nat.reduceMul, Nat.reduceEqDiff, Nat.reduceLeDiff, Int.reduceLE, Int.reduceLT, Int.reduceEq, Int.reduceToNat, Int.reduceAdd, Int.reduceSub, Int.reduceNeg, decide_true, decide_false, Bool.not_true, Bool.not_false, Bool.true_and, Bool.false_and, Bool.and_true, Bool.and_false, Bool.or_true, Bool.true_or, Bool.or_false, Bool.false_or, and_self, and_true, true_and, Nat.le_refl, Nat.zero_add, Nat.mul_one, Nat.one_ne_zero, Nat.zero_le, highP, lowP, Option.map_some, Option.map_none, List.drop_zero, List.take_zero, List.length_cons, List.length_nil, List.nil_append, List.append_nil, List.cons_append, fillP, PV.cells?, PV.one, PV.cleans, PV.clean, PV.of?, List.all_cons, List.all_nil, List.take_succ_cons, List.drop_succ_cons, Bool.and_self, Int.natCast_nonneg, Int.toNat_natCast, Int.toNat_zero, PV.of?, Tk.ren, tailP, evL_loop, or_true, true_or, Nat.zero_lt_one, Nat.sub_zero, List.getElem?_cons_zero, List.getElem?_cons_succ, List.set_cons_zero, List.set_cons_succ, List.take_length, PV.rens, PV.ren, c1, c2, c3, five]
        | false =>
          cases m with
          | true => simp only [q7, ← cFrom_def, ← cTo_def, ← cSubj_def, ← cMulti_def, ← cDash_def, ← cPlain_def, ← cNo_def, ← cMsg_def, ← cMta_def, ← cFin_def, ← cAct_def, ← cSta_def, ← cEnd_def, ← cMtaF_def, ← cToF_def, ← cFinF_def, evL_op, evL_sel, evL_nx, evL_exit, evL_ret, evL_join, evL_block, evL_cond, evK_some, evJ_nx, evJ_rt, evJ_ex, evB_nx, evB_rt, evB_ex, evC2_bool, evS_and, evS_or, evS_tf, evS_ft, ev_t, ev_s, ev_c, evalOp, bin_add, bin_sub, bin_mul, bin_eql, bin_neq, bin_lss, bin_leq, bin_gtr, bin_geq, sbin_eql, sbin_neq, b8, List.map_cons, List.map_nil, PV.rens, PV.ren, if_true, if_false, Bool.false_eq_true, reduceIte, Nat.reduceAdd, Nat.reduceSub, Nat.reduceMul, Nat.reduceEqDiff, Nat.reduceLeDiff, Int.reduceLE, Int.reduceLT, Int.reduceEq, Int.reduceToNat, Int.reduceAdd, Int.reduceSub, Int.reduceNeg, decide_true, decide_false, Bool.not_true, Bool.not_false, Bool.true_and, Bool.false_and, Bool.and_true, Bool.and_false, Bool.or_true, Bool.true_or, Bool.or_false, Bool.false_or, and_self, and_true, true_and, Nat.le_refl, Nat.zero_add, Nat.mul_one, Nat.one_ne_zero, Nat.zero_le, highP, lowP, Option.map_some, Option.map_none, List.drop_zero, List.take_zero, List.length_cons, List.length_nil, List.nil_append, List.append_nil, List.cons_append, fillP, PV.cells?, PV.one, PV.cleans, PV.clean, PV.of?, List.all_cons, List.all_nil, List.take_succ_cons, List.drop_succ_cons, Bool.and_self, Int.natCast_nonneg, Int.toNat_natCast, Int.toNat_zero, PV.of?, Tk.ren, tailP, evL_loop, or_true, true_or, Nat.zero_lt_one, Nat.sub_zero, List.getElem?_cons_zero, List.getElem?_cons_succ, List.set_cons_zero, List.set_cons_succ, List.take_length, PV.rens, PV.ren, c1, c2, c3, five]
          | false => cases h
end
end Go.Proofs.YtghnffhgmhfofaaDoor.Tab
