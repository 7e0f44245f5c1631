/- Mailboxes: the document's answer reads a text; letters made small. -/
import Derived.Test.YtghnffhgmhfofaaDoorPathB
namespace Go.Proofs.YtghnffhgmhfofaaDoor.Tab
set_option linter.all false
open Go Go.RowKit Go.Proofs.YtghnffhgmhfofaaDoor.Ev
theorem T48 (n : Bool) (l d : List UInt8) (ok : Bool) : T 48 [pathV n l d, .bool ok] [] = some (.tup [if ok = true then pathV n l d else pathV false [] [], .bool ok], []) := by
  cases ok with
  | true =>
    refine evT_of (k := 0) (F := l48) (H' := [.cells [.bool n, .str l, .str d], .cells [.bool n, .str l, .str d]]) (e := [.ptr 1 0, .bool true]) (l := [pathV n l d, .bool true]) rfl rfl rfl ?_ rfl rfl
    show evL T 0 q48 _ _ = _
    simp only [q48, evL_op, evL_sel, evL_nx, evL_exit, evL_ret, evL_join, evL_block, evL_cond, evK_some, evJ_nx, evJ_rt, evJ_ex, evB_nx, evB_rt, evB_ex, evC2_bool, evS_and, evS_or, evS_tf, evS_ft, ev_t, ev_s, ev_c, evalOp, bin_add, bin_sub, bin_mul, bin_eql, bin_neq, bin_lss, bin_leq, bin_gtr, bin_geq, sbin_eql, sbin_neq, b8, List.map_cons, List.map_nil, PV.rens, PV.ren, if_true, if_false, Bool.false_eq_true, reduceIte, Nat.reduceAdd, Nat.reduceSub, Nat.reduceMul, Nat.reduceEqDiff, Nat.reduceLeDiff, Int.reduceLE, Int.reduceLT, Int.reduceEq, Int.reduceToNat, Int.reduceAdd, Int.reduceSub, Int.reduceNeg, decide_true, decide_false, Bool.not_true, Bool.not_false, Bool.true_and, Bool.false_and, Bool.and_true, Bool.and_false, Bool.or_true, Bool.true_or, Bool.or_false, Bool.false_or, and_self, and_true, true_and, Nat.le_refl, Nat.zero_add, Nat.mul_one, Nat.one_ne_zero, Nat.zero_le, highP, lowP, Option.map_some, Option.map_none, List.drop_zero, List.take_zero, List.length_cons, List.length_nil, List.nil_append, List.append_nil, List.cons_append, fillP, PV.cells?, PV.one, PV.cleans, PV.clean, PV.of?, List.all_cons, List.all_nil, List.take_succ_cons, List.drop_succ_cons, Bool.and_self, Int.natCast_nonneg, Int.toNat_natCast, Int.toNat_zero, List.getElem?_cons_zero, List.getElem?_cons_succ, List.set_cons_zero, List.set_cons_succ]
  | false =>
    refine evT_of (k := 0) (F := l48) (H' := [.cells [.bool n, .str l, .str d], .cells [.bool false, .str [], .str []]]) (e := [.ptr 1 0, .bool false]) (l := [pathV false [] [], .bool false]) rfl rfl rfl ?_ rfl rfl
    show evL T 0 q48 _ _ = _
    simp only [q48, evL_op, evL_sel, evL_nx, evL_exit, evL_ret, evL_join, evL_block, evL_cond, evK_some, evJ_nx, evJ_rt, evJ_ex, evB_nx, evB_rt, evB_ex, evC2_bool, evS_and, evS_or, evS_tf, evS_ft, ev_t, ev_s, ev_c, evalOp, bin_add, bin_sub, bin_mul, bin_eql, bin_neq, bin_lss, bin_leq, bin_gtr, bin_geq, sbin_eql, sbin_neq, b8, List.map_cons, List.map_nil, PV.rens, PV.ren, if_true, if_false, Bool.false_eq_true, reduceIte, Nat.reduceAdd, Nat.reduceSub, Nat.reduceMul, Nat.reduceEqDiff, Nat.reduceLeDiff, Int.reduceLE, Int.reduceLT, Int.reduceEq, Int.reduceToNat, Int.reduceAdd, Int.reduceSub, Int.reduceNeg, decide_true, decide_false, Bool.not_true, Bool.not_false, Bool.true_and, Bool.false_and, Bool.and_true, Bool.and_false, Bool.or_true, Bool.true_or, Bool.or_false, Bool.false_or, and_self, and_true, true_and, Nat.le_refl, Nat.zero_add, Nat.mul_one, Nat.one_ne_zero, Nat.zero_le, highP, lowP, Option.map_some, Option.map_none, List.drop_zero, List.take_zero, List.length_cons, List.length_nil, List.nil_append, List.append_nil, List.cons_append, fillP, PV.cells?, PV.one, PV.cleans, PV.clean, PV.of?, List.all_cons, List.all_nil, List.take_succ_cons, List.drop_succ_cons, Bool.and_self, Int.natCast_nonneg, Int.toNat_natCast, Int.toNat_zero, List.getElem?_cons_zero, List.getElem?_cons_succ, List.set_cons_zero, List.set_cons_succ]
abbrev H0 : Hp := [.cells [.bool false, .str [], .str []]]
theorem head26 (s : List UInt8) (i : Int) : headS 1 [.str s, .ptr 0 0, .int .i64 i] H0 = ([.str s, .ptr 0 0, .int .i64 i], H0) := rfl
/-- Not yet at the sign. -/
theorem body26 (k0 : Nat) (s : List UInt8) (hs : s.length ≤ 9000000000000000000) (i : Nat) (c : UInt8) (hc : s[i]? = some c) (h : c ≠ 64) :
    evL T k0 q26_1 [.str s, .ptr 0 0, .int .i64 i] H0 = some (.nx, [.str s, .ptr 0 0, .int .i64 (i + 1 : Nat)], H0) := by
  have hi : i < s.length := (List.getElem?_eq_some_iff.1 hc).1
  have h1 : (i : Int) < s.length := by omega
  have hw : IntKind.i64.wrap ((i : Int) + 1) = ((i + 1 : Nat) : Int) := by rw [IntWalk.i64_in _ (by omega)]; rfl
  have e : decide ((c.toNat : Int) = 64) = false := by rw [show decide ((c.toNat : Int) = 64) = (c == 64) from byte_eqn c 64 (by omega)]; simpa using h
  simp only [q26_1, q26_0, evL_op, evL_sel, evL_nx, evL_exit, evL_ret, evL_join, evL_block, evL_cond, evK_some, evJ_nx, evJ_rt, evJ_ex, evB_nx, evB_rt, evB_ex, evC2_bool, evS_and, evS_or, evS_tf, evS_ft, ev_t, ev_s, ev_c, evalOp, bin_add, bin_sub, bin_mul, bin_eql, bin_neq, bin_lss, bin_leq, bin_gtr, bin_geq, sbin_eql, sbin_neq, b8, List.map_cons, List.map_nil, PV.rens, PV.ren, if_true, if_false, Bool.false_eq_true, reduceIte, h1, decide_true, Int.natCast_nonneg, Int.toNat_natCast, hc, e, hw]
theorem body26_at (k0 : Nat) (x y : List UInt8) (hs : x.length + y.length ≤ 4000000000) :
    evL T k0 q26_1 [.str (x ++ 64 :: y), .ptr 0 0, .int .i64 x.length] H0 = some (.rt, [.ptr 0 0, .bool (pathOk false x y)], [.cells [.bool false, .str (if pathOk false x y = true then x else []), .str (if pathOk false x y = true then y else [])], .cells [.bool false, .str x, .str y]]) := by
  have hc : (x ++ 64 :: y)[x.length]? = some 64 := by simp
  have hl : (x ++ 64 :: y).length = x.length + (y.length + 1) := by simp
  have h1 : (x.length : Int) < ((x.length + (y.length + 1) : Nat) : Int) := by omega
  have h1' : (x.length : Int) ≤ ((x.length + (y.length + 1) : Nat) : Int) := by omega
  have hw : IntKind.i64.wrap ((x.length : Int) + 1) = ((x.length + 1 : Nat) : Int) := by rw [IntWalk.i64_in _ (by omega)]; rfl
  have e : decide (((64 : UInt8).toNat : Int) = 64) = true := rfl
  have t1 : (x ++ 64 :: y).take x.length = x := by simp
  have t2 : ((x ++ 64 :: y).take (x.length + (y.length + 1))).drop (x.length + 1) = y := by rw [List.take_of_length_le (by simp)]; simp
  have t3 : x.length + 1 ≤ x.length + (y.length + 1) := by omega
  have a1 := T28 false x y (by omega) (by omega)
  have a2 := T48 false x y (pathOk false x y)
  cases hok : pathOk false x y with
  | true =>
    rw [hok] at a1 a2
    simp only [if_true] at a2
    simp only [q26_1, q26_0, evL_op, evL_sel, evL_nx, evL_exit, evL_ret, evL_join, evL_block, evL_cond, evK_some, evJ_nx, evJ_rt, evJ_ex, evB_nx, evB_rt, evB_ex, evC2_bool, evS_and, evS_or, evS_tf, evS_ft, ev_t, ev_s, ev_c, evalOp, bin_add, bin_sub, bin_mul, bin_eql, bin_neq, bin_lss, bin_leq, bin_gtr, bin_geq, sbin_eql, sbin_neq, b8, List.map_cons, List.map_nil, PV.rens, PV.ren, if_true, if_false, Bool.false_eq_true, reduceIte, Nat.reduceAdd, Nat.reduceSub, Nat.reduceMul, Nat.reduceEqDiff, Nat.reduceLeDiff, Int.reduceLE, Int.reduceLT, Int.reduceEq, Int.reduceToNat, Int.reduceAdd, Int.reduceSub, Int.reduceNeg, decide_true, decide_false, Bool.not_true, Bool.not_false, Bool.true_and, Bool.false_and, Bool.and_true, Bool.and_false, Bool.or_true, Bool.true_or, Bool.or_false, Bool.false_or, and_self, and_true, true_and, Nat.le_refl, Nat.zero_add, Nat.mul_one, Nat.one_ne_zero, Nat.zero_le, highP, lowP, Option.map_some, Option.map_none, List.drop_zero, List.take_zero, List.length_cons, List.length_nil, List.nil_append, List.append_nil, List.cons_append, fillP, PV.cells?, PV.one, PV.cleans, PV.clean, PV.of?, List.all_cons, List.all_nil, List.take_succ_cons, List.drop_succ_cons, Bool.and_self, Int.natCast_nonneg, Int.toNat_natCast, Int.toNat_zero, hl, h1, h1', hc, e, hw, t1, t2, t3, a1, a2, List.getElem?_cons_zero, List.getElem?_cons_succ, List.set_cons_zero, List.set_cons_succ]
  | false =>
    rw [hok] at a1 a2
    simp only [Bool.false_eq_true, if_false] at a2
    simp only [q26_1, q26_0, evL_op, evL_sel, evL_nx, evL_exit, evL_ret, evL_join, evL_block, evL_cond, evK_some, evJ_nx, evJ_rt, evJ_ex, evB_nx, evB_rt, evB_ex, evC2_bool, evS_and, evS_or, evS_tf, evS_ft, ev_t, ev_s, ev_c, evalOp, bin_add, bin_sub, bin_mul, bin_eql, bin_neq, bin_lss, bin_leq, bin_gtr, bin_geq, sbin_eql, sbin_neq, b8, List.map_cons, List.map_nil, PV.rens, PV.ren, if_true, if_false, Bool.false_eq_true, reduceIte, Nat.reduceAdd, Nat.reduceSub, Nat.reduceMul, Nat.reduceEqDiff, Nat.reduceLeDiff, Int.reduceLE, Int.reduceLT, Int.reduceEq, Int.reduceToNat, Int.reduceAdd, Int.reduceSub, Int.reduceNeg, decide_true, decide_false, Bool.not_true, Bool.not_false, Bool.true_and, Bool.false_and, Bool.and_true, Bool.and_false, Bool.or_true, Bool.true_or, Bool.or_false, Bool.false_or, and_self, and_true, true_and, Nat.le_refl, Nat.zero_add, Nat.mul_one, Nat.one_ne_zero, Nat.zero_le, highP, lowP, Option.map_some, Option.map_none, List.drop_zero, List.take_zero, List.length_cons, List.length_nil, List.nil_append, List.append_nil, List.cons_append, fillP, PV.cells?, PV.one, PV.cleans, PV.clean, PV.of?, List.all_cons, List.all_nil, List.take_succ_cons, List.drop_succ_cons, Bool.and_self, Int.natCast_nonneg, Int.toNat_natCast, Int.toNat_zero, hl, h1, h1', hc, e, hw, t1, t2, t3, a1, a2, List.getElem?_cons_zero, List.getElem?_cons_succ, List.set_cons_zero, List.set_cons_succ]
theorem loop26_at (k0 : Nat) (x y : List UInt8) (hx : 64 ∉ x) (hs : x.length + y.length ≤ 4000000000) : ∀ (j i : Nat), i + j = x.length → ∀ k, j < k →
    loopL 1 (evL T k0 q26_1) k [.str (x ++ 64 :: y), .ptr 0 0, .int .i64 i] H0 = some (.rt, [.ptr 0 0, .bool (pathOk false x y)], [.cells [.bool false, .str (if pathOk false x y = true then x else []), .str (if pathOk false x y = true then y else [])], .cells [.bool false, .str x, .str y]])
  | j, i, hij, 0, hk => by omega
  | 0, i, hij, k + 1, hk => by
    obtain rfl : i = x.length := by omega
    rw [loopL_succ, head26, body26_at k0 x y hs]
  | j + 1, i, hij, k + 1, hk => by
    have hi : i < x.length := by omega
    have hc : (x ++ 64 :: y)[i]? = some x[i] := by rw [List.getElem?_append_left hi, List.getElem?_eq_getElem hi]
    have hne : x[i] ≠ 64 := fun e => hx (by rw [← e]; exact List.getElem_mem hi)
    rw [loopL_succ, head26, body26 k0 _ (by simp; omega) i x[i] hc hne]
    exact loop26_at k0 x y hx hs j (i + 1) (by omega) k (by omega)
theorem loop26_no (k0 : Nat) (s : List UInt8) (hx : 64 ∉ s) (hs : s.length ≤ 9000000000000000000) : ∀ (j i : Nat), i + j = s.length → ∀ k, j < k →
    loopL 1 (evL T k0 q26_1) k [.str s, .ptr 0 0, .int .i64 i] H0 = some (.ex 0, [.ptr 0 0], H0)
  | j, i, hij, 0, hk => by omega
  | 0, i, hij, k + 1, hk => by
    have h1 : ¬ ((i : Int) < s.length) := by omega
    have h3 : evL T k0 q26_1 [.str s, .ptr 0 0, .int .i64 i] H0 = some (.ex 0, [.ptr 0 0], H0) := by simp only [q26_1, evL_op, evL_sel, evL_nx, evL_exit, evL_ret, evL_join, evL_block, evL_cond, evK_some, evJ_nx, evJ_rt, evJ_ex, evB_nx, evB_rt, evB_ex, evC2_bool, evS_and, evS_or, evS_tf, evS_ft, ev_t, ev_s, ev_c, evalOp, bin_add, bin_sub, bin_mul, bin_eql, bin_neq, bin_lss, bin_leq, bin_gtr, bin_geq, sbin_eql, sbin_neq, b8, List.map_cons, List.map_nil, PV.rens, PV.ren, if_true, if_false, Bool.false_eq_true, reduceIte, h1, decide_false]
    rw [loopL_succ, head26, h3]
  | j + 1, i, hij, k + 1, hk => by
    have hi : i < s.length := by omega
    have hne : s[i] ≠ 64 := fun e => hx (by rw [← e]; exact List.getElem_mem hi)
    rw [loopL_succ, head26, body26 k0 s hs i s[i] (List.getElem?_eq_getElem hi) hne]
    exact loop26_no k0 s hx hs j (i + 1) (by omega) k (by omega)
/-- Between brackets. -/
theorem T26_in (b : List UInt8) (hb : b ≠ []) (hl : b.length ≤ 4000000000) : T 26 [.str (60 :: (b ++ [62]))] [] = some (.tup [parseV (60 :: (b ++ [62])), .bool (parseOk (60 :: (b ++ [62])))], []) := by
  have h0 : ¬ (60 :: (b ++ [62]) : List UInt8) = [60, 62] := fun e => hb (by simpa using e)
  have hlen : (60 :: (b ++ [62])).length = b.length + 2 := by simp
  have n1 : ¬ (((b.length + 2 : Nat) : Int) < 2) := by omega
  have i0 : (60 :: (b ++ [62]))[Int.toNat 0]? = some 60 := rfl
  have w1 : IntKind.i64.wrap (((b.length + 2 : Nat) : Int) - 1) = ((b.length + 1 : Nat) : Int) := by rw [IntWalk.i64_in _ (by omega)]; omega
  have i1 : (60 :: (b ++ [62]))[b.length + 1]? = some 62 := by simp
  have t1 : ((60 :: (b ++ [62])).take (b.length + 1)).drop 1 = b := by simp
  have b1 : ((b.length + 1 : Nat) : Int) ≤ ((b.length + 2 : Nat) : Int) := by omega
  have b2 : 1 ≤ b.length + 1 := by omega
  have hq : ∀ k0, evL T k0 q26 [.str (60 :: (b ++ [62]))] [] = evJ T k0 q26_2 (evB 0 (loopL 1 (evL T k0 q26_1) k0 [.str b, .ptr 0 0, .int .i64 (0 : Nat)] H0)) := fun k0 => by
    have e0 : ((0 : Nat) : Int) = 0 := rfl
    have e1 : decide (((60 : UInt8).toNat : Int) = 60) = true := rfl
    have e2 : decide (((62 : UInt8).toNat : Int) = 62) = true := rfl
    have e3 : Int.toNat 1 = 1 := rfl
    have e4 : (0 : Int) ≤ 1 := by decide
    rw [e0]
    simp only [q26, evL_op, evL_sel, evL_nx, evL_exit, evL_ret, evL_join, evL_block, evL_cond, evK_some, evJ_nx, evJ_rt, evJ_ex, evB_nx, evB_rt, evB_ex, evC2_bool, evS_and, evS_or, evS_tf, evS_ft, ev_t, ev_s, ev_c, evalOp, bin_add, bin_sub, bin_mul, bin_eql, bin_neq, bin_lss, bin_leq, bin_gtr, bin_geq, sbin_eql, sbin_neq, b8, List.map_cons, List.map_nil, PV.rens, PV.ren, if_true, if_false, Bool.false_eq_true, reduceIte, h0, hlen, n1, decide_false, decide_true, Bool.not_true, Int.le_refl, i0, e1, e2, w1, Int.natCast_nonneg, Int.toNat_natCast, i1, Bool.or_self, highP, lowP, Option.map_some, b1, b2, e3, e4, and_self, t1, evL_loop, List.length_nil, List.nil_append, List.length_cons, Nat.zero_add]
  have hp := parse_in hb
  have c1 : cutP (60 :: (b ++ [62])) 60 = (b ++ [62], true) := by simp [cutP]
  have c2 : cutS (b ++ [62]) 62 = (b, true) := by unfold cutS; rw [if_pos List.getLast?_concat, List.dropLast_concat]
  have hin : inner (60 :: (b ++ [62])) = ((cutA b 64).1, (cutA b 64).2.1) := by unfold inner; rw [c1, c2]
  rcases idxB_cases b 64 with ⟨_, h5⟩ | ⟨x, y, h5, h6, _⟩
  · have hno : parseOk (60 :: (b ++ [62])) = false := by rw [hp, cutA_no h5]; rfl
    rw [bad_parse hno, hno]
    refine evT_of (k := b.length + 1) (F := l26) (H' := H0) (e := [.ptr 0 0, .bool false]) (l := [pathV false [] [], .bool false]) rfl rfl rfl ?_ rfl rfl
    show evL T (b.length + 1) q26 _ _ = _
    rw [hq, loop26_no _ b h5 (by omega) b.length 0 (by omega) _ (by omega)]
    simp only [q26_2, evL_op, evL_sel, evL_nx, evL_exit, evL_ret, evL_join, evL_block, evL_cond, evK_some, evJ_nx, evJ_rt, evJ_ex, evB_nx, evB_rt, evB_ex, evC2_bool, evS_and, evS_or, evS_tf, evS_ft, ev_t, ev_s, ev_c, evalOp, bin_add, bin_sub, bin_mul, bin_eql, bin_neq, bin_lss, bin_leq, bin_gtr, bin_geq, sbin_eql, sbin_neq, b8, List.map_cons, List.map_nil, PV.rens, PV.ren, if_true, if_false, Bool.false_eq_true, reduceIte, Nat.reduceAdd, Nat.reduceSub, Nat.reduceMul, Nat.reduceEqDiff, Nat.reduceLeDiff, Int.reduceLE, Int.reduceLT, Int.reduceEq, Int.reduceToNat, Int.reduceAdd, Int.reduceSub, Int.reduceNeg, decide_true, decide_false, Bool.not_true, Bool.not_false, Bool.true_and, Bool.false_and, Bool.and_true, Bool.and_false, Bool.or_true, Bool.true_or, Bool.or_false, Bool.false_or, and_self, and_true, true_and, Nat.le_refl, Nat.zero_add, Nat.mul_one, Nat.one_ne_zero, Nat.zero_le, highP, lowP, Option.map_some, Option.map_none, List.drop_zero, List.take_zero, List.length_cons, List.length_nil, List.nil_append, List.append_nil, List.cons_append, fillP, PV.cells?, PV.one, PV.cleans, PV.clean, PV.of?, List.all_cons, List.all_nil, List.take_succ_cons, List.drop_succ_cons, Bool.and_self, Int.natCast_nonneg, Int.toNat_natCast, Int.toNat_zero, List.getElem?_cons_zero, List.set_cons_zero]
  · subst h5
    rw [cutA_at h6] at hp hin
    have hxy : x.length + y.length ≤ 4000000000 := by simp at hl; omega
    have hlp := loop26_at ((x ++ 64 :: y).length + 1) x y h6 hxy x.length 0 (by omega) ((x ++ 64 :: y).length + 1) (by simp; omega)
    cases hok : pathOk false x y with
    | true =>
      have hyes : parseOk (60 :: (x ++ 64 :: y ++ [62])) = true := by rw [hp]; simpa using hok
      have hv : parseV (60 :: (x ++ 64 :: y ++ [62])) = pathV false x y := by
        have : innerOk (60 :: (x ++ 64 :: y ++ [62])) = true := by
          have h7 : (decide (60 :: (x ++ 64 :: y ++ [62]) = [60, 62]) || innerOk (60 :: (x ++ 64 :: y ++ [62]))) = true := hyes
          rwa [decide_eq_false h0, Bool.false_or] at h7
        unfold parseV parseC
        rw [if_neg h0, if_pos this, hin]
      rw [hyes, hv]
      rw [hok] at hlp
      refine evT_of (k := (x ++ 64 :: y).length + 1) (F := l26) (H' := [.cells [.bool false, .str x, .str y], .cells [.bool false, .str x, .str y]]) (e := [.ptr 0 0, .bool true]) (l := [pathV false x y, .bool true]) rfl rfl rfl ?_ rfl rfl
      show evL T _ q26 _ _ = _
      rw [hq, hlp]
      rfl
    | false =>
      have hno : parseOk (60 :: (x ++ 64 :: y ++ [62])) = false := by rw [hp]; simpa using hok
      rw [bad_parse hno, hno]
      rw [hok] at hlp
      refine evT_of (k := (x ++ 64 :: y).length + 1) (F := l26) (H' := [.cells [.bool false, .str [], .str []], .cells [.bool false, .str x, .str y]]) (e := [.ptr 0 0, .bool false]) (l := [pathV false [] [], .bool false]) rfl rfl rfl ?_ rfl rfl
      show evL T _ q26 _ _ = _
      rw [hq, hlp]
      rfl
theorem T26 (s : List UInt8) (hl : s.length ≤ 4000000000) : T 26 [.str s] [] = some (.tup [parseV s, .bool (parseOk s)], []) := by
  by_cases h0 : s = [60, 62]
  · subst h0; exact evT_iff.2 ⟨50, by kernel_rfl⟩
  · by_cases h1 : 2 ≤ s.length ∧ s.head? = some 60 ∧ s.getLast? = some 62
    · obtain ⟨h2, h3, h4⟩ := h1
      cases s with
      | nil => simp at h3
      | cons a r =>
        obtain rfl : a = 60 := by simpa using h3
        rcases List.eq_nil_or_concat r with rfl | ⟨b, z, rfl⟩
        · simp at h2
        · rw [List.concat_eq_append] at *
          have hz : z = 62 := by
            have e : 60 :: (b ++ [z]) = (60 :: b) ++ [z] := rfl
            rw [e, List.getLast?_concat] at h4
            exact Option.some.inj h4
          subst hz
          have hb : b ≠ [] := fun e => h0 (by rw [e]; rfl)
          exact T26_in b hb (by simp at hl; omega)
    · have hno : parseOk s = false := by
        by_cases h2 : s.head? = some 60
        · by_cases h3 : s.getLast? = some 62
          · have h4 : ¬ 2 ≤ s.length := fun h4 => h1 ⟨h4, h2, h3⟩
            cases s with
            | nil => simp at h2
            | cons a r => cases r with
              | nil => simp at h2 h3; rw [h2] at h3; exact absurd h3 (by decide)
              | cons b r => simp at h4
          · by_cases h4 : 2 ≤ s.length
            · exact parse_last h3 h4
            · cases s with
              | nil => simp at h2
              | cons a r => cases r with
                | nil =>
                  obtain rfl : a = 60 := by simpa using h2
                  decide
                | cons b r => simp at h4
        · exact parse_head h2
      rw [bad_parse hno, hno]
      refine evT_of (k := 0) (F := l26) (H' := H0) (e := [.ptr 0 0, .bool false]) (l := [pathV false [] [], .bool false]) rfl rfl rfl ?_ rfl rfl
      show evL T 0 q26 _ _ = _
      by_cases h2 : (s.length : Int) < 2
      · simp only [q26, evL_op, evL_sel, evL_nx, evL_exit, evL_ret, evL_join, evL_block, evL_cond, evK_some, evJ_nx, evJ_rt, evJ_ex, evB_nx, evB_rt, evB_ex, evC2_bool, evS_and, evS_or, evS_tf, evS_ft, ev_t, ev_s, ev_c, evalOp, bin_add, bin_sub, bin_mul, bin_eql, bin_neq, bin_lss, bin_leq, bin_gtr, bin_geq, sbin_eql, sbin_neq, b8, List.map_cons, List.map_nil, PV.rens, PV.ren, if_true, if_false, Bool.false_eq_true, reduceIte, Nat.reduceAdd, Nat.reduceSub, Nat.reduceMul, Nat.reduceEqDiff, Nat.reduceLeDiff, Int.reduceLE, Int.reduceLT, Int.reduceEq, Int.reduceToNat, Int.reduceAdd, Int.reduceSub, Int.reduceNeg, decide_true, decide_false, Bool.not_true, Bool.not_false, Bool.true_and, Bool.false_and, Bool.and_true, Bool.and_false, Bool.or_true, Bool.true_or, Bool.or_false, Bool.false_or, and_self, and_true, true_and, Nat.le_refl, Nat.zero_add, Nat.mul_one, Nat.one_ne_zero, Nat.zero_le, highP, lowP, Option.map_some, Option.map_none, List.drop_zero, List.take_zero, List.length_cons, List.length_nil, List.nil_append, List.append_nil, List.cons_append, fillP, PV.cells?, PV.one, PV.cleans, PV.clean, PV.of?, List.all_cons, List.all_nil, List.take_succ_cons, List.drop_succ_cons, Bool.and_self, Int.natCast_nonneg, Int.toNat_natCast, Int.toNat_zero, h0, h2, List.getElem?_cons_zero, List.set_cons_zero]
      · have h4 : 2 ≤ s.length := by omega
        cases s with
        | nil => simp at h4
        | cons a r =>
          have hidx : (a :: r)[Int.toNat 0]? = some a := rfl
          obtain ⟨z, hz⟩ : ∃ z, (a :: r).getLast? = some z := ⟨_, List.getLast?_eq_some_getLast (by simp)⟩
          have hz' : (a :: r)[(a :: r).length - 1]? = some z := by rw [← List.getLast?_eq_getElem?]; exact hz
          have hw : IntKind.i64.wrap (((a :: r).length : Int) - 1) = (((a :: r).length - 1 : Nat) : Int) := by
            rw [IntWalk.i64_in _ (by simp only [List.length_cons] at hl ⊢; omega)]; simp only [List.length_cons]; omega
          have ea : (!decide ((a.toNat : Int) = 60)) = !(a == 60) := byte_ne a 60 (by omega)
          have ez : (!decide ((z.toNat : Int) = 62)) = !(z == 62) := byte_ne z 62 (by omega)
          have hbad : (!(a == 60) || !(z == 62)) = true := by
            cases ha : (a == 60) with
            | false => rfl
            | true =>
              cases hzz : (z == 62) with
              | false => rfl
              | true =>
                refine absurd ⟨h4, ?_, ?_⟩ h1
                · rw [List.head?_cons, eq_of_beq ha]
                · rw [hz, eq_of_beq hzz]
          simp only [List.length_cons] at hw hz' h2
          simp only [q26, evL_op, evL_sel, evL_nx, evL_exit, evL_ret, evL_join, evL_block, evL_cond, evK_some, evJ_nx, evJ_rt, evJ_ex, evB_nx, evB_rt, evB_ex, evC2_bool, evS_and, evS_or, evS_tf, evS_ft, ev_t, ev_s, ev_c, evalOp, bin_add, bin_sub, bin_mul, bin_eql, bin_neq, bin_lss, bin_leq, bin_gtr, bin_geq, sbin_eql, sbin_neq, b8, List.map_cons, List.map_nil, PV.rens, PV.ren, if_true, if_false, Bool.false_eq_true, reduceIte, h0, h2, decide_false, Int.le_refl, hidx, ea, hw, Int.natCast_nonneg, Int.toNat_natCast, hz', ez, Bool.false_or, hbad, fillP, PV.cells?, PV.one, List.all_cons, List.all_nil, Bool.and_self, List.length_nil, List.nil_append, List.getElem?_cons_zero, List.set_cons_zero, List.take_zero, List.drop_succ_cons, List.drop_zero, List.length_cons, List.append_nil]
          rfl
def upB (c : UInt8) : Bool := decide ((65 : Int) ≤ c.toNat) && decide ((c.toNat : Int) ≤ 90)
def foldB (c : UInt8) : UInt8 := if upB c = true then c + 32 else c
theorem up_val (c : UInt8) (h : upB c = true) : ((c + 32).toNat : Int) = c.toNat + 32 := by
  simp only [upB, Bool.and_eq_true, decide_eq_true_eq] at h
  rw [UInt8.toNat_add]
  have : (32 : UInt8).toNat = 32 := rfl
  omega
theorem flat_b8 (l : List UInt8) : (l.map b8).all flat = true := by
  induction l with
  | nil => rfl
  | cons c l ih => rw [List.map_cons, List.all_cons, ih]; rfl
def sp22 (s : List UInt8) (i : Nat) : List UInt8 := (s.take i).map foldB ++ s.drop i
theorem sp22_len (s : List UInt8) (i : Nat) : (sp22 s i).length = s.length := by unfold sp22; simp; omega
theorem sp22_at (s : List UInt8) (i : Nat) (h : i < s.length) : (sp22 s i)[i]? = some s[i] := by
  unfold sp22
  rw [List.getElem?_append_right (by simp; omega)]
  simp [Nat.min_eq_left (Nat.le_of_lt h)]
theorem sp22_set (s : List UInt8) (i : Nat) (h : i < s.length) : (sp22 s i).set i (foldB s[i]) = sp22 s (i + 1) := by
  unfold sp22
  rw [List.set_append_right _ _ (by simp; omega), List.take_succ_eq_append_getElem h, List.drop_eq_getElem_cons h]
  rw [List.length_map, List.length_take, Nat.min_eq_left (Nat.le_of_lt h), Nat.sub_self, List.set_cons_zero, List.map_append, List.append_assoc]
  rfl
theorem take1b {L : List UInt8} {i : Nat} {c : UInt8} (h : L[i]? = some c) : ((L.map b8).drop i).take 1 = [b8 c] := by
  have hi : i < L.length := (List.getElem?_eq_some_iff.1 h).1
  have e : L[i] = c := (List.getElem?_eq_some_iff.1 h).2
  rw [← List.map_drop, List.drop_eq_getElem_cons hi, List.map_cons, e]
  rfl
theorem put1b {L : List UInt8} {i : Nat} (h : i < L.length) (d : UInt8) : (L.map b8).take i ++ [b8 d] ++ (L.map b8).drop (i + 1) = (L.set i d).map b8 := by
  rw [List.set_eq_take_append_cons_drop, if_pos h, List.map_append, List.map_cons, List.map_take, List.map_drop, List.append_assoc]
  rfl
def foldS (s : List UInt8) : List UInt8 := s.map foldB
def sz23 (i : Nat) : Nat := if i = 0 then 0 else 1
def o23 (s : List UInt8) (i : Nat) : PV := .sl (.tok 0) (sz23 i) i (((s.take i).map foldB).map b8)
theorem head47 (s : List UInt8) (sz n : Nat) (cs : List PV) (i : Int) : headS 0 [.str s, .sl (.tok 1) sz n cs, .int .i64 i] [.dead, .tok] = ([.str s, .sl (.tok 0) sz n cs, .int .i64 i], [.tok]) := rfl
theorem head47' (s : List UInt8) (i : Int) : headS 0 [.str s, .sl .nil 0 0 [], .int .i64 i] [] = ([.str s, .sl (.tok 0) 0 0 [], .int .i64 i], [.tok]) := rfl
theorem body47 (k0 : Nat) (s : List UInt8) (hs : s.length ≤ 70368744177663) (i : Nat) (hi : i < s.length) :
    evL T k0 q47_2 [.str s, o23 s i, .int .i64 i] [.tok] = some (.nx, [.str s, .sl (.tok 1) 1 (i + 1) (((s.take (i + 1)).map foldB).map b8), .int .i64 (i + 1 : Nat)], [.dead, .tok]) := by
  have h1 : (i : Int) < s.length := by omega
  have hw : IntKind.i64.wrap ((i : Int) + 1) = ((i + 1 : Nat) : Int) := by rw [IntWalk.i64_in _ (by omega)]; rfl
  have hc : s[i]? = some s[i] := List.getElem?_eq_getElem hi
  have hu : (decide ((65 : Int) ≤ (s[i]).toNat) && decide (((s[i]).toNat : Int) ≤ 90)) = upB s[i] := rfl
  have hcs : (((s.take (i + 1)).map foldB).map b8) = ((s.take i).map foldB).map b8 ++ [b8 (foldB s[i])] := by
    rw [List.take_succ_eq_append_getElem hi, List.map_append, List.map_append]; rfl
  have hroom : i + 1 ≤ roomMax := by unfold roomMax; omega
  have hsz : sz23 i = 1 ∨ sz23 i = 0 := by unfold sz23; split <;> simp
  cases hup : upB s[i] with
  | false =>
    have hf : foldB s[i] = s[i] := by unfold foldB; rw [hup]; rfl
    rw [hcs, hf]
    simp only [q47_2, q47_1, q47_0, o23, evL_op, evL_sel, evL_nx, evL_exit, evL_ret, evL_join, evL_block, evL_cond, evK_some, evJ_nx, evJ_rt, evJ_ex, evB_nx, evB_rt, evB_ex, evC2_bool, evS_and, evS_or, evS_tf, evS_ft, ev_t, ev_s, ev_c, evalOp, bin_add, bin_sub, bin_mul, bin_eql, bin_neq, bin_lss, bin_leq, bin_gtr, bin_geq, sbin_eql, sbin_neq, b8, List.map_cons, List.map_nil, PV.rens, PV.ren, if_true, if_false, Bool.false_eq_true, reduceIte, Nat.reduceAdd, Nat.reduceSub, Nat.reduceMul, Nat.reduceEqDiff, Nat.reduceLeDiff, Int.reduceLE, Int.reduceLT, Int.reduceEq, Int.reduceToNat, Int.reduceAdd, Int.reduceSub, Int.reduceNeg, decide_true, decide_false, Bool.not_true, Bool.not_false, Bool.true_and, Bool.false_and, Bool.and_true, Bool.and_false, Bool.or_true, Bool.true_or, Bool.or_false, Bool.false_or, and_self, and_true, true_and, Nat.le_refl, Nat.zero_add, Nat.mul_one, Nat.one_ne_zero, Nat.zero_le, highP, lowP, Option.map_some, Option.map_none, List.drop_zero, List.take_zero, List.length_cons, List.length_nil, List.nil_append, List.append_nil, List.cons_append, fillP, PV.cells?, PV.one, PV.cleans, PV.clean, PV.of?, List.all_cons, List.all_nil, List.take_succ_cons, List.drop_succ_cons, Bool.and_self, Int.natCast_nonneg, Int.toNat_natCast, Int.toNat_zero, h1, Int.natCast_nonneg, Int.toNat_natCast, hc, hu, hup, tailP, List.getElem?_cons_zero, hroom, hsz, or_true, List.set_cons_zero, hw]
  | true =>
    have hv := up_val s[i] hup
    have hf : foldB s[i] = s[i] + 32 := by unfold foldB; rw [hup]; rfl
    rw [hcs, hf]
    have hup2 := hup
    simp only [upB, Bool.and_eq_true, decide_eq_true_eq] at hup2
    have w1 : IntKind.u8.wrap (((s[i]).toNat : Int) + 32) = ((s[i] + 32).toNat : Int) := by rw [IntWalk.u8_in _ (by omega), hv]
    simp only [q47_2, q47_1, q47_0, o23, evL_op, evL_sel, evL_nx, evL_exit, evL_ret, evL_join, evL_block, evL_cond, evK_some, evJ_nx, evJ_rt, evJ_ex, evB_nx, evB_rt, evB_ex, evC2_bool, evS_and, evS_or, evS_tf, evS_ft, ev_t, ev_s, ev_c, evalOp, bin_add, bin_sub, bin_mul, bin_eql, bin_neq, bin_lss, bin_leq, bin_gtr, bin_geq, sbin_eql, sbin_neq, b8, List.map_cons, List.map_nil, PV.rens, PV.ren, if_true, if_false, Bool.false_eq_true, reduceIte, Nat.reduceAdd, Nat.reduceSub, Nat.reduceMul, Nat.reduceEqDiff, Nat.reduceLeDiff, Int.reduceLE, Int.reduceLT, Int.reduceEq, Int.reduceToNat, Int.reduceAdd, Int.reduceSub, Int.reduceNeg, decide_true, decide_false, Bool.not_true, Bool.not_false, Bool.true_and, Bool.false_and, Bool.and_true, Bool.and_false, Bool.or_true, Bool.true_or, Bool.or_false, Bool.false_or, and_self, and_true, true_and, Nat.le_refl, Nat.zero_add, Nat.mul_one, Nat.one_ne_zero, Nat.zero_le, highP, lowP, Option.map_some, Option.map_none, List.drop_zero, List.take_zero, List.length_cons, List.length_nil, List.nil_append, List.append_nil, List.cons_append, fillP, PV.cells?, PV.one, PV.cleans, PV.clean, PV.of?, List.all_cons, List.all_nil, List.take_succ_cons, List.drop_succ_cons, Bool.and_self, Int.natCast_nonneg, Int.toNat_natCast, Int.toNat_zero, h1, Int.natCast_nonneg, Int.toNat_natCast, hc, hu, hup, tailP, List.getElem?_cons_zero, hroom, hsz, or_true, List.set_cons_zero, hw, w1]
theorem loop47 (k0 : Nat) (s : List UInt8) (hs : s.length ≤ 70368744177663) : ∀ (j i : Nat), i + j = s.length → ∀ k, j < k → ∀ (env : List PV) (H : Hp), headS 0 env H = ([.str s, o23 s i, .int .i64 i], [.tok]) →
    loopL 0 (evL T k0 q47_2) k env H = some (.ex 0, [o23 s s.length], [.tok])
  | j, i, hij, 0, hk, _, _, _ => by omega
  | 0, i, hij, k + 1, hk, env, H, hh => by
    obtain rfl : i = s.length := by omega
    have h1 : ¬ ((s.length : Int) < s.length) := by omega
    have h3 : evL T k0 q47_2 [.str s, o23 s s.length, .int .i64 s.length] [.tok] = some (.ex 0, [o23 s s.length], [.tok]) := by simp only [q47_2, evL_op, evL_sel, evL_nx, evL_exit, evL_ret, evL_join, evL_block, evL_cond, evK_some, evJ_nx, evJ_rt, evJ_ex, evB_nx, evB_rt, evB_ex, evC2_bool, evS_and, evS_or, evS_tf, evS_ft, ev_t, ev_s, ev_c, evalOp, bin_add, bin_sub, bin_mul, bin_eql, bin_neq, bin_lss, bin_leq, bin_gtr, bin_geq, sbin_eql, sbin_neq, b8, List.map_cons, List.map_nil, PV.rens, PV.ren, if_true, if_false, Bool.false_eq_true, reduceIte, h1, decide_false]
    rw [loopL_succ, hh, h3]
  | j + 1, i, hij, k + 1, hk, env, H, hh => by
    rw [loopL_succ, hh, body47 k0 s hs i (by omega)]
    exact loop47 k0 s hs j (i + 1) (by omega) k (by omega) _ _ (head47 _ _ _ _ _)
theorem T47 (s : List UInt8) (hs : s.length ≤ 70368744177663) : T 47 [.str s] [] = some (.str (foldS s), []) := by
  refine evT_of (k := s.length + 1) (F := l47) (H' := [.tok]) (e := [.str (foldS s)]) (l := [.str (foldS s)]) rfl rfl rfl ?_ rfl rfl
  have hl := loop47 (s.length + 1) s hs s.length 0 (by omega) (s.length + 1) (by omega) [.str s, .sl .nil 0 0 [], .int .i64 (0 : Nat)] [] (head47' s _)
  have h0 : evL T (s.length + 1) q47 [.str s] [] = evJ T (s.length + 1) q47_3 (evB 0 (loopL 0 (evL T (s.length + 1) q47_2) (s.length + 1) [.str s, .sl .nil 0 0 [], .int .i64 (0 : Nat)] [])) := rfl
  show evL T _ q47 _ _ = _
  rw [h0, hl]
  have hb := bytes8_b8 (s.map foldB)
  have ht : s.take s.length = s := List.take_length
  unfold o23
  rw [ht]
  generalize (s.map foldB).map b8 = L at hb
  by_cases hne : s.length = 0
  · obtain rfl : s = [] := List.eq_nil_of_length_eq_zero hne
    simp only [q47_3, evL_op, evL_sel, evL_nx, evL_exit, evL_ret, evL_join, evL_block, evL_cond, evK_some, evJ_nx, evJ_rt, evJ_ex, evB_nx, evB_rt, evB_ex, evC2_bool, evS_and, evS_or, evS_tf, evS_ft, ev_t, ev_s, ev_c, evalOp, bin_add, bin_sub, bin_mul, bin_eql, bin_neq, bin_lss, bin_leq, bin_gtr, bin_geq, sbin_eql, sbin_neq, b8, List.map_cons, List.map_nil, PV.rens, PV.ren, if_true, if_false, Bool.false_eq_true, reduceIte, hne]
    rfl
  · have hsz : sz23 s.length = 1 := if_neg hne
    simp only [q47_3, evL_op, evL_sel, evL_nx, evL_exit, evL_ret, evL_join, evL_block, evL_cond, evK_some, evJ_nx, evJ_rt, evJ_ex, evB_nx, evB_rt, evB_ex, evC2_bool, evS_and, evS_or, evS_tf, evS_ft, ev_t, ev_s, ev_c, evalOp, bin_add, bin_sub, bin_mul, bin_eql, bin_neq, bin_lss, bin_leq, bin_gtr, bin_geq, sbin_eql, sbin_neq, b8, List.map_cons, List.map_nil, PV.rens, PV.ren, if_true, if_false, Bool.false_eq_true, reduceIte, hne, hsz, hb]
    rfl
def sameP (n : Bool) (l d : List UInt8) (m : Bool) (k e : List UInt8) : Bool := pathOk n l d && pathOk m k e && (n == m) && decide (l = k) && decide (foldS d = foldS e)
def atP (n : Bool) (l d s : List UInt8) : Bool := pathOk n l d && !n && decide (foldS d = foldS s)
theorem ok_dec (b : Bool) : decide ((if b = true then (0 : Int) else 5) = 0) = b := by cases b <;> rfl
abbrev H2 (n : Bool) (l d : List UInt8) (m : Bool) (k e : List UInt8) : Hp := [.cells [.bool n, .str l, .str d], .cells [.bool m, .str k, .str e]]
section
variable (n m : Bool) (l d k e : List UInt8) (h1 : l.length + d.length < 2147483648) (h2 : k.length + e.length < 2147483648)
include h1 h2
end
section
variable (n : Bool) (l d s : List UInt8) (h1 : l.length + d.length < 2147483648) (h2 : s.length < 2147483648)
include h1 h2
end
end Go.Proofs.YtghnffhgmhfofaaDoor.Tab
