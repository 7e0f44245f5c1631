/- PathExact: what is left of it, over texts. -/
import Derived.Test.YtgilfigaimndkaaDoorPath9
namespace Go.Proofs.YtgilfigaimndkaaDoor.Tab
set_option linter.all false
open Go Go.RowKit Go.Proofs.YtgilfigaimndkaaDoor.Ev
theorem parseC_shape (s : List UInt8) : ∃ n l d, parseC s = [.bool n, .str l, .str d] := by
  unfold parseC
  split
  · exact ⟨_, _, _, rfl⟩
  · split
    · exact ⟨_, _, _, rfl⟩
    · exact ⟨_, _, _, rfl⟩
theorem lawPathExact (p : Bool × List UInt8 × List UInt8) (hp : True ∧ p.2.1.length ≤ room ∧ p.2.2.length ≤ room) (q : Bool × List UInt8 × List UInt8) (hq : True ∧ q.2.1.length ≤ room ∧ q.2.2.length ≤ room) (s : List UInt8) (hs : s.length ≤ room) :
    evT lt ov 3 [.agg ([.bool p.1] ++ ([.str p.2.1] ++ [.str p.2.2])), .agg ([.bool q.1] ++ ([.str q.2.1] ++ [.str q.2.2])), .str s] [] = some (.bool true, []) := by
  obtain ⟨n, l, d⟩ := p
  obtain ⟨m, k, e⟩ := q
  obtain ⟨_, hl, hd⟩ := hp
  obtain ⟨_, hk, he⟩ := hq
  simp only at hl hd hk he
  unfold room at hl hd hk he hs
  show evT lt ov 3 [pathV n l d, pathV m k e, .str s] [] = _
  have w1 : IntKind.i64.wrap ((l.length : Int) + d.length) = (l.length : Int) + d.length := IntWalk.i64_in _ (by omega)
  have w2 : IntKind.i64.wrap ((l.length : Int) + d.length + k.length) = (l.length : Int) + d.length + k.length := IntWalk.i64_in _ (by omega)
  have w3 : IntKind.i64.wrap ((l.length : Int) + d.length + k.length + e.length) = (l.length : Int) + d.length + k.length + e.length := IntWalk.i64_in _ (by omega)
  have w4 : IntKind.i64.wrap ((l.length : Int) + d.length + k.length + e.length + s.length) = (l.length : Int) + d.length + k.length + e.length + s.length := IntWalk.i64_in _ (by omega)
  have fin : ∀ {H : Hp}, evL T 0 q3 [pathV n l d, pathV m k e, .str s] [] = some (.rt, [.bool true], H) → evT lt ov 3 [pathV n l d, pathV m k e, .str s] [] = some (.bool true, []) := fun {H} h =>
    evT_of (k := 0) (F := l3) (H' := H) (e := [.bool true]) (l := [.bool true]) rfl rfl rfl h rfl rfl
  by_cases hlen : (2000 : Int) < (l.length : Int) + d.length + k.length + e.length + s.length
  · refine fin (H := H2 n l d m k e) ?_
    simp only [q3, evL_op, evL_sel, evL_nx, evL_exit, evL_ret, evL_join, evL_block, evL_cond, evK_some, evJ_nx, evJ_rt, evJ_ex, evB_nx, evB_rt, evB_ex, evC2_bool, evS_and, evS_or, evS_tf, evS_ft, ev_t, ev_s, ev_c, evalOp, bin_add, bin_sub, bin_mul, bin_eql, bin_neq, bin_lss, bin_leq, bin_gtr, bin_geq, sbin_eql, sbin_neq, b8, List.map_cons, List.map_nil, PV.rens, PV.ren, if_true, if_false, Bool.false_eq_true, reduceIte, Nat.reduceAdd, Nat.reduceSub, Nat.reduceMul, Nat.reduceEqDiff, Nat.reduceLeDiff, Int.reduceLE, Int.reduceLT, Int.reduceEq, Int.reduceToNat, Int.reduceAdd, Int.reduceSub, Int.reduceNeg, decide_true, decide_false, Bool.not_true, Bool.not_false, Bool.true_and, Bool.false_and, Bool.and_true, Bool.and_false, Bool.or_true, Bool.true_or, Bool.or_false, Bool.false_or, and_self, and_true, true_and, Nat.le_refl, Nat.zero_add, Nat.mul_one, Nat.one_ne_zero, Nat.zero_le, highP, lowP, Option.map_some, Option.map_none, List.drop_zero, List.take_zero, List.length_cons, List.length_nil, List.nil_append, List.append_nil, List.cons_append, fillP, PV.cells?, PV.one, PV.cleans, PV.clean, PV.of?, List.all_cons, List.all_nil, List.take_succ_cons, List.drop_succ_cons, Bool.and_self, Int.natCast_nonneg, Int.toNat_natCast, Int.toNat_zero, w1, w2, w3, w4, hlen, List.getElem?_cons_zero, List.getElem?_cons_succ]
  · obtain ⟨x, y, z, hxyz⟩ := parseC_shape s
    have a9 := T9 s (by omega)
    have a10 := T10 s (by omega)
    have a11 := T11 n l d (by omega)
    have a12 := T12 n l d (by omega) (by omega)
    have a13 := T13 n l d (by omega)
    have a14 := T14 s (by omega)
    have a15 := T15 s (by omega)
    have a16 := T16 x x y z y z
    have a17 := T17 n l d (by omega)
    have a18 := T18 n m l d k e (by omega) (by omega)
    have a19 := T19 n m l d k e (by omega) (by omega)
    have a20 := T20 n l d s (by omega) (by omega)
    have a21 := T21 n l d s (by omega) (by omega)
    have a22 := T22 s (by omega)
    have a23 := T23 s (by omega)
    have hv : parseV s = .agg [.bool x, .str y, .str z] := by unfold parseV; rw [hxyz]
    rw [hv] at a9 a10
    simp only [beq_self_eq_true, decide_true, Bool.and_self] at a16
    refine fin (H := [.cells [.bool n, .str l, .str d], .cells [.bool m, .str k, .str e], .cells [.bool x, .str y, .str z], .cells [.bool x, .str y, .str z]]) ?_
    cases hok : pathOk n l d <;> cases hpo : parseOk s <;> cases hss : sameP n l d m k e <;> cases hat : atP n l d s <;> cases hds : parts s 255 label <;>
      simp only [hok, hpo, hss, hat, hds, Bool.false_eq_true, if_false, if_true] at a9 a10 a11 a12 a13 a14 a15 a17 a18 a19 a20 a21 <;>
      simp only [q3, evL_op, evL_sel, evL_nx, evL_exit, evL_ret, evL_join, evL_block, evL_cond, evK_some, evJ_nx, evJ_rt, evJ_ex, evB_nx, evB_rt, evB_ex, evC2_bool, evS_and, evS_or, evS_tf, evS_ft, ev_t, ev_s, ev_c, evalOp, bin_add, bin_sub, bin_mul, bin_eql, bin_neq, bin_lss, bin_leq, bin_gtr, bin_geq, sbin_eql, sbin_neq, b8, List.map_cons, List.map_nil, PV.rens, PV.ren, if_true, if_false, Bool.false_eq_true, reduceIte, Nat.reduceAdd, Nat.reduceSub, Nat.reduceMul, Nat.reduceEqDiff, Nat.reduceLeDiff, Int.reduceLE, Int.reduceLT, Int.reduceEq, Int.reduceToNat, Int.reduceAdd, Int.reduceSub, Int.reduceNeg, decide_true, decide_false, Bool.not_true, Bool.not_false, Bool.true_and, Bool.false_and, Bool.and_true, Bool.and_false, Bool.or_true, Bool.true_or, Bool.or_false, Bool.false_or, and_self, and_true, true_and, Nat.le_refl, Nat.zero_add, Nat.mul_one, Nat.one_ne_zero, Nat.zero_le, highP, lowP, Option.map_some, Option.map_none, List.drop_zero, List.take_zero, List.length_cons, List.length_nil, List.nil_append, List.append_nil, List.cons_append, fillP, PV.cells?, PV.one, PV.cleans, PV.clean, PV.of?, List.all_cons, List.all_nil, List.take_succ_cons, List.drop_succ_cons, Bool.and_self, Int.natCast_nonneg, Int.toNat_natCast, Int.toNat_zero, w1, w2, w3, w4, hlen, List.getElem?_cons_zero, List.getElem?_cons_succ, List.set_cons_zero, List.set_cons_succ, a9, a10, a11, a12, a13, a14, a15, a16, a17, a18, a19, a20, a21, a22, a23, T24, Bool.true_bne, Bool.bne_true, Bool.false_bne, Bool.bne_false, Bool.xor_false, Bool.false_xor, Bool.true_xor, Bool.xor_true, Bool.not_false, Bool.not_true, beq_self_eq_true, bne_self_eq_false, Bool.xor_self]
end Go.Proofs.YtgilfigaimndkaaDoor.Tab
