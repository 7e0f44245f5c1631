/- Bodies, and the document's answer for lines. -/
import Derived.Test.YtghnffhgmhfofaaDoorLines
namespace Go.Proofs.YtghnffhgmhfofaaDoor.Tab
set_option linter.all false
open Go Go.RowKit Go.Proofs.YtghnffhgmhfofaaDoor.Ev
theorem b2s_if {l : List UInt8} {H : Hp} : (if l.length = 0 then some (PV.str [], H) else some (PV.str l, H)) = some (PV.str l, H) := by
  split
  · rename_i h; rw [List.eq_nil_of_length_eq_zero h]
  · rfl
theorem T_equal8 (a b : List UInt8) : T 24 [sl8 a, sl8 b] [] = some (.bool (decide (a = b)), []) := by
  refine evT_of (k := 0) (F := l24) (H' := []) (e := [.bool (decide (a = b))]) (l := [.bool (decide (a = b))]) rfl rfl rfl ?_ rfl rfl
  show evL T 0 q24 _ _ = _
  simp only [q24, evL_op, evL_sel, evL_nx, evL_exit, evL_ret, evL_join, evL_block, evL_cond, evK_some, evJ_nx, evJ_rt, evJ_ex, evB_nx, evB_rt, evB_ex, evC2_bool, evS_and, evS_or, evS_tf, evS_ft, ev_t, ev_s, ev_c, evalOp, bin_add, bin_sub, bin_mul, bin_eql, bin_neq, bin_lss, bin_leq, bin_gtr, bin_geq, sbin_eql, sbin_neq, b8, List.map_cons, List.map_nil, PV.rens, PV.ren, if_true, if_false, Bool.false_eq_true, reduceIte, Nat.reduceAdd, Nat.reduceSub, Nat.reduceMul, Nat.reduceEqDiff, Nat.reduceLeDiff, Int.reduceLE, Int.reduceLT, Int.reduceEq, Int.reduceToNat, Int.reduceAdd, Int.reduceSub, Int.reduceNeg, decide_true, decide_false, Bool.not_true, Bool.not_false, Bool.true_and, Bool.false_and, Bool.and_true, Bool.and_false, Bool.or_true, Bool.true_or, Bool.or_false, Bool.false_or, and_self, and_true, true_and, Nat.le_refl, Nat.zero_add, Nat.mul_one, Nat.one_ne_zero, Nat.zero_le, highP, lowP, Option.map_some, Option.map_none, List.drop_zero, List.take_zero, List.length_cons, List.length_nil, List.nil_append, List.append_nil, List.cons_append, fillP, PV.cells?, PV.one, PV.cleans, PV.clean, PV.of?, List.all_cons, List.all_nil, List.take_succ_cons, List.drop_succ_cons, Bool.and_self, Int.natCast_nonneg, Int.toNat_natCast, Int.toNat_zero, bytes8_map, b2s_if]
theorem T24 {p q : PV} {a b : List UInt8} (hp : BS p a) (hq : BS q b) : T 24 [p, q] [] = some (.bool (decide (a = b)), []) := by
  have emp : ∀ t z, T 24 [.sl t z 0 [], sl8 b] [] = some (.bool (decide ([] = b)), []) := fun t z => by
    refine evT_of (k := 0) (F := l24) (H' := []) (e := [.bool (decide ([] = b))]) (l := [.bool (decide ([] = b))]) rfl rfl rfl ?_ rfl rfl
    show evL T 0 q24 _ _ = _
    simp only [q24, evL_op, evL_sel, evL_nx, evL_exit, evL_ret, evL_join, evL_block, evL_cond, evK_some, evJ_nx, evJ_rt, evJ_ex, evB_nx, evB_rt, evB_ex, evC2_bool, evS_and, evS_or, evS_tf, evS_ft, ev_t, ev_s, ev_c, evalOp, bin_add, bin_sub, bin_mul, bin_eql, bin_neq, bin_lss, bin_leq, bin_gtr, bin_geq, sbin_eql, sbin_neq, b8, List.map_cons, List.map_nil, PV.rens, PV.ren, if_true, if_false, Bool.false_eq_true, reduceIte, Nat.reduceAdd, Nat.reduceSub, Nat.reduceMul, Nat.reduceEqDiff, Nat.reduceLeDiff, Int.reduceLE, Int.reduceLT, Int.reduceEq, Int.reduceToNat, Int.reduceAdd, Int.reduceSub, Int.reduceNeg, decide_true, decide_false, Bool.not_true, Bool.not_false, Bool.true_and, Bool.false_and, Bool.and_true, Bool.and_false, Bool.or_true, Bool.true_or, Bool.or_false, Bool.false_or, and_self, and_true, true_and, Nat.le_refl, Nat.zero_add, Nat.mul_one, Nat.one_ne_zero, Nat.zero_le, highP, lowP, Option.map_some, Option.map_none, List.drop_zero, List.take_zero, List.length_cons, List.length_nil, List.nil_append, List.append_nil, List.cons_append, fillP, PV.cells?, PV.one, PV.cleans, PV.clean, PV.of?, List.all_cons, List.all_nil, List.take_succ_cons, List.drop_succ_cons, Bool.and_self, Int.natCast_nonneg, Int.toNat_natCast, Int.toNat_zero, bytes8_map, b2s_if]
  have emp2 : ∀ t z, T 24 [sl8 a, .sl t z 0 []] [] = some (.bool (decide (a = [])), []) := fun t z => by
    refine evT_of (k := 0) (F := l24) (H' := []) (e := [.bool (decide (a = []))]) (l := [.bool (decide (a = []))]) rfl rfl rfl ?_ rfl rfl
    show evL T 0 q24 _ _ = _
    simp only [q24, evL_op, evL_sel, evL_nx, evL_exit, evL_ret, evL_join, evL_block, evL_cond, evK_some, evJ_nx, evJ_rt, evJ_ex, evB_nx, evB_rt, evB_ex, evC2_bool, evS_and, evS_or, evS_tf, evS_ft, ev_t, ev_s, ev_c, evalOp, bin_add, bin_sub, bin_mul, bin_eql, bin_neq, bin_lss, bin_leq, bin_gtr, bin_geq, sbin_eql, sbin_neq, b8, List.map_cons, List.map_nil, PV.rens, PV.ren, if_true, if_false, Bool.false_eq_true, reduceIte, Nat.reduceAdd, Nat.reduceSub, Nat.reduceMul, Nat.reduceEqDiff, Nat.reduceLeDiff, Int.reduceLE, Int.reduceLT, Int.reduceEq, Int.reduceToNat, Int.reduceAdd, Int.reduceSub, Int.reduceNeg, decide_true, decide_false, Bool.not_true, Bool.not_false, Bool.true_and, Bool.false_and, Bool.and_true, Bool.and_false, Bool.or_true, Bool.true_or, Bool.or_false, Bool.false_or, and_self, and_true, true_and, Nat.le_refl, Nat.zero_add, Nat.mul_one, Nat.one_ne_zero, Nat.zero_le, highP, lowP, Option.map_some, Option.map_none, List.drop_zero, List.take_zero, List.length_cons, List.length_nil, List.nil_append, List.append_nil, List.cons_append, fillP, PV.cells?, PV.one, PV.cleans, PV.clean, PV.of?, List.all_cons, List.all_nil, List.take_succ_cons, List.drop_succ_cons, Bool.and_self, Int.natCast_nonneg, Int.toNat_natCast, Int.toNat_zero, bytes8_map, b2s_if]
  have emp3 : ∀ t z t' z', T 24 [.sl t z 0 [], .sl t' z' 0 []] [] = some (.bool true, []) := fun t z t' z' =>
    evT_of (k := 0) (F := l24) (H' := []) (e := [.bool true]) (l := [.bool true]) rfl rfl rfl rfl rfl rfl
  rcases hp.cases with rfl | ⟨rfl, t, z, rfl, _⟩ <;> rcases hq.cases with rfl | ⟨rfl, t', z', rfl, _⟩
  · exact T_equal8 a b
  · exact emp2 t' z'
  · exact emp t z
  · exact emp3 t z t' z'
/-- Does a text end with a line's end? -/
def hasNl (b : List UInt8) : Bool := decide ((2 : Int) ≤ b.length) && decide (b.drop (b.length - 2) = nl)
theorem T_suffix (b : List UInt8) (hl : b.length ≤ 9000000000000000000) : T 32 [sl8 b, .sl .no 1 2 [.int .u8 13, .int .u8 10]] [] = some (.bool (hasNl b), []) := by
  refine evT_of (k := 0) (F := l32) (H' := []) (e := [.bool (hasNl b)]) (l := [.bool (hasNl b)]) rfl rfl rfl ?_ rfl rfl
  show evL T 0 q32 _ _ = _
  unfold hasNl
  by_cases h : (2 : Int) ≤ b.length
  · have w1 : IntKind.i64.wrap ((b.length : Int) - 2) = ((b.length - 2 : Nat) : Int) := by rw [wr (by omega) (by omega)]; omega
    have h2 : b.length - 2 ≤ b.length := by omega
    have h3 : ((b.length - 2 : Nat) : Int) ≤ b.length := by omega
    have e1 : (b.map b8).take b.length = b.map b8 := List.take_of_length_le (by simp)
    have e2 : (b.map b8).drop (b.length - 2) = (b.drop (b.length - 2)).map b8 := by rw [List.map_drop]
    have e3 : b.length - (b.length - 2) = (b.drop (b.length - 2)).length := by rw [List.length_drop]
    have c1 : T 24 [sl8 (b.drop (b.length - 2)), .sl .no 1 2 [.int .u8 13, .int .u8 10]] [] = _ := T_equal8 (b.drop (b.length - 2)) nl
    have o2 : ((2 : Nat) : Int) = 2 := rfl
    simp only [q32, evL_op, evL_sel, evL_nx, evL_exit, evL_ret, evL_join, evL_block, evL_cond, evK_some, evJ_nx, evJ_rt, evJ_ex, evB_nx, evB_rt, evB_ex, evC2_bool, evS_and, evS_or, evS_tf, evS_ft, ev_t, ev_s, ev_c, evalOp, bin_add, bin_sub, bin_mul, bin_eql, bin_neq, bin_lss, bin_leq, bin_gtr, bin_geq, sbin_eql, sbin_neq, b8, List.map_cons, List.map_nil, PV.rens, PV.ren, if_true, if_false, Bool.false_eq_true, reduceIte, Nat.reduceAdd, Nat.reduceSub, Nat.reduceMul, Nat.reduceEqDiff, Nat.reduceLeDiff, Int.reduceLE, Int.reduceLT, Int.reduceEq, Int.reduceToNat, Int.reduceAdd, Int.reduceSub, Int.reduceNeg, decide_true, decide_false, Bool.not_true, Bool.not_false, Bool.true_and, Bool.false_and, Bool.and_true, Bool.and_false, Bool.or_true, Bool.true_or, Bool.or_false, Bool.false_or, and_self, and_true, true_and, Nat.le_refl, Nat.zero_add, Nat.mul_one, Nat.one_ne_zero, Nat.zero_le, highP, lowP, Option.map_some, Option.map_none, List.drop_zero, List.take_zero, List.length_cons, List.length_nil, List.nil_append, List.append_nil, List.cons_append, fillP, PV.cells?, PV.one, PV.cleans, PV.clean, PV.of?, List.all_cons, List.all_nil, List.take_succ_cons, List.drop_succ_cons, Bool.and_self, Int.natCast_nonneg, Int.toNat_natCast, Int.toNat_zero, PV.rens, PV.ren, Tk.ren, o2, h, w1, h2, h3, e1, e2, e3, c1, or_true, Nat.zero_lt_one]
  · have o2 : ((2 : Nat) : Int) = 2 := rfl
    simp only [q32, evL_op, evL_sel, evL_nx, evL_exit, evL_ret, evL_join, evL_block, evL_cond, evK_some, evJ_nx, evJ_rt, evJ_ex, evB_nx, evB_rt, evB_ex, evC2_bool, evS_and, evS_or, evS_tf, evS_ft, ev_t, ev_s, ev_c, evalOp, bin_add, bin_sub, bin_mul, bin_eql, bin_neq, bin_lss, bin_leq, bin_gtr, bin_geq, sbin_eql, sbin_neq, b8, List.map_cons, List.map_nil, PV.rens, PV.ren, if_true, if_false, Bool.false_eq_true, reduceIte, Nat.reduceAdd, Nat.reduceSub, Nat.reduceMul, Nat.reduceEqDiff, Nat.reduceLeDiff, Int.reduceLE, Int.reduceLT, Int.reduceEq, Int.reduceToNat, Int.reduceAdd, Int.reduceSub, Int.reduceNeg, decide_true, decide_false, Bool.not_true, Bool.not_false, Bool.true_and, Bool.false_and, Bool.and_true, Bool.and_false, Bool.or_true, Bool.true_or, Bool.or_false, Bool.false_or, and_self, and_true, true_and, Nat.le_refl, Nat.zero_add, Nat.mul_one, Nat.one_ne_zero, Nat.zero_le, highP, lowP, Option.map_some, Option.map_none, List.drop_zero, List.take_zero, List.length_cons, List.length_nil, List.nil_append, List.append_nil, List.cons_append, fillP, PV.cells?, PV.one, PV.cleans, PV.clean, PV.of?, List.all_cons, List.all_nil, List.take_succ_cons, List.drop_succ_cons, Bool.and_self, Int.natCast_nonneg, Int.toNat_natCast, Int.toNat_zero, o2, h]
def cleanB (l : List UInt8) : Bool := !l.contains 13 && !l.contains 10
theorem cleanB_iff {l : List UInt8} : cleanB l = true ↔ Cl l := by
  unfold cleanB Cl
  simp only [Bool.and_eq_true, Bool.not_eq_true', List.contains_eq_mem, decide_eq_false_iff_not]
  constructor
  · rintro ⟨h1, h2⟩ x hx
    exact ⟨fun e => h1 (e ▸ hx), fun e => h2 (e ▸ hx)⟩
  · intro h
    exact ⟨fun hx => (h _ hx).1 rfl, fun hx => (h _ hx).2 rfl⟩
/-- Is a text a body? -/
def body (b : List UInt8) : Bool := (decide (b = []) || hasNl b) && (lines b).all cleanB
theorem get_sl8 {L : List (List UInt8)} {i : Nat} (h : i < L.length) : ((L.map fun l => sl8 l).drop i).take 1 = [sl8 L[i]] := by
  rw [← List.map_drop, List.drop_eq_getElem_cons h, List.map_cons]; rfl
theorem get_sl8' {L : List (List UInt8)} {i : Nat} {l : List UInt8} (h : L[i]? = some l) : ((L.map fun l => sl8 l).drop i).take 1 = [sl8 l] := by
  obtain ⟨h1, h2⟩ := List.getElem?_eq_some_iff.1 h
  rw [get_sl8 h1, h2]
theorem accL_cons (t : Tk) {L : List (List UInt8)} (h : L ≠ []) : accL t L = .sl t 1 L.length (L.map fun l => sl8 l) := by unfold accL; rw [if_neg h]
theorem idxB_has (l : List UInt8) (c : UInt8) : decide ((0 : Int) ≤ idxB l c) = l.contains c := by
  have := idxB_neg l c
  rw [show l.contains c = !!l.contains c by simp, ← this]
  by_cases h : idxB l c < 0
  · rw [decide_eq_true h, decide_eq_false (by omega)]; rfl
  · rw [decide_eq_false h, decide_eq_true (by omega)]; rfl
theorem T17 (b : List UInt8) (hl : b.length ≤ 1000000000) : T 17 [sl8 b] [] = some (.int .i64 (if body b = true then 0 else 5), []) := by
  refine evT_of (k := b.length + 1) (F := l17) (H' := []) (e := [.int .i64 (if body b = true then 0 else 5)]) (l := [.int .i64 (if body b = true then 0 else 5)]) rfl rfl rfl ?_ rfl rfl
  show evL T (b.length + 1) q17 _ _ = _
  have c1 := T_suffix b (by omega)
  have c2 := T21 b hl
  have hb : (decide ((0 : Int) < b.length) && !hasNl b) = !(decide (b = []) || hasNl b) := by
    cases b with
    | nil => rfl
    | cons x l =>
      rw [decide_eq_true (by simp), decide_eq_false (by simp)]
      rfl
  by_cases h1 : (decide (b = []) || hasNl b) = true
  · have h2 : (decide ((0 : Int) < b.length) && !hasNl b) = false := by rw [hb, h1]; rfl
    have hlen := (lines_len b.length b (Nat.le_refl _)).1
    have hbd : body b = (lines b).all cleanB := by unfold body; rw [h1]; rfl
    rw [hbd]
    have hL := (lines_len b.length b (Nat.le_refl _)).2
    generalize lines b = L at *
    have lp := loop_law (n := 0) (body := evL T (b.length + 1) q17_1) (σ := Nat) (fun i => [accL .no L, .int .i64 L.length, .int .i64 i]) (fun _ => []) (fun i => L.length - i) (fun i => i ≤ L.length)
      (fun i => if (L.drop i).all cleanB = true then (.ex 0, [], []) else (.rt, [.int .i64 5], [])) (by
        intro i hi
        rcases Nat.lt_or_ge i L.length with h | h
        · have h3 : (i : Int) < L.length := by omega
          have hne : L ≠ [] := fun e => by rw [e] at h; cases h
          have hg := get_sl8 h
          have d1 : T 34 [sl8 L[i], .int .u8 13] [] = _ := T34 L[i] 13 .no 1
          have d2 : T 34 [sl8 L[i], .int .u8 10] [] = _ := T34 L[i] 10 .no 1
          have e1 := idxB_has L[i] 13
          have e2 := idxB_has L[i] 10
          rw [List.drop_eq_getElem_cons h, List.all_cons, accL_cons .no hne]
          by_cases hc : cleanB L[i] = true
          · rw [hc, Bool.true_and]
            refine .inr ⟨i + 1, ?_⟩
            apply Exists.intro
            apply Exists.intro
            refine ⟨?_, ?_, h, by omega, rfl⟩
            · unfold cleanB at hc
              simp only [Bool.and_eq_true, Bool.not_eq_true'] at hc
              simp only [q17_1, q17_0, evL_op, evL_sel, evL_nx, evL_exit, evL_ret, evL_join, evL_block, evL_cond, evK_some, evJ_nx, evJ_rt, evJ_ex, evB_nx, evB_rt, evB_ex, evC2_bool, evS_and, evS_or, evS_tf, evS_ft, ev_t, ev_s, ev_c, evalOp, bin_add, bin_sub, bin_mul, bin_eql, bin_neq, bin_lss, bin_leq, bin_gtr, bin_geq, sbin_eql, sbin_neq, b8, List.map_cons, List.map_nil, PV.rens, PV.ren, if_true, if_false, Bool.false_eq_true, reduceIte, Nat.reduceAdd, Nat.reduceSub, Nat.reduceMul, Nat.reduceEqDiff, Nat.reduceLeDiff, Int.reduceLE, Int.reduceLT, Int.reduceEq, Int.reduceToNat, Int.reduceAdd, Int.reduceSub, Int.reduceNeg, decide_true, decide_false, Bool.not_true, Bool.not_false, Bool.true_and, Bool.false_and, Bool.and_true, Bool.and_false, Bool.or_true, Bool.true_or, Bool.or_false, Bool.false_or, and_self, and_true, true_and, Nat.le_refl, Nat.zero_add, Nat.mul_one, Nat.one_ne_zero, Nat.zero_le, highP, lowP, Option.map_some, Option.map_none, List.drop_zero, List.take_zero, List.length_cons, List.length_nil, List.nil_append, List.append_nil, List.cons_append, fillP, PV.cells?, PV.one, PV.cleans, PV.clean, PV.of?, List.all_cons, List.all_nil, List.take_succ_cons, List.drop_succ_cons, Bool.and_self, Int.natCast_nonneg, Int.toNat_natCast, Int.toNat_zero, PV.rens, PV.ren, Tk.ren, h3, hg, d1, d2, e1, e2, hc.1, hc.2, wr1 (show i < 9223372036854775807 by omega)]
              rfl
            · rfl
          · have hc' : cleanB L[i] = false := by simpa using hc
            rw [hc', Bool.false_and]
            refine .inl ⟨?_, by simp⟩
            unfold cleanB at hc'
            cases hx : (L[i]).contains 13 with
            | true => simp only [q17_1, q17_0, evL_op, evL_sel, evL_nx, evL_exit, evL_ret, evL_join, evL_block, evL_cond, evK_some, evJ_nx, evJ_rt, evJ_ex, evB_nx, evB_rt, evB_ex, evC2_bool, evS_and, evS_or, evS_tf, evS_ft, ev_t, ev_s, ev_c, evalOp, bin_add, bin_sub, bin_mul, bin_eql, bin_neq, bin_lss, bin_leq, bin_gtr, bin_geq, sbin_eql, sbin_neq, b8, List.map_cons, List.map_nil, PV.rens, PV.ren, if_true, if_false, Bool.false_eq_true, reduceIte, Nat.reduceAdd, Nat.reduceSub, Nat.reduceMul, Nat.reduceEqDiff, Nat.reduceLeDiff, Int.reduceLE, Int.reduceLT, Int.reduceEq, Int.reduceToNat, Int.reduceAdd, Int.reduceSub, Int.reduceNeg, decide_true, decide_false, Bool.not_true, Bool.not_false, Bool.true_and, Bool.false_and, Bool.and_true, Bool.and_false, Bool.or_true, Bool.true_or, Bool.or_false, Bool.false_or, and_self, and_true, true_and, Nat.le_refl, Nat.zero_add, Nat.mul_one, Nat.one_ne_zero, Nat.zero_le, highP, lowP, Option.map_some, Option.map_none, List.drop_zero, List.take_zero, List.length_cons, List.length_nil, List.nil_append, List.append_nil, List.cons_append, fillP, PV.cells?, PV.one, PV.cleans, PV.clean, PV.of?, List.all_cons, List.all_nil, List.take_succ_cons, List.drop_succ_cons, Bool.and_self, Int.natCast_nonneg, Int.toNat_natCast, Int.toNat_zero, PV.rens, PV.ren, Tk.ren, h3, hg, d1, d2, e1, e2, hx]
            | false =>
              rw [hx] at hc'
              have hy : (L[i]).contains 10 = true := by simpa using hc'
              simp only [q17_1, q17_0, evL_op, evL_sel, evL_nx, evL_exit, evL_ret, evL_join, evL_block, evL_cond, evK_some, evJ_nx, evJ_rt, evJ_ex, evB_nx, evB_rt, evB_ex, evC2_bool, evS_and, evS_or, evS_tf, evS_ft, ev_t, ev_s, ev_c, evalOp, bin_add, bin_sub, bin_mul, bin_eql, bin_neq, bin_lss, bin_leq, bin_gtr, bin_geq, sbin_eql, sbin_neq, b8, List.map_cons, List.map_nil, PV.rens, PV.ren, if_true, if_false, Bool.false_eq_true, reduceIte, Nat.reduceAdd, Nat.reduceSub, Nat.reduceMul, Nat.reduceEqDiff, Nat.reduceLeDiff, Int.reduceLE, Int.reduceLT, Int.reduceEq, Int.reduceToNat, Int.reduceAdd, Int.reduceSub, Int.reduceNeg, decide_true, decide_false, Bool.not_true, Bool.not_false, Bool.true_and, Bool.false_and, Bool.and_true, Bool.and_false, Bool.or_true, Bool.true_or, Bool.or_false, Bool.false_or, and_self, and_true, true_and, Nat.le_refl, Nat.zero_add, Nat.mul_one, Nat.one_ne_zero, Nat.zero_le, highP, lowP, Option.map_some, Option.map_none, List.drop_zero, List.take_zero, List.length_cons, List.length_nil, List.nil_append, List.append_nil, List.cons_append, fillP, PV.cells?, PV.one, PV.cleans, PV.clean, PV.of?, List.all_cons, List.all_nil, List.take_succ_cons, List.drop_succ_cons, Bool.and_self, Int.natCast_nonneg, Int.toNat_natCast, Int.toNat_zero, PV.rens, PV.ren, Tk.ren, h3, hg, d1, d2, e1, e2, hx, hy]
        · refine .inl ?_
          have h3 : ¬ (i : Int) < L.length := by omega
          rw [List.drop_of_length_le h]
          refine ⟨?_, by simp⟩
          simp only [q17_1, evL_op, evL_sel, evL_nx, evL_exit, evL_ret, evL_join, evL_block, evL_cond, evK_some, evJ_nx, evJ_rt, evJ_ex, evB_nx, evB_rt, evB_ex, evC2_bool, evS_and, evS_or, evS_tf, evS_ft, ev_t, ev_s, ev_c, evalOp, bin_add, bin_sub, bin_mul, bin_eql, bin_neq, bin_lss, bin_leq, bin_gtr, bin_geq, sbin_eql, sbin_neq, b8, List.map_cons, List.map_nil, PV.rens, PV.ren, if_true, if_false, Bool.false_eq_true, reduceIte, Nat.reduceAdd, Nat.reduceSub, Nat.reduceMul, Nat.reduceEqDiff, Nat.reduceLeDiff, Int.reduceLE, Int.reduceLT, Int.reduceEq, Int.reduceToNat, Int.reduceAdd, Int.reduceSub, Int.reduceNeg, decide_true, decide_false, Bool.not_true, Bool.not_false, Bool.true_and, Bool.false_and, Bool.and_true, Bool.and_false, Bool.or_true, Bool.true_or, Bool.or_false, Bool.false_or, and_self, and_true, true_and, Nat.le_refl, Nat.zero_add, Nat.mul_one, Nat.one_ne_zero, Nat.zero_le, highP, lowP, Option.map_some, Option.map_none, List.drop_zero, List.take_zero, List.length_cons, List.length_nil, List.nil_append, List.append_nil, List.cons_append, fillP, PV.cells?, PV.one, PV.cleans, PV.clean, PV.of?, List.all_cons, List.all_nil, List.take_succ_cons, List.drop_succ_cons, Bool.and_self, Int.natCast_nonneg, Int.toNat_natCast, Int.toNat_zero, h3]) (b.length + 1) 0 [accL .no L, .int .i64 L.length, .int .i64 (0 : Nat)] [] (by unfold accL; rfl) (Nat.zero_le _) (by omega)
    have o0 : ((0 : Nat) : Int) = 0 := rfl
    simp only [q17, evL_op, evL_sel, evL_nx, evL_exit, evL_ret, evL_join, evL_block, evL_cond, evK_some, evJ_nx, evJ_rt, evJ_ex, evB_nx, evB_rt, evB_ex, evC2_bool, evS_and, evS_or, evS_tf, evS_ft, ev_t, ev_s, ev_c, evalOp, bin_add, bin_sub, bin_mul, bin_eql, bin_neq, bin_lss, bin_leq, bin_gtr, bin_geq, sbin_eql, sbin_neq, b8, List.map_cons, List.map_nil, PV.rens, PV.ren, if_true, if_false, Bool.false_eq_true, reduceIte, Nat.reduceAdd, Nat.reduceSub, Nat.reduceMul, Nat.reduceEqDiff, Nat.reduceLeDiff, Int.reduceLE, Int.reduceLT, Int.reduceEq, Int.reduceToNat, Int.reduceAdd, Int.reduceSub, Int.reduceNeg, decide_true, decide_false, Bool.not_true, Bool.not_false, Bool.true_and, Bool.false_and, Bool.and_true, Bool.and_false, Bool.or_true, Bool.true_or, Bool.or_false, Bool.false_or, and_self, and_true, true_and, Nat.le_refl, Nat.zero_add, Nat.mul_one, Nat.one_ne_zero, Nat.zero_le, highP, lowP, Option.map_some, Option.map_none, List.drop_zero, List.take_zero, List.length_cons, List.length_nil, List.nil_append, List.append_nil, List.cons_append, fillP, PV.cells?, PV.one, PV.cleans, PV.clean, PV.of?, List.all_cons, List.all_nil, List.take_succ_cons, List.drop_succ_cons, Bool.and_self, Int.natCast_nonneg, Int.toNat_natCast, Int.toNat_zero, PV.rens, PV.ren, Tk.ren, T33, c1, c2, h2, accL, evL_loop, List.drop_zero, o0] at lp ⊢
    rw [lp]
    by_cases hlm : L.all cleanB = true
    · simp only [hlm, q17_2, evL_op, evL_sel, evL_nx, evL_exit, evL_ret, evL_join, evL_block, evL_cond, evK_some, evJ_nx, evJ_rt, evJ_ex, evB_nx, evB_rt, evB_ex, evC2_bool, evS_and, evS_or, evS_tf, evS_ft, ev_t, ev_s, ev_c, evalOp, bin_add, bin_sub, bin_mul, bin_eql, bin_neq, bin_lss, bin_leq, bin_gtr, bin_geq, sbin_eql, sbin_neq, b8, List.map_cons, List.map_nil, PV.rens, PV.ren, if_true, if_false, Bool.false_eq_true, reduceIte, Nat.reduceAdd, Nat.reduceSub, Nat.reduceMul, Nat.reduceEqDiff, Nat.reduceLeDiff, Int.reduceLE, Int.reduceLT, Int.reduceEq, Int.reduceToNat, Int.reduceAdd, Int.reduceSub, Int.reduceNeg, decide_true, decide_false, Bool.not_true, Bool.not_false, Bool.true_and, Bool.false_and, Bool.and_true, Bool.and_false, Bool.or_true, Bool.true_or, Bool.or_false, Bool.false_or, and_self, and_true, true_and, Nat.le_refl, Nat.zero_add, Nat.mul_one, Nat.one_ne_zero, Nat.zero_le, highP, lowP, Option.map_some, Option.map_none, List.drop_zero, List.take_zero, List.length_cons, List.length_nil, List.nil_append, List.append_nil, List.cons_append, fillP, PV.cells?, PV.one, PV.cleans, PV.clean, PV.of?, List.all_cons, List.all_nil, List.take_succ_cons, List.drop_succ_cons, Bool.and_self, Int.natCast_nonneg, Int.toNat_natCast, Int.toNat_zero]
    · simp only [hlm, q17_2, evL_op, evL_sel, evL_nx, evL_exit, evL_ret, evL_join, evL_block, evL_cond, evK_some, evJ_nx, evJ_rt, evJ_ex, evB_nx, evB_rt, evB_ex, evC2_bool, evS_and, evS_or, evS_tf, evS_ft, ev_t, ev_s, ev_c, evalOp, bin_add, bin_sub, bin_mul, bin_eql, bin_neq, bin_lss, bin_leq, bin_gtr, bin_geq, sbin_eql, sbin_neq, b8, List.map_cons, List.map_nil, PV.rens, PV.ren, if_true, if_false, Bool.false_eq_true, reduceIte, Nat.reduceAdd, Nat.reduceSub, Nat.reduceMul, Nat.reduceEqDiff, Nat.reduceLeDiff, Int.reduceLE, Int.reduceLT, Int.reduceEq, Int.reduceToNat, Int.reduceAdd, Int.reduceSub, Int.reduceNeg, decide_true, decide_false, Bool.not_true, Bool.not_false, Bool.true_and, Bool.false_and, Bool.and_true, Bool.and_false, Bool.or_true, Bool.true_or, Bool.or_false, Bool.false_or, and_self, and_true, true_and, Nat.le_refl, Nat.zero_add, Nat.mul_one, Nat.one_ne_zero, Nat.zero_le, highP, lowP, Option.map_some, Option.map_none, List.drop_zero, List.take_zero, List.length_cons, List.length_nil, List.nil_append, List.append_nil, List.cons_append, fillP, PV.cells?, PV.one, PV.cleans, PV.clean, PV.of?, List.all_cons, List.all_nil, List.take_succ_cons, List.drop_succ_cons, Bool.and_self, Int.natCast_nonneg, Int.toNat_natCast, Int.toNat_zero]
  · have h1' : (decide (b = []) || hasNl b) = false := by simpa using h1
    have h2 : (decide ((0 : Int) < b.length) && !hasNl b) = true := by rw [hb, h1']; rfl
    have hbd : body b = false := by unfold body; rw [h1']; rfl
    rw [hbd]
    simp only [q17, evL_op, evL_sel, evL_nx, evL_exit, evL_ret, evL_join, evL_block, evL_cond, evK_some, evJ_nx, evJ_rt, evJ_ex, evB_nx, evB_rt, evB_ex, evC2_bool, evS_and, evS_or, evS_tf, evS_ft, ev_t, ev_s, ev_c, evalOp, bin_add, bin_sub, bin_mul, bin_eql, bin_neq, bin_lss, bin_leq, bin_gtr, bin_geq, sbin_eql, sbin_neq, b8, List.map_cons, List.map_nil, PV.rens, PV.ren, if_true, if_false, Bool.false_eq_true, reduceIte, Nat.reduceAdd, Nat.reduceSub, Nat.reduceMul, Nat.reduceEqDiff, Nat.reduceLeDiff, Int.reduceLE, Int.reduceLT, Int.reduceEq, Int.reduceToNat, Int.reduceAdd, Int.reduceSub, Int.reduceNeg, decide_true, decide_false, Bool.not_true, Bool.not_false, Bool.true_and, Bool.false_and, Bool.and_true, Bool.and_false, Bool.or_true, Bool.true_or, Bool.or_false, Bool.false_or, and_self, and_true, true_and, Nat.le_refl, Nat.zero_add, Nat.mul_one, Nat.one_ne_zero, Nat.zero_le, highP, lowP, Option.map_some, Option.map_none, List.drop_zero, List.take_zero, List.length_cons, List.length_nil, List.nil_append, List.append_nil, List.cons_append, fillP, PV.cells?, PV.one, PV.cleans, PV.clean, PV.of?, List.all_cons, List.all_nil, List.take_succ_cons, List.drop_succ_cons, Bool.and_self, Int.natCast_nonneg, Int.toNat_natCast, Int.toNat_zero, PV.rens, PV.ren, Tk.ren, T33, c1, h2]
theorem body_join {ls : List (List UInt8)} (h : ∀ l ∈ ls, Cl l) : body (join ls) = true := by
  unfold body
  rw [lines_join h, List.all_eq_true.2 (fun l hl => cleanB_iff.2 (h l hl)), Bool.and_true]
  rcases List.eq_nil_or_concat ls with rfl | ⟨r, l, rfl⟩
  · rfl
  · rw [List.concat_eq_append, join_app, join_one]
    have : hasNl (join r ++ (l ++ [13, 10])) = true := by
      unfold hasNl
      rw [← List.append_assoc, List.length_append]
      simp
      omega
    rw [this, Bool.or_true]
/-! ### the document's answer -/
/-- Where the first line's end begins, from a place on. -/
def endV (b : List UInt8) (i : Nat) : Int := if Lib.index (b.drop i) nl = -1 then -1 else i + Lib.index (b.drop i) nl
theorem endV_no {b : List UInt8} {i : Nat} (h : Lib.index (b.drop i) nl = -1) : endV b i = -1 := if_pos h
theorem endV_yes {b : List UInt8} {i : Nat} {a : List UInt8} (h : Lib.index (b.drop i) nl = a.length) : endV b i = ((i + a.length : Nat) : Int) := by
  unfold endV
  rw [h, if_neg (by omega)]
  omega
theorem T30 (b : List UInt8) (hl : b.length ≤ 1000000000) (i0 : Nat) (hi0 : i0 ≤ b.length) : T 30 [sl8 b, .int .i64 i0] [] = some (.int .i64 (endV b i0), []) := by
  generalize hr : endV b i0 = r
  unfold endV at hr
  refine evT_of (k := b.length + 2) (F := l30) (H' := []) (e := [.int .i64 r]) (l := [.int .i64 r]) rfl rfl rfl ?_ rfl rfl
  show evL T (b.length + 2) q30 _ _ = _
  have lp := loop_law (n := 0) (body := evL T (b.length + 2) q30_1) (σ := Nat) (fun i => [sl8 b, .int .i64 i]) (fun _ => []) (fun i => b.length + 1 - i) (fun i => i ≤ b.length)
    (fun i => if Lib.index (b.drop i) nl = -1 then (.ex 0, [], []) else (.rt, [.int .i64 (i + Lib.index (b.drop i) nl)], [])) (by
      intro i hi
      have w1 := wr1 (show i < 9223372036854775807 by omega)
      rcases Nat.lt_or_ge (i + 1) b.length with h | h
      · have h1 : i < b.length := by omega
        have h3 : ((i + 1 : Nat) : Int) < b.length := by omega
        have h4 : (i : Int) < b.length := by omega
        have g1 := get_b8 h1
        have g2 := get_b8 h
        have hh : (b.drop (i + 1)).head? = some b[i + 1] := by rw [List.drop_eq_getElem_cons h]; rfl
        have hd := idx_cons b[i] (b.drop (i + 1)) nl
        rw [← List.drop_eq_getElem_cons h1, List.drop_eq_getElem_cons h1, pre_nl, hh] at hd
        have e1 : decide (((b[i]).toNat : Int) = 13) = (b[i] == 13) := by
          by_cases hc : b[i] = 13
          · rw [hc]; rfl
          · have : ¬ ((b[i]).toNat : Int) = 13 := fun e => hc (UInt8.toNat_inj.1 (by show _ = 13; omega))
            rw [decide_eq_false this]; simp [hc]
        have e2 : decide (((b[i + 1]).toNat : Int) = 10) = (b[i + 1] == 10) := by
          by_cases hc : b[i + 1] = 10
          · rw [hc]; rfl
          · have : ¬ ((b[i + 1]).toNat : Int) = 10 := fun e => hc (UInt8.toNat_inj.1 (by show _ = 10; omega))
            rw [decide_eq_false this]; simp [hc]
        have e3 : (some b[i + 1] == some 10) = (b[i + 1] == 10) := rfl
        rw [e3] at hd
        rw [← List.drop_eq_getElem_cons h1] at hd
        by_cases hc : (b[i] == 13 && b[i + 1] == 10) = true
        · rw [if_pos hc] at hd
          rw [hd]
          refine .inl ⟨?_, by simp⟩
          simp only [q30_1, q30_0, evL_op, evL_sel, evL_nx, evL_exit, evL_ret, evL_join, evL_block, evL_cond, evK_some, evJ_nx, evJ_rt, evJ_ex, evB_nx, evB_rt, evB_ex, evC2_bool, evS_and, evS_or, evS_tf, evS_ft, ev_t, ev_s, ev_c, evalOp, bin_add, bin_sub, bin_mul, bin_eql, bin_neq, bin_lss, bin_leq, bin_gtr, bin_geq, sbin_eql, sbin_neq, b8, List.map_cons, List.map_nil, PV.rens, PV.ren, if_true, if_false, Bool.false_eq_true, reduceIte, Nat.reduceAdd, Nat.reduceSub, Nat.reduceMul, Nat.reduceEqDiff, Nat.reduceLeDiff, Int.reduceLE, Int.reduceLT, Int.reduceEq, Int.reduceToNat, Int.reduceAdd, Int.reduceSub, Int.reduceNeg, decide_true, decide_false, Bool.not_true, Bool.not_false, Bool.true_and, Bool.false_and, Bool.and_true, Bool.and_false, Bool.or_true, Bool.true_or, Bool.or_false, Bool.false_or, and_self, and_true, true_and, Nat.le_refl, Nat.zero_add, Nat.mul_one, Nat.one_ne_zero, Nat.zero_le, highP, lowP, Option.map_some, Option.map_none, List.drop_zero, List.take_zero, List.length_cons, List.length_nil, List.nil_append, List.append_nil, List.cons_append, fillP, PV.cells?, PV.one, PV.cleans, PV.clean, PV.of?, List.all_cons, List.all_nil, List.take_succ_cons, List.drop_succ_cons, Bool.and_self, Int.natCast_nonneg, Int.toNat_natCast, Int.toNat_zero, w1, h3, h4, g1, g2, e1, e2, hc, Int.add_zero, if_neg (show ¬ (0 : Int) = -1 by decide)]
        · rw [if_neg hc] at hd
          have hc' : (b[i] == 13 && b[i + 1] == 10) = false := by simpa using hc
          refine .inr ⟨i + 1, ?_⟩
          apply Exists.intro
          apply Exists.intro
          refine ⟨?_, ?_, by omega, by omega, ?_⟩
          · simp only [q30_1, q30_0, evL_op, evL_sel, evL_nx, evL_exit, evL_ret, evL_join, evL_block, evL_cond, evK_some, evJ_nx, evJ_rt, evJ_ex, evB_nx, evB_rt, evB_ex, evC2_bool, evS_and, evS_or, evS_tf, evS_ft, ev_t, ev_s, ev_c, evalOp, bin_add, bin_sub, bin_mul, bin_eql, bin_neq, bin_lss, bin_leq, bin_gtr, bin_geq, sbin_eql, sbin_neq, b8, List.map_cons, List.map_nil, PV.rens, PV.ren, if_true, if_false, Bool.false_eq_true, reduceIte, Nat.reduceAdd, Nat.reduceSub, Nat.reduceMul, Nat.reduceEqDiff, Nat.reduceLeDiff, Int.reduceLE, Int.reduceLT, Int.reduceEq, Int.reduceToNat, Int.reduceAdd, Int.reduceSub, Int.reduceNeg, decide_true, decide_false, Bool.not_true, Bool.not_false, Bool.true_and, Bool.false_and, Bool.and_true, Bool.and_false, Bool.or_true, Bool.true_or, Bool.or_false, Bool.false_or, and_self, and_true, true_and, Nat.le_refl, Nat.zero_add, Nat.mul_one, Nat.one_ne_zero, Nat.zero_le, highP, lowP, Option.map_some, Option.map_none, List.drop_zero, List.take_zero, List.length_cons, List.length_nil, List.nil_append, List.append_nil, List.cons_append, fillP, PV.cells?, PV.one, PV.cleans, PV.clean, PV.of?, List.all_cons, List.all_nil, List.take_succ_cons, List.drop_succ_cons, Bool.and_self, Int.natCast_nonneg, Int.toNat_natCast, Int.toNat_zero, w1, h3, h4, g1, g2, e1, e2, hc']
            rfl
          · rfl
          · rw [hd]
            by_cases hm : Lib.index (b.drop (i + 1)) nl = -1
            · rw [if_pos hm, if_pos hm, if_pos rfl]
            · have := Lib.index_ge (b.drop (i + 1)) nl
              rw [if_neg hm, if_neg hm, if_neg (by omega)]
              congr 4
              omega
      · refine .inl ?_
        have h3 : ¬ ((i + 1 : Nat) : Int) < b.length := by omega
        have hm : Lib.index (b.drop i) nl = -1 := by
          have : (b.drop i).length ≤ 1 := by simp; omega
          match hb : b.drop i, this with
          | [], _ => rfl
          | [x], _ => rw [idx_cons, pre_nl, if_neg (by simp), if_pos (by rfl)]
        rw [hm, if_pos rfl]
        refine ⟨?_, by simp⟩
        simp only [q30_1, evL_op, evL_sel, evL_nx, evL_exit, evL_ret, evL_join, evL_block, evL_cond, evK_some, evJ_nx, evJ_rt, evJ_ex, evB_nx, evB_rt, evB_ex, evC2_bool, evS_and, evS_or, evS_tf, evS_ft, ev_t, ev_s, ev_c, evalOp, bin_add, bin_sub, bin_mul, bin_eql, bin_neq, bin_lss, bin_leq, bin_gtr, bin_geq, sbin_eql, sbin_neq, b8, List.map_cons, List.map_nil, PV.rens, PV.ren, if_true, if_false, Bool.false_eq_true, reduceIte, Nat.reduceAdd, Nat.reduceSub, Nat.reduceMul, Nat.reduceEqDiff, Nat.reduceLeDiff, Int.reduceLE, Int.reduceLT, Int.reduceEq, Int.reduceToNat, Int.reduceAdd, Int.reduceSub, Int.reduceNeg, decide_true, decide_false, Bool.not_true, Bool.not_false, Bool.true_and, Bool.false_and, Bool.and_true, Bool.and_false, Bool.or_true, Bool.true_or, Bool.or_false, Bool.false_or, and_self, and_true, true_and, Nat.le_refl, Nat.zero_add, Nat.mul_one, Nat.one_ne_zero, Nat.zero_le, highP, lowP, Option.map_some, Option.map_none, List.drop_zero, List.take_zero, List.length_cons, List.length_nil, List.nil_append, List.append_nil, List.cons_append, fillP, PV.cells?, PV.one, PV.cleans, PV.clean, PV.of?, List.all_cons, List.all_nil, List.take_succ_cons, List.drop_succ_cons, Bool.and_self, Int.natCast_nonneg, Int.toNat_natCast, Int.toNat_zero, w1, h3]) (b.length + 2) i0 [sl8 b, .int .i64 i0] [] rfl hi0 (by omega)
  simp only [q30, evL_op, evL_sel, evL_nx, evL_exit, evL_ret, evL_join, evL_block, evL_cond, evK_some, evJ_nx, evJ_rt, evJ_ex, evB_nx, evB_rt, evB_ex, evC2_bool, evS_and, evS_or, evS_tf, evS_ft, ev_t, ev_s, ev_c, evalOp, bin_add, bin_sub, bin_mul, bin_eql, bin_neq, bin_lss, bin_leq, bin_gtr, bin_geq, sbin_eql, sbin_neq, b8, List.map_cons, List.map_nil, PV.rens, PV.ren, if_true, if_false, Bool.false_eq_true, reduceIte, Nat.reduceAdd, Nat.reduceSub, Nat.reduceMul, Nat.reduceEqDiff, Nat.reduceLeDiff, Int.reduceLE, Int.reduceLT, Int.reduceEq, Int.reduceToNat, Int.reduceAdd, Int.reduceSub, Int.reduceNeg, decide_true, decide_false, Bool.not_true, Bool.not_false, Bool.true_and, Bool.false_and, Bool.and_true, Bool.and_false, Bool.or_true, Bool.true_or, Bool.or_false, Bool.false_or, and_self, and_true, true_and, Nat.le_refl, Nat.zero_add, Nat.mul_one, Nat.one_ne_zero, Nat.zero_le, highP, lowP, Option.map_some, Option.map_none, List.drop_zero, List.take_zero, List.length_cons, List.length_nil, List.nil_append, List.append_nil, List.cons_append, fillP, PV.cells?, PV.one, PV.cleans, PV.clean, PV.of?, List.all_cons, List.all_nil, List.take_succ_cons, List.drop_succ_cons, Bool.and_self, Int.natCast_nonneg, Int.toNat_natCast, Int.toNat_zero, evL_loop] at lp ⊢
  rw [lp, ← hr]
  by_cases hm : Lib.index (b.drop i0) nl = -1
  · simp only [hm, q30_2, evL_op, evL_sel, evL_nx, evL_exit, evL_ret, evL_join, evL_block, evL_cond, evK_some, evJ_nx, evJ_rt, evJ_ex, evB_nx, evB_rt, evB_ex, evC2_bool, evS_and, evS_or, evS_tf, evS_ft, ev_t, ev_s, ev_c, evalOp, bin_add, bin_sub, bin_mul, bin_eql, bin_neq, bin_lss, bin_leq, bin_gtr, bin_geq, sbin_eql, sbin_neq, b8, List.map_cons, List.map_nil, PV.rens, PV.ren, if_true, if_false, Bool.false_eq_true, reduceIte, Nat.reduceAdd, Nat.reduceSub, Nat.reduceMul, Nat.reduceEqDiff, Nat.reduceLeDiff, Int.reduceLE, Int.reduceLT, Int.reduceEq, Int.reduceToNat, Int.reduceAdd, Int.reduceSub, Int.reduceNeg, decide_true, decide_false, Bool.not_true, Bool.not_false, Bool.true_and, Bool.false_and, Bool.and_true, Bool.and_false, Bool.or_true, Bool.true_or, Bool.or_false, Bool.false_or, and_self, and_true, true_and, Nat.le_refl, Nat.zero_add, Nat.mul_one, Nat.one_ne_zero, Nat.zero_le, highP, lowP, Option.map_some, Option.map_none, List.drop_zero, List.take_zero, List.length_cons, List.length_nil, List.nil_append, List.append_nil, List.cons_append, fillP, PV.cells?, PV.one, PV.cleans, PV.clean, PV.of?, List.all_cons, List.all_nil, List.take_succ_cons, List.drop_succ_cons, Bool.and_self, Int.natCast_nonneg, Int.toNat_natCast, Int.toNat_zero]
  · simp only [hm, q30_2, evL_op, evL_sel, evL_nx, evL_exit, evL_ret, evL_join, evL_block, evL_cond, evK_some, evJ_nx, evJ_rt, evJ_ex, evB_nx, evB_rt, evB_ex, evC2_bool, evS_and, evS_or, evS_tf, evS_ft, ev_t, ev_s, ev_c, evalOp, bin_add, bin_sub, bin_mul, bin_eql, bin_neq, bin_lss, bin_leq, bin_gtr, bin_geq, sbin_eql, sbin_neq, b8, List.map_cons, List.map_nil, PV.rens, PV.ren, if_true, if_false, Bool.false_eq_true, reduceIte, Nat.reduceAdd, Nat.reduceSub, Nat.reduceMul, Nat.reduceEqDiff, Nat.reduceLeDiff, Int.reduceLE, Int.reduceLT, Int.reduceEq, Int.reduceToNat, Int.reduceAdd, Int.reduceSub, Int.reduceNeg, decide_true, decide_false, Bool.not_true, Bool.not_false, Bool.true_and, Bool.false_and, Bool.and_true, Bool.and_false, Bool.or_true, Bool.true_or, Bool.or_false, Bool.false_or, and_self, and_true, true_and, Nat.le_refl, Nat.zero_add, Nat.mul_one, Nat.one_ne_zero, Nat.zero_le, highP, lowP, Option.map_some, Option.map_none, List.drop_zero, List.take_zero, List.length_cons, List.length_nil, List.nil_append, List.append_nil, List.cons_append, fillP, PV.cells?, PV.one, PV.cleans, PV.clean, PV.of?, List.all_cons, List.all_nil, List.take_succ_cons, List.drop_succ_cons, Bool.and_self, Int.natCast_nonneg, Int.toNat_natCast, Int.toNat_zero]
end Go.Proofs.YtghnffhgmhfofaaDoor.Tab
