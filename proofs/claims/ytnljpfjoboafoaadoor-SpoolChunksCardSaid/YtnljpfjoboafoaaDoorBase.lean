/- What every chapter needs: bytes compared, copied. -/
import Derived.Test.YtnljpfjoboafoaaDoorOvs
import Derived.Test.YtnljpfjoboafoaaDoorEv28
import Derived.KernelRfl
namespace Go.Proofs.YtnljpfjoboafoaaDoor.Tab
set_option linter.all false
open Go Go.RowKit Go.Proofs.YtnljpfjoboafoaaDoor.Ev
noncomputable abbrev T : Cl := evT lt ov
theorem wr {n : Int} (h1 : -9223372036854775808 ≤ n) (h2 : n ≤ 9223372036854775807) : IntKind.i64.wrap n = n := IntWalk.i64_in n ⟨h1, h2⟩
theorem wr1 {i : Nat} (h : i < 9223372036854775807) : IntKind.i64.wrap ((i : Int) + 1) = ((i + 1 : Nat) : Int) := by rw [wr (by omega) (by omega)]; rfl
abbrev sl8 (l : List UInt8) : PV := .sl .no 1 l.length (l.map b8)
theorem get_b8 {l : List UInt8} {i : Nat} (h : i < l.length) : ((l.map b8).drop i).take 1 = [b8 l[i]] := by
  rw [← List.map_drop, List.drop_eq_getElem_cons h, List.map_cons]; rfl
theorem get_b8' {l : List UInt8} {i : Nat} {c : UInt8} (h : l[i]? = some c) : ((l.map b8).drop i).take 1 = [b8 c] := by
  obtain ⟨h1, h2⟩ := List.getElem?_eq_some_iff.1 h
  rw [get_b8 h1, h2]
theorem cut_b8 (l : List UInt8) (a b : Nat) : ((l.map b8).take b).drop a = ((l.take b).drop a).map b8 := by rw [List.map_drop, List.map_take]
theorem b8_neq (c d : UInt8) : (!decide ((c.toNat : Int) = d.toNat)) = !decide (c = d) := by
  congr 1
  by_cases h : c = d
  · subst h; simp
  · have : ¬ (c.toNat : Int) = d.toNat := fun e => h (UInt8.toNat_inj.1 (by omega))
    simp [h, this]
/-- A row of bytes: its own, or none. -/
def BS (p : PV) (l : List UInt8) : Prop := ∃ t z, p = .sl t z l.length (l.map b8) ∧ (t = .no ∨ t = .nil ∧ l = []) ∧ (l = [] ∨ z = 1)
theorem BS.sl (l : List UInt8) : BS (sl8 l) l := ⟨.no, 1, rfl, .inl rfl, .inr rfl⟩
theorem BS.nil : BS (.sl .nil 0 0 []) [] := ⟨.nil, 0, rfl, .inr ⟨rfl, rfl⟩, .inl rfl⟩
theorem BS.none (z : Nat) : BS (.sl .no z 0 []) [] := ⟨.no, z, rfl, .inl rfl, .inl rfl⟩
theorem BS.cases {p : PV} {l : List UInt8} (h : BS p l) : p = sl8 l ∨ l = [] ∧ ∃ t z, p = .sl t z 0 [] ∧ (t = .no ∨ t = .nil) := by
  obtain ⟨t, z, rfl, h1, h2⟩ := h
  rcases h2 with rfl | rfl
  · exact .inr ⟨rfl, t, z, rfl, h1.imp id And.left⟩
  · rcases h1 with rfl | ⟨rfl, rfl⟩
    · exact .inl rfl
    · exact .inr ⟨rfl, _, _, rfl, .inr rfl⟩
theorem T_bytes8 (l m : List UInt8) (hs : l.length ≤ 9000000000000000000) : T 20 [sl8 l, sl8 m] [] = some (.bool (decide (l = m)), []) := by
  refine evT_of (k := l.length + 1) (F := l20) (H' := []) (e := [.bool (decide (l = m))]) (l := [.bool (decide (l = m))]) rfl rfl rfl ?_ rfl rfl
  show evL T (l.length + 1) q20 _ _ = _
  by_cases h : l.length = m.length
  · have lp := loop_law (n := 0) (body := evL T (l.length + 1) q20_1) (σ := Nat) (fun i => [sl8 l, sl8 m, .int .i64 i]) (fun _ => []) (fun i => l.length - i) (fun i => i ≤ l.length) (fun i => if l.drop i = m.drop i then (.ex 0, [], []) else (.rt, [.bool false], [])) (by
      intro i hi
      rcases Nat.lt_or_ge i l.length with h1 | h1
      · have h2 : i < m.length := by omega
        have h3 : (i : Int) < l.length := by omega
        have h4 : (i : Int) < m.length := by omega
        have c1 := get_b8 h1
        have c2 := get_b8 h2
        rw [List.drop_eq_getElem_cons h1, List.drop_eq_getElem_cons h2]
        by_cases hc : l[i] = m[i]
        · refine .inr ⟨i + 1, ?_⟩
          apply Exists.intro
          apply Exists.intro
          refine ⟨?_, ?_, h1, by omega, ?_⟩
          · simp only [q20_1, q20_0, evL_op, evL_sel, evL_nx, evL_exit, evL_ret, evL_join, evL_block, evL_cond, evK_some, evJ_nx, evJ_rt, evJ_ex, evB_nx, evB_rt, evB_ex, evC2_bool, evS_and, evS_or, evS_tf, evS_ft, ev_t, ev_s, ev_c, evalOp, bin_add, bin_sub, bin_mul, bin_eql, bin_neq, bin_lss, bin_leq, bin_gtr, bin_geq, sbin_eql, sbin_neq, b8, List.map_cons, List.map_nil, PV.rens, PV.ren, if_true, if_false, Bool.false_eq_true, reduceIte, Nat.reduceAdd, Nat.reduceSub, Nat.reduceMul, Nat.reduceEqDiff, Nat.reduceLeDiff, Int.reduceLE, Int.reduceLT, Int.reduceEq, Int.reduceToNat, Int.reduceAdd, Int.reduceSub, Int.reduceNeg, decide_true, decide_false, Bool.not_true, Bool.not_false, Bool.true_and, Bool.false_and, Bool.and_true, Bool.and_false, Bool.or_true, Bool.true_or, Bool.or_false, Bool.false_or, and_self, and_true, true_and, Nat.le_refl, Nat.zero_add, Nat.mul_one, Nat.one_ne_zero, Nat.zero_le, highP, lowP, Option.map_some, Option.map_none, List.drop_zero, List.take_zero, List.length_cons, List.length_nil, List.nil_append, List.append_nil, List.cons_append, fillP, PV.cells?, PV.one, PV.cleans, PV.clean, PV.of?, List.all_cons, List.all_nil, List.take_succ_cons, List.drop_succ_cons, Bool.and_self, Int.natCast_nonneg, Int.toNat_natCast, Int.toNat_zero, h3, h4, c1, c2, wr1 (show i < 9223372036854775807 by omega), b8_neq, hc]
            rfl
          · rfl
          · simp only [hc, List.cons.injEq, true_and]
        · refine .inl ?_
          rw [if_neg (fun e => hc (List.cons.inj e).1)]
          refine ⟨?_, by simp⟩
          simp only [q20_1, q20_0, evL_op, evL_sel, evL_nx, evL_exit, evL_ret, evL_join, evL_block, evL_cond, evK_some, evJ_nx, evJ_rt, evJ_ex, evB_nx, evB_rt, evB_ex, evC2_bool, evS_and, evS_or, evS_tf, evS_ft, ev_t, ev_s, ev_c, evalOp, bin_add, bin_sub, bin_mul, bin_eql, bin_neq, bin_lss, bin_leq, bin_gtr, bin_geq, sbin_eql, sbin_neq, b8, List.map_cons, List.map_nil, PV.rens, PV.ren, if_true, if_false, Bool.false_eq_true, reduceIte, Nat.reduceAdd, Nat.reduceSub, Nat.reduceMul, Nat.reduceEqDiff, Nat.reduceLeDiff, Int.reduceLE, Int.reduceLT, Int.reduceEq, Int.reduceToNat, Int.reduceAdd, Int.reduceSub, Int.reduceNeg, decide_true, decide_false, Bool.not_true, Bool.not_false, Bool.true_and, Bool.false_and, Bool.and_true, Bool.and_false, Bool.or_true, Bool.true_or, Bool.or_false, Bool.false_or, and_self, and_true, true_and, Nat.le_refl, Nat.zero_add, Nat.mul_one, Nat.one_ne_zero, Nat.zero_le, highP, lowP, Option.map_some, Option.map_none, List.drop_zero, List.take_zero, List.length_cons, List.length_nil, List.nil_append, List.append_nil, List.cons_append, fillP, PV.cells?, PV.one, PV.cleans, PV.clean, PV.of?, List.all_cons, List.all_nil, List.take_succ_cons, List.drop_succ_cons, Bool.and_self, Int.natCast_nonneg, Int.toNat_natCast, Int.toNat_zero, h3, h4, c1, c2, b8_neq, hc]
      · refine .inl ?_
        have h3 : ¬ (i : Int) < l.length := by omega
        rw [List.drop_of_length_le h1, List.drop_of_length_le (by omega), if_pos rfl]
        refine ⟨?_, by simp⟩
        simp only [q20_1, evL_op, evL_sel, evL_nx, evL_exit, evL_ret, evL_join, evL_block, evL_cond, evK_some, evJ_nx, evJ_rt, evJ_ex, evB_nx, evB_rt, evB_ex, evC2_bool, evS_and, evS_or, evS_tf, evS_ft, ev_t, ev_s, ev_c, evalOp, bin_add, bin_sub, bin_mul, bin_eql, bin_neq, bin_lss, bin_leq, bin_gtr, bin_geq, sbin_eql, sbin_neq, b8, List.map_cons, List.map_nil, PV.rens, PV.ren, if_true, if_false, Bool.false_eq_true, reduceIte, Nat.reduceAdd, Nat.reduceSub, Nat.reduceMul, Nat.reduceEqDiff, Nat.reduceLeDiff, Int.reduceLE, Int.reduceLT, Int.reduceEq, Int.reduceToNat, Int.reduceAdd, Int.reduceSub, Int.reduceNeg, decide_true, decide_false, Bool.not_true, Bool.not_false, Bool.true_and, Bool.false_and, Bool.and_true, Bool.and_false, Bool.or_true, Bool.true_or, Bool.or_false, Bool.false_or, and_self, and_true, true_and, Nat.le_refl, Nat.zero_add, Nat.mul_one, Nat.one_ne_zero, Nat.zero_le, highP, lowP, Option.map_some, Option.map_none, List.drop_zero, List.take_zero, List.length_cons, List.length_nil, List.nil_append, List.append_nil, List.cons_append, fillP, PV.cells?, PV.one, PV.cleans, PV.clean, PV.of?, List.all_cons, List.all_nil, List.take_succ_cons, List.drop_succ_cons, Bool.and_self, Int.natCast_nonneg, Int.toNat_natCast, Int.toNat_zero, h3]) (l.length + 1) 0 [sl8 l, sl8 m, .int .i64 (0 : Nat)] [] rfl (Nat.zero_le _) (by omega)
    have h3 : PV.sl .no 1 m.length (l.map b8) = sl8 l := by rw [← h]
    have o0 : ((0 : Nat) : Int) = 0 := rfl
    simp only [q20, evL_op, evL_sel, evL_nx, evL_exit, evL_ret, evL_join, evL_block, evL_cond, evK_some, evJ_nx, evJ_rt, evJ_ex, evB_nx, evB_rt, evB_ex, evC2_bool, evS_and, evS_or, evS_tf, evS_ft, ev_t, ev_s, ev_c, evalOp, bin_add, bin_sub, bin_mul, bin_eql, bin_neq, bin_lss, bin_leq, bin_gtr, bin_geq, sbin_eql, sbin_neq, b8, List.map_cons, List.map_nil, PV.rens, PV.ren, if_true, if_false, Bool.false_eq_true, reduceIte, Nat.reduceAdd, Nat.reduceSub, Nat.reduceMul, Nat.reduceEqDiff, Nat.reduceLeDiff, Int.reduceLE, Int.reduceLT, Int.reduceEq, Int.reduceToNat, Int.reduceAdd, Int.reduceSub, Int.reduceNeg, decide_true, decide_false, Bool.not_true, Bool.not_false, Bool.true_and, Bool.false_and, Bool.and_true, Bool.and_false, Bool.or_true, Bool.true_or, Bool.or_false, Bool.false_or, and_self, and_true, true_and, Nat.le_refl, Nat.zero_add, Nat.mul_one, Nat.one_ne_zero, Nat.zero_le, highP, lowP, Option.map_some, Option.map_none, List.drop_zero, List.take_zero, List.length_cons, List.length_nil, List.nil_append, List.append_nil, List.cons_append, fillP, PV.cells?, PV.one, PV.cleans, PV.clean, PV.of?, List.all_cons, List.all_nil, List.take_succ_cons, List.drop_succ_cons, Bool.and_self, Int.natCast_nonneg, Int.toNat_natCast, Int.toNat_zero, h, evL_loop, List.drop_zero, o0] at lp ⊢
    rw [lp]
    by_cases hlm : l = m
    · simp only [hlm, q20_2, evL_op, evL_sel, evL_nx, evL_exit, evL_ret, evL_join, evL_block, evL_cond, evK_some, evJ_nx, evJ_rt, evJ_ex, evB_nx, evB_rt, evB_ex, evC2_bool, evS_and, evS_or, evS_tf, evS_ft, ev_t, ev_s, ev_c, evalOp, bin_add, bin_sub, bin_mul, bin_eql, bin_neq, bin_lss, bin_leq, bin_gtr, bin_geq, sbin_eql, sbin_neq, b8, List.map_cons, List.map_nil, PV.rens, PV.ren, if_true, if_false, Bool.false_eq_true, reduceIte, Nat.reduceAdd, Nat.reduceSub, Nat.reduceMul, Nat.reduceEqDiff, Nat.reduceLeDiff, Int.reduceLE, Int.reduceLT, Int.reduceEq, Int.reduceToNat, Int.reduceAdd, Int.reduceSub, Int.reduceNeg, decide_true, decide_false, Bool.not_true, Bool.not_false, Bool.true_and, Bool.false_and, Bool.and_true, Bool.and_false, Bool.or_true, Bool.true_or, Bool.or_false, Bool.false_or, and_self, and_true, true_and, Nat.le_refl, Nat.zero_add, Nat.mul_one, Nat.one_ne_zero, Nat.zero_le, highP, lowP, Option.map_some, Option.map_none, List.drop_zero, List.take_zero, List.length_cons, List.length_nil, List.nil_append, List.append_nil, List.cons_append, fillP, PV.cells?, PV.one, PV.cleans, PV.clean, PV.of?, List.all_cons, List.all_nil, List.take_succ_cons, List.drop_succ_cons, Bool.and_self, Int.natCast_nonneg, Int.toNat_natCast, Int.toNat_zero]
    · simp only [hlm, q20_2, evL_op, evL_sel, evL_nx, evL_exit, evL_ret, evL_join, evL_block, evL_cond, evK_some, evJ_nx, evJ_rt, evJ_ex, evB_nx, evB_rt, evB_ex, evC2_bool, evS_and, evS_or, evS_tf, evS_ft, ev_t, ev_s, ev_c, evalOp, bin_add, bin_sub, bin_mul, bin_eql, bin_neq, bin_lss, bin_leq, bin_gtr, bin_geq, sbin_eql, sbin_neq, b8, List.map_cons, List.map_nil, PV.rens, PV.ren, if_true, if_false, Bool.false_eq_true, reduceIte, Nat.reduceAdd, Nat.reduceSub, Nat.reduceMul, Nat.reduceEqDiff, Nat.reduceLeDiff, Int.reduceLE, Int.reduceLT, Int.reduceEq, Int.reduceToNat, Int.reduceAdd, Int.reduceSub, Int.reduceNeg, decide_true, decide_false, Bool.not_true, Bool.not_false, Bool.true_and, Bool.false_and, Bool.and_true, Bool.and_false, Bool.or_true, Bool.true_or, Bool.or_false, Bool.false_or, and_self, and_true, true_and, Nat.le_refl, Nat.zero_add, Nat.mul_one, Nat.one_ne_zero, Nat.zero_le, highP, lowP, Option.map_some, Option.map_none, List.drop_zero, List.take_zero, List.length_cons, List.length_nil, List.nil_append, List.append_nil, List.cons_append, fillP, PV.cells?, PV.one, PV.cleans, PV.clean, PV.of?, List.all_cons, List.all_nil, List.take_succ_cons, List.drop_succ_cons, Bool.and_self, Int.natCast_nonneg, Int.toNat_natCast, Int.toNat_zero]
  · have hn : ¬ l = m := fun e => h (by rw [e])
    have h' : ¬ (l.length : Int) = m.length := by omega
    simp only [q20, evL_op, evL_sel, evL_nx, evL_exit, evL_ret, evL_join, evL_block, evL_cond, evK_some, evJ_nx, evJ_rt, evJ_ex, evB_nx, evB_rt, evB_ex, evC2_bool, evS_and, evS_or, evS_tf, evS_ft, ev_t, ev_s, ev_c, evalOp, bin_add, bin_sub, bin_mul, bin_eql, bin_neq, bin_lss, bin_leq, bin_gtr, bin_geq, sbin_eql, sbin_neq, b8, List.map_cons, List.map_nil, PV.rens, PV.ren, if_true, if_false, Bool.false_eq_true, reduceIte, Nat.reduceAdd, Nat.reduceSub, Nat.reduceMul, Nat.reduceEqDiff, Nat.reduceLeDiff, Int.reduceLE, Int.reduceLT, Int.reduceEq, Int.reduceToNat, Int.reduceAdd, Int.reduceSub, Int.reduceNeg, decide_true, decide_false, Bool.not_true, Bool.not_false, Bool.true_and, Bool.false_and, Bool.and_true, Bool.and_false, Bool.or_true, Bool.true_or, Bool.or_false, Bool.false_or, and_self, and_true, true_and, Nat.le_refl, Nat.zero_add, Nat.mul_one, Nat.one_ne_zero, Nat.zero_le, highP, lowP, Option.map_some, Option.map_none, List.drop_zero, List.take_zero, List.length_cons, List.length_nil, List.nil_append, List.append_nil, List.cons_append, fillP, PV.cells?, PV.one, PV.cleans, PV.clean, PV.of?, List.all_cons, List.all_nil, List.take_succ_cons, List.drop_succ_cons, Bool.and_self, Int.natCast_nonneg, Int.toNat_natCast, Int.toNat_zero, h', hn]
theorem T20 {p q : PV} {l m : List UInt8} (hp : BS p l) (hq : BS q m) (hs : l.length ≤ 9000000000000000000) : T 20 [p, q] [] = some (.bool (decide (l = m)), []) := by
  by_cases h3 : l.length = m.length
  · rcases hp.cases with rfl | ⟨rfl, t, z, rfl, h1⟩
    · rcases hq.cases with rfl | ⟨rfl, t, z, rfl, h2⟩
      · exact T_bytes8 l m hs
      · have : l = [] := List.length_eq_zero_iff.1 h3
        subst this
        rcases h2 with rfl | rfl
        · exact evT_of (k := 1) (F := l20) (H' := []) (e := [.bool true]) (l := [.bool true]) rfl rfl rfl rfl rfl rfl
        · exact evT_of (k := 1) (F := l20) (H' := [.tok]) (e := [.bool true]) (l := [.bool true]) rfl rfl rfl rfl rfl rfl
    · have : m = [] := List.length_eq_zero_iff.1 h3.symm
      subst this
      obtain ⟨t', z', rfl, h2, _⟩ := hq
      have h2 : t' = .no ∨ t' = .nil := h2.imp id And.left
      rcases h1 with rfl | rfl <;> rcases h2 with rfl | rfl
      · exact evT_of (k := 1) (F := l20) (H' := []) (e := [.bool true]) (l := [.bool true]) rfl rfl rfl rfl rfl rfl
      · exact evT_of (k := 1) (F := l20) (H' := [.tok]) (e := [.bool true]) (l := [.bool true]) rfl rfl rfl rfl rfl rfl
      · exact evT_of (k := 1) (F := l20) (H' := [.tok]) (e := [.bool true]) (l := [.bool true]) rfl rfl rfl rfl rfl rfl
      · exact evT_of (k := 1) (F := l20) (H' := [.tok, .tok]) (e := [.bool true]) (l := [.bool true]) rfl rfl rfl rfl rfl rfl
  · obtain ⟨t, z, rfl, h1, _⟩ := hp
    obtain ⟨t', z', rfl, h2, _⟩ := hq
    refine evT_of (k := 0) (F := l20) (H' := []) (e := [.bool (decide (l = m))]) (l := [.bool (decide (l = m))]) rfl rfl rfl ?_ rfl rfl
    show evL T 0 q20 _ _ = _
    have hn : ¬ l = m := fun e => h3 (by rw [e])
    have h4 : ¬ (l.length : Int) = m.length := by omega
    simp only [q20, evL_op, evL_sel, evL_nx, evL_exit, evL_ret, evL_join, evL_block, evL_cond, evK_some, evJ_nx, evJ_rt, evJ_ex, evB_nx, evB_rt, evB_ex, evC2_bool, evS_and, evS_or, evS_tf, evS_ft, ev_t, ev_s, ev_c, evalOp, bin_add, bin_sub, bin_mul, bin_eql, bin_neq, bin_lss, bin_leq, bin_gtr, bin_geq, sbin_eql, sbin_neq, b8, List.map_cons, List.map_nil, PV.rens, PV.ren, if_true, if_false, Bool.false_eq_true, reduceIte, Nat.reduceAdd, Nat.reduceSub, Nat.reduceMul, Nat.reduceEqDiff, Nat.reduceLeDiff, Int.reduceLE, Int.reduceLT, Int.reduceEq, Int.reduceToNat, Int.reduceAdd, Int.reduceSub, Int.reduceNeg, decide_true, decide_false, Bool.not_true, Bool.not_false, Bool.true_and, Bool.false_and, Bool.and_true, Bool.and_false, Bool.or_true, Bool.true_or, Bool.or_false, Bool.false_or, and_self, and_true, true_and, Nat.le_refl, Nat.zero_add, Nat.mul_one, Nat.one_ne_zero, Nat.zero_le, highP, lowP, Option.map_some, Option.map_none, List.drop_zero, List.take_zero, List.length_cons, List.length_nil, List.nil_append, List.append_nil, List.cons_append, fillP, PV.cells?, PV.one, PV.cleans, PV.clean, PV.of?, List.all_cons, List.all_nil, List.take_succ_cons, List.drop_succ_cons, Bool.and_self, Int.natCast_nonneg, Int.toNat_natCast, Int.toNat_zero, h4, hn]
theorem T46 {p : PV} {l : List UInt8} (hp : BS p l) (hs : l.length ≤ 70368744177663) : T 46 [p] [] = some (.sl (.tok 0) 1 l.length (l.map b8), [.tok]) := by
  obtain ⟨t, z, rfl, h1, h2⟩ := hp
  refine evT_of (k := 0) (F := l46) (H' := [.tok]) (e := [.sl (.tok 0) 1 l.length (l.map b8)]) (l := [.sl (.tok 0) 1 l.length (l.map b8)]) rfl rfl rfl ?_ rfl rfl
  show evL T 0 q46 _ _ = _
  have hr : l.length ≤ roomMax := by unfold roomMax; omega
  have hz : (l.length = 0 ∨ z = 1) := h2.imp (fun h => by rw [h]; rfl) id
  simp only [q46, evL_op, evL_sel, evL_nx, evL_exit, evL_ret, evL_join, evL_block, evL_cond, evK_some, evJ_nx, evJ_rt, evJ_ex, evB_nx, evB_rt, evB_ex, evC2_bool, evS_and, evS_or, evS_tf, evS_ft, ev_t, ev_s, ev_c, evalOp, bin_add, bin_sub, bin_mul, bin_eql, bin_neq, bin_lss, bin_leq, bin_gtr, bin_geq, sbin_eql, sbin_neq, b8, List.map_cons, List.map_nil, PV.rens, PV.ren, if_true, if_false, Bool.false_eq_true, reduceIte, Nat.reduceAdd, Nat.reduceSub, Nat.reduceMul, Nat.reduceEqDiff, Nat.reduceLeDiff, Int.reduceLE, Int.reduceLT, Int.reduceEq, Int.reduceToNat, Int.reduceAdd, Int.reduceSub, Int.reduceNeg, decide_true, decide_false, Bool.not_true, Bool.not_false, Bool.true_and, Bool.false_and, Bool.and_true, Bool.and_false, Bool.or_true, Bool.true_or, Bool.or_false, Bool.false_or, and_self, and_true, true_and, Nat.le_refl, Nat.zero_add, Nat.mul_one, Nat.one_ne_zero, Nat.zero_le, highP, lowP, Option.map_some, Option.map_none, List.drop_zero, List.take_zero, List.length_cons, List.length_nil, List.nil_append, List.append_nil, List.cons_append, fillP, PV.cells?, PV.one, PV.cleans, PV.clean, PV.of?, List.all_cons, List.all_nil, List.take_succ_cons, List.drop_succ_cons, Bool.and_self, Int.natCast_nonneg, Int.toNat_natCast, Int.toNat_zero, tailP, hr, hz, or_true, List.length_nil, Nat.zero_add]
end Go.Proofs.YtnljpfjoboafoaaDoor.Tab
