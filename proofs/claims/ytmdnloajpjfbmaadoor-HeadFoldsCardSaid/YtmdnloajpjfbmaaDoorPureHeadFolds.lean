/- HeadFolds: it is true. -/
import Derived.Test.YtmdnloajpjfbmaaDoorWritten
namespace Go.Proofs.YtmdnloajpjfbmaaDoor.Tab
set_option linter.all false
open Go Go.RowKit Go.Proofs.YtmdnloajpjfbmaaDoor.Ev
abbrev slS (l : List (List UInt8)) : PV := .sl .no 1 l.length (l.map fun x => .str x)
theorem get_s {l : List (List UInt8)} {i : Nat} (h : i < l.length) : ((l.map fun x => PV.str x).drop i).take 1 = [.str l[i]] := by
  rw [← List.map_drop, List.drop_eq_getElem_cons h, List.map_cons]; rfl
def subjK : List UInt8 := [83, 117, 98, 106, 101, 99, 116]
theorem subjK_def : subjK = [83, 117, 98, 106, 101, 99, 116] := rfl
def subjL : List UInt8 := [83, 117, 98, 106, 101, 99, 116, 58, 32, 97]
def noF : List UInt8 := [110, 111, 32, 102, 105, 101, 108, 100]
def noFB : List UInt8 := [110, 111, 32, 102, 105, 101, 108, 100, 13, 10]
theorem noFB_def : noFB = [110, 111, 32, 102, 105, 101, 108, 100, 13, 10] := rfl
def foB (l : List (List UInt8)) : List UInt8 := join (subjL :: l.map (9 :: ·))
def foT (l : List (List UInt8)) : List UInt8 := [32, 97] ++ (l.map (9 :: ·)).flatten
theorem foB_snoc (l : List (List UInt8)) (m : List UInt8) : foB (l ++ [m]) = foB l ++ 9 :: (m ++ [13, 10]) := by
  unfold foB
  rw [List.map_append, ← List.cons_append, join_app, List.map_singleton, join_one]
  simp
theorem foT_snoc (l : List (List UInt8)) (m : List UInt8) : foT (l ++ [m]) = foT l ++ [9] ++ m := by
  unfold foT; simp
theorem scan_folds (k : List UInt8) (X : List (List UInt8)) : ∀ (l : List (List UInt8)) (v : List UInt8) (e : Nat), scanGo [(k, v)] e (l.map (9 :: ·) ++ X) = scanGo [(k, v ++ (l.map (9 :: ·)).flatten)] (e + (join (l.map (9 :: ·))).length) X
  | [], v, e => by simp [join]
  | m :: l, v, e => by
    have hm : moreB (9 :: m) = true := rfl
    rw [List.map_cons, List.cons_append, show [(k, v)] = [] ++ [(k, v)] from rfl, scan_more (moreB_name hm) hm, List.nil_append, scan_folds k X l, join_cons]
    congr 1
    · simp
    · simp; omega
theorem folds_text {l : List (List UInt8)} (h : ∀ m ∈ l, Cl m) {rest : List UInt8} (hr : body rest = true) : body (foB l ++ noFB ++ rest) = true ∧ scanGo [] 0 (lines (foB l ++ noFB ++ rest)) = ([(subjK, foT l)], (foB l).length) := by
  obtain ⟨h1, h2⟩ := body_lines hr
  have e1 : foB l ++ noFB ++ rest = join ((subjL :: l.map (9 :: ·)) ++ noF :: lines rest) := by
    rw [join_app, join_cons noF, ← h1]; unfold foB noFB noF; simp
  have hc : ∀ x ∈ (subjL :: l.map (9 :: ·)) ++ noF :: lines rest, Cl x := fun x hx => by
    rcases List.mem_append.1 hx with hx | hx
    · rcases List.mem_cons.1 hx with rfl | hx
      · exact lit_cl (by decide)
      · obtain ⟨m, hm, rfl⟩ := List.mem_map.1 hx
        intro c hc
        rcases List.mem_cons.1 hc with rfl | hc
        · decide
        · exact h m hm c hc
    · rcases List.mem_cons.1 hx with rfl | hx
      · exact lit_cl (by decide)
      · exact h2 x hx
  rw [e1]
  refine ⟨body_join hc, ?_⟩
  rw [lines_join hc, List.cons_append, scan_is (by rfl), show [] ++ [((nameF subjL).1, (nameF subjL).2.1)] = [(subjK, [32, 97])] from rfl, scan_folds, scan_end (by rfl) (by rfl), if_neg (by decide)]
  have : (foB l).length = 0 + (subjL.length + 2) + (join (l.map (9 :: ·))).length := by
    unfold foB; rw [join_cons]; simp; omega
  rw [this]
  rfl
section
variable (more : List (List UInt8)) (rest : List UInt8) (h10 : more.length ≤ 10)
include h10
theorem loop_folds (k0 : Nat) : ∃ r, loopL 1 (evL T k0 q4_1) 11 [slS more, sl8 rest, .sl (.tok 0) 1 12 ((foB []).map b8), .str [32, 97], .int .i64 0] [.tok] = some r ∧
    ((∃ H, r = (.rt, [.bool true], H)) ∨ (∀ m ∈ more, Cl m) ∧ (foB more).length ≤ 700 ∧ r = (.ex 0, [sl8 rest, .sl ((.tok 1)) 1 (foB more).length ((foB more).map b8), .str (foT more)], [.dead, .tok])) := by
  refine loop_post (n := 1) (body := evL T k0 q4_1) (σ := Nat) (fun i => [slS more, sl8 rest, .sl ((.tok 1)) 1 (foB (more.take i)).length ((foB (more.take i)).map b8), .str (foT (more.take i)), .int .i64 i]) (fun _ => [.dead, .tok]) (fun i => more.length - i)
    (fun i => i ≤ more.length ∧ (∀ m ∈ more.take i, Cl m) ∧ (foB (more.take i)).length ≤ 12 + 63 * i ∧ (foT (more.take i)).length ≤ 2 + 61 * i) _ ?_ 11 0 [slS more, sl8 rest, .sl (.tok 0) 1 12 ((foB []).map b8), .str [32, 97], .int .i64 (0 : Nat)] [.tok] rfl ⟨Nat.zero_le _, fun m h => (by cases h), Nat.le_refl _, Nat.le_refl _⟩ (by omega)
  rintro i ⟨hi, hD, hl, hf⟩
  rcases Nat.lt_or_ge i more.length with h | h
  · have g1 : (i : Int) < more.length := by omega
    have gn := get_s h
    have hsn : more.take (i + 1) = more.take i ++ [more[i]] := List.take_succ_eq_append_getElem h
    have hmem : ∀ m ∈ more.take (i + 1), m ∈ more.take i ∨ m = more[i] := fun m hm => by
      rw [hsn] at hm; exact (List.mem_append.1 hm).imp (fun h => h) List.mem_singleton.1
    have hB := foB_snoc (more.take i) more[i]
    have hT := foT_snoc (more.take i) more[i]
    rw [← hsn] at hB hT
    generalize more[i] = m at *
    have w1 := wr1 (show i < 9223372036854775807 by omega)
    by_cases k1 : (60 : Int) < m.length
    · refine .inl ⟨(.rt, [.bool true], [.dead, .tok]), ?_, by simp, .inl ⟨_, rfl⟩⟩
      simp only [q4_1, evL_op, evL_sel, evL_nx, evL_exit, evL_ret, evL_join, evL_block, evL_cond, evK_some, evJ_nx, evJ_rt, evJ_ex, evB_nx, evB_rt, evB_ex, evC2_bool, evS_and, evS_or, evS_tf, evS_ft, ev_t, ev_s, ev_c, evalOp, bin_add, bin_sub, bin_mul, bin_eql, bin_neq, bin_lss, bin_leq, bin_gtr, bin_geq, sbin_eql, sbin_neq, b8, List.map_cons, List.map_nil, PV.rens, PV.ren, if_true, if_false, Bool.false_eq_true, reduceIte, Nat.reduceAdd, Nat.reduceSub, Nat.reduceMul, Nat.reduceEqDiff, Nat.reduceLeDiff, Int.reduceLE, Int.reduceLT, Int.reduceEq, Int.reduceToNat, Int.reduceAdd, Int.reduceSub, Int.reduceNeg, decide_true, decide_false, Bool.not_true, Bool.not_false, Bool.true_and, Bool.false_and, Bool.and_true, Bool.and_false, Bool.or_true, Bool.true_or, Bool.or_false, Bool.false_or, and_self, and_true, true_and, Nat.le_refl, Nat.zero_add, Nat.mul_one, Nat.one_ne_zero, Nat.zero_le, highP, lowP, Option.map_some, Option.map_none, List.drop_zero, List.take_zero, List.length_cons, List.length_nil, List.nil_append, List.append_nil, List.cons_append, fillP, PV.cells?, PV.one, PV.cleans, PV.clean, PV.of?, List.all_cons, List.all_nil, List.take_succ_cons, List.drop_succ_cons, Bool.and_self, Int.natCast_nonneg, Int.toNat_natCast, Int.toNat_zero, PV.of?, Tk.ren, tailP, evL_loop, or_true, true_or, Nat.zero_lt_one, Nat.sub_zero, List.getElem?_cons_zero, List.getElem?_cons_succ, List.set_cons_zero, List.set_cons_succ, List.take_length, PV.rens, PV.ren, g1, gn, k1]
    have c11 := T11 m (by omega)
    cases k4 : m.all plC with
    | false =>
      rw [k4] at c11
      refine .inl ⟨(.rt, [.bool true], [.dead, .tok]), ?_, by simp, .inl ⟨_, rfl⟩⟩
      simp only [q4_1, evL_op, evL_sel, evL_nx, evL_exit, evL_ret, evL_join, evL_block, evL_cond, evK_some, evJ_nx, evJ_rt, evJ_ex, evB_nx, evB_rt, evB_ex, evC2_bool, evS_and, evS_or, evS_tf, evS_ft, ev_t, ev_s, ev_c, evalOp, bin_add, bin_sub, bin_mul, bin_eql, bin_neq, bin_lss, bin_leq, bin_gtr, bin_geq, sbin_eql, sbin_neq, b8, List.map_cons, List.map_nil, PV.rens, PV.ren, if_true, if_false, Bool.false_eq_true, reduceIte, Nat.reduceAdd, Nat.reduceSub, Nat.reduceMul, Nat.reduceEqDiff, Nat.reduceLeDiff, Int.reduceLE, Int.reduceLT, Int.reduceEq, Int.reduceToNat, Int.reduceAdd, Int.reduceSub, Int.reduceNeg, decide_true, decide_false, Bool.not_true, Bool.not_false, Bool.true_and, Bool.false_and, Bool.and_true, Bool.and_false, Bool.or_true, Bool.true_or, Bool.or_false, Bool.false_or, and_self, and_true, true_and, Nat.le_refl, Nat.zero_add, Nat.mul_one, Nat.one_ne_zero, Nat.zero_le, highP, lowP, Option.map_some, Option.map_none, List.drop_zero, List.take_zero, List.length_cons, List.length_nil, List.nil_append, List.append_nil, List.cons_append, fillP, PV.cells?, PV.one, PV.cleans, PV.clean, PV.of?, List.all_cons, List.all_nil, List.take_succ_cons, List.drop_succ_cons, Bool.and_self, Int.natCast_nonneg, Int.toNat_natCast, Int.toNat_zero, PV.of?, Tk.ren, tailP, evL_loop, or_true, true_or, Nat.zero_lt_one, Nat.sub_zero, List.getElem?_cons_zero, List.getElem?_cons_succ, List.set_cons_zero, List.set_cons_succ, List.take_length, PV.rens, PV.ren, g1, gn, k1, c11]
    | true =>
      rw [k4] at c11
      have a1 := sbin_add (s := [9]) (u := m) (by simp; omega)
      have a2 := sbin_add (s := 9 :: m) (u := [13, 10]) (by simp; omega)
      have a3 := sbin_add (s := foT (more.take i)) (u := [9]) (by simp; omega)
      have a4 := sbin_add (s := foT (more.take i) ++ [9]) (u := m) (by simp; omega)
      have hsl : (9 :: (m ++ [13, 10])).length = m.length + 3 := by simp
      have htl : (foT (more.take i) ++ [9] ++ m).length = (foT (more.take i)).length + 1 + m.length := by simp; omega
      simp only [List.cons_append, List.nil_append] at a1 a2
      have hBl := congrArg List.length hB
      rw [List.length_append] at hBl
      have hTl := congrArg List.length hT
      generalize 9 :: (m ++ [13, 10]) = S at *
      have r2 : (foB (more.take i)).length + S.length ≤ roomMax := by unfold roomMax; omega
      refine .inr ⟨i + 1, ?_⟩
      have hI : i + 1 ≤ more.length ∧ (∀ x ∈ more.take (i + 1), Cl x) ∧ (foB (more.take (i + 1))).length ≤ 12 + 63 * (i + 1) ∧ (foT (more.take (i + 1))).length ≤ 2 + 61 * (i + 1) := by
        refine ⟨h, fun x hx => ?_, by omega, by omega⟩
        rcases hmem x hx with hx | rfl
        · exact hD x hx
        · exact plC_cl k4
      apply Exists.intro
      apply Exists.intro
      refine ⟨?_, ?_, hI, by omega⟩
      · simp only [q4_1, q4_0, evL_op, evL_sel, evL_nx, evL_exit, evL_ret, evL_join, evL_block, evL_cond, evK_some, evJ_nx, evJ_rt, evJ_ex, evB_nx, evB_rt, evB_ex, evC2_bool, evS_and, evS_or, evS_tf, evS_ft, ev_t, ev_s, ev_c, evalOp, bin_add, bin_sub, bin_mul, bin_eql, bin_neq, bin_lss, bin_leq, bin_gtr, bin_geq, sbin_eql, sbin_neq, b8, List.map_cons, List.map_nil, PV.rens, PV.ren, if_true, if_false, Bool.false_eq_true, reduceIte, Nat.reduceAdd, Nat.reduceSub, Nat.reduceMul, Nat.reduceEqDiff, Nat.reduceLeDiff, Int.reduceLE, Int.reduceLT, Int.reduceEq, Int.reduceToNat, Int.reduceAdd, Int.reduceSub, Int.reduceNeg, decide_true, decide_false, Bool.not_true, Bool.not_false, Bool.true_and, Bool.false_and, Bool.and_true, Bool.and_false, Bool.or_true, Bool.true_or, Bool.or_false, Bool.false_or, and_self, and_true, true_and, Nat.le_refl, Nat.zero_add, Nat.mul_one, Nat.one_ne_zero, Nat.zero_le, highP, lowP, Option.map_some, Option.map_none, List.drop_zero, List.take_zero, List.length_cons, List.length_nil, List.nil_append, List.append_nil, List.cons_append, fillP, PV.cells?, PV.one, PV.cleans, PV.clean, PV.of?, List.all_cons, List.all_nil, List.take_succ_cons, List.drop_succ_cons, Bool.and_self, Int.natCast_nonneg, Int.toNat_natCast, Int.toNat_zero, PV.of?, Tk.ren, tailP, evL_loop, or_true, true_or, Nat.zero_lt_one, Nat.sub_zero, List.getElem?_cons_zero, List.getElem?_cons_succ, List.set_cons_zero, List.set_cons_succ, List.take_length, PV.rens, PV.ren, g1, gn, k1, c11, a1, a2, a3, a4, r2, w1, Nat.one_mul]
        rfl
      · rw [hBl, hB, hT, List.map_append]
        rfl
  · have g1 : ¬ (i : Int) < more.length := by omega
    obtain rfl : i = more.length := by omega
    rw [List.take_length] at hD hl hf ⊢
    refine .inl ⟨_, ?_, by simp, .inr ⟨hD, by omega, rfl⟩⟩
    simp only [q4_1, evL_op, evL_sel, evL_nx, evL_exit, evL_ret, evL_join, evL_block, evL_cond, evK_some, evJ_nx, evJ_rt, evJ_ex, evB_nx, evB_rt, evB_ex, evC2_bool, evS_and, evS_or, evS_tf, evS_ft, ev_t, ev_s, ev_c, evalOp, bin_add, bin_sub, bin_mul, bin_eql, bin_neq, bin_lss, bin_leq, bin_gtr, bin_geq, sbin_eql, sbin_neq, b8, List.map_cons, List.map_nil, PV.rens, PV.ren, if_true, if_false, Bool.false_eq_true, reduceIte, Nat.reduceAdd, Nat.reduceSub, Nat.reduceMul, Nat.reduceEqDiff, Nat.reduceLeDiff, Int.reduceLE, Int.reduceLT, Int.reduceEq, Int.reduceToNat, Int.reduceAdd, Int.reduceSub, Int.reduceNeg, decide_true, decide_false, Bool.not_true, Bool.not_false, Bool.true_and, Bool.false_and, Bool.and_true, Bool.and_false, Bool.or_true, Bool.true_or, Bool.or_false, Bool.false_or, and_self, and_true, true_and, Nat.le_refl, Nat.zero_add, Nat.mul_one, Nat.one_ne_zero, Nat.zero_le, highP, lowP, Option.map_some, Option.map_none, List.drop_zero, List.take_zero, List.length_cons, List.length_nil, List.nil_append, List.append_nil, List.cons_append, fillP, PV.cells?, PV.one, PV.cleans, PV.clean, PV.of?, List.all_cons, List.all_nil, List.take_succ_cons, List.drop_succ_cons, Bool.and_self, Int.natCast_nonneg, Int.toNat_natCast, Int.toNat_zero, PV.of?, Tk.ren, tailP, evL_loop, or_true, true_or, Nat.zero_lt_one, Nat.sub_zero, List.getElem?_cons_zero, List.getElem?_cons_succ, List.set_cons_zero, List.set_cons_succ, List.take_length, g1]
end
theorem lawHeadFolds (more : List (List UInt8)) (hn : more.length ≤ room ∧ ∀ y ∈ more, y.length ≤ room) (rest : List UInt8) (hr : rest.length ≤ room ∧ ∀ y ∈ rest, True) :
    evT lt ov 4 [.sl .no 1 more.length (more.map fun l => .str l), .sl .no 1 rest.length (rest.map b8)] [] = some (.bool true, []) := by
  obtain ⟨hn, hn2⟩ := hn
  obtain ⟨hr, _⟩ := hr
  show T 4 [slS more, sl8 rest] [] = _
  have fin : ∀ {H : Hp}, evL T 11 q4 [slS more, sl8 rest] [] = some (.rt, [.bool true], H) → T 4 [slS more, sl8 rest] [] = some (.bool true, []) := fun {H} h =>
    evT_of (k := 11) (F := l4) (H' := H) (e := [.bool true]) (l := [.bool true]) rfl rfl rfl h rfl rfl
  by_cases h1 : (10 : Int) < more.length
  · apply fin
    simp only [q4, evL_op, evL_sel, evL_nx, evL_exit, evL_ret, evL_join, evL_block, evL_cond, evK_some, evJ_nx, evJ_rt, evJ_ex, evB_nx, evB_rt, evB_ex, evC2_bool, evS_and, evS_or, evS_tf, evS_ft, ev_t, ev_s, ev_c, evalOp, bin_add, bin_sub, bin_mul, bin_eql, bin_neq, bin_lss, bin_leq, bin_gtr, bin_geq, sbin_eql, sbin_neq, b8, List.map_cons, List.map_nil, PV.rens, PV.ren, if_true, if_false, Bool.false_eq_true, reduceIte, Nat.reduceAdd, Nat.reduceSub, Nat.reduceMul, Nat.reduceEqDiff, Nat.reduceLeDiff, Int.reduceLE, Int.reduceLT, Int.reduceEq, Int.reduceToNat, Int.reduceAdd, Int.reduceSub, Int.reduceNeg, decide_true, decide_false, Bool.not_true, Bool.not_false, Bool.true_and, Bool.false_and, Bool.and_true, Bool.and_false, Bool.or_true, Bool.true_or, Bool.or_false, Bool.false_or, and_self, and_true, true_and, Nat.le_refl, Nat.zero_add, Nat.mul_one, Nat.one_ne_zero, Nat.zero_le, highP, lowP, Option.map_some, Option.map_none, List.drop_zero, List.take_zero, List.length_cons, List.length_nil, List.nil_append, List.append_nil, List.cons_append, fillP, PV.cells?, PV.one, PV.cleans, PV.clean, PV.of?, List.all_cons, List.all_nil, List.take_succ_cons, List.drop_succ_cons, Bool.and_self, Int.natCast_nonneg, Int.toNat_natCast, Int.toNat_zero, PV.of?, Tk.ren, tailP, evL_loop, or_true, true_or, Nat.zero_lt_one, Nat.sub_zero, List.getElem?_cons_zero, List.getElem?_cons_succ, List.set_cons_zero, List.set_cons_succ, List.take_length, h1] <;> rfl
  by_cases h2 : (2000 : Int) < rest.length
  · apply fin
    simp only [q4, evL_op, evL_sel, evL_nx, evL_exit, evL_ret, evL_join, evL_block, evL_cond, evK_some, evJ_nx, evJ_rt, evJ_ex, evB_nx, evB_rt, evB_ex, evC2_bool, evS_and, evS_or, evS_tf, evS_ft, ev_t, ev_s, ev_c, evalOp, bin_add, bin_sub, bin_mul, bin_eql, bin_neq, bin_lss, bin_leq, bin_gtr, bin_geq, sbin_eql, sbin_neq, b8, List.map_cons, List.map_nil, PV.rens, PV.ren, if_true, if_false, Bool.false_eq_true, reduceIte, Nat.reduceAdd, Nat.reduceSub, Nat.reduceMul, Nat.reduceEqDiff, Nat.reduceLeDiff, Int.reduceLE, Int.reduceLT, Int.reduceEq, Int.reduceToNat, Int.reduceAdd, Int.reduceSub, Int.reduceNeg, decide_true, decide_false, Bool.not_true, Bool.not_false, Bool.true_and, Bool.false_and, Bool.and_true, Bool.and_false, Bool.or_true, Bool.true_or, Bool.or_false, Bool.false_or, and_self, and_true, true_and, Nat.le_refl, Nat.zero_add, Nat.mul_one, Nat.one_ne_zero, Nat.zero_le, highP, lowP, Option.map_some, Option.map_none, List.drop_zero, List.take_zero, List.length_cons, List.length_nil, List.nil_append, List.append_nil, List.cons_append, fillP, PV.cells?, PV.one, PV.cleans, PV.clean, PV.of?, List.all_cons, List.all_nil, List.take_succ_cons, List.drop_succ_cons, Bool.and_self, Int.natCast_nonneg, Int.toNat_natCast, Int.toNat_zero, PV.of?, Tk.ren, tailP, evL_loop, or_true, true_or, Nat.zero_lt_one, Nat.sub_zero, List.getElem?_cons_zero, List.getElem?_cons_succ, List.set_cons_zero, List.set_cons_succ, List.take_length, h1, h2] <;> rfl
  have c9 := T9 rest (by omega)
  cases hb : body rest with
  | false =>
    rw [hb] at c9
    apply fin
    simp only [q4, evL_op, evL_sel, evL_nx, evL_exit, evL_ret, evL_join, evL_block, evL_cond, evK_some, evJ_nx, evJ_rt, evJ_ex, evB_nx, evB_rt, evB_ex, evC2_bool, evS_and, evS_or, evS_tf, evS_ft, ev_t, ev_s, ev_c, evalOp, bin_add, bin_sub, bin_mul, bin_eql, bin_neq, bin_lss, bin_leq, bin_gtr, bin_geq, sbin_eql, sbin_neq, b8, List.map_cons, List.map_nil, PV.rens, PV.ren, if_true, if_false, Bool.false_eq_true, reduceIte, Nat.reduceAdd, Nat.reduceSub, Nat.reduceMul, Nat.reduceEqDiff, Nat.reduceLeDiff, Int.reduceLE, Int.reduceLT, Int.reduceEq, Int.reduceToNat, Int.reduceAdd, Int.reduceSub, Int.reduceNeg, decide_true, decide_false, Bool.not_true, Bool.not_false, Bool.true_and, Bool.false_and, Bool.and_true, Bool.and_false, Bool.or_true, Bool.true_or, Bool.or_false, Bool.false_or, and_self, and_true, true_and, Nat.le_refl, Nat.zero_add, Nat.mul_one, Nat.one_ne_zero, Nat.zero_le, highP, lowP, Option.map_some, Option.map_none, List.drop_zero, List.take_zero, List.length_cons, List.length_nil, List.nil_append, List.append_nil, List.cons_append, fillP, PV.cells?, PV.one, PV.cleans, PV.clean, PV.of?, List.all_cons, List.all_nil, List.take_succ_cons, List.drop_succ_cons, Bool.and_self, Int.natCast_nonneg, Int.toNat_natCast, Int.toNat_zero, PV.of?, Tk.ren, tailP, evL_loop, or_true, true_or, Nat.zero_lt_one, Nat.sub_zero, List.getElem?_cons_zero, List.getElem?_cons_succ, List.set_cons_zero, List.set_cons_succ, List.take_length, PV.rens, PV.ren, h1, h2, c9] <;> rfl
  | true =>
    rw [hb] at c9
    obtain ⟨r, lp, hr⟩ := loop_folds more rest (by omega) 11
    have hm0 : (foB []).map b8 = [.int .u8 83, .int .u8 117, .int .u8 98, .int .u8 106, .int .u8 101, .int .u8 99, .int .u8 116, .int .u8 58, .int .u8 32, .int .u8 97, .int .u8 13, .int .u8 10] := rfl
    rw [hm0] at lp
    have g12 : 0 < 12 := by decide
    rcases hr with ⟨H, rfl⟩ | ⟨hD, hf, rfl⟩
    · apply fin
      simp only [q4, evL_op, evL_sel, evL_nx, evL_exit, evL_ret, evL_join, evL_block, evL_cond, evK_some, evJ_nx, evJ_rt, evJ_ex, evB_nx, evB_rt, evB_ex, evC2_bool, evS_and, evS_or, evS_tf, evS_ft, ev_t, ev_s, ev_c, evalOp, bin_add, bin_sub, bin_mul, bin_eql, bin_neq, bin_lss, bin_leq, bin_gtr, bin_geq, sbin_eql, sbin_neq, b8, List.map_cons, List.map_nil, PV.rens, PV.ren, if_true, if_false, Bool.false_eq_true, reduceIte, Nat.reduceAdd, Nat.reduceSub, Nat.reduceMul, Nat.reduceEqDiff, Nat.reduceLeDiff, Int.reduceLE, Int.reduceLT, Int.reduceEq, Int.reduceToNat, Int.reduceAdd, Int.reduceSub, Int.reduceNeg, decide_true, decide_false, Bool.not_true, Bool.not_false, Bool.true_and, Bool.false_and, Bool.and_true, Bool.and_false, Bool.or_true, Bool.true_or, Bool.or_false, Bool.false_or, and_self, and_true, true_and, Nat.le_refl, Nat.zero_add, Nat.mul_one, Nat.one_ne_zero, Nat.zero_le, highP, lowP, Option.map_some, Option.map_none, List.drop_zero, List.take_zero, List.length_cons, List.length_nil, List.nil_append, List.append_nil, List.cons_append, fillP, PV.cells?, PV.one, PV.cleans, PV.clean, PV.of?, List.all_cons, List.all_nil, List.take_succ_cons, List.drop_succ_cons, Bool.and_self, Int.natCast_nonneg, Int.toNat_natCast, Int.toNat_zero, PV.of?, Tk.ren, tailP, evL_loop, or_true, true_or, Nat.zero_lt_one, Nat.sub_zero, List.getElem?_cons_zero, List.getElem?_cons_succ, List.set_cons_zero, List.set_cons_succ, List.take_length, PV.rens, PV.ren, h1, h2, c9, g12]
      rw [lp]
      simp only [evL_op, evL_sel, evL_nx, evL_exit, evL_ret, evL_join, evL_block, evL_cond, evK_some, evJ_nx, evJ_rt, evJ_ex, evB_nx, evB_rt, evB_ex, evC2_bool, evS_and, evS_or, evS_tf, evS_ft, ev_t, ev_s, ev_c, evalOp, bin_add, bin_sub, bin_mul, bin_eql, bin_neq, bin_lss, bin_leq, bin_gtr, bin_geq, sbin_eql, sbin_neq, b8, List.map_cons, List.map_nil, PV.rens, PV.ren, if_true, if_false, Bool.false_eq_true, reduceIte, Nat.reduceAdd, Nat.reduceSub, Nat.reduceMul, Nat.reduceEqDiff, Nat.reduceLeDiff, Int.reduceLE, Int.reduceLT, Int.reduceEq, Int.reduceToNat, Int.reduceAdd, Int.reduceSub, Int.reduceNeg, decide_true, decide_false, Bool.not_true, Bool.not_false, Bool.true_and, Bool.false_and, Bool.and_true, Bool.and_false, Bool.or_true, Bool.true_or, Bool.or_false, Bool.false_or, and_self, and_true, true_and, Nat.le_refl, Nat.zero_add, Nat.mul_one, Nat.one_ne_zero, Nat.zero_le, highP, lowP, Option.map_some, Option.map_none, List.drop_zero, List.take_zero, List.length_cons, List.length_nil, List.nil_append, List.append_nil, List.cons_append, fillP, PV.cells?, PV.one, PV.cleans, PV.clean, PV.of?, List.all_cons, List.all_nil, List.take_succ_cons, List.drop_succ_cons, Bool.and_self, Int.natCast_nonneg, Int.toNat_natCast, Int.toNat_zero, PV.of?, Tk.ren, tailP, evL_loop, or_true, true_or, Nat.zero_lt_one, Nat.sub_zero, List.getElem?_cons_zero, List.getElem?_cons_succ, List.set_cons_zero, List.set_cons_succ, List.take_length]
      try rfl
    · obtain ⟨t1, t2⟩ := folds_text hD hb
      have k12 := T12_yes (foB more ++ noFB ++ rest) (by simp [noFB]; omega) t1
      rw [t2] at k12
      have e : sl8 (foB more ++ noFB ++ rest) = .sl .no 1 ((foB more).length + 10 + rest.length) ((foB more).map b8 ++ noFB.map b8 ++ rest.map b8) := by
        unfold sl8
        rw [List.length_append, List.length_append, List.map_append, List.map_append]
        rfl
      rw [e] at k12
      have c13 := T_fields [(subjK, foT more)] [(subjK, foT more)] (by rw [List.length_singleton]; decide)
      have c12' : T 12 [.sl .no 1 ((foB more).length + 10 + rest.length) ((foB more).map b8 ++ noFB.map b8 ++ rest.map b8)] [] = some (.tup [.sl .no 2 1 [.str subjK, .str (foT more)], .int .i64 (foB more).length, .int .i64 0], []) := k12
      have c13' : T 13 [.sl .no 2 1 [.str subjK, .str (foT more)], .sl .no 2 1 [.str subjK, .str (foT more)]] [] = some (.bool true, []) := by
        refine c13.trans ?_
        rw [decide_eq_true rfl]
      have r1 : (foB more).length + 10 ≤ roomMax := by unfold roomMax; omega
      have r2 : (foB more).length + 10 + rest.length ≤ roomMax := by unfold roomMax; omega
      have n10 : noFB.length = 10 := rfl
      apply fin
      simp only [q4, evL_op, evL_sel, evL_nx, evL_exit, evL_ret, evL_join, evL_block, evL_cond, evK_some, evJ_nx, evJ_rt, evJ_ex, evB_nx, evB_rt, evB_ex, evC2_bool, evS_and, evS_or, evS_tf, evS_ft, ev_t, ev_s, ev_c, evalOp, bin_add, bin_sub, bin_mul, bin_eql, bin_neq, bin_lss, bin_leq, bin_gtr, bin_geq, sbin_eql, sbin_neq, b8, List.map_cons, List.map_nil, PV.rens, PV.ren, if_true, if_false, Bool.false_eq_true, reduceIte, Nat.reduceAdd, Nat.reduceSub, Nat.reduceMul, Nat.reduceEqDiff, Nat.reduceLeDiff, Int.reduceLE, Int.reduceLT, Int.reduceEq, Int.reduceToNat, Int.reduceAdd, Int.reduceSub, Int.reduceNeg, decide_true, decide_false, Bool.not_true, Bool.not_false, Bool.true_and, Bool.false_and, Bool.and_true, Bool.and_false, Bool.or_true, Bool.true_or, Bool.or_false, Bool.false_or, and_self, and_true, true_and, Nat.le_refl, Nat.zero_add, Nat.mul_one, Nat.one_ne_zero, Nat.zero_le, highP, lowP, Option.map_some, Option.map_none, List.drop_zero, List.take_zero, List.length_cons, List.length_nil, List.nil_append, List.append_nil, List.cons_append, fillP, PV.cells?, PV.one, PV.cleans, PV.clean, PV.of?, List.all_cons, List.all_nil, List.take_succ_cons, List.drop_succ_cons, Bool.and_self, Int.natCast_nonneg, Int.toNat_natCast, Int.toNat_zero, PV.of?, Tk.ren, tailP, evL_loop, or_true, true_or, Nat.zero_lt_one, Nat.sub_zero, List.getElem?_cons_zero, List.getElem?_cons_succ, List.set_cons_zero, List.set_cons_succ, List.take_length, PV.rens, PV.ren, h1, h2, c9, g12]
      rw [lp]
      simp only [q4_2, ← noFB_def, ← subjK_def, evL_op, evL_sel, evL_nx, evL_exit, evL_ret, evL_join, evL_block, evL_cond, evK_some, evJ_nx, evJ_rt, evJ_ex, evB_nx, evB_rt, evB_ex, evC2_bool, evS_and, evS_or, evS_tf, evS_ft, ev_t, ev_s, ev_c, evalOp, bin_add, bin_sub, bin_mul, bin_eql, bin_neq, bin_lss, bin_leq, bin_gtr, bin_geq, sbin_eql, sbin_neq, b8, List.map_cons, List.map_nil, PV.rens, PV.ren, if_true, if_false, Bool.false_eq_true, reduceIte, Nat.reduceAdd, Nat.reduceSub, Nat.reduceMul, Nat.reduceEqDiff, Nat.reduceLeDiff, Int.reduceLE, Int.reduceLT, Int.reduceEq, Int.reduceToNat, Int.reduceAdd, Int.reduceSub, Int.reduceNeg, decide_true, decide_false, Bool.not_true, Bool.not_false, Bool.true_and, Bool.false_and, Bool.and_true, Bool.and_false, Bool.or_true, Bool.true_or, Bool.or_false, Bool.false_or, and_self, and_true, true_and, Nat.le_refl, Nat.zero_add, Nat.mul_one, Nat.one_ne_zero, Nat.zero_le, highP, lowP, Option.map_some, Option.map_none, List.drop_zero, List.take_zero, List.length_cons, List.length_nil, List.nil_append, List.append_nil, List.cons_append, fillP, PV.cells?, PV.one, PV.cleans, PV.clean, PV.of?, List.all_cons, List.all_nil, List.take_succ_cons, List.drop_succ_cons, Bool.and_self, Int.natCast_nonneg, Int.toNat_natCast, Int.toNat_zero, PV.of?, Tk.ren, tailP, evL_loop, or_true, true_or, Nat.zero_lt_one, Nat.sub_zero, List.getElem?_cons_zero, List.getElem?_cons_succ, List.set_cons_zero, List.set_cons_succ, List.take_length, PV.rens, PV.ren, n10, r1, r2, c12', c13', Nat.one_mul, shift, Nat.add_zero, T_wakes, beq_self_eq_true, eq_self, o0, o1, w00] <;> rfl
end Go.Proofs.YtmdnloajpjfbmaaDoor.Tab
