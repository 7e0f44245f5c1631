/- Chapter 11: Parse, Text, and what is told of two Paths. -/
import Derived.Test.YtgilfigaimndkaaDoorPath
import Derived.KernelRfl
namespace Go.Proofs.YtgilfigaimndkaaDoor.Tab
set_option linter.all false
open Go Go.RowKit Go.Proofs.YtgilfigaimndkaaDoor.Ev
abbrev D (s : List UInt8) : Bool := parts s 255 label
theorem split_ne (s : List UInt8) : splitBy 46 s ≠ [] := by
  cases s with
  | nil => simp [splitBy]
  | cons b l =>
    unfold splitBy
    split
    · simp
    · split <;> simp
theorem split_dot (b : List UInt8) : ∀ a : List UInt8, splitBy 46 (a ++ 46 :: b) = splitBy 46 a ++ splitBy 46 b
  | [] => by show splitBy 46 (46 :: b) = _; conv => lhs; unfold splitBy
             rw [if_pos rfl]; rfl
  | x :: a => by
    have ih := split_dot b a
    show splitBy 46 (x :: (a ++ 46 :: b)) = _
    conv => lhs; unfold splitBy
    conv => rhs; arg 1; unfold splitBy
    rw [ih]
    split
    · rfl
    · cases h : splitBy 46 a with
      | nil => exact absurd h (split_ne a)
      | cons y r => rfl
theorem split_cons (c : UInt8) (hc : c ≠ 46) (a : List UInt8) : ∃ y r, splitBy 46 a = y :: r ∧ splitBy 46 (c :: a) = (c :: y) :: r := by
  cases h : splitBy 46 a with
  | nil => exact absurd h (split_ne a)
  | cons y r => exact ⟨y, r, rfl, by unfold splitBy; rw [if_neg hc, h]⟩
theorem split_snoc (c : UInt8) (hc : c ≠ 46) : ∀ a : List UInt8, ∃ y, (y ++ [c]) ∈ splitBy 46 (a ++ [c])
  | [] => ⟨[], by show [c] ∈ splitBy 46 [c]; rw [splitBy_none (by simp; exact fun h => hc h.symm)]; simp⟩
  | x :: a => by
    obtain ⟨y, hy⟩ := split_snoc c hc a
    show ∃ y, y ++ [c] ∈ splitBy 46 (x :: (a ++ [c]))
    unfold splitBy
    split
    · exact ⟨y, List.mem_cons_of_mem _ hy⟩
    · cases h : splitBy 46 (a ++ [c]) with
      | nil => exact absurd h (split_ne _)
      | cons z r =>
        rw [h] at hy
        rcases List.mem_cons.1 hy with rfl | hy
        · exact ⟨x :: y, by simp⟩
        · exact ⟨y, List.mem_cons_of_mem _ hy⟩
theorem split_chars (P : UInt8 → Bool) : ∀ s : List UInt8, (splitBy 46 s).all (fun l => l.all P) = true → ∀ x ∈ s, P x = true ∨ x = 46
  | [], _, x, hx => by cases hx
  | b :: l, h, x, hx => by
    unfold splitBy at h
    by_cases hb : b = 46
    · rw [if_pos hb] at h
      rcases List.mem_cons.1 hx with rfl | hx
      · exact .inr hb
      · exact split_chars P l (by simpa using h) x hx
    · rw [if_neg hb] at h
      cases hs : splitBy 46 l with
      | nil => exact absurd hs (split_ne l)
      | cons y r =>
        rw [hs] at h
        simp only [List.all_cons, Bool.and_eq_true] at h
        rcases List.mem_cons.1 hx with rfl | hx
        · exact .inl h.1.1
        · exact split_chars P l (by rw [hs]; simp only [List.all_cons, Bool.and_eq_true]; exact ⟨h.1.2, h.2⟩) x hx
theorem label_chars {s : List UInt8} (h : label s = true) : s.all labelC = true := by
  unfold label at h
  simp only [Bool.and_eq_true] at h
  exact h.1.1.1.1
theorem wrap_len (n : Nat) (h : n ≤ 9000000000000000000) : IntKind.i64.wrap ((n : Int) - 1) = (n : Int) - 1 := IntWalk.i64_in _ (by omega)
/-- A text without its first sign. -/
def cutP (s : List UInt8) (c : UInt8) : List UInt8 × Bool := if s.head? = some c then (s.tail, true) else (s, false)
def cutS (s : List UInt8) (c : UInt8) : List UInt8 × Bool := if s.getLast? = some c then (s.dropLast, true) else (s, false)
def cutA (s : List UInt8) (c : UInt8) : List UInt8 × List UInt8 × Bool := if c ∈ s then (s.takeWhile (· != c), (s.dropWhile (· != c)).tail, true) else (s, [], false)
theorem T46 (s : List UInt8) (c : UInt8) (hs : s.length ≤ 9000000000000000000) : T 46 [.str s, .str [c]] [] = some (.bool (decide (s.head? = some c)), []) := by
  refine evT_of (k := 0) (F := l46) (H' := []) (e := [.bool (decide (s.head? = some c))]) (l := [.bool (decide (s.head? = some c))]) rfl rfl rfl ?_ rfl rfl
  show evL T 0 q46 _ _ = _
  cases s with
  | nil =>
    have h1 : ¬ (((1 : Nat) : Int) ≤ ((0 : Nat) : Int)) := by decide
    simp only [q46, evL_op, evL_sel, evL_nx, evL_exit, evL_ret, evL_join, evL_block, evL_cond, evK_some, evJ_nx, evJ_rt, evJ_ex, evB_nx, evB_rt, evB_ex, evC2_bool, evS_and, evS_or, evS_tf, evS_ft, ev_t, ev_s, ev_c, evalOp, bin_add, bin_sub, bin_mul, bin_eql, bin_neq, bin_lss, bin_leq, bin_gtr, bin_geq, sbin_eql, sbin_neq, b8, List.map_cons, List.map_nil, PV.rens, PV.ren, if_true, if_false, Bool.false_eq_true, reduceIte, Nat.reduceAdd, Nat.reduceSub, Nat.reduceMul, Nat.reduceEqDiff, Nat.reduceLeDiff, Int.reduceLE, Int.reduceLT, Int.reduceEq, Int.reduceToNat, Int.reduceAdd, Int.reduceSub, Int.reduceNeg, decide_true, decide_false, Bool.not_true, Bool.not_false, Bool.true_and, Bool.false_and, Bool.and_true, Bool.and_false, Bool.or_true, Bool.true_or, Bool.or_false, Bool.false_or, and_self, and_true, true_and, Nat.le_refl, Nat.zero_add, Nat.mul_one, Nat.one_ne_zero, Nat.zero_le, highP, lowP, Option.map_some, Option.map_none, List.drop_zero, List.take_zero, List.length_cons, List.length_nil, List.nil_append, List.append_nil, List.cons_append, fillP, PV.cells?, PV.one, PV.cleans, PV.clean, PV.of?, List.all_cons, List.all_nil, List.take_succ_cons, List.drop_succ_cons, Bool.and_self, Int.natCast_nonneg, Int.toNat_natCast, Int.toNat_zero, h1, List.head?_nil, reduceCtorEq]
  | cons a r =>
    have h1 : ((1 : Nat) : Int) ≤ ((r.length + 1 : Nat) : Int) := by omega
    have h2 : (0 : Int) ≤ ((1 : Nat) : Int) := by decide
    have h3 : ((1 : Nat) : Int).toNat = 1 := rfl
    simp only [q46, evL_op, evL_sel, evL_nx, evL_exit, evL_ret, evL_join, evL_block, evL_cond, evK_some, evJ_nx, evJ_rt, evJ_ex, evB_nx, evB_rt, evB_ex, evC2_bool, evS_and, evS_or, evS_tf, evS_ft, ev_t, ev_s, ev_c, evalOp, bin_add, bin_sub, bin_mul, bin_eql, bin_neq, bin_lss, bin_leq, bin_gtr, bin_geq, sbin_eql, sbin_neq, b8, List.map_cons, List.map_nil, PV.rens, PV.ren, if_true, if_false, Bool.false_eq_true, reduceIte, Nat.reduceAdd, Nat.reduceSub, Nat.reduceMul, Nat.reduceEqDiff, Nat.reduceLeDiff, Int.reduceLE, Int.reduceLT, Int.reduceEq, Int.reduceToNat, Int.reduceAdd, Int.reduceSub, Int.reduceNeg, decide_true, decide_false, Bool.not_true, Bool.not_false, Bool.true_and, Bool.false_and, Bool.and_true, Bool.and_false, Bool.or_true, Bool.true_or, Bool.or_false, Bool.false_or, and_self, and_true, true_and, Nat.le_refl, Nat.zero_add, Nat.mul_one, Nat.one_ne_zero, Nat.zero_le, highP, lowP, Option.map_some, Option.map_none, List.drop_zero, List.take_zero, List.length_cons, List.length_nil, List.nil_append, List.append_nil, List.cons_append, fillP, PV.cells?, PV.one, PV.cleans, PV.clean, PV.of?, List.all_cons, List.all_nil, List.take_succ_cons, List.drop_succ_cons, Bool.and_self, Int.natCast_nonneg, Int.toNat_natCast, Int.toNat_zero, h1, h2, h3, List.head?_cons, Option.some.injEq, List.take_succ_cons, List.cons.injEq]
theorem T37 (s : List UInt8) (c : UInt8) (hs : s.length ≤ 9000000000000000000) : T 37 [.str s, .str [c]] [] = some (.tup [.str (cutP s c).1, .bool (cutP s c).2], []) := by
  refine evT_of (k := 0) (F := l37) (H' := []) (e := [.str (cutP s c).1, .bool (cutP s c).2]) (l := [.str (cutP s c).1, .bool (cutP s c).2]) rfl rfl rfl ?_ rfl rfl
  show evL T 0 q37 _ _ = _
  have h46 := T46 s c hs
  unfold cutP
  by_cases h : s.head? = some c
  · obtain ⟨r, rfl⟩ : ∃ r, s = c :: r := by cases s with | nil => simp at h | cons a r => simp at h; exact ⟨r, by rw [h]⟩
    have h2 : (0 : Int) ≤ ((1 : Nat) : Int) := by decide
    have h3 : ((1 : Nat) : Int).toNat = 1 := rfl
    have h4 : (c :: r).length ≥ 1 := by simp
    simp only [List.head?_cons, decide_true] at h46
    simp only [q37, evL_op, evL_sel, evL_nx, evL_exit, evL_ret, evL_join, evL_block, evL_cond, evK_some, evJ_nx, evJ_rt, evJ_ex, evB_nx, evB_rt, evB_ex, evC2_bool, evS_and, evS_or, evS_tf, evS_ft, ev_t, ev_s, ev_c, evalOp, bin_add, bin_sub, bin_mul, bin_eql, bin_neq, bin_lss, bin_leq, bin_gtr, bin_geq, sbin_eql, sbin_neq, b8, List.map_cons, List.map_nil, PV.rens, PV.ren, if_true, if_false, Bool.false_eq_true, reduceIte, Nat.reduceAdd, Nat.reduceSub, Nat.reduceMul, Nat.reduceEqDiff, Nat.reduceLeDiff, Int.reduceLE, Int.reduceLT, Int.reduceEq, Int.reduceToNat, Int.reduceAdd, Int.reduceSub, Int.reduceNeg, decide_true, decide_false, Bool.not_true, Bool.not_false, Bool.true_and, Bool.false_and, Bool.and_true, Bool.and_false, Bool.or_true, Bool.true_or, Bool.or_false, Bool.false_or, and_self, and_true, true_and, Nat.le_refl, Nat.zero_add, Nat.mul_one, Nat.one_ne_zero, Nat.zero_le, highP, lowP, Option.map_some, Option.map_none, List.drop_zero, List.take_zero, List.length_cons, List.length_nil, List.nil_append, List.append_nil, List.cons_append, fillP, PV.cells?, PV.one, PV.cleans, PV.clean, PV.of?, List.all_cons, List.all_nil, List.take_succ_cons, List.drop_succ_cons, Bool.and_self, Int.natCast_nonneg, Int.toNat_natCast, Int.toNat_zero, h46, h, h2, h3, List.tail_cons, List.take_length, List.length_cons, Nat.le_add_left, List.take_succ_cons]
  · simp only [h, decide_false] at h46
    simp only [q37, evL_op, evL_sel, evL_nx, evL_exit, evL_ret, evL_join, evL_block, evL_cond, evK_some, evJ_nx, evJ_rt, evJ_ex, evB_nx, evB_rt, evB_ex, evC2_bool, evS_and, evS_or, evS_tf, evS_ft, ev_t, ev_s, ev_c, evalOp, bin_add, bin_sub, bin_mul, bin_eql, bin_neq, bin_lss, bin_leq, bin_gtr, bin_geq, sbin_eql, sbin_neq, b8, List.map_cons, List.map_nil, PV.rens, PV.ren, if_true, if_false, Bool.false_eq_true, reduceIte, Nat.reduceAdd, Nat.reduceSub, Nat.reduceMul, Nat.reduceEqDiff, Nat.reduceLeDiff, Int.reduceLE, Int.reduceLT, Int.reduceEq, Int.reduceToNat, Int.reduceAdd, Int.reduceSub, Int.reduceNeg, decide_true, decide_false, Bool.not_true, Bool.not_false, Bool.true_and, Bool.false_and, Bool.and_true, Bool.and_false, Bool.or_true, Bool.true_or, Bool.or_false, Bool.false_or, and_self, and_true, true_and, Nat.le_refl, Nat.zero_add, Nat.mul_one, Nat.one_ne_zero, Nat.zero_le, highP, lowP, Option.map_some, Option.map_none, List.drop_zero, List.take_zero, List.length_cons, List.length_nil, List.nil_append, List.append_nil, List.cons_append, fillP, PV.cells?, PV.one, PV.cleans, PV.clean, PV.of?, List.all_cons, List.all_nil, List.take_succ_cons, List.drop_succ_cons, Bool.and_self, Int.natCast_nonneg, Int.toNat_natCast, Int.toNat_zero, h46, h]
theorem T47 (s : List UInt8) (c : UInt8) (hs : s.length ≤ 9000000000000000000) : T 47 [.str s, .str [c]] [] = some (.bool (decide (s.getLast? = some c)), []) := by
  refine evT_of (k := 0) (F := l47) (H' := []) (e := [.bool (decide (s.getLast? = some c))]) (l := [.bool (decide (s.getLast? = some c))]) rfl rfl rfl ?_ rfl rfl
  show evL T 0 q47 _ _ = _
  rcases List.eq_nil_or_concat s with rfl | ⟨r, a, rfl⟩
  · have h1 : ¬ (((1 : Nat) : Int) ≤ ((0 : Nat) : Int)) := by decide
    have hw : IntKind.i64.wrap (((0 : Nat) : Int) - ((1 : Nat) : Int)) = -1 := rfl
    simp only [q47, evL_op, evL_sel, evL_nx, evL_exit, evL_ret, evL_join, evL_block, evL_cond, evK_some, evJ_nx, evJ_rt, evJ_ex, evB_nx, evB_rt, evB_ex, evC2_bool, evS_and, evS_or, evS_tf, evS_ft, ev_t, ev_s, ev_c, evalOp, bin_add, bin_sub, bin_mul, bin_eql, bin_neq, bin_lss, bin_leq, bin_gtr, bin_geq, sbin_eql, sbin_neq, b8, List.map_cons, List.map_nil, PV.rens, PV.ren, if_true, if_false, Bool.false_eq_true, reduceIte, Nat.reduceAdd, Nat.reduceSub, Nat.reduceMul, Nat.reduceEqDiff, Nat.reduceLeDiff, Int.reduceLE, Int.reduceLT, Int.reduceEq, Int.reduceToNat, Int.reduceAdd, Int.reduceSub, Int.reduceNeg, decide_true, decide_false, Bool.not_true, Bool.not_false, Bool.true_and, Bool.false_and, Bool.and_true, Bool.and_false, Bool.or_true, Bool.true_or, Bool.or_false, Bool.false_or, and_self, and_true, true_and, Nat.le_refl, Nat.zero_add, Nat.mul_one, Nat.one_ne_zero, Nat.zero_le, highP, lowP, Option.map_some, Option.map_none, List.drop_zero, List.take_zero, List.length_cons, List.length_nil, List.nil_append, List.append_nil, List.cons_append, fillP, PV.cells?, PV.one, PV.cleans, PV.clean, PV.of?, List.all_cons, List.all_nil, List.take_succ_cons, List.drop_succ_cons, Bool.and_self, Int.natCast_nonneg, Int.toNat_natCast, Int.toNat_zero, h1, hw, List.getLast?_nil, reduceCtorEq]
  · rw [List.concat_eq_append] at *
    have hl : (r ++ [a]).length = r.length + 1 := by simp
    have h1 : ((1 : Nat) : Int) ≤ ((r.length + 1 : Nat) : Int) := by omega
    have hw : IntKind.i64.wrap (((r.length + 1 : Nat) : Int) - ((1 : Nat) : Int)) = (r.length : Int) := by rw [IntWalk.i64_in _ (by rw [hl] at hs; omega)]; omega
    have h2 : r.length ≤ r.length + 1 := by omega
    have h3 : ((r ++ [a]).take (r.length + 1)).drop r.length = [a] := by rw [List.take_of_length_le (by simp)]; simp
    simp only [q47, evL_op, evL_sel, evL_nx, evL_exit, evL_ret, evL_join, evL_block, evL_cond, evK_some, evJ_nx, evJ_rt, evJ_ex, evB_nx, evB_rt, evB_ex, evC2_bool, evS_and, evS_or, evS_tf, evS_ft, ev_t, ev_s, ev_c, evalOp, bin_add, bin_sub, bin_mul, bin_eql, bin_neq, bin_lss, bin_leq, bin_gtr, bin_geq, sbin_eql, sbin_neq, b8, List.map_cons, List.map_nil, PV.rens, PV.ren, if_true, if_false, Bool.false_eq_true, reduceIte, Nat.reduceAdd, Nat.reduceSub, Nat.reduceMul, Nat.reduceEqDiff, Nat.reduceLeDiff, Int.reduceLE, Int.reduceLT, Int.reduceEq, Int.reduceToNat, Int.reduceAdd, Int.reduceSub, Int.reduceNeg, decide_true, decide_false, Bool.not_true, Bool.not_false, Bool.true_and, Bool.false_and, Bool.and_true, Bool.and_false, Bool.or_true, Bool.true_or, Bool.or_false, Bool.false_or, and_self, and_true, true_and, Nat.le_refl, Nat.zero_add, Nat.mul_one, Nat.one_ne_zero, Nat.zero_le, highP, lowP, Option.map_some, Option.map_none, List.drop_zero, List.take_zero, List.length_cons, List.length_nil, List.nil_append, List.append_nil, List.cons_append, fillP, PV.cells?, PV.one, PV.cleans, PV.clean, PV.of?, List.all_cons, List.all_nil, List.take_succ_cons, List.drop_succ_cons, Bool.and_self, Int.natCast_nonneg, Int.toNat_natCast, Int.toNat_zero, hl, h1, hw, h2, h3, List.getLast?_concat, Option.some.injEq, List.cons.injEq]
theorem T38 (s : List UInt8) (c : UInt8) (hs : s.length ≤ 9000000000000000000) : T 38 [.str s, .str [c]] [] = some (.tup [.str (cutS s c).1, .bool (cutS s c).2], []) := by
  refine evT_of (k := 0) (F := l38) (H' := []) (e := [.str (cutS s c).1, .bool (cutS s c).2]) (l := [.str (cutS s c).1, .bool (cutS s c).2]) rfl rfl rfl ?_ rfl rfl
  show evL T 0 q38 _ _ = _
  have h47 := T47 s c hs
  unfold cutS
  by_cases h : s.getLast? = some c
  · rcases List.eq_nil_or_concat s with rfl | ⟨r, a, rfl⟩
    · simp at h
    · rw [List.concat_eq_append] at *
      have hl : (r ++ [a]).length = r.length + 1 := by simp
      have hw : IntKind.i64.wrap (((r.length + 1 : Nat) : Int) - ((1 : Nat) : Int)) = (r.length : Int) := by rw [IntWalk.i64_in _ (by rw [hl] at hs; omega)]; omega
      have h2 : (r.length : Int) ≤ ((r.length + 1 : Nat) : Int) := by omega
      have h3 : (r ++ [a]).take r.length = r := by simp
      simp only [h, decide_true] at h47
      simp only [q38, evL_op, evL_sel, evL_nx, evL_exit, evL_ret, evL_join, evL_block, evL_cond, evK_some, evJ_nx, evJ_rt, evJ_ex, evB_nx, evB_rt, evB_ex, evC2_bool, evS_and, evS_or, evS_tf, evS_ft, ev_t, ev_s, ev_c, evalOp, bin_add, bin_sub, bin_mul, bin_eql, bin_neq, bin_lss, bin_leq, bin_gtr, bin_geq, sbin_eql, sbin_neq, b8, List.map_cons, List.map_nil, PV.rens, PV.ren, if_true, if_false, Bool.false_eq_true, reduceIte, Nat.reduceAdd, Nat.reduceSub, Nat.reduceMul, Nat.reduceEqDiff, Nat.reduceLeDiff, Int.reduceLE, Int.reduceLT, Int.reduceEq, Int.reduceToNat, Int.reduceAdd, Int.reduceSub, Int.reduceNeg, decide_true, decide_false, Bool.not_true, Bool.not_false, Bool.true_and, Bool.false_and, Bool.and_true, Bool.and_false, Bool.or_true, Bool.true_or, Bool.or_false, Bool.false_or, and_self, and_true, true_and, Nat.le_refl, Nat.zero_add, Nat.mul_one, Nat.one_ne_zero, Nat.zero_le, highP, lowP, Option.map_some, Option.map_none, List.drop_zero, List.take_zero, List.length_cons, List.length_nil, List.nil_append, List.append_nil, List.cons_append, fillP, PV.cells?, PV.one, PV.cleans, PV.clean, PV.of?, List.all_cons, List.all_nil, List.take_succ_cons, List.drop_succ_cons, Bool.and_self, Int.natCast_nonneg, Int.toNat_natCast, Int.toNat_zero, h47, h, hl, hw, h2, h3, List.dropLast_concat]
  · simp only [h, decide_false] at h47
    simp only [q38, evL_op, evL_sel, evL_nx, evL_exit, evL_ret, evL_join, evL_block, evL_cond, evK_some, evJ_nx, evJ_rt, evJ_ex, evB_nx, evB_rt, evB_ex, evC2_bool, evS_and, evS_or, evS_tf, evS_ft, ev_t, ev_s, ev_c, evalOp, bin_add, bin_sub, bin_mul, bin_eql, bin_neq, bin_lss, bin_leq, bin_gtr, bin_geq, sbin_eql, sbin_neq, b8, List.map_cons, List.map_nil, PV.rens, PV.ren, if_true, if_false, Bool.false_eq_true, reduceIte, Nat.reduceAdd, Nat.reduceSub, Nat.reduceMul, Nat.reduceEqDiff, Nat.reduceLeDiff, Int.reduceLE, Int.reduceLT, Int.reduceEq, Int.reduceToNat, Int.reduceAdd, Int.reduceSub, Int.reduceNeg, decide_true, decide_false, Bool.not_true, Bool.not_false, Bool.true_and, Bool.false_and, Bool.and_true, Bool.and_false, Bool.or_true, Bool.true_or, Bool.or_false, Bool.false_or, and_self, and_true, true_and, Nat.le_refl, Nat.zero_add, Nat.mul_one, Nat.one_ne_zero, Nat.zero_le, highP, lowP, Option.map_some, Option.map_none, List.drop_zero, List.take_zero, List.length_cons, List.length_nil, List.nil_append, List.append_nil, List.cons_append, fillP, PV.cells?, PV.one, PV.cleans, PV.clean, PV.of?, List.all_cons, List.all_nil, List.take_succ_cons, List.drop_succ_cons, Bool.and_self, Int.natCast_nonneg, Int.toNat_natCast, Int.toNat_zero, h47, h]
theorem T48 (s : List UInt8) (c : UInt8) : T 48 [.str s, .str [c]] [] = some (.int .i64 (idxB s c), []) := evT_ov (φ := ovI1) rfl rfl
theorem T39 (s : List UInt8) (c : UInt8) (hs : s.length ≤ 9000000000000000000) : T 39 [.str s, .str [c]] [] = some (.tup [.str (cutA s c).1, .str (cutA s c).2.1, .bool (cutA s c).2.2], []) := by
  refine evT_of (k := 0) (F := l39) (H' := []) (e := [.str (cutA s c).1, .str (cutA s c).2.1, .bool (cutA s c).2.2]) (l := [.str (cutA s c).1, .str (cutA s c).2.1, .bool (cutA s c).2.2]) rfl rfl rfl ?_ rfl rfl
  show evL T 0 q39 _ _ = _
  have h48 := T48 s c
  rcases idxB_cases s c with ⟨h1, h2⟩ | ⟨a, b, h1, h2, h3⟩
  · have h3 : ¬ ((0 : Int) ≤ -1) := by decide
    simp only [h1] at h48
    simp only [q39, evL_op, evL_sel, evL_nx, evL_exit, evL_ret, evL_join, evL_block, evL_cond, evK_some, evJ_nx, evJ_rt, evJ_ex, evB_nx, evB_rt, evB_ex, evC2_bool, evS_and, evS_or, evS_tf, evS_ft, ev_t, ev_s, ev_c, evalOp, bin_add, bin_sub, bin_mul, bin_eql, bin_neq, bin_lss, bin_leq, bin_gtr, bin_geq, sbin_eql, sbin_neq, b8, List.map_cons, List.map_nil, PV.rens, PV.ren, if_true, if_false, Bool.false_eq_true, reduceIte, Nat.reduceAdd, Nat.reduceSub, Nat.reduceMul, Nat.reduceEqDiff, Nat.reduceLeDiff, Int.reduceLE, Int.reduceLT, Int.reduceEq, Int.reduceToNat, Int.reduceAdd, Int.reduceSub, Int.reduceNeg, decide_true, decide_false, Bool.not_true, Bool.not_false, Bool.true_and, Bool.false_and, Bool.and_true, Bool.and_false, Bool.or_true, Bool.true_or, Bool.or_false, Bool.false_or, and_self, and_true, true_and, Nat.le_refl, Nat.zero_add, Nat.mul_one, Nat.one_ne_zero, Nat.zero_le, highP, lowP, Option.map_some, Option.map_none, List.drop_zero, List.take_zero, List.length_cons, List.length_nil, List.nil_append, List.append_nil, List.cons_append, fillP, PV.cells?, PV.one, PV.cleans, PV.clean, PV.of?, List.all_cons, List.all_nil, List.take_succ_cons, List.drop_succ_cons, Bool.and_self, Int.natCast_nonneg, Int.toNat_natCast, Int.toNat_zero, h48, h3, cutA, h2]
  · simp only [h3] at h48
    have hl : s.length = a.length + (b.length + 1) := by rw [h1]; simp
    have e1 : (a.length : Int) ≤ (s.length : Int) := by omega
    have hw : IntKind.i64.wrap ((a.length : Int) + ((1 : Nat) : Int)) = ((a.length + 1 : Nat) : Int) := by rw [IntWalk.i64_in _ (by omega)]; rfl
    have e2 : a.length + 1 ≤ s.length := by omega
    have e3 : s.take a.length = a := by rw [h1]; simp
    have e4 : (s.take s.length).drop (a.length + 1) = b := by rw [List.take_length, h1]; simp
    have hm : c ∈ s := by rw [h1]; simp
    have hne : ∀ x ∈ a, (x != c) = true := fun x hx => by simp; intro e; subst e; exact h2 hx
    have e5 : s.takeWhile (· != c) = a := by rw [h1, List.takeWhile_append_of_pos hne]; simp
    have e6 : (s.dropWhile (· != c)).tail = b := by rw [h1, List.dropWhile_append_of_pos hne]; simp
    simp only [q39, evL_op, evL_sel, evL_nx, evL_exit, evL_ret, evL_join, evL_block, evL_cond, evK_some, evJ_nx, evJ_rt, evJ_ex, evB_nx, evB_rt, evB_ex, evC2_bool, evS_and, evS_or, evS_tf, evS_ft, ev_t, ev_s, ev_c, evalOp, bin_add, bin_sub, bin_mul, bin_eql, bin_neq, bin_lss, bin_leq, bin_gtr, bin_geq, sbin_eql, sbin_neq, b8, List.map_cons, List.map_nil, PV.rens, PV.ren, if_true, if_false, Bool.false_eq_true, reduceIte, Nat.reduceAdd, Nat.reduceSub, Nat.reduceMul, Nat.reduceEqDiff, Nat.reduceLeDiff, Int.reduceLE, Int.reduceLT, Int.reduceEq, Int.reduceToNat, Int.reduceAdd, Int.reduceSub, Int.reduceNeg, decide_true, decide_false, Bool.not_true, Bool.not_false, Bool.true_and, Bool.false_and, Bool.and_true, Bool.and_false, Bool.or_true, Bool.true_or, Bool.or_false, Bool.false_or, and_self, and_true, true_and, Nat.le_refl, Nat.zero_add, Nat.mul_one, Nat.one_ne_zero, Nat.zero_le, highP, lowP, Option.map_some, Option.map_none, List.drop_zero, List.take_zero, List.length_cons, List.length_nil, List.nil_append, List.append_nil, List.cons_append, fillP, PV.cells?, PV.one, PV.cleans, PV.clean, PV.of?, List.all_cons, List.all_nil, List.take_succ_cons, List.drop_succ_cons, Bool.and_self, Int.natCast_nonneg, Int.toNat_natCast, Int.toNat_zero, h48, e1, hw, e2, e3, e4, cutA, hm, e5, e6]
theorem T26 (s : List UInt8) (c : UInt8) (hs : s.length ≤ 9000000000000000000) : T 26 [.str s, .str [c]] [] = some (.tup [.str (cutP s c).1, .bool (cutP s c).2], []) := by
  refine evT_of (k := 0) (F := l26) (H' := []) (e := [.str (cutP s c).1, .bool (cutP s c).2]) (l := [.str (cutP s c).1, .bool (cutP s c).2]) rfl rfl rfl ?_ rfl rfl
  have h := T37 s c hs
  show evL T 0 q26 _ _ = _
  simp only [q26, evL_op, evL_sel, evL_nx, evL_exit, evL_ret, evL_join, evL_block, evL_cond, evK_some, evJ_nx, evJ_rt, evJ_ex, evB_nx, evB_rt, evB_ex, evC2_bool, evS_and, evS_or, evS_tf, evS_ft, ev_t, ev_s, ev_c, evalOp, bin_add, bin_sub, bin_mul, bin_eql, bin_neq, bin_lss, bin_leq, bin_gtr, bin_geq, sbin_eql, sbin_neq, b8, List.map_cons, List.map_nil, PV.rens, PV.ren, if_true, if_false, Bool.false_eq_true, reduceIte, Nat.reduceAdd, Nat.reduceSub, Nat.reduceMul, Nat.reduceEqDiff, Nat.reduceLeDiff, Int.reduceLE, Int.reduceLT, Int.reduceEq, Int.reduceToNat, Int.reduceAdd, Int.reduceSub, Int.reduceNeg, decide_true, decide_false, Bool.not_true, Bool.not_false, Bool.true_and, Bool.false_and, Bool.and_true, Bool.and_false, Bool.or_true, Bool.true_or, Bool.or_false, Bool.false_or, and_self, and_true, true_and, Nat.le_refl, Nat.zero_add, Nat.mul_one, Nat.one_ne_zero, Nat.zero_le, highP, lowP, Option.map_some, Option.map_none, List.drop_zero, List.take_zero, List.length_cons, List.length_nil, List.nil_append, List.append_nil, List.cons_append, fillP, PV.cells?, PV.one, PV.cleans, PV.clean, PV.of?, List.all_cons, List.all_nil, List.take_succ_cons, List.drop_succ_cons, Bool.and_self, Int.natCast_nonneg, Int.toNat_natCast, Int.toNat_zero, h, List.getElem?_cons_zero, List.getElem?_cons_succ]
theorem T27 (s : List UInt8) (c : UInt8) (hs : s.length ≤ 9000000000000000000) : T 27 [.str s, .str [c]] [] = some (.tup [.str (cutS s c).1, .bool (cutS s c).2], []) := by
  refine evT_of (k := 0) (F := l27) (H' := []) (e := [.str (cutS s c).1, .bool (cutS s c).2]) (l := [.str (cutS s c).1, .bool (cutS s c).2]) rfl rfl rfl ?_ rfl rfl
  have h := T38 s c hs
  show evL T 0 q27 _ _ = _
  simp only [q27, evL_op, evL_sel, evL_nx, evL_exit, evL_ret, evL_join, evL_block, evL_cond, evK_some, evJ_nx, evJ_rt, evJ_ex, evB_nx, evB_rt, evB_ex, evC2_bool, evS_and, evS_or, evS_tf, evS_ft, ev_t, ev_s, ev_c, evalOp, bin_add, bin_sub, bin_mul, bin_eql, bin_neq, bin_lss, bin_leq, bin_gtr, bin_geq, sbin_eql, sbin_neq, b8, List.map_cons, List.map_nil, PV.rens, PV.ren, if_true, if_false, Bool.false_eq_true, reduceIte, Nat.reduceAdd, Nat.reduceSub, Nat.reduceMul, Nat.reduceEqDiff, Nat.reduceLeDiff, Int.reduceLE, Int.reduceLT, Int.reduceEq, Int.reduceToNat, Int.reduceAdd, Int.reduceSub, Int.reduceNeg, decide_true, decide_false, Bool.not_true, Bool.not_false, Bool.true_and, Bool.false_and, Bool.and_true, Bool.and_false, Bool.or_true, Bool.true_or, Bool.or_false, Bool.false_or, and_self, and_true, true_and, Nat.le_refl, Nat.zero_add, Nat.mul_one, Nat.one_ne_zero, Nat.zero_le, highP, lowP, Option.map_some, Option.map_none, List.drop_zero, List.take_zero, List.length_cons, List.length_nil, List.nil_append, List.append_nil, List.cons_append, fillP, PV.cells?, PV.one, PV.cleans, PV.clean, PV.of?, List.all_cons, List.all_nil, List.take_succ_cons, List.drop_succ_cons, Bool.and_self, Int.natCast_nonneg, Int.toNat_natCast, Int.toNat_zero, h, List.getElem?_cons_zero, List.getElem?_cons_succ]
theorem T28 (s : List UInt8) (c : UInt8) (hs : s.length ≤ 9000000000000000000) : T 28 [.str s, .str [c]] [] = some (.tup [.str (cutA s c).1, .str (cutA s c).2.1, .bool (cutA s c).2.2], []) := by
  refine evT_of (k := 0) (F := l28) (H' := []) (e := [.str (cutA s c).1, .str (cutA s c).2.1, .bool (cutA s c).2.2]) (l := [.str (cutA s c).1, .str (cutA s c).2.1, .bool (cutA s c).2.2]) rfl rfl rfl ?_ rfl rfl
  have h := T39 s c hs
  show evL T 0 q28 _ _ = _
  simp only [q28, evL_op, evL_sel, evL_nx, evL_exit, evL_ret, evL_join, evL_block, evL_cond, evK_some, evJ_nx, evJ_rt, evJ_ex, evB_nx, evB_rt, evB_ex, evC2_bool, evS_and, evS_or, evS_tf, evS_ft, ev_t, ev_s, ev_c, evalOp, bin_add, bin_sub, bin_mul, bin_eql, bin_neq, bin_lss, bin_leq, bin_gtr, bin_geq, sbin_eql, sbin_neq, b8, List.map_cons, List.map_nil, PV.rens, PV.ren, if_true, if_false, Bool.false_eq_true, reduceIte, Nat.reduceAdd, Nat.reduceSub, Nat.reduceMul, Nat.reduceEqDiff, Nat.reduceLeDiff, Int.reduceLE, Int.reduceLT, Int.reduceEq, Int.reduceToNat, Int.reduceAdd, Int.reduceSub, Int.reduceNeg, decide_true, decide_false, Bool.not_true, Bool.not_false, Bool.true_and, Bool.false_and, Bool.and_true, Bool.and_false, Bool.or_true, Bool.true_or, Bool.or_false, Bool.false_or, and_self, and_true, true_and, Nat.le_refl, Nat.zero_add, Nat.mul_one, Nat.one_ne_zero, Nat.zero_le, highP, lowP, Option.map_some, Option.map_none, List.drop_zero, List.take_zero, List.length_cons, List.length_nil, List.nil_append, List.append_nil, List.cons_append, fillP, PV.cells?, PV.one, PV.cleans, PV.clean, PV.of?, List.all_cons, List.all_nil, List.take_succ_cons, List.drop_succ_cons, Bool.and_self, Int.natCast_nonneg, Int.toNat_natCast, Int.toNat_zero, h, List.getElem?_cons_zero, List.getElem?_cons_succ]
theorem cutP_len (s : List UInt8) (c : UInt8) : (cutP s c).1.length ≤ s.length := by unfold cutP; split <;> simp
theorem cutS_len (s : List UInt8) (c : UInt8) : (cutS s c).1.length ≤ s.length := by unfold cutS; split <;> simp
theorem cutA_len (s : List UInt8) (c : UInt8) : (cutA s c).1.length + (cutA s c).2.1.length ≤ s.length := by
  unfold cutA
  split
  · rename_i h
    have e : s = s.takeWhile (· != c) ++ s.dropWhile (· != c) := (List.takeWhile_append_dropWhile).symm
    have h2 : s.length = (s.takeWhile (· != c)).length + (s.dropWhile (· != c)).length := by rw [← List.length_append, ← e]
    simp only [List.length_tail]; omega
  · simp
/-- What a text between brackets is. -/
def inner (s : List UInt8) : List UInt8 × List UInt8 := ((cutA (cutS (cutP s 60).1 62).1 64).1, (cutA (cutS (cutP s 60).1 62).1 64).2.1)
def innerOk (s : List UInt8) : Bool := (cutP s 60).2 && (cutS (cutP s 60).1 62).2 && (cutA (cutS (cutP s 60).1 62).1 64).2.2 && pathOk false (inner s).1 (inner s).2
abbrev pathV (n : Bool) (l d : List UInt8) : PV := .agg [.bool n, .str l, .str d]
def parseC (s : List UInt8) : List PV := if s = [60, 62] then [.bool true, .str [], .str []] else if innerOk s = true then [.bool false, .str (inner s).1, .str (inner s).2] else [.bool false, .str [], .str []]
def parseV (s : List UInt8) : PV := .agg (parseC s)
theorem parseC_len (s : List UInt8) : (parseC s).length = 3 := by unfold parseC; split <;> (try split) <;> rfl
def parseOk (s : List UInt8) : Bool := decide (s = [60, 62]) || innerOk s
theorem T9 (s : List UInt8) (hs : s.length < 4294967281) : T 9 [.str s] [] = some (.tup [parseV s, .int .i64 (if parseOk s = true then 0 else 5)], []) := by
  by_cases h0 : s = [60, 62]
  · subst h0
    exact evT_iff.2 ⟨50, by kernel_rfl⟩
  · have hp := cutP_len s 60
    have hq := cutS_len (cutP s 60).1 62
    have hr := cutA_len (cutS (cutP s 60).1 62).1 64
    have a1 := T26 s 60 (by omega)
    have a2 := T27 (cutP s 60).1 62 (by omega)
    have a3 := T28 (cutS (cutP s 60).1 62).1 64 (by omega)
    have a4 := T13 false (inner s).1 (inner s).2 (by show (cutA (cutS (cutP s 60).1 62).1 64).1.length + (cutA (cutS (cutP s 60).1 62).1 64).2.1.length < _; omega)
    have i1 : (cutA (cutS (cutP s 60).1 62).1 64).1 = (inner s).1 := rfl
    have i2 : (cutA (cutS (cutP s 60).1 62).1 64).2.1 = (inner s).2 := rfl
    have hB : (!(cutP s 60).2 || !(cutS (cutP s 60).1 62).2 || !(cutA (cutS (cutP s 60).1 62).1 64).2.2 || !decide ((if pathOk false (inner s).1 (inner s).2 = true then (0 : Int) else 5) = 0)) = !innerOk s := by
      unfold innerOk
      cases pathOk false (inner s).1 (inner s).2 <;> simp
    cases hok : innerOk s with
    | true =>
      rw [hok] at hB
      have e1 : parseV s = pathV false (inner s).1 (inner s).2 := by simp [parseV, parseC, h0, hok]
      have e2 : parseOk s = true := by simp [parseOk, h0, hok]
      rw [e1, e2]
      refine evT_of (k := 0) (F := l9) (H' := [.cells [.bool false, .str (inner s).1, .str (inner s).2], .cells [.bool false, .str (inner s).1, .str (inner s).2]]) (e := [.ptr 0 0, .int .i64 0]) (l := [pathV false (inner s).1 (inner s).2, .int .i64 0]) rfl rfl rfl ?_ rfl rfl
      show evL T 0 q9 _ _ = _
      simp only [q9, evL_op, evL_sel, evL_nx, evL_exit, evL_ret, evL_join, evL_block, evL_cond, evK_some, evJ_nx, evJ_rt, evJ_ex, evB_nx, evB_rt, evB_ex, evC2_bool, evS_and, evS_or, evS_tf, evS_ft, ev_t, ev_s, ev_c, evalOp, bin_add, bin_sub, bin_mul, bin_eql, bin_neq, bin_lss, bin_leq, bin_gtr, bin_geq, sbin_eql, sbin_neq, b8, List.map_cons, List.map_nil, PV.rens, PV.ren, if_true, if_false, Bool.false_eq_true, reduceIte, Nat.reduceAdd, Nat.reduceSub, Nat.reduceMul, Nat.reduceEqDiff, Nat.reduceLeDiff, Int.reduceLE, Int.reduceLT, Int.reduceEq, Int.reduceToNat, Int.reduceAdd, Int.reduceSub, Int.reduceNeg, decide_true, decide_false, Bool.not_true, Bool.not_false, Bool.true_and, Bool.false_and, Bool.and_true, Bool.and_false, Bool.or_true, Bool.true_or, Bool.or_false, Bool.false_or, and_self, and_true, true_and, Nat.le_refl, Nat.zero_add, Nat.mul_one, Nat.one_ne_zero, Nat.zero_le, highP, lowP, Option.map_some, Option.map_none, List.drop_zero, List.take_zero, List.length_cons, List.length_nil, List.nil_append, List.append_nil, List.cons_append, fillP, PV.cells?, PV.one, PV.cleans, PV.clean, PV.of?, List.all_cons, List.all_nil, List.take_succ_cons, List.drop_succ_cons, Bool.and_self, Int.natCast_nonneg, Int.toNat_natCast, Int.toNat_zero, h0, a1, a2, a3, a4, i1, i2, hB, List.getElem?_cons_zero, List.getElem?_cons_succ, List.set_cons_zero, List.set_cons_succ]
    | false =>
      rw [hok] at hB
      have e1 : parseV s = pathV false [] [] := by simp [parseV, parseC, h0, hok]
      have e2 : parseOk s = false := by simp [parseOk, h0, hok]
      rw [e1, e2]
      refine evT_of (k := 0) (F := l9) (H' := [.cells [.bool false, .str [], .str []], .cells [.bool false, .str (inner s).1, .str (inner s).2]]) (e := [.ptr 0 0, .int .i64 5]) (l := [pathV false [] [], .int .i64 5]) rfl rfl rfl ?_ rfl rfl
      show evL T 0 q9 _ _ = _
      simp only [q9, evL_op, evL_sel, evL_nx, evL_exit, evL_ret, evL_join, evL_block, evL_cond, evK_some, evJ_nx, evJ_rt, evJ_ex, evB_nx, evB_rt, evB_ex, evC2_bool, evS_and, evS_or, evS_tf, evS_ft, ev_t, ev_s, ev_c, evalOp, bin_add, bin_sub, bin_mul, bin_eql, bin_neq, bin_lss, bin_leq, bin_gtr, bin_geq, sbin_eql, sbin_neq, b8, List.map_cons, List.map_nil, PV.rens, PV.ren, if_true, if_false, Bool.false_eq_true, reduceIte, Nat.reduceAdd, Nat.reduceSub, Nat.reduceMul, Nat.reduceEqDiff, Nat.reduceLeDiff, Int.reduceLE, Int.reduceLT, Int.reduceEq, Int.reduceToNat, Int.reduceAdd, Int.reduceSub, Int.reduceNeg, decide_true, decide_false, Bool.not_true, Bool.not_false, Bool.true_and, Bool.false_and, Bool.and_true, Bool.and_false, Bool.or_true, Bool.true_or, Bool.or_false, Bool.false_or, and_self, and_true, true_and, Nat.le_refl, Nat.zero_add, Nat.mul_one, Nat.one_ne_zero, Nat.zero_le, highP, lowP, Option.map_some, Option.map_none, List.drop_zero, List.take_zero, List.length_cons, List.length_nil, List.nil_append, List.append_nil, List.cons_append, fillP, PV.cells?, PV.one, PV.cleans, PV.clean, PV.of?, List.all_cons, List.all_nil, List.take_succ_cons, List.drop_succ_cons, Bool.and_self, Int.natCast_nonneg, Int.toNat_natCast, Int.toNat_zero, h0, a1, a2, a3, a4, i1, i2, hB, List.getElem?_cons_zero, List.getElem?_cons_succ, List.set_cons_zero, List.set_cons_succ]
def textOf (n : Bool) (l d : List UInt8) : List UInt8 := if n = true then [60, 62] else 60 :: (l ++ 64 :: (d ++ [62]))
theorem T11 (n : Bool) (l d : List UInt8) (hl : l.length + d.length < 4294967281) : T 11 [pathV n l d] [] = some (.tup [.str (if pathOk n l d = true then textOf n l d else []), .int .i64 (if pathOk n l d = true then 0 else 5)], []) := by
  have a1 := T13 n l d hl
  refine evT_of (k := 0) (F := l11) (H' := [.cells [.bool n, .str l, .str d]]) (e := [.str (if pathOk n l d = true then textOf n l d else []), .int .i64 (if pathOk n l d = true then 0 else 5)]) (l := [.str (if pathOk n l d = true then textOf n l d else []), .int .i64 (if pathOk n l d = true then 0 else 5)]) rfl rfl rfl ?_ rfl rfl
  show evL T 0 q11 _ _ = _
  have s1 := sbin_add (s := [60]) (u := l) (by simp only [List.length_cons, List.length_nil]; omega)
  have s2 := sbin_add (s := [60] ++ l) (u := [64]) (by simp only [List.length_append, List.length_cons, List.length_nil]; omega)
  have s3 := sbin_add (s := [60] ++ l ++ [64]) (u := d) (by simp only [List.length_append, List.length_cons, List.length_nil]; omega)
  have s4 := sbin_add (s := [60] ++ l ++ [64] ++ d) (u := [62]) (by simp only [List.length_append, List.length_cons, List.length_nil]; omega)
  simp only [List.cons_append, List.nil_append, List.append_assoc] at s1 s2 s3 s4
  cases hp : pathOk n l d with
  | false =>
    simp only [hp] at a1
    simp only [q11, q11_0, evL_op, evL_sel, evL_nx, evL_exit, evL_ret, evL_join, evL_block, evL_cond, evK_some, evJ_nx, evJ_rt, evJ_ex, evB_nx, evB_rt, evB_ex, evC2_bool, evS_and, evS_or, evS_tf, evS_ft, ev_t, ev_s, ev_c, evalOp, bin_add, bin_sub, bin_mul, bin_eql, bin_neq, bin_lss, bin_leq, bin_gtr, bin_geq, sbin_eql, sbin_neq, b8, List.map_cons, List.map_nil, PV.rens, PV.ren, if_true, if_false, Bool.false_eq_true, reduceIte, Nat.reduceAdd, Nat.reduceSub, Nat.reduceMul, Nat.reduceEqDiff, Nat.reduceLeDiff, Int.reduceLE, Int.reduceLT, Int.reduceEq, Int.reduceToNat, Int.reduceAdd, Int.reduceSub, Int.reduceNeg, decide_true, decide_false, Bool.not_true, Bool.not_false, Bool.true_and, Bool.false_and, Bool.and_true, Bool.and_false, Bool.or_true, Bool.true_or, Bool.or_false, Bool.false_or, and_self, and_true, true_and, Nat.le_refl, Nat.zero_add, Nat.mul_one, Nat.one_ne_zero, Nat.zero_le, highP, lowP, Option.map_some, Option.map_none, List.drop_zero, List.take_zero, List.length_cons, List.length_nil, List.nil_append, List.append_nil, List.cons_append, fillP, PV.cells?, PV.one, PV.cleans, PV.clean, PV.of?, List.all_cons, List.all_nil, List.take_succ_cons, List.drop_succ_cons, Bool.and_self, Int.natCast_nonneg, Int.toNat_natCast, Int.toNat_zero, a1, hp, List.getElem?_cons_zero]
  | true =>
    simp only [hp] at a1
    cases n with
    | true => simp only [q11, q11_0, evL_op, evL_sel, evL_nx, evL_exit, evL_ret, evL_join, evL_block, evL_cond, evK_some, evJ_nx, evJ_rt, evJ_ex, evB_nx, evB_rt, evB_ex, evC2_bool, evS_and, evS_or, evS_tf, evS_ft, ev_t, ev_s, ev_c, evalOp, bin_add, bin_sub, bin_mul, bin_eql, bin_neq, bin_lss, bin_leq, bin_gtr, bin_geq, sbin_eql, sbin_neq, b8, List.map_cons, List.map_nil, PV.rens, PV.ren, if_true, if_false, Bool.false_eq_true, reduceIte, Nat.reduceAdd, Nat.reduceSub, Nat.reduceMul, Nat.reduceEqDiff, Nat.reduceLeDiff, Int.reduceLE, Int.reduceLT, Int.reduceEq, Int.reduceToNat, Int.reduceAdd, Int.reduceSub, Int.reduceNeg, decide_true, decide_false, Bool.not_true, Bool.not_false, Bool.true_and, Bool.false_and, Bool.and_true, Bool.and_false, Bool.or_true, Bool.true_or, Bool.or_false, Bool.false_or, and_self, and_true, true_and, Nat.le_refl, Nat.zero_add, Nat.mul_one, Nat.one_ne_zero, Nat.zero_le, highP, lowP, Option.map_some, Option.map_none, List.drop_zero, List.take_zero, List.length_cons, List.length_nil, List.nil_append, List.append_nil, List.cons_append, fillP, PV.cells?, PV.one, PV.cleans, PV.clean, PV.of?, List.all_cons, List.all_nil, List.take_succ_cons, List.drop_succ_cons, Bool.and_self, Int.natCast_nonneg, Int.toNat_natCast, Int.toNat_zero, a1, hp, List.getElem?_cons_zero, textOf]
    | false => simp only [q11, q11_0, evL_op, evL_sel, evL_nx, evL_exit, evL_ret, evL_join, evL_block, evL_cond, evK_some, evJ_nx, evJ_rt, evJ_ex, evB_nx, evB_rt, evB_ex, evC2_bool, evS_and, evS_or, evS_tf, evS_ft, ev_t, ev_s, ev_c, evalOp, bin_add, bin_sub, bin_mul, bin_eql, bin_neq, bin_lss, bin_leq, bin_gtr, bin_geq, sbin_eql, sbin_neq, b8, List.map_cons, List.map_nil, PV.rens, PV.ren, if_true, if_false, Bool.false_eq_true, reduceIte, Nat.reduceAdd, Nat.reduceSub, Nat.reduceMul, Nat.reduceEqDiff, Nat.reduceLeDiff, Int.reduceLE, Int.reduceLT, Int.reduceEq, Int.reduceToNat, Int.reduceAdd, Int.reduceSub, Int.reduceNeg, decide_true, decide_false, Bool.not_true, Bool.not_false, Bool.true_and, Bool.false_and, Bool.and_true, Bool.and_false, Bool.or_true, Bool.true_or, Bool.or_false, Bool.false_or, and_self, and_true, true_and, Nat.le_refl, Nat.zero_add, Nat.mul_one, Nat.one_ne_zero, Nat.zero_le, highP, lowP, Option.map_some, Option.map_none, List.drop_zero, List.take_zero, List.length_cons, List.length_nil, List.nil_append, List.append_nil, List.cons_append, fillP, PV.cells?, PV.one, PV.cleans, PV.clean, PV.of?, List.all_cons, List.all_nil, List.take_succ_cons, List.drop_succ_cons, Bool.and_self, Int.natCast_nonneg, Int.toNat_natCast, Int.toNat_zero, a1, hp, List.getElem?_cons_zero, textOf, s1, s2, s3, s4]
theorem T16 (n m : Bool) (l d k e : List UInt8) : T 16 [pathV n l d, pathV m k e] [] = some (.bool (n == m && decide (l = k) && decide (d = e)), []) := by
  refine evT_of (k := 0) (F := l16) (H' := [.cells [.bool n, .str l, .str d], .cells [.bool m, .str k, .str e]]) (e := [.bool (n == m && decide (l = k) && decide (d = e))]) (l := [.bool (n == m && decide (l = k) && decide (d = e))]) rfl rfl rfl ?_ rfl rfl
  show evL T 0 q16 _ _ = _
  simp only [q16, evL_op, evL_sel, evL_nx, evL_exit, evL_ret, evL_join, evL_block, evL_cond, evK_some, evJ_nx, evJ_rt, evJ_ex, evB_nx, evB_rt, evB_ex, evC2_bool, evS_and, evS_or, evS_tf, evS_ft, ev_t, ev_s, ev_c, evalOp, bin_add, bin_sub, bin_mul, bin_eql, bin_neq, bin_lss, bin_leq, bin_gtr, bin_geq, sbin_eql, sbin_neq, b8, List.map_cons, List.map_nil, PV.rens, PV.ren, if_true, if_false, Bool.false_eq_true, reduceIte, Nat.reduceAdd, Nat.reduceSub, Nat.reduceMul, Nat.reduceEqDiff, Nat.reduceLeDiff, Int.reduceLE, Int.reduceLT, Int.reduceEq, Int.reduceToNat, Int.reduceAdd, Int.reduceSub, Int.reduceNeg, decide_true, decide_false, Bool.not_true, Bool.not_false, Bool.true_and, Bool.false_and, Bool.and_true, Bool.and_false, Bool.or_true, Bool.true_or, Bool.or_false, Bool.false_or, and_self, and_true, true_and, Nat.le_refl, Nat.zero_add, Nat.mul_one, Nat.one_ne_zero, Nat.zero_le, highP, lowP, Option.map_some, Option.map_none, List.drop_zero, List.take_zero, List.length_cons, List.length_nil, List.nil_append, List.append_nil, List.cons_append, fillP, PV.cells?, PV.one, PV.cleans, PV.clean, PV.of?, List.all_cons, List.all_nil, List.take_succ_cons, List.drop_succ_cons, Bool.and_self, Int.natCast_nonneg, Int.toNat_natCast, Int.toNat_zero, List.getElem?_cons_zero, List.getElem?_cons_succ, Bool.false_bne, Bool.bne_false, Bool.xor_false, Bool.false_xor]
theorem T24 : T 24 [] [] = some (.bool true, []) := evT_iff.2 ⟨300, by kernel_rfl⟩
end Go.Proofs.YtgilfigaimndkaaDoor.Tab
