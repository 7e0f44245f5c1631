/- PathDomains: what is left of it, over texts. -/
import Derived.Test.YtgilfigaimndkaaDoorPath
import Derived.KernelRfl
namespace Go.Proofs.YtgilfigaimndkaaDoor.Tab
set_option linter.all false
open Go Go.RowKit Go.Proofs.YtgilfigaimndkaaDoor.Ev
theorem T24 : T 24 [] [] = some (.bool true, []) := evT_iff.2 ⟨300, by kernel_rfl⟩
abbrev D (s : List UInt8) : Bool := parts s 255 label
theorem split_ne (s : List UInt8) : splitBy 46 s ≠ [] := by
  cases s with
  | nil => simp [splitBy]
  | cons b l =>
    unfold splitBy
    split
    · simp
    · split <;> simp
theorem split_dot (b : List UInt8) : ∀ a : List UInt8, splitBy 46 (a ++ 46 :: b) = splitBy 46 a ++ splitBy 46 b
  | [] => by show splitBy 46 (46 :: b) = _; conv => lhs; unfold splitBy
             rw [if_pos rfl]; rfl
  | x :: a => by
    have ih := split_dot b a
    show splitBy 46 (x :: (a ++ 46 :: b)) = _
    conv => lhs; unfold splitBy
    conv => rhs; arg 1; unfold splitBy
    rw [ih]
    split
    · rfl
    · cases h : splitBy 46 a with
      | nil => exact absurd h (split_ne a)
      | cons y r => rfl
theorem split_cons (c : UInt8) (hc : c ≠ 46) (a : List UInt8) : ∃ y r, splitBy 46 a = y :: r ∧ splitBy 46 (c :: a) = (c :: y) :: r := by
  cases h : splitBy 46 a with
  | nil => exact absurd h (split_ne a)
  | cons y r => exact ⟨y, r, rfl, by unfold splitBy; rw [if_neg hc, h]⟩
theorem split_snoc (c : UInt8) (hc : c ≠ 46) : ∀ a : List UInt8, ∃ y, (y ++ [c]) ∈ splitBy 46 (a ++ [c])
  | [] => ⟨[], by show [c] ∈ splitBy 46 [c]; rw [splitBy_none (by simp; exact fun h => hc h.symm)]; simp⟩
  | x :: a => by
    obtain ⟨y, hy⟩ := split_snoc c hc a
    show ∃ y, y ++ [c] ∈ splitBy 46 (x :: (a ++ [c]))
    unfold splitBy
    split
    · exact ⟨y, List.mem_cons_of_mem _ hy⟩
    · cases h : splitBy 46 (a ++ [c]) with
      | nil => exact absurd h (split_ne _)
      | cons z r =>
        rw [h] at hy
        rcases List.mem_cons.1 hy with rfl | hy
        · exact ⟨x :: y, by simp⟩
        · exact ⟨y, List.mem_cons_of_mem _ hy⟩
theorem split_chars (P : UInt8 → Bool) : ∀ s : List UInt8, (splitBy 46 s).all (fun l => l.all P) = true → ∀ x ∈ s, P x = true ∨ x = 46
  | [], _, x, hx => by cases hx
  | b :: l, h, x, hx => by
    unfold splitBy at h
    by_cases hb : b = 46
    · rw [if_pos hb] at h
      rcases List.mem_cons.1 hx with rfl | hx
      · exact .inr hb
      · exact split_chars P l (by simpa using h) x hx
    · rw [if_neg hb] at h
      cases hs : splitBy 46 l with
      | nil => exact absurd hs (split_ne l)
      | cons y r =>
        rw [hs] at h
        simp only [List.all_cons, Bool.and_eq_true] at h
        rcases List.mem_cons.1 hx with rfl | hx
        · exact .inl h.1.1
        · exact split_chars P l (by rw [hs]; simp only [List.all_cons, Bool.and_eq_true]; exact ⟨h.1.2, h.2⟩) x hx
theorem label_chars {s : List UInt8} (h : label s = true) : s.all labelC = true := by
  unfold label at h
  simp only [Bool.and_eq_true] at h
  exact h.1.1.1.1
theorem label_head (s : List UInt8) : label (45 :: s) = false := by simp [label]
theorem label_last (s : List UInt8) : label (s ++ [45]) = false := by simp [label]
theorem D_dots {s : List UInt8} (h : D s = true) : s.length ≤ 255 ∧ (splitBy 46 s).all label = true := by
  simp only [D, parts, Bool.and_eq_true, decide_eq_true_eq] at h
  exact ⟨by omega, h.2⟩
theorem D_of_bad {s : List UInt8} (h : (splitBy 46 s).all label = false) : D s = false := by simp only [D, parts, h, Bool.and_false]
section
variable {a b : List UInt8} (ha : D a = true) (hb : D b = true)
theorem d1 (ha : D a = true) (hb : D b = true) : D (a ++ [46] ++ b) = decide ((a.length : Int) + b.length < 255) := by
  rw [List.append_assoc]
  show D (a ++ 46 :: b) = _
  simp only [D, parts, split_dot, List.all_append, (D_dots ha).2, (D_dots hb).2, Bool.and_self, Bool.and_true]
  rw [decide_eq_decide, List.length_append, List.length_cons]
  omega
theorem d2 : D (a ++ [46, 46] ++ b) = false := by
  rw [List.append_assoc]
  show D (a ++ 46 :: ([] ++ 46 :: b)) = _
  refine D_of_bad ?_
  rw [split_dot, split_dot, List.all_append, List.all_append]
  have : (splitBy 46 []).all label = false := by decide
  rw [this]; simp
theorem d3 : D ([45] ++ a) = false := by
  show D (45 :: a) = _
  refine D_of_bad ?_
  obtain ⟨y, r, h1, h2⟩ := split_cons 45 (by decide) a
  rw [h2, List.all_cons, label_head, Bool.false_and]
theorem d4 : D (a ++ [45]) = false := by
  refine D_of_bad ?_
  obtain ⟨y, hy⟩ := split_snoc 45 (by decide) a
  refine Bool.eq_false_iff.2 fun h => ?_
  have := List.all_eq_true.1 h _ hy
  rw [label_last] at this
  cases this
theorem d5 : D (a ++ [46]) = false := by
  refine D_of_bad ?_
  rw [split_dot, List.all_append]
  have : (splitBy 46 []).all label = false := by decide
  rw [this]; simp
theorem d6 : D ([46] ++ a) = false := by
  refine D_of_bad ?_
  show (splitBy 46 ([] ++ 46 :: a)).all label = false
  rw [split_dot, List.all_append]
  have : (splitBy 46 []).all label = false := by decide
  rw [this]; simp
theorem d7 (c : UInt8) (h1 : labelC c = false) (h2 : c ≠ 46) : D (a ++ [c] ++ b) = false := by
  refine Bool.eq_false_iff.2 fun h => ?_
  have h3 := (D_dots h).2
  have h4 : (splitBy 46 (a ++ [c] ++ b)).all (fun l => l.all labelC) = true := List.all_eq_true.2 fun l hl => label_chars (List.all_eq_true.1 h3 l hl)
  rcases split_chars labelC _ h4 c (by simp) with h5 | h5
  · rw [h1] at h5; cases h5
  · exact h2 h5
end
theorem D_nil : D [] = false := by decide
theorem T14' (s : List UInt8) (hs : s.length < 4294967281) : T 14 [.str s] [] = some (.bool (D s), []) := T14 s hs
theorem lab_of (c : UInt8) (h : (decide ((97 : Int) ≤ c.toNat) && decide ((c.toNat : Int) ≤ 122) || decide ((65 : Int) ≤ c.toNat) && decide ((c.toNat : Int) ≤ 90) || decide ((48 : Int) ≤ c.toNat) && decide ((c.toNat : Int) ≤ 57) || decide ((c.toNat : Int) = 45) || decide ((c.toNat : Int) = 46)) = false) : labelC c = false ∧ c ≠ 46 := by
  simp only [Bool.or_eq_false_iff] at h
  obtain ⟨⟨⟨h1, h2⟩, h3⟩, h4⟩ := h
  have e := byte_ne c 45 (by omega)
  rw [show ((45 : Nat) : Int) = 45 from rfl, h3] at e
  refine ⟨?_, fun hc => ?_⟩
  · unfold labelC plain
    rw [h1.1, h1.2, h2]
    simpa using e
  · subst hc
    exact absurd h4 (by decide)
theorem lawPathDomains (a : List UInt8) (hra : a.length ≤ room) (b : List UInt8) (hrb : b.length ≤ room) (c : UInt8) : evT lt ov 6 [.str a, .str b, .int .u8 c.toNat] [] = some (.bool true, []) := by
  refine evT_of (k := 0) (F := l6) (H' := []) (e := [.bool true]) (l := [.bool true]) rfl rfl rfl ?_ rfl rfl
  show evL T 0 q6 _ _ = _
  have hw : IntKind.i64.wrap ((a.length : Int) + b.length) = (a.length : Int) + b.length := IntWalk.i64_in _ (by unfold room at *; omega)
  by_cases hlen : (1000 : Int) < (a.length : Int) + b.length
  · simp only [q6, evL_op, evL_sel, evL_nx, evL_exit, evL_ret, evL_join, evL_block, evL_cond, evK_some, evJ_nx, evJ_rt, evJ_ex, evB_nx, evB_rt, evB_ex, evC2_bool, evS_and, evS_or, evS_tf, evS_ft, ev_t, ev_s, ev_c, evalOp, bin_add, bin_sub, bin_mul, bin_eql, bin_neq, bin_lss, bin_leq, bin_gtr, bin_geq, sbin_eql, sbin_neq, b8, List.map_cons, List.map_nil, PV.rens, PV.ren, if_true, if_false, Bool.false_eq_true, reduceIte, hw, hlen, decide_true]
  · have A := T14' a (by omega)
    have B := T14' b (by omega)
    cases hA : D a with
    | false =>
      rw [hA] at A
      simp only [q6, evL_op, evL_sel, evL_nx, evL_exit, evL_ret, evL_join, evL_block, evL_cond, evK_some, evJ_nx, evJ_rt, evJ_ex, evB_nx, evB_rt, evB_ex, evC2_bool, evS_and, evS_or, evS_tf, evS_ft, ev_t, ev_s, ev_c, evalOp, bin_add, bin_sub, bin_mul, bin_eql, bin_neq, bin_lss, bin_leq, bin_gtr, bin_geq, sbin_eql, sbin_neq, b8, List.map_cons, List.map_nil, PV.rens, PV.ren, if_true, if_false, Bool.false_eq_true, reduceIte, Nat.reduceAdd, Nat.reduceSub, Nat.reduceMul, Nat.reduceEqDiff, Nat.reduceLeDiff, Int.reduceLE, Int.reduceLT, Int.reduceEq, Int.reduceToNat, Int.reduceAdd, Int.reduceSub, Int.reduceNeg, decide_true, decide_false, Bool.not_true, Bool.not_false, Bool.true_and, Bool.false_and, Bool.and_true, Bool.and_false, Bool.or_true, Bool.true_or, Bool.or_false, Bool.false_or, and_self, and_true, true_and, Nat.le_refl, Nat.zero_add, Nat.mul_one, Nat.one_ne_zero, Nat.zero_le, highP, lowP, Option.map_some, Option.map_none, List.drop_zero, List.take_zero, List.length_cons, List.length_nil, List.nil_append, List.append_nil, List.cons_append, fillP, PV.cells?, PV.one, PV.cleans, PV.clean, PV.of?, List.all_cons, List.all_nil, List.take_succ_cons, List.drop_succ_cons, Bool.and_self, Int.natCast_nonneg, Int.toNat_natCast, Int.toNat_zero, hw, hlen, A, B, T14' [] (by decide), D_nil, T24]
    | true =>
      rw [hA] at A
      cases hB : D b with
      | false =>
        rw [hB] at B
        simp only [q6, evL_op, evL_sel, evL_nx, evL_exit, evL_ret, evL_join, evL_block, evL_cond, evK_some, evJ_nx, evJ_rt, evJ_ex, evB_nx, evB_rt, evB_ex, evC2_bool, evS_and, evS_or, evS_tf, evS_ft, ev_t, ev_s, ev_c, evalOp, bin_add, bin_sub, bin_mul, bin_eql, bin_neq, bin_lss, bin_leq, bin_gtr, bin_geq, sbin_eql, sbin_neq, b8, List.map_cons, List.map_nil, PV.rens, PV.ren, if_true, if_false, Bool.false_eq_true, reduceIte, Nat.reduceAdd, Nat.reduceSub, Nat.reduceMul, Nat.reduceEqDiff, Nat.reduceLeDiff, Int.reduceLE, Int.reduceLT, Int.reduceEq, Int.reduceToNat, Int.reduceAdd, Int.reduceSub, Int.reduceNeg, decide_true, decide_false, Bool.not_true, Bool.not_false, Bool.true_and, Bool.false_and, Bool.and_true, Bool.and_false, Bool.or_true, Bool.true_or, Bool.or_false, Bool.false_or, and_self, and_true, true_and, Nat.le_refl, Nat.zero_add, Nat.mul_one, Nat.one_ne_zero, Nat.zero_le, highP, lowP, Option.map_some, Option.map_none, List.drop_zero, List.take_zero, List.length_cons, List.length_nil, List.nil_append, List.append_nil, List.cons_append, fillP, PV.cells?, PV.one, PV.cleans, PV.clean, PV.of?, List.all_cons, List.all_nil, List.take_succ_cons, List.drop_succ_cons, Bool.and_self, Int.natCast_nonneg, Int.toNat_natCast, Int.toNat_zero, hw, hlen, A, B, T14' [] (by decide), D_nil, T24]
      | true =>
        rw [hB] at B
        have s1 := sbin_add (s := a) (u := [46]) (by simp only [List.length_cons, List.length_nil]; omega)
        have s2 := sbin_add (s := a ++ [46]) (u := b) (by simp only [List.length_append, List.length_cons, List.length_nil]; omega)
        have s3 := sbin_add (s := a) (u := [46, 46]) (by simp only [List.length_cons, List.length_nil]; omega)
        have s4 := sbin_add (s := a ++ [46, 46]) (u := b) (by simp only [List.length_append, List.length_cons, List.length_nil]; omega)
        have s5 := sbin_add (s := [45]) (u := a) (by simp only [List.length_cons, List.length_nil]; omega)
        have s6 := sbin_add (s := a) (u := [45]) (by simp only [List.length_cons, List.length_nil]; omega)
        have s7 := sbin_add (s := [46]) (u := a) (by simp only [List.length_cons, List.length_nil]; omega)
        have s8 := sbin_add (s := a) (u := [c]) (by simp only [List.length_cons, List.length_nil]; omega)
        have s9 := sbin_add (s := a ++ [c]) (u := b) (by simp only [List.length_append, List.length_cons, List.length_nil]; omega)
        have t1 := T14' (a ++ [46] ++ b) (by simp only [List.length_append, List.length_cons, List.length_nil]; omega)
        have t2 := T14' (a ++ [46, 46] ++ b) (by simp only [List.length_append, List.length_cons, List.length_nil]; omega)
        have t3 := T14' ([45] ++ a) (by simp only [List.length_append, List.length_cons, List.length_nil]; omega)
        have t4 := T14' (a ++ [45]) (by simp only [List.length_append, List.length_cons, List.length_nil]; omega)
        have t5 := T14' (a ++ [46]) (by simp only [List.length_append, List.length_cons, List.length_nil]; omega)
        have t6 := T14' ([46] ++ a) (by simp only [List.length_append, List.length_cons, List.length_nil]; omega)
        have t7 := T14' (a ++ [c] ++ b) (by simp only [List.length_append, List.length_cons, List.length_nil]; omega)
        rw [d1 hA hB] at t1
        rw [d2] at t2
        rw [d3] at t3
        rw [d4] at t4
        rw [d5] at t5
        rw [d6] at t6
        have h8 : bytes8 [.int .u8 c.toNat] = some [c] := bytes8_b8 [c]
        have e3 : ([45] : List UInt8) ++ a = 45 :: a := rfl
        have e6 : ([46] : List UInt8) ++ a = 46 :: a := rfl
        rw [e3] at t3 s5
        rw [e6] at t6 s7
        simp only [q6, evL_op, evL_sel, evL_nx, evL_exit, evL_ret, evL_join, evL_block, evL_cond, evK_some, evJ_nx, evJ_rt, evJ_ex, evB_nx, evB_rt, evB_ex, evC2_bool, evS_and, evS_or, evS_tf, evS_ft, ev_t, ev_s, ev_c, evalOp, bin_add, bin_sub, bin_mul, bin_eql, bin_neq, bin_lss, bin_leq, bin_gtr, bin_geq, sbin_eql, sbin_neq, b8, List.map_cons, List.map_nil, PV.rens, PV.ren, if_true, if_false, Bool.false_eq_true, reduceIte, Nat.reduceAdd, Nat.reduceSub, Nat.reduceMul, Nat.reduceEqDiff, Nat.reduceLeDiff, Int.reduceLE, Int.reduceLT, Int.reduceEq, Int.reduceToNat, Int.reduceAdd, Int.reduceSub, Int.reduceNeg, decide_true, decide_false, Bool.not_true, Bool.not_false, Bool.true_and, Bool.false_and, Bool.and_true, Bool.and_false, Bool.or_true, Bool.true_or, Bool.or_false, Bool.false_or, and_self, and_true, true_and, Nat.le_refl, Nat.zero_add, Nat.mul_one, Nat.one_ne_zero, Nat.zero_le, highP, lowP, Option.map_some, Option.map_none, List.drop_zero, List.take_zero, List.length_cons, List.length_nil, List.nil_append, List.append_nil, List.cons_append, fillP, PV.cells?, PV.one, PV.cleans, PV.clean, PV.of?, List.all_cons, List.all_nil, List.take_succ_cons, List.drop_succ_cons, Bool.and_self, Int.natCast_nonneg, Int.toNat_natCast, Int.toNat_zero, hw, hlen, A, B, s1, s2, s3, s4, s5, s6, s7, s8, s9, t1, t2, t3, t4, t5, t6, t7, h8, T24, beq_self_eq_true, Bool.bne_false]
        cases hs : (decide ((97 : Int) ≤ c.toNat) && decide ((c.toNat : Int) ≤ 122) || decide ((65 : Int) ≤ c.toNat) && decide ((c.toNat : Int) ≤ 90) || decide ((48 : Int) ≤ c.toNat) && decide ((c.toNat : Int) ≤ 57) || decide ((c.toNat : Int) = 45) || decide ((c.toNat : Int) = 46)) with
        | true => rfl
        | false =>
          obtain ⟨h1, h2⟩ := lab_of c hs
          rw [d7 c h1 h2]
          rfl
end Go.Proofs.YtgilfigaimndkaaDoor.Tab
