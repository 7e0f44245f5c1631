/- ReportWrong: it is true. -/
import Derived.Test.YtghnffhgmhfofaaDoorPureReportExact
namespace Go.Proofs.YtghnffhgmhfofaaDoor.Tab
set_option linter.all false
open Go Go.RowKit Go.Proofs.YtghnffhgmhfofaaDoor.Ev
/-- A row of bytes that grows. -/
def accB (t : Tk) (l : List UInt8) : PV := .sl t (if l = [] then 0 else 1) l.length (l.map b8)
theorem accB_ne (t : Tk) {l : List UInt8} (h : l ≠ []) : accB t l = .sl t 1 l.length (l.map b8) := by unfold accB; rw [if_neg h]
theorem len_ne {x y : List UInt8} (h : x = y) (c : x.length ≠ y.length) : False := c (by rw [h])
section
variable (L : List (List UInt8)) (j : Nat)
def Wb (hj : j < L.length) (c : UInt8) (i : Nat) : List UInt8 := join ((L.set j (L[j] ++ [c])).take i)
def Wx : List (List UInt8) := L.take (j + 1) ++ [] :: L.drop (j + 1)
def Wm (i : Nat) : List UInt8 := join ((Wx L j).take (if i ≤ j then i else i + 1))
theorem Wx_len (hj : j < L.length) : (Wx L j).length = L.length + 1 := by unfold Wx; simp; omega
theorem Wx_lo (hj : j < L.length) {i : Nat} (h : i ≤ j) : (Wx L j)[i]? = L[i]? := by
  unfold Wx
  rw [List.getElem?_append_left (by simp; omega), List.getElem?_take, if_pos (by omega)]
theorem Wx_at (hj : j < L.length) : (Wx L j)[j + 1]? = some [] := by
  unfold Wx
  rw [List.getElem?_append_right (by simp; omega)]
  simp
  rw [Nat.min_eq_left (by omega), Nat.sub_self]
  rfl
theorem Wx_hi (hj : j < L.length) {i : Nat} (h : j < i) : (Wx L j)[i + 1]? = L[i]? := by
  unfold Wx
  rw [List.getElem?_append_right (by simp; omega)]
  rw [List.length_take, Nat.min_eq_left (by omega), show i + 1 - (j + 1) = (i - j - 1) + 1 by omega, List.getElem?_cons_succ, List.getElem?_drop]
  congr 1
  omega
theorem join_take' {L : List (List UInt8)} {i : Nat} {x : List UInt8} (h : L[i]? = some x) : join (L.take (i + 1)) = join (L.take i) ++ x ++ [13, 10] := by
  obtain ⟨h1, h2⟩ := List.getElem?_eq_some_iff.1 h
  rw [join_take h1, h2]
theorem Wb_eq (hj : j < L.length) (c : UInt8) (h : j < L.length) : Wb L j hj c (j + 1) = Wb L j hj c j ++ L[j] ++ [c] ++ [13, 10] := by
  unfold Wb
  rw [join_take' (x := L[j] ++ [c]) (by rw [List.getElem?_set_self (by omega)])]
  simp
theorem Wb_ne (hj : j < L.length) (c : UInt8) {i : Nat} (h : i < L.length) (hn : ¬ i = j) : Wb L j hj c (i + 1) = Wb L j hj c i ++ L[i] ++ [13, 10] := by
  unfold Wb
  rw [join_take' (x := L[i]) (by rw [List.getElem?_set_ne (by omega), List.getElem?_eq_getElem h])]
theorem Wm_eq (hj : j < L.length) : Wm L j (j + 1) = Wm L j j ++ L[j] ++ [13, 10] ++ [13, 10] := by
  unfold Wm
  rw [if_neg (by omega), if_pos (Nat.le_refl _), join_take' (Wx_at L j hj), join_take' (x := L[j]) (by rw [Wx_lo L j hj (Nat.le_refl _), List.getElem?_eq_getElem hj])]
  simp
theorem Wm_ne (hj : j < L.length) {i : Nat} (h : i < L.length) (hn : ¬ i = j) : Wm L j (i + 1) = Wm L j i ++ L[i] ++ [13, 10] := by
  unfold Wm
  rcases Nat.lt_or_ge i j with hl | hl
  · rw [if_pos (by omega), if_pos (by omega), join_take' (x := L[i]) (by rw [Wx_lo L j hj (by omega), List.getElem?_eq_getElem h])]
  · rw [if_neg (by omega), if_neg (by omega), join_take' (x := L[i]) (by rw [Wx_hi L j hj (by omega), List.getElem?_eq_getElem h])]
end
abbrev nullO : Ob := .cells [.bool true, .str [], .str []]
theorem loop_wrong (L : List (List UInt8)) (j : Nat) (hj : j < L.length) (c : UInt8) (k0 : Nat) (h1 : L.length ≤ 1000) (h2 : (join (L.set j (L[j] ++ [c]))).length ≤ 1000000) (h3 : (join (Wx L j)).length ≤ 1000000) (kk : Nat) (hk : L.length < kk) :
    loopL 1 (evL T k0 q4_2) kk [.int .i64 j, .int .u8 c.toNat, .sl .no 1 L.length (L.map fun l => sl8 l), .sl .nil 0 0 [], .sl .nil 0 0 [], .int .i64 0] [nullO] = some (.ex 0, [accB (.tok 1) (Wb L j hj c L.length), accB (.tok 2) (Wm L j L.length)], [nullO, .tok, .tok]) := by
  refine loop_law (n := 1) (body := evL T k0 q4_2) (σ := Nat) (fun i => [.int .i64 j, .int .u8 c.toNat, .sl .no 1 L.length (L.map fun l => sl8 l), accB (.tok 1) (Wb L j hj c i), accB (.tok 2) (Wm L j i), .int .i64 i]) (fun _ => [nullO, .tok, .tok]) (fun i => L.length - i) (fun i => i ≤ L.length)
    (fun i => (.ex 0, [accB (.tok 1) (Wb L j hj c L.length), accB (.tok 2) (Wm L j L.length)], [nullO, .tok, .tok])) (fun i hi => ?_) kk 0 _ _ (by unfold accB Wb Wm; simp only [List.take_zero, join_nil, if_pos (Nat.zero_le j)]; rfl) (Nat.zero_le _) (by omega)
  rcases Nat.lt_or_ge i L.length with h | h
  · have g1 : (i : Int) < L.length := by omega
    have hg := get_sl8 h
    have zb : ((if Wb L j hj c i = [] then 0 else 1) = 1 ∨ (if Wb L j hj c i = [] then 0 else 1) = 0) := by split <;> simp
    have zm : ((if Wm L j i = [] then 0 else 1) = 1 ∨ (if Wm L j i = [] then 0 else 1) = 0) := by split <;> simp
    have lb : (Wb L j hj c (i + 1)).length ≤ 1000000 := Nat.le_trans (join_take_len _ _) h2
    have lm : (Wm L j (i + 1)).length ≤ 1000000 := Nat.le_trans (join_take_len _ _) h3
    by_cases hc : i = j
    · subst hc
      have eb := Wb_eq L i hj c h
      have em := Wm_eq L i hj
      rw [eb] at lb
      rw [em] at lm
      simp only [List.length_append, List.length_cons, List.length_nil] at lb lm
      have r1 : (Wb L i hj c i).length + (L[i]).length ≤ roomMax := by unfold roomMax; omega
      have r2 : (Wm L i i).length + (L[i]).length ≤ roomMax := by unfold roomMax; omega
      have r3 : (Wm L i i).length + (L[i]).length + 2 ≤ roomMax := by unfold roomMax; omega
      have r4 : (Wb L i hj c i).length + (L[i]).length + 1 ≤ roomMax := by unfold roomMax; omega
      have r5 : (Wm L i i).length + (L[i]).length + 2 + 2 ≤ roomMax := by unfold roomMax; omega
      have r6 : (Wb L i hj c i).length + (L[i]).length + 1 + 2 ≤ roomMax := by unfold roomMax; omega
      refine .inr ⟨i + 1, ?_⟩
      apply Exists.intro
      apply Exists.intro
      refine ⟨?_, ?_, h, by omega, rfl⟩
      · simp only [q4_2, q4_1, q4_0, evL_op, evL_sel, evL_nx, evL_exit, evL_ret, evL_join, evL_block, evL_cond, evK_some, evJ_nx, evJ_rt, evJ_ex, evB_nx, evB_rt, evB_ex, evC2_bool, evS_and, evS_or, evS_tf, evS_ft, ev_t, ev_s, ev_c, evalOp, bin_add, bin_sub, bin_mul, bin_eql, bin_neq, bin_lss, bin_leq, bin_gtr, bin_geq, sbin_eql, sbin_neq, b8, List.map_cons, List.map_nil, PV.rens, PV.ren, if_true, if_false, Bool.false_eq_true, reduceIte, Nat.reduceAdd, Nat.reduceSub, Nat.reduceMul, Nat.reduceEqDiff, Nat.reduceLeDiff, Int.reduceLE, Int.reduceLT, Int.reduceEq, Int.reduceToNat, Int.reduceAdd, Int.reduceSub, Int.reduceNeg, decide_true, decide_false, Bool.not_true, Bool.not_false, Bool.true_and, Bool.false_and, Bool.and_true, Bool.and_false, Bool.or_true, Bool.true_or, Bool.or_false, Bool.false_or, and_self, and_true, true_and, Nat.le_refl, Nat.zero_add, Nat.mul_one, Nat.one_ne_zero, Nat.zero_le, highP, lowP, Option.map_some, Option.map_none, List.drop_zero, List.take_zero, List.length_cons, List.length_nil, List.nil_append, List.append_nil, List.cons_append, fillP, PV.cells?, PV.one, PV.cleans, PV.clean, PV.of?, List.all_cons, List.all_nil, List.take_succ_cons, List.drop_succ_cons, Bool.and_self, Int.natCast_nonneg, Int.toNat_natCast, Int.toNat_zero, PV.of?, Tk.ren, tailP, evL_loop, or_true, true_or, Nat.zero_lt_one, Nat.sub_zero, List.getElem?_cons_zero, List.getElem?_cons_succ, List.set_cons_zero, List.set_cons_succ, List.take_length, nullO, g1, hg, accB, zb, zm, r1, r2, r3, r4, r5, r6, wr1 (show i < 9223372036854775807 by omega)]
        rfl
      · rw [accB_ne _ (l := Wb L i hj c (i + 1)) (by rw [eb]; simp), accB_ne _ (l := Wm L i (i + 1)) (by rw [em]; simp), eb, em]
        simp only [List.map_append, List.length_append, List.map_cons, List.map_nil, List.length_cons, List.length_nil]
        rfl
    · have hn : ¬ (i : Int) = j := by omega
      have eb := Wb_ne L j hj c h hc
      have em := Wm_ne L j hj h hc
      rw [eb] at lb
      rw [em] at lm
      simp only [List.length_append, List.length_cons, List.length_nil] at lb lm
      have r1 : (Wb L j hj c i).length + (L[i]).length ≤ roomMax := by unfold roomMax; omega
      have r2 : (Wm L j i).length + (L[i]).length ≤ roomMax := by unfold roomMax; omega
      have r3 : (Wm L j i).length + (L[i]).length + 2 ≤ roomMax := by unfold roomMax; omega
      have r4 : (Wb L j hj c i).length + (L[i]).length + 2 ≤ roomMax := by unfold roomMax; omega
      refine .inr ⟨i + 1, ?_⟩
      apply Exists.intro
      apply Exists.intro
      refine ⟨?_, ?_, h, by omega, rfl⟩
      · simp only [q4_2, q4_1, q4_0, evL_op, evL_sel, evL_nx, evL_exit, evL_ret, evL_join, evL_block, evL_cond, evK_some, evJ_nx, evJ_rt, evJ_ex, evB_nx, evB_rt, evB_ex, evC2_bool, evS_and, evS_or, evS_tf, evS_ft, ev_t, ev_s, ev_c, evalOp, bin_add, bin_sub, bin_mul, bin_eql, bin_neq, bin_lss, bin_leq, bin_gtr, bin_geq, sbin_eql, sbin_neq, b8, List.map_cons, List.map_nil, PV.rens, PV.ren, if_true, if_false, Bool.false_eq_true, reduceIte, Nat.reduceAdd, Nat.reduceSub, Nat.reduceMul, Nat.reduceEqDiff, Nat.reduceLeDiff, Int.reduceLE, Int.reduceLT, Int.reduceEq, Int.reduceToNat, Int.reduceAdd, Int.reduceSub, Int.reduceNeg, decide_true, decide_false, Bool.not_true, Bool.not_false, Bool.true_and, Bool.false_and, Bool.and_true, Bool.and_false, Bool.or_true, Bool.true_or, Bool.or_false, Bool.false_or, and_self, and_true, true_and, Nat.le_refl, Nat.zero_add, Nat.mul_one, Nat.one_ne_zero, Nat.zero_le, highP, lowP, Option.map_some, Option.map_none, List.drop_zero, List.take_zero, List.length_cons, List.length_nil, List.nil_append, List.append_nil, List.cons_append, fillP, PV.cells?, PV.one, PV.cleans, PV.clean, PV.of?, List.all_cons, List.all_nil, List.take_succ_cons, List.drop_succ_cons, Bool.and_self, Int.natCast_nonneg, Int.toNat_natCast, Int.toNat_zero, PV.of?, Tk.ren, tailP, evL_loop, or_true, true_or, Nat.zero_lt_one, Nat.sub_zero, List.getElem?_cons_zero, List.getElem?_cons_succ, List.set_cons_zero, List.set_cons_succ, List.take_length, nullO, g1, hg, hn, accB, zb, zm, r1, r2, r3, r4, wr1 (show i < 9223372036854775807 by omega)]
        rfl
      · rw [accB_ne _ (l := Wb L j hj c (i + 1)) (by rw [eb]; simp), accB_ne _ (l := Wm L j (i + 1)) (by rw [em]; simp), eb, em]
        simp only [List.map_append, List.length_append, List.map_cons, List.map_nil, List.length_cons, List.length_nil]
        rfl
  · refine .inl ⟨?_, by simp⟩
    have g1 : ¬ (i : Int) < L.length := by omega
    obtain rfl : i = L.length := by omega
    simp only [q4_2, evL_op, evL_sel, evL_nx, evL_exit, evL_ret, evL_join, evL_block, evL_cond, evK_some, evJ_nx, evJ_rt, evJ_ex, evB_nx, evB_rt, evB_ex, evC2_bool, evS_and, evS_or, evS_tf, evS_ft, ev_t, ev_s, ev_c, evalOp, bin_add, bin_sub, bin_mul, bin_eql, bin_neq, bin_lss, bin_leq, bin_gtr, bin_geq, sbin_eql, sbin_neq, b8, List.map_cons, List.map_nil, PV.rens, PV.ren, if_true, if_false, Bool.false_eq_true, reduceIte, Nat.reduceAdd, Nat.reduceSub, Nat.reduceMul, Nat.reduceEqDiff, Nat.reduceLeDiff, Int.reduceLE, Int.reduceLT, Int.reduceEq, Int.reduceToNat, Int.reduceAdd, Int.reduceSub, Int.reduceNeg, decide_true, decide_false, Bool.not_true, Bool.not_false, Bool.true_and, Bool.false_and, Bool.and_true, Bool.and_false, Bool.or_true, Bool.true_or, Bool.or_false, Bool.false_or, and_self, and_true, true_and, Nat.le_refl, Nat.zero_add, Nat.mul_one, Nat.one_ne_zero, Nat.zero_le, highP, lowP, Option.map_some, Option.map_none, List.drop_zero, List.take_zero, List.length_cons, List.length_nil, List.nil_append, List.append_nil, List.cons_append, fillP, PV.cells?, PV.one, PV.cleans, PV.clean, PV.of?, List.all_cons, List.all_nil, List.take_succ_cons, List.drop_succ_cons, Bool.and_self, Int.natCast_nonneg, Int.toNat_natCast, Int.toNat_zero, PV.of?, Tk.ren, tailP, evL_loop, or_true, true_or, Nat.zero_lt_one, Nat.sub_zero, List.getElem?_cons_zero, List.getElem?_cons_succ, List.set_cons_zero, List.set_cons_succ, List.take_length, nullO, g1]
theorem at_eq {A B : List (List UInt8)} (h : A = B) (i : Nat) : A[i]? = B[i]? := by rw [h]
theorem set_other {L : List (List UInt8)} {j i : Nat} {y : List UInt8} (h : j ≠ i) : (L.set j y)[i]? = L[i]? := List.getElem?_set_ne h
theorem set_same {L : List (List UInt8)} {j : Nat} {x y : List UInt8} (h : L[j]? = some x) : (L.set j y)[j]? = some y := List.getElem?_set_self (List.getElem?_eq_some_iff.1 h).1
/-- A line changed: no report. -/
theorem no_set {s l d k e : List UInt8} (hr : rightR s false l d false k e = true) {s' : List UInt8} {n' : Bool} {l' d' : List UInt8} {m' : Bool} {k' e' : List UInt8} (hr' : rightR s' n' l' d' m' k' e' = true) {j : Nat} {x : List UInt8} (hx : (repL s (textOf false l d) (textOf false k e))[j]? = some x) (c : UInt8) (hc : c ≠ 13 ∧ c ≠ 10) :
    rep s' (textOf n' l' d') (textOf m' k' e') ≠ join ((repL s (textOf false l d) (textOf false k e)).set j (x ++ [c])) := fun he => by
  obtain ⟨rfl, rfl, hp1, hp2, q1, q2, q3⟩ := right_cl hr'
  obtain ⟨_, _, hq1, hq2, r1, r2, r3⟩ := right_cl hr
  have cl1 := repL_cl q1 q2 q3
  have cl2 := repL_cl r1 r2 r3
  have h := join_inj cl1 (fun y hy => by
    rcases List.mem_or_eq_of_mem_set hy with hy | rfl
    · exact cl2 y hy
    · exact (cl2 x (List.mem_of_getElem? hx)).app (fun z hz => by rw [List.mem_singleton.1 hz]; exact hc)) he
  have pt := (parse_text hp1).2
  have g := at_eq h
  clear he h cl1 cl2
  have hj : j < 18 := (List.getElem?_eq_some_iff.1 hx).1
  have gs : (repL s' (textOf false l' d') (textOf false k' e'))[j]? = some (x ++ [c]) := by rw [g j, set_same hx]
  have go : ∀ i, j ≠ i → (repL s' (textOf false l' d') (textOf false k' e'))[i]? = (repL s (textOf false l d) (textOf false k e))[i]? := fun i hi => by rw [g i, set_other hi]
  clear g
  have same : ∀ y : List UInt8, y = y ++ [c] → False := fun y hy => len_ne hy (by simp)
  have es : j ≠ 12 → s' = s := fun hj => by
    have := go 12 hj
    simp only [repL, List.getElem?_cons_succ, List.getElem?_cons_zero, Option.some.injEq, List.append_cancel_left_eq] at this
    exact this
  have es0 : j ≠ 0 → s' = s := fun hj => by
    have := go 0 hj
    simp only [repL, List.getElem?_cons_zero, Option.some.injEq, List.append_cancel_left_eq, List.append_cancel_right_eq] at this
    exact this
  have eb : j ≠ 14 → textOf false k' e' = textOf false k e := fun hj => by
    have := go 14 hj
    simp only [repL, List.getElem?_cons_succ, List.getElem?_cons_zero, Option.some.injEq, List.append_cancel_left_eq] at this
    exact this
  have eb8 : j ≠ 8 → textOf false k' e' = textOf false k e := fun hj => by
    have := go 8 hj
    simp only [repL, List.getElem?_cons_succ, List.getElem?_cons_zero, Option.some.injEq, List.append_cancel_left_eq, List.append_cancel_right_eq] at this
    exact this
  obtain hj | hj | hj | hj | hj | hj | hj | hj | hj | hj | hj | hj | hj | hj | hj | hj | hj | hj : j = 0 ∨ j = 1 ∨ j = 2 ∨ j = 3 ∨ j = 4 ∨ j = 5 ∨ j = 6 ∨ j = 7 ∨ j = 8 ∨ j = 9 ∨ j = 10 ∨ j = 11 ∨ j = 12 ∨ j = 13 ∨ j = 14 ∨ j = 15 ∨ j = 16 ∨ j = 17 := by omega
  all_goals subst hj
  all_goals simp only [repL, List.getElem?_cons_succ, List.getElem?_cons_zero, Option.some.injEq] at gs hx
  all_goals subst hx
  · rw [es (by decide)] at gs; exact same _ gs
  · have h1 : textOf false l' d' = textOf false l d ++ [c] := by rw [List.append_assoc, List.append_cancel_left_eq] at gs; exact gs
    rw [h1] at pt
    unfold pathOk at hq1
    simp only [Bool.false_and, Bool.false_or, Bool.not_false, Bool.true_and, Bool.and_eq_true] at hq1
    by_cases h62 : c = 62
    · subst h62
      have := bad4 hq1.1 hq1.2
      have e2 : textOf false l d ++ [62] = 60 :: (l ++ 64 :: (d ++ [62]) ++ [62]) := by unfold textOf; rw [if_neg (by decide)]; simp
      rw [e2, this] at pt
      cases pt
    · have := parse_last (s := textOf false l d ++ [c]) (by simp [h62]) (by unfold textOf; rw [if_neg (by decide)]; simp; omega)
      rw [this] at pt
      cases pt
  · exact same _ gs
  · exact same _ gs
  · exact same _ gs
  · exact same _ gs
  · exact same _ gs
  · exact same _ gs
  · rw [eb (by decide)] at gs; exact same _ gs
  · exact same _ gs
  · exact same _ gs
  · exact same _ gs
  · rw [es0 (by decide)] at gs; exact same _ gs
  · exact same _ gs
  · rw [eb8 (by decide)] at gs; exact same _ gs
  · exact same _ gs
  · exact same _ gs
  · exact same _ gs
theorem no_more {s l d k e : List UInt8} (hr : rightR s false l d false k e = true) {s' : List UInt8} {n' : Bool} {l' d' : List UInt8} {m' : Bool} {k' e' : List UInt8} (hr' : rightR s' n' l' d' m' k' e' = true) (j : Nat) (hj : j < 18) :
    rep s' (textOf n' l' d') (textOf m' k' e') ≠ join (Wx (repL s (textOf false l d) (textOf false k e)) j) := fun he => by
  obtain ⟨_, _, hp1, hp2, q1, q2, q3⟩ := right_cl hr'
  obtain ⟨_, _, hq1, hq2, r1, r2, r3⟩ := right_cl hr
  have cl1 := repL_cl q1 q2 q3
  have cl2 := repL_cl r1 r2 r3
  have h := join_inj cl1 (fun y hy => by
    unfold Wx at hy
    rcases List.mem_append.1 hy with hy | hy
    · exact cl2 y (List.mem_of_mem_take hy)
    · rcases List.mem_cons.1 hy with rfl | hy
      · exact Cl.nil
      · exact cl2 y (List.mem_of_mem_drop hy)) he
  have := congrArg List.length h
  rw [Wx_len _ _ hj] at this
  exact absurd this (by decide : ¬ 18 = 18 + 1)
theorem u64_pos' (a : Int) : 0 ≤ IntKind.u64.wrap a ∧ IntKind.u64.wrap a ≤ 18446744073709551615 := by
  simp [IntKind.wrap, IntKind.bits, IntKind.signed]; omega
theorem null_no (s : List UInt8) (m : Bool) (k e : List UInt8) : rightR s true [] [] m k e = false := by unfold rightR; simp
theorem null_no' (s : List UInt8) (n : Bool) (l d : List UInt8) : rightR s n l d true [] [] = false := by unfold rightR; simp
theorem space_no (n : Bool) (l d : List UInt8) (m : Bool) (k e : List UInt8) : rightR [115, 32, 120] n l d m k e = false := by
  unfold rightR
  rw [show parts [115, 32, 120] 255 label = false by decide]
  rfl
theorem byte_dec (c : UInt8) (n : Nat) (hn : n < 256) : decide ((c.toNat : Int) = n) = (c == UInt8.ofNat n) := byte_eqn c n hn
theorem lawReportWrong (p : Bool × List UInt8 × List UInt8) (hp : True ∧ p.2.1.length ≤ room ∧ p.2.2.length ≤ room) (q : Bool × List UInt8 × List UInt8) (hq : True ∧ q.2.1.length ≤ room ∧ q.2.2.length ≤ room) (ln : Int) (hln : (Lit.int .i64 ln).wf = true) (c : UInt8) :
    evT lt ov 4 [.agg ([.bool p.1] ++ ([.str p.2.1] ++ [.str p.2.2])), .agg ([.bool q.1] ++ ([.str q.2.1] ++ [.str q.2.2])), .int .i64 ln, .int .u8 c.toNat] [] = some (.bool true, []) := by
  obtain ⟨n, l, d⟩ := p
  obtain ⟨m, k, e⟩ := q
  obtain ⟨_, hl, hd⟩ := hp
  obtain ⟨_, hk, he⟩ := hq
  simp only at hl hd hk he
  show T 4 [pathV n l d, pathV m k e, .int .i64 ln, .int .u8 c.toNat] [] = _
  have fin : ∀ {H : Hp}, evL T 20 q4 [pathV n l d, pathV m k e, .int .i64 ln, .int .u8 c.toNat] [] = some (.rt, [.bool true], H) → T 4 [pathV n l d, pathV m k e, .int .i64 ln, .int .u8 c.toNat] [] = some (.bool true, []) := fun {H} h =>
    evT_of (k := 20) (F := l4) (H' := H) (e := [.bool true]) (l := [.bool true]) rfl rfl rfl h rfl rfl
  have w1 : IntKind.i64.wrap ((l.length : Int) + d.length) = l.length + d.length := wr (by omega) (by unfold room at *; omega)
  have w2 : IntKind.i64.wrap ((l.length : Int) + d.length + k.length) = l.length + d.length + k.length := wr (by omega) (by unfold room at *; omega)
  have w3 : IntKind.i64.wrap ((l.length : Int) + d.length + k.length + e.length) = l.length + d.length + k.length + e.length := wr (by omega) (by unfold room at *; omega)
  by_cases h1 : (1000 : Int) < l.length + d.length + k.length + e.length
  · apply fin
    simp only [q4, evL_op, evL_sel, evL_nx, evL_exit, evL_ret, evL_join, evL_block, evL_cond, evK_some, evJ_nx, evJ_rt, evJ_ex, evB_nx, evB_rt, evB_ex, evC2_bool, evS_and, evS_or, evS_tf, evS_ft, ev_t, ev_s, ev_c, evalOp, bin_add, bin_sub, bin_mul, bin_eql, bin_neq, bin_lss, bin_leq, bin_gtr, bin_geq, sbin_eql, sbin_neq, b8, List.map_cons, List.map_nil, PV.rens, PV.ren, if_true, if_false, Bool.false_eq_true, reduceIte, Nat.reduceAdd, Nat.reduceSub, Nat.reduceMul, Nat.reduceEqDiff, Nat.reduceLeDiff, Int.reduceLE, Int.reduceLT, Int.reduceEq, Int.reduceToNat, Int.reduceAdd, Int.reduceSub, Int.reduceNeg, decide_true, decide_false, Bool.not_true, Bool.not_false, Bool.true_and, Bool.false_and, Bool.and_true, Bool.and_false, Bool.or_true, Bool.true_or, Bool.or_false, Bool.false_or, and_self, and_true, true_and, Nat.le_refl, Nat.zero_add, Nat.mul_one, Nat.one_ne_zero, Nat.zero_le, highP, lowP, Option.map_some, Option.map_none, List.drop_zero, List.take_zero, List.length_cons, List.length_nil, List.nil_append, List.append_nil, List.cons_append, fillP, PV.cells?, PV.one, PV.cleans, PV.clean, PV.of?, List.all_cons, List.all_nil, List.take_succ_cons, List.drop_succ_cons, Bool.and_self, Int.natCast_nonneg, Int.toNat_natCast, Int.toNat_zero, PV.of?, Tk.ren, tailP, evL_loop, or_true, true_or, Nat.zero_lt_one, Nat.sub_zero, List.getElem?_cons_zero, List.getElem?_cons_succ, List.set_cons_zero, List.set_cons_succ, List.take_length, PV.rens, PV.ren, w1, w2, w3, h1] <;> rfl
  have c1 := T10 [115, 46, 120] n l d m k e (by simp only [List.length_cons, List.length_nil]; omega)
  cases hr : rightR [115, 46, 120] n l d m k e with
  | false =>
    rw [hr] at c1
    apply fin
    simp only [q4, evL_op, evL_sel, evL_nx, evL_exit, evL_ret, evL_join, evL_block, evL_cond, evK_some, evJ_nx, evJ_rt, evJ_ex, evB_nx, evB_rt, evB_ex, evC2_bool, evS_and, evS_or, evS_tf, evS_ft, ev_t, ev_s, ev_c, evalOp, bin_add, bin_sub, bin_mul, bin_eql, bin_neq, bin_lss, bin_leq, bin_gtr, bin_geq, sbin_eql, sbin_neq, b8, List.map_cons, List.map_nil, PV.rens, PV.ren, if_true, if_false, Bool.false_eq_true, reduceIte, Nat.reduceAdd, Nat.reduceSub, Nat.reduceMul, Nat.reduceEqDiff, Nat.reduceLeDiff, Int.reduceLE, Int.reduceLT, Int.reduceEq, Int.reduceToNat, Int.reduceAdd, Int.reduceSub, Int.reduceNeg, decide_true, decide_false, Bool.not_true, Bool.not_false, Bool.true_and, Bool.false_and, Bool.and_true, Bool.and_false, Bool.or_true, Bool.true_or, Bool.or_false, Bool.false_or, and_self, and_true, true_and, Nat.le_refl, Nat.zero_add, Nat.mul_one, Nat.one_ne_zero, Nat.zero_le, highP, lowP, Option.map_some, Option.map_none, List.drop_zero, List.take_zero, List.length_cons, List.length_nil, List.nil_append, List.append_nil, List.cons_append, fillP, PV.cells?, PV.one, PV.cleans, PV.clean, PV.of?, List.all_cons, List.all_nil, List.take_succ_cons, List.drop_succ_cons, Bool.and_self, Int.natCast_nonneg, Int.toNat_natCast, Int.toNat_zero, PV.of?, Tk.ren, tailP, evL_loop, or_true, true_or, Nat.zero_lt_one, Nat.sub_zero, List.getElem?_cons_zero, List.getElem?_cons_succ, List.set_cons_zero, List.set_cons_succ, List.take_length, PV.rens, PV.ren, w1, w2, w3, h1, c1] <;> rfl
  | true =>
    rw [hr] at c1
    obtain ⟨rfl, rfl, _⟩ := right_cl hr
    have c2 := Build_no [115, 46, 120] true [] [] false k e (by simp only [List.length_cons, List.length_nil]; omega) (null_no _ _ _ _)
    have c3 := Build_no [115, 46, 120] false l d true [] [] (by simp only [List.length_cons, List.length_nil]; omega) (null_no' _ _ _ _)
    have c4 := Build_no [115, 32, 120] false l d false k e (by simp only [List.length_cons, List.length_nil]; omega) (space_no _ _ _ _ _ _)
    have c5 := T12 [115, 46, 120] false l d false k e (by simp only [List.length_cons, List.length_nil]; omega)
    have hrl := rep_len [115, 46, 120] (textOf false l d) (textOf false k e)
    have la := textOf_len false l d
    have lb := textOf_len false k e
    have c6 := T15 (rep [115, 46, 120] (textOf false l d) (textOf false k e)) (by rw [hrl]; simp only [List.length_cons, List.length_nil]; omega)
    rw [rep_lines hr] at c6
    have hL : (repL [115, 46, 120] (textOf false l d) (textOf false k e)).length = 18 := rfl
    have hset := fun (j : Nat) (x : List UInt8) (hx : (repL [115, 46, 120] (textOf false l d) (textOf false k e))[j]? = some x) (hc : c ≠ 13 ∧ c ≠ 10) {s' : List UInt8} {n' : Bool} {l' d' : List UInt8} {m' : Bool} {k' e' : List UInt8} (hr' : rightR s' n' l' d' m' k' e' = true) => no_set hr hr' hx c hc
    have hmore := fun (j : Nat) (hj : j < 18) {s' : List UInt8} {n' : Bool} {l' d' : List UInt8} {m' : Bool} {k' e' : List UInt8} (hr' : rightR s' n' l' d' m' k' e' = true) => no_more hr hr' j hj
    have hjl : (join (repL [115, 46, 120] (textOf false l d) (textOf false k e))).length ≤ 3000 := by
      show (rep _ _ _).length ≤ _
      rw [hrl]; simp only [List.length_cons, List.length_nil]; omega
    generalize repL [115, 46, 120] (textOf false l d) (textOf false k e) = L at *
    generalize rep [115, 46, 120] (textOf false l d) (textOf false k e) = R at *
    have hne : L ≠ [] := fun e => by rw [e] at hL; cases hL
    rw [accL_cons _ hne, hL] at c6
    have u1 := u64_pos' ln
    generalize hj : (IntKind.u64.wrap ln).tmod 18 = j at *
    rw [Int.tmod_eq_emod_of_nonneg u1.1] at hj
    obtain ⟨j, rfl⟩ : ∃ j' : Nat, j = (j' : Int) := ⟨j.toNat, by omega⟩
    have hj18 : j < 18 := by omega
    have u5 : binP .rem (.int .u64 (IntKind.u64.wrap ln)) (.int .u64 18) = some (.int .u64 j) := by rw [bin_rem (by decide), Int.tmod_eq_emod_of_nonneg u1.1, hj]
    have w5 : IntKind.i64.wrap (j : Int) = j := wr (by omega) (by omega)
    have w6 : IntKind.u64.wrap 18 = 18 := by decide
    have o18 : ((18 : Nat) : Int) = 18 := rfl
    have e13 := byte_dec c 13 (by decide)
    have e10 := byte_dec c 10 (by decide)
    have o13 : ((13 : Nat) : Int) = 13 := rfl
    have o10 : ((10 : Nat) : Int) = 10 := rfl
    rw [o13] at e13
    rw [o10] at e10
    by_cases hc : (c == UInt8.ofNat 13 || c == UInt8.ofNat 10) = true
    · apply fin
      simp only [q4, evL_op, evL_sel, evL_nx, evL_exit, evL_ret, evL_join, evL_block, evL_cond, evK_some, evJ_nx, evJ_rt, evJ_ex, evB_nx, evB_rt, evB_ex, evC2_bool, evS_and, evS_or, evS_tf, evS_ft, ev_t, ev_s, ev_c, evalOp, bin_add, bin_sub, bin_mul, bin_eql, bin_neq, bin_lss, bin_leq, bin_gtr, bin_geq, sbin_eql, sbin_neq, b8, List.map_cons, List.map_nil, PV.rens, PV.ren, if_true, if_false, Bool.false_eq_true, reduceIte, Nat.reduceAdd, Nat.reduceSub, Nat.reduceMul, Nat.reduceEqDiff, Nat.reduceLeDiff, Int.reduceLE, Int.reduceLT, Int.reduceEq, Int.reduceToNat, Int.reduceAdd, Int.reduceSub, Int.reduceNeg, decide_true, decide_false, Bool.not_true, Bool.not_false, Bool.true_and, Bool.false_and, Bool.and_true, Bool.and_false, Bool.or_true, Bool.true_or, Bool.or_false, Bool.false_or, and_self, and_true, true_and, Nat.le_refl, Nat.zero_add, Nat.mul_one, Nat.one_ne_zero, Nat.zero_le, highP, lowP, Option.map_some, Option.map_none, List.drop_zero, List.take_zero, List.length_cons, List.length_nil, List.nil_append, List.append_nil, List.cons_append, fillP, PV.cells?, PV.one, PV.cleans, PV.clean, PV.of?, List.all_cons, List.all_nil, List.take_succ_cons, List.drop_succ_cons, Bool.and_self, Int.natCast_nonneg, Int.toNat_natCast, Int.toNat_zero, PV.of?, Tk.ren, tailP, evL_loop, or_true, true_or, Nat.zero_lt_one, Nat.sub_zero, List.getElem?_cons_zero, List.getElem?_cons_succ, List.set_cons_zero, List.set_cons_succ, List.take_length, PV.rens, PV.ren, w1, w2, w3, w5, w6, h1, c1, c2, c3, c4, c5, c6, o18, u5, e13, e10, hc, T_wakes] <;> rfl
    · have hc' : (c == UInt8.ofNat 13 || c == UInt8.ofNat 10) = false := by simpa using hc
      have hcc : c ≠ 13 ∧ c ≠ 10 := by
        simp only [Bool.or_eq_false_iff, beq_eq_false_iff_ne] at hc'
        exact hc'
      have hjL : j < L.length := by omega
      have lx : (L[j]).length ≤ 3000 := by
        have := join_take hjL
        have h2 := join_take_len L (j + 1)
        rw [this] at h2
        simp only [List.length_append, List.length_cons, List.length_nil] at h2
        omega
      have l1 : (join (L.set j (L[j] ++ [c]))).length = (join L).length + 1 := by
        have e1 : L = L.take j ++ L[j] :: L.drop (j + 1) := by rw [← List.drop_eq_getElem_cons hjL, List.take_append_drop]
        rw [List.set_eq_take_append_cons_drop, if_pos hjL]
        conv => rhs; rw [e1]
        rw [join_app, join_app, join_cons, join_cons]
        simp only [List.length_append, List.length_cons, List.length_nil]
        omega
      have l2 : (join (Wx L j)).length = (join L).length + 2 := by
        unfold Wx
        conv => rhs; rw [← List.take_append_drop (j + 1) L]
        rw [join_app, join_app, join_cons]
        simp only [List.length_append, List.length_cons, List.length_nil]
        omega
      have lp := loop_wrong L j hjL c 20 (by omega) (by omega) (by omega) 20 (by omega)
      have eb : Wb L j hjL c L.length = join (L.set j (L[j] ++ [c])) := by
        unfold Wb
        rw [List.take_of_length_le (by rw [List.length_set]; exact Nat.le_refl _)]
      have em : Wm L j L.length = join (Wx L j) := by
        unfold Wm
        rw [if_neg (by omega), List.take_of_length_le (by rw [Wx_len _ _ hjL]; exact Nat.le_refl _)]
      have d1 := Read_no (join (L.set j (L[j] ++ [c]))) (by omega) (fun s' n' l' d' m' k' e' hr' => hset j _ (List.getElem?_eq_getElem hjL) hcc hr')
      have d2 := Read_no (join (Wx L j)) (by omega) (fun s' n' l' d' m' k' e' hr' => hmore j hj18 hr')
      have n1 : join (L.set j (L[j] ++ [c])) ≠ [] := fun e => by rw [e] at l1; cases l1
      have n2 : join (Wx L j) ≠ [] := fun e => by rw [e] at l2; cases l2
      rw [eb, em, accB_ne _ n1, accB_ne _ n2, hL] at lp
      have c9 := fun (n m : Bool) (l d k e : List UInt8) => T13 n m l d k e
      generalize join (L.set j (L[j] ++ [c])) = B at *
      generalize join (Wx L j) = M at *
      apply fin
      simp only [q4, evL_op, evL_sel, evL_nx, evL_exit, evL_ret, evL_join, evL_block, evL_cond, evK_some, evJ_nx, evJ_rt, evJ_ex, evB_nx, evB_rt, evB_ex, evC2_bool, evS_and, evS_or, evS_tf, evS_ft, ev_t, ev_s, ev_c, evalOp, bin_add, bin_sub, bin_mul, bin_eql, bin_neq, bin_lss, bin_leq, bin_gtr, bin_geq, sbin_eql, sbin_neq, b8, List.map_cons, List.map_nil, PV.rens, PV.ren, if_true, if_false, Bool.false_eq_true, reduceIte, Nat.reduceAdd, Nat.reduceSub, Nat.reduceMul, Nat.reduceEqDiff, Nat.reduceLeDiff, Int.reduceLE, Int.reduceLT, Int.reduceEq, Int.reduceToNat, Int.reduceAdd, Int.reduceSub, Int.reduceNeg, decide_true, decide_false, Bool.not_true, Bool.not_false, Bool.true_and, Bool.false_and, Bool.and_true, Bool.and_false, Bool.or_true, Bool.true_or, Bool.or_false, Bool.false_or, and_self, and_true, true_and, Nat.le_refl, Nat.zero_add, Nat.mul_one, Nat.one_ne_zero, Nat.zero_le, highP, lowP, Option.map_some, Option.map_none, List.drop_zero, List.take_zero, List.length_cons, List.length_nil, List.nil_append, List.append_nil, List.cons_append, fillP, PV.cells?, PV.one, PV.cleans, PV.clean, PV.of?, List.all_cons, List.all_nil, List.take_succ_cons, List.drop_succ_cons, Bool.and_self, Int.natCast_nonneg, Int.toNat_natCast, Int.toNat_zero, PV.of?, Tk.ren, tailP, evL_loop, or_true, true_or, Nat.zero_lt_one, Nat.sub_zero, List.getElem?_cons_zero, List.getElem?_cons_succ, List.set_cons_zero, List.set_cons_succ, List.take_length, PV.rens, PV.ren, w1, w2, w3, w5, w6, h1, c1, c2, c3, c4, c5, c6, o18, u5, e13, e10, hc']
      rw [lp]
      simp only [q4_3, evL_op, evL_sel, evL_nx, evL_exit, evL_ret, evL_join, evL_block, evL_cond, evK_some, evJ_nx, evJ_rt, evJ_ex, evB_nx, evB_rt, evB_ex, evC2_bool, evS_and, evS_or, evS_tf, evS_ft, ev_t, ev_s, ev_c, evalOp, bin_add, bin_sub, bin_mul, bin_eql, bin_neq, bin_lss, bin_leq, bin_gtr, bin_geq, sbin_eql, sbin_neq, b8, List.map_cons, List.map_nil, PV.rens, PV.ren, if_true, if_false, Bool.false_eq_true, reduceIte, Nat.reduceAdd, Nat.reduceSub, Nat.reduceMul, Nat.reduceEqDiff, Nat.reduceLeDiff, Int.reduceLE, Int.reduceLT, Int.reduceEq, Int.reduceToNat, Int.reduceAdd, Int.reduceSub, Int.reduceNeg, decide_true, decide_false, Bool.not_true, Bool.not_false, Bool.true_and, Bool.false_and, Bool.and_true, Bool.and_false, Bool.or_true, Bool.true_or, Bool.or_false, Bool.false_or, and_self, and_true, true_and, Nat.le_refl, Nat.zero_add, Nat.mul_one, Nat.one_ne_zero, Nat.zero_le, highP, lowP, Option.map_some, Option.map_none, List.drop_zero, List.take_zero, List.length_cons, List.length_nil, List.nil_append, List.append_nil, List.cons_append, fillP, PV.cells?, PV.one, PV.cleans, PV.clean, PV.of?, List.all_cons, List.all_nil, List.take_succ_cons, List.drop_succ_cons, Bool.and_self, Int.natCast_nonneg, Int.toNat_natCast, Int.toNat_zero, PV.of?, Tk.ren, tailP, evL_loop, or_true, true_or, Nat.zero_lt_one, Nat.sub_zero, List.getElem?_cons_zero, List.getElem?_cons_succ, List.set_cons_zero, List.set_cons_succ, List.take_length, PV.rens, PV.ren, d1, d2, c9, T_wakes, beq_self_eq_true, eq_self] <;> rfl
end Go.Proofs.YtghnffhgmhfofaaDoor.Tab
