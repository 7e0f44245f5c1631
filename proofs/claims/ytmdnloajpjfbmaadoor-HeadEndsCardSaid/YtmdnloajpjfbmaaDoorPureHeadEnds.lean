/- HeadEnds: it is true. -/
import Derived.Test.YtmdnloajpjfbmaaDoorFront
namespace Go.Proofs.YtmdnloajpjfbmaaDoor.Tab
set_option linter.all false
open Go Go.RowKit Go.Proofs.YtmdnloajpjfbmaaDoor.Ev
theorem scan_split : ∀ (L : List (List UInt8)) (out : List Fld) (e : Nat), ∃ A Z, L = A ++ Z ∧ (scanGo out e L).2 = e + (join A).length ∧
    ((∃ A', A = A' ++ [[]] ∧ ∀ Y, scanGo out e (A' ++ [] :: Y) = ((scanGo out e L).1, (scanGo out e L).2)) ∨ ∀ Y, scanGo out e (A ++ [] :: Y) = ((scanGo out e L).1, (scanGo out e L).2 + 2))
  | [], out, e => ⟨[], [], rfl, rfl, .inr fun Y => by
      rw [List.nil_append, scan_end rfl (by rfl), if_pos rfl]; rfl⟩
  | l :: r, out, e => by
    cases hn : (nameF l).2.2 with
    | true =>
      obtain ⟨A, Z, h1, h2, h3⟩ := scan_split r (out ++ [((nameF l).1, (nameF l).2.1)]) (e + (l.length + 2))
      rw [scan_is hn]
      refine ⟨l :: A, Z, by rw [h1]; rfl, by rw [h2, join_cons]; simp; omega, ?_⟩
      rcases h3 with ⟨A', hA, h3⟩ | h3
      · exact .inl ⟨l :: A', by rw [hA]; rfl, fun Y => by rw [List.cons_append, scan_is hn]; exact h3 Y⟩
      · exact .inr fun Y => by rw [List.cons_append, scan_is hn]; exact h3 Y
    | false =>
      cases hm : moreB l && decide (out ≠ []) with
      | true =>
        simp only [Bool.and_eq_true, decide_eq_true_eq] at hm
        rcases List.eq_nil_or_concat out with ho | ⟨p, g, ho⟩
        · exact absurd ho hm.2
        rw [List.concat_eq_append] at ho
        subst ho
        obtain ⟨A, Z, h1, h2, h3⟩ := scan_split r (p ++ [(g.1, g.2 ++ l)]) (e + (l.length + 2))
        rw [scan_more hn hm.1]
        refine ⟨l :: A, Z, by rw [h1]; rfl, by rw [h2, join_cons]; simp; omega, ?_⟩
        rcases h3 with ⟨A', hA, h3⟩ | h3
        · exact .inl ⟨l :: A', by rw [hA]; rfl, fun Y => by rw [List.cons_append, scan_more hn hm.1]; exact h3 Y⟩
        · exact .inr fun Y => by rw [List.cons_append, scan_more hn hm.1]; exact h3 Y
      | false =>
        rw [scan_end hn hm]
        by_cases hl : l = []
        · subst hl
          rw [if_pos rfl]
          exact ⟨[[]], r, rfl, rfl, .inl ⟨[], rfl, fun Y => by rw [List.nil_append, scan_end rfl (by rfl), if_pos rfl]⟩⟩
        · rw [if_neg hl]
          exact ⟨[], l :: r, rfl, rfl, .inr fun Y => by rw [List.nil_append, scan_end rfl (by rfl), if_pos rfl]⟩
/-- A header, an empty line and a text behind it. -/
theorem ends {b more : List UInt8} (hb : body b = true) (hm : body more = true) : ∃ (n mx : Nat) (o : List Fld), n ≤ b.length ∧ scanGo [] 0 (lines b) = (o, n) ∧ body (b.take n ++ [13, 10] ++ more) = true ∧ scanGo [] 0 (lines (b.take n ++ [13, 10] ++ more)) = (o, mx) ∧
    ((mx = n ∧ 2 ≤ n ∧ (b.take n).drop (n - 2) = [13, 10] ∧ (n = 2 ∨ 3 ≤ n ∧ b[n - 3]? = some 10)) ∨ mx = n + 2) := by
  obtain ⟨h1, h2⟩ := body_lines hb
  obtain ⟨k1, k2⟩ := body_lines hm
  obtain ⟨A, Z, hL, hn, hk⟩ := scan_split (lines b) [] 0
  have hbA : b = join A ++ join Z := by rw [← join_app, ← hL, ← h1]
  rw [Nat.zero_add] at hn
  have htk : b.take (join A).length = join A := by rw [hbA, List.take_left]
  have hcA : ∀ l ∈ A, Cl l := fun l hl => h2 l (by rw [hL]; exact List.mem_append_left _ hl)
  refine ⟨(join A).length, ?_⟩
  rw [htk]
  have hle : (join A).length ≤ b.length := by rw [hbA, List.length_append]; omega
  rcases hk with ⟨A', hA, hk⟩ | hk
  · have e1 : join A ++ [13, 10] ++ more = join (A' ++ [] :: ([] :: lines more)) := by
      rw [join_app, join_cons, join_cons, ← k1, hA, join_app, join_one]; simp
    have hc : ∀ l ∈ A' ++ [] :: ([] :: lines more), Cl l := fun l hl => by
      rcases List.mem_append.1 hl with hl | hl
      · exact hcA l (by rw [hA]; exact List.mem_append_left _ hl)
      · rcases List.mem_cons.1 hl with rfl | hl
        · exact Cl.nil
        · rcases List.mem_cons.1 hl with rfl | hl
          · exact Cl.nil
          · exact k2 l hl
    refine ⟨(join A).length, (scanGo [] 0 (lines b)).1, hle, Prod.ext rfl hn, by rw [e1]; exact body_join hc, ?_, .inl ⟨rfl, ?_⟩⟩
    · rw [e1, lines_join hc, hk, hn]
    · have hjA : join A = join A' ++ [13, 10] := by rw [hA, join_app, join_one]; rfl
      have hlA : (join A).length = (join A').length + 2 := by rw [hjA]; simp
      rw [hlA]
      refine ⟨by omega, ?_, ?_⟩
      · rw [hjA, show (join A').length + 2 - 2 = (join A').length by omega, List.drop_left]
      · by_cases h0 : A' = []
        · subst h0; exact .inl rfl
        · obtain ⟨p, hp⟩ := join_last h0
          have hlp : (join A').length = p.length + 2 := by rw [hp]; simp
          refine .inr ⟨by omega, ?_⟩
          rw [hlp, show p.length + 2 + 2 - 3 = p.length + 1 by omega, hbA, hjA, hp]
          simp
  · have e1 : join A ++ [13, 10] ++ more = join (A ++ [] :: lines more) := by
      rw [join_app, join_cons, ← k1]; simp
    have hc : ∀ l ∈ A ++ [] :: lines more, Cl l := fun l hl => by
      rcases List.mem_append.1 hl with hl | hl
      · exact hcA l hl
      · rcases List.mem_cons.1 hl with rfl | hl
        · exact Cl.nil
        · exact k2 l hl
    refine ⟨(join A).length + 2, (scanGo [] 0 (lines b)).1, hle, Prod.ext rfl hn, by rw [e1]; exact body_join hc, ?_, .inr rfl⟩
    rw [e1, lines_join hc, hk, hn]
theorem lawHeadEnds (b : List UInt8) (hb : b.length ≤ room ∧ ∀ y ∈ b, True) (more : List UInt8) (hm : more.length ≤ room ∧ ∀ y ∈ more, True) :
    evT lt ov 5 [.sl .no 1 b.length (b.map b8), .sl .no 1 more.length (more.map b8)] [] = some (.bool true, []) := by
  obtain ⟨hb, _⟩ := hb
  obtain ⟨hm, _⟩ := hm
  show T 5 [sl8 b, sl8 more] [] = _
  have fin : ∀ {H : Hp}, evL T 0 q5 [sl8 b, sl8 more] [] = some (.rt, [.bool true], H) → T 5 [sl8 b, sl8 more] [] = some (.bool true, []) := fun {H} h =>
    evT_of (k := 0) (F := l5) (H' := H) (e := [.bool true]) (l := [.bool true]) rfl rfl rfl h rfl rfl
  by_cases h1 : (2000 : Int) < b.length
  · apply fin
    simp only [q5, evL_op, evL_sel, evL_nx, evL_exit, evL_ret, evL_join, evL_block, evL_cond, evK_some, evJ_nx, evJ_rt, evJ_ex, evB_nx, evB_rt, evB_ex, evC2_bool, evS_and, evS_or, evS_tf, evS_ft, ev_t, ev_s, ev_c, evalOp, bin_add, bin_sub, bin_mul, bin_eql, bin_neq, bin_lss, bin_leq, bin_gtr, bin_geq, sbin_eql, sbin_neq, b8, List.map_cons, List.map_nil, PV.rens, PV.ren, if_true, if_false, Bool.false_eq_true, reduceIte, Nat.reduceAdd, Nat.reduceSub, Nat.reduceMul, Nat.reduceEqDiff, Nat.reduceLeDiff, Int.reduceLE, Int.reduceLT, Int.reduceEq, Int.reduceToNat, Int.reduceAdd, Int.reduceSub, Int.reduceNeg, decide_true, decide_false, Bool.not_true, Bool.not_false, Bool.true_and, Bool.false_and, Bool.and_true, Bool.and_false, Bool.or_true, Bool.true_or, Bool.or_false, Bool.false_or, and_self, and_true, true_and, Nat.le_refl, Nat.zero_add, Nat.mul_one, Nat.one_ne_zero, Nat.zero_le, highP, lowP, Option.map_some, Option.map_none, List.drop_zero, List.take_zero, List.length_cons, List.length_nil, List.nil_append, List.append_nil, List.cons_append, fillP, PV.cells?, PV.one, PV.cleans, PV.clean, PV.of?, List.all_cons, List.all_nil, List.take_succ_cons, List.drop_succ_cons, Bool.and_self, Int.natCast_nonneg, Int.toNat_natCast, Int.toNat_zero, PV.of?, Tk.ren, tailP, evL_loop, or_true, true_or, Nat.zero_lt_one, Nat.sub_zero, List.getElem?_cons_zero, List.getElem?_cons_succ, List.set_cons_zero, List.set_cons_succ, List.take_length, h1] <;> rfl
  by_cases h2 : (2000 : Int) < more.length
  · apply fin
    simp only [q5, evL_op, evL_sel, evL_nx, evL_exit, evL_ret, evL_join, evL_block, evL_cond, evK_some, evJ_nx, evJ_rt, evJ_ex, evB_nx, evB_rt, evB_ex, evC2_bool, evS_and, evS_or, evS_tf, evS_ft, ev_t, ev_s, ev_c, evalOp, bin_add, bin_sub, bin_mul, bin_eql, bin_neq, bin_lss, bin_leq, bin_gtr, bin_geq, sbin_eql, sbin_neq, b8, List.map_cons, List.map_nil, PV.rens, PV.ren, if_true, if_false, Bool.false_eq_true, reduceIte, Nat.reduceAdd, Nat.reduceSub, Nat.reduceMul, Nat.reduceEqDiff, Nat.reduceLeDiff, Int.reduceLE, Int.reduceLT, Int.reduceEq, Int.reduceToNat, Int.reduceAdd, Int.reduceSub, Int.reduceNeg, decide_true, decide_false, Bool.not_true, Bool.not_false, Bool.true_and, Bool.false_and, Bool.and_true, Bool.and_false, Bool.or_true, Bool.true_or, Bool.or_false, Bool.false_or, and_self, and_true, true_and, Nat.le_refl, Nat.zero_add, Nat.mul_one, Nat.one_ne_zero, Nat.zero_le, highP, lowP, Option.map_some, Option.map_none, List.drop_zero, List.take_zero, List.length_cons, List.length_nil, List.nil_append, List.append_nil, List.cons_append, fillP, PV.cells?, PV.one, PV.cleans, PV.clean, PV.of?, List.all_cons, List.all_nil, List.take_succ_cons, List.drop_succ_cons, Bool.and_self, Int.natCast_nonneg, Int.toNat_natCast, Int.toNat_zero, PV.of?, Tk.ren, tailP, evL_loop, or_true, true_or, Nat.zero_lt_one, Nat.sub_zero, List.getElem?_cons_zero, List.getElem?_cons_succ, List.set_cons_zero, List.set_cons_succ, List.take_length, h1, h2] <;> rfl
  have c9 := T9 b (by omega)
  have d9 := T9 more (by omega)
  cases hbb : body b with
  | false =>
    rw [hbb] at c9
    apply fin
    simp only [q5, evL_op, evL_sel, evL_nx, evL_exit, evL_ret, evL_join, evL_block, evL_cond, evK_some, evJ_nx, evJ_rt, evJ_ex, evB_nx, evB_rt, evB_ex, evC2_bool, evS_and, evS_or, evS_tf, evS_ft, ev_t, ev_s, ev_c, evalOp, bin_add, bin_sub, bin_mul, bin_eql, bin_neq, bin_lss, bin_leq, bin_gtr, bin_geq, sbin_eql, sbin_neq, b8, List.map_cons, List.map_nil, PV.rens, PV.ren, if_true, if_false, Bool.false_eq_true, reduceIte, Nat.reduceAdd, Nat.reduceSub, Nat.reduceMul, Nat.reduceEqDiff, Nat.reduceLeDiff, Int.reduceLE, Int.reduceLT, Int.reduceEq, Int.reduceToNat, Int.reduceAdd, Int.reduceSub, Int.reduceNeg, decide_true, decide_false, Bool.not_true, Bool.not_false, Bool.true_and, Bool.false_and, Bool.and_true, Bool.and_false, Bool.or_true, Bool.true_or, Bool.or_false, Bool.false_or, and_self, and_true, true_and, Nat.le_refl, Nat.zero_add, Nat.mul_one, Nat.one_ne_zero, Nat.zero_le, highP, lowP, Option.map_some, Option.map_none, List.drop_zero, List.take_zero, List.length_cons, List.length_nil, List.nil_append, List.append_nil, List.cons_append, fillP, PV.cells?, PV.one, PV.cleans, PV.clean, PV.of?, List.all_cons, List.all_nil, List.take_succ_cons, List.drop_succ_cons, Bool.and_self, Int.natCast_nonneg, Int.toNat_natCast, Int.toNat_zero, PV.of?, Tk.ren, tailP, evL_loop, or_true, true_or, Nat.zero_lt_one, Nat.sub_zero, List.getElem?_cons_zero, List.getElem?_cons_succ, List.set_cons_zero, List.set_cons_succ, List.take_length, PV.rens, PV.ren, h1, h2, c9] <;> rfl
  | true =>
  rw [hbb] at c9
  cases hbm : body more with
  | false =>
    rw [hbm] at d9
    apply fin
    simp only [q5, evL_op, evL_sel, evL_nx, evL_exit, evL_ret, evL_join, evL_block, evL_cond, evK_some, evJ_nx, evJ_rt, evJ_ex, evB_nx, evB_rt, evB_ex, evC2_bool, evS_and, evS_or, evS_tf, evS_ft, ev_t, ev_s, ev_c, evalOp, bin_add, bin_sub, bin_mul, bin_eql, bin_neq, bin_lss, bin_leq, bin_gtr, bin_geq, sbin_eql, sbin_neq, b8, List.map_cons, List.map_nil, PV.rens, PV.ren, if_true, if_false, Bool.false_eq_true, reduceIte, Nat.reduceAdd, Nat.reduceSub, Nat.reduceMul, Nat.reduceEqDiff, Nat.reduceLeDiff, Int.reduceLE, Int.reduceLT, Int.reduceEq, Int.reduceToNat, Int.reduceAdd, Int.reduceSub, Int.reduceNeg, decide_true, decide_false, Bool.not_true, Bool.not_false, Bool.true_and, Bool.false_and, Bool.and_true, Bool.and_false, Bool.or_true, Bool.true_or, Bool.or_false, Bool.false_or, and_self, and_true, true_and, Nat.le_refl, Nat.zero_add, Nat.mul_one, Nat.one_ne_zero, Nat.zero_le, highP, lowP, Option.map_some, Option.map_none, List.drop_zero, List.take_zero, List.length_cons, List.length_nil, List.nil_append, List.append_nil, List.cons_append, fillP, PV.cells?, PV.one, PV.cleans, PV.clean, PV.of?, List.all_cons, List.all_nil, List.take_succ_cons, List.drop_succ_cons, Bool.and_self, Int.natCast_nonneg, Int.toNat_natCast, Int.toNat_zero, PV.of?, Tk.ren, tailP, evL_loop, or_true, true_or, Nat.zero_lt_one, Nat.sub_zero, List.getElem?_cons_zero, List.getElem?_cons_succ, List.set_cons_zero, List.set_cons_succ, List.take_length, PV.rens, PV.ren, h1, h2, c9, d9] <;> rfl
  | true =>
  rw [hbm] at d9
  obtain ⟨n, mx, o, hn, hs, hxb, hxs, hc⟩ := ends hbb hbm
  obtain ⟨z1, n1, L1, t1, H1, htH1, c12, hf1, _⟩ := scans b (by omega) hbb
  rw [hs] at c12 hf1
  have hPl : (b.take n).length = n := by rw [List.length_take]; omega
  obtain ⟨z2, n2, L2, t2, H2, htH2, k12, hf2, _⟩ := scans (b.take n ++ [13, 10] ++ more) (by rw [List.length_append, List.length_append, hPl]; simp; omega) hxb
  rw [hxs] at k12 hf2
  dsimp only at c12 hf1 k12 hf2
  have hol := (scan_b b (by omega)).2
  rw [hs] at hol
  dsimp only at hol
  have c13 := T13 hf1 hf2 (by omega)
  have c15 := T15 (BS.sl (b.take n)) (by omega)
  unfold sl8 at c15
  rw [hPl] at c15
  have e : sl8 (b.take n ++ [13, 10] ++ more) = .sl .no 1 (n + 2 + more.length) ((b.take n).map b8 ++ [.int .u8 13, .int .u8 10] ++ more.map b8) := by
    unfold sl8
    rw [List.length_append, List.length_append, List.map_append, List.map_append, hPl]
    rfl
  rw [e] at k12
  have et : (b.map b8).take n = (b.take n).map b8 := by rw [List.map_take]
  have g0 : ¬ (n : Int) < 0 := by omega
  have g1 : ¬ (b.length : Int) < n := by omega
  have g2 : (n : Int) ≤ b.length := by omega
  have r1 : n + 2 ≤ roomMax := by unfold roomMax; omega
  have r2 : n + 2 + more.length ≤ roomMax := by unfold roomMax; omega
  have w2 : IntKind.i64.wrap ((n : Int) + 2) = ((n + 2 : Nat) : Int) := by rw [wr (by omega) (by omega)]; omega
  by_cases hn2 : 2 ≤ n
  · have g3 : (2 : Int) ≤ n := by omega
    have w3 : IntKind.i64.wrap ((n : Int) - 2) = ((n - 2 : Nat) : Int) := by rw [wr (by omega) (by omega)]; omega
    have g4 : ((n - 2 : Nat) : Int) ≤ n := by omega
    have g4' : n - 2 ≤ n := by omega
    have e3 : n - (n - 2) = 2 := by omega
    have ex : ((b.take n).map b8).drop (n - 2) = ((b.take n).drop (n - 2)).map b8 := by rw [List.map_drop]
    have hXl : ((b.take n).drop (n - 2)).length = 2 := by rw [List.length_drop, hPl]; omega
    have c16 := T_bytes8 ((b.take n).drop (n - 2)) [13, 10] (by omega)
    unfold sl8 at c16
    rw [hXl] at c16
    have c16' : T 16 [.sl .no 1 2 (((b.take n).drop (n - 2)).map b8), .sl .no 1 2 [.int .u8 13, .int .u8 10]] [] = some (.bool (decide ((b.take n).drop (n - 2) = [13, 10])), []) := c16
    generalize hX : (b.take n).drop (n - 2) = X at *
    generalize hd : decide (X = [13, 10]) = d at *
    by_cases h22 : n = 2
    · have g5 : decide ((n : Int) = 2) = true := by simp [h22]
      rcases hc with ⟨rfl, _, hX2, _⟩ | rfl
      · have : d = true := by rw [← hd]; simpa using hX2
        subst this
        rcases htH1 with ⟨rfl, rfl⟩ | ⟨rfl, rfl⟩ <;> rcases htH2 with ⟨rfl, rfl⟩ | ⟨rfl, rfl⟩ <;> (apply fin; simp only [q5, evL_op, evL_sel, evL_nx, evL_exit, evL_ret, evL_join, evL_block, evL_cond, evK_some, evJ_nx, evJ_rt, evJ_ex, evB_nx, evB_rt, evB_ex, evC2_bool, evS_and, evS_or, evS_tf, evS_ft, ev_t, ev_s, ev_c, evalOp, bin_add, bin_sub, bin_mul, bin_eql, bin_neq, bin_lss, bin_leq, bin_gtr, bin_geq, sbin_eql, sbin_neq, b8, List.map_cons, List.map_nil, PV.rens, PV.ren, if_true, if_false, Bool.false_eq_true, reduceIte, Nat.reduceAdd, Nat.reduceSub, Nat.reduceMul, Nat.reduceEqDiff, Nat.reduceLeDiff, Int.reduceLE, Int.reduceLT, Int.reduceEq, Int.reduceToNat, Int.reduceAdd, Int.reduceSub, Int.reduceNeg, decide_true, decide_false, Bool.not_true, Bool.not_false, Bool.true_and, Bool.false_and, Bool.and_true, Bool.and_false, Bool.or_true, Bool.true_or, Bool.or_false, Bool.false_or, and_self, and_true, true_and, Nat.le_refl, Nat.zero_add, Nat.mul_one, Nat.one_ne_zero, Nat.zero_le, highP, lowP, Option.map_some, Option.map_none, List.drop_zero, List.take_zero, List.length_cons, List.length_nil, List.nil_append, List.append_nil, List.cons_append, fillP, PV.cells?, PV.one, PV.cleans, PV.clean, PV.of?, List.all_cons, List.all_nil, List.take_succ_cons, List.drop_succ_cons, Bool.and_self, Int.natCast_nonneg, Int.toNat_natCast, Int.toNat_zero, PV.of?, Tk.ren, tailP, evL_loop, or_true, true_or, Nat.zero_lt_one, Nat.sub_zero, List.getElem?_cons_zero, List.getElem?_cons_succ, List.set_cons_zero, List.set_cons_succ, List.take_length, PV.rens, PV.ren, h1, h2, c9, d9, c12, g0, g1, g2, et, c15, r1, r2, k12, c13, g3, w2, w3, g4, g4', e3, ex, hX, c16', g5, Nat.one_mul, shift, Nat.add_zero, evS_yes, evS1_nx, T_wakes, beq_self_eq_true, eq_self, o0, o1] <;> rfl)
      · cases d <;> rcases htH1 with ⟨rfl, rfl⟩ | ⟨rfl, rfl⟩ <;> rcases htH2 with ⟨rfl, rfl⟩ | ⟨rfl, rfl⟩ <;> (apply fin; simp only [q5, evL_op, evL_sel, evL_nx, evL_exit, evL_ret, evL_join, evL_block, evL_cond, evK_some, evJ_nx, evJ_rt, evJ_ex, evB_nx, evB_rt, evB_ex, evC2_bool, evS_and, evS_or, evS_tf, evS_ft, ev_t, ev_s, ev_c, evalOp, bin_add, bin_sub, bin_mul, bin_eql, bin_neq, bin_lss, bin_leq, bin_gtr, bin_geq, sbin_eql, sbin_neq, b8, List.map_cons, List.map_nil, PV.rens, PV.ren, if_true, if_false, Bool.false_eq_true, reduceIte, Nat.reduceAdd, Nat.reduceSub, Nat.reduceMul, Nat.reduceEqDiff, Nat.reduceLeDiff, Int.reduceLE, Int.reduceLT, Int.reduceEq, Int.reduceToNat, Int.reduceAdd, Int.reduceSub, Int.reduceNeg, decide_true, decide_false, Bool.not_true, Bool.not_false, Bool.true_and, Bool.false_and, Bool.and_true, Bool.and_false, Bool.or_true, Bool.true_or, Bool.or_false, Bool.false_or, and_self, and_true, true_and, Nat.le_refl, Nat.zero_add, Nat.mul_one, Nat.one_ne_zero, Nat.zero_le, highP, lowP, Option.map_some, Option.map_none, List.drop_zero, List.take_zero, List.length_cons, List.length_nil, List.nil_append, List.append_nil, List.cons_append, fillP, PV.cells?, PV.one, PV.cleans, PV.clean, PV.of?, List.all_cons, List.all_nil, List.take_succ_cons, List.drop_succ_cons, Bool.and_self, Int.natCast_nonneg, Int.toNat_natCast, Int.toNat_zero, PV.of?, Tk.ren, tailP, evL_loop, or_true, true_or, Nat.zero_lt_one, Nat.sub_zero, List.getElem?_cons_zero, List.getElem?_cons_succ, List.set_cons_zero, List.set_cons_succ, List.take_length, PV.rens, PV.ren, h1, h2, c9, d9, c12, g0, g1, g2, et, c15, r1, r2, k12, c13, g3, w2, w3, g4, g4', e3, ex, hX, c16', g5, Nat.one_mul, shift, Nat.add_zero, evS_yes, evS1_nx, T_wakes, beq_self_eq_true, eq_self, o0, o1] <;> rfl)
    · have g5 : decide ((n : Int) = 2) = false := by simp; omega
      have w4 : IntKind.i64.wrap ((n : Int) - 3) = ((n - 3 : Nat) : Int) := by rw [wr (by omega) (by omega)]; omega
      have g6 : ((n - 3 : Nat) : Int) < b.length := by omega
      obtain ⟨c, hc3⟩ : ∃ c, b[n - 3]? = some c := ⟨_, List.getElem?_eq_getElem (by omega)⟩
      have gc := get_b8' hc3
      have e10 : decide ((c.toNat : Int) = 10) = (c == 10) := byte_eqd c 10 (by decide)
      rcases hc with ⟨rfl, _, hX2, h4⟩ | rfl
      · have : d = true := by rw [← hd]; simpa using hX2
        subst this
        rcases h4 with h4 | ⟨_, h4⟩
        · exact absurd h4 h22
        rw [hc3] at h4
        have hcc : (c == 10) = true := by simpa using h4
        rcases htH1 with ⟨rfl, rfl⟩ | ⟨rfl, rfl⟩ <;> rcases htH2 with ⟨rfl, rfl⟩ | ⟨rfl, rfl⟩ <;> (apply fin; simp only [q5, evL_op, evL_sel, evL_nx, evL_exit, evL_ret, evL_join, evL_block, evL_cond, evK_some, evJ_nx, evJ_rt, evJ_ex, evB_nx, evB_rt, evB_ex, evC2_bool, evS_and, evS_or, evS_tf, evS_ft, ev_t, ev_s, ev_c, evalOp, bin_add, bin_sub, bin_mul, bin_eql, bin_neq, bin_lss, bin_leq, bin_gtr, bin_geq, sbin_eql, sbin_neq, b8, List.map_cons, List.map_nil, PV.rens, PV.ren, if_true, if_false, Bool.false_eq_true, reduceIte, Nat.reduceAdd, Nat.reduceSub, Nat.reduceMul, Nat.reduceEqDiff, Nat.reduceLeDiff, Int.reduceLE, Int.reduceLT, Int.reduceEq, Int.reduceToNat, Int.reduceAdd, Int.reduceSub, Int.reduceNeg, decide_true, decide_false, Bool.not_true, Bool.not_false, Bool.true_and, Bool.false_and, Bool.and_true, Bool.and_false, Bool.or_true, Bool.true_or, Bool.or_false, Bool.false_or, and_self, and_true, true_and, Nat.le_refl, Nat.zero_add, Nat.mul_one, Nat.one_ne_zero, Nat.zero_le, highP, lowP, Option.map_some, Option.map_none, List.drop_zero, List.take_zero, List.length_cons, List.length_nil, List.nil_append, List.append_nil, List.cons_append, fillP, PV.cells?, PV.one, PV.cleans, PV.clean, PV.of?, List.all_cons, List.all_nil, List.take_succ_cons, List.drop_succ_cons, Bool.and_self, Int.natCast_nonneg, Int.toNat_natCast, Int.toNat_zero, PV.of?, Tk.ren, tailP, evL_loop, or_true, true_or, Nat.zero_lt_one, Nat.sub_zero, List.getElem?_cons_zero, List.getElem?_cons_succ, List.set_cons_zero, List.set_cons_succ, List.take_length, PV.rens, PV.ren, h1, h2, c9, d9, c12, g0, g1, g2, et, c15, r1, r2, k12, c13, g3, w2, w3, w4, g4, g4', g6, gc, e10, hcc, e3, ex, hX, c16', g5, Nat.one_mul, shift, Nat.add_zero, evS_yes, evS1_nx, T_wakes, beq_self_eq_true, eq_self, o0, o1] <;> rfl)
      · generalize hcc : (c == 10) = cc at *
        cases d <;> cases cc <;> rcases htH1 with ⟨rfl, rfl⟩ | ⟨rfl, rfl⟩ <;> rcases htH2 with ⟨rfl, rfl⟩ | ⟨rfl, rfl⟩ <;> (apply fin; simp only [q5, evL_op, evL_sel, evL_nx, evL_exit, evL_ret, evL_join, evL_block, evL_cond, evK_some, evJ_nx, evJ_rt, evJ_ex, evB_nx, evB_rt, evB_ex, evC2_bool, evS_and, evS_or, evS_tf, evS_ft, ev_t, ev_s, ev_c, evalOp, bin_add, bin_sub, bin_mul, bin_eql, bin_neq, bin_lss, bin_leq, bin_gtr, bin_geq, sbin_eql, sbin_neq, b8, List.map_cons, List.map_nil, PV.rens, PV.ren, if_true, if_false, Bool.false_eq_true, reduceIte, Nat.reduceAdd, Nat.reduceSub, Nat.reduceMul, Nat.reduceEqDiff, Nat.reduceLeDiff, Int.reduceLE, Int.reduceLT, Int.reduceEq, Int.reduceToNat, Int.reduceAdd, Int.reduceSub, Int.reduceNeg, decide_true, decide_false, Bool.not_true, Bool.not_false, Bool.true_and, Bool.false_and, Bool.and_true, Bool.and_false, Bool.or_true, Bool.true_or, Bool.or_false, Bool.false_or, and_self, and_true, true_and, Nat.le_refl, Nat.zero_add, Nat.mul_one, Nat.one_ne_zero, Nat.zero_le, highP, lowP, Option.map_some, Option.map_none, List.drop_zero, List.take_zero, List.length_cons, List.length_nil, List.nil_append, List.append_nil, List.cons_append, fillP, PV.cells?, PV.one, PV.cleans, PV.clean, PV.of?, List.all_cons, List.all_nil, List.take_succ_cons, List.drop_succ_cons, Bool.and_self, Int.natCast_nonneg, Int.toNat_natCast, Int.toNat_zero, PV.of?, Tk.ren, tailP, evL_loop, or_true, true_or, Nat.zero_lt_one, Nat.sub_zero, List.getElem?_cons_zero, List.getElem?_cons_succ, List.set_cons_zero, List.set_cons_succ, List.take_length, PV.rens, PV.ren, h1, h2, c9, d9, c12, g0, g1, g2, et, c15, r1, r2, k12, c13, g3, w2, w3, w4, g4, g4', g6, gc, e10, hcc, e3, ex, hX, c16', g5, Nat.one_mul, shift, Nat.add_zero, evS_yes, evS1_nx, T_wakes, beq_self_eq_true, eq_self, o0, o1] <;> rfl)
  · have g3 : ¬ (2 : Int) ≤ n := by omega
    rcases hc with ⟨_, h, _⟩ | rfl
    · exact absurd h hn2
    · rcases htH1 with ⟨rfl, rfl⟩ | ⟨rfl, rfl⟩ <;> rcases htH2 with ⟨rfl, rfl⟩ | ⟨rfl, rfl⟩ <;> (apply fin; simp only [q5, evL_op, evL_sel, evL_nx, evL_exit, evL_ret, evL_join, evL_block, evL_cond, evK_some, evJ_nx, evJ_rt, evJ_ex, evB_nx, evB_rt, evB_ex, evC2_bool, evS_and, evS_or, evS_tf, evS_ft, ev_t, ev_s, ev_c, evalOp, bin_add, bin_sub, bin_mul, bin_eql, bin_neq, bin_lss, bin_leq, bin_gtr, bin_geq, sbin_eql, sbin_neq, b8, List.map_cons, List.map_nil, PV.rens, PV.ren, if_true, if_false, Bool.false_eq_true, reduceIte, Nat.reduceAdd, Nat.reduceSub, Nat.reduceMul, Nat.reduceEqDiff, Nat.reduceLeDiff, Int.reduceLE, Int.reduceLT, Int.reduceEq, Int.reduceToNat, Int.reduceAdd, Int.reduceSub, Int.reduceNeg, decide_true, decide_false, Bool.not_true, Bool.not_false, Bool.true_and, Bool.false_and, Bool.and_true, Bool.and_false, Bool.or_true, Bool.true_or, Bool.or_false, Bool.false_or, and_self, and_true, true_and, Nat.le_refl, Nat.zero_add, Nat.mul_one, Nat.one_ne_zero, Nat.zero_le, highP, lowP, Option.map_some, Option.map_none, List.drop_zero, List.take_zero, List.length_cons, List.length_nil, List.nil_append, List.append_nil, List.cons_append, fillP, PV.cells?, PV.one, PV.cleans, PV.clean, PV.of?, List.all_cons, List.all_nil, List.take_succ_cons, List.drop_succ_cons, Bool.and_self, Int.natCast_nonneg, Int.toNat_natCast, Int.toNat_zero, PV.of?, Tk.ren, tailP, evL_loop, or_true, true_or, Nat.zero_lt_one, Nat.sub_zero, List.getElem?_cons_zero, List.getElem?_cons_succ, List.set_cons_zero, List.set_cons_succ, List.take_length, PV.rens, PV.ren, h1, h2, c9, d9, c12, g0, g1, g2, et, c15, r1, r2, k12, c13, g3, w2, Nat.one_mul, shift, Nat.add_zero, evS_yes, evS1_nx, T_wakes, beq_self_eq_true, eq_self, o0, o1] <;> rfl)
end Go.Proofs.YtmdnloajpjfbmaaDoor.Tab
