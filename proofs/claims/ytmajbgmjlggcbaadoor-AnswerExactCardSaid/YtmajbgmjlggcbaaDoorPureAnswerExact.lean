/- AnswerExact: it is true. -/
import Derived.Test.YtmajbgmjlggcbaaDoorRf
namespace Go.Proofs.YtmajbgmjlggcbaaDoor.Tab
set_option linter.all false
open Go Go.RowKit Go.Proofs.YtmajbgmjlggcbaaDoor.Ev
def tot (l : List (List UInt8)) : Nat := (l.map List.length).sum
theorem tot_succ {l : List (List UInt8)} {i : Nat} (h : i < l.length) : tot (l.take (i + 1)) = tot (l.take i) + l[i].length := by
  unfold tot
  rw [List.take_succ_eq_append_getElem h, List.map_append, List.sum_append]; simp
theorem tot_mem {l : List (List UInt8)} {x : List UInt8} (h : x ∈ l) : x.length ≤ tot l := by
  unfold tot
  induction l with
  | nil => cases h
  | cons y r ih =>
    rw [List.map_cons, List.sum_cons]
    rcases List.mem_cons.1 h with rfl | h
    · omega
    · have := ih h; omega
theorem T_heavy (c : Int) (l : List (List UInt8)) (hl : ∀ x ∈ l, x.length ≤ 140737488355328) (hn : l.length ≤ 140737488355328) : ∃ t : Bool, T 8 [.agg [.int .i64 c, slS l]] [] = some (.bool t, []) ∧ (t = false → l.length ≤ 40 ∧ ∀ x ∈ l, x.length ≤ 6000) := by
  have lp := loop_post (n := 0) (body := evL T (l.length + 1) q8_1) (σ := Nat × Int) (fun s => [epR c l, .int .i64 s.2, .int .i64 s.1]) (fun _ => []) (fun s => l.length - s.1)
    (fun s => s.1 ≤ l.length ∧ (l.length ≤ 40 → s.2 = tot (l.take s.1) ∧ tot (l.take s.1) ≤ s.1 * 140737488355328)) (fun r => ∃ n : Int, r = (.ex 0, [epR c l, .int .i64 n], []) ∧ (l.length ≤ 40 → n = tot l)) (by
      rintro ⟨i, n⟩ ⟨hi, hs⟩
      dsimp only at hi hs ⊢
      rcases Nat.lt_or_ge i l.length with h | h
      · have h3 : (i : Int) < l.length := by omega
        have hg := get_s h
        have hts := tot_succ h
        have hlx := hl _ (List.getElem_mem h)
        generalize l[i] = s at *
        refine .inr ⟨(i + 1, IntKind.i64.wrap (n + s.length)), [epR c l, .int .i64 (IntKind.i64.wrap (n + s.length)), .int .i64 ((i + 1 : Nat) : Int)], [], ?_, rfl, ⟨h, fun h40 => ?_⟩, by dsimp only; omega⟩
        · simp only [q8_1, q8_0, evL_op, evL_sel, evL_nx, evL_exit, evL_ret, evL_join, evL_block, evL_cond, evK_some, evJ_nx, evJ_rt, evJ_ex, evB_nx, evB_rt, evB_ex, evC2_bool, evS_and, evS_or, evS_tf, evS_ft, ev_t, ev_s, ev_c, evalOp, bin_add, bin_sub, bin_mul, bin_eql, bin_neq, bin_lss, bin_leq, bin_gtr, bin_geq, sbin_eql, sbin_neq, b8, List.map_cons, List.map_nil, PV.rens, PV.ren, if_true, if_false, Bool.false_eq_true, reduceIte, Nat.reduceAdd, Nat.reduceSub, Nat.reduceMul, Nat.reduceEqDiff, Nat.reduceLeDiff, Int.reduceLE, Int.reduceLT, Int.reduceEq, Int.reduceToNat, Int.reduceAdd, Int.reduceSub, Int.reduceNeg, decide_true, decide_false, Bool.not_true, Bool.not_false, Bool.true_and, Bool.false_and, Bool.and_true, Bool.and_false, Bool.or_true, Bool.true_or, Bool.or_false, Bool.false_or, and_self, and_true, true_and, Nat.le_refl, Nat.zero_add, Nat.mul_one, Nat.one_ne_zero, Nat.zero_le, highP, lowP, Option.map_some, Option.map_none, List.drop_zero, List.take_zero, List.length_cons, List.length_nil, List.nil_append, List.append_nil, List.cons_append, fillP, PV.cells?, PV.one, PV.cleans, PV.clean, PV.of?, List.all_cons, List.all_nil, List.take_succ_cons, List.drop_succ_cons, Bool.and_self, Int.natCast_nonneg, Int.toNat_natCast, Int.toNat_zero, PV.of?, Tk.ren, tailP, evL_loop, or_true, true_or, Nat.zero_lt_one, Nat.sub_zero, List.getElem?_cons_zero, List.getElem?_cons_succ, List.set_cons_zero, List.set_cons_succ, List.take_length, h3, hg, wr1 (show i < 9223372036854775807 by omega)]
        · obtain ⟨h1, h2⟩ := hs h40
          dsimp only
          have h5 : tot (l.take (i + 1)) ≤ (i + 1) * 140737488355328 := by rw [hts, Nat.succ_mul]; omega
          have h6 : (i + 1) * 140737488355328 ≤ 40 * 140737488355328 := Nat.mul_le_mul_right _ (by omega)
          refine ⟨?_, h5⟩
          rw [h1, wr (by omega) (by omega), hts]; omega
      · refine .inl ⟨_, ?_, by simp, n, rfl, fun h40 => ?_⟩
        · have h3 : ¬ (i : Int) < l.length := by omega
          simp only [q8_1, evL_op, evL_sel, evL_nx, evL_exit, evL_ret, evL_join, evL_block, evL_cond, evK_some, evJ_nx, evJ_rt, evJ_ex, evB_nx, evB_rt, evB_ex, evC2_bool, evS_and, evS_or, evS_tf, evS_ft, ev_t, ev_s, ev_c, evalOp, bin_add, bin_sub, bin_mul, bin_eql, bin_neq, bin_lss, bin_leq, bin_gtr, bin_geq, sbin_eql, sbin_neq, b8, List.map_cons, List.map_nil, PV.rens, PV.ren, if_true, if_false, Bool.false_eq_true, reduceIte, Nat.reduceAdd, Nat.reduceSub, Nat.reduceMul, Nat.reduceEqDiff, Nat.reduceLeDiff, Int.reduceLE, Int.reduceLT, Int.reduceEq, Int.reduceToNat, Int.reduceAdd, Int.reduceSub, Int.reduceNeg, decide_true, decide_false, Bool.not_true, Bool.not_false, Bool.true_and, Bool.false_and, Bool.and_true, Bool.and_false, Bool.or_true, Bool.true_or, Bool.or_false, Bool.false_or, and_self, and_true, true_and, Nat.le_refl, Nat.zero_add, Nat.mul_one, Nat.one_ne_zero, Nat.zero_le, highP, lowP, Option.map_some, Option.map_none, List.drop_zero, List.take_zero, List.length_cons, List.length_nil, List.nil_append, List.append_nil, List.cons_append, fillP, PV.cells?, PV.one, PV.cleans, PV.clean, PV.of?, List.all_cons, List.all_nil, List.take_succ_cons, List.drop_succ_cons, Bool.and_self, Int.natCast_nonneg, Int.toNat_natCast, Int.toNat_zero, PV.of?, Tk.ren, tailP, evL_loop, or_true, true_or, Nat.zero_lt_one, Nat.sub_zero, List.getElem?_cons_zero, List.getElem?_cons_succ, List.set_cons_zero, List.set_cons_succ, List.take_length, h3]
        · have := (hs h40).1
          rw [List.take_of_length_le h] at this
          exact this) (l.length + 1) (0, 0) [epR c l, .int .i64 0, .int .i64 (0 : Nat)] [] rfl ⟨Nat.zero_le _, fun _ => ⟨rfl, Nat.zero_le _⟩⟩ (by dsimp only; omega)
  obtain ⟨r, lp, n, rfl, hn40⟩ := lp
  rw [o0] at lp
  refine ⟨decide ((6000 : Int) < n) || decide ((40 : Int) < l.length), ?_, fun ht => ?_⟩
  · refine evT_of (k := l.length + 1) (F := l8) (H' := []) (e := [.bool (decide ((6000 : Int) < n) || decide ((40 : Int) < l.length))]) (l := [.bool (decide ((6000 : Int) < n) || decide ((40 : Int) < l.length))]) rfl rfl rfl ?_ rfl rfl
    show evL T (l.length + 1) q8 _ _ = _
    simp only [q8, evL_op, evL_sel, evL_nx, evL_exit, evL_ret, evL_join, evL_block, evL_cond, evK_some, evJ_nx, evJ_rt, evJ_ex, evB_nx, evB_rt, evB_ex, evC2_bool, evS_and, evS_or, evS_tf, evS_ft, ev_t, ev_s, ev_c, evalOp, bin_add, bin_sub, bin_mul, bin_eql, bin_neq, bin_lss, bin_leq, bin_gtr, bin_geq, sbin_eql, sbin_neq, b8, List.map_cons, List.map_nil, PV.rens, PV.ren, if_true, if_false, Bool.false_eq_true, reduceIte, Nat.reduceAdd, Nat.reduceSub, Nat.reduceMul, Nat.reduceEqDiff, Nat.reduceLeDiff, Int.reduceLE, Int.reduceLT, Int.reduceEq, Int.reduceToNat, Int.reduceAdd, Int.reduceSub, Int.reduceNeg, decide_true, decide_false, Bool.not_true, Bool.not_false, Bool.true_and, Bool.false_and, Bool.and_true, Bool.and_false, Bool.or_true, Bool.true_or, Bool.or_false, Bool.false_or, and_self, and_true, true_and, Nat.le_refl, Nat.zero_add, Nat.mul_one, Nat.one_ne_zero, Nat.zero_le, highP, lowP, Option.map_some, Option.map_none, List.drop_zero, List.take_zero, List.length_cons, List.length_nil, List.nil_append, List.append_nil, List.cons_append, fillP, PV.cells?, PV.one, PV.cleans, PV.clean, PV.of?, List.all_cons, List.all_nil, List.take_succ_cons, List.drop_succ_cons, Bool.and_self, Int.natCast_nonneg, Int.toNat_natCast, Int.toNat_zero, PV.of?, Tk.ren, tailP, evL_loop, or_true, true_or, Nat.zero_lt_one, Nat.sub_zero, List.getElem?_cons_zero, List.getElem?_cons_succ, List.set_cons_zero, List.set_cons_succ, List.take_length, PV.cells?]
    rw [lp]
    simp only [q8_2, evL_op, evL_sel, evL_nx, evL_exit, evL_ret, evL_join, evL_block, evL_cond, evK_some, evJ_nx, evJ_rt, evJ_ex, evB_nx, evB_rt, evB_ex, evC2_bool, evS_and, evS_or, evS_tf, evS_ft, ev_t, ev_s, ev_c, evalOp, bin_add, bin_sub, bin_mul, bin_eql, bin_neq, bin_lss, bin_leq, bin_gtr, bin_geq, sbin_eql, sbin_neq, b8, List.map_cons, List.map_nil, PV.rens, PV.ren, if_true, if_false, Bool.false_eq_true, reduceIte, Nat.reduceAdd, Nat.reduceSub, Nat.reduceMul, Nat.reduceEqDiff, Nat.reduceLeDiff, Int.reduceLE, Int.reduceLT, Int.reduceEq, Int.reduceToNat, Int.reduceAdd, Int.reduceSub, Int.reduceNeg, decide_true, decide_false, Bool.not_true, Bool.not_false, Bool.true_and, Bool.false_and, Bool.and_true, Bool.and_false, Bool.or_true, Bool.true_or, Bool.or_false, Bool.false_or, and_self, and_true, true_and, Nat.le_refl, Nat.zero_add, Nat.mul_one, Nat.one_ne_zero, Nat.zero_le, highP, lowP, Option.map_some, Option.map_none, List.drop_zero, List.take_zero, List.length_cons, List.length_nil, List.nil_append, List.append_nil, List.cons_append, fillP, PV.cells?, PV.one, PV.cleans, PV.clean, PV.of?, List.all_cons, List.all_nil, List.take_succ_cons, List.drop_succ_cons, Bool.and_self, Int.natCast_nonneg, Int.toNat_natCast, Int.toNat_zero, PV.of?, Tk.ren, tailP, evL_loop, or_true, true_or, Nat.zero_lt_one, Nat.sub_zero, List.getElem?_cons_zero, List.getElem?_cons_succ, List.set_cons_zero, List.set_cons_succ, List.take_length]
  · simp only [Bool.or_eq_false_iff, decide_eq_false_iff_not] at ht
    have h40 : l.length ≤ 40 := by omega
    have := hn40 h40
    exact ⟨h40, fun x hx => by have := tot_mem hx; omega⟩
section
variable (c : Int) (l : List (List UInt8)) (b : List UInt8) (hb : b.length ≤ 3000) (hx : ∀ x ∈ l, x.length ≤ 6000) (h8 : T 8 [.agg [.int .i64 c, slS l]] [] = some (.bool false, []))
include hb hx h8
theorem exact_all (code : Int) : T 3 [.agg [.int .i64 c, slS l], sl8 b, .int .i64 code] [] = some (.bool true, []) := by
  have fin : ∀ {H : Hp}, evL T 0 q3 [.agg [.int .i64 c, slS l], sl8 b, .int .i64 code] [] = some (.rt, [.bool true], H) → T 3 [.agg [.int .i64 c, slS l], sl8 b, .int .i64 code] [] = some (.bool true, []) := fun {H} h =>
    evT_of (k := 0) (F := l3) (H' := H) (e := [.bool true]) (l := [.bool true]) rfl rfl rfl h rfl rfl
  have h1 : ¬ (3000 : Int) < b.length := by omega
  have c9 := T9 (BS.sl b) (by omega)
  have c13 := T13 c l
  have c14 := T14 c l (fun x hx' => by have := hx x hx'; omega)
  have c15 := T_bytes8 b b (by omega)
  have c18 := T18 code
  have b1 : ∀ x : Bool, (x == x) = true := fun x => by cases x <;> rfl
  cases hr : readGo b 21 b 0 [] with
  | none =>
    have c11 := Read_none b (by omega) hr
    have c12 := RRead_none b (by omega) (by rw [read_same]; exact hr)
    have c17 := reply_nil
    cases hok : replyOk c l with
    | false =>
      rw [hok] at c13 c14
      have c10 := Bytes_no c l (fun x hx' => by have := hx x hx'; omega) hok
      apply fin
      simp only [q3, evL_op, evL_sel, evL_nx, evL_exit, evL_ret, evL_join, evL_block, evL_cond, evK_some, evJ_nx, evJ_rt, evJ_ex, evB_nx, evB_rt, evB_ex, evC2_bool, evS_and, evS_or, evS_tf, evS_ft, ev_t, ev_s, ev_c, evalOp, bin_add, bin_sub, bin_mul, bin_eql, bin_neq, bin_lss, bin_leq, bin_gtr, bin_geq, sbin_eql, sbin_neq, b8, List.map_cons, List.map_nil, PV.rens, PV.ren, if_true, if_false, Bool.false_eq_true, reduceIte, Nat.reduceAdd, Nat.reduceSub, Nat.reduceMul, Nat.reduceEqDiff, Nat.reduceLeDiff, Int.reduceLE, Int.reduceLT, Int.reduceEq, Int.reduceToNat, Int.reduceAdd, Int.reduceSub, Int.reduceNeg, decide_true, decide_false, Bool.not_true, Bool.not_false, Bool.true_and, Bool.false_and, Bool.and_true, Bool.and_false, Bool.or_true, Bool.true_or, Bool.or_false, Bool.false_or, and_self, and_true, true_and, Nat.le_refl, Nat.zero_add, Nat.mul_one, Nat.one_ne_zero, Nat.zero_le, highP, lowP, Option.map_some, Option.map_none, List.drop_zero, List.take_zero, List.length_cons, List.length_nil, List.nil_append, List.append_nil, List.cons_append, fillP, PV.cells?, PV.one, PV.cleans, PV.clean, PV.of?, List.all_cons, List.all_nil, List.take_succ_cons, List.drop_succ_cons, Bool.and_self, Int.natCast_nonneg, Int.toNat_natCast, Int.toNat_zero, PV.of?, Tk.ren, tailP, evL_loop, or_true, true_or, Nat.zero_lt_one, Nat.sub_zero, List.getElem?_cons_zero, List.getElem?_cons_succ, List.set_cons_zero, List.set_cons_succ, List.take_length, PV.rens, PV.ren, PV.cells?, h8, h1, c9, c10, c11, c12, c13, c14, c15, c17, c18, b1, T_wakes, beq_self_eq_true, eq_self, o0, o1, Bool.xor_false, Bool.xor_true, Bool.false_xor, Bool.true_xor] <;> rfl
    | true =>
      rw [hok] at c13 c14
      have c10 := Bytes_yes c l hok
      have c16 := T16 c l hok
      have c15B := T_bytes8 (rb c l) (rb c l) (by have := rb_len hok; omega)
      apply fin
      simp only [q3, evL_op, evL_sel, evL_nx, evL_exit, evL_ret, evL_join, evL_block, evL_cond, evK_some, evJ_nx, evJ_rt, evJ_ex, evB_nx, evB_rt, evB_ex, evC2_bool, evS_and, evS_or, evS_tf, evS_ft, ev_t, ev_s, ev_c, evalOp, bin_add, bin_sub, bin_mul, bin_eql, bin_neq, bin_lss, bin_leq, bin_gtr, bin_geq, sbin_eql, sbin_neq, b8, List.map_cons, List.map_nil, PV.rens, PV.ren, if_true, if_false, Bool.false_eq_true, reduceIte, Nat.reduceAdd, Nat.reduceSub, Nat.reduceMul, Nat.reduceEqDiff, Nat.reduceLeDiff, Int.reduceLE, Int.reduceLT, Int.reduceEq, Int.reduceToNat, Int.reduceAdd, Int.reduceSub, Int.reduceNeg, decide_true, decide_false, Bool.not_true, Bool.not_false, Bool.true_and, Bool.false_and, Bool.and_true, Bool.and_false, Bool.or_true, Bool.true_or, Bool.or_false, Bool.false_or, and_self, and_true, true_and, Nat.le_refl, Nat.zero_add, Nat.mul_one, Nat.one_ne_zero, Nat.zero_le, highP, lowP, Option.map_some, Option.map_none, List.drop_zero, List.take_zero, List.length_cons, List.length_nil, List.nil_append, List.append_nil, List.cons_append, fillP, PV.cells?, PV.one, PV.cleans, PV.clean, PV.of?, List.all_cons, List.all_nil, List.take_succ_cons, List.drop_succ_cons, Bool.and_self, Int.natCast_nonneg, Int.toNat_natCast, Int.toNat_zero, PV.of?, Tk.ren, tailP, evL_loop, or_true, true_or, Nat.zero_lt_one, Nat.sub_zero, List.getElem?_cons_zero, List.getElem?_cons_succ, List.set_cons_zero, List.set_cons_succ, List.take_length, PV.rens, PV.ren, PV.cells?, h8, h1, c9, c10, c11, c12, c13, c14, c15, c15B, c16, c17, c18, b1, T_wakes, beq_self_eq_true, eq_self, o0, o1, Bool.xor_false, Bool.xor_true, Bool.false_xor, Bool.true_xor] <;> rfl
  | some x =>
    obtain ⟨c', l', n⟩ := x
    have c11 := Read_some b (by omega) hr
    have c12 := RRead_some b (by omega) (by rw [read_same]; exact hr)
    obtain ⟨hok', _, _⟩ := readGo_some b _ _ _ _ _ _ _ hr
    have hl20 : l'.length ≤ 20 := by obtain ⟨_, _, _, _, _, h, _⟩ := replyOk_facts hok'; exact h
    have c17 := T_reply c' c' l' l' (by omega)
    unfold slS at c17
    cases hok : replyOk c l with
    | false =>
      rw [hok] at c13 c14
      have c10 := Bytes_no c l (fun x hx' => by have := hx x hx'; omega) hok
      apply fin
      simp only [q3, evL_op, evL_sel, evL_nx, evL_exit, evL_ret, evL_join, evL_block, evL_cond, evK_some, evJ_nx, evJ_rt, evJ_ex, evB_nx, evB_rt, evB_ex, evC2_bool, evS_and, evS_or, evS_tf, evS_ft, ev_t, ev_s, ev_c, evalOp, bin_add, bin_sub, bin_mul, bin_eql, bin_neq, bin_lss, bin_leq, bin_gtr, bin_geq, sbin_eql, sbin_neq, b8, List.map_cons, List.map_nil, PV.rens, PV.ren, if_true, if_false, Bool.false_eq_true, reduceIte, Nat.reduceAdd, Nat.reduceSub, Nat.reduceMul, Nat.reduceEqDiff, Nat.reduceLeDiff, Int.reduceLE, Int.reduceLT, Int.reduceEq, Int.reduceToNat, Int.reduceAdd, Int.reduceSub, Int.reduceNeg, decide_true, decide_false, Bool.not_true, Bool.not_false, Bool.true_and, Bool.false_and, Bool.and_true, Bool.and_false, Bool.or_true, Bool.true_or, Bool.or_false, Bool.false_or, and_self, and_true, true_and, Nat.le_refl, Nat.zero_add, Nat.mul_one, Nat.one_ne_zero, Nat.zero_le, highP, lowP, Option.map_some, Option.map_none, List.drop_zero, List.take_zero, List.length_cons, List.length_nil, List.nil_append, List.append_nil, List.cons_append, fillP, PV.cells?, PV.one, PV.cleans, PV.clean, PV.of?, List.all_cons, List.all_nil, List.take_succ_cons, List.drop_succ_cons, Bool.and_self, Int.natCast_nonneg, Int.toNat_natCast, Int.toNat_zero, PV.of?, Tk.ren, tailP, evL_loop, or_true, true_or, Nat.zero_lt_one, Nat.sub_zero, List.getElem?_cons_zero, List.getElem?_cons_succ, List.set_cons_zero, List.set_cons_succ, List.take_length, PV.rens, PV.ren, PV.cells?, h8, h1, c9, c10, c11, c12, c13, c14, c15, c17, c18, b1, T_wakes, beq_self_eq_true, eq_self, o0, o1, Bool.xor_false, Bool.xor_true, Bool.false_xor, Bool.true_xor] <;> rfl
    | true =>
      rw [hok] at c13 c14
      have c10 := Bytes_yes c l hok
      have c16 := T16 c l hok
      have c15B := T_bytes8 (rb c l) (rb c l) (by have := rb_len hok; omega)
      apply fin
      simp only [q3, evL_op, evL_sel, evL_nx, evL_exit, evL_ret, evL_join, evL_block, evL_cond, evK_some, evJ_nx, evJ_rt, evJ_ex, evB_nx, evB_rt, evB_ex, evC2_bool, evS_and, evS_or, evS_tf, evS_ft, ev_t, ev_s, ev_c, evalOp, bin_add, bin_sub, bin_mul, bin_eql, bin_neq, bin_lss, bin_leq, bin_gtr, bin_geq, sbin_eql, sbin_neq, b8, List.map_cons, List.map_nil, PV.rens, PV.ren, if_true, if_false, Bool.false_eq_true, reduceIte, Nat.reduceAdd, Nat.reduceSub, Nat.reduceMul, Nat.reduceEqDiff, Nat.reduceLeDiff, Int.reduceLE, Int.reduceLT, Int.reduceEq, Int.reduceToNat, Int.reduceAdd, Int.reduceSub, Int.reduceNeg, decide_true, decide_false, Bool.not_true, Bool.not_false, Bool.true_and, Bool.false_and, Bool.and_true, Bool.and_false, Bool.or_true, Bool.true_or, Bool.or_false, Bool.false_or, and_self, and_true, true_and, Nat.le_refl, Nat.zero_add, Nat.mul_one, Nat.one_ne_zero, Nat.zero_le, highP, lowP, Option.map_some, Option.map_none, List.drop_zero, List.take_zero, List.length_cons, List.length_nil, List.nil_append, List.append_nil, List.cons_append, fillP, PV.cells?, PV.one, PV.cleans, PV.clean, PV.of?, List.all_cons, List.all_nil, List.take_succ_cons, List.drop_succ_cons, Bool.and_self, Int.natCast_nonneg, Int.toNat_natCast, Int.toNat_zero, PV.of?, Tk.ren, tailP, evL_loop, or_true, true_or, Nat.zero_lt_one, Nat.sub_zero, List.getElem?_cons_zero, List.getElem?_cons_succ, List.set_cons_zero, List.set_cons_succ, List.take_length, PV.rens, PV.ren, PV.cells?, h8, h1, c9, c10, c11, c12, c13, c14, c15, c15B, c16, c17, c18, b1, T_wakes, beq_self_eq_true, eq_self, o0, o1, Bool.xor_false, Bool.xor_true, Bool.false_xor, Bool.true_xor] <;> rfl
end
theorem lawAnswerExact (p : Int × List (List UInt8)) (hp : (Lit.int .i64 p.1).wf = true ∧ (p.2.length ≤ room ∧ ∀ y ∈ p.2, y.length ≤ room)) (b : List UInt8) (hb : b.length ≤ room ∧ ∀ y ∈ b, True) (code : Int) (hc : (Lit.int .i64 code).wf = true) :
    evT lt ov 3 [.agg ([.int .i64 p.1] ++ [.sl .no 1 p.2.length (p.2.map fun l => .str l)]), .sl .no 1 b.length (b.map b8), .int .i64 code] [] = some (.bool true, []) := by
  obtain ⟨c, l⟩ := p
  obtain ⟨_, hl, hl2⟩ := hp
  obtain ⟨hb, _⟩ := hb
  dsimp only at hl hl2
  show T 3 [.agg [.int .i64 c, slS l], sl8 b, .int .i64 code] [] = _
  have fin : ∀ {H : Hp}, evL T 0 q3 [.agg [.int .i64 c, slS l], sl8 b, .int .i64 code] [] = some (.rt, [.bool true], H) → T 3 [.agg [.int .i64 c, slS l], sl8 b, .int .i64 code] [] = some (.bool true, []) := fun {H} h =>
    evT_of (k := 0) (F := l3) (H' := H) (e := [.bool true]) (l := [.bool true]) rfl rfl rfl h rfl rfl
  obtain ⟨t, h8, ht⟩ := T_heavy c l (fun x hx => by have := hl2 x hx; unfold room at this; omega) (by unfold room at hl; omega)
  cases t with
  | true =>
    apply fin
    simp only [q3, evL_op, evL_sel, evL_nx, evL_exit, evL_ret, evL_join, evL_block, evL_cond, evK_some, evJ_nx, evJ_rt, evJ_ex, evB_nx, evB_rt, evB_ex, evC2_bool, evS_and, evS_or, evS_tf, evS_ft, ev_t, ev_s, ev_c, evalOp, bin_add, bin_sub, bin_mul, bin_eql, bin_neq, bin_lss, bin_leq, bin_gtr, bin_geq, sbin_eql, sbin_neq, b8, List.map_cons, List.map_nil, PV.rens, PV.ren, if_true, if_false, Bool.false_eq_true, reduceIte, Nat.reduceAdd, Nat.reduceSub, Nat.reduceMul, Nat.reduceEqDiff, Nat.reduceLeDiff, Int.reduceLE, Int.reduceLT, Int.reduceEq, Int.reduceToNat, Int.reduceAdd, Int.reduceSub, Int.reduceNeg, decide_true, decide_false, Bool.not_true, Bool.not_false, Bool.true_and, Bool.false_and, Bool.and_true, Bool.and_false, Bool.or_true, Bool.true_or, Bool.or_false, Bool.false_or, and_self, and_true, true_and, Nat.le_refl, Nat.zero_add, Nat.mul_one, Nat.one_ne_zero, Nat.zero_le, highP, lowP, Option.map_some, Option.map_none, List.drop_zero, List.take_zero, List.length_cons, List.length_nil, List.nil_append, List.append_nil, List.cons_append, fillP, PV.cells?, PV.one, PV.cleans, PV.clean, PV.of?, List.all_cons, List.all_nil, List.take_succ_cons, List.drop_succ_cons, Bool.and_self, Int.natCast_nonneg, Int.toNat_natCast, Int.toNat_zero, PV.of?, Tk.ren, tailP, evL_loop, or_true, true_or, Nat.zero_lt_one, Nat.sub_zero, List.getElem?_cons_zero, List.getElem?_cons_succ, List.set_cons_zero, List.set_cons_succ, List.take_length, PV.rens, PV.ren, PV.cells?, h8] <;> rfl
  | false =>
    by_cases h1 : (3000 : Int) < b.length
    · apply fin
      simp only [q3, evL_op, evL_sel, evL_nx, evL_exit, evL_ret, evL_join, evL_block, evL_cond, evK_some, evJ_nx, evJ_rt, evJ_ex, evB_nx, evB_rt, evB_ex, evC2_bool, evS_and, evS_or, evS_tf, evS_ft, ev_t, ev_s, ev_c, evalOp, bin_add, bin_sub, bin_mul, bin_eql, bin_neq, bin_lss, bin_leq, bin_gtr, bin_geq, sbin_eql, sbin_neq, b8, List.map_cons, List.map_nil, PV.rens, PV.ren, if_true, if_false, Bool.false_eq_true, reduceIte, Nat.reduceAdd, Nat.reduceSub, Nat.reduceMul, Nat.reduceEqDiff, Nat.reduceLeDiff, Int.reduceLE, Int.reduceLT, Int.reduceEq, Int.reduceToNat, Int.reduceAdd, Int.reduceSub, Int.reduceNeg, decide_true, decide_false, Bool.not_true, Bool.not_false, Bool.true_and, Bool.false_and, Bool.and_true, Bool.and_false, Bool.or_true, Bool.true_or, Bool.or_false, Bool.false_or, and_self, and_true, true_and, Nat.le_refl, Nat.zero_add, Nat.mul_one, Nat.one_ne_zero, Nat.zero_le, highP, lowP, Option.map_some, Option.map_none, List.drop_zero, List.take_zero, List.length_cons, List.length_nil, List.nil_append, List.append_nil, List.cons_append, fillP, PV.cells?, PV.one, PV.cleans, PV.clean, PV.of?, List.all_cons, List.all_nil, List.take_succ_cons, List.drop_succ_cons, Bool.and_self, Int.natCast_nonneg, Int.toNat_natCast, Int.toNat_zero, PV.of?, Tk.ren, tailP, evL_loop, or_true, true_or, Nat.zero_lt_one, Nat.sub_zero, List.getElem?_cons_zero, List.getElem?_cons_succ, List.set_cons_zero, List.set_cons_succ, List.take_length, PV.rens, PV.ren, PV.cells?, h8, h1] <;> rfl
    · exact exact_all c l b (by omega) (ht rfl).2 h8 code
end Go.Proofs.YtmajbgmjlggcbaaDoor.Tab
