/- AnswerBack: it is true. -/
import Derived.Test.YtmajbgmjlggcbaaDoorWakes13
namespace Go.Proofs.YtmajbgmjlggcbaaDoor.Tab
set_option linter.all false
open Go Go.RowKit Go.Proofs.YtmajbgmjlggcbaaDoor.Ev
def tot (l : List (List UInt8)) : Nat := (l.map List.length).sum
theorem tot_succ {l : List (List UInt8)} {i : Nat} (h : i < l.length) : tot (l.take (i + 1)) = tot (l.take i) + l[i].length := by
  unfold tot
  rw [List.take_succ_eq_append_getElem h, List.map_append, List.sum_append]; simp
theorem tot_mem {l : List (List UInt8)} {x : List UInt8} (h : x ∈ l) : x.length ≤ tot l := by
  unfold tot
  induction l with
  | nil => cases h
  | cons y r ih =>
    rw [List.map_cons, List.sum_cons]
    rcases List.mem_cons.1 h with rfl | h
    · omega
    · have := ih h; omega
theorem T_heavy (c : Int) (l : List (List UInt8)) (hl : ∀ x ∈ l, x.length ≤ 140737488355328) (hn : l.length ≤ 140737488355328) : ∃ t : Bool, T 8 [.agg [.int .i64 c, slS l]] [] = some (.bool t, []) ∧ (t = false → l.length ≤ 40 ∧ ∀ x ∈ l, x.length ≤ 6000) := by
  have lp := loop_post (n := 0) (body := evL T (l.length + 1) q8_1) (σ := Nat × Int) (fun s => [epR c l, .int .i64 s.2, .int .i64 s.1]) (fun _ => []) (fun s => l.length - s.1)
    (fun s => s.1 ≤ l.length ∧ (l.length ≤ 40 → s.2 = tot (l.take s.1) ∧ tot (l.take s.1) ≤ s.1 * 140737488355328)) (fun r => ∃ n : Int, r = (.ex 0, [epR c l, .int .i64 n], []) ∧ (l.length ≤ 40 → n = tot l)) (by
      rintro ⟨i, n⟩ ⟨hi, hs⟩
      dsimp only at hi hs ⊢
      rcases Nat.lt_or_ge i l.length with h | h
      · have h3 : (i : Int) < l.length := by omega
        have hg := get_s h
        have hts := tot_succ h
        have hlx := hl _ (List.getElem_mem h)
        generalize l[i] = s at *
        refine .inr ⟨(i + 1, IntKind.i64.wrap (n + s.length)), [epR c l, .int .i64 (IntKind.i64.wrap (n + s.length)), .int .i64 ((i + 1 : Nat) : Int)], [], ?_, rfl, ⟨h, fun h40 => ?_⟩, by dsimp only; omega⟩
        · simp only [q8_1, q8_0, evL_op, evL_sel, evL_nx, evL_exit, evL_ret, evL_join, evL_block, evL_cond, evK_some, evJ_nx, evJ_rt, evJ_ex, evB_nx, evB_rt, evB_ex, evC2_bool, evS_and, evS_or, evS_tf, evS_ft, ev_t, ev_s, ev_c, evalOp, bin_add, bin_sub, bin_mul, bin_eql, bin_neq, bin_lss, bin_leq, bin_gtr, bin_geq, sbin_eql, sbin_neq, b8, List.map_cons, List.map_nil, PV.rens, PV.ren, if_true, if_false, Bool.false_eq_true, reduceIte, Nat.reduceAdd, Nat.reduceSub, Nat.reduceMul, Nat.reduceEqDiff, Nat.reduceLeDiff, Int.reduceLE, Int.reduceLT, Int.reduceEq, Int.reduceToNat, Int.reduceAdd, Int.reduceSub, Int.reduceNeg, decide_true, decide_false, Bool.not_true, Bool.not_false, Bool.true_and, Bool.false_and, Bool.and_true, Bool.and_false, Bool.or_true, Bool.true_or, Bool.or_false, Bool.false_or, and_self, and_true, true_and, Nat.le_refl, Nat.zero_add, Nat.mul_one, Nat.one_ne_zero, Nat.zero_le, highP, lowP, Option.map_some, Option.map_none, List.drop_zero, List.take_zero, List.length_cons, List.length_nil, List.nil_append, List.append_nil, List.cons_append, fillP, PV.cells?, PV.one, PV.cleans, PV.clean, PV.of?, List.all_cons, List.all_nil, List.take_succ_cons, List.drop_succ_cons, Bool.and_self, Int.natCast_nonneg, Int.toNat_natCast, Int.toNat_zero, PV.of?, Tk.ren, tailP, evL_loop, or_true, true_or, Nat.zero_lt_one, Nat.sub_zero, List.getElem?_cons_zero, List.getElem?_cons_succ, List.set_cons_zero, List.set_cons_succ, List.take_length, h3, hg, wr1 (show i < 9223372036854775807 by omega)]
        · obtain ⟨h1, h2⟩ := hs h40
          dsimp only
          have h5 : tot (l.take (i + 1)) ≤ (i + 1) * 140737488355328 := by rw [hts, Nat.succ_mul]; omega
          have h6 : (i + 1) * 140737488355328 ≤ 40 * 140737488355328 := Nat.mul_le_mul_right _ (by omega)
          refine ⟨?_, h5⟩
          rw [h1, wr (by omega) (by omega), hts]; omega
      · refine .inl ⟨_, ?_, by simp, n, rfl, fun h40 => ?_⟩
        · have h3 : ¬ (i : Int) < l.length := by omega
          simp only [q8_1, evL_op, evL_sel, evL_nx, evL_exit, evL_ret, evL_join, evL_block, evL_cond, evK_some, evJ_nx, evJ_rt, evJ_ex, evB_nx, evB_rt, evB_ex, evC2_bool, evS_and, evS_or, evS_tf, evS_ft, ev_t, ev_s, ev_c, evalOp, bin_add, bin_sub, bin_mul, bin_eql, bin_neq, bin_lss, bin_leq, bin_gtr, bin_geq, sbin_eql, sbin_neq, b8, List.map_cons, List.map_nil, PV.rens, PV.ren, if_true, if_false, Bool.false_eq_true, reduceIte, Nat.reduceAdd, Nat.reduceSub, Nat.reduceMul, Nat.reduceEqDiff, Nat.reduceLeDiff, Int.reduceLE, Int.reduceLT, Int.reduceEq, Int.reduceToNat, Int.reduceAdd, Int.reduceSub, Int.reduceNeg, decide_true, decide_false, Bool.not_true, Bool.not_false, Bool.true_and, Bool.false_and, Bool.and_true, Bool.and_false, Bool.or_true, Bool.true_or, Bool.or_false, Bool.false_or, and_self, and_true, true_and, Nat.le_refl, Nat.zero_add, Nat.mul_one, Nat.one_ne_zero, Nat.zero_le, highP, lowP, Option.map_some, Option.map_none, List.drop_zero, List.take_zero, List.length_cons, List.length_nil, List.nil_append, List.append_nil, List.cons_append, fillP, PV.cells?, PV.one, PV.cleans, PV.clean, PV.of?, List.all_cons, List.all_nil, List.take_succ_cons, List.drop_succ_cons, Bool.and_self, Int.natCast_nonneg, Int.toNat_natCast, Int.toNat_zero, PV.of?, Tk.ren, tailP, evL_loop, or_true, true_or, Nat.zero_lt_one, Nat.sub_zero, List.getElem?_cons_zero, List.getElem?_cons_succ, List.set_cons_zero, List.set_cons_succ, List.take_length, h3]
        · have := (hs h40).1
          rw [List.take_of_length_le h] at this
          exact this) (l.length + 1) (0, 0) [epR c l, .int .i64 0, .int .i64 (0 : Nat)] [] rfl ⟨Nat.zero_le _, fun _ => ⟨rfl, Nat.zero_le _⟩⟩ (by dsimp only; omega)
  obtain ⟨r, lp, n, rfl, hn40⟩ := lp
  rw [o0] at lp
  refine ⟨decide ((6000 : Int) < n) || decide ((40 : Int) < l.length), ?_, fun ht => ?_⟩
  · refine evT_of (k := l.length + 1) (F := l8) (H' := []) (e := [.bool (decide ((6000 : Int) < n) || decide ((40 : Int) < l.length))]) (l := [.bool (decide ((6000 : Int) < n) || decide ((40 : Int) < l.length))]) rfl rfl rfl ?_ rfl rfl
    show evL T (l.length + 1) q8 _ _ = _
    simp only [q8, evL_op, evL_sel, evL_nx, evL_exit, evL_ret, evL_join, evL_block, evL_cond, evK_some, evJ_nx, evJ_rt, evJ_ex, evB_nx, evB_rt, evB_ex, evC2_bool, evS_and, evS_or, evS_tf, evS_ft, ev_t, ev_s, ev_c, evalOp, bin_add, bin_sub, bin_mul, bin_eql, bin_neq, bin_lss, bin_leq, bin_gtr, bin_geq, sbin_eql, sbin_neq, b8, List.map_cons, List.map_nil, PV.rens, PV.ren, if_true, if_false, Bool.false_eq_true, reduceIte, Nat.reduceAdd, Nat.reduceSub, Nat.reduceMul, Nat.reduceEqDiff, Nat.reduceLeDiff, Int.reduceLE, Int.reduceLT, Int.reduceEq, Int.reduceToNat, Int.reduceAdd, Int.reduceSub, Int.reduceNeg, decide_true, decide_false, Bool.not_true, Bool.not_false, Bool.true_and, Bool.false_and, Bool.and_true, Bool.and_false, Bool.or_true, Bool.true_or, Bool.or_false, Bool.false_or, and_self, and_true, true_and, Nat.le_refl, Nat.zero_add, Nat.mul_one, Nat.one_ne_zero, Nat.zero_le, highP, lowP, Option.map_some, Option.map_none, List.drop_zero, List.take_zero, List.length_cons, List.length_nil, List.nil_append, List.append_nil, List.cons_append, fillP, PV.cells?, PV.one, PV.cleans, PV.clean, PV.of?, List.all_cons, List.all_nil, List.take_succ_cons, List.drop_succ_cons, Bool.and_self, Int.natCast_nonneg, Int.toNat_natCast, Int.toNat_zero, PV.of?, Tk.ren, tailP, evL_loop, or_true, true_or, Nat.zero_lt_one, Nat.sub_zero, List.getElem?_cons_zero, List.getElem?_cons_succ, List.set_cons_zero, List.set_cons_succ, List.take_length, PV.cells?]
    rw [lp]
    simp only [q8_2, evL_op, evL_sel, evL_nx, evL_exit, evL_ret, evL_join, evL_block, evL_cond, evK_some, evJ_nx, evJ_rt, evJ_ex, evB_nx, evB_rt, evB_ex, evC2_bool, evS_and, evS_or, evS_tf, evS_ft, ev_t, ev_s, ev_c, evalOp, bin_add, bin_sub, bin_mul, bin_eql, bin_neq, bin_lss, bin_leq, bin_gtr, bin_geq, sbin_eql, sbin_neq, b8, List.map_cons, List.map_nil, PV.rens, PV.ren, if_true, if_false, Bool.false_eq_true, reduceIte, Nat.reduceAdd, Nat.reduceSub, Nat.reduceMul, Nat.reduceEqDiff, Nat.reduceLeDiff, Int.reduceLE, Int.reduceLT, Int.reduceEq, Int.reduceToNat, Int.reduceAdd, Int.reduceSub, Int.reduceNeg, decide_true, decide_false, Bool.not_true, Bool.not_false, Bool.true_and, Bool.false_and, Bool.and_true, Bool.and_false, Bool.or_true, Bool.true_or, Bool.or_false, Bool.false_or, and_self, and_true, true_and, Nat.le_refl, Nat.zero_add, Nat.mul_one, Nat.one_ne_zero, Nat.zero_le, highP, lowP, Option.map_some, Option.map_none, List.drop_zero, List.take_zero, List.length_cons, List.length_nil, List.nil_append, List.append_nil, List.cons_append, fillP, PV.cells?, PV.one, PV.cleans, PV.clean, PV.of?, List.all_cons, List.all_nil, List.take_succ_cons, List.drop_succ_cons, Bool.and_self, Int.natCast_nonneg, Int.toNat_natCast, Int.toNat_zero, PV.of?, Tk.ren, tailP, evL_loop, or_true, true_or, Nat.zero_lt_one, Nat.sub_zero, List.getElem?_cons_zero, List.getElem?_cons_succ, List.set_cons_zero, List.set_cons_succ, List.take_length]
  · simp only [Bool.or_eq_false_iff, decide_eq_false_iff_not] at ht
    have h40 : l.length ≤ 40 := by omega
    have := hn40 h40
    exact ⟨h40, fun x hx => by have := tot_mem hx; omega⟩
abbrev Rp := Int × List (List UInt8)
def fr (l : List Rp) : List PV := l.flatMap fun p => [.int .i64 p.1, slS p.2]
theorem fr_app (a b : List Rp) : fr (a ++ b) = fr a ++ fr b := by simp [fr]
theorem fr_one (p : Rp) : fr [p] = [.int .i64 p.1, slS p.2] := by simp [fr]
theorem fr_len : ∀ l : List Rp, (fr l).length = l.length * 2
  | [] => rfl
  | p :: r => by
    have := fr_len r
    rw [show p :: r = [p] ++ r from rfl, fr_app, fr_one]
    simp only [List.length_append, List.length_cons, List.length_nil, this]
    omega
theorem fr_get {l : List Rp} {i : Nat} (h : i < l.length) : ((fr l).drop (i * 2)).take 2 = [.int .i64 l[i].1, slS l[i].2] := by
  have e : fr l = fr (l.take i) ++ ([.int .i64 l[i].1, slS l[i].2] ++ fr (l.drop (i + 1))) := by
    conv => lhs; rw [← List.take_append_drop i l, List.drop_eq_getElem_cons h, fr_app]
    rw [show l[i] :: l.drop (i + 1) = [l[i]] ++ l.drop (i + 1) from rfl, fr_app, fr_one]
  have hl : (fr (l.take i)).length = i * 2 := by rw [fr_len, List.length_take]; congr 1; omega
  rw [e, ← hl, List.drop_left]
  rfl
/-- The right ones. -/
def gs (l : List Rp) : List Rp := l.filter fun p => replyOk p.1 p.2
def bs (l : List Rp) : List UInt8 := ((gs l).map fun p => rb p.1 p.2).flatten
theorem gs_succ {l : List Rp} {i : Nat} (h : i < l.length) : gs (l.take (i + 1)) = gs (l.take i) ++ (if replyOk l[i].1 l[i].2 = true then [l[i]] else []) := by
  unfold gs
  rw [List.take_succ_eq_append_getElem h, List.filter_append]
  congr 1
  cases hb : replyOk l[i].1 l[i].2 <;> simp [List.filter, hb]
def lastV : Option (List UInt8) → PV
  | none => .sl (.tok 1) 0 0 []
  | some x => sl8 x
def lastH : Option (List UInt8) → Hp
  | none => [.tok, .tok]
  | some _ => [.tok]
def lastO (l : List Rp) : Option (List UInt8) := (gs l).getLast?.map fun p => rb p.1 p.2
def bP (l : List Rp) : PV := .sl (.tok 0) (if gs l = [] then 0 else 1) (bs l).length ((bs l).map b8)
theorem bs_len (l : List Rp) : (bs l).length ≤ (gs l).length * 6000 := by
  unfold bs
  have h : ∀ p ∈ gs l, replyOk p.1 p.2 = true := fun p hp => by
    unfold gs at hp
    simpa using (List.mem_filter.1 hp).2
  generalize gs l = g at *
  induction g with
  | nil => simp
  | cons p r ih =>
    have h1 := rb_len (h p List.mem_cons_self)
    have h2 := ih fun q hq => h q (List.mem_cons_of_mem _ hq)
    rw [List.map_cons, List.flatten_cons, List.length_append, List.length_cons, Nat.succ_mul]
    omega
theorem gs_len (l : List Rp) : (gs l).length ≤ l.length := List.length_filter_le _ _
theorem gs_all {l : List Rp} {p : Rp} (h : p ∈ gs l) : replyOk p.1 p.2 = true := by
  unfold gs at h
  simpa using (List.mem_filter.1 h).2
theorem rb_pos {c : Int} {l : List (List UInt8)} (h : replyOk c l = true) : 0 < (rb c l).length := by
  have hr := readGo_yes h []
  obtain ⟨_, _, _, _, hl1, _, _⟩ := replyOk_facts h
  unfold rb
  cases l with
  | nil => simp at hl1
  | cons x r => cases r <;> simp [mk, join] <;> omega
theorem lastO_none {l : List Rp} (h : lastO l = none) : gs l = [] := by
  unfold lastO at h
  simpa using h
theorem lastO_some {l : List Rp} {x : List UInt8} (h : lastO l = some x) : gs l ≠ [] ∧ ∃ p : Rp, replyOk p.1 p.2 = true ∧ x = rb p.1 p.2 := by
  unfold lastO at h
  obtain ⟨p, hp, rfl⟩ := Option.map_eq_some_iff.1 h
  have hm := List.mem_of_getLast? hp
  exact ⟨fun e => (by rw [e] at hm; cases hm), p, gs_all hm, rfl⟩
/-- The environment of the first loop. -/
def e1 (l : List Rp) (cut : Int) (i : Nat) : List PV := [.sl .no 2 l.length (fr l), .int .i64 cut, bP (l.take i), lastV (lastO (l.take i)), .int .i64 (gs (l.take i)).length, .int .i64 i]
theorem bs_app (l : List Rp) (p : Rp) (h : replyOk p.1 p.2 = true) {i : Nat} (hi : i < l.length) (hp : l[i] = p) : gs (l.take (i + 1)) = gs (l.take i) ++ [p] ∧ bs (l.take (i + 1)) = bs (l.take i) ++ rb p.1 p.2 ∧ lastO (l.take (i + 1)) = some (rb p.1 p.2) := by
  have e := gs_succ hi
  rw [hp, if_pos h] at e
  refine ⟨e, ?_, ?_⟩
  · unfold bs; rw [e]; simp
  · unfold lastO; rw [e]; simp
theorem bs_skip (l : List Rp) {i : Nat} (hi : i < l.length) (h : replyOk l[i].1 l[i].2 = false) : gs (l.take (i + 1)) = gs (l.take i) ∧ bs (l.take (i + 1)) = bs (l.take i) ∧ lastO (l.take (i + 1)) = lastO (l.take i) := by
  have e := gs_succ hi
  rw [if_neg (by rw [h]; decide), List.append_nil] at e
  refine ⟨e, ?_, ?_⟩
  · unfold bs; rw [e]
  · unfold lastO; rw [e]
theorem loop_one (l : List Rp) (cut : Int) (h20 : l.length ≤ 20) (hl : ∀ p ∈ l, p.2.length ≤ 140737488355328 ∧ ∀ x ∈ p.2, x.length ≤ 140737488355328) (k0 : Nat) :
    ∃ r, loopL 0 (evL T k0 q4_1) 22 [.sl .no 2 l.length (fr l), .int .i64 cut, .sl .nil 0 0 [], .sl .nil 0 0 [], .int .i64 0, .int .i64 0] [] = some r ∧
    ((∃ H, r = (.rt, [.bool true], H)) ∨ r = (.ex 0, [.sl .no 2 l.length (fr l), .int .i64 cut, bP l, lastV (lastO l), .int .i64 (gs l).length], lastH (lastO l))) := by
  refine loop_post (n := 0) (body := evL T k0 q4_1) (σ := Nat) (e1 l cut) (fun i => lastH (lastO (l.take i))) (fun i => l.length - i) (fun i => i ≤ l.length) _ ?_ 22 0 _ [] rfl (Nat.zero_le _) (by omega)
  rintro i hi
  rcases Nat.lt_or_ge i l.length with h | h
  · have g1 : (i : Int) < l.length := by omega
    have hg := fr_get h
    have hlx := hl _ (List.getElem_mem h)
    have hA := bs_app l l[i]
    have hS := bs_skip l h
    have hgl := gs_len (l.take i)
    rw [List.length_take] at hgl
    have hbl := bs_len (l.take i)
    have w1 := wr1 (show i < 9223372036854775807 by omega)
    have w2 := wr1 (show (gs (l.take i)).length < 9223372036854775807 by omega)
    obtain ⟨t, c8, hh⟩ := T_heavy l[i].1 l[i].2 hlx.2 hlx.1
    cases t with
    | true =>
      cases ho : lastO (l.take i) with
      | none =>
        refine .inl ⟨(.rt, [.bool true], lastH none), ?_, by simp, .inl ⟨_, rfl⟩⟩
        unfold e1; rw [ho]
        simp only [q4_1, evL_op, evL_sel, evL_nx, evL_exit, evL_ret, evL_join, evL_block, evL_cond, evK_some, evJ_nx, evJ_rt, evJ_ex, evB_nx, evB_rt, evB_ex, evC2_bool, evS_and, evS_or, evS_tf, evS_ft, ev_t, ev_s, ev_c, evalOp, bin_add, bin_sub, bin_mul, bin_eql, bin_neq, bin_lss, bin_leq, bin_gtr, bin_geq, sbin_eql, sbin_neq, b8, List.map_cons, List.map_nil, PV.rens, PV.ren, if_true, if_false, Bool.false_eq_true, reduceIte, Nat.reduceAdd, Nat.reduceSub, Nat.reduceMul, Nat.reduceEqDiff, Nat.reduceLeDiff, Int.reduceLE, Int.reduceLT, Int.reduceEq, Int.reduceToNat, Int.reduceAdd, Int.reduceSub, Int.reduceNeg, decide_true, decide_false, Bool.not_true, Bool.not_false, Bool.true_and, Bool.false_and, Bool.and_true, Bool.and_false, Bool.or_true, Bool.true_or, Bool.or_false, Bool.false_or, and_self, and_true, true_and, Nat.le_refl, Nat.zero_add, Nat.mul_one, Nat.one_ne_zero, Nat.zero_le, highP, lowP, Option.map_some, Option.map_none, List.drop_zero, List.take_zero, List.length_cons, List.length_nil, List.nil_append, List.append_nil, List.cons_append, fillP, PV.cells?, PV.one, PV.cleans, PV.clean, PV.of?, List.all_cons, List.all_nil, List.take_succ_cons, List.drop_succ_cons, Bool.and_self, Int.natCast_nonneg, Int.toNat_natCast, Int.toNat_zero, PV.of?, Tk.ren, tailP, evL_loop, or_true, true_or, Nat.zero_lt_one, Nat.sub_zero, List.getElem?_cons_zero, List.getElem?_cons_succ, List.set_cons_zero, List.set_cons_succ, List.take_length, PV.rens, PV.ren, bP, lastV, lastH, g1, hg, c8] <;> rfl
      | some x =>
        refine .inl ⟨(.rt, [.bool true], lastH (some x)), ?_, by simp, .inl ⟨_, rfl⟩⟩
        unfold e1; rw [ho]
        simp only [q4_1, evL_op, evL_sel, evL_nx, evL_exit, evL_ret, evL_join, evL_block, evL_cond, evK_some, evJ_nx, evJ_rt, evJ_ex, evB_nx, evB_rt, evB_ex, evC2_bool, evS_and, evS_or, evS_tf, evS_ft, ev_t, ev_s, ev_c, evalOp, bin_add, bin_sub, bin_mul, bin_eql, bin_neq, bin_lss, bin_leq, bin_gtr, bin_geq, sbin_eql, sbin_neq, b8, List.map_cons, List.map_nil, PV.rens, PV.ren, if_true, if_false, Bool.false_eq_true, reduceIte, Nat.reduceAdd, Nat.reduceSub, Nat.reduceMul, Nat.reduceEqDiff, Nat.reduceLeDiff, Int.reduceLE, Int.reduceLT, Int.reduceEq, Int.reduceToNat, Int.reduceAdd, Int.reduceSub, Int.reduceNeg, decide_true, decide_false, Bool.not_true, Bool.not_false, Bool.true_and, Bool.false_and, Bool.and_true, Bool.and_false, Bool.or_true, Bool.true_or, Bool.or_false, Bool.false_or, and_self, and_true, true_and, Nat.le_refl, Nat.zero_add, Nat.mul_one, Nat.one_ne_zero, Nat.zero_le, highP, lowP, Option.map_some, Option.map_none, List.drop_zero, List.take_zero, List.length_cons, List.length_nil, List.nil_append, List.append_nil, List.cons_append, fillP, PV.cells?, PV.one, PV.cleans, PV.clean, PV.of?, List.all_cons, List.all_nil, List.take_succ_cons, List.drop_succ_cons, Bool.and_self, Int.natCast_nonneg, Int.toNat_natCast, Int.toNat_zero, PV.of?, Tk.ren, tailP, evL_loop, or_true, true_or, Nat.zero_lt_one, Nat.sub_zero, List.getElem?_cons_zero, List.getElem?_cons_succ, List.set_cons_zero, List.set_cons_succ, List.take_length, PV.rens, PV.ren, bP, lastV, lastH, g1, hg, c8] <;> rfl
    | false =>
      cases hk : replyOk l[i].1 l[i].2 with
      | false =>
        have c10 := Bytes_no l[i].1 l[i].2 (fun x hx => by have := hlx.2 x hx; omega) hk
        obtain ⟨e2, e3, e4⟩ := hS hk
        refine .inr ⟨i + 1, e1 l cut (i + 1), lastH (lastO (l.take (i + 1))), ?_, ?_, h, by omega⟩
        · unfold e1 bP
          rw [e2, e3, e4]
          cases ho : lastO (l.take i) <;>
          simp only [q4_1, q4_0, evL_op, evL_sel, evL_nx, evL_exit, evL_ret, evL_join, evL_block, evL_cond, evK_some, evJ_nx, evJ_rt, evJ_ex, evB_nx, evB_rt, evB_ex, evC2_bool, evS_and, evS_or, evS_tf, evS_ft, ev_t, ev_s, ev_c, evalOp, bin_add, bin_sub, bin_mul, bin_eql, bin_neq, bin_lss, bin_leq, bin_gtr, bin_geq, sbin_eql, sbin_neq, b8, List.map_cons, List.map_nil, PV.rens, PV.ren, if_true, if_false, Bool.false_eq_true, reduceIte, Nat.reduceAdd, Nat.reduceSub, Nat.reduceMul, Nat.reduceEqDiff, Nat.reduceLeDiff, Int.reduceLE, Int.reduceLT, Int.reduceEq, Int.reduceToNat, Int.reduceAdd, Int.reduceSub, Int.reduceNeg, decide_true, decide_false, Bool.not_true, Bool.not_false, Bool.true_and, Bool.false_and, Bool.and_true, Bool.and_false, Bool.or_true, Bool.true_or, Bool.or_false, Bool.false_or, and_self, and_true, true_and, Nat.le_refl, Nat.zero_add, Nat.mul_one, Nat.one_ne_zero, Nat.zero_le, highP, lowP, Option.map_some, Option.map_none, List.drop_zero, List.take_zero, List.length_cons, List.length_nil, List.nil_append, List.append_nil, List.cons_append, fillP, PV.cells?, PV.one, PV.cleans, PV.clean, PV.of?, List.all_cons, List.all_nil, List.take_succ_cons, List.drop_succ_cons, Bool.and_self, Int.natCast_nonneg, Int.toNat_natCast, Int.toNat_zero, PV.of?, Tk.ren, tailP, evL_loop, or_true, true_or, Nat.zero_lt_one, Nat.sub_zero, List.getElem?_cons_zero, List.getElem?_cons_succ, List.set_cons_zero, List.set_cons_succ, List.take_length, PV.rens, PV.ren, lastV, lastH, g1, hg, c8, c10, w1]
        · unfold e1 bP
          cases ho : lastO (l.take (i + 1)) with
          | none => rw [lastO_none ho]; rfl
          | some x => rw [if_neg (lastO_some ho).1]; rfl
      | true =>
        have c10 := Bytes_yes l[i].1 l[i].2 hk
        obtain ⟨e2, e3, e4⟩ := hA hk h rfl
        have hr := rb_len hk
        have hz : ∀ p : Prop, [Decidable p] → ((if p then 0 else 1) = 1 ∨ (if p then 0 else 1) = 0) := fun p _ => by split <;> simp
        have hrm : (bs (l.take i)).length + (rb l[i].1 l[i].2).length ≤ roomMax := by
          have : (gs (l.take i)).length * 6000 ≤ 20 * 6000 := Nat.mul_le_mul_right _ (by omega)
          unfold roomMax; omega
        have e5 : e1 l cut (i + 1) = [.sl .no 2 l.length (fr l), .int .i64 cut, .sl (.tok 0) 1 ((bs (l.take i)).length + (rb l[i].1 l[i].2).length) ((bs (l.take i)).map b8 ++ (rb l[i].1 l[i].2).map b8), sl8 (rb l[i].1 l[i].2), .int .i64 (((gs (l.take i)).length + 1 : Nat) : Int), .int .i64 ((i + 1 : Nat) : Int)] := by
          unfold e1 bP
          rw [e2, e3, e4, if_neg (by simp), List.length_append, List.length_append, List.map_append]
          rfl
        generalize rb l[i].1 l[i].2 = R at *
        cases ho : lastO (l.take i) with
        | none =>
          refine .inr ⟨i + 1, [.sl .no 2 l.length (fr l), .int .i64 cut, .sl (.tok 2) 1 ((bs (l.take i)).length + R.length) ((bs (l.take i)).map b8 ++ R.map b8), sl8 R, .int .i64 (((gs (l.take i)).length + 1 : Nat) : Int), .int .i64 ((i + 1 : Nat) : Int)], [.dead, .tok, .tok], ?_, ?_, h, by omega⟩
          · unfold e1; rw [ho]; unfold bP
            simp only [q4_1, q4_0, evL_op, evL_sel, evL_nx, evL_exit, evL_ret, evL_join, evL_block, evL_cond, evK_some, evJ_nx, evJ_rt, evJ_ex, evB_nx, evB_rt, evB_ex, evC2_bool, evS_and, evS_or, evS_tf, evS_ft, ev_t, ev_s, ev_c, evalOp, bin_add, bin_sub, bin_mul, bin_eql, bin_neq, bin_lss, bin_leq, bin_gtr, bin_geq, sbin_eql, sbin_neq, b8, List.map_cons, List.map_nil, PV.rens, PV.ren, if_true, if_false, Bool.false_eq_true, reduceIte, Nat.reduceAdd, Nat.reduceSub, Nat.reduceMul, Nat.reduceEqDiff, Nat.reduceLeDiff, Int.reduceLE, Int.reduceLT, Int.reduceEq, Int.reduceToNat, Int.reduceAdd, Int.reduceSub, Int.reduceNeg, decide_true, decide_false, Bool.not_true, Bool.not_false, Bool.true_and, Bool.false_and, Bool.and_true, Bool.and_false, Bool.or_true, Bool.true_or, Bool.or_false, Bool.false_or, and_self, and_true, true_and, Nat.le_refl, Nat.zero_add, Nat.mul_one, Nat.one_ne_zero, Nat.zero_le, highP, lowP, Option.map_some, Option.map_none, List.drop_zero, List.take_zero, List.length_cons, List.length_nil, List.nil_append, List.append_nil, List.cons_append, fillP, PV.cells?, PV.one, PV.cleans, PV.clean, PV.of?, List.all_cons, List.all_nil, List.take_succ_cons, List.drop_succ_cons, Bool.and_self, Int.natCast_nonneg, Int.toNat_natCast, Int.toNat_zero, PV.of?, Tk.ren, tailP, evL_loop, or_true, true_or, Nat.zero_lt_one, Nat.sub_zero, List.getElem?_cons_zero, List.getElem?_cons_succ, List.set_cons_zero, List.set_cons_succ, List.take_length, PV.rens, PV.ren, lastV, lastH, g1, hg, c8, c10, w1, w2, hz, hrm, sl8]
          · rw [e5, e4]; rfl
        | some x =>
          refine .inr ⟨i + 1, [.sl .no 2 l.length (fr l), .int .i64 cut, .sl (.tok 1) 1 ((bs (l.take i)).length + R.length) ((bs (l.take i)).map b8 ++ R.map b8), sl8 R, .int .i64 (((gs (l.take i)).length + 1 : Nat) : Int), .int .i64 ((i + 1 : Nat) : Int)], [.dead, .tok], ?_, ?_, h, by omega⟩
          · unfold e1; rw [ho]; unfold bP
            simp only [q4_1, q4_0, evL_op, evL_sel, evL_nx, evL_exit, evL_ret, evL_join, evL_block, evL_cond, evK_some, evJ_nx, evJ_rt, evJ_ex, evB_nx, evB_rt, evB_ex, evC2_bool, evS_and, evS_or, evS_tf, evS_ft, ev_t, ev_s, ev_c, evalOp, bin_add, bin_sub, bin_mul, bin_eql, bin_neq, bin_lss, bin_leq, bin_gtr, bin_geq, sbin_eql, sbin_neq, b8, List.map_cons, List.map_nil, PV.rens, PV.ren, if_true, if_false, Bool.false_eq_true, reduceIte, Nat.reduceAdd, Nat.reduceSub, Nat.reduceMul, Nat.reduceEqDiff, Nat.reduceLeDiff, Int.reduceLE, Int.reduceLT, Int.reduceEq, Int.reduceToNat, Int.reduceAdd, Int.reduceSub, Int.reduceNeg, decide_true, decide_false, Bool.not_true, Bool.not_false, Bool.true_and, Bool.false_and, Bool.and_true, Bool.and_false, Bool.or_true, Bool.true_or, Bool.or_false, Bool.false_or, and_self, and_true, true_and, Nat.le_refl, Nat.zero_add, Nat.mul_one, Nat.one_ne_zero, Nat.zero_le, highP, lowP, Option.map_some, Option.map_none, List.drop_zero, List.take_zero, List.length_cons, List.length_nil, List.nil_append, List.append_nil, List.cons_append, fillP, PV.cells?, PV.one, PV.cleans, PV.clean, PV.of?, List.all_cons, List.all_nil, List.take_succ_cons, List.drop_succ_cons, Bool.and_self, Int.natCast_nonneg, Int.toNat_natCast, Int.toNat_zero, PV.of?, Tk.ren, tailP, evL_loop, or_true, true_or, Nat.zero_lt_one, Nat.sub_zero, List.getElem?_cons_zero, List.getElem?_cons_succ, List.set_cons_zero, List.set_cons_succ, List.take_length, PV.rens, PV.ren, lastV, lastH, g1, hg, c8, c10, w1, w2, hz, hrm, sl8]
          · rw [e5, e4]; rfl
  · obtain rfl : i = l.length := by omega
    have g1 : ¬ (l.length : Int) < l.length := by omega
    unfold e1
    rw [List.take_length]
    refine .inl ⟨_, ?_, by simp, .inr rfl⟩
    simp only [q4_1, evL_op, evL_sel, evL_nx, evL_exit, evL_ret, evL_join, evL_block, evL_cond, evK_some, evJ_nx, evJ_rt, evJ_ex, evB_nx, evB_rt, evB_ex, evC2_bool, evS_and, evS_or, evS_tf, evS_ft, ev_t, ev_s, ev_c, evalOp, bin_add, bin_sub, bin_mul, bin_eql, bin_neq, bin_lss, bin_leq, bin_gtr, bin_geq, sbin_eql, sbin_neq, b8, List.map_cons, List.map_nil, PV.rens, PV.ren, if_true, if_false, Bool.false_eq_true, reduceIte, Nat.reduceAdd, Nat.reduceSub, Nat.reduceMul, Nat.reduceEqDiff, Nat.reduceLeDiff, Int.reduceLE, Int.reduceLT, Int.reduceEq, Int.reduceToNat, Int.reduceAdd, Int.reduceSub, Int.reduceNeg, decide_true, decide_false, Bool.not_true, Bool.not_false, Bool.true_and, Bool.false_and, Bool.and_true, Bool.and_false, Bool.or_true, Bool.true_or, Bool.or_false, Bool.false_or, and_self, and_true, true_and, Nat.le_refl, Nat.zero_add, Nat.mul_one, Nat.one_ne_zero, Nat.zero_le, highP, lowP, Option.map_some, Option.map_none, List.drop_zero, List.take_zero, List.length_cons, List.length_nil, List.nil_append, List.append_nil, List.cons_append, fillP, PV.cells?, PV.one, PV.cleans, PV.clean, PV.of?, List.all_cons, List.all_nil, List.take_succ_cons, List.drop_succ_cons, Bool.and_self, Int.natCast_nonneg, Int.toNat_natCast, Int.toNat_zero, PV.of?, Tk.ren, tailP, evL_loop, or_true, true_or, Nat.zero_lt_one, Nat.sub_zero, List.getElem?_cons_zero, List.getElem?_cons_succ, List.set_cons_zero, List.set_cons_succ, List.take_length, g1]
theorem bs_drop (l : List Rp) {i : Nat} (hi : i < l.length) : bs (l.drop i) = (if replyOk l[i].1 l[i].2 = true then rb l[i].1 l[i].2 else []) ++ bs (l.drop (i + 1)) := by
  rw [List.drop_eq_getElem_cons hi]
  generalize l[i] = p
  generalize l.drop (i + 1) = r
  unfold bs gs
  cases h : replyOk p.1 p.2 <;> simp [List.filter_cons, h]
def tk2 (l : List Rp) (i : Nat) : Tk := if gs (l.take i) = [] then .tok 1 else .no
def hp2 (l : List Rp) (i : Nat) : Hp := if gs (l.take i) = [] then [.dead, .tok] else [.dead]
theorem loop_two (l : List Rp) (cut : Int) (L : List UInt8) (h20 : l.length ≤ 20) (hl : ∀ p ∈ l, p.2.length ≤ 140737488355328 ∧ ∀ x ∈ p.2, x.length ≤ 140737488355328) (z : Nat) (hz : z = 1) (k0 : Nat) :
    loopL 1 (evL T k0 q4_3) 22 [.sl .no 2 l.length (fr l), .int .i64 cut, sl8 L, .sl (.tok 0) z (bs l).length ((bs l).map b8), .int .i64 0] [.tok] = some (.ex 2, [.int .i64 cut, sl8 L, .sl (tk2 l l.length) 1 0 []], hp2 l l.length) := by
  subst hz
  refine loop_law (n := 1) (body := evL T k0 q4_3) (σ := Nat) (fun i => [.sl .no 2 l.length (fr l), .int .i64 cut, sl8 L, .sl (tk2 l i) 1 (bs (l.drop i)).length ((bs (l.drop i)).map b8), .int .i64 i]) (hp2 l) (fun i => l.length - i) (fun i => i ≤ l.length) (fun _ => (.ex 2, [.int .i64 cut, sl8 L, .sl (tk2 l l.length) 1 0 []], hp2 l l.length)) ?_ 22 0 _ [.tok] (by
    have e : tk2 l 0 = .tok 1 := if_pos rfl
    have e2 : hp2 l 0 = [.dead, .tok] := if_pos rfl
    rw [e, e2]
    rfl) (Nat.zero_le _) (by omega)
  rintro i hi
  rcases Nat.lt_or_ge i l.length with h | h
  · have g1 : (i : Int) < l.length := by omega
    have hg := fr_get h
    have hlx := hl _ (List.getElem_mem h)
    have hD := bs_drop l h
    have hbl := bs_len (l.drop i)
    have hgl := gs_len (l.drop i)
    rw [List.length_drop] at hgl
    have hbl' : (bs (l.drop i)).length ≤ 120000 := by
      have : (gs (l.drop i)).length * 6000 ≤ 20 * 6000 := Nat.mul_le_mul_right _ (by omega)
      omega
    have w1 := wr1 (show i < 9223372036854775807 by omega)
    have c14 := T14 l[i].1 l[i].2 (fun x hx => by have := hlx.2 x hx; omega)
    have htk : (tk2 l i = .tok 1 ∧ hp2 l i = [.dead, .tok]) ∨ (tk2 l i = .no ∧ hp2 l i = [.dead]) := by unfold tk2 hp2; split <;> simp
    cases hk : replyOk l[i].1 l[i].2 with
    | false =>
      rw [hk] at c14 hD
      rw [if_neg (by decide), List.nil_append] at hD
      have hs := (bs_skip l h hk).1
      have ht2 : tk2 l (i + 1) = tk2 l i ∧ hp2 l (i + 1) = hp2 l i := by unfold tk2 hp2; rw [hs]; exact ⟨rfl, rfl⟩
      refine .inr ⟨i + 1, [.sl .no 2 l.length (fr l), .int .i64 cut, sl8 L, .sl (tk2 l (i + 1)) 1 (bs (l.drop (i + 1))).length ((bs (l.drop (i + 1))).map b8), .int .i64 ((i + 1 : Nat) : Int)], hp2 l i, ?_, ?_, h, by omega, rfl⟩
      · rw [ht2.1, ← hD]
        rcases htk with ⟨e, e'⟩ | ⟨e, e'⟩ <;> rw [e, e'] <;>
        simp only [q4_3, q4_2, evL_op, evL_sel, evL_nx, evL_exit, evL_ret, evL_join, evL_block, evL_cond, evK_some, evJ_nx, evJ_rt, evJ_ex, evB_nx, evB_rt, evB_ex, evC2_bool, evS_and, evS_or, evS_tf, evS_ft, ev_t, ev_s, ev_c, evalOp, bin_add, bin_sub, bin_mul, bin_eql, bin_neq, bin_lss, bin_leq, bin_gtr, bin_geq, sbin_eql, sbin_neq, b8, List.map_cons, List.map_nil, PV.rens, PV.ren, if_true, if_false, Bool.false_eq_true, reduceIte, Nat.reduceAdd, Nat.reduceSub, Nat.reduceMul, Nat.reduceEqDiff, Nat.reduceLeDiff, Int.reduceLE, Int.reduceLT, Int.reduceEq, Int.reduceToNat, Int.reduceAdd, Int.reduceSub, Int.reduceNeg, decide_true, decide_false, Bool.not_true, Bool.not_false, Bool.true_and, Bool.false_and, Bool.and_true, Bool.and_false, Bool.or_true, Bool.true_or, Bool.or_false, Bool.false_or, and_self, and_true, true_and, Nat.le_refl, Nat.zero_add, Nat.mul_one, Nat.one_ne_zero, Nat.zero_le, highP, lowP, Option.map_some, Option.map_none, List.drop_zero, List.take_zero, List.length_cons, List.length_nil, List.nil_append, List.append_nil, List.cons_append, fillP, PV.cells?, PV.one, PV.cleans, PV.clean, PV.of?, List.all_cons, List.all_nil, List.take_succ_cons, List.drop_succ_cons, Bool.and_self, Int.natCast_nonneg, Int.toNat_natCast, Int.toNat_zero, PV.of?, Tk.ren, tailP, evL_loop, or_true, true_or, Nat.zero_lt_one, Nat.sub_zero, List.getElem?_cons_zero, List.getElem?_cons_succ, List.set_cons_zero, List.set_cons_succ, List.take_length, PV.rens, PV.ren, g1, hg, c14, w1]
      · rw [ht2.1, ht2.2]
        rcases htk with ⟨e, e'⟩ | ⟨e, e'⟩ <;> rw [e, e'] <;> rfl
    | true =>
      rw [hk] at c14 hD
      rw [if_pos rfl] at hD
      have ht2 : tk2 l (i + 1) = .no ∧ hp2 l (i + 1) = [.dead] := by unfold tk2 hp2; rw [(bs_app l l[i] hk h rfl).1, if_neg (by simp), if_neg (by simp)]; exact ⟨rfl, rfl⟩
      have hr := rb_len hk
      have hp := rb_pos hk
      have hgo := readGo_yes hk (bs (l.drop (i + 1)))
      rw [← hD] at hgo
      have c11 := Read_some (bs (l.drop i)) (by omega) hgo
      have c17 := T_reply l[i].1 l[i].1 l[i].2 l[i].2 (by omega)
      rw [decide_eq_true rfl, decide_eq_true rfl] at c17
      have hn : ¬ ((rb l[i].1 l[i].2).length : Int) < 1 := by omega
      have hln : (bs (l.drop i)).length = (rb l[i].1 l[i].2).length + (bs (l.drop (i + 1))).length := by rw [hD, List.length_append]
      have hn2 : ¬ ((bs (l.drop i)).length : Int) < (rb l[i].1 l[i].2).length := by omega
      have hn3 : ((0 : Int) ≤ (rb l[i].1 l[i].2).length) := by omega
      have hle : (rb l[i].1 l[i].2).length ≤ (bs (l.drop i)).length := by omega
      have hsub : (bs (l.drop i)).length - (rb l[i].1 l[i].2).length = (bs (l.drop (i + 1))).length := by omega
      have hcut : (((bs (l.drop i)).map b8).take ((bs (l.drop i)).length * 1)).drop ((rb l[i].1 l[i].2).length * 1) = (bs (l.drop (i + 1))).map b8 := by
        rw [Nat.mul_one, Nat.mul_one, List.take_of_length_le (by simp), ← List.map_drop, hD, List.drop_left]
      have hcut' : (((bs (l.drop i)).map b8).take ((bs (l.drop i)).length)).drop ((rb l[i].1 l[i].2).length) = (bs (l.drop (i + 1))).map b8 := by
        rw [Nat.mul_one, Nat.mul_one] at hcut; exact hcut
      have hcut2 : ((bs (l.drop i)).map b8).drop ((rb l[i].1 l[i].2).length) = (bs (l.drop (i + 1))).map b8 := by
        rw [← List.map_drop, hD, List.drop_left]
      refine .inr ⟨i + 1, [.sl .no 2 l.length (fr l), .int .i64 cut, sl8 L, .sl .no 1 (bs (l.drop (i + 1))).length ((bs (l.drop (i + 1))).map b8), .int .i64 ((i + 1 : Nat) : Int)], hp2 l i ++ [.cells [.int .i64 l[i].1, slS l[i].2]], ?_, ?_, h, by omega, rfl⟩
      · generalize bs (l.drop i) = B at *
        generalize rb l[i].1 l[i].2 = R at *
        rcases htk with ⟨e, e'⟩ | ⟨e, e'⟩ <;> rw [e, e'] <;>
        simp only [q4_3, q4_2, evL_op, evL_sel, evL_nx, evL_exit, evL_ret, evL_join, evL_block, evL_cond, evK_some, evJ_nx, evJ_rt, evJ_ex, evB_nx, evB_rt, evB_ex, evC2_bool, evS_and, evS_or, evS_tf, evS_ft, ev_t, ev_s, ev_c, evalOp, bin_add, bin_sub, bin_mul, bin_eql, bin_neq, bin_lss, bin_leq, bin_gtr, bin_geq, sbin_eql, sbin_neq, b8, List.map_cons, List.map_nil, PV.rens, PV.ren, if_true, if_false, Bool.false_eq_true, reduceIte, Nat.reduceAdd, Nat.reduceSub, Nat.reduceMul, Nat.reduceEqDiff, Nat.reduceLeDiff, Int.reduceLE, Int.reduceLT, Int.reduceEq, Int.reduceToNat, Int.reduceAdd, Int.reduceSub, Int.reduceNeg, decide_true, decide_false, Bool.not_true, Bool.not_false, Bool.true_and, Bool.false_and, Bool.and_true, Bool.and_false, Bool.or_true, Bool.true_or, Bool.or_false, Bool.false_or, and_self, and_true, true_and, Nat.le_refl, Nat.zero_add, Nat.mul_one, Nat.one_ne_zero, Nat.zero_le, highP, lowP, Option.map_some, Option.map_none, List.drop_zero, List.take_zero, List.length_cons, List.length_nil, List.nil_append, List.append_nil, List.cons_append, fillP, PV.cells?, PV.one, PV.cleans, PV.clean, PV.of?, List.all_cons, List.all_nil, List.take_succ_cons, List.drop_succ_cons, Bool.and_self, Int.natCast_nonneg, Int.toNat_natCast, Int.toNat_zero, PV.of?, Tk.ren, tailP, evL_loop, or_true, true_or, Nat.zero_lt_one, Nat.sub_zero, List.getElem?_cons_zero, List.getElem?_cons_succ, List.set_cons_zero, List.set_cons_succ, List.take_length, PV.rens, PV.ren, PV.cells?, g1, hg, c14, c11, c17, w1, hn, hn2, hn3, hle, hsub, hcut, hcut', hcut2]
      · rw [ht2.1, ht2.2]
        rcases htk with ⟨e, e'⟩ | ⟨e, e'⟩ <;> rw [e'] <;> rfl
  · obtain rfl : i = l.length := by omega
    have g1 : ¬ (l.length : Int) < l.length := by omega
    have e : bs (l.drop l.length) = [] := by rw [List.drop_length]; rfl
    rw [e]
    refine .inl ⟨?_, by simp⟩
    simp only [q4_3, evL_op, evL_sel, evL_nx, evL_exit, evL_ret, evL_join, evL_block, evL_cond, evK_some, evJ_nx, evJ_rt, evJ_ex, evB_nx, evB_rt, evB_ex, evC2_bool, evS_and, evS_or, evS_tf, evS_ft, ev_t, ev_s, ev_c, evalOp, bin_add, bin_sub, bin_mul, bin_eql, bin_neq, bin_lss, bin_leq, bin_gtr, bin_geq, sbin_eql, sbin_neq, b8, List.map_cons, List.map_nil, PV.rens, PV.ren, if_true, if_false, Bool.false_eq_true, reduceIte, Nat.reduceAdd, Nat.reduceSub, Nat.reduceMul, Nat.reduceEqDiff, Nat.reduceLeDiff, Int.reduceLE, Int.reduceLT, Int.reduceEq, Int.reduceToNat, Int.reduceAdd, Int.reduceSub, Int.reduceNeg, decide_true, decide_false, Bool.not_true, Bool.not_false, Bool.true_and, Bool.false_and, Bool.and_true, Bool.and_false, Bool.or_true, Bool.true_or, Bool.or_false, Bool.false_or, and_self, and_true, true_and, Nat.le_refl, Nat.zero_add, Nat.mul_one, Nat.one_ne_zero, Nat.zero_le, highP, lowP, Option.map_some, Option.map_none, List.drop_zero, List.take_zero, List.length_cons, List.length_nil, List.nil_append, List.append_nil, List.cons_append, fillP, PV.cells?, PV.one, PV.cleans, PV.clean, PV.of?, List.all_cons, List.all_nil, List.take_succ_cons, List.drop_succ_cons, Bool.and_self, Int.natCast_nonneg, Int.toNat_natCast, Int.toNat_zero, PV.of?, Tk.ren, tailP, evL_loop, or_true, true_or, Nat.zero_lt_one, Nat.sub_zero, List.getElem?_cons_zero, List.getElem?_cons_succ, List.set_cons_zero, List.set_cons_succ, List.take_length, g1]
theorem Read_nil : T 11 [.sl .nil 0 0 []] [] = some (.tup [.agg [.int .i64 0, .sl .nil 0 0 []], .int .i64 0, .int .i64 3], []) := evT_iff.2 ⟨300, by kernel_rfl⟩
theorem cut_none {c : Int} {ls : List (List UInt8)} (h : replyOk c ls = true) {k : Nat} (hk : k < (rb c ls).length) : readGo ((rb c ls).take k) 21 ((rb c ls).take k) 0 [] = none := by
  cases hr : readGo ((rb c ls).take k) 21 ((rb c ls).take k) 0 [] with
  | none => rfl
  | some x =>
    obtain ⟨c', l', n⟩ := x
    obtain ⟨h1, h2, h3⟩ := readGo_some _ _ _ _ _ _ _ _ hr
    have h4 := readGo_yes h1 ((rb c ls).drop (min n k))
    rw [List.take_take] at h2
    have e : rb c' l' ++ (rb c ls).drop (min n k) = rb c ls := by rw [h2, List.take_append_drop]
    rw [e] at h4
    have h5 := readGo_yes h []
    rw [List.append_nil] at h5
    rw [h5] at h4
    have h6 : (rb c ls).length = (rb c' l').length := by injection h4 with h; injection h with _ h; injection h
    rw [h2, List.length_take] at h6
    omega
theorem lawAnswerBack (l : List (Int × List (List UInt8))) (hl : l.length ≤ room ∧ ∀ y ∈ l, (Lit.int .i64 y.1).wf = true ∧ (y.2.length ≤ room ∧ ∀ z ∈ y.2, z.length ≤ room)) (cut : Int) (hc : (Lit.int .i64 cut).wf = true) :
    evT lt ov 4 [.sl .no 2 l.length (l.flatMap fun y => [.int .i64 y.1] ++ [.sl .no 1 y.2.length (y.2.map fun x => .str x)]), .int .i64 cut] [] = some (.bool true, []) := by
  show T 4 [.sl .no 2 l.length (fr l), .int .i64 cut] [] = _
  have hl' : ∀ p ∈ l, p.2.length ≤ 140737488355328 ∧ ∀ x ∈ p.2, x.length ≤ 140737488355328 := fun p hp => ⟨Nat.le_trans (hl.2 p hp).2.1 (by decide), fun x hx => Nat.le_trans ((hl.2 p hp).2.2 x hx) (by decide)⟩
  have fin : ∀ {H : Hp}, evL T 22 q4 [.sl .no 2 l.length (fr l), .int .i64 cut] [] = some (.rt, [.bool true], H) → T 4 [.sl .no 2 l.length (fr l), .int .i64 cut] [] = some (.bool true, []) := fun {H} h =>
    evT_of (k := 22) (F := l4) (H' := H) (e := [.bool true]) (l := [.bool true]) rfl rfl rfl h rfl rfl
  by_cases h20 : (20 : Int) < l.length
  · apply fin
    simp only [q4, evL_op, evL_sel, evL_nx, evL_exit, evL_ret, evL_join, evL_block, evL_cond, evK_some, evJ_nx, evJ_rt, evJ_ex, evB_nx, evB_rt, evB_ex, evC2_bool, evS_and, evS_or, evS_tf, evS_ft, ev_t, ev_s, ev_c, evalOp, bin_add, bin_sub, bin_mul, bin_eql, bin_neq, bin_lss, bin_leq, bin_gtr, bin_geq, sbin_eql, sbin_neq, b8, List.map_cons, List.map_nil, PV.rens, PV.ren, if_true, if_false, Bool.false_eq_true, reduceIte, Nat.reduceAdd, Nat.reduceSub, Nat.reduceMul, Nat.reduceEqDiff, Nat.reduceLeDiff, Int.reduceLE, Int.reduceLT, Int.reduceEq, Int.reduceToNat, Int.reduceAdd, Int.reduceSub, Int.reduceNeg, decide_true, decide_false, Bool.not_true, Bool.not_false, Bool.true_and, Bool.false_and, Bool.and_true, Bool.and_false, Bool.or_true, Bool.true_or, Bool.or_false, Bool.false_or, and_self, and_true, true_and, Nat.le_refl, Nat.zero_add, Nat.mul_one, Nat.one_ne_zero, Nat.zero_le, highP, lowP, Option.map_some, Option.map_none, List.drop_zero, List.take_zero, List.length_cons, List.length_nil, List.nil_append, List.append_nil, List.cons_append, fillP, PV.cells?, PV.one, PV.cleans, PV.clean, PV.of?, List.all_cons, List.all_nil, List.take_succ_cons, List.drop_succ_cons, Bool.and_self, Int.natCast_nonneg, Int.toNat_natCast, Int.toNat_zero, PV.of?, Tk.ren, tailP, evL_loop, or_true, true_or, Nat.zero_lt_one, Nat.sub_zero, List.getElem?_cons_zero, List.getElem?_cons_succ, List.set_cons_zero, List.set_cons_succ, List.take_length, h20] <;> rfl
  obtain ⟨r, lp, hr⟩ := loop_one l cut (by omega) hl' 22
  rcases hr with ⟨H, rfl⟩ | rfl
  · apply fin
    simp only [q4, evL_op, evL_sel, evL_nx, evL_exit, evL_ret, evL_join, evL_block, evL_cond, evK_some, evJ_nx, evJ_rt, evJ_ex, evB_nx, evB_rt, evB_ex, evC2_bool, evS_and, evS_or, evS_tf, evS_ft, ev_t, ev_s, ev_c, evalOp, bin_add, bin_sub, bin_mul, bin_eql, bin_neq, bin_lss, bin_leq, bin_gtr, bin_geq, sbin_eql, sbin_neq, b8, List.map_cons, List.map_nil, PV.rens, PV.ren, if_true, if_false, Bool.false_eq_true, reduceIte, Nat.reduceAdd, Nat.reduceSub, Nat.reduceMul, Nat.reduceEqDiff, Nat.reduceLeDiff, Int.reduceLE, Int.reduceLT, Int.reduceEq, Int.reduceToNat, Int.reduceAdd, Int.reduceSub, Int.reduceNeg, decide_true, decide_false, Bool.not_true, Bool.not_false, Bool.true_and, Bool.false_and, Bool.and_true, Bool.and_false, Bool.or_true, Bool.true_or, Bool.or_false, Bool.false_or, and_self, and_true, true_and, Nat.le_refl, Nat.zero_add, Nat.mul_one, Nat.one_ne_zero, Nat.zero_le, highP, lowP, Option.map_some, Option.map_none, List.drop_zero, List.take_zero, List.length_cons, List.length_nil, List.nil_append, List.append_nil, List.cons_append, fillP, PV.cells?, PV.one, PV.cleans, PV.clean, PV.of?, List.all_cons, List.all_nil, List.take_succ_cons, List.drop_succ_cons, Bool.and_self, Int.natCast_nonneg, Int.toNat_natCast, Int.toNat_zero, PV.of?, Tk.ren, tailP, evL_loop, or_true, true_or, Nat.zero_lt_one, Nat.sub_zero, List.getElem?_cons_zero, List.getElem?_cons_succ, List.set_cons_zero, List.set_cons_succ, List.take_length, h20]
    rw [lp]
    simp only [evL_op, evL_sel, evL_nx, evL_exit, evL_ret, evL_join, evL_block, evL_cond, evK_some, evJ_nx, evJ_rt, evJ_ex, evB_nx, evB_rt, evB_ex, evC2_bool, evS_and, evS_or, evS_tf, evS_ft, ev_t, ev_s, ev_c, evalOp, bin_add, bin_sub, bin_mul, bin_eql, bin_neq, bin_lss, bin_leq, bin_gtr, bin_geq, sbin_eql, sbin_neq, b8, List.map_cons, List.map_nil, PV.rens, PV.ren, if_true, if_false, Bool.false_eq_true, reduceIte, Nat.reduceAdd, Nat.reduceSub, Nat.reduceMul, Nat.reduceEqDiff, Nat.reduceLeDiff, Int.reduceLE, Int.reduceLT, Int.reduceEq, Int.reduceToNat, Int.reduceAdd, Int.reduceSub, Int.reduceNeg, decide_true, decide_false, Bool.not_true, Bool.not_false, Bool.true_and, Bool.false_and, Bool.and_true, Bool.and_false, Bool.or_true, Bool.true_or, Bool.or_false, Bool.false_or, and_self, and_true, true_and, Nat.le_refl, Nat.zero_add, Nat.mul_one, Nat.one_ne_zero, Nat.zero_le, highP, lowP, Option.map_some, Option.map_none, List.drop_zero, List.take_zero, List.length_cons, List.length_nil, List.nil_append, List.append_nil, List.cons_append, fillP, PV.cells?, PV.one, PV.cleans, PV.clean, PV.of?, List.all_cons, List.all_nil, List.take_succ_cons, List.drop_succ_cons, Bool.and_self, Int.natCast_nonneg, Int.toNat_natCast, Int.toNat_zero, PV.of?, Tk.ren, tailP, evL_loop, or_true, true_or, Nat.zero_lt_one, Nat.sub_zero, List.getElem?_cons_zero, List.getElem?_cons_succ, List.set_cons_zero, List.set_cons_succ, List.take_length] <;> rfl
  cases ho : lastO l with
  | none =>
    have hg := lastO_none ho
    rw [ho, hg] at lp
    have c11 := Read_nil
    apply fin
    simp only [q4, evL_op, evL_sel, evL_nx, evL_exit, evL_ret, evL_join, evL_block, evL_cond, evK_some, evJ_nx, evJ_rt, evJ_ex, evB_nx, evB_rt, evB_ex, evC2_bool, evS_and, evS_or, evS_tf, evS_ft, ev_t, ev_s, ev_c, evalOp, bin_add, bin_sub, bin_mul, bin_eql, bin_neq, bin_lss, bin_leq, bin_gtr, bin_geq, sbin_eql, sbin_neq, b8, List.map_cons, List.map_nil, PV.rens, PV.ren, if_true, if_false, Bool.false_eq_true, reduceIte, Nat.reduceAdd, Nat.reduceSub, Nat.reduceMul, Nat.reduceEqDiff, Nat.reduceLeDiff, Int.reduceLE, Int.reduceLT, Int.reduceEq, Int.reduceToNat, Int.reduceAdd, Int.reduceSub, Int.reduceNeg, decide_true, decide_false, Bool.not_true, Bool.not_false, Bool.true_and, Bool.false_and, Bool.and_true, Bool.and_false, Bool.or_true, Bool.true_or, Bool.or_false, Bool.false_or, and_self, and_true, true_and, Nat.le_refl, Nat.zero_add, Nat.mul_one, Nat.one_ne_zero, Nat.zero_le, highP, lowP, Option.map_some, Option.map_none, List.drop_zero, List.take_zero, List.length_cons, List.length_nil, List.nil_append, List.append_nil, List.cons_append, fillP, PV.cells?, PV.one, PV.cleans, PV.clean, PV.of?, List.all_cons, List.all_nil, List.take_succ_cons, List.drop_succ_cons, Bool.and_self, Int.natCast_nonneg, Int.toNat_natCast, Int.toNat_zero, PV.of?, Tk.ren, tailP, evL_loop, or_true, true_or, Nat.zero_lt_one, Nat.sub_zero, List.getElem?_cons_zero, List.getElem?_cons_succ, List.set_cons_zero, List.set_cons_succ, List.take_length, h20]
    rw [lp]
    simp only [q4_5, evL_op, evL_sel, evL_nx, evL_exit, evL_ret, evL_join, evL_block, evL_cond, evK_some, evJ_nx, evJ_rt, evJ_ex, evB_nx, evB_rt, evB_ex, evC2_bool, evS_and, evS_or, evS_tf, evS_ft, ev_t, ev_s, ev_c, evalOp, bin_add, bin_sub, bin_mul, bin_eql, bin_neq, bin_lss, bin_leq, bin_gtr, bin_geq, sbin_eql, sbin_neq, b8, List.map_cons, List.map_nil, PV.rens, PV.ren, if_true, if_false, Bool.false_eq_true, reduceIte, Nat.reduceAdd, Nat.reduceSub, Nat.reduceMul, Nat.reduceEqDiff, Nat.reduceLeDiff, Int.reduceLE, Int.reduceLT, Int.reduceEq, Int.reduceToNat, Int.reduceAdd, Int.reduceSub, Int.reduceNeg, decide_true, decide_false, Bool.not_true, Bool.not_false, Bool.true_and, Bool.false_and, Bool.and_true, Bool.and_false, Bool.or_true, Bool.true_or, Bool.or_false, Bool.false_or, and_self, and_true, true_and, Nat.le_refl, Nat.zero_add, Nat.mul_one, Nat.one_ne_zero, Nat.zero_le, highP, lowP, Option.map_some, Option.map_none, List.drop_zero, List.take_zero, List.length_cons, List.length_nil, List.nil_append, List.append_nil, List.cons_append, fillP, PV.cells?, PV.one, PV.cleans, PV.clean, PV.of?, List.all_cons, List.all_nil, List.take_succ_cons, List.drop_succ_cons, Bool.and_self, Int.natCast_nonneg, Int.toNat_natCast, Int.toNat_zero, PV.of?, Tk.ren, tailP, evL_loop, or_true, true_or, Nat.zero_lt_one, Nat.sub_zero, List.getElem?_cons_zero, List.getElem?_cons_succ, List.set_cons_zero, List.set_cons_succ, List.take_length, PV.rens, PV.ren, PV.cells?, c11, T_wakes, o0, lastV, lastH, bP] <;> rfl
  | some x =>
    obtain ⟨hg, p, hp, rfl⟩ := lastO_some ho
    rw [ho] at lp
    have hgn : ¬ ((gs l).length : Int) = 0 := by
      have : (gs l).length ≠ 0 := fun e => hg (List.eq_nil_of_length_eq_zero e)
      omega
    have lp2 := loop_two l cut (rb p.1 p.2) (by omega) hl' (if gs l = [] then 0 else 1) (if_neg hg) 22
    have e3 : tk2 l l.length = .no ∧ hp2 l l.length = [.dead] := by unfold tk2 hp2; rw [List.take_length, if_neg hg, if_neg hg]; exact ⟨rfl, rfl⟩
    rw [e3.1, e3.2] at lp2
    have hp0 := rb_pos hp
    have hp1 := rb_len hp
    have hu0 : 0 ≤ IntKind.u64.wrap cut := by
      have : IntKind.u64.wrap cut = cut % 18446744073709551616 := rfl
      rw [this]; omega
    have hun : IntKind.u64.wrap ((rb p.1 p.2).length : Int) = ((rb p.1 p.2).length : Int) := by
      have : IntKind.u64.wrap ((rb p.1 p.2).length : Int) = ((rb p.1 p.2).length : Int) % 18446744073709551616 := rfl
      rw [this]; omega
    obtain ⟨k, hkl, hk⟩ : ∃ k : Nat, k < (rb p.1 p.2).length ∧ (IntKind.u64.wrap cut).tmod ((rb p.1 p.2).length : Int) = (k : Int) := by
      refine ⟨((IntKind.u64.wrap cut).tmod ((rb p.1 p.2).length : Int)).toNat, ?_, ?_⟩ <;> rw [Int.tmod_eq_emod_of_nonneg hu0]
      · have h1 := Int.emod_nonneg (IntKind.u64.wrap cut) (show ((rb p.1 p.2).length : Int) ≠ 0 by omega)
        have h2 := Int.emod_lt_of_pos (IntKind.u64.wrap cut) (show (0 : Int) < ((rb p.1 p.2).length : Int) by omega)
        omega
      · have h1 := Int.emod_nonneg (IntKind.u64.wrap cut) (show ((rb p.1 p.2).length : Int) ≠ 0 by omega)
        omega
    have wk : IntKind.i64.wrap (k : Int) = (k : Int) := wr (by omega) (by omega)
    have hne : ¬ ((rb p.1 p.2).length : Int) = 0 := by omega
    have rm : binP .rem (.int .u64 (IntKind.u64.wrap cut)) (.int .u64 ((rb p.1 p.2).length : Int)) = some (.int .u64 (k : Int)) := by rw [← hk]; exact bin_rem hne
    have hcn := cut_none hp hkl
    have c11 := Read_none ((rb p.1 p.2).take k) (by rw [List.length_take]; omega) hcn
    have ek : sl8 ((rb p.1 p.2).take k) = .sl .no 1 k (((rb p.1 p.2).map b8).take k) := by
      unfold sl8; rw [List.length_take, Nat.min_eq_left (by omega), List.map_take]
    rw [ek] at c11
    have k1 : (0 : Int) ≤ k := by omega
    have k2 : k ≤ (rb p.1 p.2).length := by omega
    have k3 : (k : Int) ≤ ((rb p.1 p.2).length : Int) := by omega
    generalize rb p.1 p.2 = L at *
    apply fin
    simp only [q4, evL_op, evL_sel, evL_nx, evL_exit, evL_ret, evL_join, evL_block, evL_cond, evK_some, evJ_nx, evJ_rt, evJ_ex, evB_nx, evB_rt, evB_ex, evC2_bool, evS_and, evS_or, evS_tf, evS_ft, ev_t, ev_s, ev_c, evalOp, bin_add, bin_sub, bin_mul, bin_eql, bin_neq, bin_lss, bin_leq, bin_gtr, bin_geq, sbin_eql, sbin_neq, b8, List.map_cons, List.map_nil, PV.rens, PV.ren, if_true, if_false, Bool.false_eq_true, reduceIte, Nat.reduceAdd, Nat.reduceSub, Nat.reduceMul, Nat.reduceEqDiff, Nat.reduceLeDiff, Int.reduceLE, Int.reduceLT, Int.reduceEq, Int.reduceToNat, Int.reduceAdd, Int.reduceSub, Int.reduceNeg, decide_true, decide_false, Bool.not_true, Bool.not_false, Bool.true_and, Bool.false_and, Bool.and_true, Bool.and_false, Bool.or_true, Bool.true_or, Bool.or_false, Bool.false_or, and_self, and_true, true_and, Nat.le_refl, Nat.zero_add, Nat.mul_one, Nat.one_ne_zero, Nat.zero_le, highP, lowP, Option.map_some, Option.map_none, List.drop_zero, List.take_zero, List.length_cons, List.length_nil, List.nil_append, List.append_nil, List.cons_append, fillP, PV.cells?, PV.one, PV.cleans, PV.clean, PV.of?, List.all_cons, List.all_nil, List.take_succ_cons, List.drop_succ_cons, Bool.and_self, Int.natCast_nonneg, Int.toNat_natCast, Int.toNat_zero, PV.of?, Tk.ren, tailP, evL_loop, or_true, true_or, Nat.zero_lt_one, Nat.sub_zero, List.getElem?_cons_zero, List.getElem?_cons_succ, List.set_cons_zero, List.set_cons_succ, List.take_length, h20]
    rw [lp]
    simp only [q4_5, evL_op, evL_sel, evL_nx, evL_exit, evL_ret, evL_join, evL_block, evL_cond, evK_some, evJ_nx, evJ_rt, evJ_ex, evB_nx, evB_rt, evB_ex, evC2_bool, evS_and, evS_or, evS_tf, evS_ft, ev_t, ev_s, ev_c, evalOp, bin_add, bin_sub, bin_mul, bin_eql, bin_neq, bin_lss, bin_leq, bin_gtr, bin_geq, sbin_eql, sbin_neq, b8, List.map_cons, List.map_nil, PV.rens, PV.ren, if_true, if_false, Bool.false_eq_true, reduceIte, Nat.reduceAdd, Nat.reduceSub, Nat.reduceMul, Nat.reduceEqDiff, Nat.reduceLeDiff, Int.reduceLE, Int.reduceLT, Int.reduceEq, Int.reduceToNat, Int.reduceAdd, Int.reduceSub, Int.reduceNeg, decide_true, decide_false, Bool.not_true, Bool.not_false, Bool.true_and, Bool.false_and, Bool.and_true, Bool.and_false, Bool.or_true, Bool.true_or, Bool.or_false, Bool.false_or, and_self, and_true, true_and, Nat.le_refl, Nat.zero_add, Nat.mul_one, Nat.one_ne_zero, Nat.zero_le, highP, lowP, Option.map_some, Option.map_none, List.drop_zero, List.take_zero, List.length_cons, List.length_nil, List.nil_append, List.append_nil, List.cons_append, fillP, PV.cells?, PV.one, PV.cleans, PV.clean, PV.of?, List.all_cons, List.all_nil, List.take_succ_cons, List.drop_succ_cons, Bool.and_self, Int.natCast_nonneg, Int.toNat_natCast, Int.toNat_zero, PV.of?, Tk.ren, tailP, evL_loop, or_true, true_or, Nat.zero_lt_one, Nat.sub_zero, List.getElem?_cons_zero, List.getElem?_cons_succ, List.set_cons_zero, List.set_cons_succ, List.take_length, lastV, lastH, bP, hgn]
    rw [lp2]
    simp only [q4_4, evL_op, evL_sel, evL_nx, evL_exit, evL_ret, evL_join, evL_block, evL_cond, evK_some, evJ_nx, evJ_rt, evJ_ex, evB_nx, evB_rt, evB_ex, evC2_bool, evS_and, evS_or, evS_tf, evS_ft, ev_t, ev_s, ev_c, evalOp, bin_add, bin_sub, bin_mul, bin_eql, bin_neq, bin_lss, bin_leq, bin_gtr, bin_geq, sbin_eql, sbin_neq, b8, List.map_cons, List.map_nil, PV.rens, PV.ren, if_true, if_false, Bool.false_eq_true, reduceIte, Nat.reduceAdd, Nat.reduceSub, Nat.reduceMul, Nat.reduceEqDiff, Nat.reduceLeDiff, Int.reduceLE, Int.reduceLT, Int.reduceEq, Int.reduceToNat, Int.reduceAdd, Int.reduceSub, Int.reduceNeg, decide_true, decide_false, Bool.not_true, Bool.not_false, Bool.true_and, Bool.false_and, Bool.and_true, Bool.and_false, Bool.or_true, Bool.true_or, Bool.or_false, Bool.false_or, and_self, and_true, true_and, Nat.le_refl, Nat.zero_add, Nat.mul_one, Nat.one_ne_zero, Nat.zero_le, highP, lowP, Option.map_some, Option.map_none, List.drop_zero, List.take_zero, List.length_cons, List.length_nil, List.nil_append, List.append_nil, List.cons_append, fillP, PV.cells?, PV.one, PV.cleans, PV.clean, PV.of?, List.all_cons, List.all_nil, List.take_succ_cons, List.drop_succ_cons, Bool.and_self, Int.natCast_nonneg, Int.toNat_natCast, Int.toNat_zero, PV.of?, Tk.ren, tailP, evL_loop, or_true, true_or, Nat.zero_lt_one, Nat.sub_zero, List.getElem?_cons_zero, List.getElem?_cons_succ, List.set_cons_zero, List.set_cons_succ, List.take_length, PV.rens, PV.ren, PV.cells?, hne, hun, rm, wk, k1, k2, k3, Nat.sub_zero, c11, T_wakes, o0] <;> rfl
end Go.Proofs.YtmajbgmjlggcbaaDoor.Tab
