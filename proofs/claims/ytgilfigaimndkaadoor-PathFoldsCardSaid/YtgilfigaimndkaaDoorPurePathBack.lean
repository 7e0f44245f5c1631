/- PathBack: what is left of it, over texts. -/
import Derived.Test.YtgilfigaimndkaaDoorPath2
namespace Go.Proofs.YtgilfigaimndkaaDoor.Tab
set_option linter.all false
open Go Go.RowKit Go.Proofs.YtgilfigaimndkaaDoor.Ev
theorem atom_chars {s : List UInt8} (h : atom s = true) : s.all atomC = true := by
  unfold atom at h
  simp only [Bool.and_eq_true] at h
  exact h.1
theorem no_at {l : List UInt8} (h : parts l 64 atom = true) : 64 ∉ l := fun hm => by
  simp only [parts, Bool.and_eq_true] at h
  have h4 : (splitBy 46 l).all (fun x => x.all atomC) = true := List.all_eq_true.2 fun x hx => atom_chars (List.all_eq_true.1 h.2 x hx)
  rcases split_chars atomC l h4 64 hm with h5 | h5
  · exact absurd h5 (by decide)
  · exact absurd h5 (by decide)
theorem cut_text {l d : List UInt8} (h : 64 ∉ l) : cutP (60 :: (l ++ 64 :: (d ++ [62]))) 60 = (l ++ 64 :: (d ++ [62]), true) ∧ cutS (l ++ 64 :: (d ++ [62])) 62 = (l ++ 64 :: d, true) ∧ cutA (l ++ 64 :: d) 64 = (l, d, true) := by
  refine ⟨by simp [cutP], ?_, ?_⟩
  · have e : l ++ 64 :: (d ++ [62]) = (l ++ 64 :: d) ++ [62] := by simp
    rw [e]
    unfold cutS
    rw [if_pos List.getLast?_concat, List.dropLast_concat]
  · have hne : ∀ x ∈ l, (x != 64) = true := fun x hx => by simp; intro e; subst e; exact h hx
    unfold cutA
    rw [if_pos (by simp), List.takeWhile_append_of_pos hne, List.dropWhile_append_of_pos hne]
    simp
theorem parse_text {n : Bool} {l d : List UInt8} (h : pathOk n l d = true) : parseV (textOf n l d) = pathV n l d ∧ parseOk (textOf n l d) = true := by
  cases n with
  | true =>
    have e : l ++ d = [] := by simpa [pathOk] using h
    obtain ⟨rfl, rfl⟩ := List.append_eq_nil_iff.1 e
    exact ⟨rfl, rfl⟩
  | false =>
    have hp : parts l 64 atom = true ∧ parts d 255 label = true := by simpa [pathOk] using h
    obtain ⟨c1, c2, c3⟩ := cut_text (d := d) (no_at hp.1)
    have hne : ¬ (60 :: (l ++ 64 :: (d ++ [62])) : List UInt8) = [60, 62] := fun e => by
      cases l with
      | nil => simp at e
      | cons a l => have := congrArg List.length e; simp at this
    have hin : inner (60 :: (l ++ 64 :: (d ++ [62]))) = (l, d) := by unfold inner; rw [c1, c2, c3]
    have hok : innerOk (60 :: (l ++ 64 :: (d ++ [62]))) = true := by unfold innerOk; rw [hin, c1, c2, c3]; simpa using h
    have et : textOf false l d = 60 :: (l ++ 64 :: (d ++ [62])) := rfl
    rw [et]
    unfold parseV parseC parseOk
    rw [if_neg hne, if_pos hok, hin, hok]
    exact ⟨rfl, by simp⟩
theorem text_parse {s : List UInt8} (h : parseOk s = true) : ∃ n l d, parseV s = pathV n l d ∧ pathOk n l d = true ∧ textOf n l d = s ∧ l.length + d.length ≤ s.length := by
  by_cases h0 : s = [60, 62]
  · subst h0; exact ⟨true, [], [], rfl, rfl, rfl, by simp⟩
  · have hok : innerOk s = true := by simpa [parseOk, h0] using h
    refine ⟨false, (inner s).1, (inner s).2, by simp [parseV, parseC, h0, hok], ?_, ?_, ?_⟩
    · unfold innerOk at hok
      simp only [Bool.and_eq_true] at hok
      exact hok.2
    · unfold innerOk at hok
      simp only [Bool.and_eq_true] at hok
      obtain ⟨⟨⟨h1, h2⟩, h3⟩, _⟩ := hok
      have e1 : s = 60 :: (cutP s 60).1 := by
        unfold cutP at h1 ⊢
        split at h1
        · rename_i h5
          rw [if_pos h5]
          cases s with
          | nil => simp at h5
          | cons a r => simp at h5; rw [h5]; rfl
        · cases h1
      have e2 : (cutP s 60).1 = (cutS (cutP s 60).1 62).1 ++ [62] := by
        generalize (cutP s 60).1 = a at *
        unfold cutS at h2 ⊢
        split at h2
        · rename_i h5
          rw [if_pos h5]
          rcases List.eq_nil_or_concat a with rfl | ⟨r, z, rfl⟩
          · simp at h5
          · rw [List.concat_eq_append] at *
            rw [List.getLast?_concat] at h5
            rw [List.dropLast_concat, Option.some.inj h5]
        · cases h2
      have e3 : (cutS (cutP s 60).1 62).1 = (cutA (cutS (cutP s 60).1 62).1 64).1 ++ 64 :: (cutA (cutS (cutP s 60).1 62).1 64).2.1 := by
        generalize (cutS (cutP s 60).1 62).1 = b at *
        rcases idxB_cases b 64 with ⟨_, h5⟩ | ⟨x, y, h5, h6, _⟩
        · unfold cutA at h3; rw [if_neg h5] at h3; cases h3
        · have hne : ∀ z ∈ x, (z != 64) = true := fun z hz => by simp; intro e; subst e; exact h6 hz
          unfold cutA
          rw [if_pos (by rw [h5]; simp), h5, List.takeWhile_append_of_pos hne, List.dropWhile_append_of_pos hne]
          simp
      show 60 :: ((inner s).1 ++ 64 :: ((inner s).2 ++ [62])) = s
      have f1 : (inner s).1 = (cutA (cutS (cutP s 60).1 62).1 64).1 := rfl
      have f2 : (inner s).2 = (cutA (cutS (cutP s 60).1 62).1 64).2.1 := rfl
      rw [f1, f2]
      conv => rhs; rw [e1, e2, e3]
      simp
    · have hp := cutP_len s 60
      have hq := cutS_len (cutP s 60).1 62
      have hr := cutA_len (cutS (cutP s 60).1 62).1 64
      show (cutA (cutS (cutP s 60).1 62).1 64).1.length + (cutA (cutS (cutP s 60).1 62).1 64).2.1.length ≤ _
      omega
theorem bad_parse {s : List UInt8} (h : parseOk s = false) : parseV s = pathV false [] [] := by
  have h0 : ¬ s = [60, 62] := fun e => by simp [parseOk, e] at h
  have h1 : innerOk s = false := by simpa [parseOk, h0] using h
  simp [parseV, parseC, h0, h1]
theorem back2 (s : List UInt8) (hs : s.length ≤ 4000) (a b : List PV) : (∃ H, evL T 0 q4_0 [.str s] [.cells a] = some (.rt, [.bool true], H)) ∧ (∃ H, evL T 0 q4_0 [.str s] [.cells a, .cells b] = some (.rt, [.bool true], H)) := by
  have a1 := T9 s (by omega)
  cases hp : parseOk s with
  | false =>
    rw [bad_parse hp] at a1
    simp only [hp] at a1
    refine ⟨⟨[.cells a, .cells [.bool false, .str [], .str []]], ?_⟩, ⟨[.cells a, .cells b, .cells [.bool false, .str [], .str []]], ?_⟩⟩ <;> simp only [q4_0, evL_op, evL_sel, evL_nx, evL_exit, evL_ret, evL_join, evL_block, evL_cond, evK_some, evJ_nx, evJ_rt, evJ_ex, evB_nx, evB_rt, evB_ex, evC2_bool, evS_and, evS_or, evS_tf, evS_ft, ev_t, ev_s, ev_c, evalOp, bin_add, bin_sub, bin_mul, bin_eql, bin_neq, bin_lss, bin_leq, bin_gtr, bin_geq, sbin_eql, sbin_neq, b8, List.map_cons, List.map_nil, PV.rens, PV.ren, if_true, if_false, Bool.false_eq_true, reduceIte, Nat.reduceAdd, Nat.reduceSub, Nat.reduceMul, Nat.reduceEqDiff, Nat.reduceLeDiff, Int.reduceLE, Int.reduceLT, Int.reduceEq, Int.reduceToNat, Int.reduceAdd, Int.reduceSub, Int.reduceNeg, decide_true, decide_false, Bool.not_true, Bool.not_false, Bool.true_and, Bool.false_and, Bool.and_true, Bool.and_false, Bool.or_true, Bool.true_or, Bool.or_false, Bool.false_or, and_self, and_true, true_and, Nat.le_refl, Nat.zero_add, Nat.mul_one, Nat.one_ne_zero, Nat.zero_le, highP, lowP, Option.map_some, Option.map_none, List.drop_zero, List.take_zero, List.length_cons, List.length_nil, List.nil_append, List.append_nil, List.cons_append, fillP, PV.cells?, PV.one, PV.cleans, PV.clean, PV.of?, List.all_cons, List.all_nil, List.take_succ_cons, List.drop_succ_cons, Bool.and_self, Int.natCast_nonneg, Int.toNat_natCast, Int.toNat_zero, a1, List.getElem?_cons_zero, List.getElem?_cons_succ, List.set_cons_zero, List.set_cons_succ, T24]
  | true =>
    obtain ⟨n, l, d, e1, e2, e3, e4⟩ := text_parse hp
    rw [e1] at a1
    simp only [hp] at a1
    have a2 := T11 n l d (by omega)
    have a3 := T13 n l d (by omega)
    simp only [e2, e3, if_true] at a1 a2 a3
    refine ⟨⟨[.cells a, .cells [.bool n, .str l, .str d]], ?_⟩, ⟨[.cells a, .cells b, .cells [.bool n, .str l, .str d]], ?_⟩⟩ <;> simp only [q4_0, evL_op, evL_sel, evL_nx, evL_exit, evL_ret, evL_join, evL_block, evL_cond, evK_some, evJ_nx, evJ_rt, evJ_ex, evB_nx, evB_rt, evB_ex, evC2_bool, evS_and, evS_or, evS_tf, evS_ft, ev_t, ev_s, ev_c, evalOp, bin_add, bin_sub, bin_mul, bin_eql, bin_neq, bin_lss, bin_leq, bin_gtr, bin_geq, sbin_eql, sbin_neq, b8, List.map_cons, List.map_nil, PV.rens, PV.ren, if_true, if_false, Bool.false_eq_true, reduceIte, Nat.reduceAdd, Nat.reduceSub, Nat.reduceMul, Nat.reduceEqDiff, Nat.reduceLeDiff, Int.reduceLE, Int.reduceLT, Int.reduceEq, Int.reduceToNat, Int.reduceAdd, Int.reduceSub, Int.reduceNeg, decide_true, decide_false, Bool.not_true, Bool.not_false, Bool.true_and, Bool.false_and, Bool.and_true, Bool.and_false, Bool.or_true, Bool.true_or, Bool.or_false, Bool.false_or, and_self, and_true, true_and, Nat.le_refl, Nat.zero_add, Nat.mul_one, Nat.one_ne_zero, Nat.zero_le, highP, lowP, Option.map_some, Option.map_none, List.drop_zero, List.take_zero, List.length_cons, List.length_nil, List.nil_append, List.append_nil, List.cons_append, fillP, PV.cells?, PV.one, PV.cleans, PV.clean, PV.of?, List.all_cons, List.all_nil, List.take_succ_cons, List.drop_succ_cons, Bool.and_self, Int.natCast_nonneg, Int.toNat_natCast, Int.toNat_zero, a1, a2, a3, List.getElem?_cons_zero, List.getElem?_cons_succ, List.set_cons_zero, List.set_cons_succ, T24]
theorem lawPathBack (p : Bool × List UInt8 × List UInt8) (hp : True ∧ p.2.1.length ≤ room ∧ p.2.2.length ≤ room) (s : List UInt8) (hs : s.length ≤ room) : evT lt ov 4 [.agg ([.bool p.1] ++ ([.str p.2.1] ++ [.str p.2.2])), .str s] [] = some (.bool true, []) := by
  obtain ⟨n, l, d⟩ := p
  obtain ⟨_, hl, hd⟩ := hp
  simp only at hl hd
  unfold room at hl hd hs
  show evT lt ov 4 [pathV n l d, .str s] [] = _
  have w1 : IntKind.i64.wrap ((l.length : Int) + d.length) = (l.length : Int) + d.length := IntWalk.i64_in _ (by omega)
  have w2 : IntKind.i64.wrap ((l.length : Int) + d.length + s.length) = (l.length : Int) + d.length + s.length := IntWalk.i64_in _ (by omega)
  have fin : ∀ {H : Hp}, evL T 0 q4 [pathV n l d, .str s] [] = some (.rt, [.bool true], H) → evT lt ov 4 [pathV n l d, .str s] [] = some (.bool true, []) := fun {H} h =>
    evT_of (k := 0) (F := l4) (H' := H) (e := [.bool true]) (l := [.bool true]) rfl rfl rfl h rfl rfl
  by_cases hlen : (2000 : Int) < (l.length : Int) + d.length + s.length
  · refine fin (H := [.cells [.bool n, .str l, .str d]]) ?_
    simp only [q4, evL_op, evL_sel, evL_nx, evL_exit, evL_ret, evL_join, evL_block, evL_cond, evK_some, evJ_nx, evJ_rt, evJ_ex, evB_nx, evB_rt, evB_ex, evC2_bool, evS_and, evS_or, evS_tf, evS_ft, ev_t, ev_s, ev_c, evalOp, bin_add, bin_sub, bin_mul, bin_eql, bin_neq, bin_lss, bin_leq, bin_gtr, bin_geq, sbin_eql, sbin_neq, b8, List.map_cons, List.map_nil, PV.rens, PV.ren, if_true, if_false, Bool.false_eq_true, reduceIte, Nat.reduceAdd, Nat.reduceSub, Nat.reduceMul, Nat.reduceEqDiff, Nat.reduceLeDiff, Int.reduceLE, Int.reduceLT, Int.reduceEq, Int.reduceToNat, Int.reduceAdd, Int.reduceSub, Int.reduceNeg, decide_true, decide_false, Bool.not_true, Bool.not_false, Bool.true_and, Bool.false_and, Bool.and_true, Bool.and_false, Bool.or_true, Bool.true_or, Bool.or_false, Bool.false_or, and_self, and_true, true_and, Nat.le_refl, Nat.zero_add, Nat.mul_one, Nat.one_ne_zero, Nat.zero_le, highP, lowP, Option.map_some, Option.map_none, List.drop_zero, List.take_zero, List.length_cons, List.length_nil, List.nil_append, List.append_nil, List.cons_append, fillP, PV.cells?, PV.one, PV.cleans, PV.clean, PV.of?, List.all_cons, List.all_nil, List.take_succ_cons, List.drop_succ_cons, Bool.and_self, Int.natCast_nonneg, Int.toNat_natCast, Int.toNat_zero, w1, w2, hlen, List.getElem?_cons_zero]
  · have a1 := T11 n l d (by omega)
    cases hok : pathOk n l d with
    | false =>
      obtain ⟨⟨H1, b1⟩, _⟩ := back2 s (by omega) [.bool n, .str l, .str d] []
      simp only [hok, Bool.false_eq_true, if_false] at a1
      refine fin (H := H1) ?_
      rw [← b1]
      simp only [q4, evL_op, evL_sel, evL_nx, evL_exit, evL_ret, evL_join, evL_block, evL_cond, evK_some, evJ_nx, evJ_rt, evJ_ex, evB_nx, evB_rt, evB_ex, evC2_bool, evS_and, evS_or, evS_tf, evS_ft, ev_t, ev_s, ev_c, evalOp, bin_add, bin_sub, bin_mul, bin_eql, bin_neq, bin_lss, bin_leq, bin_gtr, bin_geq, sbin_eql, sbin_neq, b8, List.map_cons, List.map_nil, PV.rens, PV.ren, if_true, if_false, Bool.false_eq_true, reduceIte, Nat.reduceAdd, Nat.reduceSub, Nat.reduceMul, Nat.reduceEqDiff, Nat.reduceLeDiff, Int.reduceLE, Int.reduceLT, Int.reduceEq, Int.reduceToNat, Int.reduceAdd, Int.reduceSub, Int.reduceNeg, decide_true, decide_false, Bool.not_true, Bool.not_false, Bool.true_and, Bool.false_and, Bool.and_true, Bool.and_false, Bool.or_true, Bool.true_or, Bool.or_false, Bool.false_or, and_self, and_true, true_and, Nat.le_refl, Nat.zero_add, Nat.mul_one, Nat.one_ne_zero, Nat.zero_le, highP, lowP, Option.map_some, Option.map_none, List.drop_zero, List.take_zero, List.length_cons, List.length_nil, List.nil_append, List.append_nil, List.cons_append, fillP, PV.cells?, PV.one, PV.cleans, PV.clean, PV.of?, List.all_cons, List.all_nil, List.take_succ_cons, List.drop_succ_cons, Bool.and_self, Int.natCast_nonneg, Int.toNat_natCast, Int.toNat_zero, w1, w2, hlen, a1, List.getElem?_cons_zero, List.getElem?_cons_succ]
    | true =>
      simp only [hok, if_true] at a1
      obtain ⟨e1, e2⟩ := parse_text hok
      have ht : (textOf n l d).length ≤ 4000 := by
        unfold textOf
        split
        · simp
        · simp only [List.length_cons, List.length_append, List.length_nil]; omega
      have a2 := T9 (textOf n l d) (by omega)
      rw [e1] at a2
      simp only [e2, if_true] at a2
      have a3 := T16 n n l d l d
      have a4 := T13 n l d (by omega)
      simp only [hok, if_true] at a4
      have hnn : (n == n && decide (l = l) && decide (d = d)) = true := by simp
      rw [hnn] at a3
      obtain ⟨_, ⟨H1, b1⟩⟩ := back2 s (by omega) [.bool n, .str l, .str d] [.bool n, .str l, .str d]
      refine fin (H := H1) ?_
      rw [← b1]
      simp only [q4, evL_op, evL_sel, evL_nx, evL_exit, evL_ret, evL_join, evL_block, evL_cond, evK_some, evJ_nx, evJ_rt, evJ_ex, evB_nx, evB_rt, evB_ex, evC2_bool, evS_and, evS_or, evS_tf, evS_ft, ev_t, ev_s, ev_c, evalOp, bin_add, bin_sub, bin_mul, bin_eql, bin_neq, bin_lss, bin_leq, bin_gtr, bin_geq, sbin_eql, sbin_neq, b8, List.map_cons, List.map_nil, PV.rens, PV.ren, if_true, if_false, Bool.false_eq_true, reduceIte, Nat.reduceAdd, Nat.reduceSub, Nat.reduceMul, Nat.reduceEqDiff, Nat.reduceLeDiff, Int.reduceLE, Int.reduceLT, Int.reduceEq, Int.reduceToNat, Int.reduceAdd, Int.reduceSub, Int.reduceNeg, decide_true, decide_false, Bool.not_true, Bool.not_false, Bool.true_and, Bool.false_and, Bool.and_true, Bool.and_false, Bool.or_true, Bool.true_or, Bool.or_false, Bool.false_or, and_self, and_true, true_and, Nat.le_refl, Nat.zero_add, Nat.mul_one, Nat.one_ne_zero, Nat.zero_le, highP, lowP, Option.map_some, Option.map_none, List.drop_zero, List.take_zero, List.length_cons, List.length_nil, List.nil_append, List.append_nil, List.cons_append, fillP, PV.cells?, PV.one, PV.cleans, PV.clean, PV.of?, List.all_cons, List.all_nil, List.take_succ_cons, List.drop_succ_cons, Bool.and_self, Int.natCast_nonneg, Int.toNat_natCast, Int.toNat_zero, w1, w2, hlen, a1, a2, a3, a4, List.getElem?_cons_zero, List.getElem?_cons_succ, List.set_cons_zero, List.set_cons_succ]
end Go.Proofs.YtgilfigaimndkaaDoor.Tab
