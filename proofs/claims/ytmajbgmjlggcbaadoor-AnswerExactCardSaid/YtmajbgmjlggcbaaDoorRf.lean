/- Where a line ends. -/
import Derived.Test.YtmajbgmjlggcbaaDoorLines
import Derived.Test.YtmajbgmjlggcbaaDoorWakes13
namespace Go.Proofs.YtmajbgmjlggcbaaDoor.Tab
set_option linter.all false
open Go Go.RowKit Go.Proofs.YtmajbgmjlggcbaaDoor.Ev
def endV (b : List UInt8) (i : Nat) : Int := if Lib.index (b.drop i) nl = -1 then -1 else i + Lib.index (b.drop i) nl
theorem endV_no {b : List UInt8} {i : Nat} (h : Lib.index (b.drop i) nl = -1) : endV b i = -1 := if_pos h
theorem endV_yes {b : List UInt8} {i : Nat} {a : List UInt8} (h : Lib.index (b.drop i) nl = a.length) : endV b i = ((i + a.length : Nat) : Int) := by
  unfold endV
  rw [h, if_neg (by omega)]
  omega
theorem T25 (b : List UInt8) (hl : b.length ≤ 1000000000) (i0 : Nat) (hi0 : i0 ≤ b.length) : T 25 [sl8 b, .int .i64 i0] [] = some (.int .i64 (endV b i0), []) := by
  generalize hr : endV b i0 = r
  unfold endV at hr
  refine evT_of (k := b.length + 2) (F := l25) (H' := []) (e := [.int .i64 r]) (l := [.int .i64 r]) rfl rfl rfl ?_ rfl rfl
  show evL T (b.length + 2) q25 _ _ = _
  have lp := loop_law (n := 0) (body := evL T (b.length + 2) q25_1) (σ := Nat) (fun i => [sl8 b, .int .i64 i]) (fun _ => []) (fun i => b.length + 1 - i) (fun i => i ≤ b.length)
    (fun i => if Lib.index (b.drop i) nl = -1 then (.ex 0, [], []) else (.rt, [.int .i64 (i + Lib.index (b.drop i) nl)], [])) (by
      intro i hi
      have w1 := wr1 (show i < 9223372036854775807 by omega)
      rcases Nat.lt_or_ge (i + 1) b.length with h | h
      · have h1 : i < b.length := by omega
        have h3 : ((i + 1 : Nat) : Int) < b.length := by omega
        have h4 : (i : Int) < b.length := by omega
        have g1 := get_b8 h1
        have g2 := get_b8 h
        have hh : (b.drop (i + 1)).head? = some b[i + 1] := by rw [List.drop_eq_getElem_cons h]; rfl
        have hd := idx_cons b[i] (b.drop (i + 1)) nl
        rw [← List.drop_eq_getElem_cons h1, List.drop_eq_getElem_cons h1, pre_nl, hh] at hd
        have e1 : decide (((b[i]).toNat : Int) = 13) = (b[i] == 13) := by
          by_cases hc : b[i] = 13
          · rw [hc]; rfl
          · have : ¬ ((b[i]).toNat : Int) = 13 := fun e => hc (UInt8.toNat_inj.1 (by show _ = 13; omega))
            rw [decide_eq_false this]; simp [hc]
        have e2 : decide (((b[i + 1]).toNat : Int) = 10) = (b[i + 1] == 10) := by
          by_cases hc : b[i + 1] = 10
          · rw [hc]; rfl
          · have : ¬ ((b[i + 1]).toNat : Int) = 10 := fun e => hc (UInt8.toNat_inj.1 (by show _ = 10; omega))
            rw [decide_eq_false this]; simp [hc]
        have e3 : (some b[i + 1] == some 10) = (b[i + 1] == 10) := rfl
        rw [e3] at hd
        rw [← List.drop_eq_getElem_cons h1] at hd
        by_cases hc : (b[i] == 13 && b[i + 1] == 10) = true
        · rw [if_pos hc] at hd
          rw [hd]
          refine .inl ⟨?_, by simp⟩
          simp only [q25_1, q25_0, evL_op, evL_sel, evL_nx, evL_exit, evL_ret, evL_join, evL_block, evL_cond, evK_some, evJ_nx, evJ_rt, evJ_ex, evB_nx, evB_rt, evB_ex, evC2_bool, evS_and, evS_or, evS_tf, evS_ft, ev_t, ev_s, ev_c, evalOp, bin_add, bin_sub, bin_mul, bin_eql, bin_neq, bin_lss, bin_leq, bin_gtr, bin_geq, sbin_eql, sbin_neq, b8, List.map_cons, List.map_nil, PV.rens, PV.ren, if_true, if_false, Bool.false_eq_true, reduceIte, Nat.reduceAdd, Nat.reduceSub, Nat.reduceMul, Nat.reduceEqDiff, Nat.reduceLeDiff, Int.reduceLE, Int.reduceLT, Int.reduceEq, Int.reduceToNat, Int.reduceAdd, Int.reduceSub, Int.reduceNeg, decide_true, decide_false, Bool.not_true, Bool.not_false, Bool.true_and, Bool.false_and, Bool.and_true, Bool.and_false, Bool.or_true, Bool.true_or, Bool.or_false, Bool.false_or, and_self, and_true, true_and, Nat.le_refl, Nat.zero_add, Nat.mul_one, Nat.one_ne_zero, Nat.zero_le, highP, lowP, Option.map_some, Option.map_none, List.drop_zero, List.take_zero, List.length_cons, List.length_nil, List.nil_append, List.append_nil, List.cons_append, fillP, PV.cells?, PV.one, PV.cleans, PV.clean, PV.of?, List.all_cons, List.all_nil, List.take_succ_cons, List.drop_succ_cons, Bool.and_self, Int.natCast_nonneg, Int.toNat_natCast, Int.toNat_zero, w1, h3, h4, g1, g2, e1, e2, hc, Int.add_zero, if_neg (show ¬ (0 : Int) = -1 by decide)]
        · rw [if_neg hc] at hd
          have hc' : (b[i] == 13 && b[i + 1] == 10) = false := by simpa using hc
          refine .inr ⟨i + 1, ?_⟩
          apply Exists.intro
          apply Exists.intro
          refine ⟨?_, ?_, by omega, by omega, ?_⟩
          · simp only [q25_1, q25_0, evL_op, evL_sel, evL_nx, evL_exit, evL_ret, evL_join, evL_block, evL_cond, evK_some, evJ_nx, evJ_rt, evJ_ex, evB_nx, evB_rt, evB_ex, evC2_bool, evS_and, evS_or, evS_tf, evS_ft, ev_t, ev_s, ev_c, evalOp, bin_add, bin_sub, bin_mul, bin_eql, bin_neq, bin_lss, bin_leq, bin_gtr, bin_geq, sbin_eql, sbin_neq, b8, List.map_cons, List.map_nil, PV.rens, PV.ren, if_true, if_false, Bool.false_eq_true, reduceIte, Nat.reduceAdd, Nat.reduceSub, Nat.reduceMul, Nat.reduceEqDiff, Nat.reduceLeDiff, Int.reduceLE, Int.reduceLT, Int.reduceEq, Int.reduceToNat, Int.reduceAdd, Int.reduceSub, Int.reduceNeg, decide_true, decide_false, Bool.not_true, Bool.not_false, Bool.true_and, Bool.false_and, Bool.and_true, Bool.and_false, Bool.or_true, Bool.true_or, Bool.or_false, Bool.false_or, and_self, and_true, true_and, Nat.le_refl, Nat.zero_add, Nat.mul_one, Nat.one_ne_zero, Nat.zero_le, highP, lowP, Option.map_some, Option.map_none, List.drop_zero, List.take_zero, List.length_cons, List.length_nil, List.nil_append, List.append_nil, List.cons_append, fillP, PV.cells?, PV.one, PV.cleans, PV.clean, PV.of?, List.all_cons, List.all_nil, List.take_succ_cons, List.drop_succ_cons, Bool.and_self, Int.natCast_nonneg, Int.toNat_natCast, Int.toNat_zero, w1, h3, h4, g1, g2, e1, e2, hc']
            rfl
          · rfl
          · rw [hd]
            by_cases hm : Lib.index (b.drop (i + 1)) nl = -1
            · rw [if_pos hm, if_pos hm, if_pos rfl]
            · have := Lib.index_ge (b.drop (i + 1)) nl
              rw [if_neg hm, if_neg hm, if_neg (by omega)]
              congr 4
              omega
      · refine .inl ?_
        have h3 : ¬ ((i + 1 : Nat) : Int) < b.length := by omega
        have hm : Lib.index (b.drop i) nl = -1 := by
          have : (b.drop i).length ≤ 1 := by simp; omega
          match hb : b.drop i, this with
          | [], _ => rfl
          | [x], _ => rw [idx_cons, pre_nl, if_neg (by simp), if_pos (by rfl)]
        rw [hm, if_pos rfl]
        refine ⟨?_, by simp⟩
        simp only [q25_1, evL_op, evL_sel, evL_nx, evL_exit, evL_ret, evL_join, evL_block, evL_cond, evK_some, evJ_nx, evJ_rt, evJ_ex, evB_nx, evB_rt, evB_ex, evC2_bool, evS_and, evS_or, evS_tf, evS_ft, ev_t, ev_s, ev_c, evalOp, bin_add, bin_sub, bin_mul, bin_eql, bin_neq, bin_lss, bin_leq, bin_gtr, bin_geq, sbin_eql, sbin_neq, b8, List.map_cons, List.map_nil, PV.rens, PV.ren, if_true, if_false, Bool.false_eq_true, reduceIte, Nat.reduceAdd, Nat.reduceSub, Nat.reduceMul, Nat.reduceEqDiff, Nat.reduceLeDiff, Int.reduceLE, Int.reduceLT, Int.reduceEq, Int.reduceToNat, Int.reduceAdd, Int.reduceSub, Int.reduceNeg, decide_true, decide_false, Bool.not_true, Bool.not_false, Bool.true_and, Bool.false_and, Bool.and_true, Bool.and_false, Bool.or_true, Bool.true_or, Bool.or_false, Bool.false_or, and_self, and_true, true_and, Nat.le_refl, Nat.zero_add, Nat.mul_one, Nat.one_ne_zero, Nat.zero_le, highP, lowP, Option.map_some, Option.map_none, List.drop_zero, List.take_zero, List.length_cons, List.length_nil, List.nil_append, List.append_nil, List.cons_append, fillP, PV.cells?, PV.one, PV.cleans, PV.clean, PV.of?, List.all_cons, List.all_nil, List.take_succ_cons, List.drop_succ_cons, Bool.and_self, Int.natCast_nonneg, Int.toNat_natCast, Int.toNat_zero, w1, h3]) (b.length + 2) i0 [sl8 b, .int .i64 i0] [] rfl hi0 (by omega)
  simp only [q25, evL_op, evL_sel, evL_nx, evL_exit, evL_ret, evL_join, evL_block, evL_cond, evK_some, evJ_nx, evJ_rt, evJ_ex, evB_nx, evB_rt, evB_ex, evC2_bool, evS_and, evS_or, evS_tf, evS_ft, ev_t, ev_s, ev_c, evalOp, bin_add, bin_sub, bin_mul, bin_eql, bin_neq, bin_lss, bin_leq, bin_gtr, bin_geq, sbin_eql, sbin_neq, b8, List.map_cons, List.map_nil, PV.rens, PV.ren, if_true, if_false, Bool.false_eq_true, reduceIte, Nat.reduceAdd, Nat.reduceSub, Nat.reduceMul, Nat.reduceEqDiff, Nat.reduceLeDiff, Int.reduceLE, Int.reduceLT, Int.reduceEq, Int.reduceToNat, Int.reduceAdd, Int.reduceSub, Int.reduceNeg, decide_true, decide_false, Bool.not_true, Bool.not_false, Bool.true_and, Bool.false_and, Bool.and_true, Bool.and_false, Bool.or_true, Bool.true_or, Bool.or_false, Bool.false_or, and_self, and_true, true_and, Nat.le_refl, Nat.zero_add, Nat.mul_one, Nat.one_ne_zero, Nat.zero_le, highP, lowP, Option.map_some, Option.map_none, List.drop_zero, List.take_zero, List.length_cons, List.length_nil, List.nil_append, List.append_nil, List.cons_append, fillP, PV.cells?, PV.one, PV.cleans, PV.clean, PV.of?, List.all_cons, List.all_nil, List.take_succ_cons, List.drop_succ_cons, Bool.and_self, Int.natCast_nonneg, Int.toNat_natCast, Int.toNat_zero, evL_loop] at lp ⊢
  rw [lp, ← hr]
  by_cases hm : Lib.index (b.drop i0) nl = -1
  · simp only [hm, q25_2, evL_op, evL_sel, evL_nx, evL_exit, evL_ret, evL_join, evL_block, evL_cond, evK_some, evJ_nx, evJ_rt, evJ_ex, evB_nx, evB_rt, evB_ex, evC2_bool, evS_and, evS_or, evS_tf, evS_ft, ev_t, ev_s, ev_c, evalOp, bin_add, bin_sub, bin_mul, bin_eql, bin_neq, bin_lss, bin_leq, bin_gtr, bin_geq, sbin_eql, sbin_neq, b8, List.map_cons, List.map_nil, PV.rens, PV.ren, if_true, if_false, Bool.false_eq_true, reduceIte, Nat.reduceAdd, Nat.reduceSub, Nat.reduceMul, Nat.reduceEqDiff, Nat.reduceLeDiff, Int.reduceLE, Int.reduceLT, Int.reduceEq, Int.reduceToNat, Int.reduceAdd, Int.reduceSub, Int.reduceNeg, decide_true, decide_false, Bool.not_true, Bool.not_false, Bool.true_and, Bool.false_and, Bool.and_true, Bool.and_false, Bool.or_true, Bool.true_or, Bool.or_false, Bool.false_or, and_self, and_true, true_and, Nat.le_refl, Nat.zero_add, Nat.mul_one, Nat.one_ne_zero, Nat.zero_le, highP, lowP, Option.map_some, Option.map_none, List.drop_zero, List.take_zero, List.length_cons, List.length_nil, List.nil_append, List.append_nil, List.cons_append, fillP, PV.cells?, PV.one, PV.cleans, PV.clean, PV.of?, List.all_cons, List.all_nil, List.take_succ_cons, List.drop_succ_cons, Bool.and_self, Int.natCast_nonneg, Int.toNat_natCast, Int.toNat_zero]
  · simp only [hm, q25_2, evL_op, evL_sel, evL_nx, evL_exit, evL_ret, evL_join, evL_block, evL_cond, evK_some, evJ_nx, evJ_rt, evJ_ex, evB_nx, evB_rt, evB_ex, evC2_bool, evS_and, evS_or, evS_tf, evS_ft, ev_t, ev_s, ev_c, evalOp, bin_add, bin_sub, bin_mul, bin_eql, bin_neq, bin_lss, bin_leq, bin_gtr, bin_geq, sbin_eql, sbin_neq, b8, List.map_cons, List.map_nil, PV.rens, PV.ren, if_true, if_false, Bool.false_eq_true, reduceIte, Nat.reduceAdd, Nat.reduceSub, Nat.reduceMul, Nat.reduceEqDiff, Nat.reduceLeDiff, Int.reduceLE, Int.reduceLT, Int.reduceEq, Int.reduceToNat, Int.reduceAdd, Int.reduceSub, Int.reduceNeg, decide_true, decide_false, Bool.not_true, Bool.not_false, Bool.true_and, Bool.false_and, Bool.and_true, Bool.and_false, Bool.or_true, Bool.true_or, Bool.or_false, Bool.false_or, and_self, and_true, true_and, Nat.le_refl, Nat.zero_add, Nat.mul_one, Nat.one_ne_zero, Nat.zero_le, highP, lowP, Option.map_some, Option.map_none, List.drop_zero, List.take_zero, List.length_cons, List.length_nil, List.nil_append, List.append_nil, List.cons_append, fillP, PV.cells?, PV.one, PV.cleans, PV.clean, PV.of?, List.all_cons, List.all_nil, List.take_succ_cons, List.drop_succ_cons, Bool.and_self, Int.natCast_nonneg, Int.toNat_natCast, Int.toNat_zero]
end Go.Proofs.YtmajbgmjlggcbaaDoor.Tab

namespace Go.Proofs.YtmajbgmjlggcbaaDoor.Tab
set_option linter.all false
open Go Go.RowKit Go.Proofs.YtmajbgmjlggcbaaDoor.Ev
def refGo (b : List UInt8) : Nat → List UInt8 → Int → List (List UInt8) → Option (Int × List (List UInt8) × Nat)
  | 0, _, _, _ => none
  | k + 1, at_, c, ls =>
    match cutN at_ with
    | none => none
    | some (line, rest) =>
      if (decide ((line.length : Int) < 4) || decide ((20 : Int) ≤ ls.length)) = true then none else
      if num3 (line.take 3) < 0 then none else
      if (decide ((0 : Int) < ls.length) && !decide (num3 (line.take 3) = c)) = true then none else
      if line[3]? = some 32 then (if replyOk (num3 (line.take 3)) (ls ++ [line.drop 4]) = true then some (num3 (line.take 3), ls ++ [line.drop 4], b.length - rest.length) else none)
      else if line[3]? = some 45 then refGo b k rest (num3 (line.take 3)) (ls ++ [line.drop 4]) else none
theorem digC_iff {c : UInt8} (h : digC c = true) : 48 ≤ c.toNat ∧ c.toNat ≤ 57 := by
  unfold digC at h
  simp only [Bool.and_eq_true, decide_eq_true_eq] at h
  omega
theorem dig_back {c : UInt8} (h : digC c = true) : UInt8.ofNat (48 + (c.toNat - 48)) = c := by
  have := digC_iff h
  rw [show 48 + (c.toNat - 48) = c.toNat by omega]
  exact UInt8.ofNat_toNat
/-- A number of three digits that was read is written so. -/
theorem num3_dg {s : List UInt8} (h3 : s.length = 3) (h : ¬ num3 s < 0) : ∃ u : Nat, num3 s = u ∧ 100 ≤ u ∧ u < 1000 ∧ s = dg u := by
  match s, h3 with
  | [x, y, z], _ =>
    unfold num3 at h ⊢
    rw [List.head?_cons] at h ⊢
    by_cases h48 : x = 48
    · rw [if_pos (by rw [h48])] at h; exact absurd (by decide) h
    · rw [if_neg (fun e => h48 (Option.some.inj e))] at h ⊢
      cases hx : digC x with
      | false => rw [numGo_no hx] at h; exact absurd (by decide) h
      | true =>
        cases hy : digC y with
        | false => rw [numGo_yes hx, numGo_no hy] at h; exact absurd (by decide) h
        | true =>
          cases hz : digC z with
          | false => rw [numGo_yes hx, numGo_yes hy, numGo_no hz] at h; exact absurd (by decide) h
          | true =>
            rw [numGo_yes hx, numGo_yes hy, numGo_yes hz, numGo_nil]
            have ix := digC_iff hx
            have iy := digC_iff hy
            have iz := digC_iff hz
            have hx0 : x.toNat ≠ 48 := fun e => h48 (UInt8.toNat_inj.1 (by rw [e]; rfl))
            refine ⟨_, rfl, by omega, by omega, ?_⟩
            rw [dg3 (by omega) (by omega)]
            have e1 : (10 * (10 * (10 * 0 + (x.toNat - 48)) + (y.toNat - 48)) + (z.toNat - 48)) / 100 = x.toNat - 48 := by omega
            have e2 : (10 * (10 * (10 * 0 + (x.toNat - 48)) + (y.toNat - 48)) + (z.toNat - 48)) / 10 % 10 = y.toNat - 48 := by omega
            have e3 : (10 * (10 * (10 * 0 + (x.toNat - 48)) + (y.toNat - 48)) + (z.toNat - 48)) % 10 = z.toNat - 48 := by omega
            rw [e1, e2, e3, dig_back hx, dig_back hy, dig_back hz]
theorem num3_of {u : Nat} (h1 : 100 ≤ u) (h2 : u < 1000) : num3 (dg u) = (u : Int) := by
  have hd : ∀ d : Fin 10, digC (UInt8.ofNat (48 + d.val)) = true ∧ (UInt8.ofNat (48 + d.val)).toNat = 48 + d.val := by decide
  have hn : ∀ d : Fin 10, d.val ≠ 0 → UInt8.ofNat (48 + d.val) ≠ 48 := by decide
  rw [dg3 h1 h2]
  unfold num3
  obtain ⟨a1, a2⟩ := hd ⟨u / 100, by omega⟩
  obtain ⟨b1, b2⟩ := hd ⟨u / 10 % 10, by omega⟩
  obtain ⟨c1, c2⟩ := hd ⟨u % 10, by omega⟩
  have h0 := hn ⟨u / 100, by omega⟩ (by dsimp only; omega)
  dsimp only at a1 a2 b1 b2 c1 c2 h0
  rw [List.head?_cons, if_neg (fun e => h0 (Option.some.inj e)), numGo_yes a1, numGo_yes b1, numGo_yes c1, numGo_nil, a2, b2, c2]
  omega
theorem mk_snoc (d s : List UInt8) : ∀ ls : List (List UInt8), join (mk d (ls ++ [s])) = join (ls.map fun x => d ++ 45 :: x) ++ (d ++ 32 :: s) ++ [13, 10]
  | [] => by rw [List.nil_append, mk, join_one]; simp [join]
  | [x] => by
    show join (mk d [x, s]) = _
    rw [mk, mk, join_cons, join_one, List.map_cons, List.map_nil, join_one]; simp
  | x :: y :: r => by
    have := mk_snoc d s (y :: r)
    show join (mk d (x :: y :: (r ++ [s]))) = _
    rw [mk, join_cons, show y :: (r ++ [s]) = (y :: r) ++ [s] from rfl, this, List.map_cons (a := x), join_cons (l := d ++ 45 :: x)]
    simp only [List.append_assoc, List.cons_append]
theorem line_parts {line : List UInt8} (h4 : 4 ≤ line.length) {m : UInt8} (hm : line[3]? = some m) : line = line.take 3 ++ m :: line.drop 4 := by
  obtain ⟨h1, h2⟩ := List.getElem?_eq_some_iff.1 hm
  conv => lhs; rw [← List.take_append_drop 3 line, List.drop_eq_getElem_cons h1, h2]
theorem cutN_inv {b line rest : List UInt8} (h : cutN b = some (line, rest)) : b = line ++ 13 :: 10 :: rest := by
  rcases idx_split b with h1 | ⟨a, r, h1, h2, h3⟩
  · rw [cutN_no h1] at h; cases h
  · rw [h1, cutN_yes h3] at h
    cases h
    exact h1
theorem refGo_some (b : List UInt8) : ∀ (k : Nat) (at_ A : List UInt8) (c : Int) (ls : List (List UInt8)) (c' : Int) (l' : List (List UInt8)) (n : Nat), b = A ++ at_ → (ls = [] ∧ A = [] ∨ ∃ u : Nat, c = u ∧ A = join (ls.map fun x => dg u ++ 45 :: x)) →
    refGo b k at_ c ls = some (c', l', n) → replyOk c' l' = true ∧ ∃ t, b = rb c' l' ++ t
  | 0, _, _, _, _, _, _, _, _, _, h => by cases h
  | k + 1, at_, A, c, ls, c', l', n, hb, hA, h => by
    unfold refGo at h
    split at h
    · cases h
    · rename_i line rest hcut
      have hat := cutN_inv hcut
      split at h
      · cases h
      · rename_i h4
        simp only [Bool.or_eq_true, decide_eq_true_eq, not_or] at h4
        split at h
        · cases h
        · rename_i hn
          obtain ⟨u, hu, hu1, hu2, hdg⟩ := num3_dg (s := line.take 3) (by rw [List.length_take]; omega) hn
          split at h
          · cases h
          · rename_i hcc
            have hA' : A = join (ls.map fun x => dg u ++ 45 :: x) := by
              rcases hA with ⟨rfl, rfl⟩ | ⟨v, rfl, hA⟩
              · rfl
              · cases ls with
                | nil => rw [hA]; rfl
                | cons x r =>
                  have : num3 (line.take 3) = (v : Int) := by
                    by_cases e : num3 (line.take 3) = (v : Int)
                    · exact e
                    · exact absurd (by simp [e]) hcc
                  rw [hu] at this
                  have : u = v := by omega
                  rw [this]; exact hA
            split at h
            · rename_i h32
              split at h
              · rename_i hok
                cases h
                refine ⟨hok, rest, ?_⟩
                have hl := line_parts (by omega) h32
                rw [hu]
                unfold rb
                rw [Int.toNat_natCast, mk_snoc, ← hA', hb, hat]
                conv => lhs; rw [hl, hdg]
                simp
              · cases h
            · split at h
              · rename_i h45
                have hl := line_parts (by omega) h45
                refine refGo_some b k rest (A ++ (line ++ [13, 10])) _ _ c' l' n (by rw [hb, hat]; simp) (.inr ⟨u, hu, ?_⟩) h
                rw [List.map_append, join_app, ← hA', List.map_singleton, join_one, ← hdg, ← hl]
              · cases h
theorem refGo_run (u : Nat) (hu1 : 200 ≤ u) (hu2 : u ≤ 559) (t b : List UInt8) : ∀ (suf pre : List (List UInt8)) (A : List UInt8) (k : Nat) (c : Int), suf ≠ [] → (∀ x ∈ suf, x.all chC = true) → pre.length + suf.length ≤ 20 → suf.length ≤ k → (pre = [] ∨ c = u) → replyOk u (pre ++ suf) = true →
      b = A ++ join (mk (dg u) suf) ++ t → refGo b k (join (mk (dg u) suf) ++ t) c pre = some ((u : Int), pre ++ suf, (A ++ join (mk (dg u) suf)).length)
  | [], _, _, _, _, h, _, _, _, _, _, _ => absurd rfl h
  | s :: r, pre, A, 0, c, _, _, _, hk, _, _, _ => by simp at hk
  | [s], pre, A, k + 1, c, _, hx, h20, hk, hc, hok, hb => by
    have hs := hx s (by simp)
    have hd3 : (dg u).length = 3 := by rw [dg3 (by omega) (by omega)]; rfl
    obtain ⟨l1, l2, l3, l4⟩ := line_at hd3 32 s
    have hj : join (mk (dg u) [s]) ++ t = (dg u ++ 32 :: s) ++ 13 :: 10 :: t := by rw [mk, join_one]; simp
    have hbl2 : b.length - t.length = (A ++ join (mk (dg u) [s])).length := by rw [hb, List.length_append, Nat.add_sub_cancel]
    unfold refGo
    simp only [List.length_singleton] at h20
    rw [hj, cutN_yes (line_cl (by decide) hs).nc]
    dsimp only
    have h20' : ¬ (20 : Int) ≤ pre.length := by omega
    have hcc : (decide ((0 : Int) < pre.length) && !decide ((u : Int) = c)) = false := by
      rcases hc with rfl | rfl
      · rfl
      · simp
    rw [if_neg (by simp only [l4, h20', decide_false]; decide), l1, num3_of (by omega) (by omega), if_neg (by omega), hcc, if_neg (by decide), l2, if_pos rfl, l3, if_pos hok, hbl2]
  | s :: s2 :: r, pre, A, k + 1, c, _, hx, h20, hk, hc, hok, hb => by
    have hs := hx s (by simp)
    have hd3 : (dg u).length = 3 := by rw [dg3 (by omega) (by omega)]; rfl
    obtain ⟨l1, l2, l3, l4⟩ := line_at hd3 45 s
    have hjm : join (mk (dg u) (s :: s2 :: r)) = (dg u ++ 45 :: s) ++ 13 :: 10 :: join (mk (dg u) (s2 :: r)) := by rw [mk, join_cons]
    have hj : join (mk (dg u) (s :: s2 :: r)) ++ t = (dg u ++ 45 :: s) ++ 13 :: 10 :: (join (mk (dg u) (s2 :: r)) ++ t) := by rw [hjm]; simp
    have ih := refGo_run u hu1 hu2 t b (s2 :: r) (pre ++ [s]) (A ++ ((dg u ++ 45 :: s) ++ [13, 10])) k u (by simp) (fun x hx' => hx x (List.mem_cons_of_mem _ hx')) (by simp only [List.length_append, List.length_cons, List.length_nil] at h20 ⊢; omega) (by simp only [List.length_cons] at hk ⊢; omega) (.inr rfl) (by rw [List.append_assoc]; exact hok) (by rw [hb, hjm]; simp)
    unfold refGo
    simp only [List.length_cons] at h20
    rw [hj, cutN_yes (line_cl (by decide) hs).nc]
    dsimp only
    have h20' : ¬ (20 : Int) ≤ pre.length := by omega
    have hcc : (decide ((0 : Int) < pre.length) && !decide ((u : Int) = c)) = false := by
      rcases hc with rfl | rfl
      · rfl
      · simp
    rw [if_neg (by simp only [l4, h20', decide_false]; decide), l1, num3_of (by omega) (by omega), if_neg (by omega), hcc, if_neg (by decide), l2, if_neg (by decide), if_pos rfl, l3, ih, hjm]
    simp
theorem refGo_yes {c : Int} {l : List (List UInt8)} (h : replyOk c l = true) (t : List UInt8) : refGo (rb c l ++ t) 21 (rb c l ++ t) 0 [] = some (c, l, (rb c l).length) := by
  have hf := replyOk_facts h
  obtain ⟨u, rfl, hu1, hu2, hl1, h20, hx⟩ := hf
  have hne : l ≠ [] := fun e => by rw [e] at hl1; cases hl1
  have hrb : rb u l = join (mk (dg u) l) := by unfold rb; rw [Int.toNat_natCast]
  have := refGo_run u hu1 hu2 t (rb u l ++ t) l [] [] 21 0 hne (fun x hx' => (hx x hx').1) (by simp only [List.length_nil]; omega) (by omega) (.inl rfl) h (by rw [hrb]; rfl)
  rw [List.nil_append, ← hrb] at this
  exact this
/-- The two pages tell the same. -/
theorem read_same (b : List UInt8) : refGo b 21 b 0 [] = readGo b 21 b 0 [] := by
  cases hr : readGo b 21 b 0 [] with
  | some x =>
    obtain ⟨c, l, n⟩ := x
    obtain ⟨hok, hrb, hn⟩ := readGo_some b _ _ _ _ _ _ _ hr
    have hb : b = rb c l ++ b.drop n := by rw [hrb, List.take_append_drop]
    have hl : (rb c l).length = n := by rw [hrb, List.length_take]; omega
    have := refGo_yes hok (b.drop n)
    rw [← hb, hl] at this
    exact this
  | none =>
    cases hf : refGo b 21 b 0 [] with
    | none => rfl
    | some x =>
      obtain ⟨c, l, n⟩ := x
      obtain ⟨hok, t, ht⟩ := refGo_some b 21 b [] 0 [] c l n rfl (.inl ⟨rfl, rfl⟩) hf
      have := readGo_yes hok t
      rw [← ht, hr] at this
      cases this
end Go.Proofs.YtmajbgmjlggcbaaDoor.Tab

namespace Go.Proofs.YtmajbgmjlggcbaaDoor.Tab
set_option linter.all false
open Go Go.RowKit Go.Proofs.YtmajbgmjlggcbaaDoor.Ev
def refP (R : Option (Int × List (List UInt8) × Nat)) (r : Fl × List PV × Hp) : Prop :=
  match R with
  | none => ∃ T, r = (.rt, [.ptr 0 0, .int .i64 0, .bool false], .cells [.int .i64 0, .sl .nil 0 0 []] :: T)
  | some (c, l, n) => r = (.rt, [.ptr 0 0, .int .i64 n, .bool true], [.cells [.int .i64 c, .sl (.tok 4) 1 l.length (l.map fun x => .str x)], .cells [.int .i64 c, .sl (.tok 4) 1 l.length (l.map fun x => .str x)], .tok, .dead, .tok])
theorem drop_ix {b : List UInt8} {at_ : Nat} {a r : List UInt8} (h : b.drop at_ = a ++ 13 :: 10 :: r) : at_ + a.length + 2 ≤ b.length ∧ (b.take (at_ + a.length)).drop at_ = a ∧ b.drop (at_ + a.length + 2) = r ∧ b.length - r.length = at_ + a.length + 2 := by
  have hl := congrArg List.length h
  simp only [List.length_drop, List.length_append, List.length_cons] at hl
  refine ⟨by omega, ?_, ?_, by omega⟩
  · rw [List.drop_take, h, show at_ + a.length - at_ = a.length by omega, List.take_left]
  · rw [show at_ + a.length + 2 = at_ + (a.length + 2) by omega, ← List.drop_drop, h, List.drop_append, List.drop_of_length_le (by omega), show a.length + 2 - a.length = 2 by omega]; rfl
section
variable (b : List UInt8) (hb : b.length ≤ 1000000000)
include hb
set_option maxHeartbeats 4000000 in
theorem loop_ref (k0 : Nat) (R : Option (Int × List (List UInt8) × Nat)) (hR : refGo b 21 b 0 [] = R) : ∃ r, loopL 2 (evL T k0 q12_1) 22 [sl8 b, .ptr 0 0, .ptr 1 0, .int .i64 0] [.cells [.int .i64 0, .sl .nil 0 0 []], .cells [.int .i64 0, .sl .nil 0 0 []]] = some r ∧ refP R r := by
  refine loop_post (n := 2) (body := evL T k0 q12_1) (σ := Nat × Nat × Int × List (List UInt8)) (fun s => [sl8 b, .ptr 0 0, .ptr 1 0, .int .i64 s.2.1]) (fun s => [.cells [.int .i64 0, .sl (.tok 2) 0 0 []], .cells [.int .i64 s.2.2.1, tS 3 s.2.2.2], .tok, .tok]) (fun s => s.1)
    (fun s => s.2.2.2.length + s.1 = 21 ∧ 1 ≤ s.1 ∧ s.2.1 ≤ b.length ∧ refGo b s.1 (b.drop s.2.1) s.2.2.1 s.2.2.2 = R) (refP R) ?_ 22 (21, 0, 0, []) [sl8 b, .ptr 0 0, .ptr 1 0, .int .i64 (0 : Nat)] [.cells [.int .i64 0, .sl .nil 0 0 []], .cells [.int .i64 0, .sl .nil 0 0 []]] rfl ⟨rfl, by dsimp only; omega, Nat.zero_le _, hR⟩ (by dsimp only; omega)
  rintro ⟨k, i, c, ls⟩ ⟨hk, hk1, hi, hgo⟩
  dsimp only at hk hk1 hi hgo ⊢
  obtain ⟨k, rfl⟩ : ∃ j, k = j + 1 := ⟨k - 1, by omega⟩
  unfold refGo at hgo
  have c25 := T25 b hb i hi
  rcases idx_split (b.drop i) with h | ⟨a, r, h, h2, hnc⟩
  · rw [cutN_no h] at hgo
    dsimp only at hgo
    subst hgo
    rw [endV_no h] at c25
    refine .inl ⟨_, ?_, ?_, [.cells [.int .i64 c, tS 3 ls], .tok, .tok], rfl⟩
    · simp only [q12_1, evL_op, evL_sel, evL_nx, evL_exit, evL_ret, evL_join, evL_block, evL_cond, evK_some, evJ_nx, evJ_rt, evJ_ex, evB_nx, evB_rt, evB_ex, evC2_bool, evS_and, evS_or, evS_tf, evS_ft, ev_t, ev_s, ev_c, evalOp, bin_add, bin_sub, bin_mul, bin_eql, bin_neq, bin_lss, bin_leq, bin_gtr, bin_geq, sbin_eql, sbin_neq, b8, List.map_cons, List.map_nil, PV.rens, PV.ren, if_true, if_false, Bool.false_eq_true, reduceIte, Nat.reduceAdd, Nat.reduceSub, Nat.reduceMul, Nat.reduceEqDiff, Nat.reduceLeDiff, Int.reduceLE, Int.reduceLT, Int.reduceEq, Int.reduceToNat, Int.reduceAdd, Int.reduceSub, Int.reduceNeg, decide_true, decide_false, Bool.not_true, Bool.not_false, Bool.true_and, Bool.false_and, Bool.and_true, Bool.and_false, Bool.or_true, Bool.true_or, Bool.or_false, Bool.false_or, and_self, and_true, true_and, Nat.le_refl, Nat.zero_add, Nat.mul_one, Nat.one_ne_zero, Nat.zero_le, highP, lowP, Option.map_some, Option.map_none, List.drop_zero, List.take_zero, List.length_cons, List.length_nil, List.nil_append, List.append_nil, List.cons_append, fillP, PV.cells?, PV.one, PV.cleans, PV.clean, PV.of?, List.all_cons, List.all_nil, List.take_succ_cons, List.drop_succ_cons, Bool.and_self, Int.natCast_nonneg, Int.toNat_natCast, Int.toNat_zero, PV.of?, Tk.ren, tailP, evL_loop, or_true, true_or, Nat.zero_lt_one, Nat.sub_zero, List.getElem?_cons_zero, List.getElem?_cons_succ, List.set_cons_zero, List.set_cons_succ, List.take_length, PV.rens, PV.ren, PV.cells?, tS, c25]
    · simp
  · obtain ⟨k1, k2, k3, k4⟩ := drop_ix h
    have hcut : cutN (b.drop i) = some (a, r) := by rw [h]; exact cutN_yes hnc
    rw [endV_yes h2] at c25
    rw [hcut] at hgo
    dsimp only at hgo
    have g0 : ¬ (((i + a.length : Nat)) : Int) < 0 := by omega
    have w0 : IntKind.i64.wrap (((i + a.length : Nat) : Int) - i) = (a.length : Int) := by rw [wr (by omega) (by omega)]; omega
    cases hd : (decide ((a.length : Int) < 4) || decide ((20 : Int) ≤ ls.length)) with
    | true =>
      rw [hd, if_pos rfl] at hgo
      subst hgo
      refine .inl ⟨_, ?_, ?_, [.cells [.int .i64 c, tS 3 ls], .tok, .tok], rfl⟩
      · simp only [q12_1, evL_op, evL_sel, evL_nx, evL_exit, evL_ret, evL_join, evL_block, evL_cond, evK_some, evJ_nx, evJ_rt, evJ_ex, evB_nx, evB_rt, evB_ex, evC2_bool, evS_and, evS_or, evS_tf, evS_ft, ev_t, ev_s, ev_c, evalOp, bin_add, bin_sub, bin_mul, bin_eql, bin_neq, bin_lss, bin_leq, bin_gtr, bin_geq, sbin_eql, sbin_neq, b8, List.map_cons, List.map_nil, PV.rens, PV.ren, if_true, if_false, Bool.false_eq_true, reduceIte, Nat.reduceAdd, Nat.reduceSub, Nat.reduceMul, Nat.reduceEqDiff, Nat.reduceLeDiff, Int.reduceLE, Int.reduceLT, Int.reduceEq, Int.reduceToNat, Int.reduceAdd, Int.reduceSub, Int.reduceNeg, decide_true, decide_false, Bool.not_true, Bool.not_false, Bool.true_and, Bool.false_and, Bool.and_true, Bool.and_false, Bool.or_true, Bool.true_or, Bool.or_false, Bool.false_or, and_self, and_true, true_and, Nat.le_refl, Nat.zero_add, Nat.mul_one, Nat.one_ne_zero, Nat.zero_le, highP, lowP, Option.map_some, Option.map_none, List.drop_zero, List.take_zero, List.length_cons, List.length_nil, List.nil_append, List.append_nil, List.cons_append, fillP, PV.cells?, PV.one, PV.cleans, PV.clean, PV.of?, List.all_cons, List.all_nil, List.take_succ_cons, List.drop_succ_cons, Bool.and_self, Int.natCast_nonneg, Int.toNat_natCast, Int.toNat_zero, PV.of?, Tk.ren, tailP, evL_loop, or_true, true_or, Nat.zero_lt_one, Nat.sub_zero, List.getElem?_cons_zero, List.getElem?_cons_succ, List.set_cons_zero, List.set_cons_succ, List.take_length, PV.rens, PV.ren, PV.cells?, tS, c25, g0, w0, hd]
      · simp
    | false =>
      rw [hd, if_neg (by decide)] at hgo
      have hd' := hd
      simp only [Bool.or_eq_false_iff, decide_eq_false_iff_not] at hd'
      have g1 : (i : Int) ≤ ((i + a.length : Nat) : Int) := by omega
      have g1' : i ≤ i + a.length := by omega
      have g2 : ((i + a.length : Nat) : Int) ≤ b.length := by omega
      have g2' : i + a.length ≤ b.length := by omega
      have e2 : ((b.map b8).take (i + a.length)).drop i = a.map b8 := by rw [cut_b8, k2]
      have e3 : i + a.length - i = a.length := by omega
      have b2i : ∀ (l : List UInt8) (H : Hp), (if l.length = 0 then some (PV.str [], H) else some (PV.str l, H)) = some (PV.str l, H) := fun l H => by
        split
        · rename_i h; rw [List.length_eq_zero_iff.1 h]
        · rfl
      have p3 : (3 : Int) ≤ a.length := by omega
      have p3n : 3 ≤ a.length := by omega
      have p4 : (4 : Int) ≤ a.length := by omega
      have p4n : 4 ≤ a.length := by omega
      have c26 := T_number (a.take 3) (by rw [List.length_take]; omega)
      obtain ⟨ch, hch⟩ : ∃ ch, a[3]? = some ch := ⟨_, List.getElem?_eq_getElem (by omega)⟩
      rw [hch] at hgo
      have e45 : (!decide ((ch.toNat : Int) = 45)) = !decide (ch = 45) := b8_neq ch 45
      have e32 : (!decide ((ch.toNat : Int) = 32)) = !decide (ch = 32) := b8_neq ch 32
      have e32' : decide ((ch.toNat : Int) = 32) = decide (ch = 32) := by rw [← Bool.not_not (decide ((ch.toNat : Int) = 32)), e32, Bool.not_not]
      generalize num3 (a.take 3) = n at *
      by_cases hn : n < 0
      · rw [if_pos hn] at hgo
        subst hgo
        refine .inl ⟨_, ?_, ?_, [.cells [.int .i64 c, tS 3 ls], .tok, .tok], rfl⟩
        · simp only [q12_1, evL_op, evL_sel, evL_nx, evL_exit, evL_ret, evL_join, evL_block, evL_cond, evK_some, evJ_nx, evJ_rt, evJ_ex, evB_nx, evB_rt, evB_ex, evC2_bool, evS_and, evS_or, evS_tf, evS_ft, ev_t, ev_s, ev_c, evalOp, bin_add, bin_sub, bin_mul, bin_eql, bin_neq, bin_lss, bin_leq, bin_gtr, bin_geq, sbin_eql, sbin_neq, b8, List.map_cons, List.map_nil, PV.rens, PV.ren, if_true, if_false, Bool.false_eq_true, reduceIte, Nat.reduceAdd, Nat.reduceSub, Nat.reduceMul, Nat.reduceEqDiff, Nat.reduceLeDiff, Int.reduceLE, Int.reduceLT, Int.reduceEq, Int.reduceToNat, Int.reduceAdd, Int.reduceSub, Int.reduceNeg, decide_true, decide_false, Bool.not_true, Bool.not_false, Bool.true_and, Bool.false_and, Bool.and_true, Bool.and_false, Bool.or_true, Bool.true_or, Bool.or_false, Bool.false_or, and_self, and_true, true_and, Nat.le_refl, Nat.zero_add, Nat.mul_one, Nat.one_ne_zero, Nat.zero_le, highP, lowP, Option.map_some, Option.map_none, List.drop_zero, List.take_zero, List.length_cons, List.length_nil, List.nil_append, List.append_nil, List.cons_append, fillP, PV.cells?, PV.one, PV.cleans, PV.clean, PV.of?, List.all_cons, List.all_nil, List.take_succ_cons, List.drop_succ_cons, Bool.and_self, Int.natCast_nonneg, Int.toNat_natCast, Int.toNat_zero, PV.of?, Tk.ren, tailP, evL_loop, or_true, true_or, Nat.zero_lt_one, Nat.sub_zero, List.getElem?_cons_zero, List.getElem?_cons_succ, List.set_cons_zero, List.set_cons_succ, List.take_length, PV.rens, PV.ren, PV.cells?, tS, c25, g0, w0, hd, g1, g1', g2, g2', e2, e3, bytes8_map, b2i, p3, p3n, c26, hn]
        · simp
      · rw [if_neg hn] at hgo
        cases hdc : (decide ((0 : Int) < ls.length) && !decide (n = c)) with
        | true =>
          rw [hdc, if_pos rfl] at hgo
          subst hgo
          refine .inl ⟨_, ?_, ?_, [.cells [.int .i64 c, tS 3 ls], .tok, .tok], rfl⟩
          · simp only [q12_1, evL_op, evL_sel, evL_nx, evL_exit, evL_ret, evL_join, evL_block, evL_cond, evK_some, evJ_nx, evJ_rt, evJ_ex, evB_nx, evB_rt, evB_ex, evC2_bool, evS_and, evS_or, evS_tf, evS_ft, ev_t, ev_s, ev_c, evalOp, bin_add, bin_sub, bin_mul, bin_eql, bin_neq, bin_lss, bin_leq, bin_gtr, bin_geq, sbin_eql, sbin_neq, b8, List.map_cons, List.map_nil, PV.rens, PV.ren, if_true, if_false, Bool.false_eq_true, reduceIte, Nat.reduceAdd, Nat.reduceSub, Nat.reduceMul, Nat.reduceEqDiff, Nat.reduceLeDiff, Int.reduceLE, Int.reduceLT, Int.reduceEq, Int.reduceToNat, Int.reduceAdd, Int.reduceSub, Int.reduceNeg, decide_true, decide_false, Bool.not_true, Bool.not_false, Bool.true_and, Bool.false_and, Bool.and_true, Bool.and_false, Bool.or_true, Bool.true_or, Bool.or_false, Bool.false_or, and_self, and_true, true_and, Nat.le_refl, Nat.zero_add, Nat.mul_one, Nat.one_ne_zero, Nat.zero_le, highP, lowP, Option.map_some, Option.map_none, List.drop_zero, List.take_zero, List.length_cons, List.length_nil, List.nil_append, List.append_nil, List.cons_append, fillP, PV.cells?, PV.one, PV.cleans, PV.clean, PV.of?, List.all_cons, List.all_nil, List.take_succ_cons, List.drop_succ_cons, Bool.and_self, Int.natCast_nonneg, Int.toNat_natCast, Int.toNat_zero, PV.of?, Tk.ren, tailP, evL_loop, or_true, true_or, Nat.zero_lt_one, Nat.sub_zero, List.getElem?_cons_zero, List.getElem?_cons_succ, List.set_cons_zero, List.set_cons_succ, List.take_length, PV.rens, PV.ren, PV.cells?, tS, c25, g0, w0, hd, g1, g1', g2, g2', e2, e3, bytes8_map, b2i, p3, p3n, c26, hn, hdc]
          · simp
        | false =>
          rw [hdc, if_neg (by decide)] at hgo
          have hz : (if ls = [] then 0 else 1) = 1 ∨ (if ls = [] then 0 else 1) = 0 := by split <;> simp
          have hrm : (ls.length + 1) * 16 ≤ roomMax := by unfold roomMax; omega
          have hmp : (ls ++ [a.drop 4]).map (fun x => PV.str x) = ls.map (fun x => PV.str x) ++ [.str (a.drop 4)] := by rw [List.map_append]; rfl
          have hln : (ls ++ [a.drop 4]).length = ls.length + 1 := by simp
          have w5 : IntKind.i64.wrap (((i + a.length : Nat) : Int) + 2) = ((i + a.length + 2 : Nat) : Int) := by rw [wr (by omega) (by omega)]; omega
          by_cases h45 : ch = 45
          · subst h45
            rw [if_neg (by decide), if_pos rfl] at hgo
            have x1 : (!decide (((45 : UInt8).toNat : Int) = 45)) = false := rfl
            have x2 : decide (((45 : UInt8).toNat : Int) = 32) = false := rfl
            have x3 : (!decide (((45 : UInt8).toNat : Int) = 32)) = true := rfl
            refine .inr ⟨(k, i + a.length + 2, n, ls ++ [a.drop 4]), [sl8 b, .ptr 0 0, .ptr 1 0, .int .i64 ((i + a.length + 2 : Nat) : Int)], [.cells [.int .i64 0, .sl (.tok 2) 0 0 []], .cells [.int .i64 n, .sl (.tok 4) 1 (ls.length + 1) (ls.map (fun x => PV.str x) ++ [.str (a.drop 4)])], .tok, .dead, .tok], ?_, ?_, ⟨by dsimp only; omega, by dsimp only; omega, by dsimp only; omega, by dsimp only; rw [k3]; exact hgo⟩, by dsimp only; omega⟩
            · simp only [q12_1, q12_0, evL_op, evL_sel, evL_nx, evL_exit, evL_ret, evL_join, evL_block, evL_cond, evK_some, evJ_nx, evJ_rt, evJ_ex, evB_nx, evB_rt, evB_ex, evC2_bool, evS_and, evS_or, evS_tf, evS_ft, ev_t, ev_s, ev_c, evalOp, bin_add, bin_sub, bin_mul, bin_eql, bin_neq, bin_lss, bin_leq, bin_gtr, bin_geq, sbin_eql, sbin_neq, b8, List.map_cons, List.map_nil, PV.rens, PV.ren, if_true, if_false, Bool.false_eq_true, reduceIte, Nat.reduceAdd, Nat.reduceSub, Nat.reduceMul, Nat.reduceEqDiff, Nat.reduceLeDiff, Int.reduceLE, Int.reduceLT, Int.reduceEq, Int.reduceToNat, Int.reduceAdd, Int.reduceSub, Int.reduceNeg, decide_true, decide_false, Bool.not_true, Bool.not_false, Bool.true_and, Bool.false_and, Bool.and_true, Bool.and_false, Bool.or_true, Bool.true_or, Bool.or_false, Bool.false_or, and_self, and_true, true_and, Nat.le_refl, Nat.zero_add, Nat.mul_one, Nat.one_ne_zero, Nat.zero_le, highP, lowP, Option.map_some, Option.map_none, List.drop_zero, List.take_zero, List.length_cons, List.length_nil, List.nil_append, List.append_nil, List.cons_append, fillP, PV.cells?, PV.one, PV.cleans, PV.clean, PV.of?, List.all_cons, List.all_nil, List.take_succ_cons, List.drop_succ_cons, Bool.and_self, Int.natCast_nonneg, Int.toNat_natCast, Int.toNat_zero, PV.of?, Tk.ren, tailP, evL_loop, or_true, true_or, Nat.zero_lt_one, Nat.sub_zero, List.getElem?_cons_zero, List.getElem?_cons_succ, List.set_cons_zero, List.set_cons_succ, List.take_length, PV.rens, PV.ren, PV.cells?, tS, c25, g0, w0, hd, g1, g1', g2, g2', e2, e3, bytes8_map, b2i, p3, p3n, p4, p4n, c26, hn, hdc, hch, x1, x2, x3, hz, hrm, w5]
            · show _ = ([sl8 b, PV.ptr 0 0, PV.ptr 1 0, PV.int .i64 ((i + a.length + 2 : Nat) : Int)], [Ob.cells [.int .i64 0, .sl (.tok 2) 0 0 []], .cells [.int .i64 n, tS 3 (ls ++ [a.drop 4])], .tok, .tok])
              unfold tS
              rw [if_neg (by simp), hln, hmp]
              rfl
          · have d45 : decide (ch = 45) = false := by simpa using h45
            rw [d45] at e45
            by_cases h32 : ch = 32
            · rw [if_pos (by rw [h32])] at hgo
              have d32 : decide (ch = 32) = true := by simpa using h32
              rw [d32] at e32 e32'
              have c13 := T13 n (ls ++ [a.drop 4])
              unfold slS at c13
              rw [hmp, hln] at c13
              cases hok : replyOk n (ls ++ [a.drop 4]) with
              | false =>
                rw [hok, if_neg (by decide)] at hgo
                rw [hok] at c13
                subst hgo
                refine .inl ⟨_, ?_, ?_, [.cells [.int .i64 n, .sl (.tok 4) 1 (ls.length + 1) (ls.map (fun x => PV.str x) ++ [.str (a.drop 4)])], .tok, .dead, .tok], rfl⟩
                · simp only [q12_1, q12_0, evL_op, evL_sel, evL_nx, evL_exit, evL_ret, evL_join, evL_block, evL_cond, evK_some, evJ_nx, evJ_rt, evJ_ex, evB_nx, evB_rt, evB_ex, evC2_bool, evS_and, evS_or, evS_tf, evS_ft, ev_t, ev_s, ev_c, evalOp, bin_add, bin_sub, bin_mul, bin_eql, bin_neq, bin_lss, bin_leq, bin_gtr, bin_geq, sbin_eql, sbin_neq, b8, List.map_cons, List.map_nil, PV.rens, PV.ren, if_true, if_false, Bool.false_eq_true, reduceIte, Nat.reduceAdd, Nat.reduceSub, Nat.reduceMul, Nat.reduceEqDiff, Nat.reduceLeDiff, Int.reduceLE, Int.reduceLT, Int.reduceEq, Int.reduceToNat, Int.reduceAdd, Int.reduceSub, Int.reduceNeg, decide_true, decide_false, Bool.not_true, Bool.not_false, Bool.true_and, Bool.false_and, Bool.and_true, Bool.and_false, Bool.or_true, Bool.true_or, Bool.or_false, Bool.false_or, and_self, and_true, true_and, Nat.le_refl, Nat.zero_add, Nat.mul_one, Nat.one_ne_zero, Nat.zero_le, highP, lowP, Option.map_some, Option.map_none, List.drop_zero, List.take_zero, List.length_cons, List.length_nil, List.nil_append, List.append_nil, List.cons_append, fillP, PV.cells?, PV.one, PV.cleans, PV.clean, PV.of?, List.all_cons, List.all_nil, List.take_succ_cons, List.drop_succ_cons, Bool.and_self, Int.natCast_nonneg, Int.toNat_natCast, Int.toNat_zero, PV.of?, Tk.ren, tailP, evL_loop, or_true, true_or, Nat.zero_lt_one, Nat.sub_zero, List.getElem?_cons_zero, List.getElem?_cons_succ, List.set_cons_zero, List.set_cons_succ, List.take_length, PV.rens, PV.ren, PV.cells?, tS, c25, g0, w0, hd, g1, g1', g2, g2', e2, e3, bytes8_map, b2i, p3, p3n, p4, p4n, c26, hn, hdc, hch, e45, e32, e32', hz, hrm, w5, c13]
                · simp
              | true =>
                rw [hok, if_pos rfl] at hgo
                rw [hok] at c13
                subst hgo
                refine .inl ⟨(.rt, [.ptr 0 0, .int .i64 ((i + a.length + 2 : Nat) : Int), .bool true], [.cells [.int .i64 n, .sl (.tok 4) 1 (ls.length + 1) (ls.map (fun x => PV.str x) ++ [.str (a.drop 4)])], .cells [.int .i64 n, .sl (.tok 4) 1 (ls.length + 1) (ls.map (fun x => PV.str x) ++ [.str (a.drop 4)])], .tok, .dead, .tok]), ?_, by simp, by unfold refP; dsimp only; rw [hmp, hln, k4]⟩
                simp only [q12_1, q12_0, evL_op, evL_sel, evL_nx, evL_exit, evL_ret, evL_join, evL_block, evL_cond, evK_some, evJ_nx, evJ_rt, evJ_ex, evB_nx, evB_rt, evB_ex, evC2_bool, evS_and, evS_or, evS_tf, evS_ft, ev_t, ev_s, ev_c, evalOp, bin_add, bin_sub, bin_mul, bin_eql, bin_neq, bin_lss, bin_leq, bin_gtr, bin_geq, sbin_eql, sbin_neq, b8, List.map_cons, List.map_nil, PV.rens, PV.ren, if_true, if_false, Bool.false_eq_true, reduceIte, Nat.reduceAdd, Nat.reduceSub, Nat.reduceMul, Nat.reduceEqDiff, Nat.reduceLeDiff, Int.reduceLE, Int.reduceLT, Int.reduceEq, Int.reduceToNat, Int.reduceAdd, Int.reduceSub, Int.reduceNeg, decide_true, decide_false, Bool.not_true, Bool.not_false, Bool.true_and, Bool.false_and, Bool.and_true, Bool.and_false, Bool.or_true, Bool.true_or, Bool.or_false, Bool.false_or, and_self, and_true, true_and, Nat.le_refl, Nat.zero_add, Nat.mul_one, Nat.one_ne_zero, Nat.zero_le, highP, lowP, Option.map_some, Option.map_none, List.drop_zero, List.take_zero, List.length_cons, List.length_nil, List.nil_append, List.append_nil, List.cons_append, fillP, PV.cells?, PV.one, PV.cleans, PV.clean, PV.of?, List.all_cons, List.all_nil, List.take_succ_cons, List.drop_succ_cons, Bool.and_self, Int.natCast_nonneg, Int.toNat_natCast, Int.toNat_zero, PV.of?, Tk.ren, tailP, evL_loop, or_true, true_or, Nat.zero_lt_one, Nat.sub_zero, List.getElem?_cons_zero, List.getElem?_cons_succ, List.set_cons_zero, List.set_cons_succ, List.take_length, PV.rens, PV.ren, PV.cells?, tS, c25, g0, w0, hd, g1, g1', g2, g2', e2, e3, bytes8_map, b2i, p3, p3n, p4, p4n, c26, hn, hdc, hch, e45, e32, e32', hz, hrm, w5, c13]
            · rw [if_neg (fun e => h32 (Option.some.inj e)), if_neg (fun e => h45 (Option.some.inj e))] at hgo
              have d32 : decide (ch = 32) = false := by simpa using h32
              rw [d32] at e32 e32'
              subst hgo
              refine .inl ⟨_, ?_, ?_, [.cells [.int .i64 c, tS 3 ls], .tok, .tok], rfl⟩
              · simp only [q12_1, q12_0, evL_op, evL_sel, evL_nx, evL_exit, evL_ret, evL_join, evL_block, evL_cond, evK_some, evJ_nx, evJ_rt, evJ_ex, evB_nx, evB_rt, evB_ex, evC2_bool, evS_and, evS_or, evS_tf, evS_ft, ev_t, ev_s, ev_c, evalOp, bin_add, bin_sub, bin_mul, bin_eql, bin_neq, bin_lss, bin_leq, bin_gtr, bin_geq, sbin_eql, sbin_neq, b8, List.map_cons, List.map_nil, PV.rens, PV.ren, if_true, if_false, Bool.false_eq_true, reduceIte, Nat.reduceAdd, Nat.reduceSub, Nat.reduceMul, Nat.reduceEqDiff, Nat.reduceLeDiff, Int.reduceLE, Int.reduceLT, Int.reduceEq, Int.reduceToNat, Int.reduceAdd, Int.reduceSub, Int.reduceNeg, decide_true, decide_false, Bool.not_true, Bool.not_false, Bool.true_and, Bool.false_and, Bool.and_true, Bool.and_false, Bool.or_true, Bool.true_or, Bool.or_false, Bool.false_or, and_self, and_true, true_and, Nat.le_refl, Nat.zero_add, Nat.mul_one, Nat.one_ne_zero, Nat.zero_le, highP, lowP, Option.map_some, Option.map_none, List.drop_zero, List.take_zero, List.length_cons, List.length_nil, List.nil_append, List.append_nil, List.cons_append, fillP, PV.cells?, PV.one, PV.cleans, PV.clean, PV.of?, List.all_cons, List.all_nil, List.take_succ_cons, List.drop_succ_cons, Bool.and_self, Int.natCast_nonneg, Int.toNat_natCast, Int.toNat_zero, PV.of?, Tk.ren, tailP, evL_loop, or_true, true_or, Nat.zero_lt_one, Nat.sub_zero, List.getElem?_cons_zero, List.getElem?_cons_succ, List.set_cons_zero, List.set_cons_succ, List.take_length, PV.rens, PV.ren, PV.cells?, tS, c25, g0, w0, hd, g1, g1', g2, g2', e2, e3, bytes8_map, b2i, p3, p3n, p4, p4n, c26, hn, hdc, hch, e45, e32, e32']
              · simp
end
theorem RRead_none (b : List UInt8) (hb : b.length ≤ 1000000000) (h : refGo b 21 b 0 [] = none) : T 12 [sl8 b] [] = some (.tup [.agg [.int .i64 0, .sl .nil 0 0 []], .int .i64 0, .bool false], []) := by
  obtain ⟨r, lp, T', rfl⟩ := loop_ref b hb 22 none h
  refine evT_of (k := 22) (F := l12) (H' := .cells [.int .i64 0, .sl .nil 0 0 []] :: T') (e := [.ptr 0 0, .int .i64 0, .bool false]) (l := [.agg [.int .i64 0, .sl .nil 0 0 []], .int .i64 0, .bool false]) rfl rfl rfl ?_ rfl rfl
  show evL T 22 q12 _ _ = _
  simp only [q12, evL_op, evL_sel, evL_nx, evL_exit, evL_ret, evL_join, evL_block, evL_cond, evK_some, evJ_nx, evJ_rt, evJ_ex, evB_nx, evB_rt, evB_ex, evC2_bool, evS_and, evS_or, evS_tf, evS_ft, ev_t, ev_s, ev_c, evalOp, bin_add, bin_sub, bin_mul, bin_eql, bin_neq, bin_lss, bin_leq, bin_gtr, bin_geq, sbin_eql, sbin_neq, b8, List.map_cons, List.map_nil, PV.rens, PV.ren, if_true, if_false, Bool.false_eq_true, reduceIte, Nat.reduceAdd, Nat.reduceSub, Nat.reduceMul, Nat.reduceEqDiff, Nat.reduceLeDiff, Int.reduceLE, Int.reduceLT, Int.reduceEq, Int.reduceToNat, Int.reduceAdd, Int.reduceSub, Int.reduceNeg, decide_true, decide_false, Bool.not_true, Bool.not_false, Bool.true_and, Bool.false_and, Bool.and_true, Bool.and_false, Bool.or_true, Bool.true_or, Bool.or_false, Bool.false_or, and_self, and_true, true_and, Nat.le_refl, Nat.zero_add, Nat.mul_one, Nat.one_ne_zero, Nat.zero_le, highP, lowP, Option.map_some, Option.map_none, List.drop_zero, List.take_zero, List.length_cons, List.length_nil, List.nil_append, List.append_nil, List.cons_append, fillP, PV.cells?, PV.one, PV.cleans, PV.clean, PV.of?, List.all_cons, List.all_nil, List.take_succ_cons, List.drop_succ_cons, Bool.and_self, Int.natCast_nonneg, Int.toNat_natCast, Int.toNat_zero, PV.of?, Tk.ren, tailP, evL_loop, or_true, true_or, Nat.zero_lt_one, Nat.sub_zero, List.getElem?_cons_zero, List.getElem?_cons_succ, List.set_cons_zero, List.set_cons_succ, List.take_length]
  rw [lp]
  simp only [evL_op, evL_sel, evL_nx, evL_exit, evL_ret, evL_join, evL_block, evL_cond, evK_some, evJ_nx, evJ_rt, evJ_ex, evB_nx, evB_rt, evB_ex, evC2_bool, evS_and, evS_or, evS_tf, evS_ft, ev_t, ev_s, ev_c, evalOp, bin_add, bin_sub, bin_mul, bin_eql, bin_neq, bin_lss, bin_leq, bin_gtr, bin_geq, sbin_eql, sbin_neq, b8, List.map_cons, List.map_nil, PV.rens, PV.ren, if_true, if_false, Bool.false_eq_true, reduceIte, Nat.reduceAdd, Nat.reduceSub, Nat.reduceMul, Nat.reduceEqDiff, Nat.reduceLeDiff, Int.reduceLE, Int.reduceLT, Int.reduceEq, Int.reduceToNat, Int.reduceAdd, Int.reduceSub, Int.reduceNeg, decide_true, decide_false, Bool.not_true, Bool.not_false, Bool.true_and, Bool.false_and, Bool.and_true, Bool.and_false, Bool.or_true, Bool.true_or, Bool.or_false, Bool.false_or, and_self, and_true, true_and, Nat.le_refl, Nat.zero_add, Nat.mul_one, Nat.one_ne_zero, Nat.zero_le, highP, lowP, Option.map_some, Option.map_none, List.drop_zero, List.take_zero, List.length_cons, List.length_nil, List.nil_append, List.append_nil, List.cons_append, fillP, PV.cells?, PV.one, PV.cleans, PV.clean, PV.of?, List.all_cons, List.all_nil, List.take_succ_cons, List.drop_succ_cons, Bool.and_self, Int.natCast_nonneg, Int.toNat_natCast, Int.toNat_zero, PV.of?, Tk.ren, tailP, evL_loop, or_true, true_or, Nat.zero_lt_one, Nat.sub_zero, List.getElem?_cons_zero, List.getElem?_cons_succ, List.set_cons_zero, List.set_cons_succ, List.take_length]
theorem RRead_some (b : List UInt8) (hb : b.length ≤ 1000000000) {c : Int} {l : List (List UInt8)} {n : Nat} (h : refGo b 21 b 0 [] = some (c, l, n)) : T 12 [sl8 b] [] = some (.tup [.agg [.int .i64 c, .sl (.tok 0) 1 l.length (l.map fun x => .str x)], .int .i64 n, .bool true], [.tok]) := by
  obtain ⟨r, lp, hr⟩ := loop_ref b hb 22 _ h
  unfold refP at hr
  dsimp only at hr
  subst hr
  refine evT_of (k := 22) (F := l12) (H' := [.cells [.int .i64 c, .sl (.tok 4) 1 l.length (l.map fun x => .str x)], .cells [.int .i64 c, .sl (.tok 4) 1 l.length (l.map fun x => .str x)], .tok, .dead, .tok]) (e := [.ptr 0 0, .int .i64 n, .bool true]) (l := [.agg [.int .i64 c, .sl (.tok 4) 1 l.length (l.map fun x => .str x)], .int .i64 n, .bool true]) rfl rfl rfl ?_ rfl rfl
  show evL T 22 q12 _ _ = _
  simp only [q12, evL_op, evL_sel, evL_nx, evL_exit, evL_ret, evL_join, evL_block, evL_cond, evK_some, evJ_nx, evJ_rt, evJ_ex, evB_nx, evB_rt, evB_ex, evC2_bool, evS_and, evS_or, evS_tf, evS_ft, ev_t, ev_s, ev_c, evalOp, bin_add, bin_sub, bin_mul, bin_eql, bin_neq, bin_lss, bin_leq, bin_gtr, bin_geq, sbin_eql, sbin_neq, b8, List.map_cons, List.map_nil, PV.rens, PV.ren, if_true, if_false, Bool.false_eq_true, reduceIte, Nat.reduceAdd, Nat.reduceSub, Nat.reduceMul, Nat.reduceEqDiff, Nat.reduceLeDiff, Int.reduceLE, Int.reduceLT, Int.reduceEq, Int.reduceToNat, Int.reduceAdd, Int.reduceSub, Int.reduceNeg, decide_true, decide_false, Bool.not_true, Bool.not_false, Bool.true_and, Bool.false_and, Bool.and_true, Bool.and_false, Bool.or_true, Bool.true_or, Bool.or_false, Bool.false_or, and_self, and_true, true_and, Nat.le_refl, Nat.zero_add, Nat.mul_one, Nat.one_ne_zero, Nat.zero_le, highP, lowP, Option.map_some, Option.map_none, List.drop_zero, List.take_zero, List.length_cons, List.length_nil, List.nil_append, List.append_nil, List.cons_append, fillP, PV.cells?, PV.one, PV.cleans, PV.clean, PV.of?, List.all_cons, List.all_nil, List.take_succ_cons, List.drop_succ_cons, Bool.and_self, Int.natCast_nonneg, Int.toNat_natCast, Int.toNat_zero, PV.of?, Tk.ren, tailP, evL_loop, or_true, true_or, Nat.zero_lt_one, Nat.sub_zero, List.getElem?_cons_zero, List.getElem?_cons_succ, List.set_cons_zero, List.set_cons_succ, List.take_length]
  rw [lp]
  simp only [evL_op, evL_sel, evL_nx, evL_exit, evL_ret, evL_join, evL_block, evL_cond, evK_some, evJ_nx, evJ_rt, evJ_ex, evB_nx, evB_rt, evB_ex, evC2_bool, evS_and, evS_or, evS_tf, evS_ft, ev_t, ev_s, ev_c, evalOp, bin_add, bin_sub, bin_mul, bin_eql, bin_neq, bin_lss, bin_leq, bin_gtr, bin_geq, sbin_eql, sbin_neq, b8, List.map_cons, List.map_nil, PV.rens, PV.ren, if_true, if_false, Bool.false_eq_true, reduceIte, Nat.reduceAdd, Nat.reduceSub, Nat.reduceMul, Nat.reduceEqDiff, Nat.reduceLeDiff, Int.reduceLE, Int.reduceLT, Int.reduceEq, Int.reduceToNat, Int.reduceAdd, Int.reduceSub, Int.reduceNeg, decide_true, decide_false, Bool.not_true, Bool.not_false, Bool.true_and, Bool.false_and, Bool.and_true, Bool.and_false, Bool.or_true, Bool.true_or, Bool.or_false, Bool.false_or, and_self, and_true, true_and, Nat.le_refl, Nat.zero_add, Nat.mul_one, Nat.one_ne_zero, Nat.zero_le, highP, lowP, Option.map_some, Option.map_none, List.drop_zero, List.take_zero, List.length_cons, List.length_nil, List.nil_append, List.append_nil, List.cons_append, fillP, PV.cells?, PV.one, PV.cleans, PV.clean, PV.of?, List.all_cons, List.all_nil, List.take_succ_cons, List.drop_succ_cons, Bool.and_self, Int.natCast_nonneg, Int.toNat_natCast, Int.toNat_zero, PV.of?, Tk.ren, tailP, evL_loop, or_true, true_or, Nat.zero_lt_one, Nat.sub_zero, List.getElem?_cons_zero, List.getElem?_cons_succ, List.set_cons_zero, List.set_cons_succ, List.take_length]
end Go.Proofs.YtmajbgmjlggcbaaDoor.Tab
