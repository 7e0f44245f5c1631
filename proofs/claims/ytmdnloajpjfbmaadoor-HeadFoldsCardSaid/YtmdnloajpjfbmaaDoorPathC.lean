/- Mailboxes: the document's answer reads a text; letters made small. -/
import Derived.Test.YtmdnloajpjfbmaaDoorPathB
namespace Go.Proofs.YtmdnloajpjfbmaaDoor.Tab
set_option linter.all false
open Go Go.RowKit Go.Proofs.YtmdnloajpjfbmaaDoor.Ev
abbrev H0 : Hp := [.cells [.bool false, .str [], .str []]]
def upB (c : UInt8) : Bool := decide ((65 : Int) ≤ c.toNat) && decide ((c.toNat : Int) ≤ 90)
def foldB (c : UInt8) : UInt8 := if upB c = true then c + 32 else c
theorem up_val (c : UInt8) (h : upB c = true) : ((c + 32).toNat : Int) = c.toNat + 32 := by
  simp only [upB, Bool.and_eq_true, decide_eq_true_eq] at h
  rw [UInt8.toNat_add]
  have : (32 : UInt8).toNat = 32 := rfl
  omega
theorem flat_b8 (l : List UInt8) : (l.map b8).all flat = true := by
  induction l with
  | nil => rfl
  | cons c l ih => rw [List.map_cons, List.all_cons, ih]; rfl
theorem head27 (l : List UInt8) (n i : Int) (m : Nat) : headS 1 [.row 0 0 1 m, .row 0 0 1 m, .int .i64 n, .int .i64 i] [.cells (l.map b8)] = ([.row 0 0 1 m, .row 0 0 1 m, .int .i64 n, .int .i64 i], [.cells (l.map b8)]) := by
  have h1 := flat_b8 l
  have h2 : nilObs 1 [.cells (l.map b8)] = [.cells (l.map b8)] := by
    show (nilTs (l.map b8) [.cells (l.map b8)]).2.set 0 (.cells (nilTs (l.map b8) [.cells (l.map b8)]).1) = _
    rw [nilTs_flat h1]
    rfl
  have h3 : nilTs [.row 0 0 1 m, .row 0 0 1 m, .int .i64 n, .int .i64 i] [.cells (l.map b8)] = ([.row 0 0 1 m, .row 0 0 1 m, .int .i64 n, .int .i64 i], [.cells (l.map b8)]) := rfl
  unfold headS
  rw [h3]
  simp only
  rw [h2]
  have h4 : used 1 [.row 0 0 1 m, .row 0 0 1 m, .int .i64 n, .int .i64 i] [.cells (l.map b8)] = [] := by
    unfold used
    show dedup ((reach 1 [Ob.cells (l.map b8)] 4 (0 :: 0 :: (PV.toksL (l.map b8) ++ []))).filter _) = []
    rw [toks_flat h1]
    rfl
  unfold compact
  simp only
  rw [h4]
  show (_, [Ob.cells (PV.rens (renOf 1 [Ob.cells (l.map b8)] []) (l.map b8))]) = _
  rw [rens_flat _ h1]
  rfl
def sp22 (s : List UInt8) (i : Nat) : List UInt8 := (s.take i).map foldB ++ s.drop i
theorem sp22_len (s : List UInt8) (i : Nat) : (sp22 s i).length = s.length := by unfold sp22; simp; omega
theorem sp22_at (s : List UInt8) (i : Nat) (h : i < s.length) : (sp22 s i)[i]? = some s[i] := by
  unfold sp22
  rw [List.getElem?_append_right (by simp; omega)]
  simp [Nat.min_eq_left (Nat.le_of_lt h)]
theorem sp22_set (s : List UInt8) (i : Nat) (h : i < s.length) : (sp22 s i).set i (foldB s[i]) = sp22 s (i + 1) := by
  unfold sp22
  rw [List.set_append_right _ _ (by simp; omega), List.take_succ_eq_append_getElem h, List.drop_eq_getElem_cons h]
  rw [List.length_map, List.length_take, Nat.min_eq_left (Nat.le_of_lt h), Nat.sub_self, List.set_cons_zero, List.map_append, List.append_assoc]
  rfl
theorem take1b {L : List UInt8} {i : Nat} {c : UInt8} (h : L[i]? = some c) : ((L.map b8).drop i).take 1 = [b8 c] := by
  have hi : i < L.length := (List.getElem?_eq_some_iff.1 h).1
  have e : L[i] = c := (List.getElem?_eq_some_iff.1 h).2
  rw [← List.map_drop, List.drop_eq_getElem_cons hi, List.map_cons, e]
  rfl
theorem put1b {L : List UInt8} {i : Nat} (h : i < L.length) (d : UInt8) : (L.map b8).take i ++ [b8 d] ++ (L.map b8).drop (i + 1) = (L.set i d).map b8 := by
  rw [List.set_eq_take_append_cons_drop, if_pos h, List.map_append, List.map_cons, List.map_take, List.map_drop, List.append_assoc]
  rfl
theorem body27 (k0 : Nat) (s : List UInt8) (hs : s.length ≤ 9000000000000000000) (i : Nat) (hi : i < s.length) :
    evL T k0 q27_1 [.row 0 0 1 s.length, .row 0 0 1 s.length, .int .i64 s.length, .int .i64 i] [.cells ((sp22 s i).map b8)] =
    some (.nx, [.row 0 0 1 s.length, .row 0 0 1 s.length, .int .i64 s.length, .int .i64 (i + 1 : Nat)], [.cells ((sp22 s (i + 1)).map b8)]) := by
  have h1 : (i : Int) < s.length := by omega
  have hw : IntKind.i64.wrap ((i : Int) + 1) = ((i + 1 : Nat) : Int) := by rw [IntWalk.i64_in _ (by omega)]; rfl
  have ht := take1b (sp22_at s i hi)
  have hl := sp22_len s i
  have hp := put1b (by rw [hl]; exact hi) (foldB s[i])
  rw [sp22_set s i hi] at hp
  have hu : (decide ((65 : Int) ≤ (s[i]).toNat) && decide (((s[i]).toNat : Int) ≤ 90)) = upB s[i] := rfl
  cases hup : upB s[i] with
  | false =>
    have hn : sp22 s (i + 1) = sp22 s i := by
      rw [← sp22_set s i hi]
      have e : foldB s[i] = s[i] := by unfold foldB; rw [hup]; rfl
      rw [e]
      apply List.ext_getElem?
      intro j
      by_cases hj : i = j
      · subst hj; rw [List.getElem?_set_self (by rw [hl]; exact hi), sp22_at s i hi]
      · rw [List.getElem?_set_ne hj]
    rw [hn]
    simp only [q27_1, q27_0, evL_op, evL_sel, evL_nx, evL_exit, evL_ret, evL_join, evL_block, evL_cond, evK_some, evJ_nx, evJ_rt, evJ_ex, evB_nx, evB_rt, evB_ex, evC2_bool, evS_and, evS_or, evS_tf, evS_ft, ev_t, ev_s, ev_c, evalOp, bin_add, bin_sub, bin_mul, bin_eql, bin_neq, bin_lss, bin_leq, bin_gtr, bin_geq, sbin_eql, sbin_neq, b8, List.map_cons, List.map_nil, PV.rens, PV.ren, if_true, if_false, Bool.false_eq_true, reduceIte, Nat.reduceAdd, Nat.reduceSub, Nat.reduceMul, Nat.reduceEqDiff, Nat.reduceLeDiff, Int.reduceLE, Int.reduceLT, Int.reduceEq, Int.reduceToNat, Int.reduceAdd, Int.reduceSub, Int.reduceNeg, decide_true, decide_false, Bool.not_true, Bool.not_false, Bool.true_and, Bool.false_and, Bool.and_true, Bool.and_false, Bool.or_true, Bool.true_or, Bool.or_false, Bool.false_or, and_self, and_true, true_and, Nat.le_refl, Nat.zero_add, Nat.mul_one, Nat.one_ne_zero, Nat.zero_le, highP, lowP, Option.map_some, Option.map_none, List.drop_zero, List.take_zero, List.length_cons, List.length_nil, List.nil_append, List.append_nil, List.cons_append, fillP, PV.cells?, PV.one, PV.cleans, PV.clean, PV.of?, List.all_cons, List.all_nil, List.take_succ_cons, List.drop_succ_cons, Bool.and_self, Int.natCast_nonneg, Int.toNat_natCast, Int.toNat_zero, h1, Int.natCast_nonneg, Int.toNat_natCast, List.getElem?_cons_zero, List.length_map, ht, b8, hu, hup, hw]
  | true =>
    have hv := up_val s[i] hup
    have hf : foldB s[i] = s[i] + 32 := by unfold foldB; rw [hup]; rfl
    rw [hf] at hp
    simp only [upB, Bool.and_eq_true, decide_eq_true_eq] at hup
    have w1 : IntKind.u8.wrap (((s[i]).toNat : Int) + 97) = ((s[i]).toNat : Int) + 97 := IntWalk.u8_in _ (by omega)
    have w2 : IntKind.u8.wrap (((s[i]).toNat : Int) + 97 - 65) = ((s[i] + 32).toNat : Int) := by rw [IntWalk.u8_in _ (by omega), hv]; omega
    have hb : PV.int .u8 ((s[i] + 32).toNat : Int) = b8 (s[i] + 32) := rfl
    have hle : i + 1 ≤ (sp22 s i).length := by rw [hl]; omega
    simp only [q27_1, q27_0, evL_op, evL_sel, evL_nx, evL_exit, evL_ret, evL_join, evL_block, evL_cond, evK_some, evJ_nx, evJ_rt, evJ_ex, evB_nx, evB_rt, evB_ex, evC2_bool, evS_and, evS_or, evS_tf, evS_ft, ev_t, ev_s, ev_c, evalOp, bin_add, bin_sub, bin_mul, bin_eql, bin_neq, bin_lss, bin_leq, bin_gtr, bin_geq, sbin_eql, sbin_neq, b8, List.map_cons, List.map_nil, PV.rens, PV.ren, if_true, if_false, Bool.false_eq_true, reduceIte, Nat.reduceAdd, Nat.reduceSub, Nat.reduceMul, Nat.reduceEqDiff, Nat.reduceLeDiff, Int.reduceLE, Int.reduceLT, Int.reduceEq, Int.reduceToNat, Int.reduceAdd, Int.reduceSub, Int.reduceNeg, decide_true, decide_false, Bool.not_true, Bool.not_false, Bool.true_and, Bool.false_and, Bool.and_true, Bool.and_false, Bool.or_true, Bool.true_or, Bool.or_false, Bool.false_or, and_self, and_true, true_and, Nat.le_refl, Nat.zero_add, Nat.mul_one, Nat.one_ne_zero, Nat.zero_le, highP, lowP, Option.map_some, Option.map_none, List.drop_zero, List.take_zero, List.length_cons, List.length_nil, List.nil_append, List.append_nil, List.cons_append, fillP, PV.cells?, PV.one, PV.cleans, PV.clean, PV.of?, List.all_cons, List.all_nil, List.take_succ_cons, List.drop_succ_cons, Bool.and_self, Int.natCast_nonneg, Int.toNat_natCast, Int.toNat_zero, h1, Int.natCast_nonneg, Int.toNat_natCast, List.getElem?_cons_zero, List.length_map, ht, b8, hup.1, hup.2, hw, w1, w2, List.set_cons_zero, hle]
    rw [← hp]
    rfl
theorem loop27 (k0 : Nat) (s : List UInt8) (hs : s.length ≤ 9000000000000000000) : ∀ (j i : Nat), i + j = s.length → ∀ k, j < k →
    loopL 1 (evL T k0 q27_1) k [.row 0 0 1 s.length, .row 0 0 1 s.length, .int .i64 s.length, .int .i64 i] [.cells ((sp22 s i).map b8)] = some (.ex 0, [.row 0 0 1 s.length], [.cells ((s.map foldB).map b8)])
  | j, i, hij, 0, hk => by omega
  | 0, i, hij, k + 1, hk => by
    obtain rfl : i = s.length := by omega
    have h1 : ¬ ((s.length : Int) < s.length) := by omega
    have h2 : sp22 s s.length = s.map foldB := by simp [sp22]
    rw [loopL_succ, head27, h2]
    have h3 : evL T k0 q27_1 [.row 0 0 1 s.length, .row 0 0 1 s.length, .int .i64 s.length, .int .i64 s.length] [.cells ((s.map foldB).map b8)] = some (.ex 0, [.row 0 0 1 s.length], [.cells ((s.map foldB).map b8)]) := by simp only [q27_1, evL_op, evL_sel, evL_nx, evL_exit, evL_ret, evL_join, evL_block, evL_cond, evK_some, evJ_nx, evJ_rt, evJ_ex, evB_nx, evB_rt, evB_ex, evC2_bool, evS_and, evS_or, evS_tf, evS_ft, ev_t, ev_s, ev_c, evalOp, bin_add, bin_sub, bin_mul, bin_eql, bin_neq, bin_lss, bin_leq, bin_gtr, bin_geq, sbin_eql, sbin_neq, b8, List.map_cons, List.map_nil, PV.rens, PV.ren, if_true, if_false, Bool.false_eq_true, reduceIte, h1, decide_false]
    rw [h3]
  | j + 1, i, hij, k + 1, hk => by
    rw [loopL_succ, head27, body27 k0 s hs i (by omega)]
    exact loop27 k0 s hs j (i + 1) (by omega) k (by omega)
def foldS (s : List UInt8) : List UInt8 := s.map foldB
theorem T27 (s : List UInt8) (hs : s.length ≤ 9000000000000000000) : T 27 [.str s] [] = some (.str (foldS s), []) := by
  refine evT_of (k := s.length + 1) (F := l27) (H' := [.cells ((s.map foldB).map b8)]) (e := [.str (foldS s)]) (l := [.str (foldS s)]) rfl rfl rfl ?_ rfl rfl
  have hl := loop27 (s.length + 1) s hs s.length 0 (by omega) (s.length + 1) (by omega)
  have h0 : evL T (s.length + 1) q27 [.str s] [] = evJ T (s.length + 1) q27_2 (evB 0 (loopL 1 (evL T (s.length + 1) q27_1) (s.length + 1) [.row 0 0 1 s.length, .row 0 0 1 s.length, .int .i64 s.length, .int .i64 (0 : Nat)] [.cells ((sp22 s 0).map b8)])) := by
    have h2 : sp22 s 0 = s := by simp [sp22]
    rw [h2]
    rfl
  show evL T _ q27 _ _ = _
  rw [h0, hl]
  have hb := bytes8_b8 (s.map foldB)
  have hle : s.length ≤ ((s.map foldB).map b8).length := by simp
  have ht : ((s.map foldB).map b8).take s.length = (s.map foldB).map b8 := List.take_of_length_le (by simp)
  simp only [q27_2, evL_op, evL_sel, evL_nx, evL_exit, evL_ret, evL_join, evL_block, evL_cond, evK_some, evJ_nx, evJ_rt, evJ_ex, evB_nx, evB_rt, evB_ex, evC2_bool, evS_and, evS_or, evS_tf, evS_ft, ev_t, ev_s, ev_c, evalOp, bin_add, bin_sub, bin_mul, bin_eql, bin_neq, bin_lss, bin_leq, bin_gtr, bin_geq, sbin_eql, sbin_neq, b8, List.map_cons, List.map_nil, PV.rens, PV.ren, if_true, if_false, Bool.false_eq_true, reduceIte, List.getElem?_cons_zero, Nat.zero_add, List.drop_zero, hle, ht, hb]
  rfl
def sz23 (i : Nat) : Nat := if i = 0 then 0 else 1
def o23 (s : List UInt8) (i : Nat) : PV := .sl (.tok 0) (sz23 i) i (((s.take i).map foldB).map b8)
theorem head37 (s : List UInt8) (sz n : Nat) (cs : List PV) (i : Int) : headS 0 [.str s, .sl (.tok 1) sz n cs, .int .i64 i] [.dead, .tok] = ([.str s, .sl (.tok 0) sz n cs, .int .i64 i], [.tok]) := rfl
theorem head37' (s : List UInt8) (i : Int) : headS 0 [.str s, .sl .nil 0 0 [], .int .i64 i] [] = ([.str s, .sl (.tok 0) 0 0 [], .int .i64 i], [.tok]) := rfl
theorem body37 (k0 : Nat) (s : List UInt8) (hs : s.length ≤ 70368744177663) (i : Nat) (hi : i < s.length) :
    evL T k0 q37_2 [.str s, o23 s i, .int .i64 i] [.tok] = some (.nx, [.str s, .sl (.tok 1) 1 (i + 1) (((s.take (i + 1)).map foldB).map b8), .int .i64 (i + 1 : Nat)], [.dead, .tok]) := by
  have h1 : (i : Int) < s.length := by omega
  have hw : IntKind.i64.wrap ((i : Int) + 1) = ((i + 1 : Nat) : Int) := by rw [IntWalk.i64_in _ (by omega)]; rfl
  have hc : s[i]? = some s[i] := List.getElem?_eq_getElem hi
  have hu : (decide ((65 : Int) ≤ (s[i]).toNat) && decide (((s[i]).toNat : Int) ≤ 90)) = upB s[i] := rfl
  have hcs : (((s.take (i + 1)).map foldB).map b8) = ((s.take i).map foldB).map b8 ++ [b8 (foldB s[i])] := by
    rw [List.take_succ_eq_append_getElem hi, List.map_append, List.map_append]; rfl
  have hroom : i + 1 ≤ roomMax := by unfold roomMax; omega
  have hsz : sz23 i = 1 ∨ sz23 i = 0 := by unfold sz23; split <;> simp
  cases hup : upB s[i] with
  | false =>
    have hf : foldB s[i] = s[i] := by unfold foldB; rw [hup]; rfl
    rw [hcs, hf]
    simp only [q37_2, q37_1, q37_0, o23, evL_op, evL_sel, evL_nx, evL_exit, evL_ret, evL_join, evL_block, evL_cond, evK_some, evJ_nx, evJ_rt, evJ_ex, evB_nx, evB_rt, evB_ex, evC2_bool, evS_and, evS_or, evS_tf, evS_ft, ev_t, ev_s, ev_c, evalOp, bin_add, bin_sub, bin_mul, bin_eql, bin_neq, bin_lss, bin_leq, bin_gtr, bin_geq, sbin_eql, sbin_neq, b8, List.map_cons, List.map_nil, PV.rens, PV.ren, if_true, if_false, Bool.false_eq_true, reduceIte, Nat.reduceAdd, Nat.reduceSub, Nat.reduceMul, Nat.reduceEqDiff, Nat.reduceLeDiff, Int.reduceLE, Int.reduceLT, Int.reduceEq, Int.reduceToNat, Int.reduceAdd, Int.reduceSub, Int.reduceNeg, decide_true, decide_false, Bool.not_true, Bool.not_false, Bool.true_and, Bool.false_and, Bool.and_true, Bool.and_false, Bool.or_true, Bool.true_or, Bool.or_false, Bool.false_or, and_self, and_true, true_and, Nat.le_refl, Nat.zero_add, Nat.mul_one, Nat.one_ne_zero, Nat.zero_le, highP, lowP, Option.map_some, Option.map_none, List.drop_zero, List.take_zero, List.length_cons, List.length_nil, List.nil_append, List.append_nil, List.cons_append, fillP, PV.cells?, PV.one, PV.cleans, PV.clean, PV.of?, List.all_cons, List.all_nil, List.take_succ_cons, List.drop_succ_cons, Bool.and_self, Int.natCast_nonneg, Int.toNat_natCast, Int.toNat_zero, h1, Int.natCast_nonneg, Int.toNat_natCast, hc, hu, hup, tailP, List.getElem?_cons_zero, hroom, hsz, or_true, List.set_cons_zero, hw]
  | true =>
    have hv := up_val s[i] hup
    have hf : foldB s[i] = s[i] + 32 := by unfold foldB; rw [hup]; rfl
    rw [hcs, hf]
    have hup2 := hup
    simp only [upB, Bool.and_eq_true, decide_eq_true_eq] at hup2
    have w1 : IntKind.u8.wrap (((s[i]).toNat : Int) + 32) = ((s[i] + 32).toNat : Int) := by rw [IntWalk.u8_in _ (by omega), hv]
    simp only [q37_2, q37_1, q37_0, o23, evL_op, evL_sel, evL_nx, evL_exit, evL_ret, evL_join, evL_block, evL_cond, evK_some, evJ_nx, evJ_rt, evJ_ex, evB_nx, evB_rt, evB_ex, evC2_bool, evS_and, evS_or, evS_tf, evS_ft, ev_t, ev_s, ev_c, evalOp, bin_add, bin_sub, bin_mul, bin_eql, bin_neq, bin_lss, bin_leq, bin_gtr, bin_geq, sbin_eql, sbin_neq, b8, List.map_cons, List.map_nil, PV.rens, PV.ren, if_true, if_false, Bool.false_eq_true, reduceIte, Nat.reduceAdd, Nat.reduceSub, Nat.reduceMul, Nat.reduceEqDiff, Nat.reduceLeDiff, Int.reduceLE, Int.reduceLT, Int.reduceEq, Int.reduceToNat, Int.reduceAdd, Int.reduceSub, Int.reduceNeg, decide_true, decide_false, Bool.not_true, Bool.not_false, Bool.true_and, Bool.false_and, Bool.and_true, Bool.and_false, Bool.or_true, Bool.true_or, Bool.or_false, Bool.false_or, and_self, and_true, true_and, Nat.le_refl, Nat.zero_add, Nat.mul_one, Nat.one_ne_zero, Nat.zero_le, highP, lowP, Option.map_some, Option.map_none, List.drop_zero, List.take_zero, List.length_cons, List.length_nil, List.nil_append, List.append_nil, List.cons_append, fillP, PV.cells?, PV.one, PV.cleans, PV.clean, PV.of?, List.all_cons, List.all_nil, List.take_succ_cons, List.drop_succ_cons, Bool.and_self, Int.natCast_nonneg, Int.toNat_natCast, Int.toNat_zero, h1, Int.natCast_nonneg, Int.toNat_natCast, hc, hu, hup, tailP, List.getElem?_cons_zero, hroom, hsz, or_true, List.set_cons_zero, hw, w1]
theorem loop37 (k0 : Nat) (s : List UInt8) (hs : s.length ≤ 70368744177663) : ∀ (j i : Nat), i + j = s.length → ∀ k, j < k → ∀ (env : List PV) (H : Hp), headS 0 env H = ([.str s, o23 s i, .int .i64 i], [.tok]) →
    loopL 0 (evL T k0 q37_2) k env H = some (.ex 0, [o23 s s.length], [.tok])
  | j, i, hij, 0, hk, _, _, _ => by omega
  | 0, i, hij, k + 1, hk, env, H, hh => by
    obtain rfl : i = s.length := by omega
    have h1 : ¬ ((s.length : Int) < s.length) := by omega
    have h3 : evL T k0 q37_2 [.str s, o23 s s.length, .int .i64 s.length] [.tok] = some (.ex 0, [o23 s s.length], [.tok]) := by simp only [q37_2, evL_op, evL_sel, evL_nx, evL_exit, evL_ret, evL_join, evL_block, evL_cond, evK_some, evJ_nx, evJ_rt, evJ_ex, evB_nx, evB_rt, evB_ex, evC2_bool, evS_and, evS_or, evS_tf, evS_ft, ev_t, ev_s, ev_c, evalOp, bin_add, bin_sub, bin_mul, bin_eql, bin_neq, bin_lss, bin_leq, bin_gtr, bin_geq, sbin_eql, sbin_neq, b8, List.map_cons, List.map_nil, PV.rens, PV.ren, if_true, if_false, Bool.false_eq_true, reduceIte, h1, decide_false]
    rw [loopL_succ, hh, h3]
  | j + 1, i, hij, k + 1, hk, env, H, hh => by
    rw [loopL_succ, hh, body37 k0 s hs i (by omega)]
    exact loop37 k0 s hs j (i + 1) (by omega) k (by omega) _ _ (head37 _ _ _ _ _)
theorem T37 (s : List UInt8) (hs : s.length ≤ 70368744177663) : T 37 [.str s] [] = some (.str (foldS s), []) := by
  refine evT_of (k := s.length + 1) (F := l37) (H' := [.tok]) (e := [.str (foldS s)]) (l := [.str (foldS s)]) rfl rfl rfl ?_ rfl rfl
  have hl := loop37 (s.length + 1) s hs s.length 0 (by omega) (s.length + 1) (by omega) [.str s, .sl .nil 0 0 [], .int .i64 (0 : Nat)] [] (head37' s _)
  have h0 : evL T (s.length + 1) q37 [.str s] [] = evJ T (s.length + 1) q37_3 (evB 0 (loopL 0 (evL T (s.length + 1) q37_2) (s.length + 1) [.str s, .sl .nil 0 0 [], .int .i64 (0 : Nat)] [])) := rfl
  show evL T _ q37 _ _ = _
  rw [h0, hl]
  have hb := bytes8_b8 (s.map foldB)
  have ht : s.take s.length = s := List.take_length
  unfold o23
  rw [ht]
  generalize (s.map foldB).map b8 = L at hb
  by_cases hne : s.length = 0
  · obtain rfl : s = [] := List.eq_nil_of_length_eq_zero hne
    simp only [q37_3, evL_op, evL_sel, evL_nx, evL_exit, evL_ret, evL_join, evL_block, evL_cond, evK_some, evJ_nx, evJ_rt, evJ_ex, evB_nx, evB_rt, evB_ex, evC2_bool, evS_and, evS_or, evS_tf, evS_ft, ev_t, ev_s, ev_c, evalOp, bin_add, bin_sub, bin_mul, bin_eql, bin_neq, bin_lss, bin_leq, bin_gtr, bin_geq, sbin_eql, sbin_neq, b8, List.map_cons, List.map_nil, PV.rens, PV.ren, if_true, if_false, Bool.false_eq_true, reduceIte, hne]
    rfl
  · have hsz : sz23 s.length = 1 := if_neg hne
    simp only [q37_3, evL_op, evL_sel, evL_nx, evL_exit, evL_ret, evL_join, evL_block, evL_cond, evK_some, evJ_nx, evJ_rt, evJ_ex, evB_nx, evB_rt, evB_ex, evC2_bool, evS_and, evS_or, evS_tf, evS_ft, ev_t, ev_s, ev_c, evalOp, bin_add, bin_sub, bin_mul, bin_eql, bin_neq, bin_lss, bin_leq, bin_gtr, bin_geq, sbin_eql, sbin_neq, b8, List.map_cons, List.map_nil, PV.rens, PV.ren, if_true, if_false, Bool.false_eq_true, reduceIte, hne, hsz, hb]
    rfl
def sameP (n : Bool) (l d : List UInt8) (m : Bool) (k e : List UInt8) : Bool := pathOk n l d && pathOk m k e && (n == m) && decide (l = k) && decide (foldS d = foldS e)
def atP (n : Bool) (l d s : List UInt8) : Bool := pathOk n l d && !n && decide (foldS d = foldS s)
theorem ok_dec (b : Bool) : decide ((if b = true then (0 : Int) else 5) = 0) = b := by cases b <;> rfl
abbrev H2 (n : Bool) (l d : List UInt8) (m : Bool) (k e : List UInt8) : Hp := [.cells [.bool n, .str l, .str d], .cells [.bool m, .str k, .str e]]
section
variable (n m : Bool) (l d k e : List UInt8) (h1 : l.length + d.length < 2147483648) (h2 : k.length + e.length < 2147483648)
include h1 h2
end
section
variable (n : Bool) (l d s : List UInt8) (h1 : l.length + d.length < 2147483648) (h2 : s.length < 2147483648)
include h1 h2
end
end Go.Proofs.YtmdnloajpjfbmaaDoor.Tab
