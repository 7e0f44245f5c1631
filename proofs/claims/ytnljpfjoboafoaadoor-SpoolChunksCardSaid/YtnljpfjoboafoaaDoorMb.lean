/- Records of mails as plain data, and what compares them and makes twins of them. -/
import Derived.Test.YtnljpfjoboafoaaDoorMa
namespace Go.Proofs.YtnljpfjoboafoaaDoor.Tab
set_option linter.all false
open Go Go.RowKit Go.Proofs.YtnljpfjoboafoaaDoor.Ev
structure Pth where
  n : Bool
  l : List UInt8
  d : List UInt8
  deriving DecidableEq
structure Mal where
  fr : Pth
  rcp : List Pth
  bd : List UInt8
  q : Bool
  helo : List UInt8
  tm : Int
  deriving DecidableEq
structure Rc where
  kind : Int
  mail : Mal
  id : Int
  ids : List Int
  origin : Int
  number : Int
  offset : Int
  data : List UInt8
  deriving DecidableEq
def pC (p : Pth) : List PV := [.bool p.n, .str p.l, .str p.d]
def psP (l : List Pth) : PV := .sl .no 3 l.length (l.flatMap pC)
def inP (l : List Int) : PV := .sl .no 1 l.length (l.map fun x => .int .i64 x)
def mC (m : Mal) : List PV := [.bool m.fr.n, .str m.fr.l, .str m.fr.d, psP m.rcp, sl8 m.bd, .bool m.q, .str m.helo, .int .i64 m.tm]
def rC (r : Rc) : List PV := [.int .i64 r.kind, .bool r.mail.fr.n, .str r.mail.fr.l, .str r.mail.fr.d, psP r.mail.rcp, sl8 r.mail.bd, .bool r.mail.q, .str r.mail.helo, .int .i64 r.mail.tm, .int .i64 r.id, inP r.ids, .int .i64 r.origin, .int .i64 r.number, .int .i64 r.offset, sl8 r.data]
def rsP (l : List Rc) : PV := .sl .no 15 l.length (l.flatMap rC)
theorem fm_len {α : Type} {mk : α → List PV} {sz : Nat} (hsz : ∀ a, (mk a).length = sz) : ∀ l : List α, (l.flatMap mk).length = l.length * sz
  | [] => by simp
  | a :: l => by rw [List.flatMap_cons, List.length_append, fm_len hsz l, hsz, List.length_cons, Nat.succ_mul]; omega
theorem fm_get {α : Type} {mk : α → List PV} {sz : Nat} (hsz : ∀ a, (mk a).length = sz) {l : List α} {i : Nat} (h : i < l.length) : ((l.flatMap mk).drop (i * sz)).take sz = mk l[i] := by
  have e : l.flatMap mk = (l.take i).flatMap mk ++ (mk l[i] ++ (l.drop (i + 1)).flatMap mk) := by
    conv => lhs; rw [← List.take_append_drop i l, List.drop_eq_getElem_cons h, List.flatMap_append, List.flatMap_cons]
  have hl : ((l.take i).flatMap mk).length = i * sz := by rw [fm_len hsz, List.length_take]; congr 1; omega
  rw [e, ← hl, List.drop_left, ← hsz l[i], List.take_left]
theorem map_get {α : Type} {f : α → PV} {l : List α} {i : Nat} (h : i < l.length) : ((l.map f).drop i).take 1 = [f l[i]] := by
  rw [← List.map_drop, List.drop_eq_getElem_cons h, List.map_cons]; rfl
/-- A loop that holds two rows against each other, one element a round. -/
theorem same_loop {α : Type} [DecidableEq α] {body : List PV → Hp → Res} {p q : PV} {l m : List α} (hl : l.length = m.length) (hp : flat p = true) (hq : flat q = true)
    (hb : ∀ i (h1 : i < l.length) (h2 : i < m.length), body [p, q, .int .i64 i] [] = if l[i] = m[i] then some (.nx, [p, q, .int .i64 ((i + 1 : Nat) : Int)], []) else some (.rt, [.bool false], []))
    (he : body [p, q, .int .i64 l.length] [] = some (.ex 0, [], [])) : loopL 0 body (l.length + 1) [p, q, .int .i64 0] [] = some (if l = m then (.ex 0, [], []) else (.rt, [.bool false], [])) := by
  have lp := loop_law (n := 0) (body := body) (σ := Nat) (fun i => [p, q, .int .i64 i]) (fun _ => []) (fun i => l.length - i) (fun i => i ≤ l.length) (fun i => if l.drop i = m.drop i then (.ex 0, [], []) else (.rt, [.bool false], [])) (by
    intro i hi
    rcases Nat.lt_or_ge i l.length with h1 | h1
    · have h2 : i < m.length := by omega
      have hb := hb i h1 h2
      rw [List.drop_eq_getElem_cons h1, List.drop_eq_getElem_cons h2]
      by_cases hc : l[i] = m[i]
      · rw [if_pos hc] at hb
        refine .inr ⟨i + 1, [p, q, .int .i64 ((i + 1 : Nat) : Int)], [], hb, head0 (by simp only [List.all_cons, List.all_nil, hp, hq, Bool.true_and]; rfl), h1, by omega, ?_⟩
        simp only [hc, List.cons.injEq, true_and]
      · rw [if_neg hc] at hb
        refine .inl ?_
        rw [if_neg (fun e => hc (List.cons.inj e).1)]
        exact ⟨hb, by simp⟩
    · obtain rfl : i = l.length := by omega
      refine .inl ?_
      rw [List.drop_length, List.drop_of_length_le (by omega), if_pos rfl]
      exact ⟨he, by simp⟩) (l.length + 1) 0 [p, q, .int .i64 (0 : Nat)] [] (head0 (by simp only [List.all_cons, List.all_nil, hp, hq, Bool.true_and]; rfl)) (Nat.zero_le _) (by omega)
  simpa using lp
theorem O0 : ((0 : Nat) : Int) = 0 := rfl
theorem T_ints (l m : List Int) (hs : l.length ≤ 9000000000000000000) : T 21 [inP l, inP m] [] = some (.bool (decide (l = m)), []) := by
  refine evT_of (k := l.length + 1) (F := l21) (H' := []) (e := [.bool (decide (l = m))]) (l := [.bool (decide (l = m))]) rfl rfl rfl ?_ rfl rfl
  show evL T (l.length + 1) q21 _ _ = _
  by_cases h : l.length = m.length
  · have lp := same_loop (body := evL T (l.length + 1) q21_1) (p := inP l) (q := inP m) h rfl rfl (fun i h1 h2 => by
      have h3 : (i : Int) < l.length := by omega
      have h4 : (i : Int) < m.length := by omega
      have c1 := map_get (f := fun x => PV.int .i64 x) h1
      have c2 := map_get (f := fun x => PV.int .i64 x) h2
      by_cases hc : l[i] = m[i]
      · simp only [inP, q21_1, q21_0, evL_op, evL_sel, evL_nx, evL_exit, evL_ret, evL_join, evL_block, evL_cond, evK_some, evJ_nx, evJ_rt, evJ_ex, evB_nx, evB_rt, evB_ex, evC2_bool, evS_and, evS_or, evS_tf, evS_ft, ev_t, ev_s, ev_c, evalOp, bin_add, bin_sub, bin_mul, bin_eql, bin_neq, bin_lss, bin_leq, bin_gtr, bin_geq, sbin_eql, sbin_neq, b8, List.map_cons, List.map_nil, PV.rens, PV.ren, if_true, if_false, Bool.false_eq_true, reduceIte, Nat.reduceAdd, Nat.reduceSub, Nat.reduceMul, Nat.reduceEqDiff, Nat.reduceLeDiff, Int.reduceLE, Int.reduceLT, Int.reduceEq, Int.reduceToNat, Int.reduceAdd, Int.reduceSub, Int.reduceNeg, decide_true, decide_false, Bool.not_true, Bool.not_false, Bool.true_and, Bool.false_and, Bool.and_true, Bool.and_false, Bool.or_true, Bool.true_or, Bool.or_false, Bool.false_or, and_self, and_true, true_and, Nat.le_refl, Nat.zero_add, Nat.mul_one, Nat.one_ne_zero, Nat.zero_le, highP, lowP, Option.map_some, Option.map_none, List.drop_zero, List.take_zero, List.length_cons, List.length_nil, List.nil_append, List.append_nil, List.cons_append, fillP, PV.cells?, PV.one, PV.cleans, PV.clean, PV.of?, List.all_cons, List.all_nil, List.take_succ_cons, List.drop_succ_cons, Bool.and_self, Int.natCast_nonneg, Int.toNat_natCast, Int.toNat_zero, PV.of?, Tk.ren, tailP, evL_loop, or_true, true_or, Nat.zero_lt_one, Nat.sub_zero, List.getElem?_cons_zero, List.getElem?_cons_succ, List.set_cons_zero, List.set_cons_succ, List.take_length, h3, h4, c1, c2, wr1 (show i < 9223372036854775807 by omega), hc]
      · simp only [inP, q21_1, q21_0, evL_op, evL_sel, evL_nx, evL_exit, evL_ret, evL_join, evL_block, evL_cond, evK_some, evJ_nx, evJ_rt, evJ_ex, evB_nx, evB_rt, evB_ex, evC2_bool, evS_and, evS_or, evS_tf, evS_ft, ev_t, ev_s, ev_c, evalOp, bin_add, bin_sub, bin_mul, bin_eql, bin_neq, bin_lss, bin_leq, bin_gtr, bin_geq, sbin_eql, sbin_neq, b8, List.map_cons, List.map_nil, PV.rens, PV.ren, if_true, if_false, Bool.false_eq_true, reduceIte, Nat.reduceAdd, Nat.reduceSub, Nat.reduceMul, Nat.reduceEqDiff, Nat.reduceLeDiff, Int.reduceLE, Int.reduceLT, Int.reduceEq, Int.reduceToNat, Int.reduceAdd, Int.reduceSub, Int.reduceNeg, decide_true, decide_false, Bool.not_true, Bool.not_false, Bool.true_and, Bool.false_and, Bool.and_true, Bool.and_false, Bool.or_true, Bool.true_or, Bool.or_false, Bool.false_or, and_self, and_true, true_and, Nat.le_refl, Nat.zero_add, Nat.mul_one, Nat.one_ne_zero, Nat.zero_le, highP, lowP, Option.map_some, Option.map_none, List.drop_zero, List.take_zero, List.length_cons, List.length_nil, List.nil_append, List.append_nil, List.cons_append, fillP, PV.cells?, PV.one, PV.cleans, PV.clean, PV.of?, List.all_cons, List.all_nil, List.take_succ_cons, List.drop_succ_cons, Bool.and_self, Int.natCast_nonneg, Int.toNat_natCast, Int.toNat_zero, PV.of?, Tk.ren, tailP, evL_loop, or_true, true_or, Nat.zero_lt_one, Nat.sub_zero, List.getElem?_cons_zero, List.getElem?_cons_succ, List.set_cons_zero, List.set_cons_succ, List.take_length, h3, h4, c1, c2, hc]) (by
      have h3 : ¬ (l.length : Int) < l.length := by omega
      simp only [inP, q21_1, evL_op, evL_sel, evL_nx, evL_exit, evL_ret, evL_join, evL_block, evL_cond, evK_some, evJ_nx, evJ_rt, evJ_ex, evB_nx, evB_rt, evB_ex, evC2_bool, evS_and, evS_or, evS_tf, evS_ft, ev_t, ev_s, ev_c, evalOp, bin_add, bin_sub, bin_mul, bin_eql, bin_neq, bin_lss, bin_leq, bin_gtr, bin_geq, sbin_eql, sbin_neq, b8, List.map_cons, List.map_nil, PV.rens, PV.ren, if_true, if_false, Bool.false_eq_true, reduceIte, Nat.reduceAdd, Nat.reduceSub, Nat.reduceMul, Nat.reduceEqDiff, Nat.reduceLeDiff, Int.reduceLE, Int.reduceLT, Int.reduceEq, Int.reduceToNat, Int.reduceAdd, Int.reduceSub, Int.reduceNeg, decide_true, decide_false, Bool.not_true, Bool.not_false, Bool.true_and, Bool.false_and, Bool.and_true, Bool.and_false, Bool.or_true, Bool.true_or, Bool.or_false, Bool.false_or, and_self, and_true, true_and, Nat.le_refl, Nat.zero_add, Nat.mul_one, Nat.one_ne_zero, Nat.zero_le, highP, lowP, Option.map_some, Option.map_none, List.drop_zero, List.take_zero, List.length_cons, List.length_nil, List.nil_append, List.append_nil, List.cons_append, fillP, PV.cells?, PV.one, PV.cleans, PV.clean, PV.of?, List.all_cons, List.all_nil, List.take_succ_cons, List.drop_succ_cons, Bool.and_self, Int.natCast_nonneg, Int.toNat_natCast, Int.toNat_zero, PV.of?, Tk.ren, tailP, evL_loop, or_true, true_or, Nat.zero_lt_one, Nat.sub_zero, List.getElem?_cons_zero, List.getElem?_cons_succ, List.set_cons_zero, List.set_cons_succ, List.take_length, h3])
    have lp' : loopL 0 (evL T (l.length + 1) q21_1) (l.length + 1) [inP l, inP m, .int .i64 0] [] = _ := lp
    have h5 : (l.length : Int) = m.length := by omega
    simp only [inP] at lp'
    simp only [inP, q21, evL_op, evL_sel, evL_nx, evL_exit, evL_ret, evL_join, evL_block, evL_cond, evK_some, evJ_nx, evJ_rt, evJ_ex, evB_nx, evB_rt, evB_ex, evC2_bool, evS_and, evS_or, evS_tf, evS_ft, ev_t, ev_s, ev_c, evalOp, bin_add, bin_sub, bin_mul, bin_eql, bin_neq, bin_lss, bin_leq, bin_gtr, bin_geq, sbin_eql, sbin_neq, b8, List.map_cons, List.map_nil, PV.rens, PV.ren, if_true, if_false, Bool.false_eq_true, reduceIte, Nat.reduceAdd, Nat.reduceSub, Nat.reduceMul, Nat.reduceEqDiff, Nat.reduceLeDiff, Int.reduceLE, Int.reduceLT, Int.reduceEq, Int.reduceToNat, Int.reduceAdd, Int.reduceSub, Int.reduceNeg, decide_true, decide_false, Bool.not_true, Bool.not_false, Bool.true_and, Bool.false_and, Bool.and_true, Bool.and_false, Bool.or_true, Bool.true_or, Bool.or_false, Bool.false_or, and_self, and_true, true_and, Nat.le_refl, Nat.zero_add, Nat.mul_one, Nat.one_ne_zero, Nat.zero_le, highP, lowP, Option.map_some, Option.map_none, List.drop_zero, List.take_zero, List.length_cons, List.length_nil, List.nil_append, List.append_nil, List.cons_append, fillP, PV.cells?, PV.one, PV.cleans, PV.clean, PV.of?, List.all_cons, List.all_nil, List.take_succ_cons, List.drop_succ_cons, Bool.and_self, Int.natCast_nonneg, Int.toNat_natCast, Int.toNat_zero, PV.of?, Tk.ren, tailP, evL_loop, or_true, true_or, Nat.zero_lt_one, Nat.sub_zero, List.getElem?_cons_zero, List.getElem?_cons_succ, List.set_cons_zero, List.set_cons_succ, List.take_length, h5]
    rw [h] at lp' ⊢
    rw [lp']
    by_cases hlm : l = m
    · simp only [hlm, q21_2, evL_op, evL_sel, evL_nx, evL_exit, evL_ret, evL_join, evL_block, evL_cond, evK_some, evJ_nx, evJ_rt, evJ_ex, evB_nx, evB_rt, evB_ex, evC2_bool, evS_and, evS_or, evS_tf, evS_ft, ev_t, ev_s, ev_c, evalOp, bin_add, bin_sub, bin_mul, bin_eql, bin_neq, bin_lss, bin_leq, bin_gtr, bin_geq, sbin_eql, sbin_neq, b8, List.map_cons, List.map_nil, PV.rens, PV.ren, if_true, if_false, Bool.false_eq_true, reduceIte, Nat.reduceAdd, Nat.reduceSub, Nat.reduceMul, Nat.reduceEqDiff, Nat.reduceLeDiff, Int.reduceLE, Int.reduceLT, Int.reduceEq, Int.reduceToNat, Int.reduceAdd, Int.reduceSub, Int.reduceNeg, decide_true, decide_false, Bool.not_true, Bool.not_false, Bool.true_and, Bool.false_and, Bool.and_true, Bool.and_false, Bool.or_true, Bool.true_or, Bool.or_false, Bool.false_or, and_self, and_true, true_and, Nat.le_refl, Nat.zero_add, Nat.mul_one, Nat.one_ne_zero, Nat.zero_le, highP, lowP, Option.map_some, Option.map_none, List.drop_zero, List.take_zero, List.length_cons, List.length_nil, List.nil_append, List.append_nil, List.cons_append, fillP, PV.cells?, PV.one, PV.cleans, PV.clean, PV.of?, List.all_cons, List.all_nil, List.take_succ_cons, List.drop_succ_cons, Bool.and_self, Int.natCast_nonneg, Int.toNat_natCast, Int.toNat_zero, PV.of?, Tk.ren, tailP, evL_loop, or_true, true_or, Nat.zero_lt_one, Nat.sub_zero, List.getElem?_cons_zero, List.getElem?_cons_succ, List.set_cons_zero, List.set_cons_succ, List.take_length]
    · simp only [hlm, q21_2, evL_op, evL_sel, evL_nx, evL_exit, evL_ret, evL_join, evL_block, evL_cond, evK_some, evJ_nx, evJ_rt, evJ_ex, evB_nx, evB_rt, evB_ex, evC2_bool, evS_and, evS_or, evS_tf, evS_ft, ev_t, ev_s, ev_c, evalOp, bin_add, bin_sub, bin_mul, bin_eql, bin_neq, bin_lss, bin_leq, bin_gtr, bin_geq, sbin_eql, sbin_neq, b8, List.map_cons, List.map_nil, PV.rens, PV.ren, if_true, if_false, Bool.false_eq_true, reduceIte, Nat.reduceAdd, Nat.reduceSub, Nat.reduceMul, Nat.reduceEqDiff, Nat.reduceLeDiff, Int.reduceLE, Int.reduceLT, Int.reduceEq, Int.reduceToNat, Int.reduceAdd, Int.reduceSub, Int.reduceNeg, decide_true, decide_false, Bool.not_true, Bool.not_false, Bool.true_and, Bool.false_and, Bool.and_true, Bool.and_false, Bool.or_true, Bool.true_or, Bool.or_false, Bool.false_or, and_self, and_true, true_and, Nat.le_refl, Nat.zero_add, Nat.mul_one, Nat.one_ne_zero, Nat.zero_le, highP, lowP, Option.map_some, Option.map_none, List.drop_zero, List.take_zero, List.length_cons, List.length_nil, List.nil_append, List.append_nil, List.cons_append, fillP, PV.cells?, PV.one, PV.cleans, PV.clean, PV.of?, List.all_cons, List.all_nil, List.take_succ_cons, List.drop_succ_cons, Bool.and_self, Int.natCast_nonneg, Int.toNat_natCast, Int.toNat_zero, PV.of?, Tk.ren, tailP, evL_loop, or_true, true_or, Nat.zero_lt_one, Nat.sub_zero, List.getElem?_cons_zero, List.getElem?_cons_succ, List.set_cons_zero, List.set_cons_succ, List.take_length]
  · have hn : ¬ l = m := fun e => h (by rw [e])
    have h' : ¬ (l.length : Int) = m.length := by omega
    simp only [inP, q21, evL_op, evL_sel, evL_nx, evL_exit, evL_ret, evL_join, evL_block, evL_cond, evK_some, evJ_nx, evJ_rt, evJ_ex, evB_nx, evB_rt, evB_ex, evC2_bool, evS_and, evS_or, evS_tf, evS_ft, ev_t, ev_s, ev_c, evalOp, bin_add, bin_sub, bin_mul, bin_eql, bin_neq, bin_lss, bin_leq, bin_gtr, bin_geq, sbin_eql, sbin_neq, b8, List.map_cons, List.map_nil, PV.rens, PV.ren, if_true, if_false, Bool.false_eq_true, reduceIte, Nat.reduceAdd, Nat.reduceSub, Nat.reduceMul, Nat.reduceEqDiff, Nat.reduceLeDiff, Int.reduceLE, Int.reduceLT, Int.reduceEq, Int.reduceToNat, Int.reduceAdd, Int.reduceSub, Int.reduceNeg, decide_true, decide_false, Bool.not_true, Bool.not_false, Bool.true_and, Bool.false_and, Bool.and_true, Bool.and_false, Bool.or_true, Bool.true_or, Bool.or_false, Bool.false_or, and_self, and_true, true_and, Nat.le_refl, Nat.zero_add, Nat.mul_one, Nat.one_ne_zero, Nat.zero_le, highP, lowP, Option.map_some, Option.map_none, List.drop_zero, List.take_zero, List.length_cons, List.length_nil, List.nil_append, List.append_nil, List.cons_append, fillP, PV.cells?, PV.one, PV.cleans, PV.clean, PV.of?, List.all_cons, List.all_nil, List.take_succ_cons, List.drop_succ_cons, Bool.and_self, Int.natCast_nonneg, Int.toNat_natCast, Int.toNat_zero, PV.of?, Tk.ren, tailP, evL_loop, or_true, true_or, Nat.zero_lt_one, Nat.sub_zero, List.getElem?_cons_zero, List.getElem?_cons_succ, List.set_cons_zero, List.set_cons_succ, List.take_length, h', hn]
theorem T_paths (l m : List Pth) (hs : l.length ≤ 9000000000000000000) : T 32 [psP l, psP m] [] = some (.bool (decide (l = m)), []) := by
  refine evT_of (k := l.length + 1) (F := l32) (H' := []) (e := [.bool (decide (l = m))]) (l := [.bool (decide (l = m))]) rfl rfl rfl ?_ rfl rfl
  show evL T (l.length + 1) q32 _ _ = _
  by_cases h : l.length = m.length
  · have lp := same_loop (body := evL T (l.length + 1) q32_1) (p := psP l) (q := psP m) h rfl rfl (fun i h1 h2 => by
      have h3 : (i : Int) < l.length := by omega
      have h4 : (i : Int) < m.length := by omega
      have c1 := fm_get (mk := pC) (sz := 3) (fun _ => rfl) h1
      have c2 := fm_get (mk := pC) (sz := 3) (fun _ => rfl) h2
      generalize l[i] = a at *
      generalize m[i] = b at *
      have c31 := T31 a.n b.n a.l a.d b.l b.d
      simp only [pathV] at c31
      simp only [pC] at c1 c2
      by_cases hc : a = b
      · have hd : (b.n == b.n && decide (b.l = b.l) && decide (b.d = b.d)) = true := by simp
        subst hc
        rw [hd] at c31
        simp only [psP, q32_1, q32_0, evL_op, evL_sel, evL_nx, evL_exit, evL_ret, evL_join, evL_block, evL_cond, evK_some, evJ_nx, evJ_rt, evJ_ex, evB_nx, evB_rt, evB_ex, evC2_bool, evS_and, evS_or, evS_tf, evS_ft, ev_t, ev_s, ev_c, evalOp, bin_add, bin_sub, bin_mul, bin_eql, bin_neq, bin_lss, bin_leq, bin_gtr, bin_geq, sbin_eql, sbin_neq, b8, List.map_cons, List.map_nil, PV.rens, PV.ren, if_true, if_false, Bool.false_eq_true, reduceIte, Nat.reduceAdd, Nat.reduceSub, Nat.reduceMul, Nat.reduceEqDiff, Nat.reduceLeDiff, Int.reduceLE, Int.reduceLT, Int.reduceEq, Int.reduceToNat, Int.reduceAdd, Int.reduceSub, Int.reduceNeg, decide_true, decide_false, Bool.not_true, Bool.not_false, Bool.true_and, Bool.false_and, Bool.and_true, Bool.and_false, Bool.or_true, Bool.true_or, Bool.or_false, Bool.false_or, and_self, and_true, true_and, Nat.le_refl, Nat.zero_add, Nat.mul_one, Nat.one_ne_zero, Nat.zero_le, highP, lowP, Option.map_some, Option.map_none, List.drop_zero, List.take_zero, List.length_cons, List.length_nil, List.nil_append, List.append_nil, List.cons_append, fillP, PV.cells?, PV.one, PV.cleans, PV.clean, PV.of?, List.all_cons, List.all_nil, List.take_succ_cons, List.drop_succ_cons, Bool.and_self, Int.natCast_nonneg, Int.toNat_natCast, Int.toNat_zero, PV.of?, Tk.ren, tailP, evL_loop, or_true, true_or, Nat.zero_lt_one, Nat.sub_zero, List.getElem?_cons_zero, List.getElem?_cons_succ, List.set_cons_zero, List.set_cons_succ, List.take_length, PV.rens, PV.ren, h3, h4, c1, c2, c31, wr1 (show i < 9223372036854775807 by omega)]
      · have hd : (a.n == b.n && decide (a.l = b.l) && decide (a.d = b.d)) = false := by
          cases a; cases b
          simp only [Pth.mk.injEq] at hc
          rename_i a1 a2 a3 b1 b2 b3
          cases e : (a1 == b1 && decide (a2 = b2) && decide (a3 = b3)) with
          | false => rfl
          | true =>
            simp only [Bool.and_eq_true, decide_eq_true_eq, beq_iff_eq] at e
            exact absurd ⟨e.1.1, e.1.2, e.2⟩ hc
        rw [hd] at c31
        simp only [psP, q32_1, q32_0, evL_op, evL_sel, evL_nx, evL_exit, evL_ret, evL_join, evL_block, evL_cond, evK_some, evJ_nx, evJ_rt, evJ_ex, evB_nx, evB_rt, evB_ex, evC2_bool, evS_and, evS_or, evS_tf, evS_ft, ev_t, ev_s, ev_c, evalOp, bin_add, bin_sub, bin_mul, bin_eql, bin_neq, bin_lss, bin_leq, bin_gtr, bin_geq, sbin_eql, sbin_neq, b8, List.map_cons, List.map_nil, PV.rens, PV.ren, if_true, if_false, Bool.false_eq_true, reduceIte, Nat.reduceAdd, Nat.reduceSub, Nat.reduceMul, Nat.reduceEqDiff, Nat.reduceLeDiff, Int.reduceLE, Int.reduceLT, Int.reduceEq, Int.reduceToNat, Int.reduceAdd, Int.reduceSub, Int.reduceNeg, decide_true, decide_false, Bool.not_true, Bool.not_false, Bool.true_and, Bool.false_and, Bool.and_true, Bool.and_false, Bool.or_true, Bool.true_or, Bool.or_false, Bool.false_or, and_self, and_true, true_and, Nat.le_refl, Nat.zero_add, Nat.mul_one, Nat.one_ne_zero, Nat.zero_le, highP, lowP, Option.map_some, Option.map_none, List.drop_zero, List.take_zero, List.length_cons, List.length_nil, List.nil_append, List.append_nil, List.cons_append, fillP, PV.cells?, PV.one, PV.cleans, PV.clean, PV.of?, List.all_cons, List.all_nil, List.take_succ_cons, List.drop_succ_cons, Bool.and_self, Int.natCast_nonneg, Int.toNat_natCast, Int.toNat_zero, PV.of?, Tk.ren, tailP, evL_loop, or_true, true_or, Nat.zero_lt_one, Nat.sub_zero, List.getElem?_cons_zero, List.getElem?_cons_succ, List.set_cons_zero, List.set_cons_succ, List.take_length, PV.rens, PV.ren, h3, h4, c1, c2, c31, hc]) (by
      have h3 : ¬ (l.length : Int) < l.length := by omega
      simp only [psP, q32_1, evL_op, evL_sel, evL_nx, evL_exit, evL_ret, evL_join, evL_block, evL_cond, evK_some, evJ_nx, evJ_rt, evJ_ex, evB_nx, evB_rt, evB_ex, evC2_bool, evS_and, evS_or, evS_tf, evS_ft, ev_t, ev_s, ev_c, evalOp, bin_add, bin_sub, bin_mul, bin_eql, bin_neq, bin_lss, bin_leq, bin_gtr, bin_geq, sbin_eql, sbin_neq, b8, List.map_cons, List.map_nil, PV.rens, PV.ren, if_true, if_false, Bool.false_eq_true, reduceIte, Nat.reduceAdd, Nat.reduceSub, Nat.reduceMul, Nat.reduceEqDiff, Nat.reduceLeDiff, Int.reduceLE, Int.reduceLT, Int.reduceEq, Int.reduceToNat, Int.reduceAdd, Int.reduceSub, Int.reduceNeg, decide_true, decide_false, Bool.not_true, Bool.not_false, Bool.true_and, Bool.false_and, Bool.and_true, Bool.and_false, Bool.or_true, Bool.true_or, Bool.or_false, Bool.false_or, and_self, and_true, true_and, Nat.le_refl, Nat.zero_add, Nat.mul_one, Nat.one_ne_zero, Nat.zero_le, highP, lowP, Option.map_some, Option.map_none, List.drop_zero, List.take_zero, List.length_cons, List.length_nil, List.nil_append, List.append_nil, List.cons_append, fillP, PV.cells?, PV.one, PV.cleans, PV.clean, PV.of?, List.all_cons, List.all_nil, List.take_succ_cons, List.drop_succ_cons, Bool.and_self, Int.natCast_nonneg, Int.toNat_natCast, Int.toNat_zero, PV.of?, Tk.ren, tailP, evL_loop, or_true, true_or, Nat.zero_lt_one, Nat.sub_zero, List.getElem?_cons_zero, List.getElem?_cons_succ, List.set_cons_zero, List.set_cons_succ, List.take_length, h3])
    have h5 : (l.length : Int) = m.length := by omega
    simp only [psP] at lp
    simp only [psP, q32, evL_op, evL_sel, evL_nx, evL_exit, evL_ret, evL_join, evL_block, evL_cond, evK_some, evJ_nx, evJ_rt, evJ_ex, evB_nx, evB_rt, evB_ex, evC2_bool, evS_and, evS_or, evS_tf, evS_ft, ev_t, ev_s, ev_c, evalOp, bin_add, bin_sub, bin_mul, bin_eql, bin_neq, bin_lss, bin_leq, bin_gtr, bin_geq, sbin_eql, sbin_neq, b8, List.map_cons, List.map_nil, PV.rens, PV.ren, if_true, if_false, Bool.false_eq_true, reduceIte, Nat.reduceAdd, Nat.reduceSub, Nat.reduceMul, Nat.reduceEqDiff, Nat.reduceLeDiff, Int.reduceLE, Int.reduceLT, Int.reduceEq, Int.reduceToNat, Int.reduceAdd, Int.reduceSub, Int.reduceNeg, decide_true, decide_false, Bool.not_true, Bool.not_false, Bool.true_and, Bool.false_and, Bool.and_true, Bool.and_false, Bool.or_true, Bool.true_or, Bool.or_false, Bool.false_or, and_self, and_true, true_and, Nat.le_refl, Nat.zero_add, Nat.mul_one, Nat.one_ne_zero, Nat.zero_le, highP, lowP, Option.map_some, Option.map_none, List.drop_zero, List.take_zero, List.length_cons, List.length_nil, List.nil_append, List.append_nil, List.cons_append, fillP, PV.cells?, PV.one, PV.cleans, PV.clean, PV.of?, List.all_cons, List.all_nil, List.take_succ_cons, List.drop_succ_cons, Bool.and_self, Int.natCast_nonneg, Int.toNat_natCast, Int.toNat_zero, PV.of?, Tk.ren, tailP, evL_loop, or_true, true_or, Nat.zero_lt_one, Nat.sub_zero, List.getElem?_cons_zero, List.getElem?_cons_succ, List.set_cons_zero, List.set_cons_succ, List.take_length, h5]
    rw [h] at lp ⊢
    rw [lp]
    by_cases hlm : l = m
    · simp only [hlm, q32_2, evL_op, evL_sel, evL_nx, evL_exit, evL_ret, evL_join, evL_block, evL_cond, evK_some, evJ_nx, evJ_rt, evJ_ex, evB_nx, evB_rt, evB_ex, evC2_bool, evS_and, evS_or, evS_tf, evS_ft, ev_t, ev_s, ev_c, evalOp, bin_add, bin_sub, bin_mul, bin_eql, bin_neq, bin_lss, bin_leq, bin_gtr, bin_geq, sbin_eql, sbin_neq, b8, List.map_cons, List.map_nil, PV.rens, PV.ren, if_true, if_false, Bool.false_eq_true, reduceIte, Nat.reduceAdd, Nat.reduceSub, Nat.reduceMul, Nat.reduceEqDiff, Nat.reduceLeDiff, Int.reduceLE, Int.reduceLT, Int.reduceEq, Int.reduceToNat, Int.reduceAdd, Int.reduceSub, Int.reduceNeg, decide_true, decide_false, Bool.not_true, Bool.not_false, Bool.true_and, Bool.false_and, Bool.and_true, Bool.and_false, Bool.or_true, Bool.true_or, Bool.or_false, Bool.false_or, and_self, and_true, true_and, Nat.le_refl, Nat.zero_add, Nat.mul_one, Nat.one_ne_zero, Nat.zero_le, highP, lowP, Option.map_some, Option.map_none, List.drop_zero, List.take_zero, List.length_cons, List.length_nil, List.nil_append, List.append_nil, List.cons_append, fillP, PV.cells?, PV.one, PV.cleans, PV.clean, PV.of?, List.all_cons, List.all_nil, List.take_succ_cons, List.drop_succ_cons, Bool.and_self, Int.natCast_nonneg, Int.toNat_natCast, Int.toNat_zero, PV.of?, Tk.ren, tailP, evL_loop, or_true, true_or, Nat.zero_lt_one, Nat.sub_zero, List.getElem?_cons_zero, List.getElem?_cons_succ, List.set_cons_zero, List.set_cons_succ, List.take_length]
    · simp only [hlm, q32_2, evL_op, evL_sel, evL_nx, evL_exit, evL_ret, evL_join, evL_block, evL_cond, evK_some, evJ_nx, evJ_rt, evJ_ex, evB_nx, evB_rt, evB_ex, evC2_bool, evS_and, evS_or, evS_tf, evS_ft, ev_t, ev_s, ev_c, evalOp, bin_add, bin_sub, bin_mul, bin_eql, bin_neq, bin_lss, bin_leq, bin_gtr, bin_geq, sbin_eql, sbin_neq, b8, List.map_cons, List.map_nil, PV.rens, PV.ren, if_true, if_false, Bool.false_eq_true, reduceIte, Nat.reduceAdd, Nat.reduceSub, Nat.reduceMul, Nat.reduceEqDiff, Nat.reduceLeDiff, Int.reduceLE, Int.reduceLT, Int.reduceEq, Int.reduceToNat, Int.reduceAdd, Int.reduceSub, Int.reduceNeg, decide_true, decide_false, Bool.not_true, Bool.not_false, Bool.true_and, Bool.false_and, Bool.and_true, Bool.and_false, Bool.or_true, Bool.true_or, Bool.or_false, Bool.false_or, and_self, and_true, true_and, Nat.le_refl, Nat.zero_add, Nat.mul_one, Nat.one_ne_zero, Nat.zero_le, highP, lowP, Option.map_some, Option.map_none, List.drop_zero, List.take_zero, List.length_cons, List.length_nil, List.nil_append, List.append_nil, List.cons_append, fillP, PV.cells?, PV.one, PV.cleans, PV.clean, PV.of?, List.all_cons, List.all_nil, List.take_succ_cons, List.drop_succ_cons, Bool.and_self, Int.natCast_nonneg, Int.toNat_natCast, Int.toNat_zero, PV.of?, Tk.ren, tailP, evL_loop, or_true, true_or, Nat.zero_lt_one, Nat.sub_zero, List.getElem?_cons_zero, List.getElem?_cons_succ, List.set_cons_zero, List.set_cons_succ, List.take_length]
  · have hn : ¬ l = m := fun e => h (by rw [e])
    have h' : ¬ (l.length : Int) = m.length := by omega
    simp only [psP, q32, evL_op, evL_sel, evL_nx, evL_exit, evL_ret, evL_join, evL_block, evL_cond, evK_some, evJ_nx, evJ_rt, evJ_ex, evB_nx, evB_rt, evB_ex, evC2_bool, evS_and, evS_or, evS_tf, evS_ft, ev_t, ev_s, ev_c, evalOp, bin_add, bin_sub, bin_mul, bin_eql, bin_neq, bin_lss, bin_leq, bin_gtr, bin_geq, sbin_eql, sbin_neq, b8, List.map_cons, List.map_nil, PV.rens, PV.ren, if_true, if_false, Bool.false_eq_true, reduceIte, Nat.reduceAdd, Nat.reduceSub, Nat.reduceMul, Nat.reduceEqDiff, Nat.reduceLeDiff, Int.reduceLE, Int.reduceLT, Int.reduceEq, Int.reduceToNat, Int.reduceAdd, Int.reduceSub, Int.reduceNeg, decide_true, decide_false, Bool.not_true, Bool.not_false, Bool.true_and, Bool.false_and, Bool.and_true, Bool.and_false, Bool.or_true, Bool.true_or, Bool.or_false, Bool.false_or, and_self, and_true, true_and, Nat.le_refl, Nat.zero_add, Nat.mul_one, Nat.one_ne_zero, Nat.zero_le, highP, lowP, Option.map_some, Option.map_none, List.drop_zero, List.take_zero, List.length_cons, List.length_nil, List.nil_append, List.append_nil, List.cons_append, fillP, PV.cells?, PV.one, PV.cleans, PV.clean, PV.of?, List.all_cons, List.all_nil, List.take_succ_cons, List.drop_succ_cons, Bool.and_self, Int.natCast_nonneg, Int.toNat_natCast, Int.toNat_zero, PV.of?, Tk.ren, tailP, evL_loop, or_true, true_or, Nat.zero_lt_one, Nat.sub_zero, List.getElem?_cons_zero, List.getElem?_cons_succ, List.set_cons_zero, List.set_cons_succ, List.take_length, h', hn]
theorem T_mail (a b : Mal) (h1 : a.rcp.length ≤ 9000000000000000000) (h2 : a.bd.length ≤ 9000000000000000000) : T 18 [.agg (mC a), .agg (mC b)] [] = some (.bool (decide (a = b)), []) := by
  have c31 := T31 a.fr.n b.fr.n a.fr.l a.fr.d b.fr.l b.fr.d
  have c32 := T_paths a.rcp b.rcp h1
  have c20 := T_bytes8 a.bd b.bd h2
  have e : decide (a = b) = ((a.fr.n == b.fr.n && decide (a.fr.l = b.fr.l) && decide (a.fr.d = b.fr.d)) && decide (a.rcp = b.rcp) && decide (a.bd = b.bd) && (a.q == b.q) && decide (a.helo = b.helo) && decide (a.tm = b.tm)) := by
    rw [Bool.eq_iff_iff]
    obtain ⟨⟨a1, a2, a3⟩, a4, a5, a6, a7, a8⟩ := a
    obtain ⟨⟨b1, b2, b3⟩, b4, b5, b6, b7, b8⟩ := b
    simp only [decide_eq_true_eq, Mal.mk.injEq, Pth.mk.injEq, Bool.and_eq_true, beq_iff_eq]
    constructor
    · rintro ⟨⟨h1, h2, h3⟩, h4, h5, h6, h7, h8⟩; exact ⟨⟨⟨⟨⟨⟨⟨h1, h2⟩, h3⟩, h4⟩, h5⟩, h6⟩, h7⟩, h8⟩
    · rintro ⟨⟨⟨⟨⟨⟨⟨h1, h2⟩, h3⟩, h4⟩, h5⟩, h6⟩, h7⟩, h8⟩; exact ⟨⟨h1, h2, h3⟩, h4, h5, h6, h7, h8⟩
  rw [e]
  simp only [psP, pathV] at c31 c32
  refine evT_of (k := 0) (F := l18) (H' := []) (e := [.bool _]) (l := [.bool _]) rfl rfl rfl ?_ rfl rfl
  show evL T 0 q18 _ _ = _
  simp only [mC, psP, q18, evL_op, evL_sel, evL_nx, evL_exit, evL_ret, evL_join, evL_block, evL_cond, evK_some, evJ_nx, evJ_rt, evJ_ex, evB_nx, evB_rt, evB_ex, evC2_bool, evS_and, evS_or, evS_tf, evS_ft, ev_t, ev_s, ev_c, evalOp, bin_add, bin_sub, bin_mul, bin_eql, bin_neq, bin_lss, bin_leq, bin_gtr, bin_geq, sbin_eql, sbin_neq, b8, List.map_cons, List.map_nil, PV.rens, PV.ren, if_true, if_false, Bool.false_eq_true, reduceIte, Nat.reduceAdd, Nat.reduceSub, Nat.reduceMul, Nat.reduceEqDiff, Nat.reduceLeDiff, Int.reduceLE, Int.reduceLT, Int.reduceEq, Int.reduceToNat, Int.reduceAdd, Int.reduceSub, Int.reduceNeg, decide_true, decide_false, Bool.not_true, Bool.not_false, Bool.true_and, Bool.false_and, Bool.and_true, Bool.and_false, Bool.or_true, Bool.true_or, Bool.or_false, Bool.false_or, and_self, and_true, true_and, Nat.le_refl, Nat.zero_add, Nat.mul_one, Nat.one_ne_zero, Nat.zero_le, highP, lowP, Option.map_some, Option.map_none, List.drop_zero, List.take_zero, List.length_cons, List.length_nil, List.nil_append, List.append_nil, List.cons_append, fillP, PV.cells?, PV.one, PV.cleans, PV.clean, PV.of?, List.all_cons, List.all_nil, List.take_succ_cons, List.drop_succ_cons, Bool.and_self, Int.natCast_nonneg, Int.toNat_natCast, Int.toNat_zero, PV.of?, Tk.ren, tailP, evL_loop, or_true, true_or, Nat.zero_lt_one, Nat.sub_zero, List.getElem?_cons_zero, List.getElem?_cons_succ, List.set_cons_zero, List.set_cons_succ, List.take_length, PV.rens, PV.ren, PV.cells?, c31, c32, c20, Bool.false_xor, Bool.xor_false]
theorem T_rec (a b : Rc) (h1 : a.mail.rcp.length ≤ 9000000000000000000) (h2 : a.mail.bd.length ≤ 9000000000000000000) (h3 : a.ids.length ≤ 9000000000000000000) (h4 : a.data.length ≤ 9000000000000000000) :
    T 28 [.agg (rC a), .agg (rC b)] [] = some (.bool (decide (a = b)), []) := by
  have c18 := T_mail a.mail b.mail h1 h2
  have c21 := T_ints a.ids b.ids h3
  have c20 := T_bytes8 a.data b.data h4
  have e : decide (a = b) = (decide (a.kind = b.kind) && decide (a.mail = b.mail) && decide (a.id = b.id) && decide (a.ids = b.ids) && decide (a.origin = b.origin) && decide (a.number = b.number) && decide (a.offset = b.offset) && decide (a.data = b.data)) := by
    rw [Bool.eq_iff_iff]
    cases a; cases b
    simp only [decide_eq_true_eq, Rc.mk.injEq, Bool.and_eq_true]
    constructor
    · rintro ⟨h1, h2, h3, h4, h5, h6, h7, h8⟩; exact ⟨⟨⟨⟨⟨⟨⟨h1, h2⟩, h3⟩, h4⟩, h5⟩, h6⟩, h7⟩, h8⟩
    · rintro ⟨⟨⟨⟨⟨⟨⟨h1, h2⟩, h3⟩, h4⟩, h5⟩, h6⟩, h7⟩, h8⟩; exact ⟨h1, h2, h3, h4, h5, h6, h7, h8⟩
  rw [e]
  simp only [mC, psP] at c18
  simp only [inP] at c21
  refine evT_of (k := 0) (F := l28) (H' := []) (e := [.bool _]) (l := [.bool _]) rfl rfl rfl ?_ rfl rfl
  show evL T 0 q28 _ _ = _
  simp only [rC, psP, inP, q28, evL_op, evL_sel, evL_nx, evL_exit, evL_ret, evL_join, evL_block, evL_cond, evK_some, evJ_nx, evJ_rt, evJ_ex, evB_nx, evB_rt, evB_ex, evC2_bool, evS_and, evS_or, evS_tf, evS_ft, ev_t, ev_s, ev_c, evalOp, bin_add, bin_sub, bin_mul, bin_eql, bin_neq, bin_lss, bin_leq, bin_gtr, bin_geq, sbin_eql, sbin_neq, b8, List.map_cons, List.map_nil, PV.rens, PV.ren, if_true, if_false, Bool.false_eq_true, reduceIte, Nat.reduceAdd, Nat.reduceSub, Nat.reduceMul, Nat.reduceEqDiff, Nat.reduceLeDiff, Int.reduceLE, Int.reduceLT, Int.reduceEq, Int.reduceToNat, Int.reduceAdd, Int.reduceSub, Int.reduceNeg, decide_true, decide_false, Bool.not_true, Bool.not_false, Bool.true_and, Bool.false_and, Bool.and_true, Bool.and_false, Bool.or_true, Bool.true_or, Bool.or_false, Bool.false_or, and_self, and_true, true_and, Nat.le_refl, Nat.zero_add, Nat.mul_one, Nat.one_ne_zero, Nat.zero_le, highP, lowP, Option.map_some, Option.map_none, List.drop_zero, List.take_zero, List.length_cons, List.length_nil, List.nil_append, List.append_nil, List.cons_append, fillP, PV.cells?, PV.one, PV.cleans, PV.clean, PV.of?, List.all_cons, List.all_nil, List.take_succ_cons, List.drop_succ_cons, Bool.and_self, Int.natCast_nonneg, Int.toNat_natCast, Int.toNat_zero, PV.of?, Tk.ren, tailP, evL_loop, or_true, true_or, Nat.zero_lt_one, Nat.sub_zero, List.getElem?_cons_zero, List.getElem?_cons_succ, List.set_cons_zero, List.set_cons_succ, List.take_length, PV.rens, PV.ren, PV.cells?, c18, c21, c20]
/-- No record of these is so great that it can't be counted. -/
def Fits (r : Rc) : Prop := r.mail.rcp.length ≤ 1000000 ∧ r.mail.bd.length ≤ 1000000000 ∧ r.ids.length ≤ 1000000 ∧ r.data.length ≤ 1000000000
theorem T_recs (l m : List Rc) (hs : l.length ≤ 9000000000000000000) (hf : ∀ r ∈ l, Fits r) : T 13 [rsP l, rsP m] [] = some (.bool (decide (l = m)), []) := by
  refine evT_of (k := l.length + 1) (F := l13) (H' := []) (e := [.bool (decide (l = m))]) (l := [.bool (decide (l = m))]) rfl rfl rfl ?_ rfl rfl
  show evL T (l.length + 1) q13 _ _ = _
  by_cases h : l.length = m.length
  · have lp := same_loop (body := evL T (l.length + 1) q13_1) (p := rsP l) (q := rsP m) h rfl rfl (fun i h1 h2 => by
      have h3 : (i : Int) < l.length := by omega
      have h4 : (i : Int) < m.length := by omega
      have c1 := fm_get (mk := rC) (sz := 15) (fun _ => rfl) h1
      have c2 := fm_get (mk := rC) (sz := 15) (fun _ => rfl) h2
      obtain ⟨f1, f2, f3, f4⟩ := hf _ (List.getElem_mem h1)
      generalize l[i] = a at *
      generalize m[i] = b at *
      have c28 := T_rec a b (by omega) (by omega) (by omega) (by omega)
      simp only [rC, psP, inP] at c1 c2 c28
      by_cases hc : a = b
      · subst hc
        rw [decide_eq_true rfl] at c28
        simp only [rsP, q13_1, q13_0, evL_op, evL_sel, evL_nx, evL_exit, evL_ret, evL_join, evL_block, evL_cond, evK_some, evJ_nx, evJ_rt, evJ_ex, evB_nx, evB_rt, evB_ex, evC2_bool, evS_and, evS_or, evS_tf, evS_ft, ev_t, ev_s, ev_c, evalOp, bin_add, bin_sub, bin_mul, bin_eql, bin_neq, bin_lss, bin_leq, bin_gtr, bin_geq, sbin_eql, sbin_neq, b8, List.map_cons, List.map_nil, PV.rens, PV.ren, if_true, if_false, Bool.false_eq_true, reduceIte, Nat.reduceAdd, Nat.reduceSub, Nat.reduceMul, Nat.reduceEqDiff, Nat.reduceLeDiff, Int.reduceLE, Int.reduceLT, Int.reduceEq, Int.reduceToNat, Int.reduceAdd, Int.reduceSub, Int.reduceNeg, decide_true, decide_false, Bool.not_true, Bool.not_false, Bool.true_and, Bool.false_and, Bool.and_true, Bool.and_false, Bool.or_true, Bool.true_or, Bool.or_false, Bool.false_or, and_self, and_true, true_and, Nat.le_refl, Nat.zero_add, Nat.mul_one, Nat.one_ne_zero, Nat.zero_le, highP, lowP, Option.map_some, Option.map_none, List.drop_zero, List.take_zero, List.length_cons, List.length_nil, List.nil_append, List.append_nil, List.cons_append, fillP, PV.cells?, PV.one, PV.cleans, PV.clean, PV.of?, List.all_cons, List.all_nil, List.take_succ_cons, List.drop_succ_cons, Bool.and_self, Int.natCast_nonneg, Int.toNat_natCast, Int.toNat_zero, PV.of?, Tk.ren, tailP, evL_loop, or_true, true_or, Nat.zero_lt_one, Nat.sub_zero, List.getElem?_cons_zero, List.getElem?_cons_succ, List.set_cons_zero, List.set_cons_succ, List.take_length, PV.rens, PV.ren, h3, h4, c1, c2, c28, wr1 (show i < 9223372036854775807 by omega)]
      · rw [decide_eq_false hc] at c28
        simp only [rsP, q13_1, q13_0, evL_op, evL_sel, evL_nx, evL_exit, evL_ret, evL_join, evL_block, evL_cond, evK_some, evJ_nx, evJ_rt, evJ_ex, evB_nx, evB_rt, evB_ex, evC2_bool, evS_and, evS_or, evS_tf, evS_ft, ev_t, ev_s, ev_c, evalOp, bin_add, bin_sub, bin_mul, bin_eql, bin_neq, bin_lss, bin_leq, bin_gtr, bin_geq, sbin_eql, sbin_neq, b8, List.map_cons, List.map_nil, PV.rens, PV.ren, if_true, if_false, Bool.false_eq_true, reduceIte, Nat.reduceAdd, Nat.reduceSub, Nat.reduceMul, Nat.reduceEqDiff, Nat.reduceLeDiff, Int.reduceLE, Int.reduceLT, Int.reduceEq, Int.reduceToNat, Int.reduceAdd, Int.reduceSub, Int.reduceNeg, decide_true, decide_false, Bool.not_true, Bool.not_false, Bool.true_and, Bool.false_and, Bool.and_true, Bool.and_false, Bool.or_true, Bool.true_or, Bool.or_false, Bool.false_or, and_self, and_true, true_and, Nat.le_refl, Nat.zero_add, Nat.mul_one, Nat.one_ne_zero, Nat.zero_le, highP, lowP, Option.map_some, Option.map_none, List.drop_zero, List.take_zero, List.length_cons, List.length_nil, List.nil_append, List.append_nil, List.cons_append, fillP, PV.cells?, PV.one, PV.cleans, PV.clean, PV.of?, List.all_cons, List.all_nil, List.take_succ_cons, List.drop_succ_cons, Bool.and_self, Int.natCast_nonneg, Int.toNat_natCast, Int.toNat_zero, PV.of?, Tk.ren, tailP, evL_loop, or_true, true_or, Nat.zero_lt_one, Nat.sub_zero, List.getElem?_cons_zero, List.getElem?_cons_succ, List.set_cons_zero, List.set_cons_succ, List.take_length, PV.rens, PV.ren, h3, h4, c1, c2, c28, hc]) (by
      have h3 : ¬ (l.length : Int) < l.length := by omega
      simp only [rsP, q13_1, evL_op, evL_sel, evL_nx, evL_exit, evL_ret, evL_join, evL_block, evL_cond, evK_some, evJ_nx, evJ_rt, evJ_ex, evB_nx, evB_rt, evB_ex, evC2_bool, evS_and, evS_or, evS_tf, evS_ft, ev_t, ev_s, ev_c, evalOp, bin_add, bin_sub, bin_mul, bin_eql, bin_neq, bin_lss, bin_leq, bin_gtr, bin_geq, sbin_eql, sbin_neq, b8, List.map_cons, List.map_nil, PV.rens, PV.ren, if_true, if_false, Bool.false_eq_true, reduceIte, Nat.reduceAdd, Nat.reduceSub, Nat.reduceMul, Nat.reduceEqDiff, Nat.reduceLeDiff, Int.reduceLE, Int.reduceLT, Int.reduceEq, Int.reduceToNat, Int.reduceAdd, Int.reduceSub, Int.reduceNeg, decide_true, decide_false, Bool.not_true, Bool.not_false, Bool.true_and, Bool.false_and, Bool.and_true, Bool.and_false, Bool.or_true, Bool.true_or, Bool.or_false, Bool.false_or, and_self, and_true, true_and, Nat.le_refl, Nat.zero_add, Nat.mul_one, Nat.one_ne_zero, Nat.zero_le, highP, lowP, Option.map_some, Option.map_none, List.drop_zero, List.take_zero, List.length_cons, List.length_nil, List.nil_append, List.append_nil, List.cons_append, fillP, PV.cells?, PV.one, PV.cleans, PV.clean, PV.of?, List.all_cons, List.all_nil, List.take_succ_cons, List.drop_succ_cons, Bool.and_self, Int.natCast_nonneg, Int.toNat_natCast, Int.toNat_zero, PV.of?, Tk.ren, tailP, evL_loop, or_true, true_or, Nat.zero_lt_one, Nat.sub_zero, List.getElem?_cons_zero, List.getElem?_cons_succ, List.set_cons_zero, List.set_cons_succ, List.take_length, h3])
    have h5 : (l.length : Int) = m.length := by omega
    simp only [rsP] at lp
    simp only [rsP, q13, evL_op, evL_sel, evL_nx, evL_exit, evL_ret, evL_join, evL_block, evL_cond, evK_some, evJ_nx, evJ_rt, evJ_ex, evB_nx, evB_rt, evB_ex, evC2_bool, evS_and, evS_or, evS_tf, evS_ft, ev_t, ev_s, ev_c, evalOp, bin_add, bin_sub, bin_mul, bin_eql, bin_neq, bin_lss, bin_leq, bin_gtr, bin_geq, sbin_eql, sbin_neq, b8, List.map_cons, List.map_nil, PV.rens, PV.ren, if_true, if_false, Bool.false_eq_true, reduceIte, Nat.reduceAdd, Nat.reduceSub, Nat.reduceMul, Nat.reduceEqDiff, Nat.reduceLeDiff, Int.reduceLE, Int.reduceLT, Int.reduceEq, Int.reduceToNat, Int.reduceAdd, Int.reduceSub, Int.reduceNeg, decide_true, decide_false, Bool.not_true, Bool.not_false, Bool.true_and, Bool.false_and, Bool.and_true, Bool.and_false, Bool.or_true, Bool.true_or, Bool.or_false, Bool.false_or, and_self, and_true, true_and, Nat.le_refl, Nat.zero_add, Nat.mul_one, Nat.one_ne_zero, Nat.zero_le, highP, lowP, Option.map_some, Option.map_none, List.drop_zero, List.take_zero, List.length_cons, List.length_nil, List.nil_append, List.append_nil, List.cons_append, fillP, PV.cells?, PV.one, PV.cleans, PV.clean, PV.of?, List.all_cons, List.all_nil, List.take_succ_cons, List.drop_succ_cons, Bool.and_self, Int.natCast_nonneg, Int.toNat_natCast, Int.toNat_zero, PV.of?, Tk.ren, tailP, evL_loop, or_true, true_or, Nat.zero_lt_one, Nat.sub_zero, List.getElem?_cons_zero, List.getElem?_cons_succ, List.set_cons_zero, List.set_cons_succ, List.take_length, h5]
    rw [h] at lp ⊢
    rw [lp]
    by_cases hlm : l = m
    · simp only [hlm, q13_2, evL_op, evL_sel, evL_nx, evL_exit, evL_ret, evL_join, evL_block, evL_cond, evK_some, evJ_nx, evJ_rt, evJ_ex, evB_nx, evB_rt, evB_ex, evC2_bool, evS_and, evS_or, evS_tf, evS_ft, ev_t, ev_s, ev_c, evalOp, bin_add, bin_sub, bin_mul, bin_eql, bin_neq, bin_lss, bin_leq, bin_gtr, bin_geq, sbin_eql, sbin_neq, b8, List.map_cons, List.map_nil, PV.rens, PV.ren, if_true, if_false, Bool.false_eq_true, reduceIte, Nat.reduceAdd, Nat.reduceSub, Nat.reduceMul, Nat.reduceEqDiff, Nat.reduceLeDiff, Int.reduceLE, Int.reduceLT, Int.reduceEq, Int.reduceToNat, Int.reduceAdd, Int.reduceSub, Int.reduceNeg, decide_true, decide_false, Bool.not_true, Bool.not_false, Bool.true_and, Bool.false_and, Bool.and_true, Bool.and_false, Bool.or_true, Bool.true_or, Bool.or_false, Bool.false_or, and_self, and_true, true_and, Nat.le_refl, Nat.zero_add, Nat.mul_one, Nat.one_ne_zero, Nat.zero_le, highP, lowP, Option.map_some, Option.map_none, List.drop_zero, List.take_zero, List.length_cons, List.length_nil, List.nil_append, List.append_nil, List.cons_append, fillP, PV.cells?, PV.one, PV.cleans, PV.clean, PV.of?, List.all_cons, List.all_nil, List.take_succ_cons, List.drop_succ_cons, Bool.and_self, Int.natCast_nonneg, Int.toNat_natCast, Int.toNat_zero, PV.of?, Tk.ren, tailP, evL_loop, or_true, true_or, Nat.zero_lt_one, Nat.sub_zero, List.getElem?_cons_zero, List.getElem?_cons_succ, List.set_cons_zero, List.set_cons_succ, List.take_length]
    · simp only [hlm, q13_2, evL_op, evL_sel, evL_nx, evL_exit, evL_ret, evL_join, evL_block, evL_cond, evK_some, evJ_nx, evJ_rt, evJ_ex, evB_nx, evB_rt, evB_ex, evC2_bool, evS_and, evS_or, evS_tf, evS_ft, ev_t, ev_s, ev_c, evalOp, bin_add, bin_sub, bin_mul, bin_eql, bin_neq, bin_lss, bin_leq, bin_gtr, bin_geq, sbin_eql, sbin_neq, b8, List.map_cons, List.map_nil, PV.rens, PV.ren, if_true, if_false, Bool.false_eq_true, reduceIte, Nat.reduceAdd, Nat.reduceSub, Nat.reduceMul, Nat.reduceEqDiff, Nat.reduceLeDiff, Int.reduceLE, Int.reduceLT, Int.reduceEq, Int.reduceToNat, Int.reduceAdd, Int.reduceSub, Int.reduceNeg, decide_true, decide_false, Bool.not_true, Bool.not_false, Bool.true_and, Bool.false_and, Bool.and_true, Bool.and_false, Bool.or_true, Bool.true_or, Bool.or_false, Bool.false_or, and_self, and_true, true_and, Nat.le_refl, Nat.zero_add, Nat.mul_one, Nat.one_ne_zero, Nat.zero_le, highP, lowP, Option.map_some, Option.map_none, List.drop_zero, List.take_zero, List.length_cons, List.length_nil, List.nil_append, List.append_nil, List.cons_append, fillP, PV.cells?, PV.one, PV.cleans, PV.clean, PV.of?, List.all_cons, List.all_nil, List.take_succ_cons, List.drop_succ_cons, Bool.and_self, Int.natCast_nonneg, Int.toNat_natCast, Int.toNat_zero, PV.of?, Tk.ren, tailP, evL_loop, or_true, true_or, Nat.zero_lt_one, Nat.sub_zero, List.getElem?_cons_zero, List.getElem?_cons_succ, List.set_cons_zero, List.set_cons_succ, List.take_length]
  · have hn : ¬ l = m := fun e => h (by rw [e])
    have h' : ¬ (l.length : Int) = m.length := by omega
    simp only [rsP, q13, evL_op, evL_sel, evL_nx, evL_exit, evL_ret, evL_join, evL_block, evL_cond, evK_some, evJ_nx, evJ_rt, evJ_ex, evB_nx, evB_rt, evB_ex, evC2_bool, evS_and, evS_or, evS_tf, evS_ft, ev_t, ev_s, ev_c, evalOp, bin_add, bin_sub, bin_mul, bin_eql, bin_neq, bin_lss, bin_leq, bin_gtr, bin_geq, sbin_eql, sbin_neq, b8, List.map_cons, List.map_nil, PV.rens, PV.ren, if_true, if_false, Bool.false_eq_true, reduceIte, Nat.reduceAdd, Nat.reduceSub, Nat.reduceMul, Nat.reduceEqDiff, Nat.reduceLeDiff, Int.reduceLE, Int.reduceLT, Int.reduceEq, Int.reduceToNat, Int.reduceAdd, Int.reduceSub, Int.reduceNeg, decide_true, decide_false, Bool.not_true, Bool.not_false, Bool.true_and, Bool.false_and, Bool.and_true, Bool.and_false, Bool.or_true, Bool.true_or, Bool.or_false, Bool.false_or, and_self, and_true, true_and, Nat.le_refl, Nat.zero_add, Nat.mul_one, Nat.one_ne_zero, Nat.zero_le, highP, lowP, Option.map_some, Option.map_none, List.drop_zero, List.take_zero, List.length_cons, List.length_nil, List.nil_append, List.append_nil, List.cons_append, fillP, PV.cells?, PV.one, PV.cleans, PV.clean, PV.of?, List.all_cons, List.all_nil, List.take_succ_cons, List.drop_succ_cons, Bool.and_self, Int.natCast_nonneg, Int.toNat_natCast, Int.toNat_zero, PV.of?, Tk.ren, tailP, evL_loop, or_true, true_or, Nat.zero_lt_one, Nat.sub_zero, List.getElem?_cons_zero, List.getElem?_cons_succ, List.set_cons_zero, List.set_cons_succ, List.take_length, h', hn]
end Go.Proofs.YtnljpfjoboafoaaDoor.Tab

namespace Go.Proofs.YtnljpfjoboafoaaDoor.Tab
set_option linter.all false
open Go Go.RowKit Go.Proofs.YtnljpfjoboafoaaDoor.Ev
/-- A slice that stands for a list, nil or not. -/
def LS (sz n : Nat) (cs : List PV) (p : PV) : Prop := ∃ t z, p = .sl t z n cs ∧ (t = .no ∨ t = .nil ∧ n = 0) ∧ (z = sz ∨ n = 0)
theorem LS.no (sz n : Nat) (cs : List PV) : LS sz n cs (.sl .no sz n cs) := ⟨.no, sz, rfl, .inl rfl, .inl rfl⟩
theorem LS.nil (sz : Nat) : LS sz 0 [] (.sl .nil 0 0 []) := ⟨.nil, 0, rfl, .inr ⟨rfl, rfl⟩, .inr rfl⟩
def RecR (r : Rc) (cs : List PV) : Prop := ∃ a b c d, cs = [.int .i64 r.kind, .bool r.mail.fr.n, .str r.mail.fr.l, .str r.mail.fr.d, a, b, .bool r.mail.q, .str r.mail.helo, .int .i64 r.mail.tm, .int .i64 r.id, c, .int .i64 r.origin, .int .i64 r.number, .int .i64 r.offset, d] ∧
  LS 3 r.mail.rcp.length (r.mail.rcp.flatMap pC) a ∧ LS 1 r.mail.bd.length (r.mail.bd.map b8) b ∧ LS 1 r.ids.length (r.ids.map fun x => .int .i64 x) c ∧ LS 1 r.data.length (r.data.map b8) d
theorem RecR.rC (r : Rc) : RecR r (rC r) := ⟨_, _, _, _, rfl, LS.no _ _ _, LS.no _ _ _, LS.no _ _ _, LS.no _ _ _⟩
theorem pub_flat : ∀ (k : Nat) (cs : List PV), cs.all flat = true → ∀ H : Hp, pubLw (pubV (k + 1)) cs H = some (cs, H)
  | k, [], _, H => rfl
  | k, p :: r, h, H => by
    simp only [List.all_cons, Bool.and_eq_true] at h
    have ih := pub_flat k r h.2 H
    cases p with
    | sl t sz n cs =>
      cases t with
      | no => simp only [pubLw, pubV, ih]
      | nil => exact absurd h.1 (by simp [flat])
      | tok j => exact absurd h.1 (by simp [flat])
    | fn f cs => exact absurd h.1 (by simp [flat])
    | agg cs => exact absurd h.1 (by simp [flat])
    | tup cs => exact absurd h.1 (by simp [flat])
    | row a b c d => exact absurd h.1 (by simp [flat])
    | ptr a b => exact absurd h.1 (by simp [flat])
    | _ => simp only [pubLw, pubV, ih]
theorem ints_flat (l : List Int) : (l.map fun x => PV.int .i64 x).all flat = true := by simp [flat]
theorem ints_one (l : List Int) : (l.map fun x => PV.int .i64 x).all PV.one = true := by simp [PV.one]
theorem ints_cleans : ∀ l : List Int, PV.cleans (l.map fun x => PV.int .i64 x) = some (l.map fun x => PV.int .i64 x)
  | [] => rfl
  | x :: l => by
    have := ints_cleans l
    simp only [List.map_cons, PV.cleans, PV.clean, this]
/-- A row of numbers as slices.Clone leaves it. -/
def rowV (k sz n : Nat) : PV := if n = 0 then .sl (.tok k) sz 0 [] else .row k 0 sz n
def rowO (n : Nat) (cs : List PV) : Ob := if n = 0 then .tok else .cells cs
theorem T_cloneI {l : List Int} {p : PV} (h : LS 1 l.length (l.map fun x => .int .i64 x) p) (hb : l.length ≤ 1000000) : T 43 [p] [] = some (rowV 0 1 l.length, [rowO l.length (l.map fun x => .int .i64 x)]) := by
  obtain ⟨t, z, rfl, ht, hz⟩ := h
  refine evT_ov (φ := ovCl 1 cpI) rfl ?_
  unfold ovCl rowV rowO
  by_cases h0 : l.length = 0
  · simp only [h0, if_true]
  · have hz' : z = 1 := hz.resolve_right h0
    have hl := ints_flat l
    have h1 := ints_one l
    simp only [h0, if_false, hz', if_true, cpI, List.length_map, hl, h1, hb, and_self]
theorem T_cloneP {l : List Pth} {p : PV} (h : LS 3 l.length (l.flatMap pC) p) (hb : l.length ≤ 1000000) : T 41 [p] [] = some (.sl (.tok 0) 3 l.length (l.flatMap pC), [.tok]) := by
  obtain ⟨t, z, rfl, ht, hz⟩ := h
  refine evT_ov (φ := ovCl 3 cpP) rfl ?_
  unfold ovCl
  by_cases h0 : l.length = 0
  · have : l = [] := List.eq_nil_of_length_eq_zero h0
    subst this
    simp only [List.length_nil, if_true, List.flatMap_nil]
  · have hz' : z = 3 := hz.resolve_right h0
    have hl := fm_len (mk := pC) (sz := 3) (fun _ => rfl) l
    simp only [h0, if_false, hz', if_true, cpP, hl, hb, and_self]
theorem T_cloneB {l : List UInt8} {p : PV} (h : LS 1 l.length (l.map b8) p) (hb : l.length ≤ 140737488355328) : T 42 [p] [] = some (.sl (.tok 0) 1 l.length (l.map b8), [.tok]) := by
  obtain ⟨t, z, rfl, ht, hz⟩ := h
  exact T42 l hb t z
/-- diary.Twin: a record in memory of its own. -/
theorem T_twin {r : Rc} {cs : List PV} (h : RecR r cs) (hf : Fits r) : ∃ x H', T 27 [.agg cs] [] = some (x, H') ∧ x.ren (fun _ => none) = .agg (rC r) := by
  obtain ⟨a, b, c, d, rfl, ha, hb, hc, hd⟩ := h
  obtain ⟨f1, f2, f3, f4⟩ := hf
  have c41 := T_cloneP ha f1
  have c42 := T_cloneB hb (by omega)
  have c42' := T_cloneB hd (by omega)
  have c43 := T_cloneI hc f3
  obtain ⟨ta, za, rfl, hta, hza⟩ := ha
  obtain ⟨tb, zb, rfl, htb, hzb⟩ := hb
  obtain ⟨tc, zc, rfl, htc, hzc⟩ := hc
  obtain ⟨td, zd, rfl, htd, hzd⟩ := hd
  have ra : Tk.ren (fun _ => none) ta = ta := by rcases hta with rfl | ⟨rfl, _⟩ <;> rfl
  have rb : Tk.ren (fun _ => none) tb = tb := by rcases htb with rfl | ⟨rfl, _⟩ <;> rfl
  have rc : Tk.ren (fun _ => none) tc = tc := by rcases htc with rfl | ⟨rfl, _⟩ <;> rfl
  have rd : Tk.ren (fun _ => none) td = td := by rcases htd with rfl | ⟨rfl, _⟩ <;> rfl
  simp only [Tk.ren] at ra rb rc rd
  by_cases h0 : r.ids.length = 0
  · have hi : r.ids = [] := List.eq_nil_of_length_eq_zero h0
    rw [h0] at c43
    unfold rowV rowO at c43
    rw [if_pos rfl, if_pos rfl, hi, List.map_nil] at c43
    refine ⟨.agg [.int .i64 r.kind, .bool r.mail.fr.n, .str r.mail.fr.l, .str r.mail.fr.d, psP r.mail.rcp, sl8 r.mail.bd, .bool r.mail.q, .str r.mail.helo, .int .i64 r.mail.tm, .int .i64 r.id, .sl (.tok 0) 1 0 [], .int .i64 r.origin, .int .i64 r.number, .int .i64 r.offset, sl8 r.data], [.tok], evT_of (k := 0) (F := l27) (H' := [.cells [.int .i64 r.kind, .bool r.mail.fr.n, .str r.mail.fr.l, .str r.mail.fr.d, psP r.mail.rcp, sl8 r.mail.bd, .bool r.mail.q, .str r.mail.helo, .int .i64 r.mail.tm, .int .i64 r.id, .sl (.tok 2) 1 0 [], .int .i64 r.origin, .int .i64 r.number, .int .i64 r.offset, sl8 r.data], .cells [.int .i64 r.kind, .bool r.mail.fr.n, .str r.mail.fr.l, .str r.mail.fr.d, psP r.mail.rcp, sl8 r.mail.bd, .bool r.mail.q, .str r.mail.helo, .int .i64 r.mail.tm, .int .i64 r.id, .sl (.tok 2) 1 0 [], .int .i64 r.origin, .int .i64 r.number, .int .i64 r.offset, sl8 r.data], .tok])
      (e := [.ptr 1 0]) (l := [.agg [.int .i64 r.kind, .bool r.mail.fr.n, .str r.mail.fr.l, .str r.mail.fr.d, psP r.mail.rcp, sl8 r.mail.bd, .bool r.mail.q, .str r.mail.helo, .int .i64 r.mail.tm, .int .i64 r.id, .sl (.tok 2) 1 0 [], .int .i64 r.origin, .int .i64 r.number, .int .i64 r.offset, sl8 r.data]]) rfl rfl rfl ?_ rfl rfl, ?_⟩
    · show evL T 0 q27 _ _ = _
      simp only [q27, evL_op, evL_sel, evL_nx, evL_exit, evL_ret, evL_join, evL_block, evL_cond, evK_some, evJ_nx, evJ_rt, evJ_ex, evB_nx, evB_rt, evB_ex, evC2_bool, evS_and, evS_or, evS_tf, evS_ft, ev_t, ev_s, ev_c, evalOp, bin_add, bin_sub, bin_mul, bin_eql, bin_neq, bin_lss, bin_leq, bin_gtr, bin_geq, sbin_eql, sbin_neq, b8, List.map_cons, List.map_nil, PV.rens, PV.ren, if_true, if_false, Bool.false_eq_true, reduceIte, Nat.reduceAdd, Nat.reduceSub, Nat.reduceMul, Nat.reduceEqDiff, Nat.reduceLeDiff, Int.reduceLE, Int.reduceLT, Int.reduceEq, Int.reduceToNat, Int.reduceAdd, Int.reduceSub, Int.reduceNeg, decide_true, decide_false, Bool.not_true, Bool.not_false, Bool.true_and, Bool.false_and, Bool.and_true, Bool.and_false, Bool.or_true, Bool.true_or, Bool.or_false, Bool.false_or, and_self, and_true, true_and, Nat.le_refl, Nat.zero_add, Nat.mul_one, Nat.one_ne_zero, Nat.zero_le, highP, lowP, Option.map_some, Option.map_none, List.drop_zero, List.take_zero, List.length_cons, List.length_nil, List.nil_append, List.append_nil, List.cons_append, fillP, PV.cells?, PV.one, PV.cleans, PV.clean, PV.of?, List.all_cons, List.all_nil, List.take_succ_cons, List.drop_succ_cons, Bool.and_self, Int.natCast_nonneg, Int.toNat_natCast, Int.toNat_zero, PV.of?, Tk.ren, tailP, evL_loop, or_true, true_or, Nat.zero_lt_one, Nat.sub_zero, List.getElem?_cons_zero, List.getElem?_cons_succ, List.set_cons_zero, List.set_cons_succ, List.take_length, PV.rens, PV.ren, PV.cells?, shift, c41, c42, c42', c43, ra, rb, rc, rd, psP, h0, hi]
    · unfold rC inP
      rw [hi]
      rfl
  · unfold rowV rowO at c43
    rw [if_neg h0, if_neg h0] at c43
    have hrn := fun ρ => rens_flat ρ (ints_flat r.ids)
    refine ⟨.agg (rC r), [], evT_of (k := 0) (F := l27) (H' := [.cells [.int .i64 r.kind, .bool r.mail.fr.n, .str r.mail.fr.l, .str r.mail.fr.d, psP r.mail.rcp, sl8 r.mail.bd, .bool r.mail.q, .str r.mail.helo, .int .i64 r.mail.tm, .int .i64 r.id, .row 2 0 1 r.ids.length, .int .i64 r.origin, .int .i64 r.number, .int .i64 r.offset, sl8 r.data], .cells [.int .i64 r.kind, .bool r.mail.fr.n, .str r.mail.fr.l, .str r.mail.fr.d, psP r.mail.rcp, sl8 r.mail.bd, .bool r.mail.q, .str r.mail.helo, .int .i64 r.mail.tm, .int .i64 r.id, .row 2 0 1 r.ids.length, .int .i64 r.origin, .int .i64 r.number, .int .i64 r.offset, sl8 r.data], .cells (r.ids.map fun x => .int .i64 x)])
      (e := [.ptr 1 0]) (l := [.agg [.int .i64 r.kind, .bool r.mail.fr.n, .str r.mail.fr.l, .str r.mail.fr.d, psP r.mail.rcp, sl8 r.mail.bd, .bool r.mail.q, .str r.mail.helo, .int .i64 r.mail.tm, .int .i64 r.id, .row 2 0 1 r.ids.length, .int .i64 r.origin, .int .i64 r.number, .int .i64 r.offset, sl8 r.data]]) rfl rfl rfl ?_ rfl ?_, ?_⟩
    · show evL T 0 q27 _ _ = _
      simp only [q27, evL_op, evL_sel, evL_nx, evL_exit, evL_ret, evL_join, evL_block, evL_cond, evK_some, evJ_nx, evJ_rt, evJ_ex, evB_nx, evB_rt, evB_ex, evC2_bool, evS_and, evS_or, evS_tf, evS_ft, ev_t, ev_s, ev_c, evalOp, bin_add, bin_sub, bin_mul, bin_eql, bin_neq, bin_lss, bin_leq, bin_gtr, bin_geq, sbin_eql, sbin_neq, b8, List.map_cons, List.map_nil, PV.rens, PV.ren, if_true, if_false, Bool.false_eq_true, reduceIte, Nat.reduceAdd, Nat.reduceSub, Nat.reduceMul, Nat.reduceEqDiff, Nat.reduceLeDiff, Int.reduceLE, Int.reduceLT, Int.reduceEq, Int.reduceToNat, Int.reduceAdd, Int.reduceSub, Int.reduceNeg, decide_true, decide_false, Bool.not_true, Bool.not_false, Bool.true_and, Bool.false_and, Bool.and_true, Bool.and_false, Bool.or_true, Bool.true_or, Bool.or_false, Bool.false_or, and_self, and_true, true_and, Nat.le_refl, Nat.zero_add, Nat.mul_one, Nat.one_ne_zero, Nat.zero_le, highP, lowP, Option.map_some, Option.map_none, List.drop_zero, List.take_zero, List.length_cons, List.length_nil, List.nil_append, List.append_nil, List.cons_append, fillP, PV.cells?, PV.one, PV.cleans, PV.clean, PV.of?, List.all_cons, List.all_nil, List.take_succ_cons, List.drop_succ_cons, Bool.and_self, Int.natCast_nonneg, Int.toNat_natCast, Int.toNat_zero, PV.of?, Tk.ren, tailP, evL_loop, or_true, true_or, Nat.zero_lt_one, Nat.sub_zero, List.getElem?_cons_zero, List.getElem?_cons_succ, List.set_cons_zero, List.set_cons_succ, List.take_length, PV.rens, PV.ren, PV.cells?, shift, c41, c42, c42', c43, ra, rb, rc, rd, psP, hrn]
    · show evEnd true 0 (.agg [.int .i64 r.kind, .bool r.mail.fr.n, .str r.mail.fr.l, .str r.mail.fr.d, psP r.mail.rcp, sl8 r.mail.bd, .bool r.mail.q, .str r.mail.helo, .int .i64 r.mail.tm, .int .i64 r.id, .row 2 0 1 r.ids.length, .int .i64 r.origin, .int .i64 r.number, .int .i64 r.offset, sl8 r.data]) _ = _
      have hp := pub_flat 5 (r.ids.map fun x => .int .i64 x) (ints_flat r.ids) [.cells [.int .i64 r.kind, .bool r.mail.fr.n, .str r.mail.fr.l, .str r.mail.fr.d, psP r.mail.rcp, sl8 r.mail.bd, .bool r.mail.q, .str r.mail.helo, .int .i64 r.mail.tm, .int .i64 r.id, .row 2 0 1 r.ids.length, .int .i64 r.origin, .int .i64 r.number, .int .i64 r.offset, sl8 r.data], .cells [.int .i64 r.kind, .bool r.mail.fr.n, .str r.mail.fr.l, .str r.mail.fr.d, psP r.mail.rcp, sl8 r.mail.bd, .bool r.mail.q, .str r.mail.helo, .int .i64 r.mail.tm, .int .i64 r.id, .row 2 0 1 r.ids.length, .int .i64 r.origin, .int .i64 r.number, .int .i64 r.offset, sl8 r.data], .dead]
      have h1 : pubV 8 (.agg [.int .i64 r.kind, .bool r.mail.fr.n, .str r.mail.fr.l, .str r.mail.fr.d, psP r.mail.rcp, sl8 r.mail.bd, .bool r.mail.q, .str r.mail.helo, .int .i64 r.mail.tm, .int .i64 r.id, .row 2 0 1 r.ids.length, .int .i64 r.origin, .int .i64 r.number, .int .i64 r.offset, sl8 r.data]) [.cells [.int .i64 r.kind, .bool r.mail.fr.n, .str r.mail.fr.l, .str r.mail.fr.d, psP r.mail.rcp, sl8 r.mail.bd, .bool r.mail.q, .str r.mail.helo, .int .i64 r.mail.tm, .int .i64 r.id, .row 2 0 1 r.ids.length, .int .i64 r.origin, .int .i64 r.number, .int .i64 r.offset, sl8 r.data], .cells [.int .i64 r.kind, .bool r.mail.fr.n, .str r.mail.fr.l, .str r.mail.fr.d, psP r.mail.rcp, sl8 r.mail.bd, .bool r.mail.q, .str r.mail.helo, .int .i64 r.mail.tm, .int .i64 r.id, .row 2 0 1 r.ids.length, .int .i64 r.origin, .int .i64 r.number, .int .i64 r.offset, sl8 r.data], .cells (r.ids.map fun x => .int .i64 x)] = some (.agg (rC r), [.cells [.int .i64 r.kind, .bool r.mail.fr.n, .str r.mail.fr.l, .str r.mail.fr.d, psP r.mail.rcp, sl8 r.mail.bd, .bool r.mail.q, .str r.mail.helo, .int .i64 r.mail.tm, .int .i64 r.id, .row 2 0 1 r.ids.length, .int .i64 r.origin, .int .i64 r.number, .int .i64 r.offset, sl8 r.data], .cells [.int .i64 r.kind, .bool r.mail.fr.n, .str r.mail.fr.l, .str r.mail.fr.d, psP r.mail.rcp, sl8 r.mail.bd, .bool r.mail.q, .str r.mail.helo, .int .i64 r.mail.tm, .int .i64 r.id, .row 2 0 1 r.ids.length, .int .i64 r.origin, .int .i64 r.number, .int .i64 r.offset, sl8 r.data], .dead]) := by
        unfold psP at hp
        simp only [pubV, pubLw, psP, List.getElem?_cons_zero, List.getElem?_cons_succ, List.set_cons_zero, List.set_cons_succ, hp, ints_cleans, ints_one, List.length_map, Nat.mul_one, Nat.zero_add, Nat.le_refl, and_self, if_true, List.drop_zero, List.take_of_length_le (show (r.ids.map fun x => PV.int .i64 x).length ≤ r.ids.length by simp)]
        rfl
      simp only [evEnd, h1]
      rfl
    · rfl
end Go.Proofs.YtnljpfjoboafoaaDoor.Tab

namespace Go.Proofs.YtnljpfjoboafoaaDoor.Tab
set_option linter.all false
open Go Go.RowKit Go.Proofs.YtnljpfjoboafoaaDoor.Ev
def noP : Pth := ⟨false, [], []⟩
def noM : Mal := ⟨noP, [], [], false, [], 0⟩
def MalR (m : Mal) (cs : List PV) : Prop := ∃ a b, cs = [.bool m.fr.n, .str m.fr.l, .str m.fr.d, a, b, .bool m.q, .str m.helo, .int .i64 m.tm] ∧ LS 3 m.rcp.length (m.rcp.flatMap pC) a ∧ LS 1 m.bd.length (m.bd.map b8) b
theorem aggEq_no (p : Pth) : aggEq [.bool p.n, .str p.l, .str p.d] [.bool false, .str [], .str []] = some (decide (p = noP)) := by
  obtain ⟨n, l, d⟩ := p
  cases n with
  | true => rfl
  | false =>
    cases l with
    | cons x l => rfl
    | nil => cases d <;> rfl
theorem LS.clean {sz n : Nat} {cs : List PV} {p : PV} (h : LS sz n cs p) : p.clean = some p ∧ p.one = true ∧ p.ren (fun _ => none) = p := by
  obtain ⟨t, z, rfl, ht, _⟩ := h
  rcases ht with rfl | ⟨rfl, _⟩ <;> exact ⟨rfl, rfl, rfl⟩
theorem bx {c : Ev.Cl} {env : List PV} {H : Hp} {x : X} {cs : List PV} (hx : x.ev env = .agg cs) (h : PV.cleans cs = some cs) (h1 : cs.all PV.one = true) : evalOp c env H (.boxc x) = some (.ep cs 0, H) := by
  simp only [evalOp, hx, PV.cells?, h1, if_true, h]
theorem MalR.box {m : Mal} {cs : List PV} (h : MalR m cs) : PV.cleans cs = some cs ∧ cs.all PV.one = true ∧ PV.rens (fun _ => none) cs = cs := by
  obtain ⟨a, b, rfl, ⟨ta, za, rfl, ha, _⟩, ⟨tb, zb, rfl, hb, _⟩⟩ := h
  rcases ha with rfl | ⟨rfl, _⟩ <;> rcases hb with rfl | ⟨rfl, _⟩ <;> exact ⟨rfl, rfl, rfl⟩
theorem RecR.box {r : Rc} {cs : List PV} (h : RecR r cs) : PV.cleans cs = some cs ∧ cs.all PV.one = true ∧ PV.rens (fun _ => none) cs = cs := by
  obtain ⟨a, b, c, d, rfl, ⟨ta, za, rfl, ha, _⟩, ⟨tb, zb, rfl, hb, _⟩, ⟨tc, zc, rfl, hc, _⟩, ⟨td, zd, rfl, hd, _⟩⟩ := h
  rcases ha with rfl | ⟨rfl, _⟩ <;> rcases hb with rfl | ⟨rfl, _⟩ <;> rcases hc with rfl | ⟨rfl, _⟩ <;> rcases hd with rfl | ⟨rfl, _⟩ <;> exact ⟨rfl, rfl, rfl⟩
theorem T_bare {m : Mal} {cs : List PV} (h : MalR m cs) (h1 : m.rcp.length ≤ 1000000) (h2 : m.bd.length ≤ 1000000000) : T 47 [.agg cs] [] = some (.bool (decide (m = noM)), []) := by
  obtain ⟨x1, x2, _⟩ := h.box
  obtain ⟨a, b, rfl, ha, hb⟩ := h
  obtain ⟨ta, za, rfl, hta, hza⟩ := ha
  obtain ⟨tb, zb, rfl, htb, hzb⟩ := hb
  have hw : IntKind.i64.wrap ((m.rcp.length : Int) + m.bd.length) = ((m.rcp.length + m.bd.length : Nat) : Int) := by rw [wr (by omega) (by omega)]; omega
  have e : decide (m = noM) = (decide (m.fr = noP) && decide (((m.rcp.length + m.bd.length : Nat) : Int) = 0) && !m.q && decide (m.helo = []) && decide (m.tm = 0)) := by
    rw [Bool.eq_iff_iff]
    obtain ⟨a, b, c, d, e, f⟩ := m
    simp only [noM, decide_eq_true_eq, Mal.mk.injEq, Bool.and_eq_true, Bool.not_eq_true']
    constructor
    · rintro ⟨rfl, rfl, rfl, rfl, rfl, rfl⟩; exact ⟨⟨⟨⟨rfl, rfl⟩, rfl⟩, rfl⟩, rfl⟩
    · rintro ⟨⟨⟨⟨h1, h2⟩, h3⟩, h4⟩, h5⟩
      have h6 : b.length = 0 ∧ c.length = 0 := by omega
      exact ⟨h1, List.eq_nil_of_length_eq_zero h6.1, List.eq_nil_of_length_eq_zero h6.2, h3, h4, h5⟩
  rw [e]
  have hq := aggEq_no m.fr
  refine evT_of (k := 0) (F := l47) (H' := []) (e := [.bool _]) (l := [.bool _]) rfl rfl rfl ?_ rfl rfl
  show evL T 0 q47 _ _ = _
  unfold q47
  rw [evL_op, bx (ev_t _) x1 x2, evK_some]
  simp only [evL_op, evL_sel, evL_nx, evL_exit, evL_ret, evL_join, evL_block, evL_cond, evK_some, evJ_nx, evJ_rt, evJ_ex, evB_nx, evB_rt, evB_ex, evC2_bool, evS_and, evS_or, evS_tf, evS_ft, ev_t, ev_s, ev_c, evalOp, bin_add, bin_sub, bin_mul, bin_eql, bin_neq, bin_lss, bin_leq, bin_gtr, bin_geq, sbin_eql, sbin_neq, b8, List.map_cons, List.map_nil, PV.rens, PV.ren, if_true, if_false, Bool.false_eq_true, reduceIte, Nat.reduceAdd, Nat.reduceSub, Nat.reduceMul, Nat.reduceEqDiff, Nat.reduceLeDiff, Int.reduceLE, Int.reduceLT, Int.reduceEq, Int.reduceToNat, Int.reduceAdd, Int.reduceSub, Int.reduceNeg, decide_true, decide_false, Bool.not_true, Bool.not_false, Bool.true_and, Bool.false_and, Bool.and_true, Bool.and_false, Bool.or_true, Bool.true_or, Bool.or_false, Bool.false_or, and_self, and_true, true_and, Nat.le_refl, Nat.zero_add, Nat.mul_one, Nat.one_ne_zero, Nat.zero_le, highP, lowP, Option.map_some, Option.map_none, List.drop_zero, List.take_zero, List.length_cons, List.length_nil, List.nil_append, List.append_nil, List.cons_append, fillP, PV.cells?, PV.one, PV.cleans, PV.clean, PV.of?, List.all_cons, List.all_nil, List.take_succ_cons, List.drop_succ_cons, Bool.and_self, Int.natCast_nonneg, Int.toNat_natCast, Int.toNat_zero, PV.of?, Tk.ren, tailP, evL_loop, or_true, true_or, Nat.zero_lt_one, Nat.sub_zero, List.getElem?_cons_zero, List.getElem?_cons_succ, List.set_cons_zero, List.set_cons_succ, List.take_length, kindP, hq, hw, Bool.false_xor]
def plainR (r : Rc) : Bool :=
  if r.kind = 1 then decide ((r.ids.length : Int) = 0) && decide (r.number = 0) && (decide (r.offset = 0) && decide ((r.data.length : Int) = 0))
  else if r.kind = 2 then decide (r.mail = noM) && decide (r.id = 0) && decide (r.origin = 0) && (decide (r.offset = 0) && decide ((r.data.length : Int) = 0))
  else if r.kind = 3 ∨ r.kind = 6 then decide (r.mail = noM) && decide (r.id = 0) && decide ((r.ids.length : Int) = 0) && decide (r.origin = 0) && (decide (r.offset = 0) && decide ((r.data.length : Int) = 0))
  else if r.kind = 4 then decide (r.mail = noM) && decide ((r.ids.length : Int) = 0) && decide (r.origin = 0) && decide (r.number = 0) && (decide (r.offset = 0) && decide ((r.data.length : Int) = 0))
  else if r.kind = 5 then decide (r.mail = noM) && decide (r.id = 0) && decide ((r.ids.length : Int) = 0) && decide (r.origin = 0)
  else false
theorem T_plain {r : Rc} {cs : List PV} (h : RecR r cs) (hf : Fits r) : T 33 [.agg cs] [] = some (.bool (plainR r), []) := by
  obtain ⟨x1, x2, _⟩ := h.box
  obtain ⟨a, b, c, d, rfl, ha, hb, hc, hd⟩ := h
  obtain ⟨f1, f2, f3, f4⟩ := hf
  have hm : MalR r.mail _ := ⟨a, b, rfl, ha, hb⟩
  have c47 := T_bare hm f1 f2
  have x3 := hm.box.2.2
  obtain ⟨tc, zc, rfl, htc, hzc⟩ := hc
  obtain ⟨td, zd, rfl, htd, hzd⟩ := hd
  refine evT_of (k := 0) (F := l33) (H' := []) (e := [.bool (plainR r)]) (l := [.bool (plainR r)]) rfl rfl rfl ?_ rfl rfl
  show evL T 0 q33 _ _ = _
  unfold q33
  rw [evL_op, bx (ev_t _) x1 x2, evK_some]
  simp only [PV.rens, PV.ren, List.cons.injEq, and_true, true_and] at x3
  unfold plainR
  generalize decide (r.mail = noM) = M at *
  have o3 : ∀ k : Int, r.kind = k → ∀ j : Int, k ≠ j → ¬ r.kind = j := fun k h j hj => by omega
  by_cases k1 : r.kind = 1
  · simp only [evL_op, evL_sel, evL_nx, evL_exit, evL_ret, evL_join, evL_block, evL_cond, evK_some, evJ_nx, evJ_rt, evJ_ex, evB_nx, evB_rt, evB_ex, evC2_bool, evS_and, evS_or, evS_tf, evS_ft, ev_t, ev_s, ev_c, evalOp, bin_add, bin_sub, bin_mul, bin_eql, bin_neq, bin_lss, bin_leq, bin_gtr, bin_geq, sbin_eql, sbin_neq, b8, List.map_cons, List.map_nil, PV.rens, PV.ren, if_true, if_false, Bool.false_eq_true, reduceIte, Nat.reduceAdd, Nat.reduceSub, Nat.reduceMul, Nat.reduceEqDiff, Nat.reduceLeDiff, Int.reduceLE, Int.reduceLT, Int.reduceEq, Int.reduceToNat, Int.reduceAdd, Int.reduceSub, Int.reduceNeg, decide_true, decide_false, Bool.not_true, Bool.not_false, Bool.true_and, Bool.false_and, Bool.and_true, Bool.and_false, Bool.or_true, Bool.true_or, Bool.or_false, Bool.false_or, and_self, and_true, true_and, Nat.le_refl, Nat.zero_add, Nat.mul_one, Nat.one_ne_zero, Nat.zero_le, highP, lowP, Option.map_some, Option.map_none, List.drop_zero, List.take_zero, List.length_cons, List.length_nil, List.nil_append, List.append_nil, List.cons_append, fillP, PV.cells?, PV.one, PV.cleans, PV.clean, PV.of?, List.all_cons, List.all_nil, List.take_succ_cons, List.drop_succ_cons, Bool.and_self, Int.natCast_nonneg, Int.toNat_natCast, Int.toNat_zero, PV.of?, Tk.ren, tailP, evL_loop, or_true, true_or, Nat.zero_lt_one, Nat.sub_zero, List.getElem?_cons_zero, List.getElem?_cons_succ, List.set_cons_zero, List.set_cons_succ, List.take_length, PV.rens, PV.ren, x3, c47, k1]
  · by_cases k2 : r.kind = 2
    · simp only [evL_op, evL_sel, evL_nx, evL_exit, evL_ret, evL_join, evL_block, evL_cond, evK_some, evJ_nx, evJ_rt, evJ_ex, evB_nx, evB_rt, evB_ex, evC2_bool, evS_and, evS_or, evS_tf, evS_ft, ev_t, ev_s, ev_c, evalOp, bin_add, bin_sub, bin_mul, bin_eql, bin_neq, bin_lss, bin_leq, bin_gtr, bin_geq, sbin_eql, sbin_neq, b8, List.map_cons, List.map_nil, PV.rens, PV.ren, if_true, if_false, Bool.false_eq_true, reduceIte, Nat.reduceAdd, Nat.reduceSub, Nat.reduceMul, Nat.reduceEqDiff, Nat.reduceLeDiff, Int.reduceLE, Int.reduceLT, Int.reduceEq, Int.reduceToNat, Int.reduceAdd, Int.reduceSub, Int.reduceNeg, decide_true, decide_false, Bool.not_true, Bool.not_false, Bool.true_and, Bool.false_and, Bool.and_true, Bool.and_false, Bool.or_true, Bool.true_or, Bool.or_false, Bool.false_or, and_self, and_true, true_and, Nat.le_refl, Nat.zero_add, Nat.mul_one, Nat.one_ne_zero, Nat.zero_le, highP, lowP, Option.map_some, Option.map_none, List.drop_zero, List.take_zero, List.length_cons, List.length_nil, List.nil_append, List.append_nil, List.cons_append, fillP, PV.cells?, PV.one, PV.cleans, PV.clean, PV.of?, List.all_cons, List.all_nil, List.take_succ_cons, List.drop_succ_cons, Bool.and_self, Int.natCast_nonneg, Int.toNat_natCast, Int.toNat_zero, PV.of?, Tk.ren, tailP, evL_loop, or_true, true_or, Nat.zero_lt_one, Nat.sub_zero, List.getElem?_cons_zero, List.getElem?_cons_succ, List.set_cons_zero, List.set_cons_succ, List.take_length, PV.rens, PV.ren, x3, c47, k2]
    · by_cases k3 : r.kind = 3
      · simp only [q33_0, evL_op, evL_sel, evL_nx, evL_exit, evL_ret, evL_join, evL_block, evL_cond, evK_some, evJ_nx, evJ_rt, evJ_ex, evB_nx, evB_rt, evB_ex, evC2_bool, evS_and, evS_or, evS_tf, evS_ft, ev_t, ev_s, ev_c, evalOp, bin_add, bin_sub, bin_mul, bin_eql, bin_neq, bin_lss, bin_leq, bin_gtr, bin_geq, sbin_eql, sbin_neq, b8, List.map_cons, List.map_nil, PV.rens, PV.ren, if_true, if_false, Bool.false_eq_true, reduceIte, Nat.reduceAdd, Nat.reduceSub, Nat.reduceMul, Nat.reduceEqDiff, Nat.reduceLeDiff, Int.reduceLE, Int.reduceLT, Int.reduceEq, Int.reduceToNat, Int.reduceAdd, Int.reduceSub, Int.reduceNeg, decide_true, decide_false, Bool.not_true, Bool.not_false, Bool.true_and, Bool.false_and, Bool.and_true, Bool.and_false, Bool.or_true, Bool.true_or, Bool.or_false, Bool.false_or, and_self, and_true, true_and, Nat.le_refl, Nat.zero_add, Nat.mul_one, Nat.one_ne_zero, Nat.zero_le, highP, lowP, Option.map_some, Option.map_none, List.drop_zero, List.take_zero, List.length_cons, List.length_nil, List.nil_append, List.append_nil, List.cons_append, fillP, PV.cells?, PV.one, PV.cleans, PV.clean, PV.of?, List.all_cons, List.all_nil, List.take_succ_cons, List.drop_succ_cons, Bool.and_self, Int.natCast_nonneg, Int.toNat_natCast, Int.toNat_zero, PV.of?, Tk.ren, tailP, evL_loop, or_true, true_or, Nat.zero_lt_one, Nat.sub_zero, List.getElem?_cons_zero, List.getElem?_cons_succ, List.set_cons_zero, List.set_cons_succ, List.take_length, PV.rens, PV.ren, x3, c47, k3]
      · by_cases k6 : r.kind = 6
        · simp only [q33_0, evL_op, evL_sel, evL_nx, evL_exit, evL_ret, evL_join, evL_block, evL_cond, evK_some, evJ_nx, evJ_rt, evJ_ex, evB_nx, evB_rt, evB_ex, evC2_bool, evS_and, evS_or, evS_tf, evS_ft, ev_t, ev_s, ev_c, evalOp, bin_add, bin_sub, bin_mul, bin_eql, bin_neq, bin_lss, bin_leq, bin_gtr, bin_geq, sbin_eql, sbin_neq, b8, List.map_cons, List.map_nil, PV.rens, PV.ren, if_true, if_false, Bool.false_eq_true, reduceIte, Nat.reduceAdd, Nat.reduceSub, Nat.reduceMul, Nat.reduceEqDiff, Nat.reduceLeDiff, Int.reduceLE, Int.reduceLT, Int.reduceEq, Int.reduceToNat, Int.reduceAdd, Int.reduceSub, Int.reduceNeg, decide_true, decide_false, Bool.not_true, Bool.not_false, Bool.true_and, Bool.false_and, Bool.and_true, Bool.and_false, Bool.or_true, Bool.true_or, Bool.or_false, Bool.false_or, and_self, and_true, true_and, Nat.le_refl, Nat.zero_add, Nat.mul_one, Nat.one_ne_zero, Nat.zero_le, highP, lowP, Option.map_some, Option.map_none, List.drop_zero, List.take_zero, List.length_cons, List.length_nil, List.nil_append, List.append_nil, List.cons_append, fillP, PV.cells?, PV.one, PV.cleans, PV.clean, PV.of?, List.all_cons, List.all_nil, List.take_succ_cons, List.drop_succ_cons, Bool.and_self, Int.natCast_nonneg, Int.toNat_natCast, Int.toNat_zero, PV.of?, Tk.ren, tailP, evL_loop, or_true, true_or, Nat.zero_lt_one, Nat.sub_zero, List.getElem?_cons_zero, List.getElem?_cons_succ, List.set_cons_zero, List.set_cons_succ, List.take_length, PV.rens, PV.ren, x3, c47, k6]
        · by_cases k4 : r.kind = 4
          · simp only [q33_0, evL_op, evL_sel, evL_nx, evL_exit, evL_ret, evL_join, evL_block, evL_cond, evK_some, evJ_nx, evJ_rt, evJ_ex, evB_nx, evB_rt, evB_ex, evC2_bool, evS_and, evS_or, evS_tf, evS_ft, ev_t, ev_s, ev_c, evalOp, bin_add, bin_sub, bin_mul, bin_eql, bin_neq, bin_lss, bin_leq, bin_gtr, bin_geq, sbin_eql, sbin_neq, b8, List.map_cons, List.map_nil, PV.rens, PV.ren, if_true, if_false, Bool.false_eq_true, reduceIte, Nat.reduceAdd, Nat.reduceSub, Nat.reduceMul, Nat.reduceEqDiff, Nat.reduceLeDiff, Int.reduceLE, Int.reduceLT, Int.reduceEq, Int.reduceToNat, Int.reduceAdd, Int.reduceSub, Int.reduceNeg, decide_true, decide_false, Bool.not_true, Bool.not_false, Bool.true_and, Bool.false_and, Bool.and_true, Bool.and_false, Bool.or_true, Bool.true_or, Bool.or_false, Bool.false_or, and_self, and_true, true_and, Nat.le_refl, Nat.zero_add, Nat.mul_one, Nat.one_ne_zero, Nat.zero_le, highP, lowP, Option.map_some, Option.map_none, List.drop_zero, List.take_zero, List.length_cons, List.length_nil, List.nil_append, List.append_nil, List.cons_append, fillP, PV.cells?, PV.one, PV.cleans, PV.clean, PV.of?, List.all_cons, List.all_nil, List.take_succ_cons, List.drop_succ_cons, Bool.and_self, Int.natCast_nonneg, Int.toNat_natCast, Int.toNat_zero, PV.of?, Tk.ren, tailP, evL_loop, or_true, true_or, Nat.zero_lt_one, Nat.sub_zero, List.getElem?_cons_zero, List.getElem?_cons_succ, List.set_cons_zero, List.set_cons_succ, List.take_length, PV.rens, PV.ren, x3, c47, k4, or_self]
          · by_cases k5 : r.kind = 5
            · simp only [q33_0, evL_op, evL_sel, evL_nx, evL_exit, evL_ret, evL_join, evL_block, evL_cond, evK_some, evJ_nx, evJ_rt, evJ_ex, evB_nx, evB_rt, evB_ex, evC2_bool, evS_and, evS_or, evS_tf, evS_ft, ev_t, ev_s, ev_c, evalOp, bin_add, bin_sub, bin_mul, bin_eql, bin_neq, bin_lss, bin_leq, bin_gtr, bin_geq, sbin_eql, sbin_neq, b8, List.map_cons, List.map_nil, PV.rens, PV.ren, if_true, if_false, Bool.false_eq_true, reduceIte, Nat.reduceAdd, Nat.reduceSub, Nat.reduceMul, Nat.reduceEqDiff, Nat.reduceLeDiff, Int.reduceLE, Int.reduceLT, Int.reduceEq, Int.reduceToNat, Int.reduceAdd, Int.reduceSub, Int.reduceNeg, decide_true, decide_false, Bool.not_true, Bool.not_false, Bool.true_and, Bool.false_and, Bool.and_true, Bool.and_false, Bool.or_true, Bool.true_or, Bool.or_false, Bool.false_or, and_self, and_true, true_and, Nat.le_refl, Nat.zero_add, Nat.mul_one, Nat.one_ne_zero, Nat.zero_le, highP, lowP, Option.map_some, Option.map_none, List.drop_zero, List.take_zero, List.length_cons, List.length_nil, List.nil_append, List.append_nil, List.cons_append, fillP, PV.cells?, PV.one, PV.cleans, PV.clean, PV.of?, List.all_cons, List.all_nil, List.take_succ_cons, List.drop_succ_cons, Bool.and_self, Int.natCast_nonneg, Int.toNat_natCast, Int.toNat_zero, PV.of?, Tk.ren, tailP, evL_loop, or_true, true_or, Nat.zero_lt_one, Nat.sub_zero, List.getElem?_cons_zero, List.getElem?_cons_succ, List.set_cons_zero, List.set_cons_succ, List.take_length, PV.rens, PV.ren, x3, c47, k5, or_self]
            · simp only [q33_0, q33_1, evL_op, evL_sel, evL_nx, evL_exit, evL_ret, evL_join, evL_block, evL_cond, evK_some, evJ_nx, evJ_rt, evJ_ex, evB_nx, evB_rt, evB_ex, evC2_bool, evS_and, evS_or, evS_tf, evS_ft, ev_t, ev_s, ev_c, evalOp, bin_add, bin_sub, bin_mul, bin_eql, bin_neq, bin_lss, bin_leq, bin_gtr, bin_geq, sbin_eql, sbin_neq, b8, List.map_cons, List.map_nil, PV.rens, PV.ren, if_true, if_false, Bool.false_eq_true, reduceIte, Nat.reduceAdd, Nat.reduceSub, Nat.reduceMul, Nat.reduceEqDiff, Nat.reduceLeDiff, Int.reduceLE, Int.reduceLT, Int.reduceEq, Int.reduceToNat, Int.reduceAdd, Int.reduceSub, Int.reduceNeg, decide_true, decide_false, Bool.not_true, Bool.not_false, Bool.true_and, Bool.false_and, Bool.and_true, Bool.and_false, Bool.or_true, Bool.true_or, Bool.or_false, Bool.false_or, and_self, and_true, true_and, Nat.le_refl, Nat.zero_add, Nat.mul_one, Nat.one_ne_zero, Nat.zero_le, highP, lowP, Option.map_some, Option.map_none, List.drop_zero, List.take_zero, List.length_cons, List.length_nil, List.nil_append, List.append_nil, List.cons_append, fillP, PV.cells?, PV.one, PV.cleans, PV.clean, PV.of?, List.all_cons, List.all_nil, List.take_succ_cons, List.drop_succ_cons, Bool.and_self, Int.natCast_nonneg, Int.toNat_natCast, Int.toNat_zero, PV.of?, Tk.ren, tailP, evL_loop, or_true, true_or, Nat.zero_lt_one, Nat.sub_zero, List.getElem?_cons_zero, List.getElem?_cons_succ, List.set_cons_zero, List.set_cons_succ, List.take_length, PV.rens, PV.ren, x3, c47, k1, k2, k3, k4, k5, k6, or_self]
/-! ### Is a number among others? -/
def ixGo (x : Int) : List Int → Nat → Int
  | [], _ => -1
  | y :: r, i => if x = y then i else ixGo x r (i + 1)
theorem ixGo_cons (x y : Int) (r : List Int) (i : Nat) : ixGo x (y :: r) i = if x = y then (i : Int) else ixGo x r (i + 1) := rfl
theorem ixGo_mem (x : Int) : ∀ (l : List Int) (i : Nat), decide ((0 : Int) ≤ ixGo x l i) = decide (x ∈ l)
  | [], i => by simp [ixGo]
  | y :: r, i => by
    unfold ixGo
    by_cases h : x = y
    · subst h; simp
    · rw [if_neg h, ixGo_mem x r (i + 1)]
      simp [h]
theorem T_index (l : List Int) (x : Int) (hs : l.length ≤ 9000000000000000000) : T 40 [inP l, .int .i64 x] [] = some (.int .i64 (ixGo x l 0), []) := by
  have lp := loop_law (n := 0) (body := evL T (l.length + 1) q40_1) (σ := Nat) (fun i => [inP l, .int .i64 x, .int .i64 l.length, .int .i64 i]) (fun _ => []) (fun i => l.length - i) (fun i => i ≤ l.length)
    (fun i => if ixGo x (l.drop i) i = -1 then (.ex 0, [], []) else (.rt, [.int .i64 (ixGo x (l.drop i) i)], [])) (by
    intro i hi
    rcases Nat.lt_or_ge i l.length with h1 | h1
    · have h3 : (i : Int) < l.length := by omega
      have c1 := map_get (f := fun x => PV.int .i64 x) h1
      rw [List.drop_eq_getElem_cons h1, ixGo_cons]
      by_cases hc : x = l[i]
      · refine .inl ⟨?_, ?_⟩
        · rw [if_pos hc, if_neg (by omega)]
          simp only [inP, q40_1, evL_op, evL_sel, evL_nx, evL_exit, evL_ret, evL_join, evL_block, evL_cond, evK_some, evJ_nx, evJ_rt, evJ_ex, evB_nx, evB_rt, evB_ex, evC2_bool, evS_and, evS_or, evS_tf, evS_ft, ev_t, ev_s, ev_c, evalOp, bin_add, bin_sub, bin_mul, bin_eql, bin_neq, bin_lss, bin_leq, bin_gtr, bin_geq, sbin_eql, sbin_neq, b8, List.map_cons, List.map_nil, PV.rens, PV.ren, if_true, if_false, Bool.false_eq_true, reduceIte, Nat.reduceAdd, Nat.reduceSub, Nat.reduceMul, Nat.reduceEqDiff, Nat.reduceLeDiff, Int.reduceLE, Int.reduceLT, Int.reduceEq, Int.reduceToNat, Int.reduceAdd, Int.reduceSub, Int.reduceNeg, decide_true, decide_false, Bool.not_true, Bool.not_false, Bool.true_and, Bool.false_and, Bool.and_true, Bool.and_false, Bool.or_true, Bool.true_or, Bool.or_false, Bool.false_or, and_self, and_true, true_and, Nat.le_refl, Nat.zero_add, Nat.mul_one, Nat.one_ne_zero, Nat.zero_le, highP, lowP, Option.map_some, Option.map_none, List.drop_zero, List.take_zero, List.length_cons, List.length_nil, List.nil_append, List.append_nil, List.cons_append, fillP, PV.cells?, PV.one, PV.cleans, PV.clean, PV.of?, List.all_cons, List.all_nil, List.take_succ_cons, List.drop_succ_cons, Bool.and_self, Int.natCast_nonneg, Int.toNat_natCast, Int.toNat_zero, PV.of?, Tk.ren, tailP, evL_loop, or_true, true_or, Nat.zero_lt_one, Nat.sub_zero, List.getElem?_cons_zero, List.getElem?_cons_succ, List.set_cons_zero, List.set_cons_succ, List.take_length, h3, c1, ← hc]
        · rw [if_pos hc, if_neg (by omega)]; simp
      · refine .inr ⟨i + 1, [inP l, .int .i64 x, .int .i64 l.length, .int .i64 ((i + 1 : Nat) : Int)], [], ?_, rfl, h1, by omega, ?_⟩
        · simp only [inP, q40_1, q40_0, evL_op, evL_sel, evL_nx, evL_exit, evL_ret, evL_join, evL_block, evL_cond, evK_some, evJ_nx, evJ_rt, evJ_ex, evB_nx, evB_rt, evB_ex, evC2_bool, evS_and, evS_or, evS_tf, evS_ft, ev_t, ev_s, ev_c, evalOp, bin_add, bin_sub, bin_mul, bin_eql, bin_neq, bin_lss, bin_leq, bin_gtr, bin_geq, sbin_eql, sbin_neq, b8, List.map_cons, List.map_nil, PV.rens, PV.ren, if_true, if_false, Bool.false_eq_true, reduceIte, Nat.reduceAdd, Nat.reduceSub, Nat.reduceMul, Nat.reduceEqDiff, Nat.reduceLeDiff, Int.reduceLE, Int.reduceLT, Int.reduceEq, Int.reduceToNat, Int.reduceAdd, Int.reduceSub, Int.reduceNeg, decide_true, decide_false, Bool.not_true, Bool.not_false, Bool.true_and, Bool.false_and, Bool.and_true, Bool.and_false, Bool.or_true, Bool.true_or, Bool.or_false, Bool.false_or, and_self, and_true, true_and, Nat.le_refl, Nat.zero_add, Nat.mul_one, Nat.one_ne_zero, Nat.zero_le, highP, lowP, Option.map_some, Option.map_none, List.drop_zero, List.take_zero, List.length_cons, List.length_nil, List.nil_append, List.append_nil, List.cons_append, fillP, PV.cells?, PV.one, PV.cleans, PV.clean, PV.of?, List.all_cons, List.all_nil, List.take_succ_cons, List.drop_succ_cons, Bool.and_self, Int.natCast_nonneg, Int.toNat_natCast, Int.toNat_zero, PV.of?, Tk.ren, tailP, evL_loop, or_true, true_or, Nat.zero_lt_one, Nat.sub_zero, List.getElem?_cons_zero, List.getElem?_cons_succ, List.set_cons_zero, List.set_cons_succ, List.take_length, h3, c1, hc, wr1 (show i < 9223372036854775807 by omega)]
        · rw [if_neg hc]
    · obtain rfl : i = l.length := by omega
      have h3 : ¬ (l.length : Int) < l.length := by omega
      refine .inl ⟨?_, ?_⟩
      · rw [List.drop_length]
        simp only [inP, q40_1, evL_op, evL_sel, evL_nx, evL_exit, evL_ret, evL_join, evL_block, evL_cond, evK_some, evJ_nx, evJ_rt, evJ_ex, evB_nx, evB_rt, evB_ex, evC2_bool, evS_and, evS_or, evS_tf, evS_ft, ev_t, ev_s, ev_c, evalOp, bin_add, bin_sub, bin_mul, bin_eql, bin_neq, bin_lss, bin_leq, bin_gtr, bin_geq, sbin_eql, sbin_neq, b8, List.map_cons, List.map_nil, PV.rens, PV.ren, if_true, if_false, Bool.false_eq_true, reduceIte, Nat.reduceAdd, Nat.reduceSub, Nat.reduceMul, Nat.reduceEqDiff, Nat.reduceLeDiff, Int.reduceLE, Int.reduceLT, Int.reduceEq, Int.reduceToNat, Int.reduceAdd, Int.reduceSub, Int.reduceNeg, decide_true, decide_false, Bool.not_true, Bool.not_false, Bool.true_and, Bool.false_and, Bool.and_true, Bool.and_false, Bool.or_true, Bool.true_or, Bool.or_false, Bool.false_or, and_self, and_true, true_and, Nat.le_refl, Nat.zero_add, Nat.mul_one, Nat.one_ne_zero, Nat.zero_le, highP, lowP, Option.map_some, Option.map_none, List.drop_zero, List.take_zero, List.length_cons, List.length_nil, List.nil_append, List.append_nil, List.cons_append, fillP, PV.cells?, PV.one, PV.cleans, PV.clean, PV.of?, List.all_cons, List.all_nil, List.take_succ_cons, List.drop_succ_cons, Bool.and_self, Int.natCast_nonneg, Int.toNat_natCast, Int.toNat_zero, PV.of?, Tk.ren, tailP, evL_loop, or_true, true_or, Nat.zero_lt_one, Nat.sub_zero, List.getElem?_cons_zero, List.getElem?_cons_succ, List.set_cons_zero, List.set_cons_succ, List.take_length, h3, ixGo]
      · rw [List.drop_length]
        simp [ixGo]) (l.length + 1) 0 [inP l, .int .i64 x, .int .i64 l.length, .int .i64 (0 : Nat)] [] rfl (Nat.zero_le _) (by omega)
  rw [List.drop_zero] at lp
  refine evT_of (k := l.length + 1) (F := l40) (H' := []) (e := [.int .i64 (ixGo x l 0)]) (l := [.int .i64 (ixGo x l 0)]) rfl rfl rfl ?_ rfl rfl
  show evL T (l.length + 1) q40 _ _ = _
  simp only [inP, O0] at lp
  simp only [inP, q40, evL_op, evL_sel, evL_nx, evL_exit, evL_ret, evL_join, evL_block, evL_cond, evK_some, evJ_nx, evJ_rt, evJ_ex, evB_nx, evB_rt, evB_ex, evC2_bool, evS_and, evS_or, evS_tf, evS_ft, ev_t, ev_s, ev_c, evalOp, bin_add, bin_sub, bin_mul, bin_eql, bin_neq, bin_lss, bin_leq, bin_gtr, bin_geq, sbin_eql, sbin_neq, b8, List.map_cons, List.map_nil, PV.rens, PV.ren, if_true, if_false, Bool.false_eq_true, reduceIte, Nat.reduceAdd, Nat.reduceSub, Nat.reduceMul, Nat.reduceEqDiff, Nat.reduceLeDiff, Int.reduceLE, Int.reduceLT, Int.reduceEq, Int.reduceToNat, Int.reduceAdd, Int.reduceSub, Int.reduceNeg, decide_true, decide_false, Bool.not_true, Bool.not_false, Bool.true_and, Bool.false_and, Bool.and_true, Bool.and_false, Bool.or_true, Bool.true_or, Bool.or_false, Bool.false_or, and_self, and_true, true_and, Nat.le_refl, Nat.zero_add, Nat.mul_one, Nat.one_ne_zero, Nat.zero_le, highP, lowP, Option.map_some, Option.map_none, List.drop_zero, List.take_zero, List.length_cons, List.length_nil, List.nil_append, List.append_nil, List.cons_append, fillP, PV.cells?, PV.one, PV.cleans, PV.clean, PV.of?, List.all_cons, List.all_nil, List.take_succ_cons, List.drop_succ_cons, Bool.and_self, Int.natCast_nonneg, Int.toNat_natCast, Int.toNat_zero, PV.of?, Tk.ren, tailP, evL_loop, or_true, true_or, Nat.zero_lt_one, Nat.sub_zero, List.getElem?_cons_zero, List.getElem?_cons_succ, List.set_cons_zero, List.set_cons_succ, List.take_length]
  rw [lp]
  by_cases h : ixGo x l 0 = -1
  · simp only [h, q40_2, evL_op, evL_sel, evL_nx, evL_exit, evL_ret, evL_join, evL_block, evL_cond, evK_some, evJ_nx, evJ_rt, evJ_ex, evB_nx, evB_rt, evB_ex, evC2_bool, evS_and, evS_or, evS_tf, evS_ft, ev_t, ev_s, ev_c, evalOp, bin_add, bin_sub, bin_mul, bin_eql, bin_neq, bin_lss, bin_leq, bin_gtr, bin_geq, sbin_eql, sbin_neq, b8, List.map_cons, List.map_nil, PV.rens, PV.ren, if_true, if_false, Bool.false_eq_true, reduceIte, Nat.reduceAdd, Nat.reduceSub, Nat.reduceMul, Nat.reduceEqDiff, Nat.reduceLeDiff, Int.reduceLE, Int.reduceLT, Int.reduceEq, Int.reduceToNat, Int.reduceAdd, Int.reduceSub, Int.reduceNeg, decide_true, decide_false, Bool.not_true, Bool.not_false, Bool.true_and, Bool.false_and, Bool.and_true, Bool.and_false, Bool.or_true, Bool.true_or, Bool.or_false, Bool.false_or, and_self, and_true, true_and, Nat.le_refl, Nat.zero_add, Nat.mul_one, Nat.one_ne_zero, Nat.zero_le, highP, lowP, Option.map_some, Option.map_none, List.drop_zero, List.take_zero, List.length_cons, List.length_nil, List.nil_append, List.append_nil, List.cons_append, fillP, PV.cells?, PV.one, PV.cleans, PV.clean, PV.of?, List.all_cons, List.all_nil, List.take_succ_cons, List.drop_succ_cons, Bool.and_self, Int.natCast_nonneg, Int.toNat_natCast, Int.toNat_zero, PV.of?, Tk.ren, tailP, evL_loop, or_true, true_or, Nat.zero_lt_one, Nat.sub_zero, List.getElem?_cons_zero, List.getElem?_cons_succ, List.set_cons_zero, List.set_cons_succ, List.take_length]
  · simp only [h, q40_2, evL_op, evL_sel, evL_nx, evL_exit, evL_ret, evL_join, evL_block, evL_cond, evK_some, evJ_nx, evJ_rt, evJ_ex, evB_nx, evB_rt, evB_ex, evC2_bool, evS_and, evS_or, evS_tf, evS_ft, ev_t, ev_s, ev_c, evalOp, bin_add, bin_sub, bin_mul, bin_eql, bin_neq, bin_lss, bin_leq, bin_gtr, bin_geq, sbin_eql, sbin_neq, b8, List.map_cons, List.map_nil, PV.rens, PV.ren, if_true, if_false, Bool.false_eq_true, reduceIte, Nat.reduceAdd, Nat.reduceSub, Nat.reduceMul, Nat.reduceEqDiff, Nat.reduceLeDiff, Int.reduceLE, Int.reduceLT, Int.reduceEq, Int.reduceToNat, Int.reduceAdd, Int.reduceSub, Int.reduceNeg, decide_true, decide_false, Bool.not_true, Bool.not_false, Bool.true_and, Bool.false_and, Bool.and_true, Bool.and_false, Bool.or_true, Bool.true_or, Bool.or_false, Bool.false_or, and_self, and_true, true_and, Nat.le_refl, Nat.zero_add, Nat.mul_one, Nat.one_ne_zero, Nat.zero_le, highP, lowP, Option.map_some, Option.map_none, List.drop_zero, List.take_zero, List.length_cons, List.length_nil, List.nil_append, List.append_nil, List.cons_append, fillP, PV.cells?, PV.one, PV.cleans, PV.clean, PV.of?, List.all_cons, List.all_nil, List.take_succ_cons, List.drop_succ_cons, Bool.and_self, Int.natCast_nonneg, Int.toNat_natCast, Int.toNat_zero, PV.of?, Tk.ren, tailP, evL_loop, or_true, true_or, Nat.zero_lt_one, Nat.sub_zero, List.getElem?_cons_zero, List.getElem?_cons_succ, List.set_cons_zero, List.set_cons_succ, List.take_length]
theorem T_contains (l : List Int) (x : Int) (hs : l.length ≤ 9000000000000000000) : T 26 [inP l, .int .i64 x] [] = some (.bool (decide (x ∈ l)), []) := by
  have c40 := T_index l x hs
  refine evT_of (k := 0) (F := l26) (H' := []) (e := [.bool (decide (x ∈ l))]) (l := [.bool (decide (x ∈ l))]) rfl rfl rfl ?_ rfl rfl
  show evL T 0 q26 _ _ = _
  simp only [inP] at c40
  simp only [inP, q26, evL_op, evL_sel, evL_nx, evL_exit, evL_ret, evL_join, evL_block, evL_cond, evK_some, evJ_nx, evJ_rt, evJ_ex, evB_nx, evB_rt, evB_ex, evC2_bool, evS_and, evS_or, evS_tf, evS_ft, ev_t, ev_s, ev_c, evalOp, bin_add, bin_sub, bin_mul, bin_eql, bin_neq, bin_lss, bin_leq, bin_gtr, bin_geq, sbin_eql, sbin_neq, b8, List.map_cons, List.map_nil, PV.rens, PV.ren, if_true, if_false, Bool.false_eq_true, reduceIte, Nat.reduceAdd, Nat.reduceSub, Nat.reduceMul, Nat.reduceEqDiff, Nat.reduceLeDiff, Int.reduceLE, Int.reduceLT, Int.reduceEq, Int.reduceToNat, Int.reduceAdd, Int.reduceSub, Int.reduceNeg, decide_true, decide_false, Bool.not_true, Bool.not_false, Bool.true_and, Bool.false_and, Bool.and_true, Bool.and_false, Bool.or_true, Bool.true_or, Bool.or_false, Bool.false_or, and_self, and_true, true_and, Nat.le_refl, Nat.zero_add, Nat.mul_one, Nat.one_ne_zero, Nat.zero_le, highP, lowP, Option.map_some, Option.map_none, List.drop_zero, List.take_zero, List.length_cons, List.length_nil, List.nil_append, List.append_nil, List.cons_append, fillP, PV.cells?, PV.one, PV.cleans, PV.clean, PV.of?, List.all_cons, List.all_nil, List.take_succ_cons, List.drop_succ_cons, Bool.and_self, Int.natCast_nonneg, Int.toNat_natCast, Int.toNat_zero, PV.of?, Tk.ren, tailP, evL_loop, or_true, true_or, Nat.zero_lt_one, Nat.sub_zero, List.getElem?_cons_zero, List.getElem?_cons_succ, List.set_cons_zero, List.set_cons_succ, List.take_length, PV.rens, PV.ren, c40, ixGo_mem]
theorem T_contains0 (z : Nat) (x : Int) : T 26 [.sl .no z 0 [], .int .i64 x] [] = some (.bool false, []) := by
  have c40 : T 40 [.sl .no z 0 [], .int .i64 x] [] = some (.int .i64 (-1), []) :=
    evT_of (k := 1) (F := l40) (H' := []) (e := [.int .i64 (-1)]) (l := [.int .i64 (-1)]) rfl rfl rfl rfl rfl rfl
  refine evT_of (k := 0) (F := l26) (H' := []) (e := [.bool false]) (l := [.bool false]) rfl rfl rfl ?_ rfl rfl
  show evL T 0 q26 _ _ = _
  simp only [q26, evL_op, evL_sel, evL_nx, evL_exit, evL_ret, evL_join, evL_block, evL_cond, evK_some, evJ_nx, evJ_rt, evJ_ex, evB_nx, evB_rt, evB_ex, evC2_bool, evS_and, evS_or, evS_tf, evS_ft, ev_t, ev_s, ev_c, evalOp, bin_add, bin_sub, bin_mul, bin_eql, bin_neq, bin_lss, bin_leq, bin_gtr, bin_geq, sbin_eql, sbin_neq, b8, List.map_cons, List.map_nil, PV.rens, PV.ren, if_true, if_false, Bool.false_eq_true, reduceIte, Nat.reduceAdd, Nat.reduceSub, Nat.reduceMul, Nat.reduceEqDiff, Nat.reduceLeDiff, Int.reduceLE, Int.reduceLT, Int.reduceEq, Int.reduceToNat, Int.reduceAdd, Int.reduceSub, Int.reduceNeg, decide_true, decide_false, Bool.not_true, Bool.not_false, Bool.true_and, Bool.false_and, Bool.and_true, Bool.and_false, Bool.or_true, Bool.true_or, Bool.or_false, Bool.false_or, and_self, and_true, true_and, Nat.le_refl, Nat.zero_add, Nat.mul_one, Nat.one_ne_zero, Nat.zero_le, highP, lowP, Option.map_some, Option.map_none, List.drop_zero, List.take_zero, List.length_cons, List.length_nil, List.nil_append, List.append_nil, List.cons_append, fillP, PV.cells?, PV.one, PV.cleans, PV.clean, PV.of?, List.all_cons, List.all_nil, List.take_succ_cons, List.drop_succ_cons, Bool.and_self, Int.natCast_nonneg, Int.toNat_natCast, Int.toNat_zero, PV.of?, Tk.ren, tailP, evL_loop, or_true, true_or, Nat.zero_lt_one, Nat.sub_zero, List.getElem?_cons_zero, List.getElem?_cons_succ, List.set_cons_zero, List.set_cons_succ, List.take_length, PV.rens, PV.ren, c40]
/-! ### Mails for a bundle -/
def pOk (p : Pth) : Bool := pathOk p.n p.l p.d
def badP (p : Pth) : Bool := !pOk p || p.n
def ShortP (p : Pth) : Prop := p.l.length + p.d.length < 4294967281
theorem T_bad (p : Pth) (h : ShortP p) : T 54 [.agg (pC p)] [] = some (.bool (badP p), []) := by
  have c55 := T55 p.n p.l p.d h
  refine evT_of (k := 0) (F := l54) (H' := []) (e := [.bool (badP p)]) (l := [.bool (badP p)]) rfl rfl rfl ?_ rfl rfl
  show evL T 0 q54 _ _ = _
  unfold badP pOk
  cases hp : pathOk p.n p.l p.d with
  | true =>
    rw [hp] at c55
    simp only [pC, q54, evL_op, evL_sel, evL_nx, evL_exit, evL_ret, evL_join, evL_block, evL_cond, evK_some, evJ_nx, evJ_rt, evJ_ex, evB_nx, evB_rt, evB_ex, evC2_bool, evS_and, evS_or, evS_tf, evS_ft, ev_t, ev_s, ev_c, evalOp, bin_add, bin_sub, bin_mul, bin_eql, bin_neq, bin_lss, bin_leq, bin_gtr, bin_geq, sbin_eql, sbin_neq, b8, List.map_cons, List.map_nil, PV.rens, PV.ren, if_true, if_false, Bool.false_eq_true, reduceIte, Nat.reduceAdd, Nat.reduceSub, Nat.reduceMul, Nat.reduceEqDiff, Nat.reduceLeDiff, Int.reduceLE, Int.reduceLT, Int.reduceEq, Int.reduceToNat, Int.reduceAdd, Int.reduceSub, Int.reduceNeg, decide_true, decide_false, Bool.not_true, Bool.not_false, Bool.true_and, Bool.false_and, Bool.and_true, Bool.and_false, Bool.or_true, Bool.true_or, Bool.or_false, Bool.false_or, and_self, and_true, true_and, Nat.le_refl, Nat.zero_add, Nat.mul_one, Nat.one_ne_zero, Nat.zero_le, highP, lowP, Option.map_some, Option.map_none, List.drop_zero, List.take_zero, List.length_cons, List.length_nil, List.nil_append, List.append_nil, List.cons_append, fillP, PV.cells?, PV.one, PV.cleans, PV.clean, PV.of?, List.all_cons, List.all_nil, List.take_succ_cons, List.drop_succ_cons, Bool.and_self, Int.natCast_nonneg, Int.toNat_natCast, Int.toNat_zero, PV.of?, Tk.ren, tailP, evL_loop, or_true, true_or, Nat.zero_lt_one, Nat.sub_zero, List.getElem?_cons_zero, List.getElem?_cons_succ, List.set_cons_zero, List.set_cons_succ, List.take_length, PV.rens, PV.ren, PV.cells?, PV.one, c55]
  | false =>
    rw [hp] at c55
    simp only [pC, q54, evL_op, evL_sel, evL_nx, evL_exit, evL_ret, evL_join, evL_block, evL_cond, evK_some, evJ_nx, evJ_rt, evJ_ex, evB_nx, evB_rt, evB_ex, evC2_bool, evS_and, evS_or, evS_tf, evS_ft, ev_t, ev_s, ev_c, evalOp, bin_add, bin_sub, bin_mul, bin_eql, bin_neq, bin_lss, bin_leq, bin_gtr, bin_geq, sbin_eql, sbin_neq, b8, List.map_cons, List.map_nil, PV.rens, PV.ren, if_true, if_false, Bool.false_eq_true, reduceIte, Nat.reduceAdd, Nat.reduceSub, Nat.reduceMul, Nat.reduceEqDiff, Nat.reduceLeDiff, Int.reduceLE, Int.reduceLT, Int.reduceEq, Int.reduceToNat, Int.reduceAdd, Int.reduceSub, Int.reduceNeg, decide_true, decide_false, Bool.not_true, Bool.not_false, Bool.true_and, Bool.false_and, Bool.and_true, Bool.and_false, Bool.or_true, Bool.true_or, Bool.or_false, Bool.false_or, and_self, and_true, true_and, Nat.le_refl, Nat.zero_add, Nat.mul_one, Nat.one_ne_zero, Nat.zero_le, highP, lowP, Option.map_some, Option.map_none, List.drop_zero, List.take_zero, List.length_cons, List.length_nil, List.nil_append, List.append_nil, List.cons_append, fillP, PV.cells?, PV.one, PV.cleans, PV.clean, PV.of?, List.all_cons, List.all_nil, List.take_succ_cons, List.drop_succ_cons, Bool.and_self, Int.natCast_nonneg, Int.toNat_natCast, Int.toNat_zero, PV.of?, Tk.ren, tailP, evL_loop, or_true, true_or, Nat.zero_lt_one, Nat.sub_zero, List.getElem?_cons_zero, List.getElem?_cons_succ, List.set_cons_zero, List.set_cons_succ, List.take_length, PV.rens, PV.ren, PV.cells?, PV.one, c55]
theorem T_anyBad (l : List Pth) (hs : l.length ≤ 9000000000000000000) (hp : ∀ p ∈ l, ShortP p) : T 56 [psP l, .fn 54 []] [] = some (.bool (l.any badP), []) := by
  have c65 : ∃ z : Int, T 65 [psP l, .fn 54 []] [] = some (.int .i64 z, []) ∧ decide (0 ≤ z) = l.any badP := by
    have lp := loop_post (n := 0) (body := evL T (l.length + 1) q65_1) (σ := Nat) (fun i => [psP l, .fn 54 [], .int .i64 l.length, .int .i64 i]) (fun _ => []) (fun i => l.length - i) (fun i => i ≤ l.length ∧ (l.take i).any badP = false)
      (fun r => (r = (.ex 0, [], []) ∧ l.any badP = false) ∨ ∃ i : Nat, r = (.rt, [.int .i64 i], []) ∧ l.any badP = true) (by
      rintro i ⟨hi, hb⟩
      rcases Nat.lt_or_ge i l.length with h1 | h1
      · have h3 : (i : Int) < l.length := by omega
        have c1 := fm_get (mk := pC) (sz := 3) (fun _ => rfl) h1
        have c54 := T_bad l[i] (hp _ (List.getElem_mem h1))
        simp only [pC] at c1 c54
        have hsn : l.take (i + 1) = l.take i ++ [l[i]] := List.take_succ_eq_append_getElem h1
        cases hc : badP l[i] with
        | true =>
          rw [hc] at c54
          refine .inl ⟨(.rt, [.int .i64 i], []), ?_, by simp, .inr ⟨i, rfl, List.any_eq_true.2 ⟨_, List.getElem_mem h1, hc⟩⟩⟩
          simp only [psP, q65_1, evL_op, evL_sel, evL_nx, evL_exit, evL_ret, evL_join, evL_block, evL_cond, evK_some, evJ_nx, evJ_rt, evJ_ex, evB_nx, evB_rt, evB_ex, evC2_bool, evS_and, evS_or, evS_tf, evS_ft, ev_t, ev_s, ev_c, evalOp, bin_add, bin_sub, bin_mul, bin_eql, bin_neq, bin_lss, bin_leq, bin_gtr, bin_geq, sbin_eql, sbin_neq, b8, List.map_cons, List.map_nil, PV.rens, PV.ren, if_true, if_false, Bool.false_eq_true, reduceIte, Nat.reduceAdd, Nat.reduceSub, Nat.reduceMul, Nat.reduceEqDiff, Nat.reduceLeDiff, Int.reduceLE, Int.reduceLT, Int.reduceEq, Int.reduceToNat, Int.reduceAdd, Int.reduceSub, Int.reduceNeg, decide_true, decide_false, Bool.not_true, Bool.not_false, Bool.true_and, Bool.false_and, Bool.and_true, Bool.and_false, Bool.or_true, Bool.true_or, Bool.or_false, Bool.false_or, and_self, and_true, true_and, Nat.le_refl, Nat.zero_add, Nat.mul_one, Nat.one_ne_zero, Nat.zero_le, highP, lowP, Option.map_some, Option.map_none, List.drop_zero, List.take_zero, List.length_cons, List.length_nil, List.nil_append, List.append_nil, List.cons_append, fillP, PV.cells?, PV.one, PV.cleans, PV.clean, PV.of?, List.all_cons, List.all_nil, List.take_succ_cons, List.drop_succ_cons, Bool.and_self, Int.natCast_nonneg, Int.toNat_natCast, Int.toNat_zero, PV.of?, Tk.ren, tailP, evL_loop, or_true, true_or, Nat.zero_lt_one, Nat.sub_zero, List.getElem?_cons_zero, List.getElem?_cons_succ, List.set_cons_zero, List.set_cons_succ, List.take_length, PV.rens, PV.ren, h3, c1, c54, List.append_nil]
        | false =>
          rw [hc] at c54
          refine .inr ⟨i + 1, [psP l, .fn 54 [], .int .i64 l.length, .int .i64 ((i + 1 : Nat) : Int)], [], ?_, rfl, ⟨h1, by rw [hsn, List.any_append, hb]; simp [hc]⟩, by omega⟩
          simp only [psP, q65_1, q65_0, evL_op, evL_sel, evL_nx, evL_exit, evL_ret, evL_join, evL_block, evL_cond, evK_some, evJ_nx, evJ_rt, evJ_ex, evB_nx, evB_rt, evB_ex, evC2_bool, evS_and, evS_or, evS_tf, evS_ft, ev_t, ev_s, ev_c, evalOp, bin_add, bin_sub, bin_mul, bin_eql, bin_neq, bin_lss, bin_leq, bin_gtr, bin_geq, sbin_eql, sbin_neq, b8, List.map_cons, List.map_nil, PV.rens, PV.ren, if_true, if_false, Bool.false_eq_true, reduceIte, Nat.reduceAdd, Nat.reduceSub, Nat.reduceMul, Nat.reduceEqDiff, Nat.reduceLeDiff, Int.reduceLE, Int.reduceLT, Int.reduceEq, Int.reduceToNat, Int.reduceAdd, Int.reduceSub, Int.reduceNeg, decide_true, decide_false, Bool.not_true, Bool.not_false, Bool.true_and, Bool.false_and, Bool.and_true, Bool.and_false, Bool.or_true, Bool.true_or, Bool.or_false, Bool.false_or, and_self, and_true, true_and, Nat.le_refl, Nat.zero_add, Nat.mul_one, Nat.one_ne_zero, Nat.zero_le, highP, lowP, Option.map_some, Option.map_none, List.drop_zero, List.take_zero, List.length_cons, List.length_nil, List.nil_append, List.append_nil, List.cons_append, fillP, PV.cells?, PV.one, PV.cleans, PV.clean, PV.of?, List.all_cons, List.all_nil, List.take_succ_cons, List.drop_succ_cons, Bool.and_self, Int.natCast_nonneg, Int.toNat_natCast, Int.toNat_zero, PV.of?, Tk.ren, tailP, evL_loop, or_true, true_or, Nat.zero_lt_one, Nat.sub_zero, List.getElem?_cons_zero, List.getElem?_cons_succ, List.set_cons_zero, List.set_cons_succ, List.take_length, PV.rens, PV.ren, h3, c1, c54, List.append_nil, wr1 (show i < 9223372036854775807 by omega)]
      · obtain rfl : i = l.length := by omega
        have h3 : ¬ (l.length : Int) < l.length := by omega
        rw [List.take_length] at hb
        refine .inl ⟨_, ?_, by simp, .inl ⟨rfl, hb⟩⟩
        simp only [psP, q65_1, evL_op, evL_sel, evL_nx, evL_exit, evL_ret, evL_join, evL_block, evL_cond, evK_some, evJ_nx, evJ_rt, evJ_ex, evB_nx, evB_rt, evB_ex, evC2_bool, evS_and, evS_or, evS_tf, evS_ft, ev_t, ev_s, ev_c, evalOp, bin_add, bin_sub, bin_mul, bin_eql, bin_neq, bin_lss, bin_leq, bin_gtr, bin_geq, sbin_eql, sbin_neq, b8, List.map_cons, List.map_nil, PV.rens, PV.ren, if_true, if_false, Bool.false_eq_true, reduceIte, Nat.reduceAdd, Nat.reduceSub, Nat.reduceMul, Nat.reduceEqDiff, Nat.reduceLeDiff, Int.reduceLE, Int.reduceLT, Int.reduceEq, Int.reduceToNat, Int.reduceAdd, Int.reduceSub, Int.reduceNeg, decide_true, decide_false, Bool.not_true, Bool.not_false, Bool.true_and, Bool.false_and, Bool.and_true, Bool.and_false, Bool.or_true, Bool.true_or, Bool.or_false, Bool.false_or, and_self, and_true, true_and, Nat.le_refl, Nat.zero_add, Nat.mul_one, Nat.one_ne_zero, Nat.zero_le, highP, lowP, Option.map_some, Option.map_none, List.drop_zero, List.take_zero, List.length_cons, List.length_nil, List.nil_append, List.append_nil, List.cons_append, fillP, PV.cells?, PV.one, PV.cleans, PV.clean, PV.of?, List.all_cons, List.all_nil, List.take_succ_cons, List.drop_succ_cons, Bool.and_self, Int.natCast_nonneg, Int.toNat_natCast, Int.toNat_zero, PV.of?, Tk.ren, tailP, evL_loop, or_true, true_or, Nat.zero_lt_one, Nat.sub_zero, List.getElem?_cons_zero, List.getElem?_cons_succ, List.set_cons_zero, List.set_cons_succ, List.take_length, h3]) (l.length + 1) 0 [psP l, .fn 54 [], .int .i64 l.length, .int .i64 (0 : Nat)] [] rfl ⟨Nat.zero_le _, rfl⟩ (by omega)
    obtain ⟨r, lp, hr⟩ := lp
    simp only [psP, O0] at lp
    rcases hr with ⟨rfl, hb⟩ | ⟨i, rfl, hb⟩
    · refine ⟨-1, evT_of (k := l.length + 1) (F := l65) (H' := []) (e := [.int .i64 (-1)]) (l := [.int .i64 (-1)]) rfl rfl rfl ?_ rfl rfl, by rw [hb]; rfl⟩
      show evL T (l.length + 1) q65 _ _ = _
      simp only [psP, q65, evL_op, evL_sel, evL_nx, evL_exit, evL_ret, evL_join, evL_block, evL_cond, evK_some, evJ_nx, evJ_rt, evJ_ex, evB_nx, evB_rt, evB_ex, evC2_bool, evS_and, evS_or, evS_tf, evS_ft, ev_t, ev_s, ev_c, evalOp, bin_add, bin_sub, bin_mul, bin_eql, bin_neq, bin_lss, bin_leq, bin_gtr, bin_geq, sbin_eql, sbin_neq, b8, List.map_cons, List.map_nil, PV.rens, PV.ren, if_true, if_false, Bool.false_eq_true, reduceIte, Nat.reduceAdd, Nat.reduceSub, Nat.reduceMul, Nat.reduceEqDiff, Nat.reduceLeDiff, Int.reduceLE, Int.reduceLT, Int.reduceEq, Int.reduceToNat, Int.reduceAdd, Int.reduceSub, Int.reduceNeg, decide_true, decide_false, Bool.not_true, Bool.not_false, Bool.true_and, Bool.false_and, Bool.and_true, Bool.and_false, Bool.or_true, Bool.true_or, Bool.or_false, Bool.false_or, and_self, and_true, true_and, Nat.le_refl, Nat.zero_add, Nat.mul_one, Nat.one_ne_zero, Nat.zero_le, highP, lowP, Option.map_some, Option.map_none, List.drop_zero, List.take_zero, List.length_cons, List.length_nil, List.nil_append, List.append_nil, List.cons_append, fillP, PV.cells?, PV.one, PV.cleans, PV.clean, PV.of?, List.all_cons, List.all_nil, List.take_succ_cons, List.drop_succ_cons, Bool.and_self, Int.natCast_nonneg, Int.toNat_natCast, Int.toNat_zero, PV.of?, Tk.ren, tailP, evL_loop, or_true, true_or, Nat.zero_lt_one, Nat.sub_zero, List.getElem?_cons_zero, List.getElem?_cons_succ, List.set_cons_zero, List.set_cons_succ, List.take_length]
      rw [lp]
      simp only [q65_2, evL_op, evL_sel, evL_nx, evL_exit, evL_ret, evL_join, evL_block, evL_cond, evK_some, evJ_nx, evJ_rt, evJ_ex, evB_nx, evB_rt, evB_ex, evC2_bool, evS_and, evS_or, evS_tf, evS_ft, ev_t, ev_s, ev_c, evalOp, bin_add, bin_sub, bin_mul, bin_eql, bin_neq, bin_lss, bin_leq, bin_gtr, bin_geq, sbin_eql, sbin_neq, b8, List.map_cons, List.map_nil, PV.rens, PV.ren, if_true, if_false, Bool.false_eq_true, reduceIte, Nat.reduceAdd, Nat.reduceSub, Nat.reduceMul, Nat.reduceEqDiff, Nat.reduceLeDiff, Int.reduceLE, Int.reduceLT, Int.reduceEq, Int.reduceToNat, Int.reduceAdd, Int.reduceSub, Int.reduceNeg, decide_true, decide_false, Bool.not_true, Bool.not_false, Bool.true_and, Bool.false_and, Bool.and_true, Bool.and_false, Bool.or_true, Bool.true_or, Bool.or_false, Bool.false_or, and_self, and_true, true_and, Nat.le_refl, Nat.zero_add, Nat.mul_one, Nat.one_ne_zero, Nat.zero_le, highP, lowP, Option.map_some, Option.map_none, List.drop_zero, List.take_zero, List.length_cons, List.length_nil, List.nil_append, List.append_nil, List.cons_append, fillP, PV.cells?, PV.one, PV.cleans, PV.clean, PV.of?, List.all_cons, List.all_nil, List.take_succ_cons, List.drop_succ_cons, Bool.and_self, Int.natCast_nonneg, Int.toNat_natCast, Int.toNat_zero, PV.of?, Tk.ren, tailP, evL_loop, or_true, true_or, Nat.zero_lt_one, Nat.sub_zero, List.getElem?_cons_zero, List.getElem?_cons_succ, List.set_cons_zero, List.set_cons_succ, List.take_length]
    · refine ⟨i, evT_of (k := l.length + 1) (F := l65) (H' := []) (e := [.int .i64 i]) (l := [.int .i64 i]) rfl rfl rfl ?_ rfl rfl, by rw [hb]; simp⟩
      show evL T (l.length + 1) q65 _ _ = _
      simp only [psP, q65, evL_op, evL_sel, evL_nx, evL_exit, evL_ret, evL_join, evL_block, evL_cond, evK_some, evJ_nx, evJ_rt, evJ_ex, evB_nx, evB_rt, evB_ex, evC2_bool, evS_and, evS_or, evS_tf, evS_ft, ev_t, ev_s, ev_c, evalOp, bin_add, bin_sub, bin_mul, bin_eql, bin_neq, bin_lss, bin_leq, bin_gtr, bin_geq, sbin_eql, sbin_neq, b8, List.map_cons, List.map_nil, PV.rens, PV.ren, if_true, if_false, Bool.false_eq_true, reduceIte, Nat.reduceAdd, Nat.reduceSub, Nat.reduceMul, Nat.reduceEqDiff, Nat.reduceLeDiff, Int.reduceLE, Int.reduceLT, Int.reduceEq, Int.reduceToNat, Int.reduceAdd, Int.reduceSub, Int.reduceNeg, decide_true, decide_false, Bool.not_true, Bool.not_false, Bool.true_and, Bool.false_and, Bool.and_true, Bool.and_false, Bool.or_true, Bool.true_or, Bool.or_false, Bool.false_or, and_self, and_true, true_and, Nat.le_refl, Nat.zero_add, Nat.mul_one, Nat.one_ne_zero, Nat.zero_le, highP, lowP, Option.map_some, Option.map_none, List.drop_zero, List.take_zero, List.length_cons, List.length_nil, List.nil_append, List.append_nil, List.cons_append, fillP, PV.cells?, PV.one, PV.cleans, PV.clean, PV.of?, List.all_cons, List.all_nil, List.take_succ_cons, List.drop_succ_cons, Bool.and_self, Int.natCast_nonneg, Int.toNat_natCast, Int.toNat_zero, PV.of?, Tk.ren, tailP, evL_loop, or_true, true_or, Nat.zero_lt_one, Nat.sub_zero, List.getElem?_cons_zero, List.getElem?_cons_succ, List.set_cons_zero, List.set_cons_succ, List.take_length]
      rw [lp]
      simp only [evL_op, evL_sel, evL_nx, evL_exit, evL_ret, evL_join, evL_block, evL_cond, evK_some, evJ_nx, evJ_rt, evJ_ex, evB_nx, evB_rt, evB_ex, evC2_bool, evS_and, evS_or, evS_tf, evS_ft, ev_t, ev_s, ev_c, evalOp, bin_add, bin_sub, bin_mul, bin_eql, bin_neq, bin_lss, bin_leq, bin_gtr, bin_geq, sbin_eql, sbin_neq, b8, List.map_cons, List.map_nil, PV.rens, PV.ren, if_true, if_false, Bool.false_eq_true, reduceIte, Nat.reduceAdd, Nat.reduceSub, Nat.reduceMul, Nat.reduceEqDiff, Nat.reduceLeDiff, Int.reduceLE, Int.reduceLT, Int.reduceEq, Int.reduceToNat, Int.reduceAdd, Int.reduceSub, Int.reduceNeg, decide_true, decide_false, Bool.not_true, Bool.not_false, Bool.true_and, Bool.false_and, Bool.and_true, Bool.and_false, Bool.or_true, Bool.true_or, Bool.or_false, Bool.false_or, and_self, and_true, true_and, Nat.le_refl, Nat.zero_add, Nat.mul_one, Nat.one_ne_zero, Nat.zero_le, highP, lowP, Option.map_some, Option.map_none, List.drop_zero, List.take_zero, List.length_cons, List.length_nil, List.nil_append, List.append_nil, List.cons_append, fillP, PV.cells?, PV.one, PV.cleans, PV.clean, PV.of?, List.all_cons, List.all_nil, List.take_succ_cons, List.drop_succ_cons, Bool.and_self, Int.natCast_nonneg, Int.toNat_natCast, Int.toNat_zero, PV.of?, Tk.ren, tailP, evL_loop, or_true, true_or, Nat.zero_lt_one, Nat.sub_zero, List.getElem?_cons_zero, List.getElem?_cons_succ, List.set_cons_zero, List.set_cons_succ, List.take_length]
  obtain ⟨z, c65, hz⟩ := c65
  refine evT_of (k := 0) (F := l56) (H' := []) (e := [.bool (l.any badP)]) (l := [.bool (l.any badP)]) rfl rfl rfl ?_ rfl rfl
  show evL T 0 q56 _ _ = _
  simp only [psP] at c65
  simp only [psP, q56, evL_op, evL_sel, evL_nx, evL_exit, evL_ret, evL_join, evL_block, evL_cond, evK_some, evJ_nx, evJ_rt, evJ_ex, evB_nx, evB_rt, evB_ex, evC2_bool, evS_and, evS_or, evS_tf, evS_ft, ev_t, ev_s, ev_c, evalOp, bin_add, bin_sub, bin_mul, bin_eql, bin_neq, bin_lss, bin_leq, bin_gtr, bin_geq, sbin_eql, sbin_neq, b8, List.map_cons, List.map_nil, PV.rens, PV.ren, if_true, if_false, Bool.false_eq_true, reduceIte, Nat.reduceAdd, Nat.reduceSub, Nat.reduceMul, Nat.reduceEqDiff, Nat.reduceLeDiff, Int.reduceLE, Int.reduceLT, Int.reduceEq, Int.reduceToNat, Int.reduceAdd, Int.reduceSub, Int.reduceNeg, decide_true, decide_false, Bool.not_true, Bool.not_false, Bool.true_and, Bool.false_and, Bool.and_true, Bool.and_false, Bool.or_true, Bool.true_or, Bool.or_false, Bool.false_or, and_self, and_true, true_and, Nat.le_refl, Nat.zero_add, Nat.mul_one, Nat.one_ne_zero, Nat.zero_le, highP, lowP, Option.map_some, Option.map_none, List.drop_zero, List.take_zero, List.length_cons, List.length_nil, List.nil_append, List.append_nil, List.cons_append, fillP, PV.cells?, PV.one, PV.cleans, PV.clean, PV.of?, List.all_cons, List.all_nil, List.take_succ_cons, List.drop_succ_cons, Bool.and_self, Int.natCast_nonneg, Int.toNat_natCast, Int.toNat_zero, PV.of?, Tk.ren, tailP, evL_loop, or_true, true_or, Nat.zero_lt_one, Nat.sub_zero, List.getElem?_cons_zero, List.getElem?_cons_succ, List.set_cons_zero, List.set_cons_succ, List.take_length, c65, hz]
def soleM (m : Mal) : Bool := pOk m.fr && decide ((1 : Int) ≤ m.rcp.length) && decide ((m.rcp.length : Int) ≤ 8) && !m.rcp.any badP && body m.bd
theorem T_dots {l : List UInt8} {p : PV} (h : LS 1 l.length (l.map b8) p) (hl : l.length ≤ 1000000000) : T 57 [p] [] = some (.int .i64 (if body l = true then 0 else 5), []) := by
  obtain ⟨t, z, rfl, ht, hz⟩ := h
  by_cases h0 : l.length = 0
  · obtain rfl : l = [] := List.eq_nil_of_length_eq_zero h0
    have hb : body [] = true := by decide
    rw [hb, if_pos rfl]
    rcases ht with rfl | ⟨rfl, _⟩
    · exact evT_iff.2 ⟨300, by kernel_rfl⟩
    · exact evT_iff.2 ⟨300, by kernel_rfl⟩
  · obtain rfl : z = 1 := hz.resolve_right h0
    obtain rfl : t = .no := ht.resolve_right (fun h => h0 h.2)
    exact T57 l hl
theorem T_sole {m : Mal} {cs : List PV} (h : MalR m cs) (h1 : m.rcp.length ≤ 1000000) (h2 : m.bd.length ≤ 1000000000) (hs : ShortP m.fr ∧ ∀ p ∈ m.rcp, ShortP p) : T 48 [.agg cs] [] = some (.bool (soleM m), []) := by
  obtain ⟨x1, x2, x3⟩ := h.box
  obtain ⟨a, b, rfl, ha, hb⟩ := h
  have c57 := T_dots hb h2
  have b3 := hb.clean.2.2
  obtain ⟨ta, za, rfl, hta, hza⟩ := ha
  have c55 := T55 m.fr.n m.fr.l m.fr.d hs.1
  refine evT_of (k := 0) (F := l48) (H' := []) (e := [.bool (soleM m)]) (l := [.bool (soleM m)]) rfl rfl rfl ?_ rfl rfl
  show evL T 0 q48 _ _ = _
  unfold q48
  rw [evL_op, bx (ev_t _) x1 x2, evK_some]
  unfold soleM pOk
  have key : ∀ B : Bool, ((if B = true then (0 : Int) else 5) = 0) = (B = true) := fun B => by cases B <;> simp
  cases hp : pathOk m.fr.n m.fr.l m.fr.d with
  | false =>
    rw [hp] at c55
    simp only [evL_op, evL_sel, evL_nx, evL_exit, evL_ret, evL_join, evL_block, evL_cond, evK_some, evJ_nx, evJ_rt, evJ_ex, evB_nx, evB_rt, evB_ex, evC2_bool, evS_and, evS_or, evS_tf, evS_ft, ev_t, ev_s, ev_c, evalOp, bin_add, bin_sub, bin_mul, bin_eql, bin_neq, bin_lss, bin_leq, bin_gtr, bin_geq, sbin_eql, sbin_neq, b8, List.map_cons, List.map_nil, PV.rens, PV.ren, if_true, if_false, Bool.false_eq_true, reduceIte, Nat.reduceAdd, Nat.reduceSub, Nat.reduceMul, Nat.reduceEqDiff, Nat.reduceLeDiff, Int.reduceLE, Int.reduceLT, Int.reduceEq, Int.reduceToNat, Int.reduceAdd, Int.reduceSub, Int.reduceNeg, decide_true, decide_false, Bool.not_true, Bool.not_false, Bool.true_and, Bool.false_and, Bool.and_true, Bool.and_false, Bool.or_true, Bool.true_or, Bool.or_false, Bool.false_or, and_self, and_true, true_and, Nat.le_refl, Nat.zero_add, Nat.mul_one, Nat.one_ne_zero, Nat.zero_le, highP, lowP, Option.map_some, Option.map_none, List.drop_zero, List.take_zero, List.length_cons, List.length_nil, List.nil_append, List.append_nil, List.cons_append, fillP, PV.cells?, PV.one, PV.cleans, PV.clean, PV.of?, List.all_cons, List.all_nil, List.take_succ_cons, List.drop_succ_cons, Bool.and_self, Int.natCast_nonneg, Int.toNat_natCast, Int.toNat_zero, PV.of?, Tk.ren, tailP, evL_loop, or_true, true_or, Nat.zero_lt_one, Nat.sub_zero, List.getElem?_cons_zero, List.getElem?_cons_succ, List.set_cons_zero, List.set_cons_succ, List.take_length, PV.rens, PV.ren, c55]
  | true =>
    rw [hp] at c55
    by_cases hn : (1 : Int) ≤ m.rcp.length
    · obtain rfl : za = 3 := hza.resolve_right (by omega)
      obtain rfl : ta = .no := hta.resolve_right (fun h => by have := h.2; omega)
      have c56 := T_anyBad m.rcp (by omega) hs.2
      simp only [psP] at c56
      by_cases h8 : (m.rcp.length : Int) ≤ 8
      · cases hb' : body m.bd with
        | true =>
          rw [hb'] at c57
          simp only [evL_op, evL_sel, evL_nx, evL_exit, evL_ret, evL_join, evL_block, evL_cond, evK_some, evJ_nx, evJ_rt, evJ_ex, evB_nx, evB_rt, evB_ex, evC2_bool, evS_and, evS_or, evS_tf, evS_ft, ev_t, ev_s, ev_c, evalOp, bin_add, bin_sub, bin_mul, bin_eql, bin_neq, bin_lss, bin_leq, bin_gtr, bin_geq, sbin_eql, sbin_neq, b8, List.map_cons, List.map_nil, PV.rens, PV.ren, if_true, if_false, Bool.false_eq_true, reduceIte, Nat.reduceAdd, Nat.reduceSub, Nat.reduceMul, Nat.reduceEqDiff, Nat.reduceLeDiff, Int.reduceLE, Int.reduceLT, Int.reduceEq, Int.reduceToNat, Int.reduceAdd, Int.reduceSub, Int.reduceNeg, decide_true, decide_false, Bool.not_true, Bool.not_false, Bool.true_and, Bool.false_and, Bool.and_true, Bool.and_false, Bool.or_true, Bool.true_or, Bool.or_false, Bool.false_or, and_self, and_true, true_and, Nat.le_refl, Nat.zero_add, Nat.mul_one, Nat.one_ne_zero, Nat.zero_le, highP, lowP, Option.map_some, Option.map_none, List.drop_zero, List.take_zero, List.length_cons, List.length_nil, List.nil_append, List.append_nil, List.cons_append, fillP, PV.cells?, PV.one, PV.cleans, PV.clean, PV.of?, List.all_cons, List.all_nil, List.take_succ_cons, List.drop_succ_cons, Bool.and_self, Int.natCast_nonneg, Int.toNat_natCast, Int.toNat_zero, PV.of?, Tk.ren, tailP, evL_loop, or_true, true_or, Nat.zero_lt_one, Nat.sub_zero, List.getElem?_cons_zero, List.getElem?_cons_succ, List.set_cons_zero, List.set_cons_succ, List.take_length, PV.rens, PV.ren, b3, c55, c56, c57, hn, h8]
        | false =>
          rw [hb'] at c57
          simp only [evL_op, evL_sel, evL_nx, evL_exit, evL_ret, evL_join, evL_block, evL_cond, evK_some, evJ_nx, evJ_rt, evJ_ex, evB_nx, evB_rt, evB_ex, evC2_bool, evS_and, evS_or, evS_tf, evS_ft, ev_t, ev_s, ev_c, evalOp, bin_add, bin_sub, bin_mul, bin_eql, bin_neq, bin_lss, bin_leq, bin_gtr, bin_geq, sbin_eql, sbin_neq, b8, List.map_cons, List.map_nil, PV.rens, PV.ren, if_true, if_false, Bool.false_eq_true, reduceIte, Nat.reduceAdd, Nat.reduceSub, Nat.reduceMul, Nat.reduceEqDiff, Nat.reduceLeDiff, Int.reduceLE, Int.reduceLT, Int.reduceEq, Int.reduceToNat, Int.reduceAdd, Int.reduceSub, Int.reduceNeg, decide_true, decide_false, Bool.not_true, Bool.not_false, Bool.true_and, Bool.false_and, Bool.and_true, Bool.and_false, Bool.or_true, Bool.true_or, Bool.or_false, Bool.false_or, and_self, and_true, true_and, Nat.le_refl, Nat.zero_add, Nat.mul_one, Nat.one_ne_zero, Nat.zero_le, highP, lowP, Option.map_some, Option.map_none, List.drop_zero, List.take_zero, List.length_cons, List.length_nil, List.nil_append, List.append_nil, List.cons_append, fillP, PV.cells?, PV.one, PV.cleans, PV.clean, PV.of?, List.all_cons, List.all_nil, List.take_succ_cons, List.drop_succ_cons, Bool.and_self, Int.natCast_nonneg, Int.toNat_natCast, Int.toNat_zero, PV.of?, Tk.ren, tailP, evL_loop, or_true, true_or, Nat.zero_lt_one, Nat.sub_zero, List.getElem?_cons_zero, List.getElem?_cons_succ, List.set_cons_zero, List.set_cons_succ, List.take_length, PV.rens, PV.ren, b3, c55, c56, c57, hn, h8]
      · simp only [evL_op, evL_sel, evL_nx, evL_exit, evL_ret, evL_join, evL_block, evL_cond, evK_some, evJ_nx, evJ_rt, evJ_ex, evB_nx, evB_rt, evB_ex, evC2_bool, evS_and, evS_or, evS_tf, evS_ft, ev_t, ev_s, ev_c, evalOp, bin_add, bin_sub, bin_mul, bin_eql, bin_neq, bin_lss, bin_leq, bin_gtr, bin_geq, sbin_eql, sbin_neq, b8, List.map_cons, List.map_nil, PV.rens, PV.ren, if_true, if_false, Bool.false_eq_true, reduceIte, Nat.reduceAdd, Nat.reduceSub, Nat.reduceMul, Nat.reduceEqDiff, Nat.reduceLeDiff, Int.reduceLE, Int.reduceLT, Int.reduceEq, Int.reduceToNat, Int.reduceAdd, Int.reduceSub, Int.reduceNeg, decide_true, decide_false, Bool.not_true, Bool.not_false, Bool.true_and, Bool.false_and, Bool.and_true, Bool.and_false, Bool.or_true, Bool.true_or, Bool.or_false, Bool.false_or, and_self, and_true, true_and, Nat.le_refl, Nat.zero_add, Nat.mul_one, Nat.one_ne_zero, Nat.zero_le, highP, lowP, Option.map_some, Option.map_none, List.drop_zero, List.take_zero, List.length_cons, List.length_nil, List.nil_append, List.append_nil, List.cons_append, fillP, PV.cells?, PV.one, PV.cleans, PV.clean, PV.of?, List.all_cons, List.all_nil, List.take_succ_cons, List.drop_succ_cons, Bool.and_self, Int.natCast_nonneg, Int.toNat_natCast, Int.toNat_zero, PV.of?, Tk.ren, tailP, evL_loop, or_true, true_or, Nat.zero_lt_one, Nat.sub_zero, List.getElem?_cons_zero, List.getElem?_cons_succ, List.set_cons_zero, List.set_cons_succ, List.take_length, PV.rens, PV.ren, c55, c56, hn, h8]
    · simp only [evL_op, evL_sel, evL_nx, evL_exit, evL_ret, evL_join, evL_block, evL_cond, evK_some, evJ_nx, evJ_rt, evJ_ex, evB_nx, evB_rt, evB_ex, evC2_bool, evS_and, evS_or, evS_tf, evS_ft, ev_t, ev_s, ev_c, evalOp, bin_add, bin_sub, bin_mul, bin_eql, bin_neq, bin_lss, bin_leq, bin_gtr, bin_geq, sbin_eql, sbin_neq, b8, List.map_cons, List.map_nil, PV.rens, PV.ren, if_true, if_false, Bool.false_eq_true, reduceIte, Nat.reduceAdd, Nat.reduceSub, Nat.reduceMul, Nat.reduceEqDiff, Nat.reduceLeDiff, Int.reduceLE, Int.reduceLT, Int.reduceEq, Int.reduceToNat, Int.reduceAdd, Int.reduceSub, Int.reduceNeg, decide_true, decide_false, Bool.not_true, Bool.not_false, Bool.true_and, Bool.false_and, Bool.and_true, Bool.and_false, Bool.or_true, Bool.true_or, Bool.or_false, Bool.false_or, and_self, and_true, true_and, Nat.le_refl, Nat.zero_add, Nat.mul_one, Nat.one_ne_zero, Nat.zero_le, highP, lowP, Option.map_some, Option.map_none, List.drop_zero, List.take_zero, List.length_cons, List.length_nil, List.nil_append, List.append_nil, List.cons_append, fillP, PV.cells?, PV.one, PV.cleans, PV.clean, PV.of?, List.all_cons, List.all_nil, List.take_succ_cons, List.drop_succ_cons, Bool.and_self, Int.natCast_nonneg, Int.toNat_natCast, Int.toNat_zero, PV.of?, Tk.ren, tailP, evL_loop, or_true, true_or, Nat.zero_lt_one, Nat.sub_zero, List.getElem?_cons_zero, List.getElem?_cons_succ, List.set_cons_zero, List.set_cons_succ, List.take_length, PV.rens, PV.ren, c55, hn]
end Go.Proofs.YtnljpfjoboafoaaDoor.Tab

namespace Go.Proofs.YtnljpfjoboafoaaDoor.Tab
set_option linter.all false
open Go Go.RowKit Go.Proofs.YtnljpfjoboafoaaDoor.Ev
structure Itm where
  id : Int
  mail : Mal
  state : Int
  pack : Int
  deriving DecidableEq
structure Spl where
  items : List Itm
  packs : Int
  sent : List Int
  part : List UInt8
  of_ : Int
  done : List Int
  deriving DecidableEq
def iC (x : Itm) : List PV := [.int .i64 x.id, .bool x.mail.fr.n, .str x.mail.fr.l, .str x.mail.fr.d, psP x.mail.rcp, sl8 x.mail.bd, .bool x.mail.q, .str x.mail.helo, .int .i64 x.mail.tm, .int .i64 x.state, .int .i64 x.pack]
abbrev iCs (l : List Itm) : List PV := l.flatMap iC
abbrev nCs (l : List Int) : List PV := l.map fun x => .int .i64 x
theorem iCs_flat (l : List Itm) : (iCs l).all flat = true := by
  rw [List.all_eq_true]
  intro p hp
  obtain ⟨x, _, hx⟩ := List.mem_flatMap.1 hp
  simp only [iC, psP, List.mem_cons, List.not_mem_nil, or_false] at hx
  rcases hx with rfl | rfl | rfl | rfl | rfl | rfl | rfl | rfl | rfl | rfl | rfl <;> rfl
theorem iCs_one (l : List Itm) : (iCs l).all PV.one = true := by
  rw [List.all_eq_true]
  intro p hp
  obtain ⟨x, _, hx⟩ := List.mem_flatMap.1 hp
  simp only [iC, psP, List.mem_cons, List.not_mem_nil, or_false] at hx
  rcases hx with rfl | rfl | rfl | rfl | rfl | rfl | rfl | rfl | rfl | rfl | rfl <;> rfl
theorem iCs_len (l : List Itm) : (iCs l).length = l.length * 11 := fm_len (mk := iC) (sz := 11) (fun _ => rfl) l
/-- A row that may be written: empty (nil, or a right to nothing), or an entry of the heap. -/
def RowAt (H : Hp) (sz : Nat) (p : PV) (cs : List PV) (n : Nat) : Prop :=
  (n = 0 ∧ p = .sl .nil 0 0 []) ∨ (n = 0 ∧ ∃ k z, p = .sl (.tok k) z 0 [] ∧ (z = sz ∨ z = 0) ∧ H[k]? = some .tok) ∨ (0 < n ∧ ∃ k, p = .row k 0 sz n ∧ H[k]? = some (.cells cs))
/-- The same, and surely not nil. -/
def RowNN (H : Hp) (sz : Nat) (p : PV) (cs : List PV) (n : Nat) : Prop :=
  (n = 0 ∧ ∃ k z, p = .sl (.tok k) z 0 [] ∧ (z = sz ∨ z = 0) ∧ H[k]? = some .tok) ∨ (0 < n ∧ ∃ k, p = .row k 0 sz n ∧ H[k]? = some (.cells cs))
theorem RowNN.at_ {H : Hp} {sz n : Nat} {p : PV} {cs : List PV} (h : RowNN H sz p cs n) : RowAt H sz p cs n := .inr h
theorem RowAt.nn {H : Hp} {sz n : Nat} {p : PV} {cs : List PV} (h : RowAt H sz p cs n) (hp : ∀ z m ds, p ≠ .sl .nil z m ds) : RowNN H sz p cs n := h.resolve_left fun e => hp _ _ _ e.2
/-- Bytes to which more may be put. -/
def TokAt (H : Hp) (p : PV) (l : List UInt8) : Prop :=
  (l = [] ∧ p = .sl .nil 0 0 []) ∨ ∃ k z, p = .sl (.tok k) z l.length (l.map b8) ∧ (z = 1 ∨ (z = 0 ∧ l = [])) ∧ H[k]? = some .tok
theorem RowAt.mono {H H1 : Hp} {sz n : Nat} {p : PV} {cs : List PV} (h : RowAt H sz p cs n) (hs : ∀ k ∈ p.toks, H1[k]? = H[k]?) : RowAt H1 sz p cs n := by
  rcases h with ⟨h0, rfl⟩ | ⟨h0, k, z, rfl, hz, hk⟩ | ⟨h0, k, rfl, hk⟩
  · exact .inl ⟨h0, rfl⟩
  · exact .inr (.inl ⟨h0, k, z, rfl, hz, by rw [hs k (by simp [PV.toks])]; exact hk⟩)
  · exact .inr (.inr ⟨h0, k, rfl, by rw [hs k (by simp [PV.toks])]; exact hk⟩)
theorem TokAt.mono {H H1 : Hp} {p : PV} {l : List UInt8} (h : TokAt H p l) (hs : ∀ k ∈ p.toks, H1[k]? = H[k]?) : TokAt H1 p l := by
  rcases h with ⟨h0, rfl⟩ | ⟨k, z, rfl, hz, hk⟩
  · exact .inl ⟨h0, rfl⟩
  · exact .inr ⟨k, z, rfl, hz, by rw [hs k (by simp [PV.toks])]; exact hk⟩
theorem RowAt.lt {H : Hp} {sz n : Nat} {p : PV} {cs : List PV} (h : RowAt H sz p cs n) : ∀ k ∈ p.toks, k < H.length := by
  rcases h with ⟨h0, rfl⟩ | ⟨h0, k, z, rfl, hz, hk⟩ | ⟨h0, k, rfl, hk⟩ <;> intro j hj <;> simp only [PV.toks, List.not_mem_nil, List.mem_singleton] at hj
  · subst hj; exact (List.getElem?_eq_some_iff.1 hk).1
  · subst hj; exact (List.getElem?_eq_some_iff.1 hk).1
theorem RowNN.not {H : Hp} {sz n : Nat} {p : PV} {cs : List PV} (h : RowNN H sz p cs n) : ∀ z m ds, p ≠ .sl .nil z m ds := by
  rcases h with ⟨h0, k, z, rfl, hz, hk⟩ | ⟨h0, k, rfl, hk⟩ <;> intro z m ds e <;> cases e
theorem RowNN.mono {H H1 : Hp} {sz n : Nat} {p : PV} {cs : List PV} (h : RowNN H sz p cs n) (hs : ∀ k ∈ p.toks, H1[k]? = H[k]?) : RowNN H1 sz p cs n := (h.at_.mono hs).nn h.not
theorem RowNN.lt {H : Hp} {sz n : Nat} {p : PV} {cs : List PV} (h : RowNN H sz p cs n) : ∀ k ∈ p.toks, k < H.length := h.at_.lt
theorem TokAt.lt {H : Hp} {p : PV} {l : List UInt8} (h : TokAt H p l) : ∀ k ∈ p.toks, k < H.length := by
  rcases h with ⟨h0, rfl⟩ | ⟨k, z, rfl, hz, hk⟩ <;> intro j hj <;> simp only [PV.toks, List.not_mem_nil, List.mem_singleton] at hj
  subst hj; exact (List.getElem?_eq_some_iff.1 hk).1
def cellS (a b c d : PV) (s : Spl) : List PV := [a, .int .i64 s.packs, b, c, .int .i64 s.of_, d]
/-- The spool s lies in the variable p; q is another variable of six cells. -/
structure SH (H : Hp) (q p : Nat) (s : Spl) (a b c d : PV) : Prop where
  at_ : H[p]? = some (.cells (cellS a b c d s))
  ra : RowAt H 11 a (iCs s.items) s.items.length
  rb : RowAt H 1 b (nCs s.sent) s.sent.length
  rc : TokAt H c s.part
  rd : RowNN H 1 d (nCs s.done) s.done.length
  nd : (p :: q :: (a.toks ++ (b.toks ++ (c.toks ++ d.toks)))).Nodup
  aq : ∃ cs, H[q]? = some (.cells cs) ∧ cs.length = 6
def SHx (H : Hp) (q p : Nat) (s : Spl) : Prop := ∃ a b c d, SH H q p s a b c d
theorem cellS_toks (a b c d : PV) (s : Spl) : PV.toksL (cellS a b c d s) = a.toks ++ (b.toks ++ (c.toks ++ d.toks)) := by
  simp [cellS, PV.toksL, PV.toks]
theorem SH.plt {H : Hp} {q p : Nat} {s : Spl} {a b c d : PV} (h : SH H q p s a b c d) : p < H.length := (List.getElem?_eq_some_iff.1 h.at_).1
theorem SH.qlt {H : Hp} {q p : Nat} {s : Spl} {a b c d : PV} (h : SH H q p s a b c d) : q < H.length := by obtain ⟨cs, h, _⟩ := h.aq; exact (List.getElem?_eq_some_iff.1 h).1
mutual
theorem ren_toks (ρ : Nat → Option Nat) : ∀ p : PV, (p.ren ρ).toks = p.toks.filterMap ρ
  | .bot | .und | .bool _ | .int _ _ | .str _ | .nilp | .ifc _ | .ne0 | .ep _ _ => by simp [PV.ren, PV.toks]
  | .sl .no _ _ _ | .sl .nil _ _ _ => by simp [PV.ren, Tk.ren, PV.toks]
  | .sl (.tok k) _ _ _ => by simp only [PV.ren, Tk.ren]; cases e : ρ k <;> simp [PV.toks, e]
  | .row id _ _ _ => by simp only [PV.ren]; cases e : ρ id <;> simp [PV.toks, e]
  | .ptr id _ => by simp only [PV.ren]; cases e : ρ id <;> simp [PV.toks, e]
  | .fn f cs => by simp only [PV.ren, PV.toks]; exact rens_toks ρ cs
  | .agg cs => by simp only [PV.ren, PV.toks]; exact rens_toks ρ cs
  | .tup cs => by simp only [PV.ren, PV.toks]; exact rens_toks ρ cs
theorem rens_toks (ρ : Nat → Option Nat) : ∀ ps : List PV, PV.toksL (PV.rens ρ ps) = (PV.toksL ps).filterMap ρ
  | [] => rfl
  | p :: r => by simp only [PV.rens, PV.toksL, List.filterMap_append, ren_toks ρ p, rens_toks ρ r]
end
theorem nodup_fm {ρ : Nat → Option Nat} (hi : ∀ k1 k2 x, ρ k1 = some x → ρ k2 = some x → k1 = k2) {l : List Nat} (h : l.Nodup) : (l.filterMap ρ).Nodup := by
  induction l with
  | nil => exact List.nodup_nil
  | cons k r ih =>
    obtain ⟨h1, h2⟩ := List.nodup_cons.1 h
    have ih := ih h2
    cases e : ρ k with
    | none => rw [List.filterMap_cons_none e]; exact ih
    | some x =>
      rw [List.filterMap_cons_some e]
      refine List.nodup_cons.2 ⟨fun hm => ?_, ih⟩
      obtain ⟨k2, hk2, hx⟩ := List.mem_filterMap.1 hm
      have := hi k k2 x e hx
      subst this
      exact h1 hk2
theorem SH.compact {H : Hp} {q p n : Nat} {s : Spl} {a b c d : PV} {ps : List PV} (h : SH H q p s a b c d) (hn : n ≤ H.length) (hp : p < n) (hq : q < n) : SHx (compact n ps H).2 q p s := by
  have hpc := h.at_
  have held : ∀ k ∈ PV.toksL (cellS a b c d s), Held n ps H k := fun k hk => .inr ⟨p, _, hp, hpc, hk⟩
  rw [cellS_toks] at held
  have hpt := (cpt (ps := ps) hn (k := p) (.inr hp)).2 _ hpc
  obtain ⟨cq, hqc, hql⟩ := h.aq
  have hqt := (cpt (ps := ps) hn (k := q) (.inr hq)).2 _ hqc
  have hinj : ∀ k1 k2 x, renOf n H (used n ps H) k1 = some x → renOf n H (used n ps H) k2 = some x → k1 = k2 := fun k1 k2 x h1 h2 => ren_inj h1 h2
  have mem : ∀ k, k ∈ a.toks ∨ k ∈ b.toks ∨ k ∈ c.toks ∨ k ∈ d.toks → Held n ps H k := fun k hk => held k (by simp only [List.mem_append]; exact hk)
  have tok : ∀ k, Held n ps H k → H[k]? = some .tok → ∃ k', renOf n H (used n ps H) k = some k' ∧ (Ev.compact n ps H).2[k']? = some .tok := fun k hh ht => (cpt hn (.inl hh)).1 ht hh
  have cel : ∀ k cs, Held n ps H k → H[k]? = some (.cells cs) → ∃ k', renOf n H (used n ps H) k = some k' ∧ (Ev.compact n ps H).2[k']? = some (.cells (PV.rens (renOf n H (used n ps H)) cs)) := fun k cs hh ht => by
    obtain ⟨k', h1, h2, _⟩ := (cpt hn (.inl hh)).2 cs ht
    exact ⟨k', h1, h2⟩
  generalize (Ev.compact n ps H).2 = H' at *
  generalize renOf n H (used n ps H) = ρ at *
  obtain ⟨p', hp1, hp2, hp3⟩ := hpt
  obtain rfl := hp3 hp
  obtain ⟨q', hq1, hq2, hq3⟩ := hqt
  obtain rfl := hq3 hq
  have row : ∀ {sz n : Nat} {x : PV} {cs : List PV}, RowAt H sz x cs n → cs.all flat = true → (∀ k ∈ x.toks, Held _ ps H k) → RowAt H' sz (x.ren ρ) cs n := fun {sz n x cs} hr hf hh => by
    rcases hr with ⟨h0, rfl⟩ | ⟨h0, k, z, rfl, hz, hk⟩ | ⟨h0, k, rfl, hk⟩
    · exact .inl ⟨h0, rfl⟩
    · obtain ⟨k', h1, h2⟩ := tok k (hh k (by simp [PV.toks])) hk
      exact .inr (.inl ⟨h0, k', z, by simp only [PV.ren, Tk.ren, h1], hz, h2⟩)
    · obtain ⟨k', h1, h2⟩ := cel k cs (hh k (by simp [PV.toks])) hk
      rw [rens_flat ρ hf] at h2
      exact .inr (.inr ⟨h0, k', by simp only [PV.ren, h1], h2⟩)
  have rowN : RowNN H' 1 (d.ren ρ) (nCs s.done) s.done.length := by
    have hh : ∀ k ∈ d.toks, Held _ ps H k := fun k hk => mem k (.inr (.inr (.inr hk)))
    rcases h.rd with ⟨h0, k, z, rfl, hz, hk⟩ | ⟨h0, k, rfl, hk⟩
    · obtain ⟨k', h1, h2⟩ := tok k (hh k (by simp [PV.toks])) hk
      exact .inl ⟨h0, k', z, by simp only [PV.ren, Tk.ren, h1], hz, h2⟩
    · obtain ⟨k', h1, h2⟩ := cel k _ (hh k (by simp [PV.toks])) hk
      rw [rens_flat ρ (ints_flat _)] at h2
      exact .inr ⟨h0, k', by simp only [PV.ren, h1], h2⟩
  refine ⟨a.ren ρ, b.ren ρ, c.ren ρ, d.ren ρ, ⟨by simpa only [cellS, PV.rens, PV.ren] using hp2, row h.ra (iCs_flat _) (fun k hk => mem k (.inl hk)), row h.rb (ints_flat _) (fun k hk => mem k (.inr (.inl hk))), ?_, rowN, ?_, ⟨_, hq2, by rw [rens_length]; exact hql⟩⟩⟩
  · rcases h.rc with ⟨h0, rfl⟩ | ⟨k, z, rfl, hz, hk⟩
    · exact .inl ⟨h0, rfl⟩
    · obtain ⟨k', h1, h2⟩ := tok k (mem k (.inr (.inr (.inl (by simp [PV.toks]))))) hk
      exact .inr ⟨k', z, by simp only [PV.ren, Tk.ren, h1], hz, h2⟩
  · have := nodup_fm hinj h.nd
    rw [List.filterMap_cons_some hp1, List.filterMap_cons_some hq1] at this
    simpa only [List.filterMap_append, ← ren_toks] using this
theorem SH.end {H : Hp} {q p n : Nat} {s : Spl} {a b c d : PV} (t : Bool) (h : SH H q p s a b c d) (hn : n ≤ H.length) (hp : p < n) (hq : q < n) : ∃ H', evEnd false n (.bool t) H = some (.bool t, H') ∧ SHx H' q p s := ⟨_, rfl, h.compact hn hp hq⟩
theorem flat_nils {cs cs' : List PV} {H' : Hp} {m : Nat} (hl : cs'.length = cs.length) (hf : cs.all flat = true)
    (h : ∀ (j : Nat) p, cs[j]? = some p → ((∀ sz m ds, p ≠ .sl .nil sz m ds) ∧ cs'[j]? = some p) ∨ ∃ sz m' ds k, p = .sl .nil sz m' ds ∧ cs'[j]? = some (.sl (.tok k) sz m' ds) ∧ m ≤ k ∧ H'[k]? = some .tok) : cs' = cs := by
  apply List.ext_getElem? 
  intro j
  cases e : cs[j]? with
  | none => rw [List.getElem?_eq_none_iff] at e ⊢; omega
  | some p =>
    rcases h j p e with ⟨_, h1⟩ | ⟨sz, m', ds, k, rfl, _⟩
    · exact h1
    · have := List.all_eq_true.1 hf _ (List.mem_of_getElem? e)
      simp [flat] at this
theorem SH.nils {H : Hp} {q p n : Nat} {s : Spl} {a b c d : PV} (h : SH H q p s a b c d) (hn : n ≤ H.length) (hp : p < n) (hq : q < n) : ∃ a' b' c' d', SH (nilObs n H) q p s a' b' c' d' := by
  obtain ⟨h1, h2, h3, h4⟩ := nilObs_get n H hn
  obtain ⟨cs', e1, e2, e3, e4⟩ := h4 p _ hp h.at_
  obtain ⟨cq, hqc, hql⟩ := h.aq
  obtain ⟨cq', f1, f2, _, _⟩ := h4 q _ hq hqc
  have hlt : ∀ k ∈ a.toks ++ (b.toks ++ (c.toks ++ d.toks)), k < H.length := fun k hk => by
    simp only [List.mem_append] at hk
    rcases hk with hk | hk | hk | hk
    · exact h.ra.lt k hk
    · exact h.rb.lt k hk
    · exact h.rc.lt k hk
    · exact h.rd.lt k hk
  have keep : ∀ k, k < H.length → ∀ o, H[k]? = some o → (o = .tok ∨ ∃ cs, o = .cells cs ∧ cs.all flat = true) → (nilObs n H)[k]? = some o := fun k hk o ho hc => by
    rcases Nat.lt_or_ge k n with hkn | hkn
    · rcases hc with rfl | ⟨cs, rfl, hf⟩
      · rw [h3 k hkn (fun cs e => by rw [ho] at e; cases e)]; exact ho
      · obtain ⟨ds, g1, g2, g3, _⟩ := h4 k cs hkn ho
        rw [flat_nils g2 hf g3] at g1
        exact g1
    · rw [h2 k hkn hk]; exact ho
  have cell : ∀ (j : Nat) x, (cellS a b c d s)[j]? = some x → ∃ x', cs'[j]? = some x' ∧ ((x' = x ∧ ∀ sz m ds, x ≠ .sl .nil sz m ds) ∨ ∃ sz m ds k, x = .sl .nil sz m ds ∧ x' = .sl (.tok k) sz m ds ∧ (nilObs n H)[k]? = some .tok) := fun j x hx => by
    rcases e3 j x hx with ⟨g1, g2⟩ | ⟨sz, m, ds, k, g1, g2, _, g4⟩
    · exact ⟨x, g2, .inl ⟨rfl, g1⟩⟩
    · exact ⟨_, g2, .inr ⟨sz, m, ds, k, g1, rfl, g4⟩⟩
  obtain ⟨a', ga, ka⟩ := cell 0 a rfl
  obtain ⟨x1, g1, k1⟩ := cell 1 _ rfl
  obtain ⟨b', gb, kb⟩ := cell 2 b rfl
  obtain ⟨c', gc, kc⟩ := cell 3 c rfl
  obtain ⟨x4, g4, k4⟩ := cell 4 _ rfl
  obtain ⟨d', gd, kd⟩ := cell 5 d rfl
  have hx1 : x1 = .int .i64 s.packs := by rcases k1 with ⟨h, _⟩ | ⟨_, _, _, _, h, _⟩; exact h; cases h
  have hx4 : x4 = .int .i64 s.of_ := by rcases k4 with ⟨h, _⟩ | ⟨_, _, _, _, h, _⟩; exact h; cases h
  subst hx1; subst hx4
  have hcs : cs' = cellS a' b' c' d' s := by
    match cs', e2 with
    | [y0, y1, y2, y3, y4, y5], _ =>
      simp only [List.getElem?_cons_zero, List.getElem?_cons_succ, Option.some.injEq] at ga g1 gb gc g4 gd
      subst ga; subst g1; subst gb; subst gc; subst g4; subst gd
      rfl
  subst hcs
  have row : ∀ {sz n' : Nat} {x x' : PV} {cs : List PV}, RowAt H sz x cs n' → cs.all flat = true → ((x' = x ∧ ∀ sz m ds, x ≠ .sl .nil sz m ds) ∨ ∃ sz m ds k, x = .sl .nil sz m ds ∧ x' = .sl (.tok k) sz m ds ∧ (nilObs n H)[k]? = some .tok) → RowAt (nilObs n H) sz x' cs n' := fun {sz n' x x' cs} hr hf hx => by
    rcases hr with ⟨h0, rfl⟩ | ⟨h0, k, z, rfl, hz, hk⟩ | ⟨h0, k, rfl, hk⟩
    · rcases hx with ⟨rfl, hx⟩ | ⟨sz', m, ds, k, hx, rfl, hk⟩
      · exact .inl ⟨h0, rfl⟩
      · cases hx
        exact .inr (.inl ⟨h0, k, 0, rfl, .inr rfl, hk⟩)
    · rcases hx with ⟨rfl, hx⟩ | ⟨sz', m, ds, k, hx, _⟩
      · exact .inr (.inl ⟨h0, k, z, rfl, hz, keep k ((List.getElem?_eq_some_iff.1 hk).1) _ hk (.inl rfl)⟩)
      · cases hx
    · rcases hx with ⟨rfl, hx⟩ | ⟨sz', m, ds, k, hx, _⟩
      · exact .inr (.inr ⟨h0, k, rfl, keep k ((List.getElem?_eq_some_iff.1 hk).1) _ hk (.inr ⟨_, rfl, hf⟩)⟩)
      · cases hx
  obtain ⟨hpq, hnd⟩ := List.nodup_cons.1 h.nd
  obtain ⟨hqn, hnd⟩ := List.nodup_cons.1 hnd
  rw [cellS_toks, cellS_toks] at e4
  obtain ⟨n1, n2⟩ := e4 hnd hlt
  refine ⟨a', b', c', d', e1, row h.ra (iCs_flat _) ka, row h.rb (ints_flat _) kb, ?_, (row h.rd.at_ (ints_flat _) kd).nn (kd.elim (fun e => e.1 ▸ h.rd.not) (fun ⟨_, _, _, _, hx, _⟩ => absurd hx (h.rd.not _ _ _))), ?_, cq', f1, by omega⟩
  · rcases h.rc with ⟨h0, rfl⟩ | ⟨k, z, rfl, hz, hk⟩
    · rcases kc with ⟨rfl, hx⟩ | ⟨sz', m, ds, k, hx, rfl, hk⟩
      · exact .inl ⟨h0, rfl⟩
      · cases hx
        exact .inr ⟨k, 0, by rw [h0]; rfl, .inr ⟨rfl, h0⟩, hk⟩
    · rcases kc with ⟨rfl, hx⟩ | ⟨sz', m, ds, k, hx, _⟩
      · exact .inr ⟨k, z, rfl, hz, keep k ((List.getElem?_eq_some_iff.1 hk).1) _ hk (.inl rfl)⟩
      · cases hx
  · have hpl := h.plt
    have hql' := h.qlt
    refine List.nodup_cons.2 ⟨fun hm => ?_, List.nodup_cons.2 ⟨fun hm => ?_, n1⟩⟩
    · rcases List.mem_cons.1 hm with hm | hm
      · exact hpq (hm ▸ List.mem_cons_self)
      · rcases n2 p hm with hm | hm
        · exact hpq (List.mem_cons_of_mem _ hm)
        · omega
    · rcases n2 q hm with hm | hm
      · exact hqn hm
      · omega
/-- A loop's head: what stands in the environment stays, the spool lies there still. -/
theorem SH.head {H : Hp} {q p n : Nat} {s : Spl} {a b c d : PV} {env : List PV} (h : SH H q p s a b c d) (hn : n ≤ H.length) (hp : p < n) (hq : q < n) (he : ∀ x ∈ env, flat x = true ∨ x = .ptr p 0 ∨ x = .ptr q 0) : ∃ H', headS n env H = (env, H') ∧ SHx H' q p s ∧ n ≤ H'.length := by
  have hnil : ∀ (env : List PV) (H : Hp), (∀ x ∈ env, flat x = true ∨ x = .ptr p 0 ∨ x = .ptr q 0) → nilTs env H = (env, H) := by
    intro env
    induction env with
    | nil => intro H _; rfl
    | cons x r ih =>
      intro H he
      have ih := ih H (fun y hy => he y (List.mem_cons_of_mem _ hy))
      rcases he x List.mem_cons_self with hx | rfl | rfl
      · cases x with
        | sl t sz n cs => cases t with
          | no => show (_ :: (nilTs r H).1, (nilTs r H).2) = _; rw [ih]
          | nil => exact absurd hx (by simp [flat])
          | tok k => exact absurd hx (by simp [flat])
        | _ => show (_ :: (nilTs r H).1, (nilTs r H).2) = _; rw [ih]
      · show (_ :: (nilTs r H).1, (nilTs r H).2) = _; rw [ih]
      · show (_ :: (nilTs r H).1, (nilTs r H).2) = _; rw [ih]
  obtain ⟨a', b', c', d', hN⟩ := h.nils hn hp hq
  have hlen := (nilObs_get n H hn).1
  unfold headS
  rw [hnil env H he]
  refine ⟨_, ?_, hN.compact (ps := env) (by omega) hp hq, cpt_len (by omega)⟩
  have hρp : renOf n (nilObs n H) (used n env (nilObs n H)) p = some p := by
    unfold renOf
    rw [if_pos (by rw [isCells_iff.2 ⟨_, hN.at_⟩, Bool.and_true]; simpa using hp)]
  have hρq : renOf n (nilObs n H) (used n env (nilObs n H)) q = some q := by
    obtain ⟨cs, hc, _⟩ := hN.aq
    unfold renOf
    rw [if_pos (by rw [isCells_iff.2 ⟨_, hc⟩, Bool.and_true]; simpa using hq)]
  have hr : ∀ env : List PV, (∀ x ∈ env, flat x = true ∨ x = .ptr p 0 ∨ x = .ptr q 0) → PV.rens (renOf n (nilObs n H) (used n env (nilObs n H))) env = env → True := fun _ _ _ => trivial
  have key : ∀ l : List PV, (∀ x ∈ l, flat x = true ∨ x = .ptr p 0 ∨ x = .ptr q 0) → PV.rens (renOf n (nilObs n H) (used n env (nilObs n H))) l = l := by
    intro l
    induction l with
    | nil => intro _; rfl
    | cons x r ih =>
      intro he
      have ih := ih (fun y hy => he y (List.mem_cons_of_mem _ hy))
      rcases he x List.mem_cons_self with hx | rfl | rfl
      · have := rens_flat (renOf n (nilObs n H) (used n env (nilObs n H))) (env := [x]) (by simp [hx])
        simp only [PV.rens, List.cons.injEq, and_true] at this
        simp only [PV.rens, this, ih]
      · simp only [PV.rens, PV.ren, hρp, ih]
      · simp only [PV.rens, PV.ren, hρq, ih]
  show (PV.rens _ env, _) = _
  rw [key env he]
  rfl
end Go.Proofs.YtnljpfjoboafoaaDoor.Tab
